import Derived.Test.YtjpadehgejlebaaGreatDoorMA
import Derived.Lib.ConvBytes
import Derived.Laws.BytesString
import Derived.Laws.Externs
import Derived.Deep.AppendSrc
import Derived.Lib.UnsafeStr
import Derived.Laws.StructEq
import Derived.Recover
import Derived.WideLaws
import Derived.Laws.RangeString
import Derived.DeepKeys5
import Derived.Test.YtjpadehgejlebaaGreatDoorRows
import Derived.Lib.Bytealg
set_option linter.unusedVariables false
set_option linter.defProp false
set_option linter.unusedSimpArgs false
namespace Go.Proofs.YtjpadehgejlebaaGreatDoor
open Go.RowKit
open _root_.List renaming range → Ν
open _root_.Go.Proofs.Tryz
open Go.Value renaming int → Ι
open Go.IntKind renaming i64 → Κ
open _root_.List renaming length → Ζ
open _root_.Go.Proofs.Tryz renaming prog → Ε
open _root_.Option renaming some → φ, none → Β
open _root_.Bool renaming false → γ, true → Α
open _root_.List renaming getElem?_eq_getElem → Th, eq_nil_of_length_eq_zero → WT, length_append → YI, getElem?_cons_zero → af_, map_cons → aga, getElem?_cons_succ → agb, getElem?_eq_some_iff → agc, mem_of_getElem? → aka, getElem?_take → akc, getElem?_toArray → akf, all_eq_true → alO, getElem?_map → alR, getElem_mem → alS, mem_map_of_mem → alT, map_append → alU, take_of_length_le → alV, length_cons → ap4, getElem?_eq_none → ap5, mem_iff_getElem → ap6, length_nil → ap7, map_nil → ap8, set_cons_zero → aqa, set_eq_of_length_le → aqd, cons_append → aqe, length_map → aqh, nil_append → aqi, take_zero → aqj, mem_range → aqk
open _root_.Nat renaming lt_of_lt_of_le → abx, le_refl → akb, zero_add → alP, le_trans → alQ, lt_or_ge → ap9, add_mul → aqb
open _root_.And renaming intro → Ca
open _root_.Option renaming isSome_none → akd, bind_some → ap2, map_eq_some_iff → aqf, map_none → aqg
open _root_.Bool renaming and_eq_true → Ti, false_eq_true → ake, false_or → aqn
open _root_.Array renaming getElem?_eq_none → aoT, getElem?_modify → ap3, getD_eq_getD_getElem? → ap_, getElem?_append_left → aqc
variable{listed:Array Bool}{af:Array Edge}{bb ok:Bool}{c:Code}{e:Env}{K:Env->VH->Prop}{fn:Func}{f:FuncId}{G:Gh}{Ψ:Gh->Prop}{L:List (Fl×Oper)}{parts rest:List (Nat×MV)}{D:List Deferred}{a args as_ cs fs ks ms sp:List MV}{E:List MapEntry}{brk:List Nat}{rs:List ResultVar}{s:List UInt8}{us:List Value}{m z:MV}{M Φ:MV->VH->Prop}{B b ck fuel hi i j k n n' off t:Nat}{pl:Nat->Option (Nat×Nat)}{X:Obj}{o:Oper}{x y:Operand}{g:Option (Nat×Bool)}{h:Option MV}{q:Option Nat}{d:Option Tmp}{A1 A2 Q' Z:Prop}{ps:String}{tk:Tok}{O O':VH}{J:VH->Prop}{Q:VQ}{r te:c6}{R:iE->VH->Prop}
abbrev ϱ:=Option MV
abbrev ϰ:=VH->Prop
def kJ:Τ->Η->Env->Env
 | t::l,m::ms,e=>(t,m)::kJ l ms e
 | _,_,e=>e
def yl(t:Nat)(l:Τ)(m:MV)(ms:Η)(e:Env):kJ (t::l) (m::ms) e=(t,m)::kJ l ms e:=rfl
def HE(ms:Η)(e:Env):kJ [] ms e=e:=rfl
def jU{e e0:Env}(he:∀t x,look e0 t=φ x->look e t=φ x):∀{l:Τ} {ms:Η},looks e l=φ ms->∀t x,look (kJ l ms e0) t=φ x->look e t=φ x
 | [],ms,_,t,x,hx=>he t x (by simpa[kJ]using hx)
 | k::l,ms,h,t,x,hx=>by
   rw[Fq]at h;obtain⟨m,h1,h2⟩:=Option.bind_eq_some_iff.1 h;obtain⟨ms',h3,rfl⟩:=aqf.1 h2;rw[yl,j_]at hx;cases hb:t==k with
   | true=>
     rw[hb,cond_true]at hx;injection hx with hx;subst hx;(have:t=k:=by simpa using hb);rw[this];exact h1
   | false=>rw[hb,cond_false]at hx;exact jU he h3 t x hx
def az{σ :Type}(l K:Τ)(ks:Η)(ms: σ ->Η)(I: σ ->VH->Prop)(μ : σ ->Nat)(s: σ)(Q:VQ):VQ:=λx e O=>match x with
 | .normal=>looks e K=φ ks/\∃s',looks e l=φ (ms s')/\I s' O/\ μ s'< μ s
 | x=>Q x e O
section
variable{n:Sz}{D:List Deferred}{e:Env}{P:Program}{O:VH}{Q:VQ}{c:Code}{σ :Type}{l K:Τ}{ks:Η}{ms: σ ->Η}{I: σ ->VH->Prop}{μ : σ ->Nat}{s: σ}{i:Nat}{m:MV}
def CS:az l K ks ms I μ s Q (.exit i) e O=Q (.exit i) e O:=rfl
def CT:az l K ks ms I μ s Q (.goto i) e O=Q (.goto i) e O:=rfl
def FB:az l K ks ms I μ s Q .ret e O=Q .ret e O:=rfl
def uA:az l K ks ms I μ s Q (.panic m) e O=Q (.panic m) e O:=rfl
def VC.kh(l K:Τ)(ms: σ ->Η)(I: σ ->VH->Prop)(μ : σ ->Nat)(s0: σ)(h0:looks e l=φ (ms s0))(hk:looks e K=φ ks)(hI:I s0 O)
  (step:∀s O,I s O->VC P n D c (kJ l (ms s) (kJ K ks [])) O (az l K ks ms I μ s Q)):VC P n D (.loop c) e O Q:=by
 refine VC.loop (λk e O=>looks e K=φ ks/\∃s,looks e l=φ (ms s)/\I s O/\ μ s=k) (k:= μ s0) ⟨hk,s0,h0,hI,rfl⟩ ?_;rintro k e O ⟨hk,s,h1,h2,rfl⟩;refine VC.mono ?_ (VC.env (step s O h2) (jU (jU (e0:=[]) (λt x h=>by simp[look]at h) hk) h1));intro x e' O' h
 cases x<;>first
  | exact h
  | (obtain⟨h6,s',h3,h4,h5⟩:=h;exact⟨_,h5,h6,s',h3,h4,rfl⟩)
end
abbrev ints(xs:Χ)(t:Tok):MV:=.l (Ζ xs) (xs.map mi) t
abbrev TP(xs:List Bool)(t:Tok):MV:=.l (Ζ xs) (xs.map mb) t
abbrev strs(xs:List Ρ)(t:Tok):MV:=.l (Ζ xs) (xs.map .s) t
def abW:=Ca @aqg.{0,0}<|Ca @Option.bind_none.{0,0}<|Ca @yl<|Ca @HE<|Ca @Int.zero_sub<|Ca @Bool.not_true<|Ca @Bool.not_false<|Ca @decide_true<|Ca @decide_eq_true<|Ca @decide_eq_false<|Ca @alP<|Ca @Nat.mul_one<|Ca @Int.toNat_natCast<|Ca @Nat.add_zero<|Ca @aqa.{0}<|Ca @List.set_cons_succ.{0}<|Ca @List.take_succ_cons.{0}<|Ca @aqj.{0}<|Ca @List.drop_succ_cons.{0}<|Ca @List.drop_zero.{0}<|Ca @Th.{0}<|Ca @akf.{0}<|Ca @af_.{0}<|Ca @agb.{0}<|Ca @ap2.{0,0}<|Ca @Option.map_some.{0,0}<|Ca @aga.{0,0}<|Ca @ap8.{0,0}<|Ca @alR.{0,0}<|Ca @List.getElem_map.{0,0}<|Ca @if_true.{1}<|Ca @cond_true.{1} @cond_false.{1}
def abX:=Ca @xY<|Ca @CJ<|Ca @Ft<|Ca @AX<|Ca @CS<|Ca @CT<|Ca @FB<|Ca @uA<|Ca @MG<|Ca @TF<|Ca @TG<|Ca @YU<|Ca @Pv<|Ca @xX<|Ca @CH<|Ca @CI<|Ca @Fs<|Ca @uz<|Ca @Pw<|Ca @Px<|Ca @TK<|Ca @MH<|Ca @PH<|Ca @if_true.{1} @if_false.{1}
section
variable{P:Program}{tab:cL}{n:Sz}{D:List Deferred}{md:Md}{l:ϕ}{Q:VQ}{L':List (Fl×Oper)}{e e':Env}{O O':VH}{c x y:Code}{A:Prop}{id:Nat}{fn:Func}{R:iE->VH->Prop}{m m':MV}{t t':Nat}{o:Operand}{b:Bool}
def gVC(h:VC P n D c e O Q):VC P n D c e O Q:=h
def gp(a:A)(q:VL P n D .plain ⟨l⟩ L' e' O' Q)(ht:aR P tab:=by exact aa)(h:A->kf tab n ⟨l⟩ (l.map (Fl.one, ·)) e O=φ (L',e',O'):=by intro z;simp(disch:=omega) only[abV,abW,ints,TP,strs,cY,Nat.reduceLT,Nat.reduceAdd,Nat.reduceBEq,Int.reduceToNat,z]<;>exact rfl):VC P n D (.region id ⟨l⟩ γ) e O Q:=VC.Xb (VL.run ht (h a) q)
def gr(a:A)(q:VL P n D .reads ⟨l⟩ L' e' O' Q)(ht:aR P tab:=by exact aa)(h1:P.follows .mixedOrders=Α:=by kernel_rfl)(h2:Region.noSelect ⟨l⟩=Α:=by kernel_rfl)(h3:dk .reads ⟨l⟩ (Ζ l) (Array.replicate (Ζ l) γ) ((List.range' 0 (Ζ l)).map (·,Fl.rd))=Α:=by kernel_rfl)(h:A->kf tab n ⟨l⟩ (l.map (Fl.rd, ·)) e O=φ (L',e',O'):=by intro z;simp(disch:=omega) only[abV,abW,ints,TP,strs,cY,Nat.reduceLT,Nat.reduceAdd,Nat.reduceBEq,Int.reduceToNat,z]<;>exact rfl):VC P n D (.region id ⟨l⟩ Α) e O Q:=VC.Xh h1 h2 h3 (VL.run ht (h a) q)
def gc(a:A)(h1:b=Α->VC P n D x e O Q)(h2:b=γ->VC P n D y e O Q)(h:A->ev e o=φ (.v (.bool b)):=by intro z;simp(disch:=omega) only[abV,abW,ints,TP,strs,cY,Nat.reduceLT,Nat.reduceAdd,Nat.reduceBEq,Int.reduceToNat,z]<;>exact rfl):VC P n D (.cond o x y) e O Q:=VC.cond (h a) h1 h2
def eR1(q:R (.ret m) O)(h1:fn.results= #[.tmp t]:=by exact rfl)(h2:look e t=φ m:=by simp only[j_,Nat.reduceBEq,cond_true,cond_false]<;>exact rfl):pD tab fn R .ret e O:=pD.al0 h1 h2 q
def eR2(q:R (.ret (.tuple [m,m'])) O)(h1:fn.results= #[.tmp t,.tmp t']:=by exact rfl)(h2:look e t=φ m:=by simp only[j_,Nat.reduceBEq,cond_true,cond_false]<;>exact rfl)(h3:look e t'=φ m':=by simp only[j_,Nat.reduceBEq,cond_true,cond_false]<;>exact rfl):pD tab fn R .ret e O:=pD.al1 h1 h2 h3 q
end
def dcs:=Ca @decide_eq_true_eq<|Ca @decide_eq_false_iff_not<|Ca @beq_iff_eq.{0}<|Ca @beq_eq_false_iff_ne.{0}<|Ca @bne_iff_ne.{0} @bne_eq_false_iff_eq.{0}
section
variable{G H:Gh}{n:Sz}{D:List Deferred}{e:Env}{a:Act}{P:Program}{tab:cL}{O O':VH}{w:World}{m m':MV}{u v:Value}{ops:Array Oper}{Q:VQ}
def PJ(P:Program)(n:Sz)(D:List Deferred)(o:Oper)(e:Env)(O:VH)(M:MV->VH->Prop):Prop:=∀G a w,WR G O w->FR G n D e a->∃m O',M m O'/\ez P o a w G m O'
def jR.HF{l:Τ}(ho:ops[i]?=φ o)(hg:aQ ops o e=φ Α)(hd:bL n o.dst=Α)(hy:PJ P n D o e O M)(h:∀m O',M m O'->jR P n D ops l (bt o.dst m e) O' Q):
  jR P n D ops (i::l) e O Q:=by
 intro G a w hw aZ;obtain⟨m,O',hM,nx,w',H,u,hr,rA,h1,h2,h3,_⟩:=hy G a w hw aZ;simp only[wpOps,ho,bN aZ hg,if_true];refine .inl ?_;unfold Oper.wp;rw[hr]
 have hk:wpOps P ops (c7 G n D Q) l (a.put o.dst u) w':=by
  exact oy (λ_ _ _=>c7.le h1) l _ _ (h m O' hM H (a.put o.dst u) w' h2 ((aZ.mono h1).bt hd h3))
 rcases rA with rfl | ⟨rfl,rfl⟩;exact hk;exact hk
def VL.HF(hg:aQ ops o e=φ Α)(hd:bL n o.dst=Α)(hy:PJ P n D o e O M)(h:∀m O',M m O'->VL P n D .plain ops L (bt o.dst m e) O' Q):
  VL P n D .plain ops ((.one,o)::L) e O Q:=by
 intro fuel listed ix hf hp
 match ix,hf with
 | (i,g)::ix,hf=>
   obtain⟨rfl,ho,hf⟩:=hf;exact jR.HF ho hg hd hy λm O' hM=>h m O' hM 0 #[] ix hf (λh=>absurd rfl h)
def im(b:UInt8):MV:=.v (.int .u8 b.toNat)
def MI{α :Type}(l:Array α)(x: α)(f: α -> α):(l.push x).modify l.size f=l.push (f x):=by
 apply Array.ext_getElem?;intro i;simp only[ap3,Array.getElem?_push];by_cases h:i=l.size;subst h;simp;rw[if_neg (Ne.symm h),if_neg h,if_neg h]
def JI(w:World)(C:Array Value)(t:TypeId):(w.alloc (.cells C t)).freeze ⟨w.heap.size,C.size,Β⟩ 1=w.alloc (.cells C t (C.size,C.size+1)):=by
 simp[World.freeze,World.alloc, -World.alloc_eq,MI]
def HG(l:Ρ):aW G (l.map im) (l.map λb=>Value.int .u8 b.toNat):=by
 induction l with
 | nil=>exact aW.nil
 | cons b l ih=>exact aW.cons (.v rfl) ih
def Y5(ht:aR P tab)(h:WR G O w){src dst el:TypeId}{l:Ρ}(hs:(tab src).map c6.under=φ .string)(hd:(tab dst).map c6.under=φ (.slice el))(he:(tab el).map c6.under=φ (.int .u8))(hl:Ζ l<=maxLen):
  ∃c,Ζ l<=c/\c<=maxLen/\jw P (convert src dst (.string ⟨⟨l⟩⟩)) w G (O.push (.cells (l.map im))) (.aS O.N 0 (Ζ l) c):=by
 have cT:=Lib.run_convert_string_bytes w src dst el ⟨⟨l⟩⟩ (bZ ht hs) (bZ ht hd) (bZ ht he);have r7:(⟨⟨l⟩⟩:ByteArray).size=Ζ l:=rfl;rw[r7]at cT;have jQ:=grownCap_ge w (Ζ l) 0 el;have hle:=grownCap_le_maxLen w (Ζ l) 0 el hl;refine⟨grownCap w (Ζ l) 0 el,jQ,hle,?_⟩
 have gV:(Lib.bytesCells w el ⟨⟨l⟩⟩).toList.take (l.map im).length=l.map λb=>Value.int .u8 b.toNat:=by
  simp[Lib.bytesCells]
 obtain⟨h1,h2⟩:=h.drew.abz (cs:=l.map im) (C:=Lib.bytesCells w el ⟨⟨l⟩⟩) ⟨el,((Lib.bytesCells w el ⟨⟨l⟩⟩).size,(Lib.bytesCells w el ⟨⟨l⟩⟩).size+1),.inr (akb _)⟩ (by rw[gV];exact HG l);have hW:Lib.bytesWorld w el ⟨⟨l⟩⟩=w.drew.alloc (.cells (Lib.bytesCells w el ⟨⟨l⟩⟩) el ((Lib.bytesCells w el ⟨⟨l⟩⟩).size,(Lib.bytesCells w el ⟨⟨l⟩⟩).size+1)):=JI w.drew _ _;rw[hW]at cT;exact⟨_,_,_,cT,h1,h2,.aS (aN _ _ _) jQ hle,λk b hk=>lp.alloc h.drew _ k b hk⟩
def VL.bytes(ht:aR P tab){src dst el:TypeId}{ty:TypeId}{l:Ρ}
  (hg:aQ ops (.mk d (.convert src dst x) ty ps af g) e=φ Α) (hx:ev e x=φ (.s l)) (hs:(tab src).map c6.under=φ .string) (uB:(tab dst).map c6.under=φ (.slice el)) (he:(tab el).map c6.under=φ (.int .u8)) (hl:Ζ l<=maxLen) (hd:bL n d=Α)
  (h:∀c,Ζ l<=c->c<=maxLen->VL P n D .plain ops L (bt d (.aS O.N 0 (Ζ l) c) e) (O.push (.cells (l.map im))) Q):
  VL P n D .plain ops ((.one,.mk d (.convert src dst x) ty ps af g)::L) e O Q:=by
 refine VL.HF (M:=λm O'=>∃c,Ζ l<=c/\c<=maxLen/\m= .aS O.N 0 (Ζ l) c/\O'=O.push (.cells (l.map im))) hg hd (λG a w hw hf=>?_) ?_;have h1:=hf.ev hx;generalize hu:a.eval x=u at h1;cases h1;obtain⟨c,c1,c2,c3⟩:=Y5 (P:=P) ht hw hs uB he hl;exact⟨_,_,⟨c,c1,c2,rfl,rfl⟩,ez.of c3 (by simp[execOp,hu])⟩;rintro m O' ⟨c,c1,c2,rfl,rfl⟩;exact h c c1 c2
def PK(l:Ρ):∀s:Ρ,(l.map λb=>(b.toNat:Int)).foldl (λ(r:ByteArray)(n:Int)=>r.push (UInt8.ofNat n.toNat)) ⟨⟨s⟩⟩=⟨⟨s++l⟩⟩:=by
 induction l with
 | nil=>intro s;simp
 | cons b l ih=>
   intro s;rw[aga,List.foldl_cons]
   have:(⟨⟨s⟩⟩:ByteArray).push (UInt8.ofNat (b.toNat:Int).toNat)=⟨⟨s++[b]⟩⟩:=by
    simp[ByteArray.push]
   rw[this,ih,List.append_assoc];rfl
def HH(a:Addr)(l:Ρ)(c:Nat)(w:World)(h:∀j v,(l.map λb=>Value.int .u8 b.toNat)[j]?=φ v->w.cell? (a.add j)=φ v):
  (Conv.bytesToString (.slice (φ a) (Ζ l) c)).run P w= .ok (.string ⟨⟨l⟩⟩) w:=by
 have h1:=run_loadCells_list (P:=P) w a (l.map λb=>Value.int .u8 b.toNat) h;rw[aqh]at h1;rw[run_bytesToString (P:=P) w a (Ζ l) c (l.map λb=>(b.toNat:Int)) (by rw[h1,List.map_map];rfl)];rw[show(ByteArray.empty:ByteArray)=⟨⟨[]⟩⟩from rfl,PK];rfl
def PL{l:Ρ}(h:aW G (l.map im) us):us=l.map λb=>Value.int .u8 b.toNat:=by
 induction l generalizing us with
 | nil=>exact h.jN
 | cons b l ih=>
   obtain⟨u,YJ,rfl,h1,h2⟩:=h.fH;rw[ih h2,h1.j8];rfl
def Y6(ht:aR P tab)(h:WR G O w){src dst el:TypeId}{l:Ρ}(hs:(tab src).map c6.under=φ (.slice el))(hd:(tab dst).map c6.under=φ .string)(he:(tab el).map c6.under=φ (.int .u8))
  (hx:VR G (.l (Ζ l) (l.map im) tk) u):jw P (convert src dst u) w G O (.s l):=by
 have hc:=λa n c=>run_convert_bytes_string (P:=P) w src dst el a n c (bZ ht hs) (bZ ht he) (bZ ht hd)
 refine⟨.string ⟨⟨l⟩⟩,w,G,?_,Gh.Le.refl G,h,.s,lp.refl _ _⟩;generalize hn:Ζ l=k at hx;generalize hm:l.map im=cs at hx;cases hx with
 | slnil=>
   obtain rfl:l=[]:=WT hn;rw[hc];rfl
 | mg=>
   obtain rfl:l=[]:=WT hn;rw[hc];rfl
 | rp=>
   obtain rfl:l=[]:=WT hn;rw[hc];exact HH _ [] _ w λj v hv=>by simp at hv
 | l h1 h2 h3 h4 h5 h6=>
   rename_i us c b o;subst hn hm;have h7:=PL (us:=us) ⟨h1,h3⟩;rw[hc];(refine HH _ l c w λj v hv=>?_);rw[<-h7]at hv;rw[Addr.add_lit];exact h.fB _ _ _ (h2 j v hv)
def VL.abY(ht:aR P tab){src dst el:TypeId}{ty:TypeId}{nn:Nat}{l:Ρ}
  (hg:aQ ops (.mk d (.convert src dst x) ty ps af g) e=φ Α) (hx:ev e x=φ (.l nn cs tk)) (hs:(tab src).map c6.under=φ (.slice el)) (uB:(tab dst).map c6.under=φ .string) (he:(tab el).map c6.under=φ (.int .u8)) (hn:nn=Ζ l) (gV:cs=l.map im) (hd:bL n d=Α)
  (h:VL P n D .plain ops L (bt d (.s l) e) O Q):VL P n D .plain ops ((.one,.mk d (.convert src dst x) ty ps af g)::L) e O Q:=by
 subst hn gV;refine VL.HF (M:=λm O'=>m= .s l/\O'=O) hg hd (λG a w hw hf=>?_) ?_;exact⟨_,_,⟨rfl,rfl⟩,ez.of (Y6 (P:=P) ht hw hs uB he (hf.ev hx)) (by simp[execOp])⟩;rintro m O' ⟨rfl,rfl⟩;exact h
end
section
variable{n:Sz}{D:List Deferred}{e e':Env}{P:Program}{tab:cL}{O O':VH}{m m':MV}{ops:Array Oper}{Q:VQ}{md:Md}
def c8:Op->Bool
 | .call c=>match c.callee with
   | .value _=>Α
   | .builtin .append=>Α
   | _=>γ
 | _=>γ
def JJ:Fl->Bool
 | .fk=>Α
 | _=>γ
def aki(P:Program)(n:Sz)(Q:VQ)(d:Option Tmp)(O:VH)(K:Env->VH->Prop)(e:Env)(fv:ϱ)(ms:Option Η):Prop:=
 ∃id fs cs l R,fv=φ (.func (.func id) fs cs)/\ms=φ l/\Enters P id/\bL n d=Α/\VF P id (fs++l++cs) O R/\∀r O',R r O'->match r with
  | .ret m=>K (bt d m e) O'
  | .panic m=>Q (.panic m) (mD n e) O'
def fJ(P:Program)(id:FuncId)(l:Η)(O:VH)(M:MV->VH->Prop):Prop:=
 ∀G w vs,WR G O w->aW G l vs->∃m O' u w' H,M m O'/\(callFunc id vs.toArray).run P w= .ok (.value u) w'/\Gh.Le G H/\WR H O' w'/\VR H m u
def kK:Md->Bool
 | .plain=>Α
 | _=>γ
def akj(P:Program)(n:Sz)(md:Md)(d:Option Tmp)(O:VH)(K:Env->VH->Prop)(e:Env)(fv:ϱ)(ms:Option Η):Prop:=
 ∃id l M,kK md=Α/\fv=φ (.func (.func id) [] [])/\ms=φ l/\bL n d=Α/\fJ P id l O M/\∀m O',M m O'->K (bt d m e) O'
def ah(P:Program)(n:Sz)(md:Md)(Q:VQ)(d:Option Tmp)(O:VH)(K:Env->VH->Prop)(e:Env)(fv:ϱ)(ms:Option Η):Prop:=
 aki P n Q d O K e fv ms\/akj P n md d O K e fv ms
def ym(P:Program)(n:Sz)(D:List Deferred)(md:Md)(ops:Array Oper)(Q:VQ)(f:Fl)(o:Oper)(L:List (Fl×Oper))(e:Env)(O:VH)(K:Env->VH->Prop):Prop:=
 match f,o.op with
 | .one,.call c=>match c.callee with
   | .value x=>ah P n md Q o.dst O K e (ev e x) (il e c.args.toList)
   | _=>VL P n D md ops ((f,o)::L) e O Q
 | _,_=>VL P n D md ops ((f,o)::L) e O Q
def VL.ext{c:Call}{id:FuncId}(hg:aQ ops o e=φ Α)(ux:o.op= .call c)(hc:c.callee= .value x)(hf:ev e x=φ (.func (.func id) [] []))(hm:il e c.args.toList=φ ms)(hd:bL n o.dst=Α)
  (hx:fJ P id ms O M) (h:∀m O',M m O'->VL P n D .plain ops L (bt o.dst m e) O' Q):VL P n D .plain ops ((.one,o)::L) e O Q:=by
 intro fuel listed ix uY hp
 match ix,uY with
 | (i,g)::ix,uY=>
   obtain⟨rfl,ho,uY⟩:=uY;intro G a w hw aZ;have xS:=aZ.ev hf;generalize Cy:a.eval x=fv at xS;cases xS with
   | func h1 h2 h3 h4=>
     rename_i us vs;have kI:us=[]:=WT h1;have qQ:vs=[]:=WT h3;subst kI;subst qQ;have jH:=aZ.il hm;obtain⟨m,O',u,w',H,hM,hr,g1,g2,g3⟩:=hx G w _ hw jH
     have cT:(execOp a.eval o).run P w= .ok (.value u) w':=by
      (have ha: #[]++c.args.map a.eval++ #[]=(c.args.toList.map a.eval).toArray:=by apply Array.ext';simp);simp only[execOp,ux,resolve,hc,Cy,Deferred.ofValue,Sem.run_bind,Sem.run_pure,Result.andThen_ok,invoke];rw[ha];exact hr
     simp only[aga,wpOps,ho,bN aZ hg,if_true];refine .inl ?_;unfold Oper.wp;rw[cT];exact oy (λ_ _ _=>c7.le g1) (ix.map (·.1)) _ _ (h m O' hM 0 #[] ix uY (λh=>absurd rfl h) H (a.put o.dst u) w' g2 ((aZ.mono g1).bt hd g3))
def ym.sound{f:Fl}(hK:∀e O,K e O->VL P n D md ops L e O Q)(hg:aQ ops o e=φ Α)(h:ym P n D md ops Q f o L e O K):VL P n D md ops ((f,o)::L) e O Q:=by
 obtain⟨d,op,ty,ps,af,g⟩:=o;cases f with
 | one=>
   cases op with
   | call c=>
     obtain⟨cl,as_,ts⟩:=c;cases cl with
     | value x=>
       rcases h with h | h
       ·obtain⟨id,fs,cs,l,R,h1,h2,h3,h4,h5,h6⟩:=h;refine VL.call hg h1 h2 rfl h3 h4 h5 λr O' hr=>?_
        have:=h6 r O' hr;cases r with
        | ret m=>exact hK _ _ this
        | panic m=>exact this
       ·obtain⟨id,l,M,hp,h1,h2,h3,h4,h5⟩:=h;cases md with
        | plain=>exact VL.ext hg rfl rfl h1 h2 h3 h4 λm O' hM=>hK _ _ (h5 m O' hM)
        | _=>cases hp
     | _=>exact h
   | _=>exact h
 | _=>exact h
def WL(P:Program)(tab:cL)(n:Sz)(D:List Deferred)(md:Md)(ops:Array Oper)(Q:VQ):List (Fl×Oper)->Env->VH->Prop
 | [],e,O=>Q .normal e O
 | (f,o)::L,e,O=>match aQ ops o e with
   | none=>False
   | some γ=>(match bL n o.dst&& !JJ f with
     | true=>WL P tab n D md ops Q L (bt o.dst cY e) O
     | false=>False)
   | some Α=>(match c8 o.op||JJ f with
     | true=>ym P n D md ops Q f o L e O (WL P tab n D md ops Q L)
     | false=>(match jB tab f o e O with
       | none=>VL P n D md ops ((f,o)::L) e O Q
       | some (m,O')=>(match bL n o.dst with
         | true=>WL P tab n D md ops Q L (bt o.dst m e) O'
         | false=>False)))
def WL.sound(ht:aR P tab):∀{L:List (Fl×Oper)} {e:Env} {O:VH},WL P tab n D md ops Q L e O->VL P n D md ops L e O Q
 | [],e,O,h=>VL.nil h
 | (f,o)::L,e,O,h=>by
   rw[WL]at h;split at h;exact h.elim;rename_i hg;split at h;rename_i hd;simp only[Ti,Bool.not_eq_true']at hd;exact VL.skip (by rintro rfl;exact absurd hd.2 (by decide)) hg hd.1 (WL.sound ht h);exact h.elim;rename_i hg;split at h;exact ym.sound (λe O h=>WL.sound ht h) hg h;split at h;exact h;split at h;exact VL.step ht hg ‹_› ‹_› (WL.sound ht h);exact h.elim
def HI(P:Program)(n:Sz)(tab:cL)(D:List Deferred)(A B:Env->VH->VQ->Prop)(e:Env)(O:VH)(Q:VQ):ϱ->Prop
 | some (.v (.bool Α))=>A e O Q
 | some (.v (.bool γ))=>B e O Q
 | _=>False
def WC(P:Program)(tab:cL)(n:Sz)(D:List Deferred):Code->Env->VH->VQ->Prop
 | .skip,e,O,Q=>Q .normal e O
 | .exit i,e,O,Q=>Q (.exit i) e O
 | .label _,e,O,Q=>Q .normal e O
 | .ret,e,O,Q=>Q .ret e O
 | .scope c,e,O,Q=>WC P tab n D c e O (vY Q)
 | .block id c,e,O,Q=>WC P tab n D c e O (jT id Q)
 | .seq a b,e,O,Q=>WC P tab n D a e O λx e O=>match x with
   | .normal=>WC P tab n D b e O Q
   | x=>Q x e O
 | .cond c x y,e,O,Q=>HI P n tab D (WC P tab n D x) (WC P tab n D y) e O Q (ev e c)
 | .region id ops γ,e,O,Q=>WL P tab n D .plain ops Q (ops.toList.map (Fl.one, ·)) e O
 | c,e,O,Q=>VC P n D c e O Q
def WC.sound(ht:aR P tab):∀{c:Code} {e:Env} {O:VH} {Q:VQ},WC P tab n D c e O Q->VC P n D c e O Q:=by
 intro c;induction c with
 | skip=>intro e O Q h;exact VC.skip h
 | exit i=>intro e O Q h;exact VC.exit h
 | label l=>intro e O Q h;exact VC.label h
 | ret=>intro e O Q h;exact VC.ret h
 | scope c ih=>intro e O Q h;exact VC.scope (ih h)
 | block id c ih=>intro e O Q h;exact χ (ih h)
 | seq a b iha ihb=>
   intro e O Q h;refine VC.seq (VC.mono ?_ (iha h));intro x e O hx;cases x<;>first | exact ihb hx | exact hx
 | cond c x y ihx ihy=>
   intro e O Q h;simp only[WC]at h;unfold HI at h;split at h;rename_i he;exact VC.pC he (ihx h);rename_i he;exact VC.uy he (ihy h);exact h.elim
 | region id ops dr=>
   intro e O Q h;cases dr with
   | true=>exact h
   | false=>obtain⟨l⟩:=ops;exact VC.Xb (WL.sound ht h)
 | loop c ih=>intro e O Q h;exact h
 | _=>intro e O Q h;exact h
def tW(K:Env->VH->Prop)(Q:VQ):VQ:=λx e O=>match x with
 | .normal=>K e O
 | x=>Q x e O
def jV(tab:cL)(e:Env)(O:VH):List ResultVar->Option Η
 | []=>φ []
 | r::rs=>(lJ tab e O r).bind λm=>(jV tab e O rs).map (m:: ·)
def kA(R:iE->VH->Prop)(O:VH):Option Η->Prop
 | none=>False
 | some [m]=>R (.ret m) O
 | some l=>R (.ret (.tuple l)) O
def FC(tab:cL)(rs:List ResultVar)(R:iE->VH->Prop):VQ:=λx e O=>match x with
 | .normal=>kA R O (jV tab e O rs)
 | .ret=>kA R O (jV tab e O rs)
 | .panic m=>R (.panic m) O
 | _=>False
def u7(rs:List ResultVar):jV tab e O rs=rs.mapM (lJ tab e O):=by
 induction rs with
 | nil=>rfl
 | cons r rs ih=>
   rw[jV,ih,List.mapM_cons];simp only[Option.bind_eq_bind];cases lJ tab e O r with
   | none=>rfl
   | some m=>simp only[ap2];cases List.mapM (lJ tab e O) rs<;>rfl
def VF.ofW(ht:aR P tab)(hf:P.funcs[f]?=φ fn)(hb:fn.body=φ c)(hk:(⟨fn.ntmps,0⟩:Sz)=n)(hr:fn.results.toList=rs)(hn:Ζ args<=n.n)
  (h:WC P tab n [] c (cZ 0 args) O (FC tab rs R)):VF P f args O R:=by
 subst hk;refine VF.enter ht hf hb hn (VC.mono ?_ (WC.sound ht h));intro x e O hx
 have key:kA R O (jV tab e O rs)->∃m,ee tab fn e O=φ m/\R (.ret m) O:=λh=>by
  unfold ee;rw[hr, <-u7];generalize jV tab e O rs=z at h;unfold kA at h;split at h;exact h.elim;exact⟨_,rfl,h⟩
  ·rename_i l hl;refine⟨.tuple l,?_,h⟩
   match l,hl with
   | [],_=>rfl
   | [m],hl=>exact absurd rfl (hl m)
   | _::_::_,_=>rfl
 cases x<;>first | exact key hx | exact hx
def Υ(k:Nat)(rs:List ResultVar)(hf:P.funcs[f]?=φ fn)(q:Q')(ht:aR P tab:=by exact aa)(hb:fn.body=φ c:=by exact rfl)(hk:(⟨fn.ntmps,0⟩:Sz)=⟨k,0⟩:=by exact rfl)(hr:fn.results.toList=rs:=by exact rfl)(hn:Ζ args<=k:=by exact Nat.le_of_ble_eq_true rfl)(h:WC P tab ⟨k,0⟩ [] c (cZ 0 args) O (FC tab rs R)=Q':=by conv=>lhs;simp only[cZ,Nat.zero_add,Nat.reduceAdd]):VF P f args O R:=VF.ofW ht hf hb hk hr hn (h.mpr q)
def W3(P:Program)(tab:cL)(n:Sz)(D:List Deferred)(md:Md)(ops:Array Oper)(Q:VQ)(L:List (Fl×Oper))(e:Env)(O:VH):Bool->Prop
 | true=>WL P tab n D md ops Q L e O
 | false=>False
def W2(P:Program)(tab:cL)(n:Sz)(D:List Deferred)(md:Md)(ops:Array Oper)(Q:VQ)(f:Fl)(o:Oper)(L:List (Fl×Oper))(e:Env)(O:VH):Option (MV×VH)->Prop
 | some (m,O')=>W3 P tab n D md ops Q L (bt o.dst m e) O' (bL n o.dst)
 | none=>VL P n D md ops ((f,o)::L) e O Q
def W1(P:Program)(tab:cL)(n:Sz)(D:List Deferred)(md:Md)(ops:Array Oper)(Q:VQ)(f:Fl)(o:Oper)(L:List (Fl×Oper))(e:Env)(O:VH):Bool->Option Bool->Prop
 | _,Β=>False
 | true,φ Α=>ym P n D md ops Q f o L e O (WL P tab n D md ops Q L)
 | false,φ Α=>W2 P tab n D md ops Q f o L e O (jB tab f o e O)
 | _,φ γ=>W3 P tab n D md ops Q L (bt o.dst cY e) O (bL n o.dst&& !JJ f)
section
variable{f:Fl}{o:Oper}{L:List (Fl×Oper)}{d:Option Tmp}{p:Op}{ty:TypeId}{ps:String}{af:Array Edge}{g:Option (Nat×Bool)}{b:Bool}
def agj:WL P tab n D md ops Q [] e O=Q .normal e O:=rfl
def abZ:WL P tab n D md ops Q ((f,.mk d p ty ps af g)::L) e O=W1 P tab n D md ops Q f (.mk d p ty ps af g) L e O (c8 p||JJ f) (aQ ops (.mk d p ty ps af g) e):=by
 rw[WL];generalize aQ ops (.mk d p ty ps af g) e=x;unfold W1;cases x with
 | none=>rfl
 | some b=>
   cases b with
   | false=>
     simp only;unfold W3;split<;>simp only
     all_goals (split<;>rename_i h<;>simp_all)
   | true=>
     simp only;generalize (c8 p||JJ f)=y;cases y with
     | true=>rfl
     | false=>
       simp only;unfold W2;cases jB tab f (.mk d p ty ps af g) e O with
       | none=>rfl
       | some r=>unfold W3;cases bL n d<;>rfl
def ab0:W1 P tab n D md ops Q f o L e O Α (φ Α)=ym P n D md ops Q f o L e O (WL P tab n D md ops Q L):=rfl
def akk:W1 P tab n D md ops Q f o L e O γ (φ Α)=W2 P tab n D md ops Q f o L e O (jB tab f o e O):=rfl
def ab1:W1 P tab n D md ops Q f (.mk d p ty ps af g) L e O b (φ γ)=W3 P tab n D md ops Q L (bt d cY e) O (bL n d&& !JJ f):=by cases b<;>rfl
def ab2:W2 P tab n D md ops Q f (.mk d p ty ps af g) L e O (φ (m,O'))=W3 P tab n D md ops Q L (bt d m e) O' (bL n d):=rfl
def ab3:W2 P tab n D md ops Q f o L e O Β=VL P n D md ops ((f,o)::L) e O Q:=rfl
def ab4:W3 P tab n D md ops Q L e O Α=WL P tab n D md ops Q L e O:=rfl
variable{K:Env->VH->Prop}{x:Operand}{as_:Array Operand}{ts:Array TypeId}
def PM:ym P n D md ops Q .one (.mk d (.call {callee:=.value x,args:=as_,argTypes:=ts}) ty ps af g) L e O K=ah P n md Q d O K e (ev e x) (il e as_.toList):=rfl
def JK:ym P n D md ops Q f (.mk d (.call {callee:=.builtin .append,args:=as_,argTypes:=ts}) ty ps af g) L e O K=VL P n D md ops ((f,.mk d (.call {callee:=.builtin .append,args:=as_,argTypes:=ts}) ty ps af g)::L) e O Q:=by cases f<;>rfl
end
section
variable{c a b:Code}{i id:Nat}{A B:Env->VH->VQ->Prop}{l:ϕ}{K:Env->VH->Prop}{R:iE->VH->Prop}{rs:List ResultVar}{r:ResultVar}{t:Nat}{m1 m2 m3:MV}{x:Operand}{y:Code}
def ab5:WC P tab n D .skip e O Q=Q .normal e O:=rfl
def ab6:WC P tab n D (.exit i) e O Q=Q (.exit i) e O:=rfl
def Y7:WC P tab n D (.label i) e O Q=Q .normal e O:=rfl
def agk:WC P tab n D .ret e O Q=Q .ret e O:=rfl
def Y8:WC P tab n D (.scope c) e O Q=WC P tab n D c e O (vY Q):=rfl
def Y9:WC P tab n D (.block id c) e O Q=WC P tab n D c e O (jT id Q):=rfl
def ab7(P:Program)(tab:cL)(n:Sz)(D:List Deferred)(b:Code)(Q:VQ):Env->VH->Prop:=λe O=>WC P tab n D b e O Q
def Y_:ab7 P tab n D b Q e O=WC P tab n D b e O Q:=rfl
def agl:WC P tab n D (.seq a b) e O Q=WC P tab n D a e O (tW (ab7 P tab n D b Q) Q):=rfl
def ab8:WC P tab n D (.cond x a b) e O Q=HI P n tab D (WC P tab n D a) (WC P tab n D b) e O Q (ev e x):=rfl
def TR:WC P tab n D (.region id ⟨l⟩ γ) e O Q=WL P tab n D .plain ⟨l⟩ Q (l.map (Fl.one, ·)) e O:=rfl
def Za:WC P tab n D (.region id ops Α) e O Q=VC P n D (.region id ops Α) e O Q:=rfl
def ab9:WC P tab n D (.loop c) e O Q=VC P n D (.loop c) e O Q:=rfl
def MJ:tW K Q .normal e O=K e O:=rfl
def TT:tW K Q (.exit i) e O=Q (.exit i) e O:=rfl
def TU:tW K Q (.goto i) e O=Q (.goto i) e O:=rfl
def Zb:tW K Q .ret e O=Q .ret e O:=rfl
def FD:tW K Q (.panic m) e O=Q (.panic m) e O:=rfl
def ab_:HI P n tab D A B e O Q (φ (.v (.bool Α)))=A e O Q:=rfl
def aca:HI P n tab D A B e O Q (φ (.v (.bool γ)))=B e O Q:=rfl
def Zc:jV tab e O []=φ []:=rfl
def TV:jV tab e O (r::rs)=(lJ tab e O r).bind λm=>(jV tab e O rs).map (m:: ·):=rfl
def MK:lJ tab e O (.tmp t)=look e t:=rfl
def JL{ty:TypeId}:lJ tab e O (.cell t ty)=(look e t).bind (gj tab O ty):=rfl
def agm:kA R O (φ [])=R (.ret (.tuple [])) O:=rfl
def agn:kA R O (φ [m])=R (.ret m) O:=rfl
def ago:kA R O (φ [m,m1])=R (.ret (.tuple [m,m1])) O:=rfl
def agp:kA R O (φ [m,m1,m2])=R (.ret (.tuple [m,m1,m2])) O:=rfl
def agq:kA R O (φ [m,m1,m2,m3])=R (.ret (.tuple [m,m1,m2,m3])) O:=rfl
def ML:FC tab rs R .normal e O=kA R O (jV tab e O rs):=rfl
def Zd:FC tab rs R .ret e O=kA R O (jV tab e O rs):=rfl
def PN:FC tab rs R (.panic m) e O=R (.panic m) O:=rfl
def dA(P:Program)(f:FuncId):Bool:=match P.funcs[f]? with
 | some fn=> !(fn.name== "runtime.NumGoroutine")&&fn.body.isSome
 | none=>γ
def Enters.u9(h:dA P f=Α:=by kernel_rfl):Enters P f:=by
 unfold dA at h;split at h;rename_i fn hf;simp only[Ti,Bool.not_eq_true']at h;exact Enters.of hf h.1 (by cases hb:fn.body with | none=>rw[hb]at h;exact absurd h.2 (by decide) | some c=>rfl);cases h
def τ(hR:VF P f as_ O (aH Φ))(h:∀m O', Φ m O'->K (bt d m e) O')(hb:dA P f=Α:=by kernel_rfl)(ha:fs++ms++cs=as_:=by exact rfl)(hd:bL n d=Α:=by exact rfl):
  ah P n md Q d O K e (φ (.func (.func f) fs cs)) (φ ms):=by
 subst ha
 exact .inl ⟨f,fs,cs,ms,_,rfl,rfl,Enters.u9 hb,hd,hR,λr O' hr=>by
  cases r with
  | ret m=>exact h m O' hr
  | panic m=>exact hr.elim⟩
def ah.p{R:iE->VH->Prop}(hR:VF P f as_ O R)(h:∀m O',R (.ret m) O'->K (bt d m e) O')(h2:∀m O',R (.panic m) O'->Q (.panic m) (mD n e) O')(hb:dA P f=Α:=by kernel_rfl)(ha:fs++ms++cs=as_:=by exact rfl)(hd:bL n d=Α:=by exact rfl):
  ah P n md Q d O K e (φ (.func (.func f) fs cs)) (φ ms):=by
 subst ha
 exact .inl ⟨f,fs,cs,ms,R,rfl,rfl,Enters.u9 hb,hd,hR,λr O' hr=>by
  cases r with
  | ret m=>exact h m O' hr
  | panic m=>exact h2 m O' hr⟩
def ah.ext(hx:fJ P f ms O M)(hd:bL n d=Α)(h:∀m O',M m O'->K (bt d m e) O'):ah P n .plain Q d O K e (φ (.func (.func f) [] [])) (φ ms):=
 .inr ⟨f,ms,M,rfl,rfl,rfl,hd,hx,h⟩
def fJ.of{ex:Array Value->Sem Value}(hf:P.funcs[f]?=φ fn)(akl:(fn.name== "runtime.NumGoroutine")=γ)(hb:fn.body.isNone=Α)(hn:Extern.findNext fn=Β)(he:Extern.find fn=φ ex)
  (hr:∀G w vs,WR G O w->aW G ms vs->∃u,(ex vs.toArray).run P w= .ok u w/\VR G m u):fJ P f ms O λm' O'=>m'=m/\O'=O:=by
 intro G w vs hw hv;obtain⟨u,h1,h2⟩:=hr G w vs hw hv;exact⟨m,O,u,w,G,⟨rfl,rfl⟩,by rw[run_callFunc_extern hf akl hb hn he,h1];rfl,Gh.Le.refl G,hw,h2⟩
def WC.reads{id:Nat}{l:ϕ}
  (h:WL P tab n D .reads ⟨l⟩ Q (l.map (Fl.rd, ·)) e O) (ht:aR P tab:=by exact aa) (hm:P.follows .mixedOrders=Α:=by kernel_rfl) (hs:Region.noSelect ⟨l⟩=Α:=by kernel_rfl) (hp:dk .reads ⟨l⟩ (Ζ l) (Array.replicate (Ζ l) γ) ((List.range' 0 (Ζ l)).map (·,Fl.rd))=Α:=by kernel_rfl):VC P n D (.region id ⟨l⟩ Α) e O Q:=VC.Xh hm hs hp (WL.sound ht h)
def WC.bW(md:Md)(ix:List (Nat×Fl)){id:Nat}{l:ϕ} 
  (h:WL P tab n D md ⟨l⟩ Q L e O) (ht:aR P tab:=by exact aa) (hne:md≠ .plain:=by simp) (hm:P.follows .mixedOrders=Α:=by kernel_rfl) (hs:Region.noSelect ⟨l⟩=Α:=by kernel_rfl) (hp:dk md ⟨l⟩ (Ζ l) (Array.replicate (Ζ l) γ) ix=Α:=by kernel_rfl) (hL:qu l ix=φ L:=by exact rfl):VC P n D (.region id ⟨l⟩ Α) e O Q:=VC.Xc md ix hne hm hs hp hL (WL.sound ht h)
variable{σ :Type}{ls Ks:Τ}{ks:Η}{ms: σ ->Η}{I: σ ->VH->Prop}{μ : σ ->Nat}{s: σ}
def WC.kh(ls Ks:Τ)(ms: σ ->Η)(I: σ ->VH->Prop)(μ : σ ->Nat)(s0: σ)(hI:I s0 O)
  (step:∀s O,I s O->WC P tab n D c (kJ ls (ms s) (kJ Ks ks [])) O (az ls Ks ks ms I μ s Q)) (ht:aR P tab:=by exact aa) (h0:looks e ls=φ (ms s0):=by exact rfl) (hk:looks e Ks=φ ks:=by exact rfl):VC P n D (.loop c) e O Q:=
 VC.kh ls Ks ms I μ s0 h0 hk hI λs O h=>WC.sound ht (step s O h)
end
def VL.app{t ty:TypeId}{p q:MV}(hv:jx tab O t p q=φ (m,O'))(h:WL P tab n D md ops Q L (bt d m e) O')(ht:aR P tab:=by exact aa)(hx:ev e x=φ p:=by exact rfl)(hy:ev e y=φ q:=by exact rfl)(hg:aQ ops (.mk d (.call {callee:=.builtin .append,args:= #[x,y],argTypes:= #[t,t]}) ty ps af g) e=φ Α:=by exact rfl)(hd:bL n d=Α:=by exact rfl):
  VL P n D md ops ((.one,.mk d (.call {callee:=.builtin .append,args:= #[x,y],argTypes:= #[t,t]}) ty ps af g)::L) e O Q:=
 VL.step ht hg (by rw[Ab,dP,hx,hy];exact hv) hd (WL.sound ht h)
end
section
variable{G H:Gh}{n:Sz}{D:List Deferred}{e:Env}{a:Act}{P:Program}{tab:cL}{O O':VH}{w:World}{m m':MV}{u v:Value}{ops:Array Oper}{Q:VQ}{md:Md}
def iF(P:Program)(n:Sz)(D:List Deferred)(o:Oper)(e:Env)(O:VH)(M:MV->VH->Prop):Prop:=
 ∀G a w,WR G O w->FR G n D e a->∃m O' u w' H,M m O'/\(execOp a.eval o).run P w= .ok (.value u) w'/\Gh.Le G H/\WR H O' w'/\VR H m u
def aI.kL(ho:ops[i]?=φ o)(hg:aQ ops o e=φ Α)(hd:bL n o.dst=Α)(hy:iF P n D o e O M)(h:∀m O',M m O'->K (bt o.dst m e) O'):aI P n D ops i e O Q K:=by
 intro G a w hw aZ;obtain⟨m,O',u,w',H,hM,hr,h1,h2,h3⟩:=hy G a w hw aZ;simp only[wpOp,ho,bN aZ hg,if_true];refine .inl ?_;unfold Oper.wp;rw[hr];exact⟨_,_,H,h1,h2,(aZ.mono h1).bt hd h3,h _ _ hM⟩
def VL.kL(hg:aQ ops o e=φ Α)(hd:bL n o.dst=Α)(hA:JE o.op=Α->∀brk,md= .held brk->brk≠[])(hb:∀brk,md= .held brk->JE o.op=γ\/brk≠[])(hy:iF P n D o e O M)
  (sA:∀brk,md= .held brk->∀i,ops[i]?=φ o->brk.contains i=Α) (h:∀m O',M m O'->VL P n D md ops L (bt o.dst m e) O' Q):VL P n D md ops ((.one,o)::L) e O Q:=by
 intro fuel listed ix hf hp
 match ix,hf with
 | (i,g)::ix,hf=>
   obtain⟨rfl,ho,hf⟩:=hf;cases md with
   | plain=>exact jR.one (aI.kL ho hg hd hy λm O' hM=>h m O' hM 0 #[] ix hf (λh=>absurd rfl h))
   | any=>
     obtain⟨h1,h2⟩:=hp (by simp);cases fuel with
     | zero=>cases h2
     | succ fuel=>
       simp only[dk,Ti]at h2;have hr:Region.ready .any ops listed=[i]:=by simpa using h2.1
       exact bA.all hr (by simp) λj hj=>by
        obtain rfl:j=i:=by simpa using hj
        exact aI.kL ho hg hd hy λm O' hM=>h m O' hM fuel (listed.setIfInBounds j Α) ix hf (λ_=>⟨h1,h2.2⟩)
   | reads=>
     obtain⟨h1,h2⟩:=hp (by simp);cases fuel with
     | zero=>cases h2
     | succ fuel=>
       simp only[dk,Ti]at h2;exact absurd h2.1 (by simp)
   | held brk=>
     obtain⟨h1,h2⟩:=hp (by simp);cases fuel with
     | zero=>cases h2
     | succ fuel=>
       simp only[dk,Ti]at h2;have hr:Region.ready .any ops listed=[i]:=by simpa using h2.1.1
       have xL:∀j,(listed.setIfInBounds i Α).getD j Α=γ\/j=i->brk.contains j=Α:=by
        rcases uX ho h2.1.2 with⟨h3,_⟩ | h3;rw[sA brk rfl i ho]at h3;cases h3;exact h3
       exact cc.abM hr xL (aI.kL ho hg hd hy λm O' hM=>h m O' hM fuel (listed.setIfInBounds i Α) ix hf (λ_=>⟨h1,h2.2⟩))
def VL.rB(hy:iF P n D o e O M)(h:∀m O',M m O'->VL P n D md ops L (bt o.dst m e) O' Q)(hmd:md= .plain\/md= .any:=by exact .inl rfl)(hg:aQ ops o e=φ Α:=by exact rfl)(hd:bL n o.dst=Α:=by exact rfl):VL P n D md ops ((.one,o)::L) e O Q:=by
 rcases hmd with rfl | rfl;exact VL.kL hg hd (λ_ _ h=>by cases h) (λ_ h=>by cases h) hy (λ_ h=>by cases h) h;exact VL.kL hg hd (λ_ _ h=>by cases h) (λ_ h=>by cases h) hy (λ_ h=>by cases h) h
def CU(O:VH)(sz:Nat):MV->Option (Nat×Η)
 | .l k ds _=>if (Ζ ds)=k*sz then φ (k,ds)else Β
 | .aS k o n _=>match O.hp k with
   | some (.cells cs)=>if o+n*sz<=(Ζ cs) then φ (n,(cs.drop o).take (n*sz))else Β
   | _=>Β
 | .s l=>if sz=1 then φ (Ζ l,l.map im)else Β
 | _=>Β
def CV:MV->TypeDesc->Prop
 | .s _,.string=>True
 | .s _,_=>False
 | _,.slice _=>True
 | _,_=>False
def strCells_eq(l:Ρ):byteCells (⟨⟨l⟩⟩:ByteArray)=l.map λb=>Value.int .u8 b.toNat:=by simp[byteCells]
def CW(h:WR G O w){sz:Nat}{ds:Η}{tx:TypeId}{d:TypeDesc}(hs:CU O sz m=φ (k,ds))(hx:VR G m u)(ht:P.underlying tx=φ d)(hd:CV m d)(jy:ds.all eI=Α):∃us,Src P sz tx u k us w/\aW G ds us:=by
 unfold CU at hs;split at hs
 ·split at hs
  ·rename_i k' mI tk hl;injection hs with hs;injection hs with e1 e2;subst e1;subst e2
   have hk:∃e',P.underlying tx=φ (.slice e'):=by
    cases d<;>simp only[CV]at hd;exact⟨_,ht⟩
   obtain⟨e',hk⟩:=hk
   have nil:∀A c,k'=0->mI=[]->VR G (.l k' mI tk) (.slice A 0 c)->∃us,Src P sz tx (.slice A 0 c) k' us w/\aW G mI us:=λA c e1 e2 _=>by
    subst e1;subst e2
    refine⟨[],?_,aW.nil⟩;cases A with
    | none=>exact Src.ofNil w hk c
    | some A=>exact Src.ofSlice w hk A 0 c [] (by simp) (λj u hu=>by simp at hu) (λu hu=>by cases hu)
   cases hx with
   | slnil=>exact nil _ _ rfl rfl .slnil
   | rp h1=>exact nil _ _ rfl rfl (.rp h1)
   | mg=>exact nil _ _ rfl rfl .mg
   | l h1 h2 h3 h4 h5 h6=>
     rename_i us c b o;have hv:aW G mI us:=⟨h1,h3⟩;exact⟨us,Src.ofSlice w hk _ k' c us (by rw[h1,hl]) (λj u hu=>by rw[Addr.add_lit];exact h.fB _ _ _ (h2 j u hu)) (BD hv jy),hv⟩
  ·cases hs
 ·rename_i k' o n' c';split at hs
  ·rename_i cs sw;split at hs
   ·rename_i hle;injection hs with hs;injection hs with e1 e2;subst e1;subst e2
    have hk:∃e',P.underlying tx=φ (.slice e'):=by
     cases d<;>simp only[CV]at hd;exact⟨_,ht⟩
    obtain⟨e',hk⟩:=hk;cases hx with
    | aS hp hn hm=>
      rename_i b;obtain⟨b',C,T,h1,h2,h3⟩:=h.cells k' cs sw;rw[hp]at h1;injection h1 with h1;subst h1;have hv:=(h3.drop o).take (n'*sz);refine⟨_,Src.ofSlice w hk ⟨b,o,Β⟩ n' c' _ ?_ (λj u hu=>?_) (BD hv jy),hv⟩;rw[hv.1];simp;omega;rw[Addr.add_lit];rw[akc]at hu;split at hu;rw[List.getElem?_drop,akc]at hu;split at hu;simp only[World.cell?,h2,akd,ake,if_false];simpa using hu;cases hu;cases hu
   ·cases hs
  ·cases hs
 ·rename_i l;split at hs
  ·rename_i r7;subst r7;injection hs with hs;injection hs with e1 e2;subst e1;subst e2
   have hk:P.underlying tx=φ .string:=by
    cases d<;>simp only[CV]at hd;exact ht
   cases hx;refine⟨_,Src.ofString w hk ⟨⟨l⟩⟩,?_⟩;rw[strCells_eq];exact HG l
  ·cases hs
 ·cases hs
def acb{α :Type}{s:Sem α}{x y: α}{w1 w2:World}(h1:s.run P w= .ok x w1)(h2:s.run P w= .ok y w2):w1=w2:=by
 rw[h1]at h2;injection h2
def TW(h:WR G O w)(hk:O.hp k=φ (.cells cs))(hp:G.cu k=φ b)(hi:i<Ζ cs):(w.cell? ⟨b,i,Β⟩).isSome=Α/\w.frozen? ⟨b,i,Β⟩=γ:=by
 obtain⟨b',C,T,e1,e2,e3⟩:=h.cells k cs hk;rw[hp]at e1;injection e1 with e1;subst e1;have hlen:i<C.size:=by have:=e3.1;simp at this;omega
 constructor;simp only[World.cell?,e2,akd,ake,if_false,Array.getElem?_eq_getElem hlen,Option.isSome_some];obtain⟨t',⟨lo,hi⟩,dw⟩:=T;dsimp only at e2 dw;simp only[World.frozen?,e2,Bool.and_eq_false_imp,decide_eq_true_eq,decide_eq_false_iff_not];intro;omega
def PO(ht:aR P tab)(h:WR G O w){t tx ty el:TypeId}{d:TypeDesc}{o c:Nat}{ds:Η}(hu:(tab t).map c6.under=φ (.slice el))(he:tab el=φ te)(yp:P.underlying tx=φ d)(hk:O.hp k=φ (.cells cs))(hs:CU O te.size m=φ (j,ds))(hd:CV m d)(jy:ds.all eI=Α)
  (rC:n'+j<=c) (hle:o+n'*te.size+Ζ ds<=Ζ cs) (hx:VR G (.aS k o n' c) u) (hy:VR G m v):
  ∃w' A,(Builtin.append_ #[t,tx] ty #[u,v]).run P w= .ok (.slice A (n'+j) c) w'/\WR G (O.set k (.cells (fq cs (o+n'*te.size) ds))) w'/\VR G (.aS k o (n'+j) c) (.slice A (n'+j) c):=by
 obtain⟨ti,z,i1,i2,i3,i4,i5,i6⟩:=(ht _ te he).info;obtain⟨us,rU,hv⟩:=CW (P:=P) h hs hy yp hd jy;cases hx with
 | aS hp hn hm=>
   rename_i b;(have ll:=λ(q:Nat)(hq:q<Ζ us)=>TW h (i:=o+n'*te.size+q) hk hp (by have:=hv.1;omega));rw[<-i2]at rU ll;have hr:=run_append_room_src (P:=P) w t tx ty el ti (bZ ht hu) i1 b o n' c v j us rU rC (λq hq=>(ll q hq).1) (λq hq=>(ll q hq).2);obtain⟨w2,iA,oA⟩:=BF (P:=P) hp (o+n'*te.size) ds us 0 cs O w h hk hv jy (by omega);have jJ:=run_storeCells_cells (P:=P) b (o+n'*ti.size) us 0 w (by simpa usingλq hq=>(ll q hq).1) (by simpa usingλq hq=>(ll q hq).2) rU.one;rw[i2]at jJ;have:=acb iA jJ;subst this;rw[i2]at hr;exact⟨_,_,hr,by simpa using oA,.aS hp rC hm⟩
def VH.BN(O:VH)(cs:Η)(t:TypeId)(n:Nat):VH:=(O.push (.cells cs)).push (.shape O.N t n)
def CY(ht:aR P tab)(h:WR G O w){t tx ty el:TypeId}{d:TypeDesc}{c:Nat}{A:Option Addr}{L ds:Η}(hu:(tab t).map c6.under=φ (.slice el))(he:tab el=φ te)(yp:P.underlying tx=φ d)(hs:CU O te.size m=φ (j,ds))(hd:CV m d)(jy:ds.all eI=Α)
  (hL:aW G L us) (qe:Ζ L=n'*te.size) (hold:(Builtin.firstCells te.size n' (.slice A n' c)).run P w.drew= .ok us.toArray w.drew) (rC:c<n'+j) (hb:(n'+j)*te.bytes<=140737488355328) (hm:n'+j<=maxLen) (hy:VR G m v):
  ∃c' w' H zs,n'+j<=c'/\c'<=maxLen/\(Ζ zs)=(c' - (n'+j))*te.size/\(Builtin.append_ #[t,tx] ty #[.slice A n' c,v]).run P w= .ok (.slice (φ ⟨w.heap.size,0,Β⟩) (n'+j) c') w'/\Gh.Le G H/\WR H (O.BN (L++ds++zs) el (c'*te.size)) w'/\VR H (.aS O.N 0 (n'+j) c') (.slice (φ ⟨w.heap.size,0,Β⟩) (n'+j) c'):=by
 obtain⟨ti,z,i1,i2,i3,i4,i5,i6⟩:=(ht _ te he).info;obtain⟨vs,rU,hv⟩:=CW (P:=P) h hs hy yp hd jy;have jQ:=grownCap_ge w (n'+j) c el;have hle:=grownCap_le_maxLen w (n'+j) c el hm;have acd:=rU;rw[<-i2]at acd hold;have hr:=run_append_grow_src (P:=P) w t tx ty el ti z (bZ ht hu) i1 i4 A n' c us hold v j vs acd rC (by simp only[maxLen]at hm;omega) (by rw[i3];exact growslice_fits (by omega) hb)
 have hzc:aW G (jP te.zero ((grownCap w (n'+j) c el - (n'+j))*te.size)) (Builtin.zeroCells z.cells (grownCap w (n'+j) c el - (n'+j))).toList:=by
  rcases Nat.eq_zero_or_pos (Ζ te.zero) with hz | hz
  ·(have hz0:te.size=0:=by have:=(i6 G).1;rw[Array.length_toList,i5]at this;omega);have:z.cells.size=0:=by rw[i5,hz0]
   rw[hz0,Nat.mul_zero];refine⟨by simp[jP,Builtin.zeroCells,this],λi c u hc=>by simp[jP]at hc⟩
  ·have hzz:=BG (i6 G) hz ((grownCap w (n'+j) c el - (n'+j))*te.size);rw[<-i5]at hzz ⊢;exact hzz
 have ja:=(hL.append hv).append hzc;obtain⟨g1,g2⟩:=h.drew.push (cs:=L++ds++jP te.zero ((grownCap w (n'+j) c el - (n'+j))*te.size)) (C:=(us++vs).toArray++Builtin.zeroCells z.cells (grownCap w (n'+j) c el - (n'+j))) el (by simpa using ja);have ew:(us++vs).length=(n'+j)*te.size:=by rw[YI,hL.1,qe,rU.newsLen,aqb]
 have r7:((us++vs).toArray++Builtin.zeroCells z.cells (grownCap w (n'+j) c el - (n'+j))).size=grownCap w (n'+j) c el*te.size:=by
  rw[Array.size_append,O_,i5,List.size_toArray,ew, <-aqb];congr 1;omega
 refine⟨grownCap w (n'+j) c el,_,_,jP te.zero ((grownCap w (n'+j) c el - (n'+j))*te.size),jQ,hle,by simp[jP],hr,g1,g2.Hg (aN _ _ _) ?_,.aS (aN _ _ _) jQ hle⟩
 have:(w.drew.alloc (.cells ((us++vs).toArray++Builtin.zeroCells z.cells (grownCap w (n'+j) c el - (n'+j))) el)).heap[w.drew.heap.size]?=φ (.cells ((us++vs).toArray++Builtin.zeroCells z.cells (grownCap w (n'+j) c el - (n'+j))) el):=by
  rw[gG,if_pos rfl]
 show World.shape? _ w.drew.heap.size=_;simp only[World.shape?,this,r7]
structure Row(O:VH)(el:TypeId)(sz B k c:Nat)(L:Η):Prop where
 cells:∃sp,O.hp k=φ (.cells (L++sp))/\(L++sp).length=c*sz
 mC:∃j,B<=j/\j<O.N/\O.hp j=φ (.shape k el (c*sz))
 lo:B<=k
 hi:k<O.N
structure bM(O:VH)(q:ϑ)(O':VH):Prop where
 N:O.N<=O'.N
 hp:∀i,i<O.N->q≠φ i->O'.hp i=O.hp i
def gid:MV->Option Nat
 | .aS k _ _ _=>φ k
 | .p k _=>φ k
 | _=>Β
def GR(O:VH)(el:TypeId)(sz B:Nat)(p:MV)(n:Nat)(L:Η):Prop:=
 (n=0/\L=[]/\(p= .l 0 [] .nil\/p= .l 0 [] .full))\/∃k c,p= .aS k 0 n c/\n<=c/\(Ζ L)=n*sz/\Row O el sz B k c L
section
variable{el:TypeId}{sz B B' k c q:Nat}{L:Η}{O1:VH}{x:cx}
def bM.refl(O:VH)(q:ϑ):bM O q O:=⟨akb _,λ_ _ _=>rfl⟩
def bM.ge(h:O.Ge O1)(u:bM O1 (φ q) O')(hq:O.N<=q):O.Ge O':=⟨alQ h.N u.N,λi hi=>(u.hp i (abx hi h.N) (by intro e;injection e;omega)).trans (h.hp i hi)⟩
def bM.geN(h:O.Ge O1)(u:bM O1 Β O'):O.Ge O':=⟨alQ h.N u.N,λi hi=>(u.hp i (abx hi h.N) (by simp)).trans (h.hp i hi)⟩
def bM.mJ(h:O.Ge O'):bM O Β O':=⟨h.N,λi hi _=>h.hp i hi⟩
def bM.trans{o:ϑ}(h:bM O o O1)(h2:bM O1 o O'):bM O o O':=⟨alQ h.N h2.N,λi hi hq=>(h2.hp i (abx hi h.N) hq).trans (h.hp i hi hq)⟩
def bM.any{o:ϑ}(h:bM O Β O'):bM O o O':=⟨h.N,λi hi _=>h.hp i hi (by simp)⟩
def bM.set:bM O (φ q) (O.set q x):=⟨akb _,λi _ h=>π _ _ (λe=>h (by rw[e]))⟩
def bM.push:bM O Β (O.push x):=⟨Nat.le_succ _,λi hi _=>η _ _ hi⟩
def bM.kill:bM O (φ q) (O.kill q):=⟨akb _,λi _ h=>VH.mH _ (λe=>h (by rw[e]))⟩
def Row.qT(h:Row O el sz B k c L)(u:bM O (φ q) O')(hq:q≠k)(hs:∀t n,O.hp q≠φ (.shape k t n)):Row O' el sz B k c L:=by
 obtain⟨sp,h1,h2⟩:=h.cells;obtain⟨j,h3,h4,h5⟩:=h.mC;refine⟨⟨sp,(u.hp k h.hi (by simpa using hq)).trans h1,h2⟩,⟨j,h3,abx h4 u.N,(u.hp j h4 ?_).trans h5⟩,h.lo,abx h.hi u.N⟩;intro e;injection e with e;subst e;exact hs _ _ h5
def Row.BO(h:Row O el sz B k c L)(u:bM O Β O'):Row O' el sz B k c L:=by
 obtain⟨sp,h1,h2⟩:=h.cells;obtain⟨j,h3,h4,h5⟩:=h.mC;exact⟨⟨sp,(u.hp k h.hi (by simp)).trans h1,h2⟩,⟨j,h3,abx h4 u.N,(u.hp j h4 (by simp)).trans h5⟩,h.lo,abx h.hi u.N⟩
def GR.BO{p:MV}{n:Nat}(h:GR O el sz B p n L)(u:bM O Β O'):GR O' el sz B p n L:=by
 rcases h with h | ⟨k,c,h1,h2,h3,h4⟩;exact .inl h;exact .inr ⟨k,c,h1,h2,h3,h4.BO u⟩
def GR.qT{p:MV}{n:Nat}(h:GR O el sz B p n L)(u:bM O (φ q) O')(hq:gid p≠φ q)(hs:∀k t n,O.hp q≠φ (.shape k t n)):GR O' el sz B p n L:=by
 rcases h with h | ⟨k,c,h1,h2,h3,h4⟩;exact .inl h;exact .inr ⟨k,c,h1,h2,h3,h4.qT u (λe=>hq (by rw[h1,e];rfl)) (hs k)⟩
def Row.PQ{L':Η}(h:Row O el sz B k c L)(hl:(L'++sp).length=c*sz):Row (O.set k (.cells (L'++sp))) el sz B k c L':=by
 obtain⟨j,h3,h4,h5⟩:=h.mC;refine⟨⟨sp,υ _ _ _,hl⟩,⟨j,h3,h4,?_⟩,h.lo,h.hi⟩;rw[π _ _ (λe=>?_)];exact h5;subst e;obtain⟨sp,h1,_⟩:=h.cells;rw[h1]at h5;cases h5
def Row.wider(h:Row O el sz B k c L)(hB:B'<=B):Row O el sz B' k c L:=by
 obtain⟨j,h3,h4,h5⟩:=h.mC;exact⟨h.cells,⟨j,alQ hB h3,h4,h5⟩,alQ hB h.lo,h.hi⟩
def Row.BN{cs:Η}{t:TypeId}(hl:(L++sp).length=c*sz)(hB:B<=O.N):Row (O.BN (L++sp) el (c*sz)) el sz B O.N c L:=
 ⟨⟨sp,(η _ _ (by show O.N<O.N+1;omega)).trans (ζ _ _),hl⟩,⟨O.N+1,by omega,by show O.N+1<O.N+1+1;omega,ζ _ _⟩,hB,by show O.N<O.N+1+1;omega⟩
def CZ(L ds sp:Η):fq (L++sp) (Ζ L) ds=L++ds.take (Ζ sp)++sp.drop (Ζ ds):=by
 induction ds generalizing L sp with
 | nil=>simp[fq]
 | cons d ds ih=>
   cases sp with
   | nil=>
     simp only[List.append_nil,ap7,aqj,List.drop_nil,fq]
     have:∀(ds:Η)(o:Nat),Ζ L<=o->fq L o ds=L:=by
      intro ds;induction ds with
      | nil=>intro o _;rfl
      | cons x xs ih=>intro o ho;rw[fq,aqd ho];exact ih (o+1) (by omega)
     rw[aqd (akb _)];exact this ds _ (by omega)
   | cons s sp=>
     have:=ih (L++[d]) sp;simp only[fq];rw[List.set_append_right _ _ (akb _),Nat.sub_self,aqa];simp only[List.append_assoc,List.singleton_append,YI,ap4,ap7]at this;rw[this];simp
end
def VL.grow(ht:aR P tab){el:TypeId}{L ds:Η}{p q:MV}{dx:TypeDesc}{t tx ty:TypeId}{LL:List (Fl×Oper)}(hmd:md= .plain\/md= .any)
  (hr:GR O el te.size B p n' L) (hs:CU O te.size q=φ (j,ds)) (jy:ds.all eI=Α) (hu:(tab t).map c6.under=φ (.slice el)) (he:tab el=φ te) (yp:(tab tx).map c6.under=φ dx) (HJ:CV q dx) (hb:(n'+j)*te.bytes<=140737488355328) (hm:n'+j<=maxLen) (hB:B<=O.N)
  (hx:ev e x=φ p) (hy:ev e y=φ q) (hg:aQ ops (.mk d (.call {callee:=.builtin .append,args:= #[x,y],argTypes:= #[t,tx]}) ty ps af g) e=φ Α) (hd:bL n d=Α)
  (h:∀m O',GR O' el te.size B m (n'+j) (L++ds)->bM O (gid p) O'->(gid p=Β->O.Ge O')->((∃k c,m= .aS k 0 (n'+j) c/\(gid p=φ k\/(O.N<=k/\j≠0)))\/(j=0/\m=p/\O'=O))->WL P tab n D md ops Q LL (bt d m e) O'):
  VL P n D md ops ((.one,.mk d (.call {callee:=.builtin .append,args:= #[x,y],argTypes:= #[t,tx]}) ty ps af g)::LL) e O Q:=by
 refine VL.rB (M:=λm O'=>GR O' el te.size B m (n'+j) (L++ds)/\bM O (gid p) O'/\(gid p=Β->O.Ge O')/\((∃k c,m= .aS k 0 (n'+j) c/\(gid p=φ k\/(O.N<=k/\j≠0)))\/(j=0/\m=p/\O'=O))) (λG a w hw hf=>?_) (hmd:=hmd) (hg:=hg) (hd:=hd) λm O' ⟨h1,h2,h3,h4⟩=>WL.sound ht (h m O' h1 h2 h3 h4)
 have mK:=hf.ev hx;have AE:=hf.ev hy;have gT:=bZ ht yp
 have fin:∀{m O' u w' H},(GR O' el te.size B m (n'+j) (L++ds)/\bM O (gid p) O'/\(gid p=Β->O.Ge O')/\((∃k c,m= .aS k 0 (n'+j) c/\(gid p=φ k\/(O.N<=k/\j≠0)))\/(j=0/\m=p/\O'=O)))->(Builtin.append_ #[t,tx] ty #[a.eval x,a.eval y]).run P w= .ok u w'->Gh.Le G H->WR H O' w'->VR H m u->
   ∃m O' u w' H,(GR O' el te.size B m (n'+j) (L++ds)/\bM O (gid p) O'/\(gid p=Β->O.Ge O')/\((∃k c,m= .aS k 0 (n'+j) c/\(gid p=φ k\/(O.N<=k/\j≠0)))\/(j=0/\m=p/\O'=O)))/\(execOp a.eval (.mk d (.call {callee:=.builtin .append,args:= #[x,y],argTypes:= #[t,tx]}) ty ps af g)).run P w= .ok (.value u) w'/\Gh.Le G H/\WR H O' w'/\VR H m u:=λhM cT h1 h2 h3=>
  ⟨_,_,_,_,_,hM,by simp only[execOp,resolve,invoke,builtin,List.map_toArray,aga,ap8,Sem.run_bind,Sem.run_pure,Result.andThen_ok]<;>simp[cT],h1,h2,h3⟩
 obtain⟨vs,rU,hv⟩:=CW (P:=P) hw hs AE gT HJ jy;have kV:Ζ ds=j*te.size:=by rw[<-hv.1];exact rU.newsLen
 rcases hr with⟨rfl,rfl,hp⟩ | ⟨k,c,rfl,C0,qe,cU⟩
 ·have hA:∃A,a.eval x= .slice A 0 0/\(∀w',(Builtin.firstCells te.size 0 (.slice A 0 0)).run P w'= .ok #[] w'):=by
   generalize a.eval x=u at mK
   have key:∀A:Option Addr,∀w',(Builtin.firstCells te.size 0 (.slice A 0 0)).run P w'= .ok #[] w':=λA w'=>by
    cases A<;>simp[Builtin.firstCells,loadCells,loadCellsFrom]
   rcases hp with rfl | rfl
   ·cases mK with
    | slnil=>exact⟨_,rfl,key _⟩
    | l h1 h2 h3 h4 h5 h6=>exact h6.elim
   ·cases mK with
    | l h1 h2 h3 h4 h5 h6=>
      have h6:_=0:=h6;subst h6;exact⟨_,rfl,key _⟩
  obtain⟨A,hA,Ze⟩:=hA;(((have ace:gid p=Β:=by rcases hp with rfl | rfl<;>rfl);by_cases hj:j=0);subst hj;have uB:ds=[]:=WT (by simpa using kV);subst uB;refine fin (m:=p) (O':=O) (u:=a.eval x) (w':=w) (H:=G) ⟨.inl ⟨rfl,rfl,hp⟩,bM.refl _ _,λ_=>VH.Ge.refl _,.inr ⟨rfl,rfl,rfl⟩⟩ ?_ (Gh.Le.refl G) hw mK;(have kI:vs=[]:=by have:=hv.1;simpa using this);subst kI;rw[hA];have fE:=bZ ht hu;obtain⟨ti,z,i1,i2,_⟩:=(ht _ te he).info;rcases rU.kind with⟨e',hk⟩ | hk<;>cases A<;>simp[Builtin.append_,run_underlying fE,run_underlying hk,gH (ht _ te he),rU.len,rU.cells,storeCells]);rw[hA]at fin;obtain⟨c',w',H,zs,g1,g2,g3,g4,g5,g6,g7⟩:=CY (P:=P) ht hw (n':=0) (c:=0) (A:=A) (L:=[]) (us:=[]) (ty:=ty) hu he gT hs HJ jy aW.nil (by simp) (Ze _) (by omega) hb hm AE;refine fin ⟨.inr ⟨O.N,c',rfl,g1,by rw[YI,kV];simp,?_⟩,?_,λ_=>?_,.inl ⟨_,_,rfl,.inr ⟨akb _,hj⟩⟩⟩ g4 g5 g6 g7;refine Row.BN (cs:=[]) (t:=el) ?_ hB;rw[YI,g3,YI,kV,ap7,alP, <-aqb];((congr 1;omega);rw[ace];exact bM.push.trans bM.push);exact((VH.Ge.refl O).push _).push _
 ·obtain⟨sp,gV,gU⟩:=cU.cells;generalize rD:a.eval x=u at mK;have acf:=mK;cases acf with
  | aS hp hn hmx=>
    rename_i b;rw[rD]at fin;have hmul:(n'+j)*te.size=n'*te.size+j*te.size:=aqb _ _ _;by_cases rC:n'+j<=c
    ·have hle:(n'+j)*te.size<=c*te.size:=Nat.mul_le_mul_right _ rC;obtain⟨w',A,g1,g2,g3⟩:=PO (P:=P) (ty:=ty) ht hw hu he gT gV hs HJ jy rC (by rw[gU,kV];omega) mK AE;rw[alP, <-qe,CZ]at g2
     have KU:Ζ ds<=Ζ sp:=by
      rw[YI]at gU;omega
     rw[alV KU]at g2;refine fin ⟨.inr ⟨k,c,rfl,rC,by rw[YI,qe,kV,hmul],cU.PQ ?_⟩,bM.set,(λh=>by cases h),.inl ⟨_,_,rfl,.inl rfl⟩⟩ g1 (Gh.Le.refl G) g2 g3;rw[YI,YI,List.length_drop];rw[YI]at gU;omega
    ·obtain⟨b',C,T,d1,d2,d3⟩:=hw.cells k _ gV;rw[hp]at d1;injection d1 with d1;subst d1;have hL:=d3.take (Ζ L);rw[List.take_left,List.take_take,Nat.min_eq_left (by rw[YI];omega)]at hL
     have hold:(Builtin.firstCells te.size n' (.slice (φ ⟨b,0,Β⟩) n' c)).run P w.drew= .ok (C.toList.take (Ζ L)).toArray w.drew:=by
      refine run_firstCells_some (P:=P) w.drew te.size n' ⟨b,0,Β⟩ n' c _ (by rw[hL.1,qe]) λi u hu=>?_
      rw[Addr.add_lit,alP];rw[akc]at hu;split at hu;have kW:w.drew.heap[b]?=φ (.cells C T.t T.fr):=d2;simp only[World.cell?,kW,akd,ake,if_false];simpa using hu;cases hu
     obtain⟨c',w',H,zs,g1,g2,g3,g4,g5,g6,g7⟩:=CY (P:=P) (ty:=ty) ht hw (n':=n') (c:=c) (A:=φ ⟨b,0,Β⟩) (L:=L) hu he gT hs HJ jy hL qe hold (by omega) hb hm AE;refine fin ⟨.inr ⟨O.N,c',rfl,g1,by rw[YI,qe,kV,hmul],?_⟩,(bM.push.trans bM.push).any,(λh=>by cases h),.inl ⟨_,_,rfl,.inr ⟨akb _,by omega⟩⟩⟩ g4 g5 g6 g7;refine Row.BN (cs:=[]) (t:=el) ?_ hB;rw[YI,g3,YI,qe,kV, <-hmul, <-aqb];congr 1;omega
end
section
variable{G H:Gh}{n:Sz}{D:List Deferred}{e:Env}{a:Act}{P:Program}{tab:cL}{O O':VH}{w:World}{m m':MV}{u v:Value}{ops:Array Oper}{Q:VQ}{md:Md}
def jW(P:Program)(n:Sz)(D:List Deferred)(o:Oper)(e:Env)(m:MV):Prop:=∀G a,FR G n D e a->ey P o a G m
def aI.pure(ho:ops[i]?=φ o)(hg:aQ ops o e=φ Α)(hd:bL n o.dst=Α)(hy:jW P n D o e m)(h:K (bt o.dst m e) O):aI P n D ops i e O Q K:=by
 refine aI.kL (M:=λm' O'=>m'=m/\O'=O) ho hg hd (λG a w hw hf=>?_) (by rintro m' O' ⟨rfl,rfl⟩;exact h);obtain⟨u,hu,hr⟩:=hy G a hf;exact⟨m,O,u,w,G,⟨rfl,rfl⟩,hr w hw.ss,Gh.Le.refl G,hw,hu⟩
def VL.pure{f:Fl}(Py:f≠ .fk)(hh:f= .one->kK md=Α\/md= .any)(hg:aQ ops o e=φ Α)(hd:bL n o.dst=Α)(hy:jW P n D o e m)(h:VL P n D md ops L (bt o.dst m e) O Q):VL P n D md ops ((f,o)::L) e O Q:=by
 intro fuel listed ix hf hp
 match ix,hf with
 | (i,g)::ix,hf=>
   obtain⟨rfl,ho,hf⟩:=hf;cases md with
   | plain=>exact jR.one (aI.pure ho hg hd hy (h 0 #[] ix hf (λh=>absurd rfl h)))
   | any=>
     obtain⟨h1,h2⟩:=hp (by simp);cases fuel with
     | zero=>cases h2
     | succ fuel=>
       simp only[dk,Ti]at h2;have hk:=h fuel (listed.setIfInBounds i Α) ix hf (λ_=>⟨h1,h2.2⟩);cases g with
       | one=>
         have hr:Region.ready .any ops listed=[i]:=by simpa using h2.1
         exact bA.all hr (by simp) λj hj=>by
          obtain rfl:j=i:=by simpa using hj
          exact aI.pure ho hg hd hy hk
       | bh=>
         simp only[Ti]at h2;intro G a w hw aZ;obtain⟨u,hu,hr⟩:=hy G a aZ;exact wpAnyH_take ho h1 h2.1.1 h2.1.2 (jz hd) (.inl ⟨bN aZ hg,hr⟩) hw.ss (hk G _ w hw (aZ.bt hd hu))
       | rd=>exact absurd h2.1 (by simp)
       | fk=>exact absurd rfl Py
   | reads=>
     obtain⟨h1,h2⟩:=hp (by simp);cases fuel with
     | zero=>cases h2
     | succ fuel=>
       simp only[dk,Ti]at h2;have hk:=h fuel (listed.setIfInBounds i Α) ix hf (λ_=>⟨h1,h2.2⟩);intro G a w hw aZ;obtain⟨u,hu,cT⟩:=hy G a aZ;(have h3:Region.free .any ops listed i=Α/\(Region.ready .any ops listed).contains i=Α:=by cases g<;>simp_all);exact wpAnyH_take ho h1 h3.1 h3.2 (jz hd) (.inl ⟨bN aZ hg,λw' lI=>by rw[lI];exact cT w hw.ss⟩) rfl (hk G _ w hw (aZ.bt hd hu))
   | held brk=>
     obtain⟨h1,h2⟩:=hp (by simp);cases fuel with
     | zero=>cases h2
     | succ fuel=>
       simp only[dk,Ti]at h2;have hk:=h fuel (listed.setIfInBounds i Α) ix hf (λ_=>⟨h1,h2.2⟩)
       have hyy:∀G a w,WR G O w->FR G n D e a->∃u,VR G m u/\YieldsIf P ops (Sx G w) o u a:=λG a w hw aZ=>by
        obtain⟨u,hu,cT⟩:=hy G a aZ;exact⟨u,hu,.inl ⟨bN aZ hg,λx hx=>cT x hx.1⟩⟩
       cases g with
       | one=>rcases hh rfl with h3 | h3<;>cases h3
       | fk=>exact absurd rfl Py
       | bh=>
         simp only[Ti]at h2;exact cc.take ho h1 h2.1.1.1 h2.1.1.2 h2.1.2 hd hyy hk
       | rd=>
         simp only[Ti]at h2;exact cc.take ho h1 h2.1.1.1 h2.1.1.2 h2.1.2 hd hyy hk
def PU(P:Program)(tab:cL):Nat->TypeId->MV->MV->Option Bool
 | 0,_,_,_=>Β
 | d+1,t,x,y=>match(tab t).map c6.under,x,y with
   | some .bool,.v (.bool a),.v (.bool b)=>φ (a==b)
   | some (.int _),.v (.int k a),.v (.int k' b)=>if k=k' then φ (a==b)else Β
   | some .string,.s a,.s b=>φ (a==b)
   | some (.struct fs),.agg xs,.agg ys=>if P.stoodInHeld t then Β else fs.toList.foldr (λf acc=>
     if f.name≠ "_" then match Ed tab f.type xs f.offset,Ed tab f.type ys f.offset with
      | some p,φ q=>match PU P tab d f.type p q,acc with
        | some b,φ c=>φ (b&&c)
        | _,_=>Β
      | _,_=>Β
     else acc) (φ Α)
   | _,_,_=>Β
def PV(ht:aR P tab):∀(d:Nat) {t:TypeId} {x y:MV} {u v:Value} {b:Bool},PU P tab d t x y=φ b->VR G x u->VR G y v->∀(k:Nat)(w:World),(Op.equalIn (d+k) t u v).run P w= .ok b w
 | 0,_,_,_,_,_,_,h,_,_,_,_=>by cases h
 | d+1,t,x,y,u,v,b,h,hx,hy,k,w=>by
   rw[show d+1+k=d+k+1 from by omega];simp only[PU]at h;split at h;rename_i hu;injection h with h;subst h;cases hx;cases hy;exact run_equalIn_bool w _ _ _ _ (bZ ht hu);rename_i k0 k1 a k2 c hu;split at h;subst k1;injection h with h;subst h;cases hx;cases hy;exact run_equalIn_int w _ _ _ _ _ _ (bZ ht hu);cases h;rename_i l r hu;injection h with h;subst h;cases hx;rename_i e1;cases hy;rw[run_equalIn_string w _ _ _ _ (bZ ht hu),toList_mk,toList_mk]
   ·rename_i fs xs ys hu;split at h;cases h
    ·rename_i cX;cases hx with
     | agg a1 a2=>
       cases hy with
       | agg b1 b2=>
         rename_i us vs;have fE:=bZ ht hu;have hfo:P.fieldsOf t=fs:=by simp only[Program.fieldsOf,fE]
         rw[run_equalIn_struct w _ _ _ _ (by rw[hfo];exact fE) (by simpa using cX),hfo];have hxs:aW G xs us:=⟨a1,a2⟩;have TZ:aW G ys vs:=⟨b1,b2⟩;generalize fs.toList=l at h;clear hu fE hfo;induction l generalizing b with
         | nil=>
           simp only[List.foldr_nil,Option.some.injEq]at h;subst h;rfl
         | cons f l ih=>
           simp only[List.foldr_cons]at h;simp only[Op.eqFields];split at h;rename_i hn;rw[if_pos hn];split at h;rename_i p q hp hq;split at h;rename_i b1 c1 cC fK;injection h with h;subst h;obtain⟨r1,g1,g2⟩:=zR (P:=P) ht hp hxs;obtain⟨r2,g3,g4⟩:=zR (P:=P) ht hq TZ;have hr:=PV ht d cC g2 g4 k w;simp only[Sem.run_bind,g1 w,g3 w,hr,Result.andThen_ok];cases b1;simp;simpa using ih _ fK;cases h;cases h;rename_i hn;rw[if_neg hn];exact ih _ h
   ·cases h
def VL.HK(ht:aR P tab){f:Fl}{op:BinOp}{t t' ty:TypeId}{xs ys:Η}{b:Bool}(Py:f≠ .fk)(hh:f= .one->kK md=Α\/md= .any)
  (ux:(op= .eql/\bb=b)\/(op= .neq/\bb= !b)) (hq:PU P tab 9 t (.agg xs) (.agg ys)=φ b) (T0:P.eqGuardType P.depth t=γ) (hx:ev e x=φ (.agg xs)) (hy:ev e y=φ (.agg ys)) (hg:aQ ops (.mk d (.binOp op t x y t') ty ps af g) e=φ Α) (hd:bL n d=Α)
  (h:WL P tab n D md ops Q L (bt d (.v (.bool bb)) e) O):VL P n D md ops ((f,.mk d (.binOp op t x y t') ty ps af g)::L) e O Q:=by
 refine VL.pure Py hh hg hd (λG a hf=>?_) (WL.sound ht h);have h1:=hf.ev hx;have h2:=hf.ev hy;have hr:=λw=>PV (P:=P) ht 9 hq h1 h2 9991 w
 generalize hu:a.eval x=u at h1 hr;generalize hv:a.eval y=v at h2 hr;cases h1 with
 | agg a1 a2=>
   cases h2 with
   | agg b1 b2=>
     rename_i us vs;refine ey.of (s:=do eqGuard op t x y (.agg us.toArray) (.agg vs.toArray);binOp op t (.agg us.toArray) (.agg vs.toArray)) (bu.of (u:=.bool bb) (λw _=>?_) (.v rfl)) (by simp[execOp,hu,hv]);rw[Sem.run_bind,run_eqGuard_agg w op t x y _ _ T0,Result.andThen_ok];rcases ux with⟨rfl,rfl⟩ | ⟨rfl,rfl⟩;rw[run_eql_struct,hr w];rfl;rw[run_neq_struct,hr w];rfl
def WR.Zf(h:WR G O w){C:Array Value}{t:TypeId}{fr fr':Nat×Nat}{w':World}(hb:w.heap[b]?=φ (.cells C t fr))(hB:G.B<=b)(o_:w'.heap[b]?=φ (.cells C t fr'))(ho:∀j,j≠b->w'.heap[j]?=w.heap[j]?)(hs:w'.heap.size=w.heap.size)
  (hos:w'.os=w.os) (akm:w'.tape=w.tape) (al2:w'.output=w.output) (fC:∀j,O.hp j≠Β->G.cu j≠φ b) (xK:∀t c x,O.hp t=φ .tok->G.tok t=φ (c,x)->c≠b):WR G O w':=by
 have cj:∀p,w'.cell? p=w.cell? p:=λp=>by
  by_cases e:p.block=b;simp only[World.cell?,e,hb,o_];simp only[World.cell?,ho _ e]
 refine⟨⟨hos.trans h.base.os,akm.trans h.base.tape,al2.trans h.base.output,by rw[hs];exact h.base.size,λj hj=>by rw[ho j (by have:j<G.B:=hj;omega)];exact h.base.block j hj⟩,λb' o u hc=>by rw[cj];exact h.fB b' o u hc,h.sq,λk c hk=>?_,h.inj,λk cs hk=>?_,λk es ck hk=>?_,λt ht=>?_,h.nM,
  h.rq id (λ_ _ _ _ h=>h) λk b' s _ hs'=>?_,h.uu id (λ_ _ h=>h) λk x b' hk hb hx=>by rw[ho b' (λe=>fC k (by rw[hk];simp) (e▸hb))];exact hx,h.tI,h.Eb⟩
 ·obtain⟨h1,h2,h3⟩:=h.lU k c hk;exact⟨h1,by rw[hs];exact h2,h3⟩
 ·obtain⟨c,D,T',h1,h2,h3⟩:=h.cells k cs hk;exact⟨c,D,T',h1,by rw[ho c (λe=>fC k (by rw[hk];simp) (e▸h1))];exact h2,h3⟩
 ·obtain⟨c,E,h1,h2,h3⟩:=h.map k es ck hk;exact⟨c,E,h1,by rw[ho c (λe=>fC k (by rw[hk];simp) (e▸h1))];exact h2,h3⟩
 ·obtain⟨c,f,k,r,D,T',h1,h2,h3,h4⟩:=h.tok t ht;exact⟨c,f,k,r,D,T',h1,h2,by rw[ho c (xK t c _ ht h1)];exact h3,h4⟩
 ·by_cases e:b'=b;subst e;simp only[World.shape?,hb]at hs';simp only[World.shape?,o_];exact hs';exact jO (λx hx=>by rw[ho _ e];exact hx) hs'
def acg:Op->Bool
 | .call c=>match c.callee with
   | .builtin .unsafeString=>Α
   | _=>γ
 | _=>γ
def Ac(md:Md)(ops:Array Oper):Bool:=match md with
 | .held brk=> !brk.isEmpty&&(Ν ops.size).all λi=> !((ops[i]?).map λo=>acg o.op).getD γ||brk.contains i
 | _=>Α
def Ad(h:Ac md ops=Α):∀brk,md= .held brk->brk≠[]:=by
 rintro brk rfl rfl;simp[Ac]at h
def KV(h:Ac md ops=Α)(ho:acg o.op=Α):∀brk,md= .held brk->∀i,ops[i]?=φ o->brk.contains i=Α:=by
 rintro brk rfl i hi;simp only[Ac,Ti]at h
 have:=alO.1 h.2 i (aqk.2 (by
  rcases ap9 i ops.size with h' | h';exact h';rw[aoT h']at hi;cases hi))
 simpa[hi,ho]using this
def VL.al3(ht:aR P tab){pt it ty el:TypeId}{c:Nat}{l:Ρ} 
  (dw:Ac md ops=Α)
  (hp:(tab pt).map c6.under=φ (.pointer el)) (hce:P.cellsOf el=1) (cU:Row O el 1 B k c (l.map im)) (F9:l≠[]) (hl:Ζ l<=maxLen)
  (hx:ev e x=φ (.p k 0)) (hy:ev e y=φ (.v (Ι Κ (Ζ l)))) (hg:aQ ops (.mk d (.call {callee:=.builtin .unsafeString,args:= #[x,y],argTypes:= #[pt,it]}) ty ps af g) e=φ Α) (hd:bL n d=Α)
  (h:WL P tab n D md ops Q L (bt d (.s l) e) (O.kill k)):VL P n D md ops ((.one,.mk d (.call {callee:=.builtin .unsafeString,args:= #[x,y],argTypes:= #[pt,it]}) ty ps af g)::L) e O Q:=by
 refine VL.kL (M:=λm O'=>m= .s l/\O'=O.kill k) hg hd (λ_=>Ad dw) (λbrk hb=>.inr (Ad dw brk hb)) (λG a w hw hf=>?_) (KV dw rfl) (by rintro m O' ⟨rfl,rfl⟩;exact WL.sound ht h);have mK:=hf.ev hx;have AE:=hf.ev hy;generalize rD:a.eval x=u at mK;generalize BQ:a.eval y=v at AE;have AE:=AE.j8;subst AE;cases mK with
 | p hph=>
   rename_i b;obtain⟨sp,fK,jm⟩:=cU.cells;obtain⟨b',C,T,d1,d2,d3⟩:=hw.cells k _ fK;rw[hph]at d1;injection d1 with d1;subst d1;obtain⟨j,_,_,hj⟩:=cU.mC;obtain⟨b2,s1,s2⟩:=hw.mC j k _ _ hj;rw[hph]at s1;injection s1 with s1;subst s1;have hL:=d3.take (Ζ l);(have e1:(l.map im++sp).take (Ζ l)=l.map im:=by rw[List.take_append_of_le_length (by simp),alV (by simp)]);rw[e1,List.take_take,Nat.min_eq_left (by simp)]at hL;have hL2:=PL hL
   have cj:∀j x,l[j]?=φ x->w.cell? ((⟨b,0,Β⟩:Addr).add j)=φ (.int .u8 x.toNat):=λi x hx=>by
    rw[Addr.add_lit,alP];simp only[World.cell?,d2,akd,ake,if_false];(((have:(C.toList.take (Ζ l))[i]?=φ (Value.int .u8 x.toNat):=by rw[hL2,alR,hx];rfl);rw[akc]at this;split at this);simpa using this);cases this
   have cT:=Lib.run_unsafeString_row (P:=P) w pt it ty el (bZ ht hp) hce b _ s2 l F9 (by rw[YI,aqh]at jm;omega) hl cj;have AF:(Ζ l)≠0:=by simpa using F9
   have hfz:(w.freeze ⟨b,0,Β⟩ (Ζ l)).heap[b]?=φ (.cells C T.t (if T.fr.1==T.fr.2 then(0,0+Ζ l)else(min T.fr.1 0,max T.fr.2 (0+Ζ l)))):=by
    simp[World.freeze,AF,ap3,d2]
   have al4:∀j,j≠b->(w.freeze ⟨b,0,Β⟩ (Ζ l)).heap[j]?=w.heap[j]?:=λj hj=>by
    simp[World.freeze,AF,ap3,Ne.symm hj]
   refine⟨.s l,O.kill k,.string ⟨⟨l⟩⟩,w.freeze ⟨b,0,Β⟩ (Ζ l),G,⟨rfl,rfl⟩,?_,Gh.Le.refl G,?_,.s⟩;rotate_left
   ·refine(hw.kill k).Zf d2 (hw.lU k b hph).1 hfz al4 (by simp[World.freeze,AF]) (by simp[World.freeze,AF]) (by simp[World.freeze,AF]) (by simp[World.freeze,AF]) (λj hj hjb=>?_) λt c x di Tv e=>?_
    ·by_cases e:j=k;subst e;exact hj (aN _ _ _)
     ·have T_:O.hp j≠Β:=by rwa [show(O.kill k).hp j=O.hp j from aA _ _ e]at hj
      exact e (hw.inj j k b T_ (by rw[fK];simp) hjb hph)
    ·subst e;((have e:t≠k:=λe=>by subst e;rw[show(O.kill t).hp t=Β from aN _ _ _]at di;cases di);rw[show(O.kill k).hp t=O.hp t from aA _ _ e]at di;obtain⟨_,_,_,_,_,_,q1,_,_,_,_,q7⟩:=hw.tok t di;rw[Tv]at q1;injection q1 with q1;injection q1 with q1 _;subst q1);exact q7 k hph
   ·simp[execOp,resolve,invoke,builtin,rD,BQ,cT]
def VL.akn(ht:aR P tab){pt it ty:TypeId} 
  (dw:Ac md ops=Α)
  (hx:ev e x=φ (.v (.pointer Β))) (hy:ev e y=φ (.v (Ι Κ 0))) (hg:aQ ops (.mk d (.call {callee:=.builtin .unsafeString,args:= #[x,y],argTypes:= #[pt,it]}) ty ps af g) e=φ Α) (hd:bL n d=Α)
  (h:WL P tab n D md ops Q L (bt d (.s []) e) O):VL P n D md ops ((.one,.mk d (.call {callee:=.builtin .unsafeString,args:= #[x,y],argTypes:= #[pt,it]}) ty ps af g)::L) e O Q:=by
 refine VL.kL (M:=λm O'=>m= .s []/\O'=O) hg hd (λ_=>Ad dw) (λbrk hb=>.inr (Ad dw brk hb)) (λG a w hw hf=>?_) (KV dw rfl) (by rintro m O' ⟨rfl,rfl⟩;exact WL.sound ht h);have mK:=(hf.ev hx).j8;have AE:=(hf.ev hy).j8;have cT:=Lib.run_unsafeString_none (P:=P) w pt it ty Β;refine⟨_,_,_,w,G,⟨rfl,rfl⟩,?_,Gh.Le.refl G,hw,.s⟩;simp[execOp,resolve,invoke,builtin,mK,AE,cT];rfl
def VL.toU(ht:aR P tab){src dst ty el t:TypeId}{s:Nat}(hmd:md= .plain\/md= .any)
  (hs:(tab src).map c6.under=φ (.pointer el)) (PW:(tab dst).map c6.under=φ .unsafePointer) (he:tab el=φ te) (hz:te.size≠0) (hj:O.hp j=φ (.shape k t s)) (Zg:0<s)
  (hx:ev e x=φ (.p k 0)) (hg:aQ ops (.mk d (.convert src dst x) ty ps af g) e=φ Α) (hd:bL n d=Α) (h:WL P tab n D md ops Q L (bt d (.p k 0) e) O):
  VL P n D md ops ((.one,.mk d (.convert src dst x) ty ps af g)::L) e O Q:=by
 refine VL.rB (M:=λm O'=>m= .p k 0/\O'=O) (λG a w hw hf=>?_) (by rintro m O' ⟨rfl,rfl⟩;exact WL.sound ht h) (hmd:=hmd) (hg:=hg) (hd:=hd);have mK:=hf.ev hx;generalize rD:a.eval x=u at mK;cases mK with
 | p hp=>
   rename_i b;obtain⟨ti,z,i1,i2,_⟩:=(ht _ te he).info;obtain⟨b2,s1,s2⟩:=hw.mC j k _ _ hj;rw[hp]at s1;injection s1 with s1;subst s1;have hr:=Lib.run_to_unsafe (P:=P) w ⟨b,0,Β⟩ (bZ ht hs) (bZ ht PW) i1 (by rw[i2];exact hz) s2 Zg;exact⟨_,_,_,w,G,⟨rfl,rfl⟩,by simp[execOp,rD,hr],Gh.Le.refl G,hw,.p hp⟩
def VL.ako(ht:aR P tab){src dst ty el t:TypeId}{s:Nat}(hmd:md= .plain\/md= .any)
  (hs:(tab src).map c6.under=φ .unsafePointer) (PW:(tab dst).map c6.under=φ (.pointer el)) (he:tab el=φ te) (hj:O.hp j=φ (.shape k t s)) (hl:liesAt P P.depth t (s / P.cellsOf t) 0 el 1=Α)
  (hx:ev e x=φ (.p k 0)) (hg:aQ ops (.mk d (.convert src dst x) ty ps af g) e=φ Α) (hd:bL n d=Α) (h:WL P tab n D md ops Q L (bt d (.p k 0) e) O):
  VL P n D md ops ((.one,.mk d (.convert src dst x) ty ps af g)::L) e O Q:=by
 refine VL.rB (M:=λm O'=>m= .p k 0/\O'=O) (λG a w hw hf=>?_) (by rintro m O' ⟨rfl,rfl⟩;exact WL.sound ht h) (hmd:=hmd) (hg:=hg) (hd:=hd);have mK:=hf.ev hx;generalize rD:a.eval x=u at mK;cases mK with
 | p hp=>
   rename_i b;obtain⟨ti,z,i1,i2,_⟩:=(ht _ te he).info;obtain⟨b2,s1,s2⟩:=hw.mC j k _ _ hj;rw[hp]at s1;injection s1 with s1;subst s1;have hr:=Lib.run_from_unsafe (P:=P) w ⟨b,0,Β⟩ (bZ ht hs) (bZ ht PW) i1 s2 hl;exact⟨_,_,_,w,G,⟨rfl,rfl⟩,by simp[execOp,rD,hr],Gh.Le.refl G,hw,.p hp⟩
end
section
variable{tab:cL}{t t' el:TypeId}{O:VH}{a b c d a' b' k o n off:Nat}{z y z':Η}{u:TypeDesc}{cs ds:Η}{tk:Tok}{l:Ρ}{m q:MV}{i j:Int}{kk kk':IntKind}{x:Value}
def u_:Option c6->MV->Option MV
 | some ⟨.string,_,_,_⟩,.s l=>φ (.v (Ι Κ (Ζ l)))
 | some ⟨.slice _,_,_,_⟩,.l n _ _=>φ (.v (Ι Κ n))
 | some ⟨.slice _,_,_,_⟩,.aS _ _ n _=>φ (.v (Ι Κ n))
 | some ⟨.map _ _,_,_,_⟩,.v (.map Β)=>φ (.v (Ι Κ 0))
 | some ⟨.array n _,_,_,_⟩,_=>φ (.v (Ι Κ n))
 | _,_=>Β
def oB:cS tab t m=u_ (tab t) m:=by
 unfold cS u_;cases tab t with
 | none=>rfl
 | some r=>obtain⟨d,_,_,_⟩:=r;cases d<;>cases m<;>first | rfl | (rename_i v;cases v<;>first | rfl | (rename_i q;cases q<;>rfl))
def Zh:u_ (φ ⟨.string,a,b,z⟩) (.s l)=φ (.v (Ι Κ (Ζ l))):=rfl
def ach:u_ (φ ⟨.slice el,a,b,z⟩) (.l n cs tk)=φ (.v (Ι Κ n)):=rfl
def Zi:u_ (φ ⟨.slice el,a,b,z⟩) (.aS k o n c)=φ (.v (Ι Κ n)):=rfl
def Zj:u_ (φ ⟨.map t t',a,b,z⟩) (.v (.map Β))=φ (.v (Ι Κ 0)):=rfl
def Zk:u_ (φ ⟨.map t t',a,b,z⟩) (.map k)=Β:=rfl
def Zl:u_ (φ ⟨.array n el,a,b,z⟩) m=φ (.v (Ι Κ n)):=by cases m<;>rfl
def aci(O:VH)(s:Option (MV×VH)):ϱ->Option (MV×VH)
 | some r=>φ (r,O)
 | none=>s
def Ua{s:Option (MV×VH)}:aci O s (φ m)=φ (m,O):=rfl
def Ub{s:Option (MV×VH)}:aci O s Β=s:=rfl
def Zm{d:Option Tmp}{x:Operand}{ty:TypeId}{p:String} :dZ tab (.mk d (.call {callee:=.builtin .len,args:= #[x],argTypes:= #[t]}) ty p af g) e O=(ev e x).bind λq=>aci O ((su tab O t q).map (·,O)) (u_ (tab t) q):=by
 rw[Po];cases ev e x with
 | none=>rfl
 | some q=>
   simp only[ap2,oB];cases u_ (tab t) q<;>rfl
def PX(tab:cL)(m ix:MV):Option c6->Option MV
 | some r=>match ix,r.under,m with
   | .v (.int _ i),.slice el,.l n cells _=>match tab el with
     | some te=>if 0<=i/\i<(n:Int)then φ (.d_ cells (i.toNat*te.size))else Β
     | none=>Β
   | .v (.int _ i),.slice el,.aS k o n _=>match tab el with
     | some te=>if 0<=i/\i<(n:Int)then φ (.p k (o+i.toNat*te.size))else Β
     | none=>Β
   | .v (.int _ i),.array len el,x=>match tab el with
     | some te=>if 0<=i/\i<(len:Int)then xM (i.toNat*te.size) x else Β
     | none=>Β
   | _,_,_=>Β
 | none=>Β
def aiD:oO tab t m q=PX tab m q (tab t):=by
 unfold oO PX;cases h:tab t with
 | none=>cases q<;>first | rfl | (rename_i v;cases v<;>rfl)
 | some r=>
   obtain⟨d,_,_,_⟩:=r;((cases q<;>first | rfl | skip);rename_i v;cases v<;>first | rfl | skip);cases d<;>cases m<;>rfl
def ixS(i:Int)(n:Nat)(cs:Η):Option c6->Option MV
 | some te=>if 0<=i/\i<(n:Int)then φ (.d_ cs (i.toNat*te.size))else Β
 | none=>Β
def ixR(i:Int)(n k o:Nat):Option c6->Option MV
 | some te=>if 0<=i/\i<(n:Int)then φ (.p k (o+i.toNat*te.size))else Β
 | none=>Β
def ixA(i:Int)(n:Nat)(m:MV):Option c6->Option MV
 | some te=>if 0<=i/\i<(n:Int)then xM (i.toNat*te.size) m else Β
 | none=>Β
def agr:PX tab (.l n cs tk) (.v (.int kk i)) (φ ⟨.slice el,a,b,z⟩)=ixS i n cs (tab el):=by unfold PX ixS;rfl
def acj:PX tab (.aS k o n c) (.v (.int kk i)) (φ ⟨.slice el,a,b,z⟩)=ixR i n k o (tab el):=by unfold PX ixR;rfl
def ack:PX tab m (.v (.int kk i)) (φ ⟨.array n el,a,b,z⟩)=ixA i n m (tab el):=by unfold PX ixA;cases m<;>rfl
def ags(h0:0<=i)(h1:i<(n:Int)):ixS i n cs (φ ⟨u,a,b,z⟩)=φ (.d_ cs (i.toNat*a)):=if_pos ⟨h0,h1⟩
def agt(h0:0<=i)(h1:i<(n:Int)):ixR i n k o (φ ⟨u,a,b,z⟩)=φ (.p k (o+i.toNat*a)):=if_pos ⟨h0,h1⟩
def agu(h0:0<=i)(h1:i<(n:Int)):ixA i n m (φ ⟨u,a,b,z⟩)=xM (i.toNat*a) m:=if_pos ⟨h0,h1⟩
def acm:xM a (.p k o)=φ (.p k (o+a)):=rfl
def acn:xM a (.d_ cs o)=φ (.d_ cs (o+a)):=rfl
def inT(l:Ρ)(i:Int):Option c6->Option MV
 | some ⟨.string,_,_,_⟩=>if 0<=i then(l[i.toNat]?).map im else Β
 | _=>Β
def al5:zT tab t (.s l) (.v (.int kk i))=inT l i (tab t):=by
 unfold zT inT;cases tab t with
 | none=>rfl
 | some r=>obtain⟨d,_,_,_⟩:=r;cases d<;>rfl
def agv(h:0<=i):inT l i (φ ⟨.string,a,b,z⟩)=(l[i.toNat]?).map im:=if_pos h
def ldT(off:Nat):Option c6->Option cx->Option MV
 | some r,φ (.cells cs)=>pr (eP r.under) r.size cs off
 | _,_=>Β
def al6:gj tab O t (.p k off)=ldT off (tab t) (O.hp k):=by
 unfold gj ldT;simp only[cellsOf];cases tab t<;>first | rfl | (cases O.hp k<;>first | rfl | (rename_i x;cases x<;>rfl))
def al7:gj tab O t (.d_ cs off)=ldT off (tab t) (φ (.cells cs)):=by
 unfold gj ldT cellsOf;cases tab t<;>rfl
def agw:ldT off (φ ⟨u,a,b,z⟩) (φ (.cells cs))=pr (eP u) a cs off:=rfl
def aco:pr γ a cs off=cs[off]?:=rfl
def acp(h:off+a<=Ζ cs):pr Α a cs off=φ (.agg ((cs.drop off).take a)):=by simp[pr,h]
def Zn:eP .bool=γ:=rfl
def acq:eP (.int kk)=γ:=rfl
def acr:eP .string=γ:=rfl
def acs:eP (.pointer t)=γ:=rfl
def agx:eP (.slice t)=γ:=rfl
def acu:eP (.map t t')=γ:=rfl
def acv:eP (.array n t)=Α:=rfl
def agy{ms:Array (String×TypeId)}:eP (.interface ms)=γ:=rfl
def agz{ps rs:Array TypeId}{v:Bool}:eP (.func ps rs v)=γ:=rfl
def Em(O:VH)(k off:Nat)(m:MV):Option c6->Option cx->Option VH
 | some r,φ (.cells cs)=>if(eQ m).length=r.size/\(eQ m).all eI=Α/\off+r.size<=(Ζ cs) then φ (O.set k (.cells (fq cs off (eQ m))))else Β
 | _,_=>Β
def al8:zQ tab O t (.p k off) m=Em O k off m (tab t) (O.hp k):=by
 unfold zQ Em;cases tab t with
 | none=>rfl
 | some r=>
   simp only;cases O.hp k with
   | none=>rfl
   | some x=>cases x<;>rfl
def sC{m:MV}(hm:eQ m=[m])(hl:eI m=Α)(h:off<Ζ cs):Em O k off m (φ ⟨u,1,b,z⟩) (φ (.cells cs))=φ (O.set k (.cells (cs.set off m))):=by
 show(if(eQ m).length=1/\(eQ m).all eI=Α/\off+1<=(Ζ cs) then φ (O.set k (.cells (fq cs off (eQ m))))else Β)=_;rw[if_pos ⟨by rw[hm];rfl,by rw[hm];simpa using hl,by omega⟩,hm];rfl
def akp(h:off<Ζ cs):Em O k off (.v x) (φ ⟨u,1,b,z⟩) (φ (.cells cs))=φ (O.set k (.cells (cs.set off (.v x)))):=sC rfl rfl h
def akq(h:off<Ζ cs):Em O k off (.s l) (φ ⟨u,1,b,z⟩) (φ (.cells cs))=φ (O.set k (.cells (cs.set off (.s l)))):=sC rfl rfl h
def akr(h:off<Ζ cs):Em O k off (.p c o) (φ ⟨u,1,b,z⟩) (φ (.cells cs))=φ (O.set k (.cells (cs.set off (.p c o)))):=sC rfl rfl h
def aks(h:off<Ζ cs):Em O k off (.d_ ds o) (φ ⟨u,1,b,z⟩) (φ (.cells cs))=φ (O.set k (.cells (cs.set off (.d_ ds o)))):=sC rfl rfl h
def agA(h:off<Ζ cs):Em O k off (.l n ds tk) (φ ⟨u,1,b,z⟩) (φ (.cells cs))=φ (O.set k (.cells (cs.set off (.l n ds tk)))):=sC rfl rfl h
def acw(h:off<Ζ cs):Em O k off (.aS c o n d) (φ ⟨u,1,b,z⟩) (φ (.cells cs))=φ (O.set k (.cells (cs.set off (.aS c o n d)))):=sC rfl rfl h
def acx(h:off<Ζ cs):Em O k off (.map c) (φ ⟨u,1,b,z⟩) (φ (.cells cs))=φ (O.set k (.cells (cs.set off (.map c)))):=sC rfl rfl h
def agB(h:off<Ζ cs):Em O k off (.iface t m) (φ ⟨u,1,b,z⟩) (φ (.cells cs))=φ (O.set k (.cells (cs.set off (.iface t m)))):=sC rfl rfl h
def agC{fn:Fn}(h:off<Ζ cs):Em O k off (.func fn ds z') (φ ⟨u,1,b,z⟩) (φ (.cells cs))=φ (O.set k (.cells (cs.set off (.func fn ds z')))):=sC rfl rfl h
def acz(h1:Ζ ds=a)(h2:ds.all eI=Α)(h:off+a<=Ζ cs):Em O k off (.agg ds) (φ ⟨u,a,b,z⟩) (φ (.cells cs))=φ (O.set k (.cells (fq cs off ds))):=if_pos ⟨h1,h2,h⟩
def MM:fq cs off []=cs:=rfl
def JM:fq cs off (m::ds)=fq (cs.set off m) (off+1) ds:=rfl
def agD:eI (.v x)=Α:=rfl
def agE:eI (.s l)=Α:=rfl
def agF:eI (.p k o)=Α:=rfl
def agG:eI (.d_ cs o)=Α:=rfl
def acA:eI (.l n cs tk)=Α:=rfl
def Zo:eI (.aS k o n c)=Α:=rfl
def Zp:eI (.map k)=Α:=rfl
def acB:eI (.iface t m)=Α:=rfl
def acC{fn:Fn}:eI (.func fn cs ds)=Α:=rfl
section
variable{X:cx}{k':Nat}{s:Nat}
def agH(h:k'=k):(O.set k X).hp k'=φ X:=by subst h;exact υ _ _ _
def Uc(h:k'≠k):(O.set k X).hp k'=O.hp k':=π _ _ h
def acD(h:k'=O.N):(O.push X).hp k'=φ X:=by subst h;exact ζ _ _
def PY(h:k'≠O.N):(O.push X).hp k'=O.hp k':=VH.mG _ _ h
def PZ(h:k'≠k):(O.kill k).hp k'=O.hp k':=VH.mH _ h
def dI:(O.set k X).N=O.N:=rfl
def jA:(O.push X).N=O.N+1:=rfl
def HL:(O.kill k).N=O.N:=rfl
end
def P1{d:Option Tmp}{ty:TypeId}{p:String} :dZ tab (.mk d (.alloc t) ty p af g) e O=(tab t).map λi=>(.p O.N 0,z7 O t i.size i.zero):=rfl
def alB(O:VH)(t:TypeId)(n:Nat)(z:Η):Bool->VH
 | true=>(O.push (.cells z)).push (.shape O.N t n)
 | false=>O.push (.cells z)
def Ud:z7 O t n z=alB O t n z (h_ z):=by unfold z7 alB;cases h_ z<;>rfl
def akt:alB O t n z Α=(O.push (.cells z)).push (.shape O.N t n):=rfl
def aku:alB O t n z γ=O.push (.cells z):=rfl
def akv:h_ [.v (.pointer Β),.l 0 [] .nil]=Α:=rfl
def akw:h_ []=γ:=rfl
def akx:h_ [m]=γ:=by unfold h_;split<;>first | rfl | simp_all
def aky{m1 m2 m3:MV}:h_ (m1::m2::m3::z)=γ:=by unfold h_;split<;>first | rfl | simp_all
def acE:h_ [.v (.int kk i),m]=γ:=by unfold h_;split<;>first | rfl | simp_all
def Zq{b:Bool}:h_ [.v (.bool b),m]=γ:=by unfold h_;split<;>first | rfl | simp_all
def acF:h_ [.s l,m]=γ:=by unfold h_;split<;>first | rfl | simp_all
def agI:h_ [.l n cs tk,m]=γ:=by unfold h_;split<;>first | rfl | simp_all
def agJ:h_ [m,.s l]=γ:=by unfold h_;split<;>first | rfl | simp_all
def agK:h_ [m,.v x]=γ:=by unfold h_;split<;>first | rfl | simp_all
def v8(tab:cL)(x:MV)(l h:ϱ):Option c6->Option MV
 | some ⟨.string,_,_,_⟩=>match x with
   | .s s=>match dR 0 l,dR (Ζ s) h with
     | some lo,φ hi=>if lo<=hi/\hi<=(Ζ s) then φ (.s ((s.drop lo).take (hi - lo)))else Β
     | _,_=>Β
   | _=>Β
 | some ⟨.slice el,_,_,_⟩=>match x with
   | .l n cells tk=>match tab el,dR 0 l,dR n h with
     | some te,φ lo,φ hi=>
       if lo=0/\hi=n then φ (.l n cells tk)
       else if lo<=hi/\hi<=n/\(Ζ cells)=n*te.size then φ (.l (hi - lo) ((cells.drop (lo*te.size)).take ((hi - lo)*te.size)) (vS tk te.size (hi==n)))else Β
     | _,_,_=>Β
   | .aS k o n c=>match tab el,dR 0 l,dR n h with
     | some te,φ lo,φ hi=>if lo<=hi/\hi<=c then φ (.aS k (if c=lo then o else o+lo*te.size) (hi - lo) (c - lo))else Β
     | _,_,_=>Β
   | _=>Β
 | _=>Β
def al9{l:ϱ}:zX tab t m l h=v8 tab m l h (tab t):=by
 unfold zX v8;cases tab t with
 | none=>rfl
 | some r=>obtain⟨d,_,_,_⟩:=r;cases d<;>cases m<;>rfl
def akz(h0:0<=i)(h1:i<=j)(h2:j<=(Ζ l:Int)):v8 tab (.s l) (φ (.v (.int kk i))) (φ (.v (.int kk' j))) (φ ⟨.string,a,b,z⟩)=φ (.s ((l.drop i.toNat).take (j.toNat - i.toNat))):=by
 have e1:0<=j:=by omega
 simp only[v8,dR,if_pos h0,if_pos e1];rw[if_pos ⟨by omega,by omega⟩]
def agL(h0:0<=i)(h1:i<=(Ζ l:Int)):v8 tab (.s l) (φ (.v (.int kk i))) Β (φ ⟨.string,a,b,z⟩)=φ (.s (l.drop i.toNat)):=by
 simp only[v8,dR,if_pos h0];rw[if_pos ⟨by omega,by omega⟩,alV (by simp)]
def agM(h1:0<=j)(h2:j<=(Ζ l:Int)):v8 tab (.s l) Β (φ (.v (.int kk j))) (φ ⟨.string,a,b,z⟩)=φ (.s (l.take j.toNat)):=by
 simp only[v8,dR,if_pos h1];rw[if_pos ⟨by omega,by omega⟩];simp
def F_(k o lo hi c:Nat):Option c6->Option MV
 | some te=>φ (.aS k (if c=lo then o else o+lo*te.size) (hi - lo) (c - lo))
 | none=>Β
def akA(h0:0<=i)(h1:i<=j)(h2:j<=(c:Int)):v8 tab (.aS k o n c) (φ (.v (.int kk i))) (φ (.v (.int kk' j))) (φ ⟨.slice el,a,b,z⟩)=F_ k o i.toNat j.toNat c (tab el):=by
 have e1:0<=j:=by omega
 simp only[v8,dR,if_pos h0,if_pos e1,F_];cases tab el with
 | none=>rfl
 | some te=>simp only;rw[if_pos ⟨by omega,by omega⟩]
def agN(h0:0<=i)(h1:i<=(n:Int))(h2:n<=c):v8 tab (.aS k o n c) (φ (.v (.int kk i))) Β (φ ⟨.slice el,a,b,z⟩)=F_ k o i.toNat n c (tab el):=by
 simp only[v8,dR,if_pos h0,F_];cases tab el with
 | none=>rfl
 | some te=>simp only;rw[if_pos ⟨by omega,h2⟩]
def agO(h1:0<=j)(h2:j<=(c:Int)):v8 tab (.aS k o n c) Β (φ (.v (.int kk j))) (φ ⟨.slice el,a,b,z⟩)=F_ k o 0 j.toNat c (tab el):=by
 simp only[v8,dR,if_pos h1,F_];cases tab el with
 | none=>rfl
 | some te=>simp only;rw[if_pos ⟨by omega,by omega⟩]
def akB:F_ k o 0 n c (φ ⟨u,a,b,z⟩)=φ (.aS k o n c):=by
 simp only[F_];congr 2
 split<;>simp
def agP{lo:Nat}(h:c≠lo):F_ k o lo hi c (φ ⟨u,a,b,z⟩)=φ (.aS k (o+lo*a) (hi - lo) (c - lo)):=by
 simp only[F_,if_neg h]
def agQ{lo:Nat}(h:c=lo):F_ k o lo hi c (φ ⟨u,a,b,z⟩)=φ (.aS k o (hi - lo) (c - lo)):=by
 simp only[F_,if_pos h]
def P4(n lo hi:Nat)(cs:Η)(tk:Tok):Option c6->Option MV
 | some te=>if lo=0/\hi=n then φ (.l n cs tk)
    else if lo<=hi/\hi<=n/\(Ζ cs)=n*te.size then φ (.l (hi - lo) ((cs.drop (lo*te.size)).take ((hi - lo)*te.size)) (vS tk te.size (hi==n)))else Β
 | none=>Β
def C1{l:ϱ}{lo:Nat}(hl:dR 0 l=φ lo)(hh:dR n h=φ hi):v8 tab (.l n cs tk) l h (φ ⟨.slice el,a,b,z⟩)=P4 n lo hi cs tk (tab el):=by
 show(match tab el,dR 0 l,dR n h with
   | some te,φ lo,φ hi=>
     if lo=0/\hi=n then φ (MV.l n cs tk)
     else if lo<=hi/\hi<=n/\(Ζ cs)=n*te.size then φ (.l (hi - lo) ((cs.drop (lo*te.size)).take ((hi - lo)*te.size)) (vS tk te.size (hi==n)))else Β
   | _,_,_=>Β)=_
 rw[hl,hh];cases tab el<;>rfl
def akC(h0:0<=i)(h1:0<=j):v8 tab (.l n cs tk) (φ (.v (.int kk i))) (φ (.v (.int kk' j))) (φ ⟨.slice el,a,b,z⟩)=P4 n i.toNat j.toNat cs tk (tab el):=C1 (if_pos h0) (if_pos h1)
def agR(h0:0<=i):v8 tab (.l n cs tk) (φ (.v (.int kk i))) Β (φ ⟨.slice el,a,b,z⟩)=P4 n i.toNat n cs tk (tab el):=C1 (if_pos h0) rfl
def agS(h0:0<=j):v8 tab (.l n cs tk) Β (φ (.v (.int kk j))) (φ ⟨.slice el,a,b,z⟩)=P4 n 0 j.toNat cs tk (tab el):=C1 rfl (if_pos h0)
def agT:v8 tab (.l n cs tk) Β Β (φ ⟨.slice el,a,b,z⟩)=P4 n 0 n cs tk (tab el):=C1 rfl rfl
def acG{lo:Nat}(h0:lo=0)(h1:hi=n):P4 n lo hi cs tk (φ ⟨u,a,b,z⟩)=φ (.l n cs tk):=if_pos ⟨h0,h1⟩
def Zr{lo:Nat}(h:lo≠0\/hi≠n)(h1:lo<=hi)(h2:hi<=n)(h3:Ζ cs=n*a):P4 n lo hi cs tk (φ ⟨u,a,b,z⟩)=φ (.l (hi - lo) ((cs.drop (lo*a)).take ((hi - lo)*a)) (vS tk a (hi==n))):=by
 simp only[P4];rw[if_neg (by omega),if_pos ⟨h1,h2,h3⟩]
def MN(x:MV):Option c6->Option c6->Option MV
 | some _,φ ⟨.int k,_,_,_⟩=>match x with
   | .v (.int _ i)=>φ (.v (.int k (k.wrap i)))
   | _=>Β
 | some ⟨.string,_,_,_⟩,φ ⟨.string,_,_,_⟩=>match x with
   | .s l=>φ (.s l)
   | _=>Β
 | _,_=>Β
def al_:Eh tab t t' m=MN m (tab t) (tab t'):=by
 unfold Eh MN;cases tab t with
 | none=>rfl
 | some r=>
   obtain⟨d,_,_,_⟩:=r;cases tab t' with
   | none=>cases d<;>rfl
   | some r'=>
     obtain⟨d',_,_,_⟩:=r'
     cases d'<;>first
      | (cases d<;>rfl)
      | (cases m<;>first | (cases d<;>rfl) | (rename_i v;cases v<;>cases d<;>rfl))
def acH{k':IntKind} :MN (.v (.int kk i)) (φ r) (φ ⟨.int k',a,b,z⟩)=φ (.v (.int k' (k'.wrap i))):=rfl
def acI:MN (.s l) (φ ⟨.string,a,b,z⟩) (φ ⟨.string,a',b',z'⟩)=φ (.s l):=rfl
def agU:MN m (φ ⟨.string,a,b,z⟩) (φ ⟨.slice el,a',b',z'⟩)=Β:=rfl
def agV:MN m (φ ⟨.slice el,a,b,z⟩) (φ ⟨.string,a',b',z'⟩)=Β:=rfl
def agW:MN m (φ ⟨.pointer el,a,b,z⟩) (φ ⟨.unsafePointer,a',b',z'⟩)=Β:=rfl
def agX:MN m (φ ⟨.unsafePointer,a,b,z⟩) (φ ⟨.pointer el,a',b',z'⟩)=Β:=rfl
def KW:List (Nat×Operand)->Η->List (Nat×MV)
 | (i,_)::l,m::ms=>(i,m)::KW l ms
 | _,_=>[]
def Ue(l:List (Nat×Operand))(ms:Η):iN l.toArray ms=KW l ms:=by
 unfold iN;simp only;induction l generalizing ms with
 | nil=>cases ms<;>rfl
 | cons p l ih=>cases ms with
   | nil=>rfl
   | cons m ms=>obtain⟨i,x⟩:=p;simp only[aga,List.zip_cons_cons,KW];rw[ih]
def Zs :KW [] ms=[]:=by cases ms<;>rfl
def Uf{x:Operand}{l:List (Nat×Operand)} :KW ((n,x)::l) (m::ms)=(n,m)::KW l ms:=rfl
def Ga(pl:Nat->Option (Nat×Nat))(cs:Η)(x:MV)(rest:List (Nat×MV)):Option (Nat×Nat)->Option Η
 | none=>Β
 | some (off,size)=>if(eQ x).length=size/\off+size<=(Ζ cs) then nW pl (fq cs off (eQ x)) rest else Β
def lq(l:List (Nat×Nat))(i:Nat):Option (Nat×Nat):=l[i]?
def Zt{p:Nat×Nat}{l:List (Nat×Nat)}:lq (p::l) 0=φ p:=rfl
def Zu{p:Nat×Nat}{l:List (Nat×Nat)}:lq (p::l) (n+1)=lq l n:=rfl
def Xm(a:Nat)(k:Nat):Option (Nat×Nat):=φ (k*a,a)
def Ug:Xm a k=φ (k*a,a):=rfl
def Uh :nW pl cs []=φ cs:=rfl
def P5 :nW pl cs ((n,m)::rest)=Ga pl cs m rest (pl n):=by
 rw[nW];cases h:pl n<;>rfl
def agY(h:(eQ m).length=a/\off+a<=Ζ cs):Ga pl cs m rest (φ (off,a))=nW pl (fq cs off (eQ m)) rest:=if_pos h
def bsT(tab:cL)(len:Nat)(parts:List (Nat×MV)):Option c6->Option MV
 | some ⟨.slice el,_,_,_⟩=>match tab el with
   | some te=>if 0<len*te.size/\len*te.size<=16777216/\0<(Ζ te.zero)/\len<=maxLen then
     (nW (λk=>φ (k*te.size,te.size)) (jP te.zero (len*te.size)) parts).map λcs=>.l len cs .full
     else if len=0/\parts=[]then φ (.l 0 [] .full)else Β
   | none=>Β
 | _=>Β
def ama :nh tab t n parts=bsT tab n parts (tab t):=by
 unfold nh bsT;cases tab t with
 | none=>rfl
 | some r=>obtain⟨d,_,_,_⟩:=r;cases d<;>rfl
def bsE(n:Nat)(parts:List (Nat×MV)):Option c6->Option MV
 | some te=>if 0<n*te.size/\n*te.size<=16777216/\0<(Ζ te.zero)/\n<=maxLen then
    (nW (λk=>φ (k*te.size,te.size)) (jP te.zero (n*te.size)) parts).map λcs=>.l n cs .full
   else if n=0/\parts=[]then φ (.l 0 [] .full)else Β
 | none=>Β
def agZ :bsT tab n parts (φ ⟨.slice el,a,b,z⟩)=bsE n parts (tab el):=by unfold bsT bsE;rfl
def akD :bsE 0 [] (φ r)=φ (.l 0 [] .full):=by simp[bsE]
def P6(h:Ζ z=a)(h0:0<a):∀n,jP z (n*a)=(List.replicate n z).flatten:=by
 intro n;induction n with
 | zero=>simp[jP]
 | succ n ih=>
   rw[List.replicate_succ',List.flatten_append, <-ih];simp only[jP,Nat.succ_mul];rw[List.range_add,alU];(((congr 1);subst h;simp only[List.map_map,List.flatten_cons,List.flatten_nil,List.append_nil];apply List.ext_getElem?;intro i;simp only[alR,List.getElem?_range];by_cases hi:i<Ζ z);simp[hi,Nat.mod_eq_of_lt hi]);simp[ap5 (Nat.le_of_not_lt hi),hi]
def pE:Nat->Η->Η
 | 0,_=>[]
 | n+1,z=>z++pE n z
def P7:∀n,(List.replicate n z).flatten=pE n z
 | 0=>rfl
 | n+1=>by rw[List.replicate_succ,List.flatten_cons,P7 n];rfl
def ag0:pE 1 z=z:=by simp[pE]
def ag1:pE 2 z=z++z:=by simp[pE]
def ag2:pE 3 z=z++(z++z):=by simp[pE]
def ag3:pE 4 z=z++(z++(z++z)):=by simp[pE]
def ag4:pE 5 z=z++(z++(z++(z++z))):=by simp[pE]
def ag5:pE 6 z=z++(z++(z++(z++(z++z)))):=by simp[pE]
def ag6:pE 7 z=z++(z++(z++(z++(z++(z++z))))):=by simp[pE]
def ag7:pE 8 z=z++(z++(z++(z++(z++(z++(z++z)))))):=by simp[pE]
def ag8(h:Ζ z=a)(h0:0<n*a)(h1:n*a<=16777216):bsE n parts (φ ⟨u,a,b,z⟩)=(nW (Xm a) (pE n z) parts).map (MV.l n · .full):=by
 have ha:0<a:=by rcases Nat.eq_zero_or_pos a with e | e; · subst e;omega
                 ·exact e
 have hn:n<=maxLen:=by
  have:n*1<=n*a:=Nat.mul_le_mul_left _ ha;simp[maxLen];omega
 rw[<-P7, <-P6 h ha];exact if_pos ⟨h0,h1,by show 0<Ζ z;omega,hn⟩
def bT(b:Bool):Option c6->Option MV
 | some ⟨.bool,_,_,_⟩=>φ (.v (.bool b))
 | _=>Β
def Zv{a b:Bool}:dT tab .eql t (.v (.bool a)) (.v (.bool b))=bT (a==b) (tab t):=by
 simp only[dT,bT];cases tab t with
 | none=>rfl
 | some r=>obtain⟨d,_,_,_⟩:=r;cases d<;>rfl
def Zw{a b:Bool}:dT tab .neq t (.v (.bool a)) (.v (.bool b))=bT (!(a==b)) (tab t):=by
 simp only[dT,bT];cases tab t with
 | none=>rfl
 | some r=>obtain⟨d,_,_,_⟩:=r;cases d<;>rfl
def akE{p:Bool}:bT p (φ ⟨.bool,a,b,z⟩)=φ (.v (.bool p)):=rfl
def pT(b:Bool):Option c6->Option MV
 | some ⟨.pointer _,_,_,_⟩=>φ (.v (.bool b))
 | _=>Β
def akF{p:Bool}:pT p (φ ⟨.pointer el,a,b,z⟩)=φ (.v (.bool p)):=rfl
def ag9{p:Bool}:pq tab .eql t p=pT p (tab t):=by
 simp only[pq,pT];cases tab t with
 | none=>rfl
 | some r=>obtain⟨d,_,_,_⟩:=r;cases d<;>rfl
def ag_{p:Bool}:pq tab .neq t p=pT (!p) (tab t):=by
 simp only[pq,pT];cases tab t with
 | none=>rfl
 | some r=>obtain⟨d,_,_,_⟩:=r;cases d<;>rfl
section
variable{op:BinOp}{la lb:Ρ}
def Zx:dT tab op t (.v (.pointer Β)) (.v (.pointer Β))=pq tab op t Α:=by cases op<;>rfl
def Zy:dT tab op t (.p k o) (.v (.pointer Β))=pq tab op t γ:=by cases op<;>rfl
def Zz:dT tab op t (.v (.pointer Β)) (.p k o)=pq tab op t γ:=by cases op<;>rfl
def ZA:dT tab op t (.d_ cs o) (.v (.pointer Β))=pq tab op t γ:=by cases op<;>rfl
def ZB:dT tab op t (.v (.pointer Β)) (.d_ cs o)=pq tab op t γ:=by cases op<;>rfl
def ZC:dT tab op t (.agg cs) (.agg ds)=Β:=by cases op<;>rfl
def ZD:dT tab .eql t (.s la) (.s lb)=φ (.v (.bool (la==lb))):=rfl
def ZE:dT tab .neq t (.s la) (.s lb)=φ (.v (.bool (!(la==lb)))):=rfl
def ZF:dT tab .lss t (.s la) (.s lb)=φ (.v (.bool (Op.bytesLess la lb))):=rfl
def ZG:dT tab .leq t (.s la) (.s lb)=φ (.v (.bool (Op.bytesLess la lb||la==lb))):=rfl
def ZH:dT tab .gtr t (.s la) (.s lb)=φ (.v (.bool (!(Op.bytesLess la lb||la==lb)))):=rfl
def ZI:dT tab .geq t (.s la) (.s lb)=φ (.v (.bool (!(Op.bytesLess la lb)))):=rfl
def Ui(h:Ζ la+Ζ lb<=9223372036854775807):dT tab .add t (.s la) (.s lb)=φ (.s (la++lb)):=if_pos h
end
def P8(h:tab t=φ ⟨.pointer el,a,b,z⟩){s:Nat}(h':tab el=φ ⟨u,s+1,b',z'⟩){op:BinOp}:dT tab op t (.p k o) (.p k o)=pq tab op t Α:=by
 cases op<;>simp[dT,h,h',pq]
def aO(b:UInt8):im b= .v (.int .u8 b.toNat):=rfl
def aha{n k:Nat}:((n:Int)+(k:Int)).toNat=n+k:=by omega
def acJ{n:Nat}:((n:Int)+1).toNat=n+1:=by omega
def acK{n:Nat}:((n:Int)+2).toNat=n+2:=by omega
def acL{n:Nat}:((n:Int) - 1).toNat=n - 1:=by omega
def ZJ{n:Nat}:((n+1:Nat):Int) - 1=n:=by omega
def ahb(h0:0<=i)(h1:i<=255):IntKind.u8.wrap i=i:=by
 simp only[IntKind.wrap,IntKind.signed,IntKind.bits];simp;omega
def acM(h0:0<=i)(h1:i<=18446744073709551615):IntKind.u64.wrap i=i:=by
 simp only[IntKind.wrap,IntKind.signed,IntKind.bits];simp;omega
def acN(h:0<=j):dT tab .shr t (.v (.int kk i)) (.v (.int kk' j))=φ (.v (.int kk (i.fdiv (2 ^ (min j.toNat kk.bits))))):=by
 have:¬j<0:=by omega
 simp[dT,Cu,this]
def acO:dT tab .and t (.v (.int kk i)) (.v (.int kk j))=φ (.v (.int kk (kk.wrap (BitVec.ofInt kk.bits i&&& BitVec.ofInt kk.bits j).toNat))):=by simp[dT,tV]
def acP(h:j≠0):dT tab .rem t (.v (.int kk i)) (.v (.int kk j))=φ (.v (.int kk (i.tmod j))):=YS h
def acQ(h:j≠0):dT tab .quo t (.v (.int kk i)) (.v (.int kk j))=φ (.v (.int kk (kk.wrap (i.tdiv j)))):=YR h
end
section
variable{x y z:Operand}{t t':TypeId}{f:Nat}{q:BinOp}{r:UnOp}{as_ Y4:Array Operand}{ts:Array TypeId}{l h k:Option Operand}{fn:Fn}{ps:Array (Nat×Operand)}{bb:Bool}
def acR:c8 (.move x)=γ:=rfl
def Uj:c8 (.assign x)=γ:=rfl
def acS:c8 (.pick x y z)=γ:=rfl
def MO:c8 (.nilCheck x)=γ:=rfl
def ZK:c8 (.binOp q t x y t')=γ:=rfl
def acT:c8 (.unOp r t x)=γ:=rfl
def P9:c8 (.convert t t' x)=γ:=rfl
def JN:c8 (.fieldAddr t x f)=γ:=rfl
def ZL:c8 (.field t x f)=γ:=rfl
def JO:c8 (.indexAddr t x y)=γ:=rfl
def ZM:c8 (.index t x y)=γ:=rfl
def P_:c8 (.extract x f)=γ:=rfl
def ZN:c8 (.slice t x l h k)=γ:=rfl
def ZO:c8 (.build t ps)=γ:=rfl
def MP:c8 (.makeFunc fn as_ Y4)=γ:=rfl
def C3:c8 (.makeInterface t x)=γ:=rfl
def acU:c8 (.load t x)=γ:=rfl
def ZP:c8 (.store t x y)=γ:=rfl
def ahc:c8 (.box t x)=γ:=rfl
def ZQ:c8 (.alloc t)=γ:=rfl
def HM:c8 (.buildSlice t f ps)=γ:=rfl
def Qa:c8 (.makeMap t l)=γ:=rfl
def Uk:c8 (.lookup t x y bb)=γ:=rfl
def JP:c8 (.mapUpdate t x y z)=γ:=rfl
def Ul:c8 (.insert t x y z)=γ:=rfl
def JQ:c8 (.makeSlice t x y)=γ:=rfl
def ZR:c8 (.range t x)=γ:=rfl
def acV:c8 (.next x bb)=γ:=rfl
def ZS:c8 (.entry x)=γ:=rfl
def HN:c8 (.typeAssert x t t' bb)=γ:=rfl
def ZT:c8 (.panic x)=γ:=rfl
def MQ:c8 (.mapEntry t x y)=γ:=rfl
def HO:c8 (.entryStore t x y z)=γ:=rfl
def acW:c8 (.call {callee:=.builtin .len,args:=as_,argTypes:=ts})=γ:=rfl
def acX:c8 (.call {callee:=.builtin .max,args:=as_,argTypes:=ts})=γ:=rfl
def acY:c8 (.call {callee:=.builtin .min,args:=as_,argTypes:=ts})=γ:=rfl
def yq:c8 (.call {callee:=.builtin .unsafeSliceData,args:=as_,argTypes:=ts})=γ:=rfl
def C4:c8 (.call {callee:=.builtin .unsafeString,args:=as_,argTypes:=ts})=γ:=rfl
def Um:c8 (.call {callee:=.builtin .clear,args:=as_,argTypes:=ts})=γ:=rfl
def ZU:c8 (.call {callee:=.builtin .copy,args:=as_,argTypes:=ts})=γ:=rfl
def acZ:c8 (.call {callee:=.builtin .cap,args:=as_,argTypes:=ts})=γ:=rfl
def Qb:c8 (.call {callee:=.builtin .delete,args:=as_,argTypes:=ts})=γ:=rfl
def Un:c8 (.call {callee:=.builtin .print,args:=as_,argTypes:=ts})=γ:=rfl
def MT:c8 (.call {callee:=.builtin .println,args:=as_,argTypes:=ts})=γ:=rfl
def MU:c8 (.call {callee:=.builtin .recover,args:=as_,argTypes:=ts})=γ:=rfl
def ahd:c8 (.call {callee:=.value x,args:=as_,argTypes:=ts})=Α:=rfl
def ahe:c8 (.call {callee:=.builtin .append,args:=as_,argTypes:=ts})=Α:=rfl
def ahf:JJ .one=γ:=rfl
def ahg:JJ .bh=γ:=rfl
def akG:JJ .rd=γ:=rfl
def akH:JJ .fk=Α:=rfl
end
def az.N{σ :Type}{l K:Τ}{ms: σ ->Η}{I: σ ->VH->Prop}{μ : σ ->Nat}{s: σ}(s': σ)(hI:I s' O)(hk:looks e K=φ ks:=by exact rfl)(hl:looks e l=φ (ms s'):=by exact rfl)(hm: μ s'< μ s:=by first | omega | (dsimp only;omega)):az l K ks ms I μ s Q .normal e O:=⟨hk,s',hl,hI,hm⟩
def ws0:=Ca @acR<|Ca @Uj<|Ca @acS<|Ca @MO<|Ca @ZK<|Ca @acT<|Ca @P9<|Ca @JN<|Ca @ZL<|Ca @JO<|Ca @ZM<|Ca @P_<|Ca @ZN<|Ca @ZO<|Ca @MP<|Ca @C3<|Ca @acU<|Ca @ZP<|Ca @ahc<|Ca @ZQ<|Ca @HM<|Ca @Qa<|Ca @Uk<|Ca @JP<|Ca @Ul<|Ca @JQ<|Ca @ZR<|Ca @acV<|Ca @ZS<|Ca @HN<|Ca @ZT<|Ca @MQ<|Ca @HO<|Ca @acW<|Ca @acX<|Ca @acY<|Ca @yq<|Ca @C4<|Ca @Um<|Ca @ZU<|Ca @acZ<|Ca @Qb<|Ca @Un<|Ca @MT<|Ca @MU<|Ca @ahd<|Ca @ahe<|Ca @ahf<|Ca @ahg<|Ca @akG<|Ca @akH<|Ca @agj<|Ca @abZ<|Ca @ab0<|Ca @akk<|Ca @ab1<|Ca @ab2<|Ca @ab3<|Ca @ab4<|Ca @PM<|Ca @JK<|Ca @ab5<|Ca @ab6<|Ca @Y7<|Ca @agk<|Ca @Y8<|Ca @Y9<|Ca @Y_<|Ca @agl<|Ca @ab8<|Ca @TR<|Ca @Za<|Ca @ab9<|Ca @MJ<|Ca @TT<|Ca @TU<|Ca @Zb<|Ca @FD<|Ca @ab_ @aca
def ws1:=Ca @Zc<|Ca @TV<|Ca @MK<|Ca @JL<|Ca @agm<|Ca @agn<|Ca @ago<|Ca @agp<|Ca @agq<|Ca @ML<|Ca @Zd<|Ca @PN<|Ca @xY<|Ca @CJ<|Ca @Ft<|Ca @AX<|Ca @CS<|Ca @CT<|Ca @FB<|Ca @uA<|Ca @xX<|Ca @CH<|Ca @CI<|Ca @Fs<|Ca @uz<|Ca @PH<|Ca @Xk<|Ca @Xl<|Ca @Ek<|Ca @BM<|Ca @yh<|Ca @yi<|Ca @yj<|Ca @CE<|Ca @Fo<|Ca @xW<|Ca @Fp<|Ca @CP<|Ca @Fw<|Ca @yd<|Ca @Fx<|Ca @Ab<|Ca @KO<|Ca @PB<|Ca @W5<|Ca @W6<|Ca @W7<|Ca @W8<|Ca @W9<|Ca @W_<|Ca @Xa<|Ca @KP<|Ca @KQ<|Ca @Fu<|Ca @KR<|Ca @AY<|Ca @Hv<|Ca @KS<|Ca @CN<|Ca @yb<|Ca @Hw<|Ca @yc<|Ca @Hy<|Ca @CO<|Ca @Hz<|Ca @HA<|Ca @AZ<|Ca @sB<|Ca @KT<|Ca @HB<|Ca @PC<|Ca @PD<|Ca @PF<|Ca @Fv<|Ca @TO<|Ca @HC<|Ca @PG<|Ca @HD<|Ca @wY @ye
def ws2:=Ca @aiB<|Ca @aiC<|Ca @Xd<|Ca @Xe<|Ca @Xf<|Ca @Xg<|Ca @CF<|Ca @CG<|Ca @Ht<|Ca @Hu<|Ca @ak<|Ca @Hs<|Ca @wrap_i64<|Ca @Kw<|Ca @Fm<|Ca @PI<|Ca @Xi<|Ca @Xj<|Ca @AV<|Ca @Hm<|Ca @Kx<|Ca @CC<|Ca @xT<|Ca @Hn<|Ca @xU<|Ca @Ho<|Ca @CD<|Ca @Hp<|Ca @AW<|Ca @Hq<|Ca @Pn<|Ca @Kz<|Ca @KA<|Ca @Zm<|Ca @Pp<|Ca @Pq<|Ca @Tz<|Ca @KB<|Ca @Hr<|Ca @Ps<|Ca @P1<|Ca @wX<|Ca @xV<|Ca @WY<|Ca @WZ<|Ca @Pj<|Ca @W0<|Ca @Ku<|Ca @Hk<|Ca @Hl<|Ca @CA<|Ca @Fk<|Ca @Pk<|Ca @j_<|Ca @Pl<|Ca @Kv<|Ca @KC<|Ca @KD<|Ca @KE<|Ca @KF<|Ca @KG<|Ca @KH<|Ca @KI<|Ca @KJ<|Ca @KK<|Ca @Pt<|Ca @Pu<|Ca @aq<|Ca @bB<|Ca @yl<|Ca @HE<|Ca @Zh<|Ca @ach<|Ca @Zi<|Ca @Zj<|Ca @Zk<|Ca @Zl<|Ca @Ua<|Ca @Ub @aiD
def ws3:=Ca @agr<|Ca @acj<|Ca @ack<|Ca @ags<|Ca @agt<|Ca @agu<|Ca @acm<|Ca @acn<|Ca @al5<|Ca @agv<|Ca @al6<|Ca @al7<|Ca @agw<|Ca @aco<|Ca @acp<|Ca @Zn<|Ca @acq<|Ca @acr<|Ca @acs<|Ca @agx<|Ca @acu<|Ca @acv<|Ca @agy<|Ca @agz<|Ca @al8<|Ca @akp<|Ca @akq<|Ca @akr<|Ca @aks<|Ca @agA<|Ca @acw<|Ca @acx<|Ca @agB<|Ca @agC<|Ca @acz<|Ca @MM<|Ca @JM<|Ca @agH<|Ca @Uc<|Ca @acD<|Ca @PY<|Ca @PZ<|Ca @dI<|Ca @jA<|Ca @HL<|Ca @Ud<|Ca @akt<|Ca @aku<|Ca @akv<|Ca @akw<|Ca @akx<|Ca @aky<|Ca @acE<|Ca @Zq<|Ca @acF<|Ca @agI<|Ca @agJ<|Ca @agK<|Ca @al9<|Ca @akz<|Ca @agL<|Ca @agM<|Ca @akA<|Ca @agN<|Ca @agO<|Ca @akB<|Ca @agP<|Ca @agQ<|Ca @akC<|Ca @agR<|Ca @agS<|Ca @agT<|Ca @acG<|Ca @Zr<|Ca @al_<|Ca @acH<|Ca @acI<|Ca @agU<|Ca @agV @agW
def ws4:=Ca @agX<|Ca @Ue<|Ca @Zs<|Ca @Uf<|Ca @Uh<|Ca @P5<|Ca @Zt<|Ca @Zu<|Ca @Ug<|Ca @agY<|Ca @ama<|Ca @agZ<|Ca @akD<|Ca @ag8<|Ca @ag0<|Ca @ag1<|Ca @ag2<|Ca @ag3<|Ca @ag4<|Ca @ag5<|Ca @ag6<|Ca @ag7<|Ca @Zv<|Ca @Zw<|Ca @akE<|Ca @akF<|Ca @ag9<|Ca @ag_<|Ca @Zx<|Ca @Zy<|Ca @Zz<|Ca @ZA<|Ca @ZB<|Ca @ZC<|Ca @ZD<|Ca @ZE<|Ca @ZF<|Ca @ZG<|Ca @ZH<|Ca @ZI<|Ca @Ui<|Ca @aha<|Ca @acJ<|Ca @acK<|Ca @acL<|Ca @ZJ<|Ca @ahb<|Ca @acM<|Ca @acP<|Ca @acQ<|Ca @acN<|Ca @acO<|Ca @aqg.{0,0}<|Ca @Option.bind_none.{0,0}<|Ca @Int.zero_sub<|Ca @Bool.not_true<|Ca @Bool.not_false<|Ca @Bool.or_false<|Ca @Bool.or_true<|Ca @Bool.true_or<|Ca @aqn<|Ca @Bool.and_true<|Ca @Bool.and_false<|Ca @Bool.true_and<|Ca @Bool.false_and<|Ca @decide_true<|Ca @decide_eq_true<|Ca @decide_eq_false<|Ca @alP<|Ca @Nat.mul_one<|Ca @Int.toNat_natCast<|Ca @Nat.add_zero<|Ca @Nat.sub_zero<|Ca @aqa.{0}<|Ca @List.set_cons_succ.{0}<|Ca @List.take_succ_cons.{0}<|Ca @aqj.{0}<|Ca @List.drop_succ_cons.{0}<|Ca @List.drop_zero.{0} @akf.{0}
def ws5:=Ca @af_.{0}<|Ca @agb.{0}<|Ca @ap2.{0,0}<|Ca @Option.map_some.{0,0}<|Ca @aga.{0,0}<|Ca @ap8.{0,0}<|Ca @alR.{0,0}<|Ca @List.getElem_map.{0,0}<|Ca @if_true.{1}<|Ca @if_false.{1}<|Ca @cond_true.{1}<|Ca @cond_false.{1}<|Ca @List.toList_toArray.{0}<|Ca @aqe.{0}<|Ca @aqi.{0}<|Ca @true_and<|Ca @and_true<|Ca @eq_self.{1} @ake
def ws:=Ca @ws0<|Ca @ws1<|Ca @ws2<|Ca @ws3<|Ca @ws4 @ws5
def ds:=Ca @dI<|Ca @jA<|Ca @HL<|Ca @Ek<|Ca @BM<|Ca @yh<|Ca @yi<|Ca @yj<|Ca @agD<|Ca @agE<|Ca @agF<|Ca @agG<|Ca @acA<|Ca @Zo<|Ca @Zp<|Ca @acB<|Ca @acC<|Ca @ap4.{0}<|Ca @ap7.{0}<|Ca @List.all_cons.{0}<|Ca @List.all_nil.{0}<|Ca @Bool.and_true<|Ca @Bool.true_and<|Ca @Bool.and_self<|Ca @List.length_set.{0}<|Ca @YI.{0}<|Ca @aqh.{0,0}<|Ca @and_true<|Ca @true_and<|Ca @eq_self.{1}<|Ca @Option.some.injEq.{0}<|Ca @cx.cells.injEq<|Ca @ne_eq.{1} @not_false_eq_true
section
variable{G H:Gh}{n:Sz}{D:List Deferred}{e:Env}{a:Act}{P:Program}{tab:cL}{O O':VH}{w:World}{m m':MV}{u v:Value}{ops:Array Oper}{Q:VQ}{md:Md}
def yr(K:MV->VH->Prop):Option (MV×VH)->Prop
 | some (m,O)=>K m O
 | none=>False
def v_{K:MV->VH->Prop}:yr K (φ (m,O))=K m O:=rfl
def aqP(i:Nat){l:ϕ}(h:yr (λm O'=>bA P n D ⟨l⟩ fuel (listed.setIfInBounds i Α) (bt o.dst m e) O' Q) (jB tab .bh o e O))(ht:aR P tab:=by exact aa)(ho:l[i]?=φ o:=by exact rfl)(hs:Region.noSelect ⟨l⟩=Α:=by kernel_rfl)(hf:Region.free .any ⟨l⟩ listed i=Α:=by kernel_rfl)(hr:(Region.ready .any ⟨l⟩ listed).contains i=Α:=by kernel_rfl)(hg:aQ ⟨l⟩ o e=φ Α:=by exact rfl)(hd:bL n o.dst=Α:=by exact rfl):bA P n D ⟨l⟩ (fuel+1) listed e O Q:=by
 generalize hv:jB tab .bh o e O=v at h;cases v with
 | none=>exact h.elim
 | some p=>
   obtain⟨m,O'⟩:=p;obtain⟨h1,rfl⟩:=qt hv;exact bA.WX ht (by simpa using ho) hs hf hr hg h1 hd h
def aI.st{l:ϕ}(hy:iF P n D o e O M)(h:∀m O',M m O'->K (bt o.dst m e) O')(ho:l[i]?=φ o:=by exact rfl)(hg:aQ ⟨l⟩ o e=φ Α:=by exact rfl)(hd:bL n o.dst=Α:=by exact rfl):aI P n D ⟨l⟩ i e O Q K:=
 aI.kL (by simpa using ho) hg hd hy h
def aI.o1{l:ϕ}(h:yr (λm O'=>K (bt o.dst m e) O') (dZ tab o e O))(ht:aR P tab:=by exact aa)(ho:l[i]?=φ o:=by exact rfl)(hg:aQ ⟨l⟩ o e=φ Α:=by exact rfl)(hd:bL n o.dst=Α:=by exact rfl):aI P n D ⟨l⟩ i e O Q K:=by
 generalize hv:dZ tab o e O=v at h;cases v with
 | none=>exact h.elim
 | some p=>exact aI.op ht (by simpa using ho) hg hv hd h
def bA.bW(ix:List (Nat×Fl)){l:ϕ} 
  (h:WL P tab n D .any ⟨l⟩ Q L e O) (ht:aR P tab:=by exact aa) (hs:Region.noSelect ⟨l⟩=Α:=by kernel_rfl) (hp:dk .any ⟨l⟩ fuel listed ix=Α:=by kernel_rfl) (hL:qu l ix=φ L:=by exact rfl):bA P n D ⟨l⟩ fuel listed e O Q:=(WL.sound ht h) fuel listed ix (v7 hL) (λ_=>⟨hs,hp⟩)
end
section
variable{G H:Gh}{n:Sz}{D:List Deferred}{e:Env}{a:Act}{P:Program}{tab:cL}{O O' B:VH}{w:World}{m m':MV}{u v:Value}{ops:Array Oper}{Q:VQ}{md:Md}{c d:Code}{σ :Type}
def aB{σ :Type}(l:Τ)(ms: σ ->Η)(I: σ ->VH->Prop)(Q:VQ):VQ:=λx e O=>match x with
 | .normal=>∃s,looks e l=φ (ms s)/\I s O
 | x=>Q x e O
def Qc{l:Τ}{ms: σ ->Η}{I: σ ->VH->Prop} :aB l ms I Q (.exit i) e O=Q (.exit i) e O:=rfl
def Qd{l:Τ}{ms: σ ->Η}{I: σ ->VH->Prop} :aB l ms I Q (.goto i) e O=Q (.goto i) e O:=rfl
def Uo{l:Τ}{ms: σ ->Η}{I: σ ->VH->Prop}:aB l ms I Q .ret e O=Q .ret e O:=rfl
def MW{l:Τ}{ms: σ ->Η}{I: σ ->VH->Prop}:aB l ms I Q (.panic m) e O=Q (.panic m) e O:=rfl
def aB.mk{l:Τ}{ms: σ ->Η}{I: σ ->VH->Prop}(s: σ)(h2:I s O)(h1:looks e l=φ (ms s):=by exact rfl):aB l ms I Q .normal e O:=⟨s,h1,h2⟩
def VC.join(ht:aR P tab)(l:Τ)(ms: σ ->Η)(I: σ ->VH->Prop)(h1:VC P n D c e O (aB l ms I Q))(h2:∀s O,I s O->WC P tab n D d (kJ l (ms s) []) O Q):VC P n D (.seq c d) e O Q:=by
 refine VC.seq (VC.mono ?_ h1);intro x e O h;cases x with
 | normal=>
   obtain⟨s,h3,h4⟩:=h;exact VC.env (WC.sound ht (h2 s O h4)) (jU (e0:=[]) (λt x h=>by simp[look]at h) h3)
 | _=>exact h
def MX(P:Program)(n:Sz)(D:List Deferred)(b:Code)(Q:VQ):Env->VH->Prop:=λe O=>VC P n D b e O Q
def ZV{b:Code}:MX P n D b Q e O=VC P n D b e O Q:=rfl
def VC.ag(ht:aR P tab)(h:WC P tab n D c e O (tW (MX P n D d Q) Q)):VC P n D (.seq c d) e O Q:=by
 refine VC.seq (VC.mono ?_ (WC.sound ht h));intro x e O h;cases x<;>exact h
def Γ(h:VC P n D c e O (tW (MX P n D d Q) Q)):VC P n D (.seq c d) e O Q:=by
 refine VC.seq (VC.mono ?_ h);intro x e O h;cases x<;>exact h
def VF.JR(ht:aR P tab){c:Code}(hf:P.funcs[f]?=φ fn)(hb:fn.body=φ c)(hk:(⟨fn.ntmps,0⟩:Sz)=n)(hr:fn.results.toList=rs)(hn:Ζ args<=n.n)
  (h:VC P n [] c (cZ 0 args) O (FC tab rs R)):VF P f args O R:=by
 subst hk;refine VF.enter ht hf hb hn (VC.mono ?_ h);intro x e O hx
 have key:kA R O (jV tab e O rs)->∃m,ee tab fn e O=φ m/\R (.ret m) O:=λh=>by
  unfold ee;rw[hr, <-u7];generalize jV tab e O rs=z at h;unfold kA at h;split at h;exact h.elim;exact⟨_,rfl,h⟩
  ·rename_i l hl;refine⟨.tuple l,?_,h⟩
   match l,hl with
   | [],_=>rfl
   | [m],hl=>exact absurd rfl (hl m)
   | _::_::_,_=>rfl
 cases x<;>first | exact key hx | exact hx
def ω{c:Code}(k:Nat)(rs:List ResultVar)(hf:P.funcs[f]?=φ fn)(q:Q')(ht:aR P tab:=by exact aa)(hb:fn.body=φ c:=by exact rfl)(hk:(⟨fn.ntmps,0⟩:Sz)=⟨k,0⟩:=by exact rfl)(hr:fn.results.toList=rs:=by exact rfl)(hn:Ζ args<=k:=by exact Nat.le_of_ble_eq_true rfl)(h:VC P ⟨k,0⟩ [] c (cZ 0 args) O (FC tab rs R)=Q':=by conv=>lhs;simp only[cZ,Nat.zero_add,Nat.reduceAdd]):VF P f args O R:=VF.JR ht hf hb hk hr hn (h.mpr q)
def Θ(ls Ks:Τ)(ms: σ ->Η)(I: σ ->VH->Prop)(μ : σ ->Nat)(s0: σ)(hI:I s0 O)
  (step:∀s O,I s O->VC P n D c (kJ ls (ms s) (kJ Ks ks [])) O (az ls Ks ks ms I μ s Q)) (h0:looks e ls=φ (ms s0):=by exact rfl) (hk:looks e Ks=φ ks:=by exact rfl):VC P n D (.loop c) e O Q:=VC.kh ls Ks ms I μ s0 h0 hk hI step
def VC.BR{id:Nat}(l:Τ)(ms: σ ->Η)(I: σ ->VH->Prop)(h1:VC P n D c e O (jT id (aB l ms I Q)))(h2:∀s O,I s O->K (kJ l (ms s) []) O):VC P n D c e O (jT id (tW K Q)):=by
 intro G a w hw hf;refine wp_mono (h1 G a w hw hf) ?_;rintro y a' w' ⟨x,e',O',H,g1,g2,g3,g4,g5⟩
 have nor:∀{x':VX},x'= .normal\/x'= .exit id->(∃s,looks e' l=φ (ms s)/\I s O')->FR H n D e' a'->XR H x' y->(∀e O,K e O->jT id (tW K Q) x' e O)->(∀e,FR H n D e a'->FRX H n D x' e a')->c7 G n D (jT id (tW K Q)) y a' w':=λhx ⟨s,h3,h4⟩ hf' hy hK hF=>
  ⟨_,kJ l (ms s) [],O',H,g1,g2,hF _ (hf'.less (jU (e0:=[]) (λt x h=>by simp[look]at h) h3)),hy,hK _ _ (h2 s O' h4)⟩
 cases x with
 | normal=>exact nor (.inl rfl) g5 g3 g4 (λe O h=>h) (λe h=>h)
 | exit i=>
   by_cases hi:i=id;subst hi;simp only[jT,if_true]at g5;exact nor (.inr rfl) g5 g3 g4 (λe O h=>by simp only[jT,if_true];exact h) (λe h=>h);refine⟨.exit i,e',O',H,g1,g2,g3,g4,?_⟩;simp only[jT,hi,if_false]at g5 ⊢;exact g5
 | _=>exact⟨_,e',O',H,g1,g2,g3,g4,g5⟩
def ex1:MV->Bool
 | .v _=>Α
 | .s _=>Α
 | _=>γ
def exM:MV->Bool
 | .v _=>Α
 | .s _=>Α
 | .agg cs=>cs.all ex1
 | _=>γ
def HP(h:ex1 m=Α)(h1:VR G m u):VR H m u:=by
 cases m with
 | v x=>have:=h1.j8;subst this;cases h1 with | v hp=>exact .v hp
 | s l=>cases h1;exact .s
 | _=>cases h
def HQ(h:ex1 m=Α)(h1:VR G m u)(h2:VR H m v):v=u:=by
 cases m with
 | v x=>rw[h1.j8,h2.j8]
 | s l=>cases h1;cases h2;rfl
 | _=>cases h
def ahh(h:exM m=Α)(h1:VR G m u):VR H m u:=by
 cases m with
 | v x=>exact HP (m:=.v x) rfl h1
 | s l=>exact HP (m:=.s l) rfl h1
 | agg cs=>
   cases h1 with
   | agg h2 h3=>exact .agg h2 λi c u a b=>HP (alO.1 h c (aka a)) (h3 i c u a b)
 | _=>cases h
def Xn(h:exM m=Α)(h1:VR G m u)(h2:VR H m v):v=u:=by
 cases m with
 | v x=>exact HQ (m:=.v x) rfl h1 h2
 | s l=>exact HQ (m:=.s l) rfl h1 h2
 | agg cs=>
   cases h1 with
   | agg h3 h4=>
     cases h2 with
     | agg h5 h6=>
       (congr 2);refine List.ext_getElem? λi=>?_
       rename_i us vs;rcases ap9 i (Ζ cs) with hi | hi;have e1:=Th (show i<(Ζ us) by omega);have e2:=Th (show i<(Ζ vs) by omega);have e3:=Th hi;rw[e1,e2];((congr 1);exact HQ (alO.1 h _ (alS hi)) (h4 i _ _ e3 e1) (h6 i _ _ e3 e2));rw[ap5 (by omega),ap5 (by omega)]
 | _=>cases h
def wa(G:Gh)(J:ϰ)(x:World):Prop:=∃H O',Gh.Le G H/\WR H O' x/\J O'
def wa.le(h:G.Le H){x:World}(hb:wa H J x):wa G J x:=by
 obtain⟨K,O',h1,h2,h3⟩:=hb;exact⟨K,O',h.trans h1,h2,h3⟩
def wa.ss{x:World}(h:wa G J x):SS G x:=by
 obtain⟨K,O',h1,h2,_⟩:=h;exact SS.le h1 h2.ss
def TE(brk:Τ)(G:Gh)(J:ϰ)(j:Nat)(x:World):Prop:=SS G x/\(brk.contains j=γ->wa G J x)
def TE.le{x:World}(h:G.Le H)(t:TE brk H J j x):TE brk G J j x:=⟨SS.le h t.1,λk=>(t.2 k).le h⟩
def TE.mk{x:World}(h:wa G J x):TE brk G J j x:=⟨h.ss,λ_=>h⟩
def ab(P:Program)(n:Sz)(D:List Deferred)(ops:Array Oper)(brk:Τ)(J:ϰ)(Ψ :Gh->Prop)(Z:Prop)(fuel:Nat)(listed:Array Bool)(e:Env)(O:VH)(Q:VQ):Prop:=
 (∀G H,Gh.Le G H-> Ψ G-> Ψ H)->Z->J O->∀G a w, Ψ G->WR G O w->FR G n D e a->kF P .any ops (c7 G n D Q) (TE brk G J) fuel listed a w
def VC.pF{id:Nat}(brk:Τ)(h:ab P n D ops brk (λO'=>O.Ge O') (λ_=>True) (∀k,O.N<=k->O.hp k=Β) ops.size (Array.replicate ops.size γ) e O Q)(hm:P.follows .mixedOrders=Α:=by kernel_rfl):VC P n D (.region id ops Α) e O Q:=
 λG a w hw hf=>wp_region_any hm (mF _ _ _ _ (h (λ_ _ _ _=>trivial) (λk hk=>(hw.sq k hk).2.2) (VH.Ge.refl O) G a _ trivial (hw.drawn _) hf))
def ab.take(ho:ops[i]?=φ o)(hs:Region.noSelect ops=Α)(hf:Region.free .any ops listed i=Α)(hr:(Region.ready .any ops listed).contains i=Α)(hb:oz ops brk listed i=Α)
  (hd:bL n o.dst=Α) (hy:∀G a w,Z->J O-> Ψ G->WR G O w->FR G n D e a->∃u,VR G m u/\YieldsIf P ops (wa G J) o u a) (h:ab P n D ops brk J Ψ Z fuel (listed.setIfInBounds i Α) (bt o.dst m e) O Q):ab P n D ops brk J Ψ Z (fuel+1) listed e O Q:=by
 intro hΨ hZ hJ G a w hψ hw aZ;obtain⟨u,hu,hyi⟩:=hy G a w hZ hJ hψ hw aZ;refine qL (S:=wa G J) (W:=λj=>∃k,j∈mh ops listed i k) (brk:=λj=>brk.contains j) ho (Region.noSelect_spec hs) (jz hd) (λj x hj hT=>hT.2 hj) (λx hx=>TE.mk hx) fuel listed a w (Region.free_spec ho hf) Fj Kr (Kt hb) (by simpa using hr) hyi ⟨G,O,Gh.Le.refl G,hw,hJ⟩ (h hΨ hZ hJ G _ w hψ hw (aZ.bt hd hu))
def ab.bh(i:Nat){l:ϕ}(h:yr (λm O'=>ab P n D ⟨l⟩ brk J Ψ Z fuel (listed.setIfInBounds i Α) (bt o.dst m e) O' Q) (jB tab .bh o e O))(ht:aR P tab:=by exact aa)(ho:l[i]?=φ o:=by exact rfl)(hs:Region.noSelect ⟨l⟩=Α:=by kernel_rfl)(hf:Region.free .any ⟨l⟩ listed i=Α:=by kernel_rfl)(hr:(Region.ready .any ⟨l⟩ listed).contains i=Α:=by kernel_rfl)(hb:oz ⟨l⟩ brk listed i=Α:=by kernel_rfl)(hg:aQ ⟨l⟩ o e=φ Α:=by exact rfl)(hd:bL n o.dst=Α:=by exact rfl):ab P n D ⟨l⟩ brk J Ψ Z (fuel+1) listed e O Q:=by
 generalize hv:jB tab .bh o e O=v at h;cases v with
 | none=>exact h.elim
 | some p=>
   obtain⟨m,O'⟩:=p;obtain⟨h1,rfl⟩:=qt hv;refine ab.take (by simpa using ho) hs hf hr hb hd (λG a w _ _ _ hw aZ=>?_) h;obtain⟨u,hu,cT⟩:=xO (P:=P) ht aZ h1
   exact⟨u,hu,.inl ⟨bN aZ hg,λx hx=>by
    obtain⟨H,O2,h2,h3,_⟩:=hx;exact cT x (SS.le h2 h3.ss)⟩⟩
def Qe{t:TypeId}{p:MV}(hB:B.Ge O)(hN:∀k,B.N<=k->B.hp k=Β)(h:gj tab B t p=φ m):gj tab O t p=φ m:=by
 unfold gj at h ⊢
 have:∀{cs off},cellsOf B p=φ (cs,off)->cellsOf O p=φ (cs,off):=λ{cs off} hc=>by
  unfold cellsOf at hc ⊢;split at hc;split at hc;rename_i hk;((((have dm:=Nat.lt_of_not_le λhle=>by rw[hN _ hle]at hk;cases hk);rw[hB.hp _ dm,hk];exact hc);cases hc);exact hc);cases hc
 split at h;rename_i i cs off hi hc;rw[this hc,hi];exact h;cases h
def ab.ld(i:Nat){l:ϕ}{d:Option Tmp}{t:TypeId}{ty:TypeId}{p:MV}(hv:gj tab B t p=φ m)(h:ab P n D ⟨l⟩ brk (λO'=>B.Ge O') Ψ (∀k,B.N<=k->B.hp k=Β) fuel (listed.setIfInBounds i Α) (bt d m e) O Q)(ht:aR P tab:=by exact aa)(ho:l[i]?=φ (.mk d (.load t x) ty ps af g):=by exact rfl)(hs:Region.noSelect ⟨l⟩=Α:=by kernel_rfl)(hf:Region.free .any ⟨l⟩ listed i=Α:=by kernel_rfl)(hr:(Region.ready .any ⟨l⟩ listed).contains i=Α:=by kernel_rfl)(hb:oz ⟨l⟩ brk listed i=Α:=by kernel_rfl)(hg:aQ ⟨l⟩ (.mk d (.load t x) ty ps af g) e=φ Α:=by exact rfl)(hd:bL n d=Α:=by exact rfl)(hx:ev e x=φ p:=by exact rfl)(hm:exM m=Α:=by exact rfl):ab P n D ⟨l⟩ brk (λO'=>B.Ge O') Ψ (∀k,B.N<=k->B.hp k=Β) (fuel+1) listed e O Q:=by
 refine ab.take (o:=.mk d (.load t x) ty ps af g) (by simpa using ho) hs hf hr hb hd (λG a w hN hB _ hw aZ=>?_) h;obtain⟨u,w',K,cT,h1,h2,h3,_⟩:=Km (P:=P) ht hw (Qe hB hN hv) (aZ.ev hx);obtain⟨u0,hu0⟩:∃u0,VR G m u0:=⟨u,ahh hm h3⟩
 refine⟨u0,hu0,.inl ⟨bN aZ hg,λy hy=>?_⟩⟩;obtain⟨H,O2,g1,g2,g3⟩:=hy;obtain⟨r,g4,g5⟩:=qP (P:=P) ht g2 (Qe g3 hN hv) ((aZ.ev hx).mono g1);have:=g5 y g2.sx;have er:=Xn hm hu0 g4;subst er;simp only[execOp,Sem.run_bind,this];rfl
def pH{Q:Exit->Act->World->Prop}{S:World->Prop}{T:Nat->World->Prop}:∀(fuel:Nat)(listed:Array Bool)(a:Act)(w:World),(∀j,listed.getD j Α=γ->∀x,S x->T j x)->wpAnyH P .any ops Q S fuel listed a w->kF P .any ops Q T fuel listed a w:=by
 intro fuel;induction fuel with
 | zero=>intro listed a w _ h;exact⟨h.1,h.2⟩
 | succ fuel ih=>
   intro listed a w hT h;refine⟨h.1,λi hi=>?_⟩;have fE:=(mem_ready.1 hi).1
   exact wpOp_mono (λa' w' h'=>⟨hT i fE _ h'.1,ih _ _ _ (λj hj x=>hT j (by
    by_cases JH:i=j;subst JH;exact fE;rw[getD_set_ne Α JH]at hj;exact hj) x) h'.2⟩) (h.2 i hi)
def ab.fin(hb:((List.range listed.size).all λj=>listed.getD j Α||brk.contains j)=Α)(h:bA P n D ops fuel listed e O Q):ab P n D ops brk J Ψ Z fuel listed e O Q:=by
 intro hΨ hZ hJ G a w hψ hw aZ;refine pH _ _ _ _ (λj hj x hs=>⟨hs,λhh=>?_⟩) (h G a w hw aZ);rcases ap9 j listed.size with hl | hl;have:=alO.1 hb j (aqk.2 hl);rw[hj,aqn]at this;rw[this]at hh;cases hh;rw[ap_,aoT (by simpa using hl)]at hj;cases hj
def ab.one 
  (h:aI P n D ops i e O Q λe' O'=>J O'/\ab P n D ops brk J Ψ Z fuel (listed.setIfInBounds i Α) e' O' Q) (hr:Region.ready .any ops listed=[i]:=by kernel_rfl):ab P n D ops brk J Ψ Z (fuel+1) listed e O Q:=by
 intro hΨ hZ hJ G a w hψ hw aZ;refine k6 hr (by simp) λj hj=>?_
 obtain rfl:j=i:=by simpa using hj
 refine wpOp_mono (λa' w' ⟨e',O',H,h1,h2,h3,h4,h5⟩=>⟨TE.mk ⟨H,O',h1,h2,h4⟩,k7 (λ_ _ _=>c7.le h1) _ _ _ _ (λk _ x hT=>hT.le h1) (h5 hΨ hZ h4 H a' w' (hΨ _ _ h1 hψ) h2 h3)⟩) (h G a w hw aZ)
def ab.call{l:ϕ}{d:Option Tmp}{f:Operand}{as_:Array Operand}{ts:Array TypeId}{ty:TypeId}{id:FuncId}(hR:VF P id ms O (aH Φ))
  (h:∀m O', Φ m O'->J O'/\ab P n D ⟨l⟩ brk J Ψ Z fuel (listed.setIfInBounds i Α) (bt d m e) O' Q) (hr:Region.ready .any ⟨l⟩ listed=[i]:=by kernel_rfl) (ho:l[i]?=φ (.mk d (.call {callee:=.value f,args:=as_,argTypes:=ts}) ty ps af g):=by exact rfl) (hg:aQ ⟨l⟩ (.mk d (.call {callee:=.value f,args:=as_,argTypes:=ts}) ty ps af g) e=φ Α:=by exact rfl) (hf:ev e f=φ (.func (.func id) [] []):=by exact rfl) (hm:il e as_.toList=φ ms:=by exact rfl) (hb:dA P id=Α:=by kernel_rfl) (hd:bL n d=Α:=by exact rfl):ab P n D ⟨l⟩ brk J Ψ Z (fuel+1) listed e O Q:=
 ab.one (aI.call (o:=.mk d (.call {callee:=.value f,args:=as_,argTypes:=ts}) ty ps af g) (by simpa using ho) hg rfl rfl hf hm (Enters.u9 hb) hd (by simpa using hR) λr O' hr=>by
  cases r with
  | ret m=>exact h m O' hr
  | panic m=>exact hr.elim) (hr:=hr)
def ab.op{l:ϕ} 
  (h:yr (λm O'=>J O'/\ab P n D ⟨l⟩ brk J Ψ Z fuel (listed.setIfInBounds i Α) (bt o.dst m e) O' Q) (dZ tab o e O)) (ht:aR P tab:=by exact aa) (hr:Region.ready .any ⟨l⟩ listed=[i]:=by kernel_rfl) (ho:l[i]?=φ o:=by exact rfl) (hg:aQ ⟨l⟩ o e=φ Α:=by exact rfl) (hd:bL n o.dst=Α:=by exact rfl):ab P n D ⟨l⟩ brk J Ψ Z (fuel+1) listed e O Q:=
 ab.one (aI.o1 h (ht:=ht) (ho:=ho) (hg:=hg) (hd:=hd)) (hr:=hr)
def ab.st{l:ϕ}(hy:iF P n D o e O M)
  (h:∀m O',M m O'->J O'/\ab P n D ⟨l⟩ brk J Ψ Z fuel (listed.setIfInBounds i Α) (bt o.dst m e) O' Q) (hr:Region.ready .any ⟨l⟩ listed=[i]:=by kernel_rfl) (ho:l[i]?=φ o:=by exact rfl) (hg:aQ ⟨l⟩ o e=φ Α:=by exact rfl) (hd:bL n o.dst=Α:=by exact rfl):ab P n D ⟨l⟩ brk J Ψ Z (fuel+1) listed e O Q:=
 ab.one (aI.st hy h (ho:=ho) (hg:=hg) (hd:=hd)) (hr:=hr)
def ab.bW(ix:List (Nat×Fl)){l:ϕ} 
  (h:WL P tab n D .any ⟨l⟩ Q L e O) (ht:aR P tab:=by exact aa) (hb:((List.range listed.size).all λj=>listed.getD j Α||brk.contains j)=Α:=by kernel_rfl) (hs:Region.noSelect ⟨l⟩=Α:=by kernel_rfl) (hp:dk .any ⟨l⟩ fuel listed ix=Α:=by kernel_rfl) (hL:qu l ix=φ L:=by exact rfl):ab P n D ⟨l⟩ brk J Ψ Z fuel listed e O Q:=ab.fin hb (bA.bW ix h (ht:=ht) (hs:=hs) (hp:=hp) (hL:=hL))
end
def wk:=Ca @ws<|Ca @ZV<|Ca @Qc<|Ca @Qd<|Ca @Uo @MW
section
variable{G H:Gh}{n:Sz}{D:List Deferred}{e:Env}{a:Act}{P:Program}{tab:cL}{O O':VH}{w:World}{m m':MV}{u v:Value}{ops:Array Oper}{Q:VQ}{md:Md}
def tY{t:TypeId}{ms:Array (String×TypeId)}(hu:P.underlying t=φ (.interface ms)):P.underlying t=φ (.interface (P.methodsAt t)):=by
 rw[hu,Program.methodsAt,hu]
def jW.Xo{op:BinOp}{t t' ty tv:TypeId}{p:MV}{ms:Array (String×TypeId)}(hu:P.underlying t=φ (.interface ms))(hx:ev e x=φ (.iface tv p))(ux:(op= .eql/\bb=γ)\/(op= .neq/\bb=Α)):
  jW P n D (.mk d (.binOp op t x (.const .nilIface) t') ty ps af g) e (.v (.bool bb)):=by
 intro G a hf;have h1:=hf.ev hx;generalize hv:a.eval x=v at h1;have hc:a.eval (.const .nilIface)= .nilIface:=rfl;cases h1 with
 | iface h2=>
   rename_i u;refine ey.of (s:=do eqGuard op t x (.const .nilIface) (.iface tv u) .nilIface;binOp op t (.iface tv u) .nilIface) (bu.of (u:=.bool bb) (λw _=>?_) (.v rfl)) (by simp[execOp,hv,hc]);(((have hgd:(eqGuard op t x (.const .nilIface) (.iface tv u) .nilIface).run P w= .ok () w:=by rcases ux with⟨rfl,_⟩ | ⟨rfl,_⟩<;>simp[eqGuard]);rw[Sem.run_bind,hgd,Result.andThen_ok];rcases ux with⟨rfl,rfl⟩ | ⟨rfl,rfl⟩);exact run_eql_held_nil w t tv u (tY hu));exact run_neq_held_nil w t tv u (tY hu)
def jW.HR{op:BinOp}{t t' ty:TypeId}{ms:Array (String×TypeId)}(hu:P.underlying t=φ (.interface ms))(hx:ev e x=φ (.v .nilIface))(ux:(op= .eql/\bb=Α)\/(op= .neq/\bb=γ)):
  jW P n D (.mk d (.binOp op t x (.const .nilIface) t') ty ps af g) e (.v (.bool bb)):=by
 intro G a hf;have h1:=(hf.ev hx).j8;have hc:a.eval (.const .nilIface)= .nilIface:=rfl;refine ey.of (s:=do eqGuard op t x (.const .nilIface) .nilIface .nilIface;binOp op t .nilIface .nilIface) (bu.of (u:=.bool bb) (λw _=>?_) (.v rfl)) (by simp[execOp,h1,hc]);have hgd:(eqGuard op t x (.const .nilIface) .nilIface .nilIface).run P w= .ok () w:=by rcases ux with⟨rfl,_⟩ | ⟨rfl,_⟩<;>cases x<;>simp[eqGuard]
 rw[Sem.run_bind,hgd,Result.andThen_ok];rcases ux with⟨rfl,rfl⟩ | ⟨rfl,rfl⟩;exact run_eql_nil_nil w t (tY hu);exact run_neq_nil_nil w t (tY hu)
def jW.asT{t s ty:TypeId}{p:MV}{u:TypeDesc}(hu:P.underlying s=φ u)(hi:∀ms,u≠ .interface ms)(hx:ev e x=φ (.iface s p)):
  jW P n D (.mk d (.typeAssert x t s Α) ty ps af g) e (.tuple [p,.v (.bool Α)]):=by
 intro G a hf;have h1:=hf.ev hx;generalize hv:a.eval x=v at h1;cases h1 with
 | iface h2=>
   rename_i w0;refine ey.of (s:=Instr.typeAssert (.iface s w0) t s Α) (bu.of (u:=.tuple #[w0,.bool Α]) (λw _=>?_) ?_) (by simp[execOp,hv])
   ·simp only[Instr.typeAssert,Sem.run_bind,run_underlying hu,Result.andThen_ok]
    cases u<;>first
     | rfl
     | simp
     | (rename_i ms;exact absurd rfl (hi ms))
   ·exact VR.tuple (cs:=[p,.v (.bool Α)]) (us:=[w0,.bool Α]) rfl λi c u hc hu=>by
     match i with
     | 0=>simp at hc hu;subst hc;subst hu;exact h2
     | 1=>simp at hc hu;subst hc;subst hu;exact .v rfl
     | i+2=>simp at hc
def VL.panic{ty t:TypeId}{p:MV}(hmd:md= .plain)(hx:ev e x=φ (.iface t p))(hg:aQ ops (.mk d (.panic x) ty ps af g) e=φ Α)
  (h:Q (.panic (.iface t p)) (mD n e) O):VL P n D md ops ((.one,.mk d (.panic x) ty ps af g)::L) e O Q:=by
 subst hmd;intro fuel listed ix hf hp
 match ix,hf with
 | (i,g')::ix,hf=>
   obtain⟨rfl,ho,hf⟩:=hf;intro G a w hw aZ;have h1:=aZ.ev hx
   have Gb:∃u,a.eval x= .iface t u:=by
    generalize a.eval x=v at h1;cases h1;exact⟨_,rfl⟩
   obtain⟨u,hv⟩:=Gb
   have cT:(execOp a.eval (.mk d (.panic x) ty ps af g)).run P w= .halt (.panic (.iface t u)) w:=by
    simp[execOp,hv,Instr.panic,goPanic]
   simp only[aga,wpOps,ho,bN aZ hg,if_true];refine .inl ?_;unfold Oper.wp;rw[cT];exact⟨.panic (.iface t p),mD n e,O,G,Gh.Le.refl G,hw,⟨Hh,aZ.less Ei⟩,⟨_,rfl,by rw[<-hv];exact h1⟩,h⟩
def MR(G:Gh):ϱ->FrameMode->Prop
 | none,.returning=>True
 | some m,.panicking [⟨v,γ,γ⟩]=>VR G m v
 | _,_=>False
def iO(P:Program)(g:FuncId)(args:Η)(x:ϱ)(O:VH)(K:ϰ):Prop:=
 ∀G w vs u,WR G O w->aW G args vs->MR G x u->CallsD P g vs.toArray u w λr u' w'=>(∃v,r= .returned v)/\settle u'= .returning/\∃O' H,Gh.Le G H/\WR H O' w'/\K O'
def C6:ϱ->MV
 | none=>.v .nilIface
 | some m=>m
def iO.rec{id:Nat}{d:Tmp}{ty:TypeId}{x:ϱ}{K:ϰ}(hf:P.funcs[f]?=φ fn)(hd:d<fn.ntmps)
  (h:WC P tab ⟨fn.ntmps,0⟩ [] c ((d,C6 x)::cZ 0 args) O λy _ O'=>match y with
   | .normal=>K O'
   | .ret=>K O'
   | _=>False) (ht:aR P tab:=by exact aa) (hb:fn.body=φ (.seq (.region id ⟨[.mk (φ d) (.call {callee:=.builtin .recover,args:= #[],argTypes:= #[]}) ty ps af Β]⟩ γ) c):=by exact rfl) (hr:fn.results= #[]:=by exact rfl) (hn:Ζ args<=fn.ntmps:=by exact Nat.le_of_ble_eq_true rfl):iO P f args x O K:=by
 intro G w vs u hw hv hu;refine callsD_of_wpS hf hb λc0 cs hm=>wpS_seq (wpS_region ?_)
 have aZ:FR G ⟨fn.ntmps,0⟩ [] (cZ 0 args) {tmps:=vs.toArray++Array.replicate (fn.ntmps - vs.toArray.size) undef,defers:=[]}:=by
  have hl:=hv.1;refine⟨rfl,by simp;omega,λt x hx=>?_⟩;rw[jS,if_pos (Nat.zero_le _),Nat.sub_zero]at hx;obtain⟨u,h1,h2⟩:=hv.get hx;refine⟨u,?_,h2⟩;have dm:=(agc.1 h1).1;rw[aqc (by simpa using dm)];simpa using h1
 generalize ({tmps:=vs.toArray++Array.replicate (fn.ntmps - vs.toArray.size) undef,defers:=[]}:Act)=a at aZ
 have cT:(execOp a.eval (.mk (φ d) (.call {callee:=.builtin .recover,args:= #[],argTypes:= #[]}) ty ps af Β)).run P w= .ok .recover w:=by
  simp[execOp,resolve,invoke,builtin]
 have go:∀(v:Value)(u':FrameMode),VR G (C6 x) v->settle u'= .returning->(c.wpS P (bodyPostS P fn c0 cs λr u' w'=>(∃v,r= .returned v)/\settle u'= .returning/\∃O' H,Gh.Le G H/\WR H O' w'/\K O')) (a.put (φ d) v) ({c0 with mode:=u'}::cs) w:=by
  intro v u' qR hs;refine wpS_of_wp ?_;refine wp_mono (WC.sound ht h G _ w hw (FR.put aZ hd qR)) ?_;rintro y a' w' ⟨z,e',O',H,g1,g2,g3,g4,g5⟩
  have fin:FR H ⟨fn.ntmps,0⟩ [] e' a'->K O'->bodyPostS P fn c0 cs (λr u' w'=>(∃v,r= .returned v)/\settle u'= .returning/\∃O' H,Gh.Le G H/\WR H O' w'/\K O') .normal a' ({c0 with mode:=u'}::cs) w':=λhf' hk=>
   ⟨hf'.defers,u',rfl,.tuple #[],by simp[results,hr],⟨_,rfl⟩,hs,O',H,g1,g2,hk⟩
  cases y<;>cases z<;>first
   | exact False.elim g4
   | exact fin g3 g5
   | exact g5.elim
 have Qf:(Ν (Array.mk [Oper.mk (φ d) (.call {callee:=.builtin .recover,args:= #[],argTypes:= #[]}) ty ps af Β]).size)=[0]:=rfl;rw[Qf];simp only[wpOpsS,akf,af_,cT];have akI:Region.wanted (Oper.mk (φ d) (.call {callee:=.builtin .recover,args:= #[],argTypes:= #[]}) ty ps af Β) (yielded ⟨[.mk (φ d) (.call {callee:=.builtin .recover,args:= #[],argTypes:= #[]}) ty ps af Β]⟩ a.tmps)=Α:=rfl;rw[if_pos akI];subst hm
 match x,hmu:c0.mode,hu with
 | none,.returning,_=>
   have KX:recoverD (c0::cs)=Β:=by simp[recoverD,hmu]
   rw[KX];have:=go .nilIface .returning (.v rfl) rfl;rw[show({c0 with mode:=.returning}:Frame)=c0 from by rw[<-hmu]]at this;exact this
 | some m,.panicking [⟨v,γ,γ⟩],qR=>
   have KX:recoverD (c0::cs)=φ (v,{c0 with mode:=.panicking [⟨v,Α,γ⟩]}::cs):=by simp[recoverD,hmu]
   rw[KX];exact go v _ qR (by simp[settle])
def Qg(P:Program)(tab:cL)(rs:List ResultVar)(g:FuncId)(ms:Η)(R:iE->VH->Prop):VQ:=λx e O=>match x with
 | .normal=>iO P g ms Β O λO'=>kA R O' (jV tab e O' rs)
 | .ret=>iO P g ms Β O λO'=>kA R O' (jV tab e O' rs)
 | .panic m=>iO P g ms (φ m) O λO'=>kA R O' (jV tab e O' rs)
 | _=>False
def VF.deferred{g:FuncId}{A rest:Code}{id lo:Nat}{t:Tmp}{cap:Array Operand}{ty ty':TypeId}{ps':String}{af':Array Edge}(hf:P.funcs[f]?=φ fn)(hE:Enters P g)
  (h:WC P tab ⟨k,0⟩ [] A (cZ 0 args) O λx e O'=>match x with
   | .normal=>∃ms,il e cap.toList=φ ms/\∀D,VC P ⟨k,lo⟩ D rest ((t,.func (.func g) [] ms)::e) O' (Qg P tab rs g ms R)
   | _=>False) (ht:aR P tab:=by exact aa) (hb:fn.body=φ (.seq A (.seq (.region id ⟨[.mk (φ t) (.makeFunc (.func g) #[] cap) ty ps af Β,.mk Β (.defer {callee:=.value (.tmp t),args:= #[],argTypes:= #[]}) ty' ps' af' Β]⟩ γ) rest)):=by exact rfl) (hk:fn.ntmps=k:=by exact rfl) (hr:fn.results.toList=rs:=by exact rfl) (hn:Ζ args<=k:=by exact Nat.le_of_ble_eq_true rfl) (di:t<k:=by decide):VF P f args O R:=by
 subst hk;intro G w vs hw hv;refine calls_of_wp_defers hf hb ?_
 have aZ:FR G ⟨fn.ntmps,0⟩ [] (cZ 0 args) {tmps:=vs.toArray++Array.replicate (fn.ntmps - vs.toArray.size) undef,defers:=[]}:=by
  have hl:=hv.1;refine⟨rfl,by simp;omega,λt x hx=>?_⟩;rw[jS,if_pos (Nat.zero_le _),Nat.sub_zero]at hx;obtain⟨u,h1,h2⟩:=hv.get hx;refine⟨u,?_,h2⟩;have dm:=(agc.1 h1).1;rw[aqc (by simpa using dm)];simpa using h1
 refine wp_seq (wp_mono (WC.sound ht h G _ w hw aZ) ?_);rintro y a1 w1 ⟨x,e,O1,H,g1,g2,g3,g4,g5⟩
 cases y<;>cases x<;>first
  | exact False.elim g4
  | exact g5.elim
  | skip
 obtain⟨ms,hm,Up⟩:=g5;have g3:FR H ⟨fn.ntmps,0⟩ [] e a1:=g3;have kI:=g3.il hm;have JC:cap.map a1.eval=(cap.toList.map a1.eval).toArray:=by apply Array.ext';simp
 generalize cap.toList.map a1.eval=us at kI JC
 have Uq:(execOp a1.eval (.mk (φ t) (.makeFunc (.func g) #[] cap) ty ps af Β)).run P w1= .ok (.value (.func (.func g) #[] us.toArray)) w1:=by
  simp[execOp,Instr.makeFunc,JC]
 have hz:=g3.size;dsimp only at hz
 have hev:(a1.put (φ t) (.func (.func g) #[] us.toArray)).eval (.tmp t)= .func (.func g) #[] us.toArray:=by
  simp[Act.eval,Act.put,hz,di]
 have Ur:(execOp (a1.put (φ t) (.func (.func g) #[] us.toArray)).eval (.mk Β (.defer {callee:=.value (.tmp t),args:= #[],argTypes:= #[]}) ty' ps' af' Β)).run P w1= .ok (.defer {target:=.fn (.func g) us.toArray,args:= #[]}) w1:=by
  simp[execOp,resolve,hev,Deferred.ofValue]
 refine wp_seq (wp_region ?_);have Qf:∀o1 o2:Oper,Ν (Array.mk [o1,o2]).size=[0,1]:=λ_ _=>rfl
 rw[Qf];have MY:∀(o1 o2:Oper)(tm:Array Value),o1.guard=Β->Region.wanted o1 (yielded ⟨[o1,o2]⟩ tm)=Α:=λo1 o2 tm h=>by simp[Region.wanted,h]
 have oA:∀(o1 o2:Oper)(tm:Array Value),o2.guard=Β->Region.wanted o2 (yielded ⟨[o1,o2]⟩ tm)=Α:=λo1 o2 tm h=>by simp[Region.wanted,h]
 simp only[wpOps,akf,af_,agb];rw[if_pos (MY _ _ _ rfl)];refine .inl ?_;unfold Oper.wp;rw[Uq,Oper.upon_value];simp only[wpOps,akf,af_,agb];rw[if_pos (oA _ _ _ rfl)];refine .inl ?_;first | unfold Oper.wp | skip
 rw[Ur,Oper.upon_defer];have jI:FR H ⟨fn.ntmps,0⟩ [] ((t,.func (.func g) [] ms)::e) (a1.put (φ t) (.func (.func g) #[] us.toArray)):=FR.put g3 di (.func (fs:=[]) (us:=[]) rfl (λi c u h=>by simp at h) kI.1 kI.2);generalize a1.put (φ t) (.func (.func g) #[] us.toArray)=a2 at jI;have qU:FR H ⟨fn.ntmps,lo⟩ [{target:=.fn (.func g) us.toArray,args:= #[]}] ((t,.func (.func g) [] ms)::e) {a2 with defers:={target:=.fn (.func g) us.toArray,args:= #[]}::a2.defers}:=⟨by rw[jI.defers],jI.size,jI.get⟩;show rest.wp P _ _ _;refine wp_mono (Up _ H _ w1 g2 qU) ?_;rintro y a' w' ⟨x,e',O',K,k1,k2,k3,k4,k5⟩
 have hinv:∀w:World,(invoke (.fn (.func g) us.toArray) #[]).run P w= .ok (.enter g us.toArray) w:=λw=>by
  simp[invoke,hE us.toArray w]
 have fin:∀(u:FrameMode)(z:ϱ),u≠ .run->MR K z u->FR K ⟨fn.ntmps,lo⟩ [{target:=.fn (.func g) us.toArray,args:= #[]}] e' a'->iO P g ms z O' (λO'=>kA R O' (jV tab e' O' rs))->
   Leaves P fn a'.tmps (λx w'=>∃r O' H,Gh.Le G H/\WR H O' w'/\ER H r x/\R r O') a'.defers u w':=by
  intro u z hu hmr hfa hd;rw[hfa.defers];refine leaves_cons hu (hinv _) ((hd K w' us u k2 (kI.mono k1) hmr).mono ?_);rintro r u' JG ⟨⟨v,rfl⟩,hs,O2,K2,q1,q2,q3⟩;dsimp only;rw[hs]
  have key:∃m,ee tab fn e' O2=φ m/\R (.ret m) O2:=by
   unfold ee;rw[hr, <-u7];generalize jV tab e' O2 rs=z at q3;unfold kA at q3;split at q3;exact q3.elim;exact⟨_,rfl,q3⟩
   ·rename_i l hl;refine⟨.tuple l,?_,q3⟩
    match l,hl with
    | [],_=>rfl
    | [m],hl=>exact absurd rfl (hl m)
    | _::_::_,_=>rfl
  obtain⟨m,h6,h7⟩:=key;obtain⟨u2,h8,h9⟩:=np (P:=P) ht q2 (hfa.mono q1) h6;exact⟨u2,h8,.ret m,O2,K2,(g1.trans k1).trans q1,q2,h9,h7⟩
 cases y with
 | normal=>cases x<;>first | exact False.elim k4 | exact fin .returning Β (by simp) trivial k3 k5
 | ret=>cases x<;>first | exact False.elim k4 | exact fin .returning Β (by simp) trivial k3 k5
 | panic c=>
   cases x with
   | panic m=>
     obtain⟨u,rfl,hvu⟩:=k4;exact fin (.panicking [⟨u,γ,γ⟩]) (φ m) (by simp) hvu k3.2 k5
   | _=>exact False.elim k4
 | exit i=>cases x<;>first | exact False.elim k4 | exact k5.elim
 | goto i=>cases x<;>first | exact False.elim k4 | exact k5.elim
 | outgrown=>cases x<;>exact False.elim k4
def ZW:mD n []=[]:=rfl
def Us{N L:Nat}:mD ⟨N,L⟩ ((t,m)::e)=bif decide (t<L)then(t,m)::mD ⟨N,L⟩ e else mD ⟨N,L⟩ e:=rfl
def MZ{g:FuncId} :Qg P tab rs g ms R .normal e O=iO P g ms Β O λO'=>kA R O' (jV tab e O' rs):=rfl
def ZX{g:FuncId} :Qg P tab rs g ms R .ret e O=iO P g ms Β O λO'=>kA R O' (jV tab e O' rs):=rfl
def Qh{g:FuncId} :Qg P tab rs g ms R (.panic m) e O=iO P g ms (φ m) O λO'=>kA R O' (jV tab e O' rs):=rfl
end
def wd:=Ca @abO<|Ca @ZW<|Ca @Us<|Ca @MZ<|Ca @ZX<|Ca @Qh<|Ca @uz<|Ca @uA @FD
section
variable{G H:Gh}{n:Sz}{D:List Deferred}{e:Env}{a:Act}{P:Program}{tab:cL}{O O':VH}{w:World}{m m':MV}{u v:Value}{ops:Array Oper}{Q:VQ}{md:Md}
def WR.Qi(h:WR G O w)(X:Obj):G.Le {G with cu:=bS G.cu O.N (φ w.heap.size)}/\WR {G with cu:=bS G.cu O.N (φ w.heap.size)} (O.push (.obj X)) (w.alloc X):=by
 have hle:=Gh.Le.Mq h.oM.1 w.heap.size;have hg:=h.grow X
 have fC:∀k b,bS G.cu O.N (φ w.heap.size) k=φ b->(k=O.N/\b=w.heap.size)\/(k≠O.N/\G.cu k=φ b):=λk b hk=>by
  by_cases e:k=O.N;subst e;rw[aN]at hk;injection hk with hk;exact .inl ⟨rfl,hk.symm⟩;rw[aA _ _ e]at hk;exact .inr ⟨e,hk⟩
 have qs:∀j x,bS O.hp O.N (φ (cx.obj X)) j=φ x->(j=O.N/\x= .obj X)\/(j≠O.N/\O.hp j=φ x):=λj x hj=>by
  by_cases e:j=O.N;subst e;rw[aN]at hj;injection hj with hj;exact .inl ⟨rfl,hj.symm⟩;rw[aA _ _ e]at hj;exact .inr ⟨e,hj⟩
 refine⟨hle,hg.base,hg.fB,λk hk=>?_,λk b hk=>?_,λj k b lj lk hj hk=>?_,λk ds hk=>?_,λk es ck hk=>?_,λt ht=>?_,λs t b x y hs ht h1 h2=>?_,h.rq hle.cu (ox (by simp)) λ_ _ _ _=>jO λ_=>eC w _,λk x hk=>?_,h.tI,h.uv hle (oN (by simp))⟩;have hk:O.N+1<=k:=hk;obtain⟨h1,h2,h3⟩:=h.sq k (by omega);exact⟨by show bS _ _ _ _=_;rw[aA _ _ (by omega)];exact h1,h2,by show bS _ _ _ _=_;rw[aA _ _ (by omega)];exact h3⟩;rcases fC k b hk with⟨_,rfl⟩ | ⟨cK,hk⟩;exact⟨h.bsz,by simp,λ_=>h.zO⟩;obtain⟨p1,p2,p3⟩:=hg.lU k b hk;exact⟨p1,p2,λhne=>p3 (by have hne:bS O.hp O.N (φ (.obj X)) k≠Β:=hne;rwa [aA _ _ cK]at hne)⟩;rcases fC j b hj with⟨rfl,rfl⟩ | ⟨cA,hj⟩<;>rcases fC k _ hk with⟨rfl,hb⟩ | ⟨cK,hk⟩;rfl;have:=(h.lU _ _ hk).2.1;omega;subst hb;have:=(h.lU _ _ hj).2.1;omega;exact h.inj j k b (by have lj:bS O.hp O.N (φ (.obj X)) j≠Β:=lj;rwa [aA _ _ cA]at lj) (by have lk:bS O.hp O.N (φ (.obj X)) k≠Β:=lk;rwa [aA _ _ cK]at lk) hj hk;rcases qs k _ hk with⟨_,e⟩ | ⟨_,hk⟩;cases e;obtain⟨b,C,T,h1,h2,h3⟩:=hg.cells k ds hk;exact⟨b,C,T,hle.cu h1,h2,h3.mono hle⟩;rcases qs k _ hk with⟨_,e⟩ | ⟨_,hk⟩;cases e;obtain⟨b,E,h1,h2,h3,h4,h5⟩:=hg.map k es ck hk;exact⟨b,E,hle.cu h1,h2,h3,h4.mono hle,h5.mono hle⟩;rcases qs t _ ht with⟨_,e⟩ | ⟨_,ht⟩;cases e;obtain⟨b,f,k,r,C,T,h1,h2,h3,h4,h5,h6⟩:=hg.tok t ht;refine⟨b,f,k,r,C,T,h1,h2,h3,h4,h5,λj hj=>?_⟩;rcases fC j b hj with⟨_,rfl⟩ | ⟨_,hj⟩;exact absurd rfl (h.r6 ht h1);exact h6 j hj;rcases qs s _ hs with⟨_,e⟩ | ⟨_,hs⟩;cases e;rcases qs t _ ht with⟨_,e⟩ | ⟨_,ht⟩;cases e;exact h.nM s t b x y hs ht h1 h2;rcases qs k _ hk with⟨rfl,e⟩ | ⟨_,hk⟩;injection e with e;subst e;exact⟨w.heap.size,aN _ _ _,by rw[gG,if_pos rfl]⟩;obtain⟨b,h1,h2⟩:=hg.obj k x hk;exact⟨b,hle.cu h1,h2⟩
def WR.setObj(h:WR G O w){Y:Obj}(hk:O.hp k=φ (.obj X))(hp:G.cu k=φ b)(hX:∀C t fr,X≠ .cells C t fr):WR G (O.set k (.obj Y)) {w with heap:=w.heap.setIfInBounds b Y}:=by
 obtain⟨b',h1,h2⟩:=h.obj k X hk;rw[hp]at h1;injection h1 with h1;subst h1;have hne:∀j b',j≠k->O.hp j≠Β->G.cu j=φ b'->b'≠b:=λj b' hj lj o_ e=>hj (h.inj j k b lj (by rw[hk];simp) (e▸o_) hp)
 have ll:∀j,bS O.hp k (φ (.obj Y)) j≠Β->O.hp j≠Β:=λj hn=>by
  by_cases e:j=k;subst e;rw[hk];simp
  ·rwa [aA _ _ e]at hn
 have ru:=xP Y h2;have fD:∀j,j≠b->({w with heap:=w.heap.setIfInBounds b Y}:World).heap[j]?=w.heap[j]?:=λj hj=>rz _ hj
 have hB:=(h.lU k b hp).1
 have qs:∀j x,(∀y,x≠ .obj y)->bS O.hp k (φ (cx.obj Y)) j=φ x->j≠k/\O.hp j=φ x:=λj x hx hj=>by
  by_cases e:j=k;subst e;rw[aN]at hj;injection hj with hj;exact absurd hj.symm (hx _);rw[aA _ _ e]at hj;exact⟨e,hj⟩
 refine⟨⟨h.base.os,h.base.tape,h.base.output,by simpa using h.base.size,λj hj=>?_⟩,λb' o u' ry=>?_,λj hj=>?_,λj b' hj=>?_,λj k' b' lj lk=>h.inj j k' b' (ll j lj) (ll k' lk),λj ds hj=>?_,λj es2 ck2 hj=>?_,λt ht=>?_,λs t b' x y hs ht=>?_,h.rq id (ox (by simp)) λj b' s hj hs=>jO (λx hx=>by
   by_cases e:b'=b
   ·subst e;rw[h2]at hx;injection hx with hx;subst hx;exfalso;simp only[World.shape?,h2]at hs
    cases X<;>first
     | exact hX _ _ _ rfl
     | cases hs
   ·rw[fD _ e];exact hx) hs,λj x hj=>?_,h.tI,h.uv (Gh.Le.refl _) (oN (by simp))⟩
 ·rw[fD j (by have:j<G.B:=hj;omega)];exact h.base.block j hj
 ·(have xL:b'≠b:=λe=>by subst e;rw[(h.lU k b' hp).2.2 (by rw[hk];simp) o]at ry;cases ry);rw[wV _ (by exact xL)];exact h.fB b' o u' ry
 ·obtain⟨d1,d2,d3⟩:=h.sq j hj;refine⟨d1,d2,?_⟩;show bS _ _ _ _=_;rw[aA _ _ (λe=>by subst e;rw[d3]at hk;cases hk)];exact d3
 ·obtain⟨p1,p2,p3⟩:=h.lU j b' hj;exact⟨p1,by simpa using p2,λhne=>p3 (ll j hne)⟩
 ·obtain⟨e,hj⟩:=qs j _ (by simp) hj;obtain⟨b',D,T',d1,d2,d3⟩:=h.cells j ds hj;exact⟨b',D,T',d1,by rw[fD _ (hne j b' e (by rw[hj];simp) d1)];exact d2,d3⟩
 ·obtain⟨e,hj⟩:=qs j _ (by simp) hj;obtain⟨b',E,d1,d2,d3⟩:=h.map j es2 ck2 hj;exact⟨b',E,d1,by rw[fD _ (hne j b' e (by rw[hj];simp) d1)];exact d2,d3⟩
 ·obtain⟨e,ht⟩:=qs t _ (by simp) ht;obtain⟨b',f,k',r,D,T',d1,d2,d3,d4,d6,d7⟩:=h.tok t ht;exact⟨b',f,k',r,D,T',d1,d2,by rw[fD _ (λe=>d7 k (by rw[e];exact hp))];exact d3,d4,d6,d7⟩
 ·obtain⟨_,hs⟩:=qs s _ (by simp) hs;obtain⟨_,ht⟩:=qs t _ (by simp) ht;exact h.nM s t b' x y hs ht
 ·have hj:bS O.hp k (φ (.obj Y)) j=φ (.obj x):=hj;by_cases e:j=k;subst e;rw[aN]at hj;injection hj with hj;injection hj with hj;subst hj;exact⟨b,hp,ru⟩;rw[aA _ _ e]at hj;obtain⟨b',d1,d2⟩:=h.obj j x hj;exact⟨b',d1,by rw[fD _ (hne j b' e (by rw[hj];simp) d1)];exact d2⟩
section
variable{d:Option Tmp}{op:BinOp}{t t' ty:TypeId}{x y:Operand}{ps:String}{af:Array Edge}{g:Option (Nat×Bool)}{b:Bool}{p q:MV}
def Ut:dZ tab (.mk d (.range t x) ty ps af g) e O=Β:=rfl
def ZY:dZ tab (.mk d (.next x b) ty ps af g) e O=Β:=rfl
def Gc:dZ tab (.mk d (.typeAssert x t t' b) ty ps af g) e O=Β:=rfl
def M0(t:TypeId):Option c6->Option MV->Option MV
 | some i,φ p=>match i.under with
   | .interface _=>Β
   | _=>φ (.iface t p)
 | _,_=>Β
def ZZ:dZ tab (.mk d (.makeInterface t x) ty ps af g) e O=(M0 t (tab t) (ev e x)).map (·,O):=by
 unfold dZ fI j9 M0;dsimp only;cases tab t with
 | none=>rfl
 | some i=>
   cases ev e x with
   | none=>obtain⟨u,a,b,z⟩:=i;cases u<;>rfl
   | some p=>obtain⟨u,a,b,z⟩:=i;cases u<;>rfl
def Uu:dZ tab (.mk d (.panic x) ty ps af g) e O=Β:=rfl
def Z0:dT tab op t (.iface ty p) (.v .nilIface)=Β:=by cases op<;>rfl
def Z1:dT tab op t (.v .nilIface) (.iface ty p)=Β:=by cases op<;>rfl
def ac0 :uT (.tuple cs) i=cs[i]?:=rfl
def ac1{r:Int}{a b a' b':Nat}{z z':Η}:MN (.v (.int .i32 r)) (φ ⟨.int .i32,a,b,z⟩) (φ ⟨.string,a',b',z'⟩)=Β:=rfl
def ac2:dT tab op t (.v .nilIface) (.v .nilIface)=Β:=by cases op<;>rfl
end
end
def wi:=Ca @ZZ<|Ca @Ut<|Ca @ZY<|Ca @Gc<|Ca @Uu<|Ca @Z0<|Ca @Z1<|Ca @ac0<|Ca @ac1 @ac2
section
variable{G H:Gh}{n:Sz}{D:List Deferred}{e e':Env}{a:Act}{P:Program}{tab:cL}{O O':VH}{w:World}{m m':MV}{u v:Value}{ops:Array Oper}{Q:VQ}{md:Md}
def mM(cs:Η)(X:Obj)(G:Gh):Prop:=∃C:Array Value,∃T:Fz C,X= .cells C T.t T.fr/\aW G cs (C.toList.take (Ζ cs))
def mM.mono(h:G.Le H)(hx:mM cs X G):mM cs X H:=by
 obtain⟨C,T,h1,h2⟩:=hx;exact⟨C,T,h1,h2.mono h⟩
def VH.tZ{x:cx} :(j=k/\(O.set k x).hp j=φ x)\/(j≠k/\(O.set k x).hp j=O.hp j):=by
 by_cases e:j=k;subst e;exact .inl ⟨rfl,υ _ _ _⟩;exact .inr ⟨e,π _ _ e⟩
def En{x:cx}(hk:O.hp k≠Β)(h:(O.set k x).hp j≠Β):O.hp j≠Β:=by
 rcases VH.tZ (O:=O) (x:=x) (k:=k) (j:=j)with⟨rfl,_⟩ | ⟨_,e⟩;exact hk
 ·rwa [e]at h
def WR.swap{x:cx}(h:WR G O w)(hk:O.hp k≠Β)(hc:∀cs,x= .cells cs->∃b,∃C:Array Value,∃T:Fz C,G.cu k=φ b/\w.heap[b]?=φ (.cells C T.t T.fr)/\aW G cs (C.toList.take (Ζ cs)))
  (ho:∀X,x= .obj X->∃b,G.cu k=φ b/\w.heap[b]?=φ X) (hm:∀es ck,x≠ .map es ck) (ht:x≠ .tok) (hs:∀j t n,x≠ .shape j t n) (hf:∀p,x≠ .fact p:=by intro _ e;cases e):WR G (O.set k x) w where
 base:=h.base
 fB:=h.fB
 sq j hj:=by
  obtain⟨h1,h2,h3⟩:=h.sq j hj;exact⟨h1,h2,(π _ _ (λe=>by subst e;exact hk h3)).trans h3⟩
 lU j b hj:=by
  obtain⟨h1,h2,h3⟩:=h.lU j b hj;exact⟨h1,h2,λhn=>h3 (En hk hn)⟩
 inj i j b hi hj:=h.inj i j b (En hk hi) (En hk hj)
 cells j cs hj:=by
  rcases VH.tZ (O:=O) (x:=x) (k:=k) (j:=j)with⟨rfl,e⟩ | ⟨_,e⟩;rw[e]at hj;injection hj with hj;exact hc cs hj;rw[e]at hj;exact h.cells j cs hj
 map j es ck hj:=by
  rcases VH.tZ (O:=O) (x:=x) (k:=k) (j:=j)with⟨rfl,e⟩ | ⟨_,e⟩;rw[e]at hj;injection hj with hj;exact absurd hj (hm _ _);rw[e]at hj;exact h.map j es ck hj
 tok j hj:=by
  rcases VH.tZ (O:=O) (x:=x) (k:=k) (j:=j)with⟨rfl,e⟩ | ⟨_,e⟩;rw[e]at hj;injection hj with hj;exact absurd hj ht;rw[e]at hj;exact h.tok j hj
 nM i j b y z hi hj:=by
  rcases VH.tZ (O:=O) (x:=x) (k:=k) (j:=i)with⟨rfl,e⟩ | ⟨_,e⟩;rw[e]at hi;injection hi with hi;exact absurd hi ht;rw[e]at hi;rcases VH.tZ (O:=O) (x:=x) (k:=k) (j:=j)with⟨rfl,e⟩ | ⟨_,e⟩;rw[e]at hj;injection hj with hj;exact absurd hj ht;rw[e]at hj;exact h.nM i j b y z hi hj
 mC j k' t n hj:=by
  rcases VH.tZ (O:=O) (x:=x) (k:=k) (j:=j)with⟨rfl,e⟩ | ⟨_,e⟩;rw[e]at hj;injection hj with hj;exact absurd hj (hs _ _ _);rw[e]at hj;exact h.mC j k' t n hj
 obj j y hj:=by
  rcases VH.tZ (O:=O) (x:=x) (k:=k) (j:=j)with⟨rfl,e⟩ | ⟨_,e⟩;rw[e]at hj;injection hj with hj;exact ho y hj;rw[e]at hj;exact h.obj j y hj
 tI:=h.tI
 Eb:=h.uv (Gh.Le.refl _) (oN hf)
def WR.fix(h:WR G O w)(hk:O.hp k=φ (.cells cs)):∃X,mM cs X G/\WR G (O.set k (.obj X)) w:=by
 obtain⟨b,C,T,h1,h2,h3⟩:=h.cells k cs hk;exact⟨_,⟨C,T,rfl,h3⟩,h.swap (by rw[hk];simp) (λ_ e=>by cases e) (λX e=>by injection e with e;exact⟨b,h1,by rw[h2,e]⟩) (λ_ _ e=>by cases e) (λe=>by cases e) (λ_ _ _ e=>by cases e) (λ_ e=>by cases e)⟩
def WR.A_(h:WR G O w)(hk:O.hp k=φ (.obj X))(hx:mM cs X G):WR G (O.set k (.cells cs)) w:=by
 obtain⟨b,h1,h2⟩:=h.obj k X hk;obtain⟨C,T,rfl,h3⟩:=hx;exact h.swap (by rw[hk];simp) (λcs' e=>by injection e with e;subst e;exact⟨b,C,T,h1,h2,h3⟩) (λX e=>by cases e) (λ_ _ e=>by cases e) (λe=>by cases e) (λ_ _ _ e=>by cases e) (λ_ e=>by cases e)
def VC.pI{id:Nat}(brk:Τ)(k:Nat)(hk:O.hp k=φ (.cells cs))(h:∀X,ab P n D ops brk (λO'=>O'.hp k=φ (.obj X)) (mM cs X) True ops.size (Array.replicate ops.size γ) e (O.set k (.obj X)) Q)(hm:P.follows .mixedOrders=Α:=by kernel_rfl):VC P n D (.region id ops Α) e O Q:=
 λG a w hw hf=>by
  obtain⟨X,hx,oA⟩:=(hw.drawn _).fix hk;exact wp_region_any hm (mF _ _ _ _ (h X (λ_ _=>mM.mono) trivial (υ _ _ _) G a _ hx oA hf))
def HS(ht:aR P tab){t:TypeId}{i:c6}(hi:tab t=φ i)(hv:pr (eP i.under) i.size cs off=φ m)(qQ:aW G cs us):
  ∃r,VR G m r/\∀y b,(∀j v,us[j]?=φ v->y.cell? ⟨b,j,Β⟩=φ v)->(Instr.loadAt t (.pointer (φ ⟨b,off,Β⟩))).run P y= .ok r y:=by
 have gT:=ht t i hi;simp only[Instr.loadAt,Instr.sureAddr,loadVar];unfold pr at hv;split at hv
 ·rename_i sr;split at hv
  ·rename_i hle;injection hv with hv;subst hv;have Ff:=(qQ.drop off).take i.size;(have hlen:((us.drop off).take i.size).length=i.size:=by simp[qQ.1];omega);refine⟨_,.agg Ff.1 Ff.2,λy b hy=>?_⟩
   have Cv:∀j v,((us.drop off).take i.size)[j]?=φ v->y.cell? ((⟨b,off,Β⟩:Addr).add j)=φ v:=by
    intro j v hj;rw[Addr.add_lit];rw[akc]at hj;split at hj;rw[List.getElem?_drop]at hj;exact hy _ v hj;cases hj
   have BE:=run_loadCells_list (P:=P) y ⟨b,off,Β⟩ _ Cv;rw[hlen]at BE;simp[qO gT,sr,gH gT,BE]
  ·cases hv
 ·rename_i sr;obtain⟨v,je,px⟩:=qQ.get hv;exact⟨v,px,λy b hy=>by simp[qO gT,sr,hy _ v je]⟩
def δ(i:Nat){l:ϕ}{t:TypeId}{ty:TypeId}(hv:gj tab (O.set k (.cells cs)) t (.p k off)=φ m)(h:ab P n D ⟨l⟩ brk (λO'=>O'.hp k=φ (.obj X)) (mM cs X) True fuel (listed.setIfInBounds i Α) (bt d m e) O Q)(ht:aR P tab:=by exact aa)(ho:l[i]?=φ (.mk d (.load t x) ty ps af g):=by exact rfl)(hs:Region.noSelect ⟨l⟩=Α:=by kernel_rfl)(hf:Region.free .any ⟨l⟩ listed i=Α:=by kernel_rfl)(hr:(Region.ready .any ⟨l⟩ listed).contains i=Α:=by kernel_rfl)(hb:oz ⟨l⟩ brk listed i=Α:=by kernel_rfl)(hg:aQ ⟨l⟩ (.mk d (.load t x) ty ps af g) e=φ Α:=by exact rfl)(hd:bL n d=Α:=by exact rfl)(hx:ev e x=φ (.p k off):=by exact rfl):ab P n D ⟨l⟩ brk (λO'=>O'.hp k=φ (.obj X)) (mM cs X) True (fuel+1) listed e O Q:=by
 refine ab.take (o:=.mk d (.load t x) ty ps af g) (by simpa using ho) hs hf hr hb hd (λG a w _ hJ hψ hw aZ=>?_) h;obtain⟨C,T,rfl,h3⟩:=hψ;unfold gj at hv;simp only[cellsOf,υ]at hv;split at hv
 ·rename_i ti cs' off' Tt hc;injection hc with hc;injection hc with e1 e2;subst e1;subst e2
  obtain⟨r,lK,iA⟩:=HS (P:=P) ht Tt hv h3;have hxr:=aZ.ev hx;generalize hxe:a.eval x=xu at hxr;cases hxr with
  | p hp=>
    rename_i b;refine⟨r,lK,.inl ⟨bN aZ hg,λy hy=>?_⟩⟩;obtain⟨H,O2,g1,g2,g3⟩:=hy;obtain⟨b',cC,cG⟩:=g2.obj k _ g3;rw[g1.cu hp]at cC;injection cC with cC;subst cC
    have:=iA y b λj v hj=>by
     rw[akc]at hj;split at hj;simp only[World.cell?,cG,akd,ake,if_false];simpa using hj;cases hj
    simp only[execOp,Sem.run_bind,hxe,this];rfl
 ·cases hv
def ahi{Q Q':Exit->Act->World->Prop}{K:Act->World->Prop}(hQ:∀y a w,Q y a w->Q' y a w)(h1:wpOp P ops Q i K a w):wpOp P ops Q' i K a w:=by
 unfold wpOp at h1 ⊢;split;rename_i ho;simp only[ho]at h1;exact h1
 ·rename_i o ho;simp only[ho]at h1;split
  ·rename_i uW;simp only[uW,if_true]at h1;refine h1.imp (λh2=>?_) (λ⟨h2,a',w',h3⟩=>⟨h2,a',w',hQ _ _ _ h3⟩);unfold Oper.wp at h2 ⊢;generalize (execOp a.eval o).run P w=r at*;cases r with
   | ok nx w'=>
     cases nx<;>simp only[Oper.upon]at h2 ⊢ <;>first
      | exact h2
      | (refine Calls.mono h2 λx JG he=>?_
         cases x with
         | returned v=>exact he
         | panicked c=>exact hQ _ _ _ he
         | outgrown=>obtain⟨a',w',h3⟩:=he;exact⟨a',w',hQ _ _ _ h3⟩)
   | halt x w'=>cases x<;>simp only[Oper.upon]at h2 ⊢ <;>first | exact h2 | exact hQ _ _ _ h2
  ·rename_i uW;simp only[uW]at h1;exact h1
def Xp(k:Nat)(X:Obj)(cs:Η)(Q:VQ):VQ:=λx e O=>match x with
 | .panic m=>O.hp k=φ (.obj X)/\Q (.panic m) e (O.set k (.cells cs))
 | _=>False
def Xp.post{y:Exit}(hψ :mM cs X G)(h:c7 G n D (Xp k X cs Q) y a w):c7 G n D Q y a w:=by
 obtain⟨x,e,O,H,h1,h2,h3,h4,h5⟩:=h;cases x with
 | panic m=>exact⟨_,e,_,H,h1,h2.A_ h5.1 (hψ.mono h1),h3,h4,h5.2⟩
 | _=>exact h5.elim
def ab.lr{l:ϕ}{f:Operand}{as_:Array Operand}{ts:Array TypeId}{ty:TypeId}{id:FuncId}(hR:VF P id ms O R)
  (h:∀m O',R (.ret m) O'->O'.hp k=φ (.obj X)/\ab P n D ⟨l⟩ brk (λO'=>O'.hp k=φ (.obj X)) (mM cs X) True fuel (listed.setIfInBounds i Α) (bt d m e) O' Q) (h2:∀m O',R (.panic m) O'->O'.hp k=φ (.obj X)/\Q (.panic m) (mD n e) (O'.set k (.cells cs))) (hr:Region.ready .any ⟨l⟩ listed=[i]:=by kernel_rfl) (ho:l[i]?=φ (.mk d (.call {callee:=.value f,args:=as_,argTypes:=ts}) ty ps af g):=by exact rfl) (hg:aQ ⟨l⟩ (.mk d (.call {callee:=.value f,args:=as_,argTypes:=ts}) ty ps af g) e=φ Α:=by exact rfl) (hf:ev e f=φ (.func (.func id) [] []):=by exact rfl) (hm:il e as_.toList=φ ms:=by exact rfl) (hb:dA P id=Α:=by kernel_rfl) (hd:bL n d=Α:=by exact rfl):ab P n D ⟨l⟩ brk (λO'=>O'.hp k=φ (.obj X)) (mM cs X) True (fuel+1) listed e O Q:=by
 intro hΨ hZ hJ G a w hψ hw aZ;refine k6 hr (by simp) λj hj=>?_
 obtain rfl:j=i:=by simpa using hj
 have h1:=aI.call (Q:=Xp k X cs Q) (K:=λe' O'=>O'.hp k=φ (.obj X)/\ab P n D ⟨l⟩ brk (λO'=>O'.hp k=φ (.obj X)) (mM cs X) True fuel (listed.setIfInBounds j Α) e' O' Q) (o:=.mk d (.call {callee:=.value f,args:=as_,argTypes:=ts}) ty ps af g) (by simpa using ho) hg rfl rfl hf hm (Enters.u9 hb) hd (by simpa using hR) (λr O' hr=>by
  cases r with
  | ret m=>exact h m O' hr
  | panic m=>exact h2 m O' hr) G a w hw aZ
 refine ahi (λ_ _ _=>Xp.post hψ) (wpOp_mono (λa' w' ⟨e',O',H,h1,h2,h3,h4,h5⟩=>⟨TE.mk ⟨H,O',h1,h2,h4⟩,k7 (λ_ _ _=>c7.le h1) _ _ _ _ (λk _ x hT=>hT.le h1) (h5 hΨ hZ h4 H a' w' (hψ.mono h1) h2 h3)⟩) h1)
def ab.A_(hb:((List.range listed.size).all λj=>listed.getD j Α||brk.contains j)=Α)(h:bA P n D ops fuel listed e (O.set k (.cells cs)) Q):ab P n D ops brk (λO'=>O'.hp k=φ (.obj X)) (mM cs X) True fuel listed e O Q:=by
 intro hΨ hZ hJ G a w hψ hw aZ;refine pH _ _ _ _ (λj hj x hs=>⟨hs,λhh=>?_⟩) (h G a w (hw.A_ hJ hψ) aZ);rcases ap9 j listed.size with hl | hl;have:=alO.1 hb j (aqk.2 hl);rw[hj,aqn]at this;rw[this]at hh;cases hh;rw[ap_,aoT (by simpa using hl)]at hj;cases hj
def aqQ(ix:List (Nat×Fl)){l:ϕ} 
  (h:WL P tab n D .any ⟨l⟩ Q L e (O.set k (.cells cs))) (ht:aR P tab:=by exact aa) (hb:((List.range listed.size).all λj=>listed.getD j Α||brk.contains j)=Α:=by kernel_rfl) (hs:Region.noSelect ⟨l⟩=Α:=by kernel_rfl) (hp:dk .any ⟨l⟩ fuel listed ix=Α:=by kernel_rfl) (hL:qu l ix=φ L:=by exact rfl):ab P n D ⟨l⟩ brk (λO'=>O'.hp k=φ (.obj X)) (mM cs X) True fuel listed e O Q:=ab.A_ hb (bA.bW ix h (ht:=ht) (hs:=hs) (hp:=hp) (hL:=hL))
end
def Wk(m m':MV):Prop:=∀G u,VR G m u->VR G m' u
def fR(a b:Η):Prop:=Ζ a=(Ζ b)/\∀(i:Nat)(c d:MV),a[i]?=φ c->b[i]?=φ d->Wk c d
def Wk.refl(m:MV):Wk m m:=λ_ _ h=>h
def Wk.trans{a b c:MV}(h:Wk a b)(k:Wk b c):Wk a c:=λG u x=>k G u (h G u x)
def fR.refl(a:Η):fR a a:=⟨rfl,λi c d h k=>by rw[h]at k;injection k with k;subst k;exact Wk.refl _⟩
def fR.cons{b:Η}{x y:MV}(h:Wk x y)(k:fR a b):fR (x::a) (y::b):=by
 refine⟨by rw[ap4,ap4,k.1],λi c d e f=>?_⟩;cases i with
 | zero=>simp only[af_,Option.some.injEq]at e f;subst e;subst f;exact h
 | succ i=>simp only[agb]at e f;exact k.2 i c d e f
def fR.get{b:Η}(k:fR a b){d:MV}(h:b[i]?=φ d):∃c,a[i]?=φ c/\Wk c d:=by
 have hi:i<Ζ a:=by rw[k.1];exact(agc.1 h).1
 exact⟨a[i],Th hi,k.2 i _ _ (Th hi) h⟩
def fR.use{b:Η}(k:fR a b)(h:∀(i:Nat)(c:MV)(u:Value),a[i]?=φ c->us[i]?=φ u->VR G c u):∀(i:Nat)(c:MV)(u:Value),b[i]?=φ c->us[i]?=φ u->VR G c u:=λi d u h1 h2=>by
 obtain⟨c,h3,h4⟩:=k.get h1;exact h4 G u (h i c u h3 h2)
def fR.vrs{b:Η}(k:fR a b)(h:aW G a us):aW G b us:=⟨h.1.trans k.1,k.use h.2⟩
def Wk.agg{b:Η}(k:fR a b):Wk (.agg a) (.agg b):=λG u h=>by
 cases h with
 | agg h1 h2=>exact .agg (h1.trans k.1) (k.use h2)
def Wk.tuple{b:Η}(k:fR a b):Wk (.tuple a) (.tuple b):=λG u h=>by
 cases h with
 | tuple h1 h2=>exact .tuple (h1.trans k.1) (k.use h2)
def Wk.iface{t:TypeId}{a b:MV}(k:Wk a b):Wk (.iface t a) (.iface t b):=λG u h=>by
 cases h with
 | iface h1=>exact .iface (k G _ h1)
def fR.eq_nil{b:Η}(k:fR [] b):b=[]:=WT k.1.symm
def Wk.l{b:Η}{t:Tok}(k:fR a b):Wk (.l n a t) (.l n b t):=λG u h=>by
 cases h with
 | slnil=>rw[k.eq_nil];exact .slnil
 | rp h1=>rw[k.eq_nil];exact .rp h1
 | mg=>rw[k.eq_nil];exact .mg
 | l h1 h2 h3 h4 h5 h6=>exact .l (h1.trans k.1) h2 (k.use h3) h4 h5 (k.1▸h6)
def Wk.tok{t:Tok}:Wk (.l n a t) (.l n a .au):=λG u h=>by
 cases h with
 | slnil=>exact .mg
 | rp h1=>exact .rp h1
 | mg=>exact .mg
 | l h1 h2 h3 h4 h5 h6=>exact .l h1 h2 h3 h4 h5 trivial
mutual
def au:MV->MV
 | .l n cs _=>.l n (dz cs) .au
 | .agg cs=>.agg (dz cs)
 | .tuple cs=>.tuple (dz cs)
 | .iface t x=>.iface t (au x)
 | .v x=>.v x
 | .s l=>.s l
 | .p b o=>.p b o
 | .d_ cs o=>.d_ cs o
 | .aS b o n c=>.aS b o n c
 | .map b=>.map b
 | .func f a b=>.func f a b
def dz:Η->Η
 | []=>[]
 | c::cs=>au c::dz cs
end
mutual
def C7:∀m,Wk m (au m)
 | .l n cs t=>by rw[au];exact(Wk.l (sD cs)).trans Wk.tok
 | .agg cs=>by rw[au];exact Wk.agg (sD cs)
 | .tuple cs=>by rw[au];exact Wk.tuple (sD cs)
 | .iface t x=>by rw[au];exact Wk.iface (C7 x)
 | .v x=>by rw[au];exact Wk.refl _
 | .s l=>by rw[au];exact Wk.refl _
 | .p b o=>by rw[au];exact Wk.refl _
 | .d_ cs o=>by rw[au];exact Wk.refl _
 | .aS b o n c=>by rw[au];exact Wk.refl _
 | .map b=>by rw[au];exact Wk.refl _
 | .func f a b=>by rw[au];exact Wk.refl _
def sD:∀cs,fR cs (dz cs)
 | []=>by rw[dz];exact fR.refl _
 | c::cs=>by rw[dz];exact fR.cons (C7 c) (sD cs)
end
def pK(a b:Η):dz (a++b)=dz a++dz b:=by
 induction a with
 | nil=>rw[dz,aqi,aqi]
 | cons x a ih=>rw[aqe,dz,dz,ih,aqe]
def lx{α :Type}{f: α ->Η}(h:∀x,dz (f x)=f x)(L:List α):dz (L.flatMap f)=L.flatMap f:=by
 induction L with
 | nil=>rw[List.flatMap_nil,dz]
 | cons x L ih=>rw[List.flatMap_cons,pK,h,ih]
def Z2(L:List Ρ):dz (L.map .s)=L.map .s:=by
 induction L with
 | nil=>rw[ap8,dz]
 | cons x L ih=>rw[aga,dz,au,ih]
def rV:MV->MV
 | .l n cs t=>.l n (dz cs) t
 | m=>au m
def Qj(m:MV):Wk m (rV m):=by
 cases m with
 | l n cs t=>exact Wk.l (sD cs)
 | _=>exact C7 _
def HT:Η->Η
 | []=>[]
 | c::cs=>rV c::HT cs
def Qk:∀cs,fR cs (HT cs)
 | []=>fR.refl _
 | c::cs=>fR.cons (Qj c) (Qk cs)
def wZ:MV->MV
 | .l n cs t=>.l n (dz cs) t
 | .tuple cs=>.tuple (HT cs)
 | m=>au m
def ac3(m:MV):Wk m (wZ m):=by
 cases m with
 | l n cs t=>exact Wk.l (sD cs)
 | tuple cs=>exact Wk.tuple (Qk cs)
 | _=>exact C7 _
section
variable{P:Program}{f:FuncId}{as_ bs:Η}{O:VH}
def VF.fgR{R:iE->VH->Prop} (h:VF P f as_ O λr O'=>match r with
  | .ret m=>R (.ret (wZ m)) O'
  | .panic m=>R (.panic (au m)) O'):VF P f as_ O R:=λG w vs hw hv=>by
 refine(h G w vs hw hv).mono ?_;rintro x w' ⟨r,O',H,h1,h2,h3,h4⟩;cases r with
 | ret m=>cases x with
   | returned v=>exact⟨.ret _,O',H,h1,h2,ac3 m H v h3,h4⟩
   | _=>exact h3.elim
 | panic m=>cases x with
   | panicked c=>obtain⟨u,h5,h6⟩:=h3;exact⟨.panic _,O',H,h1,h2,⟨u,h5,C7 m H u h6⟩,h4⟩
   | _=>exact h3.elim
def VF.fg{Φ :MV->VH->Prop}(h:VF P f as_ O (aH λm O'=> Φ (wZ m) O')):VF P f as_ O (aH Φ):=VF.fgR (VF.mono (λr O' hr=>by cases r with
 | ret m=>exact hr
 | panic m=>exact hr.elim) h)
variable{n:Sz}{md:Md}{Q:VQ}{e:Env}{K:Env->VH->Prop}
end
section
variable{P:Program}{tab:cL}{n:Sz}{D:List Deferred}{md:Md}{ops:Array Oper}{Q:VQ}{e e':Env}{O O':VH}{m m':MV}
def EW(e e':Env):Prop:=∀t x',look e' t=φ x'->∃x,look e t=φ x/\Wk x x'
def EW.refl(e:Env):EW e e:=λt x h=>⟨x,h,Wk.refl _⟩
def EW.top(h:Wk m m'):EW ((k,m)::e) ((k,m')::e):=λt x hx=>by
 rw[look]at hx ⊢;cases ht:t==k;rw[ht]at hx;exact⟨x,hx,Wk.refl _⟩;rw[ht]at hx;injection hx with hx;subst hx;exact⟨m,rfl,h⟩
def EW.bt(h:Wk m m'):EW (bt d m e) (bt d m' e):=by
 cases d with
 | none=>exact EW.refl _
 | some k=>exact EW.top h
def FR.wk{a:Act}(h:FR G n D e a)(hl:EW e e'):FR G n D e' a:=⟨h.defers,h.size,λt x hx=>by
 obtain⟨y,h1,h2⟩:=hl t x hx;obtain⟨u,h3,h4⟩:=h.get t y h1;exact⟨u,h3,h2 G u h4⟩⟩
def VL.wk(hl:EW e e')(h:VL P n D md ops L e' O Q):VL P n D md ops L e O Q:=λfuel listed ix h1 h2=>by
 have:=h fuel listed ix h1 h2;cases md<;>exactλG a w hw hf=>this G a w hw (hf.wk hl)
def Ξ{d:Code}{σ :Type}(l:Τ)(ms: σ ->Η)(I: σ ->VH->Prop)(h1:VC P n D c e O (aB l ms I Q))(h2:∀s O,I s O->VC P n D d (kJ l (ms s) []) O Q):VC P n D (.seq c d) e O Q:=by
 refine VC.seq (VC.mono ?_ h1);intro x e O h;cases x with
 | normal=>
   obtain⟨s,h3,h4⟩:=h;exact VC.env (h2 s O h4) (jU (e0:=[]) (λt x h=>by simp[look]at h) h3)
 | _=>exact h
def aqM{t ty:TypeId}{p q:MV}(hv:jx tab O t p q=φ (m,O'))(hw:rV m=m')(h:WL P tab n D md ops Q L (bt d m' e) O')(ht:aR P tab:=by exact aa)(hx:ev e x=φ p:=by exact rfl)(hy:ev e y=φ q:=by exact rfl)(hg:aQ ops (.mk d (.call {callee:=.builtin .append,args:= #[x,y],argTypes:= #[t,t]}) ty ps af g) e=φ Α:=by exact rfl)(hd:bL n d=Α:=by exact rfl):
  VL P n D md ops ((.one,.mk d (.call {callee:=.builtin .append,args:= #[x,y],argTypes:= #[t,t]}) ty ps af g)::L) e O Q:=
 VL.step ht hg (by rw[Ab,dP,hx,hy];exact hv) hd (VL.wk (EW.bt (hw▸Qj m)) (WL.sound ht h))
end
section
variable{n:Nat}{cs as_ bs:Η}{t:Tok}{ty:TypeId}{x:MV}{l:Ρ}{b o:Nat}{v:Value}{f:Fn}{c:MV}
def ac4:wZ (.l n cs t)= .l n (dz cs) t:=rfl
def Ql:wZ (.tuple cs)= .tuple (HT cs):=rfl
def Z3:wZ (.agg cs)= .agg (dz cs):=by show au (.agg cs)=_;rw[au]
def ahj:wZ (.v v)= .v v:=by show au (.v v)=_;rw[au]
def Z4:wZ (.s l)= .s l:=by show au (.s l)=_;rw[au]
def Z5:wZ (.p b o)= .p b o:=by show au (.p b o)=_;rw[au]
def Z6 :wZ (.aS b o i j)= .aS b o i j:=by show au (.aS b o i j)=_;rw[au]
def Z7:wZ (.map b)= .map b:=by show au (.map b)=_;rw[au]
def Uv:wZ (.func f as_ bs)= .func f as_ bs:=by show au (.func f as_ bs)=_;rw[au]
def sE:rV (.l n cs t)= .l n (dz cs) t:=rfl
def Qm:rV (.tuple cs)= .tuple (dz cs):=by show au (.tuple cs)=_;rw[au]
def Z8:rV (.agg cs)= .agg (dz cs):=by show au (.agg cs)=_;rw[au]
def ahk:rV (.v v)= .v v:=by show au (.v v)=_;rw[au]
def Z9:rV (.s l)= .s l:=by show au (.s l)=_;rw[au]
def Z_:rV (.p b o)= .p b o:=by show au (.p b o)=_;rw[au]
def Uw:rV (.d_ cs o)= .d_ cs o:=by show au (.d_ cs o)=_;rw[au]
def aaa :rV (.aS b o i j)= .aS b o i j:=by show au (.aS b o i j)=_;rw[au]
def aab:rV (.map b)= .map b:=by show au (.map b)=_;rw[au]
def Ux:rV (.func f as_ bs)= .func f as_ bs:=by show au (.func f as_ bs)=_;rw[au]
def Qn:rV (.iface ty x)= .iface ty (au x):=by show au (.iface ty x)=_;rw[au]
def aac:HT []=[]:=rfl
def Uy:HT (c::cs)=rV c::HT cs:=rfl
def ahl:au (.l n cs t)= .l n (dz cs) .au:=by rw[au]
def ac5:au (.agg cs)= .agg (dz cs):=by rw[au]
def akJ:au (.v v)= .v v:=by rw[au]
def ac6:au (.s l)= .s l:=by rw[au]
def ac7:au (.p b o)= .p b o:=by rw[au]
def ac8 :au (.aS b o i j)= .aS b o i j:=by rw[au]
def ac9:au (.map b)= .map b:=by rw[au]
def Uz:au (.iface ty x)= .iface ty (au x):=by rw[au]
def KY:dz []=[]:=by rw[dz]
def UA:dz (c::cs)=au c::dz cs:=by rw[dz]
end
def wu:=Ca @ac4<|Ca @Ql<|Ca @Z3<|Ca @ahj<|Ca @Z4<|Ca @Z5<|Ca @Z6<|Ca @Z7<|Ca @Uv<|Ca @sE<|Ca @Qm<|Ca @Z8<|Ca @ahk<|Ca @Z9<|Ca @Z_<|Ca @Uw<|Ca @aaa<|Ca @aab<|Ca @Ux<|Ca @Qn<|Ca @aac<|Ca @Uy<|Ca @ahl<|Ca @ac5<|Ca @akJ<|Ca @ac6<|Ca @ac7<|Ca @ac8<|Ca @ac9<|Ca @Uz<|Ca @KY<|Ca @UA<|Ca @pK @Z2
open Go.MapKept (run_setObj_map)
section
variable{G H:Gh}{n:Sz}{D:List Deferred}{e:Env}{a:Act}{P:Program}{tab:cL}{O O':VH}{w:World}{m m':MV}{u v:Value}{ops:Array Oper}{Q:VQ}{md:Md}
def M3{t:TypeId}{x:MV} :i_ tab O t x (.agg cs) ok=Β:=by
 unfold i_;split;split;rename_i kd te h1 h2;(((have:AT kd (.agg cs)=γ:=by cases kd<;>rfl);rw[this]);rfl);rfl
def Gd{t:TypeId}{x y:MV} :e_ tab O t x (.agg cs) y=Β:=by
 unfold e_;split;split;rename_i kd es ck h1 h2;(((have:AT kd (.agg cs)=γ:=by cases kd<;>rfl);rw[this]);rfl);rfl
def g_(l:List Ρ):Value:=.agg (l.map λs=>Value.string ⟨⟨s⟩⟩).toArray
structure w6(P:Program)(kt:TypeId)(N:Nat):Prop where
 law:WideMaps.KeyLaw P kt
 of:∀l:List Ρ,Ζ l=N->(∀s∈l,Ζ s<=maxLen)->∃lit,keyOf P kt (g_ l)=φ lit
def KZ:∀{l:List Ρ} {us:List Value},aW G (l.map .s) us->us=l.map λs=>Value.string ⟨⟨s⟩⟩
 | [],us,h=>WT h.1
 | s::l,[],h=>by have:=h.1;simp at this
 | s::l,x::us,h=>by
   have h1:VR G (.s s) x:=h.2 0 _ _ rfl rfl;cases h1;rw[aga,KZ (l:=l) (us:=us) ⟨by have:=h.1;simpa using this,λi c u a b=>h.2 (i+1) c u (by simpa using a) (by simpa using b)⟩]
def C8{l:List Ρ}(h:VR G (.agg (l.map .s)) v):v=g_ l:=by
 cases h with
 | agg h1 h2=>rw[KZ ⟨h1,h2⟩];rfl
def UC{l m:List Ρ}(h:g_ l=g_ m):l=m:=by
 unfold g_ at h;injection h with h;have h:=congrArg Array.toList h;simp only at h
 have:∀{l m:List Ρ},l.map (λs=>Value.string ⟨⟨s⟩⟩)=m.map (λs=>Value.string ⟨⟨s⟩⟩)->l=m:=by
  intro l;induction l with
  | nil=>intro m h;cases m with
    | nil=>rfl
    | cons y m=>simp at h
  | cons x l ih=>intro m h;cases m with
    | nil=>simp at h
    | cons y m=>
      simp only[aga,List.cons.injEq,Value.string.injEq,ByteArray.mk.injEq,Array.mk.injEq]at h;rw[h.1,ih h.2]
 exact this h
abbrev gI:=List (List Ρ×MV×Nat)
def db(M:gI):xQ:=M.map λp=>(.agg (p.1.map .s),p.2.1,p.2.2)
def jC(l:List Ρ)(M:gI):ϱ:=(M.find? (·.1==l)).map (·.2.1)
def jX(l:List Ρ)(y:MV)(ck:Nat)(M:gI):gI:=if M.any (·.1==l)then M.map (λp=>if p.1=l then(l,y,p.2.2)else p)else M++[(l,y,ck)]
def M4(l:List Ρ)(ck:Nat)(M:gI):Nat:=if M.any (·.1==l)then ck else ck+1
structure pL(N:Nat)(M:gI):Prop where
 len:∀p∈M,Ζ p.1=N/\∀s∈p.1,Ζ s<=maxLen
 one:(M.map (·.1)).Nodup
def M_{M:gI}(h:(M.map (·.1)).Nodup){p:List Ρ×MV×Nat}(hp:M[j]?=φ p):jC p.1 M=φ p.2.1:=by
 unfold jC;induction M generalizing j with
 | nil=>simp at hp
 | cons x M ih=>
   simp only[aga,List.nodup_cons]at h;cases j with
   | zero=>simp only[af_,Option.some.injEq]at hp;subst hp;simp
   | succ j=>
     simp only[agb]at hp;have hm:p.1∈M.map (·.1):=alT (aka hp)
     have hne:(x.1==p.1)=γ:=by
      rw[beq_eq_false_iff_ne];intro e;exact h.1 (e▸hm)
     rw[List.find?_cons,hne];exact ih h.2 hp
def Ae{M:gI}{l:List Ρ}(h:∀p∈M,p.1≠l):jC l M=Β:=by
 unfold jC;rw[List.find?_eq_none.2 (λp hp=>by simpa using h p hp)];rfl
def iZ.keys{M:gI}(h:iZ G (db M) E):Ζ E=(Ζ M)/\∀(j:Nat)(p:List Ρ×MV×Nat)(x:MapEntry),M[j]?=φ p->E[j]?=φ x->x.key=g_ p.1/\VR G p.2.1 x.val/\x.born=p.2.2:=by
 have hl:Ζ E=Ζ M:=by have:=h.key.1;simpa[db]using this
 refine⟨hl,λj p x hp hx=>⟨?_,?_,?_⟩⟩;exact C8 (h.key.2 j _ _ (by simp[db,hp]) (by simp[hx]));exact h.val.2 j _ _ (by simp[db,hp]) (by simp[hx]);have:=congrArg (λl=>l[j]?) h.born;simpa[db,hp,hx]using this
def C9{kt:TypeId}{N:Nat}(K:w6 P kt N){M:gI}{l:List Ρ}(hM:pL N M)(hE:iZ G (db M) E)(hl:Ζ l=N)(hs:∀s∈l,Ζ s<=maxLen)(w:World):
  ((Instr.findKey kt (g_ l) E).run P w= .ok Β w/\∀p∈M,p.1≠l)\/∃(j:Nat)(p:List Ρ×MV×Nat)(x:MapEntry),(Instr.findKey kt (g_ l) E).run P w= .ok (φ (j,x.val)) w/\M[j]?=φ p/\p.1=l/\E[j]?=φ x/\VR G p.2.1 x.val:=by
 obtain⟨lit,Ba⟩:=K.of l hl hs;obtain⟨h1,h2⟩:=hE.keys
 have ja:∀x∈E,∃q,keyOf P kt x.key=φ q:=λx hx=>by
  obtain⟨j,hj,rfl⟩:=ap6.1 hx;(have hjM:j<Ζ M:=by omega);have:=(h2 j _ _ (Th hjM) (Th hj)).1;rw[this];exact K.of _ (hM.len _ (alS hjM)).1 (hM.len _ (alS hjM)).2
 rcases K.law.find w Ba E ja with⟨g1,g2⟩ | ⟨j,x,g1,g2,g3⟩;refine .inl ⟨g1,λp hp e=>?_⟩;obtain⟨j,hj,rfl⟩:=ap6.1 hp;((have hjE:j<Ζ E:=by omega);have:=(h2 j _ _ (Th hj) (Th hjE)).1;exact g2 _ (alS hjE) (by rw[this,e]));have hjE:=(agc.1 g2).1;(have hjM:j<Ζ M:=by omega);have h3:=h2 j _ _ (Th hjM) g2;exact .inr ⟨j,M[j],x,g1,Th hjM,UC (h3.1.symm.trans g3),g2,h3.2.1⟩
def iZ.amb{M:gI}{l:List Ρ}{y:MV}{yv:Value}(hM:(M.map (·.1)).Nodup)(hE:iZ G (db M) E)(hy:VR G y yv){p:List Ρ×MV×Nat}(hp:M[j]?=φ p)(dD:p.1=l)(hk:VR G (.agg (l.map .s)) (g_ l)):
  iZ G (db (M.map λp=>if p.1=l then(l,y,p.2.2)else p)) (E.modify j λx=>{x with key:=g_ l,val:=yv}):=by
 have e:db (M.map λp=>if p.1=l then(l,y,p.2.2)else p)=setAt (db M) j (.agg (l.map .s)) y:=by
  clear hE hy hk;unfold db setAt;induction M generalizing j with
  | nil=>simp at hp
  | cons x M ih=>
    simp only[aga,List.nodup_cons]at hM;cases j with
    | zero=>
      simp only[af_,Option.some.injEq]at hp;subst hp
      have dh:M.map (λp=>if p.1=l then(l,y,p.2.2)else p)=M:=by
       have:∀q∈M,(if q.1=l then(l,y,q.2.2)else q)=q:=λq hq=>if_neg λe=>hM.1 (by rw[dD, <-e];exact alT hq)
       calc M.map (λp=>if p.1=l then(l,y,p.2.2)else p)=M.map id:=List.map_congr_left this
        _=M:=by simp
      simp only[aga,List.modify_zero_cons,if_pos dD];rw[dh]
    | succ j=>
      simp only[agb]at hp;(have hne:¬x.1=l:=λe=>hM.1 (by rw[e, <-dD];exact alT (aka hp)));simp only[aga,List.modify_succ_cons,if_neg hne];rw[ih hM.2 hp]
 rw[e];exact iZ.modify hk hy j hE
def ac_(l:List Ρ):VR G (.agg (l.map .s)) (g_ l):=by
 unfold g_;refine .agg (by simp) λi c u h1 h2=>?_
 simp only[alR,aqf]at h1 h2;obtain⟨s,h3,rfl⟩:=h1;obtain⟨t,h4,rfl⟩:=h2;rw[h3]at h4;injection h4 with h4;subst h4;exact .s
def gJ(P:Program)(n:Sz)(D:List Deferred)(o:Oper)(e:Env)(O:VH)(m:MV):Prop:=∀G a w,WR G O w->FR G n D e a->∃u,VR G m u/\∀x,Sx G w x->(execOp a.eval o).run P x= .ok (.value u) x
def aI.hold(ho:ops[i]?=φ o)(hg:aQ ops o e=φ Α)(hd:bL n o.dst=Α)(hy:gJ P n D o e O m)(h:K (bt o.dst m e) O):aI P n D ops i e O Q K:=by
 refine aI.kL (M:=λm' O'=>m'=m/\O'=O) ho hg hd (λG a w hw hf=>?_) (by rintro m' O' ⟨rfl,rfl⟩;exact h);obtain⟨u,hu,hr⟩:=hy G a w hw hf;exact⟨m,O,u,w,G,⟨rfl,rfl⟩,hr w hw.sx,Gh.Le.refl G,hw,hu⟩
def VL.hold{f:Fl}(hh:(f= .one/\(md= .plain\/md= .any))\/f= .rd)(hg:aQ ops o e=φ Α)(hd:bL n o.dst=Α)(hy:gJ P n D o e O m)(h:VL P n D md ops L (bt o.dst m e) O Q):VL P n D md ops ((f,o)::L) e O Q:=by
 intro fuel listed ix hf hp
 match ix,hf with
 | (i,g)::ix,hf=>
   obtain⟨rfl,ho,hf⟩:=hf;cases md with
   | plain=>exact jR.one (aI.hold ho hg hd hy (h 0 #[] ix hf (λh=>absurd rfl h)))
   | any=>
     obtain⟨h1,h2⟩:=hp (by simp);cases fuel with
     | zero=>cases h2
     | succ fuel=>
       simp only[dk,Ti]at h2;have hk:=h fuel (listed.setIfInBounds i Α) ix hf (λ_=>⟨h1,h2.2⟩);rcases hh with⟨rfl,_⟩ | rfl
       ·have hr:Region.ready .any ops listed=[i]:=by simpa using h2.1
        exact bA.all hr (by simp) λj hj=>by
         obtain rfl:j=i:=by simpa using hj
         exact aI.hold ho hg hd hy hk
       ·exact absurd h2.1 (by simp)
   | reads=>
     obtain⟨h1,h2⟩:=hp (by simp);cases fuel with
     | zero=>cases h2
     | succ fuel=>
       simp only[dk,Ti]at h2;have hk:=h fuel (listed.setIfInBounds i Α) ix hf (λ_=>⟨h1,h2.2⟩);rcases hh with⟨_,h3 | h3⟩ | rfl;cases h3;cases h3;intro G a w hw aZ;obtain⟨u,hu,cT⟩:=hy G a w hw aZ;(have h3:Region.free .any ops listed i=Α/\(Region.ready .any ops listed).contains i=Α:=by simp_all);exact wpAnyH_take ho h1 h3.1 h3.2 (jz hd) (.inl ⟨bN aZ hg,λw' lI=>by rw[lI];exact cT w hw.sx⟩) rfl (hk G _ w hw (aZ.bt hd hu))
   | held brk=>
     obtain⟨h1,h2⟩:=hp (by simp);cases fuel with
     | zero=>cases h2
     | succ fuel=>
       simp only[dk,Ti]at h2;have hk:=h fuel (listed.setIfInBounds i Α) ix hf (λ_=>⟨h1,h2.2⟩);rcases hh with⟨_,h3 | h3⟩ | rfl;cases h3;cases h3;simp only[Ti]at h2
       exact cc.take ho h1 h2.1.1.1 h2.1.1.2 h2.1.2 hd (λG a w hw aZ=>by
        obtain⟨u,hu,cT⟩:=hy G a w hw aZ;exact⟨u,hu,.inl ⟨bN aZ hg,λx hx=>cT x hx⟩⟩) hk
def BT(ok:Bool)(z:MV):ϱ->MV
 | some m=>if ok then .tuple [m,.v (.bool Α)]else m
 | none=>if ok then .tuple [z,.v (.bool γ)]else z
def Xq{m:MV}:BT γ z (φ m)=m:=rfl
def ahm{m:MV}:BT Α z (φ m)= .tuple [m,.v (.bool Α)]:=rfl
def ahn :BT γ z Β=z:=rfl
def Na :BT Α z Β= .tuple [z,.v (.bool γ)]:=rfl
def gJ.lV{kt et:TypeId}{N:Nat}(K:w6 P kt N)(ht:aR P tab){t ty:TypeId}{M:gI}{l:List Ρ}(hU:P.underlying t=φ (.map kt et))(qd:tab et=φ te)(hz:zZ te=φ z)
  (hx:ev e x=φ (.map b)) (hb:O.hp b=φ (.map (db M) ck)) (hM:pL N M) (hy:ev e y=φ (.agg (l.map .s))) (hl:Ζ l=N) (hs:∀s∈l,Ζ s<=maxLen):gJ P n D (.mk d (.lookup t x y ok) ty ps af g) e O (BT ok z (jC l M)):=by
 intro G a w hw hf;have h1:=hf.ev hx;have h2:=hf.ev hy;generalize rD:a.eval x=u at h1;generalize BQ:a.eval y=v at h2;have hv:=C8 h2;subst hv;cases h1 with
 | map fC=>
   rename_i b';obtain⟨b2,E,e1,e2,e3,e4,e5⟩:=hw.map _ _ _ hb;rw[fC]at e1;injection e1 with e1;subst e1;have hE:iZ G (db M) E.toList:=⟨e3,e4,e5⟩;obtain⟨lit,Ba⟩:=K.of l hl hs;obtain⟨zv,z1,z2⟩:=BK (ht et te qd) hz;(have aiE:∀y,Sx G w y->y.heap[b']?=φ (.map E ck):=λy hy=>(hy.2 _ _ fC).trans e2);by_cases C_:∃p∈M,p.1=l
   ·have h3:=C9 K hM hE hl hs w;rcases h3 with⟨_,g2⟩ | ⟨j,p,q,_,g2,g3,g4,g5⟩;obtain⟨p,hp,e⟩:=C_;exact absurd e (g2 p hp);((have fa:jC l M=φ p.2.1:=by rw[<-g3];exact M_ hM.one g2);rw[fa];refine⟨if ok then .tuple #[q.val,.bool Α]else q.val,?_,λyw hyw=>?_⟩);cases ok;exact g5;exact VR.tuple (us:=[q.val,.bool Α]) rfl (aW.cons g5 (aW.cons (.v rfl) aW.nil)).2
    ·have hr:(Instr.findKey kt (g_ l) E.toList).run P yw= .ok (φ (j,q.val)) yw:=by
      rcases C9 K hM hE hl hs yw with⟨_,g6⟩ | ⟨j',p',q',g6,g7,g8,g9,_⟩;exact absurd g3 (g6 p (aka g2))
      ·have nX:j'=j:=by
        have h5:(M.map (·.1))[j']?=φ l:=by simp[g7,g8]
        have h6:(M.map (·.1))[j]?=φ l:=by simp[g2,g3]
        exact(List.getElem?_inj (by simpa using(agc.1 g7).1) hM.one).1 (h5.trans h6.symm)
       subst nX;rw[g4]at g9;injection g9 with g9;subst g9;exact g6
     have HU:=K.law.check yw E.isEmpty Ba;simp only[execOp,rD,BQ,Instr.lookup,Sem.run_bind,run_underlying hU,Result.andThen_ok,MapKept.run_getObj_map (aiE yw hyw),HU,hr,Sem.run_pure]
   ·have dh:∀p∈M,p.1≠l:=λp hp e=>C_ ⟨p,hp,e⟩
    rw[Ae dh];refine⟨if ok then .tuple #[zv,.bool γ]else zv,?_,λyw hyw=>?_⟩;cases ok;exact z2 G;exact VR.tuple (us:=[zv,.bool γ]) rfl (aW.cons (z2 G) (aW.cons (.v rfl) aW.nil)).2
    ·have hr:(Instr.findKey kt (g_ l) E.toList).run P yw= .ok Β yw:=by
      rcases C9 K hM hE hl hs yw with⟨g6,_⟩ | ⟨j',p',q',_,g7,g8,_⟩;exact g6;exact absurd g8 (dh p' (aka g7))
     have HU:=K.law.check yw E.isEmpty Ba;simp only[execOp,rD,BQ,Instr.lookup,Sem.run_bind,run_underlying hU,Result.andThen_ok,MapKept.run_getObj_map (aiE yw hyw),HU,hr,Sem.run_pure,z1]
def qv(P:Program)(n:Sz)(D:List Deferred)(o:Oper)(e:Env)(O O':VH):Prop:=∀G a w,WR G O w->FR G n D e a->∃w' H,(execOp a.eval o).run P w= .ok .skip w'/\Gh.Le G H/\WR H O' w'
def aI.qw(ho:ops[i]?=φ o)(hg:aQ ops o e=φ Α)(hd:bL n o.dst=Α)(hy:qv P n D o e O O')(h:K (bt o.dst cY e) O'):aI P n D ops i e O Q K:=by
 intro G a w hw aZ;obtain⟨w',H,hr,h1,h2⟩:=hy G a w hw aZ;simp only[wpOp,ho,bN aZ hg,if_true];refine .inl ?_;unfold Oper.wp;rw[hr];exact⟨_,_,H,h1,h2,(aZ.mono h1).bt hd nj,h⟩
def VL.qw(hg:aQ ops o e=φ Α)(hd:bL n o.dst=Α)(hy:qv P n D o e O O')
  (sA:∀brk,md= .held brk->∀i,ops[i]?=φ o->brk.contains i=Α) (h:VL P n D md ops L (bt o.dst cY e) O' Q):VL P n D md ops ((.one,o)::L) e O Q:=by
 intro fuel listed ix hf hp
 match ix,hf with
 | (i,g)::ix,hf=>
   obtain⟨rfl,ho,hf⟩:=hf;cases md with
   | plain=>exact jR.one (aI.qw ho hg hd hy (h 0 #[] ix hf (λh=>absurd rfl h)))
   | any=>
     obtain⟨h1,h2⟩:=hp (by simp);cases fuel with
     | zero=>cases h2
     | succ fuel=>
       simp only[dk,Ti]at h2;have hr:Region.ready .any ops listed=[i]:=by simpa using h2.1
       exact bA.all hr (by simp) λj hj=>by
        obtain rfl:j=i:=by simpa using hj
        exact aI.qw ho hg hd hy (h fuel (listed.setIfInBounds j Α) ix hf (λ_=>⟨h1,h2.2⟩))
   | reads=>
     obtain⟨h1,h2⟩:=hp (by simp);cases fuel with
     | zero=>cases h2
     | succ fuel=>
       simp only[dk,Ti]at h2;exact absurd h2.1 (by simp)
   | held brk=>
     obtain⟨h1,h2⟩:=hp (by simp);cases fuel with
     | zero=>cases h2
     | succ fuel=>
       simp only[dk,Ti]at h2;have hr:Region.ready .any ops listed=[i]:=by simpa using h2.1.1
       have xL:∀j,(listed.setIfInBounds i Α).getD j Α=γ\/j=i->brk.contains j=Α:=by
        rcases uX ho h2.1.2 with⟨h3,_⟩ | h3;rw[sA brk rfl i ho]at h3;cases h3;exact h3
       exact cc.abM hr xL (aI.qw ho hg hd hy (h fuel (listed.setIfInBounds i Α) ix hf (λ_=>⟨h1,h2.2⟩)))
def qv.jX{kt et:TypeId}{N:Nat}(K:w6 P kt N){t ty:TypeId}{z:Operand}{M:gI}{l:List Ρ}(hU:P.underlying t=φ (.map kt et))
  (hx:ev e x=φ (.map b)) (hb:O.hp b=φ (.map (db M) ck)) (hM:pL N M) (hy:ev e y=φ (.agg (l.map .s))) (hl:Ζ l=N) (hs:∀s∈l,Ζ s<=maxLen) (hz:ev e z=φ m):qv P n D (.mk d (.mapUpdate t x y z) ty ps af g) e O (O.set b (.map (db (jX l m ck M)) (M4 l ck M))):=by
 intro G a w hw hf;have h1:=hf.ev hx;have h2:=hf.ev hy;have h3:=hf.ev hz;generalize rD:a.eval x=u at h1;generalize BQ:a.eval y=v at h2;generalize haz:a.eval z=r at h3;have hv:=C8 h2;subst hv;cases h1 with
 | map fC=>
   rename_i b';obtain⟨b2,E,e1,e2,e3,e4,e5⟩:=hw.map _ _ _ hb;rw[fC]at e1;injection e1 with e1;subst e1;have hE:iZ G (db M) E.toList:=⟨e3,e4,e5⟩;obtain⟨lit,Ba⟩:=K.of l hl hs;have HU:=K.law.check w γ Ba;rcases C9 K hM hE hl hs w with⟨g1,g2⟩ | ⟨j,p,q,g1,g2,g3,g4,g5⟩
   ·have k8:M.any (·.1==l)=γ:=by rw[List.any_eq_false];intro p hp;simpa using g2 p hp
    have hr:iZ G (db (M++[(l,m,ck)])) (E.push {key:=g_ l,val:=r,born:=ck}).toList:=by
     rw[Array.toList_push];unfold db;rw[alU];exact hE.append (iZ.cons rfl h2 h3 iZ.nil)
    refine⟨?wx,G,?rn,Gh.Le.refl G,?wr⟩
    case wr=>rw[Go.Proofs.YtjpadehgejlebaaGreatDoor.jX,M4,k8];exact hw.vU (ck':=ck+1) hb fC e2 hr
    case rn=>
     simp only[execOp,rD,BQ,haz,Instr.mapUpdate,Sem.run_bind,run_underlying hU,Result.andThen_ok,MapKept.run_getObj_map e2,HU,g1,run_setObj_map _ e2];rfl
   ·have k8:M.any (·.1==l)=Α:=List.any_eq_true.2 ⟨p,aka g2,by simp[g3]⟩;(have Nb:q.key=g_ l:=by have:=(hE.keys.2 j p q g2 g4).1;rw[this,g3]);have cX:=K.law.stays w Ba;have hr:=iZ.amb hM.one hE h3 g2 g3 (ac_ l);rw[<-Array.toList_modify]at hr
    have AB:((E[j]?).map (·.key)).getD (g_ l)=g_ l:=by
     have:E[j]?=φ q:=by simpa using g4
     rw[this];exact Nb
    refine⟨?wy,G,?rm,Gh.Le.refl G,?ws⟩
    case ws=>rw[Go.Proofs.YtjpadehgejlebaaGreatDoor.jX,M4,k8];exact hw.vU (ck':=ck) hb fC e2 hr
    case rm=>
     simp only[execOp,rD,BQ,haz,Instr.mapUpdate,Sem.run_bind,run_underlying hU,Result.andThen_ok,MapKept.run_getObj_map e2,HU,g1,AB,cX,run_setObj_map _ e2];rfl
end
def sF{N:Nat}{M:gI}{l:List Ρ}{y:MV}(h:pL N M)(hl:Ζ l=N)(hs:∀s∈l,Ζ s<=maxLen):pL N (jX l y ck M):=by
 unfold jX;split
 ·have hk:(M.map (λp=>if p.1=l then(l,y,p.2.2)else p)).map (·.1)=M.map (·.1):=by
   rw[List.map_map];(((refine List.map_congr_left λp _=>?_);show(if p.1=l then(l,y,p.2.2)else p).1=p.1;split);rename_i e;exact e.symm);rfl
  refine⟨λp hp=>?_,by rw[hk];exact h.one⟩;(have:p.1∈M.map (·.1):=by rw[<-hk];exact alT hp);obtain⟨q,hq,e⟩:=List.mem_map.1 this;rw[<-e];exact h.len q hq
 ·rename_i dh;(((have dh:∀p∈M,¬p.1=l:=λp hp e=>dh (List.any_eq_true.2 ⟨p,hp,by simp[e]⟩));refine⟨λp hp=>?_,?_⟩);rcases List.mem_append.1 hp with hp | hp;exact h.len p hp;rw[List.mem_singleton.1 hp];exact⟨hl,hs⟩);rw[alU,List.nodup_append];refine⟨h.one,by simp,λx hx z hz e=>?_⟩;simp only[aga,ap8,List.mem_singleton]at hz;obtain⟨q,hq,e2⟩:=List.mem_map.1 hx;exact dh q hq (by rw[e2,e,hz])
def Xr(P:Program):List Field->Nat->Bool
 | [],_=>Α
 | f::r,i=>(match P.underlying f.type with | some .string=>Α | _=>γ)&&f.offset==i&&P.cellsOf f.type==1&&Xr P r (i+1)
def skB(P:Program)(kt:TypeId)(N:Nat):Bool:=match P.underlying kt with
 | some (.struct fs)=>P.keyType kt&&fs.all (·.name != "_")&&P.cellsOf kt==N&&fs.size==N&&Xr P fs.toList 0&&decide (kt<P.types.size)&&decide (P.types.size+2<=10000)
 | _=>γ
def mapM_some{α β :Type}{g: α ->Option β}:∀{L:List α},(∀f∈L,∃y,g f=φ y)->∃ys,L.mapM g=φ ys
 | [],_=>⟨[],rfl⟩
 | f::L,h=>by
   obtain⟨y,hy⟩:=h f (by simp);(obtain⟨ys,TZ⟩:=mapM_some (L:=L) λx hx=>h x (List.mem_cons_of_mem _ hx));exact⟨y::ys,by rw[List.mapM_cons,hy];simp[TZ]⟩
def Qo{P:Program}:∀{L:List Field} {i:Nat},Xr P L i=Α->∀(j:Nat)(f:Field),L[j]?=φ f->P.underlying f.type=φ .string/\f.offset=i+j/\P.cellsOf f.type=1
 | [],_,_,j,f,h=>by simp at h
 | g::L,i,hB,j,f,h=>by
   simp only[Xr,Ti,beq_iff_eq]at hB;obtain⟨⟨⟨h1,h2⟩,h3⟩,h4⟩:=hB;cases j with
   | zero=>
     simp only[af_,Option.some.injEq]at h;subst h;refine⟨?_,h2,h3⟩;split at h1;assumption;cases h1
   | succ j=>
     have:=Qo h4 j f (by simpa using h);exact⟨this.1,by omega,this.2.2⟩
def w6.u9{P:Program}{kt:TypeId}{N:Nat}(hl:laidOutB P=Α)(h:skB P kt N=Α:=by kernel_rfl):w6 P kt N:=by
 unfold skB at h;split at h
 ·rename_i fs hu;simp only[Ti,beq_iff_eq,decide_eq_true_eq]at h;obtain⟨⟨⟨⟨⟨⟨h1,h2⟩,h3⟩,h4⟩,h5⟩,h6⟩,h7⟩:=h;refine⟨deep_law_gate hl h7 h6 h1 (by rw[hu]),λl hlen hs=>?_⟩
  have akK:(g_ l).formed P kt=Α:=by
   unfold g_ Value.formed;simp only[hu];simp[hlen,h3]
  have akL:∃ls,P.keyLits (P.types.size+1) kt (g_ l).cells.toList=φ ls:=by
   (obtain⟨D,hD⟩:∃D,P.types.size=D+1:=⟨P.types.size - 1,by have:0<P.types.size:=Nat.lt_of_le_of_lt (Nat.zero_le kt) h6;omega⟩);rw[hD];unfold Program.keyLits;have hc:(g_ l).cells.toList=l.map λs=>Value.string ⟨⟨s⟩⟩:=by simp[g_,Value.cells]
   rw[hc];simp only[hu];rw[if_pos ⟨by simp[hlen,h3],h2⟩]
   obtain⟨ys,TZ⟩:=mapM_some (L:=fs.toList) (g:=λf=>P.keyLits (D+1) f.type (((l.map λs=>Value.string ⟨⟨s⟩⟩).drop f.offset).take (P.cellsOf f.type))) λf hf=>by
    obtain⟨j,hj,rfl⟩:=ap6.1 hf;obtain⟨g1,g2,g3⟩:=Qo h5 j _ (Th hj);rw[alP]at g2;have BU:j<Ζ l:=by rw[hlen, <-h4];simpa using hj
    have amc:((l.map λs=>Value.string ⟨⟨s⟩⟩).drop j).take 1=[Value.string ⟨⟨l[j]⟩⟩]:=by
     rw[List.drop_eq_getElem_cons (by simpa using BU)];simp
    rw[g2,g3,amc];unfold Program.keyLits;simp only[g1];exact⟨_,if_pos (hs _ (alS BU))⟩
   exact⟨ys.flatten,by rw[TZ];rfl⟩
  obtain⟨ls,hls⟩:=akL;refine⟨.string (keyBytes ls),?_⟩;unfold keyOf;simp only[hu];rw[h1,akK,hls];rfl
 ·cases h
def zk:=Ca wk<|Ca wu<|Ca @M3<|Ca @Gd<|Ca @aqg.{0,0}<|Ca @Xq<|Ca @ahm<|Ca @ahn<|Ca @Na<|Ca @ac0<|Ca @Option.isSome_some.{0}<|Ca @akd.{0}<|Ca @v_ @ak
section
variable{A1 A2 A3 A4 A5 A6 A7 A8 A9 P Q:Prop}
def Nc(q:Q)(h:P=Q:=by conv=>lhs;simp(disch:=first | omega | (simp only[ds]<;>omega) | fail) only[zk,cY,Nat.reduceLT,Nat.reduceAdd,Nat.reduceMul,Nat.reduceSub,Nat.reduceBEq,Nat.reduceEqDiff,Int.reduceToNat,reduceIte]):P:=(h).mpr q
def ae(a1:A1)(q:Q)(h:A1->P=Q:=by intro a1;conv=>lhs;simp(disch:=first | omega | (simp only[ds]<;>omega) | fail) only[zk,cY,Nat.reduceLT,Nat.reduceAdd,Nat.reduceMul,Nat.reduceSub,Nat.reduceBEq,Nat.reduceEqDiff,Int.reduceToNat,reduceIte,a1]):P:=(h a1).mpr q
def ff(a1:A1)(h:A1->P:=by intro a1;simp(disch:=first | omega | (simp only[ds]<;>omega) | fail) only[zk,cY,Nat.reduceLT,Nat.reduceAdd,Nat.reduceMul,Nat.reduceSub,Nat.reduceBEq,Nat.reduceEqDiff,Int.reduceToNat,reduceIte,a1]):P:=h a1
def ao(a1:A1)(a2:A2)(q:Q)(h:A1->A2->P=Q:=by intro a1 a2;conv=>lhs;simp(disch:=first | omega | (simp only[ds]<;>omega) | fail) only[zk,cY,Nat.reduceLT,Nat.reduceAdd,Nat.reduceMul,Nat.reduceSub,Nat.reduceBEq,Nat.reduceEqDiff,Int.reduceToNat,reduceIte,a1,a2]):P:=(h a1 a2).mpr q
def eD(a1:A1)(a2:A2)(h:A1->A2->P:=by intro a1 a2;simp(disch:=first | omega | (simp only[ds]<;>omega) | fail) only[zk,cY,Nat.reduceLT,Nat.reduceAdd,Nat.reduceMul,Nat.reduceSub,Nat.reduceBEq,Nat.reduceEqDiff,Int.reduceToNat,reduceIte,a1,a2]):P:=h a1 a2
def aE(a1:A1)(a2:A2)(a3:A3)(q:Q)(h:A1->A2->A3->P=Q:=by intro a1 a2 a3;conv=>lhs;simp(disch:=first | omega | (simp only[ds]<;>omega) | fail) only[zk,cY,Nat.reduceLT,Nat.reduceAdd,Nat.reduceMul,Nat.reduceSub,Nat.reduceBEq,Nat.reduceEqDiff,Int.reduceToNat,reduceIte,a1,a2,a3]):P:=(h a1 a2 a3).mpr q
def kt3(a1:A1)(a2:A2)(a3:A3)(h:A1->A2->A3->P:=by intro a1 a2 a3;simp(disch:=first | omega | (simp only[ds]<;>omega) | fail) only[zk,cY,Nat.reduceLT,Nat.reduceAdd,Nat.reduceMul,Nat.reduceSub,Nat.reduceBEq,Nat.reduceEqDiff,Int.reduceToNat,reduceIte,a1,a2,a3]):P:=h a1 a2 a3
def cB(a1:A1)(a2:A2)(a3:A3)(a4:A4)(q:Q)(h:A1->A2->A3->A4->P=Q:=by intro a1 a2 a3 a4;conv=>lhs;simp(disch:=first | omega | (simp only[ds]<;>omega) | fail) only[zk,cY,Nat.reduceLT,Nat.reduceAdd,Nat.reduceMul,Nat.reduceSub,Nat.reduceBEq,Nat.reduceEqDiff,Int.reduceToNat,reduceIte,a1,a2,a3,a4]):P:=(h a1 a2 a3 a4).mpr q
def kt4(a1:A1)(a2:A2)(a3:A3)(a4:A4)(h:A1->A2->A3->A4->P:=by intro a1 a2 a3 a4;simp(disch:=first | omega | (simp only[ds]<;>omega) | fail) only[zk,cY,Nat.reduceLT,Nat.reduceAdd,Nat.reduceMul,Nat.reduceSub,Nat.reduceBEq,Nat.reduceEqDiff,Int.reduceToNat,reduceIte,a1,a2,a3,a4]):P:=h a1 a2 a3 a4
def iV(a1:A1)(a2:A2)(a3:A3)(a4:A4)(a5:A5)(q:Q)(h:A1->A2->A3->A4->A5->P=Q:=by intro a1 a2 a3 a4 a5;conv=>lhs;simp(disch:=first | omega | (simp only[ds]<;>omega) | fail) only[zk,cY,Nat.reduceLT,Nat.reduceAdd,Nat.reduceMul,Nat.reduceSub,Nat.reduceBEq,Nat.reduceEqDiff,Int.reduceToNat,reduceIte,a1,a2,a3,a4,a5]):P:=(h a1 a2 a3 a4 a5).mpr q
def kt5(a1:A1)(a2:A2)(a3:A3)(a4:A4)(a5:A5)(h:A1->A2->A3->A4->A5->P:=by intro a1 a2 a3 a4 a5;simp(disch:=first | omega | (simp only[ds]<;>omega) | fail) only[zk,cY,Nat.reduceLT,Nat.reduceAdd,Nat.reduceMul,Nat.reduceSub,Nat.reduceBEq,Nat.reduceEqDiff,Int.reduceToNat,reduceIte,a1,a2,a3,a4,a5]):P:=h a1 a2 a3 a4 a5
def wc(a1:A1)(a2:A2)(a3:A3)(a4:A4)(a5:A5)(a6:A6)(q:Q)(h:A1->A2->A3->A4->A5->A6->P=Q:=by intro a1 a2 a3 a4 a5 a6;conv=>lhs;simp(disch:=first | omega | (simp only[ds]<;>omega) | fail) only[zk,cY,Nat.reduceLT,Nat.reduceAdd,Nat.reduceMul,Nat.reduceSub,Nat.reduceBEq,Nat.reduceEqDiff,Int.reduceToNat,reduceIte,a1,a2,a3,a4,a5,a6]):P:=(h a1 a2 a3 a4 a5 a6).mpr q
def kt6(a1:A1)(a2:A2)(a3:A3)(a4:A4)(a5:A5)(a6:A6)(h:A1->A2->A3->A4->A5->A6->P:=by intro a1 a2 a3 a4 a5 a6;simp(disch:=first | omega | (simp only[ds]<;>omega) | fail) only[zk,cY,Nat.reduceLT,Nat.reduceAdd,Nat.reduceMul,Nat.reduceSub,Nat.reduceBEq,Nat.reduceEqDiff,Int.reduceToNat,reduceIte,a1,a2,a3,a4,a5,a6]):P:=h a1 a2 a3 a4 a5 a6
def Nf(a1:A1)(a2:A2)(a3:A3)(a4:A4)(a5:A5)(a6:A6)(a7:A7)(q:Q)(h:A1->A2->A3->A4->A5->A6->A7->P=Q:=by intro a1 a2 a3 a4 a5 a6 a7;conv=>lhs;simp(disch:=first | omega | (simp only[ds]<;>omega) | fail) only[zk,cY,Nat.reduceLT,Nat.reduceAdd,Nat.reduceMul,Nat.reduceSub,Nat.reduceBEq,Nat.reduceEqDiff,Int.reduceToNat,reduceIte,a1,a2,a3,a4,a5,a6,a7]):P:=(h a1 a2 a3 a4 a5 a6 a7).mpr q
def JS(a1:A1)(a2:A2)(a3:A3)(a4:A4)(a5:A5)(a6:A6)(a7:A7)(a8:A8)(q:Q)(h:A1->A2->A3->A4->A5->A6->A7->A8->P=Q:=by intro a1 a2 a3 a4 a5 a6 a7 a8;conv=>lhs;simp(disch:=first | omega | (simp only[ds]<;>omega) | fail) only[zk,cY,Nat.reduceLT,Nat.reduceAdd,Nat.reduceMul,Nat.reduceSub,Nat.reduceBEq,Nat.reduceEqDiff,Int.reduceToNat,reduceIte,a1,a2,a3,a4,a5,a6,a7,a8]):P:=(h a1 a2 a3 a4 a5 a6 a7 a8).mpr q
def kw9(a1:A1)(a2:A2)(a3:A3)(a4:A4)(a5:A5)(a6:A6)(a7:A7)(a8:A8)(a9:A9)(q:Q)(h:A1->A2->A3->A4->A5->A6->A7->A8->A9->P=Q:=by intro a1 a2 a3 a4 a5 a6 a7 a8 a9;conv=>lhs;simp(disch:=first | omega | (simp only[ds]<;>omega) | fail) only[zk,cY,Nat.reduceLT,Nat.reduceAdd,Nat.reduceMul,Nat.reduceSub,Nat.reduceBEq,Nat.reduceEqDiff,Int.reduceToNat,reduceIte,a1,a2,a3,a4,a5,a6,a7,a8,a9]):P:=(h a1 a2 a3 a4 a5 a6 a7 a8 a9).mpr q
end
section
variable{n:Sz}{D:List Deferred}{e:Env}{P:Program}{tab:cL}{O:VH}{Q:VQ}{A1 A2 R:Prop}
def ρ(i:Nat){l:ϕ}(a1:A1)(q:R)(ht:aR P tab:=by exact aa)(ho:l[i]?=φ o:=by exact rfl)(hs:Region.noSelect ⟨l⟩=Α:=by kernel_rfl)(hf:Region.free .any ⟨l⟩ listed i=Α:=by kernel_rfl)(hr:(Region.ready .any ⟨l⟩ listed).contains i=Α:=by kernel_rfl)(hb:oz ⟨l⟩ brk listed i=Α:=by kernel_rfl)(hg:aQ ⟨l⟩ o e=φ Α:=by exact rfl)(hd:bL n o.dst=Α:=by exact rfl)(h:A1->yr (λm O2=>ab P n D ⟨l⟩ brk J Ψ Z fuel (listed.setIfInBounds i Α) (bt o.dst m e) O2 Q) (jB tab .bh o e O)=R:=by intro a1;conv=>lhs;simp(disch:=first | omega | (simp only[ds]<;>omega) | fail) only[zk,cY,Nat.reduceLT,Nat.reduceAdd,Nat.reduceMul,Nat.reduceSub,Nat.reduceBEq,Nat.reduceEqDiff,Int.reduceToNat,reduceIte,a1]):ab P n D ⟨l⟩ brk J Ψ Z (fuel+1) listed e O Q:=ab.bh i ((h a1).mpr q) ht ho hs hf hr hb hg hd
def ab.ql(i:Nat){l:ϕ}(a1:A1)(a2:A2)(q:R)(ht:aR P tab:=by exact aa)(ho:l[i]?=φ o:=by exact rfl)(hs:Region.noSelect ⟨l⟩=Α:=by kernel_rfl)(hf:Region.free .any ⟨l⟩ listed i=Α:=by kernel_rfl)(hr:(Region.ready .any ⟨l⟩ listed).contains i=Α:=by kernel_rfl)(hb:oz ⟨l⟩ brk listed i=Α:=by kernel_rfl)(hg:aQ ⟨l⟩ o e=φ Α:=by exact rfl)(hd:bL n o.dst=Α:=by exact rfl)(h:A1->A2->yr (λm O2=>ab P n D ⟨l⟩ brk J Ψ Z fuel (listed.setIfInBounds i Α) (bt o.dst m e) O2 Q) (jB tab .bh o e O)=R:=by intro a1 a2;conv=>lhs;simp(disch:=first | omega | (simp only[ds]<;>omega) | fail) only[zk,cY,Nat.reduceLT,Nat.reduceAdd,Nat.reduceMul,Nat.reduceSub,Nat.reduceBEq,Nat.reduceEqDiff,Int.reduceToNat,reduceIte,a1,a2]):ab P n D ⟨l⟩ brk J Ψ Z (fuel+1) listed e O Q:=ab.bh i ((h a1 a2).mpr q) ht ho hs hf hr hb hg hd
def Ω{md:Md}{x:MV}(hR:VF P f as_ O (aH λm O2=>m=x/\O2=O))(h:K (bt d x e) O)(hb:dA P f=Α:=by kernel_rfl)(ha:fs++ms++cs=as_:=by exact rfl)(hd:bL n d=Α:=by exact rfl):ah P n md Q d O K e (φ (.func (.func f) fs cs)) (φ ms):=τ hR (λm O2 h2=>by rw[h2.1,h2.2];exact h) hb ha hd
end
def aa:aR Ε (bR Ε):=abN _
def θ{n:Sz}{d:Code}(h:WC Ε (bR Ε) n D c e O (tW (MX Ε n D d Q) Q)):VC Ε n D (.seq c d) e O Q:=VC.ag aa h
def ι{n:Sz}(h:WC Ε (bR Ε) n D c e O Q):VC Ε n D c e O Q:=WC.sound aa h
def κ{n:Sz}{d:Code}{R:Prop}(a1:A1)(q:R)(h:A1->WC Ε (bR Ε) n D c e O (tW (MX Ε n D d Q) Q)=R:=by intro a1;conv=>lhs;simp(disch:=first | omega | (simp only[ds]<;>omega) | fail) only[zk,cY,Nat.reduceLT,Nat.reduceAdd,Nat.reduceMul,Nat.reduceSub,Nat.reduceBEq,Nat.reduceEqDiff,Int.reduceToNat,reduceIte,a1]):VC Ε n D (.seq c d) e O Q:=θ ((h a1).mpr q)
def ν{n:Sz}{R:Prop}(a1:A1)(q:R)(h:A1->WC Ε (bR Ε) n D c e O Q=R:=by intro a1;conv=>lhs;simp(disch:=first | omega | (simp only[ds]<;>omega) | fail) only[zk,cY,Nat.reduceLT,Nat.reduceAdd,Nat.reduceMul,Nat.reduceSub,Nat.reduceBEq,Nat.reduceEqDiff,Int.reduceToNat,reduceIte,a1]):VC Ε n D c e O Q:=ι ((h a1).mpr q)
def ξ{n:Sz}{d:Code}{R:Prop}(a1:A1)(a2:A2)(q:R)(h:A1->A2->WC Ε (bR Ε) n D c e O (tW (MX Ε n D d Q) Q)=R:=by intro a1 a2;conv=>lhs;simp(disch:=first | omega | (simp only[ds]<;>omega) | fail) only[zk,cY,Nat.reduceLT,Nat.reduceAdd,Nat.reduceMul,Nat.reduceSub,Nat.reduceBEq,Nat.reduceEqDiff,Int.reduceToNat,reduceIte,a1,a2]):VC Ε n D (.seq c d) e O Q:=θ ((h a1 a2).mpr q)
def ο{n:Sz}{R:Prop}(a1:A1)(a2:A2)(q:R)(h:A1->A2->WC Ε (bR Ε) n D c e O Q=R:=by intro a1 a2;conv=>lhs;simp(disch:=first | omega | (simp only[ds]<;>omega) | fail) only[zk,cY,Nat.reduceLT,Nat.reduceAdd,Nat.reduceMul,Nat.reduceSub,Nat.reduceBEq,Nat.reduceEqDiff,Int.reduceToNat,reduceIte,a1,a2]):VC Ε n D c e O Q:=ι ((h a1 a2).mpr q)
abbrev TY(t:Nat)(d:TypeDesc)(a b:Nat)(z:Η):Prop:=bR Ε t=φ ⟨d,a,b,z⟩
abbrev TS(t:Nat)(d:TypeDesc)(a b:Nat)(z:Η)(p:List (Nat×Nat)):Prop:=TY t d a b z/\eP d=Α/\∀x,zV (bR Ε) t x=(nW (lq p) z x).map .agg
abbrev FL(t i f:Nat)(g:Bool)(s:Nat):Prop:=(∀k o,kZ (bR Ε) t i (.p k o)=φ (.p k (o+f)))/\(∀c o,kZ (bR Ε) t i (.d_ c o)=φ (.d_ c (o+f)))/\∀c,zS (bR Ε) t (.agg c) i=pr g s c f
def eg{a:Nat}{d:TypeDesc}{z:Η}(h:bR Ε t=φ ⟨d,a,b,z⟩:=by kernel_rfl):TY t d a b z:=h
def jq{a:Nat}{d:TypeDesc}{z:Η}{p:List (Nat×Nat)}(h:bR Ε t=φ ⟨d,a,b,z⟩:=by kernel_rfl)(h1:eP d=Α:=by kernel_rfl)(h2:∀x,zV (bR Ε) t x=(nW (lq p) z x).map .agg:=by intro x;kernel_rfl):TS t d a b z p:=⟨h,h1,h2⟩
def bE{f s:Nat}{g:Bool}(h:∀k o,kZ (bR Ε) t i (.p k o)=φ (.p k (o+f)):=by intro k o;kernel_rfl)(h1:∀c o,kZ (bR Ε) t i (.d_ c o)=φ (.d_ c (o+f)):=by intro c o;kernel_rfl)(h2:∀c,zS (bR Ε) t (.agg c) i=pr g s c f:=by intro c;kernel_rfl):FL t i f g s:=⟨h,h1,h2⟩
def T1:TY 1 Tryz.t1.desc 1 8 [.v .nilFunc]:=eg
def T2:TY 2 (.int .i64) 1 8 [.v (Ι Κ 0)]:=eg
def T3:TY 3 (.int .i64) 1 8 [.v (Ι Κ 0)]:=eg
def T4:TY 4 .bool 1 1 [.v (.bool γ)]:=eg
def T5:TY 5 (.int .u8) 1 1 [.v (.int .u8 0)]:=eg
def T6:TY 6 (.int .u8) 1 1 [.v (.int .u8 0)]:=eg
def T7:TS 7 Tryz.t7.desc 4 24 [.v (Ι Κ 0),.v (Ι Κ 0),.v (.bool γ),.v (.int .u8 0)] [(0,1),(1,1),(2,1),(3,1)]/\FL 7 0 0 γ 1/\FL 7 1 1 γ 1/\FL 7 2 2 γ 1/\FL 7 3 3 γ 1:=⟨jq,bE,bE,bE,bE⟩
def T8:TS 8 Tryz.t7.desc 4 24 [.v (Ι Κ 0),.v (Ι Κ 0),.v (.bool γ),.v (.int .u8 0)] [(0,1),(1,1),(2,1),(3,1)]/\FL 8 0 0 γ 1/\FL 8 1 1 γ 1/\FL 8 2 2 γ 1/\FL 8 3 3 γ 1:=⟨jq,bE,bE,bE,bE⟩
def T9:TY 9 .string 1 16 [.s []]:=eg
def UD:TY 21 (.int .i32) 1 4 [.v (.int .i32 0)]:=eg
def HV:TY 22 (.slice 48) 1 24 [.l 0 [] .nil]:=eg
def Ng:TY 23 (.slice 42) 1 24 [.l 0 [] .nil]:=eg
def qV:TY 25 (.slice 29) 1 24 [.l 0 [] .nil]:=eg
def fZ:TY 29 (.slice 3) 1 24 [.l 0 [] .nil]:=eg
def T37:TY 37 (.map 40 3) 1 8 [.v (.map Β)]:=eg
def T38:TY 38 (.map 3 29) 1 8 [.v (.map Β)]:=eg
def T40:TS 40 Tryz.t39.desc 4 64 [.s [],.s [],.s [],.s []] [(0,1),(1,1),(2,1),(3,1)]/\FL 40 0 0 γ 1/\FL 40 1 1 γ 1/\FL 40 2 2 γ 1/\FL 40 3 3 γ 1:=⟨jq,bE,bE,bE,bE⟩
def T42:TS 42 Tryz.t41.desc 7 96 [.s [],.s [],.s [],.s [],.v (Ι Κ 0),.s [],.v (Ι Κ 0)] [(0,4),(4,1),(5,1),(6,1)]/\FL 42 0 0 Α 4/\FL 42 1 4 γ 1/\FL 42 2 5 γ 1/\FL 42 3 6 γ 1:=⟨jq,bE,bE,bE,bE⟩
def T44:TY 44 (.slice 199) 1 24 [.l 0 [] .nil]:=eg
def T46:TS 46 Tryz.t45.desc 3 48 [.v (.bool γ),.s [],.l 0 [] .nil] [(0,1),(1,1),(2,1)]/\FL 46 0 0 γ 1/\FL 46 1 1 γ 1/\FL 46 2 2 γ 1:=⟨jq,bE,bE,bE⟩
def T48:TS 48 Tryz.t47.desc 13 168 [.v (Ι Κ 0),.v (Ι Κ 0),.v (Ι Κ 0),.s [],.s [],.s [],.s [],.s [],.v (.bool γ),.s [],.l 0 [] .nil,.v (Ι Κ 0),.v (.bool γ)] [(0,1),(1,1),(2,1),(3,4),(7,1),(8,3),(11,1),(12,1)]/\FL 48 0 0 γ 1/\FL 48 1 1 γ 1/\FL 48 2 2 γ 1/\FL 48 3 3 Α 4/\FL 48 4 7 γ 1/\FL 48 5 8 Α 3/\FL 48 6 11 γ 1/\FL 48 7 12 γ 1:=⟨jq,bE,bE,bE,bE,bE,bE,bE,bE⟩
def T50:TY 50 (.pointer 82) 1 8 [.v (.pointer Β)]:=eg
def HW:TY 54 (.slice 150) 1 24 [.l 0 [] .nil]:=eg
def Eo:TS 56 Tryz.t55.desc 8 120 [.s [],.s [],.s [],.s [],.s [],.v (Ι Κ 0),.v (Ι Κ 0),.l 0 [] .nil] [(0,1),(1,1),(2,1),(3,1),(4,1),(5,1),(6,1),(7,1)]/\FL 56 0 0 γ 1/\FL 56 1 1 γ 1/\FL 56 2 2 γ 1/\FL 56 3 3 γ 1/\FL 56 4 4 γ 1/\FL 56 5 5 γ 1/\FL 56 6 6 γ 1/\FL 56 7 7 γ 1:=⟨jq,bE,bE,bE,bE,bE,bE,bE,bE⟩
def T57:TY 57 (.pointer 132) 1 8 [.v (.pointer Β)]:=eg
def Da:TS 60 Tryz.t59.desc 3 48 [.s [],.s [],.s []] [(0,1),(1,1),(2,1)]/\FL 60 0 0 γ 1/\FL 60 1 1 γ 1/\FL 60 2 2 γ 1:=⟨jq,bE,bE,bE⟩
def T62:TY 62 (.slice 65) 1 24 [.l 0 [] .nil]:=eg
def T65:TY 65 (.slice 68) 1 24 [.l 0 [] .nil]:=eg
def T68:TS 68 Tryz.t67.desc 5 80 [.s [],.s [],.s [],.s [],.s []] [(0,4),(4,1)]/\FL 68 0 0 Α 4/\FL 68 1 4 γ 1:=⟨jq,bE,bE⟩
def Qp:TY 69 (.slice 4) 1 24 [.l 0 [] .nil]:=eg
def T72:TY 72 Tryz.t72.desc 1 8 [.v .nilFunc]:=eg
def T74:TY 74 (.map 60 146) 1 8 [.v (.map Β)]:=eg
def T75:TY 75 (.map 150 117) 1 8 [.v (.map Β)]:=eg
def T80:TS 80 Tryz.t79.desc 1 8 [.v (Ι Κ 0)] [(0,0),(0,0),(0,1)]/\FL 80 2 0 γ 1:=⟨jq,bE⟩
def T82:TS 82 Tryz.t81.desc 4 32 [.v (.map Β),.v (.map Β),.v (Ι Κ 0),.v (Ι Κ 0)] [(0,1),(1,1),(2,1),(3,1)]/\FL 82 0 0 γ 1/\FL 82 1 1 γ 1/\FL 82 2 2 Α 1/\FL 82 3 3 Α 1:=⟨jq,bE,bE,bE,bE⟩
def HX:TY 83 (.slice 56) 1 24 [.l 0 [] .nil]:=eg
def Nh:TY 84 (.slice 170) 1 24 [.l 0 [] .nil]:=eg
def T86:TS 86 Tryz.t85.desc 11 192 [.v (.bool γ),.s [],.s [],.s [],.s [],.s [],.s [],.s [],.l 0 [] .nil,.l 0 [] .nil,.l 0 [] .nil] [(0,1),(1,3),(4,1),(5,1),(6,1),(7,1),(8,1),(9,1),(10,1)]/\FL 86 0 0 γ 1/\FL 86 1 1 Α 3/\FL 86 2 4 γ 1/\FL 86 3 5 γ 1/\FL 86 4 6 γ 1/\FL 86 5 7 γ 1/\FL 86 6 8 γ 1/\FL 86 7 9 γ 1/\FL 86 8 10 γ 1:=⟨jq,bE,bE,bE,bE,bE,bE,bE,bE,bE⟩
def T87:TY 87 (.int .i64) 1 8 [.v (Ι Κ 0)]:=eg
def T90:TY 90 (.slice 204) 1 24 [.l 0 [] .nil]:=eg
def yu:TY 91 (.slice 93) 1 24 [.l 0 [] .nil]:=eg
def Gf:TS 93 Tryz.t92.desc 4 80 [.s [],.l 0 [] .nil,.l 0 [] .nil,.s []] [(0,1),(1,1),(2,1),(3,1)]/\FL 93 0 0 γ 1/\FL 93 1 1 γ 1/\FL 93 2 2 γ 1/\FL 93 3 3 γ 1:=⟨jq,bE,bE,bE,bE⟩
def T95:TY 95 (.pointer 174) 1 8 [.v (.pointer Β)]:=eg
def T98:TY 98 (.int .u32) 1 4 [.v (.int .u32 0)]:=eg
def amd:TS 100 Tryz.t99.desc 1 4 [.v (.int .u32 0)] [(0,0),(0,1)]/\FL 100 1 0 γ 1:=⟨jq,bE⟩
def ada:TS 102 Tryz.t101.desc 2 8 [.v (.int .i32 0),.v (.int .u32 0)] [(0,1),(1,1)]/\FL 102 0 0 γ 1/\FL 102 1 1 γ 1:=⟨jq,bE,bE⟩
def ame:TS 104 Tryz.t103.desc 2 8 [.v (.int .i32 0),.v (.int .u32 0)] [(0,0),(0,2)]/\FL 104 1 0 Α 2:=⟨jq,bE⟩
def amf:TS 106 Tryz.t105.desc 3 12 [.v (.int .u32 0),.v (.int .i32 0),.v (.int .u32 0)] [(0,0),(0,1),(1,2)]/\FL 106 1 0 Α 1/\FL 106 2 1 Α 2:=⟨jq,bE,bE⟩
def adb:TS 108 Tryz.t107.desc 3 24 [.v (Ι Κ 0),.v (Ι Κ 0),.v (Ι Κ 0)] [(0,1),(1,1),(2,1)]/\FL 108 0 0 γ 1/\FL 108 1 1 γ 1/\FL 108 2 2 γ 1:=⟨jq,bE,bE,bE⟩
def Qq:TS 110 Tryz.t109.desc 8 96 [.v (Ι Κ 0),.s [],.s [],.s [],.v (Ι Κ 0),.v (Ι Κ 0),.v (Ι Κ 0),.s []] [(0,1),(1,3),(4,3),(7,1)]/\FL 110 0 0 γ 1/\FL 110 1 1 Α 3/\FL 110 2 4 Α 3/\FL 110 3 7 γ 1:=⟨jq,bE,bE,bE,bE⟩
def amg:TS 112 Tryz.t111.desc 9 120 [.l 0 [] .nil,.v (Ι Κ 0),.s [],.s [],.s [],.v (Ι Κ 0),.v (Ι Κ 0),.v (Ι Κ 0),.s []] [(0,1),(1,8)]/\FL 112 0 0 γ 1/\FL 112 1 1 Α 8:=⟨jq,bE,bE⟩
def amh:TS 114 Tryz.t113.desc 12 136 [.v (.int .u32 0),.v (.int .i32 0),.v (.int .u32 0),.l 0 [] .nil,.v (Ι Κ 0),.s [],.s [],.s [],.v (Ι Κ 0),.v (Ι Κ 0),.v (Ι Κ 0),.s []] [(0,3),(3,9)]/\FL 114 0 0 Α 3/\FL 114 1 3 Α 9:=⟨jq,bE,bE⟩
def ami:TS 116 Tryz.t115.desc 4 40 [.v (.int .u32 0),.v (.int .i32 0),.v (.int .u32 0),.l 0 [] .nil] [(0,3),(3,1)]/\FL 116 0 0 Α 3/\FL 116 1 3 γ 1:=⟨jq,bE,bE⟩
def t_:TY 117 (.slice 9) 1 24 [.l 0 [] .nil]:=eg
def amj:TS 132 Tryz.t131.desc 47 536 [.v (.pointer Β),.v (.pointer Β),.s [],.s [],.s [],.v (Ι Κ 0),.v (Ι Κ 0),.v (.int .u32 0),.v (.int .i32 0),.v (.int .u32 0),.l 0 [] .nil,.v (Ι Κ 0),.s [],.s [],.s [],.v (Ι Κ 0),.v (Ι Κ 0),.v (Ι Κ 0),.s [],.v (.int .u32 0),.v (.int .i32 0),.v (.int .u32 0),.l 0 [] .nil,.v (.int .u32 0),.v (.int .i32 0),.v (.int .u32 0),.l 0 [] .nil,.v (.int .u32 0),.v (.int .i32 0),.v (.int .u32 0),.l 0 [] .nil,.v (.int .u32 0),.v (.int .i32 0),.v (.int .u32 0),.v (Ι Κ 0),.l 0 [] .nil,.v (Ι Κ 0),.l 0 [] .nil,.l 0 [] .nil,.v (Ι Κ 0),.s [],.s [],.s [],.v (Ι Κ 0),.v (Ι Κ 0),.v (Ι Κ 0),.s []] [(0,1),(1,1),(2,3),(5,1),(6,1),(7,12),(19,4),(23,4),(27,4),(31,16)]/\FL 132 0 0 γ 1/\FL 132 1 1 γ 1/\FL 132 2 2 Α 3/\FL 132 3 5 γ 1/\FL 132 4 6 Α 1/\FL 132 5 7 Α 12/\FL 132 6 19 Α 4/\FL 132 7 23 Α 4/\FL 132 8 27 Α 4/\FL 132 9 31 Α 16:=⟨jq,bE,bE,bE,bE,bE,bE,bE,bE,bE,bE⟩
def amk:TY 134 Tryz.t134.desc 1 8 [.v .nilFunc]:=eg
def Xs:TY 146 (.pointer 148) 1 8 [.v (.pointer Β)]:=eg
def aiF:TS 148 Tryz.t147.desc 23 320 [.s [],.v (.int .u32 0),.v (.int .i32 0),.v (.int .u32 0),.v (.bool γ),.s [],.s [],.s [],.s [],.s [],.s [],.s [],.l 0 [] .nil,.l 0 [] .nil,.l 0 [] .nil,.v (Ι Κ 0),.s [],.s [],.s [],.v (Ι Κ 0),.v (Ι Κ 0),.v (Ι Κ 0),.s []] [(0,1),(1,3),(4,11),(15,8)]/\FL 148 0 0 γ 1/\FL 148 1 1 Α 3/\FL 148 2 4 Α 11/\FL 148 3 15 Α 8:=⟨jq,bE,bE,bE,bE⟩
def FE:TS 150 Tryz.t149.desc 2 32 [.s [],.s []] [(0,1),(1,1)]/\FL 150 0 0 γ 1/\FL 150 1 1 γ 1:=⟨jq,bE,bE⟩
def Xt:TY 152 (.pointer 155) 1 8 [.v (.pointer Β)]:=eg
def w7:TY 153 (.slice 5) 1 24 [.l 0 [] .nil]:=eg
def Qr:TS 155 Tryz.t154.desc 2 32 [.v (.pointer Β),.l 0 [] .nil] [(0,1),(1,1)]/\FL 155 0 0 γ 1/\FL 155 1 1 γ 1:=⟨jq,bE,bE⟩
def aml:TY 156 Tryz.t156.desc 1 8 [.v .nilFunc]:=eg
def amm:TY 158 Tryz.t157.desc 1 16 [.v .nilIface]:=eg
def aiG:TS 163 Tryz.t162.desc 7 88 [.v (Ι Κ 0),.s [],.l 0 [] .nil,.s [],.v (Ι Κ 0),.v (Ι Κ 0),.v (Ι Κ 0)] [(0,1),(1,1),(2,1),(3,1),(4,3)]/\FL 163 0 0 γ 1/\FL 163 1 1 γ 1/\FL 163 2 2 γ 1/\FL 163 3 3 γ 1/\FL 163 4 4 Α 3:=⟨jq,bE,bE,bE,bE,bE⟩
def HY:TY 165 (.slice 163) 1 24 [.l 0 [] .nil]:=eg
def FG:TS 170 Tryz.t169.desc 2 32 [.s [],.s []] [(0,1),(1,1)]/\FL 170 0 0 γ 1/\FL 170 1 1 γ 1:=⟨jq,bE,bE⟩
def aiH:TY 172 (.map 60 215) 1 8 [.v (.map Β)]:=eg
def aiI:TS 174 Tryz.t173.desc 2 16 [.v (.pointer Β),.v (.map Β)] [(0,1),(1,1)]/\FL 174 0 0 γ 1/\FL 174 1 1 γ 1:=⟨jq,bE,bE⟩
def amn:TY 176 (.pointer 80) 1 8 [.v (.pointer Β)]:=eg
def amo:TY 177 Tryz.t177.desc 1 8 [.v .nilFunc]:=eg
def amp:TY 180 (.pointer 182) 1 8 [.v (.pointer Β)]:=eg
def amq:TS 182 Tryz.t181.desc 10 208 [.l 0 [] .nil,.l 0 [] .nil,.l 0 [] .nil,.l 0 [] .nil,.l 0 [] .nil,.l 0 [] .nil,.l 0 [] .nil,.v (Ι Κ 0),.l 0 [] .nil,.v (Ι Κ 0)] [(0,1),(1,1),(2,1),(3,1),(4,1),(5,1),(6,1),(7,1),(8,1),(9,1)]/\FL 182 0 0 γ 1/\FL 182 1 1 γ 1/\FL 182 2 2 γ 1/\FL 182 3 3 γ 1/\FL 182 4 4 γ 1/\FL 182 5 5 γ 1/\FL 182 6 6 γ 1/\FL 182 7 7 γ 1/\FL 182 8 8 γ 1/\FL 182 9 9 γ 1:=⟨jq,bE,bE,bE,bE,bE,bE,bE,bE,bE,bE⟩
def amr:TY 184 Tryz.t184.desc 1 8 [.v .nilFunc]:=eg
def ams:TY 187 (.pointer 5) 1 8 [.v (.pointer Β)]:=eg
def amt:TY 189 (.pointer 114) 1 8 [.v (.pointer Β)]:=eg
def aiJ:TS 199 Tryz.t198.desc 6 64 [.v (.bool γ),.s [],.v (.bool γ),.v (.bool γ),.s [],.v (.bool γ)] [(0,3),(3,3)]/\FL 199 0 0 Α 3/\FL 199 1 3 Α 3:=⟨jq,bE,bE⟩
def K_:TY 202 .unsafePointer 1 8 [.v (.pointer Β)]:=eg
def aiK:TS 204 Tryz.t169.desc 2 32 [.s [],.s []] [(0,1),(1,1)]/\FL 204 0 0 γ 1/\FL 204 1 1 γ 1:=⟨jq,bE,bE⟩
def amu:TY 205 (.pointer 106) 1 8 [.v (.pointer Β)]:=eg
def amv:TY 207 (.pointer 2) 1 8 [.v (.pointer Β)]:=eg
def amw:TY 208 (.pointer 212) 1 8 [.v (.pointer Β)]:=eg
def aiL:TY 209 (.map 40 56) 1 8 [.v (.map Β)]:=eg
def aiM:TY 210 (.slice 54) 1 24 [.l 0 [] .nil]:=eg
def amx:TS 212 Tryz.t211.desc 8 120 [.v (.pointer Β),.v (.pointer Β),.s [],.s [],.s [],.v (.map Β),.l 0 [] .nil,.l 0 [] .nil] [(0,1),(1,1),(2,3),(5,1),(6,1),(7,1)]/\FL 212 0 0 γ 1/\FL 212 1 1 γ 1/\FL 212 2 2 Α 3/\FL 212 3 5 γ 1/\FL 212 4 6 γ 1/\FL 212 5 7 γ 1:=⟨jq,bE,bE,bE,bE,bE,bE⟩
def La:TY 213 (.slice 221) 1 24 [.l 0 [] .nil]:=eg
def HZ:TS 215 Tryz.t214.desc 7 136 [.s [],.s [],.s [],.s [],.l 0 [] .nil,.l 0 [] .nil,.l 0 [] .nil] [(0,3),(3,1),(4,1),(5,1),(6,1)]/\FL 215 0 0 Α 3/\FL 215 1 3 γ 1/\FL 215 2 4 γ 1/\FL 215 3 5 γ 1/\FL 215 4 6 γ 1:=⟨jq,bE,bE,bE,bE,bE⟩
def amy:TY 219 Tryz.t219.desc 1 8 [.v .nilFunc]:=eg
def Qs:TS 221 Tryz.t220.desc 10 152 [.s [],.s [],.s [],.s [],.v (.bool γ),.s [],.l 0 [] .nil,.v (Ι Κ 0),.v (.bool γ),.l 0 [] .nil] [(0,4),(4,3),(7,1),(8,1),(9,1)]/\FL 221 0 0 Α 4/\FL 221 1 4 Α 3/\FL 221 2 7 γ 1/\FL 221 3 8 γ 1/\FL 221 4 9 γ 1:=⟨jq,bE,bE,bE,bE,bE⟩
def amz:TY 223 (.pointer 116) 1 8 [.v (.pointer Β)]:=eg
def amA:TY 226 (.pointer 100) 1 8 [.v (.pointer Β)]:=eg
def amB:TY 228 (.pointer 98) 1 8 [.v (.pointer Β)]:=eg
def amC:TY 243 (.pointer 246) 1 8 [.v (.pointer Β)]:=eg
def amD:TS 246 Tryz.t245.desc 4 80 [.l 0 [] .nil,.l 0 [] .nil,.l 0 [] .nil,.v (.map Β)] [(0,1),(1,1),(2,1),(3,1)]/\FL 246 0 0 γ 1/\FL 246 1 1 γ 1/\FL 246 2 2 γ 1/\FL 246 3 3 γ 1:=⟨jq,bE,bE,bE,bE⟩
def amE:TY 251 (.pointer 104) 1 8 [.v (.pointer Β)]:=eg
def Bb:TY 258 (.slice 60) 1 24 [.l 0 [] .nil]:=eg
def amF:TY 262 (.pointer 268) 1 8 [.v (.pointer Β)]:=eg
def aiN:TY 263 (.pointer 298) 1 8 [.v (.pointer Β)]:=eg
def amG:TS 268 Tryz.t267.desc 17 280 [.v (.pointer Β),.v (.pointer Β),.s [],.s [],.s [],.v (.bool γ),.s [],.s [],.s [],.s [],.s [],.s [],.s [],.l 0 [] .nil,.l 0 [] .nil,.l 0 [] .nil,.l 0 [] .nil] [(0,1),(1,1),(2,3),(5,11),(16,1)]/\FL 268 0 0 γ 1/\FL 268 1 1 γ 1/\FL 268 2 2 Α 3/\FL 268 3 5 Α 11/\FL 268 4 16 γ 1:=⟨jq,bE,bE,bE,bE,bE⟩
def ade:TY 286 (.pointer 102) 1 8 [.v (.pointer Β)]:=eg
def amH:TY 288 (.pointer 21) 1 8 [.v (.pointer Β)]:=eg
def aiO:TY 292 (.slice 86) 1 24 [.l 0 [] .nil]:=eg
def Lb:TY 296 (.map 9 9) 1 8 [.v (.map Β)]:=eg
def amI:TS 298 Tryz.t297.desc 4 48 [.l 0 [] .nil,.v (.map Β),.v (.map Β),.v (Ι Κ 0)] [(0,1),(1,1),(2,1),(3,1)]/\FL 298 0 0 γ 1/\FL 298 1 1 γ 1/\FL 298 2 2 γ 1/\FL 298 3 3 Α 1:=⟨jq,bE,bE,bE,bE⟩
def aiP:TY 304 (.pointer 306) 1 8 [.v (.pointer Β)]:=eg
def amJ:TS 306 Tryz.t305.desc 2 32 [.v (.pointer Β),.l 0 [] .nil] [(0,1),(1,1)]/\FL 306 0 0 γ 1/\FL 306 1 1 γ 1:=⟨jq,bE,bE⟩
def amK:TY 308 (.pointer 311) 1 8 [.v (.pointer Β)]:=eg
def amL:TY 309 (.map 40 4) 1 8 [.v (.map Β)]:=eg
def amM:TS 311 Tryz.t310.desc 2 32 [.l 0 [] .nil,.v (.map Β)] [(0,1),(1,1)]/\FL 311 0 0 γ 1/\FL 311 1 1 γ 1:=⟨jq,bE,bE⟩
def amN:TY 321 (.pointer 323) 1 8 [.v (.pointer Β)]:=eg
def amO:TS 323 Tryz.t322.desc 1 16 [.s []] [(0,1)]/\FL 323 0 0 γ 1:=⟨jq,bE⟩
def amP:TY 333 Tryz.t333.desc 1 8 [.v .nilFunc]:=eg
def amQ:TS 340 Tryz.t339.desc 2 24 [.v (Ι Κ 0),.s []] [(0,1),(1,1)]/\FL 340 0 0 γ 1/\FL 340 1 1 γ 1:=⟨jq,bE,bE⟩
def aiQ:TY 383 Tryz.t383.desc 1 8 [.v .nilFunc]:=eg
def amR:TY 394 (.pointer 397) 1 8 [.v (.pointer Β)]:=eg
def Qt:TY 395 (.slice 422) 1 24 [.l 0 [] .nil]:=eg
def amS:TS 397 Tryz.t396.desc 8 120 [.s [],.l 0 [] .nil,.l 0 [] .nil,.s [],.l 0 [] .nil,.v (Ι Κ 0),.v (.bool γ),.v (.bool γ)] [(0,4),(4,1),(5,1),(6,1),(7,1)]/\FL 397 0 0 Α 4/\FL 397 1 4 γ 1/\FL 397 2 5 γ 1/\FL 397 3 6 γ 1/\FL 397 4 7 γ 1:=⟨jq,bE,bE,bE,bE,bE⟩
def aiR:TS 401 Tryz.t400.desc 2 24 [.v (Ι Κ 0),.s []] [(0,1),(1,1)]/\FL 401 0 0 γ 1/\FL 401 1 1 γ 1:=⟨jq,bE,bE⟩
def adf:TS 403 Tryz.t402.desc 5 96 [.s [],.l 0 [] .nil,.l 0 [] .nil,.s [],.s []] [(0,4),(4,1)]/\FL 403 0 0 Α 4/\FL 403 1 4 γ 1:=⟨jq,bE,bE⟩
def aiS:TS 414 Tryz.t413.desc 2 16 [.v (Ι Κ 0),.v (Ι Κ 0)] [(0,1),(1,1)]/\FL 414 0 0 γ 1/\FL 414 1 1 γ 1:=⟨jq,bE,bE⟩
def amT:TY 415 (.pointer 419) 1 8 [.v (.pointer Β)]:=eg
def amU:TS 417 Tryz.t416.desc 2 24 [.s [],.v (Ι Κ 0)] [(0,1),(1,1)]/\FL 417 0 0 γ 1/\FL 417 1 1 γ 1:=⟨jq,bE,bE⟩
def amV:TS 419 Tryz.t418.desc 3 48 [.s [],.v (Ι Κ 0),.l 0 [] .nil] [(0,2),(2,1)]/\FL 419 0 0 Α 2/\FL 419 1 2 γ 1:=⟨jq,bE,bE⟩
def Qu:TY 422 (.pointer 93) 1 8 [.v (.pointer Β)]:=eg
def adg:TY 427 (.slice 403) 1 24 [.l 0 [] .nil]:=eg
def amW:TY 430 (.pointer 417) 1 8 [.v (.pointer Β)]:=eg
def Lc:TY 447 (.slice 21) 1 24 [.l 0 [] .nil]:=eg
set_option maxRecDepth 10000
def dU{α :Type}(l:List α)(j:Nat)(h:j<Ζ l):l.take (j+1)=l.take j++[l[j]]:=by
 rw[List.take_add_one,Th h];rfl
section
variable{α :Type}{f: α -> α}{l:List α}{j:Nat}
end
def sG(b:UInt8):Bool:=decide (48<=b.toNat)&&decide (b.toNat<=57)
def lo(b:UInt8):UInt8:=if 65<=b.toNat/\b.toNat<=90 then UInt8.ofNat (b.toNat+32)else b
def sH(b:UInt8)(O:VH):VF Ε 85 [im b] O (aH λm O'=>m=mb (sG b)/\O'=O):=by
 have uC:b.toNat<256:=b.toNat_lt;refine VF.agh aa func85 (c:=_) rfl (Nat.le_of_ble_eq_true rfl) ?_;rw[show Tryz.f85.ntmps=9 from rfl];simp only[cZ,alP,Nat.reduceAdd];by_cases h1:48<=b.toNat
 ·by_cases h2:b.toNat<=57
  ·repeat' first
    | with_reducible (first | refine VC.seq' ?_ | refine χ ?_ | refine VC.skip ?_ | refine VC.label ?_ | refine VC.scope ?_ | refine VC.exit ?_ | refine VC.ret ?_ | refine VL.nil ?_)
    | (with_reducible refine gVC ?_;first | refine gp @aO ?_ | refine gr @aO ?_ | (refine gc @aO ?_ ?_<;>(intro H0;try simp only[dcs,ne_eq,reduceCtorEq]at H0)))
    | simp only[abX,Nat.reduceEqDiff,reduceIte]
    | refine eR1 ?_ | refine eR2 ?_ | refine pD.abP rfl ?_ | refine pD.abQ rfl ?_
   exact⟨by simp[sG,h1,h2,bB],by trivial⟩
  ·repeat' first
    | with_reducible (first | refine VC.seq' ?_ | refine χ ?_ | refine VC.skip ?_ | refine VC.label ?_ | refine VC.scope ?_ | refine VC.exit ?_ | refine VC.ret ?_ | refine VL.nil ?_)
    | (with_reducible refine gVC ?_;first | refine gp @aO ?_ | refine gr @aO ?_ | (refine gc @aO ?_ ?_<;>(intro H0;try simp only[dcs,ne_eq,reduceCtorEq]at H0)))
    | simp only[abX,Nat.reduceEqDiff,reduceIte]
    | refine eR1 ?_ | refine eR2 ?_ | refine pD.abP rfl ?_ | refine pD.abQ rfl ?_
   exact⟨by simp[sG,h2,bB],by trivial⟩
 ·repeat' first
   | with_reducible (first | refine VC.seq' ?_ | refine χ ?_ | refine VC.skip ?_ | refine VC.label ?_ | refine VC.scope ?_ | refine VC.exit ?_ | refine VC.ret ?_ | refine VL.nil ?_)
   | (with_reducible refine gVC ?_;first | refine gp @aO ?_ | refine gr @aO ?_ | (refine gc @aO ?_ ?_<;>(intro H0;try simp only[dcs,ne_eq,reduceCtorEq]at H0)))
   | simp only[abX,Nat.reduceEqDiff,reduceIte]
   | refine eR1 ?_ | refine eR2 ?_ | refine pD.abP rfl ?_ | refine pD.abQ rfl ?_
  exact⟨by simp[sG,h1,bB],by trivial⟩
section
variable{tab:cL}{t:TypeId}{a b:Ρ}
end
def akM(s:Ρ)(nb:Bool):Ρ:=
 if s==[103,97]||(s==[102,105,110,97,108]||s==[114,101,108,101,97,115,101])then[]
 else if s==[99,114]then[114,99]
 else if nb&&s==[97]then[97,108,112,104,97]
 else if nb&&s==[98]then[98,101,116,97]
 else if nb&&s==[109]then[109,105,108,101,115,116,111,110,101]
 else s
section
variable{tab:cL}{t:TypeId}{l:Ρ}{s c:Nat}{z:Η}
end
def Qv(b:UInt8):Bool:=b==46||b==45
abbrev Piece:=Ρ×Bool×Bool
abbrev Prt:=Bool×Bool×Ρ
def Db:=Ca T9<|Ca T3<|Ca T4<|Ca T5<|Ca w7<|Ca Xt<|Ca Qr<|Ca amm K_
structure iG(O:VH)(B b:Nat)(q:ϑ)(s:Ρ):Prop where
 cell:∃p buf,O.hp b=φ (.cells [p,buf])/\(p= .v (.pointer Β)\/p= .p b 0)/\GR O 5 1 B buf (Ζ s) (s.map im)/\gid buf=q/\buf≠ .l 0 [] .full
 ne:q≠φ b
 mC:∃j,B<=j/\j<O.N/\O.hp j=φ (.shape b 155 2)
 lo:B<=b
 hi:b<O.N
 nz:s=[]->q=Β
structure gK(O:VH)(b:Nat)(q:ϑ)(O':VH)(q':ϑ):Prop where
 N:O.N<=O'.N
 hp:∀i,i<O.N->i≠b->q≠φ i->O'.hp i=O.hp i
 new:∀i,i<O.N->q≠φ i->q'≠φ i
def iG.Xu(h:iG O B b q s):∀i,O.N<=i->q≠φ i:=by
 intro i hi e;obtain⟨p,buf,_,_,hg,hq,_⟩:=h.cell;rcases hg with⟨_,_,rfl | rfl⟩ | ⟨k,c,rfl,_,_,hr⟩;rw[<-hq]at e;cases e;rw[<-hq]at e;cases e;rw[<-hq]at e;injection e with e;have:=hr.hi;omega
def iG.Bc(h:iG O B b q s):∀i,q=φ i->B<=i:=by
 intro i e;obtain⟨p,buf,_,_,hg,hq,_⟩:=h.cell;rcases hg with⟨_,_,rfl | rfl⟩ | ⟨k,c,rfl,_,_,hr⟩;rw[<-hq]at e;cases e;rw[<-hq]at e;cases e;rw[<-hq]at e;injection e with e;rw[<-e];exact hr.lo
def gK.ge{O0:VH}{q':ϑ}(h:O0.Ge O)(u:gK O b q O' q')(hb:O0.N<=b)(hq:∀i,q=φ i->O0.N<=i):O0.Ge O':=
 ⟨alQ h.N u.N,λi hi=>(u.hp i (abx hi h.N) (by omega) (λe=>by have:=hq i e;omega)).trans (h.hp i hi)⟩
def iG.qT(h:iG O B b q s)(hn:O.N<=O'.N)(hb:O'.hp b=O.hp b)(hq:∀i,q=φ i->O'.hp i=O.hp i)(hs:∀j k t n,O.hp j=φ (.shape k t n)->j<O.N->O'.hp j=O.hp j):iG O' B b q s:=by
 obtain⟨p,buf,h1,h2,h3,h4,h5⟩:=h.cell;obtain⟨j,j1,j2,j3⟩:=h.mC;refine⟨⟨p,buf,hb.trans h1,h2,?_,h4,h5⟩,h.ne,⟨j,j1,by omega,(hs j _ _ _ j3 j2).trans j3⟩,h.lo,by have:=h.hi;omega,h.nz⟩;rcases h3 with h3 | ⟨k,c,rfl,g1,g2,g3⟩;exact .inl h3;refine .inr ⟨k,c,rfl,g1,g2,?_⟩;obtain⟨sp,r1,r2⟩:=g3.cells;obtain⟨i,i1,i2,i3⟩:=g3.mC;exact⟨⟨sp,(hq k h4.symm).trans r1,r2⟩,⟨i,i1,by omega,(hs i _ _ _ i3 i2).trans i3⟩,g3.lo,by have:=g3.hi;omega⟩
def iG.BO(h:iG O B b q s)(u:bM O Β O'):iG O' B b q s:=
 h.qT u.N (u.hp b h.hi (by simp)) (λi hi=>u.hp i (by
  rcases ap9 i O.N with h' | h';exact h';exact absurd hi (h.Xu i h')) (by simp)) λj _ _ _ _ hl=>u.hp j hl (by simp)
def iG.set{x:cx}(h:iG O B b q s)(hi:O.hp i=φ (.cells cs))(hb:i≠b)(hq:q≠φ i):iG (O.set i x) B b q s:=
 h.qT (akb _) (π _ _ (Ne.symm hb)) (λk hk=>π _ _ (λe=>hq (by rw[hk,e]))) λj _ _ _ hj _=>π _ _ (λe=>by rw[e,hi]at hj;cases hj)
def iG.fresh(O:VH)(hB:B<=O.N):iG ((O.push (.cells [.v (.pointer Β),.l 0 [] .nil])).push (.shape O.N 155 2)) B O.N Β []:=
 ⟨⟨_,_,(η _ _ (by show O.N<O.N+1;omega)).trans (ζ _ _),.inl rfl,.inl ⟨rfl,rfl,.inl rfl⟩,rfl,by simp⟩,by simp,⟨O.N+1,by omega,by show O.N+1<O.N+1+1;omega,ζ _ _⟩,hB,by show O.N<O.N+1+1;omega,λ_=>rfl⟩
def Qw(k o:Nat)(O:VH):fJ Ε 87 [.p k o] O λm O'=>m= .p k o/\O'=O:=by
 refine fJ.of (ex:=Extern.AbiNoEscape.same) func87 (by kernel_rfl) (by kernel_rfl) (by kernel_rfl) (by kernel_rfl) λG w vs hw hv=>?_
 obtain⟨u,us,rfl,h1,h2⟩:=hv.fH;rw[h2.jN];exact⟨u,Lib.run_noEscape w u,h1⟩
def Dc(h:iG O B b q s):VF Ε 71 [.p b 0] O (aH λm O'=>iG O' B b q s/\gK O b q O' q):=by
 obtain⟨p,buf,h1,h2,h3,h4,h5⟩:=h.cell;obtain⟨j,j1,j2,j3⟩:=h.mC;have hb:=h.hi;refine Υ 20 [] func71 ?_;rcases h2 with rfl | rfl;refine ao Db h1 ?_;refine VL.toU aa (.inl rfl) (el:=155) (by rw[Xt];rfl) (by rw[K_];rfl) Qr.1.1 (by decide) j3 (by decide) rfl rfl rfl ?_;refine Nc ?_;refine ah.ext (Qw b 0 O) rfl ?_;rintro _ O2 ⟨rfl,rfl⟩;refine Nc ?_;refine VL.ako aa (.inl rfl) (el:=155) (by rw[K_];rfl) (by rw[Xt];rfl) Qr.1.1 j3 (by kernel_rfl) rfl rfl rfl ?_;refine ao Db h1 ?_;refine⟨⟨⟨_,buf,υ _ _ _,.inr rfl,h3.qT bM.set (by rw[h4];exact h.ne) (λk t n=>by rw[h1];simp),h4,h5⟩,h.ne,⟨j,j1,j2,?_⟩,h.lo,h.hi,h.nz⟩,⟨akb _,λi _ hi _=>π _ _ hi,λ_ _ h=>h⟩⟩;rw[π _ _ (λe=>by rw[e,h1]at j3;cases j3)];exact j3;simp(disch:=first | omega | (simp only[ds]<;>omega) | fail) only[wk,wu,v_,ak,cY,Nat.reduceLT,Nat.reduceAdd,Nat.reduceMul,Nat.reduceSub,Nat.reduceBEq,Nat.reduceEqDiff,Int.reduceToNat,reduceIte,Db,h1,P8 (op:=.neq) Xt (s:=1) Qr.1.1];exact⟨h,⟨akb _,λ_ _ _ _=>rfl,λ_ _ h=>h⟩⟩
def iG.grown{p buf:MV}{z:Nat}{L:Ρ}(h:iG O B b q s)(h1:O.hp b=φ (.cells [p,buf]))(h2:p= .v (.pointer Β)\/p= .p b 0)(h4:gid buf=q)(hg:GR O' 5 1 B m n' (L.map im))(hn:n'=Ζ L)(hu:bM O (gid buf) O')(oR:(∃k c,m= .aS k 0 n' c/\(gid buf=φ k\/(O.N<=k/\z≠0)))\/m=buf)(hf:buf≠ .l 0 [] .full)(hz:L=[]->z=0/\s=[]):
  iG (O'.set b (.cells [p,m])) B b (gid m) L/\gK O b q (O'.set b (.cells [p,m])) (gid m):=by
 subst hn;obtain⟨j,j1,j2,j3⟩:=h.mC;have hb:=h.hi
 have hm:m≠ .l 0 [] .full:=by
  rcases oR with⟨k,c,rfl,_⟩ | rfl;simp;exact hf
 have qf:∀i,i<O.N->q≠φ i->gid m≠φ i:=λi hi hq=>by
  rcases oR with⟨k,c,rfl,hk⟩ | rfl;rcases hk with hk | hk;rw[<-h4,hk]at hq;exact hq;intro e;injection e with e;have:=hk.1;omega;rw[h4];exact hq
 have hne:gid m≠φ b:=qf b hb h.ne;have hOb:O'.hp b=φ (.cells [p,buf]):=(hu.hp b hb (by rw[h4];exact h.ne)).trans h1
 have hqs:∀i k t n,O.hp i=φ (.shape k t n)->i<O.N->O'.hp i=O.hp i:=λi k t n hi hl=>hu.hp i hl λe=>by
  obtain⟨p',api,g1,g2,g3,g4,g5⟩:=h.cell;rw[h1]at g1;injection g1 with g1;injection g1 with g1;injection g1 with e1 e2;injection e2 with e2;subst e2;rcases g3 with⟨_,_,rfl | rfl⟩ | ⟨k2,c2,rfl,_,_,hr⟩;cases e;cases e;injection e with e;subst e;obtain⟨sp,r1,_⟩:=hr.cells;rw[r1]at hi;cases hi
 refine⟨⟨⟨p,m,υ _ _ _,h2,hg.qT bM.set hne (λk t n=>by rw[hOb];simp),rfl,hm⟩,hne,⟨j,j1,abx j2 hu.N,?_⟩,h.lo,abx hb hu.N,λhL=>?_⟩,⟨hu.N,λi hi Qx hq=>(π _ _ Qx).trans (hu.hp i hi (by rw[h4];exact hq)),qf⟩⟩;rw[π _ _ (λe=>by rw[e,h1]at j3;cases j3)];exact(hqs j _ _ _ j3 j2).trans j3;obtain⟨z0,s0⟩:=hz hL;have hq:=h.nz s0;rw[hq]at h4;rcases oR with⟨k,c,rfl,hk⟩ | rfl;rcases hk with hk | hk;rw[h4]at hk;cases hk;exact absurd z0 hk.2;exact h4
def we(c:UInt8)(h:iG O B b q s)(hl:Ζ s+1<=140737488355328:=by omega):VF Ε 72 [.p b 0,im c] O (aH λm O'=>m= .v .nilIface/\∃q',iG O' B b q' (s++[c])/\gK O b q O' q'):=by
 refine Υ 17 [.tmp 4] func72 ?_;refine ae Db ?_;refine τ (Dc h) ?_;rintro _ O1 ⟨h',u'⟩;obtain⟨p,buf,h1,h2,h3,h4,h5⟩:=h'.cell;have hb:=h'.hi;refine aE Db h1 @aO ?_;refine VL.grow aa (.inl rfl) (te:=⟨.int .u8,1,1,[.v (.int .u8 0)]⟩) (dx:=.slice 5) (q:=.l 1 [im c] .full) (j:=1) (ds:=[im c]) h3 rfl rfl (by rw[w7];rfl) T5 (by rw[w7];rfl) trivial (by dsimp only;omega) (by simp only[maxLen];omega) (by have:=h'.lo;omega) rfl rfl rfl rfl ?_;intro m O2 hg hu _ oR;have hg':GR O2 5 1 B m (Ζ s+1) ((s++[c]).map im):=by rw[alU];exact hg
 have hr:=h'.grown h1 h2 h4 hg' (by simp) hu (oR.imp_right (·.2.1)) h5 (by simp);have hO:O2.hp b=φ (.cells [p,buf]):=(hu.hp b hb (by rw[h4];exact h'.ne)).trans h1
 have jy:eQ m=[m]/\eI m=Α:=by
  rcases oR with⟨k,cp,rfl,_⟩ | ⟨hj,_⟩;exact⟨rfl,rfl⟩;cases hj
 have cX:=sC (O:=O2) (k:=b) (off:=1) (u:=.slice 5) (b:=24) (z:=[.l 0 [] .nil]) (cs:=[p,buf]) jy.1 jy.2 (by simp);refine aE Db @hO cX ?_;exact⟨_,hr.1,⟨alQ u'.N hr.2.N,λi hi Qx hq=>(hr.2.hp i (abx hi u'.N) Qx hq).trans (u'.hp i hi Qx hq),λi hi hq=>hr.2.new i (abx hi u'.N) hq⟩⟩
def ct(l:Ρ)(h:iG O B b q s)(hl:Ζ s+Ζ l<=140737488355328:=by omega):VF Ε 55 [.p b 0,.s l] O (aH λm O'=>m= .tuple [mi (Ζ l),.v .nilIface]/\∃q',iG O' B b q' (s++l)/\gK O b q O' q'):=by
 refine Υ 19 [.tmp 4,.tmp 5] func55 ?_;refine ae Db ?_;refine τ (Dc h) ?_;rintro _ O1 ⟨h',u'⟩;obtain⟨p,buf,h1,h2,h3,h4,h5⟩:=h'.cell;have hb:=h'.hi;refine ao Db h1 ?_;refine VL.grow aa (.inl rfl) (te:=⟨.int .u8,1,1,[.v (.int .u8 0)]⟩) (dx:=.string) (q:=.s l) (j:=Ζ l) (ds:=l.map im) h3 rfl (by rw[List.all_map];exact alO.2 λ_ _=>rfl) (by rw[w7];rfl) T5 (by rw[T9];rfl) trivial (by dsimp only;omega) (by simp only[maxLen];omega) (by have:=h'.lo;omega) rfl rfl rfl rfl ?_;intro m O2 hg hu _ oR;have hg':GR O2 5 1 B m (Ζ s+Ζ l) ((s++l).map im):=by rw[alU];exact hg
 have hr:=h'.grown h1 h2 h4 hg' (by simp) hu (oR.imp_right (·.2.1)) h5 (by simp[and_comm]);have hO:O2.hp b=φ (.cells [p,buf]):=(hu.hp b hb (by rw[h4];exact h'.ne)).trans h1
 have jy:eQ m=[m]/\eI m=Α:=by
  rcases oR with⟨k,cp,rfl,_⟩ | ⟨_,rfl,_⟩;exact⟨rfl,rfl⟩;rcases h3 with⟨_,_,rfl | rfl⟩ | ⟨k,c,rfl,_⟩<;>exact⟨rfl,rfl⟩
 have cX:=sC (O:=O2) (k:=b) (off:=1) (u:=.slice 5) (b:=24) (z:=[.l 0 [] .nil]) (cs:=[p,buf]) jy.1 jy.2 (by simp);refine aE Db @hO cX ?_;exact⟨_,hr.1,⟨alQ u'.N hr.2.N,λi hi Qx hq=>(hr.2.hp i (abx hi u'.N) Qx hq).trans (u'.hp i hi Qx hq),λi hi hq=>hr.2.new i (abx hi u'.N) hq⟩⟩
def sI(h:iG O B b q s)(hm:Ζ s<=maxLen:=by simp only[maxLen];omega):VF Ε 58 [.p b 0] O (aH λm O'=>m= .s s/\bM O q O'):=by
 obtain⟨p,buf,h1,h2,h3,h4,h5⟩:=h.cell;have hb:=h.hi;refine Υ 14 [.tmp 2] func58 ?_;refine Nc ?_;refine WC.bW (.held [10,11]) [(0,.rd),(1,.rd),(2,.rd),(3,.rd),(4,.rd),(5,.rd),(6,.rd),(7,.rd),(8,.rd),(9,.rd),(10,.one),(11,.rd)] ?_;have hO:O.hp b=φ (.cells [p,buf]):=h1;rcases h3 with⟨e1,e2,rfl | rfl⟩ | ⟨k,c,rfl,g1,g2,g3⟩;have hs:s=[]:=WT e1;subst hs;(simp(disch:=first | omega | (simp only[ds]<;>omega) | fail) only[wk,wu,v_,ak,cY,Nat.reduceLT,Nat.reduceAdd,Nat.reduceMul,Nat.reduceSub,Nat.reduceBEq,Nat.reduceEqDiff,Int.reduceToNat,reduceIte,Db,h1,zY];refine VL.akn aa (by kernel_rfl) rfl rfl rfl rfl ?_;refine ae Db ?_;exact bM.refl _ _);exact absurd rfl h5
 ·(have hs:s≠[]:=λe=>by have:=h.nz e;rw[<-h4]at this;cases this);have hc:c≠0:=λe=>hs (WT (by omega))
  have r7:Ζ s<=maxLen:=hm;simp(disch:=first | omega | (simp only[ds]<;>omega) | fail) only[wk,wu,v_,ak,cY,Nat.reduceLT,Nat.reduceAdd,Nat.reduceMul,Nat.reduceSub,Nat.reduceBEq,Nat.reduceEqDiff,Int.reduceToNat,reduceIte,Db,h1,zY,hc];refine VL.al3 aa (by kernel_rfl) (el:=5) (by rw[ams];rfl) (by kernel_rfl) g3 hs r7 rfl rfl rfl rfl ?_;refine ae Db ?_;exact h4▸bM.kill
end Go.Proofs.YtjpadehgejlebaaGreatDoor
