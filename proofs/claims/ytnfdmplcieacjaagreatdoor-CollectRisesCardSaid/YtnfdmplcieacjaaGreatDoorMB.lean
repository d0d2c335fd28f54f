import Derived.Test.YtnfdmplcieacjaaGreatDoorMA
import Derived.Lib.ConvBytes
import Derived.Laws.BytesString
import Derived.Laws.Externs
import Derived.Deep.AppendSrc
import Derived.Lib.UnsafeStr
import Derived.Laws.StructEq
import Derived.Recover
import Derived.WideLaws
import Derived.Laws.RangeString
import Derived.DeepKeys5
import Derived.Test.YtnfdmplcieacjaaGreatDoorProg
set_option linter.unusedVariables false
set_option linter.defProp false
set_option linter.unusedSimpArgs false
namespace Go.Proofs.YtnfdmplcieacjaaGreatDoor
open Go.RowKit
open _root_.Nat renaming reduceLT → y0, reduceAdd → y10, reduceMul → y11, reduceSub → y12, reduceBEq → y14, reduceEqDiff → y16
open _root_.Int renaming reduceToNat → y18
open _root_.List renaming range → Ν
open _root_.Go.Proofs.Tryz
open Go.Value renaming int → Ι
open Go.IntKind renaming i64 → Κ
open _root_.List renaming length → Ζ
open _root_.Go.Proofs.Tryz renaming prog → Ε
open _root_.Option renaming some → φ, none → Β
open _root_.Bool renaming false → γ, true → Α
open _root_.List renaming getElem?_eq_getElem → Ro, length_append → abT, eq_nil_of_length_eq_zero → aev, getElem?_cons_zero → ahB, map_cons → ai8, getElem?_cons_succ → ai9, getElem?_take → ai_, getElem?_eq_some_iff → an2, mem_of_getElem? → an5, getElem?_map → an6, take_of_length_le → an7, getElem_mem → apE, getElem?_toArray → apF, drop_eq_getElem_cons → apG, all_eq_true → apH, mem_map_of_mem → apK, length_map → asc, length_nil → asl, map_append → as0, set_cons_zero → ats, getElem?_drop → atM, map_nil → aug, append_assoc → aui, length_cons → aul, getElem?_eq_none → aum, mem_iff_getElem → aun, mem_range → auo, set_eq_of_length_le → aut, cons_append → auu, nil_append → auA, take_zero → auD, drop_zero → auE
open _root_.Nat renaming lt_of_lt_of_le → aja, le_refl → apI, zero_add → apJ, le_trans → auh, eq_zero_or_pos → auq, add_mul → aur, lt_or_ge → auv, zero_le → auC
open _root_.And renaming intro → Rn
open _root_.Option renaming bind_some → alp, isSome_none → an3, map_eq_some_iff → auw, map_none → auy, map_some → auz
open _root_.Bool renaming and_eq_true → TR, false_eq_true → an4, false_or → auH
open _root_.Array renaming getElem?_eq_none → auj, getElem?_modify → auk, getD_eq_getD_getElem? → aup, getElem?_append_left → aus
variable{listed:Array Bool}{af:Array Edge}{bb ok:Bool}{c:Code}{e:Env}{K:Env->VH->Prop}{fn:Func}{f:FuncId}{G:Gh}{Ψ:Gh->Prop}{L LL:List (Fl×Oper)}{parts rest:List (Nat×MV)}{D:List Deferred}{a args as_ cs fs ks ms sp:List MV}{E:List MapEntry}{brk:List Nat}{rs:List ResultVar}{us:List Value}{m1 m2 q z:MV}{M Φ:MV->VH->Prop}{md:Md}{B b ck fuel hi i j k n n' nn off s t:Nat}{pl:Nat->Option (Nat×Nat)}{X:Obj}{o:Oper}{x y:Operand}{g:Option (Nat×Bool)}{h:Option MV}{d:Option Tmp}{A1 A2 Q' Z:Prop}{ps:String}{tk:Tok}{O:VH}{J:VH->Prop}{Q:VQ}{r te:cg}{R:gm->VH->Prop}
abbrev ϱ:=Option MV
abbrev ϰ:=VH->Prop
def ko:Τ->Η->Env->Env
 | t::l,m::ms,e=>(t,m)::ko l ms e
 | _,_,e=>e
def xZ(t:Nat)(l:Τ)(m:MV)(ms:Η)(e:Env):ko (t::l) (m::ms) e=(t,m)::ko l ms e:=rfl
def Il(ms:Η)(e:Env):ko [] ms e=e:=rfl
def ji{e e0:Env}(he:∀t x,look e0 t=φ x->look e t=φ x):∀{l:Τ} {ms:Η},looks e l=φ ms->∀t x,look (ko l ms e0) t=φ x->look e t=φ x
 | [],ms,_,t,x,hx=>he t x (by simpa[ko]using hx)
 | k::l,ms,h,t,x,hx=>by
   rw[sU]at h;obtain⟨m,h1,h2⟩:=Option.bind_eq_some_iff.1 h;obtain⟨ms',h3,rfl⟩:=auw.1 h2;rw[xZ,pj]at hx;cases hb:t==k with
   | true=>
     rw[hb,cond_true]at hx;injection hx with hx;subst hx;(have:t=k:=by simpa using hb);rw[this];exact h1
   | false=>rw[hb,cond_false]at hx;exact ji he h3 t x hx
def aw{σ :Type}(l K:Τ)(ks:Η)(ms: σ ->Η)(I: σ ->VH->Prop)(μ : σ ->Nat)(s: σ)(Q:VQ):VQ:=λx e O=>match x with
 | .normal=>looks e K=φ ks/\∃s',looks e l=φ (ms s')/\I s' O/\ μ s'< μ s
 | x=>Q x e O
section
variable{n:Sz}{D:List Deferred}{e:Env}{P:Program}{O:VH}{Q:VQ}{c:Code}{σ :Type}{l K:Τ}{ks:Η}{ms: σ ->Η}{I: σ ->VH->Prop}{μ : σ ->Nat}{s: σ}{i:Nat}{m:MV}
def Pk:aw l K ks ms I μ s Q (.exit i) e O=Q (.exit i) e O:=rfl
def Pl:aw l K ks ms I μ s Q (.goto i) e O=Q (.goto i) e O:=rfl
def Sa:aw l K ks ms I μ s Q .ret e O=Q .ret e O:=rfl
def AQ:aw l K ks ms I μ s Q (.panic m) e O=Q (.panic m) e O:=rfl
def VC.cj(l K:Τ)(ms: σ ->Η)(I: σ ->VH->Prop)(μ : σ ->Nat)(s0: σ)(h0:looks e l=φ (ms s0))(hk:looks e K=φ ks)(hI:I s0 O)
  (step:∀s O,I s O->VC P n D c (ko l (ms s) (ko K ks [])) O (aw l K ks ms I μ s Q)):VC P n D (.loop c) e O Q:=by
 refine VC.loop (λk e O=>looks e K=φ ks/\∃s,looks e l=φ (ms s)/\I s O/\ μ s=k) (k:= μ s0) ⟨hk,s0,h0,hI,rfl⟩ ?_;rintro k e O ⟨hk,s,h1,h2,rfl⟩;refine VC.mono ?_ (VC.env (step s O h2) (ji (ji (e0:=[]) (λt x h=>by simp[look]at h) hk) h1));intro x e' O' h
 cases x<;>first
  | exact h
  | (obtain⟨h6,s',h3,h4,h5⟩:=h;exact⟨_,h5,h6,s',h3,h4,rfl⟩)
end
abbrev ints(xs:Χ)(t:Tok):MV:=.l (Ζ xs) (xs.map mi) t
abbrev W0(xs:List Bool)(t:Tok):MV:=.l (Ζ xs) (xs.map mb) t
abbrev strs(xs:List Ρ)(t:Tok):MV:=.l (Ζ xs) (xs.map .s) t
def aeS:=Rn @auy.{0,0}<|Rn @Option.bind_none.{0,0}<|Rn @xZ<|Rn @Il<|Rn @Int.zero_sub<|Rn @Bool.not_true<|Rn @Bool.not_false<|Rn @decide_true<|Rn @decide_eq_true<|Rn @decide_eq_false<|Rn @apJ<|Rn @Nat.mul_one<|Rn @Int.toNat_natCast<|Rn @Nat.add_zero<|Rn @ats.{0}<|Rn @List.set_cons_succ.{0}<|Rn @List.take_succ_cons.{0}<|Rn @auD.{0}<|Rn @List.drop_succ_cons.{0}<|Rn @auE.{0}<|Rn @Ro.{0}<|Rn @apF.{0}<|Rn @ahB.{0}<|Rn @ai9.{0}<|Rn @alp.{0,0}<|Rn @auz.{0,0}<|Rn @ai8.{0,0}<|Rn @aug.{0,0}<|Rn @an6.{0,0}<|Rn @List.getElem_map.{0,0}<|Rn @if_true.{1}<|Rn @cond_true.{1} @cond_false.{1}
section
variable{P:Program}{tab:cB}{n:Sz}{D:List Deferred}{md:Md}{l:ϕ}{Q:VQ}{L':List (Fl×Oper)}{e e':Env}{O O':VH}{c x y:Code}{A:Prop}{id:Nat}{fn:Func}{R:gm->VH->Prop}{m m':MV}{t t':Nat}{o:Operand}{b:Bool}
def gp(a:A)(q:VL P n D .plain ⟨l⟩ L' e' O' Q)(ht:aN P tab:=by exact aa)(h:A->js tab n ⟨l⟩ (l.map (Fl.one, ·)) e O=φ (L',e',O'):=by intro z;simp(disch:=omega) only[aeR,aeS,ints,W0,strs,aO,y0,y10,y14,y18,z]<;>exact rfl):VC P n D (.region id ⟨l⟩ γ) e O Q:=VC.aaf (VL.run ht (h a) q)
def gr(a:A)(q:VL P n D .reads ⟨l⟩ L' e' O' Q)(ht:aN P tab:=by exact aa)(h1:P.follows .mixedOrders=Α:=by kernel_rfl)(h2:Region.noSelect ⟨l⟩=Α:=by kernel_rfl)(h3:cP .reads ⟨l⟩ (Ζ l) (Array.replicate (Ζ l) γ) ((List.range' 0 (Ζ l)).map (·,Fl.rd))=Α:=by kernel_rfl)(h:A->js tab n ⟨l⟩ (l.map (Fl.rd, ·)) e O=φ (L',e',O'):=by intro z;simp(disch:=omega) only[aeR,aeS,ints,W0,strs,aO,y0,y10,y14,y18,z]<;>exact rfl):VC P n D (.region id ⟨l⟩ Α) e O Q:=VC.aaj h1 h2 h3 (VL.run ht (h a) q)
def gc(a:A)(h1:b=Α->VC P n D x e O Q)(h2:b=γ->VC P n D y e O Q)(h:A->ev e o=φ (.v (.bool b)):=by intro z;simp(disch:=omega) only[aeR,aeS,ints,W0,strs,aO,y0,y10,y14,y18,z]<;>exact rfl):VC P n D (.cond o x y) e O Q:=VC.cond (h a) h1 h2
end
section
variable{G H:Gh}{n:Sz}{D:List Deferred}{e:Env}{a:Act}{P:Program}{tab:cB}{O O':VH}{w:World}{m m':MV}{u v:Value}{ops:Array Oper}{Q:VQ}
def Sb(P:Program)(n:Sz)(D:List Deferred)(o:Oper)(e:Env)(O:VH)(M:MV->VH->Prop):Prop:=∀G a w,WR G O w->FR G n D e a->∃m O',M m O'/\dW P o a w G m O'
def jC.Eg{l:Τ}(ho:ops[i]?=φ o)(hg:aK ops o e=φ Α)(hd:bj n o.dst=Α)(hy:Sb P n D o e O M)(h:∀m O',M m O'->jC P n D ops l (aU o.dst m e) O' Q):
  jC P n D ops (i::l) e O Q:=by
 intro G a w hw aY;obtain⟨m,O',hM,nx,w',H,u,hr,oa,h1,h2,h3,_⟩:=hy G a w hw aY;simp only[wpOps,ho,bz aY hg,if_true];refine .inl ?_;unfold Oper.wp;rw[hr]
 have hk:wpOps P ops (cU G n D Q) l (a.put o.dst u) w':=by
  exact rY (λ_ _ _=>cU.le h1) l _ _ (h m O' hM H (a.put o.dst u) w' h2 ((aY.mono h1).aU hd h3))
 rcases oa with rfl | ⟨rfl,rfl⟩;exact hk;exact hk
def VL.Eg(hg:aK ops o e=φ Α)(hd:bj n o.dst=Α)(hy:Sb P n D o e O M)(h:∀m O',M m O'->VL P n D .plain ops L (aU o.dst m e) O' Q):
  VL P n D .plain ops ((.one,o)::L) e O Q:=by
 intro fuel listed ix hf hp
 match ix,hf with
 | (i,g)::ix,hf=>
   obtain⟨rfl,ho,hf⟩:=hf;exact jC.Eg ho hg hd hy λm O' hM=>h m O' hM 0 #[] ix hf (λh=>absurd rfl h)
def ef(b:UInt8):MV:=.v (.int .u8 b.toNat)
def Pn{α :Type}(l:Array α)(x: α)(f: α -> α):(l.push x).modify l.size f=l.push (f x):=by
 apply Array.ext_getElem?;intro i;simp only[auk,Array.getElem?_push];by_cases h:i=l.size;subst h;simp;rw[if_neg (Ne.symm h),if_neg h,if_neg h]
def KN(w:World)(C:Array Value)(t:TypeId):(w.alloc (.cells C t)).freeze ⟨w.heap.size,C.size,Β⟩ 1=w.alloc (.cells C t (C.size,C.size+1)):=by
 simp[World.freeze,World.alloc, -World.alloc_eq,Pn]
def Im(l:Ρ):aX G (l.map ef) (l.map λb=>Value.int .u8 b.toNat):=by
 induction l with
 | nil=>exact aX.nil
 | cons b l ih=>exact aX.cons (.v rfl) ih
def aca(ht:aN P tab)(h:WR G O w){src dst el:TypeId}{l:Ρ}(hs:(tab src).map cg.under=φ .string)(hd:(tab dst).map cg.under=φ (.slice el))(he:(tab el).map cg.under=φ (.int .u8))(hl:Ζ l<=maxLen):
  ∃c,Ζ l<=c/\c<=maxLen/\ik P (convert src dst (.string ⟨⟨l⟩⟩)) w G (O.push (.cells (l.map ef))) (.bk O.N 0 (Ζ l) c):=by
 have cD:=Lib.run_convert_string_bytes w src dst el ⟨⟨l⟩⟩ (bm ht hs) (bm ht hd) (bm ht he);have mH:(⟨⟨l⟩⟩:ByteArray).size=Ζ l:=rfl;rw[mH]at cD;have bK:=grownCap_ge w (Ζ l) 0 el;have hle:=grownCap_le_maxLen w (Ζ l) 0 el hl;refine⟨grownCap w (Ζ l) 0 el,bK,hle,?_⟩
 have ju:(Lib.bytesCells w el ⟨⟨l⟩⟩).toList.take (l.map ef).length=l.map λb=>Value.int .u8 b.toNat:=by
  simp[Lib.bytesCells]
 obtain⟨h1,h2⟩:=h.drew.aex (cs:=l.map ef) (C:=Lib.bytesCells w el ⟨⟨l⟩⟩) ⟨el,((Lib.bytesCells w el ⟨⟨l⟩⟩).size,(Lib.bytesCells w el ⟨⟨l⟩⟩).size+1),.inr (apI _)⟩ (by rw[ju];exact Im l);have hW:Lib.bytesWorld w el ⟨⟨l⟩⟩=w.drew.alloc (.cells (Lib.bytesCells w el ⟨⟨l⟩⟩) el ((Lib.bytesCells w el ⟨⟨l⟩⟩).size,(Lib.bytesCells w el ⟨⟨l⟩⟩).size+1)):=KN w.drew _ _;rw[hW]at cD;exact⟨_,_,_,cD,h1,h2,.bk (aR _ _ _) bK hle,λk b hk=>jN.alloc h.drew _ k b hk⟩
def VL.bytes(ht:aN P tab){src dst el:TypeId}{ty:TypeId}{l:Ρ}
  (hg:aK ops (.mk d (.convert src dst x) ty ps af g) e=φ Α) (hx:ev e x=φ (.s l)) (hs:(tab src).map cg.under=φ .string) (vK:(tab dst).map cg.under=φ (.slice el)) (he:(tab el).map cg.under=φ (.int .u8)) (hl:Ζ l<=maxLen) (hd:bj n d=Α)
  (h:∀c,Ζ l<=c->c<=maxLen->VL P n D .plain ops L (aU d (.bk O.N 0 (Ζ l) c) e) (O.push (.cells (l.map ef))) Q):
  VL P n D .plain ops ((.one,.mk d (.convert src dst x) ty ps af g)::L) e O Q:=by
 refine VL.Eg (M:=λm O'=>∃c,Ζ l<=c/\c<=maxLen/\m= .bk O.N 0 (Ζ l) c/\O'=O.push (.cells (l.map ef))) hg hd (λG a w hw hf=>?_) ?_;have h1:=hf.ev hx;generalize hu:a.eval x=u at h1;cases h1;obtain⟨c,c1,c2,c3⟩:=aca (P:=P) ht hw hs vK he hl;exact⟨_,_,⟨c,c1,c2,rfl,rfl⟩,dW.of c3 (by simp[execOp,hu])⟩;rintro m O' ⟨c,c1,c2,rfl,rfl⟩;exact h c c1 c2
def Sc(l:Ρ):∀s:Ρ,(l.map λb=>(b.toNat:Int)).foldl (λ(r:ByteArray)(n:Int)=>r.push (UInt8.ofNat n.toNat)) ⟨⟨s⟩⟩=⟨⟨s++l⟩⟩:=by
 induction l with
 | nil=>intro s;simp
 | cons b l ih=>
   intro s;rw[ai8,List.foldl_cons]
   have:(⟨⟨s⟩⟩:ByteArray).push (UInt8.ofNat (b.toNat:Int).toNat)=⟨⟨s++[b]⟩⟩:=by
    simp[ByteArray.push]
   rw[this,ih,aui];rfl
def BB(a:Addr)(l:Ρ)(c:Nat)(w:World)(h:∀j v,(l.map λb=>Value.int .u8 b.toNat)[j]?=φ v->w.cell? (a.add j)=φ v):
  (Conv.bytesToString (.slice (φ a) (Ζ l) c)).run P w= .ok (.string ⟨⟨l⟩⟩) w:=by
 have h1:=run_loadCells_list (P:=P) w a (l.map λb=>Value.int .u8 b.toNat) h;rw[asc]at h1;rw[run_bytesToString (P:=P) w a (Ζ l) c (l.map λb=>(b.toNat:Int)) (by rw[h1,List.map_map];rfl)];rw[show(ByteArray.empty:ByteArray)=⟨⟨[]⟩⟩from rfl,Sc];rfl
def Io{l:Ρ}(h:aX G (l.map ef) us):us=l.map λb=>Value.int .u8 b.toNat:=by
 induction l generalizing us with
 | nil=>exact h.jd
 | cons b l ih=>
   obtain⟨u,us',rfl,h1,h2⟩:=h.eX;rw[ih h2,h1.jq];rfl
def acb(ht:aN P tab)(h:WR G O w){src dst el:TypeId}{o c:Nat}{l:Ρ}(hs:(tab src).map cg.under=φ (.slice el))(hd:(tab dst).map cg.under=φ .string)(he:(tab el).map cg.under=φ (.int .u8))
  (hk:O.hp k=φ (.cells cs)) (ju:(cs.drop o).take (Ζ l)=l.map ef) (hx:VR G (.bk k o (Ζ l) c) u):ik P (convert src dst u) w G O (.s l):=by
 cases hx with
 | bk hp hn hm=>
   rename_i b;obtain⟨b',C,T,h1,h2,h3⟩:=h.cells k cs hk;rw[hp]at h1;injection h1 with h1;subst h1;have h4:=(h3.drop o).take (Ζ l);rw[ju]at h4;have h5:=Io h4;refine⟨_,w,G,?_,Gh.Le.refl G,h,.s,jN.refl _ _⟩;rw[run_convert_bytes_string w src dst el _ _ _ (bm ht hs) (bm ht he) (bm ht hd)];(((refine BB _ l c w λj v hv=>?_);rw[<-h5,ai_]at hv;split at hv);rw[atM,ai_]at hv;split at hv;rw[Addr.add_lit];simp only[World.cell?,h2,an3,an4,if_false];simpa using hv;cases hv);cases hv
def Mt(ht:aN P tab)(h:WR G O w){src dst el:TypeId}{l:Ρ}(hs:(tab src).map cg.under=φ (.slice el))(hd:(tab dst).map cg.under=φ .string)(he:(tab el).map cg.under=φ (.int .u8))
  (hx:VR G (.l (Ζ l) (l.map ef) tk) u):ik P (convert src dst u) w G O (.s l):=by
 have hc:=λa n c=>run_convert_bytes_string (P:=P) w src dst el a n c (bm ht hs) (bm ht he) (bm ht hd)
 refine⟨.string ⟨⟨l⟩⟩,w,G,?_,Gh.Le.refl G,h,.s,jN.refl _ _⟩;generalize hn:Ζ l=k at hx;generalize hm:l.map ef=cs at hx;cases hx with
 | slnil=>
   obtain rfl:l=[]:=aev hn;rw[hc];rfl
 | kV=>
   obtain rfl:l=[]:=aev hn;rw[hc];rfl
 | qE=>
   obtain rfl:l=[]:=aev hn;rw[hc];exact BB _ [] _ w λj v hv=>by simp at hv
 | l h1 h2 h3 h4 h5 h6=>
   rename_i us c b o;subst hn hm;have h7:=Io (us:=us) ⟨h1,h3⟩;rw[hc];(refine BB _ l c w λj v hv=>?_);rw[<-h7]at hv;rw[Addr.add_lit];exact h.fm _ _ _ (h2 j v hv)
def VL.an_(ht:aN P tab){src dst el:TypeId}{ty:TypeId}{o c:Nat}{l:Ρ}
  (hg:aK ops (.mk d (.convert src dst x) ty ps af g) e=φ Α) (hx:ev e x=φ (.bk k o nn c)) (hs:(tab src).map cg.under=φ (.slice el)) (vK:(tab dst).map cg.under=φ .string) (he:(tab el).map cg.under=φ (.int .u8)) (hk:O.hp k=φ (.cells cs)) (hn:nn=Ζ l) (ju:(cs.drop o).take (Ζ l)=l.map ef) (hd:bj n d=Α)
  (h:VL P n D .plain ops L (aU d (.s l) e) O Q):VL P n D .plain ops ((.one,.mk d (.convert src dst x) ty ps af g)::L) e O Q:=by
 subst hn;refine VL.Eg (M:=λm O'=>m= .s l/\O'=O) hg hd (λG a w hw hf=>?_) ?_;exact⟨_,_,⟨rfl,rfl⟩,dW.of (acb (P:=P) ht hw hs vK he hk ju (hf.ev hx)) (by simp[execOp])⟩;rintro m O' ⟨rfl,rfl⟩;exact h
def VL.aeT(ht:aN P tab){src dst el:TypeId}{ty:TypeId}{l:Ρ}
  (hg:aK ops (.mk d (.convert src dst x) ty ps af g) e=φ Α) (hx:ev e x=φ (.l nn cs tk)) (hs:(tab src).map cg.under=φ (.slice el)) (vK:(tab dst).map cg.under=φ .string) (he:(tab el).map cg.under=φ (.int .u8)) (hn:nn=Ζ l) (ju:cs=l.map ef) (hd:bj n d=Α)
  (h:VL P n D .plain ops L (aU d (.s l) e) O Q):VL P n D .plain ops ((.one,.mk d (.convert src dst x) ty ps af g)::L) e O Q:=by
 subst hn ju;refine VL.Eg (M:=λm O'=>m= .s l/\O'=O) hg hd (λG a w hw hf=>?_) ?_;exact⟨_,_,⟨rfl,rfl⟩,dW.of (Mt (P:=P) ht hw hs vK he (hf.ev hx)) (by simp[execOp])⟩;rintro m O' ⟨rfl,rfl⟩;exact h
end
section
variable{n:Sz}{D:List Deferred}{e e':Env}{P:Program}{tab:cB}{O O':VH}{m m':MV}{ops:Array Oper}{Q:VQ}{md:Md}
def cK:Op->Bool
 | .call c=>match c.callee with
   | .value _=>Α
   | .builtin .append=>Α
   | _=>γ
 | _=>γ
def KO:Fl->Bool
 | .fk=>Α
 | _=>γ
def aoa(P:Program)(n:Sz)(Q:VQ)(d:Option Tmp)(O:VH)(K:Env->VH->Prop)(e:Env)(fv:ϱ)(ms:Option Η):Prop:=
 ∃id fs cs l R,fv=φ (.func (.func id) fs cs)/\ms=φ l/\Enters P id/\bj n d=Α/\VF P id (fs++l++cs) O R/\∀r O',R r O'->match r with
  | .ret m=>K (aU d m e) O'
  | .panic m=>Q (.panic m) (jM n e) O'
def eY(P:Program)(id:FuncId)(l:Η)(O:VH)(M:MV->VH->Prop):Prop:=
 ∀G w vs,WR G O w->aX G l vs->∃m O' u w' H,M m O'/\(callFunc id vs.toArray).run P w= .ok (.value u) w'/\Gh.Le G H/\WR H O' w'/\VR H m u
def fu:Md->Bool
 | .plain=>Α
 | _=>γ
def aob(P:Program)(n:Sz)(md:Md)(d:Option Tmp)(O:VH)(K:Env->VH->Prop)(e:Env)(fv:ϱ)(ms:Option Η):Prop:=
 ∃id l M,fu md=Α/\fv=φ (.func (.func id) [] [])/\ms=φ l/\bj n d=Α/\eY P id l O M/\∀m O',M m O'->K (aU d m e) O'
def ah(P:Program)(n:Sz)(md:Md)(Q:VQ)(d:Option Tmp)(O:VH)(K:Env->VH->Prop)(e:Env)(fv:ϱ)(ms:Option Η):Prop:=
 aoa P n Q d O K e fv ms\/aob P n md d O K e fv ms
def x_(P:Program)(n:Sz)(D:List Deferred)(md:Md)(ops:Array Oper)(Q:VQ)(f:Fl)(o:Oper)(L:List (Fl×Oper))(e:Env)(O:VH)(K:Env->VH->Prop):Prop:=
 match f,o.op with
 | .one,.call c=>match c.callee with
   | .value x=>ah P n md Q o.dst O K e (ev e x) (g_ e c.args.toList)
   | _=>VL P n D md ops ((f,o)::L) e O Q
 | _,_=>VL P n D md ops ((f,o)::L) e O Q
def VL.ext{c:Call}{id:FuncId}(hg:aK ops o e=φ Α)(xL:o.op= .call c)(hc:c.callee= .value x)(hf:ev e x=φ (.func (.func id) [] []))(hm:g_ e c.args.toList=φ ms)(hd:bj n o.dst=Α)
  (hx:eY P id ms O M) (h:∀m O',M m O'->VL P n D .plain ops L (aU o.dst m e) O' Q):VL P n D .plain ops ((.one,o)::L) e O Q:=by
 intro fuel listed ix uI hp
 match ix,uI with
 | (i,g)::ix,uI=>
   obtain⟨rfl,ho,uI⟩:=uI;intro G a w hw aY;have HS:=aY.ev hf;generalize WK:a.eval x=fv at HS;cases HS with
   | func h1 h2 h3 h4=>
     rename_i us vs;have kO:us=[]:=aev h1;have nP:vs=[]:=aev h3;subst kO;subst nP;have jL:=aY.g_ hm;obtain⟨m,O',u,w',H,hM,hr,g1,g2,g3⟩:=hx G w _ hw jL
     have cD:(execOp a.eval o).run P w= .ok (.value u) w':=by
      (have ha: #[]++c.args.map a.eval++ #[]=(c.args.toList.map a.eval).toArray:=by apply Array.ext';simp);simp only[execOp,xL,resolve,hc,WK,Deferred.ofValue,Sem.run_bind,Sem.run_pure,Result.andThen_ok,invoke];rw[ha];exact hr
     simp only[ai8,wpOps,ho,bz aY hg,if_true];refine .inl ?_;unfold Oper.wp;rw[cD];exact rY (λ_ _ _=>cU.le g1) (ix.map (·.1)) _ _ (h m O' hM 0 #[] ix uI (λh=>absurd rfl h) H (a.put o.dst u) w' g2 ((aY.mono g1).aU hd g3))
def x_.sound{f:Fl}(hK:∀e O,K e O->VL P n D md ops L e O Q)(hg:aK ops o e=φ Α)(h:x_ P n D md ops Q f o L e O K):VL P n D md ops ((f,o)::L) e O Q:=by
 obtain⟨d,op,ty,ps,af,g⟩:=o;cases f with
 | one=>
   cases op with
   | call c=>
     obtain⟨cl,as_,ts⟩:=c;cases cl with
     | value x=>
       rcases h with h | h
       ·obtain⟨id,fs,cs,l,R,h1,h2,h3,h4,h5,h6⟩:=h;refine VL.call hg h1 h2 rfl h3 h4 h5 λr O' hr=>?_
        have:=h6 r O' hr;cases r with
        | ret m=>exact hK _ _ this
        | panic m=>exact this
       ·obtain⟨id,l,M,hp,h1,h2,h3,h4,h5⟩:=h;cases md with
        | plain=>exact VL.ext hg rfl rfl h1 h2 h3 h4 λm O' hM=>hK _ _ (h5 m O' hM)
        | _=>cases hp
     | _=>exact h
   | _=>exact h
 | _=>exact h
def WL(P:Program)(tab:cB)(n:Sz)(D:List Deferred)(md:Md)(ops:Array Oper)(Q:VQ):List (Fl×Oper)->Env->VH->Prop
 | [],e,O=>Q .normal e O
 | (f,o)::L,e,O=>match aK ops o e with
   | none=>False
   | some γ=>(match bj n o.dst&& !KO f with
     | true=>WL P tab n D md ops Q L (aU o.dst aO e) O
     | false=>False)
   | some Α=>(match cK o.op||KO f with
     | true=>x_ P n D md ops Q f o L e O (WL P tab n D md ops Q L)
     | false=>(match iF tab f o e O with
       | none=>VL P n D md ops ((f,o)::L) e O Q
       | some (m,O')=>(match bj n o.dst with
         | true=>WL P tab n D md ops Q L (aU o.dst m e) O'
         | false=>False)))
def WL.sound(ht:aN P tab):∀{L:List (Fl×Oper)} {e:Env} {O:VH},WL P tab n D md ops Q L e O->VL P n D md ops L e O Q
 | [],e,O,h=>VL.nil h
 | (f,o)::L,e,O,h=>by
   rw[WL]at h;split at h;exact h.elim;rename_i hg;split at h;rename_i hd;simp only[TR,Bool.not_eq_true']at hd;exact VL.skip (by rintro rfl;exact absurd hd.2 z12) hg hd.1 (WL.sound ht h);exact h.elim;rename_i hg;split at h;exact x_.sound (λe O h=>WL.sound ht h) hg h;split at h;exact h;split at h;exact VL.step ht hg ‹_› ‹_› (WL.sound ht h);exact h.elim
def Ip(P:Program)(n:Sz)(tab:cB)(D:List Deferred)(A B:Env->VH->VQ->Prop)(e:Env)(O:VH)(Q:VQ):ϱ->Prop
 | some (.v (.bool Α))=>A e O Q
 | some (.v (.bool γ))=>B e O Q
 | _=>False
def WC(P:Program)(tab:cB)(n:Sz)(D:List Deferred):Code->Env->VH->VQ->Prop
 | .skip,e,O,Q=>Q .normal e O
 | .exit i,e,O,Q=>Q (.exit i) e O
 | .label _,e,O,Q=>Q .normal e O
 | .ret,e,O,Q=>Q .ret e O
 | .scope c,e,O,Q=>WC P tab n D c e O (vH Q)
 | .block id c,e,O,Q=>WC P tab n D c e O (km id Q)
 | .seq a b,e,O,Q=>WC P tab n D a e O λx e O=>match x with
   | .normal=>WC P tab n D b e O Q
   | x=>Q x e O
 | .cond c x y,e,O,Q=>Ip P n tab D (WC P tab n D x) (WC P tab n D y) e O Q (ev e c)
 | .region id ops γ,e,O,Q=>WL P tab n D .plain ops Q (ops.toList.map (Fl.one, ·)) e O
 | c,e,O,Q=>VC P n D c e O Q
def WC.sound(ht:aN P tab):∀{c:Code} {e:Env} {O:VH} {Q:VQ},WC P tab n D c e O Q->VC P n D c e O Q:=by
 intro c;induction c with
 | skip=>intro e O Q h;exact VC.skip h
 | exit i=>intro e O Q h;exact VC.exit h
 | label l=>intro e O Q h;exact VC.label h
 | ret=>intro e O Q h;exact VC.ret h
 | scope c ih=>intro e O Q h;exact VC.scope (ih h)
 | block id c ih=>intro e O Q h;exact Γ (ih h)
 | seq a b iha ihb=>
   intro e O Q h;refine VC.seq (VC.mono ?_ (iha h));intro x e O hx;cases x<;>first | exact ihb hx | exact hx
 | cond c x y ihx ihy=>
   intro e O Q h;simp only[WC]at h;unfold Ip at h;split at h;rename_i he;exact VC.qI he (ihx h);rename_i he;exact VC.oc he (ihy h);exact h.elim
 | region id ops dr=>
   intro e O Q h;cases dr with
   | true=>exact h
   | false=>obtain⟨l⟩:=ops;exact VC.aaf (WL.sound ht h)
 | loop c ih=>intro e O Q h;exact h
 | _=>intro e O Q h;exact h
def wH(K:Env->VH->Prop)(Q:VQ):VQ:=λx e O=>match x with
 | .normal=>K e O
 | x=>Q x e O
def jQ(tab:cB)(e:Env)(O:VH):List ResultVar->Option Η
 | []=>φ []
 | r::rs=>(mY tab e O r).bind λm=>(jQ tab e O rs).map (m:: ·)
def kf(R:gm->VH->Prop)(O:VH):Option Η->Prop
 | none=>False
 | some [m]=>R (.ret m) O
 | some l=>R (.ret (.tuple l)) O
def FN(tab:cB)(rs:List ResultVar)(R:gm->VH->Prop):VQ:=λx e O=>match x with
 | .normal=>kf R O (jQ tab e O rs)
 | .ret=>kf R O (jQ tab e O rs)
 | .panic m=>R (.panic m) O
 | _=>False
def yb(rs:List ResultVar):jQ tab e O rs=rs.mapM (mY tab e O):=by
 induction rs with
 | nil=>rfl
 | cons r rs ih=>
   rw[jQ,ih,List.mapM_cons];simp only[Option.bind_eq_bind];cases mY tab e O r with
   | none=>rfl
   | some m=>simp only[alp];cases List.mapM (mY tab e O) rs<;>rfl
def VF.ofW(ht:aN P tab)(hf:P.funcs[f]?=φ fn)(hb:fn.body=φ c)(hk:(⟨fn.ntmps,0⟩:Sz)=n)(hr:fn.results.toList=rs)(hn:Ζ args<=n.n)
  (h:WC P tab n [] c (cX 0 args) O (FN tab rs R)):VF P f args O R:=by
 subst hk;refine VF.enter ht hf hb hn (VC.mono ?_ (WC.sound ht h));intro x e O hx
 have key:kf R O (jQ tab e O rs)->∃m,gX tab fn e O=φ m/\R (.ret m) O:=λh=>by
  unfold gX;rw[hr, <-yb];generalize jQ tab e O rs=z at h;unfold kf at h;split at h;exact h.elim;exact⟨_,rfl,h⟩
  ·rename_i l hl;refine⟨.tuple l,?_,h⟩
   match l,hl with
   | [],_=>rfl
   | [m],hl=>exact absurd rfl (hl m)
   | _::_::_,_=>rfl
 cases x<;>first | exact key hx | exact hx
def χ(k:Nat)(rs:List ResultVar)(hf:P.funcs[f]?=φ fn)(q:Q')(ht:aN P tab:=by exact aa)(hb:fn.body=φ c:=by exact rfl)(hk:(⟨fn.ntmps,0⟩:Sz)=⟨k,0⟩:=by exact rfl)(hr:fn.results.toList=rs:=by exact rfl)(hn:Ζ args<=k:=by exact Nat.le_of_ble_eq_true rfl)(h:WC P tab ⟨k,0⟩ [] c (cX 0 args) O (FN tab rs R)=Q':=by conv=>lhs;simp only[cX,Nat.zero_add,y10]):VF P f args O R:=VF.ofW ht hf hb hk hr hn (h.mpr q)
def W3(P:Program)(tab:cB)(n:Sz)(D:List Deferred)(md:Md)(ops:Array Oper)(Q:VQ)(L:List (Fl×Oper))(e:Env)(O:VH):Bool->Prop
 | true=>WL P tab n D md ops Q L e O
 | false=>False
def W2(P:Program)(tab:cB)(n:Sz)(D:List Deferred)(md:Md)(ops:Array Oper)(Q:VQ)(f:Fl)(o:Oper)(L:List (Fl×Oper))(e:Env)(O:VH):Option (MV×VH)->Prop
 | some (m,O')=>W3 P tab n D md ops Q L (aU o.dst m e) O' (bj n o.dst)
 | none=>VL P n D md ops ((f,o)::L) e O Q
def W1(P:Program)(tab:cB)(n:Sz)(D:List Deferred)(md:Md)(ops:Array Oper)(Q:VQ)(f:Fl)(o:Oper)(L:List (Fl×Oper))(e:Env)(O:VH):Bool->Option Bool->Prop
 | _,Β=>False
 | true,φ Α=>x_ P n D md ops Q f o L e O (WL P tab n D md ops Q L)
 | false,φ Α=>W2 P tab n D md ops Q f o L e O (iF tab f o e O)
 | _,φ γ=>W3 P tab n D md ops Q L (aU o.dst aO e) O (bj n o.dst&& !KO f)
section
variable{f:Fl}{o:Oper}{L:List (Fl×Oper)}{d:Option Tmp}{p:Op}{ty:TypeId}{ps:String}{af:Array Edge}{g:Option (Nat×Bool)}{b:Bool}
def ajf:WL P tab n D md ops Q [] e O=Q .normal e O:=rfl
def aeU:WL P tab n D md ops Q ((f,.mk d p ty ps af g)::L) e O=W1 P tab n D md ops Q f (.mk d p ty ps af g) L e O (cK p||KO f) (aK ops (.mk d p ty ps af g) e):=by
 rw[WL];generalize aK ops (.mk d p ty ps af g) e=x;unfold W1;cases x with
 | none=>rfl
 | some b=>
   cases b with
   | false=>
     simp only;unfold W3;split<;>simp only
     all_goals (split<;>rename_i h<;>simp_all)
   | true=>
     simp only;generalize (cK p||KO f)=y;cases y with
     | true=>rfl
     | false=>
       simp only;unfold W2;cases iF tab f (.mk d p ty ps af g) e O with
       | none=>rfl
       | some r=>unfold W3;cases bj n d<;>rfl
def aeV:W1 P tab n D md ops Q f o L e O Α (φ Α)=x_ P n D md ops Q f o L e O (WL P tab n D md ops Q L):=rfl
def aoc:W1 P tab n D md ops Q f o L e O γ (φ Α)=W2 P tab n D md ops Q f o L e O (iF tab f o e O):=rfl
def aeW:W1 P tab n D md ops Q f (.mk d p ty ps af g) L e O b (φ γ)=W3 P tab n D md ops Q L (aU d aO e) O (bj n d&& !KO f):=by cases b<;>rfl
def aeX:W2 P tab n D md ops Q f (.mk d p ty ps af g) L e O (φ (m,O'))=W3 P tab n D md ops Q L (aU d m e) O' (bj n d):=rfl
def aeY:W2 P tab n D md ops Q f o L e O Β=VL P n D md ops ((f,o)::L) e O Q:=rfl
def aeZ:W3 P tab n D md ops Q L e O Α=WL P tab n D md ops Q L e O:=rfl
variable{K:Env->VH->Prop}{x:Operand}{as_:Array Operand}{ts:Array TypeId}
def Sd:x_ P n D md ops Q .one (.mk d (.call {callee:=.value x,args:=as_,argTypes:=ts}) ty ps af g) L e O K=ah P n md Q d O K e (ev e x) (g_ e as_.toList):=rfl
def KP:x_ P n D md ops Q f (.mk d (.call {callee:=.builtin .append,args:=as_,argTypes:=ts}) ty ps af g) L e O K=VL P n D md ops ((f,.mk d (.call {callee:=.builtin .append,args:=as_,argTypes:=ts}) ty ps af g)::L) e O Q:=by cases f<;>rfl
end
section
variable{c a b:Code}{i id:Nat}{A B:Env->VH->VQ->Prop}{l:ϕ}{K:Env->VH->Prop}{R:gm->VH->Prop}{rs:List ResultVar}{r:ResultVar}{t:Nat}{m1 m2 m3:MV}{x:Operand}{y:Code}
def ae0:WC P tab n D .skip e O Q=Q .normal e O:=rfl
def ae1:WC P tab n D (.exit i) e O Q=Q (.exit i) e O:=rfl
def acd:WC P tab n D (.label i) e O Q=Q .normal e O:=rfl
def ajg:WC P tab n D .ret e O Q=Q .ret e O:=rfl
def ace:WC P tab n D (.scope c) e O Q=WC P tab n D c e O (vH Q):=rfl
def acf:WC P tab n D (.block id c) e O Q=WC P tab n D c e O (km id Q):=rfl
def ae2(P:Program)(tab:cB)(n:Sz)(D:List Deferred)(b:Code)(Q:VQ):Env->VH->Prop:=λe O=>WC P tab n D b e O Q
def acg:ae2 P tab n D b Q e O=WC P tab n D b e O Q:=rfl
def ajh:WC P tab n D (.seq a b) e O Q=WC P tab n D a e O (wH (ae2 P tab n D b Q) Q):=rfl
def ae3:WC P tab n D (.cond x a b) e O Q=Ip P n tab D (WC P tab n D a) (WC P tab n D b) e O Q (ev e x):=rfl
def W4:WC P tab n D (.region id ⟨l⟩ γ) e O Q=WL P tab n D .plain ⟨l⟩ Q (l.map (Fl.one, ·)) e O:=rfl
def ach:WC P tab n D (.region id ops Α) e O Q=VC P n D (.region id ops Α) e O Q:=rfl
def ae4:WC P tab n D (.loop c) e O Q=VC P n D (.loop c) e O Q:=rfl
def Po:wH K Q .normal e O=K e O:=rfl
def W5:wH K Q (.exit i) e O=Q (.exit i) e O:=rfl
def W6:wH K Q (.goto i) e O=Q (.goto i) e O:=rfl
def aci:wH K Q .ret e O=Q .ret e O:=rfl
def FO:wH K Q (.panic m) e O=Q (.panic m) e O:=rfl
def ae5:Ip P n tab D A B e O Q (φ (.v (.bool Α)))=A e O Q:=rfl
def ae6:Ip P n tab D A B e O Q (φ (.v (.bool γ)))=B e O Q:=rfl
def acj:jQ tab e O []=φ []:=rfl
def W7:jQ tab e O (r::rs)=(mY tab e O r).bind λm=>(jQ tab e O rs).map (m:: ·):=rfl
def Pp:mY tab e O (.tmp t)=look e t:=rfl
def KQ{ty:TypeId}:mY tab e O (.cell t ty)=(look e t).bind (fq tab O ty):=rfl
def aji:kf R O (φ [])=R (.ret (.tuple [])) O:=rfl
def ajj:kf R O (φ [m])=R (.ret m) O:=rfl
def ajk:kf R O (φ [m,m1])=R (.ret (.tuple [m,m1])) O:=rfl
def ajl:kf R O (φ [m,m1,m2])=R (.ret (.tuple [m,m1,m2])) O:=rfl
def ajm:kf R O (φ [m,m1,m2,m3])=R (.ret (.tuple [m,m1,m2,m3])) O:=rfl
def Pq:FN tab rs R .normal e O=kf R O (jQ tab e O rs):=rfl
def ack:FN tab rs R .ret e O=kf R O (jQ tab e O rs):=rfl
def Se:FN tab rs R (.panic m) e O=R (.panic m) O:=rfl
def cV(P:Program)(f:FuncId):Bool:=match P.funcs[f]? with
 | some fn=> !(fn.name== "runtime.NumGoroutine")&&fn.body.isSome
 | none=>γ
def Enters.w_(h:cV P f=Α:=by kernel_rfl):Enters P f:=by
 unfold cV at h;split at h;rename_i fn hf;simp only[TR,Bool.not_eq_true']at h;exact Enters.of hf h.1 (by cases hb:fn.body with | none=>rw[hb]at h;exact absurd h.2 z12 | some c=>rfl);cases h
def π(hR:VF P f as_ O (aC Φ))(h:∀m O', Φ m O'->K (aU d m e) O')(hb:cV P f=Α:=by kernel_rfl)(ha:fs++ms++cs=as_:=by exact rfl)(hd:bj n d=Α:=by exact rfl):
  ah P n md Q d O K e (φ (.func (.func f) fs cs)) (φ ms):=by
 subst ha
 exact .inl ⟨f,fs,cs,ms,_,rfl,rfl,Enters.w_ hb,hd,hR,λr O' hr=>by
  cases r with
  | ret m=>exact h m O' hr
  | panic m=>exact hr.elim⟩
def ah.p{R:gm->VH->Prop}(hR:VF P f as_ O R)(h:∀m O',R (.ret m) O'->K (aU d m e) O')(h2:∀m O',R (.panic m) O'->Q (.panic m) (jM n e) O')(hb:cV P f=Α:=by kernel_rfl)(ha:fs++ms++cs=as_:=by exact rfl)(hd:bj n d=Α:=by exact rfl):
  ah P n md Q d O K e (φ (.func (.func f) fs cs)) (φ ms):=by
 subst ha
 exact .inl ⟨f,fs,cs,ms,R,rfl,rfl,Enters.w_ hb,hd,hR,λr O' hr=>by
  cases r with
  | ret m=>exact h m O' hr
  | panic m=>exact h2 m O' hr⟩
def ah.ext(hx:eY P f ms O M)(hd:bj n d=Α)(h:∀m O',M m O'->K (aU d m e) O'):ah P n .plain Q d O K e (φ (.func (.func f) [] [])) (φ ms):=
 .inr ⟨f,ms,M,rfl,rfl,rfl,hd,hx,h⟩
def eY.of{ex:Array Value->Sem Value}(hf:P.funcs[f]?=φ fn)(aod:(fn.name== "runtime.NumGoroutine")=γ)(hb:fn.body.isNone=Α)(hn:Extern.findNext fn=Β)(he:Extern.find fn=φ ex)
  (hr:∀G w vs,WR G O w->aX G ms vs->∃u,(ex vs.toArray).run P w= .ok u w/\VR G m u):eY P f ms O λm' O'=>m'=m/\O'=O:=by
 intro G w vs hw hv;obtain⟨u,h1,h2⟩:=hr G w vs hw hv;exact⟨m,O,u,w,G,⟨rfl,rfl⟩,by rw[run_callFunc_extern hf aod hb hn he,h1];rfl,Gh.Le.refl G,hw,h2⟩
def WC.reads{id:Nat}{l:ϕ}
  (h:WL P tab n D .reads ⟨l⟩ Q (l.map (Fl.rd, ·)) e O) (ht:aN P tab:=by exact aa) (hm:P.follows .mixedOrders=Α:=by kernel_rfl) (hs:Region.noSelect ⟨l⟩=Α:=by kernel_rfl) (hp:cP .reads ⟨l⟩ (Ζ l) (Array.replicate (Ζ l) γ) ((List.range' 0 (Ζ l)).map (·,Fl.rd))=Α:=by kernel_rfl):VC P n D (.region id ⟨l⟩ Α) e O Q:=VC.aaj hm hs hp (WL.sound ht h)
def WC.bM(md:Md)(ix:List (Nat×Fl)){id:Nat}{l:ϕ} 
  (h:WL P tab n D md ⟨l⟩ Q L e O) (ht:aN P tab:=by exact aa) (hne:md≠ .plain:=by simp) (hm:P.follows .mixedOrders=Α:=by kernel_rfl) (hs:Region.noSelect ⟨l⟩=Α:=by kernel_rfl) (hp:cP md ⟨l⟩ (Ζ l) (Array.replicate (Ζ l) γ) ix=Α:=by kernel_rfl) (hL:pw l ix=φ L:=by exact rfl):VC P n D (.region id ⟨l⟩ Α) e O Q:=VC.aag md ix hne hm hs hp hL (WL.sound ht h)
variable{σ :Type}{ls Ks:Τ}{ks:Η}{ms: σ ->Η}{I: σ ->VH->Prop}{μ : σ ->Nat}{s: σ}
def WC.cj(ls Ks:Τ)(ms: σ ->Η)(I: σ ->VH->Prop)(μ : σ ->Nat)(s0: σ)(hI:I s0 O)
  (step:∀s O,I s O->WC P tab n D c (ko ls (ms s) (ko Ks ks [])) O (aw ls Ks ks ms I μ s Q)) (ht:aN P tab:=by exact aa) (h0:looks e ls=φ (ms s0):=by exact rfl) (hk:looks e Ks=φ ks:=by exact rfl):VC P n D (.loop c) e O Q:=
 VC.cj ls Ks ms I μ s0 h0 hk hI λs O h=>WC.sound ht (step s O h)
end
def VL.app{t ty:TypeId}{p:MV}(hv:jO tab O t p q=φ (m,O'))(h:WL P tab n D md ops Q L (aU d m e) O')(ht:aN P tab:=by exact aa)(hx:ev e x=φ p:=by exact rfl)(hy:ev e y=φ q:=by exact rfl)(hg:aK ops (.mk d (.call {callee:=.builtin .append,args:= #[x,y],argTypes:= #[t,t]}) ty ps af g) e=φ Α:=by exact rfl)(hd:bj n d=Α:=by exact rfl):
  VL P n D md ops ((.one,.mk d (.call {callee:=.builtin .append,args:= #[x,y],argTypes:= #[t,t]}) ty ps af g)::L) e O Q:=
 VL.step ht hg (by rw[zM,eN,hx,hy];exact hv) hd (WL.sound ht h)
end
section
variable{G H:Gh}{n:Sz}{D:List Deferred}{e:Env}{a:Act}{P:Program}{tab:cB}{O O':VH}{w:World}{m m':MV}{u v:Value}{ops:Array Oper}{Q:VQ}{md:Md}
def dd(P:Program)(n:Sz)(D:List Deferred)(o:Oper)(e:Env)(O:VH)(M:MV->VH->Prop):Prop:=
 ∀G a w,WR G O w->FR G n D e a->∃m O' u w' H,M m O'/\(execOp a.eval o).run P w= .ok (.value u) w'/\Gh.Le G H/\WR H O' w'/\VR H m u
def aQ.qJ(ho:ops[i]?=φ o)(hg:aK ops o e=φ Α)(hd:bj n o.dst=Α)(hy:dd P n D o e O M)(h:∀m O',M m O'->K (aU o.dst m e) O'):aQ P n D ops i e O Q K:=by
 intro G a w hw aY;obtain⟨m,O',u,w',H,hM,hr,h1,h2,h3⟩:=hy G a w hw aY;simp only[wpOp,ho,bz aY hg,if_true];refine .inl ?_;unfold Oper.wp;rw[hr];exact⟨_,_,H,h1,h2,(aY.mono h1).aU hd h3,h _ _ hM⟩
def VL.qJ(hg:aK ops o e=φ Α)(hd:bj n o.dst=Α)(hA:KK o.op=Α->∀brk,md= .held brk->brk≠[])(hb:∀brk,md= .held brk->KK o.op=γ\/brk≠[])(hy:dd P n D o e O M)
  (r4:∀brk,md= .held brk->∀i,ops[i]?=φ o->brk.contains i=Α) (h:∀m O',M m O'->VL P n D md ops L (aU o.dst m e) O' Q):VL P n D md ops ((.one,o)::L) e O Q:=by
 intro fuel listed ix hf hp
 match ix,hf with
 | (i,g)::ix,hf=>
   obtain⟨rfl,ho,hf⟩:=hf;cases md with
   | plain=>exact jC.one (aQ.qJ ho hg hd hy λm O' hM=>h m O' hM 0 #[] ix hf (λh=>absurd rfl h))
   | any=>
     obtain⟨h1,h2⟩:=hp z10;cases fuel with
     | zero=>cases h2
     | succ fuel=>
       simp only[cP,TR]at h2;have hr:Region.ready .any ops listed=[i]:=by simpa using h2.1
       exact cf.all hr z10 λj hj=>by
        obtain rfl:j=i:=by simpa using hj
        exact aQ.qJ ho hg hd hy λm O' hM=>h m O' hM fuel (listed.setIfInBounds j Α) ix hf (λ_=>⟨h1,h2.2⟩)
   | reads=>
     obtain⟨h1,h2⟩:=hp z10;cases fuel with
     | zero=>cases h2
     | succ fuel=>
       simp only[cP,TR]at h2;exact absurd h2.1 z10
   | held brk=>
     obtain⟨h1,h2⟩:=hp z10;cases fuel with
     | zero=>cases h2
     | succ fuel=>
       simp only[cP,TR]at h2;have hr:Region.ready .any ops listed=[i]:=by simpa using h2.1.1
       have xD:∀j,(listed.setIfInBounds i Α).getD j Α=γ\/j=i->brk.contains j=Α:=by
        rcases uH ho h2.1.2 with⟨h3,_⟩ | h3;rw[r4 brk rfl i ho]at h3;cases h3;exact h3
       exact bR.aeK hr xD (aQ.qJ ho hg hd hy λm O' hM=>h m O' hM fuel (listed.setIfInBounds i Α) ix hf (λ_=>⟨h1,h2.2⟩))
def auV(hy:dd P n D o e O M)(h:∀m O',M m O'->VL P n D md ops L (aU o.dst m e) O' Q)(hmd:md= .plain\/md= .any:=by exact .inl rfl)(hg:aK ops o e=φ Α:=by exact rfl)(hd:bj n o.dst=Α:=by exact rfl):VL P n D md ops ((.one,o)::L) e O Q:=by
 rcases hmd with rfl | rfl;exact VL.qJ hg hd (λ_ _ h=>by cases h) (λ_ h=>by cases h) hy (λ_ h=>by cases h) h;exact VL.qJ hg hd (λ_ _ h=>by cases h) (λ_ h=>by cases h) hy (λ_ h=>by cases h) h
def sW(O:VH)(sz:Nat):MV->Option (Nat×Η)
 | .l k ds _=>if (Ζ ds)=k*sz then φ (k,ds)else Β
 | .bk k o n _=>match O.hp k with
   | some (.cells cs)=>if o+n*sz<=(Ζ cs) then φ (n,(cs.drop o).take (n*sz))else Β
   | _=>Β
 | .s l=>if sz=1 then φ (Ζ l,l.map ef)else Β
 | _=>Β
def AR:MV->TypeDesc->Prop
 | .s _,.string=>True
 | .s _,_=>False
 | _,.slice _=>True
 | _,_=>False
def strCells_eq(l:Ρ):byteCells (⟨⟨l⟩⟩:ByteArray)=l.map λb=>Value.int .u8 b.toNat:=by simp[byteCells]
def CK(h:WR G O w){sz:Nat}{ds:Η}{tx:TypeId}{d:TypeDesc}(hs:sW O sz m=φ (k,ds))(hx:VR G m u)(ht:P.underlying tx=φ d)(hd:AR m d)(fX:ds.all dF=Α):∃us,Src P sz tx u k us w/\aX G ds us:=by
 unfold sW at hs;split at hs
 ·split at hs
  ·rename_i k' gl tk hl;injection hs with hs;injection hs with e1 e2;subst e1;subst e2
   have hk:∃e',P.underlying tx=φ (.slice e'):=by
    cases d<;>simp only[AR]at hd;exact⟨_,ht⟩
   obtain⟨e',hk⟩:=hk
   have nil:∀A c,k'=0->gl=[]->VR G (.l k' gl tk) (.slice A 0 c)->∃us,Src P sz tx (.slice A 0 c) k' us w/\aX G gl us:=λA c e1 e2 _=>by
    subst e1;subst e2
    refine⟨[],?_,aX.nil⟩;cases A with
    | none=>exact Src.ofNil w hk c
    | some A=>exact Src.ofSlice w hk A 0 c [] z10 (λj u hu=>by simp at hu) (λu hu=>by cases hu)
   cases hx with
   | slnil=>exact nil _ _ rfl rfl .slnil
   | qE h1=>exact nil _ _ rfl rfl (.qE h1)
   | kV=>exact nil _ _ rfl rfl .kV
   | l h1 h2 h3 h4 h5 h6=>
     rename_i us c b o;have hv:aX G gl us:=⟨h1,h3⟩;exact⟨us,Src.ofSlice w hk _ k' c us (by rw[h1,hl]) (λj u hu=>by rw[Addr.add_lit];exact h.fm _ _ _ (h2 j u hu)) (Bq hv fX),hv⟩
  ·cases hs
 ·rename_i k' o n' c';split at hs
  ·rename_i cs Gw;split at hs
   ·rename_i hle;injection hs with hs;injection hs with e1 e2;subst e1;subst e2
    have hk:∃e',P.underlying tx=φ (.slice e'):=by
     cases d<;>simp only[AR]at hd;exact⟨_,ht⟩
    obtain⟨e',hk⟩:=hk;cases hx with
    | bk hp hn hm=>
      rename_i b;obtain⟨b',C,T,h1,h2,h3⟩:=h.cells k' cs Gw;rw[hp]at h1;injection h1 with h1;subst h1;have hv:=(h3.drop o).take (n'*sz);refine⟨_,Src.ofSlice w hk ⟨b,o,Β⟩ n' c' _ ?_ (λj u hu=>?_) (Bq hv fX),hv⟩;rw[hv.1];simp;omega;rw[Addr.add_lit];rw[ai_]at hu;split at hu;rw[atM,ai_]at hu;split at hu;simp only[World.cell?,h2,an3,an4,if_false];simpa using hu;cases hu;cases hu
   ·cases hs
  ·cases hs
 ·rename_i l;split at hs
  ·rename_i mH;subst mH;injection hs with hs;injection hs with e1 e2;subst e1;subst e2
   have hk:P.underlying tx=φ .string:=by
    cases d<;>simp only[AR]at hd;exact ht
   cases hx;refine⟨_,Src.ofString w hk ⟨⟨l⟩⟩,?_⟩;rw[strCells_eq];exact Im l
  ·cases hs
 ·cases hs
def ae7{α :Type}{s:Sem α}{x y: α}{w1 w2:World}(h1:s.run P w= .ok x w1)(h2:s.run P w= .ok y w2):w1=w2:=by
 rw[h1]at h2;injection h2
def W8(h:WR G O w)(hk:O.hp k=φ (.cells cs))(hp:G.cJ k=φ b)(hi:i<Ζ cs):(w.cell? ⟨b,i,Β⟩).isSome=Α/\w.frozen? ⟨b,i,Β⟩=γ:=by
 obtain⟨b',C,T,e1,e2,e3⟩:=h.cells k cs hk;rw[hp]at e1;injection e1 with e1;subst e1;have hlen:i<C.size:=by have:=e3.1;simp at this;omega
 constructor;simp only[World.cell?,e2,an3,an4,if_false,Array.getElem?_eq_getElem hlen,Option.isSome_some];obtain⟨t',⟨lo,hi⟩,bH⟩:=T;dsimp only at e2 bH;simp only[World.frozen?,e2,Bool.and_eq_false_imp,decide_eq_true_eq,decide_eq_false_iff_not];intro;omega
def Iq(ht:aN P tab)(h:WR G O w){t tx ty el:TypeId}{d:TypeDesc}{o c:Nat}{ds:Η}(hu:(tab t).map cg.under=φ (.slice el))(he:tab el=φ te)(rz:P.underlying tx=φ d)(hk:O.hp k=φ (.cells cs))(hs:sW O te.size m=φ (j,ds))(hd:AR m d)(fX:ds.all dF=Α)
  (oe:n'+j<=c) (hle:o+n'*te.size+Ζ ds<=Ζ cs) (hx:VR G (.bk k o n' c) u) (hy:VR G m v):
  ∃w' A,(Builtin.append_ #[t,tx] ty #[u,v]).run P w= .ok (.slice A (n'+j) c) w'/\WR G (O.set k (.cells (db cs (o+n'*te.size) ds))) w'/\VR G (.bk k o (n'+j) c) (.slice A (n'+j) c):=by
 obtain⟨ti,z,i1,i2,i3,i4,i5,i6⟩:=(ht _ te he).info;obtain⟨us,oh,hv⟩:=CK (P:=P) h hs hy rz hd fX;cases hx with
 | bk hp hn hm=>
   rename_i b;(have mF:=λ(q:Nat)(hq:q<Ζ us)=>W8 h (i:=o+n'*te.size+q) hk hp (by have:=hv.1;omega));rw[<-i2]at oh mF;have hr:=run_append_room_src (P:=P) w t tx ty el ti (bm ht hu) i1 b o n' c v j us oh oe (λq hq=>(mF q hq).1) (λq hq=>(mF q hq).2);obtain⟨w2,fR,xc⟩:=vA (P:=P) hp (o+n'*te.size) ds us 0 cs O w h hk hv fX Λ;have gu:=run_storeCells_cells (P:=P) b (o+n'*ti.size) us 0 w (by simpa usingλq hq=>(mF q hq).1) (by simpa usingλq hq=>(mF q hq).2) oh.one;rw[i2]at gu;have:=ae7 fR gu;subst this;rw[i2]at hr;exact⟨_,_,hr,by simpa using xc,.bk hp oe hm⟩
def VH.BD(O:VH)(cs:Η)(t:TypeId)(n:Nat):VH:=(O.push (.cells cs)).push (.shape O.N t n)
def CL(ht:aN P tab)(h:WR G O w){t tx ty el:TypeId}{d:TypeDesc}{c:Nat}{A:Option Addr}{L ds:Η}(hu:(tab t).map cg.under=φ (.slice el))(he:tab el=φ te)(rz:P.underlying tx=φ d)(hs:sW O te.size m=φ (j,ds))(hd:AR m d)(fX:ds.all dF=Α)
  (hL:aX G L us) (nR:Ζ L=n'*te.size) (hold:(Builtin.firstCells te.size n' (.slice A n' c)).run P w.drew= .ok us.toArray w.drew) (oe:c<n'+j) (hb:(n'+j)*te.bytes<=140737488355328) (hm:n'+j<=maxLen) (hy:VR G m v):
  ∃c' w' H zs,n'+j<=c'/\c'<=maxLen/\(Ζ zs)=(c' - (n'+j))*te.size/\(Builtin.append_ #[t,tx] ty #[.slice A n' c,v]).run P w= .ok (.slice (φ ⟨w.heap.size,0,Β⟩) (n'+j) c') w'/\Gh.Le G H/\WR H (O.BD (L++ds++zs) el (c'*te.size)) w'/\VR H (.bk O.N 0 (n'+j) c') (.slice (φ ⟨w.heap.size,0,Β⟩) (n'+j) c'):=by
 obtain⟨ti,z,i1,i2,i3,i4,i5,i6⟩:=(ht _ te he).info;obtain⟨vs,oh,hv⟩:=CK (P:=P) h hs hy rz hd fX;have bK:=grownCap_ge w (n'+j) c el;have hle:=grownCap_le_maxLen w (n'+j) c el hm;have ae8:=oh;rw[<-i2]at ae8 hold;have hr:=run_append_grow_src (P:=P) w t tx ty el ti z (bm ht hu) i1 i4 A n' c us hold v j vs ae8 oe (by simp only[maxLen]at hm;omega) (by rw[i3];exact growslice_fits Λ hb)
 have hzc:aX G (fC te.zero ((grownCap w (n'+j) c el - (n'+j))*te.size)) (Builtin.zeroCells z.cells (grownCap w (n'+j) c el - (n'+j))).toList:=by
  rcases auq (Ζ te.zero) with hz | hz
  ·(have Wz:te.size=0:=by have:=(i6 G).1;rw[Array.length_toList,i5]at this;omega);have:z.cells.size=0:=by rw[i5,Wz]
   rw[Wz,Nat.mul_zero];refine⟨by simp[fC,Builtin.zeroCells,this],λi c u hc=>by simp[fC]at hc⟩
  ·have hzz:=vC (i6 G) hz ((grownCap w (n'+j) c el - (n'+j))*te.size);rw[<-i5]at hzz ⊢;exact hzz
 have ia:=(hL.append hv).append hzc;obtain⟨g1,g2⟩:=h.drew.push (cs:=L++ds++fC te.zero ((grownCap w (n'+j) c el - (n'+j))*te.size)) (C:=(us++vs).toArray++Builtin.zeroCells z.cells (grownCap w (n'+j) c el - (n'+j))) el (by simpa using ia);have sK:(us++vs).length=(n'+j)*te.size:=by rw[abT,hL.1,nR,oh.newsLen,aur]
 have mH:((us++vs).toArray++Builtin.zeroCells z.cells (grownCap w (n'+j) c el - (n'+j))).size=grownCap w (n'+j) c el*te.size:=by
  rw[Array.size_append,Rw,i5,List.size_toArray,sK, <-aur];congr 1;omega
 refine⟨grownCap w (n'+j) c el,_,_,fC te.zero ((grownCap w (n'+j) c el - (n'+j))*te.size),bK,hle,by simp[fC],hr,g1,g2.HQ (aR _ _ _) ?_,.bk (aR _ _ _) bK hle⟩
 have:(w.drew.alloc (.cells ((us++vs).toArray++Builtin.zeroCells z.cells (grownCap w (n'+j) c el - (n'+j))) el)).heap[w.drew.heap.size]?=φ (.cells ((us++vs).toArray++Builtin.zeroCells z.cells (grownCap w (n'+j) c el - (n'+j))) el):=by
  rw[fZ,if_pos rfl]
 show World.shape? _ w.drew.heap.size=_;simp only[World.shape?,this,mH]
structure Row(O:VH)(el:TypeId)(sz B k c:Nat)(L:Η):Prop where
 cells:∃sp,O.hp k=φ (.cells (L++sp))/\(L++sp).length=c*sz
 n4:∃j,B<=j/\j<O.N/\O.hp j=φ (.shape k el (c*sz))
 lo:B<=k
 hi:k<O.N
structure aL(O:VH)(q:ϑ)(O':VH):Prop where
 N:O.N<=O'.N
 hp:∀i,i<O.N->q≠φ i->O'.hp i=O.hp i
def gid:MV->Option Nat
 | .bk k _ _ _=>φ k
 | .p k _=>φ k
 | _=>Β
def GR(O:VH)(el:TypeId)(sz B:Nat)(p:MV)(n:Nat)(L:Η):Prop:=
 (n=0/\L=[]/\(p= .l 0 [] .nil\/p= .l 0 [] .full))\/∃k c,p= .bk k 0 n c/\n<=c/\(Ζ L)=n*sz/\Row O el sz B k c L
section
variable{el:TypeId}{sz B B' k c q:Nat}{L:Η}{O1:VH}{x:bO}
def aL.refl(O:VH)(q:ϑ):aL O q O:=⟨apI _,λ_ _ _=>rfl⟩
def aL.ge(h:O.Ge O1)(u:aL O1 (φ q) O')(hq:O.N<=q:=by omega):O.Ge O':=⟨auh h.N u.N,λi hi=>(u.hp i (aja hi h.N) z14).trans (h.hp i hi)⟩
def aL.geN(h:O.Ge O1)(u:aL O1 Β O'):O.Ge O':=⟨auh h.N u.N,λi hi=>(u.hp i (aja hi h.N) z10).trans (h.hp i hi)⟩
def aL.dG(h:O.Ge O'):aL O Β O':=⟨h.N,λi hi _=>h.hp i hi⟩
def aL.trans{o:ϑ}(h:aL O o O1)(h2:aL O1 o O'):aL O o O':=⟨auh h.N h2.N,λi hi hq=>(h2.hp i (aja hi h.N) hq).trans (h.hp i hi hq)⟩
def aL.any{o:ϑ}(h:aL O Β O'):aL O o O':=⟨h.N,λi hi _=>h.hp i hi z10⟩
def aL.new(h:aL O Β O1)(h2:aL O1 (φ q) O')(hq:O.N<=q):aL O Β O':=⟨auh h.N h2.N,λi hi _=>(h2.hp i (aja hi h.N) z14).trans (h.hp i hi z10)⟩
def aL.set:aL O (φ q) (O.set q x):=⟨apI _,λi _ h=>τ _ _ (λe=>h (by rw[e]))⟩
def aL.push:aL O Β (O.push x):=⟨Nat.le_succ _,λi hi _=>VH.gY _ _ hi⟩
def aL.kill:aL O (φ q) (O.kill q):=⟨apI _,λi _ h=>VH.lF _ (λe=>h (by rw[e]))⟩
def Row.fc(h:Row O el sz B k c L)(u:aL O (φ q) O')(hq:q≠k)(hs:∀t n,O.hp q≠φ (.shape k t n)):Row O' el sz B k c L:=by
 obtain⟨sp,h1,h2⟩:=h.cells;obtain⟨j,h3,h4,h5⟩:=h.n4;refine⟨⟨sp,(u.hp k h.hi (by simpa using hq)).trans h1,h2⟩,⟨j,h3,aja h4 u.N,(u.hp j h4 ?_).trans h5⟩,h.lo,aja h.hi u.N⟩;intro e;injection e with e;subst e;exact hs _ _ h5
def Row.r7(h:Row O el sz B k c L)(u:aL O Β O'):Row O' el sz B k c L:=by
 obtain⟨sp,h1,h2⟩:=h.cells;obtain⟨j,h3,h4,h5⟩:=h.n4;exact⟨⟨sp,(u.hp k h.hi z10).trans h1,h2⟩,⟨j,h3,aja h4 u.N,(u.hp j h4 z10).trans h5⟩,h.lo,aja h.hi u.N⟩
def GR.r7{p:MV}{n:Nat}(h:GR O el sz B p n L)(u:aL O Β O'):GR O' el sz B p n L:=by
 rcases h with h | ⟨k,c,h1,h2,h3,h4⟩;exact .inl h;exact .inr ⟨k,c,h1,h2,h3,h4.r7 u⟩
def GR.fc{p:MV}{n:Nat}(h:GR O el sz B p n L)(u:aL O (φ q) O')(hq:gid p≠φ q)(hs:∀k t n,O.hp q≠φ (.shape k t n)):GR O' el sz B p n L:=by
 rcases h with h | ⟨k,c,h1,h2,h3,h4⟩;exact .inl h;exact .inr ⟨k,c,h1,h2,h3,h4.fc u (λe=>hq (by rw[h1,e];rfl)) (hs k)⟩
def Row.aao{L':Η}(h:Row O el sz B k c L)(hl:(L'++sp).length=c*sz):Row (O.set k (.cells (L'++sp))) el sz B k c L':=by
 obtain⟨j,h3,h4,h5⟩:=h.n4;refine⟨⟨sp,υ _ _ _,hl⟩,⟨j,h3,h4,?_⟩,h.lo,h.hi⟩;rw[τ _ _ (λe=>?_)];exact h5;subst e;obtain⟨sp,h1,_⟩:=h.cells;rw[h1]at h5;cases h5
def Row.wider(h:Row O el sz B k c L)(hB:B'<=B):Row O el sz B' k c L:=by
 obtain⟨j,h3,h4,h5⟩:=h.n4;exact⟨h.cells,⟨j,auh hB h3,h4,h5⟩,auh hB h.lo,h.hi⟩
def Row.BD{cs:Η}{t:TypeId}(hl:(L++sp).length=c*sz)(hB:B<=O.N):Row (O.BD (L++sp) el (c*sz)) el sz B O.N c L:=
 ⟨⟨sp,(VH.gY _ _ (by show O.N<O.N+1;omega)).trans (ζ _ _),hl⟩,⟨O.N+1,Λ,by show O.N+1<O.N+1+1;omega,ζ _ _⟩,hB,by show O.N<O.N+1+1;omega⟩
def om(L ds sp:Η):db (L++sp) (Ζ L) ds=L++ds.take (Ζ sp)++sp.drop (Ζ ds):=by
 induction ds generalizing L sp with
 | nil=>simp[db]
 | cons d ds ih=>
   cases sp with
   | nil=>
     simp only[List.append_nil,asl,auD,List.drop_nil,db]
     have:∀(ds:Η)(o:Nat),Ζ L<=o->db L o ds=L:=by
      intro ds;induction ds with
      | nil=>intro o _;rfl
      | cons x xs ih=>intro o ho;rw[db,aut ho];exact ih (o+1) Λ
     rw[aut (apI _)];exact this ds _ Λ
   | cons s sp=>
     have:=ih (L++[d]) sp;simp only[db];rw[List.set_append_right _ _ (apI _),Nat.sub_self,ats];simp only[aui,List.singleton_append,abT,aul,asl]at this;rw[this];simp
end
def VL.grow(ht:aN P tab){el:TypeId}{L ds:Η}{p:MV}{dx:TypeDesc}{t tx ty:TypeId}(hmd:md= .plain\/md= .any)
  (hr:GR O el te.size B p n' L) (hs:sW O te.size q=φ (j,ds)) (fX:ds.all dF=Α) (hu:(tab t).map cg.under=φ (.slice el)) (he:tab el=φ te) (rz:(tab tx).map cg.under=φ dx) (Eh:AR q dx) (hb:(n'+j)*te.bytes<=140737488355328) (hm:n'+j<=maxLen) (hB:B<=O.N)
  (hx:ev e x=φ p) (hy:ev e y=φ q) (hg:aK ops (.mk d (.call {callee:=.builtin .append,args:= #[x,y],argTypes:= #[t,tx]}) ty ps af g) e=φ Α) (hd:bj n d=Α)
  (h:∀m O',GR O' el te.size B m (n'+j) (L++ds)->aL O (gid p) O'->(gid p=Β->O.Ge O')->((∃k c,m= .bk k 0 (n'+j) c/\(gid p=φ k\/(O.N<=k/\j≠0)))\/(j=0/\m=p/\O'=O))->WL P tab n D md ops Q LL (aU d m e) O'):
  VL P n D md ops ((.one,.mk d (.call {callee:=.builtin .append,args:= #[x,y],argTypes:= #[t,tx]}) ty ps af g)::LL) e O Q:=by
 refine auV (M:=λm O'=>GR O' el te.size B m (n'+j) (L++ds)/\aL O (gid p) O'/\(gid p=Β->O.Ge O')/\((∃k c,m= .bk k 0 (n'+j) c/\(gid p=φ k\/(O.N<=k/\j≠0)))\/(j=0/\m=p/\O'=O))) (λG a w hw hf=>?_) (hmd:=hmd) (hg:=hg) (hd:=hd) λm O' ⟨h1,h2,h3,h4⟩=>WL.sound ht (h m O' h1 h2 h3 h4)
 have lH:=hf.ev hx;have xd:=hf.ev hy;have gk:=bm ht rz
 have fin:∀{m O' u w' H},(GR O' el te.size B m (n'+j) (L++ds)/\aL O (gid p) O'/\(gid p=Β->O.Ge O')/\((∃k c,m= .bk k 0 (n'+j) c/\(gid p=φ k\/(O.N<=k/\j≠0)))\/(j=0/\m=p/\O'=O)))->(Builtin.append_ #[t,tx] ty #[a.eval x,a.eval y]).run P w= .ok u w'->Gh.Le G H->WR H O' w'->VR H m u->
   ∃m O' u w' H,(GR O' el te.size B m (n'+j) (L++ds)/\aL O (gid p) O'/\(gid p=Β->O.Ge O')/\((∃k c,m= .bk k 0 (n'+j) c/\(gid p=φ k\/(O.N<=k/\j≠0)))\/(j=0/\m=p/\O'=O)))/\(execOp a.eval (.mk d (.call {callee:=.builtin .append,args:= #[x,y],argTypes:= #[t,tx]}) ty ps af g)).run P w= .ok (.value u) w'/\Gh.Le G H/\WR H O' w'/\VR H m u:=λhM cD h1 h2 h3=>
  ⟨_,_,_,_,_,hM,by simp only[execOp,resolve,invoke,builtin,List.map_toArray,ai8,aug,Sem.run_bind,Sem.run_pure,Result.andThen_ok]<;>simp[cD],h1,h2,h3⟩
 obtain⟨vs,oh,hv⟩:=CK (P:=P) hw hs xd gk Eh fX;have rZ:Ζ ds=j*te.size:=by rw[<-hv.1];exact oh.newsLen
 rcases hr with⟨rfl,rfl,hp⟩ | ⟨k,c,rfl,xf,nR,ca⟩
 ·have hA:∃A,a.eval x= .slice A 0 0/\(∀w',(Builtin.firstCells te.size 0 (.slice A 0 0)).run P w'= .ok #[] w'):=by
   generalize a.eval x=u at lH
   have key:∀A:Option Addr,∀w',(Builtin.firstCells te.size 0 (.slice A 0 0)).run P w'= .ok #[] w':=λA w'=>by
    cases A<;>simp[Builtin.firstCells,loadCells,loadCellsFrom]
   rcases hp with rfl | rfl
   ·cases lH with
    | slnil=>exact⟨_,rfl,key _⟩
    | l h1 h2 h3 h4 h5 h6=>exact h6.elim
   ·cases lH with
    | l h1 h2 h3 h4 h5 h6=>
      have h6:_=0:=h6;subst h6;exact⟨_,rfl,key _⟩
  obtain⟨A,hA,hfc⟩:=hA;(((have ae9:gid p=Β:=by rcases hp with rfl | rfl<;>rfl);by_cases hj:j=0);subst hj;have vK:ds=[]:=aev (by simpa using rZ);subst vK;refine fin (m:=p) (O':=O) (u:=a.eval x) (w':=w) (H:=G) ⟨.inl ⟨rfl,rfl,hp⟩,aL.refl _ _,λ_=>VH.Ge.refl _,.inr ⟨rfl,rfl,rfl⟩⟩ ?_ (Gh.Le.refl G) hw lH;(have kO:vs=[]:=by have:=hv.1;simpa using this);subst kO;rw[hA];have fB:=bm ht hu;obtain⟨ti,z,i1,i2,_⟩:=(ht _ te he).info;rcases oh.kind with⟨e',hk⟩ | hk<;>cases A<;>simp[Builtin.append_,run_underlying fB,run_underlying hk,f_ (ht _ te he),oh.len,oh.cells,storeCells]);rw[hA]at fin;obtain⟨c',w',H,zs,g1,g2,g3,g4,g5,g6,g7⟩:=CL (P:=P) ht hw (n':=0) (c:=0) (A:=A) (L:=[]) (us:=[]) (ty:=ty) hu he gk hs Eh fX aX.nil z10 (hfc _) Λ hb hm xd;refine fin ⟨.inr ⟨O.N,c',rfl,g1,by rw[abT,rZ];simp,?_⟩,?_,λ_=>?_,.inl ⟨_,_,rfl,.inr ⟨apI _,hj⟩⟩⟩ g4 g5 g6 g7;refine Row.BD (cs:=[]) (t:=el) ?_ hB;rw[abT,g3,abT,rZ,asl,apJ, <-aur];((congr 1;omega);rw[ae9];exact aL.push.trans aL.push);exact((VH.Ge.refl O).push _).push _
 ·obtain⟨sp,ju,lU⟩:=ca.cells;generalize oo:a.eval x=u at lH;have ae_:=lH;cases ae_ with
  | bk hp hn An=>
    rename_i b;rw[oo]at fin;have hmul:(n'+j)*te.size=n'*te.size+j*te.size:=aur _ _ _;by_cases oe:n'+j<=c
    ·have hle:(n'+j)*te.size<=c*te.size:=Nat.mul_le_mul_right _ oe;obtain⟨w',A,g1,g2,g3⟩:=Iq (P:=P) (ty:=ty) ht hw hu he gk ju hs Eh fX oe (by rw[lU,rZ];omega) lH xd;rw[apJ, <-nR,om]at g2
     have Mu:Ζ ds<=Ζ sp:=by
      rw[abT]at lU;omega
     rw[an7 Mu]at g2;refine fin ⟨.inr ⟨k,c,rfl,oe,by rw[abT,nR,rZ,hmul],ca.aao ?_⟩,aL.set,(λh=>by cases h),.inl ⟨_,_,rfl,.inl rfl⟩⟩ g1 (Gh.Le.refl G) g2 g3;rw[abT,abT,List.length_drop];rw[abT]at lU;omega
    ·obtain⟨b',C,T,d1,d2,d3⟩:=hw.cells k _ ju;rw[hp]at d1;injection d1 with d1;subst d1;have hL:=d3.take (Ζ L);rw[List.take_left,List.take_take,Nat.min_eq_left (by rw[abT];omega)]at hL
     have hold:(Builtin.firstCells te.size n' (.slice (φ ⟨b,0,Β⟩) n' c)).run P w.drew= .ok (C.toList.take (Ζ L)).toArray w.drew:=by
      refine run_firstCells_some (P:=P) w.drew te.size n' ⟨b,0,Β⟩ n' c _ (by rw[hL.1,nR]) λi u hu=>?_
      rw[Addr.add_lit,apJ];rw[ai_]at hu;split at hu;have nS:w.drew.heap[b]?=φ (.cells C T.t T.fr):=d2;simp only[World.cell?,nS,an3,an4,if_false];simpa using hu;cases hu
     obtain⟨c',w',H,zs,g1,g2,g3,g4,g5,g6,g7⟩:=CL (P:=P) (ty:=ty) ht hw (n':=n') (c:=c) (A:=φ ⟨b,0,Β⟩) (L:=L) hu he gk hs Eh fX hL nR hold Λ hb hm xd;refine fin ⟨.inr ⟨O.N,c',rfl,g1,by rw[abT,nR,rZ,hmul],?_⟩,(aL.push.trans aL.push).any,(λh=>by cases h),.inl ⟨_,_,rfl,.inr ⟨apI _,Λ⟩⟩⟩ g4 g5 g6 g7;refine Row.BD (cs:=[]) (t:=el) ?_ hB;rw[abT,g3,abT,nR,rZ, <-hmul, <-aur];congr 1;omega
def VL.room(ht:aN P tab){el:TypeId}{o c:Nat}{ds:Η}{dx:TypeDesc}{t tx ty:TypeId}(hmd:md= .plain\/md= .any)
  (hk:O.hp k=φ (.cells cs)) (hs:sW O te.size q=φ (j,ds)) (fX:ds.all dF=Α) (hu:(tab t).map cg.under=φ (.slice el)) (he:tab el=φ te) (rz:(tab tx).map cg.under=φ dx) (Eh:AR q dx) (oe:n'+j<=c) (hle:o+n'*te.size+Ζ ds<=Ζ cs)
  (hx:ev e x=φ (.bk k o n' c)) (hy:ev e y=φ q) (hg:aK ops (.mk d (.call {callee:=.builtin .append,args:= #[x,y],argTypes:= #[t,tx]}) ty ps af g) e=φ Α) (hd:bj n d=Α)
  (h:WL P tab n D md ops Q LL (aU d (.bk k o (n'+j) c) e) (O.set k (.cells (db cs (o+n'*te.size) ds)))):
  VL P n D md ops ((.one,.mk d (.call {callee:=.builtin .append,args:= #[x,y],argTypes:= #[t,tx]}) ty ps af g)::LL) e O Q:=by
 refine auV (M:=λm O'=>m= .bk k o (n'+j) c/\O'=O.set k (.cells (db cs (o+n'*te.size) ds))) (λG a w hw hf=>?_) z16 (hmd:=hmd) (hg:=hg) (hd:=hd);have lH:=hf.ev hx;have xd:=hf.ev hy;generalize oo:a.eval x=u at lH;obtain⟨w',A,g1,g2,g3⟩:=Iq (P:=P) (ty:=ty) ht hw hu he (bm ht rz) hk hs Eh fX oe hle lH xd;exact⟨_,_,_,w',G,⟨rfl,rfl⟩,by simp only[execOp,resolve,invoke,builtin,List.map_toArray,ai8,aug,Sem.run_bind,Sem.run_pure,Result.andThen_ok]<;>simp[oo,g1],Gh.Le.refl G,g2,g3⟩
end
section
variable{G H:Gh}{n:Sz}{D:List Deferred}{e:Env}{a:Act}{P:Program}{tab:cB}{O O':VH}{w:World}{m m':MV}{u v:Value}{ops:Array Oper}{Q:VQ}{md:Md}
def d_(P:Program)(n:Sz)(D:List Deferred)(o:Oper)(e:Env)(m:MV):Prop:=∀G a,FR G n D e a->dL P o a G m
def aQ.pure(ho:ops[i]?=φ o)(hg:aK ops o e=φ Α)(hd:bj n o.dst=Α)(hy:d_ P n D o e m)(h:K (aU o.dst m e) O):aQ P n D ops i e O Q K:=by
 refine aQ.qJ (M:=λm' O'=>m'=m/\O'=O) ho hg hd (λG a w hw hf=>?_) (by rintro m' O' ⟨rfl,rfl⟩;exact h);obtain⟨u,hu,hr⟩:=hy G a hf;exact⟨m,O,u,w,G,⟨rfl,rfl⟩,hr w hw.ss,Gh.Le.refl G,hw,hu⟩
def VL.pure{f:Fl}(RY:f≠ .fk)(hh:f= .one->fu md=Α\/md= .any)(hg:aK ops o e=φ Α)(hd:bj n o.dst=Α)(hy:d_ P n D o e m)(h:VL P n D md ops L (aU o.dst m e) O Q):VL P n D md ops ((f,o)::L) e O Q:=by
 intro fuel listed ix hf hp
 match ix,hf with
 | (i,g)::ix,hf=>
   obtain⟨rfl,ho,hf⟩:=hf;cases md with
   | plain=>exact jC.one (aQ.pure ho hg hd hy (h 0 #[] ix hf (λh=>absurd rfl h)))
   | any=>
     obtain⟨h1,h2⟩:=hp z10;cases fuel with
     | zero=>cases h2
     | succ fuel=>
       simp only[cP,TR]at h2;have hk:=h fuel (listed.setIfInBounds i Α) ix hf (λ_=>⟨h1,h2.2⟩);cases g with
       | one=>
         have hr:Region.ready .any ops listed=[i]:=by simpa using h2.1
         exact cf.all hr z10 λj hj=>by
          obtain rfl:j=i:=by simpa using hj
          exact aQ.pure ho hg hd hy hk
       | au=>
         simp only[TR]at h2;intro G a w hw aY;obtain⟨u,hu,hr⟩:=hy G a aY;exact wpAnyH_take ho h1 h2.1.1 h2.1.2 (iE hd) (.inl ⟨bz aY hg,hr⟩) hw.ss (hk G _ w hw (aY.aU hd hu))
       | rd=>exact absurd h2.1 z10
       | fk=>exact absurd rfl RY
   | reads=>
     obtain⟨h1,h2⟩:=hp z10;cases fuel with
     | zero=>cases h2
     | succ fuel=>
       simp only[cP,TR]at h2;have hk:=h fuel (listed.setIfInBounds i Α) ix hf (λ_=>⟨h1,h2.2⟩);intro G a w hw aY;obtain⟨u,hu,cD⟩:=hy G a aY;(have h3:Region.free .any ops listed i=Α/\(Region.ready .any ops listed).contains i=Α:=by cases g<;>simp_all);exact wpAnyH_take ho h1 h3.1 h3.2 (iE hd) (.inl ⟨bz aY hg,λw' D5=>by rw[D5];exact cD w hw.ss⟩) rfl (hk G _ w hw (aY.aU hd hu))
   | held brk=>
     obtain⟨h1,h2⟩:=hp z10;cases fuel with
     | zero=>cases h2
     | succ fuel=>
       simp only[cP,TR]at h2;have hk:=h fuel (listed.setIfInBounds i Α) ix hf (λ_=>⟨h1,h2.2⟩)
       have hyy:∀G a w,WR G O w->FR G n D e a->∃u,VR G m u/\YieldsIf P ops (Sx G w) o u a:=λG a w hw aY=>by
        obtain⟨u,hu,cD⟩:=hy G a aY;exact⟨u,hu,.inl ⟨bz aY hg,λx hx=>cD x hx.1⟩⟩
       cases g with
       | one=>rcases hh rfl with h3 | h3<;>cases h3
       | fk=>exact absurd rfl RY
       | au=>
         simp only[TR]at h2;exact bR.take ho h1 h2.1.1.1 h2.1.1.2 h2.1.2 hd hyy hk
       | rd=>
         simp only[TR]at h2;exact bR.take ho h1 h2.1.1.1 h2.1.1.2 h2.1.2 hd hyy hk
def Ir(P:Program)(tab:cB):Nat->TypeId->MV->MV->Option Bool
 | 0,_,_,_=>Β
 | d+1,t,x,y=>match(tab t).map cg.under,x,y with
   | some .bool,.v (.bool a),.v (.bool b)=>φ (a==b)
   | some (.int _),.v (.int k a),.v (.int k' b)=>if k=k' then φ (a==b)else Β
   | some .string,.s a,.s b=>φ (a==b)
   | some (.struct fs),.agg xs,.agg ys=>if P.stoodInHeld t then Β else fs.toList.foldr (λf acc=>
     if f.name≠ "_" then match D8 tab f.type xs f.offset,D8 tab f.type ys f.offset with
      | some p,φ q=>match Ir P tab d f.type p q,acc with
        | some b,φ c=>φ (b&&c)
        | _,_=>Β
      | _,_=>Β
     else acc) (φ Α)
   | _,_,_=>Β
def Is(ht:aN P tab):∀(d:Nat) {t:TypeId} {x y:MV} {u v:Value} {b:Bool},Ir P tab d t x y=φ b->VR G x u->VR G y v->∀(k:Nat)(w:World),(Op.equalIn (d+k) t u v).run P w= .ok b w
 | 0,_,_,_,_,_,_,h,_,_,_,_=>by cases h
 | d+1,t,x,y,u,v,b,h,hx,hy,k,w=>by
   rw[show d+1+k=d+k+1 from by omega];simp only[Ir]at h;split at h;rename_i hu;injection h with h;subst h;cases hx;cases hy;exact run_equalIn_bool w _ _ _ _ (bm ht hu);rename_i k0 k1 a k2 c hu;split at h;subst k1;injection h with h;subst h;cases hx;cases hy;exact run_equalIn_int w _ _ _ _ _ _ (bm ht hu);cases h;rename_i l r hu;injection h with h;subst h;cases hx;rename_i e1;cases hy;rw[run_equalIn_string w _ _ _ _ (bm ht hu),toList_mk,toList_mk]
   ·rename_i fs xs ys hu;split at h;cases h
    ·rename_i eD;cases hx with
     | agg a1 a2=>
       cases hy with
       | agg b1 b2=>
         rename_i us vs;have fB:=bm ht hu;have hfo:P.fieldsOf t=fs:=by simp only[Program.fieldsOf,fB]
         rw[run_equalIn_struct w _ _ _ _ (by rw[hfo];exact fB) (by simpa using eD),hfo];have hxs:aX G xs us:=⟨a1,a2⟩;have hys:aX G ys vs:=⟨b1,b2⟩;generalize fs.toList=l at h;clear hu fB hfo;induction l generalizing b with
         | nil=>
           simp only[List.foldr_nil,Option.some.injEq]at h;subst h;rfl
         | cons f l ih=>
           simp only[List.foldr_cons]at h;simp only[Op.eqFields];split at h;rename_i hn;rw[if_pos hn];split at h;rename_i p q hp hq;split at h;rename_i b1 c1 cS gN;injection h with h;subst h;obtain⟨r1,g1,g2⟩:=zC (P:=P) ht hp hxs;obtain⟨r2,g3,g4⟩:=zC (P:=P) ht hq hys;have hr:=Is ht d cS g2 g4 k w;simp only[Sem.run_bind,g1 w,g3 w,hr,Result.andThen_ok];cases b1;simp;simpa using ih _ gN;cases h;cases h;rename_i hn;rw[if_neg hn];exact ih _ h
   ·cases h
def VL.ud(ht:aN P tab){f:Fl}{op:BinOp}{t t' ty:TypeId}{xs ys:Η}{b:Bool}(RY:f≠ .fk)(hh:f= .one->fu md=Α\/md= .any)
  (xL:(op= .eql/\bb=b)\/(op= .neq/\bb= !b)) (hq:Ir P tab 9 t (.agg xs) (.agg ys)=φ b) (It:P.eqGuardType P.depth t=γ) (hx:ev e x=φ (.agg xs)) (hy:ev e y=φ (.agg ys)) (hg:aK ops (.mk d (.binOp op t x y t') ty ps af g) e=φ Α) (hd:bj n d=Α)
  (h:WL P tab n D md ops Q L (aU d (.v (.bool bb)) e) O):VL P n D md ops ((f,.mk d (.binOp op t x y t') ty ps af g)::L) e O Q:=by
 refine VL.pure RY hh hg hd (λG a hf=>?_) (WL.sound ht h);have h1:=hf.ev hx;have h2:=hf.ev hy;have hr:=λw=>Is (P:=P) ht 9 hq h1 h2 9991 w
 generalize hu:a.eval x=u at h1 hr;generalize hv:a.eval y=v at h2 hr;cases h1 with
 | agg a1 a2=>
   cases h2 with
   | agg b1 b2=>
     rename_i us vs;refine dL.of (s:=do eqGuard op t x y (.agg us.toArray) (.agg vs.toArray);binOp op t (.agg us.toArray) (.agg vs.toArray)) (a_.of (u:=.bool bb) (λw _=>?_) (.v rfl)) (by simp[execOp,hu,hv]);rw[Sem.run_bind,run_eqGuard_agg w op t x y _ _ It,Result.andThen_ok];rcases xL with⟨rfl,rfl⟩ | ⟨rfl,rfl⟩;rw[run_eql_struct,hr w];rfl;rw[run_neq_struct,hr w];rfl
def VL.clear(ht:aN P tab){t ty el:TypeId}{o c:Nat}(hmd:md= .plain\/md= .any)
  (hu:(tab t).map cg.under=φ (.slice el)) (he:tab el=φ te) (hz:te.zero.all dF=Α) (Wz:0<Ζ te.zero) (hk:O.hp k=φ (.cells cs)) (hle:o+n'*te.size<=Ζ cs) (hx:ev e x=φ (.bk k o n' c))
  (hg:aK ops (.mk d (.call {callee:=.builtin .clear,args:= #[x],argTypes:= #[t]}) ty ps af g) e=φ Α) (hd:bj n d=Α)
  (h:WL P tab n D md ops Q L (aU d (.tuple []) e) (O.set k (.cells (db cs o (fC te.zero (n'*te.size)))))):VL P n D md ops ((.one,.mk d (.call {callee:=.builtin .clear,args:= #[x],argTypes:= #[t]}) ty ps af g)::L) e O Q:=by
 refine auV (M:=λm O'=>m= .tuple []/\O'=O.set k (.cells (db cs o (fC te.zero (n'*te.size))))) (λG a w hw hf=>?_) z16 (hmd:=hmd) (hg:=hg) (hd:=hd);have lH:=hf.ev hx;generalize oo:a.eval x=u at lH;cases lH with
 | bk hp hn hm=>
   rename_i b;obtain⟨ti,z,i1,i2,i3,i4,i5,i6⟩:=(ht _ te he).info
   have fX:(fC te.zero (n'*te.size)).all dF=Α:=by
    rw[apH]at hz ⊢;intro m hm;simp only[fC,List.mem_map,auo]at hm;obtain⟨i,_,rfl⟩:=hm;refine hz _ ?_;rw[List.getD_eq_getElem?_getD,Ro (Nat.mod_lt _ Wz)];exact apE _
   have hzc:aX G (fC te.zero (n'*te.size)) (Builtin.zeroCells z.cells n').toList:=by
    have hzz:=vC (i6 G) Wz (n'*te.size);rw[<-i5]at hzz ⊢;exact hzz
   obtain⟨w',hr,D5⟩:=vA (P:=P) hp o (fC te.zero (n'*te.size)) _ 0 cs O w hw hk hzc fX (by simp[fC];omega)
   have cD:(Builtin.clear_ #[t] ty #[.slice (φ ⟨b,o,Β⟩) n' c]).run P w= .ok (.tuple #[]) w':=by
    have fB:=bm ht hu;rcases auq n' with h0 | h0
    ·subst h0
     have:w'=w:=by
      simp[Builtin.zeroCells,storeCells]at hr;exact hr.symm
     subst this;simp[Builtin.clear_,run_underlying fB]
    ·obtain⟨n1,rfl⟩:∃n1,n'=n1+1:=⟨n' - 1,Λ⟩
     simp[Builtin.clear_,run_underlying fB,zeroValue,typeInfo,i1,i4,hr]
   refine⟨_,_,.tuple #[],w',G,⟨rfl,rfl⟩,by simp[execOp,resolve,invoke,builtin,oo,cD],Gh.Le.refl G,by simpa using D5,VR.tuple (us:=[]) rfl (λi c u h=>by simp at h)⟩
def WR.acm(h:WR G O w){C:Array Value}{t:TypeId}{fr fr':Nat×Nat}{w':World}(hb:w.heap[b]?=φ (.cells C t fr))(hB:G.B<=b)(rU:w'.heap[b]?=φ (.cells C t fr'))(ho:∀j,j≠b->w'.heap[j]?=w.heap[j]?)(hs:w'.heap.size=w.heap.size)
  (hos:w'.os=w.os) (aoe:w'.tape=w.tape) (apU:w'.output=w.output) (fK:∀j,O.hp j≠Β->G.cJ j≠φ b) (xC:∀t c x,O.hp t=φ .tok->G.tok t=φ (c,x)->c≠b):WR G O w':=by
 have gK:∀p,w'.cell? p=w.cell? p:=λp=>by
  by_cases e:p.block=b;simp only[World.cell?,e,hb,rU];simp only[World.cell?,ho _ e]
 refine⟨⟨hos.trans h.base.os,aoe.trans h.base.tape,apU.trans h.base.output,by rw[hs];exact h.base.size,λj hj=>by rw[ho j (by have:j<G.B:=hj;omega)];exact h.base.block j hj⟩,λb' o u hc=>by rw[gK];exact h.fm b' o u hc,h.sJ,λk c hk=>?_,h.inj,λk cs hk=>?_,λk es ck hk=>?_,λt ht=>?_,h.mX,
  h.qF id (λ_ _ _ _ h=>h) λk b' s _ Pr=>?_,h.tY id (λ_ _ h=>h) λk x b' hk hb hx=>by rw[ho b' (λe=>fK k z22 (e▸hb))];exact hx,h.tX,h.HD⟩
 ·obtain⟨h1,h2,h3⟩:=h.lx k c hk;exact⟨h1,by rw[hs];exact h2,h3⟩
 ·obtain⟨c,D,T',h1,h2,h3⟩:=h.cells k cs hk;exact⟨c,D,T',h1,by rw[ho c (λe=>fK k z22 (e▸h1))];exact h2,h3⟩
 ·obtain⟨c,E,h1,h2,h3⟩:=h.map k es ck hk;exact⟨c,E,h1,by rw[ho c (λe=>fK k z22 (e▸h1))];exact h2,h3⟩
 ·obtain⟨c,f,k,r,D,T',h1,h2,h3,h4⟩:=h.tok t ht;exact⟨c,f,k,r,D,T',h1,h2,by rw[ho c (xC t c _ ht h1)];exact h3,h4⟩
 ·by_cases e:b'=b;subst e;simp only[World.shape?,hb]at Pr;simp only[World.shape?,rU];exact Pr;exact je (λx hx=>by rw[ho _ e];exact hx) Pr
def afa:Op->Bool
 | .call c=>match c.callee with
   | .builtin .unsafeString=>Α
   | _=>γ
 | _=>γ
def zN(md:Md)(ops:Array Oper):Bool:=match md with
 | .held brk=> !brk.isEmpty&&(Ν ops.size).all λi=> !((ops[i]?).map λo=>afa o.op).getD γ||brk.contains i
 | _=>Α
def zO(h:zN md ops=Α):∀brk,md= .held brk->brk≠[]:=by
 rintro brk rfl rfl;simp[zN]at h
def Mv(h:zN md ops=Α)(ho:afa o.op=Α):∀brk,md= .held brk->∀i,ops[i]?=φ o->brk.contains i=Α:=by
 rintro brk rfl i hi;simp only[zN,TR]at h
 have:=apH.1 h.2 i (auo.2 (by
  rcases auv i ops.size with h' | h';exact h';rw[auj h']at hi;cases hi))
 simpa[hi,ho]using this
def VL.apV(ht:aN P tab){pt it ty el:TypeId}{c:Nat}{l:Ρ} 
  (bH:zN md ops=Α)
  (hp:(tab pt).map cg.under=φ (.pointer el)) (hce:P.cellsOf el=1) (ca:Row O el 1 B k c (l.map ef)) (Gz:l≠[]) (hl:Ζ l<=maxLen)
  (hx:ev e x=φ (.p k 0)) (hy:ev e y=φ (.v (Ι Κ (Ζ l)))) (hg:aK ops (.mk d (.call {callee:=.builtin .unsafeString,args:= #[x,y],argTypes:= #[pt,it]}) ty ps af g) e=φ Α) (hd:bj n d=Α)
  (h:WL P tab n D md ops Q L (aU d (.s l) e) (O.kill k)):VL P n D md ops ((.one,.mk d (.call {callee:=.builtin .unsafeString,args:= #[x,y],argTypes:= #[pt,it]}) ty ps af g)::L) e O Q:=by
 refine VL.qJ (M:=λm O'=>m= .s l/\O'=O.kill k) hg hd (λ_=>zO bH) (λbrk hb=>.inr (zO bH brk hb)) (λG a w hw hf=>?_) (Mv bH rfl) z16;have lH:=hf.ev hx;have xd:=hf.ev hy;generalize oo:a.eval x=u at lH;generalize BE:a.eval y=v at xd;have xd:=xd.jq;subst xd;cases lH with
 | p hph=>
   rename_i b;obtain⟨sp,gN,fz⟩:=ca.cells;obtain⟨b',C,T,d1,d2,d3⟩:=hw.cells k _ gN;rw[hph]at d1;injection d1 with d1;subst d1;obtain⟨j,_,_,hj⟩:=ca.n4;obtain⟨b2,s1,s2⟩:=hw.n4 j k _ _ hj;rw[hph]at s1;injection s1 with s1;subst s1;have hL:=d3.take (Ζ l);(have e1:(l.map ef++sp).take (Ζ l)=l.map ef:=by rw[List.take_append_of_le_length z10,an7 z10]);rw[e1,List.take_take,Nat.min_eq_left z10]at hL;have hL2:=Io hL
   have gK:∀j x,l[j]?=φ x->w.cell? ((⟨b,0,Β⟩:Addr).add j)=φ (.int .u8 x.toNat):=λi x hx=>by
    rw[Addr.add_lit,apJ];simp only[World.cell?,d2,an3,an4,if_false];(((have:(C.toList.take (Ζ l))[i]?=φ (Value.int .u8 x.toNat):=by rw[hL2,an6,hx];rfl);rw[ai_]at this;split at this);simpa using this);cases this
   have cD:=Lib.run_unsafeString_row (P:=P) w pt it ty el (bm ht hp) hce b _ s2 l Gz (by rw[abT,asc]at fz;omega) hl gK;have xh:(Ζ l)≠0:=by simpa using Gz
   have hfz:(w.freeze ⟨b,0,Β⟩ (Ζ l)).heap[b]?=φ (.cells C T.t (if T.fr.1==T.fr.2 then(0,0+Ζ l)else(min T.fr.1 0,max T.fr.2 (0+Ζ l)))):=by
    simp[World.freeze,xh,auk,d2]
   have apW:∀j,j≠b->(w.freeze ⟨b,0,Β⟩ (Ζ l)).heap[j]?=w.heap[j]?:=λj hj=>by
    simp[World.freeze,xh,auk,Ne.symm hj]
   refine⟨.s l,O.kill k,.string ⟨⟨l⟩⟩,w.freeze ⟨b,0,Β⟩ (Ζ l),G,⟨rfl,rfl⟩,?_,Gh.Le.refl G,?_,.s⟩;rotate_left
   ·refine(hw.kill k).acm d2 (hw.lx k b hph).1 hfz apW (by simp[World.freeze,xh]) (by simp[World.freeze,xh]) (by simp[World.freeze,xh]) (by simp[World.freeze,xh]) (λj hj hjb=>?_) λt c x fP WH e=>?_
    ·by_cases e:j=k;subst e;exact hj (aR _ _ _)
     ·have Sf:O.hp j≠Β:=by rwa [show(O.kill k).hp j=O.hp j from az _ _ e]at hj
      exact e (hw.inj j k b Sf (by rw[gN];simp) hjb hph)
    ·subst e;((have e:t≠k:=λe=>by subst e;rw[show(O.kill t).hp t=Β from aR _ _ _]at fP;cases fP);rw[show(O.kill k).hp t=O.hp t from az _ _ e]at fP;obtain⟨_,_,_,_,_,_,q1,_,_,_,_,q7⟩:=hw.tok t fP;rw[WH]at q1;injection q1 with q1;injection q1 with q1 _;subst q1);exact q7 k hph
   ·simp[execOp,resolve,invoke,builtin,oo,BE,cD]
def VL.aof(ht:aN P tab){pt it ty:TypeId} 
  (bH:zN md ops=Α)
  (hx:ev e x=φ (.v (.pointer Β))) (hy:ev e y=φ (.v (Ι Κ 0))) (hg:aK ops (.mk d (.call {callee:=.builtin .unsafeString,args:= #[x,y],argTypes:= #[pt,it]}) ty ps af g) e=φ Α) (hd:bj n d=Α)
  (h:WL P tab n D md ops Q L (aU d (.s []) e) O):VL P n D md ops ((.one,.mk d (.call {callee:=.builtin .unsafeString,args:= #[x,y],argTypes:= #[pt,it]}) ty ps af g)::L) e O Q:=by
 refine VL.qJ (M:=λm O'=>m= .s []/\O'=O) hg hd (λ_=>zO bH) (λbrk hb=>.inr (zO bH brk hb)) (λG a w hw hf=>?_) (Mv bH rfl) z16;have lH:=(hf.ev hx).jq;have xd:=(hf.ev hy).jq;have cD:=Lib.run_unsafeString_none (P:=P) w pt it ty Β;refine⟨_,_,_,w,G,⟨rfl,rfl⟩,?_,Gh.Le.refl G,hw,.s⟩;simp[execOp,resolve,invoke,builtin,lH,xd,cD];rfl
def VL.toU(ht:aN P tab){src dst ty el t:TypeId}(hmd:md= .plain\/md= .any)
  (hs:(tab src).map cg.under=φ (.pointer el)) (Sg:(tab dst).map cg.under=φ .unsafePointer) (he:tab el=φ te) (hz:te.size≠0) (hj:O.hp j=φ (.shape k t s)) (vL:0<s)
  (hx:ev e x=φ (.p k 0)) (hg:aK ops (.mk d (.convert src dst x) ty ps af g) e=φ Α) (hd:bj n d=Α) (h:WL P tab n D md ops Q L (aU d (.p k 0) e) O):
  VL P n D md ops ((.one,.mk d (.convert src dst x) ty ps af g)::L) e O Q:=by
 refine auV (M:=λm O'=>m= .p k 0/\O'=O) (λG a w hw hf=>?_) z16 (hmd:=hmd) (hg:=hg) (hd:=hd);have lH:=hf.ev hx;generalize oo:a.eval x=u at lH;cases lH with
 | p hp=>
   rename_i b;obtain⟨ti,z,i1,i2,_⟩:=(ht _ te he).info;obtain⟨b2,s1,s2⟩:=hw.n4 j k _ _ hj;rw[hp]at s1;injection s1 with s1;subst s1;have hr:=Lib.run_to_unsafe (P:=P) w ⟨b,0,Β⟩ (bm ht hs) (bm ht Sg) i1 (by rw[i2];exact hz) s2 vL;exact⟨_,_,_,w,G,⟨rfl,rfl⟩,by simp[execOp,oo,hr],Gh.Le.refl G,hw,.p hp⟩
def VL.aog(ht:aN P tab){src dst ty el t:TypeId}(hmd:md= .plain\/md= .any)
  (hs:(tab src).map cg.under=φ .unsafePointer) (Sg:(tab dst).map cg.under=φ (.pointer el)) (he:tab el=φ te) (hj:O.hp j=φ (.shape k t s)) (hl:liesAt P P.depth t (s / P.cellsOf t) 0 el 1=Α)
  (hx:ev e x=φ (.p k 0)) (hg:aK ops (.mk d (.convert src dst x) ty ps af g) e=φ Α) (hd:bj n d=Α) (h:WL P tab n D md ops Q L (aU d (.p k 0) e) O):
  VL P n D md ops ((.one,.mk d (.convert src dst x) ty ps af g)::L) e O Q:=by
 refine auV (M:=λm O'=>m= .p k 0/\O'=O) (λG a w hw hf=>?_) z16 (hmd:=hmd) (hg:=hg) (hd:=hd);have lH:=hf.ev hx;generalize oo:a.eval x=u at lH;cases lH with
 | p hp=>
   rename_i b;obtain⟨ti,z,i1,i2,_⟩:=(ht _ te he).info;obtain⟨b2,s1,s2⟩:=hw.n4 j k _ _ hj;rw[hp]at s1;injection s1 with s1;subst s1;have hr:=Lib.run_from_unsafe (P:=P) w ⟨b,0,Β⟩ (bm ht hs) (bm ht Sg) i1 s2 hl;exact⟨_,_,_,w,G,⟨rfl,rfl⟩,by simp[execOp,oo,hr],Gh.Le.refl G,hw,.p hp⟩
end
section
variable{tab:cB}{t t' el:TypeId}{O:VH}{a b c d a' b' k o n off:Nat}{z y z':Η}{u:TypeDesc}{cs ds:Η}{tk:Tok}{l:Ρ}{m q:MV}{i j:Int}{kk kk':IntKind}{x:Value}
def uJ:Option cg->MV->Option MV
 | some ⟨.string,_,_,_⟩,.s l=>φ (.v (Ι Κ (Ζ l)))
 | some ⟨.slice _,_,_,_⟩,.l n _ _=>φ (.v (Ι Κ n))
 | some ⟨.slice _,_,_,_⟩,.bk _ _ n _=>φ (.v (Ι Κ n))
 | some ⟨.map _ _,_,_,_⟩,.v (.map Β)=>φ (.v (Ι Κ 0))
 | some ⟨.array n _,_,_,_⟩,_=>φ (.v (Ι Κ n))
 | _,_=>Β
def iG:ra tab t m=uJ (tab t) m:=by
 unfold ra uJ;cases tab t with
 | none=>rfl
 | some r=>obtain⟨d,_,_,_⟩:=r;cases d<;>cases m<;>first | rfl | (rename_i v;cases v<;>first | rfl | (rename_i q;cases q<;>rfl))
def acn:uJ (φ ⟨.string,a,b,z⟩) (.s l)=φ (.v (Ι Κ (Ζ l))):=rfl
def afb:uJ (φ ⟨.slice el,a,b,z⟩) (.l n cs tk)=φ (.v (Ι Κ n)):=rfl
def aco:uJ (φ ⟨.slice el,a,b,z⟩) (.bk k o n c)=φ (.v (Ι Κ n)):=rfl
def acp:uJ (φ ⟨.map t t',a,b,z⟩) (.v (.map Β))=φ (.v (Ι Κ 0)):=rfl
def acq:uJ (φ ⟨.map t t',a,b,z⟩) (.map k)=Β:=rfl
def acr:uJ (φ ⟨.array n el,a,b,z⟩) m=φ (.v (Ι Κ n)):=by cases m<;>rfl
def afc(O:VH)(s:Option (MV×VH)):ϱ->Option (MV×VH)
 | some r=>φ (r,O)
 | none=>s
def W9{s:Option (MV×VH)}:afc O s (φ m)=φ (m,O):=rfl
def W_{s:Option (MV×VH)}:afc O s Β=s:=rfl
def acs{d:Option Tmp}{x:Operand}{ty:TypeId}{p:String} :dE tab (.mk d (.call {callee:=.builtin .len,args:= #[x],argTypes:= #[t]}) ty p af g) e O=(ev e x).bind λq=>afc O ((rW tab O t q).map (·,O)) (uJ (tab t) q):=by
 rw[RM];cases ev e x with
 | none=>rfl
 | some q=>
   simp only[alp,iG];cases uJ (tab t) q<;>rfl
def Sh(tab:cB)(m ix:MV):Option cg->Option MV
 | some r=>match ix,r.under,m with
   | .v (.int _ i),.slice el,.l n cells _=>match tab el with
     | some te=>if 0<=i/\i<(n:Int)then φ (.dV cells (i.toNat*te.size))else Β
     | none=>Β
   | .v (.int _ i),.slice el,.bk k o n _=>match tab el with
     | some te=>if 0<=i/\i<(n:Int)then φ (.p k (o+i.toNat*te.size))else Β
     | none=>Β
   | .v (.int _ i),.array len el,x=>match tab el with
     | some te=>if 0<=i/\i<(len:Int)then xE (i.toNat*te.size) x else Β
     | none=>Β
   | _,_,_=>Β
 | none=>Β
def alz:nA tab t m q=Sh tab m q (tab t):=by
 unfold nA Sh;cases h:tab t with
 | none=>cases q<;>first | rfl | (rename_i v;cases v<;>rfl)
 | some r=>
   obtain⟨d,_,_,_⟩:=r;((cases q<;>first | rfl | skip);rename_i v;cases v<;>first | rfl | skip);cases d<;>cases m<;>rfl
def ixS(i:Int)(n:Nat)(cs:Η):Option cg->Option MV
 | some te=>if 0<=i/\i<(n:Int)then φ (.dV cs (i.toNat*te.size))else Β
 | none=>Β
def ixR(i:Int)(n k o:Nat):Option cg->Option MV
 | some te=>if 0<=i/\i<(n:Int)then φ (.p k (o+i.toNat*te.size))else Β
 | none=>Β
def ixA(i:Int)(n:Nat)(m:MV):Option cg->Option MV
 | some te=>if 0<=i/\i<(n:Int)then xE (i.toNat*te.size) m else Β
 | none=>Β
def ajn:Sh tab (.l n cs tk) (.v (.int kk i)) (φ ⟨.slice el,a,b,z⟩)=ixS i n cs (tab el):=by unfold Sh ixS;rfl
def afd:Sh tab (.bk k o n c) (.v (.int kk i)) (φ ⟨.slice el,a,b,z⟩)=ixR i n k o (tab el):=by unfold Sh ixR;rfl
def afe:Sh tab m (.v (.int kk i)) (φ ⟨.array n el,a,b,z⟩)=ixA i n m (tab el):=by unfold Sh ixA;cases m<;>rfl
def ajo(h0:0<=i)(h1:i<(n:Int)):ixS i n cs (φ ⟨u,a,b,z⟩)=φ (.dV cs (i.toNat*a)):=if_pos ⟨h0,h1⟩
def ajp(h0:0<=i)(h1:i<(n:Int)):ixR i n k o (φ ⟨u,a,b,z⟩)=φ (.p k (o+i.toNat*a)):=if_pos ⟨h0,h1⟩
def ajq(h0:0<=i)(h1:i<(n:Int)):ixA i n m (φ ⟨u,a,b,z⟩)=xE (i.toNat*a) m:=if_pos ⟨h0,h1⟩
def aff:xE a (.p k o)=φ (.p k (o+a)):=rfl
def afg:xE a (.dV cs o)=φ (.dV cs (o+a)):=rfl
def inT(l:Ρ)(i:Int):Option cg->Option MV
 | some ⟨.string,_,_,_⟩=>if 0<=i then(l[i.toNat]?).map ef else Β
 | _=>Β
def apX:zE tab t (.s l) (.v (.int kk i))=inT l i (tab t):=by
 unfold zE inT;cases tab t with
 | none=>rfl
 | some r=>obtain⟨d,_,_,_⟩:=r;cases d<;>rfl
def ajr(h:0<=i):inT l i (φ ⟨.string,a,b,z⟩)=(l[i.toNat]?).map ef:=if_pos h
def ldT(off:Nat):Option cg->Option bO->Option MV
 | some r,φ (.cells cs)=>n6 (fA r.under) r.size cs off
 | _,_=>Β
def apY:fq tab O t (.p k off)=ldT off (tab t) (O.hp k):=by
 unfold fq ldT;simp only[cellsOf];cases tab t<;>first | rfl | (cases O.hp k<;>first | rfl | (rename_i x;cases x<;>rfl))
def apZ:fq tab O t (.dV cs off)=ldT off (tab t) (φ (.cells cs)):=by
 unfold fq ldT cellsOf;cases tab t<;>rfl
def ajs:ldT off (φ ⟨u,a,b,z⟩) (φ (.cells cs))=n6 (fA u) a cs off:=rfl
def afh:n6 γ a cs off=cs[off]?:=rfl
def Si(h:off+a<=Ζ cs):n6 Α a cs off=φ (.agg ((cs.drop off).take a)):=by simp[n6,h]
def acu:fA .bool=γ:=rfl
def afi:fA (.int kk)=γ:=rfl
def afj:fA .string=γ:=rfl
def afk:fA (.pointer t)=γ:=rfl
def ajt:fA (.slice t)=γ:=rfl
def afl:fA (.map t t')=γ:=rfl
def Sj:fA (.array n t)=Α:=rfl
def aju{ms:Array (String×TypeId)}:fA (.interface ms)=γ:=rfl
def ajv{ps rs:Array TypeId}{v:Bool}:fA (.func ps rs v)=γ:=rfl
def CM(O:VH)(k off:Nat)(m:MV):Option cg->Option bO->Option VH
 | some r,φ (.cells cs)=>if(ey m).length=r.size/\(ey m).all dF=Α/\off+r.size<=(Ζ cs) then φ (O.set k (.cells (db cs off (ey m))))else Β
 | _,_=>Β
def ap0:zB tab O t (.p k off) m=CM O k off m (tab t) (O.hp k):=by
 unfold zB CM;cases tab t with
 | none=>rfl
 | some r=>
   simp only;cases O.hp k with
   | none=>rfl
   | some x=>cases x<;>rfl
def r8{m:MV}(hm:ey m=[m])(hl:dF m=Α)(h:off<Ζ cs):CM O k off m (φ ⟨u,1,b,z⟩) (φ (.cells cs))=φ (O.set k (.cells (cs.set off m))):=by
 show(if(ey m).length=1/\(ey m).all dF=Α/\off+1<=(Ζ cs) then φ (O.set k (.cells (db cs off (ey m))))else Β)=_;rw[if_pos ⟨by rw[hm];rfl,by rw[hm];simpa using hl,Λ⟩,hm];rfl
def aoh(h:off<Ζ cs):CM O k off (.v x) (φ ⟨u,1,b,z⟩) (φ (.cells cs))=φ (O.set k (.cells (cs.set off (.v x)))):=r8 rfl rfl h
def aoi(h:off<Ζ cs):CM O k off (.s l) (φ ⟨u,1,b,z⟩) (φ (.cells cs))=φ (O.set k (.cells (cs.set off (.s l)))):=r8 rfl rfl h
def aoj(h:off<Ζ cs):CM O k off (.p c o) (φ ⟨u,1,b,z⟩) (φ (.cells cs))=φ (O.set k (.cells (cs.set off (.p c o)))):=r8 rfl rfl h
def aok(h:off<Ζ cs):CM O k off (.dV ds o) (φ ⟨u,1,b,z⟩) (φ (.cells cs))=φ (O.set k (.cells (cs.set off (.dV ds o)))):=r8 rfl rfl h
def ajw(h:off<Ζ cs):CM O k off (.l n ds tk) (φ ⟨u,1,b,z⟩) (φ (.cells cs))=φ (O.set k (.cells (cs.set off (.l n ds tk)))):=r8 rfl rfl h
def afm(h:off<Ζ cs):CM O k off (.bk c o n d) (φ ⟨u,1,b,z⟩) (φ (.cells cs))=φ (O.set k (.cells (cs.set off (.bk c o n d)))):=r8 rfl rfl h
def afn(h:off<Ζ cs):CM O k off (.map c) (φ ⟨u,1,b,z⟩) (φ (.cells cs))=φ (O.set k (.cells (cs.set off (.map c)))):=r8 rfl rfl h
def ajx(h:off<Ζ cs):CM O k off (.iface t m) (φ ⟨u,1,b,z⟩) (φ (.cells cs))=φ (O.set k (.cells (cs.set off (.iface t m)))):=r8 rfl rfl h
def ajy{fn:Fn}(h:off<Ζ cs):CM O k off (.func fn ds z') (φ ⟨u,1,b,z⟩) (φ (.cells cs))=φ (O.set k (.cells (cs.set off (.func fn ds z')))):=r8 rfl rfl h
def afo(h1:Ζ ds=a)(h2:ds.all dF=Α)(h:off+a<=Ζ cs):CM O k off (.agg ds) (φ ⟨u,a,b,z⟩) (φ (.cells cs))=φ (O.set k (.cells (db cs off ds))):=if_pos ⟨h1,h2,h⟩
def Ps:db cs off []=cs:=rfl
def KR:db cs off (m::ds)=db (cs.set off m) (off+1) ds:=rfl
def ajz:dF (.v x)=Α:=rfl
def ajA:dF (.s l)=Α:=rfl
def ajB:dF (.p k o)=Α:=rfl
def ajC:dF (.dV cs o)=Α:=rfl
def afp:dF (.l n cs tk)=Α:=rfl
def acv:dF (.bk k o n c)=Α:=rfl
def acw:dF (.map k)=Α:=rfl
def afq:dF (.iface t m)=Α:=rfl
def afr{fn:Fn}:dF (.func fn cs ds)=Α:=rfl
section
variable{X:bO}{k':Nat}{s:Nat}
def ajD(h:k'=k):(O.set k X).hp k'=φ X:=by subst h;exact υ _ _ _
def Xa(h:k'≠k):(O.set k X).hp k'=O.hp k':=τ _ _ h
def afs(h:k'=O.N):(O.push X).hp k'=φ X:=by subst h;exact ζ _ _
def Sk(h:k'≠O.N):(O.push X).hp k'=O.hp k':=VH.jg _ _ h
def Sl(h:k'≠k):(O.kill k).hp k'=O.hp k':=VH.lF _ h
def cL:(O.set k X).N=O.N:=rfl
def vI:(O.push X).N=O.N+1:=rfl
def Iu:(O.kill k).N=O.N:=rfl
end
def Sm{d:Option Tmp}{ty:TypeId}{p:String} :dE tab (.mk d (.alloc t) ty p af g) e O=(tab t).map λi=>(.p O.N 0,zJ O t i.size i.zero):=rfl
def alB(O:VH)(t:TypeId)(n:Nat)(z:Η):Bool->VH
 | true=>(O.push (.cells z)).push (.shape O.N t n)
 | false=>O.push (.cells z)
def Xb:zJ O t n z=alB O t n z (gd z):=by unfold zJ alB;cases gd z<;>rfl
def aol:alB O t n z Α=(O.push (.cells z)).push (.shape O.N t n):=rfl
def aom:alB O t n z γ=O.push (.cells z):=rfl
def aon:gd [.v (.pointer Β),.l 0 [] .nil]=Α:=rfl
def aoo:gd []=γ:=rfl
def aop:gd [m]=γ:=by unfold gd;split<;>first | rfl | simp_all
def aoq{m3:MV}:gd (m1::m2::m3::z)=γ:=by unfold gd;split<;>first | rfl | simp_all
def aft:gd [.v (.int kk i),m]=γ:=by unfold gd;split<;>first | rfl | simp_all
def acx{b:Bool}:gd [.v (.bool b),m]=γ:=by unfold gd;split<;>first | rfl | simp_all
def afu:gd [.s l,m]=γ:=by unfold gd;split<;>first | rfl | simp_all
def ajE:gd [.l n cs tk,m]=γ:=by unfold gd;split<;>first | rfl | simp_all
def ajF:gd [m,.s l]=γ:=by unfold gd;split<;>first | rfl | simp_all
def ajG:gd [m,.v x]=γ:=by unfold gd;split<;>first | rfl | simp_all
def vM(tab:cB)(x:MV)(l h:ϱ):Option cg->Option MV
 | some ⟨.string,_,_,_⟩=>match x with
   | .s s=>match dI 0 l,dI (Ζ s) h with
     | some lo,φ hi=>if lo<=hi/\hi<=(Ζ s) then φ (.s ((s.drop lo).take (hi - lo)))else Β
     | _,_=>Β
   | _=>Β
 | some ⟨.slice el,_,_,_⟩=>match x with
   | .l n cells tk=>match tab el,dI 0 l,dI n h with
     | some te,φ lo,φ hi=>
       if lo=0/\hi=n then φ (.l n cells tk)
       else if lo<=hi/\hi<=n/\(Ζ cells)=n*te.size then φ (.l (hi - lo) ((cells.drop (lo*te.size)).take ((hi - lo)*te.size)) (vD tk te.size (hi==n)))else Β
     | _,_,_=>Β
   | .bk k o n c=>match tab el,dI 0 l,dI n h with
     | some te,φ lo,φ hi=>if lo<=hi/\hi<=c then φ (.bk k (if c=lo then o else o+lo*te.size) (hi - lo) (c - lo))else Β
     | _,_,_=>Β
   | _=>Β
 | _=>Β
def ap1{l:ϱ}:zH tab t m l h=vM tab m l h (tab t):=by
 unfold zH vM;cases tab t with
 | none=>rfl
 | some r=>obtain⟨d,_,_,_⟩:=r;cases d<;>cases m<;>rfl
def aor(h0:0<=i)(h1:i<=j)(h2:j<=(Ζ l:Int)):vM tab (.s l) (φ (.v (.int kk i))) (φ (.v (.int kk' j))) (φ ⟨.string,a,b,z⟩)=φ (.s ((l.drop i.toNat).take (j.toNat - i.toNat))):=by
 have e1:0<=j:=Λ
 simp only[vM,dI,if_pos h0,if_pos e1];rw[if_pos ⟨Λ,Λ⟩]
def ajH(h0:0<=i)(h1:i<=(Ζ l:Int)):vM tab (.s l) (φ (.v (.int kk i))) Β (φ ⟨.string,a,b,z⟩)=φ (.s (l.drop i.toNat)):=by
 simp only[vM,dI,if_pos h0];rw[if_pos ⟨Λ,Λ⟩,an7 z10]
def ajI(h1:0<=j)(h2:j<=(Ζ l:Int)):vM tab (.s l) Β (φ (.v (.int kk j))) (φ ⟨.string,a,b,z⟩)=φ (.s (l.take j.toNat)):=by
 simp only[vM,dI,if_pos h1];rw[if_pos ⟨Λ,Λ⟩];simp
def GA(k o lo hi c:Nat):Option cg->Option MV
 | some te=>φ (.bk k (if c=lo then o else o+lo*te.size) (hi - lo) (c - lo))
 | none=>Β
def aos(h0:0<=i)(h1:i<=j)(h2:j<=(c:Int)):vM tab (.bk k o n c) (φ (.v (.int kk i))) (φ (.v (.int kk' j))) (φ ⟨.slice el,a,b,z⟩)=GA k o i.toNat j.toNat c (tab el):=by
 have e1:0<=j:=Λ
 simp only[vM,dI,if_pos h0,if_pos e1,GA];cases tab el with
 | none=>rfl
 | some te=>simp only;rw[if_pos ⟨Λ,Λ⟩]
def ajJ(h0:0<=i)(h1:i<=(n:Int))(h2:n<=c):vM tab (.bk k o n c) (φ (.v (.int kk i))) Β (φ ⟨.slice el,a,b,z⟩)=GA k o i.toNat n c (tab el):=by
 simp only[vM,dI,if_pos h0,GA];cases tab el with
 | none=>rfl
 | some te=>simp only;rw[if_pos ⟨Λ,h2⟩]
def ajK(h1:0<=j)(h2:j<=(c:Int)):vM tab (.bk k o n c) Β (φ (.v (.int kk j))) (φ ⟨.slice el,a,b,z⟩)=GA k o 0 j.toNat c (tab el):=by
 simp only[vM,dI,if_pos h1,GA];cases tab el with
 | none=>rfl
 | some te=>simp only;rw[if_pos ⟨Λ,Λ⟩]
def aot:GA k o 0 n c (φ ⟨u,a,b,z⟩)=φ (.bk k o n c):=by
 simp only[GA];congr 2
 split<;>simp
def ajL{lo:Nat}(h:c≠lo):GA k o lo hi c (φ ⟨u,a,b,z⟩)=φ (.bk k (o+lo*a) (hi - lo) (c - lo)):=by
 simp only[GA,if_neg h]
def ajM{lo:Nat}(h:c=lo):GA k o lo hi c (φ ⟨u,a,b,z⟩)=φ (.bk k o (hi - lo) (c - lo)):=by
 simp only[GA,if_pos h]
def Sn(n lo hi:Nat)(cs:Η)(tk:Tok):Option cg->Option MV
 | some te=>if lo=0/\hi=n then φ (.l n cs tk)
    else if lo<=hi/\hi<=n/\(Ζ cs)=n*te.size then φ (.l (hi - lo) ((cs.drop (lo*te.size)).take ((hi - lo)*te.size)) (vD tk te.size (hi==n)))else Β
 | none=>Β
def CN{l:ϱ}{lo:Nat}(hl:dI 0 l=φ lo)(hh:dI n h=φ hi):vM tab (.l n cs tk) l h (φ ⟨.slice el,a,b,z⟩)=Sn n lo hi cs tk (tab el):=by
 show(match tab el,dI 0 l,dI n h with
   | some te,φ lo,φ hi=>
     if lo=0/\hi=n then φ (MV.l n cs tk)
     else if lo<=hi/\hi<=n/\(Ζ cs)=n*te.size then φ (.l (hi - lo) ((cs.drop (lo*te.size)).take ((hi - lo)*te.size)) (vD tk te.size (hi==n)))else Β
   | _,_,_=>Β)=_
 rw[hl,hh];cases tab el<;>rfl
def aou(h0:0<=i)(h1:0<=j):vM tab (.l n cs tk) (φ (.v (.int kk i))) (φ (.v (.int kk' j))) (φ ⟨.slice el,a,b,z⟩)=Sn n i.toNat j.toNat cs tk (tab el):=CN (if_pos h0) (if_pos h1)
def ajN(h0:0<=i):vM tab (.l n cs tk) (φ (.v (.int kk i))) Β (φ ⟨.slice el,a,b,z⟩)=Sn n i.toNat n cs tk (tab el):=CN (if_pos h0) rfl
def ajO(h0:0<=j):vM tab (.l n cs tk) Β (φ (.v (.int kk j))) (φ ⟨.slice el,a,b,z⟩)=Sn n 0 j.toNat cs tk (tab el):=CN rfl (if_pos h0)
def ajP:vM tab (.l n cs tk) Β Β (φ ⟨.slice el,a,b,z⟩)=Sn n 0 n cs tk (tab el):=CN rfl rfl
def afv{lo:Nat}(h0:lo=0)(h1:hi=n):Sn n lo hi cs tk (φ ⟨u,a,b,z⟩)=φ (.l n cs tk):=if_pos ⟨h0,h1⟩
def acy{lo:Nat}(h:lo≠0\/hi≠n)(h1:lo<=hi)(h2:hi<=n)(h3:Ζ cs=n*a):Sn n lo hi cs tk (φ ⟨u,a,b,z⟩)=φ (.l (hi - lo) ((cs.drop (lo*a)).take ((hi - lo)*a)) (vD tk a (hi==n))):=by
 simp only[Sn];rw[if_neg Λ,if_pos ⟨h1,h2,h3⟩]
def aov(h:tab t=φ ⟨.slice el,a,b,z⟩)(h':tab el=φ ⟨u,a',b',z'⟩){m:Int}(h0:0<=i)(h1:i<=j)(h2:j<=m)(h3:m<=(c:Int)):qi tab t (.bk k o n c) (φ (.v (.int kk i))) (.v (.int kk' j)) (.v (.int kk m))=φ (.bk k (if m.toNat=i.toNat then o else o+i.toNat*a') (j.toNat - i.toNat) (m.toNat - i.toNat)):=by
 simp only[qi,h,h',auz,dI,if_pos h0];rw[if_pos ⟨Λ,Λ,Λ,Λ⟩,if_pos Λ]
def Pt(x:MV):Option cg->Option cg->Option MV
 | some _,φ ⟨.int k,_,_,_⟩=>match x with
   | .v (.int _ i)=>φ (.v (.int k (k.wrap i)))
   | _=>Β
 | some ⟨.string,_,_,_⟩,φ ⟨.string,_,_,_⟩=>match x with
   | .s l=>φ (.s l)
   | _=>Β
 | _,_=>Β
def ap2:Eb tab t t' m=Pt m (tab t) (tab t'):=by
 unfold Eb Pt;cases tab t with
 | none=>rfl
 | some r=>
   obtain⟨d,_,_,_⟩:=r;cases tab t' with
   | none=>cases d<;>rfl
   | some r'=>
     obtain⟨d',_,_,_⟩:=r'
     cases d'<;>first
      | (cases d<;>rfl)
      | (cases m<;>first | (cases d<;>rfl) | (rename_i v;cases v<;>cases d<;>rfl))
def afw{k':IntKind} :Pt (.v (.int kk i)) (φ r) (φ ⟨.int k',a,b,z⟩)=φ (.v (.int k' (k'.wrap i))):=rfl
def afx:Pt (.s l) (φ ⟨.string,a,b,z⟩) (φ ⟨.string,a',b',z'⟩)=φ (.s l):=rfl
def ajQ:Pt m (φ ⟨.string,a,b,z⟩) (φ ⟨.slice el,a',b',z'⟩)=Β:=rfl
def ajR:Pt m (φ ⟨.slice el,a,b,z⟩) (φ ⟨.string,a',b',z'⟩)=Β:=rfl
def ajS:Pt m (φ ⟨.pointer el,a,b,z⟩) (φ ⟨.unsafePointer,a',b',z'⟩)=Β:=rfl
def ajT:Pt m (φ ⟨.unsafePointer,a,b,z⟩) (φ ⟨.pointer el,a',b',z'⟩)=Β:=rfl
def Mw:List (Nat×Operand)->Η->List (Nat×MV)
 | (i,_)::l,m::ms=>(i,m)::Mw l ms
 | _,_=>[]
def Xc(l:List (Nat×Operand))(ms:Η):gW l.toArray ms=Mw l ms:=by
 unfold gW;simp only;induction l generalizing ms with
 | nil=>cases ms<;>rfl
 | cons p l ih=>cases ms with
   | nil=>rfl
   | cons m ms=>obtain⟨i,x⟩:=p;simp only[ai8,List.zip_cons_cons,Mw];rw[ih]
def acz :Mw [] ms=[]:=by cases ms<;>rfl
def Xd{x:Operand}{l:List (Nat×Operand)} :Mw ((n,x)::l) (m::ms)=(n,m)::Mw l ms:=rfl
def Pu(pl:Nat->Option (Nat×Nat))(cs:Η)(x:MV)(rest:List (Nat×MV)):Option (Nat×Nat)->Option Η
 | none=>Β
 | some (off,size)=>if(ey x).length=size/\off+size<=(Ζ cs) then mG pl (db cs off (ey x)) rest else Β
def m_(l:List (Nat×Nat))(i:Nat):Option (Nat×Nat):=l[i]?
def acA{p:Nat×Nat}{l:List (Nat×Nat)}:m_ (p::l) 0=φ p:=rfl
def acB{p:Nat×Nat}{l:List (Nat×Nat)}:m_ (p::l) (n+1)=m_ l n:=rfl
def aap(a:Nat)(k:Nat):Option (Nat×Nat):=φ (k*a,a)
def Xe:aap a k=φ (k*a,a):=rfl
def Xf :mG pl cs []=φ cs:=rfl
def So :mG pl cs ((n,m)::rest)=Pu pl cs m rest (pl n):=by
 rw[mG];cases h:pl n<;>rfl
def ajU(h:(ey m).length=a/\off+a<=Ζ cs):Pu pl cs m rest (φ (off,a))=mG pl (db cs off (ey m)) rest:=if_pos h
def bsT(tab:cB)(len:Nat)(parts:List (Nat×MV)):Option cg->Option MV
 | some ⟨.slice el,_,_,_⟩=>match tab el with
   | some te=>if 0<len*te.size/\len*te.size<=16777216/\0<(Ζ te.zero)/\len<=maxLen then
     (mG (λk=>φ (k*te.size,te.size)) (fC te.zero (len*te.size)) parts).map λcs=>.l len cs .full
     else if len=0/\parts=[]then φ (.l 0 [] .full)else Β
   | none=>Β
 | _=>Β
def ap3 :lT tab t n parts=bsT tab n parts (tab t):=by
 unfold lT bsT;cases tab t with
 | none=>rfl
 | some r=>obtain⟨d,_,_,_⟩:=r;cases d<;>rfl
def bsE(n:Nat)(parts:List (Nat×MV)):Option cg->Option MV
 | some te=>if 0<n*te.size/\n*te.size<=16777216/\0<(Ζ te.zero)/\n<=maxLen then
    (mG (λk=>φ (k*te.size,te.size)) (fC te.zero (n*te.size)) parts).map λcs=>.l n cs .full
   else if n=0/\parts=[]then φ (.l 0 [] .full)else Β
 | none=>Β
def ajV :bsT tab n parts (φ ⟨.slice el,a,b,z⟩)=bsE n parts (tab el):=by unfold bsT bsE;rfl
def aow :bsE 0 [] (φ r)=φ (.l 0 [] .full):=by simp[bsE]
def Sq(h:Ζ z=a)(h0:0<a):∀n,fC z (n*a)=(List.replicate n z).flatten:=by
 intro n;induction n with
 | zero=>simp[fC]
 | succ n ih=>
   rw[List.replicate_succ',List.flatten_append, <-ih];simp only[fC,Nat.succ_mul];rw[List.range_add,as0];(((congr 1);subst h;simp only[List.map_map,List.flatten_cons,List.flatten_nil,List.append_nil];apply List.ext_getElem?;intro i;simp only[an6,List.getElem?_range];by_cases hi:i<Ζ z);simp[hi,Nat.mod_eq_of_lt hi]);simp[aum (Nat.le_of_not_lt hi),hi]
def oq:Nat->Η->Η
 | 0,_=>[]
 | n+1,z=>z++oq n z
def Sr:∀n,(List.replicate n z).flatten=oq n z
 | 0=>rfl
 | n+1=>by rw[List.replicate_succ,List.flatten_cons,Sr n];rfl
def ajW:oq 1 z=z:=by simp[oq]
def ajX:oq 2 z=z++z:=by simp[oq]
def ajY:oq 3 z=z++(z++z):=by simp[oq]
def ajZ:oq 4 z=z++(z++(z++z)):=by simp[oq]
def aj0:oq 5 z=z++(z++(z++(z++z))):=by simp[oq]
def aj1:oq 6 z=z++(z++(z++(z++(z++z)))):=by simp[oq]
def aj2:oq 7 z=z++(z++(z++(z++(z++(z++z))))):=by simp[oq]
def aj3:oq 8 z=z++(z++(z++(z++(z++(z++(z++z)))))):=by simp[oq]
def aj4(h:Ζ z=a)(h0:0<n*a)(h1:n*a<=16777216):bsE n parts (φ ⟨u,a,b,z⟩)=(mG (aap a) (oq n z) parts).map (MV.l n · .full):=by
 have ha:0<a:=by rcases auq a with e | e; · subst e;omega
                 ·exact e
 have hn:n<=maxLen:=by
  have:n*1<=n*a:=Nat.mul_le_mul_left _ ha;simp[maxLen];omega
 rw[<-Sr, <-Sq h ha];exact if_pos ⟨h0,h1,by show 0<Ζ z;omega,hn⟩
def bT(b:Bool):Option cg->Option MV
 | some ⟨.bool,_,_,_⟩=>φ (.v (.bool b))
 | _=>Β
def acC{a b:Bool}:dK tab .eql t (.v (.bool a)) (.v (.bool b))=bT (a==b) (tab t):=by
 simp only[dK,bT];cases tab t with
 | none=>rfl
 | some r=>obtain⟨d,_,_,_⟩:=r;cases d<;>rfl
def acD{a b:Bool}:dK tab .neq t (.v (.bool a)) (.v (.bool b))=bT (!(a==b)) (tab t):=by
 simp only[dK,bT];cases tab t with
 | none=>rfl
 | some r=>obtain⟨d,_,_,_⟩:=r;cases d<;>rfl
def aox{p:Bool}:bT p (φ ⟨.bool,a,b,z⟩)=φ (.v (.bool p)):=rfl
def pT(b:Bool):Option cg->Option MV
 | some ⟨.pointer _,_,_,_⟩=>φ (.v (.bool b))
 | _=>Β
def aoy{p:Bool}:pT p (φ ⟨.pointer el,a,b,z⟩)=φ (.v (.bool p)):=rfl
def aj5{p:Bool}:n5 tab .eql t p=pT p (tab t):=by
 simp only[n5,pT];cases tab t with
 | none=>rfl
 | some r=>obtain⟨d,_,_,_⟩:=r;cases d<;>rfl
def aj6{p:Bool}:n5 tab .neq t p=pT (!p) (tab t):=by
 simp only[n5,pT];cases tab t with
 | none=>rfl
 | some r=>obtain⟨d,_,_,_⟩:=r;cases d<;>rfl
section
variable{op:BinOp}{la lb:Ρ}
def acE:dK tab op t (.v (.pointer Β)) (.v (.pointer Β))=n5 tab op t Α:=by cases op<;>rfl
def acF:dK tab op t (.p k o) (.v (.pointer Β))=n5 tab op t γ:=by cases op<;>rfl
def acG:dK tab op t (.v (.pointer Β)) (.p k o)=n5 tab op t γ:=by cases op<;>rfl
def acH:dK tab op t (.dV cs o) (.v (.pointer Β))=n5 tab op t γ:=by cases op<;>rfl
def acI:dK tab op t (.v (.pointer Β)) (.dV cs o)=n5 tab op t γ:=by cases op<;>rfl
def Mx:dK tab op t (.agg cs) (.agg ds)=Β:=by cases op<;>rfl
def acJ:dK tab .eql t (.s la) (.s lb)=φ (.v (.bool (la==lb))):=rfl
def acK:dK tab .neq t (.s la) (.s lb)=φ (.v (.bool (!(la==lb)))):=rfl
def acL:dK tab .lss t (.s la) (.s lb)=φ (.v (.bool (Op.bytesLess la lb))):=rfl
def acM:dK tab .leq t (.s la) (.s lb)=φ (.v (.bool (Op.bytesLess la lb||la==lb))):=rfl
def acN:dK tab .gtr t (.s la) (.s lb)=φ (.v (.bool (!(Op.bytesLess la lb||la==lb)))):=rfl
def acO:dK tab .geq t (.s la) (.s lb)=φ (.v (.bool (!(Op.bytesLess la lb)))):=rfl
def Xg(h:Ζ la+Ζ lb<=9223372036854775807):dK tab .add t (.s la) (.s lb)=φ (.s (la++lb)):=if_pos h
end
def Ss(h:tab t=φ ⟨.pointer el,a,b,z⟩)(h':tab el=φ ⟨u,s+1,b',z'⟩){op:BinOp}:dK tab op t (.p k o) (.p k o)=n5 tab op t Α:=by
 cases op<;>simp[dK,h,h',n5]
def aA(b:UInt8):ef b= .v (.int .u8 b.toNat):=rfl
def aj7{n k:Nat}:((n:Int)+(k:Int)).toNat=n+k:=Λ
def afy{n:Nat}:((n:Int)+1).toNat=n+1:=Λ
def afz{n:Nat}:((n:Int)+2).toNat=n+2:=Λ
def afA{n:Nat}:((n:Int) - 1).toNat=n - 1:=Λ
def acP{n:Nat}:((n+1:Nat):Int) - 1=n:=Λ
def aj8(h0:0<=i)(h1:i<=255):IntKind.u8.wrap i=i:=by
 simp only[IntKind.wrap,IntKind.signed,IntKind.bits];simp;omega
def afB(h0:0<=i)(h1:i<=18446744073709551615):IntKind.u64.wrap i=i:=by
 simp only[IntKind.wrap,IntKind.signed,IntKind.bits];simp;omega
def afC(h:0<=j):dK tab .shr t (.v (.int kk i)) (.v (.int kk' j))=φ (.v (.int kk (i.fdiv (2 ^ (min j.toNat kk.bits))))):=by
 have:¬j<0:=Λ
 simp[dK,Cq,this]
def afD:dK tab .and t (.v (.int kk i)) (.v (.int kk j))=φ (.v (.int kk (kk.wrap (BitVec.ofInt kk.bits i&&& BitVec.ofInt kk.bits j).toNat))):=by simp[dK,sS]
def afE(h:j≠0):dK tab .rem t (.v (.int kk i)) (.v (.int kk j))=φ (.v (.int kk (i.tmod j))):=ab1 h
def afF(h:j≠0):dK tab .quo t (.v (.int kk i)) (.v (.int kk j))=φ (.v (.int kk (kk.wrap (i.tdiv j)))):=ab0 h
end
section
variable{x y z:Operand}{t t':TypeId}{f:Nat}{q:BinOp}{r:UnOp}{as_ as':Array Operand}{ts:Array TypeId}{l h k:Option Operand}{fn:Fn}{ps:Array (Nat×Operand)}{bb:Bool}
def afG:cK (.move x)=γ:=rfl
def Xh:cK (.assign x)=γ:=rfl
def afH:cK (.pick x y z)=γ:=rfl
def Pv:cK (.nilCheck x)=γ:=rfl
def acQ:cK (.binOp q t x y t')=γ:=rfl
def afI:cK (.unOp r t x)=γ:=rfl
def Su:cK (.convert t t' x)=γ:=rfl
def KS:cK (.fieldAddr t x f)=γ:=rfl
def acR:cK (.field t x f)=γ:=rfl
def KT:cK (.indexAddr t x y)=γ:=rfl
def acS:cK (.index t x y)=γ:=rfl
def Sv:cK (.extract x f)=γ:=rfl
def acT:cK (.slice t x l h k)=γ:=rfl
def acU:cK (.build t ps)=γ:=rfl
def Pw:cK (.makeFunc fn as_ as')=γ:=rfl
def CO:cK (.makeInterface t x)=γ:=rfl
def afJ:cK (.load t x)=γ:=rfl
def acV:cK (.store t x y)=γ:=rfl
def aj9:cK (.box t x)=γ:=rfl
def acW:cK (.alloc t)=γ:=rfl
def Iw:cK (.buildSlice t f ps)=γ:=rfl
def Sw:cK (.makeMap t l)=γ:=rfl
def Xi:cK (.lookup t x y bb)=γ:=rfl
def KU:cK (.mapUpdate t x y z)=γ:=rfl
def Xj:cK (.insert t x y z)=γ:=rfl
def KV:cK (.makeSlice t x y)=γ:=rfl
def acX:cK (.range t x)=γ:=rfl
def afK:cK (.next x bb)=γ:=rfl
def acY:cK (.entry x)=γ:=rfl
def Ix:cK (.typeAssert x t t' bb)=γ:=rfl
def acZ:cK (.panic x)=γ:=rfl
def Px:cK (.mapEntry t x y)=γ:=rfl
def Iy:cK (.entryStore t x y z)=γ:=rfl
def afL:cK (.call {callee:=.builtin .len,args:=as_,argTypes:=ts})=γ:=rfl
def afM:cK (.call {callee:=.builtin .max,args:=as_,argTypes:=ts})=γ:=rfl
def afN:cK (.call {callee:=.builtin .min,args:=as_,argTypes:=ts})=γ:=rfl
def yc:cK (.call {callee:=.builtin .unsafeSliceData,args:=as_,argTypes:=ts})=γ:=rfl
def CP:cK (.call {callee:=.builtin .unsafeString,args:=as_,argTypes:=ts})=γ:=rfl
def Xk:cK (.call {callee:=.builtin .clear,args:=as_,argTypes:=ts})=γ:=rfl
def ac0:cK (.call {callee:=.builtin .copy,args:=as_,argTypes:=ts})=γ:=rfl
def afO:cK (.call {callee:=.builtin .cap,args:=as_,argTypes:=ts})=γ:=rfl
def Sy:cK (.call {callee:=.builtin .delete,args:=as_,argTypes:=ts})=γ:=rfl
def Xl:cK (.call {callee:=.builtin .print,args:=as_,argTypes:=ts})=γ:=rfl
def Py:cK (.call {callee:=.builtin .println,args:=as_,argTypes:=ts})=γ:=rfl
def Pz:cK (.call {callee:=.builtin .recover,args:=as_,argTypes:=ts})=γ:=rfl
def aj_:cK (.call {callee:=.value x,args:=as_,argTypes:=ts})=Α:=rfl
def aka:cK (.call {callee:=.builtin .append,args:=as_,argTypes:=ts})=Α:=rfl
def akb:KO .one=γ:=rfl
def akc:KO .au=γ:=rfl
def aoz:KO .rd=γ:=rfl
def aoA:KO .fk=Α:=rfl
end
def aw.N{σ :Type}{l K:Τ}{ms: σ ->Η}{I: σ ->VH->Prop}{μ : σ ->Nat}{s: σ}(s': σ)(hI:I s' O)(hk:looks e K=φ ks:=by exact rfl)(hl:looks e l=φ (ms s'):=by exact rfl)(hm: μ s'< μ s:=by first | omega | (dsimp only;omega)):aw l K ks ms I μ s Q .normal e O:=⟨hk,s',hl,hI,hm⟩
def ws0:=Rn @afG<|Rn @Xh<|Rn @afH<|Rn @Pv<|Rn @acQ<|Rn @afI<|Rn @Su<|Rn @KS<|Rn @acR<|Rn @KT<|Rn @acS<|Rn @Sv<|Rn @acT<|Rn @acU<|Rn @Pw<|Rn @CO<|Rn @afJ<|Rn @acV<|Rn @aj9<|Rn @acW<|Rn @Iw<|Rn @Sw<|Rn @Xi<|Rn @KU<|Rn @Xj<|Rn @KV<|Rn @acX<|Rn @afK<|Rn @acY<|Rn @Ix<|Rn @acZ<|Rn @Px<|Rn @Iy<|Rn @afL<|Rn @afM<|Rn @afN<|Rn @yc<|Rn @CP<|Rn @Xk<|Rn @ac0<|Rn @afO<|Rn @Sy<|Rn @Xl<|Rn @Py<|Rn @Pz<|Rn @aj_<|Rn @aka<|Rn @akb<|Rn @akc<|Rn @aoz<|Rn @aoA<|Rn @ajf<|Rn @aeU<|Rn @aeV<|Rn @aoc<|Rn @aeW<|Rn @aeX<|Rn @aeY<|Rn @aeZ<|Rn @Sd<|Rn @KP<|Rn @ae0<|Rn @ae1<|Rn @acd<|Rn @ajg<|Rn @ace<|Rn @acf<|Rn @acg<|Rn @ajh<|Rn @ae3<|Rn @W4<|Rn @ach<|Rn @ae4<|Rn @Po<|Rn @W5<|Rn @W6<|Rn @aci<|Rn @FO<|Rn @ae5 @ae6
def ws1:=Rn @acj<|Rn @W7<|Rn @Pp<|Rn @KQ<|Rn @aji<|Rn @ajj<|Rn @ajk<|Rn @ajl<|Rn @ajm<|Rn @Pq<|Rn @ack<|Rn @Se<|Rn @H7<|Rn @Pj<|Rn @RX<|Rn @KM<|Rn @Pk<|Rn @Pl<|Rn @Sa<|Rn @AQ<|Rn @H6<|Rn @Pg<|Rn @Ph<|Rn @RV<|Rn @AL<|Rn @aeQ<|Rn @aam<|Rn @aan<|Rn @Ef<|Rn @BA<|Rn @xW<|Rn @xX<|Rn @xY<|Rn @CB<|Rn @FC<|Rn @xP<|Rn @FD<|Rn @CJ<|Rn @FH<|Rn @xU<|Rn @FI<|Rn @zM<|Rn @Mn<|Rn @R4<|Rn @Z9<|Rn @Z_<|Rn @aaa<|Rn @aab<|Rn @aac<|Rn @aad<|Rn @aae<|Rn @Mo<|Rn @Mp<|Rn @FE<|Rn @Mq<|Rn @AO<|Rn @Ib<|Rn @Mr<|Rn @CH<|Rn @xS<|Rn @Ic<|Rn @xT<|Rn @Ie<|Rn @CI<|Rn @Ig<|Rn @Ih<|Rn @AP<|Rn @r6<|Rn @Ms<|Rn @Ii<|Rn @R5<|Rn @R6<|Rn @R7<|Rn @FG<|Rn @WZ<|Rn @Ij<|Rn @R8<|Rn @Ik<|Rn @wG @xV
def ws2:=Rn @alx<|Rn @aly<|Rn @ru<|Rn @sV<|Rn @aah<|Rn @aai<|Rn @CC<|Rn @CD<|Rn @H9<|Rn @H_<|Rn @ag<|Rn @H8<|Rn @wrap_i64<|Rn @L8<|Rn @FB<|Rn @R_<|Rn @aak<|Rn @aal<|Rn @AJ<|Rn @HY<|Rn @L9<|Rn @Cz<|Rn @xM<|Rn @HZ<|Rn @xN<|Rn @H0<|Rn @CA<|Rn @H3<|Rn @AK<|Rn @H4<|Rn @RL<|Rn @L_<|Rn @Ma<|Rn @acs<|Rn @RP<|Rn @RQ<|Rn @WO<|Rn @rN<|Rn @H5<|Rn @RS<|Rn @Sm<|Rn @wF<|Rn @xO<|Rn @Z5<|Rn @Z6<|Rn @RH<|Rn @Z7<|Rn @L6<|Rn @HW<|Rn @HX<|Rn @Cy<|Rn @Fy<|Rn @RI<|Rn @pj<|Rn @RJ<|Rn @L7<|Rn @Mb<|Rn @Mc<|Rn @Me<|Rn @Mf<|Rn @Mg<|Rn @Mh<|Rn @Mi<|Rn @Mj<|Rn @Mk<|Rn @RT<|Rn @RU<|Rn @aq<|Rn @bg<|Rn @xZ<|Rn @Il<|Rn @acn<|Rn @afb<|Rn @aco<|Rn @acp<|Rn @acq<|Rn @acr<|Rn @W9<|Rn @W_ @alz
def ws3:=Rn @ajn<|Rn @afd<|Rn @afe<|Rn @ajo<|Rn @ajp<|Rn @ajq<|Rn @aff<|Rn @afg<|Rn @apX<|Rn @ajr<|Rn @apY<|Rn @apZ<|Rn @ajs<|Rn @afh<|Rn @Si<|Rn @acu<|Rn @afi<|Rn @afj<|Rn @afk<|Rn @ajt<|Rn @afl<|Rn @Sj<|Rn @aju<|Rn @ajv<|Rn @ap0<|Rn @aoh<|Rn @aoi<|Rn @aoj<|Rn @aok<|Rn @ajw<|Rn @afm<|Rn @afn<|Rn @ajx<|Rn @ajy<|Rn @afo<|Rn @Ps<|Rn @KR<|Rn @ajD<|Rn @Xa<|Rn @afs<|Rn @Sk<|Rn @Sl<|Rn @cL<|Rn @vI<|Rn @Iu<|Rn @Xb<|Rn @aol<|Rn @aom<|Rn @aon<|Rn @aoo<|Rn @aop<|Rn @aoq<|Rn @aft<|Rn @acx<|Rn @afu<|Rn @ajE<|Rn @ajF<|Rn @ajG<|Rn @ap1<|Rn @aor<|Rn @ajH<|Rn @ajI<|Rn @aos<|Rn @ajJ<|Rn @ajK<|Rn @aot<|Rn @ajL<|Rn @ajM<|Rn @aou<|Rn @ajN<|Rn @ajO<|Rn @ajP<|Rn @afv<|Rn @acy<|Rn @ap2<|Rn @afw<|Rn @afx<|Rn @ajQ<|Rn @ajR @ajS
def ws4:=Rn @ajT<|Rn @Xc<|Rn @acz<|Rn @Xd<|Rn @Xf<|Rn @So<|Rn @acA<|Rn @acB<|Rn @Xe<|Rn @ajU<|Rn @ap3<|Rn @ajV<|Rn @aow<|Rn @aj4<|Rn @ajW<|Rn @ajX<|Rn @ajY<|Rn @ajZ<|Rn @aj0<|Rn @aj1<|Rn @aj2<|Rn @aj3<|Rn @acC<|Rn @acD<|Rn @aox<|Rn @aoy<|Rn @aj5<|Rn @aj6<|Rn @acE<|Rn @acF<|Rn @acG<|Rn @acH<|Rn @acI<|Rn @Mx<|Rn @acJ<|Rn @acK<|Rn @acL<|Rn @acM<|Rn @acN<|Rn @acO<|Rn @Xg<|Rn @aj7<|Rn @afy<|Rn @afz<|Rn @afA<|Rn @acP<|Rn @aj8<|Rn @afB<|Rn @afE<|Rn @afF<|Rn @afC<|Rn @afD<|Rn @auy.{0,0}<|Rn @Option.bind_none.{0,0}<|Rn @Int.zero_sub<|Rn @Bool.not_true<|Rn @Bool.not_false<|Rn @Bool.or_false<|Rn @Bool.or_true<|Rn @Bool.true_or<|Rn @auH<|Rn @Bool.and_true<|Rn @Bool.and_false<|Rn @Bool.true_and<|Rn @Bool.false_and<|Rn @decide_true<|Rn @decide_eq_true<|Rn @decide_eq_false<|Rn @apJ<|Rn @Nat.mul_one<|Rn @Int.toNat_natCast<|Rn @Nat.add_zero<|Rn @Nat.sub_zero<|Rn @ats.{0}<|Rn @List.set_cons_succ.{0}<|Rn @List.take_succ_cons.{0}<|Rn @auD.{0}<|Rn @List.drop_succ_cons.{0}<|Rn @auE.{0} @apF.{0}
def ws5:=Rn @ahB.{0}<|Rn @ai9.{0}<|Rn @alp.{0,0}<|Rn @auz.{0,0}<|Rn @ai8.{0,0}<|Rn @aug.{0,0}<|Rn @an6.{0,0}<|Rn @List.getElem_map.{0,0}<|Rn @if_true.{1}<|Rn @if_false.{1}<|Rn @cond_true.{1}<|Rn @cond_false.{1}<|Rn @List.toList_toArray.{0}<|Rn @auu.{0}<|Rn @auA.{0}<|Rn @true_and<|Rn @and_true<|Rn @eq_self.{1} @an4
def ws:=Rn @ws0<|Rn @ws1<|Rn @ws2<|Rn @ws3<|Rn @ws4 @ws5
def ds:=Rn @cL<|Rn @vI<|Rn @Iu<|Rn @Ef<|Rn @BA<|Rn @xW<|Rn @xX<|Rn @xY<|Rn @ajz<|Rn @ajA<|Rn @ajB<|Rn @ajC<|Rn @afp<|Rn @acv<|Rn @acw<|Rn @afq<|Rn @afr<|Rn @aul.{0}<|Rn @asl.{0}<|Rn @List.all_cons.{0}<|Rn @List.all_nil.{0}<|Rn @Bool.and_true<|Rn @Bool.true_and<|Rn @Bool.and_self<|Rn @List.length_set.{0}<|Rn @abT.{0}<|Rn @asc.{0,0}<|Rn @and_true<|Rn @true_and<|Rn @eq_self.{1}<|Rn @Option.some.injEq.{0}<|Rn @bO.cells.injEq<|Rn @ne_eq.{1} @not_false_eq_true
section
variable{G H:Gh}{n:Sz}{D:List Deferred}{e:Env}{a:Act}{P:Program}{tab:cB}{O O':VH}{w:World}{m m':MV}{u v:Value}{ops:Array Oper}{Q:VQ}{md:Md}
def yd(K:MV->VH->Prop):Option (MV×VH)->Prop
 | some (m,O)=>K m O
 | none=>False
def aT{K:MV->VH->Prop}:yd K (φ (m,O))=K m O:=rfl
def cf.My(i:Nat){l:ϕ}(h:yd (λm O'=>cf P n D ⟨l⟩ fuel (listed.setIfInBounds i Α) (aU o.dst m e) O' Q) (iF tab .au o e O))(ht:aN P tab:=by exact aa)(ho:l[i]?=φ o:=by exact rfl)(hs:Region.noSelect ⟨l⟩=Α:=by kernel_rfl)(hf:Region.free .any ⟨l⟩ listed i=Α:=by kernel_rfl)(hr:(Region.ready .any ⟨l⟩ listed).contains i=Α:=by kernel_rfl)(hg:aK ⟨l⟩ o e=φ Α:=by exact rfl)(hd:bj n o.dst=Α:=by exact rfl):cf P n D ⟨l⟩ (fuel+1) listed e O Q:=by
 generalize hv:iF tab .au o e O=v at h;cases v with
 | none=>exact h.elim
 | some p=>
   obtain⟨m,O'⟩:=p;obtain⟨h1,rfl⟩:=po hv;exact cf.Z4 ht z20 hs hf hr hg h1 hd h
def aQ.st{l:ϕ}(hy:dd P n D o e O M)(h:∀m O',M m O'->K (aU o.dst m e) O')(ho:l[i]?=φ o:=by exact rfl)(hg:aK ⟨l⟩ o e=φ Α:=by exact rfl)(hd:bj n o.dst=Α:=by exact rfl):aQ P n D ⟨l⟩ i e O Q K:=
 aQ.qJ z20 hg hd hy h
def aQ.o1{l:ϕ}(h:yd (λm O'=>K (aU o.dst m e) O') (dE tab o e O))(ht:aN P tab:=by exact aa)(ho:l[i]?=φ o:=by exact rfl)(hg:aK ⟨l⟩ o e=φ Α:=by exact rfl)(hd:bj n o.dst=Α:=by exact rfl):aQ P n D ⟨l⟩ i e O Q K:=by
 generalize hv:dE tab o e O=v at h;cases v with
 | none=>exact h.elim
 | some p=>exact aQ.op ht z20 hg hv hd h
def cf.bM(ix:List (Nat×Fl)){l:ϕ} 
  (h:WL P tab n D .any ⟨l⟩ Q L e O) (ht:aN P tab:=by exact aa) (hs:Region.noSelect ⟨l⟩=Α:=by kernel_rfl) (hp:cP .any ⟨l⟩ fuel listed ix=Α:=by kernel_rfl) (hL:pw l ix=φ L:=by exact rfl):cf P n D ⟨l⟩ fuel listed e O Q:=(WL.sound ht h) fuel listed ix (vJ hL) (λ_=>⟨hs,hp⟩)
end
section
variable{G H:Gh}{n:Sz}{D:List Deferred}{e:Env}{a:Act}{P:Program}{tab:cB}{O O' B:VH}{w:World}{m m':MV}{u v:Value}{ops:Array Oper}{Q:VQ}{md:Md}{c d:Code}{σ :Type}
def aE{σ :Type}(l:Τ)(ms: σ ->Η)(I: σ ->VH->Prop)(Q:VQ):VQ:=λx e O=>match x with
 | .normal=>∃s,looks e l=φ (ms s)/\I s O
 | x=>Q x e O
def SA{l:Τ}{ms: σ ->Η}{I: σ ->VH->Prop} :aE l ms I Q (.exit i) e O=Q (.exit i) e O:=rfl
def SC{l:Τ}{ms: σ ->Η}{I: σ ->VH->Prop} :aE l ms I Q (.goto i) e O=Q (.goto i) e O:=rfl
def Xm{l:Τ}{ms: σ ->Η}{I: σ ->VH->Prop}:aE l ms I Q .ret e O=Q .ret e O:=rfl
def PA{l:Τ}{ms: σ ->Η}{I: σ ->VH->Prop}:aE l ms I Q (.panic m) e O=Q (.panic m) e O:=rfl
def aE.mk{l:Τ}{ms: σ ->Η}{I: σ ->VH->Prop}(s: σ)(h2:I s O)(h1:looks e l=φ (ms s):=by exact rfl):aE l ms I Q .normal e O:=⟨s,h1,h2⟩
def VC.join(ht:aN P tab)(l:Τ)(ms: σ ->Η)(I: σ ->VH->Prop)(h1:VC P n D c e O (aE l ms I Q))(h2:∀s O,I s O->WC P tab n D d (ko l (ms s) []) O Q):VC P n D (.seq c d) e O Q:=by
 refine VC.seq (VC.mono ?_ h1);intro x e O h;cases x with
 | normal=>
   obtain⟨s,h3,h4⟩:=h;exact VC.env (WC.sound ht (h2 s O h4)) (ji (e0:=[]) (λt x h=>by simp[look]at h) h3)
 | _=>exact h
def WC.join(ht:aN P tab)(l:Τ)(ms: σ ->Η)(I: σ ->VH->Prop)(h1:WC P tab n D c e O (aE l ms I Q))(h2:∀s O,I s O->VC P n D d (ko l (ms s) []) O Q):VC P n D (.seq c d) e O Q:=by
 refine VC.seq (VC.mono ?_ (WC.sound ht h1));intro x e O h;cases x with
 | normal=>
   obtain⟨s,h3,h4⟩:=h;exact VC.env (h2 s O h4) (ji (e0:=[]) (λt x h=>by simp[look]at h) h3)
 | _=>exact h
def PB(P:Program)(n:Sz)(D:List Deferred)(b:Code)(Q:VQ):Env->VH->Prop:=λe O=>VC P n D b e O Q
def ac1{b:Code}:PB P n D b Q e O=VC P n D b e O Q:=rfl
def VC.ai(ht:aN P tab)(h:WC P tab n D c e O (wH (PB P n D d Q) Q)):VC P n D (.seq c d) e O Q:=by
 refine VC.seq (VC.mono ?_ (WC.sound ht h));intro x e O h;cases x<;>exact h
def Δ(h:VC P n D c e O (wH (PB P n D d Q) Q)):VC P n D (.seq c d) e O Q:=by
 refine VC.seq (VC.mono ?_ h);intro x e O h;cases x<;>exact h
def VF.ofV(ht:aN P tab){c:Code}(hf:P.funcs[f]?=φ fn)(hb:fn.body=φ c)(hk:(⟨fn.ntmps,0⟩:Sz)=n)(hr:fn.results.toList=rs)(hn:Ζ args<=n.n)
  (h:VC P n [] c (cX 0 args) O (FN tab rs R)):VF P f args O R:=by
 subst hk;refine VF.enter ht hf hb hn (VC.mono ?_ h);intro x e O hx
 have key:kf R O (jQ tab e O rs)->∃m,gX tab fn e O=φ m/\R (.ret m) O:=λh=>by
  unfold gX;rw[hr, <-yb];generalize jQ tab e O rs=z at h;unfold kf at h;split at h;exact h.elim;exact⟨_,rfl,h⟩
  ·rename_i l hl;refine⟨.tuple l,?_,h⟩
   match l,hl with
   | [],_=>rfl
   | [m],hl=>exact absurd rfl (hl m)
   | _::_::_,_=>rfl
 cases x<;>first | exact key hx | exact hx
def ω{c:Code}(k:Nat)(rs:List ResultVar)(hf:P.funcs[f]?=φ fn)(q:Q')(ht:aN P tab:=by exact aa)(hb:fn.body=φ c:=by exact rfl)(hk:(⟨fn.ntmps,0⟩:Sz)=⟨k,0⟩:=by exact rfl)(hr:fn.results.toList=rs:=by exact rfl)(hn:Ζ args<=k:=by exact Nat.le_of_ble_eq_true rfl)(h:VC P ⟨k,0⟩ [] c (cX 0 args) O (FN tab rs R)=Q':=by conv=>lhs;simp only[cX,Nat.zero_add,y10]):VF P f args O R:=VF.ofV ht hf hb hk hr hn (h.mpr q)
def Υ(ls Ks:Τ)(ms: σ ->Η)(I: σ ->VH->Prop)(μ : σ ->Nat)(s0: σ)(hI:I s0 O)
  (step:∀s O,I s O->VC P n D c (ko ls (ms s) (ko Ks ks [])) O (aw ls Ks ks ms I μ s Q)) (h0:looks e ls=φ (ms s0):=by exact rfl) (hk:looks e Ks=φ ks:=by exact rfl):VC P n D (.loop c) e O Q:=VC.cj ls Ks ms I μ s0 h0 hk hI step
def VC.aoB{id:Nat}(l:Τ)(ms: σ ->Η)(I: σ ->VH->Prop)(h1:VC P n D c e O (km id (aE l ms I Q)))(h2:∀s O,I s O->K (ko l (ms s) []) O):VC P n D c e O (km id (wH K Q)):=by
 intro G a w hw hf;refine wp_mono (h1 G a w hw hf) ?_;rintro y a' w' ⟨x,e',O',H,g1,g2,g3,g4,g5⟩
 have nor:∀{x':VX},x'= .normal\/x'= .exit id->(∃s,looks e' l=φ (ms s)/\I s O')->FR H n D e' a'->XR H x' y->(∀e O,K e O->km id (wH K Q) x' e O)->(∀e,FR H n D e a'->FRX H n D x' e a')->cU G n D (km id (wH K Q)) y a' w':=λhx ⟨s,h3,h4⟩ hf' hy hK hF=>
  ⟨_,ko l (ms s) [],O',H,g1,g2,hF _ (hf'.less (ji (e0:=[]) (λt x h=>by simp[look]at h) h3)),hy,hK _ _ (h2 s O' h4)⟩
 cases x with
 | normal=>exact nor (.inl rfl) g5 g3 g4 (λe O h=>h) (λe h=>h)
 | exit i=>
   by_cases hi:i=id;subst hi;simp only[km,if_true]at g5;exact nor (.inr rfl) g5 g3 g4 (λe O h=>by simp only[km,if_true];exact h) (λe h=>h);refine⟨.exit i,e',O',H,g1,g2,g3,g4,?_⟩;simp only[km,hi,if_false]at g5 ⊢;exact g5
 | _=>exact⟨_,e',O',H,g1,g2,g3,g4,g5⟩
def ex1:MV->Bool
 | .v _=>Α
 | .s _=>Α
 | _=>γ
def exM:MV->Bool
 | .v _=>Α
 | .s _=>Α
 | .agg cs=>cs.all ex1
 | _=>γ
def Iz(h:ex1 m=Α)(h1:VR G m u):VR H m u:=by
 cases m with
 | v x=>have:=h1.jq;subst this;cases h1 with | v hp=>exact .v hp
 | s l=>cases h1;exact .s
 | _=>cases h
def IA(h:ex1 m=Α)(h1:VR G m u)(h2:VR H m v):v=u:=by
 cases m with
 | v x=>rw[h1.jq,h2.jq]
 | s l=>cases h1;cases h2;rfl
 | _=>cases h
def akd(h:exM m=Α)(h1:VR G m u):VR H m u:=by
 cases m with
 | v x=>exact Iz (m:=.v x) rfl h1
 | s l=>exact Iz (m:=.s l) rfl h1
 | agg cs=>
   cases h1 with
   | agg h2 h3=>exact .agg h2 λi c u a b=>Iz (apH.1 h c (an5 a)) (h3 i c u a b)
 | _=>cases h
def aaq(h:exM m=Α)(h1:VR G m u)(h2:VR H m v):v=u:=by
 cases m with
 | v x=>exact IA (m:=.v x) rfl h1 h2
 | s l=>exact IA (m:=.s l) rfl h1 h2
 | agg cs=>
   cases h1 with
   | agg h3 h4=>
     cases h2 with
     | agg h5 h6=>
       (congr 2);refine List.ext_getElem? λi=>?_
       rename_i us vs;rcases auv i (Ζ cs) with hi | hi;have e1:=Ro (show i<(Ζ us) by omega);have e2:=Ro (show i<(Ζ vs) by omega);have e3:=Ro hi;rw[e1,e2];((congr 1);exact IA (apH.1 h _ (apE hi)) (h4 i _ _ e3 e1) (h6 i _ _ e3 e2));rw[aum Λ,aum Λ]
 | _=>cases h
def vN(G:Gh)(J:ϰ)(x:World):Prop:=∃H O',Gh.Le G H/\WR H O' x/\J O'
def vN.le(h:G.Le H){x:World}(hb:vN H J x):vN G J x:=by
 obtain⟨K,O',h1,h2,h3⟩:=hb;exact⟨K,O',h.trans h1,h2,h3⟩
def vN.ss{x:World}(h:vN G J x):SS G x:=by
 obtain⟨K,O',h1,h2,_⟩:=h;exact SS.le h1 h2.ss
def TE(brk:Τ)(G:Gh)(J:ϰ)(j:Nat)(x:World):Prop:=SS G x/\(brk.contains j=γ->vN G J x)
def TE.le{x:World}(h:G.Le H)(t:TE brk H J j x):TE brk G J j x:=⟨SS.le h t.1,λk=>(t.2 k).le h⟩
def TE.mk{x:World}(h:vN G J x):TE brk G J j x:=⟨h.ss,λ_=>h⟩
def ab(P:Program)(n:Sz)(D:List Deferred)(ops:Array Oper)(brk:Τ)(J:ϰ)(Ψ :Gh->Prop)(Z:Prop)(fuel:Nat)(listed:Array Bool)(e:Env)(O:VH)(Q:VQ):Prop:=
 (∀G H,Gh.Le G H-> Ψ G-> Ψ H)->Z->J O->∀G a w, Ψ G->WR G O w->FR G n D e a->jI P .any ops (cU G n D Q) (TE brk G J) fuel listed a w
def VC.ot{id:Nat}(brk:Τ)(h:ab P n D ops brk (λO'=>O.Ge O') (λ_=>True) (∀k,O.N<=k->O.hp k=Β) ops.size (Array.replicate ops.size γ) e O Q)(hm:P.follows .mixedOrders=Α:=by kernel_rfl):VC P n D (.region id ops Α) e O Q:=
 λG a w hw hf=>wp_region_any hm (lE _ _ _ _ (h (λ_ _ _ _=>trivial) (λk hk=>(hw.sJ k hk).2.2) (VH.Ge.refl O) G a _ trivial (hw.drawn _) hf))
def ab.take(ho:ops[i]?=φ o)(hs:Region.noSelect ops=Α)(hf:Region.free .any ops listed i=Α)(hr:(Region.ready .any ops listed).contains i=Α)(hb:mI ops brk listed i=Α)
  (hd:bj n o.dst=Α) (hy:∀G a w,Z->J O-> Ψ G->WR G O w->FR G n D e a->∃u,VR G m u/\YieldsIf P ops (vN G J) o u a) (h:ab P n D ops brk J Ψ Z fuel (listed.setIfInBounds i Α) (aU o.dst m e) O Q):ab P n D ops brk J Ψ Z (fuel+1) listed e O Q:=by
 intro hΨ hZ hJ G a w hψ hw aY;obtain⟨u,hu,hyi⟩:=hy G a w hZ hJ hψ hw aY;refine pY (S:=vN G J) (W:=λj=>∃k,j∈kW ops listed i k) (brk:=λj=>brk.contains j) ho (Region.noSelect_spec hs) (iE hd) (λj x hj hT=>hT.2 hj) (λx hx=>TE.mk hx) fuel listed a w (Region.free_spec ho hf) Fx L4 (L5 hb) (by simpa using hr) hyi ⟨G,O,Gh.Le.refl G,hw,hJ⟩ (h hΨ hZ hJ G _ w hψ hw (aY.aU hd hu))
def ab.au(i:Nat){l:ϕ}(h:yd (λm O'=>ab P n D ⟨l⟩ brk J Ψ Z fuel (listed.setIfInBounds i Α) (aU o.dst m e) O' Q) (iF tab .au o e O))(ht:aN P tab:=by exact aa)(ho:l[i]?=φ o:=by exact rfl)(hs:Region.noSelect ⟨l⟩=Α:=by kernel_rfl)(hf:Region.free .any ⟨l⟩ listed i=Α:=by kernel_rfl)(hr:(Region.ready .any ⟨l⟩ listed).contains i=Α:=by kernel_rfl)(hb:mI ⟨l⟩ brk listed i=Α:=by kernel_rfl)(hg:aK ⟨l⟩ o e=φ Α:=by exact rfl)(hd:bj n o.dst=Α:=by exact rfl):ab P n D ⟨l⟩ brk J Ψ Z (fuel+1) listed e O Q:=by
 generalize hv:iF tab .au o e O=v at h;cases v with
 | none=>exact h.elim
 | some p=>
   obtain⟨m,O'⟩:=p;obtain⟨h1,rfl⟩:=po hv;refine ab.take z20 hs hf hr hb hd (λG a w _ _ _ hw aY=>?_) h;obtain⟨u,hu,cD⟩:=xH (P:=P) ht aY h1
   exact⟨u,hu,.inl ⟨bz aY hg,λx hx=>by
    obtain⟨H,O2,h2,h3,_⟩:=hx;exact cD x (SS.le h2 h3.ss)⟩⟩
def SD{t:TypeId}{p:MV}(hB:B.Ge O)(hN:∀k,B.N<=k->B.hp k=Β)(h:fq tab B t p=φ m):fq tab O t p=φ m:=by
 unfold fq at h ⊢
 have:∀{cs off},cellsOf B p=φ (cs,off)->cellsOf O p=φ (cs,off):=λ{cs off} hc=>by
  unfold cellsOf at hc ⊢;split at hc;split at hc;rename_i hk;((((have bI:=Nat.lt_of_not_le λhle=>by rw[hN _ hle]at hk;cases hk);rw[hB.hp _ bI,hk];exact hc);cases hc);exact hc);cases hc
 split at h;rename_i i cs off hi hc;rw[this hc,hi];exact h;cases h
def auU(i:Nat){l:ϕ}{d:Option Tmp}{t:TypeId}{ty:TypeId}{p:MV}(hv:fq tab B t p=φ m)(h:ab P n D ⟨l⟩ brk (λO'=>B.Ge O') Ψ (∀k,B.N<=k->B.hp k=Β) fuel (listed.setIfInBounds i Α) (aU d m e) O Q)(ht:aN P tab:=by exact aa)(ho:l[i]?=φ (.mk d (.load t x) ty ps af g):=by exact rfl)(hs:Region.noSelect ⟨l⟩=Α:=by kernel_rfl)(hf:Region.free .any ⟨l⟩ listed i=Α:=by kernel_rfl)(hr:(Region.ready .any ⟨l⟩ listed).contains i=Α:=by kernel_rfl)(hb:mI ⟨l⟩ brk listed i=Α:=by kernel_rfl)(hg:aK ⟨l⟩ (.mk d (.load t x) ty ps af g) e=φ Α:=by exact rfl)(hd:bj n d=Α:=by exact rfl)(hx:ev e x=φ p:=by exact rfl)(hm:exM m=Α:=by exact rfl):ab P n D ⟨l⟩ brk (λO'=>B.Ge O') Ψ (∀k,B.N<=k->B.hp k=Β) (fuel+1) listed e O Q:=by
 refine ab.take (o:=.mk d (.load t x) ty ps af g) z20 hs hf hr hb hd (λG a w hN hB _ hw aY=>?_) h;obtain⟨u,w',K,cD,h1,h2,h3,_⟩:=LZ (P:=P) ht hw (SD hB hN hv) (aY.ev hx);obtain⟨u0,PC⟩:∃u0,VR G m u0:=⟨u,akd hm h3⟩
 refine⟨u0,PC,.inl ⟨bz aY hg,λy hy=>?_⟩⟩;obtain⟨H,O2,g1,g2,g3⟩:=hy;obtain⟨r,g4,g5⟩:=qh (P:=P) ht g2 (SD g3 hN hv) ((aY.ev hx).mono g1);have:=g5 y g2.sx;have er:=aaq hm PC g4;subst er;simp only[execOp,Sem.run_bind,this];rfl
def ou{Q:Exit->Act->World->Prop}{S:World->Prop}{T:Nat->World->Prop}:∀(fuel:Nat)(listed:Array Bool)(a:Act)(w:World),(∀j,listed.getD j Α=γ->∀x,S x->T j x)->wpAnyH P .any ops Q S fuel listed a w->jI P .any ops Q T fuel listed a w:=by
 intro fuel;induction fuel with
 | zero=>intro listed a w _ h;exact⟨h.1,h.2⟩
 | succ fuel ih=>
   intro listed a w hT h;refine⟨h.1,λi hi=>?_⟩;have fB:=(mem_ready.1 hi).1
   exact wpOp_mono (λa' w' h'=>⟨hT i fB _ h'.1,ih _ _ _ (λj hj x=>hT j (by
    by_cases nj:i=j;subst nj;exact fB;rw[getD_set_ne Α nj]at hj;exact hj) x) h'.2⟩) (h.2 i hi)
def ab.fin(hb:((List.range listed.size).all λj=>listed.getD j Α||brk.contains j)=Α)(h:cf P n D ops fuel listed e O Q):ab P n D ops brk J Ψ Z fuel listed e O Q:=by
 intro hΨ hZ hJ G a w hψ hw aY;refine ou _ _ _ _ (λj hj x hs=>⟨hs,λhh=>?_⟩) (h G a w hw aY);rcases auv j listed.size with hl | hl;have:=apH.1 hb j (auo.2 hl);rw[hj,auH]at this;rw[this]at hh;cases hh;rw[aup,auj z37]at hj;cases hj
def ab.one 
  (h:aQ P n D ops i e O Q λe' O'=>J O'/\ab P n D ops brk J Ψ Z fuel (listed.setIfInBounds i Α) e' O' Q) (hr:Region.ready .any ops listed=[i]:=by kernel_rfl):ab P n D ops brk J Ψ Z (fuel+1) listed e O Q:=by
 intro hΨ hZ hJ G a w hψ hw aY;refine kc hr z10 λj hj=>?_
 obtain rfl:j=i:=by simpa using hj
 refine wpOp_mono (λa' w' ⟨e',O',H,h1,h2,h3,h4,h5⟩=>⟨TE.mk ⟨H,O',h1,h2,h4⟩,jf (λ_ _ _=>cU.le h1) _ _ _ _ (λk _ x hT=>hT.le h1) (h5 hΨ hZ h4 H a' w' (hΨ _ _ h1 hψ) h2 h3)⟩) (h G a w hw aY)
def ab.call{l:ϕ}{d:Option Tmp}{f:Operand}{as_:Array Operand}{ts:Array TypeId}{ty:TypeId}{id:FuncId}(hR:VF P id ms O (aC Φ))
  (h:∀m O', Φ m O'->J O'/\ab P n D ⟨l⟩ brk J Ψ Z fuel (listed.setIfInBounds i Α) (aU d m e) O' Q) (hr:Region.ready .any ⟨l⟩ listed=[i]:=by kernel_rfl) (ho:l[i]?=φ (.mk d (.call {callee:=.value f,args:=as_,argTypes:=ts}) ty ps af g):=by exact rfl) (hg:aK ⟨l⟩ (.mk d (.call {callee:=.value f,args:=as_,argTypes:=ts}) ty ps af g) e=φ Α:=by exact rfl) (hf:ev e f=φ (.func (.func id) [] []):=by exact rfl) (hm:g_ e as_.toList=φ ms:=by exact rfl) (hb:cV P id=Α:=by kernel_rfl) (hd:bj n d=Α:=by exact rfl):ab P n D ⟨l⟩ brk J Ψ Z (fuel+1) listed e O Q:=
 ab.one (aQ.call (o:=.mk d (.call {callee:=.value f,args:=as_,argTypes:=ts}) ty ps af g) z20 hg rfl rfl hf hm (Enters.w_ hb) hd (by simpa using hR) λr O' hr=>by
  cases r with
  | ret m=>exact h m O' hr
  | panic m=>exact hr.elim) (hr:=hr)
def ab.op{l:ϕ} 
  (h:yd (λm O'=>J O'/\ab P n D ⟨l⟩ brk J Ψ Z fuel (listed.setIfInBounds i Α) (aU o.dst m e) O' Q) (dE tab o e O)) (ht:aN P tab:=by exact aa) (hr:Region.ready .any ⟨l⟩ listed=[i]:=by kernel_rfl) (ho:l[i]?=φ o:=by exact rfl) (hg:aK ⟨l⟩ o e=φ Α:=by exact rfl) (hd:bj n o.dst=Α:=by exact rfl):ab P n D ⟨l⟩ brk J Ψ Z (fuel+1) listed e O Q:=
 ab.one (aQ.o1 h (ht:=ht) (ho:=ho) (hg:=hg) (hd:=hd)) (hr:=hr)
def ab.st{l:ϕ}(hy:dd P n D o e O M)
  (h:∀m O',M m O'->J O'/\ab P n D ⟨l⟩ brk J Ψ Z fuel (listed.setIfInBounds i Α) (aU o.dst m e) O' Q) (hr:Region.ready .any ⟨l⟩ listed=[i]:=by kernel_rfl) (ho:l[i]?=φ o:=by exact rfl) (hg:aK ⟨l⟩ o e=φ Α:=by exact rfl) (hd:bj n o.dst=Α:=by exact rfl):ab P n D ⟨l⟩ brk J Ψ Z (fuel+1) listed e O Q:=
 ab.one (aQ.st hy h (ho:=ho) (hg:=hg) (hd:=hd)) (hr:=hr)
def ab.bM(ix:List (Nat×Fl)){l:ϕ} 
  (h:WL P tab n D .any ⟨l⟩ Q L e O) (ht:aN P tab:=by exact aa) (hb:((List.range listed.size).all λj=>listed.getD j Α||brk.contains j)=Α:=by kernel_rfl) (hs:Region.noSelect ⟨l⟩=Α:=by kernel_rfl) (hp:cP .any ⟨l⟩ fuel listed ix=Α:=by kernel_rfl) (hL:pw l ix=φ L:=by exact rfl):ab P n D ⟨l⟩ brk J Ψ Z fuel listed e O Q:=ab.fin hb (cf.bM ix h (ht:=ht) (hs:=hs) (hp:=hp) (hL:=hL))
end
def wk:=Rn @ws<|Rn @ac1<|Rn @SA<|Rn @SC<|Rn @Xm @PA
section
variable{G H:Gh}{n:Sz}{D:List Deferred}{e:Env}{a:Act}{P:Program}{tab:cB}{O O':VH}{w:World}{m m':MV}{u v:Value}{ops:Array Oper}{Q:VQ}{md:Md}
def sX{t:TypeId}{ms:Array (String×TypeId)}(hu:P.underlying t=φ (.interface ms)):P.underlying t=φ (.interface (P.methodsAt t)):=by
 rw[hu,Program.methodsAt,hu]
def d_.CQ{op:BinOp}{t t' ty tv:TypeId}{p:MV}{ms:Array (String×TypeId)}(hu:P.underlying t=φ (.interface ms))(hx:ev e x=φ (.iface tv p))(xL:(op= .eql/\bb=γ)\/(op= .neq/\bb=Α)):
  d_ P n D (.mk d (.binOp op t x (.const .nilIface) t') ty ps af g) e (.v (.bool bb)):=by
 intro G a hf;have h1:=hf.ev hx;generalize hv:a.eval x=v at h1;have hc:a.eval (.const .nilIface)= .nilIface:=rfl;cases h1 with
 | iface h2=>
   rename_i u;refine dL.of (s:=do eqGuard op t x (.const .nilIface) (.iface tv u) .nilIface;binOp op t (.iface tv u) .nilIface) (a_.of (u:=.bool bb) (λw _=>?_) (.v rfl)) (by simp[execOp,hv,hc]);(((have SE:(eqGuard op t x (.const .nilIface) (.iface tv u) .nilIface).run P w= .ok () w:=by rcases xL with⟨rfl,_⟩ | ⟨rfl,_⟩<;>simp[eqGuard]);rw[Sem.run_bind,SE,Result.andThen_ok];rcases xL with⟨rfl,rfl⟩ | ⟨rfl,rfl⟩);exact run_eql_held_nil w t tv u (sX hu));exact run_neq_held_nil w t tv u (sX hu)
def d_.IB{op:BinOp}{t t' ty:TypeId}{ms:Array (String×TypeId)}(hu:P.underlying t=φ (.interface ms))(hx:ev e x=φ (.v .nilIface))(xL:(op= .eql/\bb=Α)\/(op= .neq/\bb=γ)):
  d_ P n D (.mk d (.binOp op t x (.const .nilIface) t') ty ps af g) e (.v (.bool bb)):=by
 intro G a hf;have h1:=(hf.ev hx).jq;have hc:a.eval (.const .nilIface)= .nilIface:=rfl;refine dL.of (s:=do eqGuard op t x (.const .nilIface) .nilIface .nilIface;binOp op t .nilIface .nilIface) (a_.of (u:=.bool bb) (λw _=>?_) (.v rfl)) (by simp[execOp,h1,hc]);have SE:(eqGuard op t x (.const .nilIface) .nilIface .nilIface).run P w= .ok () w:=by rcases xL with⟨rfl,_⟩ | ⟨rfl,_⟩<;>cases x<;>simp[eqGuard]
 rw[Sem.run_bind,SE,Result.andThen_ok];rcases xL with⟨rfl,rfl⟩ | ⟨rfl,rfl⟩;exact run_eql_nil_nil w t (sX hu);exact run_neq_nil_nil w t (sX hu)
def d_.asT{t s ty:TypeId}{p:MV}{u:TypeDesc}(hu:P.underlying s=φ u)(hi:∀ms,u≠ .interface ms)(hx:ev e x=φ (.iface s p)):
  d_ P n D (.mk d (.typeAssert x t s Α) ty ps af g) e (.tuple [p,.v (.bool Α)]):=by
 intro G a hf;have h1:=hf.ev hx;generalize hv:a.eval x=v at h1;cases h1 with
 | iface h2=>
   rename_i w0;refine dL.of (s:=Instr.typeAssert (.iface s w0) t s Α) (a_.of (u:=.tuple #[w0,.bool Α]) (λw _=>?_) ?_) (by simp[execOp,hv])
   ·simp only[Instr.typeAssert,Sem.run_bind,run_underlying hu,Result.andThen_ok]
    cases u<;>first
     | rfl
     | simp
     | (rename_i ms;exact absurd rfl (hi ms))
   ·exact VR.tuple (cs:=[p,.v (.bool Α)]) (us:=[w0,.bool Α]) rfl λi c u hc hu=>by
     match i with
     | 0=>simp at hc hu;subst hc;subst hu;exact h2
     | 1=>simp at hc hu;subst hc;subst hu;exact .v rfl
     | i+2=>simp at hc
def VL.panic{ty t:TypeId}{p:MV}(hmd:md= .plain)(hx:ev e x=φ (.iface t p))(hg:aK ops (.mk d (.panic x) ty ps af g) e=φ Α)
  (h:Q (.panic (.iface t p)) (jM n e) O):VL P n D md ops ((.one,.mk d (.panic x) ty ps af g)::L) e O Q:=by
 subst hmd;intro fuel listed ix hf hp
 match ix,hf with
 | (i,g')::ix,hf=>
   obtain⟨rfl,ho,hf⟩:=hf;intro G a w hw aY;have h1:=aY.ev hx
   have CR:∃u,a.eval x= .iface t u:=by
    generalize a.eval x=v at h1;cases h1;exact⟨_,rfl⟩
   obtain⟨u,hv⟩:=CR
   have cD:(execOp a.eval (.mk d (.panic x) ty ps af g)).run P w= .halt (.panic (.iface t u)) w:=by
    simp[execOp,hv,Instr.panic,goPanic]
   simp only[ai8,wpOps,ho,bz aY hg,if_true];refine .inl ?_;unfold Oper.wp;rw[cD];exact⟨.panic (.iface t p),jM n e,O,G,Gh.Le.refl G,hw,⟨HR,aY.less Ed⟩,⟨_,rfl,by rw[<-hv];exact h1⟩,h⟩
def MR(G:Gh):ϱ->FrameMode->Prop
 | none,.returning=>True
 | some m,.panicking [⟨v,γ,γ⟩]=>VR G m v
 | _,_=>False
def fM(P:Program)(g:FuncId)(args:Η)(x:ϱ)(O:VH)(K:ϰ):Prop:=
 ∀G w vs u,WR G O w->aX G args vs->MR G x u->CallsD P g vs.toArray u w λr u' w'=>(∃v,r= .returned v)/\settle u'= .returning/\∃O' H,Gh.Le G H/\WR H O' w'/\K O'
def wI:ϱ->MV
 | none=>.v .nilIface
 | some m=>m
def fM.rec{id:Nat}{d:Tmp}{ty:TypeId}{x:ϱ}{K:ϰ}(hf:P.funcs[f]?=φ fn)(hd:d<fn.ntmps)
  (h:WC P tab ⟨fn.ntmps,0⟩ [] c ((d,wI x)::cX 0 args) O λy _ O'=>match y with
   | .normal=>K O'
   | .ret=>K O'
   | _=>False) (ht:aN P tab:=by exact aa) (hb:fn.body=φ (.seq (.region id ⟨[.mk (φ d) (.call {callee:=.builtin .recover,args:= #[],argTypes:= #[]}) ty ps af Β]⟩ γ) c):=by exact rfl) (hr:fn.results= #[]:=by exact rfl) (hn:Ζ args<=fn.ntmps:=by exact Nat.le_of_ble_eq_true rfl):fM P f args x O K:=by
 intro G w vs u hw hv hu;refine callsD_of_wpS hf hb λc0 cs hm=>wpS_seq (wpS_region ?_)
 have aY:FR G ⟨fn.ntmps,0⟩ [] (cX 0 args) {tmps:=vs.toArray++Array.replicate (fn.ntmps - vs.toArray.size) undef,defers:=[]}:=by
  have hl:=hv.1;refine⟨rfl,by simp;omega,λt x hx=>?_⟩;rw[kj,if_pos (auC _),Nat.sub_zero]at hx;obtain⟨u,h1,h2⟩:=hv.get hx;refine⟨u,?_,h2⟩;have bI:=(an2.1 h1).1;rw[aus (by simpa using bI)];simpa using h1
 generalize ({tmps:=vs.toArray++Array.replicate (fn.ntmps - vs.toArray.size) undef,defers:=[]}:Act)=a at aY
 have cD:(execOp a.eval (.mk (φ d) (.call {callee:=.builtin .recover,args:= #[],argTypes:= #[]}) ty ps af Β)).run P w= .ok .recover w:=by
  simp[execOp,resolve,invoke,builtin]
 have go:∀(v:Value)(u':FrameMode),VR G (wI x) v->settle u'= .returning->(c.wpS P (bodyPostS P fn c0 cs λr u' w'=>(∃v,r= .returned v)/\settle u'= .returning/\∃O' H,Gh.Le G H/\WR H O' w'/\K O')) (a.put (φ d) v) ({c0 with mode:=u'}::cs) w:=by
  intro v u' WG hs;refine wpS_of_wp ?_;refine wp_mono (WC.sound ht h G _ w hw (FR.put aY hd WG)) ?_;rintro y a' w' ⟨z,e',O',H,g1,g2,g3,g4,g5⟩
  have fin:FR H ⟨fn.ntmps,0⟩ [] e' a'->K O'->bodyPostS P fn c0 cs (λr u' w'=>(∃v,r= .returned v)/\settle u'= .returning/\∃O' H,Gh.Le G H/\WR H O' w'/\K O') .normal a' ({c0 with mode:=u'}::cs) w':=λhf' hk=>
   ⟨hf'.defers,u',rfl,.tuple #[],by simp[results,hr],⟨_,rfl⟩,hs,O',H,g1,g2,hk⟩
  cases y<;>cases z<;>first
   | exact False.elim g4
   | exact fin g3 g5
   | exact g5.elim
 have SF:(Ν (Array.mk [Oper.mk (φ d) (.call {callee:=.builtin .recover,args:= #[],argTypes:= #[]}) ty ps af Β]).size)=[0]:=rfl;rw[SF];simp only[wpOpsS,apF,ahB,cD];have aoC:Region.wanted (Oper.mk (φ d) (.call {callee:=.builtin .recover,args:= #[],argTypes:= #[]}) ty ps af Β) (yielded ⟨[.mk (φ d) (.call {callee:=.builtin .recover,args:= #[],argTypes:= #[]}) ty ps af Β]⟩ a.tmps)=Α:=rfl;rw[if_pos aoC];subst hm
 match x,hmu:c0.mode,hu with
 | none,.returning,_=>
   have Mz:recoverD (c0::cs)=Β:=by simp[recoverD,hmu]
   rw[Mz];have:=go .nilIface .returning (.v rfl) rfl;rw[show({c0 with mode:=.returning}:Frame)=c0 from by rw[<-hmu]]at this;exact this
 | some m,.panicking [⟨v,γ,γ⟩],WG=>
   have Mz:recoverD (c0::cs)=φ (v,{c0 with mode:=.panicking [⟨v,Α,γ⟩]}::cs):=by simp[recoverD,hmu]
   rw[Mz];exact go v _ WG (by simp[settle])
def SG(P:Program)(tab:cB)(rs:List ResultVar)(g:FuncId)(ms:Η)(R:gm->VH->Prop):VQ:=λx e O=>match x with
 | .normal=>fM P g ms Β O λO'=>kf R O' (jQ tab e O' rs)
 | .ret=>fM P g ms Β O λO'=>kf R O' (jQ tab e O' rs)
 | .panic m=>fM P g ms (φ m) O λO'=>kf R O' (jQ tab e O' rs)
 | _=>False
def VF.deferred{g:FuncId}{A rest:Code}{id lo:Nat}{t:Tmp}{cap:Array Operand}{ty ty':TypeId}{ps':String}{af':Array Edge}(hf:P.funcs[f]?=φ fn)(hE:Enters P g)
  (h:WC P tab ⟨k,0⟩ [] A (cX 0 args) O λx e O'=>match x with
   | .normal=>∃ms,g_ e cap.toList=φ ms/\∀D,VC P ⟨k,lo⟩ D rest ((t,.func (.func g) [] ms)::e) O' (SG P tab rs g ms R)
   | _=>False) (ht:aN P tab:=by exact aa) (hb:fn.body=φ (.seq A (.seq (.region id ⟨[.mk (φ t) (.makeFunc (.func g) #[] cap) ty ps af Β,.mk Β (.defer {callee:=.value (.tmp t),args:= #[],argTypes:= #[]}) ty' ps' af' Β]⟩ γ) rest)):=by exact rfl) (hk:fn.ntmps=k:=by exact rfl) (hr:fn.results.toList=rs:=by exact rfl) (hn:Ζ args<=k:=by exact Nat.le_of_ble_eq_true rfl) (fP:t<k:=by decide):VF P f args O R:=by
 subst hk;intro G w vs hw hv;refine calls_of_wp_defers hf hb ?_
 have aY:FR G ⟨fn.ntmps,0⟩ [] (cX 0 args) {tmps:=vs.toArray++Array.replicate (fn.ntmps - vs.toArray.size) undef,defers:=[]}:=by
  have hl:=hv.1;refine⟨rfl,by simp;omega,λt x hx=>?_⟩;rw[kj,if_pos (auC _),Nat.sub_zero]at hx;obtain⟨u,h1,h2⟩:=hv.get hx;refine⟨u,?_,h2⟩;have bI:=(an2.1 h1).1;rw[aus (by simpa using bI)];simpa using h1
 refine wp_seq (wp_mono (WC.sound ht h G _ w hw aY) ?_);rintro y a1 w1 ⟨x,e,O1,H,g1,g2,g3,g4,g5⟩
 cases y<;>cases x<;>first
  | exact False.elim g4
  | exact g5.elim
  | skip
 obtain⟨ms,hm,Xn⟩:=g5;have g3:FR H ⟨fn.ntmps,0⟩ [] e a1:=g3;have kO:=g3.g_ hm;have uE:cap.map a1.eval=(cap.toList.map a1.eval).toArray:=by apply Array.ext';simp
 generalize cap.toList.map a1.eval=us at kO uE
 have Xo:(execOp a1.eval (.mk (φ t) (.makeFunc (.func g) #[] cap) ty ps af Β)).run P w1= .ok (.value (.func (.func g) #[] us.toArray)) w1:=by
  simp[execOp,Instr.makeFunc,uE]
 have hz:=g3.size;dsimp only at hz
 have hev:(a1.put (φ t) (.func (.func g) #[] us.toArray)).eval (.tmp t)= .func (.func g) #[] us.toArray:=by
  simp[Act.eval,Act.put,hz,fP]
 have Xp:(execOp (a1.put (φ t) (.func (.func g) #[] us.toArray)).eval (.mk Β (.defer {callee:=.value (.tmp t),args:= #[],argTypes:= #[]}) ty' ps' af' Β)).run P w1= .ok (.defer {target:=.fn (.func g) us.toArray,args:= #[]}) w1:=by
  simp[execOp,resolve,hev,Deferred.ofValue]
 refine wp_seq (wp_region ?_);have SF:∀o1 o2:Oper,Ν (Array.mk [o1,o2]).size=[0,1]:=λ_ _=>rfl
 rw[SF];have GB:∀(o1 o2:Oper)(tm:Array Value),o1.guard=Β->Region.wanted o1 (yielded ⟨[o1,o2]⟩ tm)=Α:=λo1 o2 tm h=>by simp[Region.wanted,h]
 have xc:∀(o1 o2:Oper)(tm:Array Value),o2.guard=Β->Region.wanted o2 (yielded ⟨[o1,o2]⟩ tm)=Α:=λo1 o2 tm h=>by simp[Region.wanted,h]
 simp only[wpOps,apF,ahB,ai9];rw[if_pos (GB _ _ _ rfl)];refine .inl ?_;unfold Oper.wp;rw[Xo,Oper.upon_value];simp only[wpOps,apF,ahB,ai9];rw[if_pos (xc _ _ _ rfl)];refine .inl ?_;first | unfold Oper.wp | skip
 rw[Xp,Oper.upon_defer];have jh:FR H ⟨fn.ntmps,0⟩ [] ((t,.func (.func g) [] ms)::e) (a1.put (φ t) (.func (.func g) #[] us.toArray)):=FR.put g3 fP (.func (fs:=[]) (us:=[]) rfl (λi c u h=>by simp at h) kO.1 kO.2);generalize a1.put (φ t) (.func (.func g) #[] us.toArray)=a2 at jh;have ku:FR H ⟨fn.ntmps,lo⟩ [{target:=.fn (.func g) us.toArray,args:= #[]}] ((t,.func (.func g) [] ms)::e) {a2 with defers:={target:=.fn (.func g) us.toArray,args:= #[]}::a2.defers}:=⟨by rw[jh.defers],jh.size,jh.get⟩;show rest.wp P _ _ _;refine wp_mono (Xn _ H _ w1 g2 ku) ?_;rintro y a' w' ⟨x,e',O',K,k1,k2,k3,k4,k5⟩
 have hinv:∀w:World,(invoke (.fn (.func g) us.toArray) #[]).run P w= .ok (.enter g us.toArray) w:=λw=>by
  simp[invoke,hE us.toArray w]
 have fin:∀(u:FrameMode)(z:ϱ),u≠ .run->MR K z u->FR K ⟨fn.ntmps,lo⟩ [{target:=.fn (.func g) us.toArray,args:= #[]}] e' a'->fM P g ms z O' (λO'=>kf R O' (jQ tab e' O' rs))->
   Leaves P fn a'.tmps (λx w'=>∃r O' H,Gh.Le G H/\WR H O' w'/\ER H r x/\R r O') a'.defers u w':=by
  intro u z hu hmr KW hd;rw[KW.defers];refine leaves_cons hu (hinv _) ((hd K w' us u k2 (kO.mono k1) hmr).mono ?_);rintro r u' WJ ⟨⟨v,rfl⟩,hs,O2,K2,q1,q2,q3⟩;dsimp only;rw[hs]
  have key:∃m,gX tab fn e' O2=φ m/\R (.ret m) O2:=by
   unfold gX;rw[hr, <-yb];generalize jQ tab e' O2 rs=z at q3;unfold kf at q3;split at q3;exact q3.elim;exact⟨_,rfl,q3⟩
   ·rename_i l hl;refine⟨.tuple l,?_,q3⟩
    match l,hl with
    | [],_=>rfl
    | [m],hl=>exact absurd rfl (hl m)
    | _::_::_,_=>rfl
  obtain⟨m,h6,h7⟩:=key;obtain⟨u2,h8,h9⟩:=ob (P:=P) ht q2 (KW.mono q1) h6;exact⟨u2,h8,.ret m,O2,K2,(g1.trans k1).trans q1,q2,h9,h7⟩
 cases y with
 | normal=>cases x<;>first | exact False.elim k4 | exact fin .returning Β z10 trivial k3 k5
 | ret=>cases x<;>first | exact False.elim k4 | exact fin .returning Β z10 trivial k3 k5
 | panic c=>
   cases x with
   | panic m=>
     obtain⟨u,rfl,hvu⟩:=k4;exact fin (.panicking [⟨u,γ,γ⟩]) (φ m) z10 hvu k3.2 k5
   | _=>exact False.elim k4
 | exit i=>cases x<;>first | exact False.elim k4 | exact k5.elim
 | goto i=>cases x<;>first | exact False.elim k4 | exact k5.elim
 | outgrown=>cases x<;>exact False.elim k4
def ac2:jM n []=[]:=rfl
def Xq{N L:Nat}:jM ⟨N,L⟩ ((t,m)::e)=bif decide (t<L)then(t,m)::jM ⟨N,L⟩ e else jM ⟨N,L⟩ e:=rfl
def PD{g:FuncId} :SG P tab rs g ms R .normal e O=fM P g ms Β O λO'=>kf R O' (jQ tab e O' rs):=rfl
def ac3{g:FuncId} :SG P tab rs g ms R .ret e O=fM P g ms Β O λO'=>kf R O' (jQ tab e O' rs):=rfl
def SH{g:FuncId} :SG P tab rs g ms R (.panic m) e O=fM P g ms (φ m) O λO'=>kf R O' (jQ tab e O' rs):=rfl
end
def wd:=Rn @aeM<|Rn @ac2<|Rn @Xq<|Rn @PD<|Rn @ac3<|Rn @SH<|Rn @AL<|Rn @AQ @FO
section
variable{G H:Gh}{n:Sz}{D:List Deferred}{e:Env}{a:Act}{P:Program}{tab:cB}{O O':VH}{w:World}{m m':MV}{u v:Value}{ops:Array Oper}{Q:VQ}{md:Md}
def WR.afP(h:WR G O w)(X:Obj):G.Le {G with cJ:=bQ G.cJ O.N (φ w.heap.size)}/\WR {G with cJ:=bQ G.cJ O.N (φ w.heap.size)} (O.push (.obj X)) (w.alloc X):=by
 have hle:=Gh.Le.OQ h.pd.1 w.heap.size;have hg:=h.grow X
 have fK:∀k b,bQ G.cJ O.N (φ w.heap.size) k=φ b->(k=O.N/\b=w.heap.size)\/(k≠O.N/\G.cJ k=φ b):=λk b hk=>by
  by_cases e:k=O.N;subst e;rw[aR]at hk;injection hk with hk;exact .inl ⟨rfl,hk.symm⟩;rw[az _ _ e]at hk;exact .inr ⟨e,hk⟩
 have w9:∀j x,bQ O.hp O.N (φ (bO.obj X)) j=φ x->(j=O.N/\x= .obj X)\/(j≠O.N/\O.hp j=φ x):=λj x hj=>by
  by_cases e:j=O.N;subst e;rw[aR]at hj;injection hj with hj;exact .inl ⟨rfl,hj.symm⟩;rw[az _ _ e]at hj;exact .inr ⟨e,hj⟩
 refine⟨hle,hg.base,hg.fm,λk hk=>?_,λk b hk=>?_,λj k b lj lk hj hk=>?_,λk ds hk=>?_,λk es ck hk=>?_,λt ht=>?_,λs t b x y hs ht h1 h2=>?_,h.qF hle.cJ (ni z10) λ_ _ _ _=>je λ_=>eg w _,λk x hk=>?_,h.tX,h.tZ hle (ny z10)⟩;have hk:O.N+1<=k:=hk;obtain⟨h1,h2,h3⟩:=h.sJ k Λ;exact⟨by show bQ _ _ _ _=_;rw[az _ _ Λ];exact h1,h2,by show bQ _ _ _ _=_;rw[az _ _ Λ];exact h3⟩;rcases fK k b hk with⟨_,rfl⟩ | ⟨du,hk⟩;exact⟨h.bsz,z10,λ_=>h.zy⟩;obtain⟨p1,p2,p3⟩:=hg.lx k b hk;exact⟨p1,p2,λhne=>p3 (by have hne:bQ O.hp O.N (φ (.obj X)) k≠Β:=hne;rwa [az _ _ du]at hne)⟩;rcases fK j b hj with⟨rfl,rfl⟩ | ⟨ew,hj⟩<;>rcases fK k _ hk with⟨rfl,hb⟩ | ⟨du,hk⟩;rfl;have:=(h.lx _ _ hk).2.1;omega;subst hb;have:=(h.lx _ _ hj).2.1;omega;exact h.inj j k b (by have lj:bQ O.hp O.N (φ (.obj X)) j≠Β:=lj;rwa [az _ _ ew]at lj) (by have lk:bQ O.hp O.N (φ (.obj X)) k≠Β:=lk;rwa [az _ _ du]at lk) hj hk;rcases w9 k _ hk with⟨_,e⟩ | ⟨_,hk⟩;cases e;obtain⟨b,C,T,h1,h2,h3⟩:=hg.cells k ds hk;exact⟨b,C,T,hle.cJ h1,h2,h3.mono hle⟩;rcases w9 k _ hk with⟨_,e⟩ | ⟨_,hk⟩;cases e;obtain⟨b,E,h1,h2,h3,h4,h5⟩:=hg.map k es ck hk;exact⟨b,E,hle.cJ h1,h2,h3,h4.mono hle,h5.mono hle⟩;rcases w9 t _ ht with⟨_,e⟩ | ⟨_,ht⟩;cases e;obtain⟨b,f,k,r,C,T,h1,h2,h3,h4,h5,h6⟩:=hg.tok t ht;refine⟨b,f,k,r,C,T,h1,h2,h3,h4,h5,λj hj=>?_⟩;rcases fK j b hj with⟨_,rfl⟩ | ⟨_,hj⟩;exact absurd rfl (h.rr ht h1);exact h6 j hj;rcases w9 s _ hs with⟨_,e⟩ | ⟨_,hs⟩;cases e;rcases w9 t _ ht with⟨_,e⟩ | ⟨_,ht⟩;cases e;exact h.mX s t b x y hs ht h1 h2;rcases w9 k _ hk with⟨rfl,e⟩ | ⟨_,hk⟩;injection e with e;subst e;exact⟨w.heap.size,aR _ _ _,by rw[fZ,if_pos rfl]⟩;obtain⟨b,h1,h2⟩:=hg.obj k x hk;exact⟨b,hle.cJ h1,h2⟩
def WR.setObj(h:WR G O w){Y:Obj}(hk:O.hp k=φ (.obj X))(hp:G.cJ k=φ b)(hX:∀C t fr,X≠ .cells C t fr):WR G (O.set k (.obj Y)) {w with heap:=w.heap.setIfInBounds b Y}:=by
 obtain⟨b',h1,h2⟩:=h.obj k X hk;rw[hp]at h1;injection h1 with h1;subst h1;have hne:∀j b',j≠k->O.hp j≠Β->G.cJ j=φ b'->b'≠b:=λj b' hj lj rU e=>hj (h.inj j k b lj z22 (e▸rU) hp)
 have mF:∀j,bQ O.hp k (φ (.obj Y)) j≠Β->O.hp j≠Β:=λj hn=>by
  by_cases e:j=k;subst e;rw[hk];simp
  ·rwa [az _ _ e]at hn
 have ki:=xI Y h2;have fj:∀j,j≠b->({w with heap:=w.heap.setIfInBounds b Y}:World).heap[j]?=w.heap[j]?:=λj hj=>qH _ hj
 have hB:=(h.lx k b hp).1
 have w9:∀j x,(∀y,x≠ .obj y)->bQ O.hp k (φ (bO.obj Y)) j=φ x->j≠k/\O.hp j=φ x:=λj x hx hj=>by
  by_cases e:j=k;subst e;rw[aR]at hj;injection hj with hj;exact absurd hj.symm (hx _);rw[az _ _ e]at hj;exact⟨e,hj⟩
 refine⟨⟨h.base.os,h.base.tape,h.base.output,by simpa using h.base.size,λj hj=>?_⟩,λb' o u' pf=>?_,λj hj=>?_,λj b' hj=>?_,λj k' b' lj lk=>h.inj j k' b' (mF j lj) (mF k' lk),λj ds hj=>?_,λj es2 ck2 hj=>?_,λt ht=>?_,λs t b' x y hs ht=>?_,h.qF id (ni z10) λj b' s hj hs=>je (λx hx=>by
   by_cases e:b'=b
   ·subst e;rw[h2]at hx;injection hx with hx;subst hx;exfalso;simp only[World.shape?,h2]at hs
    cases X<;>first
     | exact hX _ _ _ rfl
     | cases hs
   ·rw[fj _ e];exact hx) hs,λj x hj=>?_,h.tX,h.tZ (Gh.Le.refl _) (ny z10)⟩
 ·rw[fj j (by have:j<G.B:=hj;omega)];exact h.base.block j hj
 ·(have xD:b'≠b:=λe=>by subst e;rw[(h.lx k b' hp).2.2 z22 o]at pf;cases pf);rw[wE _ (by exact xD)];exact h.fm b' o u' pf
 ·obtain⟨d1,d2,d3⟩:=h.sJ j hj;refine⟨d1,d2,?_⟩;show bQ _ _ _ _=_;rw[az _ _ (λe=>by subst e;rw[d3]at hk;cases hk)];exact d3
 ·obtain⟨p1,p2,p3⟩:=h.lx j b' hj;exact⟨p1,by simpa using p2,λhne=>p3 (mF j hne)⟩
 ·obtain⟨e,hj⟩:=w9 j _ z10 hj;obtain⟨b',D,T',d1,d2,d3⟩:=h.cells j ds hj;exact⟨b',D,T',d1,by rw[fj _ (hne j b' e z40 d1)];exact d2,d3⟩
 ·obtain⟨e,hj⟩:=w9 j _ z10 hj;obtain⟨b',E,d1,d2,d3⟩:=h.map j es2 ck2 hj;exact⟨b',E,d1,by rw[fj _ (hne j b' e z40 d1)];exact d2,d3⟩
 ·obtain⟨e,ht⟩:=w9 t _ z10 ht;obtain⟨b',f,k',r,D,T',d1,d2,d3,d4,d6,d7⟩:=h.tok t ht;exact⟨b',f,k',r,D,T',d1,d2,by rw[fj _ (λe=>d7 k (by rw[e];exact hp))];exact d3,d4,d6,d7⟩
 ·obtain⟨_,hs⟩:=w9 s _ z10 hs;obtain⟨_,ht⟩:=w9 t _ z10 ht;exact h.mX s t b' x y hs ht
 ·have hj:bQ O.hp k (φ (.obj Y)) j=φ (.obj x):=hj;by_cases e:j=k;subst e;rw[aR]at hj;injection hj with hj;injection hj with hj;subst hj;exact⟨b,hp,ki⟩;rw[az _ _ e]at hj;obtain⟨b',d1,d2⟩:=h.obj j x hj;exact⟨b',d1,by rw[fj _ (hne j b' e z40 d1)];exact d2⟩
def dd.aar(ht:aN P tab){t ty:TypeId}{l:Ρ}(hu:(tab t).map cg.under=φ .string)(hx:ev e x=φ (.s l)):
  dd P n D (.mk d (.range t x) ty ps af g) e O λm O'=>m= .p O.N 0/\O'=O.push (.obj (.stringIter ⟨⟨l⟩⟩ 0)):=by
 intro G a w hw hf;have h1:=hf.ev hx;generalize hv:a.eval x=v at h1;cases h1;obtain⟨g1,g2⟩:=hw.afP (.stringIter ⟨⟨l⟩⟩ 0);exact⟨_,_,_,_,_,⟨rfl,rfl⟩,by simp only[execOp,hv,Sem.run_bind,run_range_string w t _ (bm ht hu)];rfl,g1,g2,.p (aR _ _ _)⟩
def dd.afQ{ty:TypeId}{l:Ρ}{p:Nat}(hx:ev e x=φ (.p k 0))(hk:O.hp k=φ (.obj (.stringIter ⟨⟨l⟩⟩ p)))(hp:p<Ζ l):
  dd P n D (.mk d (.next x Α) ty ps af g) e O λm O'=>m= .tuple [.v (.bool Α),mi p,.v (.int .i32 (Utf8.decode ⟨⟨l⟩⟩ p).1)]/\O'=O.set k (.obj (.stringIter ⟨⟨l⟩⟩ (p+(Utf8.decode ⟨⟨l⟩⟩ p).2))):=by
 intro G a w hw hf;have h1:=hf.ev hx;generalize hv:a.eval x=v at h1;cases h1 with
 | p rA=>
   rename_i b;obtain⟨b',e1,e2⟩:=hw.obj k _ hk;rw[rA]at e1;injection e1 with e1;subst e1;have mH:p<(⟨⟨l⟩⟩:ByteArray).size:=hp;have g2:=hw.setObj (Y:=.stringIter ⟨⟨l⟩⟩ (p+(Utf8.decode ⟨⟨l⟩⟩ p).2)) hk rA z10;refine⟨_,_,.tuple #[.bool Α,.int .i64 p,.int .i32 (Utf8.decode ⟨⟨l⟩⟩ p).1],_,G,⟨rfl,rfl⟩,?_,Gh.Le.refl G,g2,?_⟩;simp only[execOp,hv,Sem.run_bind,Instr.next,getObj,setObj,Sem.run,e2,Result.andThen,mH,if_true];rfl
   ·exact VR.tuple (cs:=[.v (.bool Α),mi p,.v (.int .i32 (Utf8.decode ⟨⟨l⟩⟩ p).1)]) (us:=[.bool Α,.int .i64 p,.int .i32 (Utf8.decode ⟨⟨l⟩⟩ p).1]) rfl λi c u hc hu=>by
     match i with
     | 0=>simp at hc hu;subst hc;subst hu;exact .v rfl
     | 1=>simp at hc hu;subst hc;subst hu;exact .v rfl
     | 2=>simp at hc hu;subst hc;subst hu;exact .v rfl
     | i+3=>simp at hc
def dd.afR{ty:TypeId}{l:Ρ}{p:Nat}(hx:ev e x=φ (.p k 0))(hk:O.hp k=φ (.obj (.stringIter ⟨⟨l⟩⟩ p)))(hp:Ζ l<=p:=by omega):
  dd P n D (.mk d (.next x Α) ty ps af g) e O λm O'=>m= .tuple [.v (.bool γ)]/\O'=O:=by
 intro G a w hw hf;have h1:=hf.ev hx;generalize hv:a.eval x=v at h1;cases h1 with
 | p rA=>
   rename_i b;obtain⟨b',e1,e2⟩:=hw.obj k _ hk;rw[rA]at e1;injection e1 with e1;subst e1;((have mH:¬p<(⟨⟨l⟩⟩:ByteArray).size:=by have:(⟨⟨l⟩⟩:ByteArray).size=Ζ l:=rfl;omega);refine⟨_,_,.tuple #[.bool γ],_,G,⟨rfl,rfl⟩,?_,Gh.Le.refl G,hw,?_⟩);simp only[execOp,hv,Sem.run_bind,Instr.next,getObj,Sem.run,e2,Result.andThen,mH,if_false];rfl
   ·exact VR.tuple (cs:=[.v (.bool γ)]) (us:=[.bool γ]) rfl λi c u hc hu=>by
     match i with
     | 0=>simp at hc hu;subst hc;subst hu;exact .v rfl
     | i+1=>simp at hc
def d_.letter(ht:aN P tab){src dst ty:TypeId}{r:Int}(hs:(tab src).map cg.under=φ (.int .i32))(hd:(tab dst).map cg.under=φ .string)(hx:ev e x=φ (.v (.int .i32 r))):
  d_ P n D (.mk d (.convert src dst x) ty ps af g) e (.s (Utf8.encode r).data.toList):=by
 intro G a hf;have h1:=(hf.ev hx).jq;refine dL.of (s:=convert src dst (.int .i32 r)) (a_.of (u:=.string (Utf8.encode r)) (λw _=>?_) .s) (by simp[execOp,h1]);simp[convert,run_underlying (bm ht hs),run_underlying (bm ht hd),Conv.intToString]
section
variable{d:Option Tmp}{op:BinOp}{t t' ty:TypeId}{x y:Operand}{ps:String}{af:Array Edge}{g:Option (Nat×Bool)}{b:Bool}{p q:MV}
def Xr:dE tab (.mk d (.range t x) ty ps af g) e O=Β:=rfl
def ac4:dE tab (.mk d (.next x b) ty ps af g) e O=Β:=rfl
def GC:dE tab (.mk d (.typeAssert x t t' b) ty ps af g) e O=Β:=rfl
def BF(t:TypeId):Option cg->Option MV->Option MV
 | some i,φ p=>match i.under with
   | .interface _=>Β
   | _=>φ (.iface t p)
 | _,_=>Β
def ac5:dE tab (.mk d (.makeInterface t x) ty ps af g) e O=(BF t (tab t) (ev e x)).map (·,O):=by
 unfold dE ft jr BF;dsimp only;cases tab t with
 | none=>rfl
 | some i=>
   cases ev e x with
   | none=>obtain⟨u,a,b,z⟩:=i;cases u<;>rfl
   | some p=>obtain⟨u,a,b,z⟩:=i;cases u<;>rfl
def Xs:dE tab (.mk d (.panic x) ty ps af g) e O=Β:=rfl
def ac6:dK tab op t (.iface ty p) (.v .nilIface)=Β:=by cases op<;>rfl
def ac7:dK tab op t (.v .nilIface) (.iface ty p)=Β:=by cases op<;>rfl
def afS :uD (.tuple cs) i=cs[i]?:=rfl
def afT{r:Int}{a b a' b':Nat}{z z':Η}:Pt (.v (.int .i32 r)) (φ ⟨.int .i32,a,b,z⟩) (φ ⟨.string,a',b',z'⟩)=Β:=rfl
def afU:dK tab op t (.v .nilIface) (.v .nilIface)=Β:=by cases op<;>rfl
end
end
def wi:=Rn @ac5<|Rn @Xr<|Rn @ac4<|Rn @GC<|Rn @Xs<|Rn @ac6<|Rn @ac7<|Rn @afS<|Rn @afT @afU
section
variable{G H:Gh}{n:Sz}{D:List Deferred}{e e':Env}{a:Act}{P:Program}{tab:cB}{O O':VH}{w:World}{m m':MV}{u v:Value}{ops:Array Oper}{Q:VQ}{md:Md}
def VL.ake(hl:∀t x,look e' t=φ x->look e t=φ x)(h:VL P n D .any ops L e' O Q):VL P n D .any ops L e O Q:=
 λfuel listed ix h1 h2 G a w hw hf=>h fuel listed ix h1 h2 G a w hw (hf.less hl)
def VL.IC{d1 d2:Nat}{t1 t2 ty1 ty2:TypeId}{x1 x2:Operand}{ps1 ps2:String}{af1 af2:Array Edge}{g1 g2:Option (Nat×Bool)}{p1 p2:MV}(Ei:fq tab O t1 p1=φ m1)(ph:fq tab O t2 p2=φ m2)
  (h:VL P n D .any ops L ((d2,m2)::(d1,m1)::e) O Q) (ht:aN P tab:=by exact aa) (dz:ev e x1=φ p1:=by exact rfl) (dQ:ev e x2=φ p2:=by exact rfl) (KX:bj n (φ d1)=Α:=by exact rfl) (nS:bj n (φ d2)=Α:=by exact rfl) (hne:(d1==d2)=γ:=by exact rfl) (aM:aK ops (.mk (φ d1) (.load t1 x1) ty1 ps1 af1 g1) e=φ Α:=by exact rfl) (ax:aK ops (.mk (φ d2) (.load t2 x2) ty2 ps2 af2 g2) e=φ Α:=by exact rfl) (ap4:aK ops (.mk (φ d1) (.load t1 x1) ty1 ps1 af1 g1) ((d2,m2)::e)=φ Α:=by exact rfl) (ap5:aK ops (.mk (φ d2) (.load t2 x2) ty2 ps2 af2 g2) ((d1,m1)::e)=φ Α:=by exact rfl) (ap6:ev ((d2,m2)::e) x1=φ p1:=by exact rfl) (ap7:ev ((d1,m1)::e) x2=φ p2:=by exact rfl):VL P n D .any ops ((.fk,.mk (φ d1) (.load t1 x1) ty1 ps1 af1 g1)::(.one,.mk (φ d2) (.load t2 x2) ty2 ps2 af2 g2)::L) e O Q:=by
 refine VL.fork ht (O1:=O) (O2:=O) (O3:=O) (O4:=O) (mi:=m1) (mj:=m2) (mi':=m1) (mj':=m2) aM (by rw[rN,dz,alp,Ei];rfl) KX ap5 (by rw[rN];show((ev ((d1,m1)::e) x2).bind _)=_;rw[ap7,alp,ph];rfl) nS ax (by rw[rN,dQ,alp,ph];rfl) ap4 (by rw[rN];show((ev ((d2,m2)::e) x1).bind _)=_;rw[ap6,alp,Ei];rfl) h (VL.ake ?_ h);intro t x hx;simp only[look,aU]at hx ⊢;by_cases e1:d1=t;subst e1;rw[hne]at hx;simpa using hx
 ·have e2:(t==d1)=γ:=by simpa usingλe=>e1 e.symm
  rw[e2]at hx ⊢;exact hx
def kX(cs:Η)(X:Obj)(G:Gh):Prop:=∃C:Array Value,∃T:Fz C,X= .cells C T.t T.fr/\aX G cs (C.toList.take (Ζ cs))
def kX.mono(h:G.Le H)(hx:kX cs X G):kX cs X H:=by
 obtain⟨C,T,h1,h2⟩:=hx;exact⟨C,T,h1,h2.mono h⟩
def VH.sY{x:bO} :(j=k/\(O.set k x).hp j=φ x)\/(j≠k/\(O.set k x).hp j=O.hp j):=by
 by_cases e:j=k;subst e;exact .inl ⟨rfl,υ _ _ _⟩;exact .inr ⟨e,τ _ _ e⟩
def Ej{x:bO}(hk:O.hp k≠Β)(h:(O.set k x).hp j≠Β):O.hp j≠Β:=by
 rcases VH.sY (O:=O) (x:=x) (k:=k) (j:=j)with⟨rfl,_⟩ | ⟨_,e⟩;exact hk
 ·rwa [e]at h
def WR.swap{x:bO}(h:WR G O w)(hk:O.hp k≠Β)(hc:∀cs,x= .cells cs->∃b,∃C:Array Value,∃T:Fz C,G.cJ k=φ b/\w.heap[b]?=φ (.cells C T.t T.fr)/\aX G cs (C.toList.take (Ζ cs)))
  (ho:∀X,x= .obj X->∃b,G.cJ k=φ b/\w.heap[b]?=φ X) (hm:∀es ck,x≠ .map es ck) (ht:x≠ .tok) (hs:∀j t n,x≠ .shape j t n) (hf:∀p,x≠ .fact p:=by intro _ e;cases e):WR G (O.set k x) w where
 base:=h.base
 fm:=h.fm
 sJ j hj:=by
  obtain⟨h1,h2,h3⟩:=h.sJ j hj;exact⟨h1,h2,(τ _ _ (λe=>by subst e;exact hk h3)).trans h3⟩
 lx j b hj:=by
  obtain⟨h1,h2,h3⟩:=h.lx j b hj;exact⟨h1,h2,λhn=>h3 (Ej hk hn)⟩
 inj i j b hi hj:=h.inj i j b (Ej hk hi) (Ej hk hj)
 cells j cs hj:=by
  rcases VH.sY (O:=O) (x:=x) (k:=k) (j:=j)with⟨rfl,e⟩ | ⟨_,e⟩;rw[e]at hj;injection hj with hj;exact hc cs hj;rw[e]at hj;exact h.cells j cs hj
 map j es ck hj:=by
  rcases VH.sY (O:=O) (x:=x) (k:=k) (j:=j)with⟨rfl,e⟩ | ⟨_,e⟩;rw[e]at hj;injection hj with hj;exact absurd hj (hm _ _);rw[e]at hj;exact h.map j es ck hj
 tok j hj:=by
  rcases VH.sY (O:=O) (x:=x) (k:=k) (j:=j)with⟨rfl,e⟩ | ⟨_,e⟩;rw[e]at hj;injection hj with hj;exact absurd hj ht;rw[e]at hj;exact h.tok j hj
 mX i j b y z hi hj:=by
  rcases VH.sY (O:=O) (x:=x) (k:=k) (j:=i)with⟨rfl,e⟩ | ⟨_,e⟩;rw[e]at hi;injection hi with hi;exact absurd hi ht;rw[e]at hi;rcases VH.sY (O:=O) (x:=x) (k:=k) (j:=j)with⟨rfl,e⟩ | ⟨_,e⟩;rw[e]at hj;injection hj with hj;exact absurd hj ht;rw[e]at hj;exact h.mX i j b y z hi hj
 n4 j k' t n hj:=by
  rcases VH.sY (O:=O) (x:=x) (k:=k) (j:=j)with⟨rfl,e⟩ | ⟨_,e⟩;rw[e]at hj;injection hj with hj;exact absurd hj (hs _ _ _);rw[e]at hj;exact h.n4 j k' t n hj
 obj j y hj:=by
  rcases VH.sY (O:=O) (x:=x) (k:=k) (j:=j)with⟨rfl,e⟩ | ⟨_,e⟩;rw[e]at hj;injection hj with hj;exact ho y hj;rw[e]at hj;exact h.obj j y hj
 tX:=h.tX
 HD:=h.tZ (Gh.Le.refl _) (ny hf)
def WR.fix(h:WR G O w)(hk:O.hp k=φ (.cells cs)):∃X,kX cs X G/\WR G (O.set k (.obj X)) w:=by
 obtain⟨b,C,T,h1,h2,h3⟩:=h.cells k cs hk;exact⟨_,⟨C,T,rfl,h3⟩,h.swap z22 (λ_ e=>by cases e) (λX e=>by injection e with e;exact⟨b,h1,by rw[h2,e]⟩) (λ_ _ e=>by cases e) (λe=>by cases e) (λ_ _ _ e=>by cases e) (λ_ e=>by cases e)⟩
def WR.ye(h:WR G O w)(hk:O.hp k=φ (.obj X))(hx:kX cs X G):WR G (O.set k (.cells cs)) w:=by
 obtain⟨b,h1,h2⟩:=h.obj k X hk;obtain⟨C,T,rfl,h3⟩:=hx;exact h.swap z22 (λcs' e=>by injection e with e;subst e;exact⟨b,C,T,h1,h2,h3⟩) (λX e=>by cases e) (λ_ _ e=>by cases e) (λe=>by cases e) (λ_ _ _ e=>by cases e) (λ_ e=>by cases e)
def VC.mJ{id:Nat}(brk:Τ)(k:Nat)(hk:O.hp k=φ (.cells cs))(h:∀X,ab P n D ops brk (λO'=>O'.hp k=φ (.obj X)) (kX cs X) True ops.size (Array.replicate ops.size γ) e (O.set k (.obj X)) Q)(hm:P.follows .mixedOrders=Α:=by kernel_rfl):VC P n D (.region id ops Α) e O Q:=
 λG a w hw hf=>by
  obtain⟨X,hx,xc⟩:=(hw.drawn _).fix hk;exact wp_region_any hm (lE _ _ _ _ (h X (λ_ _=>kX.mono) trivial (υ _ _ _) G a _ hx xc hf))
def ID(ht:aN P tab){t:TypeId}{i:cg}(hi:tab t=φ i)(hv:n6 (fA i.under) i.size cs off=φ m)(nP:aX G cs us):
  ∃r,VR G m r/\∀y b,(∀j v,us[j]?=φ v->y.cell? ⟨b,j,Β⟩=φ v)->(Instr.loadAt t (.pointer (φ ⟨b,off,Β⟩))).run P y= .ok r y:=by
 have gk:=ht t i hi;simp only[Instr.loadAt,Instr.sureAddr,loadVar];unfold n6 at hv;split at hv
 ·rename_i rV;split at hv
  ·rename_i hle;injection hv with hv;subst hv;have Ft:=(nP.drop off).take i.size;(have hlen:((us.drop off).take i.size).length=i.size:=by simp[nP.1];omega);refine⟨_,.agg Ft.1 Ft.2,λy b hy=>?_⟩
   have Cr:∀j v,((us.drop off).take i.size)[j]?=φ v->y.cell? ((⟨b,off,Β⟩:Addr).add j)=φ v:=by
    intro j v hj;rw[Addr.add_lit];rw[ai_]at hj;split at hj;rw[atM]at hj;exact hy _ v hj;cases hj
   have Bt:=run_loadCells_list (P:=P) y ⟨b,off,Β⟩ _ Cr;rw[hlen]at Bt;simp[qf gk,rV,f_ gk,Bt]
  ·cases hv
 ·rename_i rV;obtain⟨v,t_,D7⟩:=nP.get hv;exact⟨v,D7,λy b hy=>by simp[qf gk,rV,hy _ v t_]⟩
def auQ(i:Nat){l:ϕ}{t:TypeId}{ty:TypeId}(hv:fq tab (O.set k (.cells cs)) t (.p k off)=φ m)(h:ab P n D ⟨l⟩ brk (λO'=>O'.hp k=φ (.obj X)) (kX cs X) True fuel (listed.setIfInBounds i Α) (aU d m e) O Q)(ht:aN P tab:=by exact aa)(ho:l[i]?=φ (.mk d (.load t x) ty ps af g):=by exact rfl)(hs:Region.noSelect ⟨l⟩=Α:=by kernel_rfl)(hf:Region.free .any ⟨l⟩ listed i=Α:=by kernel_rfl)(hr:(Region.ready .any ⟨l⟩ listed).contains i=Α:=by kernel_rfl)(hb:mI ⟨l⟩ brk listed i=Α:=by kernel_rfl)(hg:aK ⟨l⟩ (.mk d (.load t x) ty ps af g) e=φ Α:=by exact rfl)(hd:bj n d=Α:=by exact rfl)(hx:ev e x=φ (.p k off):=by exact rfl):ab P n D ⟨l⟩ brk (λO'=>O'.hp k=φ (.obj X)) (kX cs X) True (fuel+1) listed e O Q:=by
 refine ab.take (o:=.mk d (.load t x) ty ps af g) z20 hs hf hr hb hd (λG a w _ hJ hψ hw aY=>?_) h;obtain⟨C,T,rfl,h3⟩:=hψ;unfold fq at hv;simp only[cellsOf,υ]at hv;split at hv
 ·rename_i ti cs' off' hti hc;injection hc with hc;injection hc with e1 e2;subst e1;subst e2
  obtain⟨r,sL,fR⟩:=ID (P:=P) ht hti hv h3;have hxr:=aY.ev hx;generalize hxe:a.eval x=xu at hxr;cases hxr with
  | p hp=>
    rename_i b;refine⟨r,sL,.inl ⟨bz aY hg,λy hy=>?_⟩⟩;obtain⟨H,O2,g1,g2,g3⟩:=hy;obtain⟨b',cS,bV⟩:=g2.obj k _ g3;rw[g1.cJ hp]at cS;injection cS with cS;subst cS
    have:=fR y b λj v hj=>by
     rw[ai_]at hj;split at hj;simp only[World.cell?,bV,an3,an4,if_false];simpa using hj;cases hj
    simp only[execOp,Sem.run_bind,hxe,this];rfl
 ·cases hv
def akf{Q Q':Exit->Act->World->Prop}{K:Act->World->Prop}(hQ:∀y a w,Q y a w->Q' y a w)(h1:wpOp P ops Q i K a w):wpOp P ops Q' i K a w:=by
 unfold wpOp at h1 ⊢;split;rename_i ho;simp only[ho]at h1;exact h1
 ·rename_i o ho;simp only[ho]at h1;split
  ·rename_i uc;simp only[uc,if_true]at h1;refine h1.imp (λh2=>?_) (λ⟨h2,a',w',h3⟩=>⟨h2,a',w',hQ _ _ _ h3⟩);unfold Oper.wp at h2 ⊢;generalize (execOp a.eval o).run P w=r at*;cases r with
   | ok nx w'=>
     cases nx<;>simp only[Oper.upon]at h2 ⊢ <;>first
      | exact h2
      | (refine Calls.mono h2 λx WJ he=>?_
         cases x with
         | returned v=>exact he
         | panicked c=>exact hQ _ _ _ he
         | outgrown=>obtain⟨a',w',h3⟩:=he;exact⟨a',w',hQ _ _ _ h3⟩)
   | halt x w'=>cases x<;>simp only[Oper.upon]at h2 ⊢ <;>first | exact h2 | exact hQ _ _ _ h2
  ·rename_i uc;simp only[uc]at h1;exact h1
def aas(k:Nat)(X:Obj)(cs:Η)(Q:VQ):VQ:=λx e O=>match x with
 | .panic m=>O.hp k=φ (.obj X)/\Q (.panic m) e (O.set k (.cells cs))
 | _=>False
def aas.post{y:Exit}(hψ :kX cs X G)(h:cU G n D (aas k X cs Q) y a w):cU G n D Q y a w:=by
 obtain⟨x,e,O,H,h1,h2,h3,h4,h5⟩:=h;cases x with
 | panic m=>exact⟨_,e,_,H,h1,h2.ye h5.1 (hψ.mono h1),h3,h4,h5.2⟩
 | _=>exact h5.elim
def ab.iH{l:ϕ}{f:Operand}{as_:Array Operand}{ts:Array TypeId}{ty:TypeId}{id:FuncId}(hR:VF P id ms O R)
  (h:∀m O',R (.ret m) O'->O'.hp k=φ (.obj X)/\ab P n D ⟨l⟩ brk (λO'=>O'.hp k=φ (.obj X)) (kX cs X) True fuel (listed.setIfInBounds i Α) (aU d m e) O' Q) (h2:∀m O',R (.panic m) O'->O'.hp k=φ (.obj X)/\Q (.panic m) (jM n e) (O'.set k (.cells cs))) (hr:Region.ready .any ⟨l⟩ listed=[i]:=by kernel_rfl) (ho:l[i]?=φ (.mk d (.call {callee:=.value f,args:=as_,argTypes:=ts}) ty ps af g):=by exact rfl) (hg:aK ⟨l⟩ (.mk d (.call {callee:=.value f,args:=as_,argTypes:=ts}) ty ps af g) e=φ Α:=by exact rfl) (hf:ev e f=φ (.func (.func id) [] []):=by exact rfl) (hm:g_ e as_.toList=φ ms:=by exact rfl) (hb:cV P id=Α:=by kernel_rfl) (hd:bj n d=Α:=by exact rfl):ab P n D ⟨l⟩ brk (λO'=>O'.hp k=φ (.obj X)) (kX cs X) True (fuel+1) listed e O Q:=by
 intro hΨ hZ hJ G a w hψ hw aY;refine kc hr z10 λj hj=>?_
 obtain rfl:j=i:=by simpa using hj
 have h1:=aQ.call (Q:=aas k X cs Q) (K:=λe' O'=>O'.hp k=φ (.obj X)/\ab P n D ⟨l⟩ brk (λO'=>O'.hp k=φ (.obj X)) (kX cs X) True fuel (listed.setIfInBounds j Α) e' O' Q) (o:=.mk d (.call {callee:=.value f,args:=as_,argTypes:=ts}) ty ps af g) z20 hg rfl rfl hf hm (Enters.w_ hb) hd (by simpa using hR) (λr O' hr=>by
  cases r with
  | ret m=>exact h m O' hr
  | panic m=>exact h2 m O' hr) G a w hw aY
 refine akf (λ_ _ _=>aas.post hψ) (wpOp_mono (λa' w' ⟨e',O',H,h1,h2,h3,h4,h5⟩=>⟨TE.mk ⟨H,O',h1,h2,h4⟩,jf (λ_ _ _=>cU.le h1) _ _ _ _ (λk _ x hT=>hT.le h1) (h5 hΨ hZ h4 H a' w' (hψ.mono h1) h2 h3)⟩) h1)
def ab.ye(hb:((List.range listed.size).all λj=>listed.getD j Α||brk.contains j)=Α)(h:cf P n D ops fuel listed e (O.set k (.cells cs)) Q):ab P n D ops brk (λO'=>O'.hp k=φ (.obj X)) (kX cs X) True fuel listed e O Q:=by
 intro hΨ hZ hJ G a w hψ hw aY;refine ou _ _ _ _ (λj hj x hs=>⟨hs,λhh=>?_⟩) (h G a w (hw.ye hJ hψ) aY);rcases auv j listed.size with hl | hl;have:=apH.1 hb j (auo.2 hl);rw[hj,auH]at this;rw[this]at hh;cases hh;rw[aup,auj z37]at hj;cases hj
def ab.mK(ix:List (Nat×Fl)){l:ϕ} 
  (h:WL P tab n D .any ⟨l⟩ Q L e (O.set k (.cells cs))) (ht:aN P tab:=by exact aa) (hb:((List.range listed.size).all λj=>listed.getD j Α||brk.contains j)=Α:=by kernel_rfl) (hs:Region.noSelect ⟨l⟩=Α:=by kernel_rfl) (hp:cP .any ⟨l⟩ fuel listed ix=Α:=by kernel_rfl) (hL:pw l ix=φ L:=by exact rfl):ab P n D ⟨l⟩ brk (λO'=>O'.hp k=φ (.obj X)) (kX cs X) True fuel listed e O Q:=ab.ye hb (cf.bM ix h (ht:=ht) (hs:=hs) (hp:=hp) (hL:=hL))
end
def Wk(m m':MV):Prop:=∀G u,VR G m u->VR G m' u
def fw(a b:Η):Prop:=Ζ a=(Ζ b)/\∀(i:Nat)(c d:MV),a[i]?=φ c->b[i]?=φ d->Wk c d
def Wk.refl(m:MV):Wk m m:=λ_ _ h=>h
def Wk.trans{a b c:MV}(h:Wk a b)(k:Wk b c):Wk a c:=λG u x=>k G u (h G u x)
def fw.refl(a:Η):fw a a:=⟨rfl,λi c d h k=>by rw[h]at k;injection k with k;subst k;exact Wk.refl _⟩
def fw.cons{b:Η}{x y:MV}(h:Wk x y)(k:fw a b):fw (x::a) (y::b):=by
 refine⟨by rw[aul,aul,k.1],λi c d e f=>?_⟩;cases i with
 | zero=>simp only[ahB,Option.some.injEq]at e f;subst e;subst f;exact h
 | succ i=>simp only[ai9]at e f;exact k.2 i c d e f
def fw.get{b:Η}(k:fw a b){d:MV}(h:b[i]?=φ d):∃c,a[i]?=φ c/\Wk c d:=by
 have hi:i<Ζ a:=by rw[k.1];exact(an2.1 h).1
 exact⟨a[i],Ro hi,k.2 i _ _ (Ro hi) h⟩
def fw.use{b:Η}(k:fw a b)(h:∀(i:Nat)(c:MV)(u:Value),a[i]?=φ c->us[i]?=φ u->VR G c u):∀(i:Nat)(c:MV)(u:Value),b[i]?=φ c->us[i]?=φ u->VR G c u:=λi d u h1 h2=>by
 obtain⟨c,h3,h4⟩:=k.get h1;exact h4 G u (h i c u h3 h2)
def fw.vrs{b:Η}(k:fw a b)(h:aX G a us):aX G b us:=⟨h.1.trans k.1,k.use h.2⟩
def Wk.agg{b:Η}(k:fw a b):Wk (.agg a) (.agg b):=λG u h=>by
 cases h with
 | agg h1 h2=>exact .agg (h1.trans k.1) (k.use h2)
def Wk.tuple{b:Η}(k:fw a b):Wk (.tuple a) (.tuple b):=λG u h=>by
 cases h with
 | tuple h1 h2=>exact .tuple (h1.trans k.1) (k.use h2)
def Wk.iface{t:TypeId}{a b:MV}(k:Wk a b):Wk (.iface t a) (.iface t b):=λG u h=>by
 cases h with
 | iface h1=>exact .iface (k G _ h1)
def fw.eq_nil{b:Η}(k:fw [] b):b=[]:=aev k.1.symm
def Wk.l{b:Η}{t:Tok}(k:fw a b):Wk (.l n a t) (.l n b t):=λG u h=>by
 cases h with
 | slnil=>rw[k.eq_nil];exact .slnil
 | qE h1=>rw[k.eq_nil];exact .qE h1
 | kV=>rw[k.eq_nil];exact .kV
 | l h1 h2 h3 h4 h5 h6=>exact .l (h1.trans k.1) h2 (k.use h3) h4 h5 (k.1▸h6)
def Wk.tok{t:Tok}:Wk (.l n a t) (.l n a .av):=λG u h=>by
 cases h with
 | slnil=>exact .kV
 | qE h1=>exact .qE h1
 | kV=>exact .kV
 | l h1 h2 h3 h4 h5 h6=>exact .l h1 h2 h3 h4 h5 trivial
mutual
def av:MV->MV
 | .l n cs _=>.l n (de cs) .av
 | .agg cs=>.agg (de cs)
 | .tuple cs=>.tuple (de cs)
 | .iface t x=>.iface t (av x)
 | .v x=>.v x
 | .s l=>.s l
 | .p b o=>.p b o
 | .dV cs o=>.dV cs o
 | .bk b o n c=>.bk b o n c
 | .map b=>.map b
 | .func f a b=>.func f a b
def de:Η->Η
 | []=>[]
 | c::cs=>av c::de cs
end
mutual
def CS:∀m,Wk m (av m)
 | .l n cs t=>by rw[av];exact(Wk.l (r9 cs)).trans Wk.tok
 | .agg cs=>by rw[av];exact Wk.agg (r9 cs)
 | .tuple cs=>by rw[av];exact Wk.tuple (r9 cs)
 | .iface t x=>by rw[av];exact Wk.iface (CS x)
 | .v x=>by rw[av];exact Wk.refl _
 | .s l=>by rw[av];exact Wk.refl _
 | .p b o=>by rw[av];exact Wk.refl _
 | .dV cs o=>by rw[av];exact Wk.refl _
 | .bk b o n c=>by rw[av];exact Wk.refl _
 | .map b=>by rw[av];exact Wk.refl _
 | .func f a b=>by rw[av];exact Wk.refl _
def r9:∀cs,fw cs (de cs)
 | []=>by rw[de];exact fw.refl _
 | c::cs=>by rw[de];exact fw.cons (CS c) (r9 cs)
end
def ov(a b:Η):de (a++b)=de a++de b:=by
 induction a with
 | nil=>rw[de,auA,auA]
 | cons x a ih=>rw[auu,de,de,ih,auu]
def iI{α :Type}{f: α ->Η}(h:∀x,de (f x)=f x)(L:List α):de (L.flatMap f)=L.flatMap f:=by
 induction L with
 | nil=>rw[List.flatMap_nil,de]
 | cons x L ih=>rw[List.flatMap_cons,ov,h,ih]
def ac8(L:List Ρ):de (L.map .s)=L.map .s:=by
 induction L with
 | nil=>rw[aug,de]
 | cons x L ih=>rw[ai8,de,av,ih]
def re:MV->MV
 | .l n cs t=>.l n (de cs) t
 | m=>av m
def SI(m:MV):Wk m (re m):=by
 cases m with
 | l n cs t=>exact Wk.l (r9 cs)
 | _=>exact CS _
def IE:Η->Η
 | []=>[]
 | c::cs=>re c::IE cs
def SJ:∀cs,fw cs (IE cs)
 | []=>fw.refl _
 | c::cs=>fw.cons (SI c) (SJ cs)
def uK:MV->MV
 | .l n cs t=>.l n (de cs) t
 | .tuple cs=>.tuple (IE cs)
 | m=>av m
def afV(m:MV):Wk m (uK m):=by
 cases m with
 | l n cs t=>exact Wk.l (r9 cs)
 | tuple cs=>exact Wk.tuple (SJ cs)
 | _=>exact CS _
section
variable{P:Program}{f:FuncId}{as_ bs:Η}{O:VH}
def VF.fgR{R:gm->VH->Prop} (h:VF P f as_ O λr O'=>match r with
  | .ret m=>R (.ret (uK m)) O'
  | .panic m=>R (.panic (av m)) O'):VF P f as_ O R:=λG w vs hw hv=>by
 refine(h G w vs hw hv).mono ?_;rintro x w' ⟨r,O',H,h1,h2,h3,h4⟩;cases r with
 | ret m=>cases x with
   | returned v=>exact⟨.ret _,O',H,h1,h2,afV m H v h3,h4⟩
   | _=>exact h3.elim
 | panic m=>cases x with
   | panicked c=>obtain⟨u,h5,h6⟩:=h3;exact⟨.panic _,O',H,h1,h2,⟨u,h5,CS m H u h6⟩,h4⟩
   | _=>exact h3.elim
def VF.fg{Φ :MV->VH->Prop}(h:VF P f as_ O (aC λm O'=> Φ (uK m) O')):VF P f as_ O (aC Φ):=VF.fgR (VF.mono (λr O' hr=>by cases r with
 | ret m=>exact hr
 | panic m=>exact hr.elim) h)
variable{n:Sz}{md:Md}{Q:VQ}{e:Env}{K:Env->VH->Prop}
end
section
variable{P:Program}{tab:cB}{n:Sz}{D:List Deferred}{md:Md}{ops:Array Oper}{Q:VQ}{e e':Env}{O O':VH}{m m':MV}
def EW(e e':Env):Prop:=∀t x',look e' t=φ x'->∃x,look e t=φ x/\Wk x x'
def EW.refl(e:Env):EW e e:=λt x h=>⟨x,h,Wk.refl _⟩
def EW.top(h:Wk m m'):EW ((k,m)::e) ((k,m')::e):=λt x hx=>by
 rw[look]at hx ⊢;cases ht:t==k;rw[ht]at hx;exact⟨x,hx,Wk.refl _⟩;rw[ht]at hx;injection hx with hx;subst hx;exact⟨m,rfl,h⟩
def EW.aU(h:Wk m m'):EW (aU d m e) (aU d m' e):=by
 cases d with
 | none=>exact EW.refl _
 | some k=>exact EW.top h
def FR.wk{a:Act}(h:FR G n D e a)(hl:EW e e'):FR G n D e' a:=⟨h.defers,h.size,λt x hx=>by
 obtain⟨y,h1,h2⟩:=hl t x hx;obtain⟨u,h3,h4⟩:=h.get t y h1;exact⟨u,h3,h2 G u h4⟩⟩
def VL.wk(hl:EW e e')(h:VL P n D md ops L e' O Q):VL P n D md ops L e O Q:=λfuel listed ix h1 h2=>by
 have:=h fuel listed ix h1 h2;cases md<;>exactλG a w hw hf=>this G a w hw (hf.wk hl)
def Ξ{d:Code}{σ :Type}(l:Τ)(ms: σ ->Η)(I: σ ->VH->Prop)(h1:VC P n D c e O (aE l ms I Q))(h2:∀s O,I s O->VC P n D d (ko l (ms s) []) O Q):VC P n D (.seq c d) e O Q:=by
 refine VC.seq (VC.mono ?_ h1);intro x e O h;cases x with
 | normal=>
   obtain⟨s,h3,h4⟩:=h;exact VC.env (h2 s O h4) (ji (e0:=[]) (λt x h=>by simp[look]at h) h3)
 | _=>exact h
def VL.o7{t ty:TypeId}{p:MV}(hv:jO tab O t p q=φ (m,O'))(hw:re m=m')(h:WL P tab n D md ops Q L (aU d m' e) O')(ht:aN P tab:=by exact aa)(hx:ev e x=φ p:=by exact rfl)(hy:ev e y=φ q:=by exact rfl)(hg:aK ops (.mk d (.call {callee:=.builtin .append,args:= #[x,y],argTypes:= #[t,t]}) ty ps af g) e=φ Α:=by exact rfl)(hd:bj n d=Α:=by exact rfl):
  VL P n D md ops ((.one,.mk d (.call {callee:=.builtin .append,args:= #[x,y],argTypes:= #[t,t]}) ty ps af g)::L) e O Q:=
 VL.step ht hg (by rw[zM,eN,hx,hy];exact hv) hd (VL.wk (EW.aU (hw▸SI m)) (WL.sound ht h))
end
section
variable{n:Nat}{cs as_ bs:Η}{t:Tok}{ty:TypeId}{x:MV}{l:Ρ}{b o:Nat}{v:Value}{f:Fn}{c:MV}
def afW:uK (.l n cs t)= .l n (de cs) t:=rfl
def SK:uK (.tuple cs)= .tuple (IE cs):=rfl
def ac9:uK (.agg cs)= .agg (de cs):=by show av (.agg cs)=_;rw[av]
def akg:uK (.v v)= .v v:=by show av (.v v)=_;rw[av]
def ac_:uK (.s l)= .s l:=by show av (.s l)=_;rw[av]
def ada:uK (.p b o)= .p b o:=by show av (.p b o)=_;rw[av]
def adb :uK (.bk b o i j)= .bk b o i j:=by show av (.bk b o i j)=_;rw[av]
def ade:uK (.map b)= .map b:=by show av (.map b)=_;rw[av]
def Xt:uK (.func f as_ bs)= .func f as_ bs:=by show av (.func f as_ bs)=_;rw[av]
def uL:re (.l n cs t)= .l n (de cs) t:=rfl
def SL:re (.tuple cs)= .tuple (de cs):=by show av (.tuple cs)=_;rw[av]
def adf:re (.agg cs)= .agg (de cs):=by show av (.agg cs)=_;rw[av]
def akh:re (.v v)= .v v:=by show av (.v v)=_;rw[av]
def adg:re (.s l)= .s l:=by show av (.s l)=_;rw[av]
def adh:re (.p b o)= .p b o:=by show av (.p b o)=_;rw[av]
def Xu:re (.dV cs o)= .dV cs o:=by show av (.dV cs o)=_;rw[av]
def adi :re (.bk b o i j)= .bk b o i j:=by show av (.bk b o i j)=_;rw[av]
def adj:re (.map b)= .map b:=by show av (.map b)=_;rw[av]
def Xv:re (.func f as_ bs)= .func f as_ bs:=by show av (.func f as_ bs)=_;rw[av]
def SM:re (.iface ty x)= .iface ty (av x):=by show av (.iface ty x)=_;rw[av]
def adk:IE []=[]:=rfl
def Xw:IE (c::cs)=re c::IE cs:=rfl
def aki:av (.l n cs t)= .l n (de cs) .av:=by rw[av]
def afX:av (.agg cs)= .agg (de cs):=by rw[av]
def aoD:av (.v v)= .v v:=by rw[av]
def afY:av (.s l)= .s l:=by rw[av]
def afZ:av (.p b o)= .p b o:=by rw[av]
def af0 :av (.bk b o i j)= .bk b o i j:=by rw[av]
def af3:av (.map b)= .map b:=by rw[av]
def Xx:av (.iface ty x)= .iface ty (av x):=by rw[av]
def MA:de []=[]:=by rw[de]
def Xy:de (c::cs)=av c::de cs:=by rw[de]
end
def wu:=Rn @afW<|Rn @SK<|Rn @ac9<|Rn @akg<|Rn @ac_<|Rn @ada<|Rn @adb<|Rn @ade<|Rn @Xt<|Rn @uL<|Rn @SL<|Rn @adf<|Rn @akh<|Rn @adg<|Rn @adh<|Rn @Xu<|Rn @adi<|Rn @adj<|Rn @Xv<|Rn @SM<|Rn @adk<|Rn @Xw<|Rn @aki<|Rn @afX<|Rn @aoD<|Rn @afY<|Rn @afZ<|Rn @af0<|Rn @af3<|Rn @Xx<|Rn @MA<|Rn @Xy<|Rn @ov @ac8
open Go.MapKept (run_setObj_map)
section
variable{G H:Gh}{n:Sz}{D:List Deferred}{e:Env}{a:Act}{P:Program}{tab:cB}{O O':VH}{w:World}{m m':MV}{u v:Value}{ops:Array Oper}{Q:VQ}{md:Md}
def PF{t:TypeId}{x:MV} :jP tab O t x (.agg cs) ok=Β:=by
 unfold jP;split;split;rename_i kd te h1 h2;(((have:Ct kd (.agg cs)=γ:=by cases kd<;>rfl);rw[this]);rfl);rfl
def GD{t:TypeId}{x y:MV} :fl tab O t x (.agg cs) y=Β:=by
 unfold fl;split;split;rename_i kd es ck h1 h2;(((have:Ct kd (.agg cs)=γ:=by cases kd<;>rfl);rw[this]);rfl);rfl
def gv(l:List Ρ):Value:=.agg (l.map λs=>Value.string ⟨⟨s⟩⟩).toArray
structure wJ(P:Program)(kt:TypeId)(N:Nat):Prop where
 law:WideMaps.KeyLaw P kt
 of:∀l:List Ρ,Ζ l=N->(∀s∈l,Ζ s<=maxLen)->∃lit,keyOf P kt (gv l)=φ lit
def MB:∀{l:List Ρ} {us:List Value},aX G (l.map .s) us->us=l.map λs=>Value.string ⟨⟨s⟩⟩
 | [],us,h=>aev h.1
 | s::l,[],h=>by have:=h.1;simp at this
 | s::l,x::us,h=>by
   have h1:VR G (.s s) x:=h.2 0 _ _ rfl rfl;cases h1;rw[ai8,MB (l:=l) (us:=us) ⟨by have:=h.1;simpa using this,λi c u a b=>h.2 (i+1) c u (by simpa using a) (by simpa using b)⟩]
def CT{l:List Ρ}(h:VR G (.agg (l.map .s)) v):v=gv l:=by
 cases h with
 | agg h1 h2=>rw[MB ⟨h1,h2⟩];rfl
def Xz{l m:List Ρ}(h:gv l=gv m):l=m:=by
 unfold gv at h;injection h with h;have h:=congrArg Array.toList h;simp only at h
 have:∀{l m:List Ρ},l.map (λs=>Value.string ⟨⟨s⟩⟩)=m.map (λs=>Value.string ⟨⟨s⟩⟩)->l=m:=by
  intro l;induction l with
  | nil=>intro m h;cases m with
    | nil=>rfl
    | cons y m=>simp at h
  | cons x l ih=>intro m h;cases m with
    | nil=>simp at h
    | cons y m=>
      simp only[ai8,List.cons.injEq,Value.string.injEq,ByteArray.mk.injEq,Array.mk.injEq]at h;rw[h.1,ih h.2]
 exact this h
abbrev gx:=List (List Ρ×MV×Nat)
def dw(M:gx):Bw:=M.map λp=>(.agg (p.1.map .s),p.2.1,p.2.2)
def fD(l:List Ρ)(M:gx):ϱ:=(M.find? (·.1==l)).map (·.2.1)
def kY(l:List Ρ)(y:MV)(ck:Nat)(M:gx):gx:=if M.any (·.1==l)then M.map (λp=>if p.1=l then(l,y,p.2.2)else p)else M++[(l,y,ck)]
def XC(l:List Ρ)(ck:Nat)(M:gx):Nat:=if M.any (·.1==l)then ck else ck+1
structure uM(N:Nat)(M:gx):Prop where
 len:∀p∈M,Ζ p.1=N/\∀s∈p.1,Ζ s<=maxLen
 one:(M.map (·.1)).Nodup
def zP{M:gx}(h:(M.map (·.1)).Nodup){p:List Ρ×MV×Nat}(hp:M[j]?=φ p):fD p.1 M=φ p.2.1:=by
 unfold fD;induction M generalizing j with
 | nil=>simp at hp
 | cons x M ih=>
   simp only[ai8,List.nodup_cons]at h;cases j with
   | zero=>simp only[ahB,Option.some.injEq]at hp;subst hp;simp
   | succ j=>
     simp only[ai9]at hp;have hm:p.1∈M.map (·.1):=apK (an5 hp)
     have hne:(x.1==p.1)=γ:=by
      rw[beq_eq_false_iff_ne];intro e;exact h.1 (e▸hm)
     rw[List.find?_cons,hne];exact ih h.2 hp
def px{M:gx}{l:List Ρ}(h:∀p∈M,p.1≠l):fD l M=Β:=by
 unfold fD;rw[List.find?_eq_none.2 (λp hp=>by simpa using h p hp)];rfl
def h_.keys{M:gx}(h:h_ G (dw M) E):Ζ E=(Ζ M)/\∀(j:Nat)(p:List Ρ×MV×Nat)(x:MapEntry),M[j]?=φ p->E[j]?=φ x->x.key=gv p.1/\VR G p.2.1 x.val/\x.born=p.2.2:=by
 have hl:Ζ E=Ζ M:=by have:=h.key.1;simpa[dw]using this
 refine⟨hl,λj p x hp hx=>⟨?_,?_,?_⟩⟩;exact CT (h.key.2 j _ _ (by simp[dw,hp]) (by simp[hx]));exact h.val.2 j _ _ (by simp[dw,hp]) (by simp[hx]);have:=congrArg (λl=>l[j]?) h.born;simpa[dw,hp,hx]using this
def CU{kt:TypeId}{N:Nat}(K:wJ P kt N){M:gx}{l:List Ρ}(hM:uM N M)(hE:h_ G (dw M) E)(hl:Ζ l=N)(hs:∀s∈l,Ζ s<=maxLen)(w:World):
  ((Instr.findKey kt (gv l) E).run P w= .ok Β w/\∀p∈M,p.1≠l)\/∃(j:Nat)(p:List Ρ×MV×Nat)(x:MapEntry),(Instr.findKey kt (gv l) E).run P w= .ok (φ (j,x.val)) w/\M[j]?=φ p/\p.1=l/\E[j]?=φ x/\VR G p.2.1 x.val:=by
 obtain⟨lit,AS⟩:=K.of l hl hs;obtain⟨h1,h2⟩:=hE.keys
 have ia:∀x∈E,∃q,keyOf P kt x.key=φ q:=λx hx=>by
  obtain⟨j,hj,rfl⟩:=aun.1 hx;have hjM:j<Ζ M:=Λ;have:=(h2 j _ _ (Ro hjM) (Ro hj)).1;rw[this];exact K.of _ (hM.len _ (apE hjM)).1 (hM.len _ (apE hjM)).2
 rcases K.law.find w AS E ia with⟨g1,g2⟩ | ⟨j,x,g1,g2,g3⟩;refine .inl ⟨g1,λp hp e=>?_⟩;obtain⟨j,hj,rfl⟩:=aun.1 hp;(have hjE:j<Ζ E:=Λ;have:=(h2 j _ _ (Ro hj) (Ro hjE)).1;exact g2 _ (apE hjE) (by rw[this,e]));have hjE:=(an2.1 g2).1;have hjM:j<Ζ M:=Λ;have h3:=h2 j _ _ (Ro hjM) g2;exact .inr ⟨j,M[j],x,g1,Ro hjM,Xz (h3.1.symm.trans g3),g2,h3.2.1⟩
def h_.ap8{M:gx}{l:List Ρ}{y:MV}{yv:Value}(hM:(M.map (·.1)).Nodup)(hE:h_ G (dw M) E)(hy:VR G y yv){p:List Ρ×MV×Nat}(hp:M[j]?=φ p)(cz:p.1=l)(hk:VR G (.agg (l.map .s)) (gv l)):
  h_ G (dw (M.map λp=>if p.1=l then(l,y,p.2.2)else p)) (E.modify j λx=>{x with key:=gv l,val:=yv}):=by
 have e:dw (M.map λp=>if p.1=l then(l,y,p.2.2)else p)=setAt (dw M) j (.agg (l.map .s)) y:=by
  clear hE hy hk;unfold dw setAt;induction M generalizing j with
  | nil=>simp at hp
  | cons x M ih=>
    simp only[ai8,List.nodup_cons]at hM;cases j with
    | zero=>
      simp only[ahB,Option.some.injEq]at hp;subst hp
      have cZ:M.map (λp=>if p.1=l then(l,y,p.2.2)else p)=M:=by
       have:∀q∈M,(if q.1=l then(l,y,q.2.2)else q)=q:=λq hq=>if_neg λe=>hM.1 (by rw[cz, <-e];exact apK hq)
       calc M.map (λp=>if p.1=l then(l,y,p.2.2)else p)=M.map id:=List.map_congr_left this
        _=M:=by simp
      simp only[ai8,List.modify_zero_cons,if_pos cz];rw[cZ]
    | succ j=>
      simp only[ai9]at hp;(have hne:¬x.1=l:=λe=>hM.1 (by rw[e, <-cz];exact apK (an5 hp)));simp only[ai8,List.modify_succ_cons,if_neg hne];rw[ih hM.2 hp]
 rw[e];exact h_.modify hk hy j hE
def af4(l:List Ρ):VR G (.agg (l.map .s)) (gv l):=by
 unfold gv;refine .agg z10 λi c u h1 h2=>?_
 simp only[an6,auw]at h1 h2;obtain⟨s,h3,rfl⟩:=h1;obtain⟨t,h4,rfl⟩:=h2;rw[h3]at h4;injection h4 with h4;subst h4;exact .s
def gf(P:Program)(n:Sz)(D:List Deferred)(o:Oper)(e:Env)(O:VH)(m:MV):Prop:=∀G a w,WR G O w->FR G n D e a->∃u,VR G m u/\∀x,Sx G w x->(execOp a.eval o).run P x= .ok (.value u) x
def aQ.hold(ho:ops[i]?=φ o)(hg:aK ops o e=φ Α)(hd:bj n o.dst=Α)(hy:gf P n D o e O m)(h:K (aU o.dst m e) O):aQ P n D ops i e O Q K:=by
 refine aQ.qJ (M:=λm' O'=>m'=m/\O'=O) ho hg hd (λG a w hw hf=>?_) (by rintro m' O' ⟨rfl,rfl⟩;exact h);obtain⟨u,hu,hr⟩:=hy G a w hw hf;exact⟨m,O,u,w,G,⟨rfl,rfl⟩,hr w hw.sx,Gh.Le.refl G,hw,hu⟩
def VL.hold{f:Fl}(hh:(f= .one/\(md= .plain\/md= .any))\/f= .rd)(hg:aK ops o e=φ Α)(hd:bj n o.dst=Α)(hy:gf P n D o e O m)(h:VL P n D md ops L (aU o.dst m e) O Q):VL P n D md ops ((f,o)::L) e O Q:=by
 intro fuel listed ix hf hp
 match ix,hf with
 | (i,g)::ix,hf=>
   obtain⟨rfl,ho,hf⟩:=hf;cases md with
   | plain=>exact jC.one (aQ.hold ho hg hd hy (h 0 #[] ix hf (λh=>absurd rfl h)))
   | any=>
     obtain⟨h1,h2⟩:=hp z10;cases fuel with
     | zero=>cases h2
     | succ fuel=>
       simp only[cP,TR]at h2;have hk:=h fuel (listed.setIfInBounds i Α) ix hf (λ_=>⟨h1,h2.2⟩);rcases hh with⟨rfl,_⟩ | rfl
       ·have hr:Region.ready .any ops listed=[i]:=by simpa using h2.1
        exact cf.all hr z10 λj hj=>by
         obtain rfl:j=i:=by simpa using hj
         exact aQ.hold ho hg hd hy hk
       ·exact absurd h2.1 z10
   | reads=>
     obtain⟨h1,h2⟩:=hp z10;cases fuel with
     | zero=>cases h2
     | succ fuel=>
       simp only[cP,TR]at h2;have hk:=h fuel (listed.setIfInBounds i Α) ix hf (λ_=>⟨h1,h2.2⟩);rcases hh with⟨_,h3 | h3⟩ | rfl;cases h3;cases h3;intro G a w hw aY;obtain⟨u,hu,cD⟩:=hy G a w hw aY;(have h3:Region.free .any ops listed i=Α/\(Region.ready .any ops listed).contains i=Α:=by simp_all);exact wpAnyH_take ho h1 h3.1 h3.2 (iE hd) (.inl ⟨bz aY hg,λw' D5=>by rw[D5];exact cD w hw.sx⟩) rfl (hk G _ w hw (aY.aU hd hu))
   | held brk=>
     obtain⟨h1,h2⟩:=hp z10;cases fuel with
     | zero=>cases h2
     | succ fuel=>
       simp only[cP,TR]at h2;have hk:=h fuel (listed.setIfInBounds i Α) ix hf (λ_=>⟨h1,h2.2⟩);rcases hh with⟨_,h3 | h3⟩ | rfl;cases h3;cases h3;simp only[TR]at h2
       exact bR.take ho h1 h2.1.1.1 h2.1.1.2 h2.1.2 hd (λG a w hw aY=>by
        obtain⟨u,hu,cD⟩:=hy G a w hw aY;exact⟨u,hu,.inl ⟨bz aY hg,λx hx=>cD x hx⟩⟩) hk
def uN(ok:Bool)(z:MV):ϱ->MV
 | some m=>if ok then .tuple [m,.v (.bool Α)]else m
 | none=>if ok then .tuple [z,.v (.bool γ)]else z
def akj{m:MV}:uN γ z (φ m)=m:=rfl
def Hh{m:MV}:uN Α z (φ m)= .tuple [m,.v (.bool Α)]:=rfl
def akk :uN γ z Β=z:=rfl
def Hi :uN Α z Β= .tuple [z,.v (.bool γ)]:=rfl
def gf.kP{kt et:TypeId}{N:Nat}(K:wJ P kt N)(ht:aN P tab){t ty:TypeId}{M:gx}{l:List Ρ}(hU:P.underlying t=φ (.map kt et))(oV:tab et=φ te)(hz:Cv te=φ z)
  (hx:ev e x=φ (.map b)) (hb:O.hp b=φ (.map (dw M) ck)) (hM:uM N M) (hy:ev e y=φ (.agg (l.map .s))) (hl:Ζ l=N) (hs:∀s∈l,Ζ s<=maxLen):gf P n D (.mk d (.lookup t x y ok) ty ps af g) e O (uN ok z (fD l M)):=by
 intro G a w hw hf;have h1:=hf.ev hx;have h2:=hf.ev hy;generalize oo:a.eval x=u at h1;generalize BE:a.eval y=v at h2;have hv:=CT h2;subst hv;cases h1 with
 | map fK=>
   rename_i b';obtain⟨b2,E,e1,e2,e3,e4,e5⟩:=hw.map _ _ _ hb;rw[fK]at e1;injection e1 with e1;subst e1;have hE:h_ G (dw M) E.toList:=⟨e3,e4,e5⟩;obtain⟨lit,AS⟩:=K.of l hl hs;obtain⟨zv,z1,z2⟩:=Bx (ht et te oV) hz;(have alA:∀y,Sx G w y->y.heap[b']?=φ (.map E ck):=λy hy=>(hy.2 _ _ fK).trans e2);by_cases hin:∃p∈M,p.1=l
   ·have h3:=CU K hM hE hl hs w;rcases h3 with⟨_,g2⟩ | ⟨j,p,q,_,g2,g3,g4,g5⟩;obtain⟨p,hp,e⟩:=hin;exact absurd e (g2 p hp);((have eU:fD l M=φ p.2.1:=by rw[<-g3];exact zP hM.one g2);rw[eU];refine⟨if ok then .tuple #[q.val,.bool Α]else q.val,?_,λyw hyw=>?_⟩);cases ok;exact g5;exact VR.tuple (us:=[q.val,.bool Α]) rfl (aX.cons g5 (aX.cons (.v rfl) aX.nil)).2
    ·have hr:(Instr.findKey kt (gv l) E.toList).run P yw= .ok (φ (j,q.val)) yw:=by
      rcases CU K hM hE hl hs yw with⟨_,g6⟩ | ⟨j',p',q',g6,g7,g8,g9,_⟩;exact absurd g3 (g6 p (an5 g2))
      ·have Ek:j'=j:=by
        have h5:(M.map (·.1))[j']?=φ l:=by simp[g7,g8]
        have h6:(M.map (·.1))[j]?=φ l:=by simp[g2,g3]
        exact(List.getElem?_inj (by simpa using(an2.1 g7).1) hM.one).1 (h5.trans h6.symm)
       subst Ek;rw[g4]at g9;injection g9 with g9;subst g9;exact g6
     have PH:=K.law.check yw E.isEmpty AS;simp only[execOp,oo,BE,Instr.lookup,Sem.run_bind,run_underlying hU,Result.andThen_ok,MapKept.run_getObj_map (alA yw hyw),PH,hr,Sem.run_pure]
   ·have cZ:∀p∈M,p.1≠l:=λp hp e=>hin ⟨p,hp,e⟩
    rw[px cZ];refine⟨if ok then .tuple #[zv,.bool γ]else zv,?_,λyw hyw=>?_⟩;cases ok;exact z2 G;exact VR.tuple (us:=[zv,.bool γ]) rfl (aX.cons (z2 G) (aX.cons (.v rfl) aX.nil)).2
    ·have hr:(Instr.findKey kt (gv l) E.toList).run P yw= .ok Β yw:=by
      rcases CU K hM hE hl hs yw with⟨g6,_⟩ | ⟨j',p',q',_,g7,g8,_⟩;exact g6;exact absurd g8 (cZ p' (an5 g7))
     have PH:=K.law.check yw E.isEmpty AS;simp only[execOp,oo,BE,Instr.lookup,Sem.run_bind,run_underlying hU,Result.andThen_ok,MapKept.run_getObj_map (alA yw hyw),PH,hr,Sem.run_pure,z1]
def vO(P:Program)(n:Sz)(D:List Deferred)(o:Oper)(e:Env)(O O':VH):Prop:=∀G a w,WR G O w->FR G n D e a->∃w' H,(execOp a.eval o).run P w= .ok .skip w'/\Gh.Le G H/\WR H O' w'
def aQ.vP(ho:ops[i]?=φ o)(hg:aK ops o e=φ Α)(hd:bj n o.dst=Α)(hy:vO P n D o e O O')(h:K (aU o.dst aO e) O'):aQ P n D ops i e O Q K:=by
 intro G a w hw aY;obtain⟨w',H,hr,h1,h2⟩:=hy G a w hw aY;simp only[wpOp,ho,bz aY hg,if_true];refine .inl ?_;unfold Oper.wp;rw[hr];exact⟨_,_,H,h1,h2,(aY.mono h1).aU hd lV,h⟩
def VL.vP(hg:aK ops o e=φ Α)(hd:bj n o.dst=Α)(hy:vO P n D o e O O')
  (r4:∀brk,md= .held brk->∀i,ops[i]?=φ o->brk.contains i=Α) (h:VL P n D md ops L (aU o.dst aO e) O' Q):VL P n D md ops ((.one,o)::L) e O Q:=by
 intro fuel listed ix hf hp
 match ix,hf with
 | (i,g)::ix,hf=>
   obtain⟨rfl,ho,hf⟩:=hf;cases md with
   | plain=>exact jC.one (aQ.vP ho hg hd hy (h 0 #[] ix hf (λh=>absurd rfl h)))
   | any=>
     obtain⟨h1,h2⟩:=hp z10;cases fuel with
     | zero=>cases h2
     | succ fuel=>
       simp only[cP,TR]at h2;have hr:Region.ready .any ops listed=[i]:=by simpa using h2.1
       exact cf.all hr z10 λj hj=>by
        obtain rfl:j=i:=by simpa using hj
        exact aQ.vP ho hg hd hy (h fuel (listed.setIfInBounds j Α) ix hf (λ_=>⟨h1,h2.2⟩))
   | reads=>
     obtain⟨h1,h2⟩:=hp z10;cases fuel with
     | zero=>cases h2
     | succ fuel=>
       simp only[cP,TR]at h2;exact absurd h2.1 z10
   | held brk=>
     obtain⟨h1,h2⟩:=hp z10;cases fuel with
     | zero=>cases h2
     | succ fuel=>
       simp only[cP,TR]at h2;have hr:Region.ready .any ops listed=[i]:=by simpa using h2.1.1
       have xD:∀j,(listed.setIfInBounds i Α).getD j Α=γ\/j=i->brk.contains j=Α:=by
        rcases uH ho h2.1.2 with⟨h3,_⟩ | h3;rw[r4 brk rfl i ho]at h3;cases h3;exact h3
       exact bR.aeK hr xD (aQ.vP ho hg hd hy (h fuel (listed.setIfInBounds i Α) ix hf (λ_=>⟨h1,h2.2⟩)))
def vO.kY{kt et:TypeId}{N:Nat}(K:wJ P kt N){t ty:TypeId}{z:Operand}{M:gx}{l:List Ρ}(hU:P.underlying t=φ (.map kt et))
  (hx:ev e x=φ (.map b)) (hb:O.hp b=φ (.map (dw M) ck)) (hM:uM N M) (hy:ev e y=φ (.agg (l.map .s))) (hl:Ζ l=N) (hs:∀s∈l,Ζ s<=maxLen) (hz:ev e z=φ m):vO P n D (.mk d (.mapUpdate t x y z) ty ps af g) e O (O.set b (.map (dw (kY l m ck M)) (XC l ck M))):=by
 intro G a w hw hf;have h1:=hf.ev hx;have h2:=hf.ev hy;have h3:=hf.ev hz;generalize oo:a.eval x=u at h1;generalize BE:a.eval y=v at h2;generalize haz:a.eval z=r at h3;have hv:=CT h2;subst hv;cases h1 with
 | map fK=>
   rename_i b';obtain⟨b2,E,e1,e2,e3,e4,e5⟩:=hw.map _ _ _ hb;rw[fK]at e1;injection e1 with e1;subst e1;have hE:h_ G (dw M) E.toList:=⟨e3,e4,e5⟩;obtain⟨lit,AS⟩:=K.of l hl hs;have PH:=K.law.check w γ AS;rcases CU K hM hE hl hs w with⟨g1,g2⟩ | ⟨j,p,q,g1,g2,g3,g4,g5⟩
   ·have iw:M.any (·.1==l)=γ:=by rw[List.any_eq_false];intro p hp;simpa using g2 p hp
    have hr:h_ G (dw (M++[(l,m,ck)])) (E.push {key:=gv l,val:=r,born:=ck}).toList:=by
     rw[Array.toList_push];unfold dw;rw[as0];exact hE.append (h_.cons rfl h2 h3 h_.nil)
    refine⟨?wx,G,?rn,Gh.Le.refl G,?wr⟩
    case wr=>rw[Go.Proofs.YtnfdmplcieacjaaGreatDoor.kY,XC,iw];exact hw.vF (ck':=ck+1) hb fK e2 hr
    case rn=>
     simp only[execOp,oo,BE,haz,Instr.mapUpdate,Sem.run_bind,run_underlying hU,Result.andThen_ok,MapKept.run_getObj_map e2,PH,g1,run_setObj_map _ e2];rfl
   ·have iw:M.any (·.1==l)=Α:=List.any_eq_true.2 ⟨p,an5 g2,by simp[g3]⟩;(have XE:q.key=gv l:=by have:=(hE.keys.2 j p q g2 g4).1;rw[this,g3]);have eD:=K.law.stays w AS;have hr:=h_.ap8 hM.one hE h3 g2 g3 (af4 l);rw[<-Array.toList_modify]at hr
    have vE:((E[j]?).map (·.key)).getD (gv l)=gv l:=by
     have:E[j]?=φ q:=by simpa using g4
     rw[this];exact XE
    refine⟨?wy,G,?rm,Gh.Le.refl G,?ws⟩
    case ws=>rw[Go.Proofs.YtnfdmplcieacjaaGreatDoor.kY,XC,iw];exact hw.vF (ck':=ck) hb fK e2 hr
    case rm=>
     simp only[execOp,oo,BE,haz,Instr.mapUpdate,Sem.run_bind,run_underlying hU,Result.andThen_ok,MapKept.run_getObj_map e2,PH,g1,vE,eD,run_setObj_map _ e2];rfl
end
def uO{N:Nat}{M:gx}{l:List Ρ}{y:MV}(h:uM N M)(hl:Ζ l=N)(hs:∀s∈l,Ζ s<=maxLen):uM N (kY l y ck M):=by
 unfold kY;split
 ·have hk:(M.map (λp=>if p.1=l then(l,y,p.2.2)else p)).map (·.1)=M.map (·.1):=by
   rw[List.map_map];(((refine List.map_congr_left λp _=>?_);show(if p.1=l then(l,y,p.2.2)else p).1=p.1;split);rename_i e;exact e.symm);rfl
  refine⟨λp hp=>?_,by rw[hk];exact h.one⟩;(have:p.1∈M.map (·.1):=by rw[<-hk];exact apK hp);obtain⟨q,hq,e⟩:=List.mem_map.1 this;rw[<-e];exact h.len q hq
 ·rename_i cZ;(((have cZ:∀p∈M,¬p.1=l:=λp hp e=>cZ (List.any_eq_true.2 ⟨p,hp,by simp[e]⟩));refine⟨λp hp=>?_,?_⟩);rcases List.mem_append.1 hp with hp | hp;exact h.len p hp;rw[List.mem_singleton.1 hp];exact⟨hl,hs⟩);rw[as0,List.nodup_append];refine⟨h.one,z10,λx hx z hz e=>?_⟩;simp only[ai8,aug,List.mem_singleton]at hz;obtain⟨q,hq,e2⟩:=List.mem_map.1 hx;exact cZ q hq (by rw[e2,e,hz])
def aat(P:Program):List Field->Nat->Bool
 | [],_=>Α
 | f::r,i=>(match P.underlying f.type with | some .string=>Α | _=>γ)&&f.offset==i&&P.cellsOf f.type==1&&aat P r (i+1)
def skB(P:Program)(kt:TypeId)(N:Nat):Bool:=match P.underlying kt with
 | some (.struct fs)=>P.keyType kt&&fs.all (·.name != "_")&&P.cellsOf kt==N&&fs.size==N&&aat P fs.toList 0&&decide (kt<P.types.size)&&decide (P.types.size+2<=10000)
 | _=>γ
def mapM_some{α β :Type}{g: α ->Option β}:∀{L:List α},(∀f∈L,∃y,g f=φ y)->∃ys,L.mapM g=φ ys
 | [],_=>⟨[],rfl⟩
 | f::L,h=>by
   obtain⟨y,hy⟩:=h f z10;(obtain⟨ys,hys⟩:=mapM_some (L:=L) λx hx=>h x (List.mem_cons_of_mem _ hx));exact⟨y::ys,by rw[List.mapM_cons,hy];simp[hys]⟩
def SN{P:Program}:∀{L:List Field} {i:Nat},aat P L i=Α->∀(j:Nat)(f:Field),L[j]?=φ f->P.underlying f.type=φ .string/\f.offset=i+j/\P.cellsOf f.type=1
 | [],_,_,j,f,h=>by simp at h
 | g::L,i,hB,j,f,h=>by
   simp only[aat,TR,beq_iff_eq]at hB;obtain⟨⟨⟨h1,h2⟩,h3⟩,h4⟩:=hB;cases j with
   | zero=>
     simp only[ahB,Option.some.injEq]at h;subst h;refine⟨?_,h2,h3⟩;split at h1;assumption;cases h1
   | succ j=>
     have:=SN h4 j f z34;exact⟨this.1,Λ,this.2.2⟩
def wJ.w_{P:Program}{kt:TypeId}{N:Nat}(hl:laidOutB P=Α)(h:skB P kt N=Α:=by kernel_rfl):wJ P kt N:=by
 unfold skB at h;split at h
 ·rename_i fs hu;simp only[TR,beq_iff_eq,decide_eq_true_eq]at h;obtain⟨⟨⟨⟨⟨⟨h1,h2⟩,h3⟩,h4⟩,h5⟩,h6⟩,h7⟩:=h;refine⟨deep_law_gate hl h7 h6 h1 (by rw[hu]),λl hlen hs=>?_⟩
  have aoE:(gv l).formed P kt=Α:=by
   unfold gv Value.formed;simp only[hu];simp[hlen,h3]
  have aoF:∃ls,P.keyLits (P.types.size+1) kt (gv l).cells.toList=φ ls:=by
   (obtain⟨D,hD⟩:∃D,P.types.size=D+1:=⟨P.types.size - 1,by have:0<P.types.size:=Nat.lt_of_le_of_lt (auC kt) h6;omega⟩);rw[hD];unfold Program.keyLits;have hc:(gv l).cells.toList=l.map λs=>Value.string ⟨⟨s⟩⟩:=by simp[gv,Value.cells]
   rw[hc];simp only[hu];rw[if_pos ⟨by simp[hlen,h3],h2⟩]
   obtain⟨ys,hys⟩:=mapM_some (L:=fs.toList) (g:=λf=>P.keyLits (D+1) f.type (((l.map λs=>Value.string ⟨⟨s⟩⟩).drop f.offset).take (P.cellsOf f.type))) λf hf=>by
    obtain⟨j,hj,rfl⟩:=aun.1 hf;obtain⟨g1,g2,g3⟩:=SN h5 j _ (Ro hj);rw[apJ]at g2;have rB:j<Ζ l:=by rw[hlen, <-h4];simpa using hj
    have ow:((l.map λs=>Value.string ⟨⟨s⟩⟩).drop j).take 1=[Value.string ⟨⟨l[j]⟩⟩]:=by
     rw[apG (by simpa using rB)];simp
    rw[g2,g3,ow];unfold Program.keyLits;simp only[g1];exact⟨_,if_pos (hs _ (apE rB))⟩
   exact⟨ys.flatten,by rw[hys];rfl⟩
  obtain⟨ls,PI⟩:=aoF;refine⟨.string (keyBytes ls),?_⟩;unfold keyOf;simp only[hu];rw[h1,aoE,PI];rfl
 ·cases h
def zk:=Rn wk<|Rn wu<|Rn @PF<|Rn @GD<|Rn @auy.{0,0}<|Rn @akj<|Rn @Hh<|Rn @akk<|Rn @Hi<|Rn @afS<|Rn @Option.isSome_some.{0}<|Rn @an3.{0}<|Rn @aT @ag
section
variable{A1 A2 A3 A4 A5 A6 A7 A8 A9 P Q:Prop}
def BG(q:Q)(h:P=Q:=by conv=>lhs;simp(disch:=first | omega | (simp only[ds]<;>omega) | fail) only[zk,aO,y0,y10,y11,y12,y14,y16,y18,reduceIte]):P:=(h).mpr q
def ae(a1:A1)(q:Q)(h:A1->P=Q:=by intro a1;conv=>lhs;simp(disch:=first | omega | (simp only[ds]<;>omega) | fail) only[zk,aO,y0,y10,y11,y12,y14,y16,y18,reduceIte,a1]):P:=(h a1).mpr q
def ez(a1:A1)(h:A1->P:=by intro a1;simp(disch:=first | omega | (simp only[ds]<;>omega) | fail) only[zk,aO,y0,y10,y11,y12,y14,y16,y18,reduceIte,a1]):P:=h a1
def ak(a1:A1)(a2:A2)(q:Q)(h:A1->A2->P=Q:=by intro a1 a2;conv=>lhs;simp(disch:=first | omega | (simp only[ds]<;>omega) | fail) only[zk,aO,y0,y10,y11,y12,y14,y16,y18,reduceIte,a1,a2]):P:=(h a1 a2).mpr q
def dT(a1:A1)(a2:A2)(h:A1->A2->P:=by intro a1 a2;simp(disch:=first | omega | (simp only[ds]<;>omega) | fail) only[zk,aO,y0,y10,y11,y12,y14,y16,y18,reduceIte,a1,a2]):P:=h a1 a2
def aF(a1:A1)(a2:A2)(a3:A3)(q:Q)(h:A1->A2->A3->P=Q:=by intro a1 a2 a3;conv=>lhs;simp(disch:=first | omega | (simp only[ds]<;>omega) | fail) only[zk,aO,y0,y10,y11,y12,y14,y16,y18,reduceIte,a1,a2,a3]):P:=(h a1 a2 a3).mpr q
def kt3(a1:A1)(a2:A2)(a3:A3)(h:A1->A2->A3->P:=by intro a1 a2 a3;simp(disch:=first | omega | (simp only[ds]<;>omega) | fail) only[zk,aO,y0,y10,y11,y12,y14,y16,y18,reduceIte,a1,a2,a3]):P:=h a1 a2 a3
def bo(a1:A1)(a2:A2)(a3:A3)(a4:A4)(q:Q)(h:A1->A2->A3->A4->P=Q:=by intro a1 a2 a3 a4;conv=>lhs;simp(disch:=first | omega | (simp only[ds]<;>omega) | fail) only[zk,aO,y0,y10,y11,y12,y14,y16,y18,reduceIte,a1,a2,a3,a4]):P:=(h a1 a2 a3 a4).mpr q
def xi(a1:A1)(a2:A2)(a3:A3)(a4:A4)(h:A1->A2->A3->A4->P:=by intro a1 a2 a3 a4;simp(disch:=first | omega | (simp only[ds]<;>omega) | fail) only[zk,aO,y0,y10,y11,y12,y14,y16,y18,reduceIte,a1,a2,a3,a4]):P:=h a1 a2 a3 a4
def gy(a1:A1)(a2:A2)(a3:A3)(a4:A4)(a5:A5)(q:Q)(h:A1->A2->A3->A4->A5->P=Q:=by intro a1 a2 a3 a4 a5;conv=>lhs;simp(disch:=first | omega | (simp only[ds]<;>omega) | fail) only[zk,aO,y0,y10,y11,y12,y14,y16,y18,reduceIte,a1,a2,a3,a4,a5]):P:=(h a1 a2 a3 a4 a5).mpr q
def kt5(a1:A1)(a2:A2)(a3:A3)(a4:A4)(a5:A5)(h:A1->A2->A3->A4->A5->P:=by intro a1 a2 a3 a4 a5;simp(disch:=first | omega | (simp only[ds]<;>omega) | fail) only[zk,aO,y0,y10,y11,y12,y14,y16,y18,reduceIte,a1,a2,a3,a4,a5]):P:=h a1 a2 a3 a4 a5
def Em(a1:A1)(a2:A2)(a3:A3)(a4:A4)(a5:A5)(a6:A6)(q:Q)(h:A1->A2->A3->A4->A5->A6->P=Q:=by intro a1 a2 a3 a4 a5 a6;conv=>lhs;simp(disch:=first | omega | (simp only[ds]<;>omega) | fail) only[zk,aO,y0,y10,y11,y12,y14,y16,y18,reduceIte,a1,a2,a3,a4,a5,a6]):P:=(h a1 a2 a3 a4 a5 a6).mpr q
def kt6(a1:A1)(a2:A2)(a3:A3)(a4:A4)(a5:A5)(a6:A6)(h:A1->A2->A3->A4->A5->A6->P:=by intro a1 a2 a3 a4 a5 a6;simp(disch:=first | omega | (simp only[ds]<;>omega) | fail) only[zk,aO,y0,y10,y11,y12,y14,y16,y18,reduceIte,a1,a2,a3,a4,a5,a6]):P:=h a1 a2 a3 a4 a5 a6
def SO(a1:A1)(a2:A2)(a3:A3)(a4:A4)(a5:A5)(a6:A6)(a7:A7)(q:Q)(h:A1->A2->A3->A4->A5->A6->A7->P=Q:=by intro a1 a2 a3 a4 a5 a6 a7;conv=>lhs;simp(disch:=first | omega | (simp only[ds]<;>omega) | fail) only[zk,aO,y0,y10,y11,y12,y14,y16,y18,reduceIte,a1,a2,a3,a4,a5,a6,a7]):P:=(h a1 a2 a3 a4 a5 a6 a7).mpr q
def SP(a1:A1)(a2:A2)(a3:A3)(a4:A4)(a5:A5)(a6:A6)(a7:A7)(a8:A8)(q:Q)(h:A1->A2->A3->A4->A5->A6->A7->A8->P=Q:=by intro a1 a2 a3 a4 a5 a6 a7 a8;conv=>lhs;simp(disch:=first | omega | (simp only[ds]<;>omega) | fail) only[zk,aO,y0,y10,y11,y12,y14,y16,y18,reduceIte,a1,a2,a3,a4,a5,a6,a7,a8]):P:=(h a1 a2 a3 a4 a5 a6 a7 a8).mpr q
def kw9(a1:A1)(a2:A2)(a3:A3)(a4:A4)(a5:A5)(a6:A6)(a7:A7)(a8:A8)(a9:A9)(q:Q)(h:A1->A2->A3->A4->A5->A6->A7->A8->A9->P=Q:=by intro a1 a2 a3 a4 a5 a6 a7 a8 a9;conv=>lhs;simp(disch:=first | omega | (simp only[ds]<;>omega) | fail) only[zk,aO,y0,y10,y11,y12,y14,y16,y18,reduceIte,a1,a2,a3,a4,a5,a6,a7,a8,a9]):P:=(h a1 a2 a3 a4 a5 a6 a7 a8 a9).mpr q
end
section
variable{n:Sz}{D:List Deferred}{e:Env}{P:Program}{tab:cB}{O:VH}{Q:VQ}{A1 A2 R:Prop}
def ρ(i:Nat){l:ϕ}(a1:A1)(q:R)(ht:aN P tab:=by exact aa)(ho:l[i]?=φ o:=by exact rfl)(hs:Region.noSelect ⟨l⟩=Α:=by kernel_rfl)(hf:Region.free .any ⟨l⟩ listed i=Α:=by kernel_rfl)(hr:(Region.ready .any ⟨l⟩ listed).contains i=Α:=by kernel_rfl)(hb:mI ⟨l⟩ brk listed i=Α:=by kernel_rfl)(hg:aK ⟨l⟩ o e=φ Α:=by exact rfl)(hd:bj n o.dst=Α:=by exact rfl)(h:A1->yd (λm O2=>ab P n D ⟨l⟩ brk J Ψ Z fuel (listed.setIfInBounds i Α) (aU o.dst m e) O2 Q) (iF tab .au o e O)=R:=by intro a1;conv=>lhs;simp(disch:=first | omega | (simp only[ds]<;>omega) | fail) only[zk,aO,y0,y10,y11,y12,y14,y16,y18,reduceIte,a1]):ab P n D ⟨l⟩ brk J Ψ Z (fuel+1) listed e O Q:=ab.au i ((h a1).mpr q) ht ho hs hf hr hb hg hd
def auW(i:Nat){l:ϕ}(a1:A1)(a2:A2)(q:R)(ht:aN P tab:=by exact aa)(ho:l[i]?=φ o:=by exact rfl)(hs:Region.noSelect ⟨l⟩=Α:=by kernel_rfl)(hf:Region.free .any ⟨l⟩ listed i=Α:=by kernel_rfl)(hr:(Region.ready .any ⟨l⟩ listed).contains i=Α:=by kernel_rfl)(hb:mI ⟨l⟩ brk listed i=Α:=by kernel_rfl)(hg:aK ⟨l⟩ o e=φ Α:=by exact rfl)(hd:bj n o.dst=Α:=by exact rfl)(h:A1->A2->yd (λm O2=>ab P n D ⟨l⟩ brk J Ψ Z fuel (listed.setIfInBounds i Α) (aU o.dst m e) O2 Q) (iF tab .au o e O)=R:=by intro a1 a2;conv=>lhs;simp(disch:=first | omega | (simp only[ds]<;>omega) | fail) only[zk,aO,y0,y10,y11,y12,y14,y16,y18,reduceIte,a1,a2]):ab P n D ⟨l⟩ brk J Ψ Z (fuel+1) listed e O Q:=ab.au i ((h a1 a2).mpr q) ht ho hs hf hr hb hg hd
def Ω{x:MV}(hR:VF P f as_ O (aC λm O2=>m=x/\O2=O))(h:K (aU d x e) O)(hb:cV P f=Α:=by kernel_rfl)(ha:fs++ms++cs=as_:=by exact rfl)(hd:bj n d=Α:=by exact rfl):ah P n md Q d O K e (φ (.func (.func f) fs cs)) (φ ms):=π hR (λm O2 h2=>by rw[h2.1,h2.2];exact h) hb ha hd
def η{x:MV}{F:gm->VH->Prop}(hR:VF P f as_ O F)(h:Q (.panic x) (jM n e) O)(h1:∀m O2,¬F (.ret m) O2:=by exactλ_ _ h=>h.2)(h2:∀m O2,F (.panic m) O2->O2=O/\m=x:=by exactλ_ _ h=>h)
  (hb:cV P f=Α:=by kernel_rfl) (ha:fs++ms++cs=as_:=by exact rfl) (hd:bj n d=Α:=by exact rfl):ah P n md Q d O K e (φ (.func (.func f) fs cs)) (φ ms):=
 ah.p hR (λm O2 g=>(h1 m O2 g).elim) (λm O2 g=>by rw[(h2 m O2 g).1,(h2 m O2 g).2];exact h) hb ha hd
def ah.ex{α β :Type}{W:gm->VH->Prop}(F:Except α β)(hR:VF P f as_ O W)(h:∀x m O2,F= .error x->W (.panic m) O2->Q (.panic m) (jM n e) O2)(k:∀y m O2,F= .ok y->W (.ret m) O2->K (aU d m e) O2)
  (h1:∀x m O2,F= .error x->¬W (.ret m) O2:=by intro _ _ _ e h;rw[e]at h;exact h.2) (h2:∀y m O2,F= .ok y->¬W (.panic m) O2:=by intro _ _ _ e h;rw[e]at h;exact h.2)
  (hb:cV P f=Α:=by kernel_rfl) (ha:fs++ms++cs=as_:=by exact rfl) (hd:bj n d=Α:=by exact rfl):ah P n md Q d O K e (φ (.func (.func f) fs cs)) (φ ms):=by
 cases F with
 | ok y=>exact ah.p hR (λm O2 g=>k y m O2 rfl g) (λm O2 g=>(h2 y m O2 rfl g).elim) hb ha hd
 | error x=>exact ah.p hR (λm O2 g=>(h1 x m O2 rfl g).elim) (λm O2 g=>h x m O2 rfl g) hb ha hd
end
def aa:aN Ε (iv Ε):=aeL _
def θ{n:Sz}{d:Code}(h:WC Ε (iv Ε) n D c e O (wH (PB Ε n D d Q) Q)):VC Ε n D (.seq c d) e O Q:=VC.ai aa h
def ι{n:Sz}(h:WC Ε (iv Ε) n D c e O Q):VC Ε n D c e O Q:=WC.sound aa h
def κ{n:Sz}{d:Code}{R:Prop}(a1:A1)(q:R)(h:A1->WC Ε (iv Ε) n D c e O (wH (PB Ε n D d Q) Q)=R:=by intro a1;conv=>lhs;simp(disch:=first | omega | (simp only[ds]<;>omega) | fail) only[zk,aO,y0,y10,y11,y12,y14,y16,y18,reduceIte,a1]):VC Ε n D (.seq c d) e O Q:=θ ((h a1).mpr q)
def ν{n:Sz}{R:Prop}(a1:A1)(q:R)(h:A1->WC Ε (iv Ε) n D c e O Q=R:=by intro a1;conv=>lhs;simp(disch:=first | omega | (simp only[ds]<;>omega) | fail) only[zk,aO,y0,y10,y11,y12,y14,y16,y18,reduceIte,a1]):VC Ε n D c e O Q:=ι ((h a1).mpr q)
def ξ{n:Sz}{d:Code}{R:Prop}(a1:A1)(a2:A2)(q:R)(h:A1->A2->WC Ε (iv Ε) n D c e O (wH (PB Ε n D d Q) Q)=R:=by intro a1 a2;conv=>lhs;simp(disch:=first | omega | (simp only[ds]<;>omega) | fail) only[zk,aO,y0,y10,y11,y12,y14,y16,y18,reduceIte,a1,a2]):VC Ε n D (.seq c d) e O Q:=θ ((h a1 a2).mpr q)
def ο{n:Sz}{R:Prop}(a1:A1)(a2:A2)(q:R)(h:A1->A2->WC Ε (iv Ε) n D c e O Q=R:=by intro a1 a2;conv=>lhs;simp(disch:=first | omega | (simp only[ds]<;>omega) | fail) only[zk,aO,y0,y10,y11,y12,y14,y16,y18,reduceIte,a1,a2]):VC Ε n D c e O Q:=ι ((h a1 a2).mpr q)
abbrev TY(t:Nat)(d:TypeDesc)(a b:Nat)(z:Η):Prop:=iv Ε t=φ ⟨d,a,b,z⟩
abbrev TS(t:Nat)(d:TypeDesc)(a b:Nat)(z:Η)(p:List (Nat×Nat)):Prop:=TY t d a b z/\fA d=Α/\∀x,vB (iv Ε) t x=(mG (m_ p) z x).map .agg
abbrev FL(t i f:Nat)(g:Bool)(s:Nat):Prop:=(∀k o,ka (iv Ε) t i (.p k o)=φ (.p k (o+f)))/\(∀c o,ka (iv Ε) t i (.dV c o)=φ (.dV c (o+f)))/\∀c,zD (iv Ε) t (.agg c) i=n6 g s c f
def eE{a:Nat}{d:TypeDesc}{z:Η}(h:iv Ε t=φ ⟨d,a,b,z⟩:=by kernel_rfl):TY t d a b z:=h
def iX{a:Nat}{d:TypeDesc}{z:Η}{p:List (Nat×Nat)}(h:iv Ε t=φ ⟨d,a,b,z⟩:=by kernel_rfl)(h1:fA d=Α:=by kernel_rfl)(h2:∀x,vB (iv Ε) t x=(mG (m_ p) z x).map .agg:=by intro x;kernel_rfl):TS t d a b z p:=⟨h,h1,h2⟩
def bF{f:Nat}{g:Bool}(h:∀k o,ka (iv Ε) t i (.p k o)=φ (.p k (o+f)):=by intro k o;kernel_rfl)(h1:∀c o,ka (iv Ε) t i (.dV c o)=φ (.dV c (o+f)):=by intro c o;kernel_rfl)(h2:∀c,zD (iv Ε) t (.agg c) i=n6 g s c f:=by intro c;kernel_rfl):FL t i f g s:=⟨h,h1,h2⟩
def T1:TY 1 Tryz.t1.desc 1 8 [.v .nilFunc]:=eE
def T2:TY 2 (.int .i64) 1 8 [.v (Ι Κ 0)]:=eE
def T3:TY 3 (.int .i64) 1 8 [.v (Ι Κ 0)]:=eE
def T4:TY 4 .bool 1 1 [.v (.bool γ)]:=eE
def T5:TY 5 (.int .u8) 1 1 [.v (.int .u8 0)]:=eE
def T9:TY 9 .string 1 16 [.s []]:=eE
def PJ:TY 21 (.int .i32) 1 4 [.v (.int .i32 0)]:=eE
def T22:TY 22 (.slice 57) 1 24 [.l 0 [] .nil]:=eE
def Eo:TS 24 Tryz.t23.desc 3 48 [.s [],.s [],.s []] [(0,1),(1,1),(2,1)]/\FL 24 0 0 γ 1/\FL 24 1 1 γ 1/\FL 24 2 2 γ 1:=⟨iX,bF,bF,bF⟩
def T25:TY 25 (.pointer 79) 1 8 [.v (.pointer Β)]:=eE
def T29:TY 29 (.slice 44) 1 24 [.l 0 [] .nil]:=eE
def IF:TY 30 (.int .i64) 1 8 [.v (Ι Κ 0)]:=eE
def T32:TS 32 Tryz.t31.desc 3 24 [.v (Ι Κ 0),.v (Ι Κ 0),.v (Ι Κ 0)] [(0,1),(1,1),(2,1)]/\FL 32 0 0 γ 1/\FL 32 1 1 γ 1/\FL 32 2 2 γ 1:=⟨iX,bF,bF,bF⟩
def T34:TS 34 Tryz.t33.desc 8 96 [.v (Ι Κ 0),.s [],.s [],.s [],.v (Ι Κ 0),.v (Ι Κ 0),.v (Ι Κ 0),.s []] [(0,1),(1,3),(4,3),(7,1)]/\FL 34 0 0 γ 1/\FL 34 1 1 Α 3/\FL 34 2 4 Α 3/\FL 34 3 7 γ 1:=⟨iX,bF,bF,bF,bF⟩
def T39:TS 39 Tryz.t38.desc 4 64 [.s [],.s [],.s [],.s []] [(0,1),(1,1),(2,1),(3,1)]/\FL 39 0 0 γ 1/\FL 39 1 1 γ 1/\FL 39 2 2 γ 1/\FL 39 3 3 γ 1:=⟨iX,bF,bF,bF,bF⟩
def T40:TY 40 (.slice 168) 1 24 [.l 0 [] .nil]:=eE
def T42:TS 42 Tryz.t41.desc 3 48 [.v (.bool γ),.s [],.l 0 [] .nil] [(0,1),(1,1),(2,1)]/\FL 42 0 0 γ 1/\FL 42 1 1 γ 1/\FL 42 2 2 γ 1:=⟨iX,bF,bF,bF⟩
def T44:TS 44 Tryz.t43.desc 13 168 [.v (Ι Κ 0),.v (Ι Κ 0),.v (Ι Κ 0),.s [],.s [],.s [],.s [],.s [],.v (.bool γ),.s [],.l 0 [] .nil,.v (Ι Κ 0),.v (.bool γ)] [(0,1),(1,1),(2,1),(3,4),(7,1),(8,3),(11,1),(12,1)]/\FL 44 0 0 γ 1/\FL 44 1 1 γ 1/\FL 44 2 2 γ 1/\FL 44 3 3 Α 4/\FL 44 4 7 γ 1/\FL 44 5 8 Α 3/\FL 44 6 11 γ 1/\FL 44 7 12 γ 1:=⟨iX,bF,bF,bF,bF,bF,bF,bF,bF⟩
def T46:TY 46 (.slice 3) 1 24 [.l 0 [] .nil]:=eE
def PK:TY 51 (.slice 24) 1 24 [.l 0 [] .nil]:=eE
def ue:TY 52 (.slice 9) 1 24 [.l 0 [] .nil]:=eE
def T53:TY 53 (.slice 4) 1 24 [.l 0 [] .nil]:=eE
def T55:TS 55 Tryz.t54.desc 4 80 [.l 0 [] .nil,.l 0 [] .nil,.l 0 [] .nil,.v (Ι Κ 0)] [(0,1),(1,1),(2,1),(3,1)]/\FL 55 0 0 γ 1/\FL 55 1 1 γ 1/\FL 55 2 2 γ 1/\FL 55 3 3 γ 1:=⟨iX,bF,bF,bF,bF⟩
def T57:TS 57 Tryz.t56.desc 4 64 [.s [],.s [],.s [],.s []] [(0,3),(3,1)]/\FL 57 0 0 Α 3/\FL 57 1 3 γ 1:=⟨iX,bF,bF⟩
def T60:TY 60 (.pointer 116) 1 8 [.v (.pointer Β)]:=eE
def SQ:TY 62 (.slice 69) 1 24 [.l 0 [] .nil]:=eE
def GF:TS 64 Tryz.t63.desc 8 120 [.s [],.s [],.s [],.s [],.s [],.v (Ι Κ 0),.v (Ι Κ 0),.l 0 [] .nil] [(0,1),(1,1),(2,1),(3,1),(4,1),(5,1),(6,1),(7,1)]/\FL 64 0 0 γ 1/\FL 64 1 1 γ 1/\FL 64 2 2 γ 1/\FL 64 3 3 γ 1/\FL 64 4 4 γ 1/\FL 64 5 5 γ 1/\FL 64 6 6 γ 1/\FL 64 7 7 γ 1:=⟨iX,bF,bF,bF,bF,bF,bF,bF,bF⟩
def T69:TS 69 Tryz.t68.desc 2 32 [.s [],.s []] [(0,1),(1,1)]/\FL 69 0 0 γ 1/\FL 69 1 1 γ 1:=⟨iX,bF,bF⟩
def T71:TY 71 (.map 24 81) 1 8 [.v (.map Β)]:=eE
def T72:TY 72 (.map 69 52) 1 8 [.v (.map Β)]:=eE
def T77:TS 77 Tryz.t76.desc 1 8 [.v (Ι Κ 0)] [(0,0),(0,0),(0,1)]/\FL 77 2 0 γ 1:=⟨iX,bF⟩
def T79:TS 79 Tryz.t78.desc 4 32 [.v (.map Β),.v (.map Β),.v (Ι Κ 0),.v (Ι Κ 0)] [(0,1),(1,1),(2,1),(3,1)]/\FL 79 0 0 γ 1/\FL 79 1 1 γ 1/\FL 79 2 2 Α 1/\FL 79 3 3 Α 1:=⟨iX,bF,bF,bF,bF⟩
def T81:TY 81 (.pointer 97) 1 8 [.v (.pointer Β)]:=eE
def T83:TY 83 (.int .u32) 1 4 [.v (.int .u32 0)]:=eE
def T85:TS 85 Tryz.t84.desc 1 4 [.v (.int .u32 0)] [(0,0),(0,1)]/\FL 85 1 0 γ 1:=⟨iX,bF⟩
def T87:TS 87 Tryz.t86.desc 2 8 [.v (.int .i32 0),.v (.int .u32 0)] [(0,1),(1,1)]/\FL 87 0 0 γ 1/\FL 87 1 1 γ 1:=⟨iX,bF,bF⟩
def T89:TS 89 Tryz.t88.desc 2 8 [.v (.int .i32 0),.v (.int .u32 0)] [(0,0),(0,2)]/\FL 89 1 0 Α 2:=⟨iX,bF⟩
def T91:TS 91 Tryz.t90.desc 3 12 [.v (.int .u32 0),.v (.int .i32 0),.v (.int .u32 0)] [(0,0),(0,1),(1,2)]/\FL 91 1 0 Α 1/\FL 91 2 1 Α 2:=⟨iX,bF,bF⟩
def Ep:TY 92 (.slice 156) 1 24 [.l 0 [] .nil]:=eE
def GG:TY 93 (.slice 64) 1 24 [.l 0 [] .nil]:=eE
def T95:TS 95 Tryz.t94.desc 11 192 [.v (.bool γ),.s [],.s [],.s [],.s [],.s [],.s [],.s [],.l 0 [] .nil,.l 0 [] .nil,.l 0 [] .nil] [(0,1),(1,3),(4,1),(5,1),(6,1),(7,1),(8,1),(9,1),(10,1)]/\FL 95 0 0 γ 1/\FL 95 1 1 Α 3/\FL 95 2 4 γ 1/\FL 95 3 5 γ 1/\FL 95 4 6 γ 1/\FL 95 5 7 γ 1/\FL 95 6 8 γ 1/\FL 95 7 9 γ 1/\FL 95 8 10 γ 1:=⟨iX,bF,bF,bF,bF,bF,bF,bF,bF,bF⟩
def T97:TS 97 Tryz.t96.desc 23 320 [.s [],.v (.int .u32 0),.v (.int .i32 0),.v (.int .u32 0),.v (.bool γ),.s [],.s [],.s [],.s [],.s [],.s [],.s [],.l 0 [] .nil,.l 0 [] .nil,.l 0 [] .nil,.v (Ι Κ 0),.s [],.s [],.s [],.v (Ι Κ 0),.v (Ι Κ 0),.v (Ι Κ 0),.s []] [(0,1),(1,3),(4,11),(15,8)]/\FL 97 0 0 γ 1/\FL 97 1 1 Α 3/\FL 97 2 4 Α 11/\FL 97 3 15 Α 8:=⟨iX,bF,bF,bF,bF⟩
def ap9:TY 100 (.pointer 104) 1 8 [.v (.pointer Β)]:=eE
def alC:TY 101 (.map 39 64) 1 8 [.v (.map Β)]:=eE
def alD:TY 102 (.slice 62) 1 24 [.l 0 [] .nil]:=eE
def ap_:TS 104 Tryz.t103.desc 8 120 [.v (.pointer Β),.v (.pointer Β),.s [],.s [],.s [],.v (.map Β),.l 0 [] .nil,.l 0 [] .nil] [(0,1),(1,1),(2,3),(5,1),(6,1),(7,1)]/\FL 104 0 0 γ 1/\FL 104 1 1 γ 1/\FL 104 2 2 Α 3/\FL 104 3 5 γ 1/\FL 104 4 6 γ 1/\FL 104 5 7 γ 1:=⟨iX,bF,bF,bF,bF,bF,bF⟩
def IG:TY 105 (.slice 112) 1 24 [.l 0 [] .nil]:=eE
def FP:TS 107 Tryz.t106.desc 7 136 [.s [],.s [],.s [],.s [],.l 0 [] .nil,.l 0 [] .nil,.l 0 [] .nil] [(0,3),(3,1),(4,1),(5,1),(6,1)]/\FL 107 0 0 Α 3/\FL 107 1 3 γ 1/\FL 107 2 4 γ 1/\FL 107 3 5 γ 1/\FL 107 4 6 γ 1:=⟨iX,bF,bF,bF,bF,bF⟩
def aqa:TY 110 Tryz.t110.desc 1 8 [.v .nilFunc]:=eE
def SR:TS 112 Tryz.t111.desc 10 152 [.s [],.s [],.s [],.s [],.v (.bool γ),.s [],.l 0 [] .nil,.v (Ι Κ 0),.v (.bool γ),.l 0 [] .nil] [(0,4),(4,3),(7,1),(8,1),(9,1)]/\FL 112 0 0 Α 4/\FL 112 1 4 Α 3/\FL 112 2 7 γ 1/\FL 112 3 8 γ 1/\FL 112 4 9 γ 1:=⟨iX,bF,bF,bF,bF,bF⟩
def alE:TY 114 (.map 24 107) 1 8 [.v (.map Β)]:=eE
def alF:TS 116 Tryz.t115.desc 2 16 [.v (.pointer Β),.v (.map Β)] [(0,1),(1,1)]/\FL 116 0 0 γ 1/\FL 116 1 1 γ 1:=⟨iX,bF,bF⟩
def alG:TY 118 (.slice 239) 1 24 [.l 0 [] .nil]:=eE
def ql:TY 119 (.slice 121) 1 24 [.l 0 [] .nil]:=eE
def wK:TS 121 Tryz.t120.desc 4 80 [.s [],.l 0 [] .nil,.l 0 [] .nil,.s []] [(0,1),(1,1),(2,1),(3,1)]/\FL 121 0 0 γ 1/\FL 121 1 1 γ 1/\FL 121 2 2 γ 1/\FL 121 3 3 γ 1:=⟨iX,bF,bF,bF,bF⟩
def aqb:TY 123 Tryz.t123.desc 1 8 [.v .nilFunc]:=eE
def aqc:TY 132 Tryz.t132.desc 1 8 [.v .nilFunc]:=eE
def SU:TY 138 (.pointer 141) 1 8 [.v (.pointer Β)]:=eE
def qm:TY 139 (.slice 5) 1 24 [.l 0 [] .nil]:=eE
def MC:TS 141 Tryz.t140.desc 2 32 [.v (.pointer Β),.l 0 [] .nil] [(0,1),(1,1)]/\FL 141 0 0 γ 1/\FL 141 1 1 γ 1:=⟨iX,bF,bF⟩
def aqd:TY 142 Tryz.t142.desc 1 8 [.v .nilFunc]:=eE
def aqe:TY 144 Tryz.t143.desc 1 16 [.v .nilIface]:=eE
def alH:TS 149 Tryz.t148.desc 7 88 [.v (Ι Κ 0),.s [],.l 0 [] .nil,.s [],.v (Ι Κ 0),.v (Ι Κ 0),.v (Ι Κ 0)] [(0,1),(1,1),(2,1),(3,1),(4,3)]/\FL 149 0 0 γ 1/\FL 149 1 1 γ 1/\FL 149 2 2 γ 1/\FL 149 3 3 γ 1/\FL 149 4 4 Α 3:=⟨iX,bF,bF,bF,bF,bF⟩
def IH:TY 151 (.slice 149) 1 24 [.l 0 [] .nil]:=eE
def AT:TS 156 Tryz.t155.desc 2 32 [.s [],.s []] [(0,1),(1,1)]/\FL 156 0 0 γ 1/\FL 156 1 1 γ 1:=⟨iX,bF,bF⟩
def aqf:TS 166 Tryz.t165.desc 3 32 [.v (.bool γ),.s [],.v (.bool γ)] [(0,1),(1,1),(2,1)]/\FL 166 0 0 γ 1/\FL 166 1 1 γ 1/\FL 166 2 2 γ 1:=⟨iX,bF,bF,bF⟩
def SV:TS 168 Tryz.t167.desc 6 64 [.v (.bool γ),.s [],.v (.bool γ),.v (.bool γ),.s [],.v (.bool γ)] [(0,3),(3,3)]/\FL 168 0 0 Α 3/\FL 168 1 3 Α 3:=⟨iX,bF,bF⟩
def aqg:TY 172 (.pointer 178) 1 8 [.v (.pointer Β)]:=eE
def alI:TY 173 (.pointer 204) 1 8 [.v (.pointer Β)]:=eE
def aqh:TS 178 Tryz.t177.desc 17 280 [.v (.pointer Β),.v (.pointer Β),.s [],.s [],.s [],.v (.bool γ),.s [],.s [],.s [],.s [],.s [],.s [],.s [],.l 0 [] .nil,.l 0 [] .nil,.l 0 [] .nil,.l 0 [] .nil] [(0,1),(1,1),(2,3),(5,11),(16,1)]/\FL 178 0 0 γ 1/\FL 178 1 1 γ 1/\FL 178 2 2 Α 3/\FL 178 3 5 Α 11/\FL 178 4 16 γ 1:=⟨iX,bF,bF,bF,bF,bF⟩
def aqi:TY 195 (.pointer 5) 1 8 [.v (.pointer Β)]:=eE
def aau:TY 197 Tryz.t197.desc 1 8 [.v .nilFunc]:=eE
def alJ:TY 198 (.slice 95) 1 24 [.l 0 [] .nil]:=eE
def II:TY 202 (.map 9 9) 1 8 [.v (.map Β)]:=eE
def aqj:TS 204 Tryz.t203.desc 4 48 [.l 0 [] .nil,.v (.map Β),.v (.map Β),.v (Ι Κ 0)] [(0,1),(1,1),(2,1),(3,1)]/\FL 204 0 0 γ 1/\FL 204 1 1 γ 1/\FL 204 2 2 γ 1/\FL 204 3 3 Α 1:=⟨iX,bF,bF,bF,bF⟩
def alK:TY 210 (.pointer 212) 1 8 [.v (.pointer Β)]:=eE
def aqk:TS 212 Tryz.t211.desc 2 32 [.v (.pointer Β),.l 0 [] .nil] [(0,1),(1,1)]/\FL 212 0 0 γ 1/\FL 212 1 1 γ 1:=⟨iX,bF,bF⟩
def aql:TY 214 (.pointer 217) 1 8 [.v (.pointer Β)]:=eE
def aqm:TY 215 (.map 39 4) 1 8 [.v (.map Β)]:=eE
def aqn:TS 217 Tryz.t216.desc 2 32 [.l 0 [] .nil,.v (.map Β)] [(0,1),(1,1)]/\FL 217 0 0 γ 1/\FL 217 1 1 γ 1:=⟨iX,bF,bF⟩
def alL:TY 218 (.slice 222) 1 24 [.l 0 [] .nil]:=eE
def alM:TS 222 Tryz.t221.desc 4 64 [.s [],.s [],.s [],.s []] [(0,3),(3,1)]/\FL 222 0 0 Α 3/\FL 222 1 3 γ 1:=⟨iX,bF,bF⟩
def alN:TS 226 Tryz.t73.desc 0 0 [] []:=iX
def aqo:TY 227 (.pointer 229) 1 8 [.v (.pointer Β)]:=eE
def aqp:TS 229 Tryz.t228.desc 1 16 [.s []] [(0,1)]/\FL 229 0 0 γ 1:=⟨iX,bF⟩
def ME:TY 237 .unsafePointer 1 8 [.v (.pointer Β)]:=eE
def alO:TS 239 Tryz.t155.desc 2 32 [.s [],.s []] [(0,1),(1,1)]/\FL 239 0 0 γ 1/\FL 239 1 1 γ 1:=⟨iX,bF,bF⟩
def af5:TS 244 Tryz.t243.desc 2 24 [.v (Ι Κ 0),.s []] [(0,1),(1,1)]/\FL 244 0 0 γ 1/\FL 244 1 1 γ 1:=⟨iX,bF,bF⟩
def sZ:TY 255 (.slice 259) 1 24 [.l 0 [] .nil]:=eE
def wL:TS 259 Tryz.t258.desc 3 24 [.v (.bool γ),.v (.bool γ),.s []] [(0,1),(1,1),(2,1)]/\FL 259 0 0 γ 1/\FL 259 1 1 γ 1/\FL 259 2 2 γ 1:=⟨iX,bF,bF,bF⟩
def aqq:TY 263 Tryz.t263.desc 1 8 [.v .nilFunc]:=eE
def aqr:TY 267 (.int .u64) 1 8 [.v (.int .u64 0)]:=eE
def aqs:TY 274 Tryz.t274.desc 1 8 [.v .nilFunc]:=eE
def aqt:TY 278 (.pointer 77) 1 8 [.v (.pointer Β)]:=eE
def aqu:TY 280 (.pointer 2) 1 8 [.v (.pointer Β)]:=eE
def SW:TY 281 (.slice 284) 1 24 [.l 0 [] .nil]:=eE
def SX:TS 284 Tryz.t283.desc 3 24 [.s [],.v (.bool γ),.v (.bool γ)] [(0,1),(1,1),(2,1)]/\FL 284 0 0 γ 1/\FL 284 1 1 γ 1/\FL 284 2 2 γ 1:=⟨iX,bF,bF,bF⟩
def aqv:TY 293 (.pointer 91) 1 8 [.v (.pointer Β)]:=eE
def aqw:TY 298 (.map 39 3) 1 8 [.v (.map Β)]:=eE
def alP:TY 300 Tryz.t300.desc 1 8 [.v .nilFunc]:=eE
def aqx:TY 309 (.pointer 85) 1 8 [.v (.pointer Β)]:=eE
def aqy:TY 311 (.pointer 83) 1 8 [.v (.pointer Β)]:=eE
def aqz:TY 315 (.pointer 318) 1 8 [.v (.pointer Β)]:=eE
def aav:TY 316 (.slice 346) 1 24 [.l 0 [] .nil]:=eE
def aqA:TS 318 Tryz.t317.desc 8 120 [.s [],.l 0 [] .nil,.l 0 [] .nil,.s [],.l 0 [] .nil,.v (Ι Κ 0),.v (.bool γ),.v (.bool γ)] [(0,4),(4,1),(5,1),(6,1),(7,1)]/\FL 318 0 0 Α 4/\FL 318 1 4 γ 1/\FL 318 2 5 γ 1/\FL 318 3 6 γ 1/\FL 318 4 7 γ 1:=⟨iX,bF,bF,bF,bF,bF⟩
def alQ:TS 322 Tryz.t321.desc 2 24 [.v (Ι Κ 0),.s []] [(0,1),(1,1)]/\FL 322 0 0 γ 1/\FL 322 1 1 γ 1:=⟨iX,bF,bF⟩
def af6:TS 324 Tryz.t323.desc 5 96 [.s [],.l 0 [] .nil,.l 0 [] .nil,.s [],.s []] [(0,4),(4,1)]/\FL 324 0 0 Α 4/\FL 324 1 4 γ 1:=⟨iX,bF,bF⟩
def aqB:TY 334 (.pointer 89) 1 8 [.v (.pointer Β)]:=eE
def alR:TS 338 Tryz.t337.desc 2 16 [.v (Ι Κ 0),.v (Ι Κ 0)] [(0,1),(1,1)]/\FL 338 0 0 γ 1/\FL 338 1 1 γ 1:=⟨iX,bF,bF⟩
def aqC:TY 339 (.pointer 343) 1 8 [.v (.pointer Β)]:=eE
def aqD:TS 341 Tryz.t340.desc 2 24 [.s [],.v (Ι Κ 0)] [(0,1),(1,1)]/\FL 341 0 0 γ 1/\FL 341 1 1 γ 1:=⟨iX,bF,bF⟩
def aqE:TS 343 Tryz.t342.desc 3 48 [.s [],.v (Ι Κ 0),.l 0 [] .nil] [(0,2),(2,1)]/\FL 343 0 0 Α 2/\FL 343 1 2 γ 1:=⟨iX,bF,bF⟩
def aaw:TY 346 (.pointer 121) 1 8 [.v (.pointer Β)]:=eE
def af7:TY 351 (.slice 324) 1 24 [.l 0 [] .nil]:=eE
def af8:TY 354 (.pointer 87) 1 8 [.v (.pointer Β)]:=eE
def aqF:TY 356 (.pointer 21) 1 8 [.v (.pointer Β)]:=eE
def aqG:TY 360 (.pointer 341) 1 8 [.v (.pointer Β)]:=eE
def MF:TY 380 (.slice 21) 1 24 [.l 0 [] .nil]:=eE
set_option maxRecDepth 10000
def gg:=Rn T9<|Rn T3<|Rn T4<|Rn T5 qm
def wrap_u8{n:Int}(h0:0<=n)(h1:n<=255):IntKind.u8.wrap n=n:=by
 simp only[IntKind.wrap,IntKind.signed,IntKind.bits];simp;omega
def bN{α :Type}(l:List α)(j:Nat)(h:j<Ζ l):l.take (j+1)=l.take j++[l[j]]:=by
 rw[List.take_add_one,Ro h];rfl
def uf{α :Type}(f: α -> α)(l:List α)(j:Nat):List α :=(l.take j).map f++l.drop j
section
variable{α :Type}{f: α -> α}{l:List α}{j:Nat}
def af9(h:j<=Ζ l):(uf f l j).length=Ζ l:=by simp[uf];omega
def akl(h:j<Ζ l):(uf f l j)[j]?=φ l[j]:=by
 have hj:((l.take j).map f).length=j:=by simp;omega
 rw[uf,List.getElem?_append_right Λ,hj,Nat.sub_self,atM];simp[h]
def adl(h:j<Ζ l):(uf f l j).set j (f l[j])=uf f l (j+1):=by
 have hj:((l.take j).map f).length=j:=by simp;omega
 rw[uf,uf,List.set_append_right _ _ Λ,hj,Nat.sub_self,apG h,ats,bN _ _ h,as0,aui];rfl
def adm(h:j<Ζ l)(hf:f l[j]=l[j]):uf f l j=uf f l (j+1):=by
 rw[uf,uf,apG h,bN _ _ h,as0,aui];simp[hf]
def mid_end:uf f l (Ζ l)=l.map f:=by simp[uf]
def aoG:uf f l 0=l:=by simp[uf]
end
def jF(b:UInt8):Bool:=decide (48<=b.toNat)&&decide (b.toNat<=57)
def lo(b:UInt8):UInt8:=if 65<=b.toNat/\b.toNat<=90 then UInt8.ofNat (b.toNat+32)else b
def af_(l:Ρ)(O:VH)(hl:Ζ l<=maxLen):VF Ε 158 [.s l] O (aC λm O'=>m= .s (l.map lo)/\O.Ge O'):=by
 have uP:=ζ O (.cells (l.map ef));have bK:=(VH.Ge.refl O).push (.cells (l.map ef));have hlm:(Ζ l:Int)<=9223372036854775807:=by simp[maxLen]at hl;omega
 refine χ 30 [.tmp 2] func158 ?_;refine ae gg ?_;refine VL.bytes aa (el:=5) (l:=l) rfl rfl z21 z30 z44 hl rfl λcap h1 h2=>WL.sound aa ?_
 generalize O.push (.cells (l.map ef))=O1 at*;refine ae gg ?_;generalize xD:O.N=b at*;refine WC.cj [10] [3,8,9] (λj:Nat=>[mi j]) (λj O'=>j<=(Ζ l)/\O.Ge O'/\O'.hp b=φ (.cells ((uf lo l j).map ef))) (λj=>(Ζ l) - j) (0) ?_ ?_;exact⟨Λ,bK,by rw[aoG];exact uP⟩;rintro j O2 ⟨hj,kZ,hb⟩;by_cases h3:j<Ζ l
 ·(have bh:((uf lo l j).map ef)[j]?=φ (ef l[j]):=by rw[an6,akl h3];rfl);have yf:l[j].toNat<256:=l[j].toNat_lt;by_cases kF:65<=l[j].toNat/\l[j].toNat<=90
  ·have gT:((lo l[j]).toNat:Int)=l[j].toNat+97 - 65:=by
    rw[lo,if_pos kF,UInt8.toNat_ofNat'];omega
   have nQ:((uf lo l j).map ef).length=Ζ l:=by rw[asc,af9 hj]
   have oa:(uf lo l (j+1)).map ef=((uf lo l j).map ef).set j (.v (.int .u8 (l[j].toNat+97 - 65))):=by rw[<-adl h3,List.map_set,aA,gT]
   generalize l[j]=c at*;refine gy gg hb bh @aA @wrap_u8 ?_;exact aw.N (j+1) ⟨h3,kZ.set Λ _,(υ _ _ _).trans (by rw[oa])⟩
  ·have gT:lo l[j]=l[j]:=by rw[lo,if_neg kF]
   have oa:=adm h3 gT;generalize l[j]=c at*;by_cases h65:65<=c.toNat
   all_goals
    refine bo gg hb bh @aA ?_;exact aw.N (j+1) ⟨h3,kZ,by rw[<-oa];exact hb⟩
 ·obtain rfl:j=Ζ l:=Λ
  rw[mid_end]at hb;refine ae gg ?_;refine VL.an_ aa (el:=5) (l:=l.map lo) rfl rfl z30 z21 z44 hb (by rw[asc]) (by rw[auE,an7 z10]) rfl (WL.sound aa ?_);refine ae gg ?_;exact kZ
def lI(b:UInt8)(O:VH):VF Ε 58 [ef b] O (aC λm O'=>m=mb (jF b)/\O'=O):=by
 have yf:b.toNat<256:=b.toNat_lt;refine χ 9 [.tmp 2] func58 ?_;unfold jF;by_cases h1:48<=b.toNat;by_cases h2:b.toNat<=57;rw[decide_eq_true h1,decide_eq_true h2];refine ak gg @aA ?_;((try trivial);rw[decide_eq_true h1,decide_eq_false h2];refine ak gg @aA ?_;try trivial);rw[decide_eq_false h1];refine ak gg @aA ?_;try trivial
section
variable{tab:cB}{t:TypeId}{a b:Ρ}
end
def SY(l:Ρ)(O:VH)(hl:Ζ l<=maxLen):VF Ε 159 [.s l] O (aC λm O'=>m=mb (l.all jF)/\O.Ge O'):=by
 have uP:=ζ O (.cells (l.map ef));have bK:=(VH.Ge.refl O).push (.cells (l.map ef));have hlm:(Ζ l:Int)<=9223372036854775807:=by simp[maxLen]at hl;omega
 refine χ 16 [.tmp 2] func159 ?_;refine ae gg ?_;refine VL.bytes aa (el:=5) (l:=l) rfl rfl z21 z30 z44 hl rfl λcap h1 h2=>WL.sound aa ?_
 generalize O.push (.cells (l.map ef))=O1 at*;generalize O.N=b at*;refine ae gg ?_;refine WC.cj [8] [6,7] (λj:Nat=>[mi j]) (λj O'=>j<=(Ζ l)/\O'=O1/\(l.take j).all jF=Α) (λj=>(Ζ l) - j) (0) ?_ ?_;exact⟨Λ,rfl,rfl⟩;rintro j O2 ⟨hj,rfl,ia⟩;by_cases h2:j<Ζ l
 ·(have bh:(l.map ef)[j]?=φ (ef l[j]):=by rw[an6,Ro h2];rfl);have fh:(l.take (j+1)).all jF=jF l[j]:=by rw[bN _ _ h2,List.all_append,ia];simp
  have cZ:jF l[j]=γ->l.all jF=γ:=λh=>List.all_eq_false.2 ⟨l[j],apE h2,by simp[h]⟩
  generalize l[j]=c at*;refine aF gg uP bh ?_;refine π (lI c O2) ?_;rintro _ O3 ⟨rfl,rfl⟩;cases hd:jF c;rw[cZ hd];refine ae gg ?_;exact bK;refine ae gg ?_;exact aw.N (j+1) ⟨h2,rfl,fh.trans hd⟩
 ·rw[an7 Λ]at ia;rw[ia];refine ae gg ?_;exact bK
def ug(s:Ρ)(nb:Bool):Ρ:=
 if s==[103,97]||(s==[102,105,110,97,108]||s==[114,101,108,101,97,115,101])then[]
 else if s==[99,114]then[114,99]
 else if nb&&s==[97]then[97,108,112,104,97]
 else if nb&&s==[98]then[98,101,116,97]
 else if nb&&s==[109]then[109,105,108,101,115,116,111,110,101]
 else s
def akm(s:Ρ)(nb:Bool)(O:VH):VF Ε 161 [.s s,mb nb] O (aC λm O'=>m= .s (ug s nb)/\O'=O):=by
 unfold ug;refine χ 38 [.tmp 4] func161 ?_;generalize h1:(s==([103,97]:Ρ))=b1;generalize h2:(s==([102,105,110,97,108]:Ρ))=b2;generalize h3:(s==([114,101,108,101,97,115,101]:Ρ))=b3;generalize h4:(s==([99,114]:Ρ))=b4;generalize h5:(s==([97]:Ρ))=b5;generalize h6:(s==([98]:Ρ))=b6;generalize h7:(s==([109]:Ρ))=b7;cases b1;rotate_left;refine ak gg h1 ?_;trivial;cases b2;rotate_left;refine aF gg h1 h2 ?_;trivial;cases b3;rotate_left;refine bo gg h1 h2 h3 ?_;trivial;cases b4;rotate_left;refine gy gg h1 h2 h3 h4 ?_;trivial;cases nb;refine gy gg h1 h2 h3 h4 ?_;trivial;cases b5;rotate_left;refine Em gg h1 h2 h3 h4 h5 ?_;trivial;cases b6;rotate_left;refine SO gg h1 h2 h3 h4 h5 h6 ?_;trivial;cases b7;refine SP gg h1 h2 h3 h4 h5 h6 h7 ?_;trivial;refine SP gg h1 h2 h3 h4 h5 h6 h7 ?_;trivial
section
variable{tab:cB}{t:TypeId}{l:Ρ}{s c:Nat}{z:Η}
end
def AU(b:UInt8):Bool:=b==46||b==45
def adn(b:UInt8)(O:VH):VF Ε 184 [ef b] O (aC λm O'=>m=mb (AU b)/\O'=O):=by
 have e1:(b==46)=decide (b.toNat=46):=by
  rw[Bool.eq_iff_iff,beq_iff_eq,decide_eq_true_iff, <-UInt8.toNat_inj];rfl
 have e2:(b==45)=decide (b.toNat=45):=by
  rw[Bool.eq_iff_iff,beq_iff_eq,decide_eq_true_iff, <-UInt8.toNat_inj];rfl
 rw[AU,e1,e2];refine χ 9 [.tmp 2] func184 ?_;by_cases h1:b.toNat=46;rw[decide_eq_true h1];refine aF gg @aA @ru ?_;trivial;rw[decide_eq_false h1];by_cases h2:b.toNat=45;rw[decide_eq_true h2];refine bo gg @aA @sV @ru ?_;trivial;rw[decide_eq_false h2];refine aF gg @aA @sV ?_;trivial
def xj(a b:Int):Int:=if a<b then -1 else if b<a then 1 else 0
def aax(a b:Int)(O:VH):VF Ε 165 [mi a,mi b] O (aC λm O'=>m=mi (xj a b)/\O'=O):=by
 unfold xj;refine χ 13 [.tmp 4] func165 ?_;by_cases h1:a<b;rw[if_pos h1];refine ae gg ?_;trivial;rw[if_neg h1];by_cases h2:b<a;rw[if_pos h2];refine ae gg ?_;trivial;rw[if_neg h2];refine ae gg ?_;trivial
def GH(l:Ρ)(c:UInt8)(O:VH):VF Ε 185 [.s l,ef c] O (aC λm O'=>m= .s (l.dropWhile (· ==c))/\O'=O):=by
 refine χ 17 [.tmp 4] func185 ?_;refine ae gg ?_;refine WC.cj [0] [1] (λk:Nat=>[.s (l.drop k)]) (λk O'=>k<=(Ζ l)/\O'=O/\l.dropWhile (· ==c)=(l.drop k).dropWhile (· ==c)) (λk=>(Ζ l) - k) (0) ?_ ?_;exact⟨auC _,rfl,rfl⟩;rintro k O' ⟨hk,rfl,hd⟩;by_cases h2:k<Ζ l
 ·have bh:(l.drop k)[0]?=φ l[k]:=by simp[h2]
  have hlen:(l.drop k).length=(Ζ l) - k:=by simp
  have hdd:(l.drop k).drop 1=l.drop (k+1):=List.drop_drop;have XF:=apG h2;generalize l[k]=x at*;generalize l.drop k=Y at*;by_cases hc:x=c;subst hc;rw[XF,List.dropWhile_cons_of_pos z10]at hd;refine Em gg @hlen bh @aA @ru hdd ?_;exact aw.N (k+1) ⟨h2,rfl,hd⟩
  ·have GI:x.toNat≠c.toNat:=λh=>hc (UInt8.toNat_inj.1 h)
   rw[XF,List.dropWhile_cons_of_neg (by simpa using hc), <-XF]at hd;rw[hd];refine gy gg @hlen bh @aA @sV ?_;try trivial
 ·have aga:l.drop k=[]:=List.drop_eq_nil_of_le Λ;rw[aga]at hd ⊢;rw[hd];refine ak gg @asl.{0} ?_;try trivial
end Go.Proofs.YtnfdmplcieacjaaGreatDoor
