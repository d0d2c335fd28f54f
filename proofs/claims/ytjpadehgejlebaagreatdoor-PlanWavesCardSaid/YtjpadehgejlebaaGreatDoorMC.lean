import Derived.Test.YtjpadehgejlebaaGreatDoorMB
import Derived.ProofKit
import Derived.OpenShut
import Derived.Shelf.Strings.Search3
import Derived.Shelf.Strings.OnBuilder
import Derived.Test.YtjpadehgejlebaaGreatDoorProg
set_option linter.unusedVariables false
set_option linter.defProp false
set_option linter.unusedSimpArgs false
namespace Go.Proofs.YtjpadehgejlebaaGreatDoor
open Go.RowKit
open _root_.Go.Proofs.Tryz
open Go.Value renaming int → Ι
open Go.IntKind renaming i64 → Κ
open _root_.List renaming length → Ζ
open _root_.Go.Proofs.Tryz renaming prog → Ε
open _root_.Option renaming some → φ, none → Β
open _root_.Bool renaming false → γ, true → Α
open _root_.List renaming length_append → Ca, length_nil → Th, length_cons → Ti, nil_append → af_, getElem?_eq_getElem → aga, cons_append → agb, append_nil → agc, take_length → akb, flatMap_cons → akd, getElem_mem → ake, length_take → akf, length_drop → alO, append_assoc → alP, drop_eq_getElem_cons → alQ, flatMap_append → alR, drop_of_length_le → alT, flatMap_nil → alU, getElem?_append_right → alV, takeWhile_cons_of_neg → aoT, takeWhile_cons_of_pos → ap2, length_filter_le → ap3, getElem?_cons_succ → ap5, mem_cons → ap7, length_map → ap8, getElem?_cons_zero → aqb, all_eq_true → aqd, getElem?_take → aqg, getElem?_append_left → aqh, getElem?_eq_some_iff → aqi, not_mem_nil → aqj, map_append → aql, mem_range → aqr
open _root_.Nat renaming le_trans → YI, le_refl → abx, zero_le → aka, lt_of_lt_of_le → akc, lt_succ_self → alS, zero_lt_one → ap4, zero_add → ap_, le_of_lt → aqa, lt_or_ge → aqe, eq_zero_or_pos → aqf, add_mul → aqo
open _root_.And renaming intro → WT
open _root_.Bool renaming false_eq_true → ap6, and_eq_true → aqk, false_or → aqt
open _root_.Array renaming getD_eq_getD_getElem? → ap9, getElem?_eq_none → aqc
variable{listed:Array Bool}{af:Array Edge}{c:Code}{e:Env}{K:Env->VH->Prop}{Ψ:Gh->Prop}{L:List (Fl×Oper)}{D:List Deferred}{A E QX U0 cs cs' ms:List MV}{Φ:List MV->Prop}{brk:List Nat}{l:List Oper}{X p:MV}{B b fuel i j n n' off sz:Nat}{o:Oper}{f x y:Operand}{g:Option (Nat×Bool)}{q:Option Nat}{d:Option Tmp}{P:Program}{Z:Prop}{ps:String}{t1 tk:Tok}{O O' O1 O2:VH}{J:VH->Prop}{Q:VQ}{v:Value}{w:World}{te:c6}{R:iE->VH->Prop}
set_option maxRecDepth 10000
def va:=WT T9<|WT T3<|WT T4<|WT T5 w7
def H3(s:Ρ)(c:UInt8):(0<=Lib.indexByte s c) ↔ c∈s:=by
 induction s with
 | nil=>simp[Lib.indexByte]
 | cons b l ih=>
   have jQ:=Lib.indexByte_ge l c;unfold Lib.indexByte;by_cases hb:b=c;subst hb;simp
   ·have:(b==c)=γ:=by simpa using hb
    rw[this];simp only[ap6,if_false,ap7];by_cases h1:Lib.indexByte l c= -1;rw[h1]at ih ⊢;simp only[beq_self_eq_true,if_true];constructor;intro h;omega;rintro(h | h);exact absurd h.symm hb;have:=ih.2 h;omega
    ·have:(Lib.indexByte l c== -1)=γ:=by simpa using h1
     rw[this];simp only[ap6,if_false];constructor;intro _;exact .inr (ih.1 (by omega));rintro(h | h);exact absurd h.symm hb;have:=ih.2 h;omega
def BV(s:Ρ)(c:UInt8)(O:VH):fJ Ε 186 [.s s,im c] O λm O'=>m=mi (Lib.indexByte s c)/\O'=O:=by
 refine fJ.of (ex:=Extern.BytealgIndexByte.indexByte) func186 (by kernel_rfl) (by kernel_rfl) (by kernel_rfl) (by kernel_rfl) λG w vs hw hv=>?_
 obtain⟨u,us,rfl,h1,h2⟩:=hv.fH;obtain⟨u2,us2,rfl,h3,h4⟩:=h2.fH;rw[h4.jN];cases h1;have:=h3.j8;subst this;refine⟨_,Lib.run_indexByteString _ _ w,?_⟩;have e:((c.toNat:Int).toNat).toUInt8=c:=by simp
 rw[e];exact .v rfl
def Ni(s:Ρ)(c:UInt8)(O:VH):VF Ε 149 [.s s,im c] O (aH λm O'=>m=mi (Lib.indexByte s c)/\O'=O):=by
 refine Υ 8 [.tmp 4] func149 ?_;refine Nc ?_;refine ah.ext (BV s c O) rfl ?_;rintro _ O2 ⟨rfl,rfl⟩;exact Nc trivial
def aad(s:Ρ)(c:UInt8)(O:VH):VF Ε 122 [.s s,.s [c]] O (aH λm O'=>∃n:Int,m=mi n/\(0<=n ↔ c∈s)/\O'=O):=by
 refine Υ 143 [.tmp 4] func122 ?_;cases h:([c]:Ρ)==s;refine cB va @h @Ti.{0} @Th.{0} ?_;refine τ (Ni s c O) ?_;rintro _ O2 ⟨rfl,rfl⟩;refine ae va ?_;exact⟨_,rfl,H3 s c⟩;refine cB va @h @Ti.{0} @Th.{0} ?_;(have:s=[c]:=by have:=beq_iff_eq.1 h;exact this.symm);exact⟨0,rfl,by rw[this];simp⟩
def Nj(s:Ρ)(c:UInt8)(O:VH):VF Ε 98 [.s s,.s [c]] O (aH λm O'=>∃n:Int,m=mi n/\(0<=n ↔ c∈s)/\O'=O):=by
 refine Υ 8 [.tmp 4] func98 ?_;refine Nc ?_;refine τ (aad s c O) ?_;rintro _ O2 ⟨n,rfl,h,rfl⟩;refine Nc ?_;exact⟨n,rfl,h⟩
def Dd(s:Ρ)(c:UInt8)(O:VH):VF Ε 86 [.s s,.s [c]] O (aH λm O'=>m=mb (s.contains c)/\O'=O):=by
 refine Υ 9 [.tmp 4] func86 ?_;refine Nc ?_;refine τ (Nj s c O) ?_;rintro _ O2 ⟨n,rfl,h,rfl⟩;refine Nc ?_
 have:s.contains c=decide (n>=0):=by
  rw[Bool.eq_iff_iff,List.contains_iff_mem,decide_eq_true_iff];exact h.symm
 rw[this]
def UE(c:UInt8):Bool:=decide ((97<=c.toNat/\c.toNat<=122)\/(65<=c.toNat/\c.toNat<=90)\/(48<=c.toNat/\c.toNat<=57)\/c.toNat=46\/c.toNat=45\/c.toNat=95\/c.toNat=43)
def yx(s:Ρ):Bool:=s.all UE&&(decide (1<=Ζ s)&&decide (Ζ s<=64))
def UF(c:UInt8):((97<=c.toNat/\c.toNat<=122)\/(65<=c.toNat/\c.toNat<=90)\/(48<=c.toNat/\c.toNat<=57)\/c.toNat=46\/c.toNat=45\/c.toNat=95\/c.toNat=43)\/((123<=c.toNat)\/(91<=c.toNat/\c.toNat<=96/\c.toNat≠95)\/(58<=c.toNat/\c.toNat<=64)\/(c.toNat<=47/\c.toNat≠43/\c.toNat≠45/\c.toNat≠46)):=by omega
def UG(s:Ρ)(O:VH)(hs:Ζ s<=maxLen):VF Ε 70 [.s s] O (aH λm O'=>m=mb (yx s)/\O.Ge O'):=by
 have hm:(Ζ s:Int)<=9223372036854775807:=by simp[maxLen]at hs;omega
 have vc:=ζ O (.cells (s.map im));have De:=(VH.Ge.refl O).push (.cells (s.map im));refine Υ 50 [.tmp 2] func70 ?_;refine ae va ?_;refine VL.bytes aa (el:=5) (l:=s) rfl rfl (by rw[T9];rfl) (by rw[w7];rfl) (by rw[T5];rfl) hs rfl λcap h1 h2=>WL.sound aa ?_
 refine ae va ?_;refine WC.kh [9] [0,7,8] (λj:Nat=>[mi j]) (λj O'=>(O.push (.cells (s.map im))).Ge O'/\j<=(Ζ s)/\(s.take j).all UE=Α) (λj=>(Ζ s) - j) (0) ?_ ?_;exact⟨VH.Ge.refl _,aka _,rfl⟩;rintro j O2 ⟨rW,hj,ja⟩;have AG:=(rW.hp O.N (alS _)).trans vc;by_cases h2:j<Ζ s
 ·have hc:=UF s[j];have rE:=aga h2;have dw:UE s[j]=decide ((97<=s[j].toNat/\s[j].toNat<=122)\/(65<=s[j].toNat/\s[j].toNat<=90)\/(48<=s[j].toNat/\s[j].toNat<=57)\/s[j].toNat=46\/s[j].toNat=45\/s[j].toNat=95\/s[j].toNat=43):=rfl;(have hY:(s.take (j+1)).all UE=UE s[j]:=by rw[dU _ _ h2,List.all_append,ja];simp);generalize hx:s[j]=c at*;have hD:sG c=decide (48<=c.toNat/\c.toNat<=57):=by unfold sG;rw[Bool.decide_and]
  have hC:([46,45,95,43]:Ρ).contains c=decide (c.toNat=46\/c.toNat=45\/c.toNat=95\/c.toNat=43):=by
   rw[Bool.eq_iff_iff,List.contains_iff_mem,decide_eq_true_iff];simp only[ap7,aqj,or_false, <-UInt8.toNat_inj];rfl
  rcases hc with hc | hc
  ·(have h1:UE c=Α:=by rw[dw];exact decide_eq_true hc);rw[h1]at hY;rcases hc with hc | hc | hc | hc | hc | hc | hc
   ·refine cB va rE AG @aO ?_;refine az.N (j+1) ?_;exact⟨rW,by omega,hY⟩
   ·refine cB va rE AG @aO ?_;refine az.N (j+1) ?_;exact⟨rW,by omega,hY⟩
   ·rw[decide_eq_true (by omega)]at hD;refine cB va rE AG @aO ?_;refine τ (sH c _) ?_;rintro _ O3 ⟨rfl,rfl⟩;rw[hD];refine ae va ?_;refine az.N (j+1) ?_;exact⟨rW,by omega,hY⟩
   all_goals
    rw[decide_eq_false (by omega)]at hD;rw[decide_eq_true (by omega)]at hC;refine cB va rE AG @aO ?_;refine τ (sH c _) ?_;rintro _ O3 ⟨rfl,rfl⟩;rw[hD];refine ae va ?_;refine VL.abY aa (el:=5) (l:=[c]) rfl rfl (by rw[w7];rfl) (by rw[T9];rfl) (by rw[T5];rfl) rfl rfl rfl (WL.sound aa ?_);refine ae va ?_;refine τ (Dd [46,45,95,43] c _) ?_;rintro _ O4 ⟨rfl,rfl⟩;rw[hC];refine ae va ?_;refine az.N (j+1) ?_;exact⟨rW,by omega,hY⟩
  ·have h1:UE c=γ:=by rw[dw];exact decide_eq_false (by omega)
   have:yx s=γ:=by
    unfold yx;rw[List.all_eq_false.2 ⟨c,by rw[<-hx];exact ake h2,by simp[h1]⟩];rfl
   rw[this];rw[decide_eq_false (by omega)]at hD hC;rcases hc with hc | hc | hc | hc
   all_goals
    refine cB va rE AG @aO ?_;refine τ (sH c _) ?_;rintro _ O3 ⟨rfl,rfl⟩;rw[hD];refine ae va ?_;refine VL.abY aa (el:=5) (l:=[c]) rfl rfl (by rw[w7];rfl) (by rw[T9];rfl) (by rw[T5];rfl) rfl rfl rfl (WL.sound aa ?_);refine ae va ?_;refine τ (Dd [46,45,95,43] c _) ?_;rintro _ O4 ⟨rfl,rfl⟩;rw[hC];refine ae va ?_;exact De.trans rW
 ·have BU:j=Ζ s:=by omega
  subst BU;rw[akb]at ja;unfold yx;rw[ja];by_cases h0:0<Ζ s;have e:decide (1<=Ζ s)=Α:=decide_eq_true h0;rw[e];by_cases H4:Ζ s<=64;refine ae va ?_;exact De.trans rW;refine ae va ?_;exact De.trans rW;have e:decide (1<=Ζ s)=γ:=decide_eq_false (by omega);rw[e];refine ae va ?_;exact De.trans rW
def w8:Bool->List UInt8->List UInt8->List Piece
 | hy,cur,[]=>[(cur,hy,γ)]
 | hy,cur,c::r=>if Qv c then(cur,hy,γ)::w8 (c==45) [] r
   else match cur.getLast? with
    | none=>w8 hy [c] r
    | some d=>if sG c=sG d then w8 hy (cur++[c]) r else(cur,hy,Α)::w8 Α [c] r
def aae(hy:Bool)(cur:Ρ):w8 hy cur []=[(cur,hy,γ)]:=rfl
def UH{hy:Bool}{cur r:Ρ}{c:UInt8}(h:Qv c=Α):w8 hy cur (c::r)=(cur,hy,γ)::w8 (c==45) [] r:=by rw[w8,if_pos h]
def even(l:Ρ):Prop:=(∀c∈l,Qv c=γ)/\∀c∈l,∀d∈l,sG c=sG d
def Ep:∀(l cur r:Ρ)(hy:Bool),even (cur++l)->w8 hy cur (l++r)=w8 hy (cur++l) r
 | [],cur,r,hy,_=>by simp
 | c::l,cur,r,hy,h=>by
   have hm:Qv c=γ:=h.1 c (by simp);have KX:=Ep l (cur++[c]) r hy (by rw[alP];exact h);rw[alP,List.singleton_append]at KX;rw[<-KX,agb,w8,if_neg (by rw[hm];simp)];cases hl:cur.getLast? with
   | none=>
     have:cur=[]:=List.getLast?_eq_none_iff.1 hl;subst this;rfl
   | some d=>
     have hd:sG c=sG d:=h.2 c (by simp) d (List.mem_append_left _ (List.mem_of_getLast? hl));simp only[hd,if_true]
open Go.ChangeShapes
def G0(w:World):Gh:=⟨w,λ_=>Β,λb o=>w.cell? ⟨b,o,Β⟩,λ_=>Β⟩
def O0:VH:=⟨0,λ_=>Β⟩
def wr0(w:World)(hg:OT w):WR (G0 w) O0 w where
 base:=Below.refl _ _
 fB _ _ _ h:=h
 sq _ _:=⟨rfl,rfl,rfl⟩
 lU _ _ h:=by cases h
 inj _ _ _ _ _ h:=by cases h
 cells _ _ h:=by cases h
 map _ _ _ h:=by cases h
 tok _ h:=by cases h
 nM _ _ _ _ _ h:=by cases h
 mC _ _ _ _ h:=by cases h
 obj _ _ h:=by cases h
 tI:=hg
 Eb _ _ h:=by cases h
def El{H:Type}(enc:TypeId×Value->H)(P:Program)(w:World)(sp:Nat->Bool)(held:Bool)(t:TypeId)(Φ :Η->Prop):Prop:=
 ∀fuel cs x,DataW.trod enc P w 0 sp held fuel t cs=φ x->∃ms,aW (G0 w) ms cs/\ Φ ms
section
variable{H:Type}{enc:TypeId×Value->H}{P:Program}{w:World}{sp:Nat->Bool}{held:Bool}{t e:TypeId}
def El.int{k:IntKind}(ht:P.underlying t=φ (.int k)):El enc P w sp held t λms=>∃n,ms=[.v (.int k n)]/\(Lit.int k n).wf=Α:=by
 intro fuel cs x h;obtain⟨n,rfl,rfl,hw⟩:=DataW.trod_int ht h;exact⟨_,aW.cons (.v rfl) aW.nil,n,rfl,hw⟩
def UI{w:World}{a:Addr}(h:w.cell? a=φ v):a=⟨a.block,a.off,Β⟩:=by
 unfold World.cell? at h;split at h
 ·split at h;cases h
  ·rename_i hs;cases a with
   | mk b o s=>cases s with
     | none=>rfl
     | some x=>exact absurd rfl hs
 ·cases h
def El.slice(ht:P.underlying t=φ (.slice e))(he:El enc P w sp held e Φ)(r7:0<P.cellsOf e):
  El enc P w sp held t λms=>∃(rows:List Η)(tk:Tok),ms=[.l (Ζ rows) rows.flatten tk]/\(∀r∈rows, Φ r)/\(Ζ rows)<=maxLen:=by
 intro fuel cs x h;rcases DataW.trod_slice ht h with⟨rfl,rfl⟩ | ⟨a,len,cap,elems,rest,n,rfl,rfl,rfl,_,UJ,hm,hlen,JT,_,_⟩;exact⟨[.l 0 [] .nil],aW.cons .slnil aW.nil,[],.nil,rfl,by simp,by simp⟩;by_cases h0:len=0;subst h0;exact⟨[.l 0 [] .au],aW.cons (.rp hm) aW.nil,[],.au,rfl,by simp,by simp⟩
 have each:∀i,i<len->∃ms ci,w.cells? 0 (a.add (i*P.cellsOf e)) (P.cellsOf e)=φ ci/\aW (G0 w) ms ci/\ Φ ms:=λi hi=>by
  have h1:=JT i hi;have h2:elems[i]?=φ (elems[i]'(by omega)):=aga (by omega);rw[h2]at h1;obtain⟨ci,h3,h4⟩:=Option.bind_eq_some_iff.1 h1;obtain⟨ms,h5,h6⟩:=he _ _ _ h4;exact⟨ms,ci,h3,h5,h6⟩
 have akN:a=⟨a.block,a.off,Β⟩:=by
  obtain⟨_,ci,h1,_⟩:=each 0 (by omega);obtain⟨_,h2,h3⟩:=World.cells?_some h1;have h4:=h3 0 r7;rw[Nat.zero_mul]at h4;(have h5:(a.add 0).add 0=a:=by simp[Addr.add]);rw[h5]at h4;rw[aga (by omega)]at h4;exact UI h4
 obtain⟨b,o,s⟩:=a;obtain rfl:s=Β:=congrArg Addr.spot akN
 have build:∀m,m<=len->∃(rows:List Η)(us:List Value),Ζ rows=m/\(Ζ us)=m*P.cellsOf e/\aW (G0 w) rows.flatten us/\(∀p u,us[p]?=φ u->w.cell? ⟨b,o+p,Β⟩=φ u)/\∀r∈rows, Φ r:=λm=>by
  induction m with
  | zero=>exactλ_=>⟨[],[],rfl,by simp,aW.nil,λp u hu=>by simp at hu,by simp⟩
  | succ m ih=>
    intro hm;obtain⟨rows,us,h1,h2,h3,h4,h5⟩:=ih (by omega);obtain⟨ms,ci,g1,g2,g3⟩:=each m (by omega);obtain⟨_,g4,g5⟩:=World.cells?_some g1;refine⟨rows++[ms],us++ci,by simp[h1],by rw[Ca,h2,g4,aqo,Nat.one_mul],?_,λp u hu=>?_,λr hr=>?_⟩;rw[List.flatten_append,List.flatten_cons,List.flatten_nil,agc];exact aW.append h3 g2;rcases aqe p (Ζ us) with hp | hp;rw[aqh hp]at hu;exact h4 p u hu;rw[alV hp]at hu;have dD:=(aqi.1 hu).1;have:=g5 (p - (Ζ us)) (by omega);rw[hu]at this;rw[<-this,Addr.add_lit,Addr.add_lit,h2,show o+m*P.cellsOf e+(p - m*P.cellsOf e)=o+p by omega];rcases List.mem_append.1 hr with hr | hr;exact h5 r hr;rw[List.mem_singleton.1 hr];exact g3
 obtain⟨rows,us,h1,h2,h3,h4,h5⟩:=build len (abx _);refine⟨[.l (Ζ rows) rows.flatten .au],aW.cons ?_ aW.nil,rows,.au,rfl,h5,by omega⟩;rw[h1];exact .l h3.1 (λp u hu=>h4 p u hu) h3.2 UJ hm trivial
def El.imp{Ψ:Η->Prop}(h:El enc P w sp held t Φ)(hi:∀ms, Φ ms-> Ψ ms):El enc P w sp held t Ψ :=λfuel cs x hx=>by
 obtain⟨ms,h1,h2⟩:=h fuel cs x hx;exact⟨ms,h1,hi _ h2⟩
def El.arg(h:El enc P w sp held t Φ){d:DataW H}{ps:List MemPlace}(hd:DataW.Trod enc P w 0 sp held t v d ps)(hc:v.cells= #[v]):∃m,VR (G0 w) m v/\ Φ [m]:=by
 obtain⟨fuel,h1⟩:=hd;rw[hc]at h1;obtain⟨ms,h2,h3⟩:=h _ _ _ h1
 match ms,h2 with
 | [m],h2=>exact⟨m,h2.2 0 m v rfl rfl,h3⟩
 | [],h2=>exact absurd h2.1 (by simp)
 | _::_::_,h2=>exact absurd h2.1 (by simp)
end
def InK:IntKind->Int->Prop
 | .i64,n=> -9223372036854775808<=n/\n<=9223372036854775807
 | .u64,n=>0<=n/\n<=18446744073709551615
 | .u8,n=>0<=n/\n<=255
 | k,n=>k.min<=n/\n<=k.max
def aho{k:IntKind}{n:Int}(h:(Lit.int k n).wf=Α):InK k n:=by
 simp only[Lit.wf,aqk,decide_eq_true_eq]at h;cases k<;>exact h
section
variable{H:Type}{enc:TypeId×Value->H}{P:Program}{w:World}{sp:Nat->Bool}{held:Bool}{t e:TypeId}
def El.amX{k:IntKind}(ht:P.underlying t=φ (.int k)):El enc P w sp held t λms=>∃n,ms=[.v (.int k n)]/\InK k n:=
 (El.int ht).imp λ_ ⟨n,h,hw⟩=>⟨n,h,aho hw⟩
end
def VF.law{f:FuncId}{vs:Array Value}(hg:OT w)(hv:aW (G0 w) ms vs.toList)(h:VF P f ms O0 (aH λm _=>m=mb Α)):
  Calls P f vs w λe w'=>e= .returned (.bool Α)/\Below w.heap.size w w':=by
 have:=h (G0 w) w vs.toList (wr0 w hg) hv;refine this.mono ?_;rintro x w' ⟨r,O',G,h1,h2,h3,h4⟩;cases r with
 | panic m=>exact h4.elim
 | ret m=>
   have h4:m=mb Α:=h4;subst h4;cases x with
   | returned v=>
     have h5:v= .bool Α:=h3.j8;refine⟨by rw[h5],?_⟩;have:=h2.base;rw[h1.w0]at this;(have hB:G.B=w.heap.size:=by unfold Gh.B;rw[h1.w0];rfl);rw[hB]at this;exact this
   | panicked c=>exact h3.elim
   | outgrown=>exact h3.elim
def aaf(w:Ρ)(h:((w.all λc=> !Qv c)&&(w.all λc=>w.all λd=>sG c==sG d))=Α):even w:=by
 simp only[aqk,aqd]at h;exact⟨λc hc=>by simpa using h.1 c hc,λc hc d hd=>by simpa using h.2 c hc d hd⟩
def okT(p:Prt):Prop:=even p.2.2/\(∀c∈p.2.2,lo c=c)/\(if p.2.1 then p.2.2.all sG=Α/\p.2.2.dropWhile (· ==48)=p.2.2 else p.2.2.all (λc=> !sG c)=Α/\akM p.2.2 γ=p.2.2)
def Qy(p:Prt):Ρ:=(if p.2.1&&p.2.2==[]then[48]else[])++p.2.2
def adh(p:Prt):Ρ:=(if p.1 then 45 else 46)::Qy p
def aag{p:Prt}(h:okT p):even (Qy p):=by
 unfold Qy;split;rename_i hc;((have:p.2.2=[]:=by simpa using(aqk _ _▸hc:p.2.1=Α/\(p.2.2==[])=Α).2);rw[this];exact aaf _ rfl);exact h.1
def chain:∀(r:List Prt)(_:∀p∈r,okT p)(w:Ρ)(_:even w)(hy:Bool),w8 hy [] (w++r.flatMap adh)=(w,hy,γ)::r.map λp=>(Qy p,p.1,γ)
 | [],_,w,hw,hy=>by
   have:=Ep w [] [] hy (by simpa using hw);simpa[aae]using this
 | p::r,h,w,hw,hy=>by
   have ih:=chain r (λq hq=>h q (List.mem_cons_of_mem _ hq)) (Qy p) (aag (h p (by simp))) p.1;have h1:=Ep w [] ((p::r).flatMap adh) hy (by simpa using hw);(rw[h1,List.nil_append,List.flatMap_cons,adh,List.cons_append,UH (by cases p.1<;>rfl)];have hb:((if p.1 then 45 else 46:UInt8)==45)=p.1:=by cases p.1<;>rfl);rw[hb,ih,List.map_cons]
def ig:=WT T9<|WT T3<|WT T4<|WT T5 w7
def oa(c:UInt8):Bool:=decide (c.toNat=32\/c.toNat=9\/c.toNat=10\/c.toNat=13)
def nN(c:UInt8):Bool:=decide ((65<=c.toNat/\c.toNat<=90)\/(97<=c.toNat/\c.toNat<=122)\/c.toNat=95)
def Ld(c:UInt8):Bool:=decide (c.toNat=46\/c.toNat=45\/c.toNat=58)
def oS(c:UInt8):Bool:=decide (32<=c.toNat\/c.toNat=9\/c.toNat=10\/c.toNat=13)
def sJ(c:UInt8)(O:VH):VF Ε 207 [im c] O (aH λm O'=>m=mb (oa c)/\O'=O):=by
 have hc:=c.toNat_lt;refine Υ 17 [.tmp 2] func207 ?_;(((((rcases(show c.toNat=32\/c.toNat=9\/c.toNat=10\/c.toNat=13\/(c.toNat≠32/\c.toNat≠9/\c.toNat≠10/\c.toNat≠13)from by omega)with h | h | h | h | ⟨h1,h2,h3,h4⟩);refine ao ig @aO ?_;simp[oa,h]);refine ao ig @aO ?_;simp[oa,h]);refine ao ig @aO ?_;simp[oa,h]);refine ao ig @aO ?_;simp[oa,h]);refine ao ig @aO ?_;simp[oa,h1,h2,h3,h4]
def Nk(f:FuncId)(p:UInt8->Bool)(s:Ρ)(O:VH)(hs:Ζ s<=maxLen)(hf:∀c O,VF Ε f [im c] O (aH λm O'=>m=mb (p c)/\O'=O))(hb:dA Ε f=Α:=by kernel_rfl):
  VF Ε 206 [.s s,.func (.func f) [] []] O (aH λm O'=>m=mi (s.takeWhile p).length/\O'=O):=by
 have hm:(Ζ s:Int)<=9223372036854775807:=by simp[maxLen]at hs;omega
 refine Υ 20 [.tmp 4] func206 ?_;refine ae ig ?_;refine WC.kh [5] [0,1] (λj:Nat=>[mi j]) (λj O'=>O'=O/\j<=(Ζ s)/\(s.takeWhile p).length=j+((s.drop j).takeWhile p).length) (λj=>(Ζ s) - j) (0) ?_ ?_;exact⟨rfl,aka _,by simp⟩;rintro j O2 ⟨rfl,hj,hw⟩;by_cases h2:j<Ζ s;have hg:=aga h2;have hd:=alQ h2;generalize s[j]=c at*;refine ao ig hg ?_;refine τ (hf c _) ?_ (hb:=hb);rintro _ O3 ⟨rfl,rfl⟩;cases hp:p c;refine ao ig hg ?_;rw[hw,hd,aoT (by simp[hp])];trivial;refine ao ig hg ?_;refine az.N (j+1) ?_;refine⟨rfl,by omega,?_⟩;rw[hw,hd,ap2 hp,Ti];omega;refine ae ig ?_;rw[hw,alT (by omega)];trivial
def Nl(p:UInt8->Bool)(l:Ρ):Ρ:=(l.reverse.dropWhile p).reverse
def aah(p:UInt8->Bool)(l:Ρ)(a:UInt8):Nl p (l++[a])=if p a then Nl p l else l++[a]:=by
 unfold Nl;rw[List.reverse_append,List.reverse_singleton,List.singleton_append,List.dropWhile_cons];cases p a<;>simp
def trimB(s:Ρ):Ρ:=Nl oa (s.dropWhile oa)
def Qz(p:UInt8->Bool):∀s:Ρ,s.drop (s.takeWhile p).length=s.dropWhile p
 | []=>rfl
 | c::s=>by
   cases h:p c;rw[aoT (by simp[h]),List.dropWhile_cons_of_neg (by simp[h])];rfl;rw[ap2 h,List.dropWhile_cons_of_pos h,Ti,List.drop_succ_cons,Qz p s]
def qM(p:UInt8->Bool)(s:Ρ):(s.takeWhile p).length<=Ζ s:=(List.takeWhile_sublist p).length_le
def Nn(p:UInt8->Bool)(s:Ρ):(s.dropWhile p).length<=Ζ s:=(List.dropWhile_sublist p).length_le
def adi(p:UInt8->Bool)(s:Ρ):(Nl p s).length<=Ζ s:=by
 unfold Nl;have:=Nn p s.reverse;simp only[List.length_reverse]at this ⊢;exact this
def UK(s:Ρ):(trimB s).length<=Ζ s:=YI (adi _ _) (Nn _ _)
def No(s:Ρ)(O:VH)(hs:Ζ s<=maxLen):VF Ε 175 [.s s] O (aH λm O'=>m= .s (trimB s)/\O'=O):=by
 have hm:(Ζ s:Int)<=9223372036854775807:=by simp[maxLen]at hs;omega
 have Tu:=qM oa s;have hdw:=Qz oa s;have kV:=Nn oa s;unfold trimB;refine Υ 23 [.tmp 2] func175 ?_;refine ae ig ?_;refine τ (Nk 207 oa s _ hs sJ) ?_;rintro _ O2 ⟨rfl,rfl⟩;refine ao ig hdw ?_;generalize s.dropWhile oa=t at*;refine WC.kh [0] [] (λk:Nat=>[.s (t.take k)]) (λk O'=>O'=O2/\k<=(Ζ t)/\Nl oa t=Nl oa (t.take k)) (λk=>k) (Ζ t) ?_ ?_ (h0:=(by rw[akb];rfl));exact⟨rfl,abx _,by rw[akb]⟩;rintro k O3 ⟨rfl,hk,hr⟩;rw[hr];have hlen:(t.take k).length=k:=by rw[akf];omega
 rcases aqf k with rfl | hk0;have amY:(([]:Ρ)==[])=Α:=rfl;refine ao ig amY ?_;trivial
 ·obtain⟨k,rfl⟩:∃j,k=j+1:=⟨k - 1,by omega⟩
  have h2:k<Ζ t:=by omega
  have hY:=dU t k h2;(((((have bG:(t.take (k+1))[k]?=φ t[k]:=by rw[aqg,if_pos (by omega),aga h2]);have hne:(t.take (k+1)==[])=γ:=by rw[hY];cases t.take k<;>rfl);have iA:=aah oa (t.take k) t[k];rw[<-hY]at iA;have JF:(t.take (k+1)).take k=t.take k:=by rw[List.take_take];congr 1;omega);generalize t[k]=c at*;refine cB ig @hne @hlen bG ?_;refine τ (sJ c _) ?_;rintro _ O4 ⟨rfl,rfl⟩;cases hb:oa c);refine ae ig ?_;rw[iA,hb];trivial);rw[hb]at iA;refine aE ig @hlen JF ?_;exact az.N k ⟨rfl,by omega,by rw[iA];rfl⟩
abbrev Bs:=Ρ
def H5(c:UInt8)(O:VH):VF Ε 121 [im c] O (aH λm O'=>m=mb (nN c)/\O'=O):=by
 have hc:=c.toNat_lt;refine Υ 21 [.tmp 2] func121 ?_;((((((rcases(show c.toNat<65\/(65<=c.toNat/\c.toNat<=90)\/(90<c.toNat/\c.toNat<97/\c.toNat≠95)\/c.toNat=95\/(97<=c.toNat/\c.toNat<=122)\/122<c.toNat from by omega)with h | h | h | h | h | h);rw[show nN c=γ by simp[nN];omega];exact eD ig @aO);rw[show nN c=Α by simp[nN];omega];exact eD ig @aO);rw[show nN c=γ by simp[nN];omega];exact eD ig @aO);rw[show nN c=Α by simp[nN];omega];exact eD ig @aO);rw[show nN c=Α by simp[nN];omega];exact eD ig @aO);rw[show nN c=γ by simp[nN];omega];exact eD ig @aO
def k9(c:UInt8):Bool:=nN c||sG c||Ld c
def Lf(c:UInt8)(O:VH):VF Ε 97 [im c] O (aH λm O'=>m=mb (k9 c)/\O'=O):=by
 have hc:=c.toNat_lt;refine Υ 21 [.tmp 2] func97 ?_;refine ae ig ?_;refine τ (H5 c _) ?_;rintro _ O2 ⟨rfl,rfl⟩;cases h1:nN c
 ·refine ae ig ?_;refine τ (sH c _) ?_;rintro _ O2 ⟨rfl,rfl⟩;cases h2:sG c
  ·(rcases(show c.toNat=46\/c.toNat=45\/c.toNat=58\/(c.toNat≠46/\c.toNat≠45/\c.toNat≠58)from by omega)with h | h | h | h);rw[show k9 c=Α by simp[k9,h1,h2,Ld,h]];exact eD ig @aO
   ·rw[show k9 c=Α by simp[k9,h1,h2,Ld,h]];exact eD ig @aO
   ·rw[show k9 c=Α by simp[k9,h1,h2,Ld,h]];exact eD ig @aO
   ·rw[show k9 c=γ by simp[k9,h1,h2,Ld,h]];exact eD ig @aO
  ·rw[show k9 c=Α by simp[k9,h1,h2]];exact eD ig @aO
 ·rw[show k9 c=Α by simp[k9,h1]];exact eD ig @aO
def Af(c:UInt8)(O:VH):VF Ε 312 [im c] O (aH λm O'=>m=mb (oS c)/\O'=O):=by
 have hc:=c.toNat_lt;refine Υ 9 [.tmp 2] func312 ?_;by_cases h:32<=c.toNat;rw[show oS c=Α by simp[oS];omega];exact eD ig @aO;refine ao ig @aO ?_;refine τ (sJ c _) ?_;rintro _ O2 ⟨rfl,rfl⟩;rw[show oS c=oa c by unfold oS oa;rw[decide_eq_decide];omega];exact eD ig @aO
def lL(s:Bs):Nat:=if nN (s.headD 0)&& !s.isEmpty then(s.takeWhile k9).length else 0
def FH(s:Bs):lL s<=Ζ s:=by
 unfold lL;split;exact qM _ _;exact aka _
def ahp(s:Bs)(O:VH)(hs:Ζ s<=maxLen):VF Ε 314 [.s s] O (aH λm O'=>m=mi (lL s)/\O'=O):=by
 refine Υ 13 [.tmp 2] func314 ?_;cases s with
 | nil=>
   refine ao ig (show(([]:Ρ)==[])=Α from rfl) ?_;rfl
 | cons c s=>
   refine aE ig (show((c::s)==[])=γ from rfl) @aiD ?_;refine τ (H5 c _) ?_;rintro _ O2 ⟨rfl,rfl⟩;cases h1:nN c;refine ae ig ?_;simp[lL,h1];rw[show lL (c::s)=((c::s).takeWhile k9).length by simp[lL,h1]];refine ae ig ?_;refine τ (Nk 97 k9 (c::s) _ hs (λc O=>Lf c O)) ?_;rintro _ O2 ⟨rfl,rfl⟩;exact ff ig
def nY(c:UInt8):Bool:=k9 c&&decide (c.toNat≠58)
def aai(c:UInt8)(O:VH):VF Ε 84 [im c] O (aH λm O'=>m=mb (nY c)/\O'=O):=by
 have hc:=c.toNat_lt;refine Υ 9 [.tmp 2] func84 ?_;refine ae ig ?_;refine τ (Lf c _) ?_;rintro _ O2 ⟨rfl,rfl⟩;cases h1:k9 c;rw[show nY c=γ by simp[nY,h1]];exact ff ig;by_cases h:c.toNat=58;rw[show nY c=γ by simp[nY,h]];exact eD ig @aO;rw[show nY c=Α by simp[nY,h1,h]];exact eD ig @aO
def gk(s:Bs):Bool:=s.all nY&&decide (1<=Ζ s)&&decide (Ζ s<=64)
def wg(s:Bs)(O:VH)(hs:Ζ s<=maxLen:=by simp only[maxLen];omega):VF Ε 69 [.s s] O (aH λm O'=>m=mb (gk s)/\O.Ge O'):=by
 have hm:(Ζ s:Int)<=9223372036854775807:=by simp[maxLen]at hs;omega
 have vc:=ζ O (.cells (s.map im));have De:=(VH.Ge.refl O).push (.cells (s.map im));refine Υ 24 [.tmp 2] func69 ?_;refine ae ig ?_;refine VL.bytes aa (el:=5) (l:=s) rfl rfl (by rw[T9];rfl) (by rw[w7];rfl) (by rw[T5];rfl) hs rfl λcap h1 h2=>WL.sound aa ?_
 refine ae ig ?_;refine WC.kh [8] [0,6,7] (λj:Nat=>[mi j]) (λj O'=>(O.push (.cells (s.map im))).Ge O'/\j<=(Ζ s)/\(s.take j).all nY=Α) (λj=>(Ζ s) - j) (0) ?_ ?_;exact⟨VH.Ge.refl _,aka _,rfl⟩;rintro j O2 ⟨rW,hj,ja⟩;have AG:=(rW.hp O.N (alS _)).trans vc;by_cases h2:j<Ζ s
 ·have rE:=aga h2;have hY:(s.take (j+1)).all nY=nY s[j]:=by rw[dU _ _ h2,List.all_append,ja];simp
  have dh:nY s[j]=γ->gk s=γ:=λh=>by
   unfold gk;rw[List.all_eq_false.2 ⟨s[j],ake h2,by simp[h]⟩];rfl
  generalize s[j]=c at*;refine aE ig rE AG ?_;refine τ (aai c _) ?_;rintro _ O3 ⟨rfl,rfl⟩;cases hb:nY c;rw[dh hb];refine ae ig ?_;exact De.trans rW;refine ae ig ?_;exact az.N (j+1) ⟨rW,by omega,hY.trans hb⟩
 ·obtain rfl:j=Ζ s:=by omega
  rw[akb]at ja;unfold gk;rw[ja];by_cases h0:1<=Ζ s;by_cases H4:Ζ s<=64;rw[decide_eq_true h0,decide_eq_true H4];refine ae ig ?_;exact De.trans rW;rw[decide_eq_true h0,decide_eq_false H4];refine ae ig ?_;exact De.trans rW;rw[decide_eq_false h0];refine ae ig ?_;exact De.trans rW
def rF:=WT ig<|WT Da<|WT FE T40
structure Gv where
 g:Bs
 a:Bs
 v:Bs
 deriving DecidableEq
def cD(x:Gv):Η:=[.s x.g,.s x.a,.s x.v]
structure iB where
 g:Bs
 a:Bs
 deriving DecidableEq
def cM(x:iB):Η:=[.s x.g,.s x.a]
structure Ky where
 g:Bs
 a:Bs
 t:Bs
 c:Bs
 deriving DecidableEq
def iP(x:Ky):Η:=[.s x.g,.s x.a,.s x.t,.s x.c]
def Df(x:Gv):Bool:=gk x.g&&gk x.a&&yx x.v
def aaj(x:Gv)(O:VH)(h1:Ζ x.g<=maxLen)(h2:Ζ x.a<=maxLen)(h3:Ζ x.v<=maxLen):VF Ε 51 [.agg (cD x)] O (aH λm O'=>m=mb (Df x)/\O.Ge O'):=by
 obtain⟨g,a,v⟩:=x;dsimp only at h1 h2 h3;unfold Df cD;dsimp only;have hk:=ζ O (.cells [.s g,.s a,.s v]);have oC:=(VH.Ge.refl O).push (.cells [.s g,.s a,.s v]);have hn0:O.N<(O.push (.cells [.s g,.s a,.s v])).N:=alS _;refine Υ 16 [.tmp 2] func51 ?_;refine ao rF hk ?_;generalize O.push (.cells [.s g,.s a,.s v])=O1 at*;refine τ (wg g _ h1) ?_;rintro _ O2 ⟨rfl,aC⟩;have fc:=aC.N;cases gk g;refine ae rF ?_;exact oC.trans aC;refine aE rF hk aC.hp ?_;refine τ (wg a _ h2) ?_;rintro _ O3 ⟨rfl,aJ⟩;have ij:=aJ.N;cases gk a;refine ae rF ?_;exact oC.trans (aC.trans aJ);refine cB rF hk aC.hp aJ.hp ?_;refine τ (UG v _ h3) ?_;rintro _ O4 ⟨rfl,aT⟩;refine ae rF ?_;exact oC.trans (aC.trans (aJ.trans aT))
def Ag(s:Bs):Bool:=s==[42]||gk s
def Lg(s:Bs)(O:VH)(hs:Ζ s<=maxLen):VF Ε 324 [.s s] O (aH λm O'=>m=mb (Ag s)/\O.Ge O'):=by
 unfold Ag;refine Υ 9 [.tmp 2] func324 ?_;cases h:s==[42];refine ao rF @h ?_;refine τ (wg s _ hs) ?_;rintro _ O2 ⟨rfl,aC⟩;refine ae rF ?_;exact aC;refine ao rF @h ?_;exact VH.Ge.refl _
def Dg(x:iB):Bool:=Ag x.g&&Ag x.a
def JU(x:iB)(O:VH)(h1:Ζ x.g<=maxLen)(h2:Ζ x.a<=maxLen):VF Ε 319 [.agg (cM x)] O (aH λm O'=>m=mb (Dg x)/\O.Ge O'):=by
 obtain⟨g,a⟩:=x;dsimp only at h1 h2;unfold Dg cM;dsimp only;have hk:=ζ O (.cells [.s g,.s a]);have oC:=(VH.Ge.refl O).push (.cells [.s g,.s a]);have hn0:O.N<(O.push (.cells [.s g,.s a])).N:=alS _;refine Υ 11 [.tmp 2] func319 ?_;refine ao rF hk ?_;generalize O.push (.cells [.s g,.s a])=O1 at*;refine τ (Lg g _ h1) ?_;rintro _ O2 ⟨rfl,aC⟩;have fc:=aC.N;cases Ag g;refine ae rF ?_;exact oC.trans aC;refine aE rF hk aC.hp ?_;refine τ (Lg a _ h2) ?_;rintro _ O3 ⟨rfl,aJ⟩;refine ae rF ?_;exact oC.trans (aC.trans aJ)
def FI(p x:iB):Bool:=(p.g==[42]||p.g==x.g)&&(p.a==[42]||p.a==x.a)
def UL(p x:iB)(O:VH):VF Ε 112 [.agg (cM p),.agg (cM x)] O (aH λm O'=>m=mb (FI p x)/\O.Ge O'):=by
 obtain⟨g,a⟩:=p;obtain⟨g',a'⟩:=x;unfold FI cM;dsimp only;have oC:=((VH.Ge.refl O).push (.cells [.s g,.s a])).push (.cells [.s g',.s a']);refine Υ 27 [.tmp 4] func112 ?_;cases h1:g==[42]<;>cases h2:g==g'<;>cases h3:a==[42]<;>cases h4:a==a'
 all_goals
  refine iV rF h1 h2 h3 h4 ?_;exact oC
def gL(n:Int):Bs:=if n=1 then[99,111,109,112,105,108,101]else if n=2 then[114,117,110,116,105,109,101]else if n=3 then[112,114,111,118,105,100,101,100]else if n=4 then[115,121,115,116,101,109]else if n=5 then[116,101,115,116]else if n=6 then[105,109,112,111,114,116]else[]
def Xv(n:Int)(O:VH):VF Ε 74 [mi n] O (aH λm O'=>m= .s (gL n)/\O'=O):=by
 unfold gL;refine Υ 16 [.tmp 2] func74 ?_;by_cases h1:n=1;refine ae rF ?_;simp[h1];by_cases h2:n=2;refine ae rF ?_;simp[h1,h2];by_cases h3:n=3;refine ae rF ?_;simp[h1,h2,h3];by_cases h4:n=4;refine ae rF ?_;simp[h1,h2,h3,h4];by_cases h5:n=5;refine ae rF ?_;simp[h1,h2,h3,h4,h5];by_cases h6:n=6;refine ae rF ?_;simp[h1,h2,h3,h4,h5,h6];rw[if_neg h1,if_neg h2,if_neg h3,if_neg h4,if_neg h5,if_neg h6];exact ff rF
def QA(o i:Int):Int:=if ¬(o=1\/o=2\/o=3\/o=5)then 0 else if i≠1/\i≠2 then 0 else if o=1 then i else o
def aak(o i:Int)(O:VH):VF Ε 141 [mi o,mi i] O (aH λm O'=>m=mi (QA o i)/\O'=O):=by
 refine Υ 23 [.tmp 4] func141 ?_;rcases(show o=1\/o=2\/o=3\/o=5\/(o≠1/\o≠2/\o≠3/\o≠5)from by omega)with h | h | h | h | h
 rotate_right
 ·rw[show QA o i=0 by simp[QA,h]];obtain⟨h1,h2,h3,h4⟩:=h;exact ff rF
 all_goals
  subst h;rcases(show i=1\/i=2\/(i≠1/\i≠2)from by omega)with h | h | h
 all_goals
  refine ae rF ?_;simp[QA,h]
def Tok.id:Tok->Option Nat
 | .own t _=>φ t
 | _=>Β
structure cy(tk:Tok)(O O':VH):Prop where
 N:O.N<=O'.N
 hp:∀i,i<O.N->Tok.id tk≠φ i->O'.hp i=O.hp i
def Gg(O:VH)(tk tk':Tok):Prop:=tk'=tk\/∀i,Tok.id tk'=φ i->O.N<=i
section
variable{O O0 O1 O2:VH}{tk t1 t2 w:Tok}{B sz:Nat}
def VH.Ge.k(h:O.Ge O1):cy tk O O1:=⟨h.N,λi hi _=>h.hp i hi⟩
def cy.refl:cy tk O O:=⟨abx _,λ_ _ _=>rfl⟩
def Gg.refl:Gg O tk tk:=.inl rfl
def cy.trans(h:cy tk O O1)(hn:Gg O tk t1)(k:cy t1 O1 O2):cy tk O O2:=⟨YI h.N k.N,λi hi hne=>by
 have:Tok.id t1≠φ i:=λe=>by
  rcases hn with rfl | hn;exact hne e;have:=hn i e;omega
 rw[k.hp i (akc hi h.N) this,h.hp i hi hne]⟩
def cy.ge(h:cy tk O O1)(k:O1.Ge O2):cy tk O O2:=⟨YI h.N k.N,λi hi hne=>by rw[k.hp i (akc hi h.N),h.hp i hi hne]⟩
def cy.pre(h:O.Ge O1)(k:cy tk O1 O2):cy tk O O2:=⟨YI h.N k.N,λi hi hne=>by rw[k.hp i (akc hi h.N) hne,h.hp i hi]⟩
def Gg.trans(h:Gg O tk t1)(hle:O.N<=O1.N)(k:Gg O1 t1 t2):Gg O tk t2:=by
 rcases k with rfl | k;exact h;exact .inr λi e=>YI hle (k i e)
def App.nZ(h:App O B sz tk)(e:Tok.id tk=φ i):B<=i/\i<O.N:=by
 cases tk with
 | own t k=>injection e with e;subst e;exact h.2.2
 | _=>cases e
def cy.app(h:cy tk O O1)(hw:App O B sz w)(hne:∀i,Tok.id tk=φ i->Tok.id w≠φ i):App O1 B sz w:=by
 cases w with
 | own t j=>
   obtain⟨h1,h2,h3,h4⟩:=hw;refine⟨h1,?_,h3,akc h4 h.N⟩;rw[h.hp t h4 (λe=>hne t e rfl)];exact h2
 | nil=>trivial
 | full=>trivial
 | au=>exact hw.elim
def cy.after(h:App O B sz tk):cy tk O (O.after tk):=⟨by rw[VH.dC];omega,λi hi hne=>by
 cases tk with
 | own t k=>exact(η (O.kill t) _ hi).trans (VH.mH _ (λe=>hne (by rw[e];rfl)))
 | _=>exact η _ _ hi⟩
def Gg.after:Gg O tk (.own O.N sz):=.inr λi e=>by injection e with e;omega
def cy.eR(hg:O0.Ge O)(ha:App O O0.N sz tk)(k:cy tk O O1):O0.Ge O1:=⟨YI hg.N k.N,λi hi=>by
 rw[k.hp i (akc hi hg.N) (λe=>by have:=(ha.nZ e).1;omega),hg.hp i hi]⟩
def cy.Er(ha:App O O.N sz tk)(k:cy tk O O1):O.Ge O1:=cy.eR (VH.Ge.refl O) ha k
def App.ge(h:App O B sz tk)(k:O.Ge O1):App O1 B sz tk:=cy.app (tk:=.nil) (k.k) h (λ_ e=>by cases e)
def App.nil:App O B sz .nil:=trivial
end
def iH{tab:cL}{t el:TypeId}{u:TypeDesc}{a by':Nat}{z y:Η}(h:tab t=φ ⟨.slice el,a,b,z⟩)(h2:tab el=φ ⟨u,sz,by',y⟩){ds es:Η}(ha:App O B sz tk)
  (hc:Ζ cs=n*sz) (hd:Ζ ds=sz) (hl:ds.all eI=Α) (hs:0<sz) (hb:(n+1)*by'<=140737488355328) (hm:n+1<=maxLen) (gV:dz cs=cs) (uB:dz ds=es):
  ∃m,jx tab O t (.l n cs tk) (.l 1 ds .full)=φ (m,O.after tk)/\rV m= .l (n+1) (cs++es) (.own O.N sz):=
 ⟨_,aP (tk':=.full) h h2 ha hc (by rw[hd,Nat.one_mul]) hl hs (by decide) hb hm,by rw[sE,pK,gV,uB]⟩
section
variable{P:Program}{n:Sz}{D:List Deferred}{c:Code}{e:Env}{O:VH}{Q:VQ}{z cs:Η}{md:Md}{d:Option Tmp}{K:Env->VH->Prop}{fv:ϱ}{ms:Option Η}
def pM(O:VH)(cs:Η)(O3:VH):Prop:=O.Ge O3/\O3.hp O.N=φ (.cells cs)/\O3.N=O.N+1
def pM.al:pM O cs ((O.push (.cells z)).set O.N (.cells cs)):=⟨((VH.Ge.refl O).push _).set (abx _) _,υ _ _ _,rfl⟩
def pM.bx:pM O cs (O.push (.cells cs)):=⟨(VH.Ge.refl O).push _,ζ _ _,rfl⟩
def VC.al(h:∀O3,pM O cs O3->VC P n D c e O3 Q):VC P n D c e ((O.push (.cells z)).set O.N (.cells cs)) Q:=h _ pM.al
def VC.bx(h:∀O3,pM O cs O3->VC P n D c e O3 Q):VC P n D c e (O.push (.cells cs)) Q:=h _ pM.bx
def ah.bx(h:∀O3,pM O cs O3->ah P n md Q d O3 K e fv ms):ah P n md Q d (O.push (.cells cs)) K e fv ms:=h _ pM.bx
end
def List.sK{α :Type}{a b:List α}{k:Nat}(h:Ζ a=k):(a++b).drop (k+n)=b.drop n:=by
 rw[<-h, <-List.drop_drop,List.drop_left]
def bk{α :Type}{f: α ->Η}{k:Nat}(hf:∀x,(f x).length=k)(L:List α):(L.flatMap f).length=(Ζ L)*k:=by
 induction L with
 | nil=>simp
 | cons x L ih=>rw[akd,Ca,ih,hf,Ti,Nat.succ_mul,Nat.add_comm]
def c9{α :Type}{f: α ->Η}{k:Nat}(hf:∀x,(f x).length=k):∀(L:List α)(i:Nat)(h:i<Ζ L),((L.flatMap f).drop (i*k)).take k=f L[i]
 | x::L,0,_=>by rw[Nat.zero_mul,List.drop_zero,akd,List.take_left' (hf x)];rfl
 | x::L,i+1,h=>by
   have:=c9 hf L i (by simpa using h);rw[akd,Nat.succ_mul,Nat.add_comm,List.sK (hf x)];exact this
inductive Nd where
 | mk (name:Bs) (attrs:List (Bs×Bs)) (kids:List Nd) (text:Bs)
def bH(x:Bs×Bs):Η:=[.s x.1,.s x.2]
mutual
def eh:Nd->Η
 | .mk n a k t=>[.s n,.l (Ζ a) (a.flatMap bH) .au,.l (Ζ k) (aG k) .au,.s t]
def aG:List Nd->Η
 | []=>[]
 | x::r=>eh x++aG r
end
def fh(L M:List Nd):aG (L++M)=aG L++aG M:=by
 induction L with
 | nil=>rw[af_,aG,af_]
 | cons x L ih=>rw[agb,aG,aG,ih,alP]
def ob(x:Nd):(eh x).length=4:=by cases x;rw[eh];rfl
def dV(L:List Nd):(aG L).length=(Ζ L)*4:=by
 induction L with
 | nil=>rw[aG];rfl
 | cons x L ih=>rw[aG,Ca,ob,ih,Ti];omega
def gM(x:Bs×Bs):(bH x).length=2:=rfl
def pN(x:iB):(cM x).length=2:=rfl
def iI(L:List (Bs×Bs)):dz (L.flatMap bH)=L.flatMap bH:=lx (λx=>by simp only[bH,wu]) L
mutual
def Dh:∀x,dz (eh x)=eh x
 | .mk n a k t=>by
   simp only[eh,wu,iI];rw[f_ k]
def f_:∀L,dz (aG L)=aG L
 | []=>by rw[aG,KY]
 | x::r=>by rw[aG,pK,Dh x,f_ r]
end
structure Dp where
 g:Bs
 a:Bs
 v:Bs
 t:Bs
 c:Bs
 s:Int
 o:Int
 x:List iB
 deriving DecidableEq
def aX(d:Dp):Η:=[.s d.g,.s d.a,.s d.v,.s d.t,.s d.c,mi d.s,mi d.o,.l (Ζ d.x) (d.x.flatMap cM) .au]
def iQ(x:Dp):(aX x).length=8:=rfl
structure Pm where
 hp:Bool
 par:Gv
 g:Bs
 a:Bs
 v:Bs
 pk:Bs
 props:List (Bs×Bs)
 fF:List Dp
 ft:List Dp
 deriving DecidableEq
def iR(p:Pm):Η:=[mb p.hp,.s p.par.g,.s p.par.a,.s p.par.v,.s p.g,.s p.a,.s p.v,.s p.pk,.l (Ζ p.props) (p.props.flatMap bH) .au,.l (Ζ p.fF) (p.fF.flatMap aX) .au,.l (Ζ p.ft) (p.ft.flatMap aX) .au]
def pO(L:List iB):dz (L.flatMap cM)=L.flatMap cM:=lx (λx=>by simp only[cM,wu]) L
def nq(L:List Dp):dz (L.flatMap aX)=L.flatMap aX:=lx (λx=>by simp only[aX,aq,wu,pO]) L
def aal(p:Pm):dz (iR p)=iR p:=by simp only[iR,bB,wu,iI,nq]
def iL:=WT rF<|WT Gf<|WT yu<|WT Eo<|WT HX<|WT HW T90
def fS(O:VH)(B sz:Nat)(tk:Tok)(O':VH)(tk':Tok):Prop:=cy tk O O'/\App O' B sz tk'/\Gg O tk tk'
def fS.refl(h:App O B sz tk):fS O B sz tk O tk:=⟨cy.refl,h,Gg.refl⟩
def fS.trans{t2:Tok}(h:fS O B sz tk O1 t1)(k:fS O1 B sz t1 O2 t2):fS O B sz tk O2 t2:=
 ⟨h.1.trans h.2.2 k.1,k.2.1,h.2.2.trans h.1.N k.2.2⟩
def fS.after(h:App O B sz tk)(hB:B<=O.N):fS O B sz tk (O.after tk) (.own O.N sz):=⟨cy.after h,App.after hB,Gg.after⟩
def fS.ge(h:fS O B sz tk O1 t1)(k:O1.Ge O2):fS O B sz tk O2 t1:=⟨h.1.ge k,h.2.1.ge k,h.2.2⟩
def fS.pre(g:O.Ge O1)(h:fS O1 B sz tk O2 t1):fS O B sz tk O2 t1:=⟨cy.pre g h.1,h.2.1,h.2.2.elim .inl λk=>.inr λi e=>YI g.N (k i e)⟩
def fS.eR(ha:App O O.N sz tk)(h:fS O O.N sz tk O1 t1):O.Ge O1:=cy.Er ha h.1
def App.less{B':Nat}(h:App O B sz tk)(hB:B'<=B):App O B' sz tk:=by
 cases tk with
 | own t k=>exact⟨h.1,h.2.1,YI hB h.2.2.1,h.2.2.2⟩
 | nil=>trivial
 | full=>trivial
 | au=>exact h.elim
def App.set{k:Nat}{x:cx}(h:App O B sz tk)(hk:O.hp k=φ (.cells cs)):App (O.set k x) B sz tk:=by
 cases tk with
 | own t j=>exact⟨h.1,(π _ _ (λe=>by subst e;rw[h.2.1]at hk;cases hk)).trans h.2.1,h.2.2.1,h.2.2.2⟩
 | nil=>trivial
 | full=>trivial
 | au=>exact h.elim
def fS.fresh(g:O.Ge O1)(h:fS O1 O1.N sz .nil O2 t1):fS O O.N sz .nil O2 t1:=
 ⟨cy.pre g h.1,h.2.1.less g.N,h.2.2.elim .inl λk=>.inr λi e=>YI g.N (k i e)⟩
def cP(L:List Nd)(n t:Bs):List Nd:=if t=[]then L else L++[.mk n [] [.mk [] [] [] t] []]
def ei(L:List Nd)(n t:Bs):(cP L n t).length<=Ζ L+1:=by unfold cP;split<;>simp
def iJ(L:List Nd)(tk:Tok)(n t:Bs)(ha:App O B 4 tk)(hB:B<=O.N)(hL:Ζ L<=100000:=by omega):VF Ε 60 [.l (Ζ L) (aG L) tk,.s n,.s t] O (aH λm O'=>∃tk',m= .l (cP L n t).length (aG (cP L n t)) tk'/\fS O B 4 tk O' tk'):=by
 refine VF.fg ?_;refine Υ 18 [.tmp 6] func60 ?_;unfold cP;cases t with
 | nil=>
   refine aE iL (show(([]:Ρ)==[])=Α from rfl) @f_ ?_;exact⟨tk,rfl,fS.refl ha⟩
 | cons c t=>
   refine ao iL (show((c::t)==[])=γ from rfl) ?_;have cH:=aP (tk':=.full) (n:=Ζ L) (k:=1) (cs:=aG L) (ds:=[.s n,.l 0 [] .nil,.l 1 [.s [],.l 0 [] .nil,.l 0 [] .nil,.s (c::t)] .full,.s []]) yu Gf.1.1 ha (dV L);refine VL.app cH ?_;refine ao iL @f_ ?_;rw[if_neg (by simp)];refine⟨_,?_,fS.after ha hB⟩;rw[fh];simp only[aG,eh,alU,agc,Ca,Ti,Th,ap_]
def ly(L:List Nd)(n:Bs)(K:List Nd):List Nd:=if K=[]then L else L++[.mk n [] K []]
def sL(L:List Nd)(n:Bs)(K:List Nd):(ly L n K).length<=Ζ L+1:=by unfold ly;split<;>simp
def vd(L:List Nd)(tk:Tok)(n:Bs)(K:List Nd)(tK:Tok)(ha:App O B 4 tk)(hB:B<=O.N)(hL:Ζ L<=100000)(hK:Ζ K<=100000:=by omega):VF Ε 59 [.l (Ζ L) (aG L) tk,.s n,.l (Ζ K) (aG K) tK] O (aH λm O'=>∃tk',m= .l (ly L n K).length (aG (ly L n K)) tk'/\fS O B 4 tk O' tk'):=by
 refine VF.fg ?_;refine Υ 17 [.tmp 6] func59 ?_;unfold ly;by_cases h:K=[];subst h;refine aE iL @f_ @Th.{0} ?_;exact⟨tk,rfl,fS.refl ha⟩;have h0:0<Ζ K:=List.length_pos_iff.2 h;refine ae iL ?_;have cH:=aP (tk':=.full) (n:=Ζ L) (k:=1) (cs:=aG L) (ds:=[.s n,.l 0 [] .nil,.l (Ζ K) (aG K) tK,.s []]) yu Gf.1.1 ha (dV L);refine VL.app cH ?_;refine ao iL @f_ ?_;rw[if_neg h];refine⟨_,?_,fS.after ha hB⟩;rw[fh];simp only[aG,eh,alU,agc,Ca,Ti,Th,ap_]
abbrev fb:Bs:=[103,114,111,117,112,73,100]
abbrev eU:Bs:=[97,114,116,105,102,97,99,116,73,100]
abbrev gX:Bs:=[118,101,114,115,105,111,110]
abbrev Di:Bs:=[116,121,112,101]
abbrev Dj:Bs:=[99,108,97,115,115,105,102,105,101,114]
abbrev ua:Bs:=[115,99,111,112,101]
abbrev oT:Bs:=[111,112,116,105,111,110,97,108]
abbrev lW:Bs:=[116,114,117,101]
abbrev nr:Bs:=[102,97,108,115,101]
abbrev w9:Bs:=[101,120,99,108,117,115,105,111,110]
abbrev n0:Bs:=[101,120,99,108,117,115,105,111,110,115]
abbrev nO:Bs:=[100,101,112,101,110,100,101,110,99,121]
abbrev n4:Bs:=[100,101,112,101,110,100,101,110,99,105,101,115]
def jb(i:iB):Nd:=.mk w9 [] (cP (cP [] fb i.g) eU i.a) []
def BW(d:Dp):List Nd:=
 let k:=cP (cP (cP (cP (cP (cP [] fb d.g) eU d.a) gX d.v) Di d.t) Dj d.c) ua (gL d.s)
 if d.o=1 then cP k oT lW else if d.o=2 then cP k oT nr else k
def gm(d:Dp):Nd:=.mk nO [] (ly (BW d) n0 (d.x.map jb)) []
def qN(L:List Nd)(D:List Dp):List Nd:=ly L n4 (D.map gm)
def Dk(L:List Nd)(tl:Tok)(D:List Dp)(tD:Tok)(ha:App O B 4 tl)(hB:B<=O.N)(hL:Ζ L<=10000)(hD:Ζ D<=10000)(hx:∀d∈D,Ζ d.x<=10000):VF Ε 61 [.l (Ζ L) (aG L) tl,.l (Ζ D) (D.flatMap aX) tD] O (aH λm O'=>∃tk',m= .l (qN L D).length (aG (qN L D)) tk'/\fS O B 4 tl O' tk'):=by
 refine VF.fg ?_;have hlen:=bk iQ D;refine ω 82 [.tmp 4] func61 ?_;refine κ iL ?_;refine κ iL ?_;refine VC.join aa [0,5] (λtk:Tok=>[.l (Ζ L) (aG L) tl,.l (D.map gm).length (aG (D.map gm)) tk]) (λtk O'=>O.Ge O') ?_ ?_;rotate_left;intro tk O9 bI;refine ae iL ?_;refine τ (vd L tl n4 (D.map gm) tk (ha.ge bI) (YI hB bI.N) (by omega) (by rw[ap8];omega)) ?_;rintro _ Oz ⟨tz,rfl,gz⟩;refine ao iL @f_ ?_;exact⟨tz,rfl,fS.pre bI gz⟩;refine κ iL ?_;refine χ ?_;refine Θ [5,14] [0,12,13] (λx:Nat×Tok=>[.l ((D.take x.1).map gm).length (aG ((D.take x.1).map gm)) x.2,mi x.1]) (λx O'=>O.Ge O'/\App O' O.N 4 x.2/\x.1<=Ζ D) (λx=>(Ζ D) - x.1) ((0,.nil)) ?_ ?_;exact⟨VH.Ge.refl _,trivial,aka _⟩;rintro⟨j,ta⟩ O2 ⟨aC,cH,hj⟩;dsimp only at cH hj ⊢;by_cases h2:j<Ζ D;rotate_left
 ·obtain rfl:j=Ζ D:=by omega
  rw[akb];refine ν iL ?_;exact aB.mk ta aC
 have bG:=c9 iQ D j h2;have hY:(D.take (j+1)).map gm=(D.take j).map gm++[gm D[j]]:=by rw[dU _ _ h2,aql];rfl
 have AH:=hx D[j] (ake h2);have hAl:((D.take j).map gm).length<=10000:=by rw[ap8,akf];omega
 generalize D[j]=d at*;generalize (D.take j).map gm=A at*;obtain⟨g,a,v,t,c,s,o,X⟩:=d;dsimp only at AH;simp only[aX]at bG;refine κ iL ?_;refine κ iL ?_;refine Γ (χ ?_);refine ξ iL bG ?_;refine VC.al ?_;rintro O3 ⟨aJ,hk,ij⟩;have h0:fS O3 O3.N 4 .nil O3 .nil:=fS.refl App.nil;refine κ iL ?_;refine ξ iL hk ?_;refine τ (iJ [] _ fb g h0.2.1 h0.1.N (by first | omega | simp)) ?_;rintro _ OA ⟨t1,rfl,gw⟩;have h1:=h0.trans gw;have l1:=ei [] fb g;clear gw;generalize eK1:cP [] fb g=K1 at*;have jQ:=(fS.eR App.nil h1).hp;have hn:=h1.1.N;try simp only[Th]at l1
 refine ae iL ?_;refine θ (aE iL hk jQ ?_);refine τ (iJ K1 _ eU a h1.2.1 h1.1.N (by first | omega | simp)) ?_;rintro _ OB ⟨t2,rfl,gw⟩;have QB:=h1.trans gw;have l2:=ei K1 eU a;clear gw;generalize eK2:cP K1 eU a=K2 at*;have jQ:=(fS.eR App.nil QB).hp;have hn:=QB.1.N;try simp only[Th]at l2
 refine ae iL ?_;refine θ (aE iL hk jQ ?_);refine τ (iJ K2 _ gX v QB.2.1 QB.1.N (by first | omega | simp)) ?_;rintro _ OC ⟨t3,rfl,gw⟩;have h3:=QB.trans gw;have l3:=ei K2 gX v;clear gw;generalize eK3:cP K2 gX v=K3 at*;have jQ:=(fS.eR App.nil h3).hp;have hn:=h3.1.N;try simp only[Th]at l3
 refine ae iL ?_;refine θ (aE iL hk jQ ?_);refine τ (iJ K3 _ Di t h3.2.1 h3.1.N (by first | omega | simp)) ?_;rintro _ OD ⟨t4,rfl,gw⟩;have h4:=h3.trans gw;have l4:=ei K3 Di t;clear gw;generalize eK4:cP K3 Di t=K4 at*;have jQ:=(fS.eR App.nil h4).hp;have hn:=h4.1.N;try simp only[Th]at l4
 refine ae iL ?_;refine θ (aE iL hk jQ ?_);refine τ (iJ K4 _ Dj c h4.2.1 h4.1.N (by first | omega | simp)) ?_;rintro _ OE ⟨t5,rfl,gw⟩;have h5:=h4.trans gw;have l5:=ei K4 Dj c;clear gw;generalize eK5:cP K4 Dj c=K5 at*;have jQ:=(fS.eR App.nil h5).hp;have hn:=h5.1.N;try simp only[Th]at l5
 refine ae iL ?_;refine θ (aE iL hk jQ ?_);refine τ (Xv s _) ?_;rintro _ OF ⟨rfl,rfl⟩;refine ae iL ?_;refine τ (iJ K5 _ ua (gL s) h5.2.1 h5.1.N (by first | omega | simp)) ?_;rintro _ OG ⟨t6,rfl,gw⟩;have h6:=h5.trans gw;have l6:=ei K5 ua (gL s);clear gw;generalize eK6:cP K5 ua (gL s)=K6 at*;have jQ:=(fS.eR App.nil h6).hp;have hn:=h6.1.N;try simp only[Th]at l6
 refine ae iL ?_;have hK:BW ⟨g,a,v,t,c,s,o,X⟩=if o=1 then cP K6 oT lW else if o=2 then cP K6 oT nr else K6:=by rw[<-eK6, <-eK5, <-eK4, <-eK3, <-eK2, <-eK1];rfl
 clear eK6 eK5 eK4 eK3 eK2 eK1;have hl7:=ei K6 oT lW;have Np:=ei K6 oT nr;refine VC.join aa [0,5,7,8,9,12,13,14] (λtk:Tok=>[.l (Ζ L) (aG L) tl,.l (Ζ A) (aG A) ta,.p O2.N 0,.l (BW ⟨g,a,v,t,c,s,o,X⟩).length (aG (BW ⟨g,a,v,t,c,s,o,X⟩)) tk,.l 0 [] .nil,.l (Ζ D) (D.flatMap aX) tD,mi (Ζ D),mi j]) (λtk O'=>fS O3 O3.N 4 .nil O' tk) ?_ ?_;refine θ (aE iL hk jQ ?_);refine χ ?_;by_cases ho1:o=1;rw[hK,if_pos ho1];refine ν iL ?_;refine τ (iJ K6 _ oT lW h6.2.1 h6.1.N (by first | omega | simp)) ?_;rintro _ OH ⟨t7,rfl,gw⟩;have h7:=h6.trans gw;have l7:=ei K6 oT lW;clear gw;generalize eK7:cP K6 oT lW=K7 at*;have jQ:=(fS.eR App.nil h7).hp;have hn:=h7.1.N;((try simp only[Th]at l7);refine ae iL ?_;exact aB.mk t7 h7);rw[hK,if_neg ho1];by_cases ho2:o=2;rw[if_pos ho2];refine ν iL ?_;refine τ (iJ K6 _ oT nr h6.2.1 h6.1.N (by first | omega | simp)) ?_;rintro _ OH ⟨t7,rfl,gw⟩;have h7:=h6.trans gw;have l7:=ei K6 oT nr;clear gw;generalize eK7:cP K6 oT nr=K7 at*;have jQ:=(fS.eR App.nil h7).hp;have hn:=h7.1.N;((try simp only[Th]at l7);refine ae iL ?_;exact aB.mk t7 h7);rw[if_neg ho2];refine ν iL ?_;exact aB.mk t6 h6
 have hKl:(BW ⟨g,a,v,t,c,s,o,X⟩).length<=7:=by rw[hK];split<;>first | omega | (split<;>omega)
 intro tk O4 h7;generalize hKd:BW ⟨g,a,v,t,c,s,o,X⟩=K at*;clear hK hl7 Np h6 jQ hn;have jQ:=(fS.eR App.nil h7).hp;have hn:=h7.1.N;refine aE iL hk jQ ?_;refine VC.BR [0,5,8,9,12,13,14] (λtx:Tok=>[.l (Ζ L) (aG L) tl,.l (Ζ A) (aG A) ta,.l (Ζ K) (aG K) tk,.l (X.map jb).length (aG (X.map jb)) tx,.l (Ζ D) (D.flatMap aX) tD,mi (Ζ D),mi j]) (λtx O'=>O4.Ge O') ?_ ?_
 ·have H6:=bk pN X;refine WC.kh [9,56] [0,5,8,12,13,14,54,55] (λx:Nat×Tok=>[.l ((X.take x.1).map jb).length (aG ((X.take x.1).map jb)) x.2,mi x.1]) (λx O'=>O4.Ge O'/\App O' O4.N 4 x.2/\x.1<=Ζ X) (λx=>(Ζ X) - x.1) ((0,.nil)) ?_ ?_;exact⟨VH.Ge.refl _,trivial,aka _⟩;rintro⟨i,tx⟩ O5 ⟨bO,rD,hi⟩;dsimp only at rD hi ⊢;by_cases cn:i<Ζ X;rotate_left
  ·obtain rfl:i=Ζ X:=by omega
   rw[akb];refine ae iL ?_;exact aB.mk tx bO
  have hxt:=c9 pN X i cn;(((((((have hsx:(X.take (i+1)).map jb=(X.take i).map jb++[jb X[i]]:=by rw[dU _ _ cn,aql];rfl);have JV:((X.take i).map jb).length<=10000:=by rw[ap8,akf];omega);generalize X[i]=y at*;generalize (X.take i).map jb=E at*;obtain⟨yg,ya⟩:=y;simp only[cM]at hxt;refine ao iL hxt ?_;refine VC.al ?_;rintro O6 ⟨gN,pc,oD⟩;refine VC.pF [9,10] ?_;refine ρ 0 iL ?_;refine ρ 1 iL ?_;refine ρ 4 iL ?_;refine ab.ld (m:=.s yg) 2 ?_ ?_);exact eD iL pc);simp only[ak];refine ab.ld (m:=.s ya) 5 ?_ ?_);exact eD iL pc);simp only[ak];refine ab.call (i:=3) (iJ [] .nil fb yg (App.nil (B:=O6.N)) (abx _) (by simp)) ?_;rintro _ O7 ⟨t7,rfl,g7⟩;simp only[ak];have l7:=ei [] fb yg;generalize e7:cP [] fb yg=E1 at*;simp only[Th]at l7;refine⟨fS.eR App.nil g7,?_⟩;refine ab.call (i:=6) (iJ E1 t7 eU ya g7.2.1 g7.1.N) ?_;rintro _ O8 ⟨t8,rfl,g8⟩;simp only[ak];have l8:=ei E1 eU ya;have he:jb ⟨yg,ya⟩= .mk w9 [] (cP E1 eU ya) []:=by rw[<-e7];rfl);generalize cP E1 eU ya=E2 at*;have h8:=fS.eR App.nil (g7.trans g8);refine⟨h8,?_⟩;refine ρ 7 iL ?_;refine ab.op (i:=8) ?_;refine ae iL ?_;refine⟨h8,?_⟩;refine ab.bW [(9,.one),(10,.bh)] ?_;have iC:=gN.trans h8;have adj:=rD.ge iC;refine ae iL ?_;obtain⟨mE,ik,ns⟩:=iH (n:=Ζ E) (cs:=aG E) (ds:=[.s w9,.l 0 [] .nil,.l (Ζ E2) (aG E2) t8,.s []]) (es:=eh (jb ⟨yg,ya⟩)) yu Gf.1.1 adj (dV E) rfl rfl (by decide) (by omega) (by simp only[maxLen];omega) (f_ E) (by rw[he];simp only[wu,f_,eh];rfl);refine aqM ik ns ?_;refine ae iL ?_;exact az.N (i+1,.own O8.N 4) ⟨cy.eR (bO.trans iC) adj (cy.after adj),App.after (YI bO.N iC.N),cn⟩ (hl:=(by dsimp only;rw[hsx,fh,Ca,aG,aG,agc];rfl))
 intro tx O5 bO;have h5:=h7.ge bO;refine ae iL ?_;refine τ (vd K tk n0 (X.map jb) tx h5.2.1 h5.1.N (by omega) (by rw[ap8];omega)) ?_;rintro _ O6 ⟨tb,rfl,g6⟩;have h6:=h5.trans g6;have yy:=sL K n0 (X.map jb);have AD:gm ⟨g,a,v,t,c,s,o,X⟩= .mk nO [] (ly K n0 (X.map jb)) []:=by rw[<-hKd];rfl
 generalize ly K n0 (X.map jb)=K9 at*;have adk:=aJ.trans (fS.eR App.nil h6);have oc:=cH.ge adk;refine ae iL ?_;obtain⟨mE,ik,ns⟩:=iH (n:=Ζ A) (cs:=aG A) (ds:=[.s nO,.l 0 [] .nil,.l (Ζ K9) (aG K9) tb,.s []]) (es:=eh (gm ⟨g,a,v,t,c,s,o,X⟩)) yu Gf.1.1 oc (dV A) rfl rfl (by decide) (by omega) (by simp only[maxLen];omega) (f_ A) (by rw[AD];simp only[wu,f_,eh];rfl);refine aqM ik ns ?_;refine ae iL ?_;refine ν iL ?_;exact az.N (j+1,.own O6.N 4) ⟨cy.eR (aC.trans adk) oc (cy.after oc),App.after (YI aC.N adk.N),h2⟩ (hl:=(by dsimp only;rw[hY,fh,Ca,aG,aG,agc];rfl))
def eV:=WT iL<|WT T86<|WT Nh FG
abbrev yz:Bs:=[112,97,114,101,110,116]
abbrev Bd:Bs:=[112,97,99,107,97,103,105,110,103]
abbrev nu:Bs:=[112,114,111,112,101,114,116,105,101,115]
abbrev ve:Bs:=[100,101,112,101,110,100,101,110,99,121,77,97,110,97,103,101,109,101,110,116]
abbrev iW:Bs:=[112,114,111,106,101,99,116]
def H7(p:Pm):List Nd:=if p.hp then ly [] yz (cP (cP (cP [] fb p.par.g) eU p.par.a) gX p.par.v)else[]
def Nq(p:Pm):List Nd:=cP (cP (cP (cP (H7 p) fb p.g) eU p.a) gX p.v) Bd p.pk
def jE(x:Bs×Bs):Nd:=.mk x.1 [] (if x.2=[]then[]else[.mk [] [] [] x.2]) []
def ia(p:Pm):Nd:=.mk iW [] (qN (ly (ly (Nq p) nu (p.props.map jE)) ve (qN [] p.fF)) p.ft) []
def QC(L:List Nd)(D:List Dp):(qN L D).length<=Ζ L+1:=sL _ _ _
def adl(p:Pm)(hP:Ζ p.props<=10000)(hM:Ζ p.fF<=10000)(hD:Ζ p.ft<=10000)(hx:∀d∈p.fF++p.ft,Ζ d.x<=10000):VF Ε 37 [.agg (iR p)] O (aH λm O'=>m= .agg (eh (ia p))/\O.Ge O'):=by
 refine VF.fg ?_;obtain⟨hp,⟨pg,pa,pv⟩,g,a,v,pk,P,M,D⟩:=p;dsimp only at hP hM hD hx;have hPl:=bk gM P;simp only[iR];refine ω 76 [.cell 2 93] func37 ?_;refine κ eV ?_;refine VC.bx ?_;rintro O1 ⟨aK,bY,dd⟩;have hk:O1.hp O.N=φ (.cells [mb hp,.s pg,.s pa,.s pv,.s g,.s a,.s v,.s pk,.l (Ζ P) (P.flatMap bH) .au,.l (Ζ M) (M.flatMap aX) .au,.l (Ζ D) (D.flatMap aX) .au]):=(aK.hp _ (alS _)).trans (ζ _ _)
 replace bY:O1.hp (O.N+1)=φ (.cells [.s [],.l 0 [] .nil,.l 0 [] .nil,.s []]):=bY
 have nv:=((VH.Ge.refl O).push _).trans aK;have hn0:O1.N=O.N+2:=dd;simp only[bB]at hk;clear aK dd;have h0:fS O1 O1.N 4 .nil O1 .nil:=fS.refl App.nil;refine κ eV ?_;have dD:(H7 ⟨hp,⟨pg,pa,pv⟩,g,a,v,pk,P,M,D⟩).length<=1:=by unfold H7;split;exact sL _ _ _;simp
 have hh:Nq ⟨hp,⟨pg,pa,pv⟩,g,a,v,pk,P,M,D⟩=cP (cP (cP (cP (H7 ⟨hp,⟨pg,pa,pv⟩,g,a,v,pk,P,M,D⟩) fb g) eU a) gX v) Bd pk:=rfl;have hw:ia ⟨hp,⟨pg,pa,pv⟩,g,a,v,pk,P,M,D⟩= .mk iW [] (qN (ly (ly (Nq ⟨hp,⟨pg,pa,pv⟩,g,a,v,pk,P,M,D⟩) nu (P.map jE)) ve (qN [] M)) D) []:=rfl;have hpp:H7 ⟨hp,⟨pg,pa,pv⟩,g,a,v,pk,P,M,D⟩=if hp then ly [] yz (cP (cP (cP [] fb pg) eU pa) gX pv)else[]:=rfl
 rw[hh]at hw;clear hh;generalize ia ⟨hp,⟨pg,pa,pv⟩,g,a,v,pk,P,M,D⟩=W at*;generalize H7 ⟨hp,⟨pg,pa,pv⟩,g,a,v,pk,P,M,D⟩=K0 at*;refine Ξ [1,2,3,4] (λtk:Tok=>[.p O.N 0,.p (O.N+1) 0,.l (Ζ K0) (aG K0) tk,.l 0 [] .nil]) (λtk O'=>fS O1 O1.N 4 .nil O' tk) ?_ ?_
 ·cases hp;refine ξ eV hk ?_;rw[hpp];refine ν eV ?_;exact aB.mk .nil h0
  ·refine ξ eV hk ?_;rw[hpp];refine ν eV ?_;refine VC.pF [] ?_;refine ρ 0 eV ?_;refine ρ 1 eV ?_;refine ρ 2 eV ?_;refine ab.ld (m:=.s pg) 3 ?_ ?_;exact eD eV hk;simp only[ak];refine ρ 5 eV ?_;refine ρ 6 eV ?_;refine ab.ld (m:=.s pa) 7 ?_ ?_;exact eD eV hk;simp only[ak];refine ρ 9 eV ?_;refine ρ 10 eV ?_;refine ab.ld (m:=.s pv) 11 ?_ ?_;exact eD eV hk;simp only[ak];refine ab.call (i:=4) (iJ [] .nil fb pg (App.nil (B:=O1.N)) (abx _) (by simp)) ?_;rintro _ O2 ⟨t2,rfl,g2⟩;simp only[ak];have l2:=ei [] fb pg;generalize cP [] fb pg=E1 at*;simp only[Th]at l2;refine⟨fS.eR App.nil g2,?_⟩;refine ab.call (i:=8) (iJ E1 t2 eU pa g2.2.1 g2.1.N) ?_;rintro _ O3 ⟨t3,rfl,g3⟩;simp only[ak];have l3:=ei E1 eU pa;generalize cP E1 eU pa=E2 at*
   replace g3:=g2.trans g3
   refine⟨fS.eR App.nil g3,?_⟩;refine ab.call (i:=12) (iJ E2 t3 gX pv g3.2.1 g3.1.N) ?_;rintro _ O4 ⟨t4,rfl,g4⟩;simp only[ak];have l4:=ei E2 gX pv;generalize cP E2 gX pv=E3 at*
   replace g4:=g3.trans g4
   refine⟨fS.eR App.nil g4,?_⟩;refine ab.call (i:=13) (vd [] .nil yz E3 t4 (App.nil (B:=O4.N)) (abx _) (by simp)) ?_;rintro _ O5 ⟨t5,rfl,g5⟩;simp only[ak];refine⟨(fS.eR App.nil g4).trans (fS.eR App.nil g5),?_⟩;refine ρ 14 eV ?_;refine ab.bW [] ?_;refine ae eV ?_;exact aB.mk t5 (fS.fresh (fS.eR App.nil g4) g5)
 intro tk O2 h2;have jQ:=(fS.eR App.nil h2).hp;have hn:=h2.1.N;clear hpp;refine θ (aE eV hk jQ ?_);refine τ (iJ K0 _ fb g h2.2.1 h2.1.N (by first | omega | simp)) ?_;rintro _ OA ⟨t1,rfl,gw⟩;have h3:=h2.trans gw;have l1:=ei K0 fb g;clear gw;generalize eK1:cP K0 fb g=K1 at*;have jQ:=(fS.eR App.nil h3).hp;have hn:=h3.1.N;try simp only[Th]at l1
 refine ae eV ?_;refine θ (aE eV hk jQ ?_);refine τ (iJ K1 _ eU a h3.2.1 h3.1.N (by first | omega | simp)) ?_;rintro _ OB ⟨t2,rfl,gw⟩;have h4:=h3.trans gw;have l2:=ei K1 eU a;clear gw;generalize eK2:cP K1 eU a=K2 at*;have jQ:=(fS.eR App.nil h4).hp;have hn:=h4.1.N;try simp only[Th]at l2
 refine ae eV ?_;refine θ (aE eV hk jQ ?_);refine τ (iJ K2 _ gX v h4.2.1 h4.1.N (by first | omega | simp)) ?_;rintro _ OC ⟨t3,rfl,gw⟩;have h5:=h4.trans gw;have l3:=ei K2 gX v;clear gw;generalize eK3:cP K2 gX v=K3 at*;have jQ:=(fS.eR App.nil h5).hp;have hn:=h5.1.N;try simp only[Th]at l3
 refine ae eV ?_;refine θ (aE eV hk jQ ?_);refine τ (iJ K3 _ Bd pk h5.2.1 h5.1.N (by first | omega | simp)) ?_;rintro _ OD ⟨t4,rfl,gw⟩;have h6:=h5.trans gw;have l4:=ei K3 Bd pk;clear gw;generalize eK4:cP K3 Bd pk=K4 at*;have jQ:=(fS.eR App.nil h6).hp;have hn:=h6.1.N;try simp only[Th]at l4
 refine ae eV ?_;clear eK1 eK2 eK3 eK4;refine Ξ [1,2,3,4] (λtp:Tok=>[.p O.N 0,.p (O.N+1) 0,.l (Ζ K4) (aG K4) t4,.l (P.map jE).length (aG (P.map jE)) tp]) (λtp O'=>OD.Ge O') ?_ ?_
 ·refine θ (aE eV hk jQ ?_);refine χ ?_;refine Θ [4,43] [1,2,3,41,42] (λx:Nat×Tok=>[.l ((P.take x.1).map jE).length (aG ((P.take x.1).map jE)) x.2,mi x.1]) (λx O'=>OD.Ge O'/\App O' OD.N 4 x.2/\x.1<=Ζ P) (λx=>(Ζ P) - x.1) ((0,.nil)) ?_ ?_;exact⟨VH.Ge.refl _,trivial,aka _⟩;rintro⟨j,tp⟩ O3 ⟨aJ,cH,hj⟩;dsimp only at cH hj ⊢;by_cases aM:j<Ζ P;rotate_left
  ·obtain rfl:j=Ζ P:=by omega
   rw[akb];refine ν eV ?_;exact aB.mk tp aJ
  have bG:=c9 gM P j aM;(have hY:(P.take (j+1)).map jE=(P.take j).map jE++[jE P[j]]:=by rw[dU _ _ aM,aql];rfl);have JV:((P.take j).map jE).length<=10000:=by rw[ap8,akf];omega
  generalize P[j]=y at*;generalize (P.take j).map jE=E at*;obtain⟨yn,yv⟩:=y;simp only[bH]at bG;refine κ eV ?_;refine κ eV ?_;refine Γ (χ ?_);refine ξ eV bG ?_;refine VC.al ?_;rintro O4 ⟨aT,pc,fT⟩;refine ξ eV pc ?_;refine VC.al ?_;rintro O5 ⟨bO,BJ,eJ⟩;have hkz:O5.hp O3.N=φ (.cells [.s yn,.s yv]):=bO.at pc;have gx:=(cH.ge aT).ge bO;have H8:=(aJ.trans aT).trans bO;cases yv with
  | nil=>
    refine ι (cB eV hkz (show(([]:Ρ)==[])=Α from rfl) BJ ?_);obtain⟨mE,ik,ns⟩:=iH (n:=Ζ E) (cs:=aG E) (ds:=[.s yn,.l 0 [] .nil,.l 0 [] .nil,.s []]) (es:=eh (jE (yn,[]))) yu Gf.1.1 gx (dV E) rfl rfl (by decide) (by omega) (by simp only[maxLen];omega) (f_ E) (by simp only[wu,jE,eh,if_true,Th,alU,aG]);refine aqM ik ns ?_;refine ae eV ?_;refine ν eV ?_;exact az.N (j+1,.own O5.N 4) ⟨cy.eR H8 gx (cy.after gx),App.after H8.N,aM⟩ (hl:=(by dsimp only;rw[hY,fh,Ca,aG,aG,agc];rfl))
  | cons c yv=>
    refine ι (cB eV hkz (show((c::yv)==[])=γ from rfl) BJ ?_);have oc:=gx.set (x:=.cells [.s yn,.l 0 [] .nil,.l 1 [.s [],.l 0 [] .nil,.l 0 [] .nil,.s (c::yv)] .full,.s []]) BJ;have QD:=H8.set (k:=O4.N) (by have:=aJ.N;omega) (.cells [.s yn,.l 0 [] .nil,.l 1 [.s [],.l 0 [] .nil,.l 0 [] .nil,.s (c::yv)] .full,.s []]);generalize O5.set O4.N (.cells [.s yn,.l 0 [] .nil,.l 1 [.s [],.l 0 [] .nil,.l 0 [] .nil,.s (c::yv)] .full,.s []])=O6 at*;obtain⟨mE,ik,ns⟩:=iH (n:=Ζ E) (cs:=aG E) (ds:=[.s yn,.l 0 [] .nil,.l 1 [.s [],.l 0 [] .nil,.l 0 [] .nil,.s (c::yv)] .full,.s []]) (es:=eh (jE (yn,c::yv))) yu Gf.1.1 oc (dV E) rfl rfl (by decide) (by omega) (by simp only[maxLen];omega) (f_ E) (by simp only[wu,jE,eh,if_neg (List.cons_ne_nil c yv),Th,Ti,alU,aG,agc,ap_]);refine aqM ik ns ?_;refine ae eV ?_;refine ν eV ?_;exact az.N (j+1,.own O6.N 4) ⟨cy.eR QD oc (cy.after oc),App.after QD.N,aM⟩ (hl:=(by dsimp only;rw[hY,fh,Ca,aG,aG,agc];rfl))
 intro tp O3 aJ;have h7:=h6.ge aJ;clear jQ hn;have jQ:=(fS.eR App.nil h7).hp;have hn:=h7.1.N;refine κ eV ?_;refine τ (vd K4 t4 nu (P.map jE) tp h7.2.1 h7.1.N (by omega) (by rw[ap8];omega)) ?_;rintro _ O4 ⟨t5,rfl,g8⟩;have h8:=h7.trans g8;have l5:=sL K4 nu (P.map jE);generalize ly K4 nu (P.map jE)=K5 at*;have amZ:=(fS.eR App.nil h8).hp;have Es:=h8.1.N;refine ae eV ?_;refine θ (aE eV hk amZ ?_);refine τ (Dk [] .nil M .au (App.nil (B:=O4.N)) (abx _) (by simp) hM (λd hd=>hx d (List.mem_append_left _ hd))) ?_;rintro _ O5 ⟨t6,rfl,g9⟩;have l6:=QC [] M;generalize qN [] M=K6 at*;simp only[Th]at l6;have h9:=h8.ge (fS.eR App.nil g9);refine ae eV ?_;refine τ (vd K5 t5 ve K6 t6 h9.2.1 h9.1.N (by omega)) ?_;rintro _ O6 ⟨t7,rfl,g10⟩;have BH:=h9.trans g10;have l7:=sL K5 ve K6;generalize ly K5 ve K6=K7 at*;have akO:=(fS.eR App.nil BH).hp;have H9:=BH.1.N;refine ae eV ?_;refine θ (aE eV hk akO ?_);refine τ (Dk K7 t7 D .au BH.2.1 BH.1.N (by omega) hD (λd hd=>hx d (List.mem_append_right _ hd))) ?_;rintro _ O7 ⟨t8,rfl,g11⟩;have h11:=BH.trans g11;generalize qN K7 D=K8 at*;have akP:=(fS.eR App.nil h11).hp;have aiT:=h11.1.N;have en:=(akP _ (by omega)).trans bY;refine ao eV en ?_;refine ο eV @f_ ?_;exact⟨by rw[hw,eh];rfl,(nv.trans (fS.eR App.nil h11)).set (by omega) _⟩
def eE:=WT Db<|WT eV<|WT aiG<|WT HY<|WT aiK adb
def gK.trans{q1 q2:ϑ}(h:gK O b q O1 q1)(k:gK O1 b q1 O2 q2):gK O b q O2 q2:=
 ⟨YI h.N k.N,λi hi hb hq=>by rw[k.hp i (akc hi h.N) hb (h.new i hi hq),h.hp i hi hb hq],λi hi hq=>k.new i (akc hi h.N) (h.new i hi hq)⟩
def gK.mJ(h:O.Ge O1):gK O b q O1 q:=⟨h.N,λi hi _ _=>h.hp i hi,λ_ _ hq=>hq⟩
def iG.ge{s:Ρ}(h:iG O B b q s)(u:O.Ge O'):iG O' B b q s:=h.BO (bM.mJ u)
def gK.Er(h:O.Ge O1)(u:gK O1 b Β O2 q)(hb:O.N<=b):O.Ge O2:=u.ge h hb (λ_ e=>by cases e)
def VH.Ge.Xw(h:O.Ge O1)(u:bM O1 q O2)(hq:∀i,q=φ i->O.N<=i):O.Ge O2:=⟨YI h.N u.N,λi hi=>(u.hp i (akc hi h.N) (λe=>by have:=hq i e;omega)).trans (h.hp i hi)⟩
def rX(attr:Bool)(c:UInt8):Bs:=
 if c=38 then[38,97,109,112,59]else if c=60 then[38,108,116,59]else if c=62 then[38,103,116,59]else if c=13 then[38,35,49,51,59]
 else if attr&&c==34 then[38,113,117,111,116,59]else if attr&&c==9 then[38,35,57,59]else if attr&&c==10 then[38,35,49,48,59]else[c]
def oU(attr:Bool)(s:Bs):Bs:=s.flatMap (rX attr)
def aam(attr:Bool)(c:UInt8):(rX attr c).length<=6:=by
 unfold rX;repeat' split
 all_goals simp
def qx(attr:Bool)(s:Bs):(oU attr s).length<=6*(Ζ s):=by
 induction s with
 | nil=>simp[oU]
 | cons c s ih=>
   have:=aam attr c;unfold oU at ih ⊢;rw[akd,Ca,Ti];omega
def Et(s:Bs)(attr:Bool)(O:VH)(hs:Ζ s<=1000000):VF Ε 56 [.s s,mb attr] O (aH λm O'=>m= .s (oU attr s)/\O.Ge O'):=by
 have hsm:Ζ s<=maxLen:=YI hs (by decide);have hm:(Ζ s:Int)<=9223372036854775807:=by omega
 refine Υ 56 [.tmp 4] func56 ?_;refine ae eE ?_;have oE:=iG.fresh O (abx O.N);have oC:O.Ge ((O.push (.cells [.v (.pointer Β),.l 0 [] .nil])).push (.shape O.N 155 2)):=((VH.Ge.refl O).push _).push _;generalize ((O.push (.cells [.v (.pointer Β),.l 0 [] .nil])).push (.shape O.N 155 2))=O1 at*;refine VL.bytes aa (el:=5) (l:=s) rfl rfl (by rw[T9];rfl) (by rw[w7];rfl) (by rw[T5];rfl) hsm rfl λcap h1 h2=>WL.sound aa ?_
 have vc:=ζ O1 (.cells (s.map im));have aK:=(VH.Ge.refl O1).push (.cells (s.map im));have dd:O1.N<(O1.push (.cells (s.map im))).N:=alS _;have yy:=oE.hi;have cC:=oE.ge aK;have uZ:gK O1 O.N Β (O1.push (.cells (s.map im))) Β:=gK.mJ aK;generalize O1.push (.cells (s.map im))=O2 at*;refine ae eE ?_;refine WC.kh [11] [1,5,9,10] (λx:Nat×ϑ=>[mi x.1]) (λx O'=>gK O2 O.N Β O' x.2/\iG O' O.N O.N x.2 (oU attr (s.take x.1))/\x.1<=Ζ s) (λx=>(Ζ s) - x.1) ((0,Β)) ?_ ?_;exact⟨gK.mJ (VH.Ge.refl _),cC,aka _⟩;rintro⟨j,q⟩ O3 ⟨hu,hb,hj⟩;dsimp only at hu hb hj ⊢;have Gi:=(hu.hp O1.N dd (by omega) (by simp)).trans vc;by_cases h3:j<Ζ s;have rE:=aga h3;(((((((((((((((((((have hY:oU attr (s.take (j+1))=oU attr (s.take j)++rX attr s[j]:=by unfold oU;rw[dU _ _ h3,alR,akd,alU,agc]);have dE:(oU attr (s.take j)).length<=6000000:=by have:=qx attr (s.take j);rw[akf]at this;omega);generalize oU attr (s.take j)=T at*;generalize s[j]=c at*;have hc:=c.toNat_lt;have key:∀(l:Bs)(q':ϑ)(O4:VH),rX attr c=l->iG O4 O.N O.N q' (T++l)->gK O3 O.N q O4 q'->gK O2 O.N Β O4 q'/\iG O4 O.N O.N q' (oU attr (s.take (j+1)))/\j+1<=Ζ s:=λl q' O4 e h k=>⟨hu.trans k,by rw[hY,e];exact h,h3⟩);have Nr:c=38 ↔ c.toNat=38:=⟨λh=>by rw[h];rfl,λh=>UInt8.toNat_inj.1 h⟩;have QF:c=60 ↔ c.toNat=60:=⟨λh=>by rw[h];rfl,λh=>UInt8.toNat_inj.1 h⟩;have UM:c=62 ↔ c.toNat=62:=⟨λh=>by rw[h];rfl,λh=>UInt8.toNat_inj.1 h⟩;have e13:c=13 ↔ c.toNat=13:=⟨λh=>by rw[h];rfl,λh=>UInt8.toNat_inj.1 h⟩;have e34:c=34 ↔ c.toNat=34:=⟨λh=>by rw[h];rfl,λh=>UInt8.toNat_inj.1 h⟩;have e9:c=9 ↔ c.toNat=9:=⟨λh=>by rw[h];rfl,λh=>UInt8.toNat_inj.1 h⟩;have rG:c=10 ↔ c.toNat=10:=⟨λh=>by rw[h];rfl,λh=>UInt8.toNat_inj.1 h⟩;by_cases h38:c.toNat=38);refine cB eE rE Gi @aO ?_;refine τ (ct [38,97,109,112,59] hb (by simp only[Ti,Th];omega)) ?_;rintro _ O4 ⟨rfl,q',dy,eK⟩;refine ae eE ?_;exact az.N (j+1,q') (key _ _ _ (by simp[rX,Nr,h38]) dy eK));by_cases QG:c.toNat=60);refine cB eE rE Gi @aO ?_;refine τ (ct [38,108,116,59] hb (by simp only[Ti,Th];omega)) ?_;rintro _ O4 ⟨rfl,q',dy,eK⟩;refine ae eE ?_;exact az.N (j+1,q') (key _ _ _ (by simp[rX,Nr,QF,QG]) dy eK));by_cases h62:c.toNat=62);refine cB eE rE Gi @aO ?_;refine τ (ct [38,103,116,59] hb (by simp only[Ti,Th];omega)) ?_;rintro _ O4 ⟨rfl,q',dy,eK⟩;refine ae eE ?_;exact az.N (j+1,q') (key _ _ _ (by simp[rX,Nr,QF,UM,h62]) dy eK));by_cases h13:c.toNat=13);refine cB eE rE Gi @aO ?_;refine τ (ct [38,35,49,51,59] hb (by simp only[Ti,Th];omega)) ?_;rintro _ O4 ⟨rfl,q',dy,eK⟩;refine ae eE ?_;exact az.N (j+1,q') (key _ _ _ (by simp[rX,Nr,QF,UM,e13,h13]) dy eK));cases attr);refine cB eE rE Gi @aO ?_;refine τ (we c hb) ?_;rintro _ O4 ⟨rfl,q',dy,eK⟩;refine ae eE ?_;exact az.N (j+1,q') (key _ _ _ (by simp[rX,Nr,QF,UM,e13,h38,QG,h62,h13]) dy eK));by_cases h34:c.toNat=34);refine cB eE rE Gi @aO ?_;refine τ (ct [38,113,117,111,116,59] hb (by simp only[Ti,Th];omega)) ?_;rintro _ O4 ⟨rfl,q',dy,eK⟩;refine ae eE ?_;exact az.N (j+1,q') (key _ _ _ (by simp[rX,Nr,QF,UM,e13,e34,h34]) dy eK));by_cases h9:c.toNat=9);refine cB eE rE Gi @aO ?_;refine τ (ct [38,35,57,59] hb (by simp only[Ti,Th];omega)) ?_;rintro _ O4 ⟨rfl,q',dy,eK⟩;refine ae eE ?_;exact az.N (j+1,q') (key _ _ _ (by simp[rX,Nr,QF,UM,e13,e34,e9,h9]) dy eK));by_cases BH:c.toNat=10);refine cB eE rE Gi @aO ?_;refine τ (ct [38,35,49,48,59] hb (by simp only[Ti,Th];omega)) ?_;rintro _ O4 ⟨rfl,q',dy,eK⟩;refine ae eE ?_;exact az.N (j+1,q') (key _ _ _ (by simp[rX,Nr,QF,UM,e13,e34,e9,rG,BH]) dy eK));refine cB eE rE Gi @aO ?_;refine τ (we c hb) ?_;rintro _ O4 ⟨rfl,q',dy,eK⟩;refine ae eE ?_;exact az.N (j+1,q') (key _ _ _ (by simp[rX,Nr,QF,UM,e13,e34,e9,rG,h38,QG,h62,h13,h34,h9,BH]) dy eK)
 ·obtain rfl:j=Ζ s:=by omega
  rw[akb]at hb;have JT:=qx attr s;refine ae eE ?_;refine τ (sI hb) ?_;rintro _ O4 ⟨rfl,eK⟩;refine ae eE ?_;exact(gK.Er (oC.trans aK) hu (abx _)).Xw eK hb.Bc
structure UN where
 k:Int
 n:Bs
 iq:List (Bs×Bs)
 t:Bs
 off:Nat
 line:Nat
 H_:Nat
 deriving DecidableEq
def Ia(x:UN):Η:=[mi x.k,.s x.n,.l (Ζ x.iq) (x.iq.flatMap bH) .au,.s x.t,mi x.off,mi x.line,mi x.H_]
def rH(a:Bs×Bs):Bs:=[32]++a.1++[61,34]++oU Α a.2++[34]
def Ib(n:Bs)(L:List (Bs×Bs))(e:Bs):Bs:=[60]++n++L.flatMap rH++e
def Ic(a:Bs×Bs)(h1:Ζ a.1<=1000000)(h2:Ζ a.2<=1000000):(rH a).length<=7000004:=by
 have:=qx Α a.2;simp only[rH,Ca,Ti,Th];omega
def uc:∀L:List (Bs×Bs),(∀a∈L,Ζ a.1<=1000000/\(Ζ a.2)<=1000000)->(L.flatMap rH).length<=(Ζ L)*7000004
 | [],_=>by simp
 | a::L,h=>by
   have h1:=Ic a (h a (by simp)).1 (h a (by simp)).2;(have h2:=uc L λx hx=>h x (List.mem_cons_of_mem _ hx));rw[akd,Ca,Ti,Nat.succ_mul];omega
def adm{s:Bs}(x:UN)(e:Bs)(h:iG O B b q s)(hs:Ζ s<=10000000000000)(hn:Ζ x.n<=1000000)(he:Ζ e<=1000000)(hA:∀a∈x.iq,Ζ a.1<=1000000/\(Ζ a.2)<=1000000)(hl:Ζ x.iq<=1000000):
  VF Ε 73 [.p b 0,.agg (Ia x),.s e] O (aH λm O'=>∃q',iG O' B b q' (s++Ib x.n x.iq e)/\gK O b q O' q'):=by
 obtain⟨k,n,L,t,off,line,H_⟩:=x;dsimp only at hn hA hl;have qe:=bk gM L;simp only[Ia];refine ω 35 [] func73 ?_;refine κ eE ?_;refine VC.bx ?_;rintro O1 ⟨aK,hk,dd⟩;have cC:=h.ge aK;try simp only[aq]at hk
 refine ξ eE hk ?_;refine τ (ct ([60]++n) cC (by simp only[Ca,Ti,Th];omega)) ?_;rintro _ O2 ⟨rfl,q2,cG,dB⟩;have bY:=(dB.hp O.N (by omega) (by have:=h.hi;omega) (h.Xu _ (abx _))).trans hk;refine ae eE ?_;refine Ξ [0,2] (λq:ϑ=>[.p b 0,.s e]) (λq' O'=>gK O b q O' q'/\iG O' B b q' (s++([60]++n)++L.flatMap rH)) ?_ ?_
 ·refine ξ eE bY ?_;refine χ ?_;refine Θ [16] [0,2,14,15] (λx:Nat×ϑ=>[mi x.1]) (λx O'=>gK O b q O' x.2/\iG O' B b x.2 (s++([60]++n)++(L.take x.1).flatMap rH)/\x.1<=Ζ L) (λx=>(Ζ L) - x.1) ((0,q2)) ?_ ?_;exact⟨(gK.mJ aK).trans dB,by simpa using cG,aka _⟩;rintro⟨j,qj⟩ O3 ⟨dF,cN,hj⟩;dsimp only at dF cN hj ⊢;by_cases aM:j<Ζ L;rotate_left
  ·obtain rfl:j=Ζ L:=by omega
   rw[akb]at cN;refine ν eE ?_;exact aB.mk qj ⟨dF,cN⟩
  have bG:=c9 gM L j aM;(have hY:(L.take (j+1)).flatMap rH=(L.take j).flatMap rH++rH L[j]:=by rw[dU _ _ aM,alR,akd,alU,agc]);have kX:=hA L[j] (ake aM);have dD:=Ic L[j] kX.1 kX.2
  have hTl:((L.take j).flatMap rH).length<=7000004000000:=by
   have:=uc (L.take j) λa ha=>hA a (List.mem_of_mem_take ha)
   rw[akf]at this;omega
  generalize L[j]=y at*;generalize (L.take j).flatMap rH=T at*;obtain⟨yn,yv⟩:=y;dsimp only at kX;simp only[bH]at bG;refine κ eE ?_;refine κ eE ?_;refine Γ (χ ?_);refine ξ eE bG ?_;refine VC.al ?_;rintro O4 ⟨aT,pc,fT⟩;have dy:=cN.ge aT;refine VC.pF [10] ?_;refine ρ 0 eE ?_;refine ρ 1 eE ?_;refine ab.ld (m:=.s yn) 2 ?_ ?_;exact eD eE pc;simp only[ak];refine ρ 3 eE ?_;refine ρ 4 eE ?_;refine ρ 5 eE ?_;refine ab.ld (m:=.s yv) 6 ?_ ?_;exact eD eE pc;simp only[ak];refine ab.call (i:=7) (Et yv Α _ kX.2) ?_;rintro _ O5 ⟨rfl,bO⟩;simp only[ak];refine⟨bO,?_⟩;have JT:=qx Α yv;have hae:rH (yn,yv)=[32]++yn++[61,34]++oU Α yv++[34]:=rfl;generalize oU Α yv=E at*;refine ρ 8 eE ?_;refine ρ 9 eE ?_;refine ab.bW [(10,.one)] ?_;refine ae eE ?_;refine τ (ct ([32]++yn++[61,34]++E++[34]) (dy.ge bO) (by simp only[Ca,Ti,Th];omega)) ?_;rintro _ O6 ⟨rfl,q6,jr,uD⟩;refine ae eE ?_;refine ν eE ?_;exact az.N (j+1,q6) ⟨(dF.trans (gK.mJ (aT.trans bO))).trans uD,by rw[hY,hae, <-alP];exact jr,aM⟩
 rintro q3 O3 ⟨dF,cN⟩;have hTl:=uc L hA;refine ν eE ?_;refine τ (ct e cN (by simp only[Ca,Ti,Th];omega)) ?_;rintro _ O4 ⟨rfl,q4,dy,eK⟩;refine ae eE ?_;refine⟨q4,?_,dF.trans eK⟩;simpa[Ib,alP]using dy
def BX(x:UN):Bs:=
 if x.k=5 then[60,33,45,45]++x.t++[45,45,62]else if x.k=6 then[60,63,120,109,108]++x.t++[63,62]else if x.k=3 then[60,47]++x.n++[62]
 else if x.k=1 then Ib x.n x.iq [62]else if x.k=2 then Ib x.n x.iq [47,62]else if x.k=4 then oU γ x.t else[]
structure UO(x:UN):Prop where
 n:Ζ x.n<=1000000
 t:Ζ x.t<=1000000
 a:∀a∈x.iq,Ζ a.1<=1000000/\(Ζ a.2)<=1000000
 l:Ζ x.iq<=1000000
def Lh(n:Bs)(L:List (Bs×Bs))(e:Bs)(hn:Ζ n<=1000000)(he:Ζ e<=10)(hA:∀a∈L,Ζ a.1<=1000000/\(Ζ a.2)<=1000000)(hl:Ζ L<=1000000):(Ib n L e).length<=8000000000000:=by
 have:=uc L hA;simp only[Ib,Ca,Ti,Th];omega
def QH(x:UN)(h:UO x):(BX x).length<=8000000000000:=by
 have h1:=h.n;have h2:=h.t;have h3:=Lh x.n x.iq [62] h.n (by simp) h.a h.l;have h4:=Lh x.n x.iq [47,62] h.n (by simp) h.a h.l;have h5:=qx γ x.t;unfold BX;repeat' split
 all_goals first | omega | (simp only[Ca,Ti,Th];omega)
def aan(x:UN)(tk:Tok)(h:UO x):VF Ε 57 [.l 1 (Ia x) tk] O (aH λm O'=>m= .s (BX x)/\O.Ge O'):=by
 have dD:=QH x h;have hn:=h.n;have ht:=h.t;have wh:∀l:Bs,Ζ l<=3000000->Ζ l<=140737488355328:=λl h=>by omega
 have bG:(Ia x++[]).length=7:=rfl;obtain⟨k,n,L,t,off,line,H_⟩:=x;dsimp only at hn ht;refine ω 51 [.tmp 2] func57 ?_;simp only[Ia];refine κ eE ?_;refine κ eE ?_;have oE:=iG.fresh O (abx O.N);have oC:O.Ge ((O.push (.cells [.v (.pointer Β),.l 0 [] .nil])).push (.shape O.N 155 2)):=((VH.Ge.refl O).push _).push _;generalize ((O.push (.cells [.v (.pointer Β),.l 0 [] .nil])).push (.shape O.N 155 2))=O1 at*;refine Ξ [3] (λq:ϑ=>[.p O.N 0]) (λq O'=>O.Ge O'/\iG O' O.N O.N q (BX ⟨k,n,L,t,off,line,H_⟩)) ?_ ?_;rotate_left;rintro q O2 ⟨aC,cG⟩;refine ν eE ?_;refine τ (sI cG) ?_;rintro _ O3 ⟨rfl,dF⟩;refine ae eE ?_;exact aC.Xw dF cG.Bc;refine κ eE ?_;refine χ ?_;refine Θ [8] [3,6,7] (λx:Bool×ϑ=>[mi (if x.1 then 1 else 0)]) (λx O'=>O.Ge O'/\iG O' O.N O.N x.2 (if x.1 then BX ⟨k,n,L,t,off,line,H_⟩else[])) (λx=>if x.1 then 0 else 1) ((γ,Β)) ?_ ?_;exact⟨oC,oE⟩;rintro⟨j,q⟩ O2 ⟨aC,cG⟩;dsimp only at cG ⊢;cases j;rotate_left;rw[if_pos rfl]at cG ⊢;refine ν eE ?_;exact aB.mk q ⟨aC,cG⟩;rw[if_neg (by decide)]at cG ⊢;refine κ eE ?_;refine κ eE ?_;refine Γ (χ ?_);refine κ eE ?_;refine VC.al ?_;rintro O3 ⟨aJ,hk,ij⟩;have cN:=cG.ge aJ;have fin:∀(l:Bs)(q':ϑ)(O4:VH),BX ⟨k,n,L,t,off,line,H_⟩=l->iG O4 O.N O.N q' ([]++l)->gK O3 O.N q O4 q'->O.Ge O4/\iG O4 O.N O.N q' (BX ⟨k,n,L,t,off,line,H_⟩):=λl q' O4 e h k=>⟨k.ge (aC.trans aJ) (abx _) cN.Bc,by rw[e];exact h⟩
 by_cases h5:k=5;subst h5;refine ο eE hk ?_;refine τ (ct ([60,33,45,45]++t++[45,45,62]) cN (by simp only[Ca,Ti,Th];omega)) ?_;rintro _ O4 ⟨rfl,q',dy,eK⟩;refine ae eE ?_;refine ν eE ?_;exact az.N (Α,q') (fin _ _ _ rfl dy eK) (hm:=ap4);by_cases h6:k=6;subst h6;refine ο eE hk ?_;refine τ (ct ([60,63,120,109,108]++t++[63,62]) cN (by simp only[Ca,Ti,Th];omega)) ?_;rintro _ O4 ⟨rfl,q',dy,eK⟩;refine ae eE ?_;refine ν eE ?_;exact az.N (Α,q') (fin _ _ _ rfl dy eK) (hm:=ap4);by_cases h3:k=3;subst h3;refine ο eE hk ?_;refine τ (ct ([60,47]++n++[62]) cN (by simp only[Ca,Ti,Th];omega)) ?_;rintro _ O4 ⟨rfl,q',dy,eK⟩;refine ae eE ?_;refine ν eE ?_;exact az.N (Α,q') (fin _ _ _ rfl dy eK) (hm:=ap4);by_cases h1:k=1;subst h1;refine ο eE hk ?_;refine τ (adm ⟨1,n,L,t,off,line,H_⟩ [62] cN (by simp) hn (by simp) h.a h.l) ?_;rintro _ O4 ⟨q',dy,eK⟩;refine ae eE ?_;refine ν eE ?_;exact az.N (Α,q') (fin _ _ _ rfl dy eK) (hm:=ap4);by_cases h2:k=2;subst h2;refine ο eE hk ?_;refine τ (adm ⟨2,n,L,t,off,line,H_⟩ [47,62] cN (by simp) hn (by simp) h.a h.l) ?_;rintro _ O4 ⟨q',dy,eK⟩;refine ae eE ?_;refine ν eE ?_;exact az.N (Α,q') (fin _ _ _ rfl dy eK) (hm:=ap4);by_cases h4:k=4;subst h4;have JT:=qx γ t;refine ο eE hk ?_;refine τ (Et t γ _ ht) ?_;rintro _ O4 ⟨rfl,aT⟩;refine ae eE ?_;refine τ (ct (oU γ t) (cN.ge aT) (by simp only[Th];omega)) ?_;rintro _ O5 ⟨rfl,q',dG,lX⟩;refine ae eE ?_;refine ν eE ?_;exact az.N (Α,q') (fin _ _ _ rfl dG ((gK.mJ aT).trans lX)) (hm:=ap4)
 ·have dh:BX ⟨k,n,L,t,off,line,H_⟩=[]:=by simp[BX,h1,h2,h3,h4,h5,h6]
  refine ο eE hk ?_;refine ν eE ?_;exact az.N (Α,q) (fin _ _ _ dh (by simpa using cN) (gK.mJ (VH.Ge.refl _))) (hm:=ap4)
def am0:eP Tryz.t156.desc=γ:=by kernel_rfl
def fO:=WT eE<|WT aml am0
mutual
def fi:Nd->Nat
 | .mk _ _ k _=>1+cI k
def cI:List Nd->Nat
 | []=>0
 | x::r=>fi x+cI r
end
def Ie(n:Bs)(a:List (Bs×Bs))(k:List Nd)(t:Bs):fi (.mk n a k t)=1+cI k:=by rw[fi]
mutual
def Dl:Nd->Prop
 | .mk n a k t=>Ζ n<=1000000/\(Ζ t)<=1000000/\(∀x∈a,Ζ x.1<=1000000/\(Ζ x.2)<=1000000)/\(Ζ a)<=1000000/\(Ζ k)<=1000000/\wj k
def wj:List Nd->Prop
 | []=>True
 | x::r=>Dl x/\wj r
end
mutual
def cV:Nd->Bs
 | .mk n a k t=>if n=[]then oU γ t else BX ⟨if (Ζ k)=0 then 2 else 1,n,a,[],0,0,0⟩++bf k++(if (Ζ k)=0 then[]else[60,47]++n++[62])
def bf:List Nd->Bs
 | []=>[]
 | x::r=>cV x++bf r
end
def Dm:∀{k:List Nd} {x:Nd},x∈k->fi x<=cI k
 | y::r,x,h=>by
   rw[cI];rcases ap7.1 h with rfl | h;omega;have:=Dm h;omega
def Ig:∀{k:List Nd} {x:Nd},wj k->x∈k->Dl x
 | y::r,x,h,hx=>by
   rw[wj]at h;rcases ap7.1 hx with rfl | hx;exact h.1;exact Ig h.2 hx
def w_(L M:List Nd):bf (L++M)=bf L++bf M:=by
 induction L with
 | nil=>rw[af_,bf,af_]
 | cons x L ih=>rw[agb,bf,bf,ih,alP]
def sM(L:List Nd):aG L=L.flatMap eh:=by
 induction L with
 | nil=>rw[aG];rfl
 | cons x L ih=>rw[aG,ih,akd]
def adn:∀(N:Nat)(x:Nd)(O:VH)(B b lk:Nat)(q:ϑ)(s:Bs),fi x<=N->iG O B b q s->O.hp lk=φ (.cells [.func (.func 54) [] [.p b 0,.p lk 0]])->lk<O.N->lk≠b->q≠φ lk->Ζ s+(cV x).length<=10000000000000->Dl x->
  VF Ε 54 [.agg (eh x),.p b 0,.p lk 0] O (aH λm O'=>∃q',iG O' B b q' (s++cV x)/\gK O b q O' q')
 | 0,.mk n a k t=>λO B b lk q s h=>by rw[Ie]at h;omega
 | N+1,.mk n a k t=>λO B b lk q s hN h fa jn Eu qy hs dw=>by
   rw[Ie]at hN;rw[Dl]at dw;obtain⟨hn,ht,hA,hAl,gW,hks⟩:=dw;rw[cV]at hs ⊢;rw[eh];refine ω 48 [] func54 ?_;refine κ fO ?_;refine VC.bx ?_;rintro O1 ⟨aK,hk,dd⟩;have cC:=h.ge aK;have apj:=(aK.hp _ jn).trans fa;cases n with
   | nil=>
     rw[if_pos rfl]at hs ⊢;refine θ (aE fO hk (show(([]:Ρ)==[])=Α from rfl) ?_);refine τ (Et t γ _ ht) ?_;rintro _ O2 ⟨rfl,aC⟩;have JT:=qx γ t;refine ae fO ?_;refine τ (ct (oU γ t) (cC.ge aC)) ?_;rintro _ O3 ⟨rfl,q',cN,dF⟩;refine ae fO ?_;exact⟨q',cN,(gK.mJ (aK.trans aC)).trans dF⟩
   | cons c n=>
     rw[if_neg (by simp)]at hs ⊢;have hnb:((c::n)==[])=γ:=rfl;generalize Ih:c::n=nm at*;have xK:UO ⟨if (Ζ k)=0 then 2 else 1,nm,a,[],0,0,0⟩:=⟨hn,by simp,hA,hAl⟩;refine θ (aE fO hk hnb ?_);refine θ (aE fO hk hnb ?_);refine VC.al ?_;rintro O2 ⟨aC,hkt,fc⟩;have bY:=(aC.hp O.N (by omega)).trans hk;refine Ξ [1,2,3,4] (λ_:Unit=>[.p b 0,.p lk 0,.p O.N 0,.p O1.N 0]) (λ_ O'=>O.Ge O'/\O'.N=O2.N/\O'.hp O.N=φ (.cells (eh (.mk nm a k t)))/\O'.hp O1.N=φ (.cells (Ia ⟨if (Ζ k)=0 then 2 else 1,nm,a,[],0,0,0⟩))) ?_ ?_
     ·have nv:=aK.trans aC;by_cases h0:Ζ k=0;refine ξ fO bY ?_;refine ο fO h0 ?_;exact aB.mk () ⟨nv,rfl,by rw[bY,eh],by rw[hkt];rfl⟩
      ·have h1:0<Ζ k:=by omega
       refine ξ fO bY ?_;refine ο fO hkt ?_;refine aB.mk () ⟨nv.set (by omega) _,rfl,?_,?_⟩;rw[VH.sx,bY,eh];rw[υ,if_neg h0];rfl
     rintro⟨⟩ O3 ⟨aJ,ij,en,aiU⟩;have cN:=h.ge aJ;simp only[eh]at en;generalize hX:(⟨if (Ζ k)=0 then 2 else 1,nm,a,[],0,0,0⟩:UN)=X at*;have xn:=QH X xK;simp only[Ca]at hs;have hXc:Ia X=[mi X.k,.s X.n,.l (Ζ X.iq) (X.iq.flatMap bH) .au,.s X.t,mi X.off,mi X.line,mi X.H_]:=rfl;rw[hXc,aq,aq,aq,aq]at aiU;refine ξ fO aiU ?_;refine τ (aan X .full xK) ?_;rintro _ O4 ⟨rfl,aT⟩;refine ae fO ?_;refine τ (ct (BX X) (cN.ge aT)) ?_;rintro _ O5 ⟨rfl,q5,dG,lX⟩;have Xx:gK O b q O5 q5:=(gK.mJ (aJ.trans aT)).trans lX;have gO:=(lX.hp O.N (by have:=aT.N;omega) (by have:=h.hi;omega) (h.Xu _ (abx _))).trans (aT.at en);refine ae fO ?_;have sN:q5≠φ O.N:=lX.new O.N (by have:=aT.N;omega) (h.Xu _ (abx _));(have eJ:O.N<O5.N:=by have:=lX.N;have:=aT.N;omega);refine Ξ [1,2,3] (λq':ϑ=>[.p b 0,.p lk 0,.p O.N 0]) (λq' O'=>gK O5 b q5 O' q'/\iG O' B b q' (s++BX X++bf k)) ?_ ?_
     ·refine ξ fO gO ?_;refine χ ?_;refine Θ [31] [1,2,3,29,30] (λx:Nat×ϑ=>[mi x.1]) (λx O'=>gK O5 b q5 O' x.2/\iG O' B b x.2 (s++BX X++bf (k.take x.1))/\x.1<=Ζ k) (λx=>(Ζ k) - x.1) ((0,q5)) ?_ ?_;exact⟨gK.mJ (VH.Ge.refl _),by simpa[bf]using dG,aka _⟩;rintro⟨j,qj⟩ O6 ⟨uD,jr,hj⟩;dsimp only at uD jr hj ⊢;by_cases aM:j<Ζ k;rotate_left
      ·obtain rfl:j=Ζ k:=by omega
       rw[akb]at jr;refine ν fO ?_;exact aB.mk qj ⟨uD,jr⟩
      have bG:=c9 ob k j aM;rw[<-sM]at bG;have Xy:=dV k;have hY:bf (k.take (j+1))=bf (k.take j)++cV k[j]:=by rw[dU _ _ aM,w_,bf,bf,agc]
      have mw:(bf k).length=(bf (k.take j)).length+(cV k[j]).length+(bf (k.drop (j+1))).length:=by
       rw[<-Ca, <-hY, <-Ca, <-w_,List.take_append_drop]
      (have r7:fi k[j]<=N:=by have:=Dm (ake aM);omega);have BY:=Ig hks (ake aM);generalize k[j]=y at*;have BI:=Xx.trans uD;have am1:=(BI.hp lk jn Eu qy).trans fa;have am2:=BI.new lk jn qy;have ih:=λOO h1 h2 h3=>adn N y OO B b lk qj (s++BX X++bf (k.take j)) r7 h1 h2 h3 Eu am2 (by simp only[Ca];omega) BY
      generalize bf (k.take j)=T at*;cases y with
      | mk yn ya yk yt=>
        simp only[eh]at bG ih;refine κ fO ?_;refine κ fO ?_;refine Γ (χ ?_);refine ξ fO bG ?_;refine VC.al ?_;rintro O7 ⟨fG,pc,xp⟩;have aiV:=(fG.hp lk (by have:=BI.N;omega)).trans am1;refine ι (aE fO pc aiV ?_);refine τ (ih O7 (jr.ge fG) aiV (by have:=BI.N;omega)) ?_;rintro _ O8 ⟨q8,uC,tJ⟩;refine ae fO ?_;refine ν fO ?_;exact az.N (j+1,q8) ⟨(uD.trans (gK.mJ fG)).trans tJ,by rw[hY, <-alP];exact uC,aM⟩
     rintro q6 O6 ⟨uD,jr⟩;have qg:=(uD.hp O.N eJ (by have:=h.hi;omega) sN).trans gO;have QI:=Xx.trans uD;by_cases h0:Ζ k=0;rw[if_pos h0];refine ο fO qg ?_;exact⟨q6,by simpa[alP]using jr,QI⟩;rw[if_neg h0]at hs ⊢;simp only[Ca,Ti,Th]at hs;refine ο fO qg ?_;refine τ (ct ([60,47]++nm++[62]) jr (by simp only[Ca,Ti,Th];omega)) ?_;rintro _ O7 ⟨rfl,q7,BZ,Gj⟩;refine ae fO ?_;exact⟨q7,by simpa[alP]using BZ,QI.trans Gj⟩
def aao(x:Nd)(O:VH)(hs:(cV x).length<=10000000000000)(dw:Dl x):VF Ε 36 [.agg (eh x)] O (aH λm O'=>m= .s (cV x)/\O.Ge O'):=by
 have lay:=adn (fi x) x;generalize cV x=T at*;cases x with
 | mk n a k t=>
   simp only[eh]at lay ⊢;refine ω 10 [.tmp 2] func36 ?_;refine κ fO ?_;refine VC.bx ?_;rintro O1 ⟨aK,hk,dd⟩;refine κ fO ?_;have oE:=iG.fresh O1 (abx O1.N);have oC:O1.Ge ((O1.push (.cells [.v (.pointer Β),.l 0 [] .nil])).push (.shape O1.N 155 2)):=((VH.Ge.refl O1).push _).push _;have yA:=oE.hi;generalize ((O1.push (.cells [.v (.pointer Β),.l 0 [] .nil])).push (.shape O1.N 155 2))=O2 at*;refine κ fO ?_;refine κ fO ?_;refine VC.al ?_;rintro O3 ⟨aJ,en,ij⟩;have cK:=(aJ.hp O.N (by have:=oC.N;omega)).trans ((oC.hp O.N (by omega)).trans hk);refine θ (aE fO en cK ?_);refine τ (lay O3 O1.N O1.N O2.N Β [] (abx _) (oE.ge aJ) en (by omega) (by omega) (by simp) (by simpa using hs) dw) ?_;rintro _ O4 ⟨q,dy,eK⟩;rw[af_]at dy;refine ae fO ?_;refine ν fO ?_;refine τ (sI dy) ?_;rintro _ O5 ⟨rfl,lX⟩;refine ae fO ?_;exact(eK.Er (aK.trans (oC.trans aJ)) (by omega)).Xw lX (λi e=>by have:=dy.Bc i e;omega)
def Nd.nm:Nd->Bs
 | .mk n _ _ _=>n
def Nd.kids:Nd->List Nd
 | .mk _ _ k _=>k
def Nd.tx:Nd->Bs
 | .mk _ _ _ t=>t
def lY(name:Bs)(y:Nd):Bool:=y.nm != []&&(name==[]||y.nm==name)
def de(x:Nd)(name:Bs):List Nd:=x.kids.filter (lY name)
def GM(x:Nd)(name:Bs)(O:VH)(hk:Ζ x.kids<=1000000):VF Ε 284 [.agg (eh x),.s name] O (aH λm O'=>∃tk,m= .l (de x name).length (aG (de x name)) tk/\O.Ge O'):=by
 obtain⟨n,a,k,t⟩:=x;simp only[Nd.kids]at hk;unfold de;simp only[Nd.kids,eh];refine ω 33 [.tmp 4] func284 ?_;refine κ fO ?_;refine VC.bx ?_;rintro O1 ⟨aK,cK,dd⟩;refine VC.join aa [4] (λtk:Tok=>[.l (k.filter (lY name)).length (aG (k.filter (lY name))) tk]) (λtk O'=>O.Ge O') ?_ ?_;rotate_left;intro tk O9 bI;refine ae fO ?_;exact⟨tk,rfl,bI⟩;refine ξ fO cK ?_;refine χ ?_;refine Θ [4,10] [1,8,9] (λx:Nat×Tok=>[.l ((k.take x.1).filter (lY name)).length (aG ((k.take x.1).filter (lY name))) x.2,mi x.1]) (λx O'=>O.Ge O'/\App O' O.N 4 x.2/\x.1<=Ζ k) (λx=>(Ζ k) - x.1) ((0,.nil)) ?_ ?_;exact⟨aK,trivial,aka _⟩;rintro⟨j,tk⟩ O2 ⟨aC,cH,hj⟩;dsimp only at cH hj ⊢;by_cases aM:j<Ζ k;rotate_left
 ·obtain rfl:j=Ζ k:=by omega
  rw[akb];refine ν fO ?_;exact aB.mk tk aC
 have bG:=c9 ob k j aM;rw[<-sM]at bG;have Xy:=dV k
 have hY:(k.take (j+1)).filter (lY name)=(k.take j).filter (lY name)++if lY name k[j]then[k[j]]else[]:=by
  rw[dU _ _ aM,List.filter_append];(congr 1);cases h:lY name k[j]<;>simp[h]
 have JV:((k.take j).filter (lY name)).length<=1000000:=YI (ap3 _ _) (by rw[akf];omega);generalize k[j]=y at*;generalize (k.take j).filter (lY name)=E at*;obtain⟨yn,ya,yk,yt⟩:=y;have fE:=Dh (.mk yn ya yk yt);have QJ:=ob (.mk yn ya yk yt);have ado:aG [.mk yn ya yk yt]=eh (.mk yn ya yk yt):=by rw[aG,aG,agc]
 simp only[eh]at bG fE QJ ado;refine κ fO ?_;refine κ fO ?_;refine Γ (χ ?_);refine ξ fO bG ?_;refine VC.al ?_;rintro O3 ⟨aJ,pc,ij⟩;have kM:=cH.ge aJ;have Li:=aC.trans aJ;have yes:lY name (.mk yn ya yk yt)=Α->(k.take (j+1)).filter (lY name)=E++[.mk yn ya yk yt]:=λh=>by rw[hY,h,if_pos rfl]
 have nay:lY name (.mk yn ya yk yt)=γ->(k.take (j+1)).filter (lY name)=E:=λh=>by rw[hY,h,if_neg (by simp),agc]
 have hik:lY name (.mk yn ya yk yt)=(yn != []&&(name==[]||yn==name)):=rfl;rw[hik]at yes nay;cases h1:yn==[];cases h2:name==[];cases h3:yn==name;have hn:=nay (by simp[bne,h1,h2,h3]);refine ι (iV fO pc h1 h2 h3 ?_);refine ν fO ?_;exact az.N (j+1,tk) ⟨Li,kM,aM⟩ (hl:=(by dsimp only;rw[hn];rfl));have hn:=yes (by simp[bne,h1,h2,h3]);refine ι (iV fO pc h1 h2 h3 ?_);obtain⟨mE,ik,ns⟩:=iH (n:=Ζ E) (cs:=aG E) (ds:=[.s yn,.l (Ζ ya) (ya.flatMap bH) .au,.l (Ζ yk) (aG yk) .au,.s yt]) yu Gf.1.1 kM (dV E) rfl rfl (by decide) (by omega) (by simp only[maxLen];omega) (f_ E) fE;refine aqM ik ns ?_;refine ae fO ?_;refine ν fO ?_;exact az.N (j+1,.own O3.N 4) ⟨cy.eR Li kM (cy.after kM),App.after Li.N,aM⟩ (hl:=(by dsimp only;rw[hn,fh,Ca,ado];rfl));have hn:=yes (by simp[bne,h1,h2]);refine ι (cB fO pc h1 h2 ?_);obtain⟨mE,ik,ns⟩:=iH (n:=Ζ E) (cs:=aG E) (ds:=[.s yn,.l (Ζ ya) (ya.flatMap bH) .au,.l (Ζ yk) (aG yk) .au,.s yt]) yu Gf.1.1 kM (dV E) rfl rfl (by decide) (by omega) (by simp only[maxLen];omega) (f_ E) fE;refine aqM ik ns ?_;refine ae fO ?_;refine ν fO ?_;exact az.N (j+1,.own O3.N 4) ⟨cy.eR Li kM (cy.after kM),App.after Li.N,aM⟩ (hl:=(by dsimp only;rw[hn,fh,Ca,ado];rfl));have hn:=nay (by simp[bne,h1]);refine ι (aE fO pc h1 ?_);refine ν fO ?_;exact az.N (j+1,tk) ⟨Li,kM,aM⟩ (hl:=(by dsimp only;rw[hn];rfl))
def ki(k:List Nd):Bs:=k.flatMap λy=>bif y.nm==[]then y.tx else[]
def wm(x:Nd):Bs:=trimB (ki x.kids)
def QK{k:List Nd}(h:j<Ζ k):ki (k.take (j+1))=ki (k.take j)++bif k[j].nm==[]then k[j].tx else[]:=by
 unfold ki;rw[dU _ _ h,alR,akd,alU,agc]
def Lj{k:List Nd}:∀j,(ki (k.take j)).length<=(ki k).length:=λj=>by
 have:ki k=ki (k.take j)++ki (k.drop j):=by unfold ki;rw[<-alR,List.take_append_drop]
 rw[this,Ca];omega
def adp(x:Nd)(O:VH)(hk:Ζ x.kids<=1000000)(ht:(ki x.kids).length<=1000000000):VF Ε 304 [.agg (eh x)] O (aH λm O'=>m= .s (wm x)/\O.Ge O'):=by
 obtain⟨n,a,k,t⟩:=x;simp only[Nd.kids]at hk ht;unfold wm;simp only[Nd.kids,eh];refine ω 23 [.tmp 2] func304 ?_;refine κ fO ?_;refine VC.bx ?_;rintro O1 ⟨aK,cK,dd⟩;refine κ fO ?_;refine VC.join aa [3] (λ_:Unit=>[.s (ki k)]) (λ_ O'=>O.Ge O') ?_ ?_;rotate_left;intro _ O9 bI;refine ae fO ?_;refine τ (No (ki k) _ (YI ht (by decide))) ?_;rintro _ O8 ⟨rfl,rfl⟩;refine ae fO ?_;exact bI;refine ξ fO cK ?_;refine χ ?_;refine Θ [3,9] [7,8] (λj:Nat=>[.s (ki (k.take j)),mi j]) (λj O'=>O.Ge O'/\j<=Ζ k) (λj=>(Ζ k) - j) (0) ?_ ?_;exact⟨aK,aka _⟩;rintro j O2 ⟨aC,hj⟩;by_cases aM:j<Ζ k;rotate_left
 ·obtain rfl:j=Ζ k:=by omega
  rw[akb];refine ν fO ?_;exact aB.mk () aC
 have bG:=c9 ob k j aM;rw[<-sM]at bG;have Xy:=dV k;have hY:=QK aM;have hle:=Lj (k:=k) (j+1);have QL:=Lj (k:=k) j;generalize k[j]=y at*;generalize ki (k.take j)=E at*;obtain⟨yn,ya,yk,yt⟩:=y;simp only[eh]at bG;simp only[Nd.nm,Nd.tx]at hY;refine κ fO ?_;refine κ fO ?_;refine Γ (χ ?_);refine ξ fO bG ?_;refine VC.al ?_;rintro O3 ⟨aJ,pc,ij⟩;cases h1:yn==[];rw[h1,cond_false,agc]at hY;refine ι (aE fO pc h1 ?_);refine ν fO ?_;exact az.N (j+1) ⟨aC.trans aJ,aM⟩ (hl:=(by rw[hY];rfl));rw[h1,cond_true]at hY;rw[hY,Ca]at hle;refine ι (aE fO pc h1 ?_);refine ν fO ?_;exact az.N (j+1) ⟨aC.trans aJ,aM⟩ (hl:=(by rw[hY];rfl))
def bU:=WT fO<|WT aiR<|WT adf<|WT adg T87
def wo(e:Int)(w:Bs):MV:=.iface 401 (.agg [mi e,.s w])
def am3 :M0 401 (bR Ε 401) (φ p)=φ (.iface 401 p):=by rw[aiR.1.1];rfl
def oe(e:Int)(w:Bs)(O:VH):VF Ε 263 [mi e,.s w] O λr O'=>O'=O/\match r with
  | .ret _=>False
  | .panic m=>m=wo e w:=by
 refine Υ 8 [] func263 ?_;refine cB bU @wi @wd @am3 ?_;refine VL.panic rfl rfl rfl ?_;refine ae @wd ?_;rfl
def ahq(s:Bs)(O:VH):VF Ε 266 [.s s] O (aH λm O'=>m=mb Α/\O.Ge O'):=by
 refine Υ 3 [.tmp 2] func266 ?_;refine ae bU ?_;exact VH.Ge.refl _
def oV(s:Bs):Bool:=s==lW||s==nr
def UP(s:Bs)(O:VH):VF Ε 308 [.s s] O (aH λm O'=>m=mb (oV s)/\O.Ge O'):=by
 unfold oV;refine Υ 9 [.tmp 2] func308 ?_;cases h1:s==lW<;>cases h2:s==nr
 all_goals
  simp only[lW,nr]at h1 h2;refine aE bU h1 h2 ?_;exact VH.Ge.refl _
def aap(s:Bs)(O:VH)(hs:Ζ s<=maxLen):VF Ε 309 [.s s] O (aH λm O'=>m=mb (Dg ⟨s,s⟩)/\O.Ge O'):=by
 refine Υ 7 [.tmp 2] func309 ?_;refine ae bU ?_;refine τ (JU ⟨s,s⟩ _ hs hs) ?_;rintro _ O2 ⟨rfl,hg⟩;refine ae bU ?_;exact hg
def QM(n:Nat):Bs:=[UInt8.ofNat (48+n % 10)]
def FJ:Nat->Nat->Bs
 | 0,_=>[]
 | k+1,n=>if n=0 then[]else FJ k (n / 10)++QM n
def nP(n:Nat):Bs:=FJ (n+1) n
def B0:∀(k n:Nat),n<k->FJ k n=FJ (n+1) n
 | 0,n,h=>by omega
 | k+1,n,h=>by
   rw[FJ,FJ];split;rfl;rw[B0 k (n / 10) (by omega),B0 n (n / 10) (by omega)]
def Ev(h:0<n):nP n=nP (n / 10)++QM n:=by
 unfold nP;rw[FJ,if_neg (by omega),B0 n (n / 10) (by omega)]
def vf(n:Nat):(nP n).length<=n:=by
 induction n using Nat.strongRecOn with
 | _ n ih=>
   rcases aqf n with rfl | h;simp[nP,FJ];rw[Ev h,Ca];have:=ih (n / 10) (by omega);simp only[QM,Ti,Th];omega
def QN(d:Nat)(h:d<10:=by omega):(([48,49,50,51,52,53,54,55,56,57]:Bs).drop d).take (d+1 - d)=[UInt8.ofNat (48+d)]:=by
 rw[show d+1 - d=1 by omega];rcases(show d=0\/d=1\/d=2\/d=3\/d=4\/d=5\/d=6\/d=7\/d=8\/d=9 by omega)with rfl | rfl | rfl | rfl | rfl | rfl | rfl | rfl | rfl | rfl<;>rfl
def Ii(n:Nat)(O:VH)(hn:n<=1000000000:=by omega):VF Ε 305 [mi n] O (aH λm O'=>m= .s (nP n)/\O'=O):=by
 have AI:=vf n;refine Υ 17 [.tmp 2] func305 ?_;refine ae bU ?_;refine WC.kh [0,3] [] (λx:Nat×Bs=>[mi x.1,.s x.2]) (λx O'=>O'=O/\nP n=nP x.1++x.2/\x.1<=n) (λx=>x.1) ((n,[])) ?_ ?_;exact⟨rfl,by simp,abx _⟩;rintro⟨k,s⟩ O2 ⟨eO,hk,BJ⟩;dsimp only at hk BJ ⊢;rw[eO];clear eO O2;rcases aqf k with rfl | hp;have h0:nP 0=[]:=rfl;rw[h0,af_]at hk;refine ae bU ?_;exact congrArg MV.s hk.symm;have hd:=QN (k % 10);(((have hl:(nP n).length=(nP k).length+Ζ s:=by rw[hk,Ca]);have hr:(k:Int).tmod 10=((k % 10:Nat):Int):=by rw[Int.tmod_eq_emod_of_nonneg (by omega)];rfl);have hq:(k:Int).tdiv 10=((k / 10:Nat):Int):=by rw[Int.tdiv_eq_ediv_of_nonneg (by omega)];rfl);refine cB bU hr hq hd ?_;refine az.N (k / 10,QM k++s) ⟨rfl,?_,by dsimp only;omega⟩;rw[hk,Ev hp,alP]
def ahr{e:Int}{w:Bs}:au (wo e w)=wo e w:=by simp only[wo,wu,aq]
def my(x:Nd)(w:Bs):Η:=eh x++[.s w]
def UQ:Nd:=.mk [] [] [] []
def cW(x:Nd)(w name:Bs):Except (Int×Bs) ((Nd×Bs)×Bool):=
 match de x name with
 | []=>.ok ((UQ,w++[47]++name),γ)
 | [y]=>.ok ((y,w++[47]++name),Α)
 | _=>.error (20,w++[47]++name++[91,50,93])
def FQ{α :Type}(O:VH)(f:Except (Int×Bs) α)(R: α ->MV->Prop):iE->VH->Prop:=λr O'=>O.Ge O'/\match r,f with
 | .ret m,.ok x=>R x m
 | .panic m,.error e=>m=wo e.1 e.2
 | _,_=>False
def vg(x:Nd)(w name:Bs)(O:VH)(hk:Ζ x.kids<=1000000)(hw:Ζ w<=1000000)(hn:Ζ name<=1000000):VF Ε 264 [.agg (my x w),.s name] O (FQ O (cW x w name) λy m=>m= .tuple [.agg (my y.1.1 y.1.2),mb y.2]):=by
 refine VF.fgR ?_;have sO:=GM x name;have gW:(de x name).length<=1000000:=YI (ap3 _ _) hk
 have JW:cW x w name=match de x name with
  | []=>.ok ((UQ,w++[47]++name),γ)
  | [y]=>.ok ((y,w++[47]++name),Α)
  | _=>.error (20,w++[47]++name++[91,50,93]):=rfl
 generalize cW x w name=F at*;generalize de x name=K at*;obtain⟨n,a,k,t⟩:=x;simp only[my,eh,agb,af_]at sO ⊢;refine ω 34 [.cell 4 403,.tmp 5] func264 ?_;refine κ bU ?_;refine VC.bx ?_;rintro O1 ⟨aK,uU,dd⟩;have eS:O1.hp O.N=φ (.cells [.s n,.l (Ζ a) (a.flatMap bH) .au,.l (Ζ k) (aG k) .au,.s t,.s w]):=(aK.hp _ (alS _)).trans (ζ _ _)
 replace uU:O1.hp (O.N+1)=φ (.cells [.s [],.l 0 [] .nil,.l 0 [] .nil,.s [],.s []]):=uU
 have am4:O.Ge O1:=((VH.Ge.refl O).push _).trans aK
 replace dd:O1.N=O.N+2:=dd
 clear aK;refine ξ bU eS ?_;refine τ (sO O1 hk) ?_;rintro _ O2 ⟨tk,rfl,aC⟩;have jY:=aC.at eS;have n_:=aC.at uU;have gy:=am4.trans aC;refine ae bU ?_;refine ξ bU jY ?_
 match K,JW with
 | [],JW=>
   subst JW;refine ι (aE bU n_ @Th.{0} ?_);refine⟨gy.set (by omega) _,?_⟩;simp only[my,UQ,eh,wu,bB];rfl
 | [.mk yn ya yk yt],JW=>
   subst JW;have fE:=Dh (.mk yn ya yk yt);simp only[eh]at fE;(have cU:aG [.mk yn ya yk yt]=[.s yn,.l (Ζ ya) (ya.flatMap bH) .au,.l (Ζ yk) (aG yk) .au,.s yt]:=by rw[aG,aG,agc,eh]);rw[cU];refine ι (cB bU n_ @Ti.{0} @Th.{0} ?_);refine⟨gy.set (by omega) _,?_⟩;show _=_;rw[eh,iI,f_];rfl
 | y::z::r,JW=>
   subst JW;simp only[Ti]at gW;refine ο bU @Ti.{0} ?_;refine ah.p (oe _ _ _) ?_ ?_;rintro m O3 ⟨_,h⟩;exact h.elim;rintro m O3 ⟨rfl,rfl⟩;refine ae bU ?_;exact⟨gy,ahr⟩
def sP(x:Nd)(w:Bs)(empty:Bool):Except (Int×Bs) Bs:=
 if 0<(de x []).length\/1024<(wm x).length\/(wm x=[]/\empty=γ)then .error (20,w)else .ok (wm x)
def QO(x:Nd)(w:Bs)(empty:Bool)(O:VH)(hk:Ζ x.kids<=1000000)(ht:(ki x.kids).length<=1000000000):VF Ε 285 [.agg (my x w),mb empty] O (FQ O (sP x w empty) λy m=>m= .s y):=by
 have sO:=GM x [];have adq:=adp x;have gW:(de x []).length<=1000000:=YI (ap3 _ _) hk;have Tu:(wm x).length<=1000000000:=YI (UK _) ht;unfold sP;generalize de x []=K at*;generalize wm x=T at*;obtain⟨n,a,k,t⟩:=x;simp only[my,eh,agb,af_]at sO adq ⊢;refine ω 31 [.tmp 4] func285 ?_;refine κ bU ?_;refine VC.bx ?_;rintro O1 ⟨aK,eS,dd⟩;refine ξ bU eS ?_;refine τ (adq O1 hk ht) ?_;rintro _ O2 ⟨rfl,aC⟩;have jY:=aC.at eS;have fc:=aC.N;refine ae bU ?_;refine ξ bU jY ?_;refine τ (sO O2 hk) ?_;rintro _ O3 ⟨tk,rfl,aJ⟩;have kD:=aJ.at jY;have eW:=(aK.trans aC).trans aJ;by_cases h1:0<Ζ K;rw[if_pos (.inl h1)];refine ao bU kD ?_;refine ah.p (oe _ _ _) ?_ ?_;rintro m O4 ⟨_,h⟩;exact h.elim;rintro m O4 ⟨rfl,rfl⟩;refine ae bU ?_;exact⟨eW,rfl⟩;by_cases h2:1024<Ζ T;rw[if_pos (.inr (.inl h2))];refine ao bU kD ?_;refine ah.p (oe _ _ _) ?_ ?_;rintro m O4 ⟨_,h⟩;exact h.elim;rintro m O4 ⟨rfl,rfl⟩;refine ae bU ?_;exact⟨eW,rfl⟩
 cases T with
 | nil=>
   cases empty;rw[if_pos (.inr (.inr ⟨rfl,rfl⟩))];refine cB bU kD (show(([]:Ρ)==[])=Α from rfl) @Th.{0} ?_;refine ah.p (oe _ _ _) ?_ ?_;rintro m O4 ⟨_,h⟩;exact h.elim;rintro m O4 ⟨rfl,rfl⟩;refine ae bU ?_;exact⟨eW,rfl⟩;rw[if_neg (λh=>by rcases h with h | h | ⟨_,h⟩;exact h1 h;exact h2 h;cases h)];refine cB bU kD (show(([]:Ρ)==[])=Α from rfl) @Th.{0} ?_;refine ν bU ?_;exact⟨eW,rfl⟩
 | cons c T=>
   rw[if_neg (λh=>by rcases h with h | h | ⟨h,_⟩;exact h1 h;exact h2 h;cases h)];refine aE bU kD (show((c::T)==[])=γ from rfl) ?_;refine ν bU ?_;exact⟨eW,rfl⟩
def kN:List (Bs×Bs)->Nat
 | []=>0
 | x::r=>1+Ζ x.1+Ζ x.2+kN r
mutual
def mz:Nd->Nat
 | .mk n a k t=>1+Ζ n+Ζ t+kN a+lM k
def lM:List Nd->Nat
 | []=>0
 | x::r=>mz x+lM r
end
def Dn(n:Bs)(a:List (Bs×Bs))(k:List Nd)(t:Bs):mz (.mk n a k t)=1+Ζ n+Ζ t+kN a+lM k:=by rw[mz]
def QP(x:Nd):1<=mz x:=by cases x;rw[mz];omega
def Ew:∀k:List Nd,Ζ k<=lM k
 | []=>by simp
 | x::r=>by rw[lM,Ti];have:=Ew r;have:=QP x;omega
def Lk:∀{k:List Nd} {x:Nd},x∈k->mz x<=lM k
 | y::r,x,h=>by
   rw[lM];rcases ap7.1 h with rfl | h;omega;have:=Lk h;omega
def Ah(x:Nd):lM x.kids<mz x:=by cases x;rw[mz,Nd.kids];omega
def lQ(x:Nd):Ζ x.kids<=mz x:=YI (Ew _) (aqa (Ah x))
def Ij:∀k:List Nd,(ki k).length<=lM k
 | []=>by simp[ki]
 | x::r=>by
   have ih:=Ij r;unfold ki at ih ⊢;rw[akd,Ca,lM]
   have:(bif x.nm==[]then x.tx else[]).length<=mz x:=by
    cases x with
    | mk n a k t=>
      rw[mz];cases(Nd.mk n a k t).nm==[];simp;show (Ζ t)<=_;omega
   omega
def UR{x y:Nd}{name:Bs}(h:y∈de x name):mz y<mz x:=Nat.lt_of_le_of_lt (Lk ((List.mem_filter.1 h).1)) (Ah x)
def Ns(vh:Bool)(right:Bs->Bool)(wy:Bs)(b:Bool)(T:Except (Int×Bs) Bs):Except (Int×Bs) Bs:=
 match b,T with
 | false,_=>if vh then .error (20,wy)else .ok []
 | true,.error e=>.error e
 | true,.ok s=>if right s then .ok s else .error (20,wy)
def cz(x:Nd)(w name:Bs)(vh:Bool)(right:Bs->Bool):Except (Int×Bs) Bs:=
 match cW x w name with
 | .error e=>.error e
 | .ok y=>Ns vh right y.1.2 y.2 (sP y.1.1 y.1.2 γ)
def vi{x:Nd}{w name:Bs}{y:Nd}{wy:Bs}{b:Bool}(h:cW x w name= .ok ((y,wy),b)):mz y<=mz x/\wy=w++[47]++name:=by
 unfold cW at h;split at h;injection h with h;injection h with h _;injection h with h1 h2;subst h1;subst h2;exact⟨by simp only[UQ,Dn,kN,lM,Th];exact QP x,rfl⟩;rename_i z hz;injection h with h;injection h with h _;injection h with h1 h2;subst h1;subst h2;exact⟨aqa (UR (by rw[hz];simp)),rfl⟩;cases h
def US{y:Nd}{w:Bs}{e:Bool}{s:Bs}(h:sP y w e= .ok s):Ζ s<=1024:=by
 unfold sP at h;split at h;cases h;rename_i hn;injection h with h;subst h;exact Nat.le_of_not_lt λhh=>hn (.inr (.inl hh))
def sQ(x:Nd)(w name:Bs)(vh:Bool)(right:Bs->Bool)(id:FuncId)(cs:Η)(O:VH)(hx:mz x<=1000000)(hw:Ζ w<=10000)(hn:Ζ name<=10000)(hid:dA Ε id=Α)
  (hr:∀s O',O.Ge O'->Ζ s<=1024->VF Ε id ([.s s]++cs) O' (aH λm n5=>m=mb (right s)/\O'.Ge n5)):
  VF Ε 265 [.agg (my x w),.s name,mb vh,.func (.func id) [] cs] O (FQ O (cz x w name vh right) λy m=>m= .s y):=by
 have yB:=vg x w name;have gW:=lQ x;have yC:= @vi x w name;have yD:∀e,cW x w name= .error e->cz x w name vh right= .error e:=λe h=>by unfold cz;rw[h]
 have qz:∀y wy b,cW x w name= .ok ((y,wy),b)->cz x w name vh right=Ns vh right wy b (sP y wy γ):=λy wy b h=>by unfold cz;rw[h]
 generalize cz x w name vh right=WE at*;generalize cW x w name=F at*;obtain⟨n,a,k,t⟩:=x;generalize hW:mz (.mk n a k t)=W at*;simp only[my,eh,agb,af_]at yB ⊢;refine ω 34 [.tmp 8] func265 ?_;refine κ bU ?_;refine VC.bx ?_;rintro O1 ⟨aK,eS,dd⟩;refine θ ?_;refine ao bU eS ?_;refine ah.p (yB O1 (by omega) (by omega) (by omega)) ?_ ?_;rotate_left
 ·rintro m O2 ⟨aC,h⟩;cases F with
  | ok y=>exact h.elim
  | error e=>
    dsimp only at h;rw[yD e rfl];refine ae bU ?_;exact⟨aK.trans aC,h⟩
 rintro m O2 ⟨aC,h⟩;cases F with
 | error e=>exact h.elim
 | ok y=>
 obtain⟨⟨y,wy⟩,b⟩:=y;dsimp only at h;subst h;obtain⟨hyW,qh⟩:=yC rfl;rw[qz _ _ _ rfl];clear yD qz;have lZ:Ζ wy<=30000:=by rw[qh];simp only[Ca,Ti,Th];omega
 clear yC qh;have am5:=lQ y;have yp:=YI (Ij y.kids) (aqa (Ah y));have JT:=QO y wy γ;have Tu:= @US y wy γ;generalize sP y wy γ=T at*;obtain⟨yn,ya,yk,yt⟩:=y;simp only[my,eh,agb,af_]at JT ⊢;refine ae bU ?_;refine VC.al ?_;rintro O3 ⟨aJ,QQ,ij⟩;have eW:=(aK.trans aC).trans aJ;cases b;cases vh;refine ν bU ?_;exact⟨eW,rfl⟩;refine ο bU QQ ?_;refine ah.p (oe _ _ _) ?_ ?_;rintro m O9 ⟨_,h⟩;exact h.elim;rintro m O9 ⟨rfl,rfl⟩;refine ae bU ?_;exact⟨eW,rfl⟩
 ·refine ο bU QQ ?_;refine ah.p (JT O3 (by omega) (by omega)) ?_ ?_;rotate_left
  ·rintro m O4 ⟨aT,h⟩;cases T with
   | ok s=>exact h.elim
   | error e=>
     dsimp only at h;refine ae bU ?_;exact⟨eW.trans aT,h⟩
  rintro m O4 ⟨aT,h⟩;cases T with
  | error e=>exact h.elim
  | ok s=>
  dsimp only at h;subst h;have hy4:=aT.at QQ;have iS:=eW.trans aT;have fT:=aT.N;refine ae bU ?_;refine τ (hr s O4 iS (Tu rfl)) ?_ (hb:=hid);rintro _ O5 ⟨rfl,bO⟩;have hy5:=bO.at hy4;unfold Ns;dsimp only;cases right s;refine ao bU hy5 ?_;refine ah.p (oe _ _ _) ?_ ?_;rintro m O9 ⟨_,h⟩;exact h.elim;rintro m O9 ⟨rfl,rfl⟩;refine ae bU ?_;exact⟨iS.trans bO,rfl⟩;refine ao bU hy5 ?_;exact⟨iS.trans bO,rfl⟩
section
variable{G H:Gh}{n:Sz}{D:List Deferred}{e e':Env}{a:Act}{P:Program}{tab:cL}{O O':VH}{w:World}{m m':MV}{u v:Value}{ops:Array Oper}{Q:VQ}{md:Md}
def aqJ 
  (h1:aI P n D ops i e O Q λe' O'=>J O'/\ab P n D ops brk J Ψ Z fuel (listed.setIfInBounds i Α) e' O' Q) (h2:aI P n D ops j e O Q λe' O'=>J O'/\ab P n D ops brk J Ψ Z fuel (listed.setIfInBounds j Α) e' O' Q) (hr:Region.ready .any ops listed=[i,j]:=by kernel_rfl):ab P n D ops brk J Ψ Z (fuel+1) listed e O Q:=by
 intro hΨ hZ hJ G a w hψ hw aZ
 have key:∀x,(aI P n D ops x e O Q λe' O'=>J O'/\ab P n D ops brk J Ψ Z fuel (listed.setIfInBounds x Α) e' O' Q)->wpOp P ops (c7 G n D Q) x (λa' w'=>TE brk G J x w'/\kF P .any ops (c7 G n D Q) (TE brk G J) fuel (listed.setIfInBounds x Α) a' w') a w:=λx h=>
  wpOp_mono (λa' w' ⟨e',O',H,h1,h2,h3,h4,h5⟩=>⟨TE.mk ⟨H,O',h1,h2,h4⟩,k7 (λ_ _ _=>c7.le h1) _ _ _ _ (λk _ x hT=>hT.le h1) (h5 hΨ hZ h4 H a' w' (hΨ _ _ h1 hψ) h2 h3)⟩) (h G a w hw aZ)
 refine k6 hr (by simp) λx hx=>?_
 simp only[ap7,aqj,or_false]at hx;rcases hx with rfl | rfl;exact key _ h1;exact key _ h2
def aI.lr{xs:Array Operand}{ts:Array TypeId}{ty:TypeId}{id:FuncId}{Φ :MV->VH->Prop}(hR:VF P id ms O (aH Φ))
  (h:∀m O', Φ m O'->K (bt d m e) O') (ho:l[i]?=φ (.mk d (.call {callee:=.value f,args:=xs,argTypes:=ts}) ty ps af g):=by exact rfl) (hg:aQ ⟨l⟩ (.mk d (.call {callee:=.value f,args:=xs,argTypes:=ts}) ty ps af g) e=φ Α:=by exact rfl) (hf:ev e f=φ (.func (.func id) [] []):=by exact rfl) (hm:il e xs.toList=φ ms:=by exact rfl) (hb:dA P id=Α:=by kernel_rfl) (hd:bL n d=Α:=by exact rfl):aI P n D ⟨l⟩ i e O Q K:=
 aI.call (o:=.mk d (.call {callee:=.value f,args:=xs,argTypes:=ts}) ty ps af g) (by simpa using ho) hg rfl rfl hf hm (Enters.u9 hb) hd (by simpa using hR) λr O' hr=>by
  cases r with
  | ret m=>exact h m O' hr
  | panic m=>exact hr.elim
end
def GN(w name:Bs)(i:Nat):Bs:=w++[47]++name++[91]++nP (i+1)++[93]
def sR(w name:Bs)(K:List Nd):List (Nd×Bs):=K.mapIdx λi y=>(y,GN w name i)
def xc(L:List (Nd×Bs)):Η:=L.flatMap λp=>my p.1 p.2
def pP(x:Nd)(w name:Bs):Except (Int×Bs) (List (Nd×Bs)):=if 1024<(de x name).length then .error (2,w)else .ok (sR w name (de x name))
def Ik(p:Nd×Bs):(my p.1 p.2).length=5:=by rw[my,List.length_append,ob];rfl
def Ai(L:List (Nd×Bs)):(xc L).length=(Ζ L)*5:=bk Ik L
def QR(x:Nd)(w:Bs):dz (my x w)=my x w:=by simp only[my,wu,Dh]
def Ll(L:List (Nd×Bs)):dz (xc L)=xc L:=lx (λp=>QR p.1 p.2) L
def UT{w name:Bs}{K:List Nd}(h:j<Ζ K):sR w name (K.take (j+1))=sR w name (K.take j)++[(K[j],GN w name j)]:=by
 unfold sR;rw[dU _ _ h,List.mapIdx_append];simp[akf,Nat.min_eq_left (aqa h)]
def Lm(w name:Bs)(K:List Nd):(sR w name K).length=Ζ K:=by simp[sR]
def Xz(x:Nd)(w name:Bs)(O:VH)(hx:mz x<=1000000)(hw:Ζ w<=10000)(hn:Ζ name<=10000):
  VF Ε 288 [.agg (my x w),.s name] O (FQ O (pP x w name) λy m=>∃tk,m= .l (Ζ y) (xc y) tk):=by
 have sO:=GM x name;have gW:=lQ x;have hKl:(de x name).length<=1000000:=YI (ap3 _ _) (by omega);unfold pP;generalize de x name=K at*;obtain⟨n,a,k,t⟩:=x;generalize hW:mz (.mk n a k t)=W at*;simp only[my,eh,agb,af_]at sO ⊢;refine ω 43 [.tmp 4] func288 ?_;refine κ bU ?_;refine VC.bx ?_;rintro O1 ⟨aK,eS,dd⟩;refine ξ bU eS ?_;refine τ (sO O1 (by omega)) ?_;rintro _ O2 ⟨tk,rfl,aC⟩;have jY:=aC.at eS;have fc:=aC.N;have gy:=aK.trans aC;refine ae bU ?_;by_cases QS:1024<Ζ K;rw[if_pos QS];refine ξ bU jY ?_;refine ah.p (oe _ _ _) ?_ ?_;rintro m O9 ⟨_,h⟩;exact h.elim;rintro m O9 ⟨rfl,rfl⟩;refine ae bU ?_;exact⟨gy,rfl⟩;rw[if_neg QS];refine ξ bU jY ?_;refine VC.join aa [4] (λtl:Tok=>[.l (sR w name K).length (xc (sR w name K)) tl]) (λtl O'=>O.Ge O') ?_ ?_;rotate_left;intro tl O9 bI;refine ae bU ?_;exact⟨bI,tl,rfl⟩;refine κ bU ?_;refine χ ?_;refine Θ [4,20] [1,2,18,19] (λx:Nat×Tok=>[.l (sR w name (K.take x.1)).length (xc (sR w name (K.take x.1))) x.2,mi x.1]) (λx O'=>O2.Ge O'/\App O' O2.N 5 x.2/\x.1<=Ζ K) (λx=>(Ζ K) - x.1) ((0,.nil)) ?_ ?_;exact⟨VH.Ge.refl _,trivial,aka _⟩;rintro⟨j,tl⟩ O3 ⟨aJ,cH,hj⟩;dsimp only at cH hj ⊢;by_cases aM:j<Ζ K;rotate_left
 ·obtain rfl:j=Ζ K:=by omega
  rw[akb];refine ν bU ?_;exact aB.mk tl (gy.trans aJ)
 have bG:=c9 ob K j aM;rw[<-sM]at bG;have Xy:=dV K;have hY:=UT (w:=w) (name:=name) aM;have JV:(sR w name (K.take j)).length<=1000000:=by rw[Lm,akf];omega
 generalize K[j]=y at*;generalize sR w name (K.take j)=E at*;have AI:=vf (j+1);have fE:=QR y (GN w name j);obtain⟨yn,ya,yk,yt⟩:=y;simp only[my,eh,List.cons_append,List.nil_append]at bG fE;have kD:=aJ.at jY;have ij:=aJ.N;refine κ bU ?_;refine κ bU ?_;refine Γ (χ ?_);refine ξ bU bG ?_;refine VC.al ?_;rintro O4 ⟨aT,pc,fT⟩;have lz:=aT.at kD;have mP:=cH.ge aT;have XA:=aJ.trans aT;have cA:=jSx j;refine VC.pF [15,16] ?_;refine ρ 0 bU ?_;refine ρ 2 bU ?_;refine ab.ld (m:=.s w) 3 ?_ ?_;exact eD bU lz;simp only[ak];refine ρ 4 bU ?_;refine ρ 5 bU ?_;refine ρ 6 bU ?_;refine ρ 7 bU ?_;refine ρ 8 bU ?_;refine ab.ql 9 bU cA ?_;refine aqJ (i:=1) (j:=10) ?_ ?_;refine aI.o1 ?_;refine ao bU pc ?_;refine⟨VH.Ge.refl _,?_⟩;refine ab.call (i:=10) (Ii (j+1) O4) ?_;rintro _ O5 ⟨rfl,eO⟩;simp only[ak];rw[eO];clear eO O5;refine⟨VH.Ge.refl _,?_⟩;refine ρ 11 bU ?_;refine ρ 12 bU ?_;refine ρ 13 bU ?_;refine ab.op (i:=14) ?_;refine ae bU ?_;refine⟨VH.Ge.refl _,?_⟩;refine ab.bW [(15,.one),(16,.bh)] ?_;refine ae bU ?_;obtain⟨mE,ik,ns⟩:=iH (n:=Ζ E) (cs:=xc E) (ds:=[.s yn,.l (Ζ ya) (ya.flatMap bH) .au,.l (Ζ yk) (aG yk) .au,.s yt,.s (w++[47]++name++[91]++nP (j+1)++[93])]) adg adf.1.1 mP (Ai E) rfl rfl (by decide) (by omega) (by simp only[maxLen];omega) (Ll E) fE;refine aqM ik ns ?_;refine ae bU ?_;refine ν bU ?_;exact az.N (j+1,.own O4.N 5) ⟨cy.eR XA mP (cy.after mP),App.after XA.N,aM⟩ (hl:=(by dsimp only;rw[hY,Ca];unfold xc;rw[alR];rfl));refine aI.lr (Ii (j+1) O4) ?_;rintro _ O5 ⟨rfl,eO⟩;rw[eO];clear eO O5;simp only[ak];refine⟨VH.Ge.refl _,?_⟩;refine ρ 11 bU ?_;refine ρ 12 bU ?_;refine ab.op (i:=1) ?_;refine ao bU pc ?_;refine⟨VH.Ge.refl _,?_⟩;refine ρ 13 bU ?_;refine ab.op (i:=14) ?_;refine ae bU ?_;refine⟨VH.Ge.refl _,?_⟩;refine ab.bW [(15,.one),(16,.bh)] ?_;refine ae bU ?_;obtain⟨mE,ik,ns⟩:=iH (n:=Ζ E) (cs:=xc E) (ds:=[.s yn,.l (Ζ ya) (ya.flatMap bH) .au,.l (Ζ yk) (aG yk) .au,.s yt,.s (w++[47]++name++[91]++nP (j+1)++[93])]) adg adf.1.1 mP (Ai E) rfl rfl (by decide) (by omega) (by simp only[maxLen];omega) (Ll E) fE;refine aqM ik ns ?_;refine ae bU ?_;refine ν bU ?_;exact az.N (j+1,.own O4.N 5) ⟨cy.eR XA mP (cy.after mP),App.after XA.N,aM⟩ (hl:=(by dsimp only;rw[hY,Ca];unfold xc;rw[alR];rfl))
def nw(w:Bs):Nat×Bool:=
 if w=gL 1 then(1,Α)else if w=gL 2 then(2,Α)else if w=gL 3 then(3,Α)else if w=gL 4 then(4,Α)else if w=gL 5 then(5,Α)else if w=gL 6 then(6,Α)else(0,γ)
def gP(w:Bs):Nat->Nat->Nat×Bool
 | 0,_=>(0,γ)
 | k+1,j=>if j≠0/\gL j=w then(j,Α)else gP w k (j+1)
def UU(w:Bs):nw w=gP w 7 0:=by
 unfold nw gP gP gP gP gP gP gP gP;simp only[eq_comm (a:=w)];simp
def QT(w:Bs)(O:VH):VF Ε 306 [.s w] O (aH λm O'=>m= .tuple [mi (nw w).1,mb (nw w).2]/\O'=O):=by
 rw[UU];refine Υ 18 [.tmp 2,.tmp 3] func306 ?_;refine ae bU ?_;refine WC.kh [5] [0] (λj:Nat=>[mi j]) (λj O'=>O'=O/\j<=7/\gP w 7 0=gP w (7 - j) j) (λj=>7 - j) (0) ?_ ?_;exact⟨rfl,aka _,rfl⟩;rintro j O2 ⟨eO,hj,hs⟩;rw[eO];clear eO O2;by_cases h7:j<7
 ·have cX:gP w (7 - j) j=if j≠0/\gL j=w then(j,Α)else gP w (7 - (j+1)) (j+1):=by
   obtain⟨d,hd⟩:∃d,7 - j=d+1:=⟨6 - j,by omega⟩
   rw[hd,show 7 - (j+1)=d by omega];rfl
  rw[cX]at hs;by_cases h0:j=0;rw[if_neg (λh=>h.1 h0)]at hs;refine ae bU ?_;exact az.N (j+1) ⟨rfl,h7,hs⟩;refine ae bU ?_;refine Ω (Xv j _) ?_;cases hw:gL j==w;rw[if_neg (λh=>by rw[h.2]at hw;simp at hw)]at hs;refine ao bU @hw ?_;exact az.N (j+1) ⟨rfl,h7,hs⟩;rw[if_pos ⟨h0,eq_of_beq hw⟩]at hs;rw[hs];exact eD bU @hw
 ·obtain rfl:j=7:=by omega
  rw[hs];refine ae bU ?_;rfl
def eX(s p:Bs):Bool:=s.take (Ζ p)==p
def aaq{s p:Bs}(h:¬(Ζ p)<=Ζ s):eX s p=γ:=by
 unfold eX;rw[beq_eq_false_iff_ne];intro e;have:=congrArg List.length e;rw[akf]at this;omega
def JX(s p:Bs)(O:VH):VF Ε 320 [.s s,.s p] O (aH λm O'=>m=mb (eX s p)/\O'=O):=by
 refine Υ 18 [.tmp 4] func320 ?_;by_cases h:Ζ p<=Ζ s;have e:(s.take (Ζ p)==p)=eX s p:=rfl;generalize eX s p=b at*;cases b;exact eD bU @e;exact eD bU @e;rw[aaq h];exact ff bU
def pQ(s p:Bs)(O:VH):VF Ε 310 [.s s,.s p] O (aH λm O'=>m=mb (eX s p)/\O'=O):=by
 refine Υ 8 [.tmp 4] func310 ?_;refine ae bU ?_;refine τ (JX s p _) ?_;rintro _ O2 ⟨rfl,rfl⟩;exact ff bU
def fu:=WT bU<|WT eV<|WT aiQ amr
section
variable{P:Program}{n:Sz}{D:List Deferred}{e:Env}{O:VH}{Q:VQ}
def ab.sS{xs:Array Operand}{ts:Array TypeId}{ty:TypeId}{id:FuncId}(hR:VF P id (ms++cs) O R)
  (h:∀m O',R (.ret m) O'->J O'/\ab P n D ⟨l⟩ brk J Ψ Z fuel (listed.setIfInBounds i Α) (bt d m e) O' Q) (h2:∀m O',R (.panic m) O'->Q (.panic m) (mD n e) O') (hr:Region.ready .any ⟨l⟩ listed=[i]:=by kernel_rfl) (ho:l[i]?=φ (.mk d (.call {callee:=.value f,args:=xs,argTypes:=ts}) ty ps af g):=by exact rfl) (hg:aQ ⟨l⟩ (.mk d (.call {callee:=.value f,args:=xs,argTypes:=ts}) ty ps af g) e=φ Α:=by exact rfl) (hf:ev e f=φ (.func (.func id) [] cs):=by exact rfl) (hm:il e xs.toList=φ ms:=by exact rfl) (hb:dA P id=Α:=by kernel_rfl) (hd:bL n d=Α:=by exact rfl):ab P n D ⟨l⟩ brk J Ψ Z (fuel+1) listed e O Q:=
 ab.one (aI.call (o:=.mk d (.call {callee:=.value f,args:=xs,argTypes:=ts}) ty ps af g) (by simpa using ho) hg rfl rfl hf hm (Enters.u9 hb) hd (by simpa using hR) λr O' hr=>by
  cases r with
  | ret m=>exact h m O' hr
  | panic m=>exact h2 m O' hr) (hr:=hr)
end
def idxFrom{α :Type}(p: α ->Bool):Nat->List α ->Int
 | _,[]=> -1
 | i,x::r=>if p x then i else idxFrom p (i+1) r
def Il{α :Type}(p: α ->Bool):∀(L:List α)(i:Nat),decide (idxFrom p i L>=0)=L.any p
 | [],i=>rfl
 | x::r,i=>by
   rw[idxFrom,List.any_cons];cases h:p x;simp[Il p r];simp
def XB(L:List (Bs×Bs))(tk:Tok)(id:FuncId)(cs:Η)(p:Bs×Bs->Bool)(O:VH)(hid:dA Ε id=Α)(hc:∀x∈L,∀O',O.Ge O'->VF Ε id ([.agg (bH x)]++cs) O' (aH λm n5=>m=mb (p x)/\O'.Ge n5))(hn:Ζ L<=1000000):
  VF Ε 246 [.l (Ζ L) (L.flatMap bH) tk,.func (.func id) [] cs] O (aH λm O'=>m=mi (idxFrom p 0 L)/\O.Ge O'):=by
 have dD:=bk gM L;refine Υ 19 [.tmp 4] func246 ?_;refine ae fu ?_;refine WC.kh [8] [0,1,7] (λj:Nat=>[mi j]) (λj O'=>O.Ge O'/\j<=(Ζ L)/\idxFrom p 0 L=idxFrom p j (L.drop j)) (λj=>(Ζ L) - j) (0) ?_ ?_;exact⟨VH.Ge.refl _,aka _,rfl⟩;rintro j O2 ⟨aC,hj,dw⟩;by_cases h2:j<Ζ L;have bG:=c9 gM L j h2;have JY:=hc L[j] (ake h2) O2 aC;rw[alQ h2,idxFrom]at dw;generalize L[j]=y at*;refine ao fu bG ?_;refine τ JY ?_ (hb:=hid);rintro _ O3 ⟨rfl,aJ⟩;cases hi:p y;rw[hi]at dw;refine ae fu ?_;exact az.N (j+1) ⟨aC.trans aJ,by omega,dw⟩;rw[hi,if_pos rfl]at dw;rw[dw];refine ae fu ?_;exact aC.trans aJ
 ·obtain rfl:j=Ζ L:=by omega
  rw[alT (by omega)]at dw;rw[dw];refine ae fu ?_;exact⟨rfl,aC⟩
def ahs(L:List (Bs×Bs))(tk:Tok)(id:FuncId)(cs:Η)(p:Bs×Bs->Bool)(O:VH)(hid:dA Ε id=Α)(hc:∀x∈L,∀O',O.Ge O'->VF Ε id ([.agg (bH x)]++cs) O' (aH λm n5=>m=mb (p x)/\O'.Ge n5))(hn:Ζ L<=1000000):
  VF Ε 286 [.l (Ζ L) (L.flatMap bH) tk,.func (.func id) [] cs] O (aH λm O'=>m=mb (L.any p)/\O.Ge O'):=by
 rw[<-Il p L 0];refine Υ 9 [.tmp 4] func286 ?_;refine ae fu ?_;refine τ (XB L tk id cs p O hid hc hn) ?_;rintro _ O2 ⟨rfl,aC⟩;refine ae fu ?_;exact aC
def aar(x:Bs×Bs)(k:Nat)(yn:Bs)(a b c:MV)(O:VH)(hk:O.hp k=φ (.cells [.s yn,a,b,c]))(BJ:k<O.N):VF Ε 287 [.agg (bH x),.p k 0] O (aH λm O'=>m=mb (x.1==yn)/\O.Ge O'):=by
 obtain⟨x1,x2⟩:=x;unfold bH;refine ω 9 [.tmp 3] func287 ?_;refine κ fu ?_;refine VC.bx ?_;rintro O1 ⟨aK,eS,dd⟩;have cK:=(aK.hp k BJ).trans hk;refine ι (aE fu eS cK ?_);exact aK
def wq(wy:Bs):List Nd->List (Bs×Bs)->Except (Int×Bs) (List (Bs×Bs))
 | [],L=>.ok L
 | k::r,L=>bif L.any (·.1==k.nm)then .error (20,wy++[47]++k.nm++[91,50,93])else match sP k (wy++[47]++k.nm) Α with
   | .error e=>.error e
   | .ok s=>wq wy r (L++[(k.nm,s)])
def ny(x:Nd)(w:Bs):Except (Int×Bs) (List (Bs×Bs)):=
 match cW x w nu with
 | .error e=>.error e
 | .ok ((_,_),γ)=>.ok []
 | .ok ((y,wy),Α)=>if 1024<(de y []).length then .error (2,wy)else wq wy (de y []) []
def adr(x:Nd)(w:Bs)(O:VH)(hx:mz x<=1000000)(hw:Ζ w<=10000):
  VF Ε 267 [.agg (my x w)] O (FQ O (ny x w) λy m=>∃tk,m= .l (Ζ y) (y.flatMap bH) tk):=by
 have yB:=vg x w nu;have gW:=lQ x;have yC:= @vi x w nu;have yD:∀e,cW x w nu= .error e->ny x w= .error e:=λe h=>by unfold ny;rw[h]
 have qz:∀y wy,cW x w nu= .ok ((y,wy),γ)->ny x w= .ok []:=λy wy h=>by unfold ny;rw[h]
 have kj:∀y wy,cW x w nu= .ok ((y,wy),Α)->ny x w=if 1024<(de y []).length then .error (2,wy)else wq wy (de y []) []:=λy wy h=>by unfold ny;rw[h]
 generalize ny x w=PE at*;generalize cW x w nu=F at*;obtain⟨n,a,k,t⟩:=x;generalize hW:mz (.mk n a k t)=W at*;simp only[my,eh,agb,af_]at yB ⊢;refine ω 55 [.tmp 2] func267 ?_;refine κ fu ?_;refine VC.bx ?_;rintro O1 ⟨aK,eS,dd⟩;refine ξ fu eS ?_;refine ah.p (yB O1 (by omega) (by omega) (by decide)) ?_ ?_;rotate_left
 ·rintro m O2 ⟨aC,h⟩;cases F with
  | ok y=>exact h.elim
  | error e=>
    dsimp only at h;rw[yD e rfl];refine ae fu ?_;exact⟨aK.trans aC,h⟩
 rintro m O2 ⟨aC,h⟩;cases F with
 | error e=>exact h.elim
 | ok y=>
 obtain⟨⟨y,wy⟩,b⟩:=y;dsimp only at h;subst h;obtain⟨hyW,qh⟩:=yC rfl;have lZ:Ζ wy<=30000:=by rw[qh];simp only[Ca,Ti,Th];omega
 clear yC qh yD;have sO:=GM y [];have am5:=lQ y;have hKm:∀z∈de y [],mz z<=1000000:=λz hz=>by have:=UR hz;omega
 have hKl:(de y []).length<=1000000:=YI (ap3 _ _) (by omega)
 replace kj:b=Α->PE=if 1024<(de y []).length then .error (2,wy)else wq wy (de y []) []:=λh=>by subst h;exact kj y wy rfl
 replace qz:b=γ->PE= .ok []:=λh=>by subst h;exact qz y wy rfl
 generalize de y []=K at*;obtain⟨yn,ya,yk,yt⟩:=y;simp only[my,eh,agb,af_]at sO ⊢;have gy:=aK.trans aC;refine ae fu ?_;refine VC.al ?_;rintro O3 ⟨aJ,QQ,ij⟩;have eW:=gy.trans aJ;cases b;rw[qz rfl];refine ν fu ?_;exact⟨eW,.nil,rfl⟩
 replace kj:=kj rfl
 clear qz;refine κ fu ?_;refine ξ fu QQ ?_;refine τ (sO O3 (by omega)) ?_;rintro _ O4 ⟨tk,rfl,aT⟩;have hy4:=aT.at QQ;have iS:=eW.trans aT;have fT:=aT.N;refine ae fu ?_;by_cases QS:1024<Ζ K;rw[if_pos QS]at kj;rw[kj];refine ξ fu hy4 ?_;refine ah.p (oe _ _ _) ?_ ?_;rintro m O9 ⟨_,h⟩;exact h.elim;rintro m O9 ⟨rfl,rfl⟩;refine ae fu ?_;exact⟨iS,rfl⟩;rw[if_neg QS]at kj;refine ξ fu hy4 ?_;refine VC.join aa [2] (λx:List (Bs×Bs)×Tok=>[.l (Ζ x.1) (x.1.flatMap bH) x.2]) (λx O'=>O.Ge O'/\PE= .ok x.1) ?_ ?_;rotate_left;rintro⟨L,tl⟩ O9 ⟨bI,hP⟩;rw[hP];refine ae fu ?_;exact⟨bI,tl,rfl⟩;refine κ fu ?_;refine χ ?_;refine Θ [2,27] [3,25,26] (λx:Nat×List (Bs×Bs)×Tok=>[.l (Ζ x.2.1) (x.2.1.flatMap bH) x.2.2,mi x.1]) (λx O'=>O4.Ge O'/\App O' O4.N 2 x.2.2/\x.1<=(Ζ K)/\(Ζ x.2.1)=x.1/\PE=wq wy (K.drop x.1) x.2.1) (λx=>(Ζ K) - x.1) ((0,[],.nil)) ?_ ?_;exact⟨VH.Ge.refl _,trivial,aka _,rfl,kj⟩;rintro⟨j,L,tl⟩ O5 ⟨bO,cH,hj,qe,hP⟩;dsimp only at cH hj qe hP ⊢;by_cases aM:j<Ζ K;rotate_left
 ·obtain rfl:j=Ζ K:=by omega
  rw[alT (abx _),wq]at hP;refine ν fu ?_;exact aB.mk (L,tl) ⟨iS.trans bO,hP⟩
 have bG:=c9 ob K j aM;rw[<-sM]at bG;have Xy:=dV K;rw[alQ aM,wq]at hP;have hzW:=hKm K[j] (ake aM);generalize K[j]=z at*;have yp:=QO z (wy++[47]++z.nm) Α;have hkz:=lQ z;have htz:=YI (Ij z.kids) (aqa (Ah z))
 have am6:Ζ z.nm<=1000000:=by cases z with
  | mk n a k t=>rw[Dn]at hzW;show (Ζ n)<=_;omega
 generalize sP z (wy++[47]++z.nm) Α=T at*;obtain⟨zn,za,dJ,zt⟩:=z;simp only[my,eh,Nd.nm,List.cons_append,List.nil_append]at bG yp hP am6;have hy5:=bO.at hy4;have eJ:=bO.N;refine κ fu ?_;refine κ fu ?_;refine Γ (χ ?_);refine ξ fu bG ?_;refine VC.al ?_;rintro O6 ⟨gN,pc,oD⟩;have hy6:=gN.at hy5;have oc:=cH.ge gN;have QU:=bO.trans gN;have cA:=jSx j;refine θ (aE fu hy6 pc ?_);refine κ fu ?_;refine τ (ahs L tl 287 [.p O5.N 0] (λq=>q.1==zn) O6 (by kernel_rfl) (λq _ O' Ex=>aar q _ zn _ _ _ O' (Ex.at pc) (by have:=Ex.N;omega)) (by omega)) ?_;rintro _ O7 ⟨rfl,fG⟩;have FK:=(iS.trans QU).trans fG;have hy7:=fG.at hy6;have xq:=fG.at pc;have xp:=fG.N;have lN:=oc.ge fG;refine ae fu ?_;cases k8:L.any λq=>q.1==zn
 rotate_left;rw[k8,cond_true]at hP;rw[hP];refine ae fu ?_;refine ah.p (oe _ _ _) ?_ ?_;rintro m O9 ⟨_,h⟩;exact h.elim;rintro m O9 ⟨rfl,rfl⟩;refine ae fu ?_;exact⟨FK,rfl⟩;rw[k8,cond_false]at hP;refine ae fu ?_;refine VC.pF [9,10] ?_;refine ρ 0 fu ?_;refine ρ 1 fu ?_;refine ab.ld (m:=.s zn) 2 ?_ ?_;exact eD fu xq;simp only[ak];refine ρ 4 fu ?_;refine ab.op (i:=3) ?_;refine ao fu xq ?_;refine⟨VH.Ge.refl _,?_⟩;refine ρ 5 fu ?_;refine ab.sS (i:=6) (yp O7 (by omega) (by omega)) ?_ ?_;rotate_left
 ·rintro m O8 ⟨iC,h⟩;cases T with
  | ok s=>exact h.elim
  | error e=>
    dsimp only at h hP;rw[hP];refine ae fu ?_;exact⟨FK.trans iC,h⟩
 rintro m O8 ⟨iC,h⟩;cases T with
 | error e=>exact h.elim
 | ok s=>
 dsimp only at h hP;subst h;simp only[ak];refine⟨iC,?_⟩;refine ρ 7 fu ?_;refine ab.op (i:=8) ?_;refine ae fu ?_;refine⟨iC,?_⟩;refine ab.bW [(9,.one),(10,.bh)] ?_;refine ae fu ?_;obtain⟨mE,ik,ns⟩:=iH (n:=Ζ L) (cs:=L.flatMap bH) (ds:=[.s zn,.s s]) (es:=bH (zn,s)) Nh FG.1.1 (lN.ge iC) (bk gM L) rfl rfl (by decide) (by omega) (by simp only[maxLen];omega) (iI L) (by simp only[bH,wu]);refine aqM ik ns ?_;refine ae fu ?_;refine ν fu ?_;exact az.N (j+1,L++[(zn,s)],.own O8.N 2) ⟨cy.eR ((QU.trans fG).trans iC) (lN.ge iC) (cy.after (lN.ge iC)),App.after (by have:=iC.N;omega),aM,by dsimp only;rw[Ca,qe];rfl,hP⟩ (hl:=(by dsimp only;rw[Ca,alR,cA];rfl))
section
variable{P:Program}{tab:cL}{n:Sz}{D:List Deferred}{md:Md}{ops:Array Oper}{Q:VQ}{f:Fl}{o:Oper}{L:List (Fl×Oper)}{e:Env}{O:VH}{r:Option (MV×VH)}{b:Bool}{c:Code}
def UW(h:WL P tab n D md ops Q L e O):WL P tab n D md ops Q L e O:=h
def UX(h:W2 P tab n D md ops Q f o L e O r):W2 P tab n D md ops Q f o L e O r:=h
def UY(h:W3 P tab n D md ops Q L e O b):W3 P tab n D md ops Q L e O b:=h
def UZ(h:WC P tab n D c e O Q):WC P tab n D c e O Q:=h
end
section
variable{A1 A2 A3 A4 A5 A6 A7 P Q:Prop}
def iX(a1:A1)(q:Q)(h:A1->Q->P:=by intro a1 q;first | (with_reducible refine θ ?_;refine ae a1 q) | (with_reducible refine ι ?_;refine ae a1 q) | (first | with_reducible refine UW ?_ | with_reducible refine UX ?_ | with_reducible refine UY ?_ | with_reducible refine UZ ?_);refine ae a1 q):P:=h a1 q
def sT(a1:A1)(a2:A2)(q:Q)(h:A1->A2->Q->P:=by intro a1 a2 q;first | (with_reducible refine θ ?_;refine ao a1 a2 q) | (with_reducible refine ι ?_;refine ao a1 a2 q) | (first | with_reducible refine UW ?_ | with_reducible refine UX ?_ | with_reducible refine UY ?_ | with_reducible refine UZ ?_);refine ao a1 a2 q):P:=h a1 a2 q
def kg3(a1:A1)(a2:A2)(a3:A3)(q:Q)(h:A1->A2->A3->Q->P:=by intro a1 a2 a3 q;first | (with_reducible refine θ ?_;refine aE a1 a2 a3 q) | (with_reducible refine ι ?_;refine aE a1 a2 a3 q) | (first | with_reducible refine UW ?_ | with_reducible refine UX ?_ | with_reducible refine UY ?_ | with_reducible refine UZ ?_);refine aE a1 a2 a3 q):P:=h a1 a2 a3 q
def kg4(a1:A1)(a2:A2)(a3:A3)(a4:A4)(q:Q)(h:A1->A2->A3->A4->Q->P:=by intro a1 a2 a3 a4 q;first | (with_reducible refine θ ?_;refine cB a1 a2 a3 a4 q) | (with_reducible refine ι ?_;refine cB a1 a2 a3 a4 q) | (first | with_reducible refine UW ?_ | with_reducible refine UX ?_ | with_reducible refine UY ?_ | with_reducible refine UZ ?_);refine cB a1 a2 a3 a4 q):P:=h a1 a2 a3 a4 q
def kg5(a1:A1)(a2:A2)(a3:A3)(a4:A4)(a5:A5)(q:Q)(h:A1->A2->A3->A4->A5->Q->P:=by intro a1 a2 a3 a4 a5 q;first | (with_reducible refine θ ?_;refine iV a1 a2 a3 a4 a5 q) | (with_reducible refine ι ?_;refine iV a1 a2 a3 a4 a5 q) | (first | with_reducible refine UW ?_ | with_reducible refine UX ?_ | with_reducible refine UY ?_ | with_reducible refine UZ ?_);refine iV a1 a2 a3 a4 a5 q):P:=h a1 a2 a3 a4 a5 q
def kg6(a1:A1)(a2:A2)(a3:A3)(a4:A4)(a5:A5)(a6:A6)(q:Q)(h:A1->A2->A3->A4->A5->A6->Q->P:=by intro a1 a2 a3 a4 a5 a6 q;first | (with_reducible refine θ ?_;refine wc a1 a2 a3 a4 a5 a6 q) | (with_reducible refine ι ?_;refine wc a1 a2 a3 a4 a5 a6 q) | (first | with_reducible refine UW ?_ | with_reducible refine UX ?_ | with_reducible refine UY ?_ | with_reducible refine UZ ?_);refine wc a1 a2 a3 a4 a5 a6 q):P:=h a1 a2 a3 a4 a5 a6 q
end
section
variable{G H:Gh}{n:Sz}{D:List Deferred}{e e':Env}{a:Act}{P:Program}{tab:cL}{O O':VH}{w:World}{m m':MV}{u v:Value}{ops:Array Oper}{Q:VQ}{md:Md}
def ads(P:Program)(tab:cL)(rs:List ResultVar)(g:FuncId)(cap:List Operand)(t:Tmp)(k lo:Nat)(rest:Code)(R:iE->VH->Prop):VQ:=λx e O=>match x with
 | .normal=>∃ms,il e cap=φ ms/\∀D,VC P ⟨k,lo⟩ D rest ((t,.func (.func g) [] ms)::e) O (Qg P tab rs g ms R)
 | .ret=>kA R O (jV tab e O rs)
 | _=>False
def wA(ht:aR P tab){el:TypeId}{L ds:Η}{q:MV}{dx:TypeDesc}{t tx ty:TypeId} 
  (hr:GR O el te.size B p n' L) (hs:CU O te.size q=φ (j,ds)) (jy:ds.all eI=Α) (hu:(tab t).map c6.under=φ (.slice el)) (he:tab el=φ te) (yp:(tab tx).map c6.under=φ dx) (HJ:CV q dx) (hb:(n'+j)*te.bytes<=140737488355328) (hm:n'+j<=maxLen) (hB:B<=O.N)
  (hx:ev e x=φ p) (hy:ev e y=φ q):
  iF P n D (.mk d (.call {callee:=.builtin .append,args:= #[x,y],argTypes:= #[t,tx]}) ty ps af g) e O (λm O'=>GR O' el te.size B m (n'+j) (L++ds)/\bM O (gid p) O'/\(gid p=Β->O.Ge O')/\((∃k c,m= .aS k 0 (n'+j) c/\(gid p=φ k\/(O.N<=k/\j≠0)))\/(j=0/\m=p/\O'=O))):=by
 intro G a w hw hf;have mK:=hf.ev hx;have AE:=hf.ev hy;have gT:=bZ ht yp
 have fin:∀{m O' u w' H},(GR O' el te.size B m (n'+j) (L++ds)/\bM O (gid p) O'/\(gid p=Β->O.Ge O')/\((∃k c,m= .aS k 0 (n'+j) c/\(gid p=φ k\/(O.N<=k/\j≠0)))\/(j=0/\m=p/\O'=O)))->(Builtin.append_ #[t,tx] ty #[a.eval x,a.eval y]).run P w= .ok u w'->Gh.Le G H->WR H O' w'->VR H m u->
   ∃m O' u w' H,(GR O' el te.size B m (n'+j) (L++ds)/\bM O (gid p) O'/\(gid p=Β->O.Ge O')/\((∃k c,m= .aS k 0 (n'+j) c/\(gid p=φ k\/(O.N<=k/\j≠0)))\/(j=0/\m=p/\O'=O)))/\(execOp a.eval (.mk d (.call {callee:=.builtin .append,args:= #[x,y],argTypes:= #[t,tx]}) ty ps af g)).run P w= .ok (.value u) w'/\Gh.Le G H/\WR H O' w'/\VR H m u:=λhM cT h1 h2 h3=>
  ⟨_,_,_,_,_,hM,by simp only[execOp,resolve,invoke,builtin,List.map_toArray,List.map_cons,List.map_nil,Sem.run_bind,Sem.run_pure,Result.andThen_ok]<;>simp[cT],h1,h2,h3⟩
 obtain⟨vs,rU,hv⟩:=CW (P:=P) hw hs AE gT HJ jy;have kV:Ζ ds=j*te.size:=by rw[<-hv.1];exact rU.newsLen
 rcases hr with⟨rfl,rfl,hp⟩ | ⟨k,c,rfl,C0,qe,cU⟩
 ·have hA:∃A,a.eval x= .slice A 0 0/\(∀w',(Builtin.firstCells te.size 0 (.slice A 0 0)).run P w'= .ok #[] w'):=by
   generalize a.eval x=u at mK
   have key:∀A:Option Addr,∀w',(Builtin.firstCells te.size 0 (.slice A 0 0)).run P w'= .ok #[] w':=λA w'=>by
    cases A<;>simp[Builtin.firstCells,loadCells,loadCellsFrom]
   rcases hp with rfl | rfl
   ·cases mK with
    | slnil=>exact⟨_,rfl,key _⟩
    | l h1 h2 h3 h4 h5 h6=>exact h6.elim
   ·cases mK with
    | l h1 h2 h3 h4 h5 h6=>
      have h6:_=0:=h6;subst h6;exact⟨_,rfl,key _⟩
  obtain⟨A,hA,Ze⟩:=hA;(((have ace:gid p=Β:=by rcases hp with rfl | rfl<;>rfl);by_cases hj:j=0);subst hj;have uB:ds=[]:=List.eq_nil_of_length_eq_zero (by simpa using kV);subst uB;refine fin (m:=p) (O':=O) (u:=a.eval x) (w':=w) (H:=G) ⟨.inl ⟨rfl,rfl,hp⟩,bM.refl _ _,λ_=>VH.Ge.refl _,.inr ⟨rfl,rfl,rfl⟩⟩ ?_ (Gh.Le.refl G) hw mK;(have kI:vs=[]:=by have:=hv.1;simpa using this);subst kI;rw[hA];have fE:=bZ ht hu;obtain⟨ti,z,i1,i2,_⟩:=(ht _ te he).info;rcases rU.kind with⟨e',hk⟩ | hk<;>cases A<;>simp[Builtin.append_,run_underlying fE,run_underlying hk,gH (ht _ te he),rU.len,rU.cells,storeCells]);rw[hA]at fin;obtain⟨c',w',H,zs,g1,g2,g3,g4,g5,g6,g7⟩:=CY (P:=P) ht hw (n':=0) (c:=0) (A:=A) (L:=[]) (us:=[]) (ty:=ty) hu he gT hs HJ jy aW.nil (by simp) (Ze _) (by omega) hb hm AE;refine fin ⟨.inr ⟨O.N,c',rfl,g1,by rw[Ca,kV];simp,?_⟩,?_,λ_=>?_,.inl ⟨_,_,rfl,.inr ⟨abx _,hj⟩⟩⟩ g4 g5 g6 g7;refine Row.BN (cs:=[]) (t:=el) ?_ hB;rw[Ca,g3,Ca,kV,Th,ap_, <-aqo];((congr 1;omega);rw[ace];exact bM.push.trans bM.push);exact((VH.Ge.refl O).push _).push _
 ·obtain⟨sp,gV,gU⟩:=cU.cells;generalize rD:a.eval x=u at mK;have acf:=mK;cases acf with
  | aS hp hn hmx=>
    rename_i b;rw[rD]at fin;have hmul:(n'+j)*te.size=n'*te.size+j*te.size:=aqo _ _ _;by_cases rC:n'+j<=c
    ·have hle:(n'+j)*te.size<=c*te.size:=Nat.mul_le_mul_right _ rC;obtain⟨w',A,g1,g2,g3⟩:=PO (P:=P) (ty:=ty) ht hw hu he gT gV hs HJ jy rC (by rw[gU,kV];omega) mK AE;rw[ap_, <-qe,CZ]at g2
     have KU:Ζ ds<=Ζ sp:=by
      rw[Ca]at gU;omega
     rw[List.take_of_length_le KU]at g2;refine fin ⟨.inr ⟨k,c,rfl,rC,by rw[Ca,qe,kV,hmul],cU.PQ ?_⟩,bM.set,(λh=>by cases h),.inl ⟨_,_,rfl,.inl rfl⟩⟩ g1 (Gh.Le.refl G) g2 g3;rw[Ca,Ca,alO];rw[Ca]at gU;omega
    ·obtain⟨b',C,T,d1,d2,d3⟩:=hw.cells k _ gV;rw[hp]at d1;injection d1 with d1;subst d1;have hL:=d3.take (Ζ L);rw[List.take_left,List.take_take,Nat.min_eq_left (by rw[Ca];omega)]at hL
     have hold:(Builtin.firstCells te.size n' (.slice (φ ⟨b,0,Β⟩) n' c)).run P w.drew= .ok (C.toList.take (Ζ L)).toArray w.drew:=by
      refine run_firstCells_some (P:=P) w.drew te.size n' ⟨b,0,Β⟩ n' c _ (by rw[hL.1,qe]) λi u hu=>?_
      rw[Addr.add_lit,ap_];rw[aqg]at hu;split at hu;have kW:w.drew.heap[b]?=φ (.cells C T.t T.fr):=d2;simp only[World.cell?,kW,Option.isSome_none,ap6,if_false];simpa using hu;cases hu
     obtain⟨c',w',H,zs,g1,g2,g3,g4,g5,g6,g7⟩:=CY (P:=P) (ty:=ty) ht hw (n':=n') (c:=c) (A:=φ ⟨b,0,Β⟩) (L:=L) hu he gT hs HJ jy hL qe hold (by omega) hb hm AE;refine fin ⟨.inr ⟨O.N,c',rfl,g1,by rw[Ca,qe,kV,hmul],?_⟩,(bM.push.trans bM.push).any,(λh=>by cases h),.inl ⟨_,_,rfl,.inr ⟨abx _,by omega⟩⟩⟩ g4 g5 g6 g7;refine Row.BN (cs:=[]) (t:=el) ?_ hB;rw[Ca,g3,Ca,qe,kV, <-hmul, <-aqo];congr 1;omega
def VF.Im{f g:FuncId}{fn:Func}{A B rest:Code}{id k lo:Nat}{t:Tmp}{cap:Array Operand}{ty ty':TypeId}{ps':String}{af':Array Edge}{args:Η}{rs:List ResultVar}(hf:P.funcs[f]?=φ fn)(hE:Enters P g)
  (h:WC P tab ⟨k,0⟩ [] A (cZ 0 args) O (tW (MX P ⟨k,0⟩ [] B (ads P tab rs g cap.toList t k lo rest R)) (ads P tab rs g cap.toList t k lo rest R))) (ht:aR P tab:=by exact aa) (hb:fn.body=φ (.seq A (.seq B (.seq (.region id ⟨[.mk (φ t) (.makeFunc (.func g) #[] cap) ty ps af Β,.mk Β (.defer {callee:=.value (.tmp t),args:= #[],argTypes:= #[]}) ty' ps' af' Β]⟩ γ) rest))):=by exact rfl) (hk:fn.ntmps=k:=by exact rfl) (hr:fn.results.toList=rs:=by exact rfl) (hn:Ζ args<=k:=by exact Nat.le_of_ble_eq_true rfl) (di:t<k:=by decide):VF P f args O R:=by
 subst hk;intro G w vs hw hv;refine calls_of_wp_defers hf hb ?_
 have aZ:FR G ⟨fn.ntmps,0⟩ [] (cZ 0 args) {tmps:=vs.toArray++Array.replicate (fn.ntmps - vs.toArray.size) undef,defers:=[]}:=by
  have hl:=hv.1;refine⟨rfl,by simp;omega,λt x hx=>?_⟩;rw[jS,if_pos (aka _),Nat.sub_zero]at hx;obtain⟨u,h1,h2⟩:=hv.get hx;refine⟨u,?_,h2⟩;have dm:=(aqi.1 h1).1;rw[Array.getElem?_append_left (by simpa using dm)];simpa using h1
 refine wp_seq (wp_mono (WC.sound ht h G _ w hw aZ) ?_)
 have early:∀{e:Env} {a':Act} {w':World} {O':VH} {K:Gh},Gh.Le G K->WR K O' w'->FR K ⟨fn.ntmps,0⟩ [] e a'->kA R O' (jV tab e O' rs)->
   Leaves P fn a'.tmps (λx w'=>∃r O' H,Gh.Le G H/\WR H O' w'/\ER H r x/\R r O') a'.defers .returning w':=by
  intro e a' w' O' K k1 k2 k3 q3;rw[k3.defers]
  have key:∃m,ee tab fn e O'=φ m/\R (.ret m) O':=by
   unfold ee;rw[hr, <-u7];generalize jV tab e O' rs=z at q3;unfold kA at q3;split at q3;exact q3.elim;exact⟨_,rfl,q3⟩
   ·rename_i l hl;refine⟨.tuple l,?_,q3⟩
    match l,hl with
    | [],_=>rfl
    | [m],hl=>exact absurd rfl (hl m)
    | _::_::_,_=>rfl
  obtain⟨m,h6,h7⟩:=key;obtain⟨u2,h8,h9⟩:=np (P:=P) ht k2 k3 h6;exact⟨u2,h8,.ret m,O',K,k1,k2,h9,h7⟩
 rintro y a1 w1 ⟨x,e,O1,H,g1,g2,g3,g4,g5⟩
 cases y<;>cases x<;>first
  | exact False.elim g4
  | exact g5.elim
  | exact early g1 g2 g3 g5
  | skip
 refine wp_seq (wp_mono (g5 H a1 w1 g2 g3) ?_);rintro y a1 w1 ⟨x,e,O1,H2,g1',g2,g3,g4,g5⟩
 replace g1:=g1.trans g1'
 clear g1'
 cases y<;>cases x<;>first
  | exact False.elim g4
  | exact g5.elim
  | exact early g1 g2 g3 g5
  | skip
 obtain⟨ms,hm,Up⟩:=g5;have g3:FR H2 ⟨fn.ntmps,0⟩ [] e a1:=g3;have kI:=g3.il hm;have JC:cap.map a1.eval=(cap.toList.map a1.eval).toArray:=by apply Array.ext';simp
 generalize cap.toList.map a1.eval=us at kI JC
 have Uq:(execOp a1.eval (.mk (φ t) (.makeFunc (.func g) #[] cap) ty ps af Β)).run P w1= .ok (.value (.func (.func g) #[] us.toArray)) w1:=by
  simp[execOp,Instr.makeFunc,JC]
 have hz:=g3.size;dsimp only at hz
 have hev:(a1.put (φ t) (.func (.func g) #[] us.toArray)).eval (.tmp t)= .func (.func g) #[] us.toArray:=by
  simp[Act.eval,Act.put,hz,di]
 have Ur:(execOp (a1.put (φ t) (.func (.func g) #[] us.toArray)).eval (.mk Β (.defer {callee:=.value (.tmp t),args:= #[],argTypes:= #[]}) ty' ps' af' Β)).run P w1= .ok (.defer {target:=.fn (.func g) us.toArray,args:= #[]}) w1:=by
  simp[execOp,resolve,hev,Deferred.ofValue]
 refine wp_seq (wp_region ?_);have Qf:∀o1 o2:Oper,List.range (Array.mk [o1,o2]).size=[0,1]:=λ_ _=>rfl
 rw[Qf];have MY:∀(o1 o2:Oper)(tm:Array Value),o1.guard=Β->Region.wanted o1 (yielded ⟨[o1,o2]⟩ tm)=Α:=λo1 o2 tm h=>by simp[Region.wanted,h]
 have oA:∀(o1 o2:Oper)(tm:Array Value),o2.guard=Β->Region.wanted o2 (yielded ⟨[o1,o2]⟩ tm)=Α:=λo1 o2 tm h=>by simp[Region.wanted,h]
 simp only[wpOps,List.getElem?_toArray,aqb,ap5];rw[if_pos (MY _ _ _ rfl)];refine .inl ?_;unfold Oper.wp;rw[Uq,Oper.upon_value];simp only[wpOps,List.getElem?_toArray,aqb,ap5];rw[if_pos (oA _ _ _ rfl)];refine .inl ?_;first | unfold Oper.wp | skip
 rw[Ur,Oper.upon_defer];have jI:FR H2 ⟨fn.ntmps,0⟩ [] ((t,.func (.func g) [] ms)::e) (a1.put (φ t) (.func (.func g) #[] us.toArray)):=FR.put g3 di (.func (fs:=[]) (us:=[]) rfl (λi c u h=>by simp at h) kI.1 kI.2);generalize a1.put (φ t) (.func (.func g) #[] us.toArray)=a2 at jI;have qU:FR H2 ⟨fn.ntmps,lo⟩ [{target:=.fn (.func g) us.toArray,args:= #[]}] ((t,.func (.func g) [] ms)::e) {a2 with defers:={target:=.fn (.func g) us.toArray,args:= #[]}::a2.defers}:=⟨by rw[jI.defers],jI.size,jI.get⟩;show rest.wp P _ _ _;refine wp_mono (Up _ H2 _ w1 g2 qU) ?_;rintro y a' w' ⟨x,e',O',K,k1,k2,k3,k4,k5⟩
 have hinv:∀w:World,(invoke (.fn (.func g) us.toArray) #[]).run P w= .ok (.enter g us.toArray) w:=λw=>by
  simp[invoke,hE us.toArray w]
 have fin:∀(u:FrameMode)(z:ϱ),u≠ .run->MR K z u->FR K ⟨fn.ntmps,lo⟩ [{target:=.fn (.func g) us.toArray,args:= #[]}] e' a'->iO P g ms z O' (λO'=>kA R O' (jV tab e' O' rs))->
   Leaves P fn a'.tmps (λx w'=>∃r O' H,Gh.Le G H/\WR H O' w'/\ER H r x/\R r O') a'.defers u w':=by
  intro u z hu hmr hfa hd;rw[hfa.defers];refine leaves_cons hu (hinv _) ((hd K w' us u k2 (kI.mono k1) hmr).mono ?_);rintro r u' JG ⟨⟨v,rfl⟩,hs,O2,K2,q1,q2,q3⟩;dsimp only;rw[hs]
  have key:∃m,ee tab fn e' O2=φ m/\R (.ret m) O2:=by
   unfold ee;rw[hr, <-u7];generalize jV tab e' O2 rs=z at q3;unfold kA at q3;split at q3;exact q3.elim;exact⟨_,rfl,q3⟩
   ·rename_i l hl;refine⟨.tuple l,?_,q3⟩
    match l,hl with
    | [],_=>rfl
    | [m],hl=>exact absurd rfl (hl m)
    | _::_::_,_=>rfl
  obtain⟨m,h6,h7⟩:=key;obtain⟨u2,h8,h9⟩:=np (P:=P) ht q2 (hfa.mono q1) h6;exact⟨u2,h8,.ret m,O2,K2,(g1.trans k1).trans q1,q2,h9,h7⟩
 cases y with
 | normal=>cases x<;>first | exact False.elim k4 | exact fin .returning Β (by simp) trivial k3 k5
 | ret=>cases x<;>first | exact False.elim k4 | exact fin .returning Β (by simp) trivial k3 k5
 | panic c=>
   cases x with
   | panic m=>
     obtain⟨u,rfl,hvu⟩:=k4;exact fin (.panicking [⟨u,γ,γ⟩]) (φ m) (by simp) hvu k3.2 k5
   | _=>exact False.elim k4
 | exit i=>cases x<;>first | exact False.elim k4 | exact k5.elim
 | goto i=>cases x<;>first | exact False.elim k4 | exact k5.elim
 | outgrown=>cases x<;>exact False.elim k4
def VL.akQ(ht:aR P tab){el:TypeId}{L ds:Η}{q:MV}{dx:TypeDesc}{t tx ty:TypeId}{LL:List (Fl×Oper)}(hne:brk≠[])
  (sA:∀i,ops[i]?=φ (.mk d (.call {callee:=.builtin .append,args:= #[x,y],argTypes:= #[t,tx]}) ty ps af g)->brk.contains i=Α)
  (hr:GR O el te.size B p n' L) (hs:CU O te.size q=φ (j,ds)) (jy:ds.all eI=Α) (hu:(tab t).map c6.under=φ (.slice el)) (he:tab el=φ te) (yp:(tab tx).map c6.under=φ dx) (HJ:CV q dx) (hb:(n'+j)*te.bytes<=140737488355328) (hm:n'+j<=maxLen) (hB:B<=O.N)
  (hx:ev e x=φ p) (hy:ev e y=φ q) (hg:aQ ops (.mk d (.call {callee:=.builtin .append,args:= #[x,y],argTypes:= #[t,tx]}) ty ps af g) e=φ Α) (hd:bL n d=Α)
  (h:∀m O',GR O' el te.size B m (n'+j) (L++ds)->bM O (gid p) O'->(gid p=Β->O.Ge O')->((∃k c,m= .aS k 0 (n'+j) c/\(gid p=φ k\/(O.N<=k/\j≠0)))\/(j=0/\m=p/\O'=O))->WL P tab n D (.held brk) ops Q LL (bt d m e) O'):
  VL P n D (.held brk) ops ((.one,.mk d (.call {callee:=.builtin .append,args:= #[x,y],argTypes:= #[t,tx]}) ty ps af g)::LL) e O Q:=by
 refine VL.kL hg hd (λ_ aiW h=>by injection h with h;subst h;exact hne) (λaiW h=>by injection h with h;subst h;exact .inr hne) (wA ht hr hs jy hu he yp HJ hb hm hB hx hy) (λaiW h i hi=>by injection h with h;subst h;exact sA i hi) ?_;rintro m O' ⟨h1,h2,h3,h4⟩;exact WL.sound ht (h m O' h1 h2 h3 h4)
def cc.mv(i:Nat){ty:TypeId}(h:cc P n D ⟨l⟩ brk fuel (listed.setIfInBounds i Α) (bt d m e) O Q)(ho:l[i]?=φ (.mk d (.move x) ty ps af g):=by exact rfl)(hs:Region.noSelect ⟨l⟩=Α:=by kernel_rfl)(hf:Region.free .any ⟨l⟩ listed i=Α:=by kernel_rfl)(hr:(Region.ready .any ⟨l⟩ listed).contains i=Α:=by kernel_rfl)(Gk:brk.contains i=Α:=by kernel_rfl)(hg:aQ ⟨l⟩ (.mk d (.move x) ty ps af g) e=φ Α:=by exact rfl)(hd:bL n d=Α:=by exact rfl)(hx:ev e x=φ m:=by exact rfl):cc P n D ⟨l⟩ brk (fuel+1) listed e O Q:=by
 intro G a w hw aZ;have hu:=aZ.ev hx;have cT:∀w:World,(execOp a.eval (.mk d (.move x) ty ps af g)).run P w= .ok (.value (a.eval x)) w:=λw=>by simp[execOp]
 have Nt:(⟨l⟩:Array Oper)[i]?=φ (.mk d (.move x) ty ps af g):=by simpa using ho
 refine qL (S:=λ_=>True) (W:=λ_=>False) (brk:=λ_=>γ) Nt (Region.noSelect_spec hs) (jz hd) (λ_ _ _ _=>trivial) (λx _ hh=>by rw[Gk]at hh;cases hh) fuel listed a w (Region.free_spec Nt hf) (λ_ _ _ h=>h.elim) (λ_ h=>h.elim) (λ_ _ _ h=>by cases h) (by simpa using hr) (.inl ⟨bN aZ hg,λx _=>cT x⟩) trivial (h G _ w hw (aZ.bt hd hu))
def cc.bW(ix:List (Nat×Fl))(h:WL P tab n D (.held brk) ⟨l⟩ Q L e O)(ht:aR P tab:=by exact aa)(hs:Region.noSelect ⟨l⟩=Α:=by kernel_rfl)(hp:dk (.held brk) ⟨l⟩ fuel listed ix=Α:=by kernel_rfl)(hL:qu l ix=φ L:=by exact rfl):cc P n D ⟨l⟩ brk fuel listed e O Q:=
 (WL.sound ht h) fuel listed ix (v7 hL) (λ_=>⟨hs,hp⟩)
def VC.gen(h:∀O3,O3=O->VC P n D c e O3 Q):VC P n D c e O Q:=h _ rfl
def WL.gen(h:∀O3,O3=O->WL P tab n D md ops Q L e O3):WL P tab n D md ops Q L e O:=h _ rfl
def iY(a b:cx)(h:O1=(O.push a).push b):O.Ge O1/\O1.N=O.N+2/\O1.hp O.N=φ a/\O1.hp (O.N+1)=φ b:=by
 subst h;exact⟨((VH.Ge.refl O).push _).push _,rfl,(VH.mG _ _ (show O.N≠O.N+1 by omega)).trans (ζ _ _),ζ _ _⟩
def mQ(a b c:cx)(h:O1=((O.push a).push b).push c):O.Ge O1/\O1.N=O.N+3/\O1.hp O.N=φ a/\O1.hp (O.N+1)=φ b/\O1.hp (O.N+2)=φ c:=by
 subst h;obtain⟨h1,h2,h3,h4⟩:=iY (O:=O) a b rfl;exact⟨h1.push _,rfl,(VH.mG _ _ (show O.N≠O.N+2 by omega)).trans h3,(VH.mG _ _ (show O.N+1≠O.N+2 by omega)).trans h4,ζ _ _⟩
def Io(a b c d:cx)(h:O1=(((O.push a).push b).push c).push d):O.Ge O1/\O1.N=O.N+4/\O1.hp O.N=φ a/\O1.hp (O.N+1)=φ b/\O1.hp (O.N+2)=φ c/\O1.hp (O.N+3)=φ d:=by
 subst h;obtain⟨h1,h2,h3,h4,h5⟩:=mQ (O:=O) a b c rfl;exact⟨h1.push _,rfl,(VH.mG _ _ (show O.N≠O.N+3 by omega)).trans h3,(VH.mG _ _ (show O.N+1≠O.N+3 by omega)).trans h4,(VH.mG _ _ (show O.N+2≠O.N+3 by omega)).trans h5,ζ _ _⟩
def cc.Ey(i:Nat)(h:yr (λm O'=>cc P n D ⟨l⟩ brk fuel (listed.setIfInBounds i Α) (bt o.dst m e) O' Q) (jB tab .rd o e O))(ht:aR P tab:=by exact aa)(ho:l[i]?=φ o:=by exact rfl)(hs:Region.noSelect ⟨l⟩=Α:=by kernel_rfl)(hf:Region.free .any ⟨l⟩ listed i=Α:=by kernel_rfl)(hr:(Region.ready .any ⟨l⟩ listed).contains i=Α:=by kernel_rfl)(hb:oz ⟨l⟩ brk listed i=Α:=by kernel_rfl)(hg:aQ ⟨l⟩ o e=φ Α:=by exact rfl)(hd:bL n o.dst=Α:=by exact rfl):cc P n D ⟨l⟩ brk (fuel+1) listed e O Q:=by
 generalize hv:jB tab .rd o e O=v at h;cases v with
 | none=>exact h.elim
 | some p=>
   obtain⟨m,O'⟩:=p
   exact cc.take (by simpa using ho) hs hf hr hb hd (λG a w hw aZ=>by
    obtain⟨_,u,hu,cT⟩:=Aa (P:=P) ht hw aZ (by simp) hv;exact⟨u,hu,.inl ⟨bN aZ hg,cT⟩⟩) (by
    obtain rfl:=xZ (by simp) hv;exact h)
def cc.fin(hb:((List.range listed.size).all λj=>listed.getD j Α||brk.contains j)=Α)(h:bA P n D ops fuel listed e O Q):cc P n D ops brk fuel listed e O Q:=by
 intro G a w hw aZ;refine pH _ _ _ _ (λj hj x hs hh=>?_) (h G a w hw aZ);rcases aqe j listed.size with hl | hl;have:=aqd.1 hb j (aqr.2 hl);rw[hj,aqt]at this;rw[this]at hh;cases hh;rw[ap9,aqc (by simpa using hl)]at hj;cases hj
def bA.rY(h:yr (λm O'=>bA P n D ⟨l⟩ fuel (listed.setIfInBounds i Α) (bt o.dst m e) O' Q) (dZ tab o e O))(ht:aR P tab:=by exact aa)(ho:l[i]?=φ o:=by exact rfl)(hr:Region.ready .any ⟨l⟩ listed=[i]:=by kernel_rfl)(hg:aQ ⟨l⟩ o e=φ Α:=by exact rfl)(hd:bL n o.dst=Α:=by exact rfl):bA P n D ⟨l⟩ (fuel+1) listed e O Q:=
 bA.all hr (by simp) λj hj=>by
  obtain rfl:j=i:=by simpa using hj
  exact aI.o1 h (ht:=ht) (ho:=ho) (hg:=hg) (hd:=hd)
def bA.st{M:MV->VH->Prop}(ho:l[i]?=φ o)(hr:Region.ready .any ⟨l⟩ listed=[i])(hg:aQ ⟨l⟩ o e=φ Α)(hd:bL n o.dst=Α)(hy:iF P n D o e O M)
  (h:∀m O',M m O'->bA P n D ⟨l⟩ fuel (listed.setIfInBounds i Α) (bt o.dst m e) O' Q):bA P n D ⟨l⟩ (fuel+1) listed e O Q:=
 bA.all hr (by simp) λj hj=>by
  obtain rfl:j=i:=by simpa using hj
  exact aI.st hy h (ho:=ho) (hg:=hg) (hd:=hd)
def bA.two(hr:Region.ready .any ops listed=[i,j])
  (h1:aI P n D ops i e O Q λe' O'=>bA P n D ops fuel (listed.setIfInBounds i Α) e' O' Q) (h2:aI P n D ops j e O Q λe' O'=>bA P n D ops fuel (listed.setIfInBounds j Α) e' O' Q):bA P n D ops (fuel+1) listed e O Q:=
 bA.all hr (by simp) λx hx=>by
  simp only[ap7,aqj,or_false]at hx;rcases hx with rfl | rfl;exact h1;exact h2
def WR.wkc(h:WR G O w){k:Nat}{ds:Η}(hk:O.hp k=φ (.cells cs))(hw:fR cs ds):WR G (O.set k (.cells ds)) w:=
 h.swap (by rw[hk];simp) (λcs' e=>by
  injection e with e;subst e;obtain⟨b,C,T,h1,h2,h3⟩:=h.cells k cs hk;exact⟨b,C,T,h1,h2,by rw[<-hw.1];exact hw.vrs h3⟩) (λX e=>by cases e) (λ_ _ e=>by cases e) (λe=>by cases e) (λ_ _ _ e=>by cases e)
def VC.wkc{k:Nat}{ds:Η}(hk:O.hp k=φ (.cells cs))(hw:fR cs ds)(h:VC P n D c e (O.set k (.cells ds)) Q):VC P n D c e O Q:=λG a w hwr hf=>h G a w (hwr.wkc hk hw) hf
def WR.Aj(h:WR G O w){k p o n c:Nat}(hk:O.hp k=φ (.cells cs))(hp:O.hp p=φ (.cells (A++ .aS k o n c::E)))(mw:p≠k)(hl:o+sz<=Ζ cs):∃H,Gh.Le G H/\WR H ((O.kill k).set p (.cells (A++ .l n ((cs.drop o).take sz) .au::E))) w:=by
 obtain⟨b,C,T,h1,h2,h3⟩:=h.cells p _ hp;obtain⟨u,hu,hv⟩:=h3.get (i:=Ζ A) (c:=.aS k o n c) (by rw[alV (abx _),Nat.sub_self];rfl);obtain⟨H,h4,h5,h6⟩:=h.freeze hk hv hl;refine⟨H,h4,?_⟩;have QV:(O.kill k).hp p=φ (.cells (A++ .aS k o n c::E)):=(VH.mH _ mw).trans hp;refine h5.swap (by rw[QV];simp) (λcs' e=>?_) (λX e=>by cases e) (λ_ _ e=>by cases e) (λe=>by cases e) (λ_ _ _ e=>by cases e);injection e with e;subst e;refine⟨b,C,T,h4.cu h1,h2,?_⟩;have h7:=h3.mono h4;refine⟨?_,λi c' u' hc G6=>?_⟩;rw[Ca,Ti]at h7 ⊢;have:=h7.1;rw[Ca,Ti]at this;exact this
 ·have hlen:(A++MV.l n ((cs.drop o).take sz) .au::E).length=(A++MV.aS k o n c::E).length:=by simp
  rw[hlen]at G6;by_cases hi:i=Ζ A;subst hi;rw[alV (abx _),Nat.sub_self]at hc;injection hc with hc;subst hc;rw[hu]at G6;injection G6 with G6;subst G6;exact Wk.tok _ _ h6;refine h7.2 i c' u' ?_ G6;rcases aqe i (Ζ A) with dm | jQ;rw[aqh dm]at hc ⊢;exact hc;rw[alV jQ]at hc ⊢;(obtain⟨j,hj⟩:∃j,i - (Ζ A)=j+1:=⟨i - (Ζ A) - 1,by omega⟩);rw[hj,ap5]at hc ⊢;exact hc
def VC.Aj{c0:Code}{k p o c:Nat}(hk:O.hp k=φ (.cells cs))(hp:O.hp p=φ (.cells (A++ .aS k o n' c::E)))(mw:p≠k)(hl:o+sz<=Ζ cs)(h:VC P n D c0 e ((O.kill k).set p (.cells (A++ .l n' ((cs.drop o).take sz) .au::E))) Q):VC P n D c0 e O Q:=λG a w hw hf=>by
 obtain⟨H,h1,h2⟩:=hw.Aj hk hp mw hl;exact wp_mono (h H a w h2 (hf.mono h1)) λ_ _ _=>c7.le h1
end
section
variable{G H:Gh}{n:Sz}{D:List Deferred}{e e':Env}{a:Act}{P:Program}{tab:cL}{O O':VH}{w:World}{m m':MV}{u v:Value}{ops:Array Oper}{Q:VQ}{md:Md}
def aqL(i:Nat)(h:yr (λm O'=>ab P n D ⟨l⟩ brk J Ψ Z fuel (listed.setIfInBounds i Α) (bt o.dst m e) O' Q) (jB tab .bh o e O))(ht:aR P tab:=by exact aa)(ho:l[i]?=φ o:=by exact rfl)(hs:Region.noSelect ⟨l⟩=Α:=by kernel_rfl)(hf:Region.free .any ⟨l⟩ listed i=Α:=by kernel_rfl)(hr:(Region.ready .any ⟨l⟩ listed).contains i=Α:=by kernel_rfl)(Gk:brk.contains i=Α:=by kernel_rfl)(hg:aQ ⟨l⟩ o e=φ Α:=by exact rfl)(hd:bL n o.dst=Α:=by exact rfl):ab P n D ⟨l⟩ brk J Ψ Z (fuel+1) listed e O Q:=by
 generalize hv:jB tab .bh o e O=v at h;cases v with
 | none=>exact h.elim
 | some p=>
   obtain⟨m,O'⟩:=p;obtain⟨h1,rfl⟩:=qt hv;intro hΨ hZ hJ G a w hψ hw aZ;obtain⟨u,hu,cT⟩:=xO (P:=P) ht aZ h1;(have Nt:(⟨l⟩:Array Oper)[i]?=φ o:=by simpa using ho);exact qL (S:=λx=>SS G x) (W:=λ_=>False) (brk:=λ_=>γ) Nt (Region.noSelect_spec hs) (jz hd) (λ_ _ _ hT=>hT.1) (λx hx=>⟨hx,λhh=>by rw[Gk]at hh;cases hh⟩) fuel listed a w (Region.free_spec Nt hf) (λ_ _ _ h=>h.elim) (λ_ h=>h.elim) (λ_ _ _ h=>by cases h) (by simpa using hr) (.inl ⟨bN aZ hg,λx hx=>cT x hx⟩) hw.ss (h hΨ hZ hJ G _ w hψ hw (aZ.bt hd hu))
def VC.sU{id:Nat}(brk:Τ)(J:ϰ)(hJ:J O)(h:ab P n D ops brk J (λ_=>True) True ops.size (Array.replicate ops.size γ) e O Q)(hm:P.follows .mixedOrders=Α:=by kernel_rfl):VC P n D (.region id ops Α) e O Q:=
 λG a w hw hf=>wp_region_any hm (mF _ _ _ _ (h (λ_ _ _ _=>trivial) trivial hJ G a _ trivial (hw.drawn _) hf))
def exP:MV->Bool
 | .p _ _=>Α
 | .map _=>Α
 | m=>exM m
def adt(hm:exP m=Α)(h1:VR G m u)(hl:Gh.Le G H)(h2:VR H m v):v=u:=by
 cases m with
 | p k o=>
   cases h1 with
   | p a=>cases h2 with
     | p b=>rw[hl.cu a]at b;injection b with b;rw[b]
 | map k=>
   cases h1 with
   | map a=>cases h2 with
     | map b=>rw[hl.cu a]at b;injection b with b;rw[b]
 | _=>refine Xn ?_ h1 h2;exact hm
def ε(i:Nat){t:TypeId}{ty:TypeId}(hv:∀O2,J O2->gj tab O2 t p=φ m)(h:ab P n D ⟨l⟩ brk J Ψ Z fuel (listed.setIfInBounds i Α) (bt d m e) O Q)(ht:aR P tab:=by exact aa)(ho:l[i]?=φ (.mk d (.load t x) ty ps af g):=by exact rfl)(hs:Region.noSelect ⟨l⟩=Α:=by kernel_rfl)(hf:Region.free .any ⟨l⟩ listed i=Α:=by kernel_rfl)(hr:(Region.ready .any ⟨l⟩ listed).contains i=Α:=by kernel_rfl)(hb:oz ⟨l⟩ brk listed i=Α:=by kernel_rfl)(hg:aQ ⟨l⟩ (.mk d (.load t x) ty ps af g) e=φ Α:=by exact rfl)(hd:bL n d=Α:=by exact rfl)(hx:ev e x=φ p:=by exact rfl)(hm:exP m=Α:=by exact rfl):ab P n D ⟨l⟩ brk J Ψ Z (fuel+1) listed e O Q:=by
 refine ab.take (o:=.mk d (.load t x) ty ps af g) (by simpa using ho) hs hf hr hb hd (λG a w _ hJ _ hw aZ=>?_) h;obtain⟨u0,hu0,_⟩:=qP (P:=P) ht hw (hv O hJ) (aZ.ev hx);refine⟨u0,hu0,.inl ⟨bN aZ hg,λy hy=>?_⟩⟩;obtain⟨H,O2,g1,g2,g3⟩:=hy;obtain⟨r,g4,g5⟩:=qP (P:=P) ht g2 (hv O2 g3) ((aZ.ev hx).mono g1);have:=g5 y g2.sx;have er:=adt hm hu0 g1 g4;subst er;simp only[execOp,Sem.run_bind,this];rfl
def QW(k1 k2:Nat)(X1 X2:Obj)(O':VH):Prop:=O'.hp k1=φ (.obj X1)/\O'.hp k2=φ (.obj X2)
def ΨFF(U0 QX:Η)(X1 X2:Obj)(G:Gh):Prop:=mM U0 X1 G/\mM QX X2 G
def VC.Dq{id:Nat}(brk:Τ)(k1 k2:Nat)(cK:O.hp k1=φ (.cells U0))(bY:O.hp k2=φ (.cells QX))
  (h:∀X1 X2,ab P n D ops brk (QW k1 k2 X1 X2) (ΨFF U0 QX X1 X2) True ops.size (Array.replicate ops.size γ) e ((O.set k1 (.obj X1)).set k2 (.obj X2)) Q) (hne:k2≠k1:=by omega) (hm:P.follows .mixedOrders=Α:=by kernel_rfl):VC P n D (.region id ops Α) e O Q:=
 λG a w hw hf=>by
  obtain⟨X1,eS,MY⟩:=(hw.drawn _).fix cK;obtain⟨X2,jY,oA⟩:=MY.fix (k:=k2) (cs:=QX) ((π _ _ hne).trans bY);exact wp_region_any hm (mF _ _ _ _ (h X1 X2 (λ_ _ hl hx=>⟨mM.mono hl hx.1,mM.mono hl hx.2⟩) trivial ⟨(π _ _ (Ne.symm hne)).trans (υ _ _ _),υ _ _ _⟩ G a _ ⟨eS,jY⟩ oA hf))
def aqK(i:Nat){X:Obj}{t:TypeId}{ty:TypeId}{k:Nat}(hJ:∀O',J O'->O'.hp k=φ (.obj X))(hΨ :∀G, Ψ G->mM cs X G)(hv:gj tab (O.set k (.cells cs)) t (.p k off)=φ m)(h:ab P n D ⟨l⟩ brk J Ψ Z fuel (listed.setIfInBounds i Α) (bt d m e) O Q)(ht:aR P tab:=by exact aa)(ho:l[i]?=φ (.mk d (.load t x) ty ps af g):=by exact rfl)(hs:Region.noSelect ⟨l⟩=Α:=by kernel_rfl)(hf:Region.free .any ⟨l⟩ listed i=Α:=by kernel_rfl)(hr:(Region.ready .any ⟨l⟩ listed).contains i=Α:=by kernel_rfl)(hb:oz ⟨l⟩ brk listed i=Α:=by kernel_rfl)(hg:aQ ⟨l⟩ (.mk d (.load t x) ty ps af g) e=φ Α:=by exact rfl)(hd:bL n d=Α:=by exact rfl)(hx:ev e x=φ (.p k off):=by exact rfl):ab P n D ⟨l⟩ brk J Ψ Z (fuel+1) listed e O Q:=by
 refine ab.take (o:=.mk d (.load t x) ty ps af g) (by simpa using ho) hs hf hr hb hd (λG a w _ hJO hψ hw aZ=>?_) h;obtain⟨C,T,rfl,h3⟩:=hΨ G hψ;unfold gj at hv;simp only[cellsOf,υ]at hv;split at hv
 ·rename_i ti cs' off' Tt hc;injection hc with hc;injection hc with e1 e2;subst e1;subst e2
  obtain⟨r,lK,iA⟩:=HS (P:=P) ht Tt hv h3;have hxr:=aZ.ev hx;generalize hxe:a.eval x=xu at hxr;cases hxr with
  | p hp=>
    rename_i b;refine⟨r,lK,.inl ⟨bN aZ hg,λy hy=>?_⟩⟩;obtain⟨H,O2,g1,g2,g3⟩:=hy;obtain⟨b',cC,cG⟩:=g2.obj k _ (hJ _ g3);rw[g1.cu hp]at cC;injection cC with cC;subst cC
    have:=iA y b λj v hj=>by
     rw[aqg]at hj;split at hj;simp only[World.cell?,cG,Option.isSome_none,ap6,if_false];simpa using hj;cases hj
    simp only[execOp,Sem.run_bind,hxe,this];rfl
 ·cases hv
def ab.wB(ix:List (Nat×Fl)){k1 k2:Nat}{X1 X2:Obj} 
  (h:WL P tab n D .any ⟨l⟩ Q L e ((O.set k1 (.cells U0)).set k2 (.cells QX))) (ht:aR P tab:=by exact aa) (hb:((List.range listed.size).all λj=>listed.getD j Α||brk.contains j)=Α:=by kernel_rfl) (hs:Region.noSelect ⟨l⟩=Α:=by kernel_rfl) (hp:dk .any ⟨l⟩ fuel listed ix=Α:=by kernel_rfl) (hL:qu l ix=φ L:=by exact rfl) (hne:k2≠k1:=by omega):ab P n D ⟨l⟩ brk (QW k1 k2 X1 X2) (ΨFF U0 QX X1 X2) True fuel listed e O Q:=by
 have h':=bA.bW ix h (ht:=ht) (hs:=hs) (hp:=hp) (hL:=hL);intro hΨ hZ hJ G a w hψ hw aZ;refine pH _ _ _ _ (λj hj x hs=>⟨hs,λhh=>?_⟩) (h' G a w ((hw.A_ hJ.1 hψ.1).A_ (k:=k2) ((π _ _ hne).trans hJ.2) hψ.2) aZ);rcases aqe j listed.size with hl | hl;have:=aqd.1 hb j (aqr.2 hl);rw[hj,aqt]at this;rw[this]at hh;cases hh;rw[ap9,aqc (by simpa using hl)]at hj;cases hj
def VC.Dr{id:Nat}(brk:Τ)(k:Nat)(J0:ϰ)(hk:O.hp k=φ (.cells cs))(h0:∀X,J0 (O.set k (.obj X)))
  (h:∀X,ab P n D ops brk (λO'=>O'.hp k=φ (.obj X)/\J0 O') (mM cs X) True ops.size (Array.replicate ops.size γ) e (O.set k (.obj X)) Q) (hm:P.follows .mixedOrders=Α:=by kernel_rfl):VC P n D (.region id ops Α) e O Q:=
 λG a w hw hf=>by
  obtain⟨X,hx,oA⟩:=(hw.drawn _).fix hk;exact wp_region_any hm (mF _ _ _ _ (h X (λ_ _=>mM.mono) trivial ⟨υ _ _ _,h0 X⟩ G a _ hx oA hf))
def ab.lA(ix:List (Nat×Fl)){k:Nat}{X:Obj}{J0:ϰ} 
  (h:WL P tab n D .any ⟨l⟩ Q L e (O.set k (.cells cs))) (ht:aR P tab:=by exact aa) (hb:((List.range listed.size).all λj=>listed.getD j Α||brk.contains j)=Α:=by kernel_rfl) (hs:Region.noSelect ⟨l⟩=Α:=by kernel_rfl) (hp:dk .any ⟨l⟩ fuel listed ix=Α:=by kernel_rfl) (hL:qu l ix=φ L:=by exact rfl):ab P n D ⟨l⟩ brk (λO'=>O'.hp k=φ (.obj X)/\J0 O') (mM cs X) True fuel listed e O Q:=by
 have h':=bA.bW ix h (ht:=ht) (hs:=hs) (hp:=hp) (hL:=hL);intro hΨ hZ hJ G a w hψ hw aZ;refine pH _ _ _ _ (λj hj x hs=>⟨hs,λhh=>?_⟩) (h' G a w (hw.A_ hJ.1 hψ) aZ);rcases aqe j listed.size with hl | hl;have:=aqd.1 hb j (aqr.2 hl);rw[hj,aqt]at this;rw[this]at hh;cases hh;rw[ap9,aqc (by simpa using hl)]at hj;cases hj
end
def cg:=WT fu<|WT T4 T3
def nB(fF:Bool)(s:Bs):Bool:=(nw s).2&&(fF||(nw s).1 != 6)
def U3(fF:Bool)(O:VH):VF Ε 307 [mb fF] O (aH λm O'=>m= .func (.func 318) [] [.p O.N 0]/\pM O [mb fF] O'):=by
 refine ω 4 [.tmp 2] func307 ?_;refine κ cg ?_;refine VC.bx ?_;rintro O1 h1;refine ν cg ?_;exact h1
def QY(fF:Bool)(s:Bs)(b:Nat)(O:VH)(hb:O.hp b=φ (.cells [mb fF])):VF Ε 318 ([.s s]++[.p b 0]) O (aH λm O'=>m=mb (nB fF s)/\O.Ge O'):=by
 have hS:=QT s O;have hF:nB fF s=((nw s).2&&(fF||(nw s).1 != 6)):=rfl;generalize nB fF s=W at*;generalize nw s=q at*;obtain⟨n,c⟩:=q;simp only[agb,af_];dsimp only at hF hS;simp only[bB]at hb;refine Υ 19 [.tmp 3] func318 ?_;refine ae cg ?_;refine τ (hS) ?_;rintro _ O2 ⟨rfl,rfl⟩;subst hF;cases c;refine ao cg hb ?_;exact VH.Ge.refl _
 ·cases fF
  ·by_cases h6:n=6;subst h6;refine ao cg hb ?_;exact⟨rfl,VH.Ge.refl _⟩
   ·(have h6':((n:Int)==6)=γ:=by rw[beq_eq_false_iff_ne];omega);have h6b:((n:Int) != 6)=Α:=by rw[bne,h6'];rfl
    (have h6n:(n != 6)=Α:=by rw[bne_iff_ne];exact h6);refine iV cg hb h6' h6b h6n ?_;exact VH.Ge.refl _
  ·refine ao cg hb ?_;exact VH.Ge.refl _
structure DS(O:VH)(B:Nat)(E:Η)(O':VH)(cs:Η):Prop where
 eR:O.Ge O'
 le:O.N<=B
 x:O'.hp B=φ (.cells E)
 d:O'.hp (B+1)=φ (.cells cs)
 lt:B+1<O'.N
def DS.st(h:DS O B E O' cs):DS O B E (O'.set (B+1) (.cells cs')) cs':=
 ⟨h.eR.set (by have:=h.le;omega) _,h.le,Δ h.x,υ _ _ _,h.lt⟩
def DS.ge(h:DS O B E O' cs)(k:O'.Ge O2):DS O B E O2 cs:=
 ⟨h.eR.trans k,h.le,(k.hp _ (by have:=h.lt;omega)).trans h.x,(k.hp _ h.lt).trans h.d,akc h.lt k.N⟩
def VH.vk(O:VH)(k:Nat){x y:cx}(h:O.hp k=φ x):(O.set k y).set k x=O:=by
 cases O with
 | mk hp nx=>
   simp only[VH.set];((((congr 1);funext j);by_cases e:j=k);subst e;rw[aN];exact h.symm);rw[aA _ _ e,aA _ _ e]
def DS.A_{X:Obj}(h:DS O B E O' cs)(k:(O'.set B (.obj X)).Ge O2):DS O B E (O2.set B (.cells E)) cs:=by
 have e1:(O'.set B (.obj X)).N=O'.N:=rfl;have e2:(O2.set B (.cells E)).N=O2.N:=rfl;have h1:=h.le;have h2:=h.lt;have h3:=h.eR.N;have h4:=k.N;refine⟨⟨by omega,λj hj=>?_⟩,h.le,υ _ _ _,?_,by omega⟩;rw[VH.sx,k.hp j (by omega),VH.sx];exact h.eR.hp j hj;rw[VH.sx,k.hp _ (by omega),VH.sx];exact h.d
def VC.ds{n:Sz}(h:DS O B E O' cs)(k:∀O3,DS O B E O3 cs'->VC P n D c e O3 Q):VC P n D c e (O'.set (B+1) (.cells cs')) Q:=k _ h.st
def VC.ds0{n:Sz}(k:∀O3,DS O O.N E O3 cs->VC P n D c e O3 Q):VC P n D c e ((O.push (.cells E)).push (.cells cs)) Q:=
 k _ ⟨((VH.Ge.refl O).push _).push _,abx _,(η _ _ (alS _)).trans (ζ _ _),ζ _ _,alS _⟩
def eL:Bs->Bool:=λ_=>Α
def wC(s:Bs)(O':VH):VF Ε 266 ([.s s]++[]) O' (aH λm n5=>m=mb (eL s)/\O'.Ge n5):=ahq s O'
def aas(s:Bs)(O':VH):VF Ε 308 ([.s s]++[]) O' (aH λm n5=>m=mb (oV s)/\O'.Ge n5):=UP s O'
def jD(s:Bs):Bool:=Dg ⟨s,s⟩
def QZ(s:Bs)(O':VH)(hs:Ζ s<=1024):VF Ε 309 ([.s s]++[]) O' (aH λm n5=>m=mb (jD s)/\O'.Ge n5):=aap s O' (by simp only[maxLen];omega)
def exE(k:Nd×Bs):Except (Int×Bs) iB:=
 match cz k.1 k.2 fb Α jD with
 | .error e=>.error e
 | .ok g=>match cz k.1 k.2 eU Α jD with
   | .error e=>.error e
   | .ok a=>.ok ⟨g,a⟩
def Be:List (Nd×Bs)->List iB->Except (Int×Bs) (List iB)
 | [],X=>.ok X
 | k::r,X=>match exE k with
   | .error e=>.error e
   | .ok i=>Be r (X++[i])
def yE(x:Nd)(w:Bs):Except (Int×Bs) (List iB):=
 match cW x w n0 with
 | .error e=>.error e
 | .ok ((_,_),γ)=>.ok []
 | .ok ((y,wy),Α)=>match pP y wy w9 with
   | .error e=>.error e
   | .ok l=>Be l []
def adu(s:Bs):Int:=if s=lW then 1 else if s=nr then 2 else 0
def rI(d:Dp):Except (Int×Bs) (List iB)->Except (Int×Bs) Dp
 | .error e=>.error e
 | .ok X=>.ok ⟨d.g,d.a,d.v,d.t,d.c,d.s,d.o,X⟩
def Ip(x:Nd)(w:Bs)(fF:Bool):Except (Int×Bs) Dp:=
 match cz x w fb Α eL with
 | .error e=>.error e
 | .ok g=>match cz x w eU Α eL with
 | .error e=>.error e
 | .ok a=>match cz x w gX γ eL with
 | .error e=>.error e
 | .ok v=>match cz x w Di γ eL with
 | .error e=>.error e
 | .ok t=>match cz x w Dj γ eL with
 | .error e=>.error e
 | .ok c=>match cz x w ua γ (nB fF)with
 | .error e=>.error e
 | .ok s=>match cz x w oT γ oV with
 | .error e=>.error e
 | .ok o=>rI ⟨g,a,v,t,c,(nw s).1,adu o,[]⟩ (yE x w)
def Ln{y:Nd}{wy nm:Bs}{L:List (Nd×Bs)}(h:pP y wy nm= .ok L):Ζ L<=1024/\∀p∈L,mz p.1<=mz y/\(Ζ p.2)<=Ζ wy+Ζ nm+1030:=by
 unfold pP at h;split at h;cases h;rename_i hn;injection h with h;subst h;refine⟨by rw[Lm];omega,λp hp=>?_⟩;unfold sR at hp;obtain⟨i,hi,rfl⟩:=List.mem_mapIdx.1 hp;have hk:=UR (ake hi);have AI:=vf (i+1);refine⟨aqa hk,?_⟩;simp only[GN,Ca,Ti,Th];omega
def DS.akR{k:Nat}{x y:cx}(h:DS O B E O' cs)(hk:B+1<k)(g:(O'.set k x).Ge O2):DS O B E (O2.set k y) cs:=by
 have e1:(O'.set k x).N=O'.N:=rfl;have e2:(O2.set k y).N=O2.N:=rfl;have h1:=h.le;have h2:=h.lt;have h3:=h.eR.N;have h4:=g.N
 have key:∀j,j<O'.N->j≠k->(O2.set k y).hp j=O'.hp j:=λj hj hn=>by
  rw[π _ _ hn,g.hp j (by omega),π _ _ hn]
 exact⟨⟨by omega,λj hj=>(key j (by omega) (by omega)).trans (h.eR.hp j hj)⟩,h.le,(key _ (by omega) (by omega)).trans h.x,(key _ (by omega) (by omega)).trans h.d,by omega⟩
def DS.app(h:DS O B E O' cs)(ha:App O' (B+2) sz tk):DS O B E (O'.after tk) cs:=by
 have k:=cy.after ha;have h1:=h.le;have h2:=h.lt;have h3:=h.eR.N;have key:∀j,j<B+2->(O'.after tk).hp j=O'.hp j:=λj hj=>k.hp j (by omega) (λe=>by have:=(App.nZ ha e).1;omega)
 exact⟨⟨YI h3 k.N,λj hj=>(key j (by omega)).trans (h.eR.hp j hj)⟩,h.le,(key _ (by omega)).trans h.x,(key _ (by omega)).trans h.d,akc h2 k.N⟩
def App.qW{k:Nat}{x:cx}(h:App O B sz tk)(hk:O.hp k≠φ .tok):App (O.set k x) B sz tk:=by
 cases tk with
 | own t j=>exact⟨h.1,(π _ _ (λe=>by subst e;exact hk h.2.1)).trans h.2.1,h.2.2.1,h.2.2.2⟩
 | nil=>trivial
 | full=>trivial
 | au=>exact h.elim
section
variable{P:Program}{n:Sz}{D:List Deferred}{e:Env}{O:VH}{Q:VQ}
def aI.sS{xs:Array Operand}{ts:Array TypeId}{ty:TypeId}{id:FuncId}(hR:VF P id (ms++cs) O R)
  (h:∀m O',R (.ret m) O'->K (bt d m e) O') (h2:∀m O',R (.panic m) O'->Q (.panic m) (mD n e) O') (ho:l[i]?=φ (.mk d (.call {callee:=.value f,args:=xs,argTypes:=ts}) ty ps af g):=by exact rfl) (hg:aQ ⟨l⟩ (.mk d (.call {callee:=.value f,args:=xs,argTypes:=ts}) ty ps af g) e=φ Α:=by exact rfl) (hf:ev e f=φ (.func (.func id) [] cs):=by exact rfl) (hm:il e xs.toList=φ ms:=by exact rfl) (hb:dA P id=Α:=by kernel_rfl) (hd:bL n d=Α:=by exact rfl):aI P n D ⟨l⟩ i e O Q K:=
 aI.call (o:=.mk d (.call {callee:=.value f,args:=xs,argTypes:=ts}) ty ps af g) (by simpa using ho) hg rfl rfl hf hm (Enters.u9 hb) hd (by simpa using hR) λr O' hr=>by
  cases r with
  | ret m=>exact h m O' hr
  | panic m=>exact h2 m O' hr
end
def akS(x:Nd)(w:Bs)(fF:Bool)(O:VH)(hx:mz x<=1000000)(hw6:Ζ w<=6000):
  VF Ε 289 [.agg (my x w),mb fF] O (FQ O (Ip x w fF) λy m=>m= .agg (aX y)):=by
 have hw:Ζ w<=10000:=by omega
 refine VF.fgR ?_;have uE:=sQ x w;have yB:=vg x w n0;have yC:= @vi x w n0;obtain⟨PE,hP⟩:∃PE,Ip x w fF=PE:=⟨_,rfl⟩
 rw[hP];unfold Ip at hP
 have JV:∃a b c d e,my x w=[a,b,c,d,e]:=by
  cases x;simp only[my,eh];exact⟨_,_,_,_,_,rfl⟩
 obtain⟨a,b,c,d,e,hE⟩:=JV;simp only[hE]at uE yB ⊢;clear hE;refine ω 66 [.cell 4 56] func289 ?_;refine κ cg ?_;refine VC.ds0 ?_;intro _ hd;have fl:=hd.x;have dE:=hd.d;refine θ (aE cg fl dE ?_);clear fl dE;refine ah.p (uE fb Α eL 266 [] _ hx hw (by decide) (by kernel_rfl) (λs O' _ _=>wC s O')) ?_ ?_;rotate_left
 ·rintro m O9 ⟨bI,h⟩;cases hF:cz x w fb Α eL with
  | ok s=>rw[hF]at h;exact h.elim
  | error e=>
    rw[hF]at h hP;dsimp only at h hP;rw[h, <-hP];refine ae cg ?_;exact⟨hd.eR.trans bI,rfl⟩
 rintro m O1 ⟨bI,h⟩;cases U4:cz x w fb Α eL with
 | error e=>rw[U4]at h;exact h.elim
 | ok s1=>
 rw[U4]at h hP;dsimp only at h hP;subst h;have hb:=hd.ge bI;clear bI hd;have fl:=hb.x;have dE:=hb.d;refine aE cg fl dE ?_;refine VC.ds hb ?_;clear fl dE hb;intro _ hd;have fl:=hd.x;have dE:=hd.d;refine θ (aE cg fl dE ?_);clear fl dE;refine ah.p (uE eU Α eL 266 [] _ hx hw (by decide) (by kernel_rfl) (λs O' _ _=>wC s O')) ?_ ?_;rotate_left
 ·rintro m O9 ⟨bI,h⟩;cases hF:cz x w eU Α eL with
  | ok s=>rw[hF]at h;exact h.elim
  | error e=>
    rw[hF]at h hP;dsimp only at h hP;rw[h, <-hP];refine ae cg ?_;exact⟨hd.eR.trans bI,rfl⟩
 rintro m O2 ⟨bI,h⟩;cases Nu:cz x w eU Α eL with
 | error e=>rw[Nu]at h;exact h.elim
 | ok s2=>
 rw[Nu]at h hP;dsimp only at h hP;subst h;have hb:=hd.ge bI;clear bI hd;have fl:=hb.x;have dE:=hb.d;refine aE cg fl dE ?_;refine VC.ds hb ?_;clear fl dE hb;intro _ hd;have fl:=hd.x;have dE:=hd.d;refine θ (aE cg fl dE ?_);clear fl dE;refine ah.p (uE gX γ eL 266 [] _ hx hw (by decide) (by kernel_rfl) (λs O' _ _=>wC s O')) ?_ ?_;rotate_left
 ·rintro m O9 ⟨bI,h⟩;cases hF:cz x w gX γ eL with
  | ok s=>rw[hF]at h;exact h.elim
  | error e=>
    rw[hF]at h hP;dsimp only at h hP;rw[h, <-hP];refine ae cg ?_;exact⟨hd.eR.trans bI,rfl⟩
 rintro m O3 ⟨bI,h⟩;cases U5:cz x w gX γ eL with
 | error e=>rw[U5]at h;exact h.elim
 | ok s3=>
 rw[U5]at h hP;dsimp only at h hP;subst h;have hb:=hd.ge bI;clear bI hd;have fl:=hb.x;have dE:=hb.d;refine aE cg fl dE ?_;refine VC.ds hb ?_;clear fl dE hb;intro _ hd;have fl:=hd.x;have dE:=hd.d;refine θ (aE cg fl dE ?_);clear fl dE;refine ah.p (uE Di γ eL 266 [] _ hx hw (by decide) (by kernel_rfl) (λs O' _ _=>wC s O')) ?_ ?_;rotate_left
 ·rintro m O9 ⟨bI,h⟩;cases hF:cz x w Di γ eL with
  | ok s=>rw[hF]at h;exact h.elim
  | error e=>
    rw[hF]at h hP;dsimp only at h hP;rw[h, <-hP];refine ae cg ?_;exact⟨hd.eR.trans bI,rfl⟩
 rintro m O4 ⟨bI,h⟩;cases hF4:cz x w Di γ eL with
 | error e=>rw[hF4]at h;exact h.elim
 | ok s4=>
 rw[hF4]at h hP;dsimp only at h hP;subst h;have hb:=hd.ge bI;clear bI hd;have fl:=hb.x;have dE:=hb.d;refine aE cg fl dE ?_;refine VC.ds hb ?_;clear fl dE hb;intro _ hd;have fl:=hd.x;have dE:=hd.d;refine θ (aE cg fl dE ?_);clear fl dE;refine ah.p (uE Dj γ eL 266 [] _ hx hw (by decide) (by kernel_rfl) (λs O' _ _=>wC s O')) ?_ ?_;rotate_left
 ·rintro m O9 ⟨bI,h⟩;cases hF:cz x w Dj γ eL with
  | ok s=>rw[hF]at h;exact h.elim
  | error e=>
    rw[hF]at h hP;dsimp only at h hP;rw[h, <-hP];refine ae cg ?_;exact⟨hd.eR.trans bI,rfl⟩
 rintro m O5 ⟨bI,h⟩;cases hF5:cz x w Dj γ eL with
 | error e=>rw[hF5]at h;exact h.elim
 | ok s5=>
 rw[hF5]at h hP;dsimp only at h hP;subst h;have hb:=hd.ge bI;clear bI hd;have fl:=hb.x;have dE:=hb.d;refine aE cg fl dE ?_;refine VC.ds hb ?_;clear fl dE hb;intro O6 hd;have fl:=hd.x;refine Γ ?_;refine VC.pI [7,8,9] (O.N) (fl) ?_;intro X;refine ρ 1 cg ?_;refine δ (m:=.agg [a,b,c,d,e]) 0 ?_ ?_;exact ff cg;simp only[ak];refine ab.call (i:=2) (U3 fF _) ?_;rintro _ O7 ⟨rfl,fG,xq,xp⟩;simp only[ak];refine⟨(fG.hp _ (by have:=hd.lt;show _<O6.N;omega)).trans (υ _ _ _),?_⟩;have hl6:=hd.lt;have am7:O7.N=O6.N+1:=xp;have aiX:O7.hp O6.N=φ (.cells [mb fF]):=xq;refine ab.lr (k:=O.N) (i:=3) (uE ua γ (nB fF) 318 [.p O6.N 0] O7 hx hw (by decide) (by kernel_rfl) (λs O' Ex _=>QY fF s _ O' (Ex.at aiX))) ?_ ?_;rotate_left
 ·rintro m O8 ⟨iC,h⟩;have hX:=((fG.trans iC).hp _ (by show O.N<O6.N;omega)).trans (υ _ _ _);refine⟨hX,?_⟩;cases hF:cz x w ua γ (nB fF)with
  | ok s=>rw[hF]at h;exact h.elim
  | error e=>
    rw[hF]at h hP;dsimp only at h hP;rw[h, <-hP];refine ae cg ?_;exact⟨(hd.A_ (fG.trans iC)).eR,rfl⟩
 rintro m O8 ⟨iC,h⟩;have hX:=((fG.trans iC).hp _ (by show O.N<O6.N;omega)).trans (υ _ _ _);refine⟨hX,?_⟩;cases hF6:cz x w ua γ (nB fF)with
 | error e=>rw[hF6]at h;exact h.elim
 | ok s6=>
 rw[hF6]at h hP;dsimp only at h hP;subst h;simp only[ak];refine ab.call (i:=4) (QT s6 _) ?_;rintro _ O9 ⟨rfl,eO⟩;rw[eO];clear eO O9;simp only[ak];refine⟨hX,?_⟩;have hb:=hd.A_ (fG.trans iC);have dE:=(π O8 (.cells [a,b,c,d,e]) (by omega:O.N+1≠O.N)).symm.trans hb.d;refine ρ 5 cg ?_;refine aqL 7 ?_;refine ae cg ?_;refine ρ 6 cg ?_;refine aqQ [(8,.bh),(9,.one)] ?_;refine ao cg dE ?_;clear xq aiX dE hX fl;generalize nw s6=sc at*;refine VC.ds hb ?_;clear hb hd fG iC hl6 xp am7;intro O9 hd;have fl:=hd.x;have dE:=hd.d;refine Ξ [2,4] (λ_:Int=>[.p O.N 0,.p (O.N+1) 0]) (λo O'=>DS O O.N [a,b,c,d,e] O' [.s s1,.s s2,.s s3,.s s4,.s s5,mi sc.1,mi o,.l 0 [] .nil]/\rI ⟨s1,s2,s3,s4,s5,sc.1,o,[]⟩ (yE x w)=PE) ?_ ?_
 ·refine θ (aE cg fl dE ?_);clear fl dE;refine ah.p (uE oT γ oV 308 [] _ hx hw (by decide) (by kernel_rfl) (λs O' _ _=>aas s O')) ?_ ?_;rotate_left
  ·rintro m O9 ⟨bI,h⟩;cases hF:cz x w oT γ oV with
   | ok s=>rw[hF]at h;exact h.elim
   | error e=>
     rw[hF]at h hP;dsimp only at h hP;rw[h, <-hP];refine ae cg ?_;exact⟨hd.eR.trans bI,rfl⟩
  rintro m OA ⟨bI,h⟩;cases hF7:cz x w oT γ oV with
  | error e=>rw[hF7]at h;exact h.elim
  | ok s7=>
  rw[hF7]at h hP;dsimp only at h hP;subst h;have hb:=hd.ge bI;clear bI hd;have fl:=hb.x;have dE:=hb.d;refine aE cg fl dE ?_;(((have gV:=λo:Int=>hb.st (cs':=[.s s1,.s s2,.s s3,.s s4,.s s5,mi sc.1,mi o,.l 0 [] .nil]));simp only[aq]at gV;unfold adu at hP;refine χ ?_;cases h1:s7==lW);rw[if_neg (λe=>by rw[e]at h1;exact absurd h1 (by decide))]at hP;cases h2:s7==nr;rw[if_neg (λe=>by rw[e]at h2;exact absurd h2 (by decide))]at hP;simp only[lW,nr]at h1 h2;refine ι (cB cg dE h1 h2 ?_);exact aB.mk 0 ⟨hb,hP⟩;rw[if_pos (eq_of_beq h2)]at hP;simp only[lW,nr]at h1 h2;refine ι (cB cg dE h1 h2 ?_);exact aB.mk 2 ⟨gV 2,hP⟩);rw[if_pos (eq_of_beq h1)]at hP;simp only[lW]at h1;refine ι (aE cg dE h1 ?_);exact aB.mk 1 ⟨gV 1,hP⟩
 intro o OA ⟨hd,hP⟩;refine Ξ [4] (λ_:List iB×Tok=>[.p (O.N+1) 0]) (λx O'=>DS O O.N [a,b,c,d,e] O' [.s s1,.s s2,.s s3,.s s4,.s s5,mi sc.1,mi o,.l (Ζ x.1) (x.1.flatMap cM) x.2]/\ .ok (⟨s1,s2,s3,s4,s5,sc.1,o,x.1⟩:Dp)=PE) ?_ ?_;rotate_left;rintro⟨X,tk⟩ O9 ⟨hd,hP⟩;have dE:=hd.d;simp only[aq]at dE;refine ο cg dE ?_;rw[<-hP];refine⟨hd.eR.set (by omega) _,?_⟩;simp only[aX,aq,wu,pO];have fl:=hd.x;have dE:=hd.d;have yD:∀e,cW x w n0= .error e->yE x w= .error e:=λe h=>by unfold yE;rw[h]
 have qz:∀y wy,cW x w n0= .ok ((y,wy),γ)->yE x w= .ok []:=λy wy h=>by unfold yE;rw[h]
 have kj:∀y wy,cW x w n0= .ok ((y,wy),Α)->yE x w=match pP y wy w9 with
  | .error e=>.error e
  | .ok l=>Be l []:=λy wy h=>by unfold yE;rw[h]
 generalize yE x w=DX at*;generalize cW x w n0=F at*;refine θ (aE cg fl dE ?_);clear fl dE;refine ah.p (yB OA (by have:=lQ x;omega) (by omega) (by decide)) ?_ ?_;rotate_left
 ·rintro m O2 ⟨aC,h⟩;cases F with
  | ok y=>exact h.elim
  | error e=>
    dsimp only at h;rw[yD e rfl]at hP;simp only[rI]at hP;rw[h, <-hP];refine ae cg ?_;exact⟨hd.eR.trans aC,rfl⟩
 rintro m OB ⟨aC,h⟩;cases F with
 | error e=>exact h.elim
 | ok y=>
 obtain⟨⟨y,wy⟩,bb⟩:=y;dsimp only at h;subst h;obtain⟨hyW,qh⟩:=yC rfl;have lZ:Ζ wy<=6011:=by rw[qh];simp only[Ca,Ti,Th];omega
 have hb:=hd.ge aC;clear hd aC yC qh yD
 replace kj:bb=Α->DX=match pP y wy w9 with
  | .error e=>.error e
  | .ok l=>Be l []:=λh=>by subst h;exact kj y wy rfl
 replace qz:bb=γ->DX= .ok []:=λh=>by subst h;exact qz y wy rfl
 have Lo:=Xz y wy w9;have XC:= @Ln y wy w9;generalize pP y wy w9=LE at*;obtain⟨yn,ya,yk,yt⟩:=y;generalize hWy:mz (.mk yn ya yk yt)=Wy at*;simp only[my,eh,agb,af_]at Lo ⊢;refine ae cg ?_;refine VC.al ?_;rintro OC ⟨U6,hyC,hnC⟩;have hd:=hb.ge U6;clear hb U6;cases bb;rw[qz rfl]at hP;simp only[rI]at hP;refine ν cg ?_;exact aB.mk ([],.nil) ⟨hd,hP⟩;rw[kj rfl]at hP;clear qz kj;refine κ cg ?_;refine ο cg hyC ?_;refine ah.p (Lo OC (by omega) (by omega) (by decide)) ?_ ?_;rotate_left
 ·rintro m O9 ⟨bI,h⟩;cases LE with
  | ok y=>exact h.elim
  | error e=>
    dsimp only at h;simp only[rI]at hP;rw[h, <-hP];refine ae cg ?_;exact⟨hd.eR.trans bI,rfl⟩
 rintro m OD ⟨bI,h⟩;cases LE with
 | error e=>exact h.elim
 | ok L=>
 dsimp only at h hP;obtain⟨tL,rfl⟩:=h;obtain⟨qe,hLm⟩:=XC rfl;have hb:=hd.ge bI;clear hd bI XC Lo hyC;refine ae cg ?_;refine Θ [50] [4,48,49] (λx:Nat×List iB×Tok=>[mi x.1]) (λx O'=>DS O O.N [a,b,c,d,e] O' [.s s1,.s s2,.s s3,.s s4,.s s5,mi sc.1,mi o,.l (Ζ x.2.1) (x.2.1.flatMap cM) x.2.2]/\App O' (O.N+2) 2 x.2.2/\x.1<=(Ζ L)/\(Ζ x.2.1)=x.1/\rI ⟨s1,s2,s3,s4,s5,sc.1,o,[]⟩ (Be (L.drop x.1) x.2.1)=PE) (λx=>(Ζ L) - x.1) ((0,[],.nil)) ?_ ?_;exact⟨hb,trivial,aka _,rfl,hP⟩;rintro⟨j,X,tk⟩ O3 ⟨hd,cH,hj,H6,hP⟩;dsimp only at hd cH hj H6 hP ⊢;by_cases aM:j<Ζ L;rotate_left
 ·obtain rfl:j=Ζ L:=by omega
  rw[alT (abx _),Be]at hP;refine ν cg ?_;exact aB.mk (X,tk) ⟨hd,hP⟩
 have bG:((xc L).drop (j*5)).take 5=my L[j].1 L[j].2:=c9 Ik L j aM;have hL5:=Ai L;rw[alQ aM,Be]at hP;obtain⟨hzW,Q0⟩:=hLm L[j] (ake aM);generalize L[j]=zz at*;obtain⟨z,wz⟩:=zz;dsimp only at hzW Q0;have nC:=λO'=>sQ z wz fb Α jD 309 [] O' (by omega) (by simp only[Ti,Th]at Q0;omega) (by decide) (by kernel_rfl) (λs n5 _ hs=>QZ s n5 hs)
 have AJ:=λO'=>sQ z wz eU Α jD 309 [] O' (by omega) (by simp only[Ti,Th]at Q0;omega) (by decide) (by kernel_rfl) (λs n5 _ hs=>QZ s n5 hs)
 unfold exE at hP;dsimp only at hP;generalize cz z wz fb Α jD=W1 at*;generalize cz z wz eU Α jD=W2 at*;obtain⟨zn,za,dJ,zt⟩:=z;simp only[my,eh,agb,af_]at bG nC AJ;refine κ cg ?_;refine κ cg ?_;refine Γ (χ ?_);refine ξ cg bG ?_;refine VC.al ?_;rintro O4 ⟨aT,nD,fT⟩;have hb:=hd.ge aT;have mP:=cH.ge aT;have iM:O.N+1<O3.N:=hd.lt;clear hd aT cH;refine VC.pI [8,9,10] (O3.N) (nD) ?_;intro XX;refine ρ 0 cg ?_;refine δ (m:=.agg [.s zn,.l (Ζ za) (za.flatMap bH) .au,.l (Ζ dJ) (aG dJ) .au,.s zt,.s wz]) 2 ?_ ?_;exact ff cg;simp only[ak];refine δ (m:=.agg [.s zn,.l (Ζ za) (za.flatMap bH) .au,.l (Ζ dJ) (aG dJ) .au,.s zt,.s wz]) 4 ?_ ?_;exact ff cg;simp only[ak];have gx:=mP.qW (k:=O3.N) (x:=.obj XX) (by rw[nD];simp);have hXX:=υ O4 O3.N (.obj XX);have dE:=(π O4 (.obj XX) (by omega:O.N+1≠O3.N)).trans hb.d;have nv:∀O9,(O4.set O3.N (.obj XX)).Ge O9->O.Ge O9:=λO9 g=>((hb.eR.set (by omega) _).trans g)
 have ir:∀O9,(O4.set O3.N (.obj XX)).Ge O9->O9.hp O3.N=φ (.obj XX)/\O9.hp (O.N+1)=φ (.cells [.s s1,.s s2,.s s3,.s s4,.s s5,mi sc.1,mi o,.l (Ζ X) (X.flatMap cM) tk]):=λO9 g=>⟨(g.hp _ (by show O3.N<O4.N;omega)).trans hXX,(g.hp _ (by show O.N+1<O4.N;omega)).trans dE⟩
 have JZ:=λ(O9:VH)(g:(O4.set O3.N (.obj XX)).Ge O9)(y:cx)=>hb.akR (k:=O3.N) iM g (y:=y)
 clear dE;generalize O4.set O3.N (.obj XX)=O5 at*;refine aqJ (i:=1) (j:=3) ?_ ?_
 ·refine aI.o1 ?_;refine ao cg (ir _ (VH.Ge.refl _)).2 ?_;refine⟨(ir _ (VH.Ge.refl _)).1,?_⟩;have hG:=VH.Ge.refl O5;refine ab.sS (i:=3) (nC O5) ?_ ?_;rotate_left
  ·rintro m O9 ⟨bI,h⟩;cases W1 with
   | ok s=>exact h.elim
   | error e=>
     dsimp only at h hP;simp only[rI]at hP;rw[h, <-hP];refine ae cg ?_;exact⟨nv _ (hG.trans bI),rfl⟩
  rintro m O6 ⟨bI,h⟩;cases W1 with
  | error e=>exact h.elim
  | ok sg=>
  dsimp only at h hP;subst h;simp only[ak]
  replace hG:=hG.trans bI
  clear bI;refine⟨(ir _ hG).1,?_⟩;refine ab.sS (i:=5) (AJ O6) ?_ ?_;rotate_left
  ·rintro m O9 ⟨bI,h⟩;cases W2 with
   | ok s=>exact h.elim
   | error e=>
     dsimp only at h hP;simp only[rI]at hP;rw[h, <-hP];refine ae cg ?_;exact⟨nv _ (hG.trans bI),rfl⟩
  rintro m OF ⟨bI,h⟩;cases W2 with
  | error e=>exact h.elim
  | ok sa=>
  dsimp only at h hP;subst h;simp only[ak]
  replace hG:=hG.trans bI
  clear bI;refine⟨(ir _ hG).1,?_⟩;refine ρ 6 cg ?_;refine ab.op (i:=7) ?_;refine ae cg ?_;refine⟨(ir _ hG).1,?_⟩;refine aqQ [(8,.one),(9,.bh),(10,.one)] ?_;have xr:=JZ _ hG (.cells [.s zn,.l (Ζ za) (za.flatMap bH) .au,.l (Ζ dJ) (aG dJ) .au,.s zt,.s wz]);have yF:=(gx.ge hG).qW (k:=O3.N) (x:=.cells [.s zn,.l (Ζ za) (za.flatMap bH) .au,.l (Ζ dJ) (aG dJ) .au,.s zt,.s wz]) (by rw[(ir _ hG).1];simp);refine ae cg ?_;obtain⟨mE,ik,ns⟩:=iH (n:=Ζ X) (cs:=X.flatMap cM) (ds:=[.s sg,.s sa]) (es:=cM ⟨sg,sa⟩) HW FE.1.1 yF (bk pN X) rfl rfl (by decide) (by omega) (by simp only[maxLen];omega) (pO X) (by simp only[cM,wu]);refine aqM ik ns ?_;have B1:=xr.app yF;have B2:=B1.d;have Iq:=B1.st (cs':=[.s s1,.s s2,.s s3,.s s4,.s s5,mi sc.1,mi o,.l (Ζ X+1) (X.flatMap cM++cM ⟨sg,sa⟩) (.own OF.N 2)]);have yG:=(App.after (B:=O.N+2) (sz:=2) (tk:=tk) (O:=OF.set O3.N (.cells [.s zn,.l (Ζ za) (za.flatMap bH) .au,.l (Ζ dJ) (aG dJ) .au,.s zt,.s wz])) (by have:=xr.lt;omega)).qW (k:=O.N+1) (x:=.cells [.s s1,.s s2,.s s3,.s s4,.s s5,mi sc.1,mi o,.l (Ζ X+1) (X.flatMap cM++cM ⟨sg,sa⟩) (.own OF.N 2)]) (by rw[B2];simp);simp only[aq]at Iq yG;generalize (OF.set O3.N (.cells [.s zn,.l (Ζ za) (za.flatMap bH) .au,.l (Ζ dJ) (aG dJ) .au,.s zt,.s wz])).after tk=OG at*;refine ao cg B2 ?_;have cA:=jSx j;((have cX:(X++[(⟨sg,sa⟩:iB)]).flatMap cM=X.flatMap cM++cM ⟨sg,sa⟩:=by simp);have tO:(X++[(⟨sg,sa⟩:iB)]).length=Ζ X+1:=by simp);refine ο cg cA ?_;exact az.N (j+1,X++[(⟨sg,sa⟩:iB)],.own OF.N 2) ⟨by dsimp only;rw[cX,tO];exact Iq,yG,aM,by dsimp only;rw[tO,H6],hP⟩
 ·have hG:=VH.Ge.refl O5;refine aI.sS (nC O5) ?_ ?_;rotate_left
  ·rintro m O9 ⟨bI,h⟩;cases W1 with
   | ok s=>exact h.elim
   | error e=>
     dsimp only at h hP;simp only[rI]at hP;rw[h, <-hP];refine ae cg ?_;exact⟨nv _ (hG.trans bI),rfl⟩
  rintro m O6 ⟨bI,h⟩;cases W1 with
  | error e=>exact h.elim
  | ok sg=>
  dsimp only at h hP;subst h;simp only[ak]
  replace hG:=hG.trans bI
  clear bI;refine⟨(ir _ hG).1,?_⟩;refine aqJ (i:=1) (j:=5) ?_ ?_
  ·refine aI.o1 ?_;refine ao cg (ir _ hG).2 ?_;refine⟨(ir _ hG).1,?_⟩;refine ab.sS (i:=5) (AJ O6) ?_ ?_;rotate_left
   ·rintro m O9 ⟨bI,h⟩;cases W2 with
    | ok s=>exact h.elim
    | error e=>
      dsimp only at h hP;simp only[rI]at hP;rw[h, <-hP];refine ae cg ?_;exact⟨nv _ (hG.trans bI),rfl⟩
   rintro m OF ⟨bI,h⟩;cases W2 with
   | error e=>exact h.elim
   | ok sa=>
   dsimp only at h hP;subst h;simp only[ak]
   replace hG:=hG.trans bI
   clear bI;refine⟨(ir _ hG).1,?_⟩;refine ρ 6 cg ?_;refine ab.op (i:=7) ?_;refine ae cg ?_;refine⟨(ir _ hG).1,?_⟩;refine aqQ [(8,.one),(9,.bh),(10,.one)] ?_;have xr:=JZ _ hG (.cells [.s zn,.l (Ζ za) (za.flatMap bH) .au,.l (Ζ dJ) (aG dJ) .au,.s zt,.s wz]);have yF:=(gx.ge hG).qW (k:=O3.N) (x:=.cells [.s zn,.l (Ζ za) (za.flatMap bH) .au,.l (Ζ dJ) (aG dJ) .au,.s zt,.s wz]) (by rw[(ir _ hG).1];simp);refine ae cg ?_;obtain⟨mE,ik,ns⟩:=iH (n:=Ζ X) (cs:=X.flatMap cM) (ds:=[.s sg,.s sa]) (es:=cM ⟨sg,sa⟩) HW FE.1.1 yF (bk pN X) rfl rfl (by decide) (by omega) (by simp only[maxLen];omega) (pO X) (by simp only[cM,wu]);refine aqM ik ns ?_;have B1:=xr.app yF;have B2:=B1.d;have Iq:=B1.st (cs':=[.s s1,.s s2,.s s3,.s s4,.s s5,mi sc.1,mi o,.l (Ζ X+1) (X.flatMap cM++cM ⟨sg,sa⟩) (.own OF.N 2)]);have yG:=(App.after (B:=O.N+2) (sz:=2) (tk:=tk) (O:=OF.set O3.N (.cells [.s zn,.l (Ζ za) (za.flatMap bH) .au,.l (Ζ dJ) (aG dJ) .au,.s zt,.s wz])) (by have:=xr.lt;omega)).qW (k:=O.N+1) (x:=.cells [.s s1,.s s2,.s s3,.s s4,.s s5,mi sc.1,mi o,.l (Ζ X+1) (X.flatMap cM++cM ⟨sg,sa⟩) (.own OF.N 2)]) (by rw[B2];simp);simp only[aq]at Iq yG;generalize (OF.set O3.N (.cells [.s zn,.l (Ζ za) (za.flatMap bH) .au,.l (Ζ dJ) (aG dJ) .au,.s zt,.s wz])).after tk=OG at*;refine ao cg B2 ?_;have cA:=jSx j;((have cX:(X++[(⟨sg,sa⟩:iB)]).flatMap cM=X.flatMap cM++cM ⟨sg,sa⟩:=by simp);have tO:(X++[(⟨sg,sa⟩:iB)]).length=Ζ X+1:=by simp);refine ο cg cA ?_;exact az.N (j+1,X++[(⟨sg,sa⟩:iB)],.own OF.N 2) ⟨by dsimp only;rw[cX,tO];exact Iq,yG,aM,by dsimp only;rw[tO,H6],hP⟩
  ·refine aI.sS (AJ O6) ?_ ?_;rotate_left
   ·rintro m O9 ⟨bI,h⟩;cases W2 with
    | ok s=>exact h.elim
    | error e=>
      dsimp only at h hP;simp only[rI]at hP;rw[h, <-hP];refine ae cg ?_;exact⟨nv _ (hG.trans bI),rfl⟩
   rintro m OF ⟨bI,h⟩;cases W2 with
   | error e=>exact h.elim
   | ok sa=>
   dsimp only at h hP;subst h;simp only[ak]
   replace hG:=hG.trans bI
   clear bI;refine⟨(ir _ hG).1,?_⟩;refine ρ 6 cg ?_;refine aqJ (i:=1) (j:=7) ?_ ?_;refine aI.o1 ?_;refine ao cg (ir _ hG).2 ?_;refine⟨(ir _ hG).1,?_⟩;refine ab.op (i:=7) ?_;refine ae cg ?_;refine⟨(ir _ hG).1,?_⟩;refine aqQ [(8,.one),(9,.bh),(10,.one)] ?_;have xr:=JZ _ hG (.cells [.s zn,.l (Ζ za) (za.flatMap bH) .au,.l (Ζ dJ) (aG dJ) .au,.s zt,.s wz]);have yF:=(gx.ge hG).qW (k:=O3.N) (x:=.cells [.s zn,.l (Ζ za) (za.flatMap bH) .au,.l (Ζ dJ) (aG dJ) .au,.s zt,.s wz]) (by rw[(ir _ hG).1];simp);refine ae cg ?_;obtain⟨mE,ik,ns⟩:=iH (n:=Ζ X) (cs:=X.flatMap cM) (ds:=[.s sg,.s sa]) (es:=cM ⟨sg,sa⟩) HW FE.1.1 yF (bk pN X) rfl rfl (by decide) (by omega) (by simp only[maxLen];omega) (pO X) (by simp only[cM,wu]);refine aqM ik ns ?_;have B1:=xr.app yF;have B2:=B1.d;have Iq:=B1.st (cs':=[.s s1,.s s2,.s s3,.s s4,.s s5,mi sc.1,mi o,.l (Ζ X+1) (X.flatMap cM++cM ⟨sg,sa⟩) (.own OF.N 2)]);have yG:=(App.after (B:=O.N+2) (sz:=2) (tk:=tk) (O:=OF.set O3.N (.cells [.s zn,.l (Ζ za) (za.flatMap bH) .au,.l (Ζ dJ) (aG dJ) .au,.s zt,.s wz])) (by have:=xr.lt;omega)).qW (k:=O.N+1) (x:=.cells [.s s1,.s s2,.s s3,.s s4,.s s5,mi sc.1,mi o,.l (Ζ X+1) (X.flatMap cM++cM ⟨sg,sa⟩) (.own OF.N 2)]) (by rw[B2];simp);simp only[aq]at Iq yG;generalize (OF.set O3.N (.cells [.s zn,.l (Ζ za) (za.flatMap bH) .au,.l (Ζ dJ) (aG dJ) .au,.s zt,.s wz])).after tk=OG at*;refine ao cg B2 ?_;have cA:=jSx j;(((have cX:(X++[(⟨sg,sa⟩:iB)]).flatMap cM=X.flatMap cM++cM ⟨sg,sa⟩:=by simp);have tO:(X++[(⟨sg,sa⟩:iB)]).length=Ζ X+1:=by simp);refine ο cg cA ?_;exact az.N (j+1,X++[(⟨sg,sa⟩:iB)],.own OF.N 2) ⟨by dsimp only;rw[cX,tO];exact Iq,yG,aM,by dsimp only;rw[tO,H6],hP⟩);refine aI.o1 ?_;refine ae cg ?_;refine⟨(ir _ hG).1,?_⟩;refine ab.op (i:=1) ?_;refine ao cg (ir _ hG).2 ?_;refine⟨(ir _ hG).1,?_⟩;refine aqQ [(8,.one),(9,.bh),(10,.one)] ?_;have xr:=JZ _ hG (.cells [.s zn,.l (Ζ za) (za.flatMap bH) .au,.l (Ζ dJ) (aG dJ) .au,.s zt,.s wz]);have yF:=(gx.ge hG).qW (k:=O3.N) (x:=.cells [.s zn,.l (Ζ za) (za.flatMap bH) .au,.l (Ζ dJ) (aG dJ) .au,.s zt,.s wz]) (by rw[(ir _ hG).1];simp);refine ae cg ?_;obtain⟨mE,ik,ns⟩:=iH (n:=Ζ X) (cs:=X.flatMap cM) (ds:=[.s sg,.s sa]) (es:=cM ⟨sg,sa⟩) HW FE.1.1 yF (bk pN X) rfl rfl (by decide) (by omega) (by simp only[maxLen];omega) (pO X) (by simp only[cM,wu]);refine aqM ik ns ?_;have B1:=xr.app yF;have B2:=B1.d;have Iq:=B1.st (cs':=[.s s1,.s s2,.s s3,.s s4,.s s5,mi sc.1,mi o,.l (Ζ X+1) (X.flatMap cM++cM ⟨sg,sa⟩) (.own OF.N 2)]);have yG:=(App.after (B:=O.N+2) (sz:=2) (tk:=tk) (O:=OF.set O3.N (.cells [.s zn,.l (Ζ za) (za.flatMap bH) .au,.l (Ζ dJ) (aG dJ) .au,.s zt,.s wz])) (by have:=xr.lt;omega)).qW (k:=O.N+1) (x:=.cells [.s s1,.s s2,.s s3,.s s4,.s s5,mi sc.1,mi o,.l (Ζ X+1) (X.flatMap cM++cM ⟨sg,sa⟩) (.own OF.N 2)]) (by rw[B2];simp);simp only[aq]at Iq yG;generalize (OF.set O3.N (.cells [.s zn,.l (Ζ za) (za.flatMap bH) .au,.l (Ζ dJ) (aG dJ) .au,.s zt,.s wz])).after tk=OG at*;refine ao cg B2 ?_;have cA:=jSx j;((have cX:(X++[(⟨sg,sa⟩:iB)]).flatMap cM=X.flatMap cM++cM ⟨sg,sa⟩:=by simp);have tO:(X++[(⟨sg,sa⟩:iB)]).length=Ζ X+1:=by simp);refine ο cg cA ?_;exact az.N (j+1,X++[(⟨sg,sa⟩:iB)],.own OF.N 2) ⟨by dsimp only;rw[cX,tO];exact Iq,yG,aM,by dsimp only;rw[tO,H6],hP⟩
def oW:=WT cg<|WT HX Eo
def uF(fF:Bool):List (Nd×Bs)->List Dp->Except (Int×Bs) (List Dp)
 | [],D=>.ok D
 | k::r,D=>match Ip k.1 k.2 fF with
   | .error e=>.error e
   | .ok d=>uF fF r (D++[d])
def n7(x:Nd)(w:Bs)(fF:Bool):Except (Int×Bs) (List Dp):=
 match cW x w n4 with
 | .error e=>.error e
 | .ok ((_,_),γ)=>.ok []
 | .ok ((y,wy),Α)=>match pP y wy nO with
   | .error e=>.error e
   | .ok L=>uF fF L []
def XD(x:Nd)(w:Bs)(fF:Bool)(O:VH)(hx:mz x<=1000000)(hw:Ζ w<=4000):
  VF Ε 268 [.agg (my x w),mb fF] O (FQ O (n7 x w fF) λy m=>∃tk,m= .l (Ζ y) (y.flatMap aX) tk):=by
 have yB:=vg x w n4;have gW:=lQ x;have yC:= @vi x w n4;have yD:∀e,cW x w n4= .error e->n7 x w fF= .error e:=λe h=>by unfold n7;rw[h]
 have qz:∀y wy,cW x w n4= .ok ((y,wy),γ)->n7 x w fF= .ok []:=λy wy h=>by unfold n7;rw[h]
 have kj:∀y wy,cW x w n4= .ok ((y,wy),Α)->n7 x w fF=match pP y wy nO with
  | .error e=>.error e
  | .ok L=>uF fF L []:=λy wy h=>by unfold n7;rw[h]
 generalize n7 x w fF=PE at*;generalize cW x w n4=F at*;obtain⟨n,a,k,t⟩:=x;generalize hW:mz (.mk n a k t)=W at*;simp only[my,eh,agb,af_]at yB ⊢;refine ω 31 [.tmp 4] func268 ?_;refine κ oW ?_;refine VC.bx ?_;rintro O1 ⟨aK,eS,dd⟩;refine ξ oW eS ?_;refine ah.p (yB O1 (by omega) (by omega) (by decide)) ?_ ?_;rotate_left
 ·rintro m O2 ⟨aC,h⟩;cases F with
  | ok y=>exact h.elim
  | error e=>
    dsimp only at h;rw[yD e rfl];refine ae oW ?_;exact⟨aK.trans aC,h⟩
 rintro m O2 ⟨aC,h⟩;cases F with
 | error e=>exact h.elim
 | ok y=>
 obtain⟨⟨y,wy⟩,b⟩:=y;dsimp only at h;subst h;obtain⟨hyW,qh⟩:=yC rfl;have lZ:Ζ wy<=4013:=by rw[qh];simp only[Ca,Ti,Th];omega
 clear yC qh yD
 replace kj:b=Α->PE=match pP y wy nO with
  | .error e=>.error e
  | .ok L=>uF fF L []:=λh=>by subst h;exact kj y wy rfl
 replace qz:b=γ->PE= .ok []:=λh=>by subst h;exact qz y wy rfl
 have Lo:=Xz y wy nO;have XC:= @Ln y wy nO;generalize pP y wy nO=LE at*;obtain⟨yn,ya,yk,yt⟩:=y;generalize hWy:mz (.mk yn ya yk yt)=Wy at*;simp only[my,eh,agb,af_]at Lo ⊢;have gy:=aK.trans aC;refine ae oW ?_;refine VC.al ?_;rintro O3 ⟨aJ,QQ,ij⟩;have eW:=gy.trans aJ;cases b;rw[qz rfl];refine ν oW ?_;exact⟨eW,.nil,rfl⟩
 replace kj:=kj rfl
 clear qz;refine κ oW ?_;refine VC.join aa [4] (λx:List Dp×Tok=>[.l (Ζ x.1) (x.1.flatMap aX) x.2]) (λx O'=>O.Ge O'/\PE= .ok x.1) ?_ ?_;rotate_left;rintro⟨L,tl⟩ O9 ⟨bI,hP⟩;rw[hP];refine ae oW ?_;exact⟨bI,tl,rfl⟩;refine ξ oW QQ ?_;refine ah.p (Lo O3 (by omega) (by omega) (by decide)) ?_ ?_;rotate_left
 ·rintro m O9 ⟨bI,h⟩;cases LE with
  | ok y=>exact h.elim
  | error e=>
    dsimp only at h kj;rw[h,kj];refine ae oW ?_;exact⟨eW.trans bI,rfl⟩
 rintro m O4 ⟨aT,h⟩;cases LE with
 | error e=>exact h.elim
 | ok L=>
 dsimp only at h kj;obtain⟨tL,rfl⟩:=h;obtain⟨qe,hLm⟩:=XC rfl;have iS:=eW.trans aT;refine ae oW ?_;refine χ ?_;refine Θ [4,19] [1,17,18] (λx:Nat×List Dp×Tok=>[.l (Ζ x.2.1) (x.2.1.flatMap aX) x.2.2,mi x.1]) (λx O'=>O4.Ge O'/\App O' O4.N 8 x.2.2/\x.1<=(Ζ L)/\(Ζ x.2.1)=x.1/\PE=uF fF (L.drop x.1) x.2.1) (λx=>(Ζ L) - x.1) ((0,[],.nil)) ?_ ?_;exact⟨VH.Ge.refl _,trivial,aka _,rfl,kj⟩;rintro⟨j,X,tk⟩ O5 ⟨bO,cH,hj,H6,hP⟩;dsimp only at cH hj H6 hP ⊢;by_cases aM:j<Ζ L;rotate_left
 ·obtain rfl:j=Ζ L:=by omega
  rw[alT (abx _),uF]at hP;refine ν oW ?_;exact aB.mk (X,tk) ⟨iS.trans bO,hP⟩
 have bG:((xc L).drop (j*5)).take 5=my L[j].1 L[j].2:=c9 Ik L j aM;have hL5:=Ai L;rw[alQ aM,uF]at hP;obtain⟨hzW,Q0⟩:=hLm L[j] (ake aM);generalize L[j]=zz at*;obtain⟨z,wz⟩:=zz;dsimp only at hzW Q0 hP bG;have Ds:=λO'=>akS z wz fF O' (by omega) (by simp only[Ti,Th]at Q0;omega)
 generalize Ip z wz fF=W1 at*;obtain⟨zn,za,dJ,zt⟩:=z;simp only[my,eh,agb,af_]at bG Ds;have eJ:=bO.N;refine κ oW ?_;refine κ oW ?_;refine Γ (χ ?_);refine ξ oW bG ?_;refine VC.al ?_;rintro O6 ⟨gN,pc,oD⟩;have oc:=cH.ge gN;have QU:=bO.trans gN;refine ο oW pc ?_;refine ah.p (Ds O6) ?_ ?_;rotate_left
 ·rintro m O9 ⟨bI,h⟩;cases W1 with
  | ok y=>exact h.elim
  | error e=>
    dsimp only at h hP;rw[h,hP];refine ae oW ?_;exact⟨(iS.trans QU).trans bI,rfl⟩
 rintro m O7 ⟨fG,h⟩;cases W1 with
 | error e=>exact h.elim
 | ok d=>
 dsimp only at h hP;subst h;have lN:=oc.ge fG;have aiY:=QU.trans fG;have cA:=jSx j;have hud:dz (aX d)=aX d:=by simpa using nq [d]
 obtain⟨dg,da,dv,dt,dc,mI,dO,dx⟩:=d;have kV:(aX ⟨dg,da,dv,dt,dc,mI,dO,dx⟩).length=8:=rfl;obtain⟨mE,ik,ns⟩:=iH (n:=Ζ X) (cs:=X.flatMap aX) (ds:=aX ⟨dg,da,dv,dt,dc,mI,dO,dx⟩) (es:=aX ⟨dg,da,dv,dt,dc,mI,dO,dx⟩) HX Eo.1.1 lN (bk iQ X) rfl rfl (by decide) (by omega) (by simp only[maxLen];omega) (nq X) hud;simp only[aX,aq]at ik ns ⊢;refine ae oW ?_;refine aqM ik ns ?_;refine ae oW ?_;refine ο oW cA ?_;exact az.N (j+1,X++[⟨dg,da,dv,dt,dc,mI,dO,dx⟩],.own O7.N 8) ⟨cy.eR aiY lN (cy.after lN),App.after (by have:=aiY.N;omega),aM,by dsimp only;rw[Ca,H6];rfl,hP⟩ (hl:=(by dsimp only;rw[alR,Ca];simp only[akd,alU,agc,aX,aq];rfl))
def av:=WT bU<|WT aiS<|WT amU<|WT amV<|WT amW amT
def Dt(e:Int)(off:Nat):MV:=.iface 414 (.agg [mi e,mi off])
def am8 :M0 414 (bR Ε 414) (φ p)=φ (.iface 414 p):=by rw[aiS.1.1];rfl
def jZ(e:Int)(off:Nat)(O:VH):VF Ε 313 [mi e,mi off] O λr O'=>O'=O/\match r with
  | .ret _=>False
  | .panic m=>m=Dt e off:=by
 refine Υ 8 [] func313 ?_;refine cB av @wi @wd @am8 ?_;refine VL.panic rfl rfl rfl ?_;refine ae @wd ?_;rfl
def Rd(O:VH)(k:Nat)(t:Bs)(off:Nat)(X:MV):Prop:=k<O.N/\O.hp k=φ (.cells [.s t,mi off,X])
def Rd.ge{k:Nat}{t:Bs}(h:Rd O k t off X)(g:O.Ge O'):Rd O' k t off X:=⟨akc h.1 g.N,(g.hp _ h.1).trans h.2⟩
def Rd.set{k off':Nat}{t t':Bs}{X':MV}(h:Rd O k t off X):Rd (O.set k (.cells [.s t',mi off',X'])) k t' off' X':=⟨h.1,υ _ _ _⟩
def Ak{k:Nat}{t:Bs}(h:Rd O k t off X)(ho:off<=Ζ t):VF Ε 311 [.p k 0] O (aH λm O'=>m= .s (t.drop off)/\O'=O):=by
 have hk:=h.2;simp only[aq]at hk;refine ω 12 [.tmp 2] func311 ?_;refine κ av ?_;refine Γ ?_;refine WC.reads ?_;refine ao av hk ?_;refine ν av ?_;trivial
def pR{k:Nat}{t:Bs}(h:Rd O k t off X):VF Ε 275 [.p k 0] O (aH λm O'=>m=mb (decide (Ζ t<=off))/\O'=O):=by
 have hk:=h.2;simp only[aq]at hk;refine ω 13 [.tmp 2] func275 ?_;refine κ av ?_;refine Γ ?_;refine WC.reads ?_;by_cases h1:Ζ t<=off;rw[decide_eq_true h1];refine ao av hk ?_;refine ν av ?_;trivial;rw[decide_eq_false h1];refine ao av hk ?_;refine ν av ?_;trivial
def sV{k:Nat}{t:Bs}(p:Bs)(h:Rd O k t off X)(ho:off<=Ζ t:=by omega):VF Ε 291 [.p k 0,.s p] O (aH λm O'=>m=mb (eX (t.drop off) p)/\O'=O):=by
 refine Υ 9 [.tmp 4] func291 ?_;refine ae av ?_;refine Ω (Ak h ho) ?_;refine ae av ?_;refine Ω (pQ (t.drop off) p _) ?_;exact ff av
def TQ{α :Type}(O:VH)(k:Nat)(t:Bs)(X:MV)(f:Except (Int×Nat) (α ×Nat))(R: α ->MV->Prop):iE->VH->Prop:=λr O'=>bM O (φ k) O'/\match r,f with
 | .ret m,.ok x=>R x.1 m/\Rd O' k t x.2 X
 | .panic m,.error e=>m=Dt e.1 e.2
 | _,_=>False
def ku(t:Bs)(off:Nat)(p:Bs):Except (Int×Nat) (Unit×Nat):=
 if (Ζ t)<=off then .error (13,off)else if eX (t.drop off) p then .ok ((),off+Ζ p)else .error (10,off)
def wD{k:Nat}{t:Bs}(p:Bs)(h:Rd O k t off X)(ht:Ζ t<=1000000)(hp:Ζ p<=1000):VF Ε 296 [.p k 0,.s p] O (TQ O k t X (ku t off p) λ_ m=>m= .tuple []):=by
 have hk:=h.2;simp only[aq]at hk;unfold ku;refine ω 37 [] func296 ?_;refine κ av ?_;refine Ω (pR h) ?_;by_cases h1:Ζ t<=off;rw[decide_eq_true h1,if_pos h1];refine ao av hk ?_;refine ah.p (jZ _ _ _) ?_ ?_;rintro m O9 ⟨_,h⟩;exact h.elim;rintro m O9 ⟨rfl,rfl⟩;refine ae av ?_;exact⟨bM.refl _ _,rfl⟩;rw[decide_eq_false h1,if_neg h1];refine ao av hk ?_;refine ξ av hk ?_;refine Ω (sV p h) ?_;cases h2:eX (t.drop off) p;refine ao av hk ?_;refine ah.p (jZ _ _ _) ?_ ?_;rintro m O9 ⟨_,h⟩;exact h.elim;rintro m O9 ⟨rfl,rfl⟩;refine ae av ?_;exact⟨bM.refl _ _,rfl⟩;refine ao av hk ?_;refine ο av hk ?_;exact⟨bM.set,rfl,by simpa[aq]using h.set (t':=t) (off':=off+Ζ p) (X':=X)⟩
def kO(t:Bs)(off:Nat)(e:Int):Except (Int×Nat) (Bs×Nat):=
 if (Ζ t)<=off then .error (13,off)else if lL (t.drop off)=0 then .error (e,off)else .ok ((t.drop off).take (lL (t.drop off)),off+lL (t.drop off))
def Du{k:Nat}{t:Bs}(e:Int)(h:Rd O k t off X)(ht:Ζ t<=1000000):VF Ε 294 [.p k 0,mi e] O (TQ O k t X (kO t off e) λy m=>m= .s y):=by
 have hk:=h.2;have AI:=FH (t.drop off);rw[alO]at AI;have Gl:=ahp (t.drop off) O (YI (by rw[alO];omega:(t.drop off).length<=1000000) (by decide));simp only[aq]at hk;unfold kO;generalize lL (t.drop off)=n at*;refine ω 58 [.tmp 4] func294 ?_;refine κ av ?_;refine κ av ?_;refine Ω (pR h) ?_;by_cases h1:Ζ t<=off;rw[decide_eq_true h1,if_pos h1];refine ao av hk ?_;refine ah.p (jZ _ _ _) ?_ ?_;rintro m O9 ⟨_,h⟩;exact h.elim;rintro m O9 ⟨rfl,rfl⟩;refine ae av ?_;exact⟨bM.refl _ _,rfl⟩;rw[decide_eq_false h1,if_neg h1];refine ao av hk ?_;refine ξ av hk ?_;refine Ω (Ak h (by omega)) ?_;refine ae av ?_;refine Ω (Gl) ?_;refine ae av ?_;by_cases h2:n=0;rw[if_pos h2];refine θ (aE av hk h2 ?_);refine ah.p (jZ _ _ _) ?_ ?_;rintro m O9 ⟨_,h⟩;exact h.elim;rintro m O9 ⟨rfl,rfl⟩;refine ae av ?_;exact⟨bM.refl _ _,rfl⟩;rw[if_neg h2];refine ξ @av @hk ?_;refine ξ @av @hk ?_;have hr:Rd (O.set k (.cells [.s t,mi (off+n:Nat),X])) k t (off+n) X:=h.set;have bY:=hr.2;have hu:bM O (φ k) (O.set k (.cells [.s t,mi (off+n:Nat),X])):=bM.set;have mR:(off:Int)+(n:Int)=((off+n:Nat):Int):=by omega
 simp only[aq, <-mR]at hr bY hu;generalize O.set k (.cells [.s t,.v (Ι Κ ((off:Int)+(n:Int))),X])=O2 at*;have xd:(off:Int)+(n:Int) - (n:Int)=(off:Int):=by omega
 have qX:((off:Int)+(n:Int)).toNat=off+n:=by omega
 refine Γ ?_;refine WC.reads ?_;refine cB av bY @xd qX ?_;refine ν av ?_;exact⟨hu,by rw[show off+n - off=n by omega],hr⟩
def l0(t:Bs)(off:Nat):Nat:=((t.drop off).takeWhile oa).length
def sW{k:Nat}{t:Bs}(h:Rd O k t off X)(ht:Ζ t<=1000000)(ho:off<=Ζ t):VF Ε 295 [.p k 0] O (TQ O k t X (.ok (l0 t off,off+l0 t off)) λy m=>m=mi y):=by
 have hk:=h.2;simp only[aq]at hk;refine ω 44 [.tmp 2] func295 ?_;refine κ av ?_;refine ξ av hk ?_;refine Ξ [0,3] (λ_:Unit=>[.p k 0,mi off]) (λ_ O'=>bM O (φ k) O'/\Rd O' k t (off+l0 t off) X) ?_ ?_;rotate_left;rintro⟨⟩ O2 ⟨hu,hr⟩;have bY:=hr.2;((have xd:((off+l0 t off:Nat):Int) - (off:Int)=(l0 t off:Int):=by omega);have yy:l0 t off<=Ζ t:=by unfold l0;exact YI (qM _ _) (by rw[alO];omega));generalize l0 t off=n at*;simp only[aq]at bY;refine θ (aE av bY @xd ?_);refine ν av ?_;exact⟨hu,rfl,hr⟩
 refine χ ?_;refine Θ [] [0,3] (λo:Nat=>[]) (λo O'=>bM O (φ k) O'/\Rd O' k t o X/\off<=o/\o<=(Ζ t)/\off+l0 t off=o+l0 t o) (λo=>(Ζ t) - o) (off) ?_ ?_;exact⟨bM.refl _ _,h,abx _,ho,rfl⟩;rintro o O2 ⟨hu,hr,ho1,ho2,yy⟩;have bY:=hr.2;simp only[aq]at bY;by_cases h1:Ζ t<=o
 ·(have h0:l0 t o=0:=by unfold l0;rw[alT h1];rfl);rw[h0,Nat.add_zero]at yy;refine Γ (Γ ?_);refine VC.pF [4,5,6,7,8,9,10,11,12,13,14,15,16,17,18] ?_;refine ρ 0 av ?_;refine ρ 1 av ?_;refine ρ 2 av ?_;refine ab.call (i:=3) (pR hr) ?_;rintro _ O3 ⟨rfl,eO⟩;simp only[ak];rw[eO];clear eO O3
  rw[decide_eq_true h1];refine⟨VH.Ge.refl _,?_⟩;refine ab.bW [(4,.bh),(5,.bh),(6,.bh),(7,.bh),(8,.bh),(9,.bh),(10,.bh),(11,.bh),(12,.bh),(13,.bh),(14,.bh),(15,.bh),(16,.bh),(17,.bh),(18,.bh)] ?_;refine ae av ?_;refine ν av ?_;exact aB.mk () ⟨hu,yy▸hr⟩
 ·have h2:o<Ζ t:=by omega
  have hg:=aga h2;have hd:=alQ h2
  have oE:l0 t o=if oa t[o]then 1+l0 t (o+1)else 0:=by
   unfold l0;rw[hd];cases hb:oa t[o];rw[aoT (by simp[hb])];rfl;rw[ap2 hb,Ti,if_pos rfl,Nat.add_comm]
  generalize t[o]=c at*;refine Γ (Γ ?_);refine VC.pF [] ?_;refine ρ 0 av ?_;refine ρ 1 av ?_;refine ρ 2 av ?_;refine ab.call (i:=3) (pR hr) ?_;rintro _ O3 ⟨rfl,eO⟩;simp only[ak];rw[eO];clear eO O3;rw[decide_eq_false h1];refine⟨VH.Ge.refl _,?_⟩;refine ρ 4 av ?_;refine ρ 5 av ?_;refine ρ 6 av ?_;refine ρ 7 av ?_;refine ρ 8 av ?_;refine ρ 9 av ?_;refine ab.ld (m:=.s t) 10 ?_ ?_;exact eD av bY;simp only[ak];refine ρ 11 av ?_;refine ρ 12 av ?_;refine ρ 13 av ?_;refine ρ 14 av ?_;refine ab.ld (m:=.v (Ι Κ o)) 15 ?_ ?_;exact eD av bY;simp only[ak];refine ab.ql 16 av hg ?_;refine ab.call (i:=17) (sJ c _) ?_;rintro _ O3 ⟨rfl,eO⟩;simp only[ak];rw[eO];clear eO O3;refine⟨VH.Ge.refl _,?_⟩;refine ρ 18 av ?_;refine ab.bW [] ?_;cases hb:oa c;rw[hb,if_neg (by simp)]at oE;rw[oE,Nat.add_zero]at yy;refine ae av ?_;refine ν av ?_;exact aB.mk () ⟨hu,yy▸hr⟩;rw[hb,if_pos rfl]at oE;refine ae av ?_;refine ν av ?_;refine ο av bY ?_;exact az.N (o+1) ⟨hu.trans bM.set,by simpa[aq]using hr.set (t':=t) (off':=o+1) (X':=X),by omega,h2,by omega⟩
def eY:=WT av adb
def Ir(s:Ρ)(c:UInt8)(O:VH):fJ Ε 302 [.s s,im c] O λm O'=>m=mi (s.count c:Nat)/\O'=O:=by
 refine fJ.of (ex:=Extern.BytealgCount.count) func302 (by kernel_rfl) (by kernel_rfl) (by kernel_rfl) (by kernel_rfl) λG w vs hw hv=>?_
 obtain⟨u,us,rfl,h1,h2⟩:=hv.fH;obtain⟨u2,us2,rfl,h3,h4⟩:=h2.fH;rw[h4.jN];cases h1;have:=h3.j8;subst this;refine⟨_,Lib.run_countString _ _ w,?_⟩;have e:((c.toNat:Int).toNat).toUInt8=c:=by simp
 rw[e];exact .v rfl
def aat(s:Ρ)(c:UInt8)(O:VH):VF Ε 282 [.s s,.s [c]] O (aH λm O'=>m=mi (s.count c:Nat)/\O'=O):=by
 refine Υ 34 [.tmp 4] func282 ?_;refine aE av @Ti.{0} @Th.{0} ?_;refine ah.ext (Ir s c O) rfl ?_;rintro _ O2 ⟨rfl,eO⟩;rw[eO];clear eO O2;exact ff av
def iu(s:Bs)(c:UInt8):Nat->Int
 | 0=> -1
 | n+1=>if s[n]?=φ c then(n:Int)else iu s c n
def Is(s:Bs)(c:UInt8):∀n, -1<=iu s c n/\iu s c n<n
 | 0=>by simp[iu]
 | n+1=>by
   have:=Is s c n;unfold iu;split<;>omega
def pS(s:Ρ)(c:UInt8)(O:VH)(hs:Ζ s<=1000000):VF Ε 299 [.s s,im c] O (aH λm O'=>m=mi (iu s c (Ζ s))/\O'=O):=by
 refine Υ 19 [.tmp 4] func299 ?_;refine ae av ?_;refine WC.kh [5] [0,1] (λj:Nat=>[mi ((j:Int) - 1)]) (λj O'=>O'=O/\j<=(Ζ s)/\iu s c (Ζ s)=iu s c j) (λj=>j) (Ζ s) ?_ ?_;exact⟨rfl,abx _,rfl⟩;rintro j O2 ⟨eO,hj,hl⟩;rw[eO];clear eO O2;rcases j with _ | n;refine ae av ?_;rw[hl];rfl;have hg:=aga (show n<(Ζ s) by omega);have qX:(((n+1:Nat):Int) - 1).toNat=n:=by omega
 rw[show iu s c (n+1)=if s[n]?=φ c then(n:Int)else iu s c n from rfl,hg]at hl;generalize hx:s[n]=d at*;by_cases hd:d=c;rw[hd]at hl hg;rw[if_pos rfl]at hl;refine cB av hg qX @aO ?_;rw[hl]
 ·have kW:¬((d.toNat:Int)=(c.toNat:Int)):=λe=>hd (UInt8.toNat_inj.1 (by omega))
  rw[if_neg (by simpa using hd)]at hl;refine iV av hg qX @aO kW ?_;refine az.N (n) ?_;exact⟨rfl,by omega,hl⟩
def J1(s:Ρ)(c:UInt8)(O:VH)(hs:Ζ s<=1000000):VF Ε 283 [.s s,.s [c]] O (aH λm O'=>m=mi (iu s c (Ζ s))/\O'=O):=by
 refine Υ 36 [.tmp 4] func283 ?_;refine aE av @Ti.{0} @Th.{0} ?_;refine Ω (pS s c O hs) ?_;exact ff av
def Ez(s:Ρ)(c:UInt8)(O:VH)(hs:Ζ s<=1000000):VF Ε 277 [.s s,im c] O (aH λm O'=>m=mi (iu s c (Ζ s))/\O'=O):=by
 refine Υ 8 [.tmp 4] func277 ?_;refine ae av ?_;refine Ω (pS s c O hs) ?_;exact ff av
def r8(t:Bs)(o:Nat):MV:=.agg [mi o,mi (1+((t.take o).count 10:Nat)),mi ((o:Int) - iu (t.take o) 10 (t.take o).length)]
def aiZ(t:Bs)(o:Nat)(O:VH)(ht:Ζ t<=1000000)(ho:o<=Ζ t):VF Ε 261 [.s t,mi o] O (aH λm O'=>m=r8 t o/\O.Ge O'):=by
 have hb:=Is (t.take o) 10 (t.take o).length;have hc:=List.count_le_length (a:=(10:UInt8)) (l:=t.take o);have dm:(t.take o).length<=1000000:=by rw[List.length_take];omega
 unfold r8;refine Υ 23 [.cell 4 108] func261 ?_;have hmx:max (0:Int) (min (o:Int) ((t:Ρ).length:Int))=(o:Int):=by omega
 have qX:((o:Int)).toNat=o:=by omega
 refine aE eY hmx qX ?_;refine Ω (aat (t.take o) 10 _) ?_;refine ae eY ?_;refine Ω (J1 (t.take o) 10 _ dm) ?_;generalize iu (t.take o) 10 (t.take o).length=a at*;generalize (t.take o).count 10=b at*;refine ae eY ?_;first | exact(VH.Ge.refl O).push _ | exact((VH.Ge.refl O).push _).set (abx _) _
open Go.Shelf
def Tryz.Nv:Go.Shelf.Ren:=⟨λ | 143=>98 | 219=>122 | 217=>149 | 225=>150 | 224=>151 | 267=>152 | 266=>186 | 314=>187 | n=>n,λ | 9=>9 | 3=>3 | 4=>4 | 5=>5 | 46=>285 | 146=>331 | 51=>98 | n=>n,λ | 1=>0 | n=>n⟩
def Tryz.adv:Go.Proofs.Lays.n143 Ε Tryz.Nv:={
 mixed:=by kernel_rfl
 f143:=func98.trans (congrArg φ (by kernel_rfl))
 f217:=func149.trans (congrArg φ (by kernel_rfl))
 f219:=func122.trans (congrArg φ (by kernel_rfl))
 f224:=func151.trans (congrArg φ (by kernel_rfl))
 f225:=func150.trans (congrArg φ (by kernel_rfl))
 f266:=func186.trans (congrArg φ (by kernel_rfl))
 f267:=func152.trans (congrArg φ (by kernel_rfl))
 f314:=func187.trans (congrArg φ (by kernel_rfl))
 t3:=Tryz.underlying3
 a3:=Tryz.isAgg3
 z3:=Tryz.sizeOf3
 v3:=Tryz.zeroValue3
 t4:=Tryz.underlying4
 a4:=Tryz.isAgg4
 z4:=Tryz.sizeOf4
 v4:=Tryz.zeroValue4
 t5:=Tryz.underlying5
 a5:=Tryz.isAgg5
 z5:=Tryz.sizeOf5
 v5:=Tryz.zeroValue5
 t9:=Tryz.underlying9
 a9:=Tryz.isAgg9
 z9:=Tryz.sizeOf9
 v9:=Tryz.zeroValue9
 t46:=Tryz.underlying285
 a46:=Tryz.isAgg285
 z46:=Tryz.sizeOf285
 v46:=Tryz.zeroValue285
 t51:=Tryz.underlying98
 a51:=Tryz.isAgg98
 z51:=Tryz.sizeOf98
 v51:=Tryz.zeroValue98
 t146:=Tryz.underlying331
 a146:=Tryz.isAgg331
 z146:=Tryz.sizeOf331
 v146:=Tryz.zeroValue331
 g1:=by kernel_rfl}
open Go.RowKit Go.Lib in
def Tryz.strings_Index(s sub:ByteArray)(m:Int)(w:World)(hs:s.size<4294967281)(hm:w.cell? ⟨0,0,Β⟩=φ (.int .i64 m)):
  Calls Ε 98 #[.string s,.string sub] w λe w'=>e= .returned (.int .i64 (Lib.index s.data.toList sub.data.toList))/\w'=w:=Any.strings_Index Tryz.adv s sub m w hs hm
def Q2(s p:Ρ)(O:VH)(hs:Ζ s<4294967281):VF Ε 98 [.s s,.s p] O (aH λm O'=>m=mi (Lib.index s p)/\O'=O):=by
 intro G w vs hw hv;obtain⟨u,us,rfl,h1,h2⟩:=hv.fH;obtain⟨u2,us2,rfl,h3,h4⟩:=h2.fH;rw[h4.jN];cases h1;cases h3;obtain⟨m,hm⟩:=hw.alW (g:=0) (by decide);refine(Tryz.strings_Index ⟨⟨s⟩⟩ ⟨⟨p⟩⟩ m w hs hm).mono λe w' ⟨he,lI⟩=>?_
 subst lI;subst he;exact⟨.ret (mi (Lib.index s p)),O,G,Gh.Le.refl G,hw,.v rfl,rfl,rfl⟩
def index_le:∀(s p:Bs),Lib.index s p<=(Ζ s:Int)
 | [],p=>by unfold Lib.index;split<;>simp
 | b::l,p=>by
   have:=index_le l p;unfold Lib.index;rw[Ti];split;omega;split<;>omega
def adw{f:UInt8->Bool}:∀(s:Bs)(j:Nat)(c:UInt8),s[j]?=φ c->j<=(s.takeWhile f).length->if f c then j+1<=(s.takeWhile f).length else(s.takeWhile f).length=j
 | [],j,c,hj,_=>by simp at hj
 | d::s,0,c,hj,_=>by
   simp only[aqb,Option.some.injEq]at hj;subst hj;cases h:f d<;>simp[List.takeWhile,h]
 | d::s,j+1,c,hj,h=>by
   rw[ap5]at hj;cases hc:f d;rw[aoT (by simp[hc])]at h;simp at h;rw[ap2 hc,Ti]at h ⊢;have:=adw (f:=f) s j c hj (by omega);cases Ze:f c;simp only[Ze,ap6,if_false]at this ⊢;omega;simp only[Ze,if_true]at this ⊢;omega
def sX(s p:Bs):Bs:=if 0<=Lib.index s p then s.take (Lib.index s p).toNat else s
def kG(t:Bs)(o:Nat)(p:Bs):Except (Int×Nat) (Bs×Nat):=
 if((sX (t.drop o) p).takeWhile oS).length<(sX (t.drop o) p).length then .error (10,o+((sX (t.drop o) p).takeWhile oS).length)
 else if Lib.index (t.drop o) p<0 then .error (13,Ζ t)else .ok (sX (t.drop o) p,o+(Lib.index (t.drop o) p).toNat+Ζ p)
def It{k:Nat}{t:Bs}(fr p:Bs)(h:Rd O k t off X)(ht:Ζ t<=1000000)(hp:Ζ p<=1000)(ho:off+Ζ fr<=Ζ t):
  VF Ε 292 [.p k 0,.s fr,.s p] O (TQ O k t X (kG t (off+Ζ fr) p) λy m=>m= .s y):=by
 have hk:=h.2;have hr:Rd (O.set k (.cells [.s t,mi (off+Ζ fr:Nat),X])) k t (off+Ζ fr) X:=h.set;have hu:bM O (φ k) (O.set k (.cells [.s t,mi (off+Ζ fr:Nat),X])):=bM.set;have mR:(off:Int)+(Ζ fr:Int)=((off+Ζ fr:Nat):Int):=by omega
 simp only[aq, <-mR]at hk hr hu;refine ω 78 [.tmp 6] func292 ?_;refine κ av ?_;refine ξ av hk ?_;generalize O.set k (.cells [.s t,.v (Ι Κ ((off:Int)+(Ζ fr:Int))),X])=O2 at*;generalize hoo:off+Ζ fr=o at*;have bY:=hr.2;simp only[aq]at bY;unfold kG;refine κ av ?_;refine Ω (Ak hr ho) ?_;refine ae av ?_;refine Ω (Q2 (t.drop o) p _ (by rw[alO];omega)) ?_;refine ae av ?_;refine κ av ?_;refine Ω (Ak hr ho) ?_;refine ae av ?_;have dd:=Lib.index_ge (t.drop o) p;have fc:Lib.index (t.drop o) p<=((t.drop o).length:Int):=index_le _ _;have kI:sX (t.drop o) p=if 0<=Lib.index (t.drop o) p then(t.drop o).take (Lib.index (t.drop o) p).toNat else t.drop o:=rfl
 have tO:(sX (t.drop o) p).length<=1000000:=by
  rw[kI];split;rw[akf,alO];omega;rw[alO];omega
 generalize sX (t.drop o) p=s at*;generalize Lib.index (t.drop o) p=n at*;refine Ξ [0,2,7,8] (λ_:Unit=>[.p k 0,.s p,.v (Ι Κ n),.s s]) (λ_ O'=>O'=O2) ?_ ?_;rw[alO]at fc;by_cases h0:0<=n;rw[if_pos h0]at kI;subst kI;obtain⟨N,rfl⟩:=Int.eq_ofNat_of_zero_le h0;((have hN:N<=(t.drop o).length:=by rw[alO];omega);have qX:(N:Int).toNat=N:=rfl;refine ae av ?_;refine ο av qX ?_;exact aB.mk () rfl);rw[if_neg h0]at kI;subst kI;refine ao av h0 ?_;refine ν av ?_;exact aB.mk () rfl
 rintro⟨⟩ O3 eO;rw[eO];clear eO O3;refine κ av ?_;clear kI;have htw:=qM oS s;refine Θ [38] [0,2,7,8,37] (λj:Nat=>[mi j]) (λj O'=>O'=O2/\j<=(Ζ s)/\j<=(s.takeWhile oS).length) (λj=>(Ζ s) - j) (0) ?_ ?_;exact⟨rfl,aka _,aka _⟩;rintro j O3 ⟨eO,hj,hjt⟩;rw[eO];clear eO O3;by_cases h1:j<Ζ s;have hg:=aga h1;have cX:=adw (f:=oS) s j _ hg hjt;generalize s[j]=c at*;cases hc:oS c;rw[hc,if_neg (by simp)]at cX;rw[if_pos (by omega),cX];refine κ av ?_;refine κ av ?_;refine ξ av hg ?_;refine Ω (Af c _) ?_;rw[hc];refine ao av bY ?_;refine ah.p (jZ 10 (o+j) _) ?_ ?_;rintro m O9 ⟨_,h⟩;exact h.elim;rintro m O9 ⟨rfl,rfl⟩;refine ae av ?_;exact⟨hu,rfl⟩;rw[hc,if_pos rfl]at cX;refine κ av ?_;refine κ av ?_;refine ξ av hg ?_;refine Ω (Af c _) ?_;rw[hc];refine ao av bY ?_;refine ν av ?_;exact az.N (j+1) ⟨rfl,h1,cX⟩
 ·have aM:j=Ζ s:=by omega
  subst aM;refine κ av ?_;refine ν av ?_;rw[if_neg (by omega)];by_cases h2:n<0;rw[if_pos h2];refine ξ av bY ?_;refine ah.p (jZ 13 (Ζ t) _) ?_ ?_;rintro m O9 ⟨_,h⟩;exact h.elim;rintro m O9 ⟨rfl,rfl⟩;refine ae av ?_;exact⟨hu,rfl⟩;rw[if_neg h2];refine ξ av bY ?_;(((have h3:(n.toNat:Int)=n:=by omega);have h4:n<=1000000:=by rw[alO]at fc;omega);refine ξ @av @bY ?_;refine ν @av ?_;have fw:(o:Int)+(n+(Ζ p:Int))=((o+n.toNat+Ζ p:Nat):Int):=by omega);rw[fw];exact⟨hu.trans bM.set,rfl,by simpa[aq]using hr.set (t':=t) (off':=o+n.toNat+Ζ p) (X':=X)⟩
def uG(s:Bs):Bool:=eX s [60,63,120,109,108]&&decide (5<Ζ s)&&(oa (s.getD 5 0)||s.getD 5 0==63)
def aau{k:Nat}{t:Bs}(h:Rd O k t off X)(ht:Ζ t<=1000000)(ho:off<=Ζ t):VF Ε 293 [.p k 0] O (aH λm O'=>m=mb (uG (t.drop off))/\O'=O):=by
 unfold uG;refine Υ 25 [.tmp 2] func293 ?_;refine ae av ?_;refine Ω (Ak h ho) ?_;have hl:(t.drop off).length<=1000000:=by rw[alO];omega
 generalize t.drop off=s at*;refine ae av ?_;refine Ω (pQ s [60,63,120,109,108] _) ?_;cases h1:eX s [60,63,120,109,108];exact ff av;by_cases h2:5<Ζ s
 ·have hg:=aga h2;(have hd:s.getD 5 0=s[5]:=by simp[List.getD,hg]);rw[decide_eq_true h2,hd];generalize s[5]=c at*;refine ao av hg ?_;refine Ω (sJ c _) ?_;cases h3:oa c
  ·by_cases h4:c=63;subst h4;refine aE av hg @aO ?_;rfl
   ·have h5:¬((c.toNat:Int)=63):=λe=>h4 (UInt8.toNat_inj.1 (by simpa using(by omega:c.toNat=63)))
    rw[show(c==63)=γ by simpa using h4];exact kt4 av hg @aO h5
  ·exact ff av
 ·rw[decide_eq_false h2];exact ff av
end Go.Proofs.YtjpadehgejlebaaGreatDoor
