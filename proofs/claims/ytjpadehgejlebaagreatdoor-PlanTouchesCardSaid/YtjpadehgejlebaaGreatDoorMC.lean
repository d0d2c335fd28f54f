import Derived.Test.YtjpadehgejlebaaGreatDoorMB
import Derived.ProofKit
import Derived.OpenShut
import Derived.Shelf.Strings.Search3
import Derived.Shelf.Strings.OnBuilder
import Derived.Test.YtjpadehgejlebaaGreatDoorProg
import Derived.Laws.Cover4
set_option linter.unusedVariables false
set_option linter.unusedSimpArgs false
namespace Go.Proofs.YtjpadehgejlebaaGreatDoor
open Go.RowKit Go.ChangeShapes
open _root_.List renaming length_append → zW, length_nil → Ml, length_cons → Mm, getElem?_eq_getElem → aeb, nil_append → aec, append_nil → aed, cons_append → aee, take_length → ahW, length_take → ahX, flatMap_cons → ahY, drop_eq_getElem_cons → ahZ, length_drop → ah0, takeWhile_cons_of_neg → ajv, takeWhile_cons_of_pos → ajw, getElem_mem → ajx, drop_of_length_le → ajy, flatMap_append → ajz, append_assoc → ajA, flatMap_nil → ame, getElem?_append_right → am_, length_filter_le → ana, getElem?_cons_zero → anc, getElem?_cons_succ → ane, length_map → anf, all_eq_true → ank, mem_cons → anl, getElem?_take → ano, getElem?_append_left → anq, getElem?_eq_some_iff → anr, map_append → ant, mem_range → anx
open _root_.Nat renaming le_trans → VI, le_refl → ZA, zero_le → agu, lt_of_lt_of_le → ahV, lt_succ_self → ajB, zero_lt_one → anb, zero_add → anh, le_of_lt → ani, lt_or_ge → anm, eq_zero_or_pos → ann, add_mul → anu
open _root_.And renaming intro → Mn
open _root_.Bool renaming false_eq_true → anp, and_eq_true → ans, false_or → anA
open _root_.Array renaming getD_eq_getD_getElem? → ang, getElem?_eq_none → anj
def G0 (w:World):Gh:=⟨w,fun _=>none,fun b o=>w.cell? ⟨b,o,none⟩,fun _=>none⟩
def O0:VH:=⟨0,fun _=>none⟩
theorem wr0 (w:World) (hg:Mk w):WR (G0 w) O0 w where
 base:=Below.refl _ _
 eN _ _ _ h:=h
 ql _ _:=⟨rfl,rfl,rfl⟩
 kH _ _ h:=by cases h
 inj _ _ _ _ _ h:=by cases h
 cells _ _ h:=by cases h
 map _ _ _ h:=by cases h
 tok _ h:=by cases h
 me _ _ _ _ _ h:=by cases h
 oV _ _ _ _ h:=by cases h
 obj _ _ h:=by cases h
 rA:=hg
 B0 _ _ h:=by cases h
def El {H:Type} (enc:TypeId×Value->H) (P:Program) (w:World) (sp:Nat->Bool) (held:Bool) (t:TypeId) (Φ :List MV->Prop):Prop:=
 ∀fuel cs x,DataW.trod enc P w 0 sp held fuel t cs=some x->∃ms,aS (G0 w) ms cs/\ Φ ms
section
variable {H:Type} {enc:TypeId×Value->H} {P:Program} {w:World} {sp:Nat->Bool} {held:Bool} {t e:TypeId}
theorem El.int {k:IntKind} (ht:P.underlying t=some (.int k)):El enc P w sp held t fun ms=>∃n,ms=[.v (.int k n)]/\(Lit.int k n).wf=true:=by
 intro fuel cs x h;obtain⟨n,rfl,rfl,hw⟩:=DataW.trod_int ht h;exact⟨_,aS.cons (.v rfl) aS.nil,n,rfl,hw⟩
theorem RS {w:World} {a:Addr} {v:Value} (h:w.cell? a=some v):a=⟨a.block,a.off,none⟩:=by
 unfold World.cell? at h;split at h
 ·split at h
  ·cases h
  ·rename_i hs;cases a with
   | mk b o s=>cases s with
     | none=>rfl
     | some x=>exact absurd rfl hs
 ·cases h
theorem El.slice (ht:P.underlying t=some (.slice e)) {Φ :List MV->Prop} (he:El enc P w sp held e Φ) (p7:0<P.cellsOf e):
  El enc P w sp held t fun ms=>∃(rows:List (List MV)) (tk:Tok),ms=[.sl rows.length rows.flatten tk]/\(∀r∈rows, Φ r)/\rows.length<=maxLen:=by
 intro fuel cs x h;rcases DataW.trod_slice ht h with⟨rfl,rfl⟩ | ⟨a,len,cap,elems,rest,n,rfl,rfl,rfl,_,RT,hm,hlen,HR,_,_⟩
 ·exact⟨[.sl 0 [] .nil],aS.cons .slnil aS.nil,[],.nil,rfl,by simp,by simp⟩
 by_cases h0:len=0
 ·subst h0;exact⟨[.sl 0 [] .ar],aS.cons (.px hm) aS.nil,[],.ar,rfl,by simp,by simp⟩
 have each:∀i,i<len->∃ms ci,w.cells? 0 (a.add (i*P.cellsOf e)) (P.cellsOf e)=some ci/\aS (G0 w) ms ci/\ Φ ms:=fun i hi=>by
  have h1:=HR i hi;have h2:elems[i]?=some (elems[i]'(by omega)):=aeb (by omega);rw[h2]at h1;obtain⟨ci,h3,h4⟩:=Option.bind_eq_some_iff.1 h1;obtain⟨ms,h5,h6⟩:=he _ _ _ h4;exact⟨ms,ci,h3,h5,h6⟩
 have aiz:a=⟨a.block,a.off,none⟩:=by
  obtain⟨_,ci,h1,_⟩:=each 0 (by omega);obtain⟨_,h2,h3⟩:=World.cells?_some h1;have h4:=h3 0 p7;rw[Nat.zero_mul]at h4;have h5:(a.add 0).add 0=a:=by simp[Addr.add]
  rw[h5]at h4;rw[aeb (by omega)]at h4;exact RS h4
 obtain⟨b,o,s⟩:=a;obtain rfl:s=none:=congrArg Addr.spot aiz
 have build:∀m,m<=len->∃(rows:List (List MV)) (us:List Value),rows.length=m/\us.length=m*P.cellsOf e/\aS (G0 w) rows.flatten us/\(∀p u,us[p]?=some u->w.cell? ⟨b,o+p,none⟩=some u)/\∀r∈rows, Φ r:=fun m=>by
  induction m with
  | zero=>exact fun _=>⟨[],[],rfl,by simp,aS.nil,fun p u hu=>by simp at hu,by simp⟩
  | succ m ih=>
    intro hm;obtain⟨rows,us,h1,h2,h3,h4,h5⟩:=ih (by omega);obtain⟨ms,ci,g1,g2,g3⟩:=each m (by omega);obtain⟨_,g4,g5⟩:=World.cells?_some g1;refine⟨rows++[ms],us++ci,by simp[h1],by rw[zW,h2,g4,anu,Nat.one_mul],?_,fun p u hu=>?_,fun r hr=>?_⟩
    ·rw[List.flatten_append,List.flatten_cons,List.flatten_nil,aed];exact aS.append h3 g2
    ·rcases anm p us.length with hp | hp
     ·rw[anq hp]at hu;exact h4 p u hu
     ·rw[am_ hp]at hu;have dI:=(anr.1 hu).1;have:=g5 (p - us.length) (by omega);rw[hu]at this;rw[<-this,Addr.add_lit,Addr.add_lit,h2,show o+m*P.cellsOf e+(p - m*P.cellsOf e)=o+p by omega]
    ·rcases List.mem_append.1 hr with hr | hr
     ·exact h5 r hr
     ·rw[List.mem_singleton.1 hr];exact g3
 obtain⟨rows,us,h1,h2,h3,h4,h5⟩:=build len (ZA _);refine⟨[.sl rows.length rows.flatten .ar],aS.cons ?_ aS.nil,rows,.ar,rfl,h5,by omega⟩;rw[h1];exact .sl h3.1 (fun p u hu=>h4 p u hu) h3.2 RT hm trivial
theorem El.imp {Φ Ψ :List MV->Prop} (h:El enc P w sp held t Φ) (hi:∀ms, Φ ms-> Ψ ms):El enc P w sp held t Ψ :=fun fuel cs x hx=>by
 obtain⟨ms,h1,h2⟩:=h fuel cs x hx;exact⟨ms,h1,hi _ h2⟩
theorem El.arg {Φ :List MV->Prop} (h:El enc P w sp held t Φ) {v:Value} {d:DataW H} {ps:List MemPlace} (hd:DataW.Trod enc P w 0 sp held t v d ps) (hc:v.cells= #[v]):∃m,VR (G0 w) m v/\ Φ [m]:=by
 obtain⟨fuel,h1⟩:=hd;rw[hc]at h1;obtain⟨ms,h2,h3⟩:=h _ _ _ h1
 match ms,h2 with
 | [m],h2=>exact⟨m,h2.2 0 m v rfl rfl,h3⟩
 | [],h2=>exact absurd h2.1 (by simp)
 | _::_::_,h2=>exact absurd h2.1 (by simp)
end
def InK:IntKind->Int->Prop
 | .i64,n=> -9223372036854775808<=n/\n<=9223372036854775807
 | .u64,n=>0<=n/\n<=18446744073709551615
 | .u8,n=>0<=n/\n<=255
 | k,n=>k.min<=n/\n<=k.max
theorem afp {k:IntKind} {n:Int} (h:(Lit.int k n).wf=true):InK k n:=by
 simp only[Lit.wf,ans,decide_eq_true_eq]at h;cases k<;>exact h
section
variable {H:Type} {enc:TypeId×Value->H} {P:Program} {w:World} {sp:Nat->Bool} {held:Bool} {t e:TypeId}
theorem El.akB {k:IntKind} (ht:P.underlying t=some (.int k)):El enc P w sp held t fun ms=>∃n,ms=[.v (.int k n)]/\InK k n:=
 (El.int ht).imp fun _ ⟨n,h,hw⟩=>⟨n,h,afp hw⟩
end
theorem VF.law {P:Program} {f:FuncId} {w:World} {ms:List MV} {vs:Array Value} (hg:Mk w) (hv:aS (G0 w) ms vs.toList) (h:VF P f ms O0 (aE fun m _=>m=mb true)):
  Calls P f vs w fun e w'=>e= .returned (.bool true)/\Below w.heap.size w w':=by
 have:=h (G0 w) w vs.toList (wr0 w hg) hv;refine this.mono ?_;rintro x w' ⟨r,O',G,h1,h2,h3,h4⟩;cases r with
 | panic m=>exact h4.elim
 | ret m=>
   have h4:m=mb true:=h4;subst h4;cases x with
   | returned v=>
     have h5:v= .bool true:=h3.je;refine⟨by rw[h5],?_⟩;have:=h2.base;rw[h1.w0]at this;have hB:G.B=w.heap.size:=by unfold Gh.B;rw[h1.w0];rfl
     rw[hB]at this;exact this
   | panicked c=>exact h3.elim
   | outgrown=>exact h3.elim
set_option maxRecDepth 10000
theorem XG (w:List UInt8) (h:((w.all fun c=> !NT c)&&(w.all fun c=>w.all fun d=>qC c==qC d))=true):even w:=by
 simp only[ans,ank]at h;exact⟨fun c hc=>by simpa using h.1 c hc,fun c hc d hd=>by simpa using h.2 c hc d hd⟩
def okT (p:Prt):Prop:=even p.2.2/\(∀c∈p.2.2,lo c=c)/\(if p.2.1 then p.2.2.all qC=true/\p.2.2.dropWhile (· ==48)=p.2.2 else p.2.2.all (fun c=> !qC c)=true/\aiy p.2.2 false=p.2.2)
def NV (p:Prt):List UInt8:=(if p.2.1&&p.2.2==[]then[48]else[])++p.2.2
def abp (p:Prt):List UInt8:=(if p.1 then 45 else 46)::NV p
theorem XH {p:Prt} (h:okT p):even (NV p):=by
 unfold NV;split
 ·rename_i hc;have:p.2.2=[]:=by simpa using(ans _ _▸hc:p.2.1=true/\(p.2.2==[])=true).2
  rw[this];exact XG _ rfl
 ·exact h.1
theorem chain:∀(r:List Prt) (_:∀p∈r,okT p) (w:List UInt8) (_:even w) (hy:Bool),uW hy [] (w++r.flatMap abp)=(w,hy,false)::r.map fun p=>(NV p,p.1,false)
 | [],_,w,hw,hy=>by
   have:=Cb w [] [] hy (by simpa using hw);simpa[XF]using this
 | p::r,h,w,hw,hy=>by
   have ih:=chain r (fun q hq=>h q (List.mem_cons_of_mem _ hq)) (NV p) (XH (h p (by simp))) p.1;have h1:=Cb w [] ((p::r).flatMap abp) hy (by simpa using hw);rw[h1,List.nil_append,List.flatMap_cons,abp,List.cons_append,RQ (by cases p.1<;>rfl)];have hb:((if p.1 then 45 else 46:UInt8)==45)=p.1:=by cases p.1<;>rfl
   rw[hb,ih,List.map_cons]
set_option linter.defProp false in
def f_:=Mn T9<|Mn T3<|Mn T4<|Mn T5 uV
def mJ (c:UInt8):Bool:=decide (c.toNat=32\/c.toNat=9\/c.toNat=10\/c.toNat=13)
def mf (c:UInt8):Bool:=decide ((65<=c.toNat/\c.toNat<=90)\/(97<=c.toNat/\c.toNat<=122)\/c.toNat=95)
def I9 (c:UInt8):Bool:=decide (c.toNat=46\/c.toNat=45\/c.toNat=58)
def nq (c:UInt8):Bool:=decide (32<=c.toNat\/c.toNat=9\/c.toNat=10\/c.toNat=13)
theorem qH (c:UInt8) (O:VH):VF Tryz.prog 207 [gj c] O (aE fun m O'=>m=mb (mJ c)/\O'=O):=by
 have hc:=c.toNat_lt;refine Θ 17 [.tmp 2] Tryz.func207 ?_;rcases(show c.toNat=32\/c.toNat=9\/c.toNat=10\/c.toNat=13\/(c.toNat≠32/\c.toNat≠9/\c.toNat≠10/\c.toNat≠13)from by omega)with h | h | h | h | ⟨h1,h2,h3,h4⟩
 ·refine ao @f_ @aL ?_;simp[mJ,h]
 ·refine ao @f_ @aL ?_;simp[mJ,h]
 ·refine ao @f_ @aL ?_;simp[mJ,h]
 ·refine ao @f_ @aL ?_;simp[mJ,h]
 ·refine ao @f_ @aL ?_;simp[mJ,h1,h2,h3,h4]
theorem KR (f:FuncId) (p:UInt8->Bool) (s:List UInt8) (O:VH) (hs:s.length<=maxLen) (hf:∀c O,VF Tryz.prog f [gj c] O (aE fun m O'=>m=mb (p c)/\O'=O)) (hb:df Tryz.prog f=true):
  VF Tryz.prog 206 [.str s,.func (.func f) [] []] O (aE fun m O'=>m=mi (s.takeWhile p).length/\O'=O):=by
 have hm:(s.length:Int)<=9223372036854775807:=by simp[maxLen]at hs;omega
 refine Θ 20 [.tmp 4] Tryz.func206 ?_;refine ab @f_ ?_;refine WC.jh [5] [0,1] (fun j:Nat=>[mi j]) (fun j O'=>O'=O/\j<=s.length/\(s.takeWhile p).length=j+((s.drop j).takeWhile p).length) (fun j=>s.length - j) (0) ?_ ?_
 ·exact⟨rfl,agu _,by simp⟩
 rintro j O2 ⟨rfl,hj,hw⟩;by_cases h2:j<s.length
 ·have hg:=aeb h2;have hd:=ahZ h2;generalize s[j]=c at*;refine ao @f_ @hg ?_;refine π (hf c _) ?_ (hb:=hb);rintro _ O3 ⟨rfl,rfl⟩;cases hp:p c
  ·refine ao @f_ @hg ?_;rw[hw,hd,ajv (by simp[hp])];trivial
  ·refine ao @f_ @hg ?_;refine az.N (j+1) ?_;refine⟨rfl,by omega,?_⟩;rw[hw,hd,ajw hp,Mm];omega
 ·refine ab @f_ ?_;rw[hw,ajy (by omega)];trivial
def KS (p:UInt8->Bool) (l:List UInt8):List UInt8:=(l.reverse.dropWhile p).reverse
theorem XI (p:UInt8->Bool) (l:List UInt8) (a:UInt8):KS p (l++[a])=if p a then KS p l else l++[a]:=by
 unfold KS;rw[List.reverse_append,List.reverse_singleton,List.singleton_append,List.dropWhile_cons];cases p a<;>simp
def trimB (s:List UInt8):List UInt8:=KS mJ (s.dropWhile mJ)
theorem NW (p:UInt8->Bool):∀s:List UInt8,s.drop (s.takeWhile p).length=s.dropWhile p
 | []=>rfl
 | c::s=>by
   cases h:p c
   ·rw[ajv (by simp[h]),List.dropWhile_cons_of_neg (by simp[h])];rfl
   ·rw[ajw h,List.dropWhile_cons_of_pos h,Mm,List.drop_succ_cons,NW p s]
theorem oT (p:UInt8->Bool) (s:List UInt8):(s.takeWhile p).length<=s.length:=(List.takeWhile_sublist p).length_le
theorem KT (p:UInt8->Bool) (s:List UInt8):(s.dropWhile p).length<=s.length:=(List.dropWhile_sublist p).length_le
theorem abq (p:UInt8->Bool) (s:List UInt8):(KS p s).length<=s.length:=by
 unfold KS;have:=KT p s.reverse;simp only[List.length_reverse]at this ⊢;exact this
theorem RU (s:List UInt8):(trimB s).length<=s.length:=VI (abq _ _) (KT _ _)
theorem KU (s:List UInt8) (O:VH) (hs:s.length<=maxLen):VF Tryz.prog 175 [.str s] O (aE fun m O'=>m= .str (trimB s)/\O'=O):=by
 have hm:(s.length:Int)<=9223372036854775807:=by simp[maxLen]at hs;omega
 have QO:=oT mJ s;have hdw:=NW mJ s;have mW:=KT mJ s;unfold trimB;refine Θ 23 [.tmp 2] Tryz.func175 ?_;refine ab @f_ ?_;refine π (KR 207 mJ s _ hs qH (by kernel_rfl)) ?_;rintro _ O2 ⟨rfl,rfl⟩;refine ao @f_ @hdw ?_;generalize s.dropWhile mJ=t at*;refine WC.jh [0] [] (fun k:Nat=>[.str (t.take k)]) (fun k O'=>O'=O2/\k<=t.length/\KS mJ t=KS mJ (t.take k)) (fun k=>k) t.length ?_ ?_ (h0:=(by rw[ahW];rfl))
 ·exact⟨rfl,ZA _,by rw[ahW]⟩
 rintro k O3 ⟨rfl,hk,hr⟩;rw[hr];have hlen:(t.take k).length=k:=by rw[ahX];omega
 rcases ann k with rfl | RV
 ·have akC:(([]:List UInt8)==[])=true:=rfl;refine ao @f_ @akC ?_;trivial
 ·obtain⟨k,rfl⟩:∃j,k=j+1:=⟨k - 1,by omega⟩
  have h2:k<t.length:=by omega
  have iF:=dB t k h2;have bE:(t.take (k+1))[k]?=some t[k]:=by rw[ano,if_pos (by omega),aeb h2]
  have hne:(t.take (k+1)==[])=false:=by rw[iF];cases t.take k<;>rfl
  have gu:=XI mJ (t.take k) t[k];rw[<-iF]at gu;have HD:(t.take (k+1)).take k=t.take k:=by rw[List.take_take];congr 1;omega
  generalize t[k]=c at*;refine cJ @f_ @hne @hlen @bE ?_;refine π (qH c _) ?_;rintro _ O4 ⟨rfl,rfl⟩;cases hb:mJ c
  ·refine ab @f_ ?_;rw[gu,hb];trivial
  ·rw[hb]at gu;refine aH @f_ @hlen @HD ?_;exact az.N k ⟨rfl,by omega,by rw[gu];rfl⟩
abbrev Bs:=List UInt8
theorem FW (c:UInt8) (O:VH):VF Tryz.prog 121 [gj c] O (aE fun m O'=>m=mb (mf c)/\O'=O):=by
 have hc:=c.toNat_lt;refine Θ 21 [.tmp 2] Tryz.func121 ?_;rcases(show c.toNat<65\/(65<=c.toNat/\c.toNat<=90)\/(90<c.toNat/\c.toNat<97/\c.toNat≠95)\/c.toNat=95\/(97<=c.toNat/\c.toNat<=122)\/122<c.toNat from by omega)with h | h | h | h | h | h
 ·rw[show mf c=false by simp[mf];omega];exact dW @f_ @aL
 ·rw[show mf c=true by simp[mf];omega];exact dW @f_ @aL
 ·rw[show mf c=false by simp[mf];omega];exact dW @f_ @aL
 ·rw[show mf c=true by simp[mf];omega];exact dW @f_ @aL
 ·rw[show mf c=true by simp[mf];omega];exact dW @f_ @aL
 ·rw[show mf c=false by simp[mf];omega];exact dW @f_ @aL
def jY (c:UInt8):Bool:=mf c||qC c||I9 c
theorem I_ (c:UInt8) (O:VH):VF Tryz.prog 97 [gj c] O (aE fun m O'=>m=mb (jY c)/\O'=O):=by
 have hc:=c.toNat_lt;refine Θ 21 [.tmp 2] Tryz.func97 ?_;refine ab @f_ ?_;refine π (FW c _) ?_;rintro _ O2 ⟨rfl,rfl⟩;cases h1:mf c
 ·refine ab @f_ ?_;refine π (qD c _) ?_;rintro _ O2 ⟨rfl,rfl⟩;cases h2:qC c
  ·rcases(show c.toNat=46\/c.toNat=45\/c.toNat=58\/(c.toNat≠46/\c.toNat≠45/\c.toNat≠58)from by omega)with h | h | h | h
   ·rw[show jY c=true by simp[jY,h1,h2,I9,h]];exact dW @f_ @aL
   ·rw[show jY c=true by simp[jY,h1,h2,I9,h]];exact dW @f_ @aL
   ·rw[show jY c=true by simp[jY,h1,h2,I9,h]];exact dW @f_ @aL
   ·rw[show jY c=false by simp[jY,h1,h2,I9,h]];exact dW @f_ @aL
  ·rw[show jY c=true by simp[jY,h1,h2]];exact dW @f_ @aL
 ·rw[show jY c=true by simp[jY,h1]];exact dW @f_ @aL
theorem xI (c:UInt8) (O:VH):VF Tryz.prog 312 [gj c] O (aE fun m O'=>m=mb (nq c)/\O'=O):=by
 have hc:=c.toNat_lt;refine Θ 9 [.tmp 2] Tryz.func312 ?_;by_cases h:32<=c.toNat
 ·rw[show nq c=true by simp[nq];omega];exact dW @f_ @aL
 ·refine ao @f_ @aL ?_;refine π (qH c _) ?_;rintro _ O2 ⟨rfl,rfl⟩;rw[show nq c=mJ c by unfold nq mJ;rw[decide_eq_decide];omega];exact dW @f_ @aL
def kA (s:Bs):Nat:=if mf (s.headD 0)&& !s.isEmpty then(s.takeWhile jY).length else 0
theorem Di (s:Bs):kA s<=s.length:=by
 unfold kA;split
 ·exact oT _ _
 ·exact agu _
theorem afq (s:Bs) (O:VH) (hs:s.length<=maxLen):VF Tryz.prog 314 [.str s] O (aE fun m O'=>m=mi (kA s)/\O'=O):=by
 refine Θ 13 [.tmp 2] Tryz.func314 ?_;cases s with
 | nil=>
   refine ao @f_ (show(([]:List UInt8)==[])=true from rfl) ?_;rfl
 | cons c s=>
   refine aH @f_ (show((c::s)==[])=false from rfl) @agC ?_;refine π (FW c _) ?_;rintro _ O2 ⟨rfl,rfl⟩;cases h1:mf c
   ·refine ab @f_ ?_;simp[kA,h1]
   ·rw[show kA (c::s)=((c::s).takeWhile jY).length by simp[kA,h1]];refine ab @f_ ?_;refine π (KR 97 jY (c::s) _ hs (fun c O=>I_ c O) (by kernel_rfl)) ?_;rintro _ O2 ⟨rfl,rfl⟩;exact fU @f_
def mz (c:UInt8):Bool:=jY c&&decide (c.toNat≠58)
theorem XJ (c:UInt8) (O:VH):VF Tryz.prog 84 [gj c] O (aE fun m O'=>m=mb (mz c)/\O'=O):=by
 have hc:=c.toNat_lt;refine Θ 9 [.tmp 2] Tryz.func84 ?_;refine ab @f_ ?_;refine π (I_ c _) ?_;rintro _ O2 ⟨rfl,rfl⟩;cases h1:jY c
 ·rw[show mz c=false by simp[mz,h1]];exact fU @f_
 ·by_cases h:c.toNat=58
  ·rw[show mz c=false by simp[mz,h]];exact dW @f_ @aL
  ·rw[show mz c=true by simp[mz,h1,h]];exact dW @f_ @aL
def fy (s:Bs):Bool:=s.all mz&&decide (1<=s.length)&&decide (s.length<=64)
theorem uh (s:Bs) (O:VH) (hs:s.length<=maxLen):VF Tryz.prog 69 [.str s] O (aE fun m O'=>m=mb (fy s)/\O.Ge O'):=by
 have hm:(s.length:Int)<=9223372036854775807:=by simp[maxLen]at hs;omega
 have yf:=Υ O (.cells (s.map gj));have AW:=(VH.Ge.refl O).push (.cells (s.map gj));refine Θ 24 [.tmp 2] Tryz.func69 ?_;refine ab @f_ ?_;refine VL.bytes aa (el:=5) (l:=s) rfl rfl (by rw[T9];rfl) (by rw[uV];rfl) (by rw[T5];rfl) hs rfl fun cap h1 h2=>WL.sound aa ?_
 refine ab @f_ ?_;refine WC.jh [8] [0,6,7] (fun j:Nat=>[mi j]) (fun j O'=>(O.push (.cells (s.map gj))).Ge O'/\j<=s.length/\(s.take j).all mz=true) (fun j=>s.length - j) (0) ?_ ?_
 ·exact⟨VH.Ge.refl _,agu _,rfl⟩
 rintro j O2 ⟨pW,hj,kR⟩;have yh:=(pW.hp O.N (ajB _)).trans yf;by_cases h2:j<s.length
 ·have qG:=aeb h2;have iF:(s.take (j+1)).all mz=mz s[j]:=by rw[dB _ _ h2,List.all_append,kR];simp
  have ec:mz s[j]=false->fy s=false:=fun h=>by
   unfold fy;rw[List.all_eq_false.2 ⟨s[j],ajx h2,by simp[h]⟩];rfl
  generalize s[j]=c at*;refine aH @f_ @qG @yh ?_;refine π (XJ c _) ?_;rintro _ O3 ⟨rfl,rfl⟩;cases hb:mz c
  ·rw[ec hb];refine ab @f_ ?_;exact AW.trans pW
  ·refine ab @f_ ?_;exact az.N (j+1) ⟨pW,by omega,iF.trans hb⟩
 ·obtain rfl:j=s.length:=by omega
  rw[ahW]at kR;unfold fy;rw[kR];by_cases h0:1<=s.length
  ·by_cases FV:s.length<=64
   ·rw[decide_eq_true h0,decide_eq_true FV];refine ab @f_ ?_;exact AW.trans pW
   ·rw[decide_eq_true h0,decide_eq_false FV];refine ab @f_ ?_;exact AW.trans pW
  ·rw[decide_eq_false h0];refine ab @f_ ?_;exact AW.trans pW
set_option linter.defProp false in
def pI:=Mn f_<|Mn AS<|Mn Dg XB
structure Gv where
 g:Bs
 a:Bs
 v:Bs
 deriving DecidableEq
def bZ (x:Gv):List MV:=[.str x.g,.str x.a,.str x.v]
structure gx where
 g:Bs
 a:Bs
 deriving DecidableEq
def cj (x:gx):List MV:=[.str x.g,.str x.a]
structure Ky where
 g:Bs
 a:Bs
 t:Bs
 c:Bs
 deriving DecidableEq
def gV (x:Ky):List MV:=[.str x.g,.str x.a,.str x.t,.str x.c]
def AX (x:Gv):Bool:=fy x.g&&fy x.a&&wg x.v
theorem XK (x:Gv) (O:VH) (h1:x.g.length<=maxLen) (h2:x.a.length<=maxLen) (h3:x.v.length<=maxLen):VF Tryz.prog 51 [.agg (bZ x)] O (aE fun m O'=>m=mb (AX x)/\O.Ge O'):=by
 obtain⟨g,a,v⟩:=x;dsimp only at h1 h2 h3;unfold AX bZ;dsimp only;have hk:=Υ O (.cells [.str g,.str a,.str v]);have mY:=(VH.Ge.refl O).push (.cells [.str g,.str a,.str v]);have hn0:O.N<(O.push (.cells [.str g,.str a,.str v])).N:=ajB _;refine Θ 16 [.tmp 2] Tryz.func51 ?_;refine ao @pI @hk ?_;generalize O.push (.cells [.str g,.str a,.str v])=O1 at*;refine π (uh g _ h1) ?_;rintro _ O2 ⟨rfl,aC⟩;have eJ:=aC.N;cases fy g
 ·refine ab @pI ?_;exact mY.trans aC
 ·refine aH @pI @hk aC.hp ?_;refine π (uh a _ h2) ?_;rintro _ O3 ⟨rfl,aG⟩;have gE:=aG.N;cases fy a
  ·refine ab @pI ?_;exact mY.trans (aC.trans aG)
  ·refine cJ @pI @hk aC.hp aG.hp ?_;refine π (RP v _ h3) ?_;rintro _ O4 ⟨rfl,aY⟩;refine ab @pI ?_;exact mY.trans (aC.trans (aG.trans aY))
def xJ (s:Bs):Bool:=s==[42]||fy s
theorem Ja (s:Bs) (O:VH) (hs:s.length<=maxLen):VF Tryz.prog 324 [.str s] O (aE fun m O'=>m=mb (xJ s)/\O.Ge O'):=by
 unfold xJ;refine Θ 9 [.tmp 2] Tryz.func324 ?_;cases h:s==[42]
 ·refine ao @pI @h ?_;refine π (uh s _ hs) ?_;rintro _ O2 ⟨rfl,aC⟩;refine ab @pI ?_;exact aC
 ·refine ao @pI @h ?_;exact VH.Ge.refl _
def AY (x:gx):Bool:=xJ x.g&&xJ x.a
theorem HS (x:gx) (O:VH) (h1:x.g.length<=maxLen) (h2:x.a.length<=maxLen):VF Tryz.prog 319 [.agg (cj x)] O (aE fun m O'=>m=mb (AY x)/\O.Ge O'):=by
 obtain⟨g,a⟩:=x;dsimp only at h1 h2;unfold AY cj;dsimp only;have hk:=Υ O (.cells [.str g,.str a]);have mY:=(VH.Ge.refl O).push (.cells [.str g,.str a]);have hn0:O.N<(O.push (.cells [.str g,.str a])).N:=ajB _;refine Θ 11 [.tmp 2] Tryz.func319 ?_;refine ao @pI @hk ?_;generalize O.push (.cells [.str g,.str a])=O1 at*;refine π (Ja g _ h1) ?_;rintro _ O2 ⟨rfl,aC⟩;have eJ:=aC.N;cases xJ g
 ·refine ab @pI ?_;exact mY.trans aC
 ·refine aH @pI @hk aC.hp ?_;refine π (Ja a _ h2) ?_;rintro _ O3 ⟨rfl,aG⟩;refine ab @pI ?_;exact mY.trans (aC.trans aG)
def Dj (p x:gx):Bool:=(p.g==[42]||p.g==x.g)&&(p.a==[42]||p.a==x.a)
theorem RX (p x:gx) (O:VH):VF Tryz.prog 112 [.agg (cj p),.agg (cj x)] O (aE fun m O'=>m=mb (Dj p x)/\O.Ge O'):=by
 obtain⟨g,a⟩:=p;obtain⟨g',a'⟩:=x;unfold Dj cj;dsimp only;have mY:=((VH.Ge.refl O).push (.cells [.str g,.str a])).push (.cells [.str g',.str a']);refine Θ 27 [.tmp 4] Tryz.func112 ?_;cases h1:g==[42]<;>cases h2:g==g'<;>cases h3:a==[42]<;>cases h4:a==a'
 all_goals
  refine iw @pI @h1 @h2 @h3 @h4 ?_;exact mY
def fL (n:Int):Bs:=if n=1 then[99,111,109,112,105,108,101]else if n=2 then[114,117,110,116,105,109,101]else if n=3 then[112,114,111,118,105,100,101,100]else if n=4 then[115,121,115,116,101,109]else if n=5 then[116,101,115,116]else if n=6 then[105,109,112,111,114,116]else[]
theorem Uy (n:Int) (O:VH):VF Tryz.prog 74 [mi n] O (aE fun m O'=>m= .str (fL n)/\O'=O):=by
 unfold fL;refine Θ 16 [.tmp 2] Tryz.func74 ?_;by_cases h1:n=1
 ·refine ab @pI ?_;simp[h1]
 by_cases h2:n=2
 ·refine ab @pI ?_;simp[h1,h2]
 by_cases h3:n=3
 ·refine ab @pI ?_;simp[h1,h2,h3]
 by_cases h4:n=4
 ·refine ab @pI ?_;simp[h1,h2,h3,h4]
 by_cases h5:n=5
 ·refine ab @pI ?_;simp[h1,h2,h3,h4,h5]
 by_cases h6:n=6
 ·refine ab @pI ?_;simp[h1,h2,h3,h4,h5,h6]
 rw[if_neg h1,if_neg h2,if_neg h3,if_neg h4,if_neg h5,if_neg h6];exact fU @pI
def NX (o i:Int):Int:=if ¬(o=1\/o=2\/o=3\/o=5)then 0 else if i≠1/\i≠2 then 0 else if o=1 then i else o
theorem XL (o i:Int) (O:VH):VF Tryz.prog 141 [mi o,mi i] O (aE fun m O'=>m=mi (NX o i)/\O'=O):=by
 refine Θ 23 [.tmp 4] Tryz.func141 ?_;rcases(show o=1\/o=2\/o=3\/o=5\/(o≠1/\o≠2/\o≠3/\o≠5)from by omega)with h | h | h | h | h
 rotate_right
 ·rw[show NX o i=0 by simp[NX,h]];obtain⟨h1,h2,h3,h4⟩:=h;exact fU @pI
 all_goals
  subst h;rcases(show i=1\/i=2\/(i≠1/\i≠2)from by omega)with h | h | h
 all_goals
  refine ab @pI ?_;simp[NX,h]
def Tok.id:Tok->Option Nat
 | .own t _=>some t
 | _=>none
structure cc (tk:Tok) (O O':VH):Prop where
 N:O.N<=O'.N
 hp:∀i,i<O.N->Tok.id tk≠some i->O'.hp i=O.hp i
def DV (O:VH) (tk tk':Tok):Prop:=tk'=tk\/∀i,Tok.id tk'=some i->O.N<=i
section
variable {O O0 O1 O2:VH} {tk t1 t2 w:Tok} {B sz:Nat}
theorem VH.Ge.k (h:O.Ge O1):cc tk O O1:=⟨h.N,fun i hi _=>h.hp i hi⟩
theorem cc.refl:cc tk O O:=⟨ZA _,fun _ _ _=>rfl⟩
theorem DV.refl:DV O tk tk:=.inl rfl
theorem cc.trans (h:cc tk O O1) (hn:DV O tk t1) (k:cc t1 O1 O2):cc tk O O2:=⟨VI h.N k.N,fun i hi hne=>by
 have:Tok.id t1≠some i:=fun e=>by
  rcases hn with rfl | hn
  ·exact hne e
  ·have:=hn i e;omega
 rw[k.hp i (ahV hi h.N) this,h.hp i hi hne]⟩
theorem cc.ge (h:cc tk O O1) (k:O1.Ge O2):cc tk O O2:=⟨VI h.N k.N,fun i hi hne=>by rw[k.hp i (ahV hi h.N),h.hp i hi hne]⟩
theorem cc.pre (h:O.Ge O1) (k:cc tk O1 O2):cc tk O O2:=⟨VI h.N k.N,fun i hi hne=>by rw[k.hp i (ahV hi h.N) hne,h.hp i hi]⟩
theorem DV.trans (h:DV O tk t1) (hle:O.N<=O1.N) (k:DV O1 t1 t2):DV O tk t2:=by
 rcases k with rfl | k
 ·exact h
 ·exact .inr fun i e=>VI hle (k i e)
theorem App.nE (h:App O B sz tk) {i:Nat} (e:Tok.id tk=some i):B<=i/\i<O.N:=by
 cases tk with
 | own t k=>injection e with e;subst e;exact h.2.2
 | _=>cases e
theorem cc.app (h:cc tk O O1) (hw:App O B sz w) (hne:∀i,Tok.id tk=some i->Tok.id w≠some i):App O1 B sz w:=by
 cases w with
 | own t j=>
   obtain⟨h1,h2,h3,h4⟩:=hw;refine⟨h1,?_,h3,ahV h4 h.N⟩;rw[h.hp t h4 (fun e=>hne t e rfl)];exact h2
 | nil=>trivial
 | full=>trivial
 | ar=>exact hw.elim
theorem cc.after (h:App O B sz tk):cc tk O (O.after tk):=⟨by rw[VH.dY];omega,fun i hi hne=>by
 cases tk with
 | own t k=>exact(Ω (O.kill t) _ hi).trans (VH.lg _ (fun e=>hne (by rw[e];rfl)))
 | _=>exact Ω _ _ hi⟩
theorem DV.after:DV O tk (.own O.N sz):=.inr fun i e=>by injection e with e;omega
theorem cc.ee (hg:O0.Ge O) (ha:App O O0.N sz tk) (k:cc tk O O1):O0.Ge O1:=⟨VI hg.N k.N,fun i hi=>by
 rw[k.hp i (ahV hi hg.N) (fun e=>by have:=(ha.nE e).1;omega),hg.hp i hi]⟩
theorem cc.Cc (ha:App O O.N sz tk) (k:cc tk O O1):O.Ge O1:=cc.ee (VH.Ge.refl O) ha k
theorem App.ge (h:App O B sz tk) (k:O.Ge O1):App O1 B sz tk:=cc.app (tk:=.nil) (k.k) h (fun _ e=>by cases e)
theorem App.nil:App O B sz .nil:=trivial
end
theorem gG {tab:cg} {O:VH} {t el:TypeId} {u:TypeDesc} {a b sz Z0:Nat} {z y:List MV} (h:tab t=some ⟨.slice el,a,b,z⟩) (h2:tab el=some ⟨u,sz,Z0,y⟩) {B n:Nat} {cs ds es:List MV} {tk:Tok} (ha:App O B sz tk)
  (hc:cs.length=n*sz) (hd:ds.length=sz) (hl:ds.all eb=true) (hs:0<sz) (hb:(n+1)*Z0<=140737488355328) (hm:n+1<=maxLen) (gN:c8 cs=cs) (r9:c8 ds=es):
  ∃m,iA tab O t (.sl n cs tk) (.sl 1 ds .full)=some (m,O.after tk)/\pU m= .sl (n+1) (cs++es) (.own O.N sz):=
 ⟨_,aT (tk':=.full) h h2 ha hc (by rw[hd,Nat.one_mul]) hl hs (by decide) hb hm,by rw[qA,nS,gN,r9]⟩
section
variable {P:Program} {n:Sz} {D:List Deferred} {c:Code} {e:Env} {O:VH} {Q:VQ} {z cs:List MV} {md:Md} {d:Option Tmp} {K:Env->VH->Prop} {fv:Option MV} {ms:Option (List MV)}
def nU (O:VH) (cs:List MV) (O3:VH):Prop:=O.Ge O3/\O3.hp O.N=some (.cells cs)/\O3.N=O.N+1
theorem nU.al:nU O cs ((O.push (.cells z)).set O.N (.cells cs)):=⟨((VH.Ge.refl O).push _).set (ZA _) _,τ _ _ _,rfl⟩
theorem nU.bx:nU O cs (O.push (.cells cs)):=⟨(VH.Ge.refl O).push _,Υ _ _,rfl⟩
theorem VC.al (h:∀O3,nU O cs O3->VC P n D c e O3 Q):VC P n D c e ((O.push (.cells z)).set O.N (.cells cs)) Q:=h _ nU.al
theorem VC.bx (h:∀O3,nU O cs O3->VC P n D c e O3 Q):VC P n D c e (O.push (.cells cs)) Q:=h _ nU.bx
theorem ah.bx (h:∀O3,nU O cs O3->ah P n md Q d O3 K e fv ms):ah P n md Q d (O.push (.cells cs)) K e fv ms:=h _ nU.bx
end
theorem List.qI {α :Type} {a b:List α} {k n:Nat} (h:a.length=k):(a++b).drop (k+n)=b.drop n:=by
 rw[<-h, <-List.drop_drop,List.drop_left]
theorem aX {α :Type} {f: α ->List MV} {k:Nat} (hf:∀x,(f x).length=k) (L:List α):(L.flatMap f).length=L.length*k:=by
 induction L with
 | nil=>simp
 | cons x L ih=>rw[ahY,zW,ih,hf,Mm,Nat.succ_mul,Nat.add_comm]
theorem cP {α :Type} {f: α ->List MV} {k:Nat} (hf:∀x,(f x).length=k):∀(L:List α) (i:Nat) (h:i<L.length),((L.flatMap f).drop (i*k)).take k=f L[i]
 | x::L,0,_=>by rw[Nat.zero_mul,List.drop_zero,ahY,List.take_left' (hf x)];rfl
 | x::L,i+1,h=>by
   have:=cP hf L i (by simpa using h);rw[ahY,Nat.succ_mul,Nat.add_comm,List.qI (hf x)];exact this
inductive Nd where
 | mk (name:Bs) (attrs:List (Bs×Bs)) (kids:List Nd) (text:Bs)
def bm (x:Bs×Bs):List MV:=[.str x.1,.str x.2]
mutual
def dL:Nd->List MV
 | .mk n a k t=>[.str n,.sl a.length (a.flatMap bm) .ar,.sl k.length (aD k) .ar,.str t]
def aD:List Nd->List MV
 | []=>[]
 | x::r=>dL x++aD r
end
theorem eG (L M:List Nd):aD (L++M)=aD L++aD M:=by
 induction L with
 | nil=>rw[aec,aD,aec]
 | cons x L ih=>rw[aee,aD,aD,ih,ajA]
theorem mK (x:Nd):(dL x).length=4:=by cases x;rw[dL];rfl
theorem dC (L:List Nd):(aD L).length=L.length*4:=by
 induction L with
 | nil=>rw[aD];rfl
 | cons x L ih=>rw[aD,zW,mK,ih,Mm];omega
theorem fM (x:Bs×Bs):(bm x).length=2:=rfl
theorem nV (x:gx):(cj x).length=2:=rfl
theorem gH (L:List (Bs×Bs)):c8 (L.flatMap bm)=L.flatMap bm:=j9 (fun x=>by simp only[bm,wu]) L
mutual
theorem AZ:∀x,c8 (dL x)=dL x
 | .mk n a k t=>by
   simp only[dL,wu,gH];rw[fu k]
theorem fu:∀L,c8 (aD L)=aD L
 | []=>by rw[aD,I3]
 | x::r=>by rw[aD,nS,AZ x,fu r]
end
structure Dp where
 g:Bs
 a:Bs
 v:Bs
 t:Bs
 c:Bs
 s:Int
 o:Int
 x:List gx
 deriving DecidableEq
def aU (d:Dp):List MV:=[.str d.g,.str d.a,.str d.v,.str d.t,.str d.c,mi d.s,mi d.o,.sl d.x.length (d.x.flatMap cj) .ar]
theorem gW (x:Dp):(aU x).length=8:=rfl
structure Pm where
 hp:Bool
 par:Gv
 g:Bs
 a:Bs
 v:Bs
 pk:Bs
 props:List (Bs×Bs)
 eU:List Dp
 eK:List Dp
 deriving DecidableEq
def gX (p:Pm):List MV:=[mb p.hp,.str p.par.g,.str p.par.a,.str p.par.v,.str p.g,.str p.a,.str p.v,.str p.pk,.sl p.props.length (p.props.flatMap bm) .ar,.sl p.eU.length (p.eU.flatMap aU) .ar,.sl p.eK.length (p.eK.flatMap aU) .ar]
theorem nW (L:List gx):c8 (L.flatMap cj)=L.flatMap cj:=j9 (fun x=>by simp only[cj,wu]) L
theorem lO (L:List Dp):c8 (L.flatMap aU)=L.flatMap aU:=j9 (fun x=>by simp only[aU,aq,wu,nW]) L
theorem XM (p:Pm):c8 (gX p)=gX p:=by simp only[gX,bu,wu,gH,lO]
set_option linter.defProp false in
def gP:=Mn pI<|Mn DU<|Mn we<|Mn Ca<|Mn FN<|Mn FK T90
def fm (O:VH) (B sz:Nat) (tk:Tok) (O':VH) (tk':Tok):Prop:=cc tk O O'/\App O' B sz tk'/\DV O tk tk'
theorem fm.refl {O:VH} {B sz:Nat} {tk:Tok} (h:App O B sz tk):fm O B sz tk O tk:=⟨cc.refl,h,DV.refl⟩
theorem fm.trans {O O1 O2:VH} {B sz:Nat} {tk t1 t2:Tok} (h:fm O B sz tk O1 t1) (k:fm O1 B sz t1 O2 t2):fm O B sz tk O2 t2:=
 ⟨h.1.trans h.2.2 k.1,k.2.1,h.2.2.trans h.1.N k.2.2⟩
theorem fm.after {O:VH} {B sz:Nat} {tk:Tok} (h:App O B sz tk) (hB:B<=O.N):fm O B sz tk (O.after tk) (.own O.N sz):=⟨cc.after h,App.after hB,DV.after⟩
theorem fm.ge {O O1 O2:VH} {B sz:Nat} {tk t1:Tok} (h:fm O B sz tk O1 t1) (k:O1.Ge O2):fm O B sz tk O2 t1:=⟨h.1.ge k,h.2.1.ge k,h.2.2⟩
theorem fm.pre {O O1 O2:VH} {B sz:Nat} {tk t1:Tok} (g:O.Ge O1) (h:fm O1 B sz tk O2 t1):fm O B sz tk O2 t1:=⟨cc.pre g h.1,h.2.1,h.2.2.elim .inl fun k=>.inr fun i e=>VI g.N (k i e)⟩
theorem fm.ee {O O1:VH} {sz:Nat} {tk t1:Tok} (ha:App O O.N sz tk) (h:fm O O.N sz tk O1 t1):O.Ge O1:=cc.Cc ha h.1
theorem App.less {O:VH} {B B' sz:Nat} {tk:Tok} (h:App O B sz tk) (hB:B'<=B):App O B' sz tk:=by
 cases tk with
 | own t k=>exact⟨h.1,h.2.1,VI hB h.2.2.1,h.2.2.2⟩
 | nil=>trivial
 | full=>trivial
 | ar=>exact h.elim
theorem App.set {O:VH} {B sz k:Nat} {tk:Tok} {x:cf} {cs:List MV} (h:App O B sz tk) (hk:O.hp k=some (.cells cs)):App (O.set k x) B sz tk:=by
 cases tk with
 | own t j=>exact⟨h.1,(ρ _ _ (fun e=>by subst e;rw[h.2.1]at hk;cases hk)).trans h.2.1,h.2.2.1,h.2.2.2⟩
 | nil=>trivial
 | full=>trivial
 | ar=>exact h.elim
theorem fm.fresh {O O1 O2:VH} {sz:Nat} {t1:Tok} (g:O.Ge O1) (h:fm O1 O1.N sz .nil O2 t1):fm O O.N sz .nil O2 t1:=
 ⟨cc.pre g h.1,h.2.1.less g.N,h.2.2.elim .inl fun k=>.inr fun i e=>VI g.N (k i e)⟩
def cx (L:List Nd) (n t:Bs):List Nd:=if t=[]then L else L++[.mk n [] [.mk [] [] [] t] []]
theorem dM (L:List Nd) (n t:Bs):(cx L n t).length<=L.length+1:=by unfold cx;split<;>simp
theorem gI {O:VH} {B:Nat} (L:List Nd) (tk:Tok) (n t:Bs) (ha:App O B 4 tk) (hB:B<=O.N) (hL:L.length<=100000):VF Tryz.prog 60 [.sl L.length (aD L) tk,.str n,.str t] O (aE fun m O'=>∃tk',m= .sl (cx L n t).length (aD (cx L n t)) tk'/\fm O B 4 tk O' tk'):=by
 refine VF.fg ?_;refine Θ 18 [.tmp 6] Tryz.func60 ?_;unfold cx;cases t with
 | nil=>
   refine aH @gP (show(([]:List UInt8)==[])=true from rfl) @fu ?_;exact⟨tk,rfl,fm.refl ha⟩
 | cons c t=>
   refine ao @gP (show((c::t)==[])=false from rfl) ?_;have cy:=aT (tk':=.full) (n:=L.length) (k:=1) (cs:=aD L) (ds:=[.str n,.sl 0 [] .nil,.sl 1 [.str [],.sl 0 [] .nil,.sl 0 [] .nil,.str (c::t)] .full,.str []]) we DU.1.1 ha (dC L) rfl rfl (by decide) (by decide) (by omega) (by simp only[maxLen];omega);refine VL.app cy ?_;refine ao @gP @fu ?_;rw[if_neg (by simp)];refine⟨_,?_,fm.after ha hB⟩;rw[eG];simp only[aD,dL,ame,aed,zW,Mm,Ml,anh]
def j_ (L:List Nd) (n:Bs) (K:List Nd):List Nd:=if K=[]then L else L++[.mk n [] K []]
theorem qJ (L:List Nd) (n:Bs) (K:List Nd):(j_ L n K).length<=L.length+1:=by unfold j_;split<;>simp
theorem sL {O:VH} {B:Nat} (L:List Nd) (tk:Tok) (n:Bs) (K:List Nd) (tK:Tok) (ha:App O B 4 tk) (hB:B<=O.N) (hL:L.length<=100000) (hK:K.length<=100000):VF Tryz.prog 59 [.sl L.length (aD L) tk,.str n,.sl K.length (aD K) tK] O (aE fun m O'=>∃tk',m= .sl (j_ L n K).length (aD (j_ L n K)) tk'/\fm O B 4 tk O' tk'):=by
 refine VF.fg ?_;refine Θ 17 [.tmp 6] Tryz.func59 ?_;unfold j_;by_cases h:K=[]
 ·subst h;refine aH @gP @fu @Ml.{0} ?_;exact⟨tk,rfl,fm.refl ha⟩
 ·have h0:0<K.length:=List.length_pos_iff.2 h;refine ab @gP ?_;have cy:=aT (tk':=.full) (n:=L.length) (k:=1) (cs:=aD L) (ds:=[.str n,.sl 0 [] .nil,.sl K.length (aD K) tK,.str []]) we DU.1.1 ha (dC L) rfl rfl (by decide) (by decide) (by omega) (by simp only[maxLen];omega);refine VL.app cy ?_;refine ao @gP @fu ?_;rw[if_neg h];refine⟨_,?_,fm.after ha hB⟩;rw[eG];simp only[aD,dL,ame,aed,zW,Mm,Ml,anh]
abbrev eD:Bs:=[103,114,111,117,112,73,100]
abbrev en:Bs:=[97,114,116,105,102,97,99,116,73,100]
abbrev fS:Bs:=[118,101,114,115,105,111,110]
abbrev A_:Bs:=[116,121,112,101]
abbrev Ba:Bs:=[99,108,97,115,115,105,102,105,101,114]
abbrev rN:Bs:=[115,99,111,112,101]
abbrev nr:Bs:=[111,112,116,105,111,110,97,108]
abbrev kJ:Bs:=[116,114,117,101]
abbrev lP:Bs:=[102,97,108,115,101]
abbrev uX:Bs:=[101,120,99,108,117,115,105,111,110]
abbrev mA:Bs:=[101,120,99,108,117,115,105,111,110,115]
abbrev mg:Bs:=[100,101,112,101,110,100,101,110,99,121]
abbrev mC:Bs:=[100,101,112,101,110,100,101,110,99,105,101,115]
def ij (i:gx):Nd:=.mk uX [] (cx (cx [] eD i.g) en i.a) []
def zJ (d:Dp):List Nd:=
 let k:=cx (cx (cx (cx (cx (cx [] eD d.g) en d.a) fS d.v) A_ d.t) Ba d.c) rN (fL d.s)
 if d.o=1 then cx k nr kJ else if d.o=2 then cx k nr lP else k
def fz (d:Dp):Nd:=.mk mg [] (j_ (zJ d) mA (d.x.map ij)) []
def oU (L:List Nd) (D:List Dp):List Nd:=j_ L mC (D.map fz)
theorem Bb {O:VH} {B:Nat} (L:List Nd) (tl:Tok) (D:List Dp) (tD:Tok) (ha:App O B 4 tl) (hB:B<=O.N) (hL:L.length<=10000) (hD:D.length<=10000) (hx:∀d∈D,d.x.length<=10000):VF Tryz.prog 61 [.sl L.length (aD L) tl,.sl D.length (D.flatMap aU) tD] O (aE fun m O'=>∃tk',m= .sl (oU L D).length (aD (oU L D)) tk'/\fm O B 4 tl O' tk'):=by
 refine VF.fg ?_;have hlen:=aX gW D;refine χ 82 [.tmp 4] Tryz.func61 ?_;refine κ @gP ?_;refine κ @gP ?_;refine VC.join aa [0,5] (fun tk:Tok=>[.sl L.length (aD L) tl,.sl (D.map fz).length (aD (D.map fz)) tk]) (fun tk O'=>O.Ge O') ?_ ?_;rotate_left
 ·intro tk O9 bh;refine ab @gP ?_;refine π (sL L tl mC (D.map fz) tk (ha.ge bh) (VI hB bh.N) (by omega) (by rw[anf];omega)) ?_;rintro _ Oz ⟨tz,rfl,gz⟩;refine ao @gP @fu ?_;exact⟨tz,rfl,fm.pre bh gz⟩
 refine κ @gP ?_;refine υ ?_;refine Δ [5,14] [0,12,13] (fun x:Nat×Tok=>[.sl ((D.take x.1).map fz).length (aD ((D.take x.1).map fz)) x.2,mi x.1]) (fun x O'=>O.Ge O'/\App O' O.N 4 x.2/\x.1<=D.length) (fun x=>D.length - x.1) ((0,.nil)) ?_ ?_
 ·exact⟨VH.Ge.refl _,trivial,agu _⟩
 rintro⟨j,ta⟩ O2 ⟨aC,cy,hj⟩;dsimp only at cy hj ⊢;by_cases h2:j<D.length;rotate_left
 ·obtain rfl:j=D.length:=by omega
  rw[ahW];refine ν @gP ?_;exact aB.mk ta aC
 have bE:=cP gW D j h2;have iF:(D.take (j+1)).map fz=(D.take j).map fz++[fz D[j]]:=by rw[dB _ _ h2,ant];rfl
 have DW:=hx D[j] (ajx h2);have hAl:((D.take j).map fz).length<=10000:=by rw[anf,ahX];omega
 generalize D[j]=d at*;generalize (D.take j).map fz=A at*;obtain⟨g,a,v,t,c,s,o,X⟩:=d;dsimp only at DW;simp only[aU]at bE;refine κ @gP ?_;refine κ @gP ?_;refine ω (υ ?_);refine ξ @gP @bE ?_;refine VC.al ?_;rintro O3 ⟨aG,hk,gE⟩;have h0:fm O3 O3.N 4 .nil O3 .nil:=fm.refl App.nil;refine κ @gP ?_;refine ξ @gP @hk ?_;refine π (gI [] _ eD g h0.2.1 h0.1.N (by first | omega | simp)) ?_;rintro _ OA ⟨t1,rfl,gw⟩;have h1:=h0.trans gw;have l1:=dM [] eD g;clear gw;generalize eK1:cx [] eD g=K1 at*;have iS:=(fm.ee App.nil h1).hp;have hn:=h1.1.N;try simp only[Ml]at l1
 refine ab @gP ?_;refine θ (aH @gP @hk @iS ?_);refine π (gI K1 _ en a h1.2.1 h1.1.N (by first | omega | simp)) ?_;rintro _ OB ⟨t2,rfl,gw⟩;have NY:=h1.trans gw;have l2:=dM K1 en a;clear gw;generalize eK2:cx K1 en a=K2 at*;have iS:=(fm.ee App.nil NY).hp;have hn:=NY.1.N;try simp only[Ml]at l2
 refine ab @gP ?_;refine θ (aH @gP @hk @iS ?_);refine π (gI K2 _ fS v NY.2.1 NY.1.N (by first | omega | simp)) ?_;rintro _ OC ⟨t3,rfl,gw⟩;have h3:=NY.trans gw;have l3:=dM K2 fS v;clear gw;generalize eK3:cx K2 fS v=K3 at*;have iS:=(fm.ee App.nil h3).hp;have hn:=h3.1.N;try simp only[Ml]at l3
 refine ab @gP ?_;refine θ (aH @gP @hk @iS ?_);refine π (gI K3 _ A_ t h3.2.1 h3.1.N (by first | omega | simp)) ?_;rintro _ OD ⟨t4,rfl,gw⟩;have h4:=h3.trans gw;have l4:=dM K3 A_ t;clear gw;generalize eK4:cx K3 A_ t=K4 at*;have iS:=(fm.ee App.nil h4).hp;have hn:=h4.1.N;try simp only[Ml]at l4
 refine ab @gP ?_;refine θ (aH @gP @hk @iS ?_);refine π (gI K4 _ Ba c h4.2.1 h4.1.N (by first | omega | simp)) ?_;rintro _ OE ⟨t5,rfl,gw⟩;have h5:=h4.trans gw;have l5:=dM K4 Ba c;clear gw;generalize eK5:cx K4 Ba c=K5 at*;have iS:=(fm.ee App.nil h5).hp;have hn:=h5.1.N;try simp only[Ml]at l5
 refine ab @gP ?_;refine θ (aH @gP @hk @iS ?_);refine π (Uy s _) ?_;rintro _ OF ⟨rfl,rfl⟩;refine ab @gP ?_;refine π (gI K5 _ rN (fL s) h5.2.1 h5.1.N (by first | omega | simp)) ?_;rintro _ OG ⟨t6,rfl,gw⟩;have h6:=h5.trans gw;have l6:=dM K5 rN (fL s);clear gw;generalize eK6:cx K5 rN (fL s)=K6 at*;have iS:=(fm.ee App.nil h6).hp;have hn:=h6.1.N;try simp only[Ml]at l6
 refine ab @gP ?_;have hK:zJ ⟨g,a,v,t,c,s,o,X⟩=if o=1 then cx K6 nr kJ else if o=2 then cx K6 nr lP else K6:=by rw[<-eK6, <-eK5, <-eK4, <-eK3, <-eK2, <-eK1];rfl
 clear eK6 eK5 eK4 eK3 eK2 eK1;have hl7:=dM K6 nr kJ;have KV:=dM K6 nr lP;refine VC.join aa [0,5,7,8,9,12,13,14] (fun tk:Tok=>[.sl L.length (aD L) tl,.sl A.length (aD A) ta,.ptr O2.N 0,.sl (zJ ⟨g,a,v,t,c,s,o,X⟩).length (aD (zJ ⟨g,a,v,t,c,s,o,X⟩)) tk,.sl 0 [] .nil,.sl D.length (D.flatMap aU) tD,mi D.length,mi j]) (fun tk O'=>fm O3 O3.N 4 .nil O' tk) ?_ ?_
 ·refine θ (aH @gP @hk @iS ?_);refine υ ?_;by_cases ho1:o=1
  ·rw[hK,if_pos ho1];refine ν @gP ?_;refine π (gI K6 _ nr kJ h6.2.1 h6.1.N (by first | omega | simp)) ?_;rintro _ OH ⟨t7,rfl,gw⟩;have h7:=h6.trans gw;have l7:=dM K6 nr kJ;clear gw;generalize eK7:cx K6 nr kJ=K7 at*;have iS:=(fm.ee App.nil h7).hp;have hn:=h7.1.N;try simp only[Ml]at l7
   refine ab @gP ?_;exact aB.mk t7 h7
  ·rw[hK,if_neg ho1];by_cases ho2:o=2
   ·rw[if_pos ho2];refine ν @gP ?_;refine π (gI K6 _ nr lP h6.2.1 h6.1.N (by first | omega | simp)) ?_;rintro _ OH ⟨t7,rfl,gw⟩;have h7:=h6.trans gw;have l7:=dM K6 nr lP;clear gw;generalize eK7:cx K6 nr lP=K7 at*;have iS:=(fm.ee App.nil h7).hp;have hn:=h7.1.N;try simp only[Ml]at l7
    refine ab @gP ?_;exact aB.mk t7 h7
   ·rw[if_neg ho2];refine ν @gP ?_;exact aB.mk t6 h6
 have hKl:(zJ ⟨g,a,v,t,c,s,o,X⟩).length<=7:=by rw[hK];split<;>first | omega | (split<;>omega)
 intro tk O4 h7;generalize hKd:zJ ⟨g,a,v,t,c,s,o,X⟩=K at*;clear hK hl7 KV h6 iS hn;have iS:=(fm.ee App.nil h7).hp;have hn:=h7.1.N;refine aH @gP @hk @iS ?_;refine VC.wc [0,5,8,9,12,13,14] (fun tx:Tok=>[.sl L.length (aD L) tl,.sl A.length (aD A) ta,.sl K.length (aD K) tk,.sl (X.map ij).length (aD (X.map ij)) tx,.sl D.length (D.flatMap aU) tD,mi D.length,mi j]) (fun tx O'=>O4.Ge O') ?_ ?_
 ·have HT:=aX nV X;refine WC.jh [9,56] [0,5,8,12,13,14,54,55] (fun x:Nat×Tok=>[.sl ((X.take x.1).map ij).length (aD ((X.take x.1).map ij)) x.2,mi x.1]) (fun x O'=>O4.Ge O'/\App O' O4.N 4 x.2/\x.1<=X.length) (fun x=>X.length - x.1) ((0,.nil)) ?_ ?_
  ·exact⟨VH.Ge.refl _,trivial,agu _⟩
  rintro⟨i,tx⟩ O5 ⟨bG,pH,hi⟩;dsimp only at pH hi ⊢;by_cases dA:i<X.length;rotate_left
  ·obtain rfl:i=X.length:=by omega
   rw[ahW];refine ab @gP ?_;exact aB.mk tx bG
  have hxt:=cP nV X i dA;have hsx:(X.take (i+1)).map ij=(X.take i).map ij++[ij X[i]]:=by rw[dB _ _ dA,ant];rfl
  have HU:((X.take i).map ij).length<=10000:=by rw[anf,ahX];omega
  generalize X[i]=y at*;generalize (X.take i).map ij=E at*;obtain⟨yg,ya⟩:=y;simp only[cj]at hxt;refine ao @gP @hxt ?_;refine VC.al ?_;rintro O6 ⟨eZ,nG,nH⟩;refine VC.oD [9,10] ?_;refine ae.au 0 ?_;refine ab @gP ?_;refine ae.au 1 ?_;refine ab @gP ?_;refine ae.au 4 ?_;refine ab @gP ?_;refine ae.ld (m:=.str yg) 2 ?_ ?_
  ·exact dW @gP @nG
  simp only[ak];refine ae.ld (m:=.str ya) 5 ?_ ?_
  ·exact dW @gP @nG
  simp only[ak];refine ae.call (i:=3) (gI [] .nil eD yg (App.nil (B:=O6.N)) (ZA _) (by simp)) ?_;rintro _ O7 ⟨t7,rfl,g7⟩;simp only[ak];have l7:=dM [] eD yg;generalize e7:cx [] eD yg=E1 at*;simp only[Ml]at l7;refine⟨fm.ee App.nil g7,?_⟩;refine ae.call (i:=6) (gI E1 t7 en ya g7.2.1 g7.1.N (by omega)) ?_;rintro _ O8 ⟨t8,rfl,g8⟩;simp only[ak];have l8:=dM E1 en ya;have he:ij ⟨yg,ya⟩= .mk uX [] (cx E1 en ya) []:=by rw[<-e7];rfl
  generalize cx E1 en ya=E2 at*;have h8:=fm.ee App.nil (g7.trans g8);refine⟨h8,?_⟩;refine ae.au 7 ?_;refine ab @gP ?_;refine ae.op (i:=8) ?_;refine ab @gP ?_;refine⟨h8,?_⟩;refine ae.bQ [(9,.one),(10,.au)] ?_;have gQ:=eZ.trans h8;have abr:=pH.ge gQ;refine ab @gP ?_;obtain⟨mE,gY,lQ⟩:=gG (n:=E.length) (cs:=aD E) (ds:=[.str uX,.sl 0 [] .nil,.sl E2.length (aD E2) t8,.str []]) (es:=dL (ij ⟨yg,ya⟩)) we DU.1.1 abr (dC E) rfl rfl (by decide) (by omega) (by simp only[maxLen];omega) (fu E) (by rw[he];simp only[wu,fu,dL];rfl);refine δ gY lQ ?_;refine ab @gP ?_;exact az.N (i+1,.own O8.N 4) ⟨cc.ee (bG.trans gQ) abr (cc.after abr),App.after (VI bG.N gQ.N),dA⟩ (hl:=(by dsimp only;rw[hsx,eG,zW,aD,aD,aed];rfl))
 intro tx O5 bG;have h5:=h7.ge bG;refine ab @gP ?_;refine π (sL K tk mA (X.map ij) tx h5.2.1 h5.1.N (by omega) (by rw[anf];omega)) ?_;rintro _ O6 ⟨tb,rfl,g6⟩;have h6:=h5.trans g6;have o5:=qJ K mA (X.map ij);have tY:fz ⟨g,a,v,t,c,s,o,X⟩= .mk mg [] (j_ K mA (X.map ij)) []:=by rw[<-hKd];rfl
 generalize j_ K mA (X.map ij)=K9 at*;have abt:=aG.trans (fm.ee App.nil h6);have mM:=cy.ge abt;refine ab @gP ?_;obtain⟨mE,gY,lQ⟩:=gG (n:=A.length) (cs:=aD A) (ds:=[.str mg,.sl 0 [] .nil,.sl K9.length (aD K9) tb,.str []]) (es:=dL (fz ⟨g,a,v,t,c,s,o,X⟩)) we DU.1.1 mM (dC A) rfl rfl (by decide) (by omega) (by simp only[maxLen];omega) (fu A) (by rw[tY];simp only[wu,fu,dL];rfl);refine δ gY lQ ?_;refine ab @gP ?_;refine ν @gP ?_;exact az.N (j+1,.own O6.N 4) ⟨cc.ee (aC.trans abt) mM (cc.after mM),App.after (VI aC.N abt.N),h2⟩ (hl:=(by dsimp only;rw[iF,eG,zW,aD,aD,aed];rfl))
set_option linter.defProp false in
def eo:=Mn gP<|Mn T86<|Mn KO Dh
abbrev wh:Bs:=[112,97,114,101,110,116]
abbrev yK:Bs:=[112,97,99,107,97,103,105,110,103]
abbrev lR:Bs:=[112,114,111,112,101,114,116,105,101,115]
abbrev sM:Bs:=[100,101,112,101,110,100,101,110,99,121,77,97,110,97,103,101,109,101,110,116]
abbrev hY:Bs:=[112,114,111,106,101,99,116]
def FX (p:Pm):List Nd:=if p.hp then j_ [] wh (cx (cx (cx [] eD p.par.g) en p.par.a) fS p.par.v)else[]
def KW (p:Pm):List Nd:=cx (cx (cx (cx (FX p) eD p.g) en p.a) fS p.v) yK p.pk
def iJ (x:Bs×Bs):Nd:=.mk x.1 [] (if x.2=[]then[]else[.mk [] [] [] x.2]) []
def fW (p:Pm):Nd:=.mk hY [] (oU (j_ (j_ (KW p) lR (p.props.map iJ)) sM (oU [] p.eU)) p.eK) []
theorem NZ (L:List Nd) (D:List Dp):(oU L D).length<=L.length+1:=qJ _ _ _
theorem abu {O:VH} (p:Pm) (hP:p.props.length<=10000) (hM:p.eU.length<=10000) (hD:p.eK.length<=10000) (hx:∀d∈p.eU++p.eK,d.x.length<=10000):VF Tryz.prog 37 [.agg (gX p)] O (aE fun m O'=>m= .agg (dL (fW p))/\O.Ge O'):=by
 refine VF.fg ?_;obtain⟨hp,⟨pg,pa,pv⟩,g,a,v,pk,P,M,D⟩:=p;dsimp only at hP hM hD hx;have hPl:=aX fM P;simp only[gX];refine χ 76 [.cell 2 93] Tryz.func37 ?_;refine κ @eo ?_;refine VC.bx ?_;rintro O1 ⟨aJ,bN,cW⟩;have hk:O1.hp O.N=some (.cells [mb hp,.str pg,.str pa,.str pv,.str g,.str a,.str v,.str pk,.sl P.length (P.flatMap bm) .ar,.sl M.length (M.flatMap aU) .ar,.sl D.length (D.flatMap aU) .ar]):=(aJ.hp _ (ajB _)).trans (Υ _ _)
 replace bN:O1.hp (O.N+1)=some (.cells [.str [],.sl 0 [] .nil,.sl 0 [] .nil,.str []]):=bN
 have o7:=((VH.Ge.refl O).push _).trans aJ;have hn0:O1.N=O.N+2:=cW;simp only[bu]at hk;clear aJ cW;have h0:fm O1 O1.N 4 .nil O1 .nil:=fm.refl App.nil;refine κ @eo ?_;have dI:(FX ⟨hp,⟨pg,pa,pv⟩,g,a,v,pk,P,M,D⟩).length<=1:=by unfold FX;split;exact qJ _ _ _;simp
 have hh:KW ⟨hp,⟨pg,pa,pv⟩,g,a,v,pk,P,M,D⟩=cx (cx (cx (cx (FX ⟨hp,⟨pg,pa,pv⟩,g,a,v,pk,P,M,D⟩) eD g) en a) fS v) yK pk:=rfl;have hw:fW ⟨hp,⟨pg,pa,pv⟩,g,a,v,pk,P,M,D⟩= .mk hY [] (oU (j_ (j_ (KW ⟨hp,⟨pg,pa,pv⟩,g,a,v,pk,P,M,D⟩) lR (P.map iJ)) sM (oU [] M)) D) []:=rfl;have hpp:FX ⟨hp,⟨pg,pa,pv⟩,g,a,v,pk,P,M,D⟩=if hp then j_ [] wh (cx (cx (cx [] eD pg) en pa) fS pv)else[]:=rfl
 rw[hh]at hw;clear hh;generalize fW ⟨hp,⟨pg,pa,pv⟩,g,a,v,pk,P,M,D⟩=W at*;generalize FX ⟨hp,⟨pg,pa,pv⟩,g,a,v,pk,P,M,D⟩=K0 at*;refine Ξ [1,2,3,4] (fun tk:Tok=>[.ptr O.N 0,.ptr (O.N+1) 0,.sl K0.length (aD K0) tk,.sl 0 [] .nil]) (fun tk O'=>fm O1 O1.N 4 .nil O' tk) ?_ ?_
 ·cases hp
  ·refine ξ @eo @hk ?_;rw[hpp];refine ν @eo ?_;exact aB.mk .nil h0
  ·refine ξ @eo @hk ?_;rw[hpp];refine ν @eo ?_;refine VC.oD [] ?_;refine ae.au 0 ?_;refine ab @eo ?_;refine ae.au 1 ?_;refine ab @eo ?_;refine ae.au 2 ?_;refine ab @eo ?_;refine ae.ld (m:=.str pg) 3 ?_ ?_
   ·exact dW @eo @hk
   simp only[ak];refine ae.au 5 ?_;refine ab @eo ?_;refine ae.au 6 ?_;refine ab @eo ?_;refine ae.ld (m:=.str pa) 7 ?_ ?_
   ·exact dW @eo @hk
   simp only[ak];refine ae.au 9 ?_;refine ab @eo ?_;refine ae.au 10 ?_;refine ab @eo ?_;refine ae.ld (m:=.str pv) 11 ?_ ?_
   ·exact dW @eo @hk
   simp only[ak];refine ae.call (i:=4) (gI [] .nil eD pg (App.nil (B:=O1.N)) (ZA _) (by simp)) ?_;rintro _ O2 ⟨t2,rfl,g2⟩;simp only[ak];have l2:=dM [] eD pg;generalize cx [] eD pg=E1 at*;simp only[Ml]at l2;refine⟨fm.ee App.nil g2,?_⟩;refine ae.call (i:=8) (gI E1 t2 en pa g2.2.1 g2.1.N (by omega)) ?_;rintro _ O3 ⟨t3,rfl,g3⟩;simp only[ak];have l3:=dM E1 en pa;generalize cx E1 en pa=E2 at*
   replace g3:=g2.trans g3
   refine⟨fm.ee App.nil g3,?_⟩;refine ae.call (i:=12) (gI E2 t3 fS pv g3.2.1 g3.1.N (by omega)) ?_;rintro _ O4 ⟨t4,rfl,g4⟩;simp only[ak];have l4:=dM E2 fS pv;generalize cx E2 fS pv=E3 at*
   replace g4:=g3.trans g4
   refine⟨fm.ee App.nil g4,?_⟩;refine ae.call (i:=13) (sL [] .nil wh E3 t4 (App.nil (B:=O4.N)) (ZA _) (by simp) (by omega)) ?_;rintro _ O5 ⟨t5,rfl,g5⟩;simp only[ak];refine⟨(fm.ee App.nil g4).trans (fm.ee App.nil g5),?_⟩;refine ae.au 14 ?_;refine ab @eo ?_;refine ae.bQ [] ?_;refine ab @eo ?_;exact aB.mk t5 (fm.fresh (fm.ee App.nil g4) g5)
 intro tk O2 h2;have iS:=(fm.ee App.nil h2).hp;have hn:=h2.1.N;clear hpp;refine θ (aH @eo @hk @iS ?_);refine π (gI K0 _ eD g h2.2.1 h2.1.N (by first | omega | simp)) ?_;rintro _ OA ⟨t1,rfl,gw⟩;have h3:=h2.trans gw;have l1:=dM K0 eD g;clear gw;generalize eK1:cx K0 eD g=K1 at*;have iS:=(fm.ee App.nil h3).hp;have hn:=h3.1.N;try simp only[Ml]at l1
 refine ab @eo ?_;refine θ (aH @eo @hk @iS ?_);refine π (gI K1 _ en a h3.2.1 h3.1.N (by first | omega | simp)) ?_;rintro _ OB ⟨t2,rfl,gw⟩;have h4:=h3.trans gw;have l2:=dM K1 en a;clear gw;generalize eK2:cx K1 en a=K2 at*;have iS:=(fm.ee App.nil h4).hp;have hn:=h4.1.N;try simp only[Ml]at l2
 refine ab @eo ?_;refine θ (aH @eo @hk @iS ?_);refine π (gI K2 _ fS v h4.2.1 h4.1.N (by first | omega | simp)) ?_;rintro _ OC ⟨t3,rfl,gw⟩;have h5:=h4.trans gw;have l3:=dM K2 fS v;clear gw;generalize eK3:cx K2 fS v=K3 at*;have iS:=(fm.ee App.nil h5).hp;have hn:=h5.1.N;try simp only[Ml]at l3
 refine ab @eo ?_;refine θ (aH @eo @hk @iS ?_);refine π (gI K3 _ yK pk h5.2.1 h5.1.N (by first | omega | simp)) ?_;rintro _ OD ⟨t4,rfl,gw⟩;have h6:=h5.trans gw;have l4:=dM K3 yK pk;clear gw;generalize eK4:cx K3 yK pk=K4 at*;have iS:=(fm.ee App.nil h6).hp;have hn:=h6.1.N;try simp only[Ml]at l4
 refine ab @eo ?_;clear eK1 eK2 eK3 eK4;refine Ξ [1,2,3,4] (fun tp:Tok=>[.ptr O.N 0,.ptr (O.N+1) 0,.sl K4.length (aD K4) t4,.sl (P.map iJ).length (aD (P.map iJ)) tp]) (fun tp O'=>OD.Ge O') ?_ ?_
 ·refine θ (aH @eo @hk @iS ?_);refine υ ?_;refine Δ [4,43] [1,2,3,41,42] (fun x:Nat×Tok=>[.sl ((P.take x.1).map iJ).length (aD ((P.take x.1).map iJ)) x.2,mi x.1]) (fun x O'=>OD.Ge O'/\App O' OD.N 4 x.2/\x.1<=P.length) (fun x=>P.length - x.1) ((0,.nil)) ?_ ?_
  ·exact⟨VH.Ge.refl _,trivial,agu _⟩
  rintro⟨j,tp⟩ O3 ⟨aG,cy,hj⟩;dsimp only at cy hj ⊢;by_cases aM:j<P.length;rotate_left
  ·obtain rfl:j=P.length:=by omega
   rw[ahW];refine ν @eo ?_;exact aB.mk tp aG
  have bE:=cP fM P j aM;have iF:(P.take (j+1)).map iJ=(P.take j).map iJ++[iJ P[j]]:=by rw[dB _ _ aM,ant];rfl
  have HU:((P.take j).map iJ).length<=10000:=by rw[anf,ahX];omega
  generalize P[j]=y at*;generalize (P.take j).map iJ=E at*;obtain⟨yn,yv⟩:=y;simp only[bm]at bE;refine κ @eo ?_;refine κ @eo ?_;refine ω (υ ?_);refine ξ @eo @bE ?_;refine VC.al ?_;rintro O4 ⟨aY,nG,h_⟩;refine ξ @eo @nG ?_;refine VC.al ?_;rintro O5 ⟨bG,zx,e_⟩;have hkz:O5.hp O3.N=some (.cells [.str yn,.str yv]):=bG.at nG;have gJ:=(cy.ge aY).ge bG;have FY:=(aG.trans aY).trans bG;cases yv with
  | nil=>
    refine ι (cJ @eo @hkz (show(([]:List UInt8)==[])=true from rfl) @zx ?_);obtain⟨mE,gY,lQ⟩:=gG (n:=E.length) (cs:=aD E) (ds:=[.str yn,.sl 0 [] .nil,.sl 0 [] .nil,.str []]) (es:=dL (iJ (yn,[]))) we DU.1.1 gJ (dC E) rfl rfl (by decide) (by omega) (by simp only[maxLen];omega) (fu E) (by simp only[wu,iJ,dL,if_true,Ml,ame,aD]);refine δ gY lQ ?_;refine ab @eo ?_;refine ν @eo ?_;exact az.N (j+1,.own O5.N 4) ⟨cc.ee FY gJ (cc.after gJ),App.after FY.N,aM⟩ (hl:=(by dsimp only;rw[iF,eG,zW,aD,aD,aed];rfl))
  | cons c yv=>
    refine ι (cJ @eo @hkz (show((c::yv)==[])=false from rfl) @zx ?_);have mM:=gJ.set (x:=.cells [.str yn,.sl 0 [] .nil,.sl 1 [.str [],.sl 0 [] .nil,.sl 0 [] .nil,.str (c::yv)] .full,.str []]) zx;have N0:=FY.set (k:=O4.N) (by have:=aG.N;omega) (.cells [.str yn,.sl 0 [] .nil,.sl 1 [.str [],.sl 0 [] .nil,.sl 0 [] .nil,.str (c::yv)] .full,.str []]);generalize O5.set O4.N (.cells [.str yn,.sl 0 [] .nil,.sl 1 [.str [],.sl 0 [] .nil,.sl 0 [] .nil,.str (c::yv)] .full,.str []])=O6 at*;obtain⟨mE,gY,lQ⟩:=gG (n:=E.length) (cs:=aD E) (ds:=[.str yn,.sl 0 [] .nil,.sl 1 [.str [],.sl 0 [] .nil,.sl 0 [] .nil,.str (c::yv)] .full,.str []]) (es:=dL (iJ (yn,c::yv))) we DU.1.1 mM (dC E) rfl rfl (by decide) (by omega) (by simp only[maxLen];omega) (fu E) (by simp only[wu,iJ,dL,if_neg (List.cons_ne_nil c yv),Ml,Mm,ame,aD,aed,anh]);refine δ gY lQ ?_;refine ab @eo ?_;refine ν @eo ?_;exact az.N (j+1,.own O6.N 4) ⟨cc.ee N0 mM (cc.after mM),App.after N0.N,aM⟩ (hl:=(by dsimp only;rw[iF,eG,zW,aD,aD,aed];rfl))
 intro tp O3 aG;have h7:=h6.ge aG;clear iS hn;have iS:=(fm.ee App.nil h7).hp;have hn:=h7.1.N;refine κ @eo ?_;refine π (sL K4 t4 lR (P.map iJ) tp h7.2.1 h7.1.N (by omega) (by rw[anf];omega)) ?_;rintro _ O4 ⟨t5,rfl,g8⟩;have h8:=h7.trans g8;have l5:=qJ K4 lR (P.map iJ);generalize j_ K4 lR (P.map iJ)=K5 at*;have akD:=(fm.ee App.nil h8).hp;have DY:=h8.1.N;refine ab @eo ?_;refine θ (aH @eo @hk @akD ?_);refine π (Bb [] .nil M .ar (App.nil (B:=O4.N)) (ZA _) (by simp) hM (fun d hd=>hx d (List.mem_append_left _ hd))) ?_;rintro _ O5 ⟨t6,rfl,g9⟩;have l6:=NZ [] M;generalize oU [] M=K6 at*;simp only[Ml]at l6;have h9:=h8.ge (fm.ee App.nil g9);refine ab @eo ?_;refine π (sL K5 t5 sM K6 t6 h9.2.1 h9.1.N (by omega) (by omega)) ?_;rintro _ O6 ⟨t7,rfl,g10⟩;have zm:=h9.trans g10;have l7:=qJ K5 sM K6;generalize j_ K5 sM K6=K7 at*;have aiA:=(fm.ee App.nil zm).hp;have Jb:=zm.1.N;refine ab @eo ?_;refine θ (aH @eo @hk @aiA ?_);refine π (Bb K7 t7 D .ar zm.2.1 zm.1.N (by omega) hD (fun d hd=>hx d (List.mem_append_right _ hd))) ?_;rintro _ O7 ⟨t8,rfl,g11⟩;have h11:=zm.trans g11;generalize oU K7 D=K8 at*;have aiB:=(fm.ee App.nil h11).hp;have agS:=h11.1.N;have dR:=(aiB _ (by omega)).trans bN;refine ao @eo @dR ?_;refine ο @eo @fu ?_;exact⟨by rw[hw,dL];rfl,(o7.trans (fm.ee App.nil h11)).set (by omega) _⟩
set_option linter.defProp false in
def dX:=Mn AT<|Mn eo<|Mn agF<|Mn FO<|Mn agJ abl
theorem fK.trans {O O1 O2:VH} {b:Nat} {q q1 q2:Option Nat} (h:fK O b q O1 q1) (k:fK O1 b q1 O2 q2):fK O b q O2 q2:=
 ⟨VI h.N k.N,fun i hi hb hq=>by rw[k.hp i (ahV hi h.N) hb (h.new i hi hq),h.hp i hi hb hq],fun i hi hq=>k.new i (ahV hi h.N) (h.new i hi hq)⟩
theorem fK.ll {O O1:VH} {b:Nat} {q:Option Nat} (h:O.Ge O1):fK O b q O1 q:=⟨h.N,fun i hi _ _=>h.hp i hi,fun _ _ hq=>hq⟩
theorem gD.ge {O O':VH} {B b:Nat} {q:Option Nat} {s:List UInt8} (h:gD O B b q s) (u:O.Ge O'):gD O' B b q s:=h.zD (bB.ll u)
theorem fK.Cc {O O1 O2:VH} {b:Nat} {q:Option Nat} (h:O.Ge O1) (u:fK O1 b none O2 q) (hb:O.N<=b):O.Ge O2:=u.ge h hb (fun _ e=>by cases e)
theorem VH.Ge.Uz {O O1 O2:VH} {q:Option Nat} (h:O.Ge O1) (u:bB O1 q O2) (hq:∀i,q=some i->O.N<=i):O.Ge O2:=⟨VI h.N u.N,fun i hi=>(u.hp i (ahV hi h.N) (fun e=>by have:=hq i e;omega)).trans (h.hp i hi)⟩
def pX (attr:Bool) (c:UInt8):Bs:=
 if c=38 then[38,97,109,112,59]else if c=60 then[38,108,116,59]else if c=62 then[38,103,116,59]else if c=13 then[38,35,49,51,59]
 else if attr&&c==34 then[38,113,117,111,116,59]else if attr&&c==9 then[38,35,57,59]else if attr&&c==10 then[38,35,49,48,59]else[c]
def ns (attr:Bool) (s:Bs):Bs:=s.flatMap (pX attr)
theorem XN (attr:Bool) (c:UInt8):(pX attr c).length<=6:=by
 unfold pX;repeat' split
 all_goals simp
theorem oG (attr:Bool) (s:Bs):(ns attr s).length<=6*s.length:=by
 induction s with
 | nil=>simp[ns]
 | cons c s ih=>
   have:=XN attr c;unfold ns at ih ⊢;rw[ahY,zW,Mm];omega
theorem Cd (s:Bs) (attr:Bool) (O:VH) (hs:s.length<=1000000):VF Tryz.prog 56 [.str s,mb attr] O (aE fun m O'=>m= .str (ns attr s)/\O.Ge O'):=by
 have RY:s.length<=maxLen:=VI hs (by decide);have hm:(s.length:Int)<=9223372036854775807:=by omega
 refine Θ 56 [.tmp 4] Tryz.func56 ?_;refine ab @dX ?_;have wj:=gD.fresh O (ZA O.N);have mY:O.Ge ((O.push (.cells [.v (.pointer none),.sl 0 [] .nil])).push (.shape O.N 155 2)):=((VH.Ge.refl O).push _).push _;generalize ((O.push (.cells [.v (.pointer none),.sl 0 [] .nil])).push (.shape O.N 155 2))=O1 at*;refine VL.bytes aa (el:=5) (l:=s) rfl rfl (by rw[T9];rfl) (by rw[uV];rfl) (by rw[T5];rfl) RY rfl fun cap h1 h2=>WL.sound aa ?_
 have yf:=Υ O1 (.cells (s.map gj));have aJ:=(VH.Ge.refl O1).push (.cells (s.map gj));have cW:O1.N<(O1.push (.cells (s.map gj))).N:=ajB _;have o5:=wj.hi;have cE:=wj.ge aJ;have sG:fK O1 O.N none (O1.push (.cells (s.map gj))) none:=fK.ll aJ;generalize O1.push (.cells (s.map gj))=O2 at*;refine ab @dX ?_;refine WC.jh [11] [1,5,9,10] (fun x:Nat×Option Nat=>[mi x.1]) (fun x O'=>fK O2 O.N none O' x.2/\gD O' O.N O.N x.2 (ns attr (s.take x.1))/\x.1<=s.length) (fun x=>s.length - x.1) ((0,none)) ?_ ?_
 ·exact⟨fK.ll (VH.Ge.refl _),cE,agu _⟩
 rintro⟨j,q⟩ O3 ⟨hu,hb,hj⟩;dsimp only at hu hb hj ⊢;have DZ:=(hu.hp O1.N cW (by omega) (by simp)).trans yf;by_cases h3:j<s.length
 ·have qG:=aeb h3;have iF:ns attr (s.take (j+1))=ns attr (s.take j)++pX attr s[j]:=by unfold ns;rw[dB _ _ h3,ajz,ahY,ame,aed]
  have dd:(ns attr (s.take j)).length<=6000000:=by have:=oG attr (s.take j);rw[ahX]at this;omega
  generalize ns attr (s.take j)=T at*;generalize s[j]=c at*;have hc:=c.toNat_lt;have key:∀(l:Bs) (q':Option Nat) (O4:VH),pX attr c=l->gD O4 O.N O.N q' (T++l)->fK O3 O.N q O4 q'->fK O2 O.N none O4 q'/\gD O4 O.N O.N q' (ns attr (s.take (j+1)))/\j+1<=s.length:=fun l q' O4 e h k=>⟨hu.trans k,by rw[iF,e];exact h,h3⟩
  have KX:c=38 ↔ c.toNat=38:=⟨fun h=>by rw[h];rfl,fun h=>UInt8.toNat_inj.1 h⟩;have N1:c=60 ↔ c.toNat=60:=⟨fun h=>by rw[h];rfl,fun h=>UInt8.toNat_inj.1 h⟩;have RZ:c=62 ↔ c.toNat=62:=⟨fun h=>by rw[h];rfl,fun h=>UInt8.toNat_inj.1 h⟩;have XO:c=13 ↔ c.toNat=13:=⟨fun h=>by rw[h];rfl,fun h=>UInt8.toNat_inj.1 h⟩;have e34:c=34 ↔ c.toNat=34:=⟨fun h=>by rw[h];rfl,fun h=>UInt8.toNat_inj.1 h⟩;have e9:c=9 ↔ c.toNat=9:=⟨fun h=>by rw[h];rfl,fun h=>UInt8.toNat_inj.1 h⟩;have sN:c=10 ↔ c.toNat=10:=⟨fun h=>by rw[h];rfl,fun h=>UInt8.toNat_inj.1 h⟩;by_cases h38:c.toNat=38
  ·refine cJ @dX @qG @DZ @aL ?_;refine π (bU [38,97,109,112,59] hb (by simp only[Mm,Ml];omega)) ?_;rintro _ O4 ⟨rfl,q',di,ff⟩;refine ab @dX ?_;exact az.N (j+1,q') (key _ _ _ (by simp[pX,KX,h38]) di ff)
  by_cases N2:c.toNat=60
  ·refine cJ @dX @qG @DZ @aL ?_;refine π (bU [38,108,116,59] hb (by simp only[Mm,Ml];omega)) ?_;rintro _ O4 ⟨rfl,q',di,ff⟩;refine ab @dX ?_;exact az.N (j+1,q') (key _ _ _ (by simp[pX,KX,N1,N2]) di ff)
  by_cases h62:c.toNat=62
  ·refine cJ @dX @qG @DZ @aL ?_;refine π (bU [38,103,116,59] hb (by simp only[Mm,Ml];omega)) ?_;rintro _ O4 ⟨rfl,q',di,ff⟩;refine ab @dX ?_;exact az.N (j+1,q') (key _ _ _ (by simp[pX,KX,N1,RZ,h62]) di ff)
  by_cases h13:c.toNat=13
  ·refine cJ @dX @qG @DZ @aL ?_;refine π (bU [38,35,49,51,59] hb (by simp only[Mm,Ml];omega)) ?_;rintro _ O4 ⟨rfl,q',di,ff⟩;refine ab @dX ?_;exact az.N (j+1,q') (key _ _ _ (by simp[pX,KX,N1,RZ,XO,h13]) di ff)
  cases attr
  ·refine cJ @dX @qG @DZ @aL ?_;refine π (ug c hb (by omega)) ?_;rintro _ O4 ⟨rfl,q',di,ff⟩;refine ab @dX ?_;exact az.N (j+1,q') (key _ _ _ (by simp[pX,KX,N1,RZ,XO,h38,N2,h62,h13]) di ff)
  by_cases h34:c.toNat=34
  ·refine cJ @dX @qG @DZ @aL ?_;refine π (bU [38,113,117,111,116,59] hb (by simp only[Mm,Ml];omega)) ?_;rintro _ O4 ⟨rfl,q',di,ff⟩;refine ab @dX ?_;exact az.N (j+1,q') (key _ _ _ (by simp[pX,KX,N1,RZ,XO,e34,h34]) di ff)
  by_cases h9:c.toNat=9
  ·refine cJ @dX @qG @DZ @aL ?_;refine π (bU [38,35,57,59] hb (by simp only[Mm,Ml];omega)) ?_;rintro _ O4 ⟨rfl,q',di,ff⟩;refine ab @dX ?_;exact az.N (j+1,q') (key _ _ _ (by simp[pX,KX,N1,RZ,XO,e34,e9,h9]) di ff)
  by_cases zm:c.toNat=10
  ·refine cJ @dX @qG @DZ @aL ?_;refine π (bU [38,35,49,48,59] hb (by simp only[Mm,Ml];omega)) ?_;rintro _ O4 ⟨rfl,q',di,ff⟩;refine ab @dX ?_;exact az.N (j+1,q') (key _ _ _ (by simp[pX,KX,N1,RZ,XO,e34,e9,sN,zm]) di ff)
  ·refine cJ @dX @qG @DZ @aL ?_;refine π (ug c hb (by omega)) ?_;rintro _ O4 ⟨rfl,q',di,ff⟩;refine ab @dX ?_;exact az.N (j+1,q') (key _ _ _ (by simp[pX,KX,N1,RZ,XO,e34,e9,sN,h38,N2,h62,h13,h34,h9,zm]) di ff)
 ·obtain rfl:j=s.length:=by omega
  rw[ahW]at hb;have HR:=oG attr s;refine ab @dX ?_;refine π (qF hb (by simp only[maxLen];omega)) ?_;rintro _ O4 ⟨rfl,ff⟩;refine ab @dX ?_;exact(fK.Cc (mY.trans aJ) hu (ZA _)).Uz ff hb.yJ
structure R0 where
 k:Int
 n:Bs
 gk:List (Bs×Bs)
 t:Bs
 off:Nat
 line:Nat
 FZ:Nat
 deriving DecidableEq
def F0 (x:R0):List MV:=[mi x.k,.str x.n,.sl x.gk.length (x.gk.flatMap bm) .ar,.str x.t,mi x.off,mi x.line,mi x.FZ]
def pJ (a:Bs×Bs):Bs:=[32]++a.1++[61,34]++ns true a.2++[34]
def F1 (n:Bs) (L:List (Bs×Bs)) (e:Bs):Bs:=[60]++n++L.flatMap pJ++e
theorem F2 (a:Bs×Bs) (h1:a.1.length<=1000000) (h2:a.2.length<=1000000):(pJ a).length<=7000004:=by
 have:=oG true a.2;simp only[pJ,zW,Mm,Ml];omega
theorem rO:∀L:List (Bs×Bs),(∀a∈L,a.1.length<=1000000/\a.2.length<=1000000)->(L.flatMap pJ).length<=L.length*7000004
 | [],_=>by simp
 | a::L,h=>by
   have h1:=F2 a (h a (by simp)).1 (h a (by simp)).2;have h2:=rO L fun x hx=>h x (List.mem_cons_of_mem _ hx)
   rw[ahY,zW,Mm,Nat.succ_mul];omega
theorem abv {O:VH} {B b:Nat} {q:Option Nat} {s:Bs} (x:R0) (e:Bs) (h:gD O B b q s) (hs:s.length<=10000000000000) (hn:x.n.length<=1000000) (he:e.length<=1000000) (hA:∀a∈x.gk,a.1.length<=1000000/\a.2.length<=1000000) (hl:x.gk.length<=1000000):
  VF Tryz.prog 73 [.ptr b 0,.agg (F0 x),.str e] O (aE fun m O'=>∃q',gD O' B b q' (s++F1 x.n x.gk e)/\fK O b q O' q'):=by
 obtain⟨k,n,L,t,off,line,FZ⟩:=x;dsimp only at hn hA hl;have pF:=aX fM L;simp only[F0];refine χ 35 [] Tryz.func73 ?_;refine κ @dX ?_;refine VC.bx ?_;rintro O1 ⟨aJ,hk,cW⟩;have cE:=h.ge aJ;try simp only[aq]at hk
 refine ξ @dX @hk ?_;refine π (bU ([60]++n) cE (by simp only[zW,Mm,Ml];omega)) ?_;rintro _ O2 ⟨rfl,q2,cK,c9⟩;have bN:=(c9.hp O.N (by omega) (by have:=h.hi;omega) (h.Ux _ (ZA _))).trans hk;refine ab @dX ?_;refine Ξ [0,2] (fun q:Option Nat=>[.ptr b 0,.str e]) (fun q' O'=>fK O b q O' q'/\gD O' B b q' (s++([60]++n)++L.flatMap pJ)) ?_ ?_
 ·refine ξ @dX @bN ?_;refine υ ?_;refine Δ [16] [0,2,14,15] (fun x:Nat×Option Nat=>[mi x.1]) (fun x O'=>fK O b q O' x.2/\gD O' B b x.2 (s++([60]++n)++(L.take x.1).flatMap pJ)/\x.1<=L.length) (fun x=>L.length - x.1) ((0,q2)) ?_ ?_
  ·exact⟨(fK.ll aJ).trans c9,by simpa using cK,agu _⟩
  rintro⟨j,qj⟩ O3 ⟨c_,cC,hj⟩;dsimp only at c_ cC hj ⊢;by_cases aM:j<L.length;rotate_left
  ·obtain rfl:j=L.length:=by omega
   rw[ahW]at cC;refine ν @dX ?_;exact aB.mk qj ⟨c_,cC⟩
  have bE:=cP fM L j aM;have iF:(L.take (j+1)).flatMap pJ=(L.take j).flatMap pJ++pJ L[j]:=by rw[dB _ _ aM,ajz,ahY,ame,aed]
  have kK:=hA L[j] (ajx aM);have dI:=F2 L[j] kK.1 kK.2
  have hTl:((L.take j).flatMap pJ).length<=7000004000000:=by
   have:=rO (L.take j) fun a ha=>hA a (List.mem_of_mem_take ha)
   rw[ahX]at this;omega
  generalize L[j]=y at*;generalize (L.take j).flatMap pJ=T at*;obtain⟨yn,yv⟩:=y;dsimp only at kK;simp only[bm]at bE;refine κ @dX ?_;refine κ @dX ?_;refine ω (υ ?_);refine ξ @dX @bE ?_;refine VC.al ?_;rintro O4 ⟨aY,nG,h_⟩;have di:=cC.ge aY;refine VC.oD [10] ?_;refine ae.au 0 ?_;refine ab @dX ?_;refine ae.au 1 ?_;refine ab @dX ?_;refine ae.ld (m:=.str yn) 2 ?_ ?_
  ·exact dW @dX @nG
  simp only[ak];refine ae.au 3 ?_;refine ab @dX ?_;refine ae.au 4 ?_;refine ab @dX ?_;refine ae.au 5 ?_;refine ab @dX ?_;refine ae.ld (m:=.str yv) 6 ?_ ?_
  ·exact dW @dX @nG
  simp only[ak];refine ae.call (i:=7) (Cd yv true _ kK.2) ?_;rintro _ O5 ⟨rfl,bG⟩;simp only[ak];refine⟨bG,?_⟩;have HR:=oG true yv;have hae:pJ (yn,yv)=[32]++yn++[61,34]++ns true yv++[34]:=rfl;generalize ns true yv=E at*;refine ae.au 8 ?_;refine ab @dX ?_;refine ae.au 9 ?_;refine ab @dX ?_;refine ae.bQ [(10,.one)] ?_;refine ab @dX ?_;refine π (bU ([32]++yn++[61,34]++E++[34]) (di.ge bG) (by simp only[zW,Mm,Ml];omega)) ?_;rintro _ O6 ⟨rfl,q6,ju,r_⟩;refine ab @dX ?_;refine ν @dX ?_;exact az.N (j+1,q6) ⟨(c_.trans (fK.ll (aY.trans bG))).trans r_,by rw[iF,hae, <-ajA];exact ju,aM⟩
 rintro q3 O3 ⟨c_,cC⟩;have hTl:=rO L hA;refine ν @dX ?_;refine π (bU e cC (by simp only[zW,Mm,Ml];omega)) ?_;rintro _ O4 ⟨rfl,q4,di,ff⟩;refine ab @dX ?_;refine⟨q4,?_,c_.trans ff⟩;simpa[F1,ajA]using di
def zK (x:R0):Bs:=
 if x.k=5 then[60,33,45,45]++x.t++[45,45,62]else if x.k=6 then[60,63,120,109,108]++x.t++[63,62]else if x.k=3 then[60,47]++x.n++[62]
 else if x.k=1 then F1 x.n x.gk [62]else if x.k=2 then F1 x.n x.gk [47,62]else if x.k=4 then ns false x.t else[]
structure R1 (x:R0):Prop where
 n:x.n.length<=1000000
 t:x.t.length<=1000000
 a:∀a∈x.gk,a.1.length<=1000000/\a.2.length<=1000000
 l:x.gk.length<=1000000
theorem Jc (n:Bs) (L:List (Bs×Bs)) (e:Bs) (hn:n.length<=1000000) (he:e.length<=10) (hA:∀a∈L,a.1.length<=1000000/\a.2.length<=1000000) (hl:L.length<=1000000):(F1 n L e).length<=8000000000000:=by
 have:=rO L hA;simp only[F1,zW,Mm,Ml];omega
theorem N3 (x:R0) (h:R1 x):(zK x).length<=8000000000000:=by
 have h1:=h.n;have h2:=h.t;have h3:=Jc x.n x.gk [62] h.n (by simp) h.a h.l;have h4:=Jc x.n x.gk [47,62] h.n (by simp) h.a h.l;have h5:=oG false x.t;unfold zK;repeat' split
 all_goals first | omega | (simp only[zW,Mm,Ml];omega)
theorem XP {O:VH} (x:R0) (tk:Tok) (h:R1 x):VF Tryz.prog 57 [.sl 1 (F0 x) tk] O (aE fun m O'=>m= .str (zK x)/\O.Ge O'):=by
 have dI:=N3 x h;have hn:=h.n;have ht:=h.t;have XQ:∀l:Bs,l.length<=3000000->l.length<=140737488355328:=fun l h=>by omega
 have bE:(F0 x++[]).length=7:=rfl;obtain⟨k,n,L,t,off,line,FZ⟩:=x;dsimp only at hn ht;refine χ 51 [.tmp 2] Tryz.func57 ?_;simp only[F0];refine κ @dX ?_;refine κ @dX ?_;have wj:=gD.fresh O (ZA O.N);have mY:O.Ge ((O.push (.cells [.v (.pointer none),.sl 0 [] .nil])).push (.shape O.N 155 2)):=((VH.Ge.refl O).push _).push _;generalize ((O.push (.cells [.v (.pointer none),.sl 0 [] .nil])).push (.shape O.N 155 2))=O1 at*;refine Ξ [3] (fun q:Option Nat=>[.ptr O.N 0]) (fun q O'=>O.Ge O'/\gD O' O.N O.N q (zK ⟨k,n,L,t,off,line,FZ⟩)) ?_ ?_;rotate_left
 ·rintro q O2 ⟨aC,cK⟩;refine ν @dX ?_;refine π (qF cK (by simp only[maxLen];omega)) ?_;rintro _ O3 ⟨rfl,c_⟩;refine ab @dX ?_;exact aC.Uz c_ cK.yJ
 refine κ @dX ?_;refine υ ?_;refine Δ [8] [3,6,7] (fun x:Bool×Option Nat=>[mi (if x.1 then 1 else 0)]) (fun x O'=>O.Ge O'/\gD O' O.N O.N x.2 (if x.1 then zK ⟨k,n,L,t,off,line,FZ⟩else[])) (fun x=>if x.1 then 0 else 1) ((false,none)) ?_ ?_
 ·exact⟨mY,wj⟩
 rintro⟨j,q⟩ O2 ⟨aC,cK⟩;dsimp only at cK ⊢;cases j;rotate_left
 ·rw[if_pos rfl]at cK ⊢;refine ν @dX ?_;exact aB.mk q ⟨aC,cK⟩
 rw[if_neg (by decide)]at cK ⊢;refine κ @dX ?_;refine κ @dX ?_;refine ω (υ ?_);refine κ @dX ?_;refine VC.al ?_;rintro O3 ⟨aG,hk,gE⟩;have cC:=cK.ge aG;have fin:∀(l:Bs) (q':Option Nat) (O4:VH),zK ⟨k,n,L,t,off,line,FZ⟩=l->gD O4 O.N O.N q' ([]++l)->fK O3 O.N q O4 q'->O.Ge O4/\gD O4 O.N O.N q' (zK ⟨k,n,L,t,off,line,FZ⟩):=fun l q' O4 e h k=>⟨k.ge (aC.trans aG) (ZA _) cC.yJ,by rw[e];exact h⟩
 by_cases h5:k=5
 ·subst h5;refine ο @dX @hk ?_;refine π (bU ([60,33,45,45]++t++[45,45,62]) cC (by simp only[zW,Mm,Ml];omega)) ?_;rintro _ O4 ⟨rfl,q',di,ff⟩;refine ab @dX ?_;refine ν @dX ?_;exact az.N (true,q') (fin _ _ _ rfl di ff) (hm:=anb)
 by_cases h6:k=6
 ·subst h6;refine ο @dX @hk ?_;refine π (bU ([60,63,120,109,108]++t++[63,62]) cC (by simp only[zW,Mm,Ml];omega)) ?_;rintro _ O4 ⟨rfl,q',di,ff⟩;refine ab @dX ?_;refine ν @dX ?_;exact az.N (true,q') (fin _ _ _ rfl di ff) (hm:=anb)
 by_cases h3:k=3
 ·subst h3;refine ο @dX @hk ?_;refine π (bU ([60,47]++n++[62]) cC (by simp only[zW,Mm,Ml];omega)) ?_;rintro _ O4 ⟨rfl,q',di,ff⟩;refine ab @dX ?_;refine ν @dX ?_;exact az.N (true,q') (fin _ _ _ rfl di ff) (hm:=anb)
 by_cases h1:k=1
 ·subst h1;refine ο @dX @hk ?_;refine π (abv ⟨1,n,L,t,off,line,FZ⟩ [62] cC (by simp) hn (by simp) h.a h.l) ?_;rintro _ O4 ⟨q',di,ff⟩;refine ab @dX ?_;refine ν @dX ?_;exact az.N (true,q') (fin _ _ _ rfl di ff) (hm:=anb)
 by_cases h2:k=2
 ·subst h2;refine ο @dX @hk ?_;refine π (abv ⟨2,n,L,t,off,line,FZ⟩ [47,62] cC (by simp) hn (by simp) h.a h.l) ?_;rintro _ O4 ⟨q',di,ff⟩;refine ab @dX ?_;refine ν @dX ?_;exact az.N (true,q') (fin _ _ _ rfl di ff) (hm:=anb)
 by_cases h4:k=4
 ·subst h4;have HR:=oG false t;refine ο @dX @hk ?_;refine π (Cd t false _ ht) ?_;rintro _ O4 ⟨rfl,aY⟩;refine ab @dX ?_;refine π (bU (ns false t) (cC.ge aY) (by simp only[Ml];omega)) ?_;rintro _ O5 ⟨rfl,q',dy,rB⟩;refine ab @dX ?_;refine ν @dX ?_;exact az.N (true,q') (fin _ _ _ rfl dy ((fK.ll aY).trans rB)) (hm:=anb)
 ·have ec:zK ⟨k,n,L,t,off,line,FZ⟩=[]:=by simp[zK,h1,h2,h3,h4,h5,h6]
  refine ο @dX @hk ?_;refine ν @dX ?_;exact az.N (true,q) (fin _ _ _ ec (by simpa using cC) (fK.ll (VH.Ge.refl _))) (hm:=anb)
theorem akE:eg Tryz.t156.desc=false:=by kernel_rfl
set_option linter.defProp false in
def fh:=Mn dX<|Mn aj2 akE
mutual
def eH:Nd->Nat
 | .mk _ _ k _=>1+b_ k
def b_:List Nd->Nat
 | []=>0
 | x::r=>eH x+b_ r
end
theorem F3 (n:Bs) (a:List (Bs×Bs)) (k:List Nd) (t:Bs):eH (.mk n a k t)=1+b_ k:=by rw[eH]
mutual
def Bc:Nd->Prop
 | .mk n a k t=>n.length<=1000000/\t.length<=1000000/\(∀x∈a,x.1.length<=1000000/\x.2.length<=1000000)/\a.length<=1000000/\k.length<=1000000/\ui k
def ui:List Nd->Prop
 | []=>True
 | x::r=>Bc x/\ui r
end
mutual
def cH:Nd->Bs
 | .mk n a k t=>if n=[]then ns false t else zK ⟨if k.length=0 then 2 else 1,n,a,[],0,0,0⟩++aW k++(if k.length=0 then[]else[60,47]++n++[62])
def aW:List Nd->Bs
 | []=>[]
 | x::r=>cH x++aW r
end
theorem Bd:∀{k:List Nd} {x:Nd},x∈k->eH x<=b_ k
 | y::r,x,h=>by
   rw[b_];rcases anl.1 h with rfl | h
   ·omega
   ·have:=Bd h;omega
theorem F4:∀{k:List Nd} {x:Nd},ui k->x∈k->Bc x
 | y::r,x,h,hx=>by
   rw[ui]at h;rcases anl.1 hx with rfl | hx
   ·exact h.1
   ·exact F4 h.2 hx
theorem uY (L M:List Nd):aW (L++M)=aW L++aW M:=by
 induction L with
 | nil=>rw[aec,aW,aec]
 | cons x L ih=>rw[aee,aW,aW,ih,ajA]
theorem qK (L:List Nd):aD L=L.flatMap dL:=by
 induction L with
 | nil=>rw[aD];rfl
 | cons x L ih=>rw[aD,ih,ahY]
theorem abw:∀(N:Nat) (x:Nd) (O:VH) (B b lk:Nat) (q:Option Nat) (s:Bs),eH x<=N->gD O B b q s->O.hp lk=some (.cells [.func (.func 54) [] [.ptr b 0,.ptr lk 0]])->lk<O.N->lk≠b->q≠some lk->s.length+(cH x).length<=10000000000000->Bc x->
  VF Tryz.prog 54 [.agg (dL x),.ptr b 0,.ptr lk 0] O (aE fun m O'=>∃q',gD O' B b q' (s++cH x)/\fK O b q O' q')
 | 0,.mk n a k t=>fun O B b lk q s h=>by rw[F3]at h;omega
 | N+1,.mk n a k t=>fun O B b lk q s hN h eC zp Ce oH hs dh=>by
   rw[F3]at hN;rw[Bc]at dh;obtain⟨hn,ht,hA,hAl,fF,hks⟩:=dh;rw[cH]at hs ⊢;rw[dL];refine χ 48 [] Tryz.func54 ?_;refine κ @fh ?_;refine VC.bx ?_;rintro O1 ⟨aJ,hk,cW⟩;have cE:=h.ge aJ;have amC:=(aJ.hp _ zp).trans eC;cases n with
   | nil=>
     rw[if_pos rfl]at hs ⊢;refine θ (aH @fh @hk (show(([]:List UInt8)==[])=true from rfl) ?_);refine π (Cd t false _ ht) ?_;rintro _ O2 ⟨rfl,aC⟩;have HR:=oG false t;refine ab @fh ?_;refine π (bU (ns false t) (cE.ge aC) (by omega)) ?_;rintro _ O3 ⟨rfl,q',cC,c_⟩;refine ab @fh ?_;exact⟨q',cC,(fK.ll (aJ.trans aC)).trans c_⟩
   | cons c n=>
     rw[if_neg (by simp)]at hs ⊢;have hnb:((c::n)==[])=false:=rfl;generalize F5:c::n=nm at*;have vz:R1 ⟨if k.length=0 then 2 else 1,nm,a,[],0,0,0⟩:=⟨hn,by simp,hA,hAl⟩;refine θ (aH @fh @hk @hnb ?_);refine θ (aH @fh @hk @hnb ?_);refine VC.al ?_;rintro O2 ⟨aC,hkt,eJ⟩;have bN:=(aC.hp O.N (by omega)).trans hk;refine Ξ [1,2,3,4] (fun _:Unit=>[.ptr b 0,.ptr lk 0,.ptr O.N 0,.ptr O1.N 0]) (fun _ O'=>O.Ge O'/\O'.N=O2.N/\O'.hp O.N=some (.cells (dL (.mk nm a k t)))/\O'.hp O1.N=some (.cells (F0 ⟨if k.length=0 then 2 else 1,nm,a,[],0,0,0⟩))) ?_ ?_
     ·have o7:=aJ.trans aC;by_cases h0:k.length=0
      ·refine ξ @fh @bN ?_;refine ο @fh @h0 ?_;exact aB.mk () ⟨o7,rfl,by rw[bN,dL],by rw[hkt];rfl⟩
      ·have h1:0<k.length:=by omega
       refine ξ @fh @bN ?_;refine ο @fh @hkt ?_;refine aB.mk () ⟨o7.set (by omega) _,rfl,?_,?_⟩
       ·rw[ρ _ _ (by omega),bN,dL]
       ·rw[τ,if_neg h0];rfl
     rintro⟨⟩ O3 ⟨aG,gE,dR,agT⟩;have cC:=h.ge aG;simp only[dL]at dR;generalize hX:(⟨if k.length=0 then 2 else 1,nm,a,[],0,0,0⟩:R0)=X at*;have vf:=N3 X vz;simp only[zW]at hs;have hXc:F0 X=[mi X.k,.str X.n,.sl X.gk.length (X.gk.flatMap bm) .ar,.str X.t,mi X.off,mi X.line,mi X.FZ]:=rfl;rw[hXc,aq,aq,aq,aq]at agT;refine ξ @fh @agT ?_;refine π (XP X .full vz) ?_;rintro _ O4 ⟨rfl,aY⟩;refine ab @fh ?_;refine π (bU (zK X) (cC.ge aY) (by omega)) ?_;rintro _ O5 ⟨rfl,q5,dy,rB⟩;have UA:fK O b q O5 q5:=(fK.ll (aG.trans aY)).trans rB;have gK:=(rB.hp O.N (by have:=aY.N;omega) (by have:=h.hi;omega) (h.Ux _ (ZA _))).trans (aY.at dR);refine ab @fh ?_;have wm:q5≠some O.N:=rB.new O.N (by have:=aY.N;omega) (h.Ux _ (ZA _));have e_:O.N<O5.N:=by have:=rB.N;have:=aY.N;omega
     refine Ξ [1,2,3] (fun q':Option Nat=>[.ptr b 0,.ptr lk 0,.ptr O.N 0]) (fun q' O'=>fK O5 b q5 O' q'/\gD O' B b q' (s++zK X++aW k)) ?_ ?_
     ·refine ξ @fh @gK ?_;refine υ ?_;refine Δ [31] [1,2,3,29,30] (fun x:Nat×Option Nat=>[mi x.1]) (fun x O'=>fK O5 b q5 O' x.2/\gD O' B b x.2 (s++zK X++aW (k.take x.1))/\x.1<=k.length) (fun x=>k.length - x.1) ((0,q5)) ?_ ?_
      ·exact⟨fK.ll (VH.Ge.refl _),by simpa[aW]using dy,agu _⟩
      rintro⟨j,qj⟩ O6 ⟨r_,ju,hj⟩;dsimp only at r_ ju hj ⊢;by_cases aM:j<k.length;rotate_left
      ·obtain rfl:j=k.length:=by omega
       rw[ahW]at ju;refine ν @fh ?_;exact aB.mk qj ⟨r_,ju⟩
      have bE:=cP mK k j aM;rw[<-qK]at bE;have UC:=dC k;have iF:aW (k.take (j+1))=aW (k.take j)++cH k[j]:=by rw[dB _ _ aM,uY,aW,aW,aed]
      have kY:(aW k).length=(aW (k.take j)).length+(cH k[j]).length+(aW (k.drop (j+1))).length:=by
       rw[<-zW, <-iF, <-zW, <-uY,List.take_append_drop]
      have p7:eH k[j]<=N:=by have:=Bd (ajx aM);omega
      have F6:=F4 hks (ajx aM);generalize k[j]=y at*;have zw:=UA.trans r_;have akF:=(zw.hp lk zp Ce oH).trans eC;have akG:=zw.new lk zp oH;have ih:=fun OO h1 h2 h3=>abw N y OO B b lk qj (s++zK X++aW (k.take j)) p7 h1 h2 h3 Ce akG (by simp only[zW];omega) F6
      generalize aW (k.take j)=T at*;cases y with
      | mk yn ya yk yt=>
        simp only[dL]at bE ih;refine κ @fh ?_;refine κ @fh ?_;refine ω (υ ?_);refine ξ @fh @bE ?_;refine VC.al ?_;rintro O7 ⟨eV,nG,vg⟩;have agU:=(eV.hp lk (by have:=zw.N;omega)).trans akF;refine ι (aH @fh @nG @agU ?_);refine π (ih O7 (ju.ge eV) agU (by have:=zw.N;omega)) ?_;rintro _ O8 ⟨q8,uf,rC⟩;refine ab @fh ?_;refine ν @fh ?_;exact az.N (j+1,q8) ⟨(r_.trans (fK.ll eV)).trans rC,by rw[iF, <-ajA];exact uf,aM⟩
     rintro q6 O6 ⟨r_,ju⟩;have p8:=(r_.hp O.N e_ (by have:=h.hi;omega) wm).trans gK;have N4:=UA.trans r_;by_cases h0:k.length=0
     ·rw[if_pos h0];refine ο @fh @p8 ?_;exact⟨q6,by simpa[ajA]using ju,N4⟩
     ·rw[if_neg h0]at hs ⊢;simp only[zW,Mm,Ml]at hs;refine ο @fh @p8 ?_;refine π (bU ([60,47]++nm++[62]) ju (by simp only[zW,Mm,Ml];omega)) ?_;rintro _ O7 ⟨rfl,q7,zL,D2⟩;refine ab @fh ?_;exact⟨q7,by simpa[ajA]using zL,N4.trans D2⟩
theorem XS (x:Nd) (O:VH) (hs:(cH x).length<=10000000000000) (dh:Bc x):VF Tryz.prog 36 [.agg (dL x)] O (aE fun m O'=>m= .str (cH x)/\O.Ge O'):=by
 have lay:=abw (eH x) x;generalize cH x=T at*;cases x with
 | mk n a k t=>
   simp only[dL]at lay ⊢;refine χ 10 [.tmp 2] Tryz.func36 ?_;refine κ @fh ?_;refine VC.bx ?_;rintro O1 ⟨aJ,hk,cW⟩;refine κ @fh ?_;have wj:=gD.fresh O1 (ZA O1.N);have mY:O1.Ge ((O1.push (.cells [.v (.pointer none),.sl 0 [] .nil])).push (.shape O1.N 155 2)):=((VH.Ge.refl O1).push _).push _;have R3:=wj.hi;generalize ((O1.push (.cells [.v (.pointer none),.sl 0 [] .nil])).push (.shape O1.N 155 2))=O2 at*;refine κ @fh ?_;refine κ @fh ?_;refine VC.al ?_;rintro O3 ⟨aG,dR,gE⟩;have cA:=(aG.hp O.N (by have:=mY.N;omega)).trans ((mY.hp O.N (by omega)).trans hk);refine θ (aH @fh @dR @cA ?_);refine π (lay O3 O1.N O1.N O2.N none [] (ZA _) (wj.ge aG) dR (by omega) (by omega) (by simp) (by simpa using hs) dh) ?_;rintro _ O4 ⟨q,di,ff⟩;rw[aec]at di;refine ab @fh ?_;refine ν @fh ?_;refine π (qF di (by simp only[maxLen];omega)) ?_;rintro _ O5 ⟨rfl,rB⟩;refine ab @fh ?_;exact(ff.Cc (aJ.trans (mY.trans aG)) (by omega)).Uz rB (fun i e=>by have:=di.yJ i e;omega)
def Nd.nm:Nd->Bs
 | .mk n _ _ _=>n
def Nd.kids:Nd->List Nd
 | .mk _ _ k _=>k
def Nd.tx:Nd->Bs
 | .mk _ _ _ t=>t
def kL (name:Bs) (y:Nd):Bool:=y.nm != []&&(name==[]||y.nm==name)
def cU (x:Nd) (name:Bs):List Nd:=x.kids.filter (kL name)
theorem En (x:Nd) (name:Bs) (O:VH) (hk:x.kids.length<=1000000):VF Tryz.prog 284 [.agg (dL x),.str name] O (aE fun m O'=>∃tk,m= .sl (cU x name).length (aD (cU x name)) tk/\O.Ge O'):=by
 obtain⟨n,a,k,t⟩:=x;simp only[Nd.kids]at hk;unfold cU;simp only[Nd.kids,dL];refine χ 33 [.tmp 4] Tryz.func284 ?_;refine κ @fh ?_;refine VC.bx ?_;rintro O1 ⟨aJ,cA,cW⟩;refine VC.join aa [4] (fun tk:Tok=>[.sl (k.filter (kL name)).length (aD (k.filter (kL name))) tk]) (fun tk O'=>O.Ge O') ?_ ?_;rotate_left
 ·intro tk O9 bh;refine ab @fh ?_;exact⟨tk,rfl,bh⟩
 refine ξ @fh @cA ?_;refine υ ?_;refine Δ [4,10] [1,8,9] (fun x:Nat×Tok=>[.sl ((k.take x.1).filter (kL name)).length (aD ((k.take x.1).filter (kL name))) x.2,mi x.1]) (fun x O'=>O.Ge O'/\App O' O.N 4 x.2/\x.1<=k.length) (fun x=>k.length - x.1) ((0,.nil)) ?_ ?_
 ·exact⟨aJ,trivial,agu _⟩
 rintro⟨j,tk⟩ O2 ⟨aC,cy,hj⟩;dsimp only at cy hj ⊢;by_cases aM:j<k.length;rotate_left
 ·obtain rfl:j=k.length:=by omega
  rw[ahW];refine ν @fh ?_;exact aB.mk tk aC
 have bE:=cP mK k j aM;rw[<-qK]at bE;have UC:=dC k
 have iF:(k.take (j+1)).filter (kL name)=(k.take j).filter (kL name)++if kL name k[j]then[k[j]]else[]:=by
  rw[dB _ _ aM,List.filter_append]
  congr 1
  cases h:kL name k[j]<;>simp[h]
 have HU:((k.take j).filter (kL name)).length<=1000000:=VI (ana _ _) (by rw[ahX];omega);generalize k[j]=y at*;generalize (k.take j).filter (kL name)=E at*;obtain⟨yn,ya,yk,yt⟩:=y;have fx:=AZ (.mk yn ya yk yt);have hln:=mK (.mk yn ya yk yt);have abx:aD [.mk yn ya yk yt]=dL (.mk yn ya yk yt):=by rw[aD,aD,aed]
 simp only[dL]at bE fx hln abx;refine κ @fh ?_;refine κ @fh ?_;refine ω (υ ?_);refine ξ @fh @bE ?_;refine VC.al ?_;rintro O3 ⟨aG,nG,gE⟩;have lr:=cy.ge aG;have Jd:=aC.trans aG;have yes:kL name (.mk yn ya yk yt)=true->(k.take (j+1)).filter (kL name)=E++[.mk yn ya yk yt]:=fun h=>by rw[iF,h,if_pos rfl]
 have nay:kL name (.mk yn ya yk yt)=false->(k.take (j+1)).filter (kL name)=E:=fun h=>by rw[iF,h,if_neg (by simp),aed]
 have hik:kL name (.mk yn ya yk yt)=(yn != []&&(name==[]||yn==name)):=rfl;rw[hik]at yes nay;cases h1:yn==[]
 ·cases h2:name==[]
  ·cases h3:yn==name
   ·have hn:=nay (by simp[bne,h1,h2,h3]);refine ι (iw @fh @nG @h1 @h2 @h3 ?_);refine ν @fh ?_;exact az.N (j+1,tk) ⟨Jd,lr,aM⟩ (hl:=(by dsimp only;rw[hn];rfl))
   ·have hn:=yes (by simp[bne,h1,h2,h3]);refine ι (iw @fh @nG @h1 @h2 @h3 ?_);obtain⟨mE,gY,lQ⟩:=gG (n:=E.length) (cs:=aD E) (ds:=[.str yn,.sl ya.length (ya.flatMap bm) .ar,.sl yk.length (aD yk) .ar,.str yt]) we DU.1.1 lr (dC E) rfl rfl (by decide) (by omega) (by simp only[maxLen];omega) (fu E) fx;refine δ gY lQ ?_;refine ab @fh ?_;refine ν @fh ?_;exact az.N (j+1,.own O3.N 4) ⟨cc.ee Jd lr (cc.after lr),App.after Jd.N,aM⟩ (hl:=(by dsimp only;rw[hn,eG,zW,abx];rfl))
  ·have hn:=yes (by simp[bne,h1,h2]);refine ι (cJ @fh @nG @h1 @h2 ?_);obtain⟨mE,gY,lQ⟩:=gG (n:=E.length) (cs:=aD E) (ds:=[.str yn,.sl ya.length (ya.flatMap bm) .ar,.sl yk.length (aD yk) .ar,.str yt]) we DU.1.1 lr (dC E) rfl rfl (by decide) (by omega) (by simp only[maxLen];omega) (fu E) fx;refine δ gY lQ ?_;refine ab @fh ?_;refine ν @fh ?_;exact az.N (j+1,.own O3.N 4) ⟨cc.ee Jd lr (cc.after lr),App.after Jd.N,aM⟩ (hl:=(by dsimp only;rw[hn,eG,zW,abx];rfl))
 ·have hn:=nay (by simp[bne,h1]);refine ι (aH @fh @nG @h1 ?_);refine ν @fh ?_;exact az.N (j+1,tk) ⟨Jd,lr,aM⟩ (hl:=(by dsimp only;rw[hn];rfl))
def ji (k:List Nd):Bs:=k.flatMap fun y=>bif y.nm==[]then y.tx else[]
def uj (x:Nd):Bs:=trimB (ji x.kids)
theorem N5 {k:List Nd} {j:Nat} (h:j<k.length):ji (k.take (j+1))=ji (k.take j)++bif k[j].nm==[]then k[j].tx else[]:=by
 unfold ji;rw[dB _ _ h,ajz,ahY,ame,aed]
theorem Je {k:List Nd}:∀j,(ji (k.take j)).length<=(ji k).length:=fun j=>by
 have:ji k=ji (k.take j)++ji (k.drop j):=by unfold ji;rw[<-ajz,List.take_append_drop]
 rw[this,zW];omega
theorem aby (x:Nd) (O:VH) (hk:x.kids.length<=1000000) (ht:(ji x.kids).length<=1000000000):VF Tryz.prog 304 [.agg (dL x)] O (aE fun m O'=>m= .str (uj x)/\O.Ge O'):=by
 obtain⟨n,a,k,t⟩:=x;simp only[Nd.kids]at hk ht;unfold uj;simp only[Nd.kids,dL];refine χ 23 [.tmp 2] Tryz.func304 ?_;refine κ @fh ?_;refine VC.bx ?_;rintro O1 ⟨aJ,cA,cW⟩;refine κ @fh ?_;refine VC.join aa [3] (fun _:Unit=>[.str (ji k)]) (fun _ O'=>O.Ge O') ?_ ?_;rotate_left
 ·intro _ O9 bh;refine ab @fh ?_;refine π (KU (ji k) _ (VI ht (by decide))) ?_;rintro _ O8 ⟨rfl,rfl⟩;refine ab @fh ?_;exact bh
 refine ξ @fh @cA ?_;refine υ ?_;refine Δ [3,9] [7,8] (fun j:Nat=>[.str (ji (k.take j)),mi j]) (fun j O'=>O.Ge O'/\j<=k.length) (fun j=>k.length - j) (0) ?_ ?_
 ·exact⟨aJ,agu _⟩
 rintro j O2 ⟨aC,hj⟩;by_cases aM:j<k.length;rotate_left
 ·obtain rfl:j=k.length:=by omega
  rw[ahW];refine ν @fh ?_;exact aB.mk () aC
 have bE:=cP mK k j aM;rw[<-qK]at bE;have UC:=dC k;have iF:=N5 aM;have hle:=Je (k:=k) (j+1);have UD:=Je (k:=k) j;generalize k[j]=y at*;generalize ji (k.take j)=E at*;obtain⟨yn,ya,yk,yt⟩:=y;simp only[dL]at bE;simp only[Nd.nm,Nd.tx]at iF;refine κ @fh ?_;refine κ @fh ?_;refine ω (υ ?_);refine ξ @fh @bE ?_;refine VC.al ?_;rintro O3 ⟨aG,nG,gE⟩;cases h1:yn==[]
 ·rw[h1,cond_false,aed]at iF;refine ι (aH @fh @nG @h1 ?_);refine ν @fh ?_;exact az.N (j+1) ⟨aC.trans aG,aM⟩ (hl:=(by rw[iF];rfl))
 ·rw[h1,cond_true]at iF;rw[iF,zW]at hle;refine ι (aH @fh @nG @h1 ?_);refine ν @fh ?_;exact az.N (j+1) ⟨aC.trans aG,aM⟩ (hl:=(by rw[iF];rfl))
set_option linter.defProp false in
def bI:=Mn fh<|Mn agQ<|Mn abn<|Mn abo T87
def uk (e:Int) (w:Bs):MV:=.iface 401 (.agg [mi e,.str w])
theorem akH {p:MV}:KG 401 (bX Tryz.prog 401) (some p)=some (.iface 401 p):=by rw[agQ.1.1];rfl
theorem mO (e:Int) (w:Bs) (O:VH):VF Tryz.prog 263 [mi e,.str w] O fun r O'=>O'=O/\match r with
  | .ret _=>False
  | .panic m=>m=uk e w:=by
 refine Θ 8 [] Tryz.func263 ?_;refine cJ @bI @wi @wd @akH ?_;refine VL.panic rfl rfl rfl ?_;refine ab @wd ?_;rfl
theorem afr (s:Bs) (O:VH):VF Tryz.prog 266 [.str s] O (aE fun m O'=>m=mb true/\O.Ge O'):=by
 refine Θ 3 [.tmp 2] Tryz.func266 ?_;refine ab @bI ?_;exact VH.Ge.refl _
def nu (s:Bs):Bool:=s==kJ||s==lP
theorem R4 (s:Bs) (O:VH):VF Tryz.prog 308 [.str s] O (aE fun m O'=>m=mb (nu s)/\O.Ge O'):=by
 unfold nu;refine Θ 9 [.tmp 2] Tryz.func308 ?_;cases h1:s==kJ<;>cases h2:s==lP
 all_goals
  simp only[kJ,lP]at h1 h2;refine aH @bI @h1 @h2 ?_;exact VH.Ge.refl _
theorem XT (s:Bs) (O:VH) (hs:s.length<=maxLen):VF Tryz.prog 309 [.str s] O (aE fun m O'=>m=mb (AY ⟨s,s⟩)/\O.Ge O'):=by
 refine Θ 7 [.tmp 2] Tryz.func309 ?_;refine ab @bI ?_;refine π (HS ⟨s,s⟩ _ hs hs) ?_;rintro _ O2 ⟨rfl,hg⟩;refine ab @bI ?_;exact hg
def N6 (n:Nat):Bs:=[UInt8.ofNat (48+n % 10)]
def Dk:Nat->Nat->Bs
 | 0,_=>[]
 | k+1,n=>if n=0 then[]else Dk k (n / 10)++N6 n
def mh (n:Nat):Bs:=Dk (n+1) n
theorem zM:∀(k n:Nat),n<k->Dk k n=Dk (n+1) n
 | 0,n,h=>by omega
 | k+1,n,h=>by
   rw[Dk,Dk];split
   ·rfl
   ·rw[zM k (n / 10) (by omega),zM n (n / 10) (by omega)]
theorem Cf {n:Nat} (h:0<n):mh n=mh (n / 10)++N6 n:=by
 unfold mh;rw[Dk,if_neg (by omega),zM n (n / 10) (by omega)]
theorem sO (n:Nat):(mh n).length<=n:=by
 induction n using Nat.strongRecOn with
 | _ n ih=>
   rcases ann n with rfl | h
   ·simp[mh,Dk]
   ·rw[Cf h,zW];have:=ih (n / 10) (by omega);simp only[N6,Mm,Ml];omega
theorem N7 (d:Nat) (h:d<10):(([48,49,50,51,52,53,54,55,56,57]:Bs).drop d).take (d+1 - d)=[UInt8.ofNat (48+d)]:=by
 rw[show d+1 - d=1 by omega];rcases(show d=0\/d=1\/d=2\/d=3\/d=4\/d=5\/d=6\/d=7\/d=8\/d=9 by omega)with rfl | rfl | rfl | rfl | rfl | rfl | rfl | rfl | rfl | rfl<;>rfl
theorem F7 (n:Nat) (O:VH) (hn:n<=1000000000):VF Tryz.prog 305 [mi n] O (aE fun m O'=>m= .str (mh n)/\O'=O):=by
 have yi:=sO n;refine Θ 17 [.tmp 2] Tryz.func305 ?_;refine ab @bI ?_;refine WC.jh [0,3] [] (fun x:Nat×Bs=>[mi x.1,.str x.2]) (fun x O'=>O'=O/\mh n=mh x.1++x.2/\x.1<=n) (fun x=>x.1) ((n,[])) ?_ ?_
 ·exact⟨rfl,by simp,ZA _⟩
 rintro⟨k,s⟩ O2 ⟨eO,hk,zx⟩;dsimp only at hk zx ⊢;rw[eO];clear eO O2
 rcases ann k with rfl | hp
 ·have h0:mh 0=[]:=rfl;rw[h0,aec]at hk;refine ab @bI ?_;exact congrArg MV.str hk.symm
 ·have hd:=N7 (k % 10) (by omega);have hl:(mh n).length=(mh k).length+s.length:=by rw[hk,zW]
  have hr:(k:Int).tmod 10=((k % 10:Nat):Int):=by rw[Int.tmod_eq_emod_of_nonneg (by omega)];rfl
  have hq:(k:Int).tdiv 10=((k / 10:Nat):Int):=by rw[Int.tdiv_eq_ediv_of_nonneg (by omega)];rfl
  refine cJ @bI @hr @hq @hd ?_;refine az.N (k / 10,N6 k++s) ⟨rfl,?_,by dsimp only;omega⟩;rw[hk,Cf hp,ajA]
theorem afs {e:Int} {w:Bs}:ar (uk e w)=uk e w:=by simp only[uk,wu,aq]
def kZ (x:Nd) (w:Bs):List MV:=dL x++[.str w]
def R5:Nd:=.mk [] [] [] []
def cI (x:Nd) (w name:Bs):Except (Int×Bs) ((Nd×Bs)×Bool):=
 match cU x name with
 | []=>.ok ((R5,w++[47]++name),false)
 | [y]=>.ok ((y,w++[47]++name),true)
 | _=>.error (20,w++[47]++name++[91,50,93])
def FQ {α :Type} (O:VH) (f:Except (Int×Bs) α) (R: α ->MV->Prop):gB->VH->Prop:=fun r O'=>O.Ge O'/\match r,f with
 | .ret m,.ok x=>R x m
 | .panic m,.error e=>m=uk e.1 e.2
 | _,_=>False
theorem sP (x:Nd) (w name:Bs) (O:VH) (hk:x.kids.length<=1000000) (hw:w.length<=1000000) (hn:name.length<=1000000):VF Tryz.prog 264 [.agg (kZ x w),.str name] O (FQ O (cI x w name) fun y m=>m= .tuple [.agg (kZ y.1.1 y.1.2),mb y.2]):=by
 refine VF.fgR ?_;have qL:=En x name;have fF:(cU x name).length<=1000000:=VI (ana _ _) hk
 have HV:cI x w name=match cU x name with
  | []=>.ok ((R5,w++[47]++name),false)
  | [y]=>.ok ((y,w++[47]++name),true)
  | _=>.error (20,w++[47]++name++[91,50,93]):=rfl
 generalize cI x w name=F at*;generalize cU x name=K at*;obtain⟨n,a,k,t⟩:=x;simp only[kZ,dL,aee,aec]at qL ⊢;refine χ 34 [.cell 4 403,.tmp 5] Tryz.func264 ?_;refine κ @bI ?_;refine VC.bx ?_;rintro O1 ⟨aJ,DN,cW⟩;have eQ:O1.hp O.N=some (.cells [.str n,.sl a.length (a.flatMap bm) .ar,.sl k.length (aD k) .ar,.str t,.str w]):=(aJ.hp _ (ajB _)).trans (Υ _ _)
 replace DN:O1.hp (O.N+1)=some (.cells [.str [],.sl 0 [] .nil,.sl 0 [] .nil,.str [],.str []]):=DN
 have akI:O.Ge O1:=((VH.Ge.refl O).push _).trans aJ
 replace cW:O1.N=O.N+2:=cW
 clear aJ;refine ξ @bI @eQ ?_;refine π (qL O1 hk) ?_;rintro _ O2 ⟨tk,rfl,aC⟩;have jv:=aC.at eQ;have tO:=aC.at DN;have fC:=akI.trans aC;refine ab @bI ?_;refine ξ @bI @jv ?_
 match K,HV with
 | [],HV=>
   subst HV;refine ι (aH @bI @tO @Ml.{0} ?_);refine⟨fC.set (by omega) _,?_⟩;simp only[kZ,R5,dL,wu,bu];rfl
 | [.mk yn ya yk yt],HV=>
   subst HV;have fx:=AZ (.mk yn ya yk yt);simp only[dL]at fx;have c7:aD [.mk yn ya yk yt]=[.str yn,.sl ya.length (ya.flatMap bm) .ar,.sl yk.length (aD yk) .ar,.str yt]:=by rw[aD,aD,aed,dL]
   rw[c7];refine ι (cJ @bI @tO @Mm.{0} @Ml.{0} ?_);refine⟨fC.set (by omega) _,?_⟩;show _=_;rw[dL,gH,fu];rfl
 | y::z::r,HV=>
   subst HV;simp only[Mm]at fF;refine ο @bI @Mm.{0} ?_;refine ah.p (mO _ _ _) ?_ ?_
   ·rintro m O3 ⟨_,h⟩;exact h.elim
   rintro m O3 ⟨rfl,rfl⟩;refine ab @bI ?_;exact⟨fC,afs⟩
def qM (x:Nd) (w:Bs) (empty:Bool):Except (Int×Bs) Bs:=
 if 0<(cU x []).length\/1024<(uj x).length\/(uj x=[]/\empty=false)then .error (20,w)else .ok (uj x)
theorem N8 (x:Nd) (w:Bs) (empty:Bool) (O:VH) (hk:x.kids.length<=1000000) (ht:(ji x.kids).length<=1000000000):VF Tryz.prog 285 [.agg (kZ x w),mb empty] O (FQ O (qM x w empty) fun y m=>m= .str y):=by
 have qL:=En x [];have abz:=aby x;have fF:(cU x []).length<=1000000:=VI (ana _ _) hk;have QO:(uj x).length<=1000000000:=VI (RU _) ht;unfold qM;generalize cU x []=K at*;generalize uj x=T at*;obtain⟨n,a,k,t⟩:=x;simp only[kZ,dL,aee,aec]at qL abz ⊢;refine χ 31 [.tmp 4] Tryz.func285 ?_;refine κ @bI ?_;refine VC.bx ?_;rintro O1 ⟨aJ,eQ,cW⟩;refine ξ @bI @eQ ?_;refine π (abz O1 hk ht) ?_;rintro _ O2 ⟨rfl,aC⟩;have jv:=aC.at eQ;have eJ:=aC.N;refine ab @bI ?_;refine ξ @bI @jv ?_;refine π (qL O2 hk) ?_;rintro _ O3 ⟨tk,rfl,aG⟩;have lS:=aG.at jv;have eu:=(aJ.trans aC).trans aG;by_cases h1:0<K.length
 ·rw[if_pos (.inl h1)];refine ao @bI @lS ?_;refine ah.p (mO _ _ _) ?_ ?_
  ·rintro m O4 ⟨_,h⟩;exact h.elim
  rintro m O4 ⟨rfl,rfl⟩;refine ab @bI ?_;exact⟨eu,rfl⟩
 by_cases h2:1024<T.length
 ·rw[if_pos (.inr (.inl h2))];refine ao @bI @lS ?_;refine ah.p (mO _ _ _) ?_ ?_
  ·rintro m O4 ⟨_,h⟩;exact h.elim
  rintro m O4 ⟨rfl,rfl⟩;refine ab @bI ?_;exact⟨eu,rfl⟩
 cases T with
 | nil=>
   cases empty
   ·rw[if_pos (.inr (.inr ⟨rfl,rfl⟩))];refine cJ @bI @lS (show(([]:List UInt8)==[])=true from rfl) @Ml.{0} ?_;refine ah.p (mO _ _ _) ?_ ?_
    ·rintro m O4 ⟨_,h⟩;exact h.elim
    rintro m O4 ⟨rfl,rfl⟩;refine ab @bI ?_;exact⟨eu,rfl⟩
   ·rw[if_neg (fun h=>by rcases h with h | h | ⟨_,h⟩;exact h1 h;exact h2 h;cases h)];refine cJ @bI @lS (show(([]:List UInt8)==[])=true from rfl) @Ml.{0} ?_;refine ν @bI ?_;exact⟨eu,rfl⟩
 | cons c T=>
   rw[if_neg (fun h=>by rcases h with h | h | ⟨h,_⟩;exact h1 h;exact h2 h;cases h)];refine aH @bI @lS (show((c::T)==[])=false from rfl) ?_;refine ν @bI ?_;exact⟨eu,rfl⟩
def jH:List (Bs×Bs)->Nat
 | []=>0
 | x::r=>1+x.1.length+x.2.length+jH r
mutual
def k6:Nd->Nat
 | .mk n a k t=>1+n.length+t.length+jH a+kB k
def kB:List Nd->Nat
 | []=>0
 | x::r=>k6 x+kB r
end
theorem Be (n:Bs) (a:List (Bs×Bs)) (k:List Nd) (t:Bs):k6 (.mk n a k t)=1+n.length+t.length+jH a+kB k:=by rw[k6]
theorem N9 (x:Nd):1<=k6 x:=by cases x;rw[k6];omega
theorem Cg:∀k:List Nd,k.length<=kB k
 | []=>by simp
 | x::r=>by rw[kB,Mm];have:=Cg r;have:=N9 x;omega
theorem Jf:∀{k:List Nd} {x:Nd},x∈k->k6 x<=kB k
 | y::r,x,h=>by
   rw[kB];rcases anl.1 h with rfl | h
   ·omega
   ·have:=Jf h;omega
theorem xK (x:Nd):kB x.kids<k6 x:=by cases x;rw[k6,Nd.kids];omega
theorem kE (x:Nd):x.kids.length<=k6 x:=VI (Cg _) (ani (xK x))
theorem F8:∀k:List Nd,(ji k).length<=kB k
 | []=>by simp[ji]
 | x::r=>by
   have ih:=F8 r;unfold ji at ih ⊢;rw[ahY,zW,kB]
   have:(bif x.nm==[]then x.tx else[]).length<=k6 x:=by
    cases x with
    | mk n a k t=>
      rw[k6];cases(Nd.mk n a k t).nm==[]
      ·simp
      ·show t.length<=_;omega
   omega
theorem R6 {x y:Nd} {name:Bs} (h:y∈cU x name):k6 y<k6 x:=Nat.lt_of_le_of_lt (Jf ((List.mem_filter.1 h).1)) (xK x)
def KY (sQ:Bool) (right:Bs->Bool) (wy:Bs) (b:Bool) (T:Except (Int×Bs) Bs):Except (Int×Bs) Bs:=
 match b,T with
 | false,_=>if sQ then .error (20,wy)else .ok []
 | true,.error e=>.error e
 | true,.ok s=>if right s then .ok s else .error (20,wy)
def bW (x:Nd) (w name:Bs) (sQ:Bool) (right:Bs->Bool):Except (Int×Bs) Bs:=
 match cI x w name with
 | .error e=>.error e
 | .ok y=>KY sQ right y.1.2 y.2 (qM y.1.1 y.1.2 false)
theorem sR {x:Nd} {w name:Bs} {y:Nd} {wy:Bs} {b:Bool} (h:cI x w name= .ok ((y,wy),b)):k6 y<=k6 x/\wy=w++[47]++name:=by
 unfold cI at h;split at h
 ·injection h with h;injection h with h _;injection h with h1 h2
  subst h1;subst h2
  exact⟨by simp only[R5,Be,jH,kB,Ml];exact N9 x,rfl⟩
 ·rename_i z hz;injection h with h;injection h with h _;injection h with h1 h2
  subst h1;subst h2
  exact⟨ani (R6 (by rw[hz];simp)),rfl⟩
 ·cases h
theorem R7 {y:Nd} {w:Bs} {e:Bool} {s:Bs} (h:qM y w e= .ok s):s.length<=1024:=by
 unfold qM at h;split at h
 ·cases h
 ·rename_i hn;injection h with h;subst h
  exact Nat.le_of_not_lt fun hh=>hn (.inr (.inl hh))
theorem qN (x:Nd) (w name:Bs) (sQ:Bool) (right:Bs->Bool) (id:FuncId) (cs:List MV) (O:VH) (hx:k6 x<=1000000) (hw:w.length<=10000) (hn:name.length<=10000) (hid:df Tryz.prog id=true)
  (hr:∀s O',O.Ge O'->s.length<=1024->VF Tryz.prog id ([.str s]++cs) O' (aE fun m mD=>m=mb (right s)/\O'.Ge mD)):
  VF Tryz.prog 265 [.agg (kZ x w),.str name,mb sQ,.func (.func id) [] cs] O (FQ O (bW x w name sQ right) fun y m=>m= .str y):=by
 have wo:=sP x w name;have fF:=kE x;have wq:= @sR x w name;have wv:∀e,cI x w name= .error e->bW x w name sQ right= .error e:=fun e h=>by unfold bW;rw[h]
 have oI:∀y wy b,cI x w name= .ok ((y,wy),b)->bW x w name sQ right=KY sQ right wy b (qM y wy false):=fun y wy b h=>by unfold bW;rw[h]
 generalize bW x w name sQ right=WE at*;generalize cI x w name=F at*;obtain⟨n,a,k,t⟩:=x;generalize hW:k6 (.mk n a k t)=W at*;simp only[kZ,dL,aee,aec]at wo ⊢;refine χ 34 [.tmp 8] Tryz.func265 ?_;refine κ @bI ?_;refine VC.bx ?_;rintro O1 ⟨aJ,eQ,cW⟩;refine θ ?_;refine ao @bI @eQ ?_;refine ah.p (wo O1 (by omega) (by omega) (by omega)) ?_ ?_;rotate_left
 ·rintro m O2 ⟨aC,h⟩;cases F with
  | ok y=>exact h.elim
  | error e=>
    dsimp only at h;rw[wv e rfl];refine ab @bI ?_;exact⟨aJ.trans aC,h⟩
 rintro m O2 ⟨aC,h⟩;cases F with
 | error e=>exact h.elim
 | ok y=>
 obtain⟨⟨y,wy⟩,b⟩:=y;dsimp only at h;subst h;obtain⟨hyW,wA⟩:=wq rfl;rw[oI _ _ _ rfl];clear wv oI;have oJ:wy.length<=30000:=by rw[wA];simp only[zW,Mm,Ml];omega
 clear wq wA;have akJ:=kE y;have v8:=VI (F8 y.kids) (ani (xK y));have HR:=N8 y wy false;have QO:= @R7 y wy false;generalize qM y wy false=T at*;obtain⟨yn,ya,yk,yt⟩:=y;simp only[kZ,dL,aee,aec]at HR ⊢;refine ab @bI ?_;refine VC.al ?_;rintro O3 ⟨aG,N_,gE⟩;have eu:=(aJ.trans aC).trans aG;cases b
 ·cases sQ
  ·refine ν @bI ?_;exact⟨eu,rfl⟩
  ·refine ο @bI @N_ ?_;refine ah.p (mO _ _ _) ?_ ?_
   ·rintro m O9 ⟨_,h⟩;exact h.elim
   rintro m O9 ⟨rfl,rfl⟩;refine ab @bI ?_;exact⟨eu,rfl⟩
 ·refine ο @bI @N_ ?_;refine ah.p (HR O3 (by omega) (by omega)) ?_ ?_;rotate_left
  ·rintro m O4 ⟨aY,h⟩;cases T with
   | ok s=>exact h.elim
   | error e=>
     dsimp only at h;refine ab @bI ?_;exact⟨eu.trans aY,h⟩
  rintro m O4 ⟨aY,h⟩;cases T with
  | error e=>exact h.elim
  | ok s=>
  dsimp only at h;subst h;have hy4:=aY.at N_;have gZ:=eu.trans aY;have h_:=aY.N;refine ab @bI ?_;refine π (hr s O4 gZ (QO rfl)) ?_ (hb:=hid);rintro _ O5 ⟨rfl,bG⟩;have hy5:=bG.at hy4;unfold KY;dsimp only;cases right s
  ·refine ao @bI @hy5 ?_;refine ah.p (mO _ _ _) ?_ ?_
   ·rintro m O9 ⟨_,h⟩;exact h.elim
   rintro m O9 ⟨rfl,rfl⟩;refine ab @bI ?_;exact⟨gZ.trans bG,rfl⟩
  ·refine ao @bI @hy5 ?_;exact⟨gZ.trans bG,rfl⟩
section
variable {G H:Gh} {n:Sz} {D:List Deferred} {e e':Env} {a:Act} {P:Program} {tab:cg} {O O':VH} {w:World} {m m':MV} {u v:Value} {ops:Array Oper} {Q:VQ} {md:Md}
theorem η {brk:List Nat} {Ψ :Gh->Prop} {J:VH->Prop} {Z:Prop} {fuel i j:Nat} {listed:Array Bool}
  (h1:aN P n D ops i e O Q fun e' O'=>J O'/\ae P n D ops brk J Ψ Z fuel (listed.setIfInBounds i true) e' O' Q) (h2:aN P n D ops j e O Q fun e' O'=>J O'/\ae P n D ops brk J Ψ Z fuel (listed.setIfInBounds j true) e' O' Q) (hr:Region.ready .any ops listed=[i,j]:=by kernel_rfl):ae P n D ops brk J Ψ Z (fuel+1) listed e O Q:=by
 intro hΨ hZ hJ G a w hψ hw aV
 have key:∀x,(aN P n D ops x e O Q fun e' O'=>J O'/\ae P n D ops brk J Ψ Z fuel (listed.setIfInBounds x true) e' O' Q)->wpOp P ops (cN G n D Q) x (fun a' w'=>TE brk G J x w'/\jy P .any ops (cN G n D Q) (TE brk G J) fuel (listed.setIfInBounds x true) a' w') a w:=fun x h=>
  wpOp_mono (fun a' w' ⟨e',O',H,h1,h2,h3,h4,h5⟩=>⟨TE.mk ⟨H,O',h1,h2,h4⟩,jW (fun _ _ _=>cN.le h1) _ _ _ _ (fun k _ x hT=>hT.le h1) (h5 hΨ hZ h4 H a' w' (hΨ _ _ h1 hψ) h2 h3)⟩) (h G a w hw aV)
 refine jV hr (by simp) fun x hx=>?_
 simp only[anl,List.not_mem_nil,or_false]at hx;rcases hx with rfl | rfl
 ·exact key _ h1
 ·exact key _ h2
theorem aN.j8 {i:Nat} {l:List Oper} {d:Option Tmp} {f:Operand} {xs:Array Operand} {ts:Array TypeId} {ty:TypeId} {ps:String} {af:Array Edge} {g:Option (Nat×Bool)} {id:FuncId} {ms:List MV} {Φ :MV->VH->Prop} {K:Env->VH->Prop} (hR:VF P id ms O (aE Φ))
  (h:∀m O', Φ m O'->K (aZ d m e) O') (ho:l[i]?=some (.mk d (.call {callee:=.value f,args:=xs,argTypes:=ts}) ty ps af g):=by exact rfl) (hg:aO ⟨l⟩ (.mk d (.call {callee:=.value f,args:=xs,argTypes:=ts}) ty ps af g) e=some true:=by exact rfl) (hf:ev e f=some (.func (.func id) [] []):=by exact rfl) (hm:gh e xs.toList=some ms:=by exact rfl) (hb:df P id=true:=by kernel_rfl) (hd:bD n d=true:=by exact rfl):aN P n D ⟨l⟩ i e O Q K:=
 aN.call (o:=.mk d (.call {callee:=.value f,args:=xs,argTypes:=ts}) ty ps af g) (by simpa using ho) hg rfl rfl hf hm (Enters.sI hb) hd (by simpa using hR) fun r O' hr=>by
  cases r with
  | ret m=>exact h m O' hr
  | panic m=>exact hr.elim
end
def Eo (w name:Bs) (i:Nat):Bs:=w++[47]++name++[91]++mh (i+1)++[93]
def qO (w name:Bs) (K:List Nd):List (Nd×Bs):=K.mapIdx fun i y=>(y,Eo w name i)
def uZ (L:List (Nd×Bs)):List MV:=L.flatMap fun p=>kZ p.1 p.2
def nX (x:Nd) (w name:Bs):Except (Int×Bs) (List (Nd×Bs)):=if 1024<(cU x name).length then .error (2,w)else .ok (qO w name (cU x name))
theorem F9 (p:Nd×Bs):(kZ p.1 p.2).length=5:=by rw[kZ,List.length_append,mK];rfl
theorem xL (L:List (Nd×Bs)):(uZ L).length=L.length*5:=aX F9 L
theorem Oc (x:Nd) (w:Bs):c8 (kZ x w)=kZ x w:=by simp only[kZ,wu,AZ]
theorem Jg (L:List (Nd×Bs)):c8 (uZ L)=uZ L:=j9 (fun p=>Oc p.1 p.2) L
theorem R8 {w name:Bs} {K:List Nd} {j:Nat} (h:j<K.length):qO w name (K.take (j+1))=qO w name (K.take j)++[(K[j],Eo w name j)]:=by
 unfold qO;rw[dB _ _ h,List.mapIdx_append];simp[ahX,Nat.min_eq_left (ani h)]
theorem Jh (w name:Bs) (K:List Nd):(qO w name K).length=K.length:=by simp[qO]
theorem UE (x:Nd) (w name:Bs) (O:VH) (hx:k6 x<=1000000) (hw:w.length<=10000) (hn:name.length<=10000):
  VF Tryz.prog 288 [.agg (kZ x w),.str name] O (FQ O (nX x w name) fun y m=>∃tk,m= .sl y.length (uZ y) tk):=by
 have qL:=En x name;have fF:=kE x;have hKl:(cU x name).length<=1000000:=VI (ana _ _) (by omega);unfold nX;generalize cU x name=K at*;obtain⟨n,a,k,t⟩:=x;generalize hW:k6 (.mk n a k t)=W at*;simp only[kZ,dL,aee,aec]at qL ⊢;refine χ 43 [.tmp 4] Tryz.func288 ?_;refine κ @bI ?_;refine VC.bx ?_;rintro O1 ⟨aJ,eQ,cW⟩;refine ξ @bI @eQ ?_;refine π (qL O1 (by omega)) ?_;rintro _ O2 ⟨tk,rfl,aC⟩;have jv:=aC.at eQ;have eJ:=aC.N;have fC:=aJ.trans aC;refine ab @bI ?_;by_cases Od:1024<K.length
 ·rw[if_pos Od];refine ξ @bI @jv ?_;refine ah.p (mO _ _ _) ?_ ?_
  ·rintro m O9 ⟨_,h⟩;exact h.elim
  rintro m O9 ⟨rfl,rfl⟩;refine ab @bI ?_;exact⟨fC,rfl⟩
 rw[if_neg Od];refine ξ @bI @jv ?_;refine VC.join aa [4] (fun tl:Tok=>[.sl (qO w name K).length (uZ (qO w name K)) tl]) (fun tl O'=>O.Ge O') ?_ ?_;rotate_left
 ·intro tl O9 bh;refine ab @bI ?_;exact⟨bh,tl,rfl⟩
 refine κ @bI ?_;refine υ ?_;refine Δ [4,20] [1,2,18,19] (fun x:Nat×Tok=>[.sl (qO w name (K.take x.1)).length (uZ (qO w name (K.take x.1))) x.2,mi x.1]) (fun x O'=>O2.Ge O'/\App O' O2.N 5 x.2/\x.1<=K.length) (fun x=>K.length - x.1) ((0,.nil)) ?_ ?_
 ·exact⟨VH.Ge.refl _,trivial,agu _⟩
 rintro⟨j,tl⟩ O3 ⟨aG,cy,hj⟩;dsimp only at cy hj ⊢;by_cases aM:j<K.length;rotate_left
 ·obtain rfl:j=K.length:=by omega
  rw[ahW];refine ν @bI ?_;exact aB.mk tl (fC.trans aG)
 have bE:=cP mK K j aM;rw[<-qK]at bE;have UC:=dC K;have iF:=R8 (w:=w) (name:=name) aM;have HU:(qO w name (K.take j)).length<=1000000:=by rw[Jh,ahX];omega
 generalize K[j]=y at*;generalize qO w name (K.take j)=E at*;have yi:=sO (j+1);have fx:=Oc y (Eo w name j);obtain⟨yn,ya,yk,yt⟩:=y;simp only[kZ,dL,List.cons_append,List.nil_append]at bE fx;have lS:=aG.at jv;have gE:=aG.N;refine κ @bI ?_;refine κ @bI ?_;refine ω (υ ?_);refine ξ @bI @bE ?_;refine VC.al ?_;rintro O4 ⟨aY,nG,h_⟩;have kc:=aY.at lS;have mP:=cy.ge aY;have UF:=aG.trans aY;have cB:((j:Int)+1)=((j+1:Nat):Int):=by omega
 refine VC.oD [15,16] ?_;refine ae.au 0 ?_;refine ab @bI ?_;refine ae.au 2 ?_;refine ab @bI ?_;refine ae.ld (m:=.str w) 3 ?_ ?_
 ·exact dW @bI @kc
 simp only[ak];refine ae.au 4 ?_;refine ab @bI ?_;refine ae.au 5 ?_;refine ab @bI ?_;refine ae.au 6 ?_;refine ab @bI ?_;refine ae.au 7 ?_;refine ab @bI ?_;refine ae.au 8 ?_;refine ab @bI ?_;refine ae.au 9 ?_;refine ao @bI @cB ?_;refine η (i:=1) (j:=10) ?_ ?_
 ·refine aN.o1 ?_;refine ao @bI @nG ?_;refine⟨VH.Ge.refl _,?_⟩;refine ae.call (i:=10) (F7 (j+1) O4 (by omega)) ?_;rintro _ O5 ⟨rfl,eO⟩;simp only[ak];rw[eO];clear eO O5
  refine⟨VH.Ge.refl _,?_⟩;refine ae.au 11 ?_;refine ab @bI ?_;refine ae.au 12 ?_;refine ab @bI ?_;refine ae.au 13 ?_;refine ab @bI ?_;refine ae.op (i:=14) ?_;refine ab @bI ?_;refine⟨VH.Ge.refl _,?_⟩;refine ae.bQ [(15,.one),(16,.au)] ?_;refine ab @bI ?_;obtain⟨mE,gY,lQ⟩:=gG (n:=E.length) (cs:=uZ E) (ds:=[.str yn,.sl ya.length (ya.flatMap bm) .ar,.sl yk.length (aD yk) .ar,.str yt,.str (w++[47]++name++[91]++mh (j+1)++[93])]) abo abn.1.1 mP (xL E) rfl rfl (by decide) (by omega) (by simp only[maxLen];omega) (Jg E) fx;refine δ gY lQ ?_;refine ab @bI ?_;refine ν @bI ?_;exact az.N (j+1,.own O4.N 5) ⟨cc.ee UF mP (cc.after mP),App.after UF.N,aM⟩ (hl:=(by dsimp only;rw[iF,zW];unfold uZ;rw[ajz];rfl))
 ·refine aN.j8 (F7 (j+1) O4 (by omega)) ?_;rintro _ O5 ⟨rfl,eO⟩;rw[eO];clear eO O5
  simp only[ak];refine⟨VH.Ge.refl _,?_⟩;refine ae.au 11 ?_;refine ab @bI ?_;refine ae.au 12 ?_;refine ab @bI ?_;refine ae.op (i:=1) ?_;refine ao @bI @nG ?_;refine⟨VH.Ge.refl _,?_⟩;refine ae.au 13 ?_;refine ab @bI ?_;refine ae.op (i:=14) ?_;refine ab @bI ?_;refine⟨VH.Ge.refl _,?_⟩;refine ae.bQ [(15,.one),(16,.au)] ?_;refine ab @bI ?_;obtain⟨mE,gY,lQ⟩:=gG (n:=E.length) (cs:=uZ E) (ds:=[.str yn,.sl ya.length (ya.flatMap bm) .ar,.sl yk.length (aD yk) .ar,.str yt,.str (w++[47]++name++[91]++mh (j+1)++[93])]) abo abn.1.1 mP (xL E) rfl rfl (by decide) (by omega) (by simp only[maxLen];omega) (Jg E) fx;refine δ gY lQ ?_;refine ab @bI ?_;refine ν @bI ?_;exact az.N (j+1,.own O4.N 5) ⟨cc.ee UF mP (cc.after mP),App.after UF.N,aM⟩ (hl:=(by dsimp only;rw[iF,zW];unfold uZ;rw[ajz];rfl))
def lT (w:Bs):Nat×Bool:=
 if w=fL 1 then(1,true)else if w=fL 2 then(2,true)else if w=fL 3 then(3,true)else if w=fL 4 then(4,true)else if w=fL 5 then(5,true)else if w=fL 6 then(6,true)else(0,false)
def fN (w:Bs):Nat->Nat->Nat×Bool
 | 0,_=>(0,false)
 | k+1,j=>if j≠0/\fL j=w then(j,true)else fN w k (j+1)
theorem R9 (w:Bs):lT w=fN w 7 0:=by
 unfold lT fN fN fN fN fN fN fN fN;simp only[eq_comm (a:=w)];simp
theorem Oe (w:Bs) (O:VH):VF Tryz.prog 306 [.str w] O (aE fun m O'=>m= .tuple [mi (lT w).1,mb (lT w).2]/\O'=O):=by
 rw[R9];refine Θ 18 [.tmp 2,.tmp 3] Tryz.func306 ?_;refine ab @bI ?_;refine WC.jh [5] [0] (fun j:Nat=>[mi j]) (fun j O'=>O'=O/\j<=7/\fN w 7 0=fN w (7 - j) j) (fun j=>7 - j) (0) ?_ ?_
 ·exact⟨rfl,agu _,rfl⟩
 rintro j O2 ⟨eO,hj,hs⟩;rw[eO];clear eO O2
 by_cases h7:j<7
 ·have cY:fN w (7 - j) j=if j≠0/\fL j=w then(j,true)else fN w (7 - (j+1)) (j+1):=by
   obtain⟨d,hd⟩:∃d,7 - j=d+1:=⟨6 - j,by omega⟩
   rw[hd,show 7 - (j+1)=d by omega];rfl
  rw[cY]at hs;by_cases h0:j=0
  ·rw[if_neg (fun h=>h.1 h0)]at hs;refine ab @bI ?_;exact az.N (j+1) ⟨rfl,h7,hs⟩
  ·refine ab @bI ?_;refine π (Uy j _) ?_;rintro _ O3 ⟨rfl,eO⟩;rw[eO];clear eO O3
   cases hw:fL j==w
   ·rw[if_neg (fun h=>by rw[h.2]at hw;simp at hw)]at hs;refine ao @bI @hw ?_;exact az.N (j+1) ⟨rfl,h7,hs⟩
   ·rw[if_pos ⟨h0,eq_of_beq hw⟩]at hs;rw[hs];exact dW @bI @hw
 ·obtain rfl:j=7:=by omega
  rw[hs];refine ab @bI ?_;rfl
def ew (s p:Bs):Bool:=s.take p.length==p
theorem XU {s p:Bs} (h:¬p.length<=s.length):ew s p=false:=by
 unfold ew;rw[beq_eq_false_iff_ne];intro e;have:=congrArg List.length e;rw[ahX]at this;omega
theorem HW (s p:Bs) (O:VH):VF Tryz.prog 320 [.str s,.str p] O (aE fun m O'=>m=mb (ew s p)/\O'=O):=by
 refine Θ 18 [.tmp 4] Tryz.func320 ?_;by_cases h:p.length<=s.length
 ·have e:(s.take p.length==p)=ew s p:=rfl;generalize ew s p=b at*;cases b
  ·exact dW @bI @e
  ·exact dW @bI @e
 ·rw[XU h];exact fU @bI
theorem nY (s p:Bs) (O:VH):VF Tryz.prog 310 [.str s,.str p] O (aE fun m O'=>m=mb (ew s p)/\O'=O):=by
 refine Θ 8 [.tmp 4] Tryz.func310 ?_;refine ab @bI ?_;refine π (HW s p _) ?_;rintro _ O2 ⟨rfl,rfl⟩;exact fU @bI
set_option linter.defProp false in
def eL:=Mn bI<|Mn eo<|Mn agP aj6
section
variable {P:Program} {n:Sz} {D:List Deferred} {e:Env} {O:VH} {Q:VQ}
theorem ae.qP {brk:List Nat} {Ψ :Gh->Prop} {J:VH->Prop} {Z:Prop} {fuel i:Nat} {listed:Array Bool} {l:List Oper} {d:Option Tmp} {f:Operand} {xs:Array Operand} {ts:Array TypeId} {ty:TypeId} {ps:String} {af:Array Edge} {g:Option (Nat×Bool)} {id:FuncId} {ms cs:List MV} {R:gB->VH->Prop} (hR:VF P id (ms++cs) O R)
  (h:∀m O',R (.ret m) O'->J O'/\ae P n D ⟨l⟩ brk J Ψ Z fuel (listed.setIfInBounds i true) (aZ d m e) O' Q) (h2:∀m O',R (.panic m) O'->Q (.panic m) (k9 n e) O') (hr:Region.ready .any ⟨l⟩ listed=[i]:=by kernel_rfl) (ho:l[i]?=some (.mk d (.call {callee:=.value f,args:=xs,argTypes:=ts}) ty ps af g):=by exact rfl) (hg:aO ⟨l⟩ (.mk d (.call {callee:=.value f,args:=xs,argTypes:=ts}) ty ps af g) e=some true:=by exact rfl) (hf:ev e f=some (.func (.func id) [] cs):=by exact rfl) (hm:gh e xs.toList=some ms:=by exact rfl) (hb:df P id=true:=by kernel_rfl) (hd:bD n d=true:=by exact rfl):ae P n D ⟨l⟩ brk J Ψ Z (fuel+1) listed e O Q:=
 ae.one (aN.call (o:=.mk d (.call {callee:=.value f,args:=xs,argTypes:=ts}) ty ps af g) (by simpa using ho) hg rfl rfl hf hm (Enters.sI hb) hd (by simpa using hR) fun r O' hr=>by
  cases r with
  | ret m=>exact h m O' hr
  | panic m=>exact h2 m O' hr) (hr:=hr)
end
def idxFrom {α :Type} (p: α ->Bool):Nat->List α ->Int
 | _,[]=> -1
 | i,x::r=>if p x then i else idxFrom p (i+1) r
theorem F_ {α :Type} (p: α ->Bool):∀(L:List α) (i:Nat),decide (idxFrom p i L>=0)=L.any p
 | [],i=>rfl
 | x::r,i=>by
   rw[idxFrom,List.any_cons];cases h:p x
   ·simp[F_ p r]
   ·simp
theorem UG (L:List (Bs×Bs)) (tk:Tok) (id:FuncId) (cs:List MV) (p:Bs×Bs->Bool) (O:VH) (hid:df Tryz.prog id=true) (hc:∀x∈L,∀O',O.Ge O'->VF Tryz.prog id ([.agg (bm x)]++cs) O' (aE fun m mD=>m=mb (p x)/\O'.Ge mD)) (hn:L.length<=1000000):
  VF Tryz.prog 246 [.sl L.length (L.flatMap bm) tk,.func (.func id) [] cs] O (aE fun m O'=>m=mi (idxFrom p 0 L)/\O.Ge O'):=by
 have dI:=aX fM L;refine Θ 19 [.tmp 4] Tryz.func246 ?_;refine ab @eL ?_;refine WC.jh [8] [0,1,7] (fun j:Nat=>[mi j]) (fun j O'=>O.Ge O'/\j<=L.length/\idxFrom p 0 L=idxFrom p j (L.drop j)) (fun j=>L.length - j) (0) ?_ ?_
 ·exact⟨VH.Ge.refl _,agu _,rfl⟩
 rintro j O2 ⟨aC,hj,dh⟩;by_cases h2:j<L.length
 ·have bE:=cP fM L j h2;have hcj:=hc L[j] (ajx h2) O2 aC;rw[ahZ h2,idxFrom]at dh;generalize L[j]=y at*;refine ao @eL @bE ?_;refine π hcj ?_ (hb:=hid);rintro _ O3 ⟨rfl,aG⟩;cases hi:p y
  ·rw[hi]at dh;refine ab @eL ?_;exact az.N (j+1) ⟨aC.trans aG,by omega,dh⟩
  ·rw[hi,if_pos rfl]at dh;rw[dh];refine ab @eL ?_;exact aC.trans aG
 ·obtain rfl:j=L.length:=by omega
  rw[ajy (by omega)]at dh;rw[dh];refine ab @eL ?_;exact⟨rfl,aC⟩
theorem aft (L:List (Bs×Bs)) (tk:Tok) (id:FuncId) (cs:List MV) (p:Bs×Bs->Bool) (O:VH) (hid:df Tryz.prog id=true) (hc:∀x∈L,∀O',O.Ge O'->VF Tryz.prog id ([.agg (bm x)]++cs) O' (aE fun m mD=>m=mb (p x)/\O'.Ge mD)) (hn:L.length<=1000000):
  VF Tryz.prog 286 [.sl L.length (L.flatMap bm) tk,.func (.func id) [] cs] O (aE fun m O'=>m=mb (L.any p)/\O.Ge O'):=by
 rw[<-F_ p L 0];refine Θ 9 [.tmp 4] Tryz.func286 ?_;refine ab @eL ?_;refine π (UG L tk id cs p O hid hc hn) ?_;rintro _ O2 ⟨rfl,aC⟩;refine ab @eL ?_;exact aC
theorem XV (x:Bs×Bs) (k:Nat) (yn:Bs) (a b c:MV) (O:VH) (hk:O.hp k=some (.cells [.str yn,a,b,c])) (zx:k<O.N):VF Tryz.prog 287 [.agg (bm x),.ptr k 0] O (aE fun m O'=>m=mb (x.1==yn)/\O.Ge O'):=by
 obtain⟨x1,x2⟩:=x;unfold bm;refine χ 9 [.tmp 3] Tryz.func287 ?_;refine κ @eL ?_;refine VC.bx ?_;rintro O1 ⟨aJ,eQ,cW⟩;have cA:=(aJ.hp k zx).trans hk;refine ι (aH @eL @eQ @cA ?_);exact aJ
def um (wy:Bs):List Nd->List (Bs×Bs)->Except (Int×Bs) (List (Bs×Bs))
 | [],L=>.ok L
 | k::r,L=>bif L.any (·.1==k.nm)then .error (20,wy++[47]++k.nm++[91,50,93])else match qM k (wy++[47]++k.nm) true with
   | .error e=>.error e
   | .ok s=>um wy r (L++[(k.nm,s)])
def lU (x:Nd) (w:Bs):Except (Int×Bs) (List (Bs×Bs)):=
 match cI x w lR with
 | .error e=>.error e
 | .ok ((_,_),false)=>.ok []
 | .ok ((y,wy),true)=>if 1024<(cU y []).length then .error (2,wy)else um wy (cU y []) []
theorem abA (x:Nd) (w:Bs) (O:VH) (hx:k6 x<=1000000) (hw:w.length<=10000):
  VF Tryz.prog 267 [.agg (kZ x w)] O (FQ O (lU x w) fun y m=>∃tk,m= .sl y.length (y.flatMap bm) tk):=by
 have wo:=sP x w lR;have fF:=kE x;have wq:= @sR x w lR;have wv:∀e,cI x w lR= .error e->lU x w= .error e:=fun e h=>by unfold lU;rw[h]
 have oI:∀y wy,cI x w lR= .ok ((y,wy),false)->lU x w= .ok []:=fun y wy h=>by unfold lU;rw[h]
 have jj:∀y wy,cI x w lR= .ok ((y,wy),true)->lU x w=if 1024<(cU y []).length then .error (2,wy)else um wy (cU y []) []:=fun y wy h=>by unfold lU;rw[h]
 generalize lU x w=PE at*;generalize cI x w lR=F at*;obtain⟨n,a,k,t⟩:=x;generalize hW:k6 (.mk n a k t)=W at*;simp only[kZ,dL,aee,aec]at wo ⊢;refine χ 55 [.tmp 2] Tryz.func267 ?_;refine κ @eL ?_;refine VC.bx ?_;rintro O1 ⟨aJ,eQ,cW⟩;refine ξ @eL @eQ ?_;refine ah.p (wo O1 (by omega) (by omega) (by decide)) ?_ ?_;rotate_left
 ·rintro m O2 ⟨aC,h⟩;cases F with
  | ok y=>exact h.elim
  | error e=>
    dsimp only at h;rw[wv e rfl];refine ab @eL ?_;exact⟨aJ.trans aC,h⟩
 rintro m O2 ⟨aC,h⟩;cases F with
 | error e=>exact h.elim
 | ok y=>
 obtain⟨⟨y,wy⟩,b⟩:=y;dsimp only at h;subst h;obtain⟨hyW,wA⟩:=wq rfl;have oJ:wy.length<=30000:=by rw[wA];simp only[zW,Mm,Ml];omega
 clear wq wA wv;have qL:=En y [];have akJ:=kE y;have hKm:∀z∈cU y [],k6 z<=1000000:=fun z hz=>by have:=R6 hz;omega
 have hKl:(cU y []).length<=1000000:=VI (ana _ _) (by omega)
 replace jj:b=true->PE=if 1024<(cU y []).length then .error (2,wy)else um wy (cU y []) []:=fun h=>by subst h;exact jj y wy rfl
 replace oI:b=false->PE= .ok []:=fun h=>by subst h;exact oI y wy rfl
 generalize cU y []=K at*;obtain⟨yn,ya,yk,yt⟩:=y;simp only[kZ,dL,aee,aec]at qL ⊢;have fC:=aJ.trans aC;refine ab @eL ?_;refine VC.al ?_;rintro O3 ⟨aG,N_,gE⟩;have eu:=fC.trans aG;cases b
 ·rw[oI rfl];refine ν @eL ?_;exact⟨eu,.nil,rfl⟩
 replace jj:=jj rfl
 clear oI;refine κ @eL ?_;refine ξ @eL @N_ ?_;refine π (qL O3 (by omega)) ?_;rintro _ O4 ⟨tk,rfl,aY⟩;have hy4:=aY.at N_;have gZ:=eu.trans aY;have h_:=aY.N;refine ab @eL ?_;by_cases Od:1024<K.length
 ·rw[if_pos Od]at jj;rw[jj];refine ξ @eL @hy4 ?_;refine ah.p (mO _ _ _) ?_ ?_
  ·rintro m O9 ⟨_,h⟩;exact h.elim
  rintro m O9 ⟨rfl,rfl⟩;refine ab @eL ?_;exact⟨gZ,rfl⟩
 rw[if_neg Od]at jj;refine ξ @eL @hy4 ?_;refine VC.join aa [2] (fun x:List (Bs×Bs)×Tok=>[.sl x.1.length (x.1.flatMap bm) x.2]) (fun x O'=>O.Ge O'/\PE= .ok x.1) ?_ ?_;rotate_left
 ·rintro⟨L,tl⟩ O9 ⟨bh,hP⟩;rw[hP];refine ab @eL ?_;exact⟨bh,tl,rfl⟩
 refine κ @eL ?_;refine υ ?_;refine Δ [2,27] [3,25,26] (fun x:Nat×List (Bs×Bs)×Tok=>[.sl x.2.1.length (x.2.1.flatMap bm) x.2.2,mi x.1]) (fun x O'=>O4.Ge O'/\App O' O4.N 2 x.2.2/\x.1<=K.length/\x.2.1.length=x.1/\PE=um wy (K.drop x.1) x.2.1) (fun x=>K.length - x.1) ((0,[],.nil)) ?_ ?_
 ·exact⟨VH.Ge.refl _,trivial,agu _,rfl,jj⟩
 rintro⟨j,L,tl⟩ O5 ⟨bG,cy,hj,pF,hP⟩;dsimp only at cy hj pF hP ⊢;by_cases aM:j<K.length;rotate_left
 ·obtain rfl:j=K.length:=by omega
  rw[ajy (ZA _),um]at hP;refine ν @eL ?_;exact aB.mk (L,tl) ⟨gZ.trans bG,hP⟩
 have bE:=cP mK K j aM;rw[<-qK]at bE;have UC:=dC K;rw[ahZ aM,um]at hP;have hzW:=hKm K[j] (ajx aM);generalize K[j]=z at*;have v8:=N8 z (wy++[47]++z.nm) true;have hkz:=kE z;have htz:=VI (F8 z.kids) (ani (xK z))
 have akK:z.nm.length<=1000000:=by cases z with
  | mk n a k t=>rw[Be]at hzW;show n.length<=_;omega
 generalize qM z (wy++[47]++z.nm) true=T at*;obtain⟨zn,za,dj,zt⟩:=z;simp only[kZ,dL,Nd.nm,List.cons_append,List.nil_append]at bE v8 hP akK;have hy5:=bG.at hy4;have e_:=bG.N;refine κ @eL ?_;refine κ @eL ?_;refine ω (υ ?_);refine ξ @eL @bE ?_;refine VC.al ?_;rintro O6 ⟨eZ,nG,nH⟩;have hy6:=eZ.at hy5;have mM:=cy.ge eZ;have Of:=bG.trans eZ;have cB:((j:Int)+1)=((j+1:Nat):Int):=by omega
 refine θ (aH @eL @hy6 @nG ?_);refine κ @eL ?_;refine π (aft L tl 287 [.ptr O5.N 0] (fun q=>q.1==zn) O6 (by kernel_rfl) (fun q _ O' Ci=>XV q _ zn _ _ _ O' (Ci.at nG) (by have:=Ci.N;omega)) (by omega)) ?_;rintro _ O7 ⟨rfl,eV⟩;have Dl:=(gZ.trans Of).trans eV;have hy7:=eV.at hy6;have vh:=eV.at nG;have vg:=eV.N;have kC:=mM.ge eV;refine ab @eL ?_;cases jX:L.any fun q=>q.1==zn
 rotate_left
 ·rw[jX,cond_true]at hP;rw[hP];refine ab @eL ?_;refine ah.p (mO _ _ _) ?_ ?_
  ·rintro m O9 ⟨_,h⟩;exact h.elim
  rintro m O9 ⟨rfl,rfl⟩;refine ab @eL ?_;exact⟨Dl,rfl⟩
 rw[jX,cond_false]at hP;refine ab @eL ?_;refine VC.oD [9,10] ?_;refine ae.au 0 ?_;refine ab @eL ?_;refine ae.au 1 ?_;refine ab @eL ?_;refine ae.ld (m:=.str zn) 2 ?_ ?_
 ·exact dW @eL @vh
 simp only[ak];refine ae.au 4 ?_;refine ab @eL ?_;refine ae.op (i:=3) ?_;refine ao @eL @vh ?_;refine⟨VH.Ge.refl _,?_⟩;refine ae.au 5 ?_;refine ab @eL ?_;refine ae.qP (i:=6) (v8 O7 (by omega) (by omega)) ?_ ?_;rotate_left
 ·rintro m O8 ⟨gQ,h⟩;cases T with
  | ok s=>exact h.elim
  | error e=>
    dsimp only at h hP;rw[hP];refine ab @eL ?_;exact⟨Dl.trans gQ,h⟩
 rintro m O8 ⟨gQ,h⟩;cases T with
 | error e=>exact h.elim
 | ok s=>
 dsimp only at h hP;subst h;simp only[ak];refine⟨gQ,?_⟩;refine ae.au 7 ?_;refine ab @eL ?_;refine ae.op (i:=8) ?_;refine ab @eL ?_;refine⟨gQ,?_⟩;refine ae.bQ [(9,.one),(10,.au)] ?_;refine ab @eL ?_;obtain⟨mE,gY,lQ⟩:=gG (n:=L.length) (cs:=L.flatMap bm) (ds:=[.str zn,.str s]) (es:=bm (zn,s)) KO Dh.1.1 (kC.ge gQ) (aX fM L) rfl rfl (by decide) (by omega) (by simp only[maxLen];omega) (gH L) (by simp only[bm,wu]);refine δ gY lQ ?_;refine ab @eL ?_;refine ν @eL ?_;exact az.N (j+1,L++[(zn,s)],.own O8.N 2) ⟨cc.ee ((Of.trans eV).trans gQ) (kC.ge gQ) (cc.after (kC.ge gQ)),App.after (by have:=gQ.N;omega),aM,by dsimp only;rw[zW,pF];rfl,hP⟩ (hl:=(by dsimp only;rw[zW,ajz,cB];rfl))
section
variable {P:Program} {tab:cg} {n:Sz} {D:List Deferred} {md:Md} {ops:Array Oper} {Q:VQ} {f:Fl} {o:Oper} {L:List (Fl×Oper)} {e:Env} {O:VH} {r:Option (MV×VH)} {b:Bool} {c:Code}
theorem R_ (h:WL P tab n D md ops Q L e O):WL P tab n D md ops Q L e O:=h
theorem Sa (h:W2 P tab n D md ops Q f o L e O r):W2 P tab n D md ops Q f o L e O r:=h
theorem Sb (h:W3 P tab n D md ops Q L e O b):W3 P tab n D md ops Q L e O b:=h
theorem Sc (h:WC P tab n D c e O Q):WC P tab n D c e O Q:=h
end
section
variable {A1 A2 A3 A4 A5 A6 A7 P Q:Prop}
theorem ia (a1:A1) (q:Q) (h:A1->Q->P:=by intro a1 q;first | (with_reducible refine θ ?_;refine ab a1 q) | (with_reducible refine ι ?_;refine ab a1 q) | (first | with_reducible refine R_ ?_ | with_reducible refine Sa ?_ | with_reducible refine Sb ?_ | with_reducible refine Sc ?_);refine ab a1 q):P:=h a1 q
theorem qQ (a1:A1) (a2:A2) (q:Q) (h:A1->A2->Q->P:=by intro a1 a2 q;first | (with_reducible refine θ ?_;refine ao a1 a2 q) | (with_reducible refine ι ?_;refine ao a1 a2 q) | (first | with_reducible refine R_ ?_ | with_reducible refine Sa ?_ | with_reducible refine Sb ?_ | with_reducible refine Sc ?_);refine ao a1 a2 q):P:=h a1 a2 q
theorem kg3 (a1:A1) (a2:A2) (a3:A3) (q:Q) (h:A1->A2->A3->Q->P:=by intro a1 a2 a3 q;first | (with_reducible refine θ ?_;refine aH a1 a2 a3 q) | (with_reducible refine ι ?_;refine aH a1 a2 a3 q) | (first | with_reducible refine R_ ?_ | with_reducible refine Sa ?_ | with_reducible refine Sb ?_ | with_reducible refine Sc ?_);refine aH a1 a2 a3 q):P:=h a1 a2 a3 q
theorem kg4 (a1:A1) (a2:A2) (a3:A3) (a4:A4) (q:Q) (h:A1->A2->A3->A4->Q->P:=by intro a1 a2 a3 a4 q;first | (with_reducible refine θ ?_;refine cJ a1 a2 a3 a4 q) | (with_reducible refine ι ?_;refine cJ a1 a2 a3 a4 q) | (first | with_reducible refine R_ ?_ | with_reducible refine Sa ?_ | with_reducible refine Sb ?_ | with_reducible refine Sc ?_);refine cJ a1 a2 a3 a4 q):P:=h a1 a2 a3 a4 q
theorem kg5 (a1:A1) (a2:A2) (a3:A3) (a4:A4) (a5:A5) (q:Q) (h:A1->A2->A3->A4->A5->Q->P:=by intro a1 a2 a3 a4 a5 q;first | (with_reducible refine θ ?_;refine iw a1 a2 a3 a4 a5 q) | (with_reducible refine ι ?_;refine iw a1 a2 a3 a4 a5 q) | (first | with_reducible refine R_ ?_ | with_reducible refine Sa ?_ | with_reducible refine Sb ?_ | with_reducible refine Sc ?_);refine iw a1 a2 a3 a4 a5 q):P:=h a1 a2 a3 a4 a5 q
theorem kg6 (a1:A1) (a2:A2) (a3:A3) (a4:A4) (a5:A5) (a6:A6) (q:Q) (h:A1->A2->A3->A4->A5->A6->Q->P:=by intro a1 a2 a3 a4 a5 a6 q;first | (with_reducible refine θ ?_;refine FI a1 a2 a3 a4 a5 a6 q) | (with_reducible refine ι ?_;refine FI a1 a2 a3 a4 a5 a6 q) | (first | with_reducible refine R_ ?_ | with_reducible refine Sa ?_ | with_reducible refine Sb ?_ | with_reducible refine Sc ?_);refine FI a1 a2 a3 a4 a5 a6 q):P:=h a1 a2 a3 a4 a5 a6 q
end
section
variable {G H:Gh} {n:Sz} {D:List Deferred} {e e':Env} {a:Act} {P:Program} {tab:cg} {O O':VH} {w:World} {m m':MV} {u v:Value} {ops:Array Oper} {Q:VQ} {md:Md}
def abB (P:Program) (tab:cg) (rs:List ResultVar) (g:FuncId) (cap:List Operand) (t:Tmp) (k lo:Nat) (rest:Code) (R:gB->VH->Prop):VQ:=fun x e O=>match x with
 | .normal=>∃ms,gh e cap=some ms/\∀D,VC P ⟨k,lo⟩ D rest ((t,.func (.func g) [] ms)::e) O (NC P tab rs g ms R)
 | .ret=>jo R O (iY tab e O rs)
 | _=>False
theorem Sd (ht:aP P tab) {el:TypeId} {te:cM} {B n' j:Nat} {L ds:List MV} {p q:MV} {dx:TypeDesc} {d:Option Tmp} {x y:Operand} {t tx ty:TypeId} {ps:String} {af:Array Edge} {g:Option (Nat×Bool)}
  (hr:GR O el te.size B p n' L) (hs:AD O te.size q=some (j,ds)) (iB:ds.all eb=true) (hu:(tab t).map cM.under=some (.slice el)) (he:tab el=some te) (v8:(tab tx).map cM.under=some dx) (Fs:AE q dx) (hb:(n'+j)*te.bytes<=140737488355328) (hm:n'+j<=maxLen) (hB:B<=O.N)
  (hx:ev e x=some p) (hy:ev e y=some q):
  gC P n D (.mk d (.call {callee:=.builtin .append,args:= #[x,y],argTypes:= #[t,tx]}) ty ps af g) e O (fun m O'=>GR O' el te.size B m (n'+j) (L++ds)/\bB O (gid p) O'/\(gid p=none->O.Ge O')/\((∃k c,m= .bz k 0 (n'+j) c/\(gid p=some k\/(O.N<=k/\j≠0)))\/(j=0/\m=p/\O'=O))):=by
 intro G a w hw hf;have nO:=hf.ev hx;have ye:=hf.ev hy;have fQ:=bM ht v8
 have fin:∀{m O' u w' H},(GR O' el te.size B m (n'+j) (L++ds)/\bB O (gid p) O'/\(gid p=none->O.Ge O')/\((∃k c,m= .bz k 0 (n'+j) c/\(gid p=some k\/(O.N<=k/\j≠0)))\/(j=0/\m=p/\O'=O)))->(Builtin.append_ #[t,tx] ty #[a.eval x,a.eval y]).run P w= .ok u w'->Gh.Le G H->WR H O' w'->VR H m u->
   ∃m O' u w' H,(GR O' el te.size B m (n'+j) (L++ds)/\bB O (gid p) O'/\(gid p=none->O.Ge O')/\((∃k c,m= .bz k 0 (n'+j) c/\(gid p=some k\/(O.N<=k/\j≠0)))\/(j=0/\m=p/\O'=O)))/\(execOp a.eval (.mk d (.call {callee:=.builtin .append,args:= #[x,y],argTypes:= #[t,tx]}) ty ps af g)).run P w= .ok (.value u) w'/\Gh.Le G H/\WR H O' w'/\VR H m u:=fun hM cD h1 h2 h3=>
  ⟨_,_,_,_,_,hM,by simp only[execOp,resolve,invoke,builtin,List.map_toArray,List.map_cons,List.map_nil,Sem.run_bind,Sem.run_pure,Result.andThen_ok]<;>simp[cD],h1,h2,h3⟩
 obtain⟨vs,pS,hv⟩:=AF (P:=P) hw hs ye fQ Fs iB;have mW:ds.length=j*te.size:=by rw[<-hv.1];exact pS.newsLen
 rcases hr with⟨rfl,rfl,hp⟩ | ⟨k,c,rfl,AI,pF,c7⟩
 ·have hA:∃A,a.eval x= .slice A 0 0/\(∀w',(Builtin.firstCells te.size 0 (.slice A 0 0)).run P w'= .ok #[] w'):=by
   generalize a.eval x=u at nO
   have key:∀A:Option Addr,∀w',(Builtin.firstCells te.size 0 (.slice A 0 0)).run P w'= .ok #[] w':=fun A w'=>by
    cases A<;>simp[Builtin.firstCells,loadCells,loadCellsFrom]
   rcases hp with rfl | rfl
   ·cases nO with
    | slnil=>exact⟨_,rfl,key _⟩
    | sl h1 h2 h3 h4 h5 h6=>exact h6.elim
   ·cases nO with
    | sl h1 h2 h3 h4 h5 h6=>
      have h6:_=0:=h6;subst h6;exact⟨_,rfl,key _⟩
  obtain⟨A,hA,Wn⟩:=hA;have aar:gid p=none:=by rcases hp with rfl | rfl<;>rfl
  by_cases hj:j=0
  ·subst hj;have r9:ds=[]:=List.eq_nil_of_length_eq_zero (by simpa using mW);subst r9;refine fin (m:=p) (O':=O) (u:=a.eval x) (w':=w) (H:=G) ⟨.inl ⟨rfl,rfl,hp⟩,bB.refl _ _,fun _=>VH.Ge.refl _,.inr ⟨rfl,rfl,rfl⟩⟩ ?_ (Gh.Le.refl G) hw nO;have jC:vs=[]:=by have:=hv.1;simpa using this
   subst jC;rw[hA];have fx:=bM ht hu;obtain⟨ti,z,i1,i2,_⟩:=(ht _ te he).info;rcases pS.kind with⟨e',hk⟩ | hk<;>cases A<;>simp[Builtin.append_,run_underlying fx,run_underlying hk,fH (ht _ te he),pS.len,pS.cells,storeCells]
  ·rw[hA]at fin;obtain⟨c',w',H,zs,g1,g2,g3,g4,g5,g6,g7⟩:=AG (P:=P) ht hw (n':=0) (c:=0) (A:=A) (L:=[]) (us:=[]) (ty:=ty) hu he fQ hs Fs iB aS.nil (by simp) (Wn _) (by omega) hb hm ye;refine fin ⟨.inr ⟨O.N,c',rfl,g1,by rw[zW,mW];simp,?_⟩,?_,fun _=>?_,.inl ⟨_,_,rfl,.inr ⟨ZA _,hj⟩⟩⟩ g4 g5 g6 g7
   ·refine Row.zC (cs:=[]) (t:=el) ?_ hB;rw[zW,g3,zW,mW,Ml,anh, <-anu]
    congr 1;omega
   ·rw[aar];exact bB.push.trans bB.push
   ·exact((VH.Ge.refl O).push _).push _
 ·obtain⟨sp,gN,fY⟩:=c7.cells;generalize pH:a.eval x=u at nO;have aas:=nO;cases aas with
  | bz hp hn hmx=>
    rename_i b;rw[pH]at fin;have hmul:(n'+j)*te.size=n'*te.size+j*te.size:=anu _ _ _;by_cases pE:n'+j<=c
    ·have hle:(n'+j)*te.size<=c*te.size:=Nat.mul_le_mul_right _ pE;obtain⟨w',A,g1,g2,g3⟩:=Nf (P:=P) (ty:=ty) ht hw hu he fQ gN hs Fs iB pE (by rw[fY,mW];omega) nO ye;rw[anh, <-pF,AH]at g2
     have IY:ds.length<=sp.length:=by
      rw[zW]at fY;omega
     rw[List.take_of_length_le IY]at g2;refine fin ⟨.inr ⟨k,c,rfl,pE,by rw[zW,pF,mW,hmul],c7.Ng ?_⟩,bB.set,(fun h=>by cases h),.inl ⟨_,_,rfl,.inl rfl⟩⟩ g1 (Gh.Le.refl G) g2 g3;rw[zW,zW,ah0];rw[zW]at fY;omega
    ·obtain⟨b',C,T,d1,d2,d3⟩:=hw.cells k _ gN;rw[hp]at d1;injection d1 with d1;subst d1
     have hL:=d3.take L.length;rw[List.take_left,List.take_take,Nat.min_eq_left (by rw[zW];omega)]at hL
     have hold:(Builtin.firstCells te.size n' (.slice (some ⟨b,0,none⟩) n' c)).run P w.drew= .ok (C.toList.take L.length).toArray w.drew:=by
      refine run_firstCells_some (P:=P) w.drew te.size n' ⟨b,0,none⟩ n' c _ (by rw[hL.1,pF]) fun i u hu=>?_
      rw[Addr.add_lit,anh];rw[ano]at hu;split at hu
      ·have jS:w.drew.heap[b]?=some (.cells C T.t T.fr):=d2;simp only[World.cell?,jS,Option.isSome_none,anp,if_false];simpa using hu
      ·cases hu
     obtain⟨c',w',H,zs,g1,g2,g3,g4,g5,g6,g7⟩:=AG (P:=P) (ty:=ty) ht hw (n':=n') (c:=c) (A:=some ⟨b,0,none⟩) (L:=L) hu he fQ hs Fs iB hL pF hold (by omega) hb hm ye;refine fin ⟨.inr ⟨O.N,c',rfl,g1,by rw[zW,pF,mW,hmul],?_⟩,(bB.push.trans bB.push).any,(fun h=>by cases h),.inl ⟨_,_,rfl,.inr ⟨ZA _,by omega⟩⟩⟩ g4 g5 g6 g7;refine Row.zC (cs:=[]) (t:=el) ?_ hB;rw[zW,g3,zW,pF,mW, <-hmul, <-anu]
     congr 1;omega
theorem VF.Ga {f g:FuncId} {fn:Func} {A B rest:Code} {id k lo:Nat} {t:Tmp} {cap:Array Operand} {ty ty':TypeId} {ps ps':String} {af af':Array Edge} {args:List MV} {rs:List ResultVar} {R:gB->VH->Prop} (hf:P.funcs[f]?=some fn) (hE:Enters P g)
  (h:WC P tab ⟨k,0⟩ [] A (cL 0 args) O (rJ (KD P ⟨k,0⟩ [] B (abB P tab rs g cap.toList t k lo rest R)) (abB P tab rs g cap.toList t k lo rest R))) (ht:aP P tab:=by exact aa) (hb:fn.body=some (.seq A (.seq B (.seq (.region id ⟨[.mk (some t) (.makeFunc (.func g) #[] cap) ty ps af none,.mk none (.defer {callee:=.value (.tmp t),args:= #[],argTypes:= #[]}) ty' ps' af' none]⟩ false) rest))):=by exact rfl) (hk:fn.ntmps=k:=by exact rfl) (hr:fn.results.toList=rs:=by exact rfl) (hn:args.length<=k:=by exact Nat.le_of_ble_eq_true rfl) (cT:t<k:=by decide):VF P f args O R:=by
 subst hk;intro G w vs hw hv;refine calls_of_wp_defers hf hb ?_
 have aV:FR G ⟨fn.ntmps,0⟩ [] (cL 0 args) {tmps:=vs.toArray++Array.replicate (fn.ntmps - vs.toArray.size) undef,defers:=[]}:=by
  have hl:=hv.1;refine⟨rfl,by simp;omega,fun t x hx=>?_⟩;rw[iU,if_pos (agu _),Nat.sub_zero]at hx;obtain⟨u,h1,h2⟩:=hv.get hx;refine⟨u,?_,h2⟩;have ei:=(anr.1 h1).1;rw[Array.getElem?_append_left (by simpa using ei)];simpa using h1
 refine wp_seq (wp_mono (WC.sound ht h G _ w hw aV) ?_)
 have early:∀{e:Env} {a':Act} {w':World} {O':VH} {K:Gh},Gh.Le G K->WR K O' w'->FR K ⟨fn.ntmps,0⟩ [] e a'->jo R O' (iY tab e O' rs)->
   Leaves P fn a'.tmps (fun x w'=>∃r O' H,Gh.Le G H/\WR H O' w'/\ER H r x/\R r O') a'.defers .returning w':=by
  intro e a' w' O' K k1 k2 k3 q3;rw[k3.defers]
  have key:∃m,dK tab fn e O'=some m/\R (.ret m) O':=by
   unfold dK;rw[hr, <-sH];generalize iY tab e O' rs=z at q3;unfold jo at q3;split at q3
   ·exact q3.elim
   ·exact⟨_,rfl,q3⟩
   ·rename_i l hl;refine⟨.tuple l,?_,q3⟩
    match l,hl with
    | [],_=>rfl
    | [m],hl=>exact absurd rfl (hl m)
    | _::_::_,_=>rfl
  obtain⟨m,h6,h7⟩:=key;obtain⟨u2,h8,h9⟩:=lN (P:=P) ht k2 k3 h6;exact⟨u2,h8,.ret m,O',K,k1,k2,h9,h7⟩
 rintro y a1 w1 ⟨x,e,O1,H,g1,g2,g3,g4,g5⟩
 cases y<;>cases x<;>first
  | exact False.elim g4
  | exact g5.elim
  | exact early g1 g2 g3 g5
  | skip
 refine wp_seq (wp_mono (g5 H a1 w1 g2 g3) ?_);rintro y a1 w1 ⟨x,e,O1,H2,g1',g2,g3,g4,g5⟩
 replace g1:=g1.trans g1'
 clear g1'
 cases y<;>cases x<;>first
  | exact False.elim g4
  | exact g5.elim
  | exact early g1 g2 g3 g5
  | skip
 obtain⟨ms,hm,Ru⟩:=g5;have g3:FR H2 ⟨fn.ntmps,0⟩ [] e a1:=g3;have jC:=g3.gh hm;have HA:cap.map a1.eval=(cap.toList.map a1.eval).toArray:=by apply Array.ext';simp
 generalize cap.toList.map a1.eval=us at jC HA
 have Rv:(execOp a1.eval (.mk (some t) (.makeFunc (.func g) #[] cap) ty ps af none)).run P w1= .ok (.value (.func (.func g) #[] us.toArray)) w1:=by
  simp[execOp,Instr.makeFunc,HA]
 have hz:=g3.size;dsimp only at hz
 have hev:(a1.put (some t) (.func (.func g) #[] us.toArray)).eval (.tmp t)= .func (.func g) #[] us.toArray:=by
  simp[Act.eval,Act.put,hz,cT]
 have Rw:(execOp (a1.put (some t) (.func (.func g) #[] us.toArray)).eval (.mk none (.defer {callee:=.value (.tmp t),args:= #[],argTypes:= #[]}) ty' ps' af' none)).run P w1= .ok (.defer {target:=.fn (.func g) us.toArray,args:= #[]}) w1:=by
  simp[execOp,resolve,hev,Deferred.ofValue]
 refine wp_seq (wp_region ?_);have NB:∀o1 o2:Oper,List.range (Array.mk [o1,o2]).size=[0,1]:=fun _ _=>rfl
 rw[NB];have KE:∀(o1 o2:Oper) (tm:Array Value),o1.guard=none->Region.wanted o1 (yielded ⟨[o1,o2]⟩ tm)=true:=fun o1 o2 tm h=>by simp[Region.wanted,h]
 have sJ:∀(o1 o2:Oper) (tm:Array Value),o2.guard=none->Region.wanted o2 (yielded ⟨[o1,o2]⟩ tm)=true:=fun o1 o2 tm h=>by simp[Region.wanted,h]
 simp only[wpOps,List.getElem?_toArray,anc,ane];rw[if_pos (KE _ _ _ rfl)];refine .inl ?_;unfold Oper.wp;rw[Rv,Oper.upon_value];simp only[wpOps,List.getElem?_toArray,anc,ane];rw[if_pos (sJ _ _ _ rfl)];refine .inl ?_;first | unfold Oper.wp | skip
 rw[Rw,Oper.upon_defer];have kX:FR H2 ⟨fn.ntmps,0⟩ [] ((t,.func (.func g) [] ms)::e) (a1.put (some t) (.func (.func g) #[] us.toArray)):=FR.put g3 cT (.func (fs:=[]) (us:=[]) rfl (fun i c u h=>by simp at h) jC.1 jC.2);generalize a1.put (some t) (.func (.func g) #[] us.toArray)=a2 at kX;have ND:FR H2 ⟨fn.ntmps,lo⟩ [{target:=.fn (.func g) us.toArray,args:= #[]}] ((t,.func (.func g) [] ms)::e) {a2 with defers:={target:=.fn (.func g) us.toArray,args:= #[]}::a2.defers}:=⟨by rw[kX.defers],kX.size,kX.get⟩;show rest.wp P _ _ _;refine wp_mono (Ru _ H2 _ w1 g2 ND) ?_;rintro y a' w' ⟨x,e',O',K,k1,k2,k3,k4,k5⟩
 have hinv:∀w:World,(invoke (.fn (.func g) us.toArray) #[]).run P w= .ok (.enter g us.toArray) w:=fun w=>by
  simp[invoke,hE us.toArray w]
 have fin:∀(u:FrameMode) (z:Option MV),u≠ .run->MR K z u->FR K ⟨fn.ntmps,lo⟩ [{target:=.fn (.func g) us.toArray,args:= #[]}] e' a'->gU P g ms z O' (fun O'=>jo R O' (iY tab e' O' rs))->
   Leaves P fn a'.tmps (fun x w'=>∃r O' H,Gh.Le G H/\WR H O' w'/\ER H r x/\R r O') a'.defers u w':=by
  intro u z hu hmr hfa hd;rw[hfa.defers];refine leaves_cons hu (hinv _) ((hd K w' us u k2 (jC.mono k1) hmr).mono ?_);rintro r u' HE ⟨⟨v,rfl⟩,hs,O2,K2,q1,q2,q3⟩;dsimp only;rw[hs]
  have key:∃m,dK tab fn e' O2=some m/\R (.ret m) O2:=by
   unfold dK;rw[hr, <-sH];generalize iY tab e' O2 rs=z at q3;unfold jo at q3;split at q3
   ·exact q3.elim
   ·exact⟨_,rfl,q3⟩
   ·rename_i l hl;refine⟨.tuple l,?_,q3⟩
    match l,hl with
    | [],_=>rfl
    | [m],hl=>exact absurd rfl (hl m)
    | _::_::_,_=>rfl
  obtain⟨m,h6,h7⟩:=key;obtain⟨u2,h8,h9⟩:=lN (P:=P) ht q2 (hfa.mono q1) h6;exact⟨u2,h8,.ret m,O2,K2,(g1.trans k1).trans q1,q2,h9,h7⟩
 cases y with
 | normal=>cases x<;>first | exact False.elim k4 | exact fin .returning none (by simp) trivial k3 k5
 | ret=>cases x<;>first | exact False.elim k4 | exact fin .returning none (by simp) trivial k3 k5
 | panic c=>
   cases x with
   | panic m=>
     obtain⟨u,rfl,hvu⟩:=k4;exact fin (.panicking [⟨u,false,false⟩]) (some m) (by simp) hvu k3.2 k5
   | _=>exact False.elim k4
 | exit i=>cases x<;>first | exact False.elim k4 | exact k5.elim
 | goto i=>cases x<;>first | exact False.elim k4 | exact k5.elim
 | outgrown=>cases x<;>exact False.elim k4
theorem VL.aiC (ht:aP P tab) {brk:List Nat} {el:TypeId} {te:cM} {B n' j:Nat} {L ds:List MV} {p q:MV} {dx:TypeDesc} {d:Option Tmp} {x y:Operand} {t tx ty:TypeId} {ps:String} {af:Array Edge} {g:Option (Nat×Bool)} {LL:List (Fl×Oper)} (hne:brk≠[])
  (qu:∀i,ops[i]?=some (.mk d (.call {callee:=.builtin .append,args:= #[x,y],argTypes:= #[t,tx]}) ty ps af g)->brk.contains i=true)
  (hr:GR O el te.size B p n' L) (hs:AD O te.size q=some (j,ds)) (iB:ds.all eb=true) (hu:(tab t).map cM.under=some (.slice el)) (he:tab el=some te) (v8:(tab tx).map cM.under=some dx) (Fs:AE q dx) (hb:(n'+j)*te.bytes<=140737488355328) (hm:n'+j<=maxLen) (hB:B<=O.N)
  (hx:ev e x=some p) (hy:ev e y=some q) (hg:aO ops (.mk d (.call {callee:=.builtin .append,args:= #[x,y],argTypes:= #[t,tx]}) ty ps af g) e=some true) (hd:bD n d=true)
  (h:∀m O',GR O' el te.size B m (n'+j) (L++ds)->bB O (gid p) O'->(gid p=none->O.Ge O')->((∃k c,m= .bz k 0 (n'+j) c/\(gid p=some k\/(O.N<=k/\j≠0)))\/(j=0/\m=p/\O'=O))->WL P tab n D (.held brk) ops Q LL (aZ d m e) O'):
  VL P n D (.held brk) ops ((.one,.mk d (.call {callee:=.builtin .append,args:= #[x,y],argTypes:= #[t,tx]}) ty ps af g)::LL) e O Q:=by
 refine VL.jG hg hd (fun _ agV h=>by injection h with h;subst h;exact hne) (fun agV h=>by injection h with h;subst h;exact .inr hne) (Sd ht hr hs iB hu he v8 Fs hb hm hB hx hy) (fun agV h i hi=>by injection h with h;subst h;exact qu i hi) ?_;rintro m O' ⟨h1,h2,h3,h4⟩;exact WL.sound ht (h m O' h1 h2 h3 h4)
theorem bP.mv {brk:List Nat} {fuel:Nat} (i:Nat) {listed:Array Bool} {l:List Oper} {d:Option Tmp} {x:Operand} {ty:TypeId} {ps:String} {af:Array Edge} {g:Option (Nat×Bool)} (h:bP P n D ⟨l⟩ brk fuel (listed.setIfInBounds i true) (aZ d m e) O Q) (ho:l[i]?=some (.mk d (.move x) ty ps af g):=by exact rfl) (hs:Region.noSelect ⟨l⟩=true:=by kernel_rfl) (hf:Region.free .any ⟨l⟩ listed i=true:=by kernel_rfl) (hr:(Region.ready .any ⟨l⟩ listed).contains i=true:=by kernel_rfl) (Og:brk.contains i=true:=by kernel_rfl) (hg:aO ⟨l⟩ (.mk d (.move x) ty ps af g) e=some true:=by exact rfl) (hd:bD n d=true:=by exact rfl) (hx:ev e x=some m:=by exact rfl):bP P n D ⟨l⟩ brk (fuel+1) listed e O Q:=by
 intro G a w hw aV;have hu:=aV.ev hx;have cD:∀w:World,(execOp a.eval (.mk d (.move x) ty ps af g)).run P w= .ok (.value (a.eval x)) w:=fun w=>by simp[execOp]
 have KZ:(⟨l⟩:Array Oper)[i]?=some (.mk d (.move x) ty ps af g):=by simpa using ho
 refine oS (S:=fun _=>True) (W:=fun _=>False) (brk:=fun _=>false) KZ (Region.noSelect_spec hs) (iC hd) (fun _ _ _ _=>trivial) (fun x _ hh=>by rw[Og]at hh;cases hh) fuel listed a w (Region.free_spec KZ hf) (fun _ _ _ h=>h.elim) (fun _ h=>h.elim) (fun _ _ _ h=>by cases h) (by simpa using hr) (.inl ⟨bC aV hg,fun x _=>cD x⟩) trivial (h G _ w hw (aV.aZ hd hu))
theorem bP.bQ (ix:List (Nat×Fl)) {brk:List Nat} {fuel:Nat} {listed:Array Bool} {l:List Oper} {L:List (Fl×Oper)} (h:WL P tab n D (.held brk) ⟨l⟩ Q L e O) (ht:aP P tab:=by exact aa) (hs:Region.noSelect ⟨l⟩=true:=by kernel_rfl) (hp:cZ (.held brk) ⟨l⟩ fuel listed ix=true:=by kernel_rfl) (hL:oC l ix=some L:=by exact rfl):bP P n D ⟨l⟩ brk fuel listed e O Q:=
 (WL.sound ht h) fuel listed ix (t_ hL) (fun _=>⟨hs,hp⟩)
theorem VC.gen {c:Code} (h:∀O3,O3=O->VC P n D c e O3 Q):VC P n D c e O Q:=h _ rfl
theorem WL.gen {L:List (Fl×Oper)} (h:∀O3,O3=O->WL P tab n D md ops Q L e O3):WL P tab n D md ops Q L e O:=h _ rfl
theorem ib (a b:cf) {O1:VH} (h:O1=(O.push a).push b):O.Ge O1/\O1.N=O.N+2/\O1.hp O.N=some a/\O1.hp (O.N+1)=some b:=by
 subst h;exact⟨((VH.Ge.refl O).push _).push _,rfl,(VH.o0 _ _ (show O.N≠O.N+1 by omega)).trans (Υ _ _),Υ _ _⟩
theorem lu (a b c:cf) {O1:VH} (h:O1=((O.push a).push b).push c):O.Ge O1/\O1.N=O.N+3/\O1.hp O.N=some a/\O1.hp (O.N+1)=some b/\O1.hp (O.N+2)=some c:=by
 subst h;obtain⟨h1,h2,h3,h4⟩:=ib (O:=O) a b rfl;exact⟨h1.push _,rfl,(VH.o0 _ _ (show O.N≠O.N+2 by omega)).trans h3,(VH.o0 _ _ (show O.N+1≠O.N+2 by omega)).trans h4,Υ _ _⟩
theorem Gb (a b c d:cf) {O1:VH} (h:O1=(((O.push a).push b).push c).push d):O.Ge O1/\O1.N=O.N+4/\O1.hp O.N=some a/\O1.hp (O.N+1)=some b/\O1.hp (O.N+2)=some c/\O1.hp (O.N+3)=some d:=by
 subst h;obtain⟨h1,h2,h3,h4,h5⟩:=lu (O:=O) a b c rfl;exact⟨h1.push _,rfl,(VH.o0 _ _ (show O.N≠O.N+3 by omega)).trans h3,(VH.o0 _ _ (show O.N+1≠O.N+3 by omega)).trans h4,(VH.o0 _ _ (show O.N+2≠O.N+3 by omega)).trans h5,Υ _ _⟩
theorem bP.Cj (i:Nat) {brk:List Nat} {fuel:Nat} {listed:Array Bool} {l:List Oper} {o:Oper} (h:AN (fun m O'=>bP P n D ⟨l⟩ brk fuel (listed.setIfInBounds i true) (aZ o.dst m e) O' Q) (iW tab .rd o e O)) (ht:aP P tab:=by exact aa) (ho:l[i]?=some o:=by exact rfl) (hs:Region.noSelect ⟨l⟩=true:=by kernel_rfl) (hf:Region.free .any ⟨l⟩ listed i=true:=by kernel_rfl) (hr:(Region.ready .any ⟨l⟩ listed).contains i=true:=by kernel_rfl) (hb:oA ⟨l⟩ brk listed i=true:=by kernel_rfl) (hg:aO ⟨l⟩ o e=some true:=by exact rfl) (hd:bD n o.dst=true:=by exact rfl):bP P n D ⟨l⟩ brk (fuel+1) listed e O Q:=by
 generalize hv:iW tab .rd o e O=v at h;cases v with
 | none=>exact h.elim
 | some p=>
   obtain⟨m,O'⟩:=p
   exact bP.take (by simpa using ho) hs hf hr hb hd (fun G a w hw aV=>by
    obtain⟨_,u,hu,cD⟩:=xD (P:=P) ht hw aV (by simp) hv;exact⟨u,hu,.inl ⟨bC aV hg,cD⟩⟩) (by
    obtain rfl:=vP (by simp) hv;exact h)
theorem bP.fin {brk:List Nat} {fuel:Nat} {listed:Array Bool} (hb:((List.range listed.size).all fun j=>listed.getD j true||brk.contains j)=true) (h:cG P n D ops fuel listed e O Q):bP P n D ops brk fuel listed e O Q:=by
 intro G a w hw aV;refine nQ _ _ _ _ (fun j hj x hs hh=>?_) (h G a w hw aV);rcases anm j listed.size with hl | hl
 ·have:=ank.1 hb j (anx.2 hl);rw[hj,anA]at this;rw[this]at hh;cases hh
 ·rw[ang,anj (by simpa using hl)]at hj;cases hj
theorem cG.UH {i:Nat} {fuel:Nat} {listed:Array Bool} {l:List Oper} {o:Oper} (h:AN (fun m O'=>cG P n D ⟨l⟩ fuel (listed.setIfInBounds i true) (aZ o.dst m e) O' Q) (dF tab o e O)) (ht:aP P tab:=by exact aa) (ho:l[i]?=some o:=by exact rfl) (hr:Region.ready .any ⟨l⟩ listed=[i]:=by kernel_rfl) (hg:aO ⟨l⟩ o e=some true:=by exact rfl) (hd:bD n o.dst=true:=by exact rfl):cG P n D ⟨l⟩ (fuel+1) listed e O Q:=
 cG.all hr (by simp) fun j hj=>by
  obtain rfl:j=i:=by simpa using hj
  exact aN.o1 h (ht:=ht) (ho:=ho) (hg:=hg) (hd:=hd)
theorem cG.st {i:Nat} {fuel:Nat} {listed:Array Bool} {l:List Oper} {o:Oper} {M:MV->VH->Prop} (ho:l[i]?=some o) (hr:Region.ready .any ⟨l⟩ listed=[i]) (hg:aO ⟨l⟩ o e=some true) (hd:bD n o.dst=true) (hy:gC P n D o e O M)
  (h:∀m O',M m O'->cG P n D ⟨l⟩ fuel (listed.setIfInBounds i true) (aZ o.dst m e) O' Q):cG P n D ⟨l⟩ (fuel+1) listed e O Q:=
 cG.all hr (by simp) fun j hj=>by
  obtain rfl:j=i:=by simpa using hj
  exact aN.st hy h (ho:=ho) (hg:=hg) (hd:=hd)
theorem cG.two {i j:Nat} {fuel:Nat} {listed:Array Bool} (hr:Region.ready .any ops listed=[i,j])
  (h1:aN P n D ops i e O Q fun e' O'=>cG P n D ops fuel (listed.setIfInBounds i true) e' O' Q) (h2:aN P n D ops j e O Q fun e' O'=>cG P n D ops fuel (listed.setIfInBounds j true) e' O' Q):cG P n D ops (fuel+1) listed e O Q:=
 cG.all hr (by simp) fun x hx=>by
  simp only[anl,List.not_mem_nil,or_false]at hx;rcases hx with rfl | rfl
  ·exact h1
  ·exact h2
theorem WR.XW (h:WR G O w) {k:Nat} {cs ds:List MV} (hk:O.hp k=some (.cells cs)) (hw:fl cs ds):WR G (O.set k (.cells ds)) w:=
 h.swap (by rw[hk];simp) (fun cs' e=>by
  injection e with e;subst e
  obtain⟨b,C,T,h1,h2,h3⟩:=h.cells k cs hk;exact⟨b,C,T,h1,h2,by rw[<-hw.1];exact hw.vrs h3⟩) (fun X e=>by cases e) (fun _ _ e=>by cases e) (fun e=>by cases e) (fun _ _ _ e=>by cases e)
theorem VC.XW {c:Code} {k:Nat} {cs ds:List MV} (hk:O.hp k=some (.cells cs)) (hw:fl cs ds) (h:VC P n D c e (O.set k (.cells ds)) Q):VC P n D c e O Q:=fun G a w hwr hf=>h G a w (hwr.XW hk hw) hf
theorem WR.xM (h:WR G O w) {k p o n c sz:Nat} {cs A E:List MV} (hk:O.hp k=some (.cells cs)) (hp:O.hp p=some (.cells (A++ .bz k o n c::E))) (kY:p≠k) (hl:o+sz<=cs.length):∃H,Gh.Le G H/\WR H ((O.kill k).set p (.cells (A++ .sl n ((cs.drop o).take sz) .ar::E))) w:=by
 obtain⟨b,C,T,h1,h2,h3⟩:=h.cells p _ hp;obtain⟨u,hu,hv⟩:=h3.get (i:=A.length) (c:=.bz k o n c) (by rw[am_ (ZA _),Nat.sub_self];rfl);obtain⟨H,h4,h5,h6⟩:=h.freeze hk hv hl;refine⟨H,h4,?_⟩;have Oh:(O.kill k).hp p=some (.cells (A++ .bz k o n c::E)):=(VH.lg _ kY).trans hp;refine h5.swap (by rw[Oh];simp) (fun cs' e=>?_) (fun X e=>by cases e) (fun _ _ e=>by cases e) (fun e=>by cases e) (fun _ _ _ e=>by cases e);injection e with e;subst e
 refine⟨b,C,T,h4.bV h1,h2,?_⟩;have h7:=h3.mono h4;refine⟨?_,fun i c' u' hc ED=>?_⟩
 ·rw[zW,Mm]at h7 ⊢;have:=h7.1;rw[zW,Mm]at this;exact this
 ·have hlen:(A++MV.sl n ((cs.drop o).take sz) .ar::E).length=(A++MV.bz k o n c::E).length:=by simp
  rw[hlen]at ED;by_cases hi:i=A.length
  ·subst hi;rw[am_ (ZA _),Nat.sub_self]at hc;injection hc with hc;subst hc
   rw[hu]at ED;injection ED with ED;subst ED
   exact Wk.tok _ _ h6
  ·refine h7.2 i c' u' ?_ ED;rcases anm i A.length with ei | iS
   ·rw[anq ei]at hc ⊢;exact hc
   ·rw[am_ iS]at hc ⊢;obtain⟨j,hj⟩:∃j,i - A.length=j+1:=⟨i - A.length - 1,by omega⟩
    rw[hj,ane]at hc ⊢;exact hc
theorem VC.xM {c0:Code} {k p o n' c sz:Nat} {cs A E:List MV} (hk:O.hp k=some (.cells cs)) (hp:O.hp p=some (.cells (A++ .bz k o n' c::E))) (kY:p≠k) (hl:o+sz<=cs.length) (h:VC P n D c0 e ((O.kill k).set p (.cells (A++ .sl n' ((cs.drop o).take sz) .ar::E))) Q):VC P n D c0 e O Q:=fun G a w hw hf=>by
 obtain⟨H,h1,h2⟩:=hw.xM hk hp kY hl;exact wp_mono (h H a w h2 (hf.mono h1)) fun _ _ _=>cN.le h1
end
section
variable {G H:Gh} {n:Sz} {D:List Deferred} {e e':Env} {a:Act} {P:Program} {tab:cg} {O O':VH} {w:World} {m m':MV} {u v:Value} {ops:Array Oper} {Q:VQ} {md:Md}
theorem ae.akL (i:Nat) {brk:List Nat} {Ψ :Gh->Prop} {J:VH->Prop} {Z:Prop} {fuel:Nat} {listed:Array Bool} {l:List Oper} {o:Oper} (h:AN (fun m O'=>ae P n D ⟨l⟩ brk J Ψ Z fuel (listed.setIfInBounds i true) (aZ o.dst m e) O' Q) (iW tab .au o e O)) (ht:aP P tab:=by exact aa) (ho:l[i]?=some o:=by exact rfl) (hs:Region.noSelect ⟨l⟩=true:=by kernel_rfl) (hf:Region.free .any ⟨l⟩ listed i=true:=by kernel_rfl) (hr:(Region.ready .any ⟨l⟩ listed).contains i=true:=by kernel_rfl) (Og:brk.contains i=true:=by kernel_rfl) (hg:aO ⟨l⟩ o e=some true:=by exact rfl) (hd:bD n o.dst=true:=by exact rfl):ae P n D ⟨l⟩ brk J Ψ Z (fuel+1) listed e O Q:=by
 generalize hv:iW tab .au o e O=v at h;cases v with
 | none=>exact h.elim
 | some p=>
   obtain⟨m,O'⟩:=p;obtain⟨h1,rfl⟩:=oB hv;intro hΨ hZ hJ G a w hψ hw aV;obtain⟨u,hu,cD⟩:=vC (P:=P) ht aV h1;have KZ:(⟨l⟩:Array Oper)[i]?=some o:=by simpa using ho
   exact oS (S:=fun x=>SS G x) (W:=fun _=>False) (brk:=fun _=>false) KZ (Region.noSelect_spec hs) (iC hd) (fun _ _ _ hT=>hT.1) (fun x hx=>⟨hx,fun hh=>by rw[Og]at hh;cases hh⟩) fuel listed a w (Region.free_spec KZ hf) (fun _ _ _ h=>h.elim) (fun _ h=>h.elim) (fun _ _ _ h=>by cases h) (by simpa using hr) (.inl ⟨bC aV hg,fun x hx=>cD x hx⟩) hw.ss (h hΨ hZ hJ G _ w hψ hw (aV.aZ hd hu))
theorem VC.qR {id:Nat} (brk:List Nat) (J:VH->Prop) (hJ:J O) (h:ae P n D ops brk J (fun _=>True) True ops.size (Array.replicate ops.size false) e O Q) (hm:P.follows .mixedOrders=true:=by kernel_rfl):VC P n D (.region id ops true) e O Q:=
 fun G a w hw hf=>wp_region_any hm (k_ _ _ _ _ (h (fun _ _ _ _=>trivial) trivial hJ G a _ trivial (hw.drawn _) hf))
def exP:MV->Bool
 | .ptr _ _=>true
 | .map _=>true
 | m=>exM m
theorem abC (hm:exP m=true) (h1:VR G m u) (hl:Gh.Le G H) (h2:VR H m v):v=u:=by
 cases m with
 | ptr k o=>
   cases h1 with
   | ptr a=>cases h2 with
     | ptr b=>rw[hl.bV a]at b;injection b with b;rw[b]
 | map k=>
   cases h1 with
   | map a=>cases h2 with
     | map b=>rw[hl.bV a]at b;injection b with b;rw[b]
 | _=>refine Uq ?_ h1 h2;exact hm
theorem ζ (i:Nat) {J:VH->Prop} {Ψ :Gh->Prop} {Z:Prop} {brk:List Nat} {fuel:Nat} {listed:Array Bool} {l:List Oper} {d:Option Tmp} {t:TypeId} {x:Operand} {ty:TypeId} {ps:String} {af:Array Edge} {g:Option (Nat×Bool)} {p:MV} (hv:∀O2,J O2->fw tab O2 t p=some m) (h:ae P n D ⟨l⟩ brk J Ψ Z fuel (listed.setIfInBounds i true) (aZ d m e) O Q) (ht:aP P tab:=by exact aa) (ho:l[i]?=some (.mk d (.load t x) ty ps af g):=by exact rfl) (hs:Region.noSelect ⟨l⟩=true:=by kernel_rfl) (hf:Region.free .any ⟨l⟩ listed i=true:=by kernel_rfl) (hr:(Region.ready .any ⟨l⟩ listed).contains i=true:=by kernel_rfl) (hb:oA ⟨l⟩ brk listed i=true:=by kernel_rfl) (hg:aO ⟨l⟩ (.mk d (.load t x) ty ps af g) e=some true:=by exact rfl) (hd:bD n d=true:=by exact rfl) (hx:ev e x=some p:=by exact rfl) (hm:exP m=true:=by exact rfl):ae P n D ⟨l⟩ brk J Ψ Z (fuel+1) listed e O Q:=by
 refine ae.take (o:=.mk d (.load t x) ty ps af g) (by simpa using ho) hs hf hr hb hd (fun G a w _ hJ _ hw aV=>?_) h;obtain⟨u0,hu0,_⟩:=oX (P:=P) ht hw (hv O hJ) (aV.ev hx);refine⟨u0,hu0,.inl ⟨bC aV hg,fun y hy=>?_⟩⟩;obtain⟨H,O2,g1,g2,g3⟩:=hy;obtain⟨r,g4,g5⟩:=oX (P:=P) ht g2 (hv O2 g3) ((aV.ev hx).mono g1);have:=g5 y g2.sx;have er:=abC hm hu0 g1 g4;subst er;simp only[execOp,Sem.run_bind,this];rfl
def Oi (k1 k2:Nat) (X1 X2:Obj) (O':VH):Prop:=O'.hp k1=some (.obj X1)/\O'.hp k2=some (.obj X2)
def ΨFF (Se Oj:List MV) (X1 X2:Obj) (G:Gh):Prop:=lp Se X1 G/\lp Oj X2 G
theorem VC.Ep {id:Nat} (brk:List Nat) (k1 k2:Nat) {Se Oj:List MV} (cA:O.hp k1=some (.cells Se)) (bN:O.hp k2=some (.cells Oj))
  (h:∀X1 X2,ae P n D ops brk (Oi k1 k2 X1 X2) (ΨFF Se Oj X1 X2) True ops.size (Array.replicate ops.size false) e ((O.set k1 (.obj X1)).set k2 (.obj X2)) Q) (hne:k2≠k1:=by omega) (hm:P.follows .mixedOrders=true:=by kernel_rfl):VC P n D (.region id ops true) e O Q:=
 fun G a w hw hf=>by
  obtain⟨X1,eQ,KE⟩:=(hw.drawn _).fix cA;obtain⟨X2,jv,sJ⟩:=KE.fix (k:=k2) (cs:=Oj) ((ρ _ _ hne).trans bN);exact wp_region_any hm (k_ _ _ _ _ (h X1 X2 (fun _ _ hl hx=>⟨lp.mono hl hx.1,lp.mono hl hx.2⟩) trivial ⟨(ρ _ _ (Ne.symm hne)).trans (τ _ _ _),τ _ _ _⟩ G a _ ⟨eQ,jv⟩ sJ hf))
theorem ε (i:Nat) {J:VH->Prop} {Ψ :Gh->Prop} {Z:Prop} {brk:List Nat} {cs:List MV} {X:Obj} {fuel:Nat} {listed:Array Bool} {l:List Oper} {d:Option Tmp} {t:TypeId} {x:Operand} {ty:TypeId} {ps:String} {af:Array Edge} {g:Option (Nat×Bool)} {k off:Nat} (hJ:∀O',J O'->O'.hp k=some (.obj X)) (hΨ :∀G, Ψ G->lp cs X G) (hv:fw tab (O.set k (.cells cs)) t (.ptr k off)=some m) (h:ae P n D ⟨l⟩ brk J Ψ Z fuel (listed.setIfInBounds i true) (aZ d m e) O Q) (ht:aP P tab:=by exact aa) (ho:l[i]?=some (.mk d (.load t x) ty ps af g):=by exact rfl) (hs:Region.noSelect ⟨l⟩=true:=by kernel_rfl) (hf:Region.free .any ⟨l⟩ listed i=true:=by kernel_rfl) (hr:(Region.ready .any ⟨l⟩ listed).contains i=true:=by kernel_rfl) (hb:oA ⟨l⟩ brk listed i=true:=by kernel_rfl) (hg:aO ⟨l⟩ (.mk d (.load t x) ty ps af g) e=some true:=by exact rfl) (hd:bD n d=true:=by exact rfl) (hx:ev e x=some (.ptr k off):=by exact rfl):ae P n D ⟨l⟩ brk J Ψ Z (fuel+1) listed e O Q:=by
 refine ae.take (o:=.mk d (.load t x) ty ps af g) (by simpa using ho) hs hf hr hb hd (fun G a w _ hJO hψ hw aV=>?_) h;obtain⟨C,T,rfl,h3⟩:=hΨ G hψ;unfold fw at hv;simp only[cellsOf,τ]at hv;split at hv
 ·rename_i ti cs' off' QN hc;injection hc with hc;injection hc with e1 e2;subst e1;subst e2
  obtain⟨r,kz,gu⟩:=FE (P:=P) ht QN hv h3;have hxr:=aV.ev hx;generalize hxe:a.eval x=xu at hxr;cases hxr with
  | ptr hp=>
    rename_i b;refine⟨r,kz,.inl ⟨bC aV hg,fun y hy=>?_⟩⟩;obtain⟨H,O2,g1,g2,g3⟩:=hy;obtain⟨b',cE,cK⟩:=g2.obj k _ (hJ _ g3);rw[g1.bV hp]at cE;injection cE with cE;subst cE
    have:=gu y b fun j v hj=>by
     rw[ano]at hj;split at hj
     ·simp only[World.cell?,cK,Option.isSome_none,anp,if_false];simpa using hj
     ·cases hj
    simp only[execOp,Sem.run_bind,hxe,this];rfl
 ·cases hv
theorem ae.xN (ix:List (Nat×Fl)) {brk:List Nat} {k1 k2:Nat} {Se Oj:List MV} {X1 X2:Obj} {fuel:Nat} {listed:Array Bool} {l:List Oper} {L:List (Fl×Oper)}
  (h:WL P tab n D .any ⟨l⟩ Q L e ((O.set k1 (.cells Se)).set k2 (.cells Oj))) (ht:aP P tab:=by exact aa) (hb:((List.range listed.size).all fun j=>listed.getD j true||brk.contains j)=true:=by kernel_rfl) (hs:Region.noSelect ⟨l⟩=true:=by kernel_rfl) (hp:cZ .any ⟨l⟩ fuel listed ix=true:=by kernel_rfl) (hL:oC l ix=some L:=by exact rfl) (hne:k2≠k1:=by omega):ae P n D ⟨l⟩ brk (Oi k1 k2 X1 X2) (ΨFF Se Oj X1 X2) True fuel listed e O Q:=by
 have h':=cG.bQ ix h (ht:=ht) (hs:=hs) (hp:=hp) (hL:=hL);intro hΨ hZ hJ G a w hψ hw aV;refine nQ _ _ _ _ (fun j hj x hs=>⟨hs,fun hh=>?_⟩) (h' G a w ((hw.yG hJ.1 hψ.1).yG (k:=k2) ((ρ _ _ hne).trans hJ.2) hψ.2) aV);rcases anm j listed.size with hl | hl
 ·have:=ank.1 hb j (anx.2 hl);rw[hj,anA]at this;rw[this]at hh;cases hh
 ·rw[ang,anj (by simpa using hl)]at hj;cases hj
theorem VC.Bf {id:Nat} (brk:List Nat) (k:Nat) {cs:List MV} (J0:VH->Prop) (hk:O.hp k=some (.cells cs)) (h0:∀X,J0 (O.set k (.obj X)))
  (h:∀X,ae P n D ops brk (fun O'=>O'.hp k=some (.obj X)/\J0 O') (lp cs X) True ops.size (Array.replicate ops.size false) e (O.set k (.obj X)) Q) (hm:P.follows .mixedOrders=true:=by kernel_rfl):VC P n D (.region id ops true) e O Q:=
 fun G a w hw hf=>by
  obtain⟨X,hx,sJ⟩:=(hw.drawn _).fix hk;exact wp_region_any hm (k_ _ _ _ _ (h X (fun _ _=>lp.mono) trivial ⟨τ _ _ _,h0 X⟩ G a _ hx sJ hf))
theorem ae.kf (ix:List (Nat×Fl)) {brk:List Nat} {k:Nat} {cs:List MV} {X:Obj} {J0:VH->Prop} {fuel:Nat} {listed:Array Bool} {l:List Oper} {L:List (Fl×Oper)}
  (h:WL P tab n D .any ⟨l⟩ Q L e (O.set k (.cells cs))) (ht:aP P tab:=by exact aa) (hb:((List.range listed.size).all fun j=>listed.getD j true||brk.contains j)=true:=by kernel_rfl) (hs:Region.noSelect ⟨l⟩=true:=by kernel_rfl) (hp:cZ .any ⟨l⟩ fuel listed ix=true:=by kernel_rfl) (hL:oC l ix=some L:=by exact rfl):ae P n D ⟨l⟩ brk (fun O'=>O'.hp k=some (.obj X)/\J0 O') (lp cs X) True fuel listed e O Q:=by
 have h':=cG.bQ ix h (ht:=ht) (hs:=hs) (hp:=hp) (hL:=hL);intro hΨ hZ hJ G a w hψ hw aV;refine nQ _ _ _ _ (fun j hj x hs=>⟨hs,fun hh=>?_⟩) (h' G a w (hw.yG hJ.1 hψ) aV);rcases anm j listed.size with hl | hl
 ·have:=ank.1 hb j (anx.2 hl);rw[hj,anA]at this;rw[this]at hh;cases hh
 ·rw[ang,anj (by simpa using hl)]at hj;cases hj
end
set_option linter.defProp false in
def bS:=Mn eL<|Mn T4 T3
def lW (eU:Bool) (s:Bs):Bool:=(lT s).2&&(eU||(lT s).1 != 6)
theorem Sf (eU:Bool) (O:VH):VF Tryz.prog 307 [mb eU] O (aE fun m O'=>m= .func (.func 318) [] [.ptr O.N 0]/\nU O [mb eU] O'):=by
 refine χ 4 [.tmp 2] Tryz.func307 ?_;refine κ @bS ?_;refine VC.bx ?_;rintro O1 h1;refine ν @bS ?_;exact h1
theorem Ok (eU:Bool) (s:Bs) (b:Nat) (O:VH) (hb:O.hp b=some (.cells [mb eU])):VF Tryz.prog 318 ([.str s]++[.ptr b 0]) O (aE fun m O'=>m=mb (lW eU s)/\O.Ge O'):=by
 have hS:=Oe s O;have hF:lW eU s=((lT s).2&&(eU||(lT s).1 != 6)):=rfl;generalize lW eU s=W at*;generalize lT s=q at*;obtain⟨n,c⟩:=q;simp only[aee,aec];dsimp only at hF hS;simp only[bu]at hb;refine Θ 19 [.tmp 3] Tryz.func318 ?_;refine ab @bS ?_;refine π (hS) ?_;rintro _ O2 ⟨rfl,rfl⟩;subst hF;cases c
 ·refine ao @bS @hb ?_;exact VH.Ge.refl _
 ·cases eU
  ·by_cases h6:n=6
   ·subst h6;refine ao @bS @hb ?_;exact⟨rfl,VH.Ge.refl _⟩
   ·have h6':((n:Int)==6)=false:=by rw[beq_eq_false_iff_ne];omega
    have h6b:((n:Int) != 6)=true:=by rw[bne,h6'];rfl
    have h6n:(n != 6)=true:=by rw[bne_iff_ne];exact h6
    refine iw @bS @hb @h6' @h6b @h6n ?_;exact VH.Ge.refl _
  ·refine ao @bS @hb ?_;exact VH.Ge.refl _
structure DS (O:VH) (B:Nat) (E:List MV) (O':VH) (cs:List MV):Prop where
 ee:O.Ge O'
 le:O.N<=B
 x:O'.hp B=some (.cells E)
 d:O'.hp (B+1)=some (.cells cs)
 lt:B+1<O'.N
theorem DS.st {O O':VH} {B:Nat} {E cs cs':List MV} (h:DS O B E O' cs):DS O B E (O'.set (B+1) (.cells cs')) cs':=
 ⟨h.ee.set (by have:=h.le;omega) _,h.le,Γ h.x,τ _ _ _,h.lt⟩
theorem DS.ge {O O' O2:VH} {B:Nat} {E cs:List MV} (h:DS O B E O' cs) (k:O'.Ge O2):DS O B E O2 cs:=
 ⟨h.ee.trans k,h.le,(k.hp _ (by have:=h.lt;omega)).trans h.x,(k.hp _ h.lt).trans h.d,ahV h.lt k.N⟩
theorem DS.yG {O O' O2:VH} {B:Nat} {E cs:List MV} {X:Obj} (h:DS O B E O' cs) (k:(O'.set B (.obj X)).Ge O2):DS O B E (O2.set B (.cells E)) cs:=by
 have e1:(O'.set B (.obj X)).N=O'.N:=rfl;have e2:(O2.set B (.cells E)).N=O2.N:=rfl;have h1:=h.le;have h2:=h.lt;have h3:=h.ee.N;have h4:=k.N;refine⟨⟨by omega,fun j hj=>?_⟩,h.le,τ _ _ _,?_,by omega⟩
 ·rw[ρ _ _ (by omega),k.hp j (by omega),ρ _ _ (by omega)];exact h.ee.hp j hj
 ·rw[ρ _ _ (by omega),k.hp _ (by omega),ρ _ _ (by omega)];exact h.d
theorem VC.ds {P:Program} {n:Sz} {D:List Deferred} {c:Code} {e:Env} {Q:VQ} {O O':VH} {B:Nat} {E cs cs':List MV} (h:DS O B E O' cs) (k:∀O3,DS O B E O3 cs'->VC P n D c e O3 Q):VC P n D c e (O'.set (B+1) (.cells cs')) Q:=k _ h.st
theorem VC.ds0 {P:Program} {n:Sz} {D:List Deferred} {c:Code} {e:Env} {Q:VQ} {O:VH} {E cs:List MV} (k:∀O3,DS O O.N E O3 cs->VC P n D c e O3 Q):VC P n D c e ((O.push (.cells E)).push (.cells cs)) Q:=
 k _ ⟨((VH.Ge.refl O).push _).push _,ZA _,(Ω _ _ (ajB _)).trans (Υ _ _),Υ _ _,ajB _⟩
def ef:Bs->Bool:=fun _=>true
theorem uo (s:Bs) (O':VH):VF Tryz.prog 266 ([.str s]++[]) O' (aE fun m mD=>m=mb (ef s)/\O'.Ge mD):=afr s O'
theorem XY (s:Bs) (O':VH):VF Tryz.prog 308 ([.str s]++[]) O' (aE fun m mD=>m=mb (nu s)/\O'.Ge mD):=R4 s O'
def iG (s:Bs):Bool:=AY ⟨s,s⟩
theorem Ol (s:Bs) (O':VH) (hs:s.length<=1024):VF Tryz.prog 309 ([.str s]++[]) O' (aE fun m mD=>m=mb (iG s)/\O'.Ge mD):=XT s O' (by simp only[maxLen];omega)
def exE (k:Nd×Bs):Except (Int×Bs) gx:=
 match bW k.1 k.2 eD true iG with
 | .error e=>.error e
 | .ok g=>match bW k.1 k.2 en true iG with
   | .error e=>.error e
   | .ok a=>.ok ⟨g,a⟩
def yL:List (Nd×Bs)->List gx->Except (Int×Bs) (List gx)
 | [],X=>.ok X
 | k::r,X=>match exE k with
   | .error e=>.error e
   | .ok i=>yL r (X++[i])
def wB (x:Nd) (w:Bs):Except (Int×Bs) (List gx):=
 match cI x w mA with
 | .error e=>.error e
 | .ok ((_,_),false)=>.ok []
 | .ok ((y,wy),true)=>match nX y wy uX with
   | .error e=>.error e
   | .ok l=>yL l []
def abD (s:Bs):Int:=if s=kJ then 1 else if s=lP then 2 else 0
def pK (d:Dp):Except (Int×Bs) (List gx)->Except (Int×Bs) Dp
 | .error e=>.error e
 | .ok X=>.ok ⟨d.g,d.a,d.v,d.t,d.c,d.s,d.o,X⟩
def Gc (x:Nd) (w:Bs) (eU:Bool):Except (Int×Bs) Dp:=
 match bW x w eD true ef with
 | .error e=>.error e
 | .ok g=>match bW x w en true ef with
 | .error e=>.error e
 | .ok a=>match bW x w fS false ef with
 | .error e=>.error e
 | .ok v=>match bW x w A_ false ef with
 | .error e=>.error e
 | .ok t=>match bW x w Ba false ef with
 | .error e=>.error e
 | .ok c=>match bW x w rN false (lW eU)with
 | .error e=>.error e
 | .ok s=>match bW x w nr false nu with
 | .error e=>.error e
 | .ok o=>pK ⟨g,a,v,t,c,(lT s).1,abD o,[]⟩ (wB x w)
theorem Ji {y:Nd} {wy nm:Bs} {L:List (Nd×Bs)} (h:nX y wy nm= .ok L):L.length<=1024/\∀p∈L,k6 p.1<=k6 y/\p.2.length<=wy.length+nm.length+1030:=by
 unfold nX at h;split at h
 ·cases h
 ·rename_i hn;injection h with h;subst h
  refine⟨by rw[Jh];omega,fun p hp=>?_⟩;unfold qO at hp;obtain⟨i,hi,rfl⟩:=List.mem_mapIdx.1 hp;have hk:=R6 (ajx hi);have yi:=sO (i+1);refine⟨ani hk,?_⟩;simp only[Eo,zW,Mm,Ml];omega
theorem DS.aiD {O O' O2:VH} {B k:Nat} {E cs:List MV} {x y:cf} (h:DS O B E O' cs) (hk:B+1<k) (g:(O'.set k x).Ge O2):DS O B E (O2.set k y) cs:=by
 have e1:(O'.set k x).N=O'.N:=rfl;have e2:(O2.set k y).N=O2.N:=rfl;have h1:=h.le;have h2:=h.lt;have h3:=h.ee.N;have h4:=g.N
 have key:∀j,j<O'.N->j≠k->(O2.set k y).hp j=O'.hp j:=fun j hj hn=>by
  rw[ρ _ _ hn,g.hp j (by omega),ρ _ _ hn]
 exact⟨⟨by omega,fun j hj=>(key j (by omega) (by omega)).trans (h.ee.hp j hj)⟩,h.le,(key _ (by omega) (by omega)).trans h.x,(key _ (by omega) (by omega)).trans h.d,by omega⟩
theorem DS.app {O O':VH} {B sz:Nat} {E cs:List MV} {tk:Tok} (h:DS O B E O' cs) (ha:App O' (B+2) sz tk):DS O B E (O'.after tk) cs:=by
 have k:=cc.after ha;have h1:=h.le;have h2:=h.lt;have h3:=h.ee.N;have key:∀j,j<B+2->(O'.after tk).hp j=O'.hp j:=fun j hj=>k.hp j (by omega) (fun e=>by have:=(App.nE ha e).1;omega)
 exact⟨⟨VI h3 k.N,fun j hj=>(key j (by omega)).trans (h.ee.hp j hj)⟩,h.le,(key _ (by omega)).trans h.x,(key _ (by omega)).trans h.d,ahV h2 k.N⟩
theorem App.o8 {O:VH} {B sz k:Nat} {tk:Tok} {x:cf} (h:App O B sz tk) (hk:O.hp k≠some .tok):App (O.set k x) B sz tk:=by
 cases tk with
 | own t j=>exact⟨h.1,(ρ _ _ (fun e=>by subst e;exact hk h.2.1)).trans h.2.1,h.2.2.1,h.2.2.2⟩
 | nil=>trivial
 | full=>trivial
 | ar=>exact h.elim
section
variable {P:Program} {n:Sz} {D:List Deferred} {e:Env} {O:VH} {Q:VQ}
theorem aN.qP {i:Nat} {l:List Oper} {d:Option Tmp} {f:Operand} {xs:Array Operand} {ts:Array TypeId} {ty:TypeId} {ps:String} {af:Array Edge} {g:Option (Nat×Bool)} {id:FuncId} {ms cs:List MV} {R:gB->VH->Prop} {K:Env->VH->Prop} (hR:VF P id (ms++cs) O R)
  (h:∀m O',R (.ret m) O'->K (aZ d m e) O') (h2:∀m O',R (.panic m) O'->Q (.panic m) (k9 n e) O') (ho:l[i]?=some (.mk d (.call {callee:=.value f,args:=xs,argTypes:=ts}) ty ps af g):=by exact rfl) (hg:aO ⟨l⟩ (.mk d (.call {callee:=.value f,args:=xs,argTypes:=ts}) ty ps af g) e=some true:=by exact rfl) (hf:ev e f=some (.func (.func id) [] cs):=by exact rfl) (hm:gh e xs.toList=some ms:=by exact rfl) (hb:df P id=true:=by kernel_rfl) (hd:bD n d=true:=by exact rfl):aN P n D ⟨l⟩ i e O Q K:=
 aN.call (o:=.mk d (.call {callee:=.value f,args:=xs,argTypes:=ts}) ty ps af g) (by simpa using ho) hg rfl rfl hf hm (Enters.sI hb) hd (by simpa using hR) fun r O' hr=>by
  cases r with
  | ret m=>exact h m O' hr
  | panic m=>exact h2 m O' hr
end
theorem aiE (x:Nd) (w:Bs) (eU:Bool) (O:VH) (hx:k6 x<=1000000) (hw6:w.length<=6000):
  VF Tryz.prog 289 [.agg (kZ x w),mb eU] O (FQ O (Gc x w eU) fun y m=>m= .agg (aU y)):=by
 have hw:w.length<=10000:=by omega
 refine VF.fgR ?_;have sb:=qN x w;have wo:=sP x w mA;have wq:= @sR x w mA;obtain⟨PE,hP⟩:∃PE,Gc x w eU=PE:=⟨_,rfl⟩
 rw[hP];unfold Gc at hP
 have HU:∃a b c d e,kZ x w=[a,b,c,d,e]:=by
  cases x;simp only[kZ,dL];exact⟨_,_,_,_,_,rfl⟩
 obtain⟨a,b,c,d,e,hE⟩:=HU;simp only[hE]at sb wo ⊢;clear hE;refine χ 66 [.cell 4 56] Tryz.func289 ?_;refine κ @bS ?_;refine VC.ds0 ?_;intro _ hd;have fa:=hd.x;have dd:=hd.d;refine θ (aH @bS @fa @dd ?_);clear fa dd;refine ah.p (sb eD true ef 266 [] _ hx hw (by decide) (by kernel_rfl) (fun s O' _ _=>uo s O')) ?_ ?_;rotate_left
 ·rintro m O9 ⟨bh,h⟩;cases hF:bW x w eD true ef with
  | ok s=>rw[hF]at h;exact h.elim
  | error e=>
    rw[hF]at h hP;dsimp only at h hP;rw[h, <-hP];refine ab @bS ?_;exact⟨hd.ee.trans bh,rfl⟩
 rintro m O1 ⟨bh,h⟩;cases Sg:bW x w eD true ef with
 | error e=>rw[Sg]at h;exact h.elim
 | ok s1=>
 rw[Sg]at h hP;dsimp only at h hP;subst h;have hb:=hd.ge bh;clear bh hd;have fa:=hb.x;have dd:=hb.d;refine aH @bS @fa @dd ?_;refine VC.ds hb ?_;clear fa dd hb;intro _ hd;have fa:=hd.x;have dd:=hd.d;refine θ (aH @bS @fa @dd ?_);clear fa dd;refine ah.p (sb en true ef 266 [] _ hx hw (by decide) (by kernel_rfl) (fun s O' _ _=>uo s O')) ?_ ?_;rotate_left
 ·rintro m O9 ⟨bh,h⟩;cases hF:bW x w en true ef with
  | ok s=>rw[hF]at h;exact h.elim
  | error e=>
    rw[hF]at h hP;dsimp only at h hP;rw[h, <-hP];refine ab @bS ?_;exact⟨hd.ee.trans bh,rfl⟩
 rintro m O2 ⟨bh,h⟩;cases K_:bW x w en true ef with
 | error e=>rw[K_]at h;exact h.elim
 | ok s2=>
 rw[K_]at h hP;dsimp only at h hP;subst h;have hb:=hd.ge bh;clear bh hd;have fa:=hb.x;have dd:=hb.d;refine aH @bS @fa @dd ?_;refine VC.ds hb ?_;clear fa dd hb;intro _ hd;have fa:=hd.x;have dd:=hd.d;refine θ (aH @bS @fa @dd ?_);clear fa dd;refine ah.p (sb fS false ef 266 [] _ hx hw (by decide) (by kernel_rfl) (fun s O' _ _=>uo s O')) ?_ ?_;rotate_left
 ·rintro m O9 ⟨bh,h⟩;cases hF:bW x w fS false ef with
  | ok s=>rw[hF]at h;exact h.elim
  | error e=>
    rw[hF]at h hP;dsimp only at h hP;rw[h, <-hP];refine ab @bS ?_;exact⟨hd.ee.trans bh,rfl⟩
 rintro m O3 ⟨bh,h⟩;cases Sh:bW x w fS false ef with
 | error e=>rw[Sh]at h;exact h.elim
 | ok s3=>
 rw[Sh]at h hP;dsimp only at h hP;subst h;have hb:=hd.ge bh;clear bh hd;have fa:=hb.x;have dd:=hb.d;refine aH @bS @fa @dd ?_;refine VC.ds hb ?_;clear fa dd hb;intro _ hd;have fa:=hd.x;have dd:=hd.d;refine θ (aH @bS @fa @dd ?_);clear fa dd;refine ah.p (sb A_ false ef 266 [] _ hx hw (by decide) (by kernel_rfl) (fun s O' _ _=>uo s O')) ?_ ?_;rotate_left
 ·rintro m O9 ⟨bh,h⟩;cases hF:bW x w A_ false ef with
  | ok s=>rw[hF]at h;exact h.elim
  | error e=>
    rw[hF]at h hP;dsimp only at h hP;rw[h, <-hP];refine ab @bS ?_;exact⟨hd.ee.trans bh,rfl⟩
 rintro m O4 ⟨bh,h⟩;cases hF4:bW x w A_ false ef with
 | error e=>rw[hF4]at h;exact h.elim
 | ok s4=>
 rw[hF4]at h hP;dsimp only at h hP;subst h;have hb:=hd.ge bh;clear bh hd;have fa:=hb.x;have dd:=hb.d;refine aH @bS @fa @dd ?_;refine VC.ds hb ?_;clear fa dd hb;intro _ hd;have fa:=hd.x;have dd:=hd.d;refine θ (aH @bS @fa @dd ?_);clear fa dd;refine ah.p (sb Ba false ef 266 [] _ hx hw (by decide) (by kernel_rfl) (fun s O' _ _=>uo s O')) ?_ ?_;rotate_left
 ·rintro m O9 ⟨bh,h⟩;cases hF:bW x w Ba false ef with
  | ok s=>rw[hF]at h;exact h.elim
  | error e=>
    rw[hF]at h hP;dsimp only at h hP;rw[h, <-hP];refine ab @bS ?_;exact⟨hd.ee.trans bh,rfl⟩
 rintro m O5 ⟨bh,h⟩;cases hF5:bW x w Ba false ef with
 | error e=>rw[hF5]at h;exact h.elim
 | ok s5=>
 rw[hF5]at h hP;dsimp only at h hP;subst h;have hb:=hd.ge bh;clear bh hd;have fa:=hb.x;have dd:=hb.d;refine aH @bS @fa @dd ?_;refine VC.ds hb ?_;clear fa dd hb;intro O6 hd;have fa:=hd.x;refine ω ?_;refine VC.qy [7,8,9] (O.N) (fa) ?_;intro X;refine ae.au 1 ?_;refine ab @bS ?_;refine anM (m:=.agg [a,b,c,d,e]) 0 ?_ ?_
 ·exact fU @bS
 simp only[ak];refine ae.call (i:=2) (Sf eU _) ?_;rintro _ O7 ⟨rfl,eV,vh,vg⟩;simp only[ak];refine⟨(eV.hp _ (by have:=hd.lt;show _<O6.N;omega)).trans (τ _ _ _),?_⟩;have hl6:=hd.lt;have akM:O7.N=O6.N+1:=vg;have agW:O7.hp O6.N=some (.cells [mb eU]):=vh;refine ae.j8 (k:=O.N) (i:=3) (sb rN false (lW eU) 318 [.ptr O6.N 0] O7 hx hw (by decide) (by kernel_rfl) (fun s O' Ci _=>Ok eU s _ O' (Ci.at agW))) ?_ ?_;rotate_left
 ·rintro m O8 ⟨gQ,h⟩;have hX:=((eV.trans gQ).hp _ (by show O.N<O6.N;omega)).trans (τ _ _ _);refine⟨hX,?_⟩;cases hF:bW x w rN false (lW eU)with
  | ok s=>rw[hF]at h;exact h.elim
  | error e=>
    rw[hF]at h hP;dsimp only at h hP;rw[h, <-hP];refine ab @bS ?_;exact⟨(hd.yG (eV.trans gQ)).ee,rfl⟩
 rintro m O8 ⟨gQ,h⟩;have hX:=((eV.trans gQ).hp _ (by show O.N<O6.N;omega)).trans (τ _ _ _);refine⟨hX,?_⟩;cases hF6:bW x w rN false (lW eU)with
 | error e=>rw[hF6]at h;exact h.elim
 | ok s6=>
 rw[hF6]at h hP;dsimp only at h hP;subst h;simp only[ak];refine ae.call (i:=4) (Oe s6 _) ?_;rintro _ O9 ⟨rfl,eO⟩;rw[eO];clear eO O9
 simp only[ak];refine⟨hX,?_⟩;have hb:=hd.yG (eV.trans gQ);have dd:=(ρ O8 (.cells [a,b,c,d,e]) (by omega:O.N+1≠O.N)).symm.trans hb.d;refine ae.au 5 ?_;refine ab @bS ?_;refine ae.akL 7 ?_;refine ab @bS ?_;refine ae.au 6 ?_;refine ab @bS ?_;refine ae.nR [(8,.au),(9,.one)] ?_;refine ao @bS @dd ?_;clear vh agW dd hX fa;generalize lT s6=sc at*;refine VC.ds hb ?_;clear hb hd eV gQ hl6 vg akM;intro O9 hd;have fa:=hd.x;have dd:=hd.d;refine Ξ [2,4] (fun _:Int=>[.ptr O.N 0,.ptr (O.N+1) 0]) (fun o O'=>DS O O.N [a,b,c,d,e] O' [.str s1,.str s2,.str s3,.str s4,.str s5,mi sc.1,mi o,.sl 0 [] .nil]/\pK ⟨s1,s2,s3,s4,s5,sc.1,o,[]⟩ (wB x w)=PE) ?_ ?_
 ·refine θ (aH @bS @fa @dd ?_);clear fa dd;refine ah.p (sb nr false nu 308 [] _ hx hw (by decide) (by kernel_rfl) (fun s O' _ _=>XY s O')) ?_ ?_;rotate_left
  ·rintro m O9 ⟨bh,h⟩;cases hF:bW x w nr false nu with
   | ok s=>rw[hF]at h;exact h.elim
   | error e=>
     rw[hF]at h hP;dsimp only at h hP;rw[h, <-hP];refine ab @bS ?_;exact⟨hd.ee.trans bh,rfl⟩
  rintro m OA ⟨bh,h⟩;cases hF7:bW x w nr false nu with
  | error e=>rw[hF7]at h;exact h.elim
  | ok s7=>
  rw[hF7]at h hP;dsimp only at h hP;subst h;have hb:=hd.ge bh;clear bh hd;have fa:=hb.x;have dd:=hb.d;refine aH @bS @fa @dd ?_;have gN:=fun o:Int=>hb.st (cs':=[.str s1,.str s2,.str s3,.str s4,.str s5,mi sc.1,mi o,.sl 0 [] .nil])
  simp only[aq]at gN;unfold abD at hP;refine υ ?_;cases h1:s7==kJ
  ·rw[if_neg (fun e=>by rw[e]at h1;exact absurd h1 (by decide))]at hP;cases h2:s7==lP
   ·rw[if_neg (fun e=>by rw[e]at h2;exact absurd h2 (by decide))]at hP;simp only[kJ,lP]at h1 h2;refine ι (cJ @bS @dd @h1 @h2 ?_);exact aB.mk 0 ⟨hb,hP⟩
   ·rw[if_pos (eq_of_beq h2)]at hP;simp only[kJ,lP]at h1 h2;refine ι (cJ @bS @dd @h1 @h2 ?_);exact aB.mk 2 ⟨gN 2,hP⟩
  ·rw[if_pos (eq_of_beq h1)]at hP;simp only[kJ]at h1;refine ι (aH @bS @dd @h1 ?_);exact aB.mk 1 ⟨gN 1,hP⟩
 intro o OA ⟨hd,hP⟩;refine Ξ [4] (fun _:List gx×Tok=>[.ptr (O.N+1) 0]) (fun x O'=>DS O O.N [a,b,c,d,e] O' [.str s1,.str s2,.str s3,.str s4,.str s5,mi sc.1,mi o,.sl x.1.length (x.1.flatMap cj) x.2]/\ .ok (⟨s1,s2,s3,s4,s5,sc.1,o,x.1⟩:Dp)=PE) ?_ ?_;rotate_left
 ·rintro⟨X,tk⟩ O9 ⟨hd,hP⟩;have dd:=hd.d;simp only[aq]at dd;refine ο @bS @dd ?_;rw[<-hP];refine⟨hd.ee.set (by omega) _,?_⟩;simp only[aU,aq,wu,nW]
 have fa:=hd.x;have dd:=hd.d;have wv:∀e,cI x w mA= .error e->wB x w= .error e:=fun e h=>by unfold wB;rw[h]
 have oI:∀y wy,cI x w mA= .ok ((y,wy),false)->wB x w= .ok []:=fun y wy h=>by unfold wB;rw[h]
 have jj:∀y wy,cI x w mA= .ok ((y,wy),true)->wB x w=match nX y wy uX with
  | .error e=>.error e
  | .ok l=>yL l []:=fun y wy h=>by unfold wB;rw[h]
 generalize wB x w=DX at*;generalize cI x w mA=F at*;refine θ (aH @bS @fa @dd ?_);clear fa dd;refine ah.p (wo OA (by have:=kE x;omega) (by omega) (by decide)) ?_ ?_;rotate_left
 ·rintro m O2 ⟨aC,h⟩;cases F with
  | ok y=>exact h.elim
  | error e=>
    dsimp only at h;rw[wv e rfl]at hP;simp only[pK]at hP;rw[h, <-hP];refine ab @bS ?_;exact⟨hd.ee.trans aC,rfl⟩
 rintro m OB ⟨aC,h⟩;cases F with
 | error e=>exact h.elim
 | ok y=>
 obtain⟨⟨y,wy⟩,bb⟩:=y;dsimp only at h;subst h;obtain⟨hyW,wA⟩:=wq rfl;have oJ:wy.length<=6011:=by rw[wA];simp only[zW,Mm,Ml];omega
 have hb:=hd.ge aC;clear hd aC wq wA wv
 replace jj:bb=true->DX=match nX y wy uX with
  | .error e=>.error e
  | .ok l=>yL l []:=fun h=>by subst h;exact jj y wy rfl
 replace oI:bb=false->DX= .ok []:=fun h=>by subst h;exact oI y wy rfl
 have Jj:=UE y wy uX;have UI:= @Ji y wy uX;generalize nX y wy uX=LE at*;obtain⟨yn,ya,yk,yt⟩:=y;generalize hWy:k6 (.mk yn ya yk yt)=Wy at*;simp only[kZ,dL,aee,aec]at Jj ⊢;refine ab @bS ?_;refine VC.al ?_;rintro OC ⟨La,hyC,hnC⟩;have hd:=hb.ge La;clear hb La;cases bb
 ·rw[oI rfl]at hP;simp only[pK]at hP;refine ν @bS ?_;exact aB.mk ([],.nil) ⟨hd,hP⟩
 rw[jj rfl]at hP;clear oI jj;refine κ @bS ?_;refine ο @bS @hyC ?_;refine ah.p (Jj OC (by omega) (by omega) (by decide)) ?_ ?_;rotate_left
 ·rintro m O9 ⟨bh,h⟩;cases LE with
  | ok y=>exact h.elim
  | error e=>
    dsimp only at h;simp only[pK]at hP;rw[h, <-hP];refine ab @bS ?_;exact⟨hd.ee.trans bh,rfl⟩
 rintro m OD ⟨bh,h⟩;cases LE with
 | error e=>exact h.elim
 | ok L=>
 dsimp only at h hP;obtain⟨tL,rfl⟩:=h;obtain⟨pF,hLm⟩:=UI rfl;have hb:=hd.ge bh;clear hd bh UI Jj hyC;refine ab @bS ?_;refine Δ [50] [4,48,49] (fun x:Nat×List gx×Tok=>[mi x.1]) (fun x O'=>DS O O.N [a,b,c,d,e] O' [.str s1,.str s2,.str s3,.str s4,.str s5,mi sc.1,mi o,.sl x.2.1.length (x.2.1.flatMap cj) x.2.2]/\App O' (O.N+2) 2 x.2.2/\x.1<=L.length/\x.2.1.length=x.1/\pK ⟨s1,s2,s3,s4,s5,sc.1,o,[]⟩ (yL (L.drop x.1) x.2.1)=PE) (fun x=>L.length - x.1) ((0,[],.nil)) ?_ ?_
 ·exact⟨hb,trivial,agu _,rfl,hP⟩
 rintro⟨j,X,tk⟩ O3 ⟨hd,cy,hj,HT,hP⟩;dsimp only at hd cy hj HT hP ⊢;by_cases aM:j<L.length;rotate_left
 ·obtain rfl:j=L.length:=by omega
  rw[ajy (ZA _),yL]at hP;refine ν @bS ?_;exact aB.mk (X,tk) ⟨hd,hP⟩
 have bE:((uZ L).drop (j*5)).take 5=kZ L[j].1 L[j].2:=cP F9 L j aM;have Ck:=xL L;rw[ahZ aM,yL]at hP;obtain⟨hzW,XZ⟩:=hLm L[j] (ajx aM);generalize L[j]=zz at*;obtain⟨z,wz⟩:=zz;dsimp only at hzW XZ;have lJ:=fun O'=>qN z wz eD true iG 309 [] O' (by omega) (by simp only[Mm,Ml]at XZ;omega) (by decide) (by kernel_rfl) (fun s mD _ hs=>Ol s mD hs)
 have Bg:=fun O'=>qN z wz en true iG 309 [] O' (by omega) (by simp only[Mm,Ml]at XZ;omega) (by decide) (by kernel_rfl) (fun s mD _ hs=>Ol s mD hs)
 unfold exE at hP;dsimp only at hP;generalize bW z wz eD true iG=W1 at*;generalize bW z wz en true iG=W2 at*;obtain⟨zn,za,dj,zt⟩:=z;simp only[kZ,dL,aee,aec]at bE lJ Bg;refine κ @bS ?_;refine κ @bS ?_;refine ω (υ ?_);refine ξ @bS @bE ?_;refine VC.al ?_;rintro O4 ⟨aY,lX,h_⟩;have hb:=hd.ge aY;have mP:=cy.ge aY;have ic:O.N+1<O3.N:=hd.lt;clear hd aY cy;refine VC.qy [8,9,10] (O3.N) (lX) ?_;intro XX;refine ae.au 0 ?_;refine ab @bS ?_;refine anM (m:=.agg [.str zn,.sl za.length (za.flatMap bm) .ar,.sl dj.length (aD dj) .ar,.str zt,.str wz]) 2 ?_ ?_
 ·exact fU @bS
 simp only[ak];refine anM (m:=.agg [.str zn,.sl za.length (za.flatMap bm) .ar,.sl dj.length (aD dj) .ar,.str zt,.str wz]) 4 ?_ ?_
 ·exact fU @bS
 simp only[ak];have gJ:=mP.o8 (k:=O3.N) (x:=.obj XX) (by rw[lX];simp);have hXX:=τ O4 O3.N (.obj XX);have dd:=(ρ O4 (.obj XX) (by omega:O.N+1≠O3.N)).trans hb.d;have o7:∀O9,(O4.set O3.N (.obj XX)).Ge O9->O.Ge O9:=fun O9 g=>((hb.ee.set (by omega) _).trans g)
 have gR:∀O9,(O4.set O3.N (.obj XX)).Ge O9->O9.hp O3.N=some (.obj XX)/\O9.hp (O.N+1)=some (.cells [.str s1,.str s2,.str s3,.str s4,.str s5,mi sc.1,mi o,.sl X.length (X.flatMap cj) tk]):=fun O9 g=>⟨(g.hp _ (by show O3.N<O4.N;omega)).trans hXX,(g.hp _ (by show O.N+1<O4.N;omega)).trans dd⟩
 have HX:=fun(O9:VH) (g:(O4.set O3.N (.obj XX)).Ge O9) (y:cf)=>hb.aiD (k:=O3.N) ic g (y:=y)
 clear dd;generalize O4.set O3.N (.obj XX)=O5 at*;refine η (i:=1) (j:=3) ?_ ?_
 ·refine aN.o1 ?_;refine ao @bS (gR _ (VH.Ge.refl _)).2 ?_;refine⟨(gR _ (VH.Ge.refl _)).1,?_⟩;have hG:=VH.Ge.refl O5;refine ae.qP (i:=3) (lJ O5) ?_ ?_;rotate_left
  ·rintro m O9 ⟨bh,h⟩;cases W1 with
   | ok s=>exact h.elim
   | error e=>
     dsimp only at h hP;simp only[pK]at hP;rw[h, <-hP];refine ab @bS ?_;exact⟨o7 _ (hG.trans bh),rfl⟩
  rintro m O6 ⟨bh,h⟩;cases W1 with
  | error e=>exact h.elim
  | ok sg=>
  dsimp only at h hP;subst h;simp only[ak]
  replace hG:=hG.trans bh
  clear bh;refine⟨(gR _ hG).1,?_⟩;refine ae.qP (i:=5) (Bg O6) ?_ ?_;rotate_left
  ·rintro m O9 ⟨bh,h⟩;cases W2 with
   | ok s=>exact h.elim
   | error e=>
     dsimp only at h hP;simp only[pK]at hP;rw[h, <-hP];refine ab @bS ?_;exact⟨o7 _ (hG.trans bh),rfl⟩
  rintro m OF ⟨bh,h⟩;cases W2 with
  | error e=>exact h.elim
  | ok sa=>
  dsimp only at h hP;subst h;simp only[ak]
  replace hG:=hG.trans bh
  clear bh;refine⟨(gR _ hG).1,?_⟩;refine ae.au 6 ?_;refine ab @bS ?_;refine ae.op (i:=7) ?_;refine ab @bS ?_;refine⟨(gR _ hG).1,?_⟩;refine ae.nR [(8,.one),(9,.au),(10,.one)] ?_;have Gd:=HX _ hG (.cells [.str zn,.sl za.length (za.flatMap bm) .ar,.sl dj.length (aD dj) .ar,.str zt,.str wz]);have wC:=(gJ.ge hG).o8 (k:=O3.N) (x:=.cells [.str zn,.sl za.length (za.flatMap bm) .ar,.sl dj.length (aD dj) .ar,.str zt,.str wz]) (by rw[(gR _ hG).1];simp);refine ab @bS ?_;obtain⟨mE,gY,lQ⟩:=gG (n:=X.length) (cs:=X.flatMap cj) (ds:=[.str sg,.str sa]) (es:=cj ⟨sg,sa⟩) FK Dg.1.1 wC (aX nV X) rfl rfl (by decide) (by omega) (by simp only[maxLen];omega) (nW X) (by simp only[cj,wu]);refine δ gY lQ ?_;have Cl:=Gd.app wC;have Cm:=Cl.d;have Gf:=Cl.st (cs':=[.str s1,.str s2,.str s3,.str s4,.str s5,mi sc.1,mi o,.sl (X.length+1) (X.flatMap cj++cj ⟨sg,sa⟩) (.own OF.N 2)]);have wD:=(App.after (B:=O.N+2) (sz:=2) (tk:=tk) (O:=OF.set O3.N (.cells [.str zn,.sl za.length (za.flatMap bm) .ar,.sl dj.length (aD dj) .ar,.str zt,.str wz])) (by have:=Gd.lt;omega)).o8 (k:=O.N+1) (x:=.cells [.str s1,.str s2,.str s3,.str s4,.str s5,mi sc.1,mi o,.sl (X.length+1) (X.flatMap cj++cj ⟨sg,sa⟩) (.own OF.N 2)]) (by rw[Cm];simp);simp only[aq]at Gf wD;generalize (OF.set O3.N (.cells [.str zn,.sl za.length (za.flatMap bm) .ar,.sl dj.length (aD dj) .ar,.str zt,.str wz])).after tk=OG at*;refine ao @bS @Cm ?_;have cB:((j:Int)+1)=((j+1:Nat):Int):=by omega
  have cY:(X++[(⟨sg,sa⟩:gx)]).flatMap cj=X.flatMap cj++cj ⟨sg,sa⟩:=by simp
  have uq:(X++[(⟨sg,sa⟩:gx)]).length=X.length+1:=by simp
  refine ο @bS @cB ?_;exact az.N (j+1,X++[(⟨sg,sa⟩:gx)],.own OF.N 2) ⟨by dsimp only;rw[cY,uq];exact Gf,wD,aM,by dsimp only;rw[uq,HT],hP⟩
 ·have hG:=VH.Ge.refl O5;refine aN.qP (lJ O5) ?_ ?_;rotate_left
  ·rintro m O9 ⟨bh,h⟩;cases W1 with
   | ok s=>exact h.elim
   | error e=>
     dsimp only at h hP;simp only[pK]at hP;rw[h, <-hP];refine ab @bS ?_;exact⟨o7 _ (hG.trans bh),rfl⟩
  rintro m O6 ⟨bh,h⟩;cases W1 with
  | error e=>exact h.elim
  | ok sg=>
  dsimp only at h hP;subst h;simp only[ak]
  replace hG:=hG.trans bh
  clear bh;refine⟨(gR _ hG).1,?_⟩;refine η (i:=1) (j:=5) ?_ ?_
  ·refine aN.o1 ?_;refine ao @bS (gR _ hG).2 ?_;refine⟨(gR _ hG).1,?_⟩;refine ae.qP (i:=5) (Bg O6) ?_ ?_;rotate_left
   ·rintro m O9 ⟨bh,h⟩;cases W2 with
    | ok s=>exact h.elim
    | error e=>
      dsimp only at h hP;simp only[pK]at hP;rw[h, <-hP];refine ab @bS ?_;exact⟨o7 _ (hG.trans bh),rfl⟩
   rintro m OF ⟨bh,h⟩;cases W2 with
   | error e=>exact h.elim
   | ok sa=>
   dsimp only at h hP;subst h;simp only[ak]
   replace hG:=hG.trans bh
   clear bh;refine⟨(gR _ hG).1,?_⟩;refine ae.au 6 ?_;refine ab @bS ?_;refine ae.op (i:=7) ?_;refine ab @bS ?_;refine⟨(gR _ hG).1,?_⟩;refine ae.nR [(8,.one),(9,.au),(10,.one)] ?_;have Gd:=HX _ hG (.cells [.str zn,.sl za.length (za.flatMap bm) .ar,.sl dj.length (aD dj) .ar,.str zt,.str wz]);have wC:=(gJ.ge hG).o8 (k:=O3.N) (x:=.cells [.str zn,.sl za.length (za.flatMap bm) .ar,.sl dj.length (aD dj) .ar,.str zt,.str wz]) (by rw[(gR _ hG).1];simp);refine ab @bS ?_;obtain⟨mE,gY,lQ⟩:=gG (n:=X.length) (cs:=X.flatMap cj) (ds:=[.str sg,.str sa]) (es:=cj ⟨sg,sa⟩) FK Dg.1.1 wC (aX nV X) rfl rfl (by decide) (by omega) (by simp only[maxLen];omega) (nW X) (by simp only[cj,wu]);refine δ gY lQ ?_;have Cl:=Gd.app wC;have Cm:=Cl.d;have Gf:=Cl.st (cs':=[.str s1,.str s2,.str s3,.str s4,.str s5,mi sc.1,mi o,.sl (X.length+1) (X.flatMap cj++cj ⟨sg,sa⟩) (.own OF.N 2)]);have wD:=(App.after (B:=O.N+2) (sz:=2) (tk:=tk) (O:=OF.set O3.N (.cells [.str zn,.sl za.length (za.flatMap bm) .ar,.sl dj.length (aD dj) .ar,.str zt,.str wz])) (by have:=Gd.lt;omega)).o8 (k:=O.N+1) (x:=.cells [.str s1,.str s2,.str s3,.str s4,.str s5,mi sc.1,mi o,.sl (X.length+1) (X.flatMap cj++cj ⟨sg,sa⟩) (.own OF.N 2)]) (by rw[Cm];simp);simp only[aq]at Gf wD;generalize (OF.set O3.N (.cells [.str zn,.sl za.length (za.flatMap bm) .ar,.sl dj.length (aD dj) .ar,.str zt,.str wz])).after tk=OG at*;refine ao @bS @Cm ?_;have cB:((j:Int)+1)=((j+1:Nat):Int):=by omega
   have cY:(X++[(⟨sg,sa⟩:gx)]).flatMap cj=X.flatMap cj++cj ⟨sg,sa⟩:=by simp
   have uq:(X++[(⟨sg,sa⟩:gx)]).length=X.length+1:=by simp
   refine ο @bS @cB ?_;exact az.N (j+1,X++[(⟨sg,sa⟩:gx)],.own OF.N 2) ⟨by dsimp only;rw[cY,uq];exact Gf,wD,aM,by dsimp only;rw[uq,HT],hP⟩
  ·refine aN.qP (Bg O6) ?_ ?_;rotate_left
   ·rintro m O9 ⟨bh,h⟩;cases W2 with
    | ok s=>exact h.elim
    | error e=>
      dsimp only at h hP;simp only[pK]at hP;rw[h, <-hP];refine ab @bS ?_;exact⟨o7 _ (hG.trans bh),rfl⟩
   rintro m OF ⟨bh,h⟩;cases W2 with
   | error e=>exact h.elim
   | ok sa=>
   dsimp only at h hP;subst h;simp only[ak]
   replace hG:=hG.trans bh
   clear bh;refine⟨(gR _ hG).1,?_⟩;refine ae.au 6 ?_;refine ab @bS ?_;refine η (i:=1) (j:=7) ?_ ?_
   ·refine aN.o1 ?_;refine ao @bS (gR _ hG).2 ?_;refine⟨(gR _ hG).1,?_⟩;refine ae.op (i:=7) ?_;refine ab @bS ?_;refine⟨(gR _ hG).1,?_⟩;refine ae.nR [(8,.one),(9,.au),(10,.one)] ?_;have Gd:=HX _ hG (.cells [.str zn,.sl za.length (za.flatMap bm) .ar,.sl dj.length (aD dj) .ar,.str zt,.str wz]);have wC:=(gJ.ge hG).o8 (k:=O3.N) (x:=.cells [.str zn,.sl za.length (za.flatMap bm) .ar,.sl dj.length (aD dj) .ar,.str zt,.str wz]) (by rw[(gR _ hG).1];simp);refine ab @bS ?_;obtain⟨mE,gY,lQ⟩:=gG (n:=X.length) (cs:=X.flatMap cj) (ds:=[.str sg,.str sa]) (es:=cj ⟨sg,sa⟩) FK Dg.1.1 wC (aX nV X) rfl rfl (by decide) (by omega) (by simp only[maxLen];omega) (nW X) (by simp only[cj,wu]);refine δ gY lQ ?_;have Cl:=Gd.app wC;have Cm:=Cl.d;have Gf:=Cl.st (cs':=[.str s1,.str s2,.str s3,.str s4,.str s5,mi sc.1,mi o,.sl (X.length+1) (X.flatMap cj++cj ⟨sg,sa⟩) (.own OF.N 2)]);have wD:=(App.after (B:=O.N+2) (sz:=2) (tk:=tk) (O:=OF.set O3.N (.cells [.str zn,.sl za.length (za.flatMap bm) .ar,.sl dj.length (aD dj) .ar,.str zt,.str wz])) (by have:=Gd.lt;omega)).o8 (k:=O.N+1) (x:=.cells [.str s1,.str s2,.str s3,.str s4,.str s5,mi sc.1,mi o,.sl (X.length+1) (X.flatMap cj++cj ⟨sg,sa⟩) (.own OF.N 2)]) (by rw[Cm];simp);simp only[aq]at Gf wD;generalize (OF.set O3.N (.cells [.str zn,.sl za.length (za.flatMap bm) .ar,.sl dj.length (aD dj) .ar,.str zt,.str wz])).after tk=OG at*;refine ao @bS @Cm ?_;have cB:((j:Int)+1)=((j+1:Nat):Int):=by omega
    have cY:(X++[(⟨sg,sa⟩:gx)]).flatMap cj=X.flatMap cj++cj ⟨sg,sa⟩:=by simp
    have uq:(X++[(⟨sg,sa⟩:gx)]).length=X.length+1:=by simp
    refine ο @bS @cB ?_;exact az.N (j+1,X++[(⟨sg,sa⟩:gx)],.own OF.N 2) ⟨by dsimp only;rw[cY,uq];exact Gf,wD,aM,by dsimp only;rw[uq,HT],hP⟩
   ·refine aN.o1 ?_;refine ab @bS ?_;refine⟨(gR _ hG).1,?_⟩;refine ae.op (i:=1) ?_;refine ao @bS (gR _ hG).2 ?_;refine⟨(gR _ hG).1,?_⟩;refine ae.nR [(8,.one),(9,.au),(10,.one)] ?_;have Gd:=HX _ hG (.cells [.str zn,.sl za.length (za.flatMap bm) .ar,.sl dj.length (aD dj) .ar,.str zt,.str wz]);have wC:=(gJ.ge hG).o8 (k:=O3.N) (x:=.cells [.str zn,.sl za.length (za.flatMap bm) .ar,.sl dj.length (aD dj) .ar,.str zt,.str wz]) (by rw[(gR _ hG).1];simp);refine ab @bS ?_;obtain⟨mE,gY,lQ⟩:=gG (n:=X.length) (cs:=X.flatMap cj) (ds:=[.str sg,.str sa]) (es:=cj ⟨sg,sa⟩) FK Dg.1.1 wC (aX nV X) rfl rfl (by decide) (by omega) (by simp only[maxLen];omega) (nW X) (by simp only[cj,wu]);refine δ gY lQ ?_;have Cl:=Gd.app wC;have Cm:=Cl.d;have Gf:=Cl.st (cs':=[.str s1,.str s2,.str s3,.str s4,.str s5,mi sc.1,mi o,.sl (X.length+1) (X.flatMap cj++cj ⟨sg,sa⟩) (.own OF.N 2)]);have wD:=(App.after (B:=O.N+2) (sz:=2) (tk:=tk) (O:=OF.set O3.N (.cells [.str zn,.sl za.length (za.flatMap bm) .ar,.sl dj.length (aD dj) .ar,.str zt,.str wz])) (by have:=Gd.lt;omega)).o8 (k:=O.N+1) (x:=.cells [.str s1,.str s2,.str s3,.str s4,.str s5,mi sc.1,mi o,.sl (X.length+1) (X.flatMap cj++cj ⟨sg,sa⟩) (.own OF.N 2)]) (by rw[Cm];simp);simp only[aq]at Gf wD;generalize (OF.set O3.N (.cells [.str zn,.sl za.length (za.flatMap bm) .ar,.sl dj.length (aD dj) .ar,.str zt,.str wz])).after tk=OG at*;refine ao @bS @Cm ?_;have cB:((j:Int)+1)=((j+1:Nat):Int):=by omega
    have cY:(X++[(⟨sg,sa⟩:gx)]).flatMap cj=X.flatMap cj++cj ⟨sg,sa⟩:=by simp
    have uq:(X++[(⟨sg,sa⟩:gx)]).length=X.length+1:=by simp
    refine ο @bS @cB ?_;exact az.N (j+1,X++[(⟨sg,sa⟩:gx)],.own OF.N 2) ⟨by dsimp only;rw[cY,uq];exact Gf,wD,aM,by dsimp only;rw[uq,HT],hP⟩
set_option linter.defProp false in
def nv:=Mn bS<|Mn FN Ca
def sd (eU:Bool):List (Nd×Bs)->List Dp->Except (Int×Bs) (List Dp)
 | [],D=>.ok D
 | k::r,D=>match Gc k.1 k.2 eU with
   | .error e=>.error e
   | .ok d=>sd eU r (D++[d])
def mF (x:Nd) (w:Bs) (eU:Bool):Except (Int×Bs) (List Dp):=
 match cI x w mC with
 | .error e=>.error e
 | .ok ((_,_),false)=>.ok []
 | .ok ((y,wy),true)=>match nX y wy mg with
   | .error e=>.error e
   | .ok L=>sd eU L []
theorem UJ (x:Nd) (w:Bs) (eU:Bool) (O:VH) (hx:k6 x<=1000000) (hw:w.length<=4000):
  VF Tryz.prog 268 [.agg (kZ x w),mb eU] O (FQ O (mF x w eU) fun y m=>∃tk,m= .sl y.length (y.flatMap aU) tk):=by
 have wo:=sP x w mC;have fF:=kE x;have wq:= @sR x w mC;have wv:∀e,cI x w mC= .error e->mF x w eU= .error e:=fun e h=>by unfold mF;rw[h]
 have oI:∀y wy,cI x w mC= .ok ((y,wy),false)->mF x w eU= .ok []:=fun y wy h=>by unfold mF;rw[h]
 have jj:∀y wy,cI x w mC= .ok ((y,wy),true)->mF x w eU=match nX y wy mg with
  | .error e=>.error e
  | .ok L=>sd eU L []:=fun y wy h=>by unfold mF;rw[h]
 generalize mF x w eU=PE at*;generalize cI x w mC=F at*;obtain⟨n,a,k,t⟩:=x;generalize hW:k6 (.mk n a k t)=W at*;simp only[kZ,dL,aee,aec]at wo ⊢;refine χ 31 [.tmp 4] Tryz.func268 ?_;refine κ @nv ?_;refine VC.bx ?_;rintro O1 ⟨aJ,eQ,cW⟩;refine ξ @nv @eQ ?_;refine ah.p (wo O1 (by omega) (by omega) (by decide)) ?_ ?_;rotate_left
 ·rintro m O2 ⟨aC,h⟩;cases F with
  | ok y=>exact h.elim
  | error e=>
    dsimp only at h;rw[wv e rfl];refine ab @nv ?_;exact⟨aJ.trans aC,h⟩
 rintro m O2 ⟨aC,h⟩;cases F with
 | error e=>exact h.elim
 | ok y=>
 obtain⟨⟨y,wy⟩,b⟩:=y;dsimp only at h;subst h;obtain⟨hyW,wA⟩:=wq rfl;have oJ:wy.length<=4013:=by rw[wA];simp only[zW,Mm,Ml];omega
 clear wq wA wv
 replace jj:b=true->PE=match nX y wy mg with
  | .error e=>.error e
  | .ok L=>sd eU L []:=fun h=>by subst h;exact jj y wy rfl
 replace oI:b=false->PE= .ok []:=fun h=>by subst h;exact oI y wy rfl
 have Jj:=UE y wy mg;have UI:= @Ji y wy mg;generalize nX y wy mg=LE at*;obtain⟨yn,ya,yk,yt⟩:=y;generalize hWy:k6 (.mk yn ya yk yt)=Wy at*;simp only[kZ,dL,aee,aec]at Jj ⊢;have fC:=aJ.trans aC;refine ab @nv ?_;refine VC.al ?_;rintro O3 ⟨aG,N_,gE⟩;have eu:=fC.trans aG;cases b
 ·rw[oI rfl];refine ν @nv ?_;exact⟨eu,.nil,rfl⟩
 replace jj:=jj rfl
 clear oI;refine κ @nv ?_;refine VC.join aa [4] (fun x:List Dp×Tok=>[.sl x.1.length (x.1.flatMap aU) x.2]) (fun x O'=>O.Ge O'/\PE= .ok x.1) ?_ ?_;rotate_left
 ·rintro⟨L,tl⟩ O9 ⟨bh,hP⟩;rw[hP];refine ab @nv ?_;exact⟨bh,tl,rfl⟩
 refine ξ @nv @N_ ?_;refine ah.p (Jj O3 (by omega) (by omega) (by decide)) ?_ ?_;rotate_left
 ·rintro m O9 ⟨bh,h⟩;cases LE with
  | ok y=>exact h.elim
  | error e=>
    dsimp only at h jj;rw[h,jj];refine ab @nv ?_;exact⟨eu.trans bh,rfl⟩
 rintro m O4 ⟨aY,h⟩;cases LE with
 | error e=>exact h.elim
 | ok L=>
 dsimp only at h jj;obtain⟨tL,rfl⟩:=h;obtain⟨pF,hLm⟩:=UI rfl;have gZ:=eu.trans aY;refine ab @nv ?_;refine υ ?_;refine Δ [4,19] [1,17,18] (fun x:Nat×List Dp×Tok=>[.sl x.2.1.length (x.2.1.flatMap aU) x.2.2,mi x.1]) (fun x O'=>O4.Ge O'/\App O' O4.N 8 x.2.2/\x.1<=L.length/\x.2.1.length=x.1/\PE=sd eU (L.drop x.1) x.2.1) (fun x=>L.length - x.1) ((0,[],.nil)) ?_ ?_
 ·exact⟨VH.Ge.refl _,trivial,agu _,rfl,jj⟩
 rintro⟨j,X,tk⟩ O5 ⟨bG,cy,hj,HT,hP⟩;dsimp only at cy hj HT hP ⊢;by_cases aM:j<L.length;rotate_left
 ·obtain rfl:j=L.length:=by omega
  rw[ajy (ZA _),sd]at hP;refine ν @nv ?_;exact aB.mk (X,tk) ⟨gZ.trans bG,hP⟩
 have bE:((uZ L).drop (j*5)).take 5=kZ L[j].1 L[j].2:=cP F9 L j aM;have Ck:=xL L;rw[ahZ aM,sd]at hP;obtain⟨hzW,XZ⟩:=hLm L[j] (ajx aM);generalize L[j]=zz at*;obtain⟨z,wz⟩:=zz;dsimp only at hzW XZ hP bE;have yj:=fun O'=>aiE z wz eU O' (by omega) (by simp only[Mm,Ml]at XZ;omega)
 generalize Gc z wz eU=W1 at*;obtain⟨zn,za,dj,zt⟩:=z;simp only[kZ,dL,aee,aec]at bE yj;have e_:=bG.N;refine κ @nv ?_;refine κ @nv ?_;refine ω (υ ?_);refine ξ @nv @bE ?_;refine VC.al ?_;rintro O6 ⟨eZ,nG,nH⟩;have mM:=cy.ge eZ;have Of:=bG.trans eZ;refine ο @nv @nG ?_;refine ah.p (yj O6) ?_ ?_;rotate_left
 ·rintro m O9 ⟨bh,h⟩;cases W1 with
  | ok y=>exact h.elim
  | error e=>
    dsimp only at h hP;rw[h,hP];refine ab @nv ?_;exact⟨(gZ.trans Of).trans bh,rfl⟩
 rintro m O7 ⟨eV,h⟩;cases W1 with
 | error e=>exact h.elim
 | ok d=>
 dsimp only at h hP;subst h;have kC:=mM.ge eV;have agX:=Of.trans eV;have cB:((j:Int)+1)=((j+1:Nat):Int):=by omega
 have hud:c8 (aU d)=aU d:=by simpa using lO [d]
 obtain⟨dg,da,dv,dt,dc,lh,dO,dx⟩:=d;have mW:(aU ⟨dg,da,dv,dt,dc,lh,dO,dx⟩).length=8:=rfl;obtain⟨mE,gY,lQ⟩:=gG (n:=X.length) (cs:=X.flatMap aU) (ds:=aU ⟨dg,da,dv,dt,dc,lh,dO,dx⟩) (es:=aU ⟨dg,da,dv,dt,dc,lh,dO,dx⟩) FN Ca.1.1 kC (aX gW X) rfl rfl (by decide) (by omega) (by simp only[maxLen];omega) (lO X) hud;simp only[aU,aq]at gY lQ ⊢;refine ab @nv ?_;refine δ gY lQ ?_;refine ab @nv ?_;refine ο @nv @cB ?_;exact az.N (j+1,X++[⟨dg,da,dv,dt,dc,lh,dO,dx⟩],.own O7.N 8) ⟨cc.ee agX kC (cc.after kC),App.after (by have:=agX.N;omega),aM,by dsimp only;rw[zW,HT];rfl,hP⟩ (hl:=(by dsimp only;rw[ajz,zW];simp only[ahY,ame,aed,aU,aq];rfl))
set_option linter.defProp false in
def av:=Mn bI<|Mn agR<|Mn aky<|Mn akz<|Mn akA akx
def Bh (e:Int) (off:Nat):MV:=.iface 414 (.agg [mi e,mi off])
theorem akN {p:MV}:KG 414 (bX Tryz.prog 414) (some p)=some (.iface 414 p):=by rw[agR.1.1];rfl
theorem ja (e:Int) (off:Nat) (O:VH):VF Tryz.prog 313 [mi e,mi off] O fun r O'=>O'=O/\match r with
  | .ret _=>False
  | .panic m=>m=Bh e off:=by
 refine Θ 8 [] Tryz.func313 ?_;refine cJ @av @wi @wd @akN ?_;refine VL.panic rfl rfl rfl ?_;refine ab @wd ?_;rfl
def Rd (O:VH) (k:Nat) (t:Bs) (off:Nat) (X:MV):Prop:=k<O.N/\O.hp k=some (.cells [.str t,mi off,X])
theorem Rd.ge {O O':VH} {k off:Nat} {t:Bs} {X:MV} (h:Rd O k t off X) (g:O.Ge O'):Rd O' k t off X:=⟨ahV h.1 g.N,(g.hp _ h.1).trans h.2⟩
theorem Rd.set {O:VH} {k off off':Nat} {t t':Bs} {X X':MV} (h:Rd O k t off X):Rd (O.set k (.cells [.str t',mi off',X'])) k t' off' X':=⟨h.1,τ _ _ _⟩
theorem xO {O:VH} {k off:Nat} {t:Bs} {X:MV} (h:Rd O k t off X) (ho:off<=t.length):VF Tryz.prog 311 [.ptr k 0] O (aE fun m O'=>m= .str (t.drop off)/\O'=O):=by
 have hk:=h.2;simp only[aq]at hk;refine χ 12 [.tmp 2] Tryz.func311 ?_;refine κ @av ?_;refine ω ?_;refine WC.reads ?_;refine ao @av @hk ?_;refine ν @av ?_;trivial
theorem nZ {O:VH} {k off:Nat} {t:Bs} {X:MV} (h:Rd O k t off X):VF Tryz.prog 275 [.ptr k 0] O (aE fun m O'=>m=mb (decide (t.length<=off))/\O'=O):=by
 have hk:=h.2;simp only[aq]at hk;refine χ 13 [.tmp 2] Tryz.func275 ?_;refine κ @av ?_;refine ω ?_;refine WC.reads ?_;by_cases h1:t.length<=off
 ·rw[decide_eq_true h1];refine ao @av @hk ?_;refine ν @av ?_;trivial
 ·rw[decide_eq_false h1];refine ao @av @hk ?_;refine ν @av ?_;trivial
theorem qT {O:VH} {k off:Nat} {t:Bs} {X:MV} (p:Bs) (h:Rd O k t off X) (ho:off<=t.length):VF Tryz.prog 291 [.ptr k 0,.str p] O (aE fun m O'=>m=mb (ew (t.drop off) p)/\O'=O):=by
 refine Θ 9 [.tmp 4] Tryz.func291 ?_;refine ab @av ?_;refine π (xO h ho) ?_;rintro _ O2 ⟨rfl,eO⟩;rw[eO];clear eO O2
 refine ab @av ?_;refine π (nY (t.drop off) p _) ?_;rintro _ O2 ⟨rfl,eO⟩;rw[eO];clear eO O2
 exact fU @av
def TQ {α :Type} (O:VH) (k:Nat) (t:Bs) (X:MV) (f:Except (Int×Nat) (α ×Nat)) (R: α ->MV->Prop):gB->VH->Prop:=fun r O'=>bB O (some k) O'/\match r,f with
 | .ret m,.ok x=>R x.1 m/\Rd O' k t x.2 X
 | .panic m,.error e=>m=Bh e.1 e.2
 | _,_=>False
def jk (t:Bs) (off:Nat) (p:Bs):Except (Int×Nat) (Unit×Nat):=
 if t.length<=off then .error (13,off)else if ew (t.drop off) p then .ok ((),off+p.length)else .error (10,off)
theorem ur {O:VH} {k off:Nat} {t:Bs} {X:MV} (p:Bs) (h:Rd O k t off X) (ht:t.length<=1000000) (hp:p.length<=1000):VF Tryz.prog 296 [.ptr k 0,.str p] O (TQ O k t X (jk t off p) fun _ m=>m= .tuple []):=by
 have hk:=h.2;simp only[aq]at hk;unfold jk;refine χ 37 [] Tryz.func296 ?_;refine κ @av ?_;refine π (nZ h) ?_;rintro _ O2 ⟨rfl,eO⟩;rw[eO];clear eO O2
 by_cases h1:t.length<=off
 ·rw[decide_eq_true h1,if_pos h1];refine ao @av @hk ?_;refine ah.p (ja _ _ _) ?_ ?_
  ·rintro m O9 ⟨_,h⟩;exact h.elim
  rintro m O9 ⟨rfl,rfl⟩;refine ab @av ?_;exact⟨bB.refl _ _,rfl⟩
 rw[decide_eq_false h1,if_neg h1];refine ao @av @hk ?_;refine ξ @av @hk ?_;refine π (qT p h (by omega)) ?_;rintro _ O2 ⟨rfl,eO⟩;rw[eO];clear eO O2
 cases h2:ew (t.drop off) p
 ·refine ao @av @hk ?_;refine ah.p (ja _ _ _) ?_ ?_
  ·rintro m O9 ⟨_,h⟩;exact h.elim
  rintro m O9 ⟨rfl,rfl⟩;refine ab @av ?_;exact⟨bB.refl _ _,rfl⟩
 ·refine ao @av @hk ?_;refine ο @av @hk ?_;exact⟨bB.set,rfl,by simpa[aq]using h.set (t':=t) (off':=off+p.length) (X':=X)⟩
def jI (t:Bs) (off:Nat) (e:Int):Except (Int×Nat) (Bs×Nat):=
 if t.length<=off then .error (13,off)else if kA (t.drop off)=0 then .error (e,off)else .ok ((t.drop off).take (kA (t.drop off)),off+kA (t.drop off))
theorem Bi {O:VH} {k off:Nat} {t:Bs} {X:MV} (e:Int) (h:Rd O k t off X) (ht:t.length<=1000000):VF Tryz.prog 294 [.ptr k 0,mi e] O (TQ O k t X (jI t off e) fun y m=>m= .str y):=by
 have hk:=h.2;have yi:=Di (t.drop off);rw[ah0]at yi;have D3:=afq (t.drop off) O (VI (by rw[ah0];omega:(t.drop off).length<=1000000) (by decide));simp only[aq]at hk;unfold jI;generalize kA (t.drop off)=n at*;refine χ 58 [.tmp 4] Tryz.func294 ?_;refine κ @av ?_;refine κ @av ?_;refine π (nZ h) ?_;rintro _ O2 ⟨rfl,eO⟩;rw[eO];clear eO O2
 by_cases h1:t.length<=off
 ·rw[decide_eq_true h1,if_pos h1];refine ao @av @hk ?_;refine ah.p (ja _ _ _) ?_ ?_
  ·rintro m O9 ⟨_,h⟩;exact h.elim
  rintro m O9 ⟨rfl,rfl⟩;refine ab @av ?_;exact⟨bB.refl _ _,rfl⟩
 rw[decide_eq_false h1,if_neg h1];refine ao @av @hk ?_;refine ξ @av @hk ?_;refine π (xO h (by omega)) ?_;rintro _ O2 ⟨rfl,eO⟩;rw[eO];clear eO O2
 refine ab @av ?_;refine π (D3) ?_;rintro _ O2 ⟨rfl,eO⟩;rw[eO];clear eO O2
 refine ab @av ?_;by_cases h2:n=0
 ·rw[if_pos h2];refine θ (aH @av @hk @h2 ?_);refine ah.p (ja _ _ _) ?_ ?_
  ·rintro m O9 ⟨_,h⟩;exact h.elim
  rintro m O9 ⟨rfl,rfl⟩;refine ab @av ?_;exact⟨bB.refl _ _,rfl⟩
 rw[if_neg h2];refine ξ @av @hk ?_;refine ξ @av @hk ?_;have hr:Rd (O.set k (.cells [.str t,mi (off+n:Nat),X])) k t (off+n) X:=h.set;have bN:=hr.2;have hu:bB O (some k) (O.set k (.cells [.str t,mi (off+n:Nat),X])):=bB.set;have lx:(off:Int)+(n:Int)=((off+n:Nat):Int):=by omega
 simp only[aq, <-lx]at hr bN hu;generalize O.set k (.cells [.str t,.v (.int .i64 ((off:Int)+(n:Int))),X])=O2 at*;have abE:(off:Int)+(n:Int) - (n:Int)=(off:Int):=by omega
 have n0:((off:Int)+(n:Int)).toNat=off+n:=by omega
 refine ω ?_;refine WC.reads ?_;refine cJ @av @bN @abE @n0 ?_;refine ν @av ?_;exact⟨hu,by rw[show off+n - off=n by omega],hr⟩
def kM (t:Bs) (off:Nat):Nat:=((t.drop off).takeWhile mJ).length
theorem qU {O:VH} {k off:Nat} {t:Bs} {X:MV} (h:Rd O k t off X) (ht:t.length<=1000000) (ho:off<=t.length):VF Tryz.prog 295 [.ptr k 0] O (TQ O k t X (.ok (kM t off,off+kM t off)) fun y m=>m=mi y):=by
 have hk:=h.2;simp only[aq]at hk;refine χ 44 [.tmp 2] Tryz.func295 ?_;refine κ @av ?_;refine ξ @av @hk ?_;refine Ξ [0,3] (fun _:Unit=>[.ptr k 0,mi off]) (fun _ O'=>bB O (some k) O'/\Rd O' k t (off+kM t off) X) ?_ ?_;rotate_left
 ·rintro⟨⟩ O2 ⟨hu,hr⟩;have bN:=hr.2;have abE:((off+kM t off:Nat):Int) - (off:Int)=(kM t off:Int):=by omega
  have o5:kM t off<=t.length:=by unfold kM;exact VI (oT _ _) (by rw[ah0];omega)
  generalize kM t off=n at*;simp only[aq]at bN;refine θ (aH @av @bN @abE ?_);refine ν @av ?_;exact⟨hu,rfl,hr⟩
 refine υ ?_;refine Δ [] [0,3] (fun o:Nat=>[]) (fun o O'=>bB O (some k) O'/\Rd O' k t o X/\off<=o/\o<=t.length/\off+kM t off=o+kM t o) (fun o=>t.length - o) (off) ?_ ?_
 ·exact⟨bB.refl _ _,h,ZA _,ho,rfl⟩
 rintro o O2 ⟨hu,hr,ho1,ho2,o5⟩;have bN:=hr.2;simp only[aq]at bN;by_cases h1:t.length<=o
 ·have h0:kM t o=0:=by unfold kM;rw[ajy h1];rfl
  rw[h0,Nat.add_zero]at o5;refine ω (ω ?_);refine VC.oD [4,5,6,7,8,9,10,11,12,13,14,15,16,17,18] ?_;refine ae.au 0 ?_;refine ab @av ?_;refine ae.au 1 ?_;refine ab @av ?_;refine ae.au 2 ?_;refine ab @av ?_;refine ae.call (i:=3) (nZ hr) ?_;rintro _ O3 ⟨rfl,eO⟩;simp only[ak];rw[eO];clear eO O3
  rw[decide_eq_true h1];refine⟨VH.Ge.refl _,?_⟩;refine ae.bQ [(4,.au),(5,.au),(6,.au),(7,.au),(8,.au),(9,.au),(10,.au),(11,.au),(12,.au),(13,.au),(14,.au),(15,.au),(16,.au),(17,.au),(18,.au)] ?_;refine ab @av ?_;refine ν @av ?_;exact aB.mk () ⟨hu,o5▸hr⟩
 ·have h2:o<t.length:=by omega
  have hg:=aeb h2;have hd:=ahZ h2
  have wj:kM t o=if mJ t[o]then 1+kM t (o+1)else 0:=by
   unfold kM;rw[hd];cases hb:mJ t[o]
   ·rw[ajv (by simp[hb])];rfl
   ·rw[ajw hb,Mm,if_pos rfl,Nat.add_comm]
  generalize t[o]=c at*;refine ω (ω ?_);refine VC.oD [] ?_;refine ae.au 0 ?_;refine ab @av ?_;refine ae.au 1 ?_;refine ab @av ?_;refine ae.au 2 ?_;refine ab @av ?_;refine ae.call (i:=3) (nZ hr) ?_;rintro _ O3 ⟨rfl,eO⟩;simp only[ak];rw[eO];clear eO O3
  rw[decide_eq_false h1];refine⟨VH.Ge.refl _,?_⟩;refine ae.au 4 ?_;refine ab @av ?_;refine ae.au 5 ?_;refine ab @av ?_;refine ae.au 6 ?_;refine ab @av ?_;refine ae.au 7 ?_;refine ab @av ?_;refine ae.au 8 ?_;refine ab @av ?_;refine ae.au 9 ?_;refine ab @av ?_;refine ae.ld (m:=.str t) 10 ?_ ?_
  ·exact dW @av @bN
  simp only[ak];refine ae.au 11 ?_;refine ab @av ?_;refine ae.au 12 ?_;refine ab @av ?_;refine ae.au 13 ?_;refine ab @av ?_;refine ae.au 14 ?_;refine ab @av ?_;refine ae.ld (m:=.v (.int .i64 o)) 15 ?_ ?_
  ·exact dW @av @bN
  simp only[ak];refine ae.au 16 ?_;refine ao @av @hg ?_;refine ae.call (i:=17) (qH c _) ?_;rintro _ O3 ⟨rfl,eO⟩;simp only[ak];rw[eO];clear eO O3
  refine⟨VH.Ge.refl _,?_⟩;refine ae.au 18 ?_;refine ab @av ?_;refine ae.bQ [] ?_;cases hb:mJ c
  ·rw[hb,if_neg (by simp)]at wj;rw[wj,Nat.add_zero]at o5;refine ab @av ?_;refine ν @av ?_;exact aB.mk () ⟨hu,o5▸hr⟩
  ·rw[hb,if_pos rfl]at wj;refine ab @av ?_;refine ν @av ?_;refine ο @av @bN ?_;exact az.N (o+1) ⟨hu.trans bB.set,by simpa[aq]using hr.set (t':=t) (off':=o+1) (X':=X),by omega,h2,by omega⟩
set_option linter.defProp false in
def ey:=Mn av abl
theorem Gg (s:List UInt8) (c:UInt8) (O:VH):eY Tryz.prog 302 [.str s,gj c] O fun m O'=>m=mi (s.count c:Nat)/\O'=O:=by
 refine eY.of (ex:=Extern.BytealgCount.count) Tryz.func302 (by kernel_rfl) (by kernel_rfl) (by kernel_rfl) (by kernel_rfl) fun G w vs hw hv=>?_
 obtain⟨u,us,rfl,h1,h2⟩:=hv.eW;obtain⟨u2,us2,rfl,h3,h4⟩:=h2.eW;rw[h4.iP];cases h1;have:=h3.je;subst this;refine⟨_,Lib.run_countString _ _ w,?_⟩;have e:((c.toNat:Int).toNat).toUInt8=c:=by simp
 rw[e];exact .v rfl
theorem X0 (s:List UInt8) (c:UInt8) (O:VH):VF Tryz.prog 282 [.str s,.str [c]] O (aE fun m O'=>m=mi (s.count c:Nat)/\O'=O):=by
 refine Θ 34 [.tmp 4] Tryz.func282 ?_;refine aH @av @Mm.{0} @Ml.{0} ?_;refine ah.ext (Gg s c O) rfl ?_;rintro _ O2 ⟨rfl,eO⟩;rw[eO];clear eO O2
 exact fU @av
def gm (s:Bs) (c:UInt8):Nat->Int
 | 0=> -1
 | n+1=>if s[n]?=some c then(n:Int)else gm s c n
theorem Gi (s:Bs) (c:UInt8):∀n, -1<=gm s c n/\gm s c n<n
 | 0=>by simp[gm]
 | n+1=>by
   have:=Gi s c n;unfold gm;split<;>omega
theorem n4 (s:List UInt8) (c:UInt8) (O:VH) (hs:s.length<=1000000):VF Tryz.prog 299 [.str s,gj c] O (aE fun m O'=>m=mi (gm s c s.length)/\O'=O):=by
 refine Θ 19 [.tmp 4] Tryz.func299 ?_;refine ab @av ?_;refine WC.jh [5] [0,1] (fun j:Nat=>[mi ((j:Int) - 1)]) (fun j O'=>O'=O/\j<=s.length/\gm s c s.length=gm s c j) (fun j=>j) (s.length) ?_ ?_
 ·exact⟨rfl,ZA _,rfl⟩
 rintro j O2 ⟨eO,hj,hl⟩;rw[eO];clear eO O2
 rcases j with _ | n
 ·refine ab @av ?_;rw[hl];rfl
 have hg:=aeb (show n<s.length by omega);have n0:(((n+1:Nat):Int) - 1).toNat=n:=by omega
 rw[show gm s c (n+1)=if s[n]?=some c then(n:Int)else gm s c n from rfl,hg]at hl;generalize hx:s[n]=d at*;by_cases hd:d=c
 ·rw[hd]at hl hg;rw[if_pos rfl]at hl;refine cJ @av @hg @n0 @aL ?_;rw[hl]
 ·have jS:¬((d.toNat:Int)=(c.toNat:Int)):=fun e=>hd (UInt8.toNat_inj.1 (by omega))
  rw[if_neg (by simpa using hd)]at hl;refine iw @av @hg @n0 @aL @jS ?_;refine az.N (n) ?_;exact⟨rfl,by omega,hl⟩
theorem HY (s:List UInt8) (c:UInt8) (O:VH) (hs:s.length<=1000000):VF Tryz.prog 283 [.str s,.str [c]] O (aE fun m O'=>m=mi (gm s c s.length)/\O'=O):=by
 refine Θ 36 [.tmp 4] Tryz.func283 ?_;refine aH @av @Mm.{0} @Ml.{0} ?_;refine π (n4 s c O hs) ?_;rintro _ O2 ⟨rfl,eO⟩;rw[eO];clear eO O2
 exact fU @av
theorem Cn (s:List UInt8) (c:UInt8) (O:VH) (hs:s.length<=1000000):VF Tryz.prog 277 [.str s,gj c] O (aE fun m O'=>m=mi (gm s c s.length)/\O'=O):=by
 refine Θ 8 [.tmp 4] Tryz.func277 ?_;refine ab @av ?_;refine π (n4 s c O hs) ?_;rintro _ O2 ⟨rfl,eO⟩;rw[eO];clear eO O2
 exact fU @av
def p9 (t:Bs) (o:Nat):MV:=.agg [mi o,mi (1+((t.take o).count 10:Nat)),mi ((o:Int) - gm (t.take o) 10 (t.take o).length)]
theorem agY (t:Bs) (o:Nat) (O:VH) (ht:t.length<=1000000) (ho:o<=t.length):VF Tryz.prog 261 [.str t,mi o] O (aE fun m O'=>m=p9 t o/\O.Ge O'):=by
 have hb:=Gi (t.take o) 10 (t.take o).length;have hc:=List.count_le_length (a:=(10:UInt8)) (l:=t.take o);have ei:(t.take o).length<=1000000:=by rw[List.length_take];omega
 unfold p9;refine Θ 23 [.cell 4 108] Tryz.func261 ?_;have hmx:max (0:Int) (min (o:Int) ((t:List UInt8).length:Int))=(o:Int):=by omega
 have n0:((o:Int)).toNat=o:=by omega
 refine aH @ey @hmx @n0 ?_;refine π (X0 (t.take o) 10 _) ?_;rintro _ O2 ⟨rfl,eO⟩;rw[eO];clear eO O2
 refine ab @ey ?_;refine π (HY (t.take o) 10 _ ei) ?_;rintro _ O2 ⟨rfl,eO⟩;rw[eO];clear eO O2
 generalize gm (t.take o) 10 (t.take o).length=a at*;generalize (t.take o).count 10=b at*;refine ab @ey ?_;first | exact(VH.Ge.refl O).push _ | exact((VH.Ge.refl O).push _).set (ZA _) _
open Go.Shelf
def Tryz.Lb:Go.Shelf.Ren:=⟨fun | 143=>98 | 219=>122 | 217=>149 | 225=>150 | 224=>151 | 267=>152 | 266=>186 | 314=>187 | n=>n,fun | 9=>9 | 3=>3 | 4=>4 | 5=>5 | 46=>285 | 146=>331 | 51=>98 | n=>n,fun | 1=>0 | n=>n⟩
theorem Tryz.abF:Go.Proofs.Lays.n143 Tryz.prog Tryz.Lb:={
 mixed:=by kernel_rfl
 f143:=Tryz.func98.trans (congrArg some (by kernel_rfl))
 f217:=Tryz.func149.trans (congrArg some (by kernel_rfl))
 f219:=Tryz.func122.trans (congrArg some (by kernel_rfl))
 f224:=Tryz.func151.trans (congrArg some (by kernel_rfl))
 f225:=Tryz.func150.trans (congrArg some (by kernel_rfl))
 f266:=Tryz.func186.trans (congrArg some (by kernel_rfl))
 f267:=Tryz.func152.trans (congrArg some (by kernel_rfl))
 f314:=Tryz.func187.trans (congrArg some (by kernel_rfl))
 t3:=Tryz.underlying3
 a3:=Tryz.isAgg3
 z3:=Tryz.sizeOf3
 v3:=Tryz.zeroValue3
 t4:=Tryz.underlying4
 a4:=Tryz.isAgg4
 z4:=Tryz.sizeOf4
 v4:=Tryz.zeroValue4
 t5:=Tryz.underlying5
 a5:=Tryz.isAgg5
 z5:=Tryz.sizeOf5
 v5:=Tryz.zeroValue5
 t9:=Tryz.underlying9
 a9:=Tryz.isAgg9
 z9:=Tryz.sizeOf9
 v9:=Tryz.zeroValue9
 t46:=Tryz.underlying285
 a46:=Tryz.isAgg285
 z46:=Tryz.sizeOf285
 v46:=Tryz.zeroValue285
 t51:=Tryz.underlying98
 a51:=Tryz.isAgg98
 z51:=Tryz.sizeOf98
 v51:=Tryz.zeroValue98
 t146:=Tryz.underlying331
 a146:=Tryz.isAgg331
 z146:=Tryz.sizeOf331
 v146:=Tryz.zeroValue331
 g1:=by kernel_rfl}
open Go.RowKit Go.Lib in
theorem Tryz.strings_Index (s sub:ByteArray) (m:Int) (w:World) (hs:s.size<4294967281) (hm:w.cell? ⟨0,0,none⟩=some (.int .i64 m)):
  Calls Tryz.prog 98 #[.string s,.string sub] w fun e w'=>e= .returned (.int .i64 (Lib.index s.data.toList sub.data.toList))/\w'=w:=Any.strings_Index Tryz.abF s sub m w hs hm
theorem Om (s p:List UInt8) (O:VH) (hs:s.length<4294967281):VF Tryz.prog 98 [.str s,.str p] O (aE fun m O'=>m=mi (Lib.index s p)/\O'=O):=by
 intro G w vs hw hv;obtain⟨u,us,rfl,h1,h2⟩:=hv.eW;obtain⟨u2,us2,rfl,h3,h4⟩:=h2.eW;rw[h4.iP];cases h1;cases h3;obtain⟨m,hm⟩:=hw.ajC (g:=0) (by decide);refine(Tryz.strings_Index ⟨⟨s⟩⟩ ⟨⟨p⟩⟩ m w hs hm).mono fun e w' ⟨he,EC⟩=>?_
 subst EC;subst he
 exact⟨.ret (mi (Lib.index s p)),O,G,Gh.Le.refl G,hw,.v rfl,rfl,rfl⟩
theorem index_le:∀(s p:Bs),Lib.index s p<=(s.length:Int)
 | [],p=>by unfold Lib.index;split<;>simp
 | b::l,p=>by
   have:=index_le l p;unfold Lib.index;rw[Mm];split
   ·omega
   ·split<;>omega
theorem abG {f:UInt8->Bool}:∀(s:Bs) (j:Nat) (c:UInt8),s[j]?=some c->j<=(s.takeWhile f).length->if f c then j+1<=(s.takeWhile f).length else(s.takeWhile f).length=j
 | [],j,c,hj,_=>by simp at hj
 | d::s,0,c,hj,_=>by
   simp only[anc,Option.some.injEq]at hj;subst hj;cases h:f d<;>simp[List.takeWhile,h]
 | d::s,j+1,c,hj,h=>by
   rw[ane]at hj;cases hc:f d
   ·rw[ajv (by simp[hc])]at h;simp at h
   ·rw[ajw hc,Mm]at h ⊢;have:=abG (f:=f) s j c hj (by omega);cases Wn:f c
    ·simp only[Wn,anp,if_false]at this ⊢;omega
    ·simp only[Wn,if_true]at this ⊢;omega
def qV (s p:Bs):Bs:=if 0<=Lib.index s p then s.take (Lib.index s p).toNat else s
def jz (t:Bs) (o:Nat) (p:Bs):Except (Int×Nat) (Bs×Nat):=
 if((qV (t.drop o) p).takeWhile nq).length<(qV (t.drop o) p).length then .error (10,o+((qV (t.drop o) p).takeWhile nq).length)
 else if Lib.index (t.drop o) p<0 then .error (13,t.length)else .ok (qV (t.drop o) p,o+(Lib.index (t.drop o) p).toNat+p.length)
theorem Gj {O:VH} {k off:Nat} {t:Bs} {X:MV} (fr p:Bs) (h:Rd O k t off X) (ht:t.length<=1000000) (hp:p.length<=1000) (ho:off+fr.length<=t.length):
  VF Tryz.prog 292 [.ptr k 0,.str fr,.str p] O (TQ O k t X (jz t (off+fr.length) p) fun y m=>m= .str y):=by
 have hk:=h.2;have hr:Rd (O.set k (.cells [.str t,mi (off+fr.length:Nat),X])) k t (off+fr.length) X:=h.set;have hu:bB O (some k) (O.set k (.cells [.str t,mi (off+fr.length:Nat),X])):=bB.set;have lx:(off:Int)+(fr.length:Int)=((off+fr.length:Nat):Int):=by omega
 simp only[aq, <-lx]at hk hr hu;refine χ 78 [.tmp 6] Tryz.func292 ?_;refine κ @av ?_;refine ξ @av @hk ?_;generalize O.set k (.cells [.str t,.v (.int .i64 ((off:Int)+(fr.length:Int))),X])=O2 at*;generalize hoo:off+fr.length=o at*;have bN:=hr.2;simp only[aq]at bN;unfold jz;refine κ @av ?_;refine π (xO hr ho) ?_;rintro _ O3 ⟨rfl,eO⟩;rw[eO];clear eO O3
 refine ab @av ?_;refine π (Om (t.drop o) p _ (by rw[ah0];omega)) ?_;rintro _ O3 ⟨rfl,eO⟩;rw[eO];clear eO O3
 refine ab @av ?_;refine κ @av ?_;refine π (xO hr ho) ?_;rintro _ O3 ⟨rfl,eO⟩;rw[eO];clear eO O3
 refine ab @av ?_;have cW:=Lib.index_ge (t.drop o) p;have eJ:Lib.index (t.drop o) p<=((t.drop o).length:Int):=index_le _ _;have jC:qV (t.drop o) p=if 0<=Lib.index (t.drop o) p then(t.drop o).take (Lib.index (t.drop o) p).toNat else t.drop o:=rfl
 have uq:(qV (t.drop o) p).length<=1000000:=by
  rw[jC];split
  ·rw[ahX,ah0];omega
  ·rw[ah0];omega
 generalize qV (t.drop o) p=s at*;generalize Lib.index (t.drop o) p=n at*;refine Ξ [0,2,7,8] (fun _:Unit=>[.ptr k 0,.str p,.v (.int .i64 n),.str s]) (fun _ O'=>O'=O2) ?_ ?_
 ·rw[ah0]at eJ;by_cases h0:0<=n
  ·rw[if_pos h0]at jC;subst jC;obtain⟨N,rfl⟩:=Int.eq_ofNat_of_zero_le h0;have hN:N<=(t.drop o).length:=by rw[ah0];omega
   have n0:(N:Int).toNat=N:=rfl;refine ab @av ?_;refine ο @av @n0 ?_;exact aB.mk () rfl
  ·rw[if_neg h0]at jC;subst jC;refine ao @av @h0 ?_;refine ν @av ?_;exact aB.mk () rfl
 rintro⟨⟩ O3 eO;rw[eO];clear eO O3
 refine κ @av ?_;clear jC;have htw:=oT nq s;refine Δ [38] [0,2,7,8,37] (fun j:Nat=>[mi j]) (fun j O'=>O'=O2/\j<=s.length/\j<=(s.takeWhile nq).length) (fun j=>s.length - j) (0) ?_ ?_
 ·exact⟨rfl,agu _,agu _⟩
 rintro j O3 ⟨eO,hj,hjt⟩;rw[eO];clear eO O3
 by_cases h1:j<s.length
 ·have hg:=aeb h1;have cY:=abG (f:=nq) s j _ hg hjt;generalize s[j]=c at*;cases hc:nq c
  ·rw[hc,if_neg (by simp)]at cY;rw[if_pos (by omega),cY];refine κ @av ?_;refine κ @av ?_;refine ξ @av @hg ?_;refine π (xI c _) ?_;rintro _ O3 ⟨rfl,eO⟩;rw[eO];clear eO O3
   rw[hc];refine ao @av @bN ?_;refine ah.p (ja 10 (o+j) _) ?_ ?_
   ·rintro m O9 ⟨_,h⟩;exact h.elim
   rintro m O9 ⟨rfl,rfl⟩;refine ab @av ?_;exact⟨hu,rfl⟩
  ·rw[hc,if_pos rfl]at cY;refine κ @av ?_;refine κ @av ?_;refine ξ @av @hg ?_;refine π (xI c _) ?_;rintro _ O3 ⟨rfl,eO⟩;rw[eO];clear eO O3
   rw[hc];refine ao @av @bN ?_;refine ν @av ?_;exact az.N (j+1) ⟨rfl,h1,cY⟩
 ·have aM:j=s.length:=by omega
  subst aM;refine κ @av ?_;refine ν @av ?_;rw[if_neg (by omega)];by_cases h2:n<0
  ·rw[if_pos h2];refine ξ @av @bN ?_;refine ah.p (ja 13 t.length _) ?_ ?_
   ·rintro m O9 ⟨_,h⟩;exact h.elim
   rintro m O9 ⟨rfl,rfl⟩;refine ab @av ?_;exact⟨hu,rfl⟩
  ·rw[if_neg h2];refine ξ @av @bN ?_;have h3:(n.toNat:Int)=n:=by omega
   have h4:n<=1000000:=by rw[ah0]at eJ;omega
   refine ξ @av @bN ?_;refine ν @av ?_;have fA:(o:Int)+(n+(p.length:Int))=((o+n.toNat+p.length:Nat):Int):=by omega
   rw[fA];exact⟨hu.trans bB.set,rfl,by simpa[aq]using hr.set (t':=t) (off':=o+n.toNat+p.length) (X':=X)⟩
def se (s:Bs):Bool:=ew s [60,63,120,109,108]&&decide (5<s.length)&&(mJ (s.getD 5 0)||s.getD 5 0==63)
theorem X5 {O:VH} {k off:Nat} {t:Bs} {X:MV} (h:Rd O k t off X) (ht:t.length<=1000000) (ho:off<=t.length):VF Tryz.prog 293 [.ptr k 0] O (aE fun m O'=>m=mb (se (t.drop off))/\O'=O):=by
 unfold se;refine Θ 25 [.tmp 2] Tryz.func293 ?_;refine ab @av ?_;refine π (xO h ho) ?_;rintro _ O2 ⟨rfl,eO⟩;rw[eO];clear eO O2
 have hl:(t.drop off).length<=1000000:=by rw[ah0];omega
 generalize t.drop off=s at*;refine ab @av ?_;refine π (nY s [60,63,120,109,108] _) ?_;rintro _ O2 ⟨rfl,eO⟩;rw[eO];clear eO O2
 cases h1:ew s [60,63,120,109,108]
 ·exact fU @av
 by_cases h2:5<s.length
 ·have hg:=aeb h2;have hd:s.getD 5 0=s[5]:=by simp[List.getD,hg]
  rw[decide_eq_true h2,hd];generalize s[5]=c at*;refine ao @av @hg ?_;refine π (qH c _) ?_;rintro _ O2 ⟨rfl,eO⟩;rw[eO];clear eO O2
  cases h3:mJ c
  ·by_cases h4:c=63
   ·subst h4;refine aH @av @hg @aL ?_;rfl
   ·have h5:¬((c.toNat:Int)=63):=fun e=>h4 (UInt8.toNat_inj.1 (by simpa using(by omega:c.toNat=63)))
    rw[show(c==63)=false by simpa using h4];exact kt4 @av @hg @aL @h5
  ·exact fU @av
 ·rw[decide_eq_false h2];exact fU @av
section
variable {G:Gh} {O:VH} {w:World} {n:Sz} {D:List Deferred} {e:Env} {P:Program} {tab:cg} {ops:Array Oper} {Q:VQ} {u:Value}
def Jk (k:Int):Bs:=(Utf8.encode k).data.toList
theorem X6 (ht:aP P tab) (h:WR G O w) {src dst el:TypeId} {tk:Tok} {k:Int} (hs:(tab src).map cM.under=some (.slice el)) (hd:(tab dst).map cM.under=some .string) (he:(tab el).map cM.under=some (.int .i32))
  (hx:VR G (.sl 1 [.v (.int .i32 k)] tk) u):iz P (convert src dst u) w G O (.str (Jk k)):=by
 cases hx with
 | sl h1 h2 h3 h4 h5 h6=>
   rename_i us c b o
   have h7:us=[.int .i32 k]:=by
    match us,h1 with
    | [x],_=>rw[(h3 0 _ x rfl rfl).je]
   subst h7;refine⟨_,w,G,?_,Gh.Le.refl G,h,.str,j7.refl _ _⟩;rw[run_convert_runes_string w src dst el _ _ _ (bM ht hs) (bM ht he) (bM ht hd)]
   have h8:=run_loadCells_list (P:=P) w ⟨b,o,none⟩ [Value.int .i32 k] (fun j v hv=>by
    rw[Addr.add_lit];exact h.eN _ _ _ (h2 j v hv))
   rw[run_runesToString (P:=P) w ⟨b,o,none⟩ 1 c [k] h8]
   congr 2
theorem VL.Gk (ht:aP P tab) {d:Option Tmp} {src dst el:TypeId} {x:Operand} {ty:TypeId} {ps:String} {af:Array Edge} {g:Option (Nat×Bool)} {L:List (Fl×Oper)} {k:Int} {tk:Tok}
  (hg:aO ops (.mk d (.convert src dst x) ty ps af g) e=some true) (hx:ev e x=some (.sl 1 [.v (.int .i32 k)] tk)) (hs:(tab src).map cM.under=some (.slice el)) (r9:(tab dst).map cM.under=some .string) (he:(tab el).map cM.under=some (.int .i32)) (hd:bD n d=true)
  (h:WL P tab n D .plain ops Q L (aZ d (.str (Jk k)) e) O):VL P n D .plain ops ((.one,.mk d (.convert src dst x) ty ps af g)::L) e O Q:=by
 refine VL.Fm (M:=fun m O'=>m= .str (Jk k)/\O'=O) hg hd (fun G a w hw hf=>?_) ?_
 ·exact⟨_,_,⟨rfl,rfl⟩,dT.of (X6 (P:=P) ht hw hs r9 he (hf.ev hx)) (by simp[execOp])⟩
 ·rintro m O' ⟨rfl,rfl⟩;exact WL.sound ht h
end
set_option linter.defProp false in
def bR:=Mn av<|Mn RJ I8
def isLet (k:Nat):Bool:=decide (k=9\/k=10\/k=13\/(32<=k/\k<=1114111/\¬(55296<=k/\k<=57343)))
def Dm (k:Nat):Bs:=if isLet k then Jk k else[]
theorem On {k:Nat} (h:isLet k=true):IntKind.i32.wrap (k:Int)=k:=by
 have hk:k<=1114111:=by
  simp only[isLet,decide_eq_true_eq]at h;omega
 clear h;simp only[IntKind.wrap,IntKind.signed,IntKind.bits];simp;omega
theorem X7 (k:Nat) (O:VH) (hk:k<=1000000000000):VF Tryz.prog 327 [mi k] O (aE fun m O'=>m= .tuple [.str (Dm k),mb (isLet k)]/\O'=O):=by
 have yes:isLet k=true->Dm k=Jk k:=fun h=>by unfold Dm;rw[h];rfl
 have no:isLet k=false->Dm k=[]:=fun h=>by unfold Dm;rw[h];rfl
 have hw:= @On k;refine Θ 37 [.tmp 2,.tmp 3] Tryz.func327 ?_;by_cases h1:k=9
 ·have h0:isLet k=true:=decide_eq_true (.inl h1);subst h1;have hw:=hw h0;rw[yes h0,h0];refine ab @bR ?_;refine VL.Gk aa rfl rfl (by rw[I8];rfl) (by rw[T9];rfl) (by rw[RJ];rfl) rfl ?_;refine ao @bR @hw ?_;trivial
 by_cases h2:k=10
 ·have h0:isLet k=true:=decide_eq_true (.inr (.inl h2));subst h2;have hw:=hw h0;rw[yes h0,h0];refine ab @bR ?_;refine VL.Gk aa rfl rfl (by rw[I8];rfl) (by rw[T9];rfl) (by rw[RJ];rfl) rfl ?_;refine ao @bR @hw ?_;trivial
 by_cases h3:k=13
 ·have h0:isLet k=true:=decide_eq_true (.inr (.inr (.inl h3)));subst h3;have hw:=hw h0;rw[yes h0,h0];refine ab @bR ?_;refine VL.Gk aa rfl rfl (by rw[I8];rfl) (by rw[T9];rfl) (by rw[RJ];rfl) rfl ?_;refine ao @bR @hw ?_;trivial
 by_cases h4:k<32
 ·have h0:isLet k=false:=by simp only[isLet,decide_eq_false_iff_not];omega
  rw[no h0,h0];refine ab @bR ?_;trivial
 by_cases h5:1114111<k
 ·have h0:isLet k=false:=by simp only[isLet,decide_eq_false_iff_not];omega
  rw[no h0,h0];refine ab @bR ?_;trivial
 by_cases h6:55296<=k
 ·by_cases h7:k<=57343
  ·have h0:isLet k=false:=by simp only[isLet,decide_eq_false_iff_not];omega
   rw[no h0,h0];refine ab @bR ?_;trivial
  ·have h0:isLet k=true:=by simp only[isLet,decide_eq_true_eq];omega
   have hw:=hw h0;rw[yes h0,h0];refine ab @bR ?_;refine VL.Gk aa rfl rfl (by rw[I8];rfl) (by rw[T9];rfl) (by rw[RJ];rfl) rfl ?_;refine ao @bR @hw ?_;trivial
 ·have h0:isLet k=true:=by simp only[isLet,decide_eq_true_eq];omega
  have hw:=hw h0;rw[yes h0,h0];refine ab @bR ?_;refine VL.Gk aa rfl rfl (by rw[I8];rfl) (by rw[T9];rfl) (by rw[RJ];rfl) rfl ?_;refine ao @bR @hw ?_;trivial
def sS (b:Nat) (c:UInt8):Int:=
 if qC c then(c.toNat:Int) - 48 else if b=16/\97<=c.toNat/\c.toNat<=102 then(c.toNat:Int) - 97+10 else if b=16/\65<=c.toNat/\c.toNat<=70 then(c.toNat:Int) - 65+10 else -1
theorem Oo (c:UInt8):qC c=decide (48<=c.toNat/\c.toNat<=57):=by unfold qC;rw[<-Bool.decide_and]
theorem Jl (b:Nat) (c:UInt8) (O:VH):VF Tryz.prog 326 [gj c,mi b] O (aE fun m O'=>m=mi (sS b c)/\O'=O):=by
 have hc:c.toNat<256:=c.toNat_lt;have hd:=qD c O;unfold sS;refine Θ 41 [.tmp 4] Tryz.func326 ?_;refine ab @bR ?_;refine π (hd) ?_;rintro _ O2 ⟨rfl,eO⟩;rw[eO];clear eO O2
 cases h1:qC c;rotate_left
 ·rw[Oo,decide_eq_true_eq]at h1;refine ao @bR @aL ?_;first | trivial | rfl | (repeat (first | rw[if_pos (by omega)] | rw[if_neg (by omega)]))
 by_cases hb:b=16
 ·subst hb;by_cases h2:97<=c.toNat
  ·by_cases h3:c.toNat<=102
   ·refine ao @bR @aL ?_;first | trivial | rfl | (repeat (first | rw[if_pos (by omega)] | rw[if_neg (by omega)]))
   ·refine ao @bR @aL ?_;first | trivial | rfl | (repeat (first | rw[if_pos (by omega)] | rw[if_neg (by omega)]))
  ·by_cases h4:65<=c.toNat
   ·by_cases h5:c.toNat<=70
    ·refine ao @bR @aL ?_;first | trivial | rfl | (repeat (first | rw[if_pos (by omega)] | rw[if_neg (by omega)]))
    ·refine ao @bR @aL ?_;first | trivial | rfl | (repeat (first | rw[if_pos (by omega)] | rw[if_neg (by omega)]))
   ·refine ao @bR @aL ?_;first | trivial | rfl | (repeat (first | rw[if_pos (by omega)] | rw[if_neg (by omega)]))
 ·have cK:((b:Int)==16)=false:=by simpa using(by omega:¬(b:Int)=16)
  refine aH @bR @aL @cK ?_;first | trivial | rfl | (repeat (first | rw[if_pos (by omega)] | rw[if_neg (by omega)]))
def yM (b:Nat) (c:UInt8):Bool:=decide (0<=sS b c)
theorem X8 (b k:Nat) (c:UInt8) (O:VH) (hk:O.hp k=some (.cells [mi b])):VF Tryz.prog 325 ([gj c]++[.ptr k 0]) O (aE fun m O'=>m=mb (yM b c)/\O'=O):=by
 show VF _ _ [gj c,.ptr k 0] _ _;simp only[aq]at hk;unfold yM;refine Θ 8 [.tmp 3] Tryz.func325 ?_;refine ao @bR @hk ?_;refine π (Jl b c O) ?_;rintro _ O2 ⟨rfl,eO⟩;rw[eO];clear eO O2
 by_cases h:0<=sS b c
 ·rw[decide_eq_true h];refine ab @bR ?_;first | trivial | rfl
 ·rw[decide_eq_false h];refine ao @bR @h ?_;first | trivial | rfl
theorem abH (f:FuncId) (cs:List MV) (p:UInt8->Bool) (s:List UInt8) (O:VH) (hs:s.length<=1000000000) (hf:∀c,VF Tryz.prog f ([gj c]++cs) O (aE fun m O'=>m=mb (p c)/\O'=O)) (hb:df Tryz.prog f=true):
  VF Tryz.prog 206 [.str s,.func (.func f) [] cs] O (aE fun m O'=>m=mi (s.takeWhile p).length/\O'=O):=by
 refine Θ 20 [.tmp 4] Tryz.func206 ?_;refine ab @f_ ?_;refine WC.jh [5] [0,1] (fun j:Nat=>[mi j]) (fun j O'=>O'=O/\j<=s.length/\(s.takeWhile p).length=j+((s.drop j).takeWhile p).length) (fun j=>s.length - j) (0) ?_ ?_
 ·exact⟨rfl,agu _,by simp⟩
 rintro j O2 ⟨eO,hj,hw⟩;rw[eO];clear eO O2
 by_cases h2:j<s.length
 ·have hg:=aeb h2;have hd:=ahZ h2;generalize s[j]=c at*;refine ao @f_ @hg ?_;refine π (hf c) ?_ (hb:=hb);rintro _ O3 ⟨rfl,eO⟩;rw[eO];clear eO O3
  cases hp:p c
  ·refine ao @f_ @hg ?_;rw[hw,hd,ajv (by simp[hp])];trivial
  ·refine ao @f_ @hg ?_;refine az.N (j+1) ?_;refine⟨rfl,by omega,?_⟩;rw[hw,hd,ajw hp,Mm];omega
 ·refine ab @f_ ?_;rw[hw,ajy (by omega)];trivial
def jZ (s:Bs) (a:Nat):Bs×Nat×Nat:=if ew s [120]then(s.drop 1,a+1,16)else(s,a,10)
def sT (b:Nat) (l:Bs):Nat:=l.foldl (fun k c=>k*b+(sS b c).toNat) 0
def abI (s:Bs) (a b n:Nat):Bs×Nat×Int:=
 if 8<n then([],0,12)else if n=s.length then([],0,13)else if n=0\/s.getD n 0≠59 then([],0,12)
 else if isLet (sT b (s.take n))then(Dm (sT b (s.take n)),a+n+1,0)else([],0,12)
def wE (s:Bs) (a:Nat):Bs×Nat×Int:=abI (jZ s a).1 (jZ s a).2.1 (jZ s a).2.2 ((jZ s a).1.takeWhile (yM (jZ s a).2.2)).length
theorem Oq {b:Nat} (hb:b<=16):∀(l:Bs) (k:Nat),l.foldl (fun k c=>k*b+(sS b c).toNat) k+1<=(k+1)*16 ^ l.length
 | [],k=>by simp
 | c::l,k=>by
   have hd:(sS b c).toNat<=15:=by
    unfold sS;split
    ·rename_i h;rw[Oo,decide_eq_true_eq]at h;omega
    repeat' split
    all_goals omega
   rw[List.foldl_cons,Mm,Nat.pow_succ];refine VI (Oq hb l _) ?_;have h1:k*b<=k*16:=Nat.mul_le_mul_left k hb;have h2:k*b+(sS b c).toNat+1<=(k+1)*16:=by omega
   calc _<=((k+1)*16)*16 ^ l.length:=Nat.mul_le_mul_right _ h2
    _=_:=by rw[Nat.mul_assoc,Nat.mul_comm 16]
theorem UK {b:Nat} (hb:b<=16) {l:Bs} (hl:l.length<=8):sT b l<=4294967296:=by
 have h1:=Oq hb l 0;have h2:16 ^ l.length<=16 ^ 8:=Nat.pow_le_pow_right (by decide) hl;have h3:(16:Nat) ^ 8=4294967296:=by decide
 unfold sT;omega
theorem Si (b:Nat) (t:Bs) (j:Nat) (h:j<t.length):sT b (t.take (j+1))=sT b (t.take j)*b+(sS b t[j]).toNat:=by
 unfold sT;rw[dB _ _ h,List.foldl_append];rfl
theorem UL {p:UInt8->Bool}:∀(t:Bs) (j:Nat) (c:UInt8),j<(t.takeWhile p).length->t[j]?=some c->p c=true
 | [],j,c,h,_=>by simp at h
 | d::t,j,c,h,hj=>by
   cases hd:p d
   ·rw[ajv (by simp[hd])]at h;simp at h
   ·rw[ajw hd,Mm]at h;cases j with
    | zero=>simp only[anc,Option.some.injEq]at hj;subst hj;exact hd
    | succ j=>exact UL t j c (by omega) (by simpa using hj)
theorem X9 (s:Bs) (a:Nat) (O:VH) (hs:s.length<=1000000) (ha:a<=1000000):VF Tryz.prog 321 [.str s,mi a] O (aE fun m O'=>m= .tuple [.str (wE s a).1,mi (wE s a).2.1,mi (wE s a).2.2]/\O.Ge O'):=by
 unfold wE;refine χ 65 [.tmp 4,.tmp 5,.tmp 6] Tryz.func321 ?_;refine κ @bR ?_;refine κ @bR ?_;refine VC.al ?_;rintro O1 ⟨aJ,cA,cW⟩;refine Ξ [0,1,7] (fun _:Unit=>[.str (jZ s a).1,mi (jZ s a).2.1,.ptr O.N 0]) (fun _ O'=>O.Ge O'/\O'.hp O.N=some (.cells [mi (jZ s a).2.2])) ?_ ?_
 ·refine κ @bR ?_;refine π (nY s [120] _) ?_;rintro _ O2 ⟨rfl,eO⟩;rw[eO];clear eO O2
  unfold jZ;cases h1:ew s [120]
  ·refine ab @bR ?_;refine ν @bR ?_;exact aB.mk () ⟨aJ,cA⟩
  ·have h2:1<=s.length:=by
    cases s with
    | nil=>cases h1
    | cons c s=>simp
   refine ao @bR @cA ?_;refine ο @bR @cA ?_;exact aB.mk () ⟨aJ.set (ZA _) _,τ _ _ _⟩
 rintro⟨⟩ O2 ⟨aC,bN⟩;have dI:(jZ s a).1.length<=1000000:=by unfold jZ;split<;>simp<;>omega
 have hpa:(jZ s a).2.1<=1000001:=by unfold jZ;split<;>simp<;>omega
 have oK:(jZ s a).2.2<=16:=by unfold jZ;split<;>simp
 generalize jZ s a=p at*;obtain⟨t,a2,b⟩:=p;dsimp only at*;have htw:=oT (yM b) t;refine κ @bR ?_;refine π (abH 325 [.ptr O.N 0] (yM b) t O2 (by omega) (fun c=>X8 b O.N c O2 bN) (by kernel_rfl)) ?_;rintro _ O3 ⟨rfl,eO⟩;rw[eO];clear eO O3
 have kR:= @UL (yM b) t;generalize (t.takeWhile (yM b)).length=n at*;unfold abI;refine ab @bR ?_;refine ω (υ ?_);by_cases h1:8<n
 ·rw[if_pos h1];refine ν @bR ?_;exact⟨rfl,aC⟩
 rw[if_neg h1];by_cases h2:n=t.length
 ·rw[if_pos h2];subst h2;refine ν @bR ?_;exact⟨rfl,aC⟩
 rw[if_neg h2];by_cases h3:n=0
 ·rw[if_pos (.inl h3)];subst h3;refine ο @bR @h2 ?_;exact⟨rfl,aC⟩
 have hnt:n<t.length:=by omega
 have hg:=aeb hnt;have hd:t.getD n 0=t[n]:=by simp[List.getD,hg]
 rw[hd];generalize t[n]=c at*;by_cases h4:c=59;rotate_left
 ·rw[if_pos (.inr h4)];have h5:¬((c.toNat:Int)=59):=fun e=>h4 (UInt8.toNat_inj.1 (by simpa using(by omega:c.toNat=59)))
  refine ι (cJ @bR @hg @aL @h5 ?_);exact⟨rfl,aC⟩
 rw[if_neg (fun h=>h.elim h3 (fun h=>h h4))];subst h4;have h5:((((59:UInt8).toNat:Nat):Int) != 59)=false:=rfl;refine ι (cJ @bR @hg @aL @h5 ?_);clear hg h5;refine κ @bR ?_;refine κ @bR ?_;simp only[aq]at bN;refine Δ [9,40] [0,1,7,8,39] (fun j:Nat=>[mi (sT b (t.take j)),mi j]) (fun j O'=>O'=O2/\j<=n) (fun j=>n - j) (0) ?_ ?_
 ·exact⟨rfl,agu _⟩
 rintro j O3 ⟨eO,hj⟩;rw[eO];clear eO O3
 have h8:(t.take j).length<=8:=by rw[ahX];omega
 have hv8:=UK oK h8;by_cases hjn:j<n
 ·have hjt:j<t.length:=by omega
  have hg:=List.getElem?_eq_getElem hjt;have X_:=kR j _ hjn hg;have iF:=Si b t j hjt;have h9:sT b (t.take (j+1))<=4294967296:=UK oK (by rw[List.length_take];omega);generalize t[j]=c at*;simp only[yM,decide_eq_true_eq]at X_;generalize hV:sT b (t.take (j+1))=V at*;generalize sT b (t.take j)=v at*;have hdv:((sS b c).toNat:Int)=sS b c:=Int.toNat_of_nonneg X_;have hdc:=Jl b c O2;generalize sS b c=d at*;obtain⟨d,rfl⟩:=Int.eq_ofNat_of_zero_le X_;have lx:(v:Int)*(b:Int)=((v*b:Nat):Int):=by rw[Int.natCast_mul]
  simp only[Int.toNat_natCast]at iF;generalize v*b=vb at*;refine κ @bR ?_;refine κ @bR ?_;refine ω (υ ?_);refine κ @bR ?_;refine VC.oD [] ?_;refine ae.au 0 ?_;refine ab @bR ?_;refine ae.ld (m:=.v (.int .i64 b)) 1 ?_ ?_
  ·exact dW @bR @bN
  simp only[ak];refine ae.au 2 ?_;refine ao @bR @lx ?_;refine ae.au 3 ?_;refine ab @bR ?_;refine ae.au 4 ?_;refine ab @bR ?_;refine ae.au 5 ?_;refine ao @bR @hg ?_;refine ae.ld (m:=.v (.int .i64 b)) 6 ?_ ?_
  ·exact dW @bR @bN
  simp only[ak];refine ae.call (i:=7) (hdc) ?_;rintro _ O3 ⟨rfl,eO⟩;simp only[ak];rw[eO];clear eO O3
  refine⟨VH.Ge.refl _,?_⟩;refine ae.au 8 ?_;refine ao @bR @lx ?_;refine ae.au 9 ?_;refine ao @bR @lx ?_;refine ae.bQ [] ?_;refine ab @bR ?_;refine ν @bR ?_;exact az.N (j+1) ⟨rfl,hjn⟩ (hl:=(by rw[hV,iF];rfl))
 ·obtain rfl:j=n:=by omega
  refine κ @bR ?_;refine ν @bR ?_;generalize sT b (t.take j)=v at*;refine κ @bR ?_;refine π (X7 v _ (by omega)) ?_;rintro _ O3 ⟨rfl,eO⟩;rw[eO];clear eO O3
  cases h6:isLet v
  ·rw[if_neg (by simp)];refine ab @bR ?_;refine ν @bR ?_;exact⟨rfl,aC⟩
  ·rw[if_pos rfl];refine ab @bR ?_;refine ν @bR ?_;exact⟨rfl,aC⟩
end Go.Proofs.YtjpadehgejlebaaGreatDoor
