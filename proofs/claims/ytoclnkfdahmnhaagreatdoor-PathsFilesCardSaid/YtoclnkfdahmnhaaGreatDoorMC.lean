import Derived.Test.YtoclnkfdahmnhaaGreatDoorMB
import Derived.ProofKit
import Derived.OpenShut
import Derived.Shelf.Strings.Search3
import Derived.Shelf.Strings.OnBuilder
import Derived.Test.YtoclnkfdahmnhaaGreatDoorProg
set_option linter.unusedVariables false
set_option linter.unusedSimpArgs false
namespace Go.Proofs.YtoclnkfdahmnhaaGreatDoor
open Go.RowKit Go.ChangeShapes
def G0 (w:World):Gh:=⟨w,fun _=>none,fun b o=>w.cell? ⟨b,o,none⟩,fun _=>none⟩
def O0:VH:=⟨0,fun _=>none⟩
theorem wr0 (w:World) (hg:JK w):WR (G0 w) O0 w where
 base:=Below.refl _ _
 dX _ _ _ h:=h
 oN _ _:=⟨rfl,rfl,rfl⟩
 jI _ _ h:=by cases h
 inj _ _ _ _ _ h:=by cases h
 cells _ _ h:=by cases h
 map _ _ _ h:=by cases h
 tok _ h:=by cases h
 kA _ _ _ _ _ h:=by cases h
 nw _ _ _ _ h:=by cases h
 obj _ _ h:=by cases h
 pd:=hg
 yz _ _ h:=by cases h
def El {H:Type} (enc:TypeId×Value->H) (P:Program) (w:World) (sp:Nat->Bool) (held:Bool) (t:TypeId) (Φ :List MV->Prop):Prop:=
 ∀fuel cs x,DataW.trod enc P w 0 sp held fuel t cs=some x->∃ms,aO (G0 w) ms cs/\ Φ ms
section
variable {H:Type} {enc:TypeId×Value->H} {P:Program} {w:World} {sp:Nat->Bool} {held:Bool} {t e:TypeId}
theorem El.str (ht:P.underlying t=some .string):El enc P w sp held t fun ms=>∃l:List UInt8,ms=[.str l]/\l.length<=maxLen:=by
 intro fuel cs x h;obtain⟨s,rfl,rfl,hs⟩:=DataW.trod_string ht h;exact⟨[.str s.data.toList],aO.cons (by cases s with | mk d=>cases d with | mk l=>exact .str) aO.nil,_,rfl,hs⟩
theorem Pt {w:World} {a:Addr} {v:Value} (h:w.cell? a=some v):a=⟨a.block,a.off,none⟩:=by
 unfold World.cell? at h;split at h
 ·split at h
  ·cases h
  ·rename_i hs;cases a with
   | mk b o s=>cases s with
     | none=>rfl
     | some x=>exact absurd rfl hs
 ·cases h
theorem El.slice (ht:P.underlying t=some (.slice e)) {Φ :List MV->Prop} (he:El enc P w sp held e Φ) (oc:0<P.cellsOf e):
  El enc P w sp held t fun ms=>∃(rows:List (List MV)) (tk:Tok),ms=[.sl rows.length rows.flatten tk]/\(∀r∈rows, Φ r)/\rows.length<=maxLen:=by
 intro fuel cs x h;rcases DataW.trod_slice ht h with⟨rfl,rfl⟩ | ⟨a,len,cap,elems,rest,n,rfl,rfl,rfl,_,D3,hm,hlen,FP,_,_⟩
 ·exact⟨[.sl 0 [] .nil],aO.cons .slnil aO.nil,[],.nil,rfl,by simp,by simp⟩
 by_cases h0:len=0
 ·subst h0;exact⟨[.sl 0 [] .aq],aO.cons (.nP hm) aO.nil,[],.aq,rfl,by simp,by simp⟩
 have each:∀i,i<len->∃ms ci,w.cells? 0 (a.add (i*P.cellsOf e)) (P.cellsOf e)=some ci/\aO (G0 w) ms ci/\ Φ ms:=fun i hi=>by
  have h1:=FP i hi;have h2:elems[i]?=some (elems[i]'(by omega)):=List.getElem?_eq_getElem (by omega);rw[h2]at h1;obtain⟨ci,h3,h4⟩:=Option.bind_eq_some_iff.1 h1;obtain⟨ms,h5,h6⟩:=he _ _ _ h4;exact⟨ms,ci,h3,h5,h6⟩
 have agl:a=⟨a.block,a.off,none⟩:=by
  obtain⟨_,ci,h1,_⟩:=each 0 (by omega);obtain⟨_,h2,h3⟩:=World.cells?_some h1;have h4:=h3 0 oc;rw[Nat.zero_mul]at h4;have h5:(a.add 0).add 0=a:=by simp[Addr.add]
  rw[h5]at h4;rw[List.getElem?_eq_getElem (by omega)]at h4;exact Pt h4
 obtain⟨b,o,s⟩:=a;obtain rfl:s=none:=congrArg Addr.spot agl
 have build:∀m,m<=len->∃(rows:List (List MV)) (us:List Value),rows.length=m/\us.length=m*P.cellsOf e/\aO (G0 w) rows.flatten us/\(∀p u,us[p]?=some u->w.cell? ⟨b,o+p,none⟩=some u)/\∀r∈rows, Φ r:=fun m=>by
  induction m with
  | zero=>exact fun _=>⟨[],[],rfl,by simp,aO.nil,fun p u hu=>by simp at hu,by simp⟩
  | succ m ih=>
    intro hm;obtain⟨rows,us,h1,h2,h3,h4,h5⟩:=ih (by omega);obtain⟨ms,ci,g1,g2,g3⟩:=each m (by omega);obtain⟨_,g4,g5⟩:=World.cells?_some g1;refine⟨rows++[ms],us++ci,by simp[h1],by rw[List.length_append,h2,g4,Nat.add_mul,Nat.one_mul],?_,fun p u hu=>?_,fun r hr=>?_⟩
    ·rw[List.flatten_append,List.flatten_cons,List.flatten_nil,List.append_nil];exact aO.append h3 g2
    ·rcases Nat.lt_or_ge p us.length with hp | hp
     ·rw[List.getElem?_append_left hp]at hu;exact h4 p u hu
     ·rw[List.getElem?_append_right hp]at hu;have dK:=(List.getElem?_eq_some_iff.1 hu).1;have:=g5 (p - us.length) (by omega);rw[hu]at this;rw[<-this,Addr.add_lit,Addr.add_lit,h2,show o+m*P.cellsOf e+(p - m*P.cellsOf e)=o+p by omega]
    ·rcases List.mem_append.1 hr with hr | hr
     ·exact h5 r hr
     ·rw[List.mem_singleton.1 hr];exact g3
 obtain⟨rows,us,h1,h2,h3,h4,h5⟩:=build len (Nat.le_refl _);refine⟨[.sl rows.length rows.flatten .aq],aO.cons ?_ aO.nil,rows,.aq,rfl,h5,by omega⟩;rw[h1];exact .sl h3.1 (fun p u hu=>h4 p u hu) h3.2 D3 hm trivial
theorem El.imp {Φ Ψ :List MV->Prop} (h:El enc P w sp held t Φ) (hi:∀ms, Φ ms-> Ψ ms):El enc P w sp held t Ψ :=fun fuel cs x hx=>by
 obtain⟨ms,h1,h2⟩:=h fuel cs x hx;exact⟨ms,h1,hi _ h2⟩
theorem El.arg {Φ :List MV->Prop} (h:El enc P w sp held t Φ) {v:Value} {d:DataW H} {ps:List MemPlace} (hd:DataW.Trod enc P w 0 sp held t v d ps) (hc:v.cells= #[v]):∃m,VR (G0 w) m v/\ Φ [m]:=by
 obtain⟨fuel,h1⟩:=hd;rw[hc]at h1;obtain⟨ms,h2,h3⟩:=h _ _ _ h1
 match ms,h2 with
 | [m],h2=>exact⟨m,h2.2 0 m v rfl rfl,h3⟩
 | [],h2=>exact absurd h2.1 (by simp)
 | _::_::_,h2=>exact absurd h2.1 (by simp)
end
section
variable {H:Type} {enc:TypeId×Value->H} {P:Program} {w:World} {sp:Nat->Bool} {held:Bool} {t e:TypeId}
end
theorem VF.law {P:Program} {f:FuncId} {w:World} {ms:List MV} {vs:Array Value} (hg:JK w) (hv:aO (G0 w) ms vs.toList) (h:VF P f ms O0 (aD fun m _=>m=mb true)):
  Calls P f vs w fun e w'=>e= .returned (.bool true)/\Below w.heap.size w w':=by
 have:=h (G0 w) w vs.toList (wr0 w hg) hv;refine this.mono ?_;rintro x w' ⟨r,O',G,h1,h2,h3,h4⟩;cases r with
 | panic m=>exact h4.elim
 | ret m=>
   have h4:m=mb true:=h4;subst h4;cases x with
   | returned v=>
     have h5:v= .bool true:=h3.iw;refine⟨by rw[h5],?_⟩;have:=h2.base;rw[h1.w0]at this;have hB:G.B=w.heap.size:=by unfold Gh.B;rw[h1.w0];rfl
     rw[hB]at this;exact this
   | panicked c=>exact h3.elim
   | outgrown=>exact h3.elim
set_option maxRecDepth 10000
theorem UN (w:List UInt8) (h:((w.all fun c=> !Lh c)&&(w.all fun c=>w.all fun d=>pB c==pB d))=true):even w:=by
 simp only[Bool.and_eq_true,List.all_eq_true]at h;exact⟨fun c hc=>by simpa using h.1 c hc,fun c hc d hd=>by simpa using h.2 c hc d hd⟩
def okT (p:Y1):Prop:=even p.2.2/\(∀c∈p.2.2,lo c=c)/\(if p.2.1 then p.2.2.all pB=true/\p.2.2.dropWhile (· ==48)=p.2.2 else p.2.2.all (fun c=> !pB c)=true/\agk p.2.2 false=p.2.2)
def Lj (p:Y1):List UInt8:=(if p.2.1&&p.2.2==[]then[48]else[])++p.2.2
def Y2 (p:Y1):List UInt8:=(if p.1 then 45 else 46)::Lj p
theorem UO {p:Y1} (h:okT p):even (Lj p):=by
 unfold Lj;split
 ·rename_i hc;have:p.2.2=[]:=by simpa using(Bool.and_eq_true _ _▸hc:p.2.1=true/\(p.2.2==[])=true).2
  rw[this];exact UN _ rfl
 ·exact h.1
theorem chain:∀(r:List Y1) (_:∀p∈r,okT p) (w:List UInt8) (_:even w) (hy:Bool),tB hy [] (w++r.flatMap Y2)=(w,hy,false)::r.map fun p=>(Lj p,p.1,false)
 | [],_,w,hw,hy=>by
   have:=AJ w [] [] hy (by simpa using hw);simpa[UM]using this
 | p::r,h,w,hw,hy=>by
   have ih:=chain r (fun q hq=>h q (List.mem_cons_of_mem _ hq)) (Lj p) (UO (h p (by simp))) p.1;have h1:=AJ w [] ((p::r).flatMap Y2) hy (by simpa using hw);rw[h1,List.nil_append,List.flatMap_cons,Y2,List.cons_append,Ps (by cases p.1<;>rfl)];have hb:((if p.1 then 45 else 46:UInt8)==45)=p.1:=by cases p.1<;>rfl
   rw[hb,ih,List.map_cons]
set_option linter.defProp false in
def fz:=And.intro T9<|And.intro T3<|And.intro T4<|And.intro T5 tA
def lJ (c:UInt8):Bool:=decide (c.toNat=32\/c.toNat=9\/c.toNat=10\/c.toNat=13)
def ll (c:UInt8):Bool:=decide ((65<=c.toNat/\c.toNat<=90)\/(97<=c.toNat/\c.toNat<=122)\/c.toNat=95)
def Ha (c:UInt8):Bool:=decide (c.toNat=46\/c.toNat=45\/c.toNat=58)
def mh (c:UInt8):Bool:=decide (32<=c.toNat\/c.toNat=9\/c.toNat=10\/c.toNat=13)
theorem pE (c:UInt8) (O:VH):VF Tryz.prog 185 [fB c] O (aD fun m O'=>m=mb (lJ c)/\O'=O):=by
 have hc:=c.toNat_lt;refine VF.du 17 [.tmp 2] Tryz.func185 ?_;rcases(show c.toNat=32\/c.toNat=9\/c.toNat=10\/c.toNat=13\/(c.toNat≠32/\c.toNat≠9/\c.toNat≠10/\c.toNat≠13)from by omega)with h | h | h | h | ⟨h1,h2,h3,h4⟩
 ·refine ao @fz @aE ?_;simp[lJ,h]
 ·refine ao @fz @aE ?_;simp[lJ,h]
 ·refine ao @fz @aE ?_;simp[lJ,h]
 ·refine ao @fz @aE ?_;simp[lJ,h]
 ·refine ao @fz @aE ?_;simp[lJ,h1,h2,h3,h4]
theorem IC (f:FuncId) (p:UInt8->Bool) (s:List UInt8) (O:VH) (hs:s.length<=maxLen) (hf:∀c O,VF Tryz.prog f [fB c] O (aD fun m O'=>m=mb (p c)/\O'=O)) (hb:cM Tryz.prog f=true):
  VF Tryz.prog 184 [.str s,.func (.func f) [] []] O (aD fun m O'=>m=mi (s.takeWhile p).length/\O'=O):=by
 have hm:(s.length:Int)<=9223372036854775807:=by simp[maxLen]at hs;omega
 refine VF.du 20 [.tmp 4] Tryz.func184 ?_;refine ae @fz ?_;refine WC.iA [5] [0,1] (fun j:Nat=>[mi j]) (fun j O'=>O'=O/\j<=s.length/\(s.takeWhile p).length=j+((s.drop j).takeWhile p).length) (fun j=>s.length - j) (0) ?_ ?_
 ·exact⟨rfl,Nat.zero_le _,by simp⟩
 rintro j O2 ⟨rfl,hj,hw⟩;by_cases h2:j<s.length
 ·have hg:=List.getElem?_eq_getElem h2;have hd:=List.drop_eq_getElem_cons h2;generalize s[j]=c at*;refine ao @fz @hg ?_;refine ah.rt (hf c _) ?_ (hb:=hb);rintro _ O3 ⟨rfl,rfl⟩;cases hp:p c
  ·refine ao @fz @hg ?_;rw[hw,hd,List.takeWhile_cons_of_neg (by simp[hp])];trivial
  ·refine ao @fz @hg ?_;refine az.next (j+1) ?_;refine⟨rfl,by omega,?_⟩;rw[hw,hd,List.takeWhile_cons_of_pos hp,List.length_cons];omega
 ·refine ae @fz ?_;rw[hw,List.drop_of_length_le (by omega)];trivial
def ID (p:UInt8->Bool) (l:List UInt8):List UInt8:=(l.reverse.dropWhile p).reverse
theorem UP (p:UInt8->Bool) (l:List UInt8) (a:UInt8):ID p (l++[a])=if p a then ID p l else l++[a]:=by
 unfold ID;rw[List.reverse_append,List.reverse_singleton,List.singleton_append,List.dropWhile_cons];cases p a<;>simp
def trimB (s:List UInt8):List UInt8:=ID lJ (s.dropWhile lJ)
theorem Lk (p:UInt8->Bool):∀s:List UInt8,s.drop (s.takeWhile p).length=s.dropWhile p
 | []=>rfl
 | c::s=>by
   cases h:p c
   ·rw[List.takeWhile_cons_of_neg (by simp[h]),List.dropWhile_cons_of_neg (by simp[h])];rfl
   ·rw[List.takeWhile_cons_of_pos h,List.dropWhile_cons_of_pos h,List.length_cons,List.drop_succ_cons,Lk p s]
theorem nN (p:UInt8->Bool) (s:List UInt8):(s.takeWhile p).length<=s.length:=(List.takeWhile_sublist p).length_le
theorem IE (p:UInt8->Bool) (s:List UInt8):(s.dropWhile p).length<=s.length:=(List.dropWhile_sublist p).length_le
theorem Y3 (p:UInt8->Bool) (s:List UInt8):(ID p s).length<=s.length:=by
 unfold ID;have:=IE p s.reverse;simp only[List.length_reverse]at this ⊢;exact this
theorem Pu (s:List UInt8):(trimB s).length<=s.length:=Nat.le_trans (Y3 _ _) (IE _ _)
theorem IF (s:List UInt8) (O:VH) (hs:s.length<=maxLen):VF Tryz.prog 158 [.str s] O (aD fun m O'=>m= .str (trimB s)/\O'=O):=by
 have hm:(s.length:Int)<=9223372036854775807:=by simp[maxLen]at hs;omega
 have NU:=nN lJ s;have hdw:=Lk lJ s;have lW:=IE lJ s;unfold trimB;refine VF.du 23 [.tmp 2] Tryz.func158 ?_;refine ae @fz ?_;refine ah.rt (IC 185 lJ s _ hs pE (by kernel_rfl)) ?_;rintro _ O2 ⟨rfl,rfl⟩;refine ao @fz @hdw ?_;generalize s.dropWhile lJ=t at*;refine WC.iA [0] [] (fun k:Nat=>[.str (t.take k)]) (fun k O'=>O'=O2/\k<=t.length/\ID lJ t=ID lJ (t.take k)) (fun k=>k) t.length ?_ ?_ (h0:=(by rw[List.take_length];rfl))
 ·exact⟨rfl,Nat.le_refl _,by rw[List.take_length]⟩
 rintro k O3 ⟨rfl,hk,hr⟩;rw[hr];have hlen:(t.take k).length=k:=by rw[List.length_take];omega
 rcases Nat.eq_zero_or_pos k with rfl | hk0
 ·have ah7:(([]:List UInt8)==[])=true:=rfl;refine ao @fz @ah7 ?_;trivial
 ·obtain⟨k,rfl⟩:∃j,k=j+1:=⟨k - 1,by omega⟩
  have h2:k<t.length:=by omega
  have iZ:=cY t k h2;have bA:(t.take (k+1))[k]?=some t[k]:=by rw[List.getElem?_take,if_pos (by omega),List.getElem?_eq_getElem h2]
  have hne:(t.take (k+1)==[])=false:=by rw[iZ];cases t.take k<;>rfl
  have fi:=UP lJ (t.take k) t[k];rw[<-iZ]at fi;have Fw:(t.take (k+1)).take k=t.take k:=by rw[List.take_take];congr 1;omega
  generalize t[k]=c at*;refine de @fz @hne @hlen @bA ?_;refine ah.rt (pE c _) ?_;rintro _ O4 ⟨rfl,rfl⟩;cases hb:lJ c
  ·refine ae @fz ?_;rw[fi,hb];trivial
  ·rw[hb]at fi;refine aI @fz @hlen @Fw ?_;exact az.next k ⟨rfl,by omega,by rw[fi];rfl⟩
abbrev Bs:=List UInt8
theorem D4 (c:UInt8) (O:VH):VF Tryz.prog 171 [fB c] O (aD fun m O'=>m=mb (ll c)/\O'=O):=by
 have hc:=c.toNat_lt;refine VF.du 21 [.tmp 2] Tryz.func171 ?_;rcases(show c.toNat<65\/(65<=c.toNat/\c.toNat<=90)\/(90<c.toNat/\c.toNat<97/\c.toNat≠95)\/c.toNat=95\/(97<=c.toNat/\c.toNat<=122)\/122<c.toNat from by omega)with h | h | h | h | h | h
 ·rw[show ll c=false by simp[ll];omega];exact c9 @fz @aE
 ·rw[show ll c=true by simp[ll];omega];exact c9 @fz @aE
 ·rw[show ll c=false by simp[ll];omega];exact c9 @fz @aE
 ·rw[show ll c=true by simp[ll];omega];exact c9 @fz @aE
 ·rw[show ll c=true by simp[ll];omega];exact c9 @fz @aE
 ·rw[show ll c=false by simp[ll];omega];exact c9 @fz @aE
def jv (c:UInt8):Bool:=ll c||pB c||Ha c
theorem Hb (c:UInt8) (O:VH):VF Tryz.prog 143 [fB c] O (aD fun m O'=>m=mb (jv c)/\O'=O):=by
 have hc:=c.toNat_lt;refine VF.du 21 [.tmp 2] Tryz.func143 ?_;refine ae @fz ?_;refine ah.rt (D4 c _) ?_;rintro _ O2 ⟨rfl,rfl⟩;cases h1:ll c
 ·refine ae @fz ?_;refine ah.rt (pC c _) ?_;rintro _ O2 ⟨rfl,rfl⟩;cases h2:pB c
  ·rcases(show c.toNat=46\/c.toNat=45\/c.toNat=58\/(c.toNat≠46/\c.toNat≠45/\c.toNat≠58)from by omega)with h | h | h | h
   ·rw[show jv c=true by simp[jv,h1,h2,Ha,h]];exact c9 @fz @aE
   ·rw[show jv c=true by simp[jv,h1,h2,Ha,h]];exact c9 @fz @aE
   ·rw[show jv c=true by simp[jv,h1,h2,Ha,h]];exact c9 @fz @aE
   ·rw[show jv c=false by simp[jv,h1,h2,Ha,h]];exact c9 @fz @aE
  ·rw[show jv c=true by simp[jv,h1,h2]];exact c9 @fz @aE
 ·rw[show jv c=true by simp[jv,h1]];exact c9 @fz @aE
theorem we (c:UInt8) (O:VH):VF Tryz.prog 310 [fB c] O (aD fun m O'=>m=mb (mh c)/\O'=O):=by
 have hc:=c.toNat_lt;refine VF.du 9 [.tmp 2] Tryz.func310 ?_;by_cases h:32<=c.toNat
 ·rw[show mh c=true by simp[mh];omega];exact c9 @fz @aE
 ·refine ao @fz @aE ?_;refine ah.rt (pE c _) ?_;rintro _ O2 ⟨rfl,rfl⟩;rw[show mh c=lJ c by unfold mh lJ;rw[decide_eq_decide];omega];exact c9 @fz @aE
def jN (s:Bs):Nat:=if ll (s.headD 0)&& !s.isEmpty then(s.takeWhile jv).length else 0
theorem BU (s:Bs):jN s<=s.length:=by
 unfold jN;split
 ·exact nN _ _
 ·exact Nat.zero_le _
theorem ac1 (s:Bs) (O:VH) (hs:s.length<=maxLen):VF Tryz.prog 312 [.str s] O (aD fun m O'=>m=mi (jN s)/\O'=O):=by
 refine VF.du 13 [.tmp 2] Tryz.func312 ?_;cases s with
 | nil=>
   refine ao @fz (show(([]:List UInt8)==[])=true from rfl) ?_;rfl
 | cons c s=>
   refine aI @fz (show((c::s)==[])=false from rfl) @aee ?_;refine ah.rt (D4 c _) ?_;rintro _ O2 ⟨rfl,rfl⟩;cases h1:ll c
   ·refine ae @fz ?_;simp[jN,h1]
   ·rw[show jN (c::s)=((c::s).takeWhile jv).length by simp[jN,h1]];refine ae @fz ?_;refine ah.rt (IC 143 jv (c::s) _ hs (fun c O=>Hb c O) (by kernel_rfl)) ?_;rintro _ O2 ⟨rfl,rfl⟩;exact eW @fz
def lC (c:UInt8):Bool:=jv c&&decide (c.toNat≠58)
theorem UQ (c:UInt8) (O:VH):VF Tryz.prog 110 [fB c] O (aD fun m O'=>m=mb (lC c)/\O'=O):=by
 have hc:=c.toNat_lt;refine VF.du 9 [.tmp 2] Tryz.func110 ?_;refine ae @fz ?_;refine ah.rt (Hb c _) ?_;rintro _ O2 ⟨rfl,rfl⟩;cases h1:jv c
 ·rw[show lC c=false by simp[lC,h1]];exact eW @fz
 ·by_cases h:c.toNat=58
  ·rw[show lC c=false by simp[lC,h]];exact c9 @fz @aE
  ·rw[show lC c=true by simp[lC,h1,h]];exact c9 @fz @aE
def eS (s:Bs):Bool:=s.all lC&&decide (1<=s.length)&&decide (s.length<=64)
theorem sI (s:Bs) (O:VH) (hs:s.length<=maxLen):VF Tryz.prog 83 [.str s] O (aD fun m O'=>m=mb (eS s)/\O.Ge O'):=by
 have hm:(s.length:Int)<=9223372036854775807:=by simp[maxLen]at hs;omega
 have rJ:=VH.aV O (.cells (s.map fB));have zE:=(VH.Ge.refl O).push (.cells (s.map fB));refine VF.du 24 [.tmp 2] Tryz.func83 ?_;refine ae @fz ?_;refine VL.bytes aa (el:=5) (l:=s) rfl rfl (by rw[T9];rfl) (by rw[tA];rfl) (by rw[T5];rfl) hs rfl fun cap h1 h2=>WL.sound aa ?_
 refine ae @fz ?_;refine WC.iA [8] [0,6,7] (fun j:Nat=>[mi j]) (fun j O'=>(O.push (.cells (s.map fB))).Ge O'/\j<=s.length/\(s.take j).all lC=true) (fun j=>s.length - j) (0) ?_ ?_
 ·exact⟨VH.Ge.refl _,Nat.zero_le _,rfl⟩
 rintro j O2 ⟨oI,hj,j9⟩;have wS:=(oI.hp O.next (Nat.lt_succ_self _)).trans rJ;by_cases h2:j<s.length
 ·have np:=List.getElem?_eq_getElem h2;have iZ:(s.take (j+1)).all lC=lC s[j]:=by rw[cY _ _ h2,List.all_append,j9];simp
  have fH:lC s[j]=false->eS s=false:=fun h=>by
   unfold eS;rw[List.all_eq_false.2 ⟨s[j],List.getElem_mem h2,by simp[h]⟩];rfl
  generalize s[j]=c at*;refine aI @fz @np @wS ?_;refine ah.rt (UQ c _) ?_;rintro _ O3 ⟨rfl,rfl⟩;cases hb:lC c
  ·rw[fH hb];refine ae @fz ?_;exact zE.trans oI
  ·refine ae @fz ?_;exact az.next (j+1) ⟨oI,by omega,iZ.trans hb⟩
 ·obtain rfl:j=s.length:=by omega
  rw[List.take_length]at j9;unfold eS;rw[j9];by_cases h0:1<=s.length
  ·by_cases D2:s.length<=64
   ·rw[decide_eq_true h0,decide_eq_true D2];refine ae @fz ?_;exact zE.trans oI
   ·rw[decide_eq_true h0,decide_eq_false D2];refine ae @fz ?_;exact zE.trans oI
  ·rw[decide_eq_false h0];refine ae @fz ?_;exact zE.trans oI
set_option linter.defProp false in
def nC:=And.intro fz<|And.intro AI<|And.intro BR YV
structure Gv where
 g:Bs
 a:Bs
 v:Bs
 deriving DecidableEq
def bS (x:Gv):List MV:=[.str x.g,.str x.a,.str x.v]
structure fJ where
 g:Bs
 a:Bs
 deriving DecidableEq
def bV (x:fJ):List MV:=[.str x.g,.str x.a]
structure Ky where
 g:Bs
 a:Bs
 t:Bs
 c:Bs
 deriving DecidableEq
def fQ (x:Ky):List MV:=[.str x.g,.str x.a,.str x.t,.str x.c]
def zF (x:Gv):Bool:=eS x.g&&eS x.a&&uQ x.v
theorem UR (x:Gv) (O:VH) (h1:x.g.length<=maxLen) (h2:x.a.length<=maxLen) (h3:x.v.length<=maxLen):VF Tryz.prog 61 [.agg (bS x)] O (aD fun m O'=>m=mb (zF x)/\O.Ge O'):=by
 obtain⟨g,a,v⟩:=x;dsimp only at h1 h2 h3;unfold zF bS;dsimp only;have hk:=VH.aV O (.cells [.str g,.str a,.str v]);have kU:=(VH.Ge.refl O).push (.cells [.str g,.str a,.str v]);have hn0:O.next<(O.push (.cells [.str g,.str a,.str v])).next:=Nat.lt_succ_self _;refine VF.du 16 [.tmp 2] Tryz.func61 ?_;refine ao @nC @hk ?_;generalize O.push (.cells [.str g,.str a,.str v])=O1 at*;refine ah.rt (sI g _ h1) ?_;rintro _ O2 ⟨rfl,ax⟩;have iB:=ax.next;cases eS g
 ·refine ae @nC ?_;exact kU.trans ax
 ·refine aI @nC @hk ax.hp ?_;refine ah.rt (sI a _ h2) ?_;rintro _ O3 ⟨rfl,aJ⟩;have gL:=aJ.next;cases eS a
  ·refine ae @nC ?_;exact kU.trans (ax.trans aJ)
  ·refine de @nC @hk ax.hp aJ.hp ?_;refine ah.rt (Pr v _ h3) ?_;rintro _ O4 ⟨rfl,bg⟩;refine ae @nC ?_;exact kU.trans (ax.trans (aJ.trans bg))
def wg (s:Bs):Bool:=s==[42]||eS s
theorem Hc (s:Bs) (O:VH) (hs:s.length<=maxLen):VF Tryz.prog 321 [.str s] O (aD fun m O'=>m=mb (wg s)/\O.Ge O'):=by
 unfold wg;refine VF.du 9 [.tmp 2] Tryz.func321 ?_;cases h:s==[42]
 ·refine ao @nC @h ?_;refine ah.rt (sI s _ hs) ?_;rintro _ O2 ⟨rfl,ax⟩;refine ae @nC ?_;exact ax
 ·refine ao @nC @h ?_;exact VH.Ge.refl _
def zG (x:fJ):Bool:=wg x.g&&wg x.a
theorem FT (x:fJ) (O:VH) (h1:x.g.length<=maxLen) (h2:x.a.length<=maxLen):VF Tryz.prog 317 [.agg (bV x)] O (aD fun m O'=>m=mb (zG x)/\O.Ge O'):=by
 obtain⟨g,a⟩:=x;dsimp only at h1 h2;unfold zG bV;dsimp only;have hk:=VH.aV O (.cells [.str g,.str a]);have kU:=(VH.Ge.refl O).push (.cells [.str g,.str a]);have hn0:O.next<(O.push (.cells [.str g,.str a])).next:=Nat.lt_succ_self _;refine VF.du 11 [.tmp 2] Tryz.func317 ?_;refine ao @nC @hk ?_;generalize O.push (.cells [.str g,.str a])=O1 at*;refine ah.rt (Hc g _ h1) ?_;rintro _ O2 ⟨rfl,ax⟩;have iB:=ax.next;cases wg g
 ·refine ae @nC ?_;exact kU.trans ax
 ·refine aI @nC @hk ax.hp ?_;refine ah.rt (Hc a _ h2) ?_;rintro _ O3 ⟨rfl,aJ⟩;refine ae @nC ?_;exact kU.trans (ax.trans aJ)
def BV (p x:fJ):Bool:=(p.g==[42]||p.g==x.g)&&(p.a==[42]||p.a==x.a)
theorem Pv (p x:fJ) (O:VH):VF Tryz.prog 97 [.agg (bV p),.agg (bV x)] O (aD fun m O'=>m=mb (BV p x)/\O.Ge O'):=by
 obtain⟨g,a⟩:=p;obtain⟨g',a'⟩:=x;unfold BV bV;dsimp only;have kU:=((VH.Ge.refl O).push (.cells [.str g,.str a])).push (.cells [.str g',.str a']);refine VF.du 27 [.tmp 4] Tryz.func97 ?_;cases h1:g==[42]<;>cases h2:g==g'<;>cases h3:a==[42]<;>cases h4:a==a'
 all_goals
  refine gW @nC @h1 @h2 @h3 @h4 ?_;exact kU
def dR (n:Int):Bs:=if n=1 then[99,111,109,112,105,108,101]else if n=2 then[114,117,110,116,105,109,101]else if n=3 then[112,114,111,118,105,100,101,100]else if n=4 then[115,121,115,116,101,109]else if n=5 then[116,101,115,116]else if n=6 then[105,109,112,111,114,116]else[]
theorem IG (n:Int) (O:VH):VF Tryz.prog 78 [mi n] O (aD fun m O'=>m= .str (dR n)/\O'=O):=by
 unfold dR;refine VF.du 16 [.tmp 2] Tryz.func78 ?_;by_cases h1:n=1
 ·refine ae @nC ?_;simp[h1]
 by_cases h2:n=2
 ·refine ae @nC ?_;simp[h1,h2]
 by_cases h3:n=3
 ·refine ae @nC ?_;simp[h1,h2,h3]
 by_cases h4:n=4
 ·refine ae @nC ?_;simp[h1,h2,h3,h4]
 by_cases h5:n=5
 ·refine ae @nC ?_;simp[h1,h2,h3,h4,h5]
 by_cases h6:n=6
 ·refine ae @nC ?_;simp[h1,h2,h3,h4,h5,h6]
 rw[if_neg h1,if_neg h2,if_neg h3,if_neg h4,if_neg h5,if_neg h6];exact eW @nC
def Ll (o i:Int):Int:=if ¬(o=1\/o=2\/o=3\/o=5)then 0 else if i≠1/\i≠2 then 0 else if o=1 then i else o
theorem US (o i:Int) (O:VH):VF Tryz.prog 129 [mi o,mi i] O (aD fun m O'=>m=mi (Ll o i)/\O'=O):=by
 refine VF.du 23 [.tmp 4] Tryz.func129 ?_;rcases(show o=1\/o=2\/o=3\/o=5\/(o≠1/\o≠2/\o≠3/\o≠5)from by omega)with h | h | h | h | h
 rotate_right
 ·rw[show Ll o i=0 by simp[Ll,h]];obtain⟨h1,h2,h3,h4⟩:=h;exact eW @nC
 all_goals
  subst h;rcases(show i=1\/i=2\/(i≠1/\i≠2)from by omega)with h | h | h
 all_goals
  refine ae @nC ?_;simp[Ll,h]
def mj (k:Ky):Bs:=k.g++[58]++k.a++[58]++k.t++(if k.c=[]then[]else[58]++k.c)
theorem Lm (k:Ky) (O:VH) (h1:k.g.length<=1000000) (h2:k.a.length<=1000000) (h3:k.t.length<=1000000) (h4:k.c.length<=1000000):VF Tryz.prog 77 [.agg (fQ k)] O (aD fun m O'=>m= .str (mj k)/\O.Ge O'):=by
 obtain⟨g,a,t,c⟩:=k;have kU:=(VH.Ge.refl O).push (.cells [.str g,.str a,.str t,.str c]);unfold mj fQ;dsimp only at h1 h2 h3 h4 ⊢;refine VF.du 23 [.tmp 2] Tryz.func77 ?_;cases c with
 | nil=>
   refine aI @nC (show(([]:List UInt8)==[])=true from rfl) @List.append_nil.{0} ?_;exact kU
 | cons b c=>
   simp only[List.length_cons]at h4;refine ao @nC (show((b::c)==[])=false from rfl) ?_;exact⟨by simp,kU⟩
def Tok.id:Tok->Option Nat
 | .own t _=>some t
 | _=>none
structure cP (tk:Tok) (O O':VH):Prop where
 next:O.next<=O'.next
 hp:∀i,i<O.next->Tok.id tk≠some i->O'.hp i=O.hp i
def Ck (O:VH) (tk tk':Tok):Prop:=tk'=tk\/∀i,Tok.id tk'=some i->O.next<=i
section
variable {O O0 O1 O2:VH} {tk t1 t2 w:Tok} {B sz:Nat}
theorem VH.Ge.k (h:O.Ge O1):cP tk O O1:=⟨h.next,fun i hi _=>h.hp i hi⟩
theorem cP.refl:cP tk O O:=⟨Nat.le_refl _,fun _ _ _=>rfl⟩
theorem Ck.refl:Ck O tk tk:=.inl rfl
theorem cP.trans (h:cP tk O O1) (hn:Ck O tk t1) (k:cP t1 O1 O2):cP tk O O2:=⟨Nat.le_trans h.next k.next,fun i hi hne=>by
 have:Tok.id t1≠some i:=fun e=>by
  rcases hn with rfl | hn
  ·exact hne e
  ·have:=hn i e;omega
 rw[k.hp i (Nat.lt_of_lt_of_le hi h.next) this,h.hp i hi hne]⟩
theorem cP.ge (h:cP tk O O1) (k:O1.Ge O2):cP tk O O2:=⟨Nat.le_trans h.next k.next,fun i hi hne=>by rw[k.hp i (Nat.lt_of_lt_of_le hi h.next),h.hp i hi hne]⟩
theorem cP.pre (h:O.Ge O1) (k:cP tk O1 O2):cP tk O O2:=⟨Nat.le_trans h.next k.next,fun i hi hne=>by rw[k.hp i (Nat.lt_of_lt_of_le hi h.next) hne,h.hp i hi]⟩
theorem Ck.trans (h:Ck O tk t1) (hle:O.next<=O1.next) (k:Ck O1 t1 t2):Ck O tk t2:=by
 rcases k with rfl | k
 ·exact h
 ·exact .inr fun i e=>Nat.le_trans hle (k i e)
theorem App.ou (h:App O B sz tk) {i:Nat} (e:Tok.id tk=some i):B<=i/\i<O.next:=by
 cases tk with
 | own t k=>injection e with e;subst e;exact h.2.2
 | _=>cases e
theorem cP.app (h:cP tk O O1) (hw:App O B sz w) (hne:∀i,Tok.id tk=some i->Tok.id w≠some i):App O1 B sz w:=by
 cases w with
 | own t j=>
   obtain⟨h1,h2,h3,h4⟩:=hw;refine⟨h1,?_,h3,Nat.lt_of_lt_of_le h4 h.next⟩;rw[h.hp t h4 (fun e=>hne t e rfl)];exact h2
 | nil=>trivial
 | full=>trivial
 | aq=>exact hw.elim
theorem cP.after (h:App O B sz tk):cP tk O (O.after tk):=⟨by rw[VH.eN];omega,fun i hi hne=>by
 cases tk with
 | own t k=>exact(VH.bw (O.kill t) _ hi).trans (VH.kC _ (fun e=>hne (by rw[e];rfl)))
 | _=>exact VH.bw _ _ hi⟩
theorem Ck.after:Ck O tk (.own O.next sz):=.inr fun i e=>by injection e with e;omega
theorem cP.eo (hg:O0.Ge O) (ha:App O O0.next sz tk) (k:cP tk O O1):O0.Ge O1:=⟨Nat.le_trans hg.next k.next,fun i hi=>by
 rw[k.hp i (Nat.lt_of_lt_of_le hi hg.next) (fun e=>by have:=(ha.ou e).1;omega),hg.hp i hi]⟩
theorem cP.Cl (ha:App O O.next sz tk) (k:cP tk O O1):O.Ge O1:=cP.eo (VH.Ge.refl O) ha k
theorem App.ge (h:App O B sz tk) (k:O.Ge O1):App O1 B sz tk:=cP.app (tk:=.nil) (k.k) h (fun _ e=>by cases e)
theorem App.nil:App O B sz .nil:=trivial
end
theorem fR {tab:b9} {O:VH} {t el:TypeId} {u:TypeDesc} {a b sz Xk:Nat} {z y:List MV} (h:tab t=some ⟨.slice el,a,b,z⟩) (h2:tab el=some ⟨u,sz,Xk,y⟩) {B n:Nat} {cs ds es:List MV} {tk:Tok} (ha:App O B sz tk)
  (hc:cs.length=n*sz) (hd:ds.length=sz) (hl:ds.all dJ=true) (hs:0<sz) (hb:(n+1)*Xk<=140737488355328) (hm:n+1<=maxLen) (ic:cO cs=cs) (qS:cO ds=es):
  ∃m,gY tab O t (.sl n cs tk) (.sl 1 ds .full)=some (m,O.after tk)/\oH m= .sl (n+1) (cs++es) (.own O.next sz):=
 ⟨_,bo (tk':=.full) h h2 ha hc (by rw[hd,Nat.one_mul]) hl hs (by decide) hb hm,by rw[rG,mU,ic,qS]⟩
section
variable {P:Program} {n:Sz} {D:List Deferred} {c:Code} {e:Env} {O:VH} {Q:VQ} {z cs:List MV} {md:Md} {d:Option Tmp} {K:Env->VH->Prop} {fv:Option MV} {ms:Option (List MV)}
def pF (O:VH) (cs:List MV) (O3:VH):Prop:=O.Ge O3/\O3.hp O.next=some (.cells cs)/\O3.next=O.next+1
theorem pF.al:pF O cs ((O.push (.cells z)).set O.next (.cells cs)):=⟨((VH.Ge.refl O).push _).set (Nat.le_refl _) _,VH.an _ _ _,rfl⟩
theorem pF.bx:pF O cs (O.push (.cells cs)):=⟨(VH.Ge.refl O).push _,VH.aV _ _,rfl⟩
theorem VC.al (h:∀O3,pF O cs O3->VC P n D c e O3 Q):VC P n D c e ((O.push (.cells z)).set O.next (.cells cs)) Q:=h _ pF.al
theorem VC.bx (h:∀O3,pF O cs O3->VC P n D c e O3 Q):VC P n D c e (O.push (.cells cs)) Q:=h _ pF.bx
theorem ah.bx (h:∀O3,pF O cs O3->ah P n md Q d O3 K e fv ms):ah P n md Q d (O.push (.cells cs)) K e fv ms:=h _ pF.bx
end
theorem List.pH {α :Type} {a b:List α} {k n:Nat} (h:a.length=k):(a++b).drop (k+n)=b.drop n:=by
 rw[<-h, <-List.drop_drop,List.drop_left]
theorem aT {α :Type} {f: α ->List MV} {k:Nat} (hf:∀x,(f x).length=k) (L:List α):(L.flatMap f).length=L.length*k:=by
 induction L with
 | nil=>simp
 | cons x L ih=>rw[List.flatMap_cons,List.length_append,ih,hf,List.length_cons,Nat.succ_mul,Nat.add_comm]
theorem cg {α :Type} {f: α ->List MV} {k:Nat} (hf:∀x,(f x).length=k):∀(L:List α) (i:Nat) (h:i<L.length),((L.flatMap f).drop (i*k)).take k=f L[i]
 | x::L,0,_=>by rw[Nat.zero_mul,List.drop_zero,List.flatMap_cons,List.take_left' (hf x)];rfl
 | x::L,i+1,h=>by
   have:=cg hf L i (by simpa using h);rw[List.flatMap_cons,Nat.succ_mul,Nat.add_comm,List.pH (hf x)];exact this
inductive Nd where
 | mk (name:Bs) (attrs:List (Bs×Bs)) (kids:List Nd) (text:Bs)
def aY (x:Bs×Bs):List MV:=[.str x.1,.str x.2]
mutual
def df:Nd->List MV
 | .mk n a k t=>[.str n,.sl a.length (a.flatMap aY) .aq,.sl k.length (ay k) .aq,.str t]
def ay:List Nd->List MV
 | []=>[]
 | x::r=>df x++ay r
end
theorem dY (L M:List Nd):ay (L++M)=ay L++ay M:=by
 induction L with
 | nil=>rw[List.nil_append,ay,List.nil_append]
 | cons x L ih=>rw[List.cons_append,ay,ay,ih,List.append_assoc]
theorem lK (x:Nd):(df x).length=4:=by cases x;rw[df];rfl
theorem cZ (L:List Nd):(ay L).length=L.length*4:=by
 induction L with
 | nil=>rw[ay];rfl
 | cons x L ih=>rw[ay,List.length_append,lK,ih,List.length_cons];omega
theorem fa (x:Bs×Bs):(aY x).length=2:=rfl
theorem mV (x:fJ):(bV x).length=2:=rfl
theorem fS (L:List (Bs×Bs)):cO (L.flatMap aY)=L.flatMap aY:=kE (fun x=>by simp only[aY,wu]) L
mutual
theorem zH:∀x,cO (df x)=df x
 | .mk n a k t=>by
   simp only[df,wu,fS];rw[eP k]
theorem eP:∀L,cO (ay L)=ay L
 | []=>by rw[ay,G5]
 | x::r=>by rw[ay,mU,zH x,eP r]
end
structure Dp where
 g:Bs
 a:Bs
 v:Bs
 t:Bs
 c:Bs
 s:Int
 o:Int
 x:List fJ
 deriving DecidableEq
def aQ (d:Dp):List MV:=[.str d.g,.str d.a,.str d.v,.str d.t,.str d.c,mi d.s,mi d.o,.sl d.x.length (d.x.flatMap bV) .aq]
theorem fX (x:Dp):(aQ x).length=8:=rfl
structure Pm where
 hp:Bool
 par:Gv
 g:Bs
 a:Bs
 v:Bs
 pk:Bs
 props:List (Bs×Bs)
 eu:List Dp
 ec:List Dp
 deriving DecidableEq
def fY (p:Pm):List MV:=[mb p.hp,.str p.par.g,.str p.par.a,.str p.par.v,.str p.g,.str p.a,.str p.v,.str p.pk,.sl p.props.length (p.props.flatMap aY) .aq,.sl p.eu.length (p.eu.flatMap aQ) .aq,.sl p.ec.length (p.ec.flatMap aQ) .aq]
theorem mW (L:List fJ):cO (L.flatMap bV)=L.flatMap bV:=kE (fun x=>by simp only[bV,wu]) L
theorem kV (L:List Dp):cO (L.flatMap aQ)=L.flatMap aQ:=kE (fun x=>by simp only[aQ,ar,wu,mW]) L
theorem UT (p:Pm):cO (fY p)=fY p:=by simp only[fY,a_,wu,fS,kV]
set_option linter.defProp false in
def fU:=And.intro nC<|And.intro tu<|And.intro nV<|And.intro AH<|And.intro uP<|And.intro DW aeh
def eJ (O:VH) (B sz:Nat) (tk:Tok) (O':VH) (tk':Tok):Prop:=cP tk O O'/\App O' B sz tk'/\Ck O tk tk'
theorem eJ.refl {O:VH} {B sz:Nat} {tk:Tok} (h:App O B sz tk):eJ O B sz tk O tk:=⟨cP.refl,h,Ck.refl⟩
theorem eJ.trans {O O1 O2:VH} {B sz:Nat} {tk t1 t2:Tok} (h:eJ O B sz tk O1 t1) (k:eJ O1 B sz t1 O2 t2):eJ O B sz tk O2 t2:=
 ⟨h.1.trans h.2.2 k.1,k.2.1,h.2.2.trans h.1.next k.2.2⟩
theorem eJ.after {O:VH} {B sz:Nat} {tk:Tok} (h:App O B sz tk) (hB:B<=O.next):eJ O B sz tk (O.after tk) (.own O.next sz):=⟨cP.after h,App.after hB,Ck.after⟩
theorem eJ.ge {O O1 O2:VH} {B sz:Nat} {tk t1:Tok} (h:eJ O B sz tk O1 t1) (k:O1.Ge O2):eJ O B sz tk O2 t1:=⟨h.1.ge k,h.2.1.ge k,h.2.2⟩
theorem eJ.pre {O O1 O2:VH} {B sz:Nat} {tk t1:Tok} (g:O.Ge O1) (h:eJ O1 B sz tk O2 t1):eJ O B sz tk O2 t1:=⟨cP.pre g h.1,h.2.1,h.2.2.elim .inl fun k=>.inr fun i e=>Nat.le_trans g.next (k i e)⟩
theorem eJ.eo {O O1:VH} {sz:Nat} {tk t1:Tok} (ha:App O O.next sz tk) (h:eJ O O.next sz tk O1 t1):O.Ge O1:=cP.Cl ha h.1
theorem App.less {O:VH} {B B' sz:Nat} {tk:Tok} (h:App O B sz tk) (hB:B'<=B):App O B' sz tk:=by
 cases tk with
 | own t k=>exact⟨h.1,h.2.1,Nat.le_trans hB h.2.2.1,h.2.2.2⟩
 | nil=>trivial
 | full=>trivial
 | aq=>exact h.elim
theorem App.set {O:VH} {B sz k:Nat} {tk:Tok} {x:b_} {cs:List MV} (h:App O B sz tk) (hk:O.hp k=some (.cells cs)):App (O.set k x) B sz tk:=by
 cases tk with
 | own t j=>exact⟨h.1,(VH.ak _ _ (fun e=>by subst e;rw[h.2.1]at hk;cases hk)).trans h.2.1,h.2.2.1,h.2.2.2⟩
 | nil=>trivial
 | full=>trivial
 | aq=>exact h.elim
theorem eJ.fresh {O O1 O2:VH} {sz:Nat} {t1:Tok} (g:O.Ge O1) (h:eJ O1 O1.next sz .nil O2 t1):eJ O O.next sz .nil O2 t1:=
 ⟨cP.pre g h.1,h.2.1.less g.next,h.2.2.elim .inl fun k=>.inr fun i e=>Nat.le_trans g.next (k i e)⟩
def bZ (L:List Nd) (n t:Bs):List Nd:=if t=[]then L else L++[.mk n [] [.mk [] [] [] t] []]
theorem dh (L:List Nd) (n t:Bs):(bZ L n t).length<=L.length+1:=by unfold bZ;split<;>simp
theorem fT {O:VH} {B:Nat} (L:List Nd) (tk:Tok) (n t:Bs) (ha:App O B 4 tk) (hB:B<=O.next) (hL:L.length<=100000):VF Tryz.prog 70 [.sl L.length (ay L) tk,.str n,.str t] O (aD fun m O'=>∃tk',m= .sl (bZ L n t).length (ay (bZ L n t)) tk'/\eJ O B 4 tk O' tk'):=by
 refine VF.fg ?_;refine VF.du 18 [.tmp 6] Tryz.func70 ?_;unfold bZ;cases t with
 | nil=>
   refine aI @fU (show(([]:List UInt8)==[])=true from rfl) @eP ?_;exact⟨tk,rfl,eJ.refl ha⟩
 | cons c t=>
   refine ao @fU (show((c::t)==[])=false from rfl) ?_;have cH:=bo (tk':=.full) (n:=L.length) (k:=1) (cs:=ay L) (ds:=[.str n,.sl 0 [] .nil,.sl 1 [.str [],.sl 0 [] .nil,.sl 0 [] .nil,.str (c::t)] .full,.str []]) nV tu.1.1 ha (cZ L) rfl rfl (by decide) (by decide) (by omega) (by simp only[maxLen];omega);refine VL.app cH ?_;refine ao @fU @eP ?_;rw[if_neg (by simp)];refine⟨_,?_,eJ.after ha hB⟩;rw[dY];simp only[ay,df,List.flatMap_nil,List.append_nil,List.length_append,List.length_cons,List.length_nil,Nat.zero_add]
def jA (L:List Nd) (n:Bs) (K:List Nd):List Nd:=if K=[]then L else L++[.mk n [] K []]
theorem pI (L:List Nd) (n:Bs) (K:List Nd):(jA L n K).length<=L.length+1:=by unfold jA;split<;>simp
theorem rK {O:VH} {B:Nat} (L:List Nd) (tk:Tok) (n:Bs) (K:List Nd) (tK:Tok) (ha:App O B 4 tk) (hB:B<=O.next) (hL:L.length<=100000) (hK:K.length<=100000):VF Tryz.prog 69 [.sl L.length (ay L) tk,.str n,.sl K.length (ay K) tK] O (aD fun m O'=>∃tk',m= .sl (jA L n K).length (ay (jA L n K)) tk'/\eJ O B 4 tk O' tk'):=by
 refine VF.fg ?_;refine VF.du 17 [.tmp 6] Tryz.func69 ?_;unfold jA;by_cases h:K=[]
 ·subst h;refine aI @fU @eP @List.length_nil.{0} ?_;exact⟨tk,rfl,eJ.refl ha⟩
 ·have h0:0<K.length:=List.length_pos_iff.2 h;refine ae @fU ?_;have cH:=bo (tk':=.full) (n:=L.length) (k:=1) (cs:=ay L) (ds:=[.str n,.sl 0 [] .nil,.sl K.length (ay K) tK,.str []]) nV tu.1.1 ha (cZ L) rfl rfl (by decide) (by decide) (by omega) (by simp only[maxLen];omega);refine VL.app cH ?_;refine ao @fU @eP ?_;rw[if_neg h];refine⟨_,?_,eJ.after ha hB⟩;rw[dY];simp only[ay,df,List.flatMap_nil,List.append_nil,List.length_append,List.length_cons,List.length_nil,Nat.zero_add]
abbrev dS:Bs:=[103,114,111,117,112,73,100]
abbrev dL:Bs:=[97,114,116,105,102,97,99,116,73,100]
abbrev fp:Bs:=[118,101,114,115,105,111,110]
abbrev zI:Bs:=[116,121,112,101]
abbrev zJ:Bs:=[99,108,97,115,115,105,102,105,101,114]
abbrev qx:Bs:=[115,99,111,112,101]
abbrev mn:Bs:=[111,112,116,105,111,110,97,108]
abbrev jW:Bs:=[116,114,117,101]
abbrev kW:Bs:=[102,97,108,115,101]
abbrev tC:Bs:=[101,120,99,108,117,115,105,111,110]
abbrev lD:Bs:=[101,120,99,108,117,115,105,111,110,115]
abbrev lp:Bs:=[100,101,112,101,110,100,101,110,99,121]
abbrev lE:Bs:=[100,101,112,101,110,100,101,110,99,105,101,115]
def gq (i:fJ):Nd:=.mk tC [] (bZ (bZ [] dS i.g) dL i.a) []
def xT (d:Dp):List Nd:=
 let k:=bZ (bZ (bZ (bZ (bZ (bZ [] dS d.g) dL d.a) fp d.v) zI d.t) zJ d.c) qx (dR d.s)
 if d.o=1 then bZ k mn jW else if d.o=2 then bZ k mn kW else k
def eT (d:Dp):Nd:=.mk lp [] (jA (xT d) lD (d.x.map gq)) []
def nO (L:List Nd) (D:List Dp):List Nd:=jA L lE (D.map eT)
theorem zK {O:VH} {B:Nat} (L:List Nd) (tl:Tok) (D:List Dp) (tD:Tok) (ha:App O B 4 tl) (hB:B<=O.next) (hL:L.length<=10000) (hD:D.length<=10000) (hx:∀d∈D,d.x.length<=10000):VF Tryz.prog 71 [.sl L.length (ay L) tl,.sl D.length (D.flatMap aQ) tD] O (aD fun m O'=>∃tk',m= .sl (nO L D).length (ay (nO L D)) tk'/\eJ O B 4 tl O' tk'):=by
 refine VF.fg ?_;have hlen:=aT fX D;refine VF.bO 82 [.tmp 4] Tryz.func71 ?_;refine VC.ag aa (ae @fU ?_);refine VC.ag aa (ae @fU ?_);refine VC.join aa [0,5] (fun tk:Tok=>[.sl L.length (ay L) tl,.sl (D.map eT).length (ay (D.map eT)) tk]) (fun tk O'=>O.Ge O') ?_ ?_;rotate_left
 ·intro tk O9 bn;refine ae @fU ?_;refine ah.rt (rK L tl lE (D.map eT) tk (ha.ge bn) (Nat.le_trans hB bn.next) (by omega) (by rw[List.length_map];omega)) ?_;rintro _ Oz ⟨tz,rfl,gz⟩;refine ao @fU @eP ?_;exact⟨tz,rfl,eJ.pre bn gz⟩
 refine VC.ag aa (ae @fU ?_);refine VC.aB ?_;refine VC.bP [5,14] [0,12,13] (fun x:Nat×Tok=>[.sl ((D.take x.1).map eT).length (ay ((D.take x.1).map eT)) x.2,mi x.1]) (fun x O'=>O.Ge O'/\App O' O.next 4 x.2/\x.1<=D.length) (fun x=>D.length - x.1) ((0,.nil)) ?_ ?_
 ·exact⟨VH.Ge.refl _,trivial,Nat.zero_le _⟩
 rintro⟨j,ta⟩ O2 ⟨ax,cH,hj⟩;dsimp only at cH hj ⊢;by_cases h2:j<D.length;rotate_left
 ·obtain rfl:j=D.length:=by omega
  rw[List.take_length];refine WC.sound aa (ae @fU ?_);exact aA.mk ta ax
 have bA:=cg fX D j h2;have iZ:(D.take (j+1)).map eT=(D.take j).map eT++[eT D[j]]:=by rw[cY _ _ h2,List.map_append];rfl
 have Cm:=hx D[j] (List.getElem_mem h2);have hAl:((D.take j).map eT).length<=10000:=by rw[List.length_map,List.length_take];omega
 generalize D[j]=d at*;generalize (D.take j).map eT=A at*;obtain⟨g,a,v,t,c,s,o,X⟩:=d;dsimp only at Cm;simp only[aQ]at bA;refine VC.ag aa (ae @fU ?_);refine VC.ag aa (ae @fU ?_);refine VC.bC (VC.aB ?_);refine VC.ag aa (ao @fU @bA ?_);refine VC.al ?_;rintro O3 ⟨aJ,hk,gL⟩;have h0:eJ O3 O3.next 4 .nil O3 .nil:=eJ.refl App.nil;refine VC.ag aa (ae @fU ?_);refine VC.ag aa (ao @fU @hk ?_);refine ah.rt (fT [] _ dS g h0.2.1 h0.1.next (by first | omega | simp)) ?_;rintro _ OA ⟨t1,rfl,gw⟩;have h1:=h0.trans gw;have l1:=dh [] dS g;clear gw;generalize eK1:bZ [] dS g=K1 at*;have gZ:=(eJ.eo App.nil h1).hp;have hn:=h1.1.next;try simp only[List.length_nil]at l1
 refine ae @fU ?_;refine VC.ag aa (aI @fU @hk @gZ ?_);refine ah.rt (fT K1 _ dL a h1.2.1 h1.1.next (by first | omega | simp)) ?_;rintro _ OB ⟨t2,rfl,gw⟩;have Y4:=h1.trans gw;have l2:=dh K1 dL a;clear gw;generalize eK2:bZ K1 dL a=K2 at*;have gZ:=(eJ.eo App.nil Y4).hp;have hn:=Y4.1.next;try simp only[List.length_nil]at l2
 refine ae @fU ?_;refine VC.ag aa (aI @fU @hk @gZ ?_);refine ah.rt (fT K2 _ fp v Y4.2.1 Y4.1.next (by first | omega | simp)) ?_;rintro _ OC ⟨t3,rfl,gw⟩;have h3:=Y4.trans gw;have l3:=dh K2 fp v;clear gw;generalize eK3:bZ K2 fp v=K3 at*;have gZ:=(eJ.eo App.nil h3).hp;have hn:=h3.1.next;try simp only[List.length_nil]at l3
 refine ae @fU ?_;refine VC.ag aa (aI @fU @hk @gZ ?_);refine ah.rt (fT K3 _ zI t h3.2.1 h3.1.next (by first | omega | simp)) ?_;rintro _ OD ⟨t4,rfl,gw⟩;have h4:=h3.trans gw;have l4:=dh K3 zI t;clear gw;generalize eK4:bZ K3 zI t=K4 at*;have gZ:=(eJ.eo App.nil h4).hp;have hn:=h4.1.next;try simp only[List.length_nil]at l4
 refine ae @fU ?_;refine VC.ag aa (aI @fU @hk @gZ ?_);refine ah.rt (fT K4 _ zJ c h4.2.1 h4.1.next (by first | omega | simp)) ?_;rintro _ OE ⟨t5,rfl,gw⟩;have h5:=h4.trans gw;have l5:=dh K4 zJ c;clear gw;generalize eK5:bZ K4 zJ c=K5 at*;have gZ:=(eJ.eo App.nil h5).hp;have hn:=h5.1.next;try simp only[List.length_nil]at l5
 refine ae @fU ?_;refine VC.ag aa (aI @fU @hk @gZ ?_);refine ah.rt (IG s _) ?_;rintro _ OF ⟨rfl,rfl⟩;refine ae @fU ?_;refine ah.rt (fT K5 _ qx (dR s) h5.2.1 h5.1.next (by first | omega | simp)) ?_;rintro _ OG ⟨t6,rfl,gw⟩;have h6:=h5.trans gw;have l6:=dh K5 qx (dR s);clear gw;generalize eK6:bZ K5 qx (dR s)=K6 at*;have gZ:=(eJ.eo App.nil h6).hp;have hn:=h6.1.next;try simp only[List.length_nil]at l6
 refine ae @fU ?_;have hK:xT ⟨g,a,v,t,c,s,o,X⟩=if o=1 then bZ K6 mn jW else if o=2 then bZ K6 mn kW else K6:=by rw[<-eK6, <-eK5, <-eK4, <-eK3, <-eK2, <-eK1];rfl
 clear eK6 eK5 eK4 eK3 eK2 eK1;have hl7:=dh K6 mn jW;have IH:=dh K6 mn kW;refine VC.join aa [0,5,7,8,9,12,13,14] (fun tk:Tok=>[.sl L.length (ay L) tl,.sl A.length (ay A) ta,.ptr O2.next 0,.sl (xT ⟨g,a,v,t,c,s,o,X⟩).length (ay (xT ⟨g,a,v,t,c,s,o,X⟩)) tk,.sl 0 [] .nil,.sl D.length (D.flatMap aQ) tD,mi D.length,mi j]) (fun tk O'=>eJ O3 O3.next 4 .nil O' tk) ?_ ?_
 ·refine VC.ag aa (aI @fU @hk @gZ ?_);refine VC.aB ?_;by_cases Pw:o=1
  ·rw[hK,if_pos Pw];refine WC.sound aa (ae @fU ?_);refine ah.rt (fT K6 _ mn jW h6.2.1 h6.1.next (by first | omega | simp)) ?_;rintro _ OH ⟨t7,rfl,gw⟩;have h7:=h6.trans gw;have l7:=dh K6 mn jW;clear gw;generalize eK7:bZ K6 mn jW=K7 at*;have gZ:=(eJ.eo App.nil h7).hp;have hn:=h7.1.next;try simp only[List.length_nil]at l7
   refine ae @fU ?_;exact aA.mk t7 h7
  ·rw[hK,if_neg Pw];by_cases Px:o=2
   ·rw[if_pos Px];refine WC.sound aa (ae @fU ?_);refine ah.rt (fT K6 _ mn kW h6.2.1 h6.1.next (by first | omega | simp)) ?_;rintro _ OH ⟨t7,rfl,gw⟩;have h7:=h6.trans gw;have l7:=dh K6 mn kW;clear gw;generalize eK7:bZ K6 mn kW=K7 at*;have gZ:=(eJ.eo App.nil h7).hp;have hn:=h7.1.next;try simp only[List.length_nil]at l7
    refine ae @fU ?_;exact aA.mk t7 h7
   ·rw[if_neg Px];refine WC.sound aa (ae @fU ?_);exact aA.mk t6 h6
 have hKl:(xT ⟨g,a,v,t,c,s,o,X⟩).length<=7:=by rw[hK];split<;>first | omega | (split<;>omega)
 intro tk O4 h7;generalize hKd:xT ⟨g,a,v,t,c,s,o,X⟩=K at*;clear hK hl7 IH h6 gZ hn;have gZ:=(eJ.eo App.nil h7).hp;have hn:=h7.1.next;refine aI @fU @hk @gZ ?_;refine VC.age [0,5,8,9,12,13,14] (fun tx:Tok=>[.sl L.length (ay L) tl,.sl A.length (ay A) ta,.sl K.length (ay K) tk,.sl (X.map gq).length (ay (X.map gq)) tx,.sl D.length (D.flatMap aQ) tD,mi D.length,mi j]) (fun tx O'=>O4.Ge O') ?_ ?_
 ·have II:=aT mV X;refine WC.iA [9,56] [0,5,8,12,13,14,54,55] (fun x:Nat×Tok=>[.sl ((X.take x.1).map gq).length (ay ((X.take x.1).map gq)) x.2,mi x.1]) (fun x O'=>O4.Ge O'/\App O' O4.next 4 x.2/\x.1<=X.length) (fun x=>X.length - x.1) ((0,.nil)) ?_ ?_
  ·exact⟨VH.Ge.refl _,trivial,Nat.zero_le _⟩
  rintro⟨i,tx⟩ O5 ⟨bW,oo,hi⟩;dsimp only at oo hi ⊢;by_cases gd:i<X.length;rotate_left
  ·obtain rfl:i=X.length:=by omega
   rw[List.take_length];refine ae @fU ?_;exact aA.mk tx bW
  have hxt:=cg mV X i gd;have hsx:(X.take (i+1)).map gq=(X.take i).map gq++[gq X[i]]:=by rw[cY _ _ gd,List.map_append];rfl
  have FU:((X.take i).map gq).length<=10000:=by rw[List.length_map,List.length_take];omega
  generalize X[i]=y at*;generalize (X.take i).map gq=E at*;obtain⟨yg,ya⟩:=y;simp only[bV]at hxt;refine ao @fU @hxt ?_;refine VC.al ?_;rintro O6 ⟨fC,mG,ov⟩;refine VC.lY [9,10] ?_;refine ab.av 0 ?_;refine ae @fU ?_;refine ab.av 1 ?_;refine ae @fU ?_;refine ab.av 4 ?_;refine ae @fU ?_;refine ab.ld (m:=.str yg) 2 ?_ ?_
  ·exact c9 @fU @mG
  simp only[aj];refine ab.ld (m:=.str ya) 5 ?_ ?_
  ·exact c9 @fU @mG
  simp only[aj];refine ab.call (i:=3) (fT [] .nil dS yg (App.nil (B:=O6.next)) (Nat.le_refl _) (by simp)) ?_;rintro _ O7 ⟨t7,rfl,g7⟩;simp only[aj];have l7:=dh [] dS yg;generalize e7:bZ [] dS yg=E1 at*;simp only[List.length_nil]at l7;refine⟨eJ.eo App.nil g7,?_⟩;refine ab.call (i:=6) (fT E1 t7 dL ya g7.2.1 g7.1.next (by omega)) ?_;rintro _ O8 ⟨t8,rfl,g8⟩;simp only[aj];have l8:=dh E1 dL ya;have he:gq ⟨yg,ya⟩= .mk tC [] (bZ E1 dL ya) []:=by rw[<-e7];rfl
  generalize bZ E1 dL ya=E2 at*;have h8:=eJ.eo App.nil (g7.trans g8);refine⟨h8,?_⟩;refine ab.av 7 ?_;refine ae @fU ?_;refine ab.op (i:=8) ?_;refine ae @fU ?_;refine⟨h8,?_⟩;refine ab.bH [(9,.one),(10,.av)] ?_;have ik:=fC.trans h8;have Y5:=oo.ge ik;refine ae @fU ?_;obtain⟨mE,fZ,kX⟩:=fR (n:=E.length) (cs:=ay E) (ds:=[.str tC,.sl 0 [] .nil,.sl E2.length (ay E2) t8,.str []]) (es:=df (gq ⟨yg,ya⟩)) nV tu.1.1 Y5 (cZ E) rfl rfl (by decide) (by omega) (by simp only[maxLen];omega) (eP E) (by rw[he];simp only[wu,eP,df];rfl);refine VL.lh fZ kX ?_;refine ae @fU ?_;exact az.next (i+1,.own O8.next 4) ⟨cP.eo (bW.trans ik) Y5 (cP.after Y5),App.after (Nat.le_trans bW.next ik.next),gd⟩ (hl:=(by dsimp only;rw[hsx,dY,List.length_append,ay,ay,List.append_nil];rfl))
 intro tx O5 bW;have h5:=h7.ge bW;refine ae @fU ?_;refine ah.rt (rK K tk lD (X.map gq) tx h5.2.1 h5.1.next (by omega) (by rw[List.length_map];omega)) ?_;rintro _ O6 ⟨tb,rfl,g6⟩;have h6:=h5.trans g6;have uR:=pI K lD (X.map gq);have Fy:eT ⟨g,a,v,t,c,s,o,X⟩= .mk lp [] (jA K lD (X.map gq)) []:=by rw[<-hKd];rfl
 generalize jA K lD (X.map gq)=K9 at*;have Y6:=aJ.trans (eJ.eo App.nil h6);have nW:=cH.ge Y6;refine ae @fU ?_;obtain⟨mE,fZ,kX⟩:=fR (n:=A.length) (cs:=ay A) (ds:=[.str lp,.sl 0 [] .nil,.sl K9.length (ay K9) tb,.str []]) (es:=df (eT ⟨g,a,v,t,c,s,o,X⟩)) nV tu.1.1 nW (cZ A) rfl rfl (by decide) (by omega) (by simp only[maxLen];omega) (eP A) (by rw[Fy];simp only[wu,eP,df];rfl);refine VL.lh fZ kX ?_;refine ae @fU ?_;refine WC.sound aa (ae @fU ?_);exact az.next (j+1,.own O6.next 4) ⟨cP.eo (ax.trans Y6) nW (cP.after nW),App.after (Nat.le_trans ax.next Y6.next),h2⟩ (hl:=(by dsimp only;rw[iZ,dY,List.length_append,ay,ay,List.append_nil];rfl))
set_option linter.defProp false in
def dM:=And.intro fU<|And.intro Lb<|And.intro zA BT
abbrev uS:Bs:=[112,97,114,101,110,116]
abbrev xh:Bs:=[112,97,99,107,97,103,105,110,103]
abbrev kY:Bs:=[112,114,111,112,101,114,116,105,101,115]
abbrev rL:Bs:=[100,101,112,101,110,100,101,110,99,121,77,97,110,97,103,101,109,101,110,116]
abbrev gh:Bs:=[112,114,111,106,101,99,116]
def D5 (p:Pm):List Nd:=if p.hp then jA [] uS (bZ (bZ (bZ [] dS p.par.g) dL p.par.a) fp p.par.v)else[]
def IJ (p:Pm):List Nd:=bZ (bZ (bZ (bZ (D5 p) dS p.g) dL p.a) fp p.v) xh p.pk
def gP (x:Bs×Bs):Nd:=.mk x.1 [] (if x.2=[]then[]else[.mk [] [] [] x.2]) []
def fu (p:Pm):Nd:=.mk gh [] (nO (jA (jA (IJ p) kY (p.props.map gP)) rL (nO [] p.eu)) p.ec) []
theorem Ln (L:List Nd) (D:List Dp):(nO L D).length<=L.length+1:=pI _ _ _
theorem Y7 {O:VH} (p:Pm) (hP:p.props.length<=10000) (hM:p.eu.length<=10000) (hD:p.ec.length<=10000) (hx:∀d∈p.eu++p.ec,d.x.length<=10000):VF Tryz.prog 49 [.agg (fY p)] O (aD fun m O'=>m= .agg (df (fu p))/\O.Ge O'):=by
 refine VF.fg ?_;obtain⟨hp,⟨pg,pa,pv⟩,g,a,v,pk,P,M,D⟩:=p;dsimp only at hP hM hD hx;have hPl:=aT fa P;simp only[fY];refine VF.bO 76 [.cell 2 112] Tryz.func49 ?_;refine VC.ag aa (ae @dM ?_);refine VC.bx ?_;rintro O1 ⟨aM,bR,c5⟩;have hk:O1.hp O.next=some (.cells [mb hp,.str pg,.str pa,.str pv,.str g,.str a,.str v,.str pk,.sl P.length (P.flatMap aY) .aq,.sl M.length (M.flatMap aQ) .aq,.sl D.length (D.flatMap aQ) .aq]):=(aM.hp _ (Nat.lt_succ_self _)).trans (VH.aV _ _)
 replace bR:O1.hp (O.next+1)=some (.cells [.str [],.sl 0 [] .nil,.sl 0 [] .nil,.str []]):=bR
 have lF:=((VH.Ge.refl O).push _).trans aM;have hn0:O1.next=O.next+2:=c5;simp only[a_]at hk;clear aM c5;have h0:eJ O1 O1.next 4 .nil O1 .nil:=eJ.refl App.nil;refine VC.ag aa (ae @dM ?_);have dK:(D5 ⟨hp,⟨pg,pa,pv⟩,g,a,v,pk,P,M,D⟩).length<=1:=by unfold D5;split;exact pI _ _ _;simp
 have hh:IJ ⟨hp,⟨pg,pa,pv⟩,g,a,v,pk,P,M,D⟩=bZ (bZ (bZ (bZ (D5 ⟨hp,⟨pg,pa,pv⟩,g,a,v,pk,P,M,D⟩) dS g) dL a) fp v) xh pk:=rfl;have hw:fu ⟨hp,⟨pg,pa,pv⟩,g,a,v,pk,P,M,D⟩= .mk gh [] (nO (jA (jA (IJ ⟨hp,⟨pg,pa,pv⟩,g,a,v,pk,P,M,D⟩) kY (P.map gP)) rL (nO [] M)) D) []:=rfl;have hpp:D5 ⟨hp,⟨pg,pa,pv⟩,g,a,v,pk,P,M,D⟩=if hp then jA [] uS (bZ (bZ (bZ [] dS pg) dL pa) fp pv)else[]:=rfl
 rw[hh]at hw;clear hh;generalize fu ⟨hp,⟨pg,pa,pv⟩,g,a,v,pk,P,M,D⟩=W at*;generalize D5 ⟨hp,⟨pg,pa,pv⟩,g,a,v,pk,P,M,D⟩=K0 at*;refine VC.bJ [1,2,3,4] (fun tk:Tok=>[.ptr O.next 0,.ptr (O.next+1) 0,.sl K0.length (ay K0) tk,.sl 0 [] .nil]) (fun tk O'=>eJ O1 O1.next 4 .nil O' tk) ?_ ?_
 ·cases hp
  ·refine VC.ag aa (ao @dM @hk ?_);rw[hpp];refine WC.sound aa (ae @dM ?_);exact aA.mk .nil h0
  ·refine VC.ag aa (ao @dM @hk ?_);rw[hpp];refine WC.sound aa (ae @dM ?_);refine VC.lY [] ?_;refine ab.av 0 ?_;refine ae @dM ?_;refine ab.av 1 ?_;refine ae @dM ?_;refine ab.av 2 ?_;refine ae @dM ?_;refine ab.ld (m:=.str pg) 3 ?_ ?_
   ·exact c9 @dM @hk
   simp only[aj];refine ab.av 5 ?_;refine ae @dM ?_;refine ab.av 6 ?_;refine ae @dM ?_;refine ab.ld (m:=.str pa) 7 ?_ ?_
   ·exact c9 @dM @hk
   simp only[aj];refine ab.av 9 ?_;refine ae @dM ?_;refine ab.av 10 ?_;refine ae @dM ?_;refine ab.ld (m:=.str pv) 11 ?_ ?_
   ·exact c9 @dM @hk
   simp only[aj];refine ab.call (i:=4) (fT [] .nil dS pg (App.nil (B:=O1.next)) (Nat.le_refl _) (by simp)) ?_;rintro _ O2 ⟨t2,rfl,g2⟩;simp only[aj];have l2:=dh [] dS pg;generalize bZ [] dS pg=E1 at*;simp only[List.length_nil]at l2;refine⟨eJ.eo App.nil g2,?_⟩;refine ab.call (i:=8) (fT E1 t2 dL pa g2.2.1 g2.1.next (by omega)) ?_;rintro _ O3 ⟨t3,rfl,g3⟩;simp only[aj];have l3:=dh E1 dL pa;generalize bZ E1 dL pa=E2 at*
   replace g3:=g2.trans g3
   refine⟨eJ.eo App.nil g3,?_⟩;refine ab.call (i:=12) (fT E2 t3 fp pv g3.2.1 g3.1.next (by omega)) ?_;rintro _ O4 ⟨t4,rfl,g4⟩;simp only[aj];have l4:=dh E2 fp pv;generalize bZ E2 fp pv=E3 at*
   replace g4:=g3.trans g4
   refine⟨eJ.eo App.nil g4,?_⟩;refine ab.call (i:=13) (rK [] .nil uS E3 t4 (App.nil (B:=O4.next)) (Nat.le_refl _) (by simp) (by omega)) ?_;rintro _ O5 ⟨t5,rfl,g5⟩;simp only[aj];refine⟨(eJ.eo App.nil g4).trans (eJ.eo App.nil g5),?_⟩;refine ab.av 14 ?_;refine ae @dM ?_;refine ab.bH [] ?_;refine ae @dM ?_;exact aA.mk t5 (eJ.fresh (eJ.eo App.nil g4) g5)
 intro tk O2 h2;have gZ:=(eJ.eo App.nil h2).hp;have hn:=h2.1.next;clear hpp;refine VC.ag aa (aI @dM @hk @gZ ?_);refine ah.rt (fT K0 _ dS g h2.2.1 h2.1.next (by first | omega | simp)) ?_;rintro _ OA ⟨t1,rfl,gw⟩;have h3:=h2.trans gw;have l1:=dh K0 dS g;clear gw;generalize eK1:bZ K0 dS g=K1 at*;have gZ:=(eJ.eo App.nil h3).hp;have hn:=h3.1.next;try simp only[List.length_nil]at l1
 refine ae @dM ?_;refine VC.ag aa (aI @dM @hk @gZ ?_);refine ah.rt (fT K1 _ dL a h3.2.1 h3.1.next (by first | omega | simp)) ?_;rintro _ OB ⟨t2,rfl,gw⟩;have h4:=h3.trans gw;have l2:=dh K1 dL a;clear gw;generalize eK2:bZ K1 dL a=K2 at*;have gZ:=(eJ.eo App.nil h4).hp;have hn:=h4.1.next;try simp only[List.length_nil]at l2
 refine ae @dM ?_;refine VC.ag aa (aI @dM @hk @gZ ?_);refine ah.rt (fT K2 _ fp v h4.2.1 h4.1.next (by first | omega | simp)) ?_;rintro _ OC ⟨t3,rfl,gw⟩;have h5:=h4.trans gw;have l3:=dh K2 fp v;clear gw;generalize eK3:bZ K2 fp v=K3 at*;have gZ:=(eJ.eo App.nil h5).hp;have hn:=h5.1.next;try simp only[List.length_nil]at l3
 refine ae @dM ?_;refine VC.ag aa (aI @dM @hk @gZ ?_);refine ah.rt (fT K3 _ xh pk h5.2.1 h5.1.next (by first | omega | simp)) ?_;rintro _ OD ⟨t4,rfl,gw⟩;have h6:=h5.trans gw;have l4:=dh K3 xh pk;clear gw;generalize eK4:bZ K3 xh pk=K4 at*;have gZ:=(eJ.eo App.nil h6).hp;have hn:=h6.1.next;try simp only[List.length_nil]at l4
 refine ae @dM ?_;clear eK1 eK2 eK3 eK4;refine VC.bJ [1,2,3,4] (fun tp:Tok=>[.ptr O.next 0,.ptr (O.next+1) 0,.sl K4.length (ay K4) t4,.sl (P.map gP).length (ay (P.map gP)) tp]) (fun tp O'=>OD.Ge O') ?_ ?_
 ·refine VC.ag aa (aI @dM @hk @gZ ?_);refine VC.aB ?_;refine VC.bP [4,43] [1,2,3,41,42] (fun x:Nat×Tok=>[.sl ((P.take x.1).map gP).length (ay ((P.take x.1).map gP)) x.2,mi x.1]) (fun x O'=>OD.Ge O'/\App O' OD.next 4 x.2/\x.1<=P.length) (fun x=>P.length - x.1) ((0,.nil)) ?_ ?_
  ·exact⟨VH.Ge.refl _,trivial,Nat.zero_le _⟩
  rintro⟨j,tp⟩ O3 ⟨aJ,cH,hj⟩;dsimp only at cH hj ⊢;by_cases aX:j<P.length;rotate_left
  ·obtain rfl:j=P.length:=by omega
   rw[List.take_length];refine WC.sound aa (ae @dM ?_);exact aA.mk tp aJ
  have bA:=cg fa P j aX;have iZ:(P.take (j+1)).map gP=(P.take j).map gP++[gP P[j]]:=by rw[cY _ _ aX,List.map_append];rfl
  have FU:((P.take j).map gP).length<=10000:=by rw[List.length_map,List.length_take];omega
  generalize P[j]=y at*;generalize (P.take j).map gP=E at*;obtain⟨yn,yv⟩:=y;simp only[aY]at bA;refine VC.ag aa (ae @dM ?_);refine VC.ag aa (ae @dM ?_);refine VC.bC (VC.aB ?_);refine VC.ag aa (ao @dM @bA ?_);refine VC.al ?_;rintro O4 ⟨bg,mG,gM⟩;refine VC.ag aa (ao @dM @mG ?_);refine VC.al ?_;rintro O5 ⟨bW,xK,gu⟩;have hkz:O5.hp O3.next=some (.cells [.str yn,.str yv]):=bW.at mG;have lq:=(cH.ge bg).ge bW;have D6:=(aJ.trans bg).trans bW;cases yv with
  | nil=>
    refine WC.sound aa (de @dM @hkz (show(([]:List UInt8)==[])=true from rfl) @xK ?_);obtain⟨mE,fZ,kX⟩:=fR (n:=E.length) (cs:=ay E) (ds:=[.str yn,.sl 0 [] .nil,.sl 0 [] .nil,.str []]) (es:=df (gP (yn,[]))) nV tu.1.1 lq (cZ E) rfl rfl (by decide) (by omega) (by simp only[maxLen];omega) (eP E) (by simp only[wu,gP,df,if_true,List.length_nil,List.flatMap_nil,ay]);refine VL.lh fZ kX ?_;refine ae @dM ?_;refine WC.sound aa (ae @dM ?_);exact az.next (j+1,.own O5.next 4) ⟨cP.eo D6 lq (cP.after lq),App.after D6.next,aX⟩ (hl:=(by dsimp only;rw[iZ,dY,List.length_append,ay,ay,List.append_nil];rfl))
  | cons c yv=>
    refine WC.sound aa (de @dM @hkz (show((c::yv)==[])=false from rfl) @xK ?_);have nW:=lq.set (x:=.cells [.str yn,.sl 0 [] .nil,.sl 1 [.str [],.sl 0 [] .nil,.sl 0 [] .nil,.str (c::yv)] .full,.str []]) xK;have aex:=D6.set (k:=O4.next) (by have:=aJ.next;omega) (.cells [.str yn,.sl 0 [] .nil,.sl 1 [.str [],.sl 0 [] .nil,.sl 0 [] .nil,.str (c::yv)] .full,.str []]);generalize O5.set O4.next (.cells [.str yn,.sl 0 [] .nil,.sl 1 [.str [],.sl 0 [] .nil,.sl 0 [] .nil,.str (c::yv)] .full,.str []])=O6 at*;obtain⟨mE,fZ,kX⟩:=fR (n:=E.length) (cs:=ay E) (ds:=[.str yn,.sl 0 [] .nil,.sl 1 [.str [],.sl 0 [] .nil,.sl 0 [] .nil,.str (c::yv)] .full,.str []]) (es:=df (gP (yn,c::yv))) nV tu.1.1 nW (cZ E) rfl rfl (by decide) (by omega) (by simp only[maxLen];omega) (eP E) (by simp only[wu,gP,df,if_neg (List.cons_ne_nil c yv),List.length_nil,List.length_cons,List.flatMap_nil,ay,List.append_nil,Nat.zero_add]);refine VL.lh fZ kX ?_;refine ae @dM ?_;refine WC.sound aa (ae @dM ?_);exact az.next (j+1,.own O6.next 4) ⟨cP.eo aex nW (cP.after nW),App.after aex.next,aX⟩ (hl:=(by dsimp only;rw[iZ,dY,List.length_append,ay,ay,List.append_nil];rfl))
 intro tp O3 aJ;have h7:=h6.ge aJ;clear gZ hn;have gZ:=(eJ.eo App.nil h7).hp;have hn:=h7.1.next;refine VC.ag aa (ae @dM ?_);refine ah.rt (rK K4 t4 kY (P.map gP) tp h7.2.1 h7.1.next (by omega) (by rw[List.length_map];omega)) ?_;rintro _ O4 ⟨t5,rfl,g8⟩;have h8:=h7.trans g8;have l5:=pI K4 kY (P.map gP);generalize jA K4 kY (P.map gP)=K5 at*;have ah8:=(eJ.eo App.nil h8).hp;have D7:=h8.1.next;refine ae @dM ?_;refine VC.ag aa (aI @dM @hk @ah8 ?_);refine ah.rt (zK [] .nil M .aq (App.nil (B:=O4.next)) (Nat.le_refl _) (by simp) hM (fun d hd=>hx d (List.mem_append_left _ hd))) ?_;rintro _ O5 ⟨t6,rfl,g9⟩;have l6:=Ln [] M;generalize nO [] M=K6 at*;simp only[List.length_nil]at l6;have h9:=h8.ge (eJ.eo App.nil g9);refine ae @dM ?_;refine ah.rt (rK K5 t5 rL K6 t6 h9.2.1 h9.1.next (by omega) (by omega)) ?_;rintro _ O6 ⟨t7,rfl,g10⟩;have xI:=h9.trans g10;have l7:=pI K5 rL K6;generalize jA K5 rL K6=K7 at*;have agm:=(eJ.eo App.nil xI).hp;have Hd:=xI.1.next;refine ae @dM ?_;refine VC.ag aa (aI @dM @hk @agm ?_);refine ah.rt (zK K7 t7 D .aq xI.2.1 xI.1.next (by omega) hD (fun d hd=>hx d (List.mem_append_right _ hd))) ?_;rintro _ O7 ⟨t8,rfl,g11⟩;have h11:=xI.trans g11;generalize nO K7 D=K8 at*;have agn:=(eJ.eo App.nil h11).hp;have aey:=h11.1.next;have dG:=(agn _ (by omega)).trans bR;refine ao @dM @dG ?_;refine WC.sound aa (ao @dM @eP ?_);exact⟨by rw[hw,df];rfl,(lF.trans (eJ.eo App.nil h11)).set (by omega) _⟩
set_option linter.defProp false in
def dC:=And.intro zB<|And.intro dM<|And.intro aek<|And.intro DY<|And.intro aep T69
theorem e_.trans {O O1 O2:VH} {b:Nat} {q q1 q2:Option Nat} (h:e_ O b q O1 q1) (k:e_ O1 b q1 O2 q2):e_ O b q O2 q2:=
 ⟨Nat.le_trans h.next k.next,fun i hi hb hq=>by rw[k.hp i (Nat.lt_of_lt_of_le hi h.next) hb (h.new i hi hq),h.hp i hi hb hq],fun i hi hq=>k.new i (Nat.lt_of_lt_of_le hi h.next) (h.new i hi hq)⟩
theorem e_.lI {O O1:VH} {b:Nat} {q:Option Nat} (h:O.Ge O1):e_ O b q O1 q:=⟨h.next,fun i hi _ _=>h.hp i hi,fun _ _ hq=>hq⟩
theorem fP.ge {O O':VH} {B b:Nat} {q:Option Nat} {s:List UInt8} (h:fP O B b q s) (u:O.Ge O'):fP O' B b q s:=h.xP (bq.lI u)
theorem e_.Cl {O O1 O2:VH} {b:Nat} {q:Option Nat} (h:O.Ge O1) (u:e_ O1 b none O2 q) (hb:O.next<=b):O.Ge O2:=u.ge h hb (fun _ e=>by cases e)
theorem VH.Ge.RR {O O1 O2:VH} {q:Option Nat} (h:O.Ge O1) (u:bq O1 q O2) (hq:∀i,q=some i->O.next<=i):O.Ge O2:=⟨Nat.le_trans h.next u.next,fun i hi=>(u.hp i (Nat.lt_of_lt_of_le hi h.next) (fun e=>by have:=hq i e;omega)).trans (h.hp i hi)⟩
def oJ (attr:Bool) (c:UInt8):Bs:=
 if c=38 then[38,97,109,112,59]else if c=60 then[38,108,116,59]else if c=62 then[38,103,116,59]else if c=13 then[38,35,49,51,59]
 else if attr&&c==34 then[38,113,117,111,116,59]else if attr&&c==9 then[38,35,57,59]else if attr&&c==10 then[38,35,49,48,59]else[c]
def mo (attr:Bool) (s:Bs):Bs:=s.flatMap (oJ attr)
theorem UU (attr:Bool) (c:UInt8):(oJ attr c).length<=6:=by
 unfold oJ;repeat' split
 all_goals simp
theorem nD (attr:Bool) (s:Bs):(mo attr s).length<=6*s.length:=by
 induction s with
 | nil=>simp[mo]
 | cons c s ih=>
   have:=UU attr c;unfold mo at ih ⊢;rw[List.flatMap_cons,List.length_append,List.length_cons];omega
theorem AK (s:Bs) (attr:Bool) (O:VH) (hs:s.length<=1000000):VF Tryz.prog 66 [.str s,mb attr] O (aD fun m O'=>m= .str (mo attr s)/\O.Ge O'):=by
 have hsm:s.length<=maxLen:=Nat.le_trans hs (by decide);have hm:(s.length:Int)<=9223372036854775807:=by omega
 refine VF.du 56 [.tmp 4] Tryz.func66 ?_;refine ae @dC ?_;have rM:=fP.fresh O (Nat.le_refl O.next);have kU:O.Ge ((O.push (.cells [.v (.pointer none),.sl 0 [] .nil])).push (.shape O.next 145 2)):=((VH.Ge.refl O).push _).push _;generalize ((O.push (.cells [.v (.pointer none),.sl 0 [] .nil])).push (.shape O.next 145 2))=O1 at*;refine VL.bytes aa (el:=5) (l:=s) rfl rfl (by rw[T9];rfl) (by rw[tA];rfl) (by rw[T5];rfl) hsm rfl fun cap h1 h2=>WL.sound aa ?_
 have rJ:=VH.aV O1 (.cells (s.map fB));have aM:=(VH.Ge.refl O1).push (.cells (s.map fB));have c5:O1.next<(O1.push (.cells (s.map fB))).next:=Nat.lt_succ_self _;have uR:=rM.hi;have cA:=rM.ge aM;have tR:e_ O1 O.next none (O1.push (.cells (s.map fB))) none:=e_.lI aM;generalize O1.push (.cells (s.map fB))=O2 at*;refine ae @dC ?_;refine WC.iA [11] [1,5,9,10] (fun x:Nat×Option Nat=>[mi x.1]) (fun x O'=>e_ O2 O.next none O' x.2/\fP O' O.next O.next x.2 (mo attr (s.take x.1))/\x.1<=s.length) (fun x=>s.length - x.1) ((0,none)) ?_ ?_
 ·exact⟨e_.lI (VH.Ge.refl _),cA,Nat.zero_le _⟩
 rintro⟨j,q⟩ O3 ⟨hu,hb,hj⟩;dsimp only at hu hb hj ⊢;have Cn:=(hu.hp O1.next c5 (by omega) (by simp)).trans rJ;by_cases h3:j<s.length
 ·have np:=List.getElem?_eq_getElem h3;have iZ:mo attr (s.take (j+1))=mo attr (s.take j)++oJ attr s[j]:=by unfold mo;rw[cY _ _ h3,List.flatMap_append,List.flatMap_cons,List.flatMap_nil,List.append_nil]
  have cK:(mo attr (s.take j)).length<=6000000:=by have:=nD attr (s.take j);rw[List.length_take]at this;omega
  generalize mo attr (s.take j)=T at*;generalize s[j]=c at*;have hc:=c.toNat_lt;have key:∀(l:Bs) (q':Option Nat) (O4:VH),oJ attr c=l->fP O4 O.next O.next q' (T++l)->e_ O3 O.next q O4 q'->e_ O2 O.next none O4 q'/\fP O4 O.next O.next q' (mo attr (s.take (j+1)))/\j+1<=s.length:=fun l q' O4 e h k=>⟨hu.trans k,by rw[iZ,e];exact h,h3⟩
  have IK:c=38 ↔ c.toNat=38:=⟨fun h=>by rw[h];rfl,fun h=>UInt8.toNat_inj.1 h⟩;have Lo:c=60 ↔ c.toNat=60:=⟨fun h=>by rw[h];rfl,fun h=>UInt8.toNat_inj.1 h⟩;have Py:c=62 ↔ c.toNat=62:=⟨fun h=>by rw[h];rfl,fun h=>UInt8.toNat_inj.1 h⟩;have UW:c=13 ↔ c.toNat=13:=⟨fun h=>by rw[h];rfl,fun h=>UInt8.toNat_inj.1 h⟩;have e34:c=34 ↔ c.toNat=34:=⟨fun h=>by rw[h];rfl,fun h=>UInt8.toNat_inj.1 h⟩;have e9:c=9 ↔ c.toNat=9:=⟨fun h=>by rw[h];rfl,fun h=>UInt8.toNat_inj.1 h⟩;have rN:c=10 ↔ c.toNat=10:=⟨fun h=>by rw[h];rfl,fun h=>UInt8.toNat_inj.1 h⟩;by_cases Y8:c.toNat=38
  ·refine de @dC @np @Cn @aE ?_;refine ah.rt (bK [38,97,109,112,59] hb (by simp only[List.length_cons,List.length_nil];omega)) ?_;rintro _ O4 ⟨rfl,q',cQ,fb⟩;refine ae @dC ?_;exact az.next (j+1,q') (key _ _ _ (by simp[oJ,IK,Y8]) cQ fb)
  by_cases Lp:c.toNat=60
  ·refine de @dC @np @Cn @aE ?_;refine ah.rt (bK [38,108,116,59] hb (by simp only[List.length_cons,List.length_nil];omega)) ?_;rintro _ O4 ⟨rfl,q',cQ,fb⟩;refine ae @dC ?_;exact az.next (j+1,q') (key _ _ _ (by simp[oJ,IK,Lo,Lp]) cQ fb)
  by_cases h62:c.toNat=62
  ·refine de @dC @np @Cn @aE ?_;refine ah.rt (bK [38,103,116,59] hb (by simp only[List.length_cons,List.length_nil];omega)) ?_;rintro _ O4 ⟨rfl,q',cQ,fb⟩;refine ae @dC ?_;exact az.next (j+1,q') (key _ _ _ (by simp[oJ,IK,Lo,Py,h62]) cQ fb)
  by_cases h13:c.toNat=13
  ·refine de @dC @np @Cn @aE ?_;refine ah.rt (bK [38,35,49,51,59] hb (by simp only[List.length_cons,List.length_nil];omega)) ?_;rintro _ O4 ⟨rfl,q',cQ,fb⟩;refine ae @dC ?_;exact az.next (j+1,q') (key _ _ _ (by simp[oJ,IK,Lo,Py,UW,h13]) cQ fb)
  cases attr
  ·refine de @dC @np @Cn @aE ?_;refine ah.rt (sH c hb (by omega)) ?_;rintro _ O4 ⟨rfl,q',cQ,fb⟩;refine ae @dC ?_;exact az.next (j+1,q') (key _ _ _ (by simp[oJ,IK,Lo,Py,UW,Y8,Lp,h62,h13]) cQ fb)
  by_cases h34:c.toNat=34
  ·refine de @dC @np @Cn @aE ?_;refine ah.rt (bK [38,113,117,111,116,59] hb (by simp only[List.length_cons,List.length_nil];omega)) ?_;rintro _ O4 ⟨rfl,q',cQ,fb⟩;refine ae @dC ?_;exact az.next (j+1,q') (key _ _ _ (by simp[oJ,IK,Lo,Py,UW,e34,h34]) cQ fb)
  by_cases h9:c.toNat=9
  ·refine de @dC @np @Cn @aE ?_;refine ah.rt (bK [38,35,57,59] hb (by simp only[List.length_cons,List.length_nil];omega)) ?_;rintro _ O4 ⟨rfl,q',cQ,fb⟩;refine ae @dC ?_;exact az.next (j+1,q') (key _ _ _ (by simp[oJ,IK,Lo,Py,UW,e34,e9,h9]) cQ fb)
  by_cases xI:c.toNat=10
  ·refine de @dC @np @Cn @aE ?_;refine ah.rt (bK [38,35,49,48,59] hb (by simp only[List.length_cons,List.length_nil];omega)) ?_;rintro _ O4 ⟨rfl,q',cQ,fb⟩;refine ae @dC ?_;exact az.next (j+1,q') (key _ _ _ (by simp[oJ,IK,Lo,Py,UW,e34,e9,rN,xI]) cQ fb)
  ·refine de @dC @np @Cn @aE ?_;refine ah.rt (sH c hb (by omega)) ?_;rintro _ O4 ⟨rfl,q',cQ,fb⟩;refine ae @dC ?_;exact az.next (j+1,q') (key _ _ _ (by simp[oJ,IK,Lo,Py,UW,e34,e9,rN,Y8,Lp,h62,h13,h34,h9,xI]) cQ fb)
 ·obtain rfl:j=s.length:=by omega
  rw[List.take_length]at hb;have FP:=nD attr s;refine ae @dC ?_;refine ah.rt (pD hb (by simp only[maxLen];omega)) ?_;rintro _ O4 ⟨rfl,fb⟩;refine ae @dC ?_;exact(e_.Cl (kU.trans aM) hu (Nat.le_refl _)).RR fb hb.xg
structure Pz where
 k:Int
 n:Bs
 fD:List (Bs×Bs)
 t:Bs
 off:Nat
 line:Nat
 D8:Nat
 deriving DecidableEq
def D9 (x:Pz):List MV:=[mi x.k,.str x.n,.sl x.fD.length (x.fD.flatMap aY) .aq,.str x.t,mi x.off,mi x.line,mi x.D8]
def ow (a:Bs×Bs):Bs:=[32]++a.1++[61,34]++mo true a.2++[34]
def D_ (n:Bs) (L:List (Bs×Bs)) (e:Bs):Bs:=[60]++n++L.flatMap ow++e
theorem Ea (a:Bs×Bs) (h1:a.1.length<=1000000) (h2:a.2.length<=1000000):(ow a).length<=7000004:=by
 have:=nD true a.2;simp only[ow,List.length_append,List.length_cons,List.length_nil];omega
theorem qy:∀L:List (Bs×Bs),(∀a∈L,a.1.length<=1000000/\a.2.length<=1000000)->(L.flatMap ow).length<=L.length*7000004
 | [],_=>by simp
 | a::L,h=>by
   have h1:=Ea a (h a (by simp)).1 (h a (by simp)).2;have h2:=qy L fun x hx=>h x (List.mem_cons_of_mem _ hx)
   rw[List.flatMap_cons,List.length_append,List.length_cons,Nat.succ_mul];omega
theorem Y9 {O:VH} {B b:Nat} {q:Option Nat} {s:Bs} (x:Pz) (e:Bs) (h:fP O B b q s) (hs:s.length<=10000000000000) (hn:x.n.length<=1000000) (he:e.length<=1000000) (hA:∀a∈x.fD,a.1.length<=1000000/\a.2.length<=1000000) (hl:x.fD.length<=1000000):
  VF Tryz.prog 87 [.ptr b 0,.agg (D9 x),.str e] O (aD fun m O'=>∃q',fP O' B b q' (s++D_ x.n x.fD e)/\e_ O b q O' q'):=by
 obtain⟨k,n,L,t,off,line,D8⟩:=x;dsimp only at hn hA hl;have om:=aT fa L;simp only[D9];refine VF.bO 35 [] Tryz.func87 ?_;refine VC.ag aa (ae @dC ?_);refine VC.bx ?_;rintro O1 ⟨aM,hk,c5⟩;have cA:=h.ge aM;try simp only[ar]at hk
 refine VC.ag aa (ao @dC @hk ?_);refine ah.rt (bK ([60]++n) cA (by simp only[List.length_append,List.length_cons,List.length_nil];omega)) ?_;rintro _ O2 ⟨rfl,q2,ct,dk⟩;have bR:=(dk.hp O.next (by omega) (by have:=h.hi;omega) (h.RQ _ (Nat.le_refl _))).trans hk;refine ae @dC ?_;refine VC.bJ [0,2] (fun q:Option Nat=>[.ptr b 0,.str e]) (fun q' O'=>e_ O b q O' q'/\fP O' B b q' (s++([60]++n)++L.flatMap ow)) ?_ ?_
 ·refine VC.ag aa (ao @dC @bR ?_);refine VC.aB ?_;refine VC.bP [16] [0,2,14,15] (fun x:Nat×Option Nat=>[mi x.1]) (fun x O'=>e_ O b q O' x.2/\fP O' B b x.2 (s++([60]++n)++(L.take x.1).flatMap ow)/\x.1<=L.length) (fun x=>L.length - x.1) ((0,q2)) ?_ ?_
  ·exact⟨(e_.lI aM).trans dk,by simpa using ct,Nat.zero_le _⟩
  rintro⟨j,qj⟩ O3 ⟨cN,cu,hj⟩;dsimp only at cN cu hj ⊢;by_cases aX:j<L.length;rotate_left
  ·obtain rfl:j=L.length:=by omega
   rw[List.take_length]at cu;refine WC.sound aa (ae @dC ?_);exact aA.mk qj ⟨cN,cu⟩
  have bA:=cg fa L j aX;have iZ:(L.take (j+1)).flatMap ow=(L.take j).flatMap ow++ow L[j]:=by rw[cY _ _ aX,List.flatMap_append,List.flatMap_cons,List.flatMap_nil,List.append_nil]
  have jX:=hA L[j] (List.getElem_mem aX);have dK:=Ea L[j] jX.1 jX.2
  have hTl:((L.take j).flatMap ow).length<=7000004000000:=by
   have:=qy (L.take j) fun a ha=>hA a (List.mem_of_mem_take ha)
   rw[List.length_take]at this;omega
  generalize L[j]=y at*;generalize (L.take j).flatMap ow=T at*;obtain⟨yn,yv⟩:=y;dsimp only at jX;simp only[aY]at bA;refine VC.ag aa (ae @dC ?_);refine VC.ag aa (ae @dC ?_);refine VC.bC (VC.aB ?_);refine VC.ag aa (ao @dC @bA ?_);refine VC.al ?_;rintro O4 ⟨bg,mG,gM⟩;have cQ:=cu.ge bg;refine VC.lY [10] ?_;refine ab.av 0 ?_;refine ae @dC ?_;refine ab.av 1 ?_;refine ae @dC ?_;refine ab.ld (m:=.str yn) 2 ?_ ?_
  ·exact c9 @dC @mG
  simp only[aj];refine ab.av 3 ?_;refine ae @dC ?_;refine ab.av 4 ?_;refine ae @dC ?_;refine ab.av 5 ?_;refine ae @dC ?_;refine ab.ld (m:=.str yv) 6 ?_ ?_
  ·exact c9 @dC @mG
  simp only[aj];refine ab.call (i:=7) (AK yv true _ jX.2) ?_;rintro _ O5 ⟨rfl,bW⟩;simp only[aj];refine⟨bW,?_⟩;have FP:=nD true yv;have hae:ow (yn,yv)=[32]++yn++[61,34]++mo true yv++[34]:=rfl;generalize mo true yv=E at*;refine ab.av 8 ?_;refine ae @dC ?_;refine ab.av 9 ?_;refine ae @dC ?_;refine ab.bH [(10,.one)] ?_;refine ae @dC ?_;refine ah.rt (bK ([32]++yn++[61,34]++E++[34]) (cQ.ge bW) (by simp only[List.length_append,List.length_cons,List.length_nil];omega)) ?_;rintro _ O6 ⟨rfl,q6,iK,qT⟩;refine ae @dC ?_;refine WC.sound aa (ae @dC ?_);exact az.next (j+1,q6) ⟨(cN.trans (e_.lI (bg.trans bW))).trans qT,by rw[iZ,hae, <-List.append_assoc];exact iK,aX⟩
 rintro q3 O3 ⟨cN,cu⟩;have hTl:=qy L hA;refine WC.sound aa (ae @dC ?_);refine ah.rt (bK e cu (by simp only[List.length_append,List.length_cons,List.length_nil];omega)) ?_;rintro _ O4 ⟨rfl,q4,cQ,fb⟩;refine ae @dC ?_;refine⟨q4,?_,cN.trans fb⟩;simpa[D_,List.append_assoc]using cQ
def xU (x:Pz):Bs:=
 if x.k=5 then[60,33,45,45]++x.t++[45,45,62]else if x.k=6 then[60,63,120,109,108]++x.t++[63,62]else if x.k=3 then[60,47]++x.n++[62]
 else if x.k=1 then D_ x.n x.fD [62]else if x.k=2 then D_ x.n x.fD [47,62]else if x.k=4 then mo false x.t else[]
structure PA (x:Pz):Prop where
 n:x.n.length<=1000000
 t:x.t.length<=1000000
 a:∀a∈x.fD,a.1.length<=1000000/\a.2.length<=1000000
 l:x.fD.length<=1000000
theorem He (n:Bs) (L:List (Bs×Bs)) (e:Bs) (hn:n.length<=1000000) (he:e.length<=10) (hA:∀a∈L,a.1.length<=1000000/\a.2.length<=1000000) (hl:L.length<=1000000):(D_ n L e).length<=8000000000000:=by
 have:=qy L hA;simp only[D_,List.length_append,List.length_cons,List.length_nil];omega
theorem Lq (x:Pz) (h:PA x):(xU x).length<=8000000000000:=by
 have h1:=h.n;have h2:=h.t;have h3:=He x.n x.fD [62] h.n (by simp) h.a h.l;have h4:=He x.n x.fD [47,62] h.n (by simp) h.a h.l;have h5:=nD false x.t;unfold xU;repeat' split
 all_goals first | omega | (simp only[List.length_append,List.length_cons,List.length_nil];omega)
theorem UX {O:VH} (x:Pz) (tk:Tok) (h:PA x):VF Tryz.prog 67 [.sl 1 (D9 x) tk] O (aD fun m O'=>m= .str (xU x)/\O.Ge O'):=by
 have dK:=Lq x h;have hn:=h.n;have ht:=h.t;have UY:∀l:Bs,l.length<=3000000->l.length<=140737488355328:=fun l h=>by omega
 have bA:(D9 x++[]).length=7:=rfl;obtain⟨k,n,L,t,off,line,D8⟩:=x;dsimp only at hn ht;refine VF.bO 51 [.tmp 2] Tryz.func67 ?_;simp only[D9];refine VC.ag aa (ae @dC ?_);refine VC.ag aa (ae @dC ?_);have rM:=fP.fresh O (Nat.le_refl O.next);have kU:O.Ge ((O.push (.cells [.v (.pointer none),.sl 0 [] .nil])).push (.shape O.next 145 2)):=((VH.Ge.refl O).push _).push _;generalize ((O.push (.cells [.v (.pointer none),.sl 0 [] .nil])).push (.shape O.next 145 2))=O1 at*;refine VC.bJ [3] (fun q:Option Nat=>[.ptr O.next 0]) (fun q O'=>O.Ge O'/\fP O' O.next O.next q (xU ⟨k,n,L,t,off,line,D8⟩)) ?_ ?_;rotate_left
 ·rintro q O2 ⟨ax,ct⟩;refine WC.sound aa (ae @dC ?_);refine ah.rt (pD ct (by simp only[maxLen];omega)) ?_;rintro _ O3 ⟨rfl,cN⟩;refine ae @dC ?_;exact ax.RR cN ct.xg
 refine VC.ag aa (ae @dC ?_);refine VC.aB ?_;refine VC.bP [8] [3,6,7] (fun x:Bool×Option Nat=>[mi (if x.1 then 1 else 0)]) (fun x O'=>O.Ge O'/\fP O' O.next O.next x.2 (if x.1 then xU ⟨k,n,L,t,off,line,D8⟩else[])) (fun x=>if x.1 then 0 else 1) ((false,none)) ?_ ?_
 ·exact⟨kU,rM⟩
 rintro⟨j,q⟩ O2 ⟨ax,ct⟩;dsimp only at ct ⊢;cases j;rotate_left
 ·rw[if_pos rfl]at ct ⊢;refine WC.sound aa (ae @dC ?_);exact aA.mk q ⟨ax,ct⟩
 rw[if_neg (by decide)]at ct ⊢;refine VC.ag aa (ae @dC ?_);refine VC.ag aa (ae @dC ?_);refine VC.bC (VC.aB ?_);refine VC.ag aa (ae @dC ?_);refine VC.al ?_;rintro O3 ⟨aJ,hk,gL⟩;have cu:=ct.ge aJ;have fin:∀(l:Bs) (q':Option Nat) (O4:VH),xU ⟨k,n,L,t,off,line,D8⟩=l->fP O4 O.next O.next q' ([]++l)->e_ O3 O.next q O4 q'->O.Ge O4/\fP O4 O.next O.next q' (xU ⟨k,n,L,t,off,line,D8⟩):=fun l q' O4 e h k=>⟨k.ge (ax.trans aJ) (Nat.le_refl _) cu.xg,by rw[e];exact h⟩
 by_cases h5:k=5
 ·subst h5;refine WC.sound aa (ao @dC @hk ?_);refine ah.rt (bK ([60,33,45,45]++t++[45,45,62]) cu (by simp only[List.length_append,List.length_cons,List.length_nil];omega)) ?_;rintro _ O4 ⟨rfl,q',cQ,fb⟩;refine ae @dC ?_;refine WC.sound aa (ae @dC ?_);exact az.next (true,q') (fin _ _ _ rfl cQ fb) (hm:=Nat.zero_lt_one)
 by_cases h6:k=6
 ·subst h6;refine WC.sound aa (ao @dC @hk ?_);refine ah.rt (bK ([60,63,120,109,108]++t++[63,62]) cu (by simp only[List.length_append,List.length_cons,List.length_nil];omega)) ?_;rintro _ O4 ⟨rfl,q',cQ,fb⟩;refine ae @dC ?_;refine WC.sound aa (ae @dC ?_);exact az.next (true,q') (fin _ _ _ rfl cQ fb) (hm:=Nat.zero_lt_one)
 by_cases h3:k=3
 ·subst h3;refine WC.sound aa (ao @dC @hk ?_);refine ah.rt (bK ([60,47]++n++[62]) cu (by simp only[List.length_append,List.length_cons,List.length_nil];omega)) ?_;rintro _ O4 ⟨rfl,q',cQ,fb⟩;refine ae @dC ?_;refine WC.sound aa (ae @dC ?_);exact az.next (true,q') (fin _ _ _ rfl cQ fb) (hm:=Nat.zero_lt_one)
 by_cases h1:k=1
 ·subst h1;refine WC.sound aa (ao @dC @hk ?_);refine ah.rt (Y9 ⟨1,n,L,t,off,line,D8⟩ [62] cu (by simp) hn (by simp) h.a h.l) ?_;rintro _ O4 ⟨q',cQ,fb⟩;refine ae @dC ?_;refine WC.sound aa (ae @dC ?_);exact az.next (true,q') (fin _ _ _ rfl cQ fb) (hm:=Nat.zero_lt_one)
 by_cases h2:k=2
 ·subst h2;refine WC.sound aa (ao @dC @hk ?_);refine ah.rt (Y9 ⟨2,n,L,t,off,line,D8⟩ [47,62] cu (by simp) hn (by simp) h.a h.l) ?_;rintro _ O4 ⟨q',cQ,fb⟩;refine ae @dC ?_;refine WC.sound aa (ae @dC ?_);exact az.next (true,q') (fin _ _ _ rfl cQ fb) (hm:=Nat.zero_lt_one)
 by_cases h4:k=4
 ·subst h4;have FP:=nD false t;refine WC.sound aa (ao @dC @hk ?_);refine ah.rt (AK t false _ ht) ?_;rintro _ O4 ⟨rfl,bg⟩;refine ae @dC ?_;refine ah.rt (bK (mo false t) (cu.ge bg) (by simp only[List.length_nil];omega)) ?_;rintro _ O5 ⟨rfl,q',cV,oQ⟩;refine ae @dC ?_;refine WC.sound aa (ae @dC ?_);exact az.next (true,q') (fin _ _ _ rfl cV ((e_.lI bg).trans oQ)) (hm:=Nat.zero_lt_one)
 ·have fH:xU ⟨k,n,L,t,off,line,D8⟩=[]:=by simp[xU,h1,h2,h3,h4,h5,h6]
  refine WC.sound aa (ao @dC @hk ?_);refine WC.sound aa (ae @dC ?_);exact az.next (true,q) (fin _ _ _ fH (by simpa using cu) (e_.lI (VH.Ge.refl _))) (hm:=Nat.zero_lt_one)
theorem ah9:eC Tryz.t146.desc=false:=by kernel_rfl
set_option linter.defProp false in
def eD:=And.intro dC<|And.intro ahC ah9
mutual
def dZ:Nd->Nat
 | .mk _ _ k _=>1+bU k
def bU:List Nd->Nat
 | []=>0
 | x::r=>dZ x+bU r
end
theorem Eb (n:Bs) (a:List (Bs×Bs)) (k:List Nd) (t:Bs):dZ (.mk n a k t)=1+bU k:=by rw[dZ]
mutual
def zL:Nd->Prop
 | .mk n a k t=>n.length<=1000000/\t.length<=1000000/\(∀x∈a,x.1.length<=1000000/\x.2.length<=1000000)/\a.length<=1000000/\k.length<=1000000/\sJ k
def sJ:List Nd->Prop
 | []=>True
 | x::r=>zL x/\sJ r
end
mutual
def cj:Nd->Bs
 | .mk n a k t=>if n=[]then mo false t else xU ⟨if k.length=0 then 2 else 1,n,a,[],0,0,0⟩++aR k++(if k.length=0 then[]else[60,47]++n++[62])
def aR:List Nd->Bs
 | []=>[]
 | x::r=>cj x++aR r
end
theorem zM:∀{k:List Nd} {x:Nd},x∈k->dZ x<=bU k
 | y::r,x,h=>by
   rw[bU];rcases List.mem_cons.1 h with rfl | h
   ·omega
   ·have:=zM h;omega
theorem Ed:∀{k:List Nd} {x:Nd},sJ k->x∈k->zL x
 | y::r,x,h,hx=>by
   rw[sJ]at h;rcases List.mem_cons.1 hx with rfl | hx
   ·exact h.1
   ·exact Ed h.2 hx
theorem tE (L M:List Nd):aR (L++M)=aR L++aR M:=by
 induction L with
 | nil=>rw[List.nil_append,aR,List.nil_append]
 | cons x L ih=>rw[List.cons_append,aR,aR,ih,List.append_assoc]
theorem pJ (L:List Nd):ay L=L.flatMap df:=by
 induction L with
 | nil=>rw[ay];rfl
 | cons x L ih=>rw[ay,ih,List.flatMap_cons]
theorem Y_:∀(N:Nat) (x:Nd) (O:VH) (B b lk:Nat) (q:Option Nat) (s:Bs),dZ x<=N->fP O B b q s->O.hp lk=some (.cells [.func (.func 64) [] [.ptr b 0,.ptr lk 0]])->lk<O.next->lk≠b->q≠some lk->s.length+(cj x).length<=10000000000000->zL x->
  VF Tryz.prog 64 [.agg (df x),.ptr b 0,.ptr lk 0] O (aD fun m O'=>∃q',fP O' B b q' (s++cj x)/\e_ O b q O' q')
 | 0,.mk n a k t=>fun O B b lk q s h=>by rw[Eb]at h;omega
 | N+1,.mk n a k t=>fun O B b lk q s hN h fO wN AL pK hs cW=>by
   rw[Eb]at hN;rw[zL]at cW;obtain⟨hn,ht,hA,hAl,jY,FV⟩:=cW;rw[cj]at hs ⊢;rw[df];refine VF.bO 48 [] Tryz.func64 ?_;refine VC.ag aa (ae @eD ?_);refine VC.bx ?_;rintro O1 ⟨aM,hk,c5⟩;have cA:=h.ge aM;have aj3:=(aM.hp _ wN).trans fO;cases n with
   | nil=>
     rw[if_pos rfl]at hs ⊢;refine VC.ag aa (aI @eD @hk (show(([]:List UInt8)==[])=true from rfl) ?_);refine ah.rt (AK t false _ ht) ?_;rintro _ O2 ⟨rfl,ax⟩;have FP:=nD false t;refine ae @eD ?_;refine ah.rt (bK (mo false t) (cA.ge ax) (by omega)) ?_;rintro _ O3 ⟨rfl,q',cu,cN⟩;refine ae @eD ?_;exact⟨q',cu,(e_.lI (aM.trans ax)).trans cN⟩
   | cons c n=>
     rw[if_neg (by simp)]at hs ⊢;have hnb:((c::n)==[])=false:=rfl;generalize Ee:c::n=nm at*;have ue:PA ⟨if k.length=0 then 2 else 1,nm,a,[],0,0,0⟩:=⟨hn,by simp,hA,hAl⟩;refine VC.ag aa (aI @eD @hk @hnb ?_);refine VC.ag aa (aI @eD @hk @hnb ?_);refine VC.al ?_;rintro O2 ⟨ax,hkt,iB⟩;have bR:=(ax.hp O.next (by omega)).trans hk;refine VC.bJ [1,2,3,4] (fun _:Unit=>[.ptr b 0,.ptr lk 0,.ptr O.next 0,.ptr O1.next 0]) (fun _ O'=>O.Ge O'/\O'.next=O2.next/\O'.hp O.next=some (.cells (df (.mk nm a k t)))/\O'.hp O1.next=some (.cells (D9 ⟨if k.length=0 then 2 else 1,nm,a,[],0,0,0⟩))) ?_ ?_
     ·have lF:=aM.trans ax;by_cases h0:k.length=0
      ·refine VC.ag aa (ao @eD @bR ?_);refine WC.sound aa (ao @eD @h0 ?_);exact aA.mk () ⟨lF,rfl,by rw[bR,df],by rw[hkt];rfl⟩
      ·have h1:0<k.length:=by omega
       refine VC.ag aa (ao @eD @bR ?_);refine WC.sound aa (ao @eD @hkt ?_);refine aA.mk () ⟨lF.set (by omega) _,rfl,?_,?_⟩
       ·rw[VH.ak _ _ (by omega),bR,df]
       ·rw[VH.an,if_neg h0];rfl
     rintro⟨⟩ O3 ⟨aJ,gL,dG,aez⟩;have cu:=h.ge aJ;simp only[df]at dG;generalize hX:(⟨if k.length=0 then 2 else 1,nm,a,[],0,0,0⟩:Pz)=X at*;have tU:=Lq X ue;simp only[List.length_append]at hs;have hXc:D9 X=[mi X.k,.str X.n,.sl X.fD.length (X.fD.flatMap aY) .aq,.str X.t,mi X.off,mi X.line,mi X.D8]:=rfl;rw[hXc,ar,ar,ar,ar]at aez;refine VC.ag aa (ao @eD @aez ?_);refine ah.rt (UX X .full ue) ?_;rintro _ O4 ⟨rfl,bg⟩;refine ae @eD ?_;refine ah.rt (bK (xU X) (cu.ge bg) (by omega)) ?_;rintro _ O5 ⟨rfl,q5,cV,oQ⟩;have RS:e_ O b q O5 q5:=(e_.lI (aJ.trans bg)).trans oQ;have gC:=(oQ.hp O.next (by have:=bg.next;omega) (by have:=h.hi;omega) (h.RQ _ (Nat.le_refl _))).trans (bg.at dG);refine ae @eD ?_;have Ef:q5≠some O.next:=oQ.new O.next (by have:=bg.next;omega) (h.RQ _ (Nat.le_refl _));have gu:O.next<O5.next:=by have:=oQ.next;have:=bg.next;omega
     refine VC.bJ [1,2,3] (fun q':Option Nat=>[.ptr b 0,.ptr lk 0,.ptr O.next 0]) (fun q' O'=>e_ O5 b q5 O' q'/\fP O' B b q' (s++xU X++aR k)) ?_ ?_
     ·refine VC.ag aa (ao @eD @gC ?_);refine VC.aB ?_;refine VC.bP [31] [1,2,3,29,30] (fun x:Nat×Option Nat=>[mi x.1]) (fun x O'=>e_ O5 b q5 O' x.2/\fP O' B b x.2 (s++xU X++aR (k.take x.1))/\x.1<=k.length) (fun x=>k.length - x.1) ((0,q5)) ?_ ?_
      ·exact⟨e_.lI (VH.Ge.refl _),by simpa[aR]using cV,Nat.zero_le _⟩
      rintro⟨j,qj⟩ O6 ⟨qT,iK,hj⟩;dsimp only at qT iK hj ⊢;by_cases aX:j<k.length;rotate_left
      ·obtain rfl:j=k.length:=by omega
       rw[List.take_length]at iK;refine WC.sound aa (ae @eD ?_);exact aA.mk qj ⟨qT,iK⟩
      have bA:=cg lK k j aX;rw[<-pJ]at bA;have RT:=cZ k;have iZ:aR (k.take (j+1))=aR (k.take j)++cj k[j]:=by rw[cY _ _ aX,tE,aR,aR,List.append_nil]
      have jl:(aR k).length=(aR (k.take j)).length+(cj k[j]).length+(aR (k.drop (j+1))).length:=by
       rw[<-List.length_append, <-iZ, <-List.length_append, <-tE,List.take_append_drop]
      have oc:dZ k[j]<=N:=by have:=zM (List.getElem_mem aX);omega
      have Eg:=Ed FV (List.getElem_mem aX);generalize k[j]=y at*;have xJ:=RS.trans qT;have ah_:=(xJ.hp lk wN AL pK).trans fO;have aia:=xJ.new lk wN pK;have ih:=fun OO h1 h2 h3=>Y_ N y OO B b lk qj (s++xU X++aR (k.take j)) oc h1 h2 h3 AL aia (by simp only[List.length_append];omega) Eg
      generalize aR (k.take j)=T at*;cases y with
      | mk yn ya yk yt=>
        simp only[df]at bA ih;refine VC.ag aa (ae @eD ?_);refine VC.ag aa (ae @eD ?_);refine VC.bC (VC.aB ?_);refine VC.ag aa (ao @eD @bA ?_);refine VC.al ?_;rintro O7 ⟨fc,mG,tV⟩;have aeA:=(fc.hp lk (by have:=xJ.next;omega)).trans ah_;refine WC.sound aa (aI @eD @mG @aeA ?_);refine ah.rt (ih O7 (iK.ge fc) aeA (by have:=xJ.next;omega)) ?_;rintro _ O8 ⟨q8,sF,ql⟩;refine ae @eD ?_;refine WC.sound aa (ae @eD ?_);exact az.next (j+1,q8) ⟨(qT.trans (e_.lI fc)).trans ql,by rw[iZ, <-List.append_assoc];exact sF,aX⟩
     rintro q6 O6 ⟨qT,iK⟩;have oR:=(qT.hp O.next gu (by have:=h.hi;omega) Ef).trans gC;have Lr:=RS.trans qT;by_cases h0:k.length=0
     ·rw[if_pos h0];refine WC.sound aa (ao @eD @oR ?_);exact⟨q6,by simpa[List.append_assoc]using iK,Lr⟩
     ·rw[if_neg h0]at hs ⊢;simp only[List.length_append,List.length_cons,List.length_nil]at hs;refine WC.sound aa (ao @eD @oR ?_);refine ah.rt (bK ([60,47]++nm++[62]) iK (by simp only[List.length_append,List.length_cons,List.length_nil];omega)) ?_;rintro _ O7 ⟨rfl,q7,xV,Co⟩;refine ae @eD ?_;exact⟨q7,by simpa[List.append_assoc]using xV,Lr.trans Co⟩
theorem UZ (x:Nd) (O:VH) (hs:(cj x).length<=10000000000000) (cW:zL x):VF Tryz.prog 48 [.agg (df x)] O (aD fun m O'=>m= .str (cj x)/\O.Ge O'):=by
 have lay:=Y_ (dZ x) x;generalize cj x=T at*;cases x with
 | mk n a k t=>
   simp only[df]at lay ⊢;refine VF.bO 10 [.tmp 2] Tryz.func48 ?_;refine VC.ag aa (ae @eD ?_);refine VC.bx ?_;rintro O1 ⟨aM,hk,c5⟩;refine VC.ag aa (ae @eD ?_);have rM:=fP.fresh O1 (Nat.le_refl O1.next);have kU:O1.Ge ((O1.push (.cells [.v (.pointer none),.sl 0 [] .nil])).push (.shape O1.next 145 2)):=((VH.Ge.refl O1).push _).push _;have U0:=rM.hi;generalize ((O1.push (.cells [.v (.pointer none),.sl 0 [] .nil])).push (.shape O1.next 145 2))=O2 at*;refine VC.ag aa (ae @eD ?_);refine VC.ag aa (ae @eD ?_);refine VC.al ?_;rintro O3 ⟨aJ,dG,gL⟩;have dT:=(aJ.hp O.next (by have:=kU.next;omega)).trans ((kU.hp O.next (by omega)).trans hk);refine VC.ag aa (aI @eD @dG @dT ?_);refine ah.rt (lay O3 O1.next O1.next O2.next none [] (Nat.le_refl _) (rM.ge aJ) dG (by omega) (by omega) (by simp) (by simpa using hs) cW) ?_;rintro _ O4 ⟨q,cQ,fb⟩;rw[List.nil_append]at cQ;refine ae @eD ?_;refine WC.sound aa (ae @eD ?_);refine ah.rt (pD cQ (by simp only[maxLen];omega)) ?_;rintro _ O5 ⟨rfl,oQ⟩;refine ae @eD ?_;exact(fb.Cl (aM.trans (kU.trans aJ)) (by omega)).RR oQ (fun i e=>by have:=cQ.xg i e;omega)
def Nd.nm:Nd->Bs
 | .mk n _ _ _=>n
def Nd.kids:Nd->List Nd
 | .mk _ _ k _=>k
def Nd.tx:Nd->Bs
 | .mk _ _ _ t=>t
def jZ (name:Bs) (y:Nd):Bool:=y.nm != []&&(name==[]||y.nm==name)
def cC (x:Nd) (name:Bs):List Nd:=x.kids.filter (jZ name)
theorem CM (x:Nd) (name:Bs) (O:VH) (hk:x.kids.length<=1000000):VF Tryz.prog 271 [.agg (df x),.str name] O (aD fun m O'=>∃tk,m= .sl (cC x name).length (ay (cC x name)) tk/\O.Ge O'):=by
 obtain⟨n,a,k,t⟩:=x;simp only[Nd.kids]at hk;unfold cC;simp only[Nd.kids,df];refine VF.bO 33 [.tmp 4] Tryz.func271 ?_;refine VC.ag aa (ae @eD ?_);refine VC.bx ?_;rintro O1 ⟨aM,dT,c5⟩;refine VC.join aa [4] (fun tk:Tok=>[.sl (k.filter (jZ name)).length (ay (k.filter (jZ name))) tk]) (fun tk O'=>O.Ge O') ?_ ?_;rotate_left
 ·intro tk O9 bn;refine ae @eD ?_;exact⟨tk,rfl,bn⟩
 refine VC.ag aa (ao @eD @dT ?_);refine VC.aB ?_;refine VC.bP [4,10] [1,8,9] (fun x:Nat×Tok=>[.sl ((k.take x.1).filter (jZ name)).length (ay ((k.take x.1).filter (jZ name))) x.2,mi x.1]) (fun x O'=>O.Ge O'/\App O' O.next 4 x.2/\x.1<=k.length) (fun x=>k.length - x.1) ((0,.nil)) ?_ ?_
 ·exact⟨aM,trivial,Nat.zero_le _⟩
 rintro⟨j,tk⟩ O2 ⟨ax,cH,hj⟩;dsimp only at cH hj ⊢;by_cases aX:j<k.length;rotate_left
 ·obtain rfl:j=k.length:=by omega
  rw[List.take_length];refine WC.sound aa (ae @eD ?_);exact aA.mk tk ax
 have bA:=cg lK k j aX;rw[<-pJ]at bA;have RT:=cZ k
 have iZ:(k.take (j+1)).filter (jZ name)=(k.take j).filter (jZ name)++if jZ name k[j]then[k[j]]else[]:=by
  rw[cY _ _ aX,List.filter_append]
  congr 1
  cases h:jZ name k[j]<;>simp[h]
 have FU:((k.take j).filter (jZ name)).length<=1000000:=Nat.le_trans (List.length_filter_le _ _) (by rw[List.length_take];omega);generalize k[j]=y at*;generalize (k.take j).filter (jZ name)=E at*;obtain⟨yn,ya,yk,yt⟩:=y;have eR:=zH (.mk yn ya yk yt);have Za:=lK (.mk yn ya yk yt);have Zb:ay [.mk yn ya yk yt]=df (.mk yn ya yk yt):=by rw[ay,ay,List.append_nil]
 simp only[df]at bA eR Za Zb;refine VC.ag aa (ae @eD ?_);refine VC.ag aa (ae @eD ?_);refine VC.bC (VC.aB ?_);refine VC.ag aa (ao @eD @bA ?_);refine VC.al ?_;rintro O3 ⟨aJ,mG,gL⟩;have jw:=cH.ge aJ;have Hf:=ax.trans aJ;have yes:jZ name (.mk yn ya yk yt)=true->(k.take (j+1)).filter (jZ name)=E++[.mk yn ya yk yt]:=fun h=>by rw[iZ,h,if_pos rfl]
 have nay:jZ name (.mk yn ya yk yt)=false->(k.take (j+1)).filter (jZ name)=E:=fun h=>by rw[iZ,h,if_neg (by simp),List.append_nil]
 have hik:jZ name (.mk yn ya yk yt)=(yn != []&&(name==[]||yn==name)):=rfl;rw[hik]at yes nay;cases h1:yn==[]
 ·cases h2:name==[]
  ·cases h3:yn==name
   ·have hn:=nay (by simp[bne,h1,h2,h3]);refine WC.sound aa (gW @eD @mG @h1 @h2 @h3 ?_);refine WC.sound aa (ae @eD ?_);exact az.next (j+1,tk) ⟨Hf,jw,aX⟩ (hl:=(by dsimp only;rw[hn];rfl))
   ·have hn:=yes (by simp[bne,h1,h2,h3]);refine WC.sound aa (gW @eD @mG @h1 @h2 @h3 ?_);obtain⟨mE,fZ,kX⟩:=fR (n:=E.length) (cs:=ay E) (ds:=[.str yn,.sl ya.length (ya.flatMap aY) .aq,.sl yk.length (ay yk) .aq,.str yt]) nV tu.1.1 jw (cZ E) rfl rfl (by decide) (by omega) (by simp only[maxLen];omega) (eP E) eR;refine VL.lh fZ kX ?_;refine ae @eD ?_;refine WC.sound aa (ae @eD ?_);exact az.next (j+1,.own O3.next 4) ⟨cP.eo Hf jw (cP.after jw),App.after Hf.next,aX⟩ (hl:=(by dsimp only;rw[hn,dY,List.length_append,Zb];rfl))
  ·have hn:=yes (by simp[bne,h1,h2]);refine WC.sound aa (de @eD @mG @h1 @h2 ?_);obtain⟨mE,fZ,kX⟩:=fR (n:=E.length) (cs:=ay E) (ds:=[.str yn,.sl ya.length (ya.flatMap aY) .aq,.sl yk.length (ay yk) .aq,.str yt]) nV tu.1.1 jw (cZ E) rfl rfl (by decide) (by omega) (by simp only[maxLen];omega) (eP E) eR;refine VL.lh fZ kX ?_;refine ae @eD ?_;refine WC.sound aa (ae @eD ?_);exact az.next (j+1,.own O3.next 4) ⟨cP.eo Hf jw (cP.after jw),App.after Hf.next,aX⟩ (hl:=(by dsimp only;rw[hn,dY,List.length_append,Zb];rfl))
 ·have hn:=nay (by simp[bne,h1]);refine WC.sound aa (aI @eD @mG @h1 ?_);refine WC.sound aa (ae @eD ?_);exact az.next (j+1,tk) ⟨Hf,jw,aX⟩ (hl:=(by dsimp only;rw[hn];rfl))
def iC (k:List Nd):Bs:=k.flatMap fun y=>bif y.nm==[]then y.tx else[]
def sK (x:Nd):Bs:=trimB (iC x.kids)
theorem Ls {k:List Nd} {j:Nat} (h:j<k.length):iC (k.take (j+1))=iC (k.take j)++bif k[j].nm==[]then k[j].tx else[]:=by
 unfold iC;rw[cY _ _ h,List.flatMap_append,List.flatMap_cons,List.flatMap_nil,List.append_nil]
theorem Hg {k:List Nd}:∀j,(iC (k.take j)).length<=(iC k).length:=fun j=>by
 have:iC k=iC (k.take j)++iC (k.drop j):=by unfold iC;rw[<-List.flatMap_append,List.take_append_drop]
 rw[this,List.length_append];omega
theorem Zc (x:Nd) (O:VH) (hk:x.kids.length<=1000000) (ht:(iC x.kids).length<=1000000000):VF Tryz.prog 296 [.agg (df x)] O (aD fun m O'=>m= .str (sK x)/\O.Ge O'):=by
 obtain⟨n,a,k,t⟩:=x;simp only[Nd.kids]at hk ht;unfold sK;simp only[Nd.kids,df];refine VF.bO 23 [.tmp 2] Tryz.func296 ?_;refine VC.ag aa (ae @eD ?_);refine VC.bx ?_;rintro O1 ⟨aM,dT,c5⟩;refine VC.ag aa (ae @eD ?_);refine VC.join aa [3] (fun _:Unit=>[.str (iC k)]) (fun _ O'=>O.Ge O') ?_ ?_;rotate_left
 ·intro _ O9 bn;refine ae @eD ?_;refine ah.rt (IF (iC k) _ (Nat.le_trans ht (by decide))) ?_;rintro _ O8 ⟨rfl,rfl⟩;refine ae @eD ?_;exact bn
 refine VC.ag aa (ao @eD @dT ?_);refine VC.aB ?_;refine VC.bP [3,9] [7,8] (fun j:Nat=>[.str (iC (k.take j)),mi j]) (fun j O'=>O.Ge O'/\j<=k.length) (fun j=>k.length - j) (0) ?_ ?_
 ·exact⟨aM,Nat.zero_le _⟩
 rintro j O2 ⟨ax,hj⟩;by_cases aX:j<k.length;rotate_left
 ·obtain rfl:j=k.length:=by omega
  rw[List.take_length];refine WC.sound aa (ae @eD ?_);exact aA.mk () ax
 have bA:=cg lK k j aX;rw[<-pJ]at bA;have RT:=cZ k;have iZ:=Ls aX;have hle:=Hg (k:=k) (j+1);have RU:=Hg (k:=k) j;generalize k[j]=y at*;generalize iC (k.take j)=E at*;obtain⟨yn,ya,yk,yt⟩:=y;simp only[df]at bA;simp only[Nd.nm,Nd.tx]at iZ;refine VC.ag aa (ae @eD ?_);refine VC.ag aa (ae @eD ?_);refine VC.bC (VC.aB ?_);refine VC.ag aa (ao @eD @bA ?_);refine VC.al ?_;rintro O3 ⟨aJ,mG,gL⟩;cases h1:yn==[]
 ·rw[h1,cond_false,List.append_nil]at iZ;refine WC.sound aa (aI @eD @mG @h1 ?_);refine WC.sound aa (ae @eD ?_);exact az.next (j+1) ⟨ax.trans aJ,aX⟩ (hl:=(by rw[iZ];rfl))
 ·rw[h1,cond_true]at iZ;rw[iZ,List.length_append]at hle;refine WC.sound aa (aI @eD @mG @h1 ?_);refine WC.sound aa (ae @eD ?_);exact az.next (j+1) ⟨ax.trans aJ,aX⟩ (hl:=(by rw[iZ];rfl))
set_option linter.defProp false in
def bt:=And.intro eD<|And.intro aev<|And.intro YY<|And.intro YZ T65
def sL (e:Int) (w:Bs):MV:=.iface 371 (.agg [mi e,.str w])
theorem aib {p:MV}:Is 371 (fF Tryz.prog 371) (some p)=some (.iface 371 p):=by rw[aev.1.1];rfl
theorem lL (e:Int) (w:Bs) (O:VH):VF Tryz.prog 248 [mi e,.str w] O fun r O'=>O'=O/\match r with
  | .ret _=>False
  | .panic m=>m=sL e w:=by
 refine VF.du 8 [] Tryz.func248 ?_;refine de @bt @wi @wd @aib ?_;refine VL.panic rfl rfl rfl ?_;refine ae @wd ?_;rfl
theorem ac2 (s:Bs) (O:VH):VF Tryz.prog 251 [.str s] O (aD fun m O'=>m=mb true/\O.Ge O'):=by
 refine VF.du 3 [.tmp 2] Tryz.func251 ?_;refine ae @bt ?_;exact VH.Ge.refl _
def mq (s:Bs):Bool:=s==jW||s==kW
theorem PB (s:Bs) (O:VH):VF Tryz.prog 300 [.str s] O (aD fun m O'=>m=mb (mq s)/\O.Ge O'):=by
 unfold mq;refine VF.du 9 [.tmp 2] Tryz.func300 ?_;cases h1:s==jW<;>cases h2:s==kW
 all_goals
  simp only[jW,kW]at h1 h2;refine aI @bt @h1 @h2 ?_;exact VH.Ge.refl _
theorem U3 (s:Bs) (O:VH) (hs:s.length<=maxLen):VF Tryz.prog 301 [.str s] O (aD fun m O'=>m=mb (zG ⟨s,s⟩)/\O.Ge O'):=by
 refine VF.du 7 [.tmp 2] Tryz.func301 ?_;refine ae @bt ?_;refine ah.rt (FT ⟨s,s⟩ _ hs hs) ?_;rintro _ O2 ⟨rfl,hg⟩;refine ae @bt ?_;exact hg
def Lt (n:Nat):Bs:=[UInt8.ofNat (48+n % 10)]
def BW:Nat->Nat->Bs
 | 0,_=>[]
 | k+1,n=>if n=0 then[]else BW k (n / 10)++Lt n
def lr (n:Nat):Bs:=BW (n+1) n
theorem xW:∀(k n:Nat),n<k->BW k n=BW (n+1) n
 | 0,n,h=>by omega
 | k+1,n,h=>by
   rw[BW,BW];split
   ·rfl
   ·rw[xW k (n / 10) (by omega),xW n (n / 10) (by omega)]
theorem AM {n:Nat} (h:0<n):lr n=lr (n / 10)++Lt n:=by
 unfold lr;rw[BW,if_neg (by omega),xW n (n / 10) (by omega)]
theorem rO (n:Nat):(lr n).length<=n:=by
 induction n using Nat.strongRecOn with
 | _ n ih=>
   rcases Nat.eq_zero_or_pos n with rfl | h
   ·simp[lr,BW]
   ·rw[AM h,List.length_append];have:=ih (n / 10) (by omega);simp only[Lt,List.length_cons,List.length_nil];omega
theorem Lu (d:Nat) (h:d<10):(([48,49,50,51,52,53,54,55,56,57]:Bs).drop d).take (d+1 - d)=[UInt8.ofNat (48+d)]:=by
 rw[show d+1 - d=1 by omega];rcases(show d=0\/d=1\/d=2\/d=3\/d=4\/d=5\/d=6\/d=7\/d=8\/d=9 by omega)with rfl | rfl | rfl | rfl | rfl | rfl | rfl | rfl | rfl | rfl<;>rfl
theorem Eh (n:Nat) (O:VH) (hn:n<=1000000000):VF Tryz.prog 297 [mi n] O (aD fun m O'=>m= .str (lr n)/\O'=O):=by
 have zN:=rO n;refine VF.du 17 [.tmp 2] Tryz.func297 ?_;refine ae @bt ?_;refine WC.iA [0,3] [] (fun x:Nat×Bs=>[mi x.1,.str x.2]) (fun x O'=>O'=O/\lr n=lr x.1++x.2/\x.1<=n) (fun x=>x.1) ((n,[])) ?_ ?_
 ·exact⟨rfl,by simp,Nat.le_refl _⟩
 rintro⟨k,s⟩ O2 ⟨eO,hk,xK⟩;dsimp only at hk xK ⊢;rw[eO];clear eO O2
 rcases Nat.eq_zero_or_pos k with rfl | hp
 ·have h0:lr 0=[]:=rfl;rw[h0,List.nil_append]at hk;refine ae @bt ?_;exact congrArg MV.str hk.symm
 ·have hd:=Lu (k % 10) (by omega);have hl:(lr n).length=(lr k).length+s.length:=by rw[hk,List.length_append]
  have hr:(k:Int).tmod 10=((k % 10:Nat):Int):=by rw[Int.tmod_eq_emod_of_nonneg (by omega)];rfl
  have hq:(k:Int).tdiv 10=((k / 10:Nat):Int):=by rw[Int.tdiv_eq_ediv_of_nonneg (by omega)];rfl
  refine de @bt @hr @hq @hd ?_;refine az.next (k / 10,Lt k++s) ⟨rfl,?_,by dsimp only;omega⟩;rw[hk,AM hp,List.append_assoc]
theorem ac3 {e:Int} {w:Bs}:aq (sL e w)=sL e w:=by simp only[sL,wu,ar]
def kx (x:Nd) (w:Bs):List MV:=df x++[.str w]
def PC:Nd:=.mk [] [] [] []
def cn (x:Nd) (w name:Bs):Except (Int×Bs) ((Nd×Bs)×Bool):=
 match cC x name with
 | []=>.ok ((PC,w++[47]++name),false)
 | [y]=>.ok ((y,w++[47]++name),true)
 | _=>.error (20,w++[47]++name++[91,50,93])
def FQ {α :Type} (O:VH) (f:Except (Int×Bs) α) (R: α ->MV->Prop):fL->VH->Prop:=fun r O'=>O.Ge O'/\match r,f with
 | .ret m,.ok x=>R x m
 | .panic m,.error e=>m=sL e.1 e.2
 | _,_=>False
theorem rP (x:Nd) (w name:Bs) (O:VH) (hk:x.kids.length<=1000000) (hw:w.length<=1000000) (hn:name.length<=1000000):VF Tryz.prog 249 [.agg (kx x w),.str name] O (FQ O (cn x w name) fun y m=>m= .tuple [.agg (kx y.1.1 y.1.2),mb y.2]):=by
 refine VF.fgR ?_;have pL:=CM x name;have jY:(cC x name).length<=1000000:=Nat.le_trans (List.length_filter_le _ _) hk
 have PD:cn x w name=match cC x name with
  | []=>.ok ((PC,w++[47]++name),false)
  | [y]=>.ok ((y,w++[47]++name),true)
  | _=>.error (20,w++[47]++name++[91,50,93]):=rfl
 generalize cn x w name=F at*;generalize cC x name=K at*;obtain⟨n,a,k,t⟩:=x;simp only[kx,df,List.cons_append,List.nil_append]at pL ⊢;refine VF.bO 34 [.cell 4 373,.tmp 5] Tryz.func249 ?_;refine VC.ag aa (ae @bt ?_);refine VC.bx ?_;rintro O1 ⟨aM,Cc,c5⟩;have dw:O1.hp O.next=some (.cells [.str n,.sl a.length (a.flatMap aY) .aq,.sl k.length (ay k) .aq,.str t,.str w]):=(aM.hp _ (Nat.lt_succ_self _)).trans (VH.aV _ _)
 replace Cc:O1.hp (O.next+1)=some (.cells [.str [],.sl 0 [] .nil,.sl 0 [] .nil,.str [],.str []]):=Cc
 have aic:O.Ge O1:=((VH.Ge.refl O).push _).trans aM
 replace c5:O1.next=O.next+2:=c5
 clear aM;refine VC.ag aa (ao @bt @dw ?_);refine ah.rt (pL O1 hk) ?_;rintro _ O2 ⟨tk,rfl,ax⟩;have iL:=ax.at dw;have sk:=ax.at Cc;have gx:=aic.trans ax;refine ae @bt ?_;refine VC.ag aa (ao @bt @iL ?_)
 match K,PD with
 | [],PD=>
   subst PD;refine WC.sound aa (aI @bt @sk @List.length_nil.{0} ?_);refine⟨gx.set (by omega) _,?_⟩;simp only[kx,PC,df,wu,a_];rfl
 | [.mk yn ya yk yt],PD=>
   subst PD;have eR:=zH (.mk yn ya yk yt);simp only[df]at eR;have cL:ay [.mk yn ya yk yt]=[.str yn,.sl ya.length (ya.flatMap aY) .aq,.sl yk.length (ay yk) .aq,.str yt]:=by rw[ay,ay,List.append_nil,df]
   rw[cL];refine WC.sound aa (de @bt @sk @List.length_cons.{0} @List.length_nil.{0} ?_);refine⟨gx.set (by omega) _,?_⟩;show _=_;rw[df,fS,eP];rfl
 | y::z::r,PD=>
   subst PD;simp only[List.length_cons]at jY;refine WC.sound aa (ao @bt @List.length_cons.{0} ?_);refine ah.p (lL _ _ _) ?_ ?_
   ·rintro m O3 ⟨_,h⟩;exact h.elim
   rintro m O3 ⟨rfl,rfl⟩;refine ae @bt ?_;exact⟨gx,ac3⟩
def pM (x:Nd) (w:Bs) (empty:Bool):Except (Int×Bs) Bs:=
 if 0<(cC x []).length\/1024<(sK x).length\/(sK x=[]/\empty=false)then .error (20,w)else .ok (sK x)
theorem Lv (x:Nd) (w:Bs) (empty:Bool) (O:VH) (hk:x.kids.length<=1000000) (ht:(iC x.kids).length<=1000000000):VF Tryz.prog 272 [.agg (kx x w),mb empty] O (FQ O (pM x w empty) fun y m=>m= .str y):=by
 have pL:=CM x [];have Zd:=Zc x;have jY:(cC x []).length<=1000000:=Nat.le_trans (List.length_filter_le _ _) hk;have NU:(sK x).length<=1000000000:=Nat.le_trans (Pu _) ht;unfold pM;generalize cC x []=K at*;generalize sK x=T at*;obtain⟨n,a,k,t⟩:=x;simp only[kx,df,List.cons_append,List.nil_append]at pL Zd ⊢;refine VF.bO 31 [.tmp 4] Tryz.func272 ?_;refine VC.ag aa (ae @bt ?_);refine VC.bx ?_;rintro O1 ⟨aM,dw,c5⟩;refine VC.ag aa (ao @bt @dw ?_);refine ah.rt (Zd O1 hk ht) ?_;rintro _ O2 ⟨rfl,ax⟩;have iL:=ax.at dw;have iB:=ax.next;refine ae @bt ?_;refine VC.ag aa (ao @bt @iL ?_);refine ah.rt (pL O2 hk) ?_;rintro _ O3 ⟨tk,rfl,aJ⟩;have kZ:=aJ.at iL;have eG:=(aM.trans ax).trans aJ;by_cases h1:0<K.length
 ·rw[if_pos (.inl h1)];refine ao @bt @kZ ?_;refine ah.p (lL _ _ _) ?_ ?_
  ·rintro m O4 ⟨_,h⟩;exact h.elim
  rintro m O4 ⟨rfl,rfl⟩;refine ae @bt ?_;exact⟨eG,rfl⟩
 by_cases h2:1024<T.length
 ·rw[if_pos (.inr (.inl h2))];refine ao @bt @kZ ?_;refine ah.p (lL _ _ _) ?_ ?_
  ·rintro m O4 ⟨_,h⟩;exact h.elim
  rintro m O4 ⟨rfl,rfl⟩;refine ae @bt ?_;exact⟨eG,rfl⟩
 cases T with
 | nil=>
   cases empty
   ·rw[if_pos (.inr (.inr ⟨rfl,rfl⟩))];refine de @bt @kZ (show(([]:List UInt8)==[])=true from rfl) @List.length_nil.{0} ?_;refine ah.p (lL _ _ _) ?_ ?_
    ·rintro m O4 ⟨_,h⟩;exact h.elim
    rintro m O4 ⟨rfl,rfl⟩;refine ae @bt ?_;exact⟨eG,rfl⟩
   ·rw[if_neg (fun h=>by rcases h with h | h | ⟨_,h⟩;exact h1 h;exact h2 h;cases h)];refine de @bt @kZ (show(([]:List UInt8)==[])=true from rfl) @List.length_nil.{0} ?_;refine WC.sound aa (ae @bt ?_);exact⟨eG,rfl⟩
 | cons c T=>
   rw[if_neg (fun h=>by rcases h with h | h | ⟨h,_⟩;exact h1 h;exact h2 h;cases h)];refine aI @bt @kZ (show((c::T)==[])=false from rfl) ?_;refine WC.sound aa (ae @bt ?_);exact⟨eG,rfl⟩
def i_:List (Bs×Bs)->Nat
 | []=>0
 | x::r=>1+x.1.length+x.2.length+i_ r
mutual
def ky:Nd->Nat
 | .mk n a k t=>1+n.length+t.length+i_ a+jO k
def jO:List Nd->Nat
 | []=>0
 | x::r=>ky x+jO r
end
theorem zO (n:Bs) (a:List (Bs×Bs)) (k:List Nd) (t:Bs):ky (.mk n a k t)=1+n.length+t.length+i_ a+jO k:=by rw[ky]
theorem Lw (x:Nd):1<=ky x:=by cases x;rw[ky];omega
theorem AN:∀k:List Nd,k.length<=jO k
 | []=>by simp
 | x::r=>by rw[jO,List.length_cons];have:=AN r;have:=Lw x;omega
theorem Hh:∀{k:List Nd} {x:Nd},x∈k->ky x<=jO k
 | y::r,x,h=>by
   rw[jO];rcases List.mem_cons.1 h with rfl | h
   ·omega
   ·have:=Hh h;omega
theorem wh (x:Nd):jO x.kids<ky x:=by cases x;rw[ky,Nd.kids];omega
theorem jS (x:Nd):x.kids.length<=ky x:=Nat.le_trans (AN _) (Nat.le_of_lt (wh x))
theorem Ei:∀k:List Nd,(iC k).length<=jO k
 | []=>by simp[iC]
 | x::r=>by
   have ih:=Ei r;unfold iC at ih ⊢;rw[List.flatMap_cons,List.length_append,jO]
   have:(bif x.nm==[]then x.tx else[]).length<=ky x:=by
    cases x with
    | mk n a k t=>
      rw[ky];cases(Nd.mk n a k t).nm==[]
      ·simp
      ·show t.length<=_;omega
   omega
theorem PF {x y:Nd} {name:Bs} (h:y∈cC x name):ky y<ky x:=Nat.lt_of_le_of_lt (Hh ((List.mem_filter.1 h).1)) (wh x)
def IL (rQ:Bool) (right:Bs->Bool) (wy:Bs) (b:Bool) (T:Except (Int×Bs) Bs):Except (Int×Bs) Bs:=
 match b,T with
 | false,_=>if rQ then .error (20,wy)else .ok []
 | true,.error e=>.error e
 | true,.ok s=>if right s then .ok s else .error (20,wy)
def bN (x:Nd) (w name:Bs) (rQ:Bool) (right:Bs->Bool):Except (Int×Bs) Bs:=
 match cn x w name with
 | .error e=>.error e
 | .ok y=>IL rQ right y.1.2 y.2 (pM y.1.1 y.1.2 false)
theorem rR {x:Nd} {w name:Bs} {y:Nd} {wy:Bs} {b:Bool} (h:cn x w name= .ok ((y,wy),b)):ky y<=ky x/\wy=w++[47]++name:=by
 unfold cn at h;split at h
 ·injection h with h;injection h with h _;injection h with h1 h2
  subst h1;subst h2
  exact⟨by simp only[PC,zO,i_,jO,List.length_nil];exact Lw x,rfl⟩
 ·rename_i z hz;injection h with h;injection h with h _;injection h with h1 h2
  subst h1;subst h2
  exact⟨Nat.le_of_lt (PF (by rw[hz];simp)),rfl⟩
 ·cases h
theorem PG {y:Nd} {w:Bs} {e:Bool} {s:Bs} (h:pM y w e= .ok s):s.length<=1024:=by
 unfold pM at h;split at h
 ·cases h
 ·rename_i hn;injection h with h;subst h
  exact Nat.le_of_not_lt fun hh=>hn (.inr (.inl hh))
theorem pN (x:Nd) (w name:Bs) (rQ:Bool) (right:Bs->Bool) (id:FuncId) (cs:List MV) (O:VH) (hx:ky x<=1000000) (hw:w.length<=10000) (hn:name.length<=10000) (hid:cM Tryz.prog id=true)
  (hr:∀s O',O.Ge O'->s.length<=1024->VF Tryz.prog id ([.str s]++cs) O' (aD fun m j4=>m=mb (right s)/\O'.Ge j4)):
  VF Tryz.prog 250 [.agg (kx x w),.str name,mb rQ,.func (.func id) [] cs] O (FQ O (bN x w name rQ right) fun y m=>m= .str y):=by
 have uT:=rP x w name;have jY:=jS x;have uU:= @rR x w name;have uV:∀e,cn x w name= .error e->bN x w name rQ right= .error e:=fun e h=>by unfold bN;rw[h]
 have nE:∀y wy b,cn x w name= .ok ((y,wy),b)->bN x w name rQ right=IL rQ right wy b (pM y wy false):=fun y wy b h=>by unfold bN;rw[h]
 generalize bN x w name rQ right=WE at*;generalize cn x w name=F at*;obtain⟨n,a,k,t⟩:=x;generalize hW:ky (.mk n a k t)=W at*;simp only[kx,df,List.cons_append,List.nil_append]at uT ⊢;refine VF.bO 34 [.tmp 8] Tryz.func250 ?_;refine VC.ag aa (ae @bt ?_);refine VC.bx ?_;rintro O1 ⟨aM,dw,c5⟩;refine VC.ag aa ?_;refine ao @bt @dw ?_;refine ah.p (uT O1 (by omega) (by omega) (by omega)) ?_ ?_;rotate_left
 ·rintro m O2 ⟨ax,h⟩;cases F with
  | ok y=>exact h.elim
  | error e=>
    dsimp only at h;rw[uV e rfl];refine ae @bt ?_;exact⟨aM.trans ax,h⟩
 rintro m O2 ⟨ax,h⟩;cases F with
 | error e=>exact h.elim
 | ok y=>
 obtain⟨⟨y,wy⟩,b⟩:=y;dsimp only at h;subst h;obtain⟨Ze,uW⟩:=uU rfl;rw[nE _ _ _ rfl];clear uV nE;have ox:wy.length<=30000:=by rw[uW];simp only[List.length_append,List.length_cons,List.length_nil];omega
 clear uU uW;have aid:=jS y;have uL:=Nat.le_trans (Ei y.kids) (Nat.le_of_lt (wh y));have FP:=Lv y wy false;have NU:= @PG y wy false;generalize pM y wy false=T at*;obtain⟨yn,ya,yk,yt⟩:=y;simp only[kx,df,List.cons_append,List.nil_append]at FP ⊢;refine ae @bt ?_;refine VC.al ?_;rintro O3 ⟨aJ,Lx,gL⟩;have eG:=(aM.trans ax).trans aJ;cases b
 ·cases rQ
  ·refine WC.sound aa (ae @bt ?_);exact⟨eG,rfl⟩
  ·refine WC.sound aa (ao @bt @Lx ?_);refine ah.p (lL _ _ _) ?_ ?_
   ·rintro m O9 ⟨_,h⟩;exact h.elim
   rintro m O9 ⟨rfl,rfl⟩;refine ae @bt ?_;exact⟨eG,rfl⟩
 ·refine WC.sound aa (ao @bt @Lx ?_);refine ah.p (FP O3 (by omega) (by omega)) ?_ ?_;rotate_left
  ·rintro m O4 ⟨bg,h⟩;cases T with
   | ok s=>exact h.elim
   | error e=>
     dsimp only at h;refine ae @bt ?_;exact⟨eG.trans bg,h⟩
  rintro m O4 ⟨bg,h⟩;cases T with
  | error e=>exact h.elim
  | ok s=>
  dsimp only at h;subst h;have PH:=bg.at Lx;have gR:=eG.trans bg;have gM:=bg.next;refine ae @bt ?_;refine ah.rt (hr s O4 gR (NU rfl)) ?_ (hb:=hid);rintro _ O5 ⟨rfl,bW⟩;have hy5:=bW.at PH;unfold IL;dsimp only;cases right s
  ·refine ao @bt @hy5 ?_;refine ah.p (lL _ _ _) ?_ ?_
   ·rintro m O9 ⟨_,h⟩;exact h.elim
   rintro m O9 ⟨rfl,rfl⟩;refine ae @bt ?_;exact⟨gR.trans bW,rfl⟩
  ·refine ao @bt @hy5 ?_;exact⟨gR.trans bW,rfl⟩
section
variable {G H:Gh} {n:Sz} {D:List Deferred} {e e':Env} {a:Act} {P:Program} {tab:b9} {O O':VH} {w:World} {m m':MV} {u v:Value} {ops:Array Oper} {Q:VQ} {md:Md}
theorem ab.pair {brk:List Nat} {Ψ :Gh->Prop} {J:VH->Prop} {Z:Prop} {fuel i j:Nat} {listed:Array Bool}
  (h1:aH P n D ops i e O Q fun e' O'=>J O'/\ab P n D ops brk J Ψ Z fuel (listed.setIfInBounds i true) e' O' Q) (h2:aH P n D ops j e O Q fun e' O'=>J O'/\ab P n D ops brk J Ψ Z fuel (listed.setIfInBounds j true) e' O' Q) (hr:Region.ready .any ops listed=[i,j]:=by kernel_rfl):ab P n D ops brk J Ψ Z (fuel+1) listed e O Q:=by
 intro hΨ hZ hJ G a w hψ hw aS
 have key:∀x,(aH P n D ops x e O Q fun e' O'=>J O'/\ab P n D ops brk J Ψ Z fuel (listed.setIfInBounds x true) e' O' Q)->wpOp P ops (cx G n D Q) x (fun a' w'=>TE brk G J x w'/\iN P .any ops (cx G n D Q) (TE brk G J) fuel (listed.setIfInBounds x true) a' w') a w:=fun x h=>
  wpOp_mono (fun a' w' ⟨e',O',H,h1,h2,h3,h4,h5⟩=>⟨TE.mk ⟨H,O',h1,h2,h4⟩,jr (fun _ _ _=>cx.le h1) _ _ _ _ (fun k _ x hT=>hT.le h1) (h5 hΨ hZ h4 H a' w' (hΨ _ _ h1 hψ) h2 h3)⟩) (h G a w hw aS)
 refine jq hr (by simp) fun x hx=>?_
 simp only[List.mem_cons,List.not_mem_nil,or_false]at hx;rcases hx with rfl | rfl
 ·exact key _ h1
 ·exact key _ h2
theorem aH.iW {i:Nat} {l:List Oper} {d:Option Tmp} {f:Operand} {xs:Array Operand} {ts:Array TypeId} {ty:TypeId} {ps:String} {af:Array Edge} {g:Option (Nat×Bool)} {id:FuncId} {ms:List MV} {Φ :MV->VH->Prop} {K:Env->VH->Prop} (hR:VF P id ms O (aD Φ))
  (h:∀m O', Φ m O'->K (aU d m e) O') (ho:l[i]?=some (.mk d (.call {callee:=.value f,args:=xs,argTypes:=ts}) ty ps af g):=by exact rfl) (hg:aL ⟨l⟩ (.mk d (.call {callee:=.value f,args:=xs,argTypes:=ts}) ty ps af g) e=some true:=by exact rfl) (hf:ev e f=some (.func (.func id) [] []):=by exact rfl) (hm:fG e xs.toList=some ms:=by exact rfl) (hb:cM P id=true:=by kernel_rfl) (hd:bm n d=true:=by exact rfl):aH P n D ⟨l⟩ i e O Q K:=
 aH.call (o:=.mk d (.call {callee:=.value f,args:=xs,argTypes:=ts}) ty ps af g) (by simpa using ho) hg rfl rfl hf hm (Enters.sA hb) hd (by simpa using hR) fun r O' hr=>by
  cases r with
  | ret m=>exact h m O' hr
  | panic m=>exact hr.elim
end
def CN (w name:Bs) (i:Nat):Bs:=w++[47]++name++[91]++lr (i+1)++[93]
def pO (w name:Bs) (K:List Nd):List (Nd×Bs):=K.mapIdx fun i y=>(y,CN w name i)
def tF (L:List (Nd×Bs)):List MV:=L.flatMap fun p=>kx p.1 p.2
def mX (x:Nd) (w name:Bs):Except (Int×Bs) (List (Nd×Bs)):=if 1024<(cC x name).length then .error (2,w)else .ok (pO w name (cC x name))
theorem Ej (p:Nd×Bs):(kx p.1 p.2).length=5:=by rw[kx,List.length_append,lK];rfl
theorem wj (L:List (Nd×Bs)):(tF L).length=L.length*5:=aT Ej L
theorem Ly (x:Nd) (w:Bs):cO (kx x w)=kx x w:=by simp only[kx,wu,zH]
theorem Hi (L:List (Nd×Bs)):cO (tF L)=tF L:=kE (fun p=>Ly p.1 p.2) L
theorem PI {w name:Bs} {K:List Nd} {j:Nat} (h:j<K.length):pO w name (K.take (j+1))=pO w name (K.take j)++[(K[j],CN w name j)]:=by
 unfold pO;rw[cY _ _ h,List.mapIdx_append];simp[List.length_take,Nat.min_eq_left (Nat.le_of_lt h)]
theorem Hj (w name:Bs) (K:List Nd):(pO w name K).length=K.length:=by simp[pO]
theorem RV (x:Nd) (w name:Bs) (O:VH) (hx:ky x<=1000000) (hw:w.length<=10000) (hn:name.length<=10000):
  VF Tryz.prog 275 [.agg (kx x w),.str name] O (FQ O (mX x w name) fun y m=>∃tk,m= .sl y.length (tF y) tk):=by
 have pL:=CM x name;have jY:=jS x;have hKl:(cC x name).length<=1000000:=Nat.le_trans (List.length_filter_le _ _) (by omega);unfold mX;generalize cC x name=K at*;obtain⟨n,a,k,t⟩:=x;generalize hW:ky (.mk n a k t)=W at*;simp only[kx,df,List.cons_append,List.nil_append]at pL ⊢;refine VF.bO 43 [.tmp 4] Tryz.func275 ?_;refine VC.ag aa (ae @bt ?_);refine VC.bx ?_;rintro O1 ⟨aM,dw,c5⟩;refine VC.ag aa (ao @bt @dw ?_);refine ah.rt (pL O1 (by omega)) ?_;rintro _ O2 ⟨tk,rfl,ax⟩;have iL:=ax.at dw;have iB:=ax.next;have gx:=aM.trans ax;refine ae @bt ?_;by_cases LA:1024<K.length
 ·rw[if_pos LA];refine VC.ag aa (ao @bt @iL ?_);refine ah.p (lL _ _ _) ?_ ?_
  ·rintro m O9 ⟨_,h⟩;exact h.elim
  rintro m O9 ⟨rfl,rfl⟩;refine ae @bt ?_;exact⟨gx,rfl⟩
 rw[if_neg LA];refine VC.ag aa (ao @bt @iL ?_);refine VC.join aa [4] (fun tl:Tok=>[.sl (pO w name K).length (tF (pO w name K)) tl]) (fun tl O'=>O.Ge O') ?_ ?_;rotate_left
 ·intro tl O9 bn;refine ae @bt ?_;exact⟨bn,tl,rfl⟩
 refine VC.ag aa (ae @bt ?_);refine VC.aB ?_;refine VC.bP [4,20] [1,2,18,19] (fun x:Nat×Tok=>[.sl (pO w name (K.take x.1)).length (tF (pO w name (K.take x.1))) x.2,mi x.1]) (fun x O'=>O2.Ge O'/\App O' O2.next 5 x.2/\x.1<=K.length) (fun x=>K.length - x.1) ((0,.nil)) ?_ ?_
 ·exact⟨VH.Ge.refl _,trivial,Nat.zero_le _⟩
 rintro⟨j,tl⟩ O3 ⟨aJ,cH,hj⟩;dsimp only at cH hj ⊢;by_cases aX:j<K.length;rotate_left
 ·obtain rfl:j=K.length:=by omega
  rw[List.take_length];refine WC.sound aa (ae @bt ?_);exact aA.mk tl (gx.trans aJ)
 have bA:=cg lK K j aX;rw[<-pJ]at bA;have RT:=cZ K;have iZ:=PI (w:=w) (name:=name) aX;have FU:(pO w name (K.take j)).length<=1000000:=by rw[Hj,List.length_take];omega
 generalize K[j]=y at*;generalize pO w name (K.take j)=E at*;have zN:=rO (j+1);have eR:=Ly y (CN w name j);obtain⟨yn,ya,yk,yt⟩:=y;simp only[kx,df,List.cons_append,List.nil_append]at bA eR;have kZ:=aJ.at iL;have gL:=aJ.next;refine VC.ag aa (ae @bt ?_);refine VC.ag aa (ae @bt ?_);refine VC.bC (VC.aB ?_);refine VC.ag aa (ao @bt @bA ?_);refine VC.al ?_;rintro O4 ⟨bg,mG,gM⟩;have gy:=bg.at kZ;have lM:=cH.ge bg;have RW:=aJ.trans bg;have dd:((j:Int)+1)=((j+1:Nat):Int):=by omega
 refine VC.lY [15,16] ?_;refine ab.av 0 ?_;refine ae @bt ?_;refine ab.av 2 ?_;refine ae @bt ?_;refine ab.ld (m:=.str w) 3 ?_ ?_
 ·exact c9 @bt @gy
 simp only[aj];refine ab.av 4 ?_;refine ae @bt ?_;refine ab.av 5 ?_;refine ae @bt ?_;refine ab.av 6 ?_;refine ae @bt ?_;refine ab.av 7 ?_;refine ae @bt ?_;refine ab.av 8 ?_;refine ae @bt ?_;refine ab.av 9 ?_;refine ao @bt @dd ?_;refine ab.pair (i:=1) (j:=10) ?_ ?_
 ·refine aH.o1 ?_;refine ao @bt @mG ?_;refine⟨VH.Ge.refl _,?_⟩;refine ab.call (i:=10) (Eh (j+1) O4 (by omega)) ?_;rintro _ O5 ⟨rfl,eO⟩;simp only[aj];rw[eO];clear eO O5
  refine⟨VH.Ge.refl _,?_⟩;refine ab.av 11 ?_;refine ae @bt ?_;refine ab.av 12 ?_;refine ae @bt ?_;refine ab.av 13 ?_;refine ae @bt ?_;refine ab.op (i:=14) ?_;refine ae @bt ?_;refine⟨VH.Ge.refl _,?_⟩;refine ab.bH [(15,.one),(16,.av)] ?_;refine ae @bt ?_;obtain⟨mE,fZ,kX⟩:=fR (n:=E.length) (cs:=tF E) (ds:=[.str yn,.sl ya.length (ya.flatMap aY) .aq,.sl yk.length (ay yk) .aq,.str yt,.str (w++[47]++name++[91]++lr (j+1)++[93])]) YZ YY.1.1 lM (wj E) rfl rfl (by decide) (by omega) (by simp only[maxLen];omega) (Hi E) eR;refine VL.lh fZ kX ?_;refine ae @bt ?_;refine WC.sound aa (ae @bt ?_);exact az.next (j+1,.own O4.next 5) ⟨cP.eo RW lM (cP.after lM),App.after RW.next,aX⟩ (hl:=(by dsimp only;rw[iZ,List.length_append];unfold tF;rw[List.flatMap_append];rfl))
 ·refine aH.iW (Eh (j+1) O4 (by omega)) ?_;rintro _ O5 ⟨rfl,eO⟩;rw[eO];clear eO O5
  simp only[aj];refine⟨VH.Ge.refl _,?_⟩;refine ab.av 11 ?_;refine ae @bt ?_;refine ab.av 12 ?_;refine ae @bt ?_;refine ab.op (i:=1) ?_;refine ao @bt @mG ?_;refine⟨VH.Ge.refl _,?_⟩;refine ab.av 13 ?_;refine ae @bt ?_;refine ab.op (i:=14) ?_;refine ae @bt ?_;refine⟨VH.Ge.refl _,?_⟩;refine ab.bH [(15,.one),(16,.av)] ?_;refine ae @bt ?_;obtain⟨mE,fZ,kX⟩:=fR (n:=E.length) (cs:=tF E) (ds:=[.str yn,.sl ya.length (ya.flatMap aY) .aq,.sl yk.length (ay yk) .aq,.str yt,.str (w++[47]++name++[91]++lr (j+1)++[93])]) YZ YY.1.1 lM (wj E) rfl rfl (by decide) (by omega) (by simp only[maxLen];omega) (Hi E) eR;refine VL.lh fZ kX ?_;refine ae @bt ?_;refine WC.sound aa (ae @bt ?_);exact az.next (j+1,.own O4.next 5) ⟨cP.eo RW lM (cP.after lM),App.after RW.next,aX⟩ (hl:=(by dsimp only;rw[iZ,List.length_append];unfold tF;rw[List.flatMap_append];rfl))
def k6 (w:Bs):Nat×Bool:=
 if w=dR 1 then(1,true)else if w=dR 2 then(2,true)else if w=dR 3 then(3,true)else if w=dR 4 then(4,true)else if w=dR 5 then(5,true)else if w=dR 6 then(6,true)else(0,false)
def fe (w:Bs):Nat->Nat->Nat×Bool
 | 0,_=>(0,false)
 | k+1,j=>if j≠0/\dR j=w then(j,true)else fe w k (j+1)
theorem PJ (w:Bs):k6 w=fe w 7 0:=by
 unfold k6 fe fe fe fe fe fe fe fe;simp only[eq_comm (a:=w)];simp
theorem LB (w:Bs) (O:VH):VF Tryz.prog 298 [.str w] O (aD fun m O'=>m= .tuple [mi (k6 w).1,mb (k6 w).2]/\O'=O):=by
 rw[PJ];refine VF.du 18 [.tmp 2,.tmp 3] Tryz.func298 ?_;refine ae @bt ?_;refine WC.iA [5] [0] (fun j:Nat=>[mi j]) (fun j O'=>O'=O/\j<=7/\fe w 7 0=fe w (7 - j) j) (fun j=>7 - j) (0) ?_ ?_
 ·exact⟨rfl,Nat.zero_le _,rfl⟩
 rintro j O2 ⟨eO,hj,hs⟩;rw[eO];clear eO O2
 by_cases h7:j<7
 ·have dB:fe w (7 - j) j=if j≠0/\dR j=w then(j,true)else fe w (7 - (j+1)) (j+1):=by
   obtain⟨d,hd⟩:∃d,7 - j=d+1:=⟨6 - j,by omega⟩
   rw[hd,show 7 - (j+1)=d by omega];rfl
  rw[dB]at hs;by_cases h0:j=0
  ·rw[if_neg (fun h=>h.1 h0)]at hs;refine ae @bt ?_;exact az.next (j+1) ⟨rfl,h7,hs⟩
  ·refine ae @bt ?_;refine ah.rt (IG j _) ?_;rintro _ O3 ⟨rfl,eO⟩;rw[eO];clear eO O3
   cases hw:dR j==w
   ·rw[if_neg (fun h=>by rw[h.2]at hw;simp at hw)]at hs;refine ao @bt @hw ?_;exact az.next (j+1) ⟨rfl,h7,hs⟩
   ·rw[if_pos ⟨h0,eq_of_beq hw⟩]at hs;rw[hs];exact c9 @bt @hw
 ·obtain rfl:j=7:=by omega
  rw[hs];refine ae @bt ?_;rfl
def dN (s p:Bs):Bool:=s.take p.length==p
theorem U4 {s p:Bs} (h:¬p.length<=s.length):dN s p=false:=by
 unfold dN;rw[beq_eq_false_iff_ne];intro e;have:=congrArg List.length e;rw[List.length_take]at this;omega
theorem FW (s p:Bs) (O:VH):VF Tryz.prog 137 [.str s,.str p] O (aD fun m O'=>m=mb (dN s p)/\O'=O):=by
 refine VF.du 18 [.tmp 4] Tryz.func137 ?_;by_cases h:p.length<=s.length
 ·have e:(s.take p.length==p)=dN s p:=rfl;generalize dN s p=b at*;cases b
  ·exact c9 @bt @e
  ·exact c9 @bt @e
 ·rw[U4 h];exact eW @bt
theorem mY (s p:Bs) (O:VH):VF Tryz.prog 103 [.str s,.str p] O (aD fun m O'=>m=mb (dN s p)/\O'=O):=by
 refine VF.du 8 [.tmp 4] Tryz.func103 ?_;refine ae @bt ?_;refine ah.rt (FW s p _) ?_;rintro _ O2 ⟨rfl,rfl⟩;exact eW @bt
set_option linter.defProp false in
def ee:=And.intro bt<|And.intro dM<|And.intro aeu ahH
section
variable {P:Program} {n:Sz} {D:List Deferred} {e:Env} {O:VH} {Q:VQ}
theorem ab.pP {brk:List Nat} {Ψ :Gh->Prop} {J:VH->Prop} {Z:Prop} {fuel i:Nat} {listed:Array Bool} {l:List Oper} {d:Option Tmp} {f:Operand} {xs:Array Operand} {ts:Array TypeId} {ty:TypeId} {ps:String} {af:Array Edge} {g:Option (Nat×Bool)} {id:FuncId} {ms cs:List MV} {R:fL->VH->Prop} (hR:VF P id (ms++cs) O R)
  (h:∀m O',R (.ret m) O'->J O'/\ab P n D ⟨l⟩ brk J Ψ Z fuel (listed.setIfInBounds i true) (aU d m e) O' Q) (h2:∀m O',R (.panic m) O'->Q (.panic m) (kB n e) O') (hr:Region.ready .any ⟨l⟩ listed=[i]:=by kernel_rfl) (ho:l[i]?=some (.mk d (.call {callee:=.value f,args:=xs,argTypes:=ts}) ty ps af g):=by exact rfl) (hg:aL ⟨l⟩ (.mk d (.call {callee:=.value f,args:=xs,argTypes:=ts}) ty ps af g) e=some true:=by exact rfl) (hf:ev e f=some (.func (.func id) [] cs):=by exact rfl) (hm:fG e xs.toList=some ms:=by exact rfl) (hb:cM P id=true:=by kernel_rfl) (hd:bm n d=true:=by exact rfl):ab P n D ⟨l⟩ brk J Ψ Z (fuel+1) listed e O Q:=
 ab.one (aH.call (o:=.mk d (.call {callee:=.value f,args:=xs,argTypes:=ts}) ty ps af g) (by simpa using ho) hg rfl rfl hf hm (Enters.sA hb) hd (by simpa using hR) fun r O' hr=>by
  cases r with
  | ret m=>exact h m O' hr
  | panic m=>exact h2 m O' hr) (hr:=hr)
end
def idxFrom {α :Type} (p: α ->Bool):Nat->List α ->Int
 | _,[]=> -1
 | i,x::r=>if p x then i else idxFrom p (i+1) r
theorem Ek {α :Type} (p: α ->Bool):∀(L:List α) (i:Nat),decide (idxFrom p i L>=0)=L.any p
 | [],i=>rfl
 | x::r,i=>by
   rw[idxFrom,List.any_cons];cases h:p x
   ·simp[Ek p r]
   ·simp
theorem RX (L:List (Bs×Bs)) (tk:Tok) (id:FuncId) (cs:List MV) (p:Bs×Bs->Bool) (O:VH) (hid:cM Tryz.prog id=true) (hc:∀x∈L,∀O',O.Ge O'->VF Tryz.prog id ([.agg (aY x)]++cs) O' (aD fun m j4=>m=mb (p x)/\O'.Ge j4)) (hn:L.length<=1000000):
  VF Tryz.prog 227 [.sl L.length (L.flatMap aY) tk,.func (.func id) [] cs] O (aD fun m O'=>m=mi (idxFrom p 0 L)/\O.Ge O'):=by
 have dK:=aT fa L;refine VF.du 19 [.tmp 4] Tryz.func227 ?_;refine ae @ee ?_;refine WC.iA [8] [0,1,7] (fun j:Nat=>[mi j]) (fun j O'=>O.Ge O'/\j<=L.length/\idxFrom p 0 L=idxFrom p j (L.drop j)) (fun j=>L.length - j) (0) ?_ ?_
 ·exact⟨VH.Ge.refl _,Nat.zero_le _,rfl⟩
 rintro j O2 ⟨ax,hj,cW⟩;by_cases h2:j<L.length
 ·have bA:=cg fa L j h2;have Zf:=hc L[j] (List.getElem_mem h2) O2 ax;rw[List.drop_eq_getElem_cons h2,idxFrom]at cW;generalize L[j]=y at*;refine ao @ee @bA ?_;refine ah.rt Zf ?_ (hb:=hid);rintro _ O3 ⟨rfl,aJ⟩;cases hi:p y
  ·rw[hi]at cW;refine ae @ee ?_;exact az.next (j+1) ⟨ax.trans aJ,by omega,cW⟩
  ·rw[hi,if_pos rfl]at cW;rw[cW];refine ae @ee ?_;exact ax.trans aJ
 ·obtain rfl:j=L.length:=by omega
  rw[List.drop_of_length_le (by omega)]at cW;rw[cW];refine ae @ee ?_;exact⟨rfl,ax⟩
theorem ac4 (L:List (Bs×Bs)) (tk:Tok) (id:FuncId) (cs:List MV) (p:Bs×Bs->Bool) (O:VH) (hid:cM Tryz.prog id=true) (hc:∀x∈L,∀O',O.Ge O'->VF Tryz.prog id ([.agg (aY x)]++cs) O' (aD fun m j4=>m=mb (p x)/\O'.Ge j4)) (hn:L.length<=1000000):
  VF Tryz.prog 273 [.sl L.length (L.flatMap aY) tk,.func (.func id) [] cs] O (aD fun m O'=>m=mb (L.any p)/\O.Ge O'):=by
 rw[<-Ek p L 0];refine VF.du 9 [.tmp 4] Tryz.func273 ?_;refine ae @ee ?_;refine ah.rt (RX L tk id cs p O hid hc hn) ?_;rintro _ O2 ⟨rfl,ax⟩;refine ae @ee ?_;exact ax
theorem U5 (x:Bs×Bs) (k:Nat) (yn:Bs) (a b c:MV) (O:VH) (hk:O.hp k=some (.cells [.str yn,a,b,c])) (xK:k<O.next):VF Tryz.prog 274 [.agg (aY x),.ptr k 0] O (aD fun m O'=>m=mb (x.1==yn)/\O.Ge O'):=by
 obtain⟨x1,x2⟩:=x;unfold aY;refine VF.bO 9 [.tmp 3] Tryz.func274 ?_;refine VC.ag aa (ae @ee ?_);refine VC.bx ?_;rintro O1 ⟨aM,dw,c5⟩;have dT:=(aM.hp k xK).trans hk;refine WC.sound aa (aI @ee @dw @dT ?_);exact aM
def sM (wy:Bs):List Nd->List (Bs×Bs)->Except (Int×Bs) (List (Bs×Bs))
 | [],L=>.ok L
 | k::r,L=>bif L.any (·.1==k.nm)then .error (20,wy++[47]++k.nm++[91,50,93])else match pM k (wy++[47]++k.nm) true with
   | .error e=>.error e
   | .ok s=>sM wy r (L++[(k.nm,s)])
def k7 (x:Nd) (w:Bs):Except (Int×Bs) (List (Bs×Bs)):=
 match cn x w kY with
 | .error e=>.error e
 | .ok ((_,_),false)=>.ok []
 | .ok ((y,wy),true)=>if 1024<(cC y []).length then .error (2,wy)else sM wy (cC y []) []
theorem Zg (x:Nd) (w:Bs) (O:VH) (hx:ky x<=1000000) (hw:w.length<=10000):
  VF Tryz.prog 252 [.agg (kx x w)] O (FQ O (k7 x w) fun y m=>∃tk,m= .sl y.length (y.flatMap aY) tk):=by
 have uT:=rP x w kY;have jY:=jS x;have uU:= @rR x w kY;have uV:∀e,cn x w kY= .error e->k7 x w= .error e:=fun e h=>by unfold k7;rw[h]
 have nE:∀y wy,cn x w kY= .ok ((y,wy),false)->k7 x w= .ok []:=fun y wy h=>by unfold k7;rw[h]
 have iD:∀y wy,cn x w kY= .ok ((y,wy),true)->k7 x w=if 1024<(cC y []).length then .error (2,wy)else sM wy (cC y []) []:=fun y wy h=>by unfold k7;rw[h]
 generalize k7 x w=PE at*;generalize cn x w kY=F at*;obtain⟨n,a,k,t⟩:=x;generalize hW:ky (.mk n a k t)=W at*;simp only[kx,df,List.cons_append,List.nil_append]at uT ⊢;refine VF.bO 55 [.tmp 2] Tryz.func252 ?_;refine VC.ag aa (ae @ee ?_);refine VC.bx ?_;rintro O1 ⟨aM,dw,c5⟩;refine VC.ag aa (ao @ee @dw ?_);refine ah.p (uT O1 (by omega) (by omega) (by decide)) ?_ ?_;rotate_left
 ·rintro m O2 ⟨ax,h⟩;cases F with
  | ok y=>exact h.elim
  | error e=>
    dsimp only at h;rw[uV e rfl];refine ae @ee ?_;exact⟨aM.trans ax,h⟩
 rintro m O2 ⟨ax,h⟩;cases F with
 | error e=>exact h.elim
 | ok y=>
 obtain⟨⟨y,wy⟩,b⟩:=y;dsimp only at h;subst h;obtain⟨Ze,uW⟩:=uU rfl;have ox:wy.length<=30000:=by rw[uW];simp only[List.length_append,List.length_cons,List.length_nil];omega
 clear uU uW uV;have pL:=CM y [];have aid:=jS y;have hKm:∀z∈cC y [],ky z<=1000000:=fun z hz=>by have:=PF hz;omega
 have hKl:(cC y []).length<=1000000:=Nat.le_trans (List.length_filter_le _ _) (by omega)
 replace iD:b=true->PE=if 1024<(cC y []).length then .error (2,wy)else sM wy (cC y []) []:=fun h=>by subst h;exact iD y wy rfl
 replace nE:b=false->PE= .ok []:=fun h=>by subst h;exact nE y wy rfl
 generalize cC y []=K at*;obtain⟨yn,ya,yk,yt⟩:=y;simp only[kx,df,List.cons_append,List.nil_append]at pL ⊢;have gx:=aM.trans ax;refine ae @ee ?_;refine VC.al ?_;rintro O3 ⟨aJ,Lx,gL⟩;have eG:=gx.trans aJ;cases b
 ·rw[nE rfl];refine WC.sound aa (ae @ee ?_);exact⟨eG,.nil,rfl⟩
 replace iD:=iD rfl
 clear nE;refine VC.ag aa (ae @ee ?_);refine VC.ag aa (ao @ee @Lx ?_);refine ah.rt (pL O3 (by omega)) ?_;rintro _ O4 ⟨tk,rfl,bg⟩;have PH:=bg.at Lx;have gR:=eG.trans bg;have gM:=bg.next;refine ae @ee ?_;by_cases LA:1024<K.length
 ·rw[if_pos LA]at iD;rw[iD];refine VC.ag aa (ao @ee @PH ?_);refine ah.p (lL _ _ _) ?_ ?_
  ·rintro m O9 ⟨_,h⟩;exact h.elim
  rintro m O9 ⟨rfl,rfl⟩;refine ae @ee ?_;exact⟨gR,rfl⟩
 rw[if_neg LA]at iD;refine VC.ag aa (ao @ee @PH ?_);refine VC.join aa [2] (fun x:List (Bs×Bs)×Tok=>[.sl x.1.length (x.1.flatMap aY) x.2]) (fun x O'=>O.Ge O'/\PE= .ok x.1) ?_ ?_;rotate_left
 ·rintro⟨L,tl⟩ O9 ⟨bn,hP⟩;rw[hP];refine ae @ee ?_;exact⟨bn,tl,rfl⟩
 refine VC.ag aa (ae @ee ?_);refine VC.aB ?_;refine VC.bP [2,27] [3,25,26] (fun x:Nat×List (Bs×Bs)×Tok=>[.sl x.2.1.length (x.2.1.flatMap aY) x.2.2,mi x.1]) (fun x O'=>O4.Ge O'/\App O' O4.next 2 x.2.2/\x.1<=K.length/\x.2.1.length=x.1/\PE=sM wy (K.drop x.1) x.2.1) (fun x=>K.length - x.1) ((0,[],.nil)) ?_ ?_
 ·exact⟨VH.Ge.refl _,trivial,Nat.zero_le _,rfl,iD⟩
 rintro⟨j,L,tl⟩ O5 ⟨bW,cH,hj,om,hP⟩;dsimp only at cH hj om hP ⊢;by_cases aX:j<K.length;rotate_left
 ·obtain rfl:j=K.length:=by omega
  rw[List.drop_of_length_le (Nat.le_refl _),sM]at hP;refine WC.sound aa (ae @ee ?_);exact aA.mk (L,tl) ⟨gR.trans bW,hP⟩
 have bA:=cg lK K j aX;rw[<-pJ]at bA;have RT:=cZ K;rw[List.drop_eq_getElem_cons aX,sM]at hP;have Zh:=hKm K[j] (List.getElem_mem aX);generalize K[j]=z at*;have uL:=Lv z (wy++[47]++z.nm) true;have hkz:=jS z;have htz:=Nat.le_trans (Ei z.kids) (Nat.le_of_lt (wh z))
 have aie:z.nm.length<=1000000:=by cases z with
  | mk n a k t=>rw[zO]at Zh;show n.length<=_;omega
 generalize pM z (wy++[47]++z.nm) true=T at*;obtain⟨zn,za,cR,zt⟩:=z;simp only[kx,df,Nd.nm,List.cons_append,List.nil_append]at bA uL hP aie;have hy5:=bW.at PH;have gu:=bW.next;refine VC.ag aa (ae @ee ?_);refine VC.ag aa (ae @ee ?_);refine VC.bC (VC.aB ?_);refine VC.ag aa (ao @ee @bA ?_);refine VC.al ?_;rintro O6 ⟨fC,mG,ov⟩;have hy6:=fC.at hy5;have nW:=cH.ge fC;have LC:=bW.trans fC;have dd:((j:Int)+1)=((j+1:Nat):Int):=by omega
 refine VC.ag aa (aI @ee @hy6 @mG ?_);refine VC.ag aa (ae @ee ?_);refine ah.rt (ac4 L tl 274 [.ptr O5.next 0] (fun q=>q.1==zn) O6 (by kernel_rfl) (fun q _ O' IM=>U5 q _ zn _ _ _ O' (IM.at mG) (by have:=IM.next;omega)) (by omega)) ?_;rintro _ O7 ⟨rfl,fc⟩;have BX:=(gR.trans LC).trans fc;have hy7:=fc.at hy6;have tW:=fc.at mG;have tV:=fc.next;have jP:=nW.ge fc;refine ae @ee ?_;cases kf:L.any fun q=>q.1==zn
 rotate_left
 ·rw[kf,cond_true]at hP;rw[hP];refine ae @ee ?_;refine ah.p (lL _ _ _) ?_ ?_
  ·rintro m O9 ⟨_,h⟩;exact h.elim
  rintro m O9 ⟨rfl,rfl⟩;refine ae @ee ?_;exact⟨BX,rfl⟩
 rw[kf,cond_false]at hP;refine ae @ee ?_;refine VC.lY [9,10] ?_;refine ab.av 0 ?_;refine ae @ee ?_;refine ab.av 1 ?_;refine ae @ee ?_;refine ab.ld (m:=.str zn) 2 ?_ ?_
 ·exact c9 @ee @tW
 simp only[aj];refine ab.av 4 ?_;refine ae @ee ?_;refine ab.op (i:=3) ?_;refine ao @ee @tW ?_;refine⟨VH.Ge.refl _,?_⟩;refine ab.av 5 ?_;refine ae @ee ?_;refine ab.pP (i:=6) (uL O7 (by omega) (by omega)) ?_ ?_;rotate_left
 ·rintro m O8 ⟨ik,h⟩;cases T with
  | ok s=>exact h.elim
  | error e=>
    dsimp only at h hP;rw[hP];refine ae @ee ?_;exact⟨BX.trans ik,h⟩
 rintro m O8 ⟨ik,h⟩;cases T with
 | error e=>exact h.elim
 | ok s=>
 dsimp only at h hP;subst h;simp only[aj];refine⟨ik,?_⟩;refine ab.av 7 ?_;refine ae @ee ?_;refine ab.op (i:=8) ?_;refine ae @ee ?_;refine⟨ik,?_⟩;refine ab.bH [(9,.one),(10,.av)] ?_;refine ae @ee ?_;obtain⟨mE,fZ,kX⟩:=fR (n:=L.length) (cs:=L.flatMap aY) (ds:=[.str zn,.str s]) (es:=aY (zn,s)) zA BT.1.1 (jP.ge ik) (aT fa L) rfl rfl (by decide) (by omega) (by simp only[maxLen];omega) (fS L) (by simp only[aY,wu]);refine VL.lh fZ kX ?_;refine ae @ee ?_;refine WC.sound aa (ae @ee ?_);exact az.next (j+1,L++[(zn,s)],.own O8.next 2) ⟨cP.eo ((LC.trans fc).trans ik) (jP.ge ik) (cP.after (jP.ge ik)),App.after (by have:=ik.next;omega),aX,by dsimp only;rw[List.length_append,om];rfl,hP⟩ (hl:=(by dsimp only;rw[List.length_append,List.flatMap_append,dd];rfl))
section
variable {P:Program} {tab:b9} {n:Sz} {D:List Deferred} {md:Md} {ops:Array Oper} {Q:VQ} {f:Fl} {o:Oper} {L:List (Fl×Oper)} {e:Env} {O:VH} {r:Option (MV×VH)} {b:Bool} {c:Code}
theorem PK (h:WL P tab n D md ops Q L e O):WL P tab n D md ops Q L e O:=h
theorem PL (h:W2 P tab n D md ops Q f o L e O r):W2 P tab n D md ops Q f o L e O r:=h
theorem PM (h:W3 P tab n D md ops Q L e O b):W3 P tab n D md ops Q L e O b:=h
theorem PN (h:WC P tab n D c e O Q):WC P tab n D c e O Q:=h
end
section
variable {A1 A2 A3 A4 A5 A6 A7 P Q:Prop}
theorem gj (a1:A1) (q:Q) (h:A1->Q->P:=by intro a1 q;first | (with_reducible refine VC.ag aa ?_;refine ae a1 q) | (with_reducible refine WC.sound aa ?_;refine ae a1 q) | (first | with_reducible refine PK ?_ | with_reducible refine PL ?_ | with_reducible refine PM ?_ | with_reducible refine PN ?_);refine ae a1 q):P:=h a1 q
theorem pQ (a1:A1) (a2:A2) (q:Q) (h:A1->A2->Q->P:=by intro a1 a2 q;first | (with_reducible refine VC.ag aa ?_;refine ao a1 a2 q) | (with_reducible refine WC.sound aa ?_;refine ao a1 a2 q) | (first | with_reducible refine PK ?_ | with_reducible refine PL ?_ | with_reducible refine PM ?_ | with_reducible refine PN ?_);refine ao a1 a2 q):P:=h a1 a2 q
theorem kg3 (a1:A1) (a2:A2) (a3:A3) (q:Q) (h:A1->A2->A3->Q->P:=by intro a1 a2 a3 q;first | (with_reducible refine VC.ag aa ?_;refine aI a1 a2 a3 q) | (with_reducible refine WC.sound aa ?_;refine aI a1 a2 a3 q) | (first | with_reducible refine PK ?_ | with_reducible refine PL ?_ | with_reducible refine PM ?_ | with_reducible refine PN ?_);refine aI a1 a2 a3 q):P:=h a1 a2 a3 q
theorem kg4 (a1:A1) (a2:A2) (a3:A3) (a4:A4) (q:Q) (h:A1->A2->A3->A4->Q->P:=by intro a1 a2 a3 a4 q;first | (with_reducible refine VC.ag aa ?_;refine de a1 a2 a3 a4 q) | (with_reducible refine WC.sound aa ?_;refine de a1 a2 a3 a4 q) | (first | with_reducible refine PK ?_ | with_reducible refine PL ?_ | with_reducible refine PM ?_ | with_reducible refine PN ?_);refine de a1 a2 a3 a4 q):P:=h a1 a2 a3 a4 q
theorem kg5 (a1:A1) (a2:A2) (a3:A3) (a4:A4) (a5:A5) (q:Q) (h:A1->A2->A3->A4->A5->Q->P:=by intro a1 a2 a3 a4 a5 q;first | (with_reducible refine VC.ag aa ?_;refine gW a1 a2 a3 a4 a5 q) | (with_reducible refine WC.sound aa ?_;refine gW a1 a2 a3 a4 a5 q) | (first | with_reducible refine PK ?_ | with_reducible refine PL ?_ | with_reducible refine PM ?_ | with_reducible refine PN ?_);refine gW a1 a2 a3 a4 a5 q):P:=h a1 a2 a3 a4 a5 q
theorem kg6 (a1:A1) (a2:A2) (a3:A3) (a4:A4) (a5:A5) (a6:A6) (q:Q) (h:A1->A2->A3->A4->A5->A6->Q->P:=by intro a1 a2 a3 a4 a5 a6 q;first | (with_reducible refine VC.ag aa ?_;refine La a1 a2 a3 a4 a5 a6 q) | (with_reducible refine WC.sound aa ?_;refine La a1 a2 a3 a4 a5 a6 q) | (first | with_reducible refine PK ?_ | with_reducible refine PL ?_ | with_reducible refine PM ?_ | with_reducible refine PN ?_);refine La a1 a2 a3 a4 a5 a6 q):P:=h a1 a2 a3 a4 a5 a6 q
end
section
variable {G H:Gh} {n:Sz} {D:List Deferred} {e e':Env} {a:Act} {P:Program} {tab:b9} {O O':VH} {w:World} {m m':MV} {u v:Value} {ops:Array Oper} {Q:VQ} {md:Md}
def Zi (P:Program) (tab:b9) (rs:List ResultVar) (g:FuncId) (cap:List Operand) (t:Tmp) (k lo:Nat) (rest:Code) (R:fL->VH->Prop):VQ:=fun x e O=>match x with
 | .normal=>∃ms,fG e cap=some ms/\∀D,VC P ⟨k,lo⟩ D rest ((t,.func (.func g) [] ms)::e) O (KQ P tab rs g ms R)
 | .ret=>iI R O (ie tab e O rs)
 | _=>False
theorem PO (ht:aK P tab) {el:TypeId} {te:cz} {B n' j:Nat} {L ds:List MV} {p q:MV} {dx:TypeDesc} {d:Option Tmp} {x y:Operand} {t tx ty:TypeId} {ps:String} {af:Array Edge} {g:Option (Nat×Bool)}
  (hr:GR O el te.size B p n' L) (hs:yX O te.size q=some (j,ds)) (gV:ds.all dJ=true) (hu:(tab t).map cz.under=some (.slice el)) (he:tab el=some te) (uL:(tab tx).map cz.under=some dx) (DJ:yY q dx) (hb:(n'+j)*te.bytes<=140737488355328) (hm:n'+j<=maxLen) (hB:B<=O.next)
  (hx:ev e x=some p) (hy:ev e y=some q):
  fM P n D (.mk d (.call {callee:=.builtin .append,args:= #[x,y],argTypes:= #[t,tx]}) ty ps af g) e O (fun m O'=>GR O' el te.size B m (n'+j) (L++ds)/\bq O (gid p) O'/\(gid p=none->O.Ge O')/\((∃k c,m= .bp k 0 (n'+j) c/\(gid p=some k\/(O.next<=k/\j≠0)))\/(j=0/\m=p/\O'=O))):=by
 intro G a w hw hf;have mR:=hf.ev hx;have wR:=hf.ev hy;have fh:=bB ht uL
 have fin:∀{m O' u w' H},(GR O' el te.size B m (n'+j) (L++ds)/\bq O (gid p) O'/\(gid p=none->O.Ge O')/\((∃k c,m= .bp k 0 (n'+j) c/\(gid p=some k\/(O.next<=k/\j≠0)))\/(j=0/\m=p/\O'=O)))->(Builtin.append_ #[t,tx] ty #[a.eval x,a.eval y]).run P w= .ok u w'->Gh.Le G H->WR H O' w'->VR H m u->
   ∃m O' u w' H,(GR O' el te.size B m (n'+j) (L++ds)/\bq O (gid p) O'/\(gid p=none->O.Ge O')/\((∃k c,m= .bp k 0 (n'+j) c/\(gid p=some k\/(O.next<=k/\j≠0)))\/(j=0/\m=p/\O'=O)))/\(execOp a.eval (.mk d (.call {callee:=.builtin .append,args:= #[x,y],argTypes:= #[t,tx]}) ty ps af g)).run P w= .ok (.value u) w'/\Gh.Le G H/\WR H O' w'/\VR H m u:=fun hM cc h1 h2 h3=>
  ⟨_,_,_,_,_,hM,by simp only[execOp,resolve,invoke,builtin,List.map_toArray,List.map_cons,List.map_nil,Sem.run_bind,Sem.run_pure,Result.andThen_ok]<;>simp[cc],h1,h2,h3⟩
 obtain⟨vs,oG,hv⟩:=yZ (P:=P) hw hs wR fh DJ gV;have lW:ds.length=j*te.size:=by rw[<-hv.1];exact oG.newsLen
 rcases hr with⟨rfl,rfl,hp⟩ | ⟨k,c,rfl,zc,om,cL⟩
 ·have hA:∃A,a.eval x= .slice A 0 0/\(∀w',(Builtin.firstCells te.size 0 (.slice A 0 0)).run P w'= .ok #[] w'):=by
   generalize a.eval x=u at mR
   have key:∀A:Option Addr,∀w',(Builtin.firstCells te.size 0 (.slice A 0 0)).run P w'= .ok #[] w':=fun A w'=>by
    cases A<;>simp[Builtin.firstCells,loadCells,loadCellsFrom]
   rcases hp with rfl | rfl
   ·cases mR with
    | slnil=>exact⟨_,rfl,key _⟩
    | sl h1 h2 h3 h4 h5 h6=>exact h6.elim
   ·cases mR with
    | sl h1 h2 h3 h4 h5 h6=>
      have h6:_=0:=h6;subst h6;exact⟨_,rfl,key _⟩
  obtain⟨A,hA,Kt⟩:=hA;have XM:gid p=none:=by rcases hp with rfl | rfl<;>rfl
  by_cases hj:j=0
  ·subst hj;have qS:ds=[]:=List.eq_nil_of_length_eq_zero (by simpa using lW);subst qS;refine fin (m:=p) (O':=O) (u:=a.eval x) (w':=w) (H:=G) ⟨.inl ⟨rfl,rfl,hp⟩,bq.refl _ _,fun _=>VH.Ge.refl _,.inr ⟨rfl,rfl,rfl⟩⟩ ?_ (Gh.Le.refl G) hw mR;have iu:vs=[]:=by have:=hv.1;simpa using this
   subst iu;rw[hA];have eR:=bB ht hu;obtain⟨ti,z,i1,i2,_⟩:=(ht _ te he).info;rcases oG.kind with⟨e',hk⟩ | hk<;>cases A<;>simp[Builtin.append_,run_underlying eR,run_underlying hk,eZ (ht _ te he),oG.len,oG.cells,storeCells]
  ·rw[hA]at fin;obtain⟨c',w',H,zs,g1,g2,g3,g4,g5,g6,g7⟩:=y_ (P:=P) ht hw (n':=0) (c:=0) (A:=A) (L:=[]) (us:=[]) (ty:=ty) hu he fh hs DJ gV aO.nil (by simp) (Kt _) (by omega) hb hm wR;refine fin ⟨.inr ⟨O.next,c',rfl,g1,by rw[List.length_append,lW];simp,?_⟩,?_,fun _=>?_,.inl ⟨_,_,rfl,.inr ⟨Nat.le_refl _,hj⟩⟩⟩ g4 g5 g6 g7
   ·refine Row.xO (cs:=[]) (t:=el) ?_ hB;rw[List.length_append,g3,List.length_append,lW,List.length_nil,Nat.zero_add, <-Nat.add_mul]
    congr 1;omega
   ·rw[XM];exact bq.push.trans bq.push
   ·exact((VH.Ge.refl O).push _).push _
 ·obtain⟨sp,ic,mO⟩:=cL.cells;generalize oo:a.eval x=u at mR;have XN:=mR;cases XN with
  | bp hp hn hmx=>
    rename_i b;rw[oo]at fin;have hmul:(n'+j)*te.size=n'*te.size+j*te.size:=Nat.add_mul _ _ _;by_cases oh:n'+j<=c
    ·have hle:(n'+j)*te.size<=c*te.size:=Nat.mul_le_mul_right _ oh;obtain⟨w',A,g1,g2,g3⟩:=Kr (P:=P) (ty:=ty) ht hw hu he fh ic hs DJ gV oh (by rw[mO,lW];omega) mR wR;rw[Nat.zero_add, <-om,zb]at g2
     have GW:ds.length<=sp.length:=by
      rw[List.length_append]at mO;omega
     rw[List.take_of_length_le GW]at g2;refine fin ⟨.inr ⟨k,c,rfl,oh,by rw[List.length_append,om,lW,hmul],cL.aed ?_⟩,bq.set,(fun h=>by cases h),.inl ⟨_,_,rfl,.inl rfl⟩⟩ g1 (Gh.Le.refl G) g2 g3;rw[List.length_append,List.length_append,List.length_drop];rw[List.length_append]at mO;omega
    ·obtain⟨b',C,T,d1,d2,d3⟩:=hw.cells k _ ic;rw[hp]at d1;injection d1 with d1;subst d1
     have hL:=d3.take L.length;rw[List.take_left,List.take_take,Nat.min_eq_left (by rw[List.length_append];omega)]at hL
     have hold:(Builtin.firstCells te.size n' (.slice (some ⟨b,0,none⟩) n' c)).run P w.drew= .ok (C.toList.take L.length).toArray w.drew:=by
      refine run_firstCells_some (P:=P) w.drew te.size n' ⟨b,0,none⟩ n' c _ (by rw[hL.1,om]) fun i u hu=>?_
      rw[Addr.add_lit,Nat.zero_add];rw[List.getElem?_take]at hu;split at hu
      ·have jV:w.drew.heap[b]?=some (.cells C T.t T.fr):=d2;simp only[World.cell?,jV,Option.isSome_none,Bool.false_eq_true,if_false];simpa using hu
      ·cases hu
     obtain⟨c',w',H,zs,g1,g2,g3,g4,g5,g6,g7⟩:=y_ (P:=P) (ty:=ty) ht hw (n':=n') (c:=c) (A:=some ⟨b,0,none⟩) (L:=L) hu he fh hs DJ gV hL om hold (by omega) hb hm wR;refine fin ⟨.inr ⟨O.next,c',rfl,g1,by rw[List.length_append,om,lW,hmul],?_⟩,(bq.push.trans bq.push).any,(fun h=>by cases h),.inl ⟨_,_,rfl,.inr ⟨Nat.le_refl _,by omega⟩⟩⟩ g4 g5 g6 g7;refine Row.xO (cs:=[]) (t:=el) ?_ hB;rw[List.length_append,g3,List.length_append,om,lW, <-hmul, <-Nat.add_mul]
     congr 1;omega
theorem VF.Em {f g:FuncId} {fn:Func} {A B rest:Code} {id k lo:Nat} {t:Tmp} {cap:Array Operand} {ty YD:TypeId} {ps YE:String} {af YF:Array Edge} {args:List MV} {rs:List ResultVar} {R:fL->VH->Prop} (hf:P.funcs[f]?=some fn) (hE:Enters P g)
  (h:WC P tab ⟨k,0⟩ [] A (cw 0 args) O (qt (Iq P ⟨k,0⟩ [] B (Zi P tab rs g cap.toList t k lo rest R)) (Zi P tab rs g cap.toList t k lo rest R))) (ht:aK P tab:=by exact aa) (hb:fn.body=some (.seq A (.seq B (.seq (.region id ⟨[.mk (some t) (.makeFunc (.func g) #[] cap) ty ps af none,.mk none (.defer {callee:=.value (.tmp t),args:= #[],argTypes:= #[]}) YD YE YF none]⟩ false) rest))):=by exact rfl) (hk:fn.ntmps=k:=by exact rfl) (hr:fn.results.toList=rs:=by exact rfl) (hn:args.length<=k:=by exact Nat.le_of_ble_eq_true rfl) (eb:t<k:=by decide):VF P f args O R:=by
 subst hk;intro G w vs hw hv;refine calls_of_wp_defers hf hb ?_
 have aS:FR G ⟨fn.ntmps,0⟩ [] (cw 0 args) {tmps:=vs.toArray++Array.replicate (fn.ntmps - vs.toArray.size) undef,defers:=[]}:=by
  have hl:=hv.1;refine⟨rfl,by simp;omega,fun t x hx=>?_⟩;rw[hY,if_pos (Nat.zero_le _),Nat.sub_zero]at hx;obtain⟨u,h1,h2⟩:=hv.get hx;refine⟨u,?_,h2⟩;have eg:=(List.getElem?_eq_some_iff.1 h1).1;rw[Array.getElem?_append_left (by simpa using eg)];simpa using h1
 refine wp_seq (wp_mono (WC.sound ht h G _ w hw aS) ?_)
 have early:∀{e:Env} {a':Act} {w':World} {O':VH} {K:Gh},Gh.Le G K->WR K O' w'->FR K ⟨fn.ntmps,0⟩ [] e a'->iI R O' (ie tab e O' rs)->
   Leaves P fn a'.tmps (fun x w'=>∃r O' H,Gh.Le G H/\WR H O' w'/\ER H r x/\R r O') a'.defers .returning w':=by
  intro e a' w' O' K k1 k2 k3 q3;rw[k3.defers]
  have key:∃m,db tab fn e O'=some m/\R (.ret m) O':=by
   unfold db;rw[hr, <-rE];generalize ie tab e O' rs=z at q3;unfold iI at q3;split at q3
   ·exact q3.elim
   ·exact⟨_,rfl,q3⟩
   ·rename_i l hl;refine⟨.tuple l,?_,q3⟩
    match l,hl with
    | [],_=>rfl
    | [m],hl=>exact absurd rfl (hl m)
    | _::_::_,_=>rfl
  obtain⟨m,h6,h7⟩:=key;obtain⟨u2,h8,h9⟩:=kR (P:=P) ht k2 k3 h6;exact⟨u2,h8,.ret m,O',K,k1,k2,h9,h7⟩
 rintro y a1 w1 ⟨x,e,O1,H,g1,g2,g3,g4,g5⟩
 cases y<;>cases x<;>first
  | exact False.elim g4
  | exact g5.elim
  | exact early g1 g2 g3 g5
  | skip
 refine wp_seq (wp_mono (g5 H a1 w1 g2 g3) ?_);rintro y a1 w1 ⟨x,e,O1,H2,g1',g2,g3,g4,g5⟩
 replace g1:=g1.trans g1'
 clear g1'
 cases y<;>cases x<;>first
  | exact False.elim g4
  | exact g5.elim
  | exact early g1 g2 g3 g5
  | skip
 obtain⟨ms,hm,OV⟩:=g5;have g3:FR H2 ⟨fn.ntmps,0⟩ [] e a1:=g3;have iu:=g3.fG hm;have Ft:cap.map a1.eval=(cap.toList.map a1.eval).toArray:=by apply Array.ext';simp
 generalize cap.toList.map a1.eval=us at iu Ft
 have OW:(execOp a1.eval (.mk (some t) (.makeFunc (.func g) #[] cap) ty ps af none)).run P w1= .ok (.value (.func (.func g) #[] us.toArray)) w1:=by
  simp[execOp,Instr.makeFunc,Ft]
 have hz:=g3.size;dsimp only at hz
 have hev:(a1.put (some t) (.func (.func g) #[] us.toArray)).eval (.tmp t)= .func (.func g) #[] us.toArray:=by
  simp[Act.eval,Act.put,hz,eb]
 have OZ:(execOp (a1.put (some t) (.func (.func g) #[] us.toArray)).eval (.mk none (.defer {callee:=.value (.tmp t),args:= #[],argTypes:= #[]}) YD YE YF none)).run P w1= .ok (.defer {target:=.fn (.func g) us.toArray,args:= #[]}) w1:=by
  simp[execOp,resolve,hev,Deferred.ofValue]
 refine wp_seq (wp_region ?_);have KP:∀o1 o2:Oper,List.range (Array.mk [o1,o2]).size=[0,1]:=fun _ _=>rfl
 rw[KP];have DT:∀(o1 o2:Oper) (tm:Array Value),o1.guard=none->Region.wanted o1 (yielded ⟨[o1,o2]⟩ tm)=true:=fun o1 o2 tm h=>by simp[Region.wanted,h]
 have qk:∀(o1 o2:Oper) (tm:Array Value),o2.guard=none->Region.wanted o2 (yielded ⟨[o1,o2]⟩ tm)=true:=fun o1 o2 tm h=>by simp[Region.wanted,h]
 simp only[wpOps,List.getElem?_toArray,List.getElem?_cons_zero,List.getElem?_cons_succ];rw[if_pos (DT _ _ _ rfl)];refine .inl ?_;unfold Oper.wp;rw[OW,Oper.upon_value];simp only[wpOps,List.getElem?_toArray,List.getElem?_cons_zero,List.getElem?_cons_succ];rw[if_pos (qk _ _ _ rfl)];refine .inl ?_;first | unfold Oper.wp | skip
 rw[OZ,Oper.upon_defer];have tS:FR H2 ⟨fn.ntmps,0⟩ [] ((t,.func (.func g) [] ms)::e) (a1.put (some t) (.func (.func g) #[] us.toArray)):=FR.put g3 eb (.func (fs:=[]) (us:=[]) rfl (fun i c u h=>by simp at h) iu.1 iu.2);generalize a1.put (some t) (.func (.func g) #[] us.toArray)=a2 at tS;have Cg:FR H2 ⟨fn.ntmps,lo⟩ [{target:=.fn (.func g) us.toArray,args:= #[]}] ((t,.func (.func g) [] ms)::e) {a2 with defers:={target:=.fn (.func g) us.toArray,args:= #[]}::a2.defers}:=⟨by rw[tS.defers],tS.size,tS.get⟩;show rest.wp P _ _ _;refine wp_mono (OV _ H2 _ w1 g2 Cg) ?_;rintro y a' w' ⟨x,e',O',K,k1,k2,k3,k4,k5⟩
 have hinv:∀w:World,(invoke (.fn (.func g) us.toArray) #[]).run P w= .ok (.enter g us.toArray) w:=fun w=>by
  simp[invoke,hE us.toArray w]
 have fin:∀(u:FrameMode) (z:Option MV),u≠ .run->MR K z u->FR K ⟨fn.ntmps,lo⟩ [{target:=.fn (.func g) us.toArray,args:= #[]}] e' a'->fW P g ms z O' (fun O'=>iI R O' (ie tab e' O' rs))->
   Leaves P fn a'.tmps (fun x w'=>∃r O' H,Gh.Le G H/\WR H O' w'/\ER H r x/\R r O') a'.defers u w':=by
  intro u z hu hmr YG hd;rw[YG.defers];refine leaves_cons hu (hinv _) ((hd K w' us u k2 (iu.mono k1) hmr).mono ?_);rintro r u' Fx ⟨⟨v,rfl⟩,hs,O2,K2,q1,q2,q3⟩;dsimp only;rw[hs]
  have key:∃m,db tab fn e' O2=some m/\R (.ret m) O2:=by
   unfold db;rw[hr, <-rE];generalize ie tab e' O2 rs=z at q3;unfold iI at q3;split at q3
   ·exact q3.elim
   ·exact⟨_,rfl,q3⟩
   ·rename_i l hl;refine⟨.tuple l,?_,q3⟩
    match l,hl with
    | [],_=>rfl
    | [m],hl=>exact absurd rfl (hl m)
    | _::_::_,_=>rfl
  obtain⟨m,h6,h7⟩:=key;obtain⟨u2,h8,h9⟩:=kR (P:=P) ht q2 (YG.mono q1) h6;exact⟨u2,h8,.ret m,O2,K2,(g1.trans k1).trans q1,q2,h9,h7⟩
 cases y with
 | normal=>cases x<;>first | exact False.elim k4 | exact fin .returning none (by simp) trivial k3 k5
 | ret=>cases x<;>first | exact False.elim k4 | exact fin .returning none (by simp) trivial k3 k5
 | panic c=>
   cases x with
   | panic m=>
     obtain⟨u,rfl,hvu⟩:=k4;exact fin (.panicking [⟨u,false,false⟩]) (some m) (by simp) hvu k3.2 k5
   | _=>exact False.elim k4
 | exit i=>cases x<;>first | exact False.elim k4 | exact k5.elim
 | goto i=>cases x<;>first | exact False.elim k4 | exact k5.elim
 | outgrown=>cases x<;>exact False.elim k4
theorem VL.ago (ht:aK P tab) {brk:List Nat} {el:TypeId} {te:cz} {B n' j:Nat} {L ds:List MV} {p q:MV} {dx:TypeDesc} {d:Option Tmp} {x y:Operand} {t tx ty:TypeId} {ps:String} {af:Array Edge} {g:Option (Nat×Bool)} {LL:List (Fl×Oper)} (hne:brk≠[])
  (ph:∀i,ops[i]?=some (.mk d (.call {callee:=.builtin .append,args:= #[x,y],argTypes:= #[t,tx]}) ty ps af g)->brk.contains i=true)
  (hr:GR O el te.size B p n' L) (hs:yX O te.size q=some (j,ds)) (gV:ds.all dJ=true) (hu:(tab t).map cz.under=some (.slice el)) (he:tab el=some te) (uL:(tab tx).map cz.under=some dx) (DJ:yY q dx) (hb:(n'+j)*te.bytes<=140737488355328) (hm:n'+j<=maxLen) (hB:B<=O.next)
  (hx:ev e x=some p) (hy:ev e y=some q) (hg:aL ops (.mk d (.call {callee:=.builtin .append,args:= #[x,y],argTypes:= #[t,tx]}) ty ps af g) e=some true) (hd:bm n d=true)
  (h:∀m O',GR O' el te.size B m (n'+j) (L++ds)->bq O (gid p) O'->(gid p=none->O.Ge O')->((∃k c,m= .bp k 0 (n'+j) c/\(gid p=some k\/(O.next<=k/\j≠0)))\/(j=0/\m=p/\O'=O))->WL P tab n D (.held brk) ops Q LL (aU d m e) O'):
  VL P n D (.held brk) ops ((.one,.mk d (.call {callee:=.builtin .append,args:= #[x,y],argTypes:= #[t,tx]}) ty ps af g)::LL) e O Q:=by
 refine VL.iV hg hd (fun _ aeB h=>by injection h with h;subst h;exact hne) (fun aeB h=>by injection h with h;subst h;exact .inr hne) (PO ht hr hs gV hu he uL DJ hb hm hB hx hy) (fun aeB h i hi=>by injection h with h;subst h;exact ph i hi) ?_;rintro m O' ⟨h1,h2,h3,h4⟩;exact WL.sound ht (h m O' h1 h2 h3 h4)
theorem bE.mv {brk:List Nat} {fuel:Nat} (i:Nat) {listed:Array Bool} {l:List Oper} {d:Option Tmp} {x:Operand} {ty:TypeId} {ps:String} {af:Array Edge} {g:Option (Nat×Bool)} (h:bE P n D ⟨l⟩ brk fuel (listed.setIfInBounds i true) (aU d m e) O Q) (ho:l[i]?=some (.mk d (.move x) ty ps af g):=by exact rfl) (hs:Region.noSelect ⟨l⟩=true:=by kernel_rfl) (hf:Region.free .any ⟨l⟩ listed i=true:=by kernel_rfl) (hr:(Region.ready .any ⟨l⟩ listed).contains i=true:=by kernel_rfl) (Cp:brk.contains i=true:=by kernel_rfl) (hg:aL ⟨l⟩ (.mk d (.move x) ty ps af g) e=some true:=by exact rfl) (hd:bm n d=true:=by exact rfl) (hx:ev e x=some m:=by exact rfl):bE P n D ⟨l⟩ brk (fuel+1) listed e O Q:=by
 intro G a w hw aS;have hu:=aS.ev hx;have cc:∀w:World,(execOp a.eval (.mk d (.move x) ty ps af g)).run P w= .ok (.value (a.eval x)) w:=fun w=>by simp[execOp]
 have Cq:(⟨l⟩:Array Oper)[i]?=some (.mk d (.move x) ty ps af g):=by simpa using ho
 refine nM (S:=fun _=>True) (W:=fun _=>False) (brk:=fun _=>false) Cq (Region.noSelect_spec hs) (gK hd) (fun _ _ _ _=>trivial) (fun x _ hh=>by rw[Cp]at hh;cases hh) fuel listed a w (Region.free_spec Cq hf) (fun _ _ _ h=>h.elim) (fun _ h=>h.elim) (fun _ _ _ h=>by cases h) (by simpa using hr) (.inl ⟨bj aS hg,fun x _=>cc x⟩) trivial (h G _ w hw (aS.aU hd hu))
theorem bE.bH (ix:List (Nat×Fl)) {brk:List Nat} {fuel:Nat} {listed:Array Bool} {l:List Oper} {L:List (Fl×Oper)} (h:WL P tab n D (.held brk) ⟨l⟩ Q L e O) (ht:aK P tab:=by exact aa) (hs:Region.noSelect ⟨l⟩=true:=by kernel_rfl) (hp:cE (.held brk) ⟨l⟩ fuel listed ix=true:=by kernel_rfl) (hL:mQ l ix=some L:=by exact rfl):bE P n D ⟨l⟩ brk fuel listed e O Q:=
 (WL.sound ht h) fuel listed ix (sy hL) (fun _=>⟨hs,hp⟩)
theorem VC.gen {c:Code} (h:∀O3,O3=O->VC P n D c e O3 Q):VC P n D c e O Q:=h _ rfl
theorem WL.gen {L:List (Fl×Oper)} (h:∀O3,O3=O->WL P tab n D md ops Q L e O3):WL P tab n D md ops Q L e O:=h _ rfl
theorem gk (a b:b_) {O1:VH} (h:O1=(O.push a).push b):O.Ge O1/\O1.next=O.next+2/\O1.hp O.next=some a/\O1.hp (O.next+1)=some b:=by
 subst h;exact⟨((VH.Ge.refl O).push _).push _,rfl,(VH.pj _ _ (show O.next≠O.next+1 by omega)).trans (VH.aV _ _),VH.aV _ _⟩
theorem lG (a b c:b_) {O1:VH} (h:O1=((O.push a).push b).push c):O.Ge O1/\O1.next=O.next+3/\O1.hp O.next=some a/\O1.hp (O.next+1)=some b/\O1.hp (O.next+2)=some c:=by
 subst h;obtain⟨h1,h2,h3,h4⟩:=gk (O:=O) a b rfl;exact⟨h1.push _,rfl,(VH.pj _ _ (show O.next≠O.next+2 by omega)).trans h3,(VH.pj _ _ (show O.next+1≠O.next+2 by omega)).trans h4,VH.aV _ _⟩
theorem PQ (a b c d:b_) {O1:VH} (h:O1=(((O.push a).push b).push c).push d):O.Ge O1/\O1.next=O.next+4/\O1.hp O.next=some a/\O1.hp (O.next+1)=some b/\O1.hp (O.next+2)=some c/\O1.hp (O.next+3)=some d:=by
 subst h;obtain⟨h1,h2,h3,h4,h5⟩:=lG (O:=O) a b c rfl;exact⟨h1.push _,rfl,(VH.pj _ _ (show O.next≠O.next+3 by omega)).trans h3,(VH.pj _ _ (show O.next+1≠O.next+3 by omega)).trans h4,(VH.pj _ _ (show O.next+2≠O.next+3 by omega)).trans h5,VH.aV _ _⟩
theorem bE.AO (i:Nat) {brk:List Nat} {fuel:Nat} {listed:Array Bool} {l:List Oper} {o:Oper} (h:zm (fun m O'=>bE P n D ⟨l⟩ brk fuel (listed.setIfInBounds i true) (aU o.dst m e) O' Q) (ia tab .rd o e O)) (ht:aK P tab:=by exact aa) (ho:l[i]?=some o:=by exact rfl) (hs:Region.noSelect ⟨l⟩=true:=by kernel_rfl) (hf:Region.free .any ⟨l⟩ listed i=true:=by kernel_rfl) (hr:(Region.ready .any ⟨l⟩ listed).contains i=true:=by kernel_rfl) (hb:nA ⟨l⟩ brk listed i=true:=by kernel_rfl) (hg:aL ⟨l⟩ o e=some true:=by exact rfl) (hd:bm n o.dst=true:=by exact rfl):bE P n D ⟨l⟩ brk (fuel+1) listed e O Q:=by
 generalize hv:ia tab .rd o e O=v at h;cases v with
 | none=>exact h.elim
 | some p=>
   obtain⟨m,O'⟩:=p
   exact bE.take (by simpa using ho) hs hf hr hb hd (fun G a w hw aS=>by
    obtain⟨_,u,hu,cc⟩:=v7 (P:=P) ht hw aS (by simp) hv;exact⟨u,hu,.inl ⟨bj aS hg,cc⟩⟩) (by
    obtain rfl:=uz (by simp) hv;exact h)
theorem bE.fin {brk:List Nat} {fuel:Nat} {listed:Array Bool} (hb:((List.range listed.size).all fun j=>listed.getD j true||brk.contains j)=true) (h:cf P n D ops fuel listed e O Q):bE P n D ops brk fuel listed e O Q:=by
 intro G a w hw aS;refine kT _ _ _ _ (fun j hj x hs hh=>?_) (h G a w hw aS);rcases Nat.lt_or_ge j listed.size with hl | hl
 ·have:=List.all_eq_true.1 hb j (List.mem_range.2 hl);rw[hj,Bool.false_or]at this;rw[this]at hh;cases hh
 ·rw[Array.getD_eq_getD_getElem?,Array.getElem?_eq_none (by simpa using hl)]at hj;cases hj
theorem cf.RY {i:Nat} {fuel:Nat} {listed:Array Bool} {l:List Oper} {o:Oper} (h:zm (fun m O'=>cf P n D ⟨l⟩ fuel (listed.setIfInBounds i true) (aU o.dst m e) O' Q) (c6 tab o e O)) (ht:aK P tab:=by exact aa) (ho:l[i]?=some o:=by exact rfl) (hr:Region.ready .any ⟨l⟩ listed=[i]:=by kernel_rfl) (hg:aL ⟨l⟩ o e=some true:=by exact rfl) (hd:bm n o.dst=true:=by exact rfl):cf P n D ⟨l⟩ (fuel+1) listed e O Q:=
 cf.all hr (by simp) fun j hj=>by
  obtain rfl:j=i:=by simpa using hj
  exact aH.o1 h (ht:=ht) (ho:=ho) (hg:=hg) (hd:=hd)
theorem cf.st {i:Nat} {fuel:Nat} {listed:Array Bool} {l:List Oper} {o:Oper} {M:MV->VH->Prop} (ho:l[i]?=some o) (hr:Region.ready .any ⟨l⟩ listed=[i]) (hg:aL ⟨l⟩ o e=some true) (hd:bm n o.dst=true) (hy:fM P n D o e O M)
  (h:∀m O',M m O'->cf P n D ⟨l⟩ fuel (listed.setIfInBounds i true) (aU o.dst m e) O' Q):cf P n D ⟨l⟩ (fuel+1) listed e O Q:=
 cf.all hr (by simp) fun j hj=>by
  obtain rfl:j=i:=by simpa using hj
  exact aH.st hy h (ho:=ho) (hg:=hg) (hd:=hd)
theorem cf.two {i j:Nat} {fuel:Nat} {listed:Array Bool} (hr:Region.ready .any ops listed=[i,j])
  (h1:aH P n D ops i e O Q fun e' O'=>cf P n D ops fuel (listed.setIfInBounds i true) e' O' Q) (h2:aH P n D ops j e O Q fun e' O'=>cf P n D ops fuel (listed.setIfInBounds j true) e' O' Q):cf P n D ops (fuel+1) listed e O Q:=
 cf.all hr (by simp) fun x hx=>by
  simp only[List.mem_cons,List.not_mem_nil,or_false]at hx;rcases hx with rfl | rfl
  ·exact h1
  ·exact h2
theorem WR.U6 (h:WR G O w) {k:Nat} {cs ds:List MV} (hk:O.hp k=some (.cells cs)) (hw:eI cs ds):WR G (O.set k (.cells ds)) w:=
 h.swap (by rw[hk];simp) (fun cs' e=>by
  injection e with e;subst e
  obtain⟨b,C,T,h1,h2,h3⟩:=h.cells k cs hk;exact⟨b,C,T,h1,h2,by rw[<-hw.1];exact hw.vrs h3⟩) (fun X e=>by cases e) (fun _ _ e=>by cases e) (fun e=>by cases e) (fun _ _ _ e=>by cases e)
theorem VC.U6 {c:Code} {k:Nat} {cs ds:List MV} (hk:O.hp k=some (.cells cs)) (hw:eI cs ds) (h:VC P n D c e (O.set k (.cells ds)) Q):VC P n D c e O Q:=fun G a w hwr hf=>h G a w (hwr.U6 hk hw) hf
theorem WR.wm (h:WR G O w) {k p o n c sz:Nat} {cs A E:List MV} (hk:O.hp k=some (.cells cs)) (hp:O.hp p=some (.cells (A++ .bp k o n c::E))) (jl:p≠k) (hl:o+sz<=cs.length):∃H,Gh.Le G H/\WR H ((O.kill k).set p (.cells (A++ .sl n ((cs.drop o).take sz) .aq::E))) w:=by
 obtain⟨b,C,T,h1,h2,h3⟩:=h.cells p _ hp;obtain⟨u,hu,hv⟩:=h3.get (i:=A.length) (c:=.bp k o n c) (by rw[List.getElem?_append_right (Nat.le_refl _),Nat.sub_self];rfl);obtain⟨H,h4,h5,h6⟩:=h.freeze hk hv hl;refine⟨H,h4,?_⟩;have LD:(O.kill k).hp p=some (.cells (A++ .bp k o n c::E)):=(VH.kC _ jl).trans hp;refine h5.swap (by rw[LD];simp) (fun cs' e=>?_) (fun X e=>by cases e) (fun _ _ e=>by cases e) (fun e=>by cases e) (fun _ _ _ e=>by cases e);injection e with e;subst e
 refine⟨b,C,T,h4.bL h1,h2,?_⟩;have h7:=h3.mono h4;refine⟨?_,fun i c' u' hc C0=>?_⟩
 ·rw[List.length_append,List.length_cons]at h7 ⊢;have:=h7.1;rw[List.length_append,List.length_cons]at this;exact this
 ·have hlen:(A++MV.sl n ((cs.drop o).take sz) .aq::E).length=(A++MV.bp k o n c::E).length:=by simp
  rw[hlen]at C0;by_cases hi:i=A.length
  ·subst hi;rw[List.getElem?_append_right (Nat.le_refl _),Nat.sub_self]at hc;injection hc with hc;subst hc
   rw[hu]at C0;injection C0 with C0;subst C0
   exact Wk.tok _ _ h6
  ·refine h7.2 i c' u' ?_ C0;rcases Nat.lt_or_ge i A.length with eg | gZ
   ·rw[List.getElem?_append_left eg]at hc ⊢;exact hc
   ·rw[List.getElem?_append_right gZ]at hc ⊢;obtain⟨j,hj⟩:∃j,i - A.length=j+1:=⟨i - A.length - 1,by omega⟩
    rw[hj,List.getElem?_cons_succ]at hc ⊢;exact hc
theorem VC.wm {c0:Code} {k p o n' c sz:Nat} {cs A E:List MV} (hk:O.hp k=some (.cells cs)) (hp:O.hp p=some (.cells (A++ .bp k o n' c::E))) (jl:p≠k) (hl:o+sz<=cs.length) (h:VC P n D c0 e ((O.kill k).set p (.cells (A++ .sl n' ((cs.drop o).take sz) .aq::E))) Q):VC P n D c0 e O Q:=fun G a w hw hf=>by
 obtain⟨H,h1,h2⟩:=hw.wm hk hp jl hl;exact wp_mono (h H a w h2 (hf.mono h1)) fun _ _ _=>cx.le h1
end
section
variable {G H:Gh} {n:Sz} {D:List Deferred} {e e':Env} {a:Act} {P:Program} {tab:b9} {O O':VH} {w:World} {m m':MV} {u v:Value} {ops:Array Oper} {Q:VQ} {md:Md}
theorem ab.aif (i:Nat) {brk:List Nat} {Ψ :Gh->Prop} {J:VH->Prop} {Z:Prop} {fuel:Nat} {listed:Array Bool} {l:List Oper} {o:Oper} (h:zm (fun m O'=>ab P n D ⟨l⟩ brk J Ψ Z fuel (listed.setIfInBounds i true) (aU o.dst m e) O' Q) (ia tab .av o e O)) (ht:aK P tab:=by exact aa) (ho:l[i]?=some o:=by exact rfl) (hs:Region.noSelect ⟨l⟩=true:=by kernel_rfl) (hf:Region.free .any ⟨l⟩ listed i=true:=by kernel_rfl) (hr:(Region.ready .any ⟨l⟩ listed).contains i=true:=by kernel_rfl) (Cp:brk.contains i=true:=by kernel_rfl) (hg:aL ⟨l⟩ o e=some true:=by exact rfl) (hd:bm n o.dst=true:=by exact rfl):ab P n D ⟨l⟩ brk J Ψ Z (fuel+1) listed e O Q:=by
 generalize hv:ia tab .av o e O=v at h;cases v with
 | none=>exact h.elim
 | some p=>
   obtain⟨m,O'⟩:=p;obtain⟨h1,rfl⟩:=nB hv;intro hΨ hZ hJ G a w hψ hw aS;obtain⟨u,hu,cc⟩:=uh (P:=P) ht aS h1;have Cq:(⟨l⟩:Array Oper)[i]?=some o:=by simpa using ho
   exact nM (S:=fun x=>SS G x) (W:=fun _=>False) (brk:=fun _=>false) Cq (Region.noSelect_spec hs) (gK hd) (fun _ _ _ hT=>hT.1) (fun x hx=>⟨hx,fun hh=>by rw[Cp]at hh;cases hh⟩) fuel listed a w (Region.free_spec Cq hf) (fun _ _ _ h=>h.elim) (fun _ h=>h.elim) (fun _ _ _ h=>by cases h) (by simpa using hr) (.inl ⟨bj aS hg,fun x hx=>cc x hx⟩) hw.ss (h hΨ hZ hJ G _ w hψ hw (aS.aU hd hu))
theorem VC.sN {id:Nat} (brk:List Nat) (J:VH->Prop) (hJ:J O) (h:ab P n D ops brk J (fun _=>True) True ops.size (Array.replicate ops.size false) e O Q) (hm:P.follows .mixedOrders=true:=by kernel_rfl):VC P n D (.region id ops true) e O Q:=
 fun G a w hw hf=>wp_region_any hm (jo _ _ _ _ (h (fun _ _ _ _=>trivial) trivial hJ G a _ trivial (hw.drawn _) hf))
def exP:MV->Bool
 | .ptr _ _=>true
 | .map _=>true
 | m=>exM m
theorem Zj (hm:exP m=true) (h1:VR G m u) (hl:Gh.Le G H) (h2:VR H m v):v=u:=by
 cases m with
 | ptr k o=>
   cases h1 with
   | ptr a=>cases h2 with
     | ptr b=>rw[hl.bL a]at b;injection b with b;rw[b]
 | map k=>
   cases h1 with
   | map a=>cases h2 with
     | map b=>rw[hl.bL a]at b;injection b with b;rw[b]
 | _=>refine RG ?_ h1 h2;exact hm
theorem ab.mH (i:Nat) {J:VH->Prop} {Ψ :Gh->Prop} {Z:Prop} {brk:List Nat} {fuel:Nat} {listed:Array Bool} {l:List Oper} {d:Option Tmp} {t:TypeId} {x:Operand} {ty:TypeId} {ps:String} {af:Array Edge} {g:Option (Nat×Bool)} {p:MV} (hv:∀O2,J O2->eQ tab O2 t p=some m) (h:ab P n D ⟨l⟩ brk J Ψ Z fuel (listed.setIfInBounds i true) (aU d m e) O Q) (ht:aK P tab:=by exact aa) (ho:l[i]?=some (.mk d (.load t x) ty ps af g):=by exact rfl) (hs:Region.noSelect ⟨l⟩=true:=by kernel_rfl) (hf:Region.free .any ⟨l⟩ listed i=true:=by kernel_rfl) (hr:(Region.ready .any ⟨l⟩ listed).contains i=true:=by kernel_rfl) (hb:nA ⟨l⟩ brk listed i=true:=by kernel_rfl) (hg:aL ⟨l⟩ (.mk d (.load t x) ty ps af g) e=some true:=by exact rfl) (hd:bm n d=true:=by exact rfl) (hx:ev e x=some p:=by exact rfl) (hm:exP m=true:=by exact rfl):ab P n D ⟨l⟩ brk J Ψ Z (fuel+1) listed e O Q:=by
 refine ab.take (o:=.mk d (.load t x) ty ps af g) (by simpa using ho) hs hf hr hb hd (fun G a w _ hJ _ hw aS=>?_) h;obtain⟨u0,YC,_⟩:=nS (P:=P) ht hw (hv O hJ) (aS.ev hx);refine⟨u0,YC,.inl ⟨bj aS hg,fun y hy=>?_⟩⟩;obtain⟨H,O2,g1,g2,g3⟩:=hy;obtain⟨r,g4,g5⟩:=nS (P:=P) ht g2 (hv O2 g3) ((aS.ev hx).mono g1);have:=g5 y g2.sx;have er:=Zj hm YC g1 g4;subst er;simp only[execOp,Sem.run_bind,this];rfl
def LG (k1 k2:Nat) (X1 X2:Obj) (O':VH):Prop:=O'.hp k1=some (.obj X1)/\O'.hp k2=some (.obj X2)
def ΨFF (PR LH:List MV) (X1 X2:Obj) (G:Gh):Prop:=ij PR X1 G/\ij LH X2 G
theorem VC.CO {id:Nat} (brk:List Nat) (k1 k2:Nat) {PR LH:List MV} (dT:O.hp k1=some (.cells PR)) (bR:O.hp k2=some (.cells LH))
  (h:∀X1 X2,ab P n D ops brk (LG k1 k2 X1 X2) (ΨFF PR LH X1 X2) True ops.size (Array.replicate ops.size false) e ((O.set k1 (.obj X1)).set k2 (.obj X2)) Q) (hne:k2≠k1:=by omega) (hm:P.follows .mixedOrders=true:=by kernel_rfl):VC P n D (.region id ops true) e O Q:=
 fun G a w hw hf=>by
  obtain⟨X1,dw,DT⟩:=(hw.drawn _).fix dT;obtain⟨X2,iL,qk⟩:=DT.fix (k:=k2) (cs:=LH) ((VH.ak _ _ hne).trans bR);exact wp_region_any hm (jo _ _ _ _ (h X1 X2 (fun _ _ hl hx=>⟨ij.mono hl hx.1,ij.mono hl hx.2⟩) trivial ⟨(VH.ak _ _ (Ne.symm hne)).trans (VH.an _ _ _),VH.an _ _ _⟩ G a _ ⟨dw,iL⟩ qk hf))
theorem ab.nX (i:Nat) {J:VH->Prop} {Ψ :Gh->Prop} {Z:Prop} {brk:List Nat} {cs:List MV} {X:Obj} {fuel:Nat} {listed:Array Bool} {l:List Oper} {d:Option Tmp} {t:TypeId} {x:Operand} {ty:TypeId} {ps:String} {af:Array Edge} {g:Option (Nat×Bool)} {k off:Nat} (hJ:∀O',J O'->O'.hp k=some (.obj X)) (hΨ :∀G, Ψ G->ij cs X G) (hv:eQ tab (O.set k (.cells cs)) t (.ptr k off)=some m) (h:ab P n D ⟨l⟩ brk J Ψ Z fuel (listed.setIfInBounds i true) (aU d m e) O Q) (ht:aK P tab:=by exact aa) (ho:l[i]?=some (.mk d (.load t x) ty ps af g):=by exact rfl) (hs:Region.noSelect ⟨l⟩=true:=by kernel_rfl) (hf:Region.free .any ⟨l⟩ listed i=true:=by kernel_rfl) (hr:(Region.ready .any ⟨l⟩ listed).contains i=true:=by kernel_rfl) (hb:nA ⟨l⟩ brk listed i=true:=by kernel_rfl) (hg:aL ⟨l⟩ (.mk d (.load t x) ty ps af g) e=some true:=by exact rfl) (hd:bm n d=true:=by exact rfl) (hx:ev e x=some (.ptr k off):=by exact rfl):ab P n D ⟨l⟩ brk J Ψ Z (fuel+1) listed e O Q:=by
 refine ab.take (o:=.mk d (.load t x) ty ps af g) (by simpa using ho) hs hf hr hb hd (fun G a w _ hJO hψ hw aS=>?_) h;obtain⟨C,T,rfl,h3⟩:=hΨ G hψ;unfold eQ at hv;simp only[cellsOf,VH.an]at hv;split at hv
 ·rename_i ti cs' off' NT hc;injection hc with hc;injection hc with e1 e2;subst e1;subst e2
  obtain⟨r,nj,fi⟩:=DU (P:=P) ht NT hv h3;have YK:=aS.ev hx;generalize YL:a.eval x=xu at YK;cases YK with
  | ptr hp=>
    rename_i b;refine⟨r,nj,.inl ⟨bj aS hg,fun y hy=>?_⟩⟩;obtain⟨H,O2,g1,g2,g3⟩:=hy;obtain⟨b',cA,ct⟩:=g2.obj k _ (hJ _ g3);rw[g1.bL hp]at cA;injection cA with cA;subst cA
    have:=fi y b fun j v hj=>by
     rw[List.getElem?_take]at hj;split at hj
     ·simp only[World.cell?,ct,Option.isSome_none,Bool.false_eq_true,if_false];simpa using hj
     ·cases hj
    simp only[execOp,Sem.run_bind,YL,this];rfl
 ·cases hv
theorem ab.wo (ix:List (Nat×Fl)) {brk:List Nat} {k1 k2:Nat} {PR LH:List MV} {X1 X2:Obj} {fuel:Nat} {listed:Array Bool} {l:List Oper} {L:List (Fl×Oper)}
  (h:WL P tab n D .any ⟨l⟩ Q L e ((O.set k1 (.cells PR)).set k2 (.cells LH))) (ht:aK P tab:=by exact aa) (hb:((List.range listed.size).all fun j=>listed.getD j true||brk.contains j)=true:=by kernel_rfl) (hs:Region.noSelect ⟨l⟩=true:=by kernel_rfl) (hp:cE .any ⟨l⟩ fuel listed ix=true:=by kernel_rfl) (hL:mQ l ix=some L:=by exact rfl) (hne:k2≠k1:=by omega):ab P n D ⟨l⟩ brk (LG k1 k2 X1 X2) (ΨFF PR LH X1 X2) True fuel listed e O Q:=by
 have h':=cf.bH ix h (ht:=ht) (hs:=hs) (hp:=hp) (hL:=hL);intro hΨ hZ hJ G a w hψ hw aS;refine kT _ _ _ _ (fun j hj x hs=>⟨hs,fun hh=>?_⟩) (h' G a w ((hw.rF hJ.1 hψ.1).rF (k:=k2) ((VH.ak _ _ hne).trans hJ.2) hψ.2) aS);rcases Nat.lt_or_ge j listed.size with hl | hl
 ·have:=List.all_eq_true.1 hb j (List.mem_range.2 hl);rw[hj,Bool.false_or]at this;rw[this]at hh;cases hh
 ·rw[Array.getD_eq_getD_getElem?,Array.getElem?_eq_none (by simpa using hl)]at hj;cases hj
theorem VC.zP {id:Nat} (brk:List Nat) (k:Nat) {cs:List MV} (J0:VH->Prop) (hk:O.hp k=some (.cells cs)) (h0:∀X,J0 (O.set k (.obj X)))
  (h:∀X,ab P n D ops brk (fun O'=>O'.hp k=some (.obj X)/\J0 O') (ij cs X) True ops.size (Array.replicate ops.size false) e (O.set k (.obj X)) Q) (hm:P.follows .mixedOrders=true:=by kernel_rfl):VC P n D (.region id ops true) e O Q:=
 fun G a w hw hf=>by
  obtain⟨X,hx,qk⟩:=(hw.drawn _).fix hk;exact wp_region_any hm (jo _ _ _ _ (h X (fun _ _=>ij.mono) trivial ⟨VH.an _ _ _,h0 X⟩ G a _ hx qk hf))
theorem ab.jB (ix:List (Nat×Fl)) {brk:List Nat} {k:Nat} {cs:List MV} {X:Obj} {J0:VH->Prop} {fuel:Nat} {listed:Array Bool} {l:List Oper} {L:List (Fl×Oper)}
  (h:WL P tab n D .any ⟨l⟩ Q L e (O.set k (.cells cs))) (ht:aK P tab:=by exact aa) (hb:((List.range listed.size).all fun j=>listed.getD j true||brk.contains j)=true:=by kernel_rfl) (hs:Region.noSelect ⟨l⟩=true:=by kernel_rfl) (hp:cE .any ⟨l⟩ fuel listed ix=true:=by kernel_rfl) (hL:mQ l ix=some L:=by exact rfl):ab P n D ⟨l⟩ brk (fun O'=>O'.hp k=some (.obj X)/\J0 O') (ij cs X) True fuel listed e O Q:=by
 have h':=cf.bH ix h (ht:=ht) (hs:=hs) (hp:=hp) (hL:=hL);intro hΨ hZ hJ G a w hψ hw aS;refine kT _ _ _ _ (fun j hj x hs=>⟨hs,fun hh=>?_⟩) (h' G a w (hw.rF hJ.1 hψ) aS);rcases Nat.lt_or_ge j listed.size with hl | hl
 ·have:=List.all_eq_true.1 hb j (List.mem_range.2 hl);rw[hj,Bool.false_or]at this;rw[this]at hh;cases hh
 ·rw[Array.getD_eq_getD_getElem?,Array.getElem?_eq_none (by simpa using hl)]at hj;cases hj
end
set_option linter.defProp false in
def bI:=And.intro ee<|And.intro T4 T3
def k8 (eu:Bool) (s:Bs):Bool:=(k6 s).2&&(eu||(k6 s).1 != 6)
theorem PU (eu:Bool) (O:VH):VF Tryz.prog 299 [mb eu] O (aD fun m O'=>m= .func (.func 316) [] [.ptr O.next 0]/\pF O [mb eu] O'):=by
 refine VF.bO 4 [.tmp 2] Tryz.func299 ?_;refine VC.ag aa (ae @bI ?_);refine VC.bx ?_;rintro O1 h1;refine WC.sound aa (ae @bI ?_);exact h1
theorem LI (eu:Bool) (s:Bs) (b:Nat) (O:VH) (hb:O.hp b=some (.cells [mb eu])):VF Tryz.prog 316 ([.str s]++[.ptr b 0]) O (aD fun m O'=>m=mb (k8 eu s)/\O.Ge O'):=by
 have hS:=LB s O;have hF:k8 eu s=((k6 s).2&&(eu||(k6 s).1 != 6)):=rfl;generalize k8 eu s=W at*;generalize k6 s=q at*;obtain⟨n,c⟩:=q;simp only[List.cons_append,List.nil_append];dsimp only at hF hS;simp only[a_]at hb;refine VF.du 19 [.tmp 3] Tryz.func316 ?_;refine ae @bI ?_;refine ah.rt (hS) ?_;rintro _ O2 ⟨rfl,rfl⟩;subst hF;cases c
 ·refine ao @bI @hb ?_;exact VH.Ge.refl _
 ·cases eu
  ·by_cases h6:n=6
   ·subst h6;refine ao @bI @hb ?_;exact⟨rfl,VH.Ge.refl _⟩
   ·have h6':((n:Int)==6)=false:=by rw[beq_eq_false_iff_ne];omega
    have h6b:((n:Int) != 6)=true:=by rw[bne,h6'];rfl
    have h6n:(n != 6)=true:=by rw[bne_iff_ne];exact h6
    refine gW @bI @hb @h6' @h6b @h6n ?_;exact VH.Ge.refl _
  ·refine ao @bI @hb ?_;exact VH.Ge.refl _
structure DS (O:VH) (B:Nat) (E:List MV) (O':VH) (cs:List MV):Prop where
 eo:O.Ge O'
 le:O.next<=B
 x:O'.hp B=some (.cells E)
 d:O'.hp (B+1)=some (.cells cs)
 lt:B+1<O'.next
theorem DS.st {O O':VH} {B:Nat} {E cs cs':List MV} (h:DS O B E O' cs):DS O B E (O'.set (B+1) (.cells cs')) cs':=
 ⟨h.eo.set (by have:=h.le;omega) _,h.le,VH.sn h.x,VH.an _ _ _,h.lt⟩
theorem DS.ge {O O' O2:VH} {B:Nat} {E cs:List MV} (h:DS O B E O' cs) (k:O'.Ge O2):DS O B E O2 cs:=
 ⟨h.eo.trans k,h.le,(k.hp _ (by have:=h.lt;omega)).trans h.x,(k.hp _ h.lt).trans h.d,Nat.lt_of_lt_of_le h.lt k.next⟩
theorem DS.rF {O O' O2:VH} {B:Nat} {E cs:List MV} {X:Obj} (h:DS O B E O' cs) (k:(O'.set B (.obj X)).Ge O2):DS O B E (O2.set B (.cells E)) cs:=by
 have e1:(O'.set B (.obj X)).next=O'.next:=rfl;have e2:(O2.set B (.cells E)).next=O2.next:=rfl;have h1:=h.le;have h2:=h.lt;have h3:=h.eo.next;have h4:=k.next;refine⟨⟨by omega,fun j hj=>?_⟩,h.le,VH.an _ _ _,?_,by omega⟩
 ·rw[VH.ak _ _ (by omega),k.hp j (by omega),VH.ak _ _ (by omega)];exact h.eo.hp j hj
 ·rw[VH.ak _ _ (by omega),k.hp _ (by omega),VH.ak _ _ (by omega)];exact h.d
theorem VC.ds {P:Program} {n:Sz} {D:List Deferred} {c:Code} {e:Env} {Q:VQ} {O O':VH} {B:Nat} {E cs cs':List MV} (h:DS O B E O' cs) (k:∀O3,DS O B E O3 cs'->VC P n D c e O3 Q):VC P n D c e (O'.set (B+1) (.cells cs')) Q:=k _ h.st
theorem VC.ds0 {P:Program} {n:Sz} {D:List Deferred} {c:Code} {e:Env} {Q:VQ} {O:VH} {E cs:List MV} (k:∀O3,DS O O.next E O3 cs->VC P n D c e O3 Q):VC P n D c e ((O.push (.cells E)).push (.cells cs)) Q:=
 k _ ⟨((VH.Ge.refl O).push _).push _,Nat.le_refl _,(VH.bw _ _ (Nat.lt_succ_self _)).trans (VH.aV _ _),VH.aV _ _,Nat.lt_succ_self _⟩
def dH:Bs->Bool:=fun _=>true
theorem sO (s:Bs) (O':VH):VF Tryz.prog 251 ([.str s]++[]) O' (aD fun m j4=>m=mb (dH s)/\O'.Ge j4):=ac2 s O'
theorem U7 (s:Bs) (O':VH):VF Tryz.prog 300 ([.str s]++[]) O' (aD fun m j4=>m=mb (mq s)/\O'.Ge j4):=PB s O'
def gN (s:Bs):Bool:=zG ⟨s,s⟩
theorem LJ (s:Bs) (O':VH) (hs:s.length<=1024):VF Tryz.prog 301 ([.str s]++[]) O' (aD fun m j4=>m=mb (gN s)/\O'.Ge j4):=U3 s O' (by simp only[maxLen];omega)
def exE (k:Nd×Bs):Except (Int×Bs) fJ:=
 match bN k.1 k.2 dS true gN with
 | .error e=>.error e
 | .ok g=>match bN k.1 k.2 dL true gN with
   | .error e=>.error e
   | .ok a=>.ok ⟨g,a⟩
def xi:List (Nd×Bs)->List fJ->Except (Int×Bs) (List fJ)
 | [],X=>.ok X
 | k::r,X=>match exE k with
   | .error e=>.error e
   | .ok i=>xi r (X++[i])
def uX (x:Nd) (w:Bs):Except (Int×Bs) (List fJ):=
 match cn x w lD with
 | .error e=>.error e
 | .ok ((_,_),false)=>.ok []
 | .ok ((y,wy),true)=>match mX y wy tC with
   | .error e=>.error e
   | .ok l=>xi l []
def Zk (s:Bs):Int:=if s=jW then 1 else if s=kW then 2 else 0
def oy (d:Dp):Except (Int×Bs) (List fJ)->Except (Int×Bs) Dp
 | .error e=>.error e
 | .ok X=>.ok ⟨d.g,d.a,d.v,d.t,d.c,d.s,d.o,X⟩
def En (x:Nd) (w:Bs) (eu:Bool):Except (Int×Bs) Dp:=
 match bN x w dS true dH with
 | .error e=>.error e
 | .ok g=>match bN x w dL true dH with
 | .error e=>.error e
 | .ok a=>match bN x w fp false dH with
 | .error e=>.error e
 | .ok v=>match bN x w zI false dH with
 | .error e=>.error e
 | .ok t=>match bN x w zJ false dH with
 | .error e=>.error e
 | .ok c=>match bN x w qx false (k8 eu)with
 | .error e=>.error e
 | .ok s=>match bN x w mn false mq with
 | .error e=>.error e
 | .ok o=>oy ⟨g,a,v,t,c,(k6 s).1,Zk o,[]⟩ (uX x w)
theorem Hk {y:Nd} {wy nm:Bs} {L:List (Nd×Bs)} (h:mX y wy nm= .ok L):L.length<=1024/\∀p∈L,ky p.1<=ky y/\p.2.length<=wy.length+nm.length+1030:=by
 unfold mX at h;split at h
 ·cases h
 ·rename_i hn;injection h with h;subst h
  refine⟨by rw[Hj];omega,fun p hp=>?_⟩;unfold pO at hp;obtain⟨i,hi,rfl⟩:=List.mem_mapIdx.1 hp;have hk:=PF (List.getElem_mem hi);have zN:=rO (i+1);refine⟨Nat.le_of_lt hk,?_⟩;simp only[CN,List.length_append,List.length_cons,List.length_nil];omega
theorem DS.agp {O O' O2:VH} {B k:Nat} {E cs:List MV} {x y:b_} (h:DS O B E O' cs) (hk:B+1<k) (g:(O'.set k x).Ge O2):DS O B E (O2.set k y) cs:=by
 have e1:(O'.set k x).next=O'.next:=rfl;have e2:(O2.set k y).next=O2.next:=rfl;have h1:=h.le;have h2:=h.lt;have h3:=h.eo.next;have h4:=g.next
 have key:∀j,j<O'.next->j≠k->(O2.set k y).hp j=O'.hp j:=fun j hj hn=>by
  rw[VH.ak _ _ hn,g.hp j (by omega),VH.ak _ _ hn]
 exact⟨⟨by omega,fun j hj=>(key j (by omega) (by omega)).trans (h.eo.hp j hj)⟩,h.le,(key _ (by omega) (by omega)).trans h.x,(key _ (by omega) (by omega)).trans h.d,by omega⟩
theorem DS.app {O O':VH} {B sz:Nat} {E cs:List MV} {tk:Tok} (h:DS O B E O' cs) (ha:App O' (B+2) sz tk):DS O B E (O'.after tk) cs:=by
 have k:=cP.after ha;have h1:=h.le;have h2:=h.lt;have h3:=h.eo.next;have key:∀j,j<B+2->(O'.after tk).hp j=O'.hp j:=fun j hj=>k.hp j (by omega) (fun e=>by have:=(App.ou ha e).1;omega)
 exact⟨⟨Nat.le_trans h3 k.next,fun j hj=>(key j (by omega)).trans (h.eo.hp j hj)⟩,h.le,(key _ (by omega)).trans h.x,(key _ (by omega)).trans h.d,Nat.lt_of_lt_of_le h2 k.next⟩
theorem App.nY {O:VH} {B sz k:Nat} {tk:Tok} {x:b_} (h:App O B sz tk) (hk:O.hp k≠some .tok):App (O.set k x) B sz tk:=by
 cases tk with
 | own t j=>exact⟨h.1,(VH.ak _ _ (fun e=>by subst e;exact hk h.2.1)).trans h.2.1,h.2.2.1,h.2.2.2⟩
 | nil=>trivial
 | full=>trivial
 | aq=>exact h.elim
section
variable {P:Program} {n:Sz} {D:List Deferred} {e:Env} {O:VH} {Q:VQ}
theorem aH.pP {i:Nat} {l:List Oper} {d:Option Tmp} {f:Operand} {xs:Array Operand} {ts:Array TypeId} {ty:TypeId} {ps:String} {af:Array Edge} {g:Option (Nat×Bool)} {id:FuncId} {ms cs:List MV} {R:fL->VH->Prop} {K:Env->VH->Prop} (hR:VF P id (ms++cs) O R)
  (h:∀m O',R (.ret m) O'->K (aU d m e) O') (h2:∀m O',R (.panic m) O'->Q (.panic m) (kB n e) O') (ho:l[i]?=some (.mk d (.call {callee:=.value f,args:=xs,argTypes:=ts}) ty ps af g):=by exact rfl) (hg:aL ⟨l⟩ (.mk d (.call {callee:=.value f,args:=xs,argTypes:=ts}) ty ps af g) e=some true:=by exact rfl) (hf:ev e f=some (.func (.func id) [] cs):=by exact rfl) (hm:fG e xs.toList=some ms:=by exact rfl) (hb:cM P id=true:=by kernel_rfl) (hd:bm n d=true:=by exact rfl):aH P n D ⟨l⟩ i e O Q K:=
 aH.call (o:=.mk d (.call {callee:=.value f,args:=xs,argTypes:=ts}) ty ps af g) (by simpa using ho) hg rfl rfl hf hm (Enters.sA hb) hd (by simpa using hR) fun r O' hr=>by
  cases r with
  | ret m=>exact h m O' hr
  | panic m=>exact h2 m O' hr
end
theorem agq (x:Nd) (w:Bs) (eu:Bool) (O:VH) (hx:ky x<=1000000) (hw6:w.length<=6000):
  VF Tryz.prog 276 [.agg (kx x w),mb eu] O (FQ O (En x w eu) fun y m=>m= .agg (aQ y)):=by
 have hw:w.length<=10000:=by omega
 refine VF.fgR ?_;have qU:=pN x w;have uT:=rP x w lD;have uU:= @rR x w lD;obtain⟨PE,hP⟩:∃PE,En x w eu=PE:=⟨_,rfl⟩
 rw[hP];unfold En at hP
 have FU:∃a b c d e,kx x w=[a,b,c,d,e]:=by
  cases x;simp only[kx,df];exact⟨_,_,_,_,_,rfl⟩
 obtain⟨a,b,c,d,e,hE⟩:=FU;simp only[hE]at qU uT ⊢;clear hE;refine VF.bO 66 [.cell 4 63] Tryz.func276 ?_;refine VC.ag aa (ae @bI ?_);refine VC.ds0 ?_;intro _ hd;have ez:=hd.x;have cK:=hd.d;refine VC.ag aa (aI @bI @ez @cK ?_);clear ez cK;refine ah.p (qU dS true dH 251 [] _ hx hw (by decide) (by kernel_rfl) (fun s O' _ _=>sO s O')) ?_ ?_;rotate_left
 ·rintro m O9 ⟨bn,h⟩;cases hF:bN x w dS true dH with
  | ok s=>rw[hF]at h;exact h.elim
  | error e=>
    rw[hF]at h hP;dsimp only at h hP;rw[h, <-hP];refine ae @bI ?_;exact⟨hd.eo.trans bn,rfl⟩
 rintro m O1 ⟨bn,h⟩;cases PV:bN x w dS true dH with
 | error e=>rw[PV]at h;exact h.elim
 | ok s1=>
 rw[PV]at h hP;dsimp only at h hP;subst h;have hb:=hd.ge bn;clear bn hd;have ez:=hb.x;have cK:=hb.d;refine aI @bI @ez @cK ?_;refine VC.ds hb ?_;clear ez cK hb;intro _ hd;have ez:=hd.x;have cK:=hd.d;refine VC.ag aa (aI @bI @ez @cK ?_);clear ez cK;refine ah.p (qU dL true dH 251 [] _ hx hw (by decide) (by kernel_rfl) (fun s O' _ _=>sO s O')) ?_ ?_;rotate_left
 ·rintro m O9 ⟨bn,h⟩;cases hF:bN x w dL true dH with
  | ok s=>rw[hF]at h;exact h.elim
  | error e=>
    rw[hF]at h hP;dsimp only at h hP;rw[h, <-hP];refine ae @bI ?_;exact⟨hd.eo.trans bn,rfl⟩
 rintro m O2 ⟨bn,h⟩;cases IN:bN x w dL true dH with
 | error e=>rw[IN]at h;exact h.elim
 | ok s2=>
 rw[IN]at h hP;dsimp only at h hP;subst h;have hb:=hd.ge bn;clear bn hd;have ez:=hb.x;have cK:=hb.d;refine aI @bI @ez @cK ?_;refine VC.ds hb ?_;clear ez cK hb;intro _ hd;have ez:=hd.x;have cK:=hd.d;refine VC.ag aa (aI @bI @ez @cK ?_);clear ez cK;refine ah.p (qU fp false dH 251 [] _ hx hw (by decide) (by kernel_rfl) (fun s O' _ _=>sO s O')) ?_ ?_;rotate_left
 ·rintro m O9 ⟨bn,h⟩;cases hF:bN x w fp false dH with
  | ok s=>rw[hF]at h;exact h.elim
  | error e=>
    rw[hF]at h hP;dsimp only at h hP;rw[h, <-hP];refine ae @bI ?_;exact⟨hd.eo.trans bn,rfl⟩
 rintro m O3 ⟨bn,h⟩;cases PW:bN x w fp false dH with
 | error e=>rw[PW]at h;exact h.elim
 | ok s3=>
 rw[PW]at h hP;dsimp only at h hP;subst h;have hb:=hd.ge bn;clear bn hd;have ez:=hb.x;have cK:=hb.d;refine aI @bI @ez @cK ?_;refine VC.ds hb ?_;clear ez cK hb;intro _ hd;have ez:=hd.x;have cK:=hd.d;refine VC.ag aa (aI @bI @ez @cK ?_);clear ez cK;refine ah.p (qU zI false dH 251 [] _ hx hw (by decide) (by kernel_rfl) (fun s O' _ _=>sO s O')) ?_ ?_;rotate_left
 ·rintro m O9 ⟨bn,h⟩;cases hF:bN x w zI false dH with
  | ok s=>rw[hF]at h;exact h.elim
  | error e=>
    rw[hF]at h hP;dsimp only at h hP;rw[h, <-hP];refine ae @bI ?_;exact⟨hd.eo.trans bn,rfl⟩
 rintro m O4 ⟨bn,h⟩;cases Zl:bN x w zI false dH with
 | error e=>rw[Zl]at h;exact h.elim
 | ok s4=>
 rw[Zl]at h hP;dsimp only at h hP;subst h;have hb:=hd.ge bn;clear bn hd;have ez:=hb.x;have cK:=hb.d;refine aI @bI @ez @cK ?_;refine VC.ds hb ?_;clear ez cK hb;intro _ hd;have ez:=hd.x;have cK:=hd.d;refine VC.ag aa (aI @bI @ez @cK ?_);clear ez cK;refine ah.p (qU zJ false dH 251 [] _ hx hw (by decide) (by kernel_rfl) (fun s O' _ _=>sO s O')) ?_ ?_;rotate_left
 ·rintro m O9 ⟨bn,h⟩;cases hF:bN x w zJ false dH with
  | ok s=>rw[hF]at h;exact h.elim
  | error e=>
    rw[hF]at h hP;dsimp only at h hP;rw[h, <-hP];refine ae @bI ?_;exact⟨hd.eo.trans bn,rfl⟩
 rintro m O5 ⟨bn,h⟩;cases hF5:bN x w zJ false dH with
 | error e=>rw[hF5]at h;exact h.elim
 | ok s5=>
 rw[hF5]at h hP;dsimp only at h hP;subst h;have hb:=hd.ge bn;clear bn hd;have ez:=hb.x;have cK:=hb.d;refine aI @bI @ez @cK ?_;refine VC.ds hb ?_;clear ez cK hb;intro O6 hd;have ez:=hd.x;refine VC.bC ?_;refine VC.px [7,8,9] (O.next) (ez) ?_;intro X;refine ab.av 1 ?_;refine ae @bI ?_;refine ab.sE (m:=.agg [a,b,c,d,e]) 0 ?_ ?_
 ·exact eW @bI
 simp only[aj];refine ab.call (i:=2) (PU eu _) ?_;rintro _ O7 ⟨rfl,fc,tW,tV⟩;simp only[aj];refine⟨(fc.hp _ (by have:=hd.lt;show _<O6.next;omega)).trans (VH.an _ _ _),?_⟩;have hl6:=hd.lt;have aih:O7.next=O6.next+1:=tV;have aeC:O7.hp O6.next=some (.cells [mb eu]):=tW;refine ab.iW (k:=O.next) (i:=3) (qU qx false (k8 eu) 316 [.ptr O6.next 0] O7 hx hw (by decide) (by kernel_rfl) (fun s O' IM _=>LI eu s _ O' (IM.at aeC))) ?_ ?_;rotate_left
 ·rintro m O8 ⟨ik,h⟩;have hX:=((fc.trans ik).hp _ (by show O.next<O6.next;omega)).trans (VH.an _ _ _);refine⟨hX,?_⟩;cases hF:bN x w qx false (k8 eu)with
  | ok s=>rw[hF]at h;exact h.elim
  | error e=>
    rw[hF]at h hP;dsimp only at h hP;rw[h, <-hP];refine ae @bI ?_;exact⟨(hd.rF (fc.trans ik)).eo,rfl⟩
 rintro m O8 ⟨ik,h⟩;have hX:=((fc.trans ik).hp _ (by show O.next<O6.next;omega)).trans (VH.an _ _ _);refine⟨hX,?_⟩;cases hF6:bN x w qx false (k8 eu)with
 | error e=>rw[hF6]at h;exact h.elim
 | ok s6=>
 rw[hF6]at h hP;dsimp only at h hP;subst h;simp only[aj];refine ab.call (i:=4) (LB s6 _) ?_;rintro _ O9 ⟨rfl,eO⟩;rw[eO];clear eO O9
 simp only[aj];refine⟨hX,?_⟩;have hb:=hd.rF (fc.trans ik);have cK:=(VH.ak O8 (.cells [a,b,c,d,e]) (by omega:O.next+1≠O.next)).symm.trans hb.d;refine ab.av 5 ?_;refine ae @bI ?_;refine ab.aif 7 ?_;refine ae @bI ?_;refine ab.av 6 ?_;refine ae @bI ?_;refine ab.mT [(8,.av),(9,.one)] ?_;refine ao @bI @cK ?_;clear tW aeC cK hX ez;generalize k6 s6=sc at*;refine VC.ds hb ?_;clear hb hd fc ik hl6 tV aih;intro O9 hd;have ez:=hd.x;have cK:=hd.d;refine VC.bJ [2,4] (fun _:Int=>[.ptr O.next 0,.ptr (O.next+1) 0]) (fun o O'=>DS O O.next [a,b,c,d,e] O' [.str s1,.str s2,.str s3,.str s4,.str s5,mi sc.1,mi o,.sl 0 [] .nil]/\oy ⟨s1,s2,s3,s4,s5,sc.1,o,[]⟩ (uX x w)=PE) ?_ ?_
 ·refine VC.ag aa (aI @bI @ez @cK ?_);clear ez cK;refine ah.p (qU mn false mq 300 [] _ hx hw (by decide) (by kernel_rfl) (fun s O' _ _=>U7 s O')) ?_ ?_;rotate_left
  ·rintro m O9 ⟨bn,h⟩;cases hF:bN x w mn false mq with
   | ok s=>rw[hF]at h;exact h.elim
   | error e=>
     rw[hF]at h hP;dsimp only at h hP;rw[h, <-hP];refine ae @bI ?_;exact⟨hd.eo.trans bn,rfl⟩
  rintro m OA ⟨bn,h⟩;cases hF7:bN x w mn false mq with
  | error e=>rw[hF7]at h;exact h.elim
  | ok s7=>
  rw[hF7]at h hP;dsimp only at h hP;subst h;have hb:=hd.ge bn;clear bn hd;have ez:=hb.x;have cK:=hb.d;refine aI @bI @ez @cK ?_;have ic:=fun o:Int=>hb.st (cs':=[.str s1,.str s2,.str s3,.str s4,.str s5,mi sc.1,mi o,.sl 0 [] .nil])
  simp only[ar]at ic;unfold Zk at hP;refine VC.aB ?_;cases h1:s7==jW
  ·rw[if_neg (fun e=>by rw[e]at h1;exact absurd h1 (by decide))]at hP;cases h2:s7==kW
   ·rw[if_neg (fun e=>by rw[e]at h2;exact absurd h2 (by decide))]at hP;simp only[jW,kW]at h1 h2;refine WC.sound aa (de @bI @cK @h1 @h2 ?_);exact aA.mk 0 ⟨hb,hP⟩
   ·rw[if_pos (eq_of_beq h2)]at hP;simp only[jW,kW]at h1 h2;refine WC.sound aa (de @bI @cK @h1 @h2 ?_);exact aA.mk 2 ⟨ic 2,hP⟩
  ·rw[if_pos (eq_of_beq h1)]at hP;simp only[jW]at h1;refine WC.sound aa (aI @bI @cK @h1 ?_);exact aA.mk 1 ⟨ic 1,hP⟩
 intro o OA ⟨hd,hP⟩;refine VC.bJ [4] (fun _:List fJ×Tok=>[.ptr (O.next+1) 0]) (fun x O'=>DS O O.next [a,b,c,d,e] O' [.str s1,.str s2,.str s3,.str s4,.str s5,mi sc.1,mi o,.sl x.1.length (x.1.flatMap bV) x.2]/\ .ok (⟨s1,s2,s3,s4,s5,sc.1,o,x.1⟩:Dp)=PE) ?_ ?_;rotate_left
 ·rintro⟨X,tk⟩ O9 ⟨hd,hP⟩;have cK:=hd.d;simp only[ar]at cK;refine WC.sound aa (ao @bI @cK ?_);rw[<-hP];refine⟨hd.eo.set (by omega) _,?_⟩;simp only[aQ,ar,wu,mW]
 have ez:=hd.x;have cK:=hd.d;have uV:∀e,cn x w lD= .error e->uX x w= .error e:=fun e h=>by unfold uX;rw[h]
 have nE:∀y wy,cn x w lD= .ok ((y,wy),false)->uX x w= .ok []:=fun y wy h=>by unfold uX;rw[h]
 have iD:∀y wy,cn x w lD= .ok ((y,wy),true)->uX x w=match mX y wy tC with
  | .error e=>.error e
  | .ok l=>xi l []:=fun y wy h=>by unfold uX;rw[h]
 generalize uX x w=DX at*;generalize cn x w lD=F at*;refine VC.ag aa (aI @bI @ez @cK ?_);clear ez cK;refine ah.p (uT OA (by have:=jS x;omega) (by omega) (by decide)) ?_ ?_;rotate_left
 ·rintro m O2 ⟨ax,h⟩;cases F with
  | ok y=>exact h.elim
  | error e=>
    dsimp only at h;rw[uV e rfl]at hP;simp only[oy]at hP;rw[h, <-hP];refine ae @bI ?_;exact⟨hd.eo.trans ax,rfl⟩
 rintro m OB ⟨ax,h⟩;cases F with
 | error e=>exact h.elim
 | ok y=>
 obtain⟨⟨y,wy⟩,bb⟩:=y;dsimp only at h;subst h;obtain⟨Ze,uW⟩:=uU rfl;have ox:wy.length<=6011:=by rw[uW];simp only[List.length_append,List.length_cons,List.length_nil];omega
 have hb:=hd.ge ax;clear hd ax uU uW uV
 replace iD:bb=true->DX=match mX y wy tC with
  | .error e=>.error e
  | .ok l=>xi l []:=fun h=>by subst h;exact iD y wy rfl
 replace nE:bb=false->DX= .ok []:=fun h=>by subst h;exact nE y wy rfl
 have Hl:=RV y wy tC;have RZ:= @Hk y wy tC;generalize mX y wy tC=LE at*;obtain⟨yn,ya,yk,yt⟩:=y;generalize hWy:ky (.mk yn ya yk yt)=Wy at*;simp only[kx,df,List.cons_append,List.nil_append]at Hl ⊢;refine ae @bI ?_;refine VC.al ?_;rintro OC ⟨Zm,hyC,hnC⟩;have hd:=hb.ge Zm;clear hb Zm;cases bb
 ·rw[nE rfl]at hP;simp only[oy]at hP;refine WC.sound aa (ae @bI ?_);exact aA.mk ([],.nil) ⟨hd,hP⟩
 rw[iD rfl]at hP;clear nE iD;refine VC.ag aa (ae @bI ?_);refine WC.sound aa (ao @bI @hyC ?_);refine ah.p (Hl OC (by omega) (by omega) (by decide)) ?_ ?_;rotate_left
 ·rintro m O9 ⟨bn,h⟩;cases LE with
  | ok y=>exact h.elim
  | error e=>
    dsimp only at h;simp only[oy]at hP;rw[h, <-hP];refine ae @bI ?_;exact⟨hd.eo.trans bn,rfl⟩
 rintro m OD ⟨bn,h⟩;cases LE with
 | error e=>exact h.elim
 | ok L=>
 dsimp only at h hP;obtain⟨tL,rfl⟩:=h;obtain⟨om,hLm⟩:=RZ rfl;have hb:=hd.ge bn;clear hd bn RZ Hl hyC;refine ae @bI ?_;refine VC.bP [50] [4,48,49] (fun x:Nat×List fJ×Tok=>[mi x.1]) (fun x O'=>DS O O.next [a,b,c,d,e] O' [.str s1,.str s2,.str s3,.str s4,.str s5,mi sc.1,mi o,.sl x.2.1.length (x.2.1.flatMap bV) x.2.2]/\App O' (O.next+2) 2 x.2.2/\x.1<=L.length/\x.2.1.length=x.1/\oy ⟨s1,s2,s3,s4,s5,sc.1,o,[]⟩ (xi (L.drop x.1) x.2.1)=PE) (fun x=>L.length - x.1) ((0,[],.nil)) ?_ ?_
 ·exact⟨hb,trivial,Nat.zero_le _,rfl,hP⟩
 rintro⟨j,X,tk⟩ O3 ⟨hd,cH,hj,II,hP⟩;dsimp only at hd cH hj II hP ⊢;by_cases aX:j<L.length;rotate_left
 ·obtain rfl:j=L.length:=by omega
  rw[List.drop_of_length_le (Nat.le_refl _),xi]at hP;refine WC.sound aa (ae @bI ?_);exact aA.mk (X,tk) ⟨hd,hP⟩
 have bA:((tF L).drop (j*5)).take 5=kx L[j].1 L[j].2:=cg Ej L j aX;have hL5:=wj L;rw[List.drop_eq_getElem_cons aX,xi]at hP;obtain⟨Zh,U8⟩:=hLm L[j] (List.getElem_mem aX);generalize L[j]=zz at*;obtain⟨z,wz⟩:=zz;dsimp only at Zh U8;have qm:=fun O'=>pN z wz dS true gN 301 [] O' (by omega) (by simp only[List.length_cons,List.length_nil]at U8;omega) (by decide) (by kernel_rfl) (fun s j4 _ hs=>LJ s j4 hs)
 have zQ:=fun O'=>pN z wz dL true gN 301 [] O' (by omega) (by simp only[List.length_cons,List.length_nil]at U8;omega) (by decide) (by kernel_rfl) (fun s j4 _ hs=>LJ s j4 hs)
 unfold exE at hP;dsimp only at hP;generalize bN z wz dS true gN=W1 at*;generalize bN z wz dL true gN=W2 at*;obtain⟨zn,za,cR,zt⟩:=z;simp only[kx,df,List.cons_append,List.nil_append]at bA qm zQ;refine VC.ag aa (ae @bI ?_);refine VC.ag aa (ae @bI ?_);refine VC.bC (VC.aB ?_);refine VC.ag aa (ao @bI @bA ?_);refine VC.al ?_;rintro O4 ⟨bg,ja,gM⟩;have hb:=hd.ge bg;have lM:=cH.ge bg;have gm:O.next+1<O3.next:=hd.lt;clear hd bg cH;refine VC.px [8,9,10] (O3.next) (ja) ?_;intro XX;refine ab.av 0 ?_;refine ae @bI ?_;refine ab.sE (m:=.agg [.str zn,.sl za.length (za.flatMap aY) .aq,.sl cR.length (ay cR) .aq,.str zt,.str wz]) 2 ?_ ?_
 ·exact eW @bI
 simp only[aj];refine ab.sE (m:=.agg [.str zn,.sl za.length (za.flatMap aY) .aq,.sl cR.length (ay cR) .aq,.str zt,.str wz]) 4 ?_ ?_
 ·exact eW @bI
 simp only[aj];have lq:=lM.nY (k:=O3.next) (x:=.obj XX) (by rw[ja];simp);have hXX:=VH.an O4 O3.next (.obj XX);have cK:=(VH.ak O4 (.obj XX) (by omega:O.next+1≠O3.next)).trans hb.d;have lF:∀O9,(O4.set O3.next (.obj XX)).Ge O9->O.Ge O9:=fun O9 g=>((hb.eo.set (by omega) _).trans g)
 have jm:∀O9,(O4.set O3.next (.obj XX)).Ge O9->O9.hp O3.next=some (.obj XX)/\O9.hp (O.next+1)=some (.cells [.str s1,.str s2,.str s3,.str s4,.str s5,mi sc.1,mi o,.sl X.length (X.flatMap bV) tk]):=fun O9 g=>⟨(g.hp _ (by show O3.next<O4.next;omega)).trans hXX,(g.hp _ (by show O.next+1<O4.next;omega)).trans cK⟩
 have FX:=fun(O9:VH) (g:(O4.set O3.next (.obj XX)).Ge O9) (y:b_)=>hb.agp (k:=O3.next) gm g (y:=y)
 clear cK;generalize O4.set O3.next (.obj XX)=O5 at*;refine ab.pair (i:=1) (j:=3) ?_ ?_
 ·refine aH.o1 ?_;refine ao @bI (jm _ (VH.Ge.refl _)).2 ?_;refine⟨(jm _ (VH.Ge.refl _)).1,?_⟩;have hG:=VH.Ge.refl O5;refine ab.pP (i:=3) (qm O5) ?_ ?_;rotate_left
  ·rintro m O9 ⟨bn,h⟩;cases W1 with
   | ok s=>exact h.elim
   | error e=>
     dsimp only at h hP;simp only[oy]at hP;rw[h, <-hP];refine ae @bI ?_;exact⟨lF _ (hG.trans bn),rfl⟩
  rintro m O6 ⟨bn,h⟩;cases W1 with
  | error e=>exact h.elim
  | ok sg=>
  dsimp only at h hP;subst h;simp only[aj]
  replace hG:=hG.trans bn
  clear bn;refine⟨(jm _ hG).1,?_⟩;refine ab.pP (i:=5) (zQ O6) ?_ ?_;rotate_left
  ·rintro m O9 ⟨bn,h⟩;cases W2 with
   | ok s=>exact h.elim
   | error e=>
     dsimp only at h hP;simp only[oy]at hP;rw[h, <-hP];refine ae @bI ?_;exact⟨lF _ (hG.trans bn),rfl⟩
  rintro m OF ⟨bn,h⟩;cases W2 with
  | error e=>exact h.elim
  | ok sa=>
  dsimp only at h hP;subst h;simp only[aj]
  replace hG:=hG.trans bn
  clear bn;refine⟨(jm _ hG).1,?_⟩;refine ab.av 6 ?_;refine ae @bI ?_;refine ab.op (i:=7) ?_;refine ae @bI ?_;refine⟨(jm _ hG).1,?_⟩;refine ab.mT [(8,.one),(9,.av),(10,.one)] ?_;have Eo:=FX _ hG (.cells [.str zn,.sl za.length (za.flatMap aY) .aq,.sl cR.length (ay cR) .aq,.str zt,.str wz]);have uY:=(lq.ge hG).nY (k:=O3.next) (x:=.cells [.str zn,.sl za.length (za.flatMap aY) .aq,.sl cR.length (ay cR) .aq,.str zt,.str wz]) (by rw[(jm _ hG).1];simp);refine ae @bI ?_;obtain⟨mE,fZ,kX⟩:=fR (n:=X.length) (cs:=X.flatMap bV) (ds:=[.str sg,.str sa]) (es:=bV ⟨sg,sa⟩) DW BR.1.1 uY (aT mV X) rfl rfl (by decide) (by omega) (by simp only[maxLen];omega) (mW X) (by simp only[bV,wu]);refine VL.lh fZ kX ?_;have Ep:=Eo.app uY;have Er:=Ep.d;have Es:=Ep.st (cs':=[.str s1,.str s2,.str s3,.str s4,.str s5,mi sc.1,mi o,.sl (X.length+1) (X.flatMap bV++bV ⟨sg,sa⟩) (.own OF.next 2)]);have uZ:=(App.after (B:=O.next+2) (sz:=2) (tk:=tk) (O:=OF.set O3.next (.cells [.str zn,.sl za.length (za.flatMap aY) .aq,.sl cR.length (ay cR) .aq,.str zt,.str wz])) (by have:=Eo.lt;omega)).nY (k:=O.next+1) (x:=.cells [.str s1,.str s2,.str s3,.str s4,.str s5,mi sc.1,mi o,.sl (X.length+1) (X.flatMap bV++bV ⟨sg,sa⟩) (.own OF.next 2)]) (by rw[Er];simp);simp only[ar]at Es uZ;generalize (OF.set O3.next (.cells [.str zn,.sl za.length (za.flatMap aY) .aq,.sl cR.length (ay cR) .aq,.str zt,.str wz])).after tk=OG at*;refine ao @bI @Er ?_;have dd:((j:Int)+1)=((j+1:Nat):Int):=by omega
  have dB:(X++[(⟨sg,sa⟩:fJ)]).flatMap bV=X.flatMap bV++bV ⟨sg,sa⟩:=by simp
  have Cr:(X++[(⟨sg,sa⟩:fJ)]).length=X.length+1:=by simp
  refine WC.sound aa (ao @bI @dd ?_);exact az.next (j+1,X++[(⟨sg,sa⟩:fJ)],.own OF.next 2) ⟨by dsimp only;rw[dB,Cr];exact Es,uZ,aX,by dsimp only;rw[Cr,II],hP⟩
 ·have hG:=VH.Ge.refl O5;refine aH.pP (qm O5) ?_ ?_;rotate_left
  ·rintro m O9 ⟨bn,h⟩;cases W1 with
   | ok s=>exact h.elim
   | error e=>
     dsimp only at h hP;simp only[oy]at hP;rw[h, <-hP];refine ae @bI ?_;exact⟨lF _ (hG.trans bn),rfl⟩
  rintro m O6 ⟨bn,h⟩;cases W1 with
  | error e=>exact h.elim
  | ok sg=>
  dsimp only at h hP;subst h;simp only[aj]
  replace hG:=hG.trans bn
  clear bn;refine⟨(jm _ hG).1,?_⟩;refine ab.pair (i:=1) (j:=5) ?_ ?_
  ·refine aH.o1 ?_;refine ao @bI (jm _ hG).2 ?_;refine⟨(jm _ hG).1,?_⟩;refine ab.pP (i:=5) (zQ O6) ?_ ?_;rotate_left
   ·rintro m O9 ⟨bn,h⟩;cases W2 with
    | ok s=>exact h.elim
    | error e=>
      dsimp only at h hP;simp only[oy]at hP;rw[h, <-hP];refine ae @bI ?_;exact⟨lF _ (hG.trans bn),rfl⟩
   rintro m OF ⟨bn,h⟩;cases W2 with
   | error e=>exact h.elim
   | ok sa=>
   dsimp only at h hP;subst h;simp only[aj]
   replace hG:=hG.trans bn
   clear bn;refine⟨(jm _ hG).1,?_⟩;refine ab.av 6 ?_;refine ae @bI ?_;refine ab.op (i:=7) ?_;refine ae @bI ?_;refine⟨(jm _ hG).1,?_⟩;refine ab.mT [(8,.one),(9,.av),(10,.one)] ?_;have Eo:=FX _ hG (.cells [.str zn,.sl za.length (za.flatMap aY) .aq,.sl cR.length (ay cR) .aq,.str zt,.str wz]);have uY:=(lq.ge hG).nY (k:=O3.next) (x:=.cells [.str zn,.sl za.length (za.flatMap aY) .aq,.sl cR.length (ay cR) .aq,.str zt,.str wz]) (by rw[(jm _ hG).1];simp);refine ae @bI ?_;obtain⟨mE,fZ,kX⟩:=fR (n:=X.length) (cs:=X.flatMap bV) (ds:=[.str sg,.str sa]) (es:=bV ⟨sg,sa⟩) DW BR.1.1 uY (aT mV X) rfl rfl (by decide) (by omega) (by simp only[maxLen];omega) (mW X) (by simp only[bV,wu]);refine VL.lh fZ kX ?_;have Ep:=Eo.app uY;have Er:=Ep.d;have Es:=Ep.st (cs':=[.str s1,.str s2,.str s3,.str s4,.str s5,mi sc.1,mi o,.sl (X.length+1) (X.flatMap bV++bV ⟨sg,sa⟩) (.own OF.next 2)]);have uZ:=(App.after (B:=O.next+2) (sz:=2) (tk:=tk) (O:=OF.set O3.next (.cells [.str zn,.sl za.length (za.flatMap aY) .aq,.sl cR.length (ay cR) .aq,.str zt,.str wz])) (by have:=Eo.lt;omega)).nY (k:=O.next+1) (x:=.cells [.str s1,.str s2,.str s3,.str s4,.str s5,mi sc.1,mi o,.sl (X.length+1) (X.flatMap bV++bV ⟨sg,sa⟩) (.own OF.next 2)]) (by rw[Er];simp);simp only[ar]at Es uZ;generalize (OF.set O3.next (.cells [.str zn,.sl za.length (za.flatMap aY) .aq,.sl cR.length (ay cR) .aq,.str zt,.str wz])).after tk=OG at*;refine ao @bI @Er ?_;have dd:((j:Int)+1)=((j+1:Nat):Int):=by omega
   have dB:(X++[(⟨sg,sa⟩:fJ)]).flatMap bV=X.flatMap bV++bV ⟨sg,sa⟩:=by simp
   have Cr:(X++[(⟨sg,sa⟩:fJ)]).length=X.length+1:=by simp
   refine WC.sound aa (ao @bI @dd ?_);exact az.next (j+1,X++[(⟨sg,sa⟩:fJ)],.own OF.next 2) ⟨by dsimp only;rw[dB,Cr];exact Es,uZ,aX,by dsimp only;rw[Cr,II],hP⟩
  ·refine aH.pP (zQ O6) ?_ ?_;rotate_left
   ·rintro m O9 ⟨bn,h⟩;cases W2 with
    | ok s=>exact h.elim
    | error e=>
      dsimp only at h hP;simp only[oy]at hP;rw[h, <-hP];refine ae @bI ?_;exact⟨lF _ (hG.trans bn),rfl⟩
   rintro m OF ⟨bn,h⟩;cases W2 with
   | error e=>exact h.elim
   | ok sa=>
   dsimp only at h hP;subst h;simp only[aj]
   replace hG:=hG.trans bn
   clear bn;refine⟨(jm _ hG).1,?_⟩;refine ab.av 6 ?_;refine ae @bI ?_;refine ab.pair (i:=1) (j:=7) ?_ ?_
   ·refine aH.o1 ?_;refine ao @bI (jm _ hG).2 ?_;refine⟨(jm _ hG).1,?_⟩;refine ab.op (i:=7) ?_;refine ae @bI ?_;refine⟨(jm _ hG).1,?_⟩;refine ab.mT [(8,.one),(9,.av),(10,.one)] ?_;have Eo:=FX _ hG (.cells [.str zn,.sl za.length (za.flatMap aY) .aq,.sl cR.length (ay cR) .aq,.str zt,.str wz]);have uY:=(lq.ge hG).nY (k:=O3.next) (x:=.cells [.str zn,.sl za.length (za.flatMap aY) .aq,.sl cR.length (ay cR) .aq,.str zt,.str wz]) (by rw[(jm _ hG).1];simp);refine ae @bI ?_;obtain⟨mE,fZ,kX⟩:=fR (n:=X.length) (cs:=X.flatMap bV) (ds:=[.str sg,.str sa]) (es:=bV ⟨sg,sa⟩) DW BR.1.1 uY (aT mV X) rfl rfl (by decide) (by omega) (by simp only[maxLen];omega) (mW X) (by simp only[bV,wu]);refine VL.lh fZ kX ?_;have Ep:=Eo.app uY;have Er:=Ep.d;have Es:=Ep.st (cs':=[.str s1,.str s2,.str s3,.str s4,.str s5,mi sc.1,mi o,.sl (X.length+1) (X.flatMap bV++bV ⟨sg,sa⟩) (.own OF.next 2)]);have uZ:=(App.after (B:=O.next+2) (sz:=2) (tk:=tk) (O:=OF.set O3.next (.cells [.str zn,.sl za.length (za.flatMap aY) .aq,.sl cR.length (ay cR) .aq,.str zt,.str wz])) (by have:=Eo.lt;omega)).nY (k:=O.next+1) (x:=.cells [.str s1,.str s2,.str s3,.str s4,.str s5,mi sc.1,mi o,.sl (X.length+1) (X.flatMap bV++bV ⟨sg,sa⟩) (.own OF.next 2)]) (by rw[Er];simp);simp only[ar]at Es uZ;generalize (OF.set O3.next (.cells [.str zn,.sl za.length (za.flatMap aY) .aq,.sl cR.length (ay cR) .aq,.str zt,.str wz])).after tk=OG at*;refine ao @bI @Er ?_;have dd:((j:Int)+1)=((j+1:Nat):Int):=by omega
    have dB:(X++[(⟨sg,sa⟩:fJ)]).flatMap bV=X.flatMap bV++bV ⟨sg,sa⟩:=by simp
    have Cr:(X++[(⟨sg,sa⟩:fJ)]).length=X.length+1:=by simp
    refine WC.sound aa (ao @bI @dd ?_);exact az.next (j+1,X++[(⟨sg,sa⟩:fJ)],.own OF.next 2) ⟨by dsimp only;rw[dB,Cr];exact Es,uZ,aX,by dsimp only;rw[Cr,II],hP⟩
   ·refine aH.o1 ?_;refine ae @bI ?_;refine⟨(jm _ hG).1,?_⟩;refine ab.op (i:=1) ?_;refine ao @bI (jm _ hG).2 ?_;refine⟨(jm _ hG).1,?_⟩;refine ab.mT [(8,.one),(9,.av),(10,.one)] ?_;have Eo:=FX _ hG (.cells [.str zn,.sl za.length (za.flatMap aY) .aq,.sl cR.length (ay cR) .aq,.str zt,.str wz]);have uY:=(lq.ge hG).nY (k:=O3.next) (x:=.cells [.str zn,.sl za.length (za.flatMap aY) .aq,.sl cR.length (ay cR) .aq,.str zt,.str wz]) (by rw[(jm _ hG).1];simp);refine ae @bI ?_;obtain⟨mE,fZ,kX⟩:=fR (n:=X.length) (cs:=X.flatMap bV) (ds:=[.str sg,.str sa]) (es:=bV ⟨sg,sa⟩) DW BR.1.1 uY (aT mV X) rfl rfl (by decide) (by omega) (by simp only[maxLen];omega) (mW X) (by simp only[bV,wu]);refine VL.lh fZ kX ?_;have Ep:=Eo.app uY;have Er:=Ep.d;have Es:=Ep.st (cs':=[.str s1,.str s2,.str s3,.str s4,.str s5,mi sc.1,mi o,.sl (X.length+1) (X.flatMap bV++bV ⟨sg,sa⟩) (.own OF.next 2)]);have uZ:=(App.after (B:=O.next+2) (sz:=2) (tk:=tk) (O:=OF.set O3.next (.cells [.str zn,.sl za.length (za.flatMap aY) .aq,.sl cR.length (ay cR) .aq,.str zt,.str wz])) (by have:=Eo.lt;omega)).nY (k:=O.next+1) (x:=.cells [.str s1,.str s2,.str s3,.str s4,.str s5,mi sc.1,mi o,.sl (X.length+1) (X.flatMap bV++bV ⟨sg,sa⟩) (.own OF.next 2)]) (by rw[Er];simp);simp only[ar]at Es uZ;generalize (OF.set O3.next (.cells [.str zn,.sl za.length (za.flatMap aY) .aq,.sl cR.length (ay cR) .aq,.str zt,.str wz])).after tk=OG at*;refine ao @bI @Er ?_;have dd:((j:Int)+1)=((j+1:Nat):Int):=by omega
    have dB:(X++[(⟨sg,sa⟩:fJ)]).flatMap bV=X.flatMap bV++bV ⟨sg,sa⟩:=by simp
    have Cr:(X++[(⟨sg,sa⟩:fJ)]).length=X.length+1:=by simp
    refine WC.sound aa (ao @bI @dd ?_);exact az.next (j+1,X++[(⟨sg,sa⟩:fJ)],.own OF.next 2) ⟨by dsimp only;rw[dB,Cr];exact Es,uZ,aX,by dsimp only;rw[Cr,II],hP⟩
set_option linter.defProp false in
def mr:=And.intro bI<|And.intro uP AH
def qV (eu:Bool):List (Nd×Bs)->List Dp->Except (Int×Bs) (List Dp)
 | [],D=>.ok D
 | k::r,D=>match En k.1 k.2 eu with
   | .error e=>.error e
   | .ok d=>qV eu r (D++[d])
def lH (x:Nd) (w:Bs) (eu:Bool):Except (Int×Bs) (List Dp):=
 match cn x w lE with
 | .error e=>.error e
 | .ok ((_,_),false)=>.ok []
 | .ok ((y,wy),true)=>match mX y wy lp with
   | .error e=>.error e
   | .ok L=>qV eu L []
theorem R0 (x:Nd) (w:Bs) (eu:Bool) (O:VH) (hx:ky x<=1000000) (hw:w.length<=4000):
  VF Tryz.prog 253 [.agg (kx x w),mb eu] O (FQ O (lH x w eu) fun y m=>∃tk,m= .sl y.length (y.flatMap aQ) tk):=by
 have uT:=rP x w lE;have jY:=jS x;have uU:= @rR x w lE;have uV:∀e,cn x w lE= .error e->lH x w eu= .error e:=fun e h=>by unfold lH;rw[h]
 have nE:∀y wy,cn x w lE= .ok ((y,wy),false)->lH x w eu= .ok []:=fun y wy h=>by unfold lH;rw[h]
 have iD:∀y wy,cn x w lE= .ok ((y,wy),true)->lH x w eu=match mX y wy lp with
  | .error e=>.error e
  | .ok L=>qV eu L []:=fun y wy h=>by unfold lH;rw[h]
 generalize lH x w eu=PE at*;generalize cn x w lE=F at*;obtain⟨n,a,k,t⟩:=x;generalize hW:ky (.mk n a k t)=W at*;simp only[kx,df,List.cons_append,List.nil_append]at uT ⊢;refine VF.bO 31 [.tmp 4] Tryz.func253 ?_;refine VC.ag aa (ae @mr ?_);refine VC.bx ?_;rintro O1 ⟨aM,dw,c5⟩;refine VC.ag aa (ao @mr @dw ?_);refine ah.p (uT O1 (by omega) (by omega) (by decide)) ?_ ?_;rotate_left
 ·rintro m O2 ⟨ax,h⟩;cases F with
  | ok y=>exact h.elim
  | error e=>
    dsimp only at h;rw[uV e rfl];refine ae @mr ?_;exact⟨aM.trans ax,h⟩
 rintro m O2 ⟨ax,h⟩;cases F with
 | error e=>exact h.elim
 | ok y=>
 obtain⟨⟨y,wy⟩,b⟩:=y;dsimp only at h;subst h;obtain⟨Ze,uW⟩:=uU rfl;have ox:wy.length<=4013:=by rw[uW];simp only[List.length_append,List.length_cons,List.length_nil];omega
 clear uU uW uV
 replace iD:b=true->PE=match mX y wy lp with
  | .error e=>.error e
  | .ok L=>qV eu L []:=fun h=>by subst h;exact iD y wy rfl
 replace nE:b=false->PE= .ok []:=fun h=>by subst h;exact nE y wy rfl
 have Hl:=RV y wy lp;have RZ:= @Hk y wy lp;generalize mX y wy lp=LE at*;obtain⟨yn,ya,yk,yt⟩:=y;generalize hWy:ky (.mk yn ya yk yt)=Wy at*;simp only[kx,df,List.cons_append,List.nil_append]at Hl ⊢;have gx:=aM.trans ax;refine ae @mr ?_;refine VC.al ?_;rintro O3 ⟨aJ,Lx,gL⟩;have eG:=gx.trans aJ;cases b
 ·rw[nE rfl];refine WC.sound aa (ae @mr ?_);exact⟨eG,.nil,rfl⟩
 replace iD:=iD rfl
 clear nE;refine VC.ag aa (ae @mr ?_);refine VC.join aa [4] (fun x:List Dp×Tok=>[.sl x.1.length (x.1.flatMap aQ) x.2]) (fun x O'=>O.Ge O'/\PE= .ok x.1) ?_ ?_;rotate_left
 ·rintro⟨L,tl⟩ O9 ⟨bn,hP⟩;rw[hP];refine ae @mr ?_;exact⟨bn,tl,rfl⟩
 refine VC.ag aa (ao @mr @Lx ?_);refine ah.p (Hl O3 (by omega) (by omega) (by decide)) ?_ ?_;rotate_left
 ·rintro m O9 ⟨bn,h⟩;cases LE with
  | ok y=>exact h.elim
  | error e=>
    dsimp only at h iD;rw[h,iD];refine ae @mr ?_;exact⟨eG.trans bn,rfl⟩
 rintro m O4 ⟨bg,h⟩;cases LE with
 | error e=>exact h.elim
 | ok L=>
 dsimp only at h iD;obtain⟨tL,rfl⟩:=h;obtain⟨om,hLm⟩:=RZ rfl;have gR:=eG.trans bg;refine ae @mr ?_;refine VC.aB ?_;refine VC.bP [4,19] [1,17,18] (fun x:Nat×List Dp×Tok=>[.sl x.2.1.length (x.2.1.flatMap aQ) x.2.2,mi x.1]) (fun x O'=>O4.Ge O'/\App O' O4.next 8 x.2.2/\x.1<=L.length/\x.2.1.length=x.1/\PE=qV eu (L.drop x.1) x.2.1) (fun x=>L.length - x.1) ((0,[],.nil)) ?_ ?_
 ·exact⟨VH.Ge.refl _,trivial,Nat.zero_le _,rfl,iD⟩
 rintro⟨j,X,tk⟩ O5 ⟨bW,cH,hj,II,hP⟩;dsimp only at cH hj II hP ⊢;by_cases aX:j<L.length;rotate_left
 ·obtain rfl:j=L.length:=by omega
  rw[List.drop_of_length_le (Nat.le_refl _),qV]at hP;refine WC.sound aa (ae @mr ?_);exact aA.mk (X,tk) ⟨gR.trans bW,hP⟩
 have bA:((tF L).drop (j*5)).take 5=kx L[j].1 L[j].2:=cg Ej L j aX;have hL5:=wj L;rw[List.drop_eq_getElem_cons aX,qV]at hP;obtain⟨Zh,U8⟩:=hLm L[j] (List.getElem_mem aX);generalize L[j]=zz at*;obtain⟨z,wz⟩:=zz;dsimp only at Zh U8 hP bA;have zR:=fun O'=>agq z wz eu O' (by omega) (by simp only[List.length_cons,List.length_nil]at U8;omega)
 generalize En z wz eu=W1 at*;obtain⟨zn,za,cR,zt⟩:=z;simp only[kx,df,List.cons_append,List.nil_append]at bA zR;have gu:=bW.next;refine VC.ag aa (ae @mr ?_);refine VC.ag aa (ae @mr ?_);refine VC.bC (VC.aB ?_);refine VC.ag aa (ao @mr @bA ?_);refine VC.al ?_;rintro O6 ⟨fC,mG,ov⟩;have nW:=cH.ge fC;have LC:=bW.trans fC;refine WC.sound aa (ao @mr @mG ?_);refine ah.p (zR O6) ?_ ?_;rotate_left
 ·rintro m O9 ⟨bn,h⟩;cases W1 with
  | ok y=>exact h.elim
  | error e=>
    dsimp only at h hP;rw[h,hP];refine ae @mr ?_;exact⟨(gR.trans LC).trans bn,rfl⟩
 rintro m O7 ⟨fc,h⟩;cases W1 with
 | error e=>exact h.elim
 | ok d=>
 dsimp only at h hP;subst h;have jP:=nW.ge fc;have aeD:=LC.trans fc;have dd:((j:Int)+1)=((j+1:Nat):Int):=by omega
 have hud:cO (aQ d)=aQ d:=by simpa using kV [d]
 obtain⟨dg,da,dv,dt,dc,kD,dO,dx⟩:=d;have lW:(aQ ⟨dg,da,dv,dt,dc,kD,dO,dx⟩).length=8:=rfl;obtain⟨mE,fZ,kX⟩:=fR (n:=X.length) (cs:=X.flatMap aQ) (ds:=aQ ⟨dg,da,dv,dt,dc,kD,dO,dx⟩) (es:=aQ ⟨dg,da,dv,dt,dc,kD,dO,dx⟩) uP AH.1.1 jP (aT fX X) rfl rfl (by decide) (by omega) (by simp only[maxLen];omega) (kV X) hud;simp only[aQ,ar]at fZ kX ⊢;refine ae @mr ?_;refine VL.lh fZ kX ?_;refine ae @mr ?_;refine WC.sound aa (ao @mr @dd ?_);exact az.next (j+1,X++[⟨dg,da,dv,dt,dc,kD,dO,dx⟩],.own O7.next 8) ⟨cP.eo aeD jP (cP.after jP),App.after (by have:=aeD.next;omega),aX,by dsimp only;rw[List.length_append,II];rfl,hP⟩ (hl:=(by dsimp only;rw[List.flatMap_append,List.length_append];simp only[List.flatMap_cons,List.flatMap_nil,List.append_nil,aQ,ar];rfl))
set_option linter.defProp false in
def au:=And.intro bt<|And.intro aew<|And.intro ah3<|And.intro ah4<|And.intro ah6 ah2
def zS (e:Int) (off:Nat):MV:=.iface 385 (.agg [mi e,mi off])
theorem aii {p:MV}:Is 385 (fF Tryz.prog 385) (some p)=some (.iface 385 p):=by rw[aew.1.1];rfl
theorem il (e:Int) (off:Nat) (O:VH):VF Tryz.prog 311 [mi e,mi off] O fun r O'=>O'=O/\match r with
  | .ret _=>False
  | .panic m=>m=zS e off:=by
 refine VF.du 8 [] Tryz.func311 ?_;refine de @au @wi @wd @aii ?_;refine VL.panic rfl rfl rfl ?_;refine ae @wd ?_;rfl
def Rd (O:VH) (k:Nat) (t:Bs) (off:Nat) (X:MV):Prop:=k<O.next/\O.hp k=some (.cells [.str t,mi off,X])
theorem Rd.ge {O O':VH} {k off:Nat} {t:Bs} {X:MV} (h:Rd O k t off X) (g:O.Ge O'):Rd O' k t off X:=⟨Nat.lt_of_lt_of_le h.1 g.next,(g.hp _ h.1).trans h.2⟩
theorem Rd.set {O:VH} {k off off':Nat} {t t':Bs} {X X':MV} (h:Rd O k t off X):Rd (O.set k (.cells [.str t',mi off',X'])) k t' off' X':=⟨h.1,VH.an _ _ _⟩
theorem wq {O:VH} {k off:Nat} {t:Bs} {X:MV} (h:Rd O k t off X) (ho:off<=t.length):VF Tryz.prog 309 [.ptr k 0] O (aD fun m O'=>m= .str (t.drop off)/\O'=O):=by
 have hk:=h.2;simp only[ar]at hk;refine VF.bO 12 [.tmp 2] Tryz.func309 ?_;refine VC.ag aa (ae @au ?_);refine VC.bC ?_;refine WC.reads ?_;refine ao @au @hk ?_;refine WC.sound aa (ae @au ?_);trivial
theorem mZ {O:VH} {k off:Nat} {t:Bs} {X:MV} (h:Rd O k t off X):VF Tryz.prog 263 [.ptr k 0] O (aD fun m O'=>m=mb (decide (t.length<=off))/\O'=O):=by
 have hk:=h.2;simp only[ar]at hk;refine VF.bO 13 [.tmp 2] Tryz.func263 ?_;refine VC.ag aa (ae @au ?_);refine VC.bC ?_;refine WC.reads ?_;by_cases h1:t.length<=off
 ·rw[decide_eq_true h1];refine ao @au @hk ?_;refine WC.sound aa (ae @au ?_);trivial
 ·rw[decide_eq_false h1];refine ao @au @hk ?_;refine WC.sound aa (ae @au ?_);trivial
theorem pR {O:VH} {k off:Nat} {t:Bs} {X:MV} (p:Bs) (h:Rd O k t off X) (ho:off<=t.length):VF Tryz.prog 285 [.ptr k 0,.str p] O (aD fun m O'=>m=mb (dN (t.drop off) p)/\O'=O):=by
 refine VF.du 9 [.tmp 4] Tryz.func285 ?_;refine ae @au ?_;refine ah.rt (wq h ho) ?_;rintro _ O2 ⟨rfl,eO⟩;rw[eO];clear eO O2
 refine ae @au ?_;refine ah.rt (mY (t.drop off) p _) ?_;rintro _ O2 ⟨rfl,eO⟩;rw[eO];clear eO O2
 exact eW @au
def TQ {α :Type} (O:VH) (k:Nat) (t:Bs) (X:MV) (f:Except (Int×Nat) (α ×Nat)) (R: α ->MV->Prop):fL->VH->Prop:=fun r O'=>bq O (some k) O'/\match r,f with
 | .ret m,.ok x=>R x.1 m/\Rd O' k t x.2 X
 | .panic m,.error e=>m=zS e.1 e.2
 | _,_=>False
def iE (t:Bs) (off:Nat) (p:Bs):Except (Int×Nat) (Unit×Nat):=
 if t.length<=off then .error (13,off)else if dN (t.drop off) p then .ok ((),off+p.length)else .error (10,off)
theorem sP {O:VH} {k off:Nat} {t:Bs} {X:MV} (p:Bs) (h:Rd O k t off X) (ht:t.length<=1000000) (hp:p.length<=1000):VF Tryz.prog 290 [.ptr k 0,.str p] O (TQ O k t X (iE t off p) fun _ m=>m= .tuple []):=by
 have hk:=h.2;simp only[ar]at hk;unfold iE;refine VF.bO 37 [] Tryz.func290 ?_;refine VC.ag aa (ae @au ?_);refine ah.rt (mZ h) ?_;rintro _ O2 ⟨rfl,eO⟩;rw[eO];clear eO O2
 by_cases h1:t.length<=off
 ·rw[decide_eq_true h1,if_pos h1];refine ao @au @hk ?_;refine ah.p (il _ _ _) ?_ ?_
  ·rintro m O9 ⟨_,h⟩;exact h.elim
  rintro m O9 ⟨rfl,rfl⟩;refine ae @au ?_;exact⟨bq.refl _ _,rfl⟩
 rw[decide_eq_false h1,if_neg h1];refine ao @au @hk ?_;refine VC.ag aa (ao @au @hk ?_);refine ah.rt (pR p h (by omega)) ?_;rintro _ O2 ⟨rfl,eO⟩;rw[eO];clear eO O2
 cases h2:dN (t.drop off) p
 ·refine ao @au @hk ?_;refine ah.p (il _ _ _) ?_ ?_
  ·rintro m O9 ⟨_,h⟩;exact h.elim
  rintro m O9 ⟨rfl,rfl⟩;refine ae @au ?_;exact⟨bq.refl _ _,rfl⟩
 ·refine ao @au @hk ?_;refine WC.sound aa (ao @au @hk ?_);exact⟨bq.set,rfl,by simpa[ar]using h.set (t':=t) (off':=off+p.length) (X':=X)⟩
def jb (t:Bs) (off:Nat) (e:Int):Except (Int×Nat) (Bs×Nat):=
 if t.length<=off then .error (13,off)else if jN (t.drop off)=0 then .error (e,off)else .ok ((t.drop off).take (jN (t.drop off)),off+jN (t.drop off))
theorem zT {O:VH} {k off:Nat} {t:Bs} {X:MV} (e:Int) (h:Rd O k t off X) (ht:t.length<=1000000):VF Tryz.prog 288 [.ptr k 0,mi e] O (TQ O k t X (jb t off e) fun y m=>m= .str y):=by
 have hk:=h.2;have zN:=BU (t.drop off);rw[List.length_drop]at zN;have Cs:=ac1 (t.drop off) O (Nat.le_trans (by rw[List.length_drop];omega:(t.drop off).length<=1000000) (by decide));simp only[ar]at hk;unfold jb;generalize jN (t.drop off)=n at*;refine VF.bO 58 [.tmp 4] Tryz.func288 ?_;refine VC.ag aa (ae @au ?_);refine VC.ag aa (ae @au ?_);refine ah.rt (mZ h) ?_;rintro _ O2 ⟨rfl,eO⟩;rw[eO];clear eO O2
 by_cases h1:t.length<=off
 ·rw[decide_eq_true h1,if_pos h1];refine ao @au @hk ?_;refine ah.p (il _ _ _) ?_ ?_
  ·rintro m O9 ⟨_,h⟩;exact h.elim
  rintro m O9 ⟨rfl,rfl⟩;refine ae @au ?_;exact⟨bq.refl _ _,rfl⟩
 rw[decide_eq_false h1,if_neg h1];refine ao @au @hk ?_;refine VC.ag aa (ao @au @hk ?_);refine ah.rt (wq h (by omega)) ?_;rintro _ O2 ⟨rfl,eO⟩;rw[eO];clear eO O2
 refine ae @au ?_;refine ah.rt (Cs) ?_;rintro _ O2 ⟨rfl,eO⟩;rw[eO];clear eO O2
 refine ae @au ?_;by_cases h2:n=0
 ·rw[if_pos h2];refine VC.ag aa (aI @au @hk @h2 ?_);refine ah.p (il _ _ _) ?_ ?_
  ·rintro m O9 ⟨_,h⟩;exact h.elim
  rintro m O9 ⟨rfl,rfl⟩;refine ae @au ?_;exact⟨bq.refl _ _,rfl⟩
 rw[if_neg h2];refine VC.ag aa (ao @au @hk ?_);refine VC.ag aa (ao @au @hk ?_);have hr:Rd (O.set k (.cells [.str t,mi (off+n:Nat),X])) k t (off+n) X:=h.set;have bR:=hr.2;have hu:bq O (some k) (O.set k (.cells [.str t,mi (off+n:Nat),X])):=bq.set;have kF:(off:Int)+(n:Int)=((off+n:Nat):Int):=by omega
 simp only[ar, <-kF]at hr bR hu;generalize O.set k (.cells [.str t,.v (.int .i64 ((off:Int)+(n:Int))),X])=O2 at*;have Zn:(off:Int)+(n:Int) - (n:Int)=(off:Int):=by omega
 have qW:((off:Int)+(n:Int)).toNat=off+n:=by omega
 refine VC.bC ?_;refine WC.reads ?_;refine de @au @bR @Zn @qW ?_;refine WC.sound aa (ae @au ?_);exact⟨hu,by rw[show off+n - off=n by omega],hr⟩
def j5 (t:Bs) (off:Nat):Nat:=((t.drop off).takeWhile lJ).length
theorem pS {O:VH} {k off:Nat} {t:Bs} {X:MV} (h:Rd O k t off X) (ht:t.length<=1000000) (ho:off<=t.length):VF Tryz.prog 289 [.ptr k 0] O (TQ O k t X (.ok (j5 t off,off+j5 t off)) fun y m=>m=mi y):=by
 have hk:=h.2;simp only[ar]at hk;refine VF.bO 44 [.tmp 2] Tryz.func289 ?_;refine VC.ag aa (ae @au ?_);refine VC.ag aa (ao @au @hk ?_);refine VC.bJ [0,3] (fun _:Unit=>[.ptr k 0,mi off]) (fun _ O'=>bq O (some k) O'/\Rd O' k t (off+j5 t off) X) ?_ ?_;rotate_left
 ·rintro⟨⟩ O2 ⟨hu,hr⟩;have bR:=hr.2;have Zn:((off+j5 t off:Nat):Int) - (off:Int)=(j5 t off:Int):=by omega
  have uR:j5 t off<=t.length:=by unfold j5;exact Nat.le_trans (nN _ _) (by rw[List.length_drop];omega)
  generalize j5 t off=n at*;simp only[ar]at bR;refine VC.ag aa (aI @au @bR @Zn ?_);refine WC.sound aa (ae @au ?_);exact⟨hu,rfl,hr⟩
 refine VC.aB ?_;refine VC.bP [] [0,3] (fun o:Nat=>[]) (fun o O'=>bq O (some k) O'/\Rd O' k t o X/\off<=o/\o<=t.length/\off+j5 t off=o+j5 t o) (fun o=>t.length - o) (off) ?_ ?_
 ·exact⟨bq.refl _ _,h,Nat.le_refl _,ho,rfl⟩
 rintro o O2 ⟨hu,hr,Pw,Px,uR⟩;have bR:=hr.2;simp only[ar]at bR;by_cases h1:t.length<=o
 ·have h0:j5 t o=0:=by unfold j5;rw[List.drop_of_length_le h1];rfl
  rw[h0,Nat.add_zero]at uR;refine VC.bC (VC.bC ?_);refine VC.lY [4,5,6,7,8,9,10,11,12,13,14,15,16,17,18] ?_;refine ab.av 0 ?_;refine ae @au ?_;refine ab.av 1 ?_;refine ae @au ?_;refine ab.av 2 ?_;refine ae @au ?_;refine ab.call (i:=3) (mZ hr) ?_;rintro _ O3 ⟨rfl,eO⟩;simp only[aj];rw[eO];clear eO O3
  rw[decide_eq_true h1];refine⟨VH.Ge.refl _,?_⟩;refine ab.bH [(4,.av),(5,.av),(6,.av),(7,.av),(8,.av),(9,.av),(10,.av),(11,.av),(12,.av),(13,.av),(14,.av),(15,.av),(16,.av),(17,.av),(18,.av)] ?_;refine ae @au ?_;refine WC.sound aa (ae @au ?_);exact aA.mk () ⟨hu,uR▸hr⟩
 ·have h2:o<t.length:=by omega
  have hg:=List.getElem?_eq_getElem h2;have hd:=List.drop_eq_getElem_cons h2
  have rM:j5 t o=if lJ t[o]then 1+j5 t (o+1)else 0:=by
   unfold j5;rw[hd];cases hb:lJ t[o]
   ·rw[List.takeWhile_cons_of_neg (by simp[hb])];rfl
   ·rw[List.takeWhile_cons_of_pos hb,List.length_cons,if_pos rfl,Nat.add_comm]
  generalize t[o]=c at*;refine VC.bC (VC.bC ?_);refine VC.lY [] ?_;refine ab.av 0 ?_;refine ae @au ?_;refine ab.av 1 ?_;refine ae @au ?_;refine ab.av 2 ?_;refine ae @au ?_;refine ab.call (i:=3) (mZ hr) ?_;rintro _ O3 ⟨rfl,eO⟩;simp only[aj];rw[eO];clear eO O3
  rw[decide_eq_false h1];refine⟨VH.Ge.refl _,?_⟩;refine ab.av 4 ?_;refine ae @au ?_;refine ab.av 5 ?_;refine ae @au ?_;refine ab.av 6 ?_;refine ae @au ?_;refine ab.av 7 ?_;refine ae @au ?_;refine ab.av 8 ?_;refine ae @au ?_;refine ab.av 9 ?_;refine ae @au ?_;refine ab.ld (m:=.str t) 10 ?_ ?_
  ·exact c9 @au @bR
  simp only[aj];refine ab.av 11 ?_;refine ae @au ?_;refine ab.av 12 ?_;refine ae @au ?_;refine ab.av 13 ?_;refine ae @au ?_;refine ab.av 14 ?_;refine ae @au ?_;refine ab.ld (m:=.v (.int .i64 o)) 15 ?_ ?_
  ·exact c9 @au @bR
  simp only[aj];refine ab.av 16 ?_;refine ao @au @hg ?_;refine ab.call (i:=17) (pE c _) ?_;rintro _ O3 ⟨rfl,eO⟩;simp only[aj];rw[eO];clear eO O3
  refine⟨VH.Ge.refl _,?_⟩;refine ab.av 18 ?_;refine ae @au ?_;refine ab.bH [] ?_;cases hb:lJ c
  ·rw[hb,if_neg (by simp)]at rM;rw[rM,Nat.add_zero]at uR;refine ae @au ?_;refine WC.sound aa (ae @au ?_);exact aA.mk () ⟨hu,uR▸hr⟩
  ·rw[hb,if_pos rfl]at rM;refine ae @au ?_;refine WC.sound aa (ae @au ?_);refine WC.sound aa (ao @au @bR ?_);exact az.next (o+1) ⟨hu.trans bq.set,by simpa[ar]using hr.set (t':=t) (off':=o+1) (X':=X),by omega,h2,by omega⟩
set_option linter.defProp false in
def dP:=And.intro au T69
theorem Et (s:List UInt8) (c:UInt8) (O:VH):ey Tryz.prog 107 [.str s,fB c] O fun m O'=>m=mi (s.count c:Nat)/\O'=O:=by
 refine ey.of (ex:=Extern.BytealgCount.count) Tryz.func107 (by kernel_rfl) (by kernel_rfl) (by kernel_rfl) (by kernel_rfl) fun G w vs hw hv=>?_
 obtain⟨u,us,rfl,h1,h2⟩:=hv.cB;obtain⟨u2,Po,rfl,h3,h4⟩:=h2.cB;rw[h4.fw];cases h1;have:=h3.iw;subst this;refine⟨_,Lib.run_countString _ _ w,?_⟩;have e:((c.toNat:Int).toNat).toUInt8=c:=by simp
 rw[e];exact .v rfl
theorem U9 (s:List UInt8) (c:UInt8) (O:VH):VF Tryz.prog 80 [.str s,.str [c]] O (aD fun m O'=>m=mi (s.count c:Nat)/\O'=O):=by
 refine VF.du 34 [.tmp 4] Tryz.func80 ?_;refine aI @au @List.length_cons.{0} @List.length_nil.{0} ?_;refine ah.ext (Et s c O) rfl ?_;rintro _ O2 ⟨rfl,eO⟩;rw[eO];clear eO O2
 exact eW @au
def fE (s:Bs) (c:UInt8):Nat->Int
 | 0=> -1
 | n+1=>if s[n]?=some c then(n:Int)else fE s c n
theorem Eu (s:Bs) (c:UInt8):∀n, -1<=fE s c n/\fE s c n<n
 | 0=>by simp[fE]
 | n+1=>by
   have:=Eu s c n;unfold fE;split<;>omega
theorem m4 (s:List UInt8) (c:UInt8) (O:VH) (hs:s.length<=1000000):VF Tryz.prog 293 [.str s,fB c] O (aD fun m O'=>m=mi (fE s c s.length)/\O'=O):=by
 refine VF.du 19 [.tmp 4] Tryz.func293 ?_;refine ae @au ?_;refine WC.iA [5] [0,1] (fun j:Nat=>[mi ((j:Int) - 1)]) (fun j O'=>O'=O/\j<=s.length/\fE s c s.length=fE s c j) (fun j=>j) (s.length) ?_ ?_
 ·exact⟨rfl,Nat.le_refl _,rfl⟩
 rintro j O2 ⟨eO,hj,hl⟩;rw[eO];clear eO O2
 rcases j with _ | n
 ·refine ae @au ?_;rw[hl];rfl
 have hg:=List.getElem?_eq_getElem (show n<s.length by omega);have qW:(((n+1:Nat):Int) - 1).toNat=n:=by omega
 rw[show fE s c (n+1)=if s[n]?=some c then(n:Int)else fE s c n from rfl,hg]at hl;generalize hx:s[n]=d at*;by_cases hd:d=c
 ·rw[hd]at hl hg;rw[if_pos rfl]at hl;refine de @au @hg @qW @aE ?_;rw[hl]
 ·have jV:¬((d.toNat:Int)=(c.toNat:Int)):=fun e=>hd (UInt8.toNat_inj.1 (by omega))
  rw[if_neg (by simpa using hd)]at hl;refine gW @au @hg @qW @aE @jV ?_;refine az.next (n) ?_;exact⟨rfl,by omega,hl⟩
theorem FY (s:List UInt8) (c:UInt8) (O:VH) (hs:s.length<=1000000):VF Tryz.prog 270 [.str s,.str [c]] O (aD fun m O'=>m=mi (fE s c s.length)/\O'=O):=by
 refine VF.du 36 [.tmp 4] Tryz.func270 ?_;refine aI @au @List.length_cons.{0} @List.length_nil.{0} ?_;refine ah.rt (m4 s c O hs) ?_;rintro _ O2 ⟨rfl,eO⟩;rw[eO];clear eO O2
 exact eW @au
theorem AP (s:List UInt8) (c:UInt8) (O:VH) (hs:s.length<=1000000):VF Tryz.prog 265 [.str s,fB c] O (aD fun m O'=>m=mi (fE s c s.length)/\O'=O):=by
 refine VF.du 8 [.tmp 4] Tryz.func265 ?_;refine ae @au ?_;refine ah.rt (m4 s c O hs) ?_;rintro _ O2 ⟨rfl,eO⟩;rw[eO];clear eO O2
 exact eW @au
def oS (t:Bs) (o:Nat):MV:=.agg [mi o,mi (1+((t.take o).count 10:Nat)),mi ((o:Int) - fE (t.take o) 10 (t.take o).length)]
theorem aeE (t:Bs) (o:Nat) (O:VH) (ht:t.length<=1000000) (ho:o<=t.length):VF Tryz.prog 246 [.str t,mi o] O (aD fun m O'=>m=oS t o/\O.Ge O'):=by
 have hb:=Eu (t.take o) 10 (t.take o).length;have hc:=List.count_le_length (a:=(10:UInt8)) (l:=t.take o);have eg:(t.take o).length<=1000000:=by rw[List.length_take];omega
 unfold oS;refine VF.du 23 [.cell 4 69] Tryz.func246 ?_;have hmx:max (0:Int) (min (o:Int) ((t:List UInt8).length:Int))=(o:Int):=by omega
 have qW:((o:Int)).toNat=o:=by omega
 refine aI @dP @hmx @qW ?_;refine ah.rt (U9 (t.take o) 10 _) ?_;rintro _ O2 ⟨rfl,eO⟩;rw[eO];clear eO O2
 refine ae @dP ?_;refine ah.rt (FY (t.take o) 10 _ eg) ?_;rintro _ O2 ⟨rfl,eO⟩;rw[eO];clear eO O2
 generalize fE (t.take o) 10 (t.take o).length=a at*;generalize (t.take o).count 10=b at*;refine ae @dP ?_;first | exact(VH.Ge.refl O).push _ | exact((VH.Ge.refl O).push _).set (Nat.le_refl _) _
open Go.Shelf
def Tryz.zU:Go.Shelf.Ren:=⟨fun | 156=>57 | 165=>79 | 166=>65 | 169=>68 | 240=>85 | 241=>105 | 276=>113 | 277=>138 | n=>n,fun | 31=>51 | 9=>9 | 3=>3 | 4=>4 | 0=>0 | 20=>20 | 72=>145 | 76=>149 | 70=>142 | 37=>143 | 75=>148 | 127=>189 | 164=>210 | 5=>5 | 80=>156 | n=>n,fun | n=>n⟩
theorem Tryz.LK:Go.Proofs.Lays.n156 Tryz.prog Tryz.zU:={
 mixed:=by kernel_rfl
 f156:=Tryz.func57.trans (congrArg some (by kernel_rfl))
 f165:=Tryz.func79.trans (congrArg some (by kernel_rfl))
 f166:=Tryz.func65.trans (congrArg some (by kernel_rfl))
 f169:=Tryz.func68.trans (congrArg some (by kernel_rfl))
 f240:=Tryz.func85.trans (congrArg some (by kernel_rfl))
 f241:=Tryz.func105.trans (congrArg some (by kernel_rfl))
 f276:=Tryz.func113.trans (congrArg some (by kernel_rfl))
 f277:=Tryz.func138.trans (congrArg some (by kernel_rfl))
 t0:=Tryz.underlying0
 a0:=Tryz.isAgg0
 z0:=Tryz.sizeOf0
 v0:=Tryz.zeroValue0
 t3:=Tryz.underlying3
 a3:=Tryz.isAgg3
 z3:=Tryz.sizeOf3
 v3:=Tryz.zeroValue3
 t4:=Tryz.underlying4
 a4:=Tryz.isAgg4
 z4:=Tryz.sizeOf4
 v4:=Tryz.zeroValue4
 t9:=Tryz.underlying9
 a9:=Tryz.isAgg9
 z9:=Tryz.sizeOf9
 v9:=Tryz.zeroValue9
 t20:=Tryz.underlying20
 a20:=Tryz.isAgg20
 z20:=Tryz.sizeOf20
 v20:=Tryz.zeroValue20
 t31:=Tryz.underlying51
 a31:=Tryz.isAgg51
 z31:=Tryz.sizeOf51
 v31:=Tryz.zeroValue51
 t37:=Tryz.underlying143
 a37:=Tryz.isAgg143
 z37:=Tryz.sizeOf143
 v37:=Tryz.zeroValue143
 t70:=Tryz.underlying142
 a70:=Tryz.isAgg142
 z70:=Tryz.sizeOf142
 v70:=Tryz.zeroValue142
 t72:=Tryz.underlying145
 a72:=Tryz.isAgg145
 z72:=Tryz.sizeOf145
 v72:=Tryz.zeroValue145
 t75:=Tryz.underlying148
 a75:=Tryz.isAgg148
 z75:=Tryz.sizeOf148
 v75:=Tryz.zeroValue148
 t76:=Tryz.underlying149
 a76:=Tryz.isAgg149
 z76:=Tryz.sizeOf149
 v76:=Tryz.zeroValue149
 t127:=Tryz.underlying189
 a127:=Tryz.isAgg189
 z127:=Tryz.sizeOf189
 v127:=Tryz.zeroValue189
 t164:=Tryz.underlying210
 a164:=Tryz.isAgg210
 z164:=Tryz.sizeOf210
 v164:=Tryz.zeroValue210}
theorem Tryz.pU:Builder.Extra Tryz.prog Tryz.zU:={
 sizeBuilder:=by kernel_rfl
 liesBuilder:=by kernel_rfl
 t5:=Tryz.underlying5
 a5:=Tryz.isAgg5
 z5:=Tryz.sizeOf5
 v5:=Tryz.zeroValue5
 infoByte:=by kernel_rfl
 cellsByte:=by kernel_rfl
 sizeByte:=by kernel_rfl
 neB5:=by decide}
open Go.RowKit in
theorem Tryz.strings_Join_none (a:Option Addr) (c:Nat) (sep:ByteArray) (w:World):
  Calls Tryz.prog 57 #[.slice a 0 c,.string sep] w fun e w'=>e= .returned (.string ⟨#[]⟩)/\w'=w:=Any.strings_Join_none Tryz.LK Tryz.pU a c sep w
theorem Tryz.strings_Join (bk o c:Nat) (xs:List ByteArray) (sep:ByteArray) (w:World) (sj:∀(j:Nat) x,xs[j]?=some x->w.cell? ⟨bk,o+j,none⟩=some (.string x)) (rJ:bk<w.heap.size) (hN:xs.length<=140737488355328) (aij:xs.length<=c) (hlen:(Lib.join (xs.map (·.data.toList)) sep.data.toList).length<=140737488355328):
  Calls Tryz.prog 57 #[.slice (some ⟨bk,o,none⟩) xs.length c,.string sep] w fun e w'=>e= .returned (.string ⟨(Lib.join (xs.map (·.data.toList)) sep.data.toList).toArray⟩)/\Below w.heap.size w w':=Any.strings_Join Tryz.LK Tryz.pU bk o c xs sep w sj rJ hN aij hlen
def Tryz.IP:Go.Shelf.Ren:=⟨fun | 143=>81 | 219=>108 | 217=>139 | 225=>140 | 224=>141 | 267=>142 | 266=>169 | 314=>170 | n=>n,fun | 9=>9 | 3=>3 | 4=>4 | 5=>5 | 46=>202 | 146=>246 | 51=>128 | n=>n,fun | 1=>0 | n=>n⟩
theorem Tryz.Zo:Go.Proofs.Lays.n143 Tryz.prog Tryz.IP:={
 mixed:=by kernel_rfl
 f143:=Tryz.func81.trans (congrArg some (by kernel_rfl))
 f217:=Tryz.func139.trans (congrArg some (by kernel_rfl))
 f219:=Tryz.func108.trans (congrArg some (by kernel_rfl))
 f224:=Tryz.func141.trans (congrArg some (by kernel_rfl))
 f225:=Tryz.func140.trans (congrArg some (by kernel_rfl))
 f266:=Tryz.func169.trans (congrArg some (by kernel_rfl))
 f267:=Tryz.func142.trans (congrArg some (by kernel_rfl))
 f314:=Tryz.func170.trans (congrArg some (by kernel_rfl))
 t3:=Tryz.underlying3
 a3:=Tryz.isAgg3
 z3:=Tryz.sizeOf3
 v3:=Tryz.zeroValue3
 t4:=Tryz.underlying4
 a4:=Tryz.isAgg4
 z4:=Tryz.sizeOf4
 v4:=Tryz.zeroValue4
 t5:=Tryz.underlying5
 a5:=Tryz.isAgg5
 z5:=Tryz.sizeOf5
 v5:=Tryz.zeroValue5
 t9:=Tryz.underlying9
 a9:=Tryz.isAgg9
 z9:=Tryz.sizeOf9
 v9:=Tryz.zeroValue9
 t46:=Tryz.underlying202
 a46:=Tryz.isAgg202
 z46:=Tryz.sizeOf202
 v46:=Tryz.zeroValue202
 t51:=Tryz.underlying128
 a51:=Tryz.isAgg128
 z51:=Tryz.sizeOf128
 v51:=Tryz.zeroValue128
 t146:=Tryz.underlying246
 a146:=Tryz.isAgg246
 z146:=Tryz.sizeOf246
 v146:=Tryz.zeroValue246
 g1:=by kernel_rfl}
open Go.RowKit Go.Lib in
theorem Tryz.strings_Index (s sub:ByteArray) (m:Int) (w:World) (hs:s.size<4294967281) (hm:w.cell? ⟨0,0,none⟩=some (.int .i64 m)):
  Calls Tryz.prog 81 #[.string s,.string sub] w fun e w'=>e= .returned (.int .i64 (Lib.index s.data.toList sub.data.toList))/\w'=w:=Any.strings_Index Tryz.Zo s sub m w hs hm
theorem LN (s p:List UInt8) (O:VH) (hs:s.length<4294967281):VF Tryz.prog 81 [.str s,.str p] O (aD fun m O'=>m=mi (Lib.index s p)/\O'=O):=by
 intro G w vs hw hv;obtain⟨u,us,rfl,h1,h2⟩:=hv.cB;obtain⟨u2,Po,rfl,h3,h4⟩:=h2.cB;rw[h4.fw];cases h1;cases h3;obtain⟨m,hm⟩:=hw.ad6 (g:=0) (by decide);refine(Tryz.strings_Index ⟨⟨s⟩⟩ ⟨⟨p⟩⟩ m w hs hm).mono fun e w' ⟨he,qM⟩=>?_
 subst qM;subst he
 exact⟨.ret (mi (Lib.index s p)),O,G,Gh.Le.refl G,hw,.v rfl,rfl,rfl⟩
theorem index_le:∀(s p:Bs),Lib.index s p<=(s.length:Int)
 | [],p=>by unfold Lib.index;split<;>simp
 | b::l,p=>by
   have:=index_le l p;unfold Lib.index;rw[List.length_cons];split
   ·omega
   ·split<;>omega
theorem Zp {f:UInt8->Bool}:∀(s:Bs) (j:Nat) (c:UInt8),s[j]?=some c->j<=(s.takeWhile f).length->if f c then j+1<=(s.takeWhile f).length else(s.takeWhile f).length=j
 | [],j,c,hj,_=>by simp at hj
 | d::s,0,c,hj,_=>by
   simp only[List.getElem?_cons_zero,Option.some.injEq]at hj;subst hj;cases h:f d<;>simp[List.takeWhile,h]
 | d::s,j+1,c,hj,h=>by
   rw[List.getElem?_cons_succ]at hj;cases hc:f d
   ·rw[List.takeWhile_cons_of_neg (by simp[hc])]at h;simp at h
   ·rw[List.takeWhile_cons_of_pos hc,List.length_cons]at h ⊢;have:=Zp (f:=f) s j c hj (by omega);cases Kt:f c
    ·simp only[Kt,Bool.false_eq_true,if_false]at this ⊢;omega
    ·simp only[Kt,if_true]at this ⊢;omega
def pW (s p:Bs):Bs:=if 0<=Lib.index s p then s.take (Lib.index s p).toNat else s
def iO (t:Bs) (o:Nat) (p:Bs):Except (Int×Nat) (Bs×Nat):=
 if((pW (t.drop o) p).takeWhile mh).length<(pW (t.drop o) p).length then .error (10,o+((pW (t.drop o) p).takeWhile mh).length)
 else if Lib.index (t.drop o) p<0 then .error (13,t.length)else .ok (pW (t.drop o) p,o+(Lib.index (t.drop o) p).toNat+p.length)
theorem Ev {O:VH} {k off:Nat} {t:Bs} {X:MV} (fr p:Bs) (h:Rd O k t off X) (ht:t.length<=1000000) (hp:p.length<=1000) (ho:off+fr.length<=t.length):
  VF Tryz.prog 286 [.ptr k 0,.str fr,.str p] O (TQ O k t X (iO t (off+fr.length) p) fun y m=>m= .str y):=by
 have hk:=h.2;have hr:Rd (O.set k (.cells [.str t,mi (off+fr.length:Nat),X])) k t (off+fr.length) X:=h.set;have hu:bq O (some k) (O.set k (.cells [.str t,mi (off+fr.length:Nat),X])):=bq.set;have kF:(off:Int)+(fr.length:Int)=((off+fr.length:Nat):Int):=by omega
 simp only[ar, <-kF]at hk hr hu;refine VF.bO 78 [.tmp 6] Tryz.func286 ?_;refine VC.ag aa (ae @au ?_);refine VC.ag aa (ao @au @hk ?_);generalize O.set k (.cells [.str t,.v (.int .i64 ((off:Int)+(fr.length:Int))),X])=O2 at*;generalize hoo:off+fr.length=o at*;have bR:=hr.2;simp only[ar]at bR;unfold iO;refine VC.ag aa (ae @au ?_);refine ah.rt (wq hr ho) ?_;rintro _ O3 ⟨rfl,eO⟩;rw[eO];clear eO O3
 refine ae @au ?_;refine ah.rt (LN (t.drop o) p _ (by rw[List.length_drop];omega)) ?_;rintro _ O3 ⟨rfl,eO⟩;rw[eO];clear eO O3
 refine ae @au ?_;refine VC.ag aa (ae @au ?_);refine ah.rt (wq hr ho) ?_;rintro _ O3 ⟨rfl,eO⟩;rw[eO];clear eO O3
 refine ae @au ?_;have c5:=Lib.index_ge (t.drop o) p;have iB:Lib.index (t.drop o) p<=((t.drop o).length:Int):=index_le _ _;have iu:pW (t.drop o) p=if 0<=Lib.index (t.drop o) p then(t.drop o).take (Lib.index (t.drop o) p).toNat else t.drop o:=rfl
 have Cr:(pW (t.drop o) p).length<=1000000:=by
  rw[iu];split
  ·rw[List.length_take,List.length_drop];omega
  ·rw[List.length_drop];omega
 generalize pW (t.drop o) p=s at*;generalize Lib.index (t.drop o) p=n at*;refine VC.bJ [0,2,7,8] (fun _:Unit=>[.ptr k 0,.str p,.v (.int .i64 n),.str s]) (fun _ O'=>O'=O2) ?_ ?_
 ·rw[List.length_drop]at iB;by_cases h0:0<=n
  ·rw[if_pos h0]at iu;subst iu;obtain⟨N,rfl⟩:=Int.eq_ofNat_of_zero_le h0;have hN:N<=(t.drop o).length:=by rw[List.length_drop];omega
   have qW:(N:Int).toNat=N:=rfl;refine ae @au ?_;refine WC.sound aa (ao @au @qW ?_);exact aA.mk () rfl
  ·rw[if_neg h0]at iu;subst iu;refine ao @au @h0 ?_;refine WC.sound aa (ae @au ?_);exact aA.mk () rfl
 rintro⟨⟩ O3 eO;rw[eO];clear eO O3
 refine VC.ag aa (ae @au ?_);clear iu;have htw:=nN mh s;refine VC.bP [38] [0,2,7,8,37] (fun j:Nat=>[mi j]) (fun j O'=>O'=O2/\j<=s.length/\j<=(s.takeWhile mh).length) (fun j=>s.length - j) (0) ?_ ?_
 ·exact⟨rfl,Nat.zero_le _,Nat.zero_le _⟩
 rintro j O3 ⟨eO,hj,hjt⟩;rw[eO];clear eO O3
 by_cases h1:j<s.length
 ·have hg:=List.getElem?_eq_getElem h1;have dB:=Zp (f:=mh) s j _ hg hjt;generalize s[j]=c at*;cases hc:mh c
  ·rw[hc,if_neg (by simp)]at dB;rw[if_pos (by omega),dB];refine VC.ag aa (ae @au ?_);refine VC.ag aa (ae @au ?_);refine VC.ag aa (ao @au @hg ?_);refine ah.rt (we c _) ?_;rintro _ O3 ⟨rfl,eO⟩;rw[eO];clear eO O3
   rw[hc];refine ao @au @bR ?_;refine ah.p (il 10 (o+j) _) ?_ ?_
   ·rintro m O9 ⟨_,h⟩;exact h.elim
   rintro m O9 ⟨rfl,rfl⟩;refine ae @au ?_;exact⟨hu,rfl⟩
  ·rw[hc,if_pos rfl]at dB;refine VC.ag aa (ae @au ?_);refine VC.ag aa (ae @au ?_);refine VC.ag aa (ao @au @hg ?_);refine ah.rt (we c _) ?_;rintro _ O3 ⟨rfl,eO⟩;rw[eO];clear eO O3
   rw[hc];refine ao @au @bR ?_;refine WC.sound aa (ae @au ?_);exact az.next (j+1) ⟨rfl,h1,dB⟩
 ·have aX:j=s.length:=by omega
  subst aX;refine VC.ag aa (ae @au ?_);refine WC.sound aa (ae @au ?_);rw[if_neg (by omega)];by_cases h2:n<0
  ·rw[if_pos h2];refine VC.ag aa (ao @au @bR ?_);refine ah.p (il 13 t.length _) ?_ ?_
   ·rintro m O9 ⟨_,h⟩;exact h.elim
   rintro m O9 ⟨rfl,rfl⟩;refine ae @au ?_;exact⟨hu,rfl⟩
  ·rw[if_neg h2];refine VC.ag aa (ao @au @bR ?_);have h3:(n.toNat:Int)=n:=by omega
   have h4:n<=1000000:=by rw[List.length_drop]at iB;omega
   refine VC.ag aa (ao @au @bR ?_);refine WC.sound aa (ae @au ?_);have eE:(o:Int)+(n+(p.length:Int))=((o+n.toNat+p.length:Nat):Int):=by omega
   rw[eE];exact⟨hu.trans bq.set,rfl,by simpa[ar]using hr.set (t':=t) (off':=o+n.toNat+p.length) (X':=X)⟩
def qX (s:Bs):Bool:=dN s [60,63,120,109,108]&&decide (5<s.length)&&(lJ (s.getD 5 0)||s.getD 5 0==63)
theorem U_ {O:VH} {k off:Nat} {t:Bs} {X:MV} (h:Rd O k t off X) (ht:t.length<=1000000) (ho:off<=t.length):VF Tryz.prog 287 [.ptr k 0] O (aD fun m O'=>m=mb (qX (t.drop off))/\O'=O):=by
 unfold qX;refine VF.du 25 [.tmp 2] Tryz.func287 ?_;refine ae @au ?_;refine ah.rt (wq h ho) ?_;rintro _ O2 ⟨rfl,eO⟩;rw[eO];clear eO O2
 have hl:(t.drop off).length<=1000000:=by rw[List.length_drop];omega
 generalize t.drop off=s at*;refine ae @au ?_;refine ah.rt (mY s [60,63,120,109,108] _) ?_;rintro _ O2 ⟨rfl,eO⟩;rw[eO];clear eO O2
 cases h1:dN s [60,63,120,109,108]
 ·exact eW @au
 by_cases h2:5<s.length
 ·have hg:=List.getElem?_eq_getElem h2;have hd:s.getD 5 0=s[5]:=by simp[List.getD,hg]
  rw[decide_eq_true h2,hd];generalize s[5]=c at*;refine ao @au @hg ?_;refine ah.rt (pE c _) ?_;rintro _ O2 ⟨rfl,eO⟩;rw[eO];clear eO O2
  cases h3:lJ c
  ·by_cases h4:c=63
   ·subst h4;refine aI @au @hg @aE ?_;rfl
   ·have h5:¬((c.toNat:Int)=63):=fun e=>h4 (UInt8.toNat_inj.1 (by simpa using(by omega:c.toNat=63)))
    rw[show(c==63)=false by simpa using h4];exact kt4 @au @hg @aE @h5
  ·exact eW @au
 ·rw[decide_eq_false h2];exact eW @au
end Go.Proofs.YtoclnkfdahmnhaaGreatDoor
