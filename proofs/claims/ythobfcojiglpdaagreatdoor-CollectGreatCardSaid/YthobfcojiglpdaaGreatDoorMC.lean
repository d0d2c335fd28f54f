import Derived.Test.YthobfcojiglpdaaGreatDoorMB
import Derived.Shelf.Strings.Search3
import Derived.Shelf.Strings.OnBuilder
import Derived.Test.YthobfcojiglpdaaGreatDoorProg
import Derived.Laws.Cover4
set_option linter.unusedVariables false
set_option linter.unusedSimpArgs false
namespace Go.Proofs.YthobfcojiglpdaaGreatDoor
open Go.RowKit
set_option maxRecDepth 10000
set_option linter.defProp false in
def fb:=And.intro T9<|And.intro T3<|And.intro T4<|And.intro T5 pY
def kU (c:UInt8):Bool:=decide (c.toNat=32\/c.toNat=9\/c.toNat=10\/c.toNat=13)
def kG (c:UInt8):Bool:=decide ((65<=c.toNat/\c.toNat<=90)\/(97<=c.toNat/\c.toNat<=122)\/c.toNat=95)
def Ha (c:UInt8):Bool:=decide (c.toNat=46\/c.toNat=45\/c.toNat=58)
def lF (c:UInt8):Bool:=decide (32<=c.toNat\/c.toNat=9\/c.toNat=10\/c.toNat=13)
theorem oW (c:UInt8) (O:VH):VF Tryz.prog 165 [eV c] O (aL fun m O'=>m=mb (kU c)/\O'=O):=by
 have hc:=c.toNat_lt;refine VF.db 17 [.tmp 2] Tryz.func165 ?_;rcases(show c.toNat=32\/c.toNat=9\/c.toNat=10\/c.toNat=13\/(c.toNat≠32/\c.toNat≠9/\c.toNat≠10/\c.toNat≠13)from by omega)with h | h | h | h | ⟨h1,h2,h3,h4⟩
 ·refine ao @fb @aE ?_;simp[kU,h]
 ·refine ao @fb @aE ?_;simp[kU,h]
 ·refine ao @fb @aE ?_;simp[kU,h]
 ·refine ao @fb @aE ?_;simp[kU,h]
 ·refine ao @fb @aE ?_;simp[kU,h1,h2,h3,h4]
theorem IF (f:FuncId) (p:UInt8->Bool) (s:List UInt8) (O:VH) (hs:s.length<=maxLen) (hf:∀c O,VF Tryz.prog f [eV c] O (aL fun m O'=>m=mb (p c)/\O'=O)) (hb:dk Tryz.prog f=true):
  VF Tryz.prog 164 [.str s,.func (.func f) [] []] O (aL fun m O'=>m=mi (s.takeWhile p).length/\O'=O):=by
 have hm:(s.length:Int)<=9223372036854775807:=by simp[maxLen]at hs;omega
 refine VF.db 20 [.tmp 4] Tryz.func164 ?_;refine ae @fb ?_;refine WC.iw [5] [0,1] (fun j:Nat=>[mi j]) (fun j O'=>O'=O/\j<=s.length/\(s.takeWhile p).length=j+((s.drop j).takeWhile p).length) (fun j=>s.length - j) (0) ?_ ?_
 ·exact⟨rfl,Nat.zero_le _,by simp⟩
 rintro j O2 ⟨rfl,hj,hw⟩;by_cases h2:j<s.length
 ·have hg:=List.getElem?_eq_getElem h2;have hd:=List.drop_eq_getElem_cons h2;generalize s[j]=c at*;refine ao @fb @hg ?_;refine ah.rt (hf c _) ?_ (hb:=hb);rintro _ O3 ⟨rfl,rfl⟩;cases hp:p c
  ·refine ao @fb @hg ?_;rw[hw,hd,List.takeWhile_cons_of_neg (by simp[hp])];trivial
  ·refine ao @fb @hg ?_;refine aD.next (j+1) ?_;refine⟨rfl,by omega,?_⟩;rw[hw,hd,List.takeWhile_cons_of_pos hp,List.length_cons];omega
 ·refine ae @fb ?_;rw[hw,List.drop_of_length_le (by omega)];trivial
def IG (p:UInt8->Bool) (l:List UInt8):List UInt8:=(l.reverse.dropWhile p).reverse
theorem UH (p:UInt8->Bool) (l:List UInt8) (a:UInt8):IG p (l++[a])=if p a then IG p l else l++[a]:=by
 unfold IG;rw[List.reverse_append,List.reverse_singleton,List.singleton_append,List.dropWhile_cons];cases p a<;>simp
def trimB (s:List UInt8):List UInt8:=IG kU (s.dropWhile kU)
theorem Lp (p:UInt8->Bool):∀s:List UInt8,s.drop (s.takeWhile p).length=s.dropWhile p
 | []=>rfl
 | c::s=>by
   cases h:p c
   ·rw[List.takeWhile_cons_of_neg (by simp[h]),List.dropWhile_cons_of_neg (by simp[h])];rfl
   ·rw[List.takeWhile_cons_of_pos h,List.dropWhile_cons_of_pos h,List.length_cons,List.drop_succ_cons,Lp p s]
theorem ni (p:UInt8->Bool) (s:List UInt8):(s.takeWhile p).length<=s.length:=(List.takeWhile_sublist p).length_le
theorem IH (p:UInt8->Bool) (s:List UInt8):(s.dropWhile p).length<=s.length:=(List.dropWhile_sublist p).length_le
theorem YO (p:UInt8->Bool) (s:List UInt8):(IG p s).length<=s.length:=by
 unfold IG;have:=IH p s.reverse;simp only[List.length_reverse]at this ⊢;exact this
theorem Ps (s:List UInt8):(trimB s).length<=s.length:=Nat.le_trans (YO _ _) (IH _ _)
theorem II (s:List UInt8) (O:VH) (hs:s.length<=maxLen):VF Tryz.prog 138 [.str s] O (aL fun m O'=>m= .str (trimB s)/\O'=O):=by
 have hm:(s.length:Int)<=9223372036854775807:=by simp[maxLen]at hs;omega
 have NY:=ni kU s;have hdw:=Lp kU s;have rN:=IH kU s;unfold trimB;refine VF.db 23 [.tmp 2] Tryz.func138 ?_;refine ae @fb ?_;refine ah.rt (IF 165 kU s _ hs oW (by kernel_rfl)) ?_;rintro _ O2 ⟨rfl,rfl⟩;refine ao @fb @hdw ?_;generalize s.dropWhile kU=t at*;refine WC.iw [0] [] (fun k:Nat=>[.str (t.take k)]) (fun k O'=>O'=O2/\k<=t.length/\IG kU t=IG kU (t.take k)) (fun k=>k) t.length ?_ ?_ (h0:=(by rw[List.take_length];rfl))
 ·exact⟨rfl,Nat.le_refl _,by rw[List.take_length]⟩
 rintro k O3 ⟨rfl,hk,hr⟩;rw[hr];have hlen:(t.take k).length=k:=by rw[List.length_take];omega
 rcases Nat.eq_zero_or_pos k with rfl | hk0
 ·have ahC:(([]:List UInt8)==[])=true:=rfl;refine ao @fb @ahC ?_;trivial
 ·obtain⟨k,rfl⟩:∃j,k=j+1:=⟨k - 1,by omega⟩
  have h2:k<t.length:=by omega
  have iz:=cG t k h2;have bI:(t.take (k+1))[k]?=some t[k]:=by rw[List.getElem?_take,if_pos (by omega),List.getElem?_eq_getElem h2]
  have hne:(t.take (k+1)==[])=false:=by rw[iz];cases t.take k<;>rfl
  have fc:=UH kU (t.take k) t[k];rw[<-iz]at fc;have FE:(t.take (k+1)).take k=t.take k:=by rw[List.take_take];congr 1;omega
  generalize t[k]=c at*;refine dB @fb @hne @hlen @bI ?_;refine ah.rt (oW c _) ?_;rintro _ O4 ⟨rfl,rfl⟩;cases hb:kU c
  ·refine ae @fb ?_;rw[fc,hb];trivial
  ·rw[hb]at fc;refine aM @fb @hlen @FE ?_;exact aD.next k ⟨rfl,by omega,by rw[fc];rfl⟩
abbrev Bs:=List UInt8
theorem DQ (c:UInt8) (O:VH):VF Tryz.prog 187 [eV c] O (aL fun m O'=>m=mb (kG c)/\O'=O):=by
 have hc:=c.toNat_lt;refine VF.db 21 [.tmp 2] Tryz.func187 ?_;rcases(show c.toNat<65\/(65<=c.toNat/\c.toNat<=90)\/(90<c.toNat/\c.toNat<97/\c.toNat≠95)\/c.toNat=95\/(97<=c.toNat/\c.toNat<=122)\/122<c.toNat from by omega)with h | h | h | h | h | h
 ·rw[show kG c=false by simp[kG];omega];exact dz @fb @aE
 ·rw[show kG c=true by simp[kG];omega];exact dz @fb @aE
 ·rw[show kG c=false by simp[kG];omega];exact dz @fb @aE
 ·rw[show kG c=true by simp[kG];omega];exact dz @fb @aE
 ·rw[show kG c=true by simp[kG];omega];exact dz @fb @aE
 ·rw[show kG c=false by simp[kG];omega];exact dz @fb @aE
def gN (c:UInt8):Bool:=kG c||lR c||Ha c
theorem Hb (c:UInt8) (O:VH):VF Tryz.prog 154 [eV c] O (aL fun m O'=>m=mb (gN c)/\O'=O):=by
 have hc:=c.toNat_lt;refine VF.db 21 [.tmp 2] Tryz.func154 ?_;refine ae @fb ?_;refine ah.rt (DQ c _) ?_;rintro _ O2 ⟨rfl,rfl⟩;cases h1:kG c
 ·refine ae @fb ?_;refine ah.rt (oU c _) ?_;rintro _ O2 ⟨rfl,rfl⟩;cases h2:lR c
  ·rcases(show c.toNat=46\/c.toNat=45\/c.toNat=58\/(c.toNat≠46/\c.toNat≠45/\c.toNat≠58)from by omega)with h | h | h | h
   ·rw[show gN c=true by simp[gN,h1,h2,Ha,h]];exact dz @fb @aE
   ·rw[show gN c=true by simp[gN,h1,h2,Ha,h]];exact dz @fb @aE
   ·rw[show gN c=true by simp[gN,h1,h2,Ha,h]];exact dz @fb @aE
   ·rw[show gN c=false by simp[gN,h1,h2,Ha,h]];exact dz @fb @aE
  ·rw[show gN c=true by simp[gN,h1,h2]];exact dz @fb @aE
 ·rw[show gN c=true by simp[gN,h1]];exact dz @fb @aE
theorem vE (c:UInt8) (O:VH):VF Tryz.prog 305 [eV c] O (aL fun m O'=>m=mb (lF c)/\O'=O):=by
 have hc:=c.toNat_lt;refine VF.db 9 [.tmp 2] Tryz.func305 ?_;by_cases h:32<=c.toNat
 ·rw[show lF c=true by simp[lF];omega];exact dz @fb @aE
 ·refine ao @fb @aE ?_;refine ah.rt (oW c _) ?_;rintro _ O2 ⟨rfl,rfl⟩;rw[show lF c=kU c by unfold lF kU;rw[decide_eq_decide];omega];exact dz @fb @aE
def jh (s:Bs):Nat:=if kG (s.headD 0)&& !s.isEmpty then(s.takeWhile gN).length else 0
theorem Bw (s:Bs):jh s<=s.length:=by
 unfold jh;split
 ·exact ni _ _
 ·exact Nat.zero_le _
theorem acM (s:Bs) (O:VH) (hs:s.length<=maxLen):VF Tryz.prog 307 [.str s] O (aL fun m O'=>m=mi (jh s)/\O'=O):=by
 refine VF.db 13 [.tmp 2] Tryz.func307 ?_;cases s with
 | nil=>
   refine ao @fb (show(([]:List UInt8)==[])=true from rfl) ?_;rfl
 | cons c s=>
   refine aM @fb (show((c::s)==[])=false from rfl) @adM ?_;refine ah.rt (DQ c _) ?_;rintro _ O2 ⟨rfl,rfl⟩;cases h1:kG c
   ·refine ae @fb ?_;simp[jh,h1]
   ·rw[show jh (c::s)=((c::s).takeWhile gN).length by simp[jh,h1]];refine ae @fb ?_;refine ah.rt (IF 154 gN (c::s) _ hs (fun c O=>Hb c O) (by kernel_rfl)) ?_;rintro _ O2 ⟨rfl,rfl⟩;exact eX @fb
def jv (c:UInt8):Bool:=gN c&&decide (c.toNat≠58)
theorem UI (c:UInt8) (O:VH):VF Tryz.prog 119 [eV c] O (aL fun m O'=>m=mb (jv c)/\O'=O):=by
 have hc:=c.toNat_lt;refine VF.db 9 [.tmp 2] Tryz.func119 ?_;refine ae @fb ?_;refine ah.rt (Hb c _) ?_;rintro _ O2 ⟨rfl,rfl⟩;cases h1:gN c
 ·rw[show jv c=false by simp[jv,h1]];exact eX @fb
 ·by_cases h:c.toNat=58
  ·rw[show jv c=false by simp[jv,h]];exact dz @fb @aE
  ·rw[show jv c=true by simp[jv,h1,h]];exact dz @fb @aE
def eB (s:Bs):Bool:=s.all jv&&decide (1<=s.length)&&decide (s.length<=64)
theorem rV (s:Bs) (O:VH) (hs:s.length<=maxLen):VF Tryz.prog 89 [.str s] O (aL fun m O'=>m=mb (eB s)/\O.Ge O'):=by
 have hm:(s.length:Int)<=9223372036854775807:=by simp[maxLen]at hs;omega
 have we:=VH.aZ O (.cells (s.map eV));have yX:=(VH.Ge.refl O).push (.cells (s.map eV));refine VF.db 24 [.tmp 2] Tryz.func89 ?_;refine ae @fb ?_;refine VL.bytes aa (el:=5) (l:=s) rfl rfl (by rw[T9];rfl) (by rw[pY];rfl) (by rw[T5];rfl) hs rfl fun cap h1 h2=>WL.sound aa ?_
 refine ae @fb ?_;refine WC.iw [8] [0,6,7] (fun j:Nat=>[mi j]) (fun j O'=>(O.push (.cells (s.map eV))).Ge O'/\j<=s.length/\(s.take j).all jv=true) (fun j=>s.length - j) (0) ?_ ?_
 ·exact⟨VH.Ge.refl _,Nat.zero_le _,rfl⟩
 rintro j O2 ⟨ob,hj,jC⟩;have wg:=(ob.hp O.next (Nat.lt_succ_self _)).trans we;by_cases h2:j<s.length
 ·have qN:=List.getElem?_eq_getElem h2;have iz:(s.take (j+1)).all jv=jv s[j]:=by rw[cG _ _ h2,List.all_append,jC];simp
  have fm:jv s[j]=false->eB s=false:=fun h=>by
   unfold eB;rw[List.all_eq_false.2 ⟨s[j],List.getElem_mem h2,by simp[h]⟩];rfl
  generalize s[j]=c at*;refine aM @fb @qN @wg ?_;refine ah.rt (UI c _) ?_;rintro _ O3 ⟨rfl,rfl⟩;cases hb:jv c
  ·rw[fm hb];refine ae @fb ?_;exact yX.trans ob
  ·refine ae @fb ?_;exact aD.next (j+1) ⟨ob,by omega,iz.trans hb⟩
 ·obtain rfl:j=s.length:=by omega
  rw[List.take_length]at jC;unfold eB;rw[jC];by_cases h0:1<=s.length
  ·by_cases DP:s.length<=64
   ·rw[decide_eq_true h0,decide_eq_true DP];refine ae @fb ?_;exact yX.trans ob
   ·rw[decide_eq_true h0,decide_eq_false DP];refine ae @fb ?_;exact yX.trans ob
  ·rw[decide_eq_false h0];refine ae @fb ?_;exact yX.trans ob
set_option linter.defProp false in
def nR:=And.intro fb<|And.intro Ao<|And.intro IC T41
structure Gv where
 g:Bs
 a:Bs
 v:Bs
 deriving DecidableEq
def bp (x:Gv):List MV:=[.str x.g,.str x.a,.str x.v]
structure eC where
 g:Bs
 a:Bs
 deriving DecidableEq
def bF (x:eC):List MV:=[.str x.g,.str x.a]
structure Ky where
 g:Bs
 a:Bs
 t:Bs
 c:Bs
 deriving DecidableEq
def jW (x:Ky):List MV:=[.str x.g,.str x.a,.str x.t,.str x.c]
def yY (x:Gv):Bool:=eB x.g&&eB x.a&&ur x.v
theorem UJ (x:Gv) (O:VH) (h1:x.g.length<=maxLen) (h2:x.a.length<=maxLen) (h3:x.v.length<=maxLen):VF Tryz.prog 62 [.agg (bp x)] O (aL fun m O'=>m=mb (yY x)/\O.Ge O'):=by
 obtain⟨g,a,v⟩:=x;dsimp only at h1 h2 h3;unfold yY bp;dsimp only;have hk:=VH.aZ O (.cells [.str g,.str a,.str v]);have mO:=(VH.Ge.refl O).push (.cells [.str g,.str a,.str v]);have hn0:O.next<(O.push (.cells [.str g,.str a,.str v])).next:=Nat.lt_succ_self _;refine VF.db 16 [.tmp 2] Tryz.func62 ?_;refine ao @nR @hk ?_;generalize O.push (.cells [.str g,.str a,.str v])=O1 at*;refine ah.rt (rV g _ h1) ?_;rintro _ O2 ⟨rfl,az⟩;have iK:=az.next;cases eB g
 ·refine ae @nR ?_;exact mO.trans az
 ·refine aM @nR @hk az.hp ?_;refine ah.rt (rV a _ h2) ?_;rintro _ O3 ⟨rfl,aR⟩;have gW:=aR.next;cases eB a
  ·refine ae @nR ?_;exact mO.trans (az.trans aR)
  ·refine dB @nR @hk az.hp aR.hp ?_;refine ah.rt (Pq v _ h3) ?_;rintro _ O4 ⟨rfl,bj⟩;refine ae @nR ?_;exact mO.trans (az.trans (aR.trans bj))
def vF (s:Bs):Bool:=s==[42]||eB s
theorem Hc (s:Bs) (O:VH) (hs:s.length<=maxLen):VF Tryz.prog 317 [.str s] O (aL fun m O'=>m=mb (vF s)/\O.Ge O'):=by
 unfold vF;refine VF.db 9 [.tmp 2] Tryz.func317 ?_;cases h:s==[42]
 ·refine ao @nR @h ?_;refine ah.rt (rV s _ hs) ?_;rintro _ O2 ⟨rfl,az⟩;refine ae @nR ?_;exact az
 ·refine ao @nR @h ?_;exact VH.Ge.refl _
def yZ (x:eC):Bool:=vF x.g&&vF x.a
theorem FX (x:eC) (O:VH) (h1:x.g.length<=maxLen) (h2:x.a.length<=maxLen):VF Tryz.prog 312 [.agg (bF x)] O (aL fun m O'=>m=mb (yZ x)/\O.Ge O'):=by
 obtain⟨g,a⟩:=x;dsimp only at h1 h2;unfold yZ bF;dsimp only;have hk:=VH.aZ O (.cells [.str g,.str a]);have mO:=(VH.Ge.refl O).push (.cells [.str g,.str a]);have hn0:O.next<(O.push (.cells [.str g,.str a])).next:=Nat.lt_succ_self _;refine VF.db 11 [.tmp 2] Tryz.func312 ?_;refine ao @nR @hk ?_;generalize O.push (.cells [.str g,.str a])=O1 at*;refine ah.rt (Hc g _ h1) ?_;rintro _ O2 ⟨rfl,az⟩;have iK:=az.next;cases vF g
 ·refine ae @nR ?_;exact mO.trans az
 ·refine aM @nR @hk az.hp ?_;refine ah.rt (Hc a _ h2) ?_;rintro _ O3 ⟨rfl,aR⟩;refine ae @nR ?_;exact mO.trans (az.trans aR)
def Bx (p x:eC):Bool:=(p.g==[42]||p.g==x.g)&&(p.a==[42]||p.a==x.a)
theorem Pt (p x:eC) (O:VH):VF Tryz.prog 72 [.agg (bF p),.agg (bF x)] O (aL fun m O'=>m=mb (Bx p x)/\O.Ge O'):=by
 obtain⟨g,a⟩:=p;obtain⟨g',a'⟩:=x;unfold Bx bF;dsimp only;have mO:=((VH.Ge.refl O).push (.cells [.str g,.str a])).push (.cells [.str g',.str a']);refine VF.db 27 [.tmp 4] Tryz.func72 ?_;cases h1:g==[42]<;>cases h2:g==g'<;>cases h3:a==[42]<;>cases h4:a==a'
 all_goals
  refine ll @nR @h1 @h2 @h3 @h4 ?_;exact mO
def eL (n:Int):Bs:=if n=1 then[99,111,109,112,105,108,101]else if n=2 then[114,117,110,116,105,109,101]else if n=3 then[112,114,111,118,105,100,101,100]else if n=4 then[115,121,115,116,101,109]else if n=5 then[116,101,115,116]else if n=6 then[105,109,112,111,114,116]else[]
theorem RF (n:Int) (O:VH):VF Tryz.prog 134 [mi n] O (aL fun m O'=>m= .str (eL n)/\O'=O):=by
 unfold eL;refine VF.db 16 [.tmp 2] Tryz.func134 ?_;by_cases h1:n=1
 ·refine ae @nR ?_;simp[h1]
 by_cases h2:n=2
 ·refine ae @nR ?_;simp[h1,h2]
 by_cases h3:n=3
 ·refine ae @nR ?_;simp[h1,h2,h3]
 by_cases h4:n=4
 ·refine ae @nR ?_;simp[h1,h2,h3,h4]
 by_cases h5:n=5
 ·refine ae @nR ?_;simp[h1,h2,h3,h4,h5]
 by_cases h6:n=6
 ·refine ae @nR ?_;simp[h1,h2,h3,h4,h5,h6]
 rw[if_neg h1,if_neg h2,if_neg h3,if_neg h4,if_neg h5,if_neg h6];exact eX @nR
def sL (o i:Int):Int:=if ¬(o=1\/o=2\/o=3\/o=5)then 0 else if i≠1/\i≠2 then 0 else if o=1 then i else o
theorem UK (o i:Int) (O:VH):VF Tryz.prog 109 [mi o,mi i] O (aL fun m O'=>m=mi (sL o i)/\O'=O):=by
 refine VF.db 23 [.tmp 4] Tryz.func109 ?_;rcases(show o=1\/o=2\/o=3\/o=5\/(o≠1/\o≠2/\o≠3/\o≠5)from by omega)with h | h | h | h | h
 rotate_right
 ·rw[show sL o i=0 by simp[sL,h]];obtain⟨h1,h2,h3,h4⟩:=h;exact eX @nR
 all_goals
  subst h;rcases(show i=1\/i=2\/(i≠1/\i≠2)from by omega)with h | h | h
 all_goals
  refine ae @nR ?_;simp[sL,h]
def aC.id:aC->Option Nat
 | .own t _=>some t
 | _=>none
structure cj (tk:aC) (O O':VH):Prop where
 next:O.next<=O'.next
 hp:∀i,i<O.next->aC.id tk≠some i->O'.hp i=O.hp i
def B2 (O:VH) (tk tk':aC):Prop:=tk'=tk\/∀i,aC.id tk'=some i->O.next<=i
section
variable {O O0 O1 O2:VH} {tk t1 t2 w:aC} {B sz:Nat}
theorem VH.Ge.k (h:O.Ge O1):cj tk O O1:=⟨h.next,fun i hi _=>h.hp i hi⟩
theorem cj.refl:cj tk O O:=⟨Nat.le_refl _,fun _ _ _=>rfl⟩
theorem B2.refl:B2 O tk tk:=.inl rfl
theorem cj.trans (h:cj tk O O1) (hn:B2 O tk t1) (k:cj t1 O1 O2):cj tk O O2:=⟨Nat.le_trans h.next k.next,fun i hi hne=>by
 have:aC.id t1≠some i:=fun e=>by
  rcases hn with rfl | hn
  ·exact hne e
  ·have:=hn i e;omega
 rw[k.hp i (Nat.lt_of_lt_of_le hi h.next) this,h.hp i hi hne]⟩
theorem cj.ge (h:cj tk O O1) (k:O1.Ge O2):cj tk O O2:=⟨Nat.le_trans h.next k.next,fun i hi hne=>by rw[k.hp i (Nat.lt_of_lt_of_le hi h.next),h.hp i hi hne]⟩
theorem cj.pre (h:O.Ge O1) (k:cj tk O1 O2):cj tk O O2:=⟨Nat.le_trans h.next k.next,fun i hi hne=>by rw[k.hp i (Nat.lt_of_lt_of_le hi h.next) hne,h.hp i hi]⟩
theorem B2.trans (h:B2 O tk t1) (hle:O.next<=O1.next) (k:B2 O1 t1 t2):B2 O tk t2:=by
 rcases k with rfl | k
 ·exact h
 ·exact .inr fun i e=>Nat.le_trans hle (k i e)
theorem App.pM (h:App O B sz tk) {i:Nat} (e:aC.id tk=some i):B<=i/\i<O.next:=by
 cases tk with
 | own t k=>injection e with e;subst e;exact h.2.2
 | _=>cases e
theorem cj.app (h:cj tk O O1) (hw:App O B sz w) (hne:∀i,aC.id tk=some i->aC.id w≠some i):App O1 B sz w:=by
 cases w with
 | own t j=>
   obtain⟨h1,h2,h3,h4⟩:=hw;refine⟨h1,?_,h3,Nat.lt_of_lt_of_le h4 h.next⟩;rw[h.hp t h4 (fun e=>hne t e rfl)];exact h2
 | nil=>trivial
 | full=>trivial
 | ar=>exact hw.elim
theorem cj.after (h:App O B sz tk):cj tk O (O.after tk):=⟨by rw[VH.fw];omega,fun i hi hne=>by
 cases tk with
 | own t k=>exact(VH.cY (O.kill t) _ hi).trans (VH.kT _ (fun e=>hne (by rw[e];rfl)))
 | _=>exact VH.cY _ _ hi⟩
theorem B2.after:B2 O tk (.own O.next sz):=.inr fun i e=>by injection e with e;omega
theorem cj.dW (hg:O0.Ge O) (ha:App O O0.next sz tk) (k:cj tk O O1):O0.Ge O1:=⟨Nat.le_trans hg.next k.next,fun i hi=>by
 rw[k.hp i (Nat.lt_of_lt_of_le hi hg.next) (fun e=>by have:=(ha.pM e).1;omega),hg.hp i hi]⟩
theorem cj.y_ (ha:App O O.next sz tk) (k:cj tk O O1):O.Ge O1:=cj.dW (VH.Ge.refl O) ha k
theorem App.ge (h:App O B sz tk) (k:O.Ge O1):App O1 B sz tk:=cj.app (tk:=.nil) (k.k) h (fun _ e=>by cases e)
theorem App.nil:App O B sz .nil:=trivial
end
theorem fy {tab:bN} {O:VH} {t el:TypeId} {u:TypeDesc} {a b sz W4:Nat} {z y:List MV} (h:tab t=some ⟨.slice el,a,b,z⟩) (h2:tab el=some ⟨u,sz,W4,y⟩) {B n:Nat} {cs ds es:List MV} {tk:aC} (ha:App O B sz tk)
  (hc:cs.length=n*sz) (hd:ds.length=sz) (hl:ds.all dh=true) (hs:0<sz) (hb:(n+1)*W4<=140737488355328) (hm:n+1<=maxLen) (lQ:cz cs=cs) (oN:cz ds=es):
  ∃m,gJ tab O t (.sl n cs tk) (.sl 1 ds .full)=some (m,O.after tk)/\n8 m= .sl (n+1) (cs++es) (.own O.next sz):=
 ⟨_,bd (tk':=.full) h h2 ha hc (by rw[hd,Nat.one_mul]) hl hs (by decide) hb hm,by rw[qL,me,lQ,oN]⟩
section
variable {P:Program} {n:Sz} {D:List Deferred} {c:Code} {e:Env} {O:VH} {Q:VQ} {z cs:List MV} {md:Md} {d:Option Tmp} {K:Env->VH->Prop} {fv:Option MV} {ms:Option (List MV)}
def uu (O:VH) (cs:List MV) (O3:VH):Prop:=O.Ge O3/\O3.hp O.next=some (.cells cs)/\O3.next=O.next+1
theorem uu.al:uu O cs ((O.push (.cells z)).set O.next (.cells cs)):=⟨((VH.Ge.refl O).push _).set (Nat.le_refl _) _,VH.an _ _ _,rfl⟩
theorem uu.bx:uu O cs (O.push (.cells cs)):=⟨(VH.Ge.refl O).push _,VH.aZ _ _,rfl⟩
theorem VC.al (h:∀O3,uu O cs O3->VC P n D c e O3 Q):VC P n D c e ((O.push (.cells z)).set O.next (.cells cs)) Q:=h _ uu.al
theorem VC.bx (h:∀O3,uu O cs O3->VC P n D c e O3 Q):VC P n D c e (O.push (.cells cs)) Q:=h _ uu.bx
theorem ah.bx (h:∀O3,uu O cs O3->ah P n md Q d O3 K e fv ms):ah P n md Q d (O.push (.cells cs)) K e fv ms:=h _ uu.bx
end
theorem List.oX {α :Type} {a b:List α} {k n:Nat} (h:a.length=k):(a++b).drop (k+n)=b.drop n:=by
 rw[<-h, <-List.drop_drop,List.drop_left]
theorem aX {α :Type} {f: α ->List MV} {k:Nat} (hf:∀x,(f x).length=k) (L:List α):(L.flatMap f).length=L.length*k:=by
 induction L with
 | nil=>simp
 | cons x L ih=>rw[List.flatMap_cons,List.length_append,ih,hf,List.length_cons,Nat.succ_mul,Nat.add_comm]
theorem cV {α :Type} {f: α ->List MV} {k:Nat} (hf:∀x,(f x).length=k):∀(L:List α) (i:Nat) (h:i<L.length),((L.flatMap f).drop (i*k)).take k=f L[i]
 | x::L,0,_=>by rw[Nat.zero_mul,List.drop_zero,List.flatMap_cons,List.take_left' (hf x)];rfl
 | x::L,i+1,h=>by
   have:=cV hf L i (by simpa using h);rw[List.flatMap_cons,Nat.succ_mul,Nat.add_comm,List.oX (hf x)];exact this
inductive Nd where
 | mk (name:Bs) (attrs:List (Bs×Bs)) (kids:List Nd) (text:Bs)
def aW (x:Bs×Bs):List MV:=[.str x.1,.str x.2]
mutual
def cO:Nd->List MV
 | .mk n a k t=>[.str n,.sl a.length (a.flatMap aW) .ar,.sl k.length (ax k) .ar,.str t]
def ax:List Nd->List MV
 | []=>[]
 | x::r=>cO x++ax r
end
theorem dH (L M:List Nd):ax (L++M)=ax L++ax M:=by
 induction L with
 | nil=>rw[List.nil_append,ax,List.nil_append]
 | cons x L ih=>rw[List.cons_append,ax,ax,ih,List.append_assoc]
theorem kV (x:Nd):(cO x).length=4:=by cases x;rw[cO];rfl
theorem cH (L:List Nd):(ax L).length=L.length*4:=by
 induction L with
 | nil=>rw[ax];rfl
 | cons x L ih=>rw[ax,List.length_append,kV,ih,List.length_cons];omega
theorem eM (x:Bs×Bs):(aW x).length=2:=rfl
theorem mf (x:eC):(bF x).length=2:=rfl
theorem fz (L:List (Bs×Bs)):cz (L.flatMap aW)=L.flatMap aW:=jU (fun x=>by simp only[aW,wu]) L
mutual
theorem zb:∀x,cz (cO x)=cO x
 | .mk n a k t=>by
   simp only[cO,wu,fz];rw[eu k]
theorem eu:∀L,cz (ax L)=ax L
 | []=>by rw[ax,G6]
 | x::r=>by rw[ax,me,zb x,eu r]
end
structure Dp where
 g:Bs
 a:Bs
 v:Bs
 t:Bs
 c:Bs
 s:Int
 o:Int
 x:List eC
 deriving DecidableEq
def aF (d:Dp):List MV:=[.str d.g,.str d.a,.str d.v,.str d.t,.str d.c,mi d.s,mi d.o,.sl d.x.length (d.x.flatMap bF) .ar]
theorem eQ (x:Dp):(aF x).length=8:=rfl
structure Pm where
 hp:Bool
 par:Gv
 g:Bs
 a:Bs
 v:Bs
 pk:Bs
 props:List (Bs×Bs)
 dT:List Dp
 dL:List Dp
 deriving DecidableEq
def fI (p:Pm):List MV:=[mb p.hp,.str p.par.g,.str p.par.a,.str p.par.v,.str p.g,.str p.a,.str p.v,.str p.pk,.sl p.props.length (p.props.flatMap aW) .ar,.sl p.dT.length (p.dT.flatMap aF) .ar,.sl p.dL.length (p.dL.flatMap aF) .ar]
theorem mg (L:List eC):cz (L.flatMap bF)=L.flatMap bF:=jU (fun x=>by simp only[bF,wu]) L
theorem kh (L:List Dp):cz (L.flatMap aF)=L.flatMap aF:=jU (fun x=>by simp only[aF,aq,wu,mg]) L
theorem UL (p:Pm):cz (fI p)=fI p:=by simp only[fI,a_,wu,fz,kh]
set_option linter.defProp false in
def fD:=And.intro nR<|And.intro sJ<|And.intro nv<|And.intro uo<|And.intro xk<|And.intro B1 adV
def eg (O:VH) (B sz:Nat) (tk:aC) (O':VH) (tk':aC):Prop:=cj tk O O'/\App O' B sz tk'/\B2 O tk tk'
theorem eg.refl {O:VH} {B sz:Nat} {tk:aC} (h:App O B sz tk):eg O B sz tk O tk:=⟨cj.refl,h,B2.refl⟩
theorem eg.trans {O O1 O2:VH} {B sz:Nat} {tk t1 t2:aC} (h:eg O B sz tk O1 t1) (k:eg O1 B sz t1 O2 t2):eg O B sz tk O2 t2:=
 ⟨h.1.trans h.2.2 k.1,k.2.1,h.2.2.trans h.1.next k.2.2⟩
theorem eg.after {O:VH} {B sz:Nat} {tk:aC} (h:App O B sz tk) (hB:B<=O.next):eg O B sz tk (O.after tk) (.own O.next sz):=⟨cj.after h,App.after hB,B2.after⟩
theorem eg.ge {O O1 O2:VH} {B sz:Nat} {tk t1:aC} (h:eg O B sz tk O1 t1) (k:O1.Ge O2):eg O B sz tk O2 t1:=⟨h.1.ge k,h.2.1.ge k,h.2.2⟩
theorem eg.pre {O O1 O2:VH} {B sz:Nat} {tk t1:aC} (g:O.Ge O1) (h:eg O1 B sz tk O2 t1):eg O B sz tk O2 t1:=⟨cj.pre g h.1,h.2.1,h.2.2.elim .inl fun k=>.inr fun i e=>Nat.le_trans g.next (k i e)⟩
theorem eg.dW {O O1:VH} {sz:Nat} {tk t1:aC} (ha:App O O.next sz tk) (h:eg O O.next sz tk O1 t1):O.Ge O1:=cj.y_ ha h.1
theorem App.less {O:VH} {B B' sz:Nat} {tk:aC} (h:App O B sz tk) (hB:B'<=B):App O B' sz tk:=by
 cases tk with
 | own t k=>exact⟨h.1,h.2.1,Nat.le_trans hB h.2.2.1,h.2.2.2⟩
 | nil=>trivial
 | full=>trivial
 | ar=>exact h.elim
theorem App.set {O:VH} {B sz k:Nat} {tk:aC} {x:bV} {cs:List MV} (h:App O B sz tk) (hk:O.hp k=some (.cells cs)):App (O.set k x) B sz tk:=by
 cases tk with
 | own t j=>exact⟨h.1,(VH.ak _ _ (fun e=>by subst e;rw[h.2.1]at hk;cases hk)).trans h.2.1,h.2.2.1,h.2.2.2⟩
 | nil=>trivial
 | full=>trivial
 | ar=>exact h.elim
theorem eg.fresh {O O1 O2:VH} {sz:Nat} {t1:aC} (g:O.Ge O1) (h:eg O1 O1.next sz .nil O2 t1):eg O O.next sz .nil O2 t1:=
 ⟨cj.pre g h.1,h.2.1.less g.next,h.2.2.elim .inl fun k=>.inr fun i e=>Nat.le_trans g.next (k i e)⟩
def bL (L:List Nd) (n t:Bs):List Nd:=if t=[]then L else L++[.mk n [] [.mk [] [] [] t] []]
theorem cP (L:List Nd) (n t:Bs):(bL L n t).length<=L.length+1:=by unfold bL;split<;>simp
theorem fA {O:VH} {B:Nat} (L:List Nd) (tk:aC) (n t:Bs) (ha:App O B 4 tk) (hB:B<=O.next) (hL:L.length<=100000):VF Tryz.prog 102 [.sl L.length (ax L) tk,.str n,.str t] O (aL fun m O'=>∃tk',m= .sl (bL L n t).length (ax (bL L n t)) tk'/\eg O B 4 tk O' tk'):=by
 refine VF.fg ?_;refine VF.db 18 [.tmp 6] Tryz.func102 ?_;unfold bL;cases t with
 | nil=>
   refine aM @fD (show(([]:List UInt8)==[])=true from rfl) @eu ?_;exact⟨tk,rfl,eg.refl ha⟩
 | cons c t=>
   refine ao @fD (show((c::t)==[])=false from rfl) ?_;have cL:=bd (tk':=.full) (n:=L.length) (k:=1) (cs:=ax L) (ds:=[.str n,.sl 0 [] .nil,.sl 1 [.str [],.sl 0 [] .nil,.sl 0 [] .nil,.str (c::t)] .full,.str []]) nv sJ.1.1 ha (cH L) rfl rfl (by decide) (by decide) (by omega) (by simp only[maxLen];omega);refine VL.app cL ?_;refine ao @fD @eu ?_;rw[if_neg (by simp)];refine⟨_,?_,eg.after ha hB⟩;rw[dH];simp only[ax,cO,List.flatMap_nil,List.append_nil,List.length_append,List.length_cons,List.length_nil,Nat.zero_add]
def iW (L:List Nd) (n:Bs) (K:List Nd):List Nd:=if K=[]then L else L++[.mk n [] K []]
theorem oY (L:List Nd) (n:Bs) (K:List Nd):(iW L n K).length<=L.length+1:=by unfold iW;split<;>simp
theorem qO {O:VH} {B:Nat} (L:List Nd) (tk:aC) (n:Bs) (K:List Nd) (tK:aC) (ha:App O B 4 tk) (hB:B<=O.next) (hL:L.length<=100000) (hK:K.length<=100000):VF Tryz.prog 101 [.sl L.length (ax L) tk,.str n,.sl K.length (ax K) tK] O (aL fun m O'=>∃tk',m= .sl (iW L n K).length (ax (iW L n K)) tk'/\eg O B 4 tk O' tk'):=by
 refine VF.fg ?_;refine VF.db 17 [.tmp 6] Tryz.func101 ?_;unfold iW;by_cases h:K=[]
 ·subst h;refine aM @fD @eu @List.length_nil.{0} ?_;exact⟨tk,rfl,eg.refl ha⟩
 ·have h0:0<K.length:=List.length_pos_iff.2 h;refine ae @fD ?_;have cL:=bd (tk':=.full) (n:=L.length) (k:=1) (cs:=ax L) (ds:=[.str n,.sl 0 [] .nil,.sl K.length (ax K) tK,.str []]) nv sJ.1.1 ha (cH L) rfl rfl (by decide) (by decide) (by omega) (by simp only[maxLen];omega);refine VL.app cL ?_;refine ao @fD @eu ?_;rw[if_neg h];refine⟨_,?_,eg.after ha hB⟩;rw[dH];simp only[ax,cO,List.flatMap_nil,List.append_nil,List.length_append,List.length_cons,List.length_nil,Nat.zero_add]
abbrev dC:Bs:=[103,114,111,117,112,73,100]
abbrev dm:Bs:=[97,114,116,105,102,97,99,116,73,100]
abbrev eU:Bs:=[118,101,114,115,105,111,110]
abbrev zc:Bs:=[116,121,112,101]
abbrev zd:Bs:=[99,108,97,115,115,105,102,105,101,114]
abbrev pZ:Bs:=[115,99,111,112,101]
abbrev lG:Bs:=[111,112,116,105,111,110,97,108]
abbrev jw:Bs:=[116,114,117,101]
abbrev ki:Bs:=[102,97,108,115,101]
abbrev sM:Bs:=[101,120,99,108,117,115,105,111,110]
abbrev kO:Bs:=[101,120,99,108,117,115,105,111,110,115]
abbrev kH:Bs:=[100,101,112,101,110,100,101,110,99,121]
abbrev kP:Bs:=[100,101,112,101,110,100,101,110,99,105,101,115]
def fV (i:eC):Nd:=.mk sM [] (bL (bL [] dC i.g) dm i.a) []
def xn (d:Dp):List Nd:=
 let k:=bL (bL (bL (bL (bL (bL [] dC d.g) dm d.a) eU d.v) zc d.t) zd d.c) pZ (eL d.s)
 if d.o=1 then bL k lG jw else if d.o=2 then bL k lG ki else k
def eD (d:Dp):Nd:=.mk kH [] (iW (xn d) kO (d.x.map fV)) []
def nj (L:List Nd) (D:List Dp):List Nd:=iW L kP (D.map eD)
theorem ze {O:VH} {B:Nat} (L:List Nd) (tl:aC) (D:List Dp) (tD:aC) (ha:App O B 4 tl) (hB:B<=O.next) (hL:L.length<=10000) (hD:D.length<=10000) (hx:∀d∈D,d.x.length<=10000):VF Tryz.prog 103 [.sl L.length (ax L) tl,.sl D.length (D.flatMap aF) tD] O (aL fun m O'=>∃tk',m= .sl (nj L D).length (ax (nj L D)) tk'/\eg O B 4 tl O' tk'):=by
 refine VF.fg ?_;have hlen:=aX eQ D;refine VF.bX 82 [.tmp 4] Tryz.func103 ?_;refine VC.ag aa (ae @fD ?_);refine VC.ag aa (ae @fD ?_);refine VC.join aa [0,5] (fun tk:aC=>[.sl L.length (ax L) tl,.sl (D.map eD).length (ax (D.map eD)) tk]) (fun tk O'=>O.Ge O') ?_ ?_;rotate_left
 ·intro tk O9 aY;refine ae @fD ?_;refine ah.rt (qO L tl kP (D.map eD) tk (ha.ge aY) (Nat.le_trans hB aY.next) (by omega) (by rw[List.length_map];omega)) ?_;rintro _ Oz ⟨tz,rfl,gz⟩;refine ao @fD @eu ?_;exact⟨tz,rfl,eg.pre aY gz⟩
 refine VC.ag aa (ae @fD ?_);refine VC.aB ?_;refine VC.bE [5,14] [0,12,13] (fun x:Nat×aC=>[.sl ((D.take x.1).map eD).length (ax ((D.take x.1).map eD)) x.2,mi x.1]) (fun x O'=>O.Ge O'/\App O' O.next 4 x.2/\x.1<=D.length) (fun x=>D.length - x.1) ((0,.nil)) ?_ ?_
 ·exact⟨VH.Ge.refl _,trivial,Nat.zero_le _⟩
 rintro⟨j,ta⟩ O2 ⟨az,cL,hj⟩;dsimp only at cL hj ⊢;by_cases h2:j<D.length;rotate_left
 ·obtain rfl:j=D.length:=by omega
  rw[List.take_length];refine WC.sound aa (ae @fD ?_);exact ay.mk ta az
 have bI:=cV eQ D j h2;have iz:(D.take (j+1)).map eD=(D.take j).map eD++[eD D[j]]:=by rw[cG _ _ h2,List.map_append];rfl
 have B3:=hx D[j] (List.getElem_mem h2);have hAl:((D.take j).map eD).length<=10000:=by rw[List.length_map,List.length_take];omega
 generalize D[j]=d at*;generalize (D.take j).map eD=A at*;obtain⟨g,a,v,t,c,s,o,X⟩:=d;dsimp only at B3;simp only[aF]at bI;refine VC.ag aa (ae @fD ?_);refine VC.ag aa (ae @fD ?_);refine VC.bu (VC.aB ?_);refine VC.ag aa (ao @fD @bI ?_);refine VC.al ?_;rintro O3 ⟨aR,hk,gW⟩;have h0:eg O3 O3.next 4 .nil O3 .nil:=eg.refl App.nil;refine VC.ag aa (ae @fD ?_);refine VC.ag aa (ao @fD @hk ?_);refine ah.rt (fA [] _ dC g h0.2.1 h0.1.next (by first | omega | simp)) ?_;rintro _ OA ⟨t1,rfl,gw⟩;have h1:=h0.trans gw;have l1:=cP [] dC g;clear gw;generalize eK1:bL [] dC g=K1 at*;have gK:=(eg.dW App.nil h1).hp;have hn:=h1.1.next;try simp only[List.length_nil]at l1
 refine ae @fD ?_;refine VC.ag aa (aM @fD @hk @gK ?_);refine ah.rt (fA K1 _ dm a h1.2.1 h1.1.next (by first | omega | simp)) ?_;rintro _ OB ⟨t2,rfl,gw⟩;have YP:=h1.trans gw;have l2:=cP K1 dm a;clear gw;generalize eK2:bL K1 dm a=K2 at*;have gK:=(eg.dW App.nil YP).hp;have hn:=YP.1.next;try simp only[List.length_nil]at l2
 refine ae @fD ?_;refine VC.ag aa (aM @fD @hk @gK ?_);refine ah.rt (fA K2 _ eU v YP.2.1 YP.1.next (by first | omega | simp)) ?_;rintro _ OC ⟨t3,rfl,gw⟩;have h3:=YP.trans gw;have l3:=cP K2 eU v;clear gw;generalize eK3:bL K2 eU v=K3 at*;have gK:=(eg.dW App.nil h3).hp;have hn:=h3.1.next;try simp only[List.length_nil]at l3
 refine ae @fD ?_;refine VC.ag aa (aM @fD @hk @gK ?_);refine ah.rt (fA K3 _ zc t h3.2.1 h3.1.next (by first | omega | simp)) ?_;rintro _ OD ⟨t4,rfl,gw⟩;have h4:=h3.trans gw;have l4:=cP K3 zc t;clear gw;generalize eK4:bL K3 zc t=K4 at*;have gK:=(eg.dW App.nil h4).hp;have hn:=h4.1.next;try simp only[List.length_nil]at l4
 refine ae @fD ?_;refine VC.ag aa (aM @fD @hk @gK ?_);refine ah.rt (fA K4 _ zd c h4.2.1 h4.1.next (by first | omega | simp)) ?_;rintro _ OE ⟨t5,rfl,gw⟩;have h5:=h4.trans gw;have l5:=cP K4 zd c;clear gw;generalize eK5:bL K4 zd c=K5 at*;have gK:=(eg.dW App.nil h5).hp;have hn:=h5.1.next;try simp only[List.length_nil]at l5
 refine ae @fD ?_;refine VC.ag aa (aM @fD @hk @gK ?_);refine ah.rt (RF s _) ?_;rintro _ OF ⟨rfl,rfl⟩;refine ae @fD ?_;refine ah.rt (fA K5 _ pZ (eL s) h5.2.1 h5.1.next (by first | omega | simp)) ?_;rintro _ OG ⟨t6,rfl,gw⟩;have h6:=h5.trans gw;have l6:=cP K5 pZ (eL s);clear gw;generalize eK6:bL K5 pZ (eL s)=K6 at*;have gK:=(eg.dW App.nil h6).hp;have hn:=h6.1.next;try simp only[List.length_nil]at l6
 refine ae @fD ?_;have hK:xn ⟨g,a,v,t,c,s,o,X⟩=if o=1 then bL K6 lG jw else if o=2 then bL K6 lG ki else K6:=by rw[<-eK6, <-eK5, <-eK4, <-eK3, <-eK2, <-eK1];rfl
 clear eK6 eK5 eK4 eK3 eK2 eK1;have hl7:=cP K6 lG jw;have FY:=cP K6 lG ki;refine VC.join aa [0,5,7,8,9,12,13,14] (fun tk:aC=>[.sl L.length (ax L) tl,.sl A.length (ax A) ta,.ptr O2.next 0,.sl (xn ⟨g,a,v,t,c,s,o,X⟩).length (ax (xn ⟨g,a,v,t,c,s,o,X⟩)) tk,.sl 0 [] .nil,.sl D.length (D.flatMap aF) tD,mi D.length,mi j]) (fun tk O'=>eg O3 O3.next 4 .nil O' tk) ?_ ?_
 ·refine VC.ag aa (aM @fD @hk @gK ?_);refine VC.aB ?_;by_cases YQ:o=1
  ·rw[hK,if_pos YQ];refine WC.sound aa (ae @fD ?_);refine ah.rt (fA K6 _ lG jw h6.2.1 h6.1.next (by first | omega | simp)) ?_;rintro _ OH ⟨t7,rfl,gw⟩;have h7:=h6.trans gw;have l7:=cP K6 lG jw;clear gw;generalize eK7:bL K6 lG jw=K7 at*;have gK:=(eg.dW App.nil h7).hp;have hn:=h7.1.next;try simp only[List.length_nil]at l7
   refine ae @fD ?_;exact ay.mk t7 h7
  ·rw[hK,if_neg YQ];by_cases YR:o=2
   ·rw[if_pos YR];refine WC.sound aa (ae @fD ?_);refine ah.rt (fA K6 _ lG ki h6.2.1 h6.1.next (by first | omega | simp)) ?_;rintro _ OH ⟨t7,rfl,gw⟩;have h7:=h6.trans gw;have l7:=cP K6 lG ki;clear gw;generalize eK7:bL K6 lG ki=K7 at*;have gK:=(eg.dW App.nil h7).hp;have hn:=h7.1.next;try simp only[List.length_nil]at l7
    refine ae @fD ?_;exact ay.mk t7 h7
   ·rw[if_neg YR];refine WC.sound aa (ae @fD ?_);exact ay.mk t6 h6
 have hKl:(xn ⟨g,a,v,t,c,s,o,X⟩).length<=7:=by rw[hK];split<;>first | omega | (split<;>omega)
 intro tk O4 h7;generalize hKd:xn ⟨g,a,v,t,c,s,o,X⟩=K at*;clear hK hl7 FY h6 gK hn;have gK:=(eg.dW App.nil h7).hp;have hn:=h7.1.next;refine aM @fD @hk @gK ?_;refine VC.afN [0,5,8,9,12,13,14] (fun tx:aC=>[.sl L.length (ax L) tl,.sl A.length (ax A) ta,.sl K.length (ax K) tk,.sl (X.map fV).length (ax (X.map fV)) tx,.sl D.length (D.flatMap aF) tD,mi D.length,mi j]) (fun tx O'=>O4.Ge O') ?_ ?_
 ·have IJ:=aX mf X;refine WC.iw [9,56] [0,5,8,12,13,14,54,55] (fun x:Nat×aC=>[.sl ((X.take x.1).map fV).length (ax ((X.take x.1).map fV)) x.2,mi x.1]) (fun x O'=>O4.Ge O'/\App O' O4.next 4 x.2/\x.1<=X.length) (fun x=>X.length - x.1) ((0,.nil)) ?_ ?_
  ·exact⟨VH.Ge.refl _,trivial,Nat.zero_le _⟩
  rintro⟨i,tx⟩ O5 ⟨bG,nQ,hi⟩;dsimp only at nQ hi ⊢;by_cases jd:i<X.length;rotate_left
  ·obtain rfl:i=X.length:=by omega
   rw[List.take_length];refine ae @fD ?_;exact ay.mk tx bG
  have hxt:=cV mf X i jd;have hsx:(X.take (i+1)).map fV=(X.take i).map fV++[fV X[i]]:=by rw[cG _ _ jd,List.map_append];rfl
  have FZ:((X.take i).map fV).length<=10000:=by rw[List.length_map,List.length_take];omega
  generalize X[i]=y at*;generalize (X.take i).map fV=E at*;obtain⟨yg,ya⟩:=y;simp only[bF]at hxt;refine ao @fD @hxt ?_;refine VC.al ?_;rintro O6 ⟨fO,lS,m5⟩;refine VC.m4 [9,10] ?_;refine ab.av 0 ?_;refine ae @fD ?_;refine ab.av 1 ?_;refine ae @fD ?_;refine ab.av 4 ?_;refine ae @fD ?_;refine ab.ld (m:=.str yg) 2 ?_ ?_
  ·exact dz @fD @lS
  simp only[aj];refine ab.ld (m:=.str ya) 5 ?_ ?_
  ·exact dz @fD @lS
  simp only[aj];refine ab.call (i:=3) (fA [] .nil dC yg (App.nil (B:=O6.next)) (Nat.le_refl _) (by simp)) ?_;rintro _ O7 ⟨t7,rfl,g7⟩;simp only[aj];have l7:=cP [] dC yg;generalize e7:bL [] dC yg=E1 at*;simp only[List.length_nil]at l7;refine⟨eg.dW App.nil g7,?_⟩;refine ab.call (i:=6) (fA E1 t7 dm ya g7.2.1 g7.1.next (by omega)) ?_;rintro _ O8 ⟨t8,rfl,g8⟩;simp only[aj];have l8:=cP E1 dm ya;have he:fV ⟨yg,ya⟩= .mk sM [] (bL E1 dm ya) []:=by rw[<-e7];rfl
  generalize bL E1 dm ya=E2 at*;have h8:=eg.dW App.nil (g7.trans g8);refine⟨h8,?_⟩;refine ab.av 7 ?_;refine ae @fD ?_;refine ab.op (i:=8) ?_;refine ae @fD ?_;refine⟨h8,?_⟩;refine ab.bM [(9,.one),(10,.av)] ?_;have fE:=fO.trans h8;have YS:=nQ.ge fE;refine ae @fD ?_;obtain⟨mE,fJ,kj⟩:=fy (n:=E.length) (cs:=ax E) (ds:=[.str sM,.sl 0 [] .nil,.sl E2.length (ax E2) t8,.str []]) (es:=cO (fV ⟨yg,ya⟩)) nv sJ.1.1 YS (cH E) rfl rfl (by decide) (by omega) (by simp only[maxLen];omega) (eu E) (by rw[he];simp only[wu,eu,cO];rfl);refine VL.kE fJ kj ?_;refine ae @fD ?_;exact aD.next (i+1,.own O8.next 4) ⟨cj.dW (bG.trans fE) YS (cj.after YS),App.after (Nat.le_trans bG.next fE.next),jd⟩ (hl:=(by dsimp only;rw[hsx,dH,List.length_append,ax,ax,List.append_nil];rfl))
 intro tx O5 bG;have h5:=h7.ge bG;refine ae @fD ?_;refine ah.rt (qO K tk kO (X.map fV) tx h5.2.1 h5.1.next (by omega) (by rw[List.length_map];omega)) ?_;rintro _ O6 ⟨tb,rfl,g6⟩;have h6:=h5.trans g6;have uv:=oY K kO (X.map fV);have BX:eD ⟨g,a,v,t,c,s,o,X⟩= .mk kH [] (iW K kO (X.map fV)) []:=by rw[<-hKd];rfl
 generalize iW K kO (X.map fV)=K9 at*;have YT:=aR.trans (eg.dW App.nil h6);have nw:=cL.ge YT;refine ae @fD ?_;obtain⟨mE,fJ,kj⟩:=fy (n:=A.length) (cs:=ax A) (ds:=[.str kH,.sl 0 [] .nil,.sl K9.length (ax K9) tb,.str []]) (es:=cO (eD ⟨g,a,v,t,c,s,o,X⟩)) nv sJ.1.1 nw (cH A) rfl rfl (by decide) (by omega) (by simp only[maxLen];omega) (eu A) (by rw[BX];simp only[wu,eu,cO];rfl);refine VL.kE fJ kj ?_;refine ae @fD ?_;refine WC.sound aa (ae @fD ?_);exact aD.next (j+1,.own O6.next 4) ⟨cj.dW (az.trans YT) nw (cj.after nw),App.after (Nat.le_trans az.next YT.next),h2⟩ (hl:=(by dsimp only;rw[iz,dH,List.length_append,ax,ax,List.append_nil];rfl))
set_option linter.defProp false in
def dq:=And.intro fD<|And.intro Li<|And.intro IB Bv
abbrev uw:Bs:=[112,97,114,101,110,116]
abbrev wM:Bs:=[112,97,99,107,97,103,105,110,103]
abbrev ko:Bs:=[112,114,111,112,101,114,116,105,101,115]
abbrev qP:Bs:=[100,101,112,101,110,100,101,110,99,121,77,97,110,97,103,101,109,101,110,116]
abbrev fP:Bs:=[112,114,111,106,101,99,116]
def DR (p:Pm):List Nd:=if p.hp then iW [] uw (bL (bL (bL [] dC p.par.g) dm p.par.a) eU p.par.v)else[]
def IK (p:Pm):List Nd:=bL (bL (bL (bL (DR p) dC p.g) dm p.a) eU p.v) wM p.pk
def gu (x:Bs×Bs):Nd:=.mk x.1 [] (if x.2=[]then[]else[.mk [] [] [] x.2]) []
def e_ (p:Pm):Nd:=.mk fP [] (nj (iW (iW (IK p) ko (p.props.map gu)) qP (nj [] p.dT)) p.dL) []
theorem Lq (L:List Nd) (D:List Dp):(nj L D).length<=L.length+1:=oY _ _ _
theorem YU {O:VH} (p:Pm) (hP:p.props.length<=10000) (hM:p.dT.length<=10000) (hD:p.dL.length<=10000) (hx:∀d∈p.dT++p.dL,d.x.length<=10000):VF Tryz.prog 52 [.agg (fI p)] O (aL fun m O'=>m= .agg (cO (e_ p))/\O.Ge O'):=by
 refine VF.fg ?_;obtain⟨hp,⟨pg,pa,pv⟩,g,a,v,pk,P,M,D⟩:=p;dsimp only at hP hM hD hx;have hPl:=aX eM P;simp only[fI];refine VF.bX 76 [.cell 2 137] Tryz.func52 ?_;refine VC.ag aa (ae @dq ?_);refine VC.bx ?_;rintro O1 ⟨aT,bO,dd⟩;have hk:O1.hp O.next=some (.cells [mb hp,.str pg,.str pa,.str pv,.str g,.str a,.str v,.str pk,.sl P.length (P.flatMap aW) .ar,.sl M.length (M.flatMap aF) .ar,.sl D.length (D.flatMap aF) .ar]):=(aT.hp _ (Nat.lt_succ_self _)).trans (VH.aZ _ _)
 replace bO:O1.hp (O.next+1)=some (.cells [.str [],.sl 0 [] .nil,.sl 0 [] .nil,.str []]):=bO
 have ny:=((VH.Ge.refl O).push _).trans aT;have hn0:O1.next=O.next+2:=dd;simp only[a_]at hk;clear aT dd;have h0:eg O1 O1.next 4 .nil O1 .nil:=eg.refl App.nil;refine VC.ag aa (ae @dq ?_);have dE:(DR ⟨hp,⟨pg,pa,pv⟩,g,a,v,pk,P,M,D⟩).length<=1:=by unfold DR;split;exact oY _ _ _;simp
 have hh:IK ⟨hp,⟨pg,pa,pv⟩,g,a,v,pk,P,M,D⟩=bL (bL (bL (bL (DR ⟨hp,⟨pg,pa,pv⟩,g,a,v,pk,P,M,D⟩) dC g) dm a) eU v) wM pk:=rfl;have hw:e_ ⟨hp,⟨pg,pa,pv⟩,g,a,v,pk,P,M,D⟩= .mk fP [] (nj (iW (iW (IK ⟨hp,⟨pg,pa,pv⟩,g,a,v,pk,P,M,D⟩) ko (P.map gu)) qP (nj [] M)) D) []:=rfl;have hpp:DR ⟨hp,⟨pg,pa,pv⟩,g,a,v,pk,P,M,D⟩=if hp then iW [] uw (bL (bL (bL [] dC pg) dm pa) eU pv)else[]:=rfl
 rw[hh]at hw;clear hh;generalize e_ ⟨hp,⟨pg,pa,pv⟩,g,a,v,pk,P,M,D⟩=W at*;generalize DR ⟨hp,⟨pg,pa,pv⟩,g,a,v,pk,P,M,D⟩=K0 at*;refine VC.bz [1,2,3,4] (fun tk:aC=>[.ptr O.next 0,.ptr (O.next+1) 0,.sl K0.length (ax K0) tk,.sl 0 [] .nil]) (fun tk O'=>eg O1 O1.next 4 .nil O' tk) ?_ ?_
 ·cases hp
  ·refine VC.ag aa (ao @dq @hk ?_);rw[hpp];refine WC.sound aa (ae @dq ?_);exact ay.mk .nil h0
  ·refine VC.ag aa (ao @dq @hk ?_);rw[hpp];refine WC.sound aa (ae @dq ?_);refine VC.m4 [] ?_;refine ab.av 0 ?_;refine ae @dq ?_;refine ab.av 1 ?_;refine ae @dq ?_;refine ab.av 2 ?_;refine ae @dq ?_;refine ab.ld (m:=.str pg) 3 ?_ ?_
   ·exact dz @dq @hk
   simp only[aj];refine ab.av 5 ?_;refine ae @dq ?_;refine ab.av 6 ?_;refine ae @dq ?_;refine ab.ld (m:=.str pa) 7 ?_ ?_
   ·exact dz @dq @hk
   simp only[aj];refine ab.av 9 ?_;refine ae @dq ?_;refine ab.av 10 ?_;refine ae @dq ?_;refine ab.ld (m:=.str pv) 11 ?_ ?_
   ·exact dz @dq @hk
   simp only[aj];refine ab.call (i:=4) (fA [] .nil dC pg (App.nil (B:=O1.next)) (Nat.le_refl _) (by simp)) ?_;rintro _ O2 ⟨t2,rfl,g2⟩;simp only[aj];have l2:=cP [] dC pg;generalize bL [] dC pg=E1 at*;simp only[List.length_nil]at l2;refine⟨eg.dW App.nil g2,?_⟩;refine ab.call (i:=8) (fA E1 t2 dm pa g2.2.1 g2.1.next (by omega)) ?_;rintro _ O3 ⟨t3,rfl,g3⟩;simp only[aj];have l3:=cP E1 dm pa;generalize bL E1 dm pa=E2 at*
   replace g3:=g2.trans g3
   refine⟨eg.dW App.nil g3,?_⟩;refine ab.call (i:=12) (fA E2 t3 eU pv g3.2.1 g3.1.next (by omega)) ?_;rintro _ O4 ⟨t4,rfl,g4⟩;simp only[aj];have l4:=cP E2 eU pv;generalize bL E2 eU pv=E3 at*
   replace g4:=g3.trans g4
   refine⟨eg.dW App.nil g4,?_⟩;refine ab.call (i:=13) (qO [] .nil uw E3 t4 (App.nil (B:=O4.next)) (Nat.le_refl _) (by simp) (by omega)) ?_;rintro _ O5 ⟨t5,rfl,g5⟩;simp only[aj];refine⟨(eg.dW App.nil g4).trans (eg.dW App.nil g5),?_⟩;refine ab.av 14 ?_;refine ae @dq ?_;refine ab.bM [] ?_;refine ae @dq ?_;exact ay.mk t5 (eg.fresh (eg.dW App.nil g4) g5)
 intro tk O2 h2;have gK:=(eg.dW App.nil h2).hp;have hn:=h2.1.next;clear hpp;refine VC.ag aa (aM @dq @hk @gK ?_);refine ah.rt (fA K0 _ dC g h2.2.1 h2.1.next (by first | omega | simp)) ?_;rintro _ OA ⟨t1,rfl,gw⟩;have h3:=h2.trans gw;have l1:=cP K0 dC g;clear gw;generalize eK1:bL K0 dC g=K1 at*;have gK:=(eg.dW App.nil h3).hp;have hn:=h3.1.next;try simp only[List.length_nil]at l1
 refine ae @dq ?_;refine VC.ag aa (aM @dq @hk @gK ?_);refine ah.rt (fA K1 _ dm a h3.2.1 h3.1.next (by first | omega | simp)) ?_;rintro _ OB ⟨t2,rfl,gw⟩;have h4:=h3.trans gw;have l2:=cP K1 dm a;clear gw;generalize eK2:bL K1 dm a=K2 at*;have gK:=(eg.dW App.nil h4).hp;have hn:=h4.1.next;try simp only[List.length_nil]at l2
 refine ae @dq ?_;refine VC.ag aa (aM @dq @hk @gK ?_);refine ah.rt (fA K2 _ eU v h4.2.1 h4.1.next (by first | omega | simp)) ?_;rintro _ OC ⟨t3,rfl,gw⟩;have h5:=h4.trans gw;have l3:=cP K2 eU v;clear gw;generalize eK3:bL K2 eU v=K3 at*;have gK:=(eg.dW App.nil h5).hp;have hn:=h5.1.next;try simp only[List.length_nil]at l3
 refine ae @dq ?_;refine VC.ag aa (aM @dq @hk @gK ?_);refine ah.rt (fA K3 _ wM pk h5.2.1 h5.1.next (by first | omega | simp)) ?_;rintro _ OD ⟨t4,rfl,gw⟩;have h6:=h5.trans gw;have l4:=cP K3 wM pk;clear gw;generalize eK4:bL K3 wM pk=K4 at*;have gK:=(eg.dW App.nil h6).hp;have hn:=h6.1.next;try simp only[List.length_nil]at l4
 refine ae @dq ?_;clear eK1 eK2 eK3 eK4;refine VC.bz [1,2,3,4] (fun tp:aC=>[.ptr O.next 0,.ptr (O.next+1) 0,.sl K4.length (ax K4) t4,.sl (P.map gu).length (ax (P.map gu)) tp]) (fun tp O'=>OD.Ge O') ?_ ?_
 ·refine VC.ag aa (aM @dq @hk @gK ?_);refine VC.aB ?_;refine VC.bE [4,43] [1,2,3,41,42] (fun x:Nat×aC=>[.sl ((P.take x.1).map gu).length (ax ((P.take x.1).map gu)) x.2,mi x.1]) (fun x O'=>OD.Ge O'/\App O' OD.next 4 x.2/\x.1<=P.length) (fun x=>P.length - x.1) ((0,.nil)) ?_ ?_
  ·exact⟨VH.Ge.refl _,trivial,Nat.zero_le _⟩
  rintro⟨j,tp⟩ O3 ⟨aR,cL,hj⟩;dsimp only at cL hj ⊢;by_cases bm:j<P.length;rotate_left
  ·obtain rfl:j=P.length:=by omega
   rw[List.take_length];refine WC.sound aa (ae @dq ?_);exact ay.mk tp aR
  have bI:=cV eM P j bm;have iz:(P.take (j+1)).map gu=(P.take j).map gu++[gu P[j]]:=by rw[cG _ _ bm,List.map_append];rfl
  have FZ:((P.take j).map gu).length<=10000:=by rw[List.length_map,List.length_take];omega
  generalize P[j]=y at*;generalize (P.take j).map gu=E at*;obtain⟨yn,yv⟩:=y;simp only[aW]at bI;refine VC.ag aa (ae @dq ?_);refine VC.ag aa (ae @dq ?_);refine VC.bu (VC.aB ?_);refine VC.ag aa (ao @dq @bI ?_);refine VC.al ?_;rintro O4 ⟨bj,lS,ic⟩;refine VC.ag aa (ao @dq @lS ?_);refine VC.al ?_;rintro O5 ⟨bG,xc,gf⟩;have hkz:O5.hp O3.next=some (.cells [.str yn,.str yv]):=bG.at lS;have jF:=(cL.ge bj).ge bG;have DT:=(aR.trans bj).trans bG;cases yv with
  | nil=>
    refine WC.sound aa (dB @dq @hkz (show(([]:List UInt8)==[])=true from rfl) @xc ?_);obtain⟨mE,fJ,kj⟩:=fy (n:=E.length) (cs:=ax E) (ds:=[.str yn,.sl 0 [] .nil,.sl 0 [] .nil,.str []]) (es:=cO (gu (yn,[]))) nv sJ.1.1 jF (cH E) rfl rfl (by decide) (by omega) (by simp only[maxLen];omega) (eu E) (by simp only[wu,gu,cO,if_true,List.length_nil,List.flatMap_nil,ax]);refine VL.kE fJ kj ?_;refine ae @dq ?_;refine WC.sound aa (ae @dq ?_);exact aD.next (j+1,.own O5.next 4) ⟨cj.dW DT jF (cj.after jF),App.after DT.next,bm⟩ (hl:=(by dsimp only;rw[iz,dH,List.length_append,ax,ax,List.append_nil];rfl))
  | cons c yv=>
    refine WC.sound aa (dB @dq @hkz (show((c::yv)==[])=false from rfl) @xc ?_);have nw:=jF.set (x:=.cells [.str yn,.sl 0 [] .nil,.sl 1 [.str [],.sl 0 [] .nil,.sl 0 [] .nil,.str (c::yv)] .full,.str []]) xc;have ad5:=DT.set (k:=O4.next) (by have:=aR.next;omega) (.cells [.str yn,.sl 0 [] .nil,.sl 1 [.str [],.sl 0 [] .nil,.sl 0 [] .nil,.str (c::yv)] .full,.str []]);generalize O5.set O4.next (.cells [.str yn,.sl 0 [] .nil,.sl 1 [.str [],.sl 0 [] .nil,.sl 0 [] .nil,.str (c::yv)] .full,.str []])=O6 at*;obtain⟨mE,fJ,kj⟩:=fy (n:=E.length) (cs:=ax E) (ds:=[.str yn,.sl 0 [] .nil,.sl 1 [.str [],.sl 0 [] .nil,.sl 0 [] .nil,.str (c::yv)] .full,.str []]) (es:=cO (gu (yn,c::yv))) nv sJ.1.1 nw (cH E) rfl rfl (by decide) (by omega) (by simp only[maxLen];omega) (eu E) (by simp only[wu,gu,cO,if_neg (List.cons_ne_nil c yv),List.length_nil,List.length_cons,List.flatMap_nil,ax,List.append_nil,Nat.zero_add]);refine VL.kE fJ kj ?_;refine ae @dq ?_;refine WC.sound aa (ae @dq ?_);exact aD.next (j+1,.own O6.next 4) ⟨cj.dW ad5 nw (cj.after nw),App.after ad5.next,bm⟩ (hl:=(by dsimp only;rw[iz,dH,List.length_append,ax,ax,List.append_nil];rfl))
 intro tp O3 aR;have h7:=h6.ge aR;clear gK hn;have gK:=(eg.dW App.nil h7).hp;have hn:=h7.1.next;refine VC.ag aa (ae @dq ?_);refine ah.rt (qO K4 t4 ko (P.map gu) tp h7.2.1 h7.1.next (by omega) (by rw[List.length_map];omega)) ?_;rintro _ O4 ⟨t5,rfl,g8⟩;have h8:=h7.trans g8;have l5:=oY K4 ko (P.map gu);generalize iW K4 ko (P.map gu)=K5 at*;have ahD:=(eg.dW App.nil h8).hp;have DU:=h8.1.next;refine ae @dq ?_;refine VC.ag aa (aM @dq @hk @ahD ?_);refine ah.rt (ze [] .nil M .ar (App.nil (B:=O4.next)) (Nat.le_refl _) (by simp) hM (fun d hd=>hx d (List.mem_append_left _ hd))) ?_;rintro _ O5 ⟨t6,rfl,g9⟩;have l6:=Lq [] M;generalize nj [] M=K6 at*;simp only[List.length_nil]at l6;have h9:=h8.ge (eg.dW App.nil g9);refine ae @dq ?_;refine ah.rt (qO K5 t5 qP K6 t6 h9.2.1 h9.1.next (by omega) (by omega)) ?_;rintro _ O6 ⟨t7,rfl,g10⟩;have w_:=h9.trans g10;have l7:=oY K5 qP K6;generalize iW K5 qP K6=K7 at*;have afV:=(eg.dW App.nil w_).hp;have Hd:=w_.1.next;refine ae @dq ?_;refine VC.ag aa (aM @dq @hk @afV ?_);refine ah.rt (ze K7 t7 D .ar w_.2.1 w_.1.next (by omega) hD (fun d hd=>hx d (List.mem_append_right _ hd))) ?_;rintro _ O7 ⟨t8,rfl,g11⟩;have h11:=w_.trans g11;generalize nj K7 D=K8 at*;have afW:=(eg.dW App.nil h11).hp;have YV:=h11.1.next;have dA:=(afW _ (by omega)).trans bO;refine ao @dq @dA ?_;refine WC.sound aa (ao @dq @eu ?_);exact⟨by rw[hw,cO];rfl,(ny.trans (eg.dW App.nil h11)).set (by omega) _⟩
set_option linter.defProp false in
def cZ:=And.intro yU<|And.intro dq<|And.intro adY<|And.intro DM<|And.intro ad1 T34
theorem eK.trans {O O1 O2:VH} {b:Nat} {q q1 q2:Option Nat} (h:eK O b q O1 q1) (k:eK O1 b q1 O2 q2):eK O b q O2 q2:=
 ⟨Nat.le_trans h.next k.next,fun i hi hb hq=>by rw[k.hp i (Nat.lt_of_lt_of_le hi h.next) hb (h.new i hi hq),h.hp i hi hb hq],fun i hi hq=>k.new i (Nat.lt_of_lt_of_le hi h.next) (h.new i hi hq)⟩
theorem eK.l0 {O O1:VH} {b:Nat} {q:Option Nat} (h:O.Ge O1):eK O b q O1 q:=⟨h.next,fun i hi _ _=>h.hp i hi,fun _ _ hq=>hq⟩
theorem fx.ge {O O':VH} {B b:Nat} {q:Option Nat} {s:List UInt8} (h:fx O B b q s) (u:O.Ge O'):fx O' B b q s:=h.Dz (bk.l0 u)
theorem eK.y_ {O O1 O2:VH} {b:Nat} {q:Option Nat} (h:O.Ge O1) (u:eK O1 b none O2 q) (hb:O.next<=b):O.Ge O2:=u.ge h hb (fun _ e=>by cases e)
theorem VH.Ge.RG {O O1 O2:VH} {q:Option Nat} (h:O.Ge O1) (u:bk O1 q O2) (hq:∀i,q=some i->O.next<=i):O.Ge O2:=⟨Nat.le_trans h.next u.next,fun i hi=>(u.hp i (Nat.lt_of_lt_of_le hi h.next) (fun e=>by have:=hq i e;omega)).trans (h.hp i hi)⟩
def oc (attr:Bool) (c:UInt8):Bs:=
 if c=38 then[38,97,109,112,59]else if c=60 then[38,108,116,59]else if c=62 then[38,103,116,59]else if c=13 then[38,35,49,51,59]
 else if attr&&c==34 then[38,113,117,111,116,59]else if attr&&c==9 then[38,35,57,59]else if attr&&c==10 then[38,35,49,48,59]else[c]
def lH (attr:Bool) (s:Bs):Bs:=s.flatMap (oc attr)
theorem UM (attr:Bool) (c:UInt8):(oc attr c).length<=6:=by
 unfold oc;repeat' split
 all_goals simp
theorem m6 (attr:Bool) (s:Bs):(lH attr s).length<=6*s.length:=by
 induction s with
 | nil=>simp[lH]
 | cons c s ih=>
   have:=UM attr c;unfold lH at ih ⊢;rw[List.flatMap_cons,List.length_append,List.length_cons];omega
theorem Aq (s:Bs) (attr:Bool) (O:VH) (hs:s.length<=1000000):VF Tryz.prog 98 [.str s,mb attr] O (aL fun m O'=>m= .str (lH attr s)/\O.Ge O'):=by
 have hsm:s.length<=maxLen:=Nat.le_trans hs (by decide);have hm:(s.length:Int)<=9223372036854775807:=by omega
 refine VF.db 56 [.tmp 4] Tryz.func98 ?_;refine ae @cZ ?_;have wh:=fx.fresh O (Nat.le_refl O.next);have mO:O.Ge ((O.push (.cells [.v (.pointer none),.sl 0 [] .nil])).push (.shape O.next 209 2)):=((VH.Ge.refl O).push _).push _;generalize ((O.push (.cells [.v (.pointer none),.sl 0 [] .nil])).push (.shape O.next 209 2))=O1 at*;refine VL.bytes aa (el:=5) (l:=s) rfl rfl (by rw[T9];rfl) (by rw[pY];rfl) (by rw[T5];rfl) hsm rfl fun cap h1 h2=>WL.sound aa ?_
 have we:=VH.aZ O1 (.cells (s.map eV));have aT:=(VH.Ge.refl O1).push (.cells (s.map eV));have dd:O1.next<(O1.push (.cells (s.map eV))).next:=Nat.lt_succ_self _;have uv:=wh.hi;have cg:=wh.ge aT;have sX:eK O1 O.next none (O1.push (.cells (s.map eV))) none:=eK.l0 aT;generalize O1.push (.cells (s.map eV))=O2 at*;refine ae @cZ ?_;refine WC.iw [11] [1,5,9,10] (fun x:Nat×Option Nat=>[mi x.1]) (fun x O'=>eK O2 O.next none O' x.2/\fx O' O.next O.next x.2 (lH attr (s.take x.1))/\x.1<=s.length) (fun x=>s.length - x.1) ((0,none)) ?_ ?_
 ·exact⟨eK.l0 (VH.Ge.refl _),cg,Nat.zero_le _⟩
 rintro⟨j,q⟩ O3 ⟨hu,hb,hj⟩;dsimp only at hu hb hj ⊢;have B4:=(hu.hp O1.next dd (by omega) (by simp)).trans we;by_cases h3:j<s.length
 ·have qN:=List.getElem?_eq_getElem h3;have iz:lH attr (s.take (j+1))=lH attr (s.take j)++oc attr s[j]:=by unfold lH;rw[cG _ _ h3,List.flatMap_append,List.flatMap_cons,List.flatMap_nil,List.append_nil]
  have cw:(lH attr (s.take j)).length<=6000000:=by have:=m6 attr (s.take j);rw[List.length_take]at this;omega
  generalize lH attr (s.take j)=T at*;generalize s[j]=c at*;have hc:=c.toNat_lt;have key:∀(l:Bs) (q':Option Nat) (O4:VH),oc attr c=l->fx O4 O.next O.next q' (T++l)->eK O3 O.next q O4 q'->eK O2 O.next none O4 q'/\fx O4 O.next O.next q' (lH attr (s.take (j+1)))/\j+1<=s.length:=fun l q' O4 e h k=>⟨hu.trans k,by rw[iz,e];exact h,h3⟩
  have IL:c=38 ↔ c.toNat=38:=⟨fun h=>by rw[h];rfl,fun h=>UInt8.toNat_inj.1 h⟩;have Lr:c=60 ↔ c.toNat=60:=⟨fun h=>by rw[h];rfl,fun h=>UInt8.toNat_inj.1 h⟩;have Pu:c=62 ↔ c.toNat=62:=⟨fun h=>by rw[h];rfl,fun h=>UInt8.toNat_inj.1 h⟩;have DV:c=13 ↔ c.toNat=13:=⟨fun h=>by rw[h];rfl,fun h=>UInt8.toNat_inj.1 h⟩;have e34:c=34 ↔ c.toNat=34:=⟨fun h=>by rw[h];rfl,fun h=>UInt8.toNat_inj.1 h⟩;have e9:c=9 ↔ c.toNat=9:=⟨fun h=>by rw[h];rfl,fun h=>UInt8.toNat_inj.1 h⟩;have qQ:c=10 ↔ c.toNat=10:=⟨fun h=>by rw[h];rfl,fun h=>UInt8.toNat_inj.1 h⟩;by_cases YW:c.toNat=38
  ·refine dB @cZ @qN @B4 @aE ?_;refine ah.rt (bB [38,97,109,112,59] hb (by simp only[List.length_cons,List.length_nil];omega)) ?_;rintro _ O4 ⟨rfl,q',cC,eN⟩;refine ae @cZ ?_;exact aD.next (j+1,q') (key _ _ _ (by simp[oc,IL,YW]) cC eN)
  by_cases B5:c.toNat=60
  ·refine dB @cZ @qN @B4 @aE ?_;refine ah.rt (bB [38,108,116,59] hb (by simp only[List.length_cons,List.length_nil];omega)) ?_;rintro _ O4 ⟨rfl,q',cC,eN⟩;refine ae @cZ ?_;exact aD.next (j+1,q') (key _ _ _ (by simp[oc,IL,Lr,B5]) cC eN)
  by_cases h62:c.toNat=62
  ·refine dB @cZ @qN @B4 @aE ?_;refine ah.rt (bB [38,103,116,59] hb (by simp only[List.length_cons,List.length_nil];omega)) ?_;rintro _ O4 ⟨rfl,q',cC,eN⟩;refine ae @cZ ?_;exact aD.next (j+1,q') (key _ _ _ (by simp[oc,IL,Lr,Pu,h62]) cC eN)
  by_cases h13:c.toNat=13
  ·refine dB @cZ @qN @B4 @aE ?_;refine ah.rt (bB [38,35,49,51,59] hb (by simp only[List.length_cons,List.length_nil];omega)) ?_;rintro _ O4 ⟨rfl,q',cC,eN⟩;refine ae @cZ ?_;exact aD.next (j+1,q') (key _ _ _ (by simp[oc,IL,Lr,Pu,DV,h13]) cC eN)
  cases attr
  ·refine dB @cZ @qN @B4 @aE ?_;refine ah.rt (rU c hb (by omega)) ?_;rintro _ O4 ⟨rfl,q',cC,eN⟩;refine ae @cZ ?_;exact aD.next (j+1,q') (key _ _ _ (by simp[oc,IL,Lr,Pu,DV,YW,B5,h62,h13]) cC eN)
  by_cases h34:c.toNat=34
  ·refine dB @cZ @qN @B4 @aE ?_;refine ah.rt (bB [38,113,117,111,116,59] hb (by simp only[List.length_cons,List.length_nil];omega)) ?_;rintro _ O4 ⟨rfl,q',cC,eN⟩;refine ae @cZ ?_;exact aD.next (j+1,q') (key _ _ _ (by simp[oc,IL,Lr,Pu,DV,e34,h34]) cC eN)
  by_cases h9:c.toNat=9
  ·refine dB @cZ @qN @B4 @aE ?_;refine ah.rt (bB [38,35,57,59] hb (by simp only[List.length_cons,List.length_nil];omega)) ?_;rintro _ O4 ⟨rfl,q',cC,eN⟩;refine ae @cZ ?_;exact aD.next (j+1,q') (key _ _ _ (by simp[oc,IL,Lr,Pu,DV,e34,e9,h9]) cC eN)
  by_cases w_:c.toNat=10
  ·refine dB @cZ @qN @B4 @aE ?_;refine ah.rt (bB [38,35,49,48,59] hb (by simp only[List.length_cons,List.length_nil];omega)) ?_;rintro _ O4 ⟨rfl,q',cC,eN⟩;refine ae @cZ ?_;exact aD.next (j+1,q') (key _ _ _ (by simp[oc,IL,Lr,Pu,DV,e34,e9,qQ,w_]) cC eN)
  ·refine dB @cZ @qN @B4 @aE ?_;refine ah.rt (rU c hb (by omega)) ?_;rintro _ O4 ⟨rfl,q',cC,eN⟩;refine ae @cZ ?_;exact aD.next (j+1,q') (key _ _ _ (by simp[oc,IL,Lr,Pu,DV,e34,e9,qQ,YW,B5,h62,h13,h34,h9,w_]) cC eN)
 ·obtain rfl:j=s.length:=by omega
  rw[List.take_length]at hb;have Ls:=m6 attr s;refine ae @cZ ?_;refine ah.rt (oV hb (by simp only[maxLen];omega)) ?_;rintro _ O4 ⟨rfl,eN⟩;refine ae @cZ ?_;exact(eK.y_ (mO.trans aT) hu (Nat.le_refl _)).RG eN hb.wL
structure Pv where
 k:Int
 n:Bs
 fe:List (Bs×Bs)
 t:Bs
 off:Nat
 line:Nat
 DW:Nat
 deriving DecidableEq
def DY (x:Pv):List MV:=[mi x.k,.str x.n,.sl x.fe.length (x.fe.flatMap aW) .ar,.str x.t,mi x.off,mi x.line,mi x.DW]
def nS (a:Bs×Bs):Bs:=[32]++a.1++[61,34]++lH true a.2++[34]
def DZ (n:Bs) (L:List (Bs×Bs)) (e:Bs):Bs:=[60]++n++L.flatMap nS++e
theorem D0 (a:Bs×Bs) (h1:a.1.length<=1000000) (h2:a.2.length<=1000000):(nS a).length<=7000004:=by
 have:=m6 true a.2;simp only[nS,List.length_append,List.length_cons,List.length_nil];omega
theorem p4:∀L:List (Bs×Bs),(∀a∈L,a.1.length<=1000000/\a.2.length<=1000000)->(L.flatMap nS).length<=L.length*7000004
 | [],_=>by simp
 | a::L,h=>by
   have h1:=D0 a (h a (by simp)).1 (h a (by simp)).2;have h2:=p4 L fun x hx=>h x (List.mem_cons_of_mem _ hx)
   rw[List.flatMap_cons,List.length_append,List.length_cons,Nat.succ_mul];omega
theorem YX {O:VH} {B b:Nat} {q:Option Nat} {s:Bs} (x:Pv) (e:Bs) (h:fx O B b q s) (hs:s.length<=10000000000000) (hn:x.n.length<=1000000) (he:e.length<=1000000) (hA:∀a∈x.fe,a.1.length<=1000000/\a.2.length<=1000000) (hl:x.fe.length<=1000000):
  VF Tryz.prog 133 [.ptr b 0,.agg (DY x),.str e] O (aL fun m O'=>∃q',fx O' B b q' (s++DZ x.n x.fe e)/\eK O b q O' q'):=by
 obtain⟨k,n,L,t,off,line,DW⟩:=x;dsimp only at hn hA hl;have nP:=aX eM L;simp only[DY];refine VF.bX 35 [] Tryz.func133 ?_;refine VC.ag aa (ae @cZ ?_);refine VC.bx ?_;rintro O1 ⟨aT,hk,dd⟩;have cg:=h.ge aT;try simp only[aq]at hk
 refine VC.ag aa (ao @cZ @hk ?_);refine ah.rt (bB ([60]++n) cg (by simp only[List.length_append,List.length_cons,List.length_nil];omega)) ?_;rintro _ O2 ⟨rfl,q2,b9,cS⟩;have bO:=(cS.hp O.next (by omega) (by have:=h.hi;omega) (h.RE _ (Nat.le_refl _))).trans hk;refine ae @cZ ?_;refine VC.bz [0,2] (fun q:Option Nat=>[.ptr b 0,.str e]) (fun q' O'=>eK O b q O' q'/\fx O' B b q' (s++([60]++n)++L.flatMap nS)) ?_ ?_
 ·refine VC.ag aa (ao @cZ @bO ?_);refine VC.aB ?_;refine VC.bE [16] [0,2,14,15] (fun x:Nat×Option Nat=>[mi x.1]) (fun x O'=>eK O b q O' x.2/\fx O' B b x.2 (s++([60]++n)++(L.take x.1).flatMap nS)/\x.1<=L.length) (fun x=>L.length - x.1) ((0,q2)) ?_ ?_
  ·exact⟨(eK.l0 aT).trans cS,by simpa using b9,Nat.zero_le _⟩
  rintro⟨j,qj⟩ O3 ⟨cA,bZ,hj⟩;dsimp only at cA bZ hj ⊢;by_cases bm:j<L.length;rotate_left
  ·obtain rfl:j=L.length:=by omega
   rw[List.take_length]at bZ;refine WC.sound aa (ae @cZ ?_);exact ay.mk qj ⟨cA,bZ⟩
  have bI:=cV eM L j bm;have iz:(L.take (j+1)).flatMap nS=(L.take j).flatMap nS++nS L[j]:=by rw[cG _ _ bm,List.flatMap_append,List.flatMap_cons,List.flatMap_nil,List.append_nil]
  have pN:=hA L[j] (List.getElem_mem bm);have dE:=D0 L[j] pN.1 pN.2
  have hTl:((L.take j).flatMap nS).length<=7000004000000:=by
   have:=p4 (L.take j) fun a ha=>hA a (List.mem_of_mem_take ha)
   rw[List.length_take]at this;omega
  generalize L[j]=y at*;generalize (L.take j).flatMap nS=T at*;obtain⟨yn,yv⟩:=y;dsimp only at pN;simp only[aW]at bI;refine VC.ag aa (ae @cZ ?_);refine VC.ag aa (ae @cZ ?_);refine VC.bu (VC.aB ?_);refine VC.ag aa (ao @cZ @bI ?_);refine VC.al ?_;rintro O4 ⟨bj,lS,ic⟩;have cC:=bZ.ge bj;refine VC.m4 [10] ?_;refine ab.av 0 ?_;refine ae @cZ ?_;refine ab.av 1 ?_;refine ae @cZ ?_;refine ab.ld (m:=.str yn) 2 ?_ ?_
  ·exact dz @cZ @lS
  simp only[aj];refine ab.av 3 ?_;refine ae @cZ ?_;refine ab.av 4 ?_;refine ae @cZ ?_;refine ab.av 5 ?_;refine ae @cZ ?_;refine ab.ld (m:=.str yv) 6 ?_ ?_
  ·exact dz @cZ @lS
  simp only[aj];refine ab.call (i:=7) (Aq yv true _ pN.2) ?_;rintro _ O5 ⟨rfl,bG⟩;simp only[aj];refine⟨bG,?_⟩;have Ls:=m6 true yv;have hae:nS (yn,yv)=[32]++yn++[61,34]++lH true yv++[34]:=rfl;generalize lH true yv=E at*;refine ab.av 8 ?_;refine ae @cZ ?_;refine ab.av 9 ?_;refine ae @cZ ?_;refine ab.bM [(10,.one)] ?_;refine ae @cZ ?_;refine ah.rt (bB ([32]++yn++[61,34]++E++[34]) (cC.ge bG) (by simp only[List.length_append,List.length_cons,List.length_nil];omega)) ?_;rintro _ O6 ⟨rfl,q6,gH,qm⟩;refine ae @cZ ?_;refine WC.sound aa (ae @cZ ?_);exact aD.next (j+1,q6) ⟨(cA.trans (eK.l0 (bj.trans bG))).trans qm,by rw[iz,hae, <-List.append_assoc];exact gH,bm⟩
 rintro q3 O3 ⟨cA,bZ⟩;have hTl:=p4 L hA;refine WC.sound aa (ae @cZ ?_);refine ah.rt (bB e bZ (by simp only[List.length_append,List.length_cons,List.length_nil];omega)) ?_;rintro _ O4 ⟨rfl,q4,cC,eN⟩;refine ae @cZ ?_;refine⟨q4,?_,cA.trans eN⟩;simpa[DZ,List.append_assoc]using cC
def xp (x:Pv):Bs:=
 if x.k=5 then[60,33,45,45]++x.t++[45,45,62]else if x.k=6 then[60,63,120,109,108]++x.t++[63,62]else if x.k=3 then[60,47]++x.n++[62]
 else if x.k=1 then DZ x.n x.fe [62]else if x.k=2 then DZ x.n x.fe [47,62]else if x.k=4 then lH false x.t else[]
structure Pw (x:Pv):Prop where
 n:x.n.length<=1000000
 t:x.t.length<=1000000
 a:∀a∈x.fe,a.1.length<=1000000/\a.2.length<=1000000
 l:x.fe.length<=1000000
theorem He (n:Bs) (L:List (Bs×Bs)) (e:Bs) (hn:n.length<=1000000) (he:e.length<=10) (hA:∀a∈L,a.1.length<=1000000/\a.2.length<=1000000) (hl:L.length<=1000000):(DZ n L e).length<=8000000000000:=by
 have:=p4 L hA;simp only[DZ,List.length_append,List.length_cons,List.length_nil];omega
theorem Lt (x:Pv) (h:Pw x):(xp x).length<=8000000000000:=by
 have h1:=h.n;have h2:=h.t;have h3:=He x.n x.fe [62] h.n (by simp) h.a h.l;have h4:=He x.n x.fe [47,62] h.n (by simp) h.a h.l;have h5:=m6 false x.t;unfold xp;repeat' split
 all_goals first | omega | (simp only[List.length_append,List.length_cons,List.length_nil];omega)
theorem UN {O:VH} (x:Pv) (tk:aC) (h:Pw x):VF Tryz.prog 99 [.sl 1 (DY x) tk] O (aL fun m O'=>m= .str (xp x)/\O.Ge O'):=by
 have dE:=Lt x h;have hn:=h.n;have ht:=h.t;have wj:∀l:Bs,l.length<=3000000->l.length<=140737488355328:=fun l h=>by omega
 have bI:(DY x++[]).length=7:=rfl;obtain⟨k,n,L,t,off,line,DW⟩:=x;dsimp only at hn ht;refine VF.bX 51 [.tmp 2] Tryz.func99 ?_;simp only[DY];refine VC.ag aa (ae @cZ ?_);refine VC.ag aa (ae @cZ ?_);have wh:=fx.fresh O (Nat.le_refl O.next);have mO:O.Ge ((O.push (.cells [.v (.pointer none),.sl 0 [] .nil])).push (.shape O.next 209 2)):=((VH.Ge.refl O).push _).push _;generalize ((O.push (.cells [.v (.pointer none),.sl 0 [] .nil])).push (.shape O.next 209 2))=O1 at*;refine VC.bz [3] (fun q:Option Nat=>[.ptr O.next 0]) (fun q O'=>O.Ge O'/\fx O' O.next O.next q (xp ⟨k,n,L,t,off,line,DW⟩)) ?_ ?_;rotate_left
 ·rintro q O2 ⟨az,b9⟩;refine WC.sound aa (ae @cZ ?_);refine ah.rt (oV b9 (by simp only[maxLen];omega)) ?_;rintro _ O3 ⟨rfl,cA⟩;refine ae @cZ ?_;exact az.RG cA b9.wL
 refine VC.ag aa (ae @cZ ?_);refine VC.aB ?_;refine VC.bE [8] [3,6,7] (fun x:Bool×Option Nat=>[mi (if x.1 then 1 else 0)]) (fun x O'=>O.Ge O'/\fx O' O.next O.next x.2 (if x.1 then xp ⟨k,n,L,t,off,line,DW⟩else[])) (fun x=>if x.1 then 0 else 1) ((false,none)) ?_ ?_
 ·exact⟨mO,wh⟩
 rintro⟨j,q⟩ O2 ⟨az,b9⟩;dsimp only at b9 ⊢;cases j;rotate_left
 ·rw[if_pos rfl]at b9 ⊢;refine WC.sound aa (ae @cZ ?_);exact ay.mk q ⟨az,b9⟩
 rw[if_neg (by decide)]at b9 ⊢;refine VC.ag aa (ae @cZ ?_);refine VC.ag aa (ae @cZ ?_);refine VC.bu (VC.aB ?_);refine VC.ag aa (ae @cZ ?_);refine VC.al ?_;rintro O3 ⟨aR,hk,gW⟩;have bZ:=b9.ge aR;have fin:∀(l:Bs) (q':Option Nat) (O4:VH),xp ⟨k,n,L,t,off,line,DW⟩=l->fx O4 O.next O.next q' ([]++l)->eK O3 O.next q O4 q'->O.Ge O4/\fx O4 O.next O.next q' (xp ⟨k,n,L,t,off,line,DW⟩):=fun l q' O4 e h k=>⟨k.ge (az.trans aR) (Nat.le_refl _) bZ.wL,by rw[e];exact h⟩
 by_cases h5:k=5
 ·subst h5;refine WC.sound aa (ao @cZ @hk ?_);refine ah.rt (bB ([60,33,45,45]++t++[45,45,62]) bZ (by simp only[List.length_append,List.length_cons,List.length_nil];omega)) ?_;rintro _ O4 ⟨rfl,q',cC,eN⟩;refine ae @cZ ?_;refine WC.sound aa (ae @cZ ?_);exact aD.next (true,q') (fin _ _ _ rfl cC eN) (hm:=Nat.zero_lt_one)
 by_cases h6:k=6
 ·subst h6;refine WC.sound aa (ao @cZ @hk ?_);refine ah.rt (bB ([60,63,120,109,108]++t++[63,62]) bZ (by simp only[List.length_append,List.length_cons,List.length_nil];omega)) ?_;rintro _ O4 ⟨rfl,q',cC,eN⟩;refine ae @cZ ?_;refine WC.sound aa (ae @cZ ?_);exact aD.next (true,q') (fin _ _ _ rfl cC eN) (hm:=Nat.zero_lt_one)
 by_cases h3:k=3
 ·subst h3;refine WC.sound aa (ao @cZ @hk ?_);refine ah.rt (bB ([60,47]++n++[62]) bZ (by simp only[List.length_append,List.length_cons,List.length_nil];omega)) ?_;rintro _ O4 ⟨rfl,q',cC,eN⟩;refine ae @cZ ?_;refine WC.sound aa (ae @cZ ?_);exact aD.next (true,q') (fin _ _ _ rfl cC eN) (hm:=Nat.zero_lt_one)
 by_cases h1:k=1
 ·subst h1;refine WC.sound aa (ao @cZ @hk ?_);refine ah.rt (YX ⟨1,n,L,t,off,line,DW⟩ [62] bZ (by simp) hn (by simp) h.a h.l) ?_;rintro _ O4 ⟨q',cC,eN⟩;refine ae @cZ ?_;refine WC.sound aa (ae @cZ ?_);exact aD.next (true,q') (fin _ _ _ rfl cC eN) (hm:=Nat.zero_lt_one)
 by_cases h2:k=2
 ·subst h2;refine WC.sound aa (ao @cZ @hk ?_);refine ah.rt (YX ⟨2,n,L,t,off,line,DW⟩ [47,62] bZ (by simp) hn (by simp) h.a h.l) ?_;rintro _ O4 ⟨q',cC,eN⟩;refine ae @cZ ?_;refine WC.sound aa (ae @cZ ?_);exact aD.next (true,q') (fin _ _ _ rfl cC eN) (hm:=Nat.zero_lt_one)
 by_cases h4:k=4
 ·subst h4;have Ls:=m6 false t;refine WC.sound aa (ao @cZ @hk ?_);refine ah.rt (Aq t false _ ht) ?_;rintro _ O4 ⟨rfl,bj⟩;refine ae @cZ ?_;refine ah.rt (bB (lH false t) (bZ.ge bj) (by simp only[List.length_nil];omega)) ?_;rintro _ O5 ⟨rfl,q',cJ,pO⟩;refine ae @cZ ?_;refine WC.sound aa (ae @cZ ?_);exact aD.next (true,q') (fin _ _ _ rfl cJ ((eK.l0 bj).trans pO)) (hm:=Nat.zero_lt_one)
 ·have fm:xp ⟨k,n,L,t,off,line,DW⟩=[]:=by simp[xp,h1,h2,h3,h4,h5,h6]
  refine WC.sound aa (ao @cZ @hk ?_);refine WC.sound aa (ae @cZ ?_);exact aD.next (true,q) (fin _ _ _ fm (by simpa using bZ) (eK.l0 (VH.Ge.refl _))) (hm:=Nat.zero_lt_one)
theorem ahE:ea Tryz.t210.desc=false:=by kernel_rfl
set_option linter.defProp false in
def eb:=And.intro cZ<|And.intro ahc ahE
mutual
def dI:Nd->Nat
 | .mk _ _ k _=>1+bH k
def bH:List Nd->Nat
 | []=>0
 | x::r=>dI x+bH r
end
theorem D1 (n:Bs) (a:List (Bs×Bs)) (k:List Nd) (t:Bs):dI (.mk n a k t)=1+bH k:=by rw[dI]
mutual
def zf:Nd->Prop
 | .mk n a k t=>n.length<=1000000/\t.length<=1000000/\(∀x∈a,x.1.length<=1000000/\x.2.length<=1000000)/\a.length<=1000000/\k.length<=1000000/\rW k
def rW:List Nd->Prop
 | []=>True
 | x::r=>zf x/\rW r
end
mutual
def bQ:Nd->Bs
 | .mk n a k t=>if n=[]then lH false t else xp ⟨if k.length=0 then 2 else 1,n,a,[],0,0,0⟩++aP k++(if k.length=0 then[]else[60,47]++n++[62])
def aP:List Nd->Bs
 | []=>[]
 | x::r=>bQ x++aP r
end
theorem zg:∀{k:List Nd} {x:Nd},x∈k->dI x<=bH k
 | y::r,x,h=>by
   rw[bH];rcases List.mem_cons.1 h with rfl | h
   ·omega
   ·have:=zg h;omega
theorem D2:∀{k:List Nd} {x:Nd},rW k->x∈k->zf x
 | y::r,x,h,hx=>by
   rw[rW]at h;rcases List.mem_cons.1 hx with rfl | hx
   ·exact h.1
   ·exact D2 h.2 hx
theorem sN (L M:List Nd):aP (L++M)=aP L++aP M:=by
 induction L with
 | nil=>rw[List.nil_append,aP,List.nil_append]
 | cons x L ih=>rw[List.cons_append,aP,aP,ih,List.append_assoc]
theorem oZ (L:List Nd):ax L=L.flatMap cO:=by
 induction L with
 | nil=>rw[ax];rfl
 | cons x L ih=>rw[ax,ih,List.flatMap_cons]
theorem YY:∀(N:Nat) (x:Nd) (O:VH) (B b lk:Nat) (q:Option Nat) (s:Bs),dI x<=N->fx O B b q s->O.hp lk=some (.cells [.func (.func 96) [] [.ptr b 0,.ptr lk 0]])->lk<O.next->lk≠b->q≠some lk->s.length+(bQ x).length<=10000000000000->zf x->
  VF Tryz.prog 96 [.agg (cO x),.ptr b 0,.ptr lk 0] O (aL fun m O'=>∃q',fx O' B b q' (s++bQ x)/\eK O b q O' q')
 | 0,.mk n a k t=>fun O B b lk q s h=>by rw[D1]at h;omega
 | N+1,.mk n a k t=>fun O B b lk q s hN h gC CT hlb o0 hs dD=>by
   rw[D1]at hN;rw[zf]at dD;obtain⟨hn,ht,hA,hAl,mh,hks⟩:=dD;rw[bQ]at hs ⊢;rw[cO];refine VF.bX 48 [] Tryz.func96 ?_;refine VC.ag aa (ae @eb ?_);refine VC.bx ?_;rintro O1 ⟨aT,hk,dd⟩;have cg:=h.ge aT;have ajo:=(aT.hp _ CT).trans gC;cases n with
   | nil=>
     rw[if_pos rfl]at hs ⊢;refine VC.ag aa (aM @eb @hk (show(([]:List UInt8)==[])=true from rfl) ?_);refine ah.rt (Aq t false _ ht) ?_;rintro _ O2 ⟨rfl,az⟩;have Ls:=m6 false t;refine ae @eb ?_;refine ah.rt (bB (lH false t) (cg.ge az) (by omega)) ?_;rintro _ O3 ⟨rfl,q',bZ,cA⟩;refine ae @eb ?_;exact⟨q',bZ,(eK.l0 (aT.trans az)).trans cA⟩
   | cons c n=>
     rw[if_neg (by simp)]at hs ⊢;have hnb:((c::n)==[])=false:=rfl;generalize D3:c::n=nm at*;have tE:Pw ⟨if k.length=0 then 2 else 1,nm,a,[],0,0,0⟩:=⟨hn,by simp,hA,hAl⟩;refine VC.ag aa (aM @eb @hk @hnb ?_);refine VC.ag aa (aM @eb @hk @hnb ?_);refine VC.al ?_;rintro O2 ⟨az,hkt,iK⟩;have bO:=(az.hp O.next (by omega)).trans hk;refine VC.bz [1,2,3,4] (fun _:Unit=>[.ptr b 0,.ptr lk 0,.ptr O.next 0,.ptr O1.next 0]) (fun _ O'=>O.Ge O'/\O'.next=O2.next/\O'.hp O.next=some (.cells (cO (.mk nm a k t)))/\O'.hp O1.next=some (.cells (DY ⟨if k.length=0 then 2 else 1,nm,a,[],0,0,0⟩))) ?_ ?_
     ·have ny:=aT.trans az;by_cases h0:k.length=0
      ·refine VC.ag aa (ao @eb @bO ?_);refine WC.sound aa (ao @eb @h0 ?_);exact ay.mk () ⟨ny,rfl,by rw[bO,cO],by rw[hkt];rfl⟩
      ·have h1:0<k.length:=by omega
       refine VC.ag aa (ao @eb @bO ?_);refine WC.sound aa (ao @eb @hkt ?_);refine ay.mk () ⟨ny.set (by omega) _,rfl,?_,?_⟩
       ·rw[VH.ak _ _ (by omega),bO,cO]
       ·rw[VH.an,if_neg h0];rfl
     rintro⟨⟩ O3 ⟨aR,gW,dA,ad6⟩;have bZ:=h.ge aR;simp only[cO]at dA;generalize hX:(⟨if k.length=0 then 2 else 1,nm,a,[],0,0,0⟩:Pv)=X at*;have sZ:=Lt X tE;simp only[List.length_append]at hs;have hXc:DY X=[mi X.k,.str X.n,.sl X.fe.length (X.fe.flatMap aW) .ar,.str X.t,mi X.off,mi X.line,mi X.DW]:=rfl;rw[hXc,aq,aq,aq,aq]at ad6;refine VC.ag aa (ao @eb @ad6 ?_);refine ah.rt (UN X .full tE) ?_;rintro _ O4 ⟨rfl,bj⟩;refine ae @eb ?_;refine ah.rt (bB (xp X) (bZ.ge bj) (by omega)) ?_;rintro _ O5 ⟨rfl,q5,cJ,pO⟩;have RH:eK O b q O5 q5:=(eK.l0 (aR.trans bj)).trans pO;have gX:=(pO.hp O.next (by have:=bj.next;omega) (by have:=h.hi;omega) (h.RE _ (Nat.le_refl _))).trans (bj.at dA);refine ae @eb ?_;have D4:q5≠some O.next:=pO.new O.next (by have:=bj.next;omega) (h.RE _ (Nat.le_refl _));have gf:O.next<O5.next:=by have:=pO.next;have:=bj.next;omega
     refine VC.bz [1,2,3] (fun q':Option Nat=>[.ptr b 0,.ptr lk 0,.ptr O.next 0]) (fun q' O'=>eK O5 b q5 O' q'/\fx O' B b q' (s++xp X++aP k)) ?_ ?_
     ·refine VC.ag aa (ao @eb @gX ?_);refine VC.aB ?_;refine VC.bE [31] [1,2,3,29,30] (fun x:Nat×Option Nat=>[mi x.1]) (fun x O'=>eK O5 b q5 O' x.2/\fx O' B b x.2 (s++xp X++aP (k.take x.1))/\x.1<=k.length) (fun x=>k.length - x.1) ((0,q5)) ?_ ?_
      ·exact⟨eK.l0 (VH.Ge.refl _),by simpa[aP]using cJ,Nat.zero_le _⟩
      rintro⟨j,qj⟩ O6 ⟨qm,gH,hj⟩;dsimp only at qm gH hj ⊢;by_cases bm:j<k.length;rotate_left
      ·obtain rfl:j=k.length:=by omega
       rw[List.take_length]at gH;refine WC.sound aa (ae @eb ?_);exact ay.mk qj ⟨qm,gH⟩
      have bI:=cV kV k j bm;rw[<-oZ]at bI;have RI:=cH k;have iz:aP (k.take (j+1))=aP (k.take j)++bQ k[j]:=by rw[cG _ _ bm,sN,aP,aP,List.append_nil]
      have mP:(aP k).length=(aP (k.take j)).length+(bQ k[j]).length+(aP (k.drop (j+1))).length:=by
       rw[<-List.length_append, <-iz, <-List.length_append, <-sN,List.take_append_drop]
      have rH:dI k[j]<=N:=by have:=zg (List.getElem_mem bm);omega
      have IM:=D2 hks (List.getElem_mem bm);generalize k[j]=y at*;have xa:=RH.trans qm;have ahF:=(xa.hp lk CT hlb o0).trans gC;have ahG:=xa.new lk CT o0;have ih:=fun OO h1 h2 h3=>YY N y OO B b lk qj (s++xp X++aP (k.take j)) rH h1 h2 h3 hlb ahG (by simp only[List.length_append];omega) IM
      generalize aP (k.take j)=T at*;cases y with
      | mk yn ya yk yt=>
        simp only[cO]at bI ih;refine VC.ag aa (ae @eb ?_);refine VC.ag aa (ae @eb ?_);refine VC.bu (VC.aB ?_);refine VC.ag aa (ao @eb @bI ?_);refine VC.al ?_;rintro O7 ⟨eH,lS,rX⟩;have ad7:=(eH.hp lk (by have:=xa.next;omega)).trans ahF;refine WC.sound aa (aM @eb @lS @ad7 ?_);refine ah.rt (ih O7 (gH.ge eH) ad7 (by have:=xa.next;omega)) ?_;rintro _ O8 ⟨q8,pL,rY⟩;refine ae @eb ?_;refine WC.sound aa (ae @eb ?_);exact aD.next (j+1,q8) ⟨(qm.trans (eK.l0 eH)).trans rY,by rw[iz, <-List.append_assoc];exact pL,bm⟩
     rintro q6 O6 ⟨qm,gH⟩;have pP:=(qm.hp O.next gf (by have:=h.hi;omega) D4).trans gX;have Lu:=RH.trans qm;by_cases h0:k.length=0
     ·rw[if_pos h0];refine WC.sound aa (ao @eb @pP ?_);exact⟨q6,by simpa[List.append_assoc]using gH,Lu⟩
     ·rw[if_neg h0]at hs ⊢;simp only[List.length_append,List.length_cons,List.length_nil]at hs;refine WC.sound aa (ao @eb @pP ?_);refine ah.rt (bB ([60,47]++nm++[62]) gH (by simp only[List.length_append,List.length_cons,List.length_nil];omega)) ?_;rintro _ O7 ⟨rfl,q7,s8,B6⟩;refine ae @eb ?_;exact⟨q7,by simpa[List.append_assoc]using s8,Lu.trans B6⟩
theorem UO (x:Nd) (O:VH) (hs:(bQ x).length<=10000000000000) (dD:zf x):VF Tryz.prog 51 [.agg (cO x)] O (aL fun m O'=>m= .str (bQ x)/\O.Ge O'):=by
 have lay:=YY (dI x) x;generalize bQ x=T at*;cases x with
 | mk n a k t=>
   simp only[cO]at lay ⊢;refine VF.bX 10 [.tmp 2] Tryz.func51 ?_;refine VC.ag aa (ae @eb ?_);refine VC.bx ?_;rintro O1 ⟨aT,hk,dd⟩;refine VC.ag aa (ae @eb ?_);have wh:=fx.fresh O1 (Nat.le_refl O1.next);have mO:O1.Ge ((O1.push (.cells [.v (.pointer none),.sl 0 [] .nil])).push (.shape O1.next 209 2)):=((VH.Ge.refl O1).push _).push _;have YZ:=wh.hi;generalize ((O1.push (.cells [.v (.pointer none),.sl 0 [] .nil])).push (.shape O1.next 209 2))=O2 at*;refine VC.ag aa (ae @eb ?_);refine VC.ag aa (ae @eb ?_);refine VC.al ?_;rintro O3 ⟨aR,dA,gW⟩;have en:=(aR.hp O.next (by have:=mO.next;omega)).trans ((mO.hp O.next (by omega)).trans hk);refine VC.ag aa (aM @eb @dA @en ?_);refine ah.rt (lay O3 O1.next O1.next O2.next none [] (Nat.le_refl _) (wh.ge aR) dA (by omega) (by omega) (by simp) (by simpa using hs) dD) ?_;rintro _ O4 ⟨q,cC,eN⟩;rw[List.nil_append]at cC;refine ae @eb ?_;refine WC.sound aa (ae @eb ?_);refine ah.rt (oV cC (by simp only[maxLen];omega)) ?_;rintro _ O5 ⟨rfl,pO⟩;refine ae @eb ?_;exact(eN.y_ (aT.trans (mO.trans aR)) (by omega)).RG pO (fun i e=>by have:=cC.wL i e;omega)
def Nd.nm:Nd->Bs
 | .mk n _ _ _=>n
def Nd.kids:Nd->List Nd
 | .mk _ _ k _=>k
def Nd.tx:Nd->Bs
 | .mk _ _ _ t=>t
def jx (name:Bs) (y:Nd):Bool:=y.nm != []&&(name==[]||y.nm==name)
def b_ (x:Nd) (name:Bs):List Nd:=x.kids.filter (jx name)
theorem Cp (x:Nd) (name:Bs) (O:VH) (hk:x.kids.length<=1000000):VF Tryz.prog 262 [.agg (cO x),.str name] O (aL fun m O'=>∃tk,m= .sl (b_ x name).length (ax (b_ x name)) tk/\O.Ge O'):=by
 obtain⟨n,a,k,t⟩:=x;simp only[Nd.kids]at hk;unfold b_;simp only[Nd.kids,cO];refine VF.bX 33 [.tmp 4] Tryz.func262 ?_;refine VC.ag aa (ae @eb ?_);refine VC.bx ?_;rintro O1 ⟨aT,en,dd⟩;refine VC.join aa [4] (fun tk:aC=>[.sl (k.filter (jx name)).length (ax (k.filter (jx name))) tk]) (fun tk O'=>O.Ge O') ?_ ?_;rotate_left
 ·intro tk O9 aY;refine ae @eb ?_;exact⟨tk,rfl,aY⟩
 refine VC.ag aa (ao @eb @en ?_);refine VC.aB ?_;refine VC.bE [4,10] [1,8,9] (fun x:Nat×aC=>[.sl ((k.take x.1).filter (jx name)).length (ax ((k.take x.1).filter (jx name))) x.2,mi x.1]) (fun x O'=>O.Ge O'/\App O' O.next 4 x.2/\x.1<=k.length) (fun x=>k.length - x.1) ((0,.nil)) ?_ ?_
 ·exact⟨aT,trivial,Nat.zero_le _⟩
 rintro⟨j,tk⟩ O2 ⟨az,cL,hj⟩;dsimp only at cL hj ⊢;by_cases bm:j<k.length;rotate_left
 ·obtain rfl:j=k.length:=by omega
  rw[List.take_length];refine WC.sound aa (ae @eb ?_);exact ay.mk tk az
 have bI:=cV kV k j bm;rw[<-oZ]at bI;have RI:=cH k
 have iz:(k.take (j+1)).filter (jx name)=(k.take j).filter (jx name)++if jx name k[j]then[k[j]]else[]:=by
  rw[cG _ _ bm,List.filter_append]
  congr 1
  cases h:jx name k[j]<;>simp[h]
 have FZ:((k.take j).filter (jx name)).length<=1000000:=Nat.le_trans (List.length_filter_le _ _) (by rw[List.length_take];omega);generalize k[j]=y at*;generalize (k.take j).filter (jx name)=E at*;obtain⟨yn,ya,yk,yt⟩:=y;have eA:=zb (.mk yn ya yk yt);have Y0:=kV (.mk yn ya yk yt);have Y1:ax [.mk yn ya yk yt]=cO (.mk yn ya yk yt):=by rw[ax,ax,List.append_nil]
 simp only[cO]at bI eA Y0 Y1;refine VC.ag aa (ae @eb ?_);refine VC.ag aa (ae @eb ?_);refine VC.bu (VC.aB ?_);refine VC.ag aa (ao @eb @bI ?_);refine VC.al ?_;rintro O3 ⟨aR,lS,gW⟩;have lI:=cL.ge aR;have Hf:=az.trans aR;have yes:jx name (.mk yn ya yk yt)=true->(k.take (j+1)).filter (jx name)=E++[.mk yn ya yk yt]:=fun h=>by rw[iz,h,if_pos rfl]
 have nay:jx name (.mk yn ya yk yt)=false->(k.take (j+1)).filter (jx name)=E:=fun h=>by rw[iz,h,if_neg (by simp),List.append_nil]
 have hik:jx name (.mk yn ya yk yt)=(yn != []&&(name==[]||yn==name)):=rfl;rw[hik]at yes nay;cases h1:yn==[]
 ·cases h2:name==[]
  ·cases h3:yn==name
   ·have hn:=nay (by simp[bne,h1,h2,h3]);refine WC.sound aa (ll @eb @lS @h1 @h2 @h3 ?_);refine WC.sound aa (ae @eb ?_);exact aD.next (j+1,tk) ⟨Hf,lI,bm⟩ (hl:=(by dsimp only;rw[hn];rfl))
   ·have hn:=yes (by simp[bne,h1,h2,h3]);refine WC.sound aa (ll @eb @lS @h1 @h2 @h3 ?_);obtain⟨mE,fJ,kj⟩:=fy (n:=E.length) (cs:=ax E) (ds:=[.str yn,.sl ya.length (ya.flatMap aW) .ar,.sl yk.length (ax yk) .ar,.str yt]) nv sJ.1.1 lI (cH E) rfl rfl (by decide) (by omega) (by simp only[maxLen];omega) (eu E) eA;refine VL.kE fJ kj ?_;refine ae @eb ?_;refine WC.sound aa (ae @eb ?_);exact aD.next (j+1,.own O3.next 4) ⟨cj.dW Hf lI (cj.after lI),App.after Hf.next,bm⟩ (hl:=(by dsimp only;rw[hn,dH,List.length_append,Y1];rfl))
  ·have hn:=yes (by simp[bne,h1,h2]);refine WC.sound aa (dB @eb @lS @h1 @h2 ?_);obtain⟨mE,fJ,kj⟩:=fy (n:=E.length) (cs:=ax E) (ds:=[.str yn,.sl ya.length (ya.flatMap aW) .ar,.sl yk.length (ax yk) .ar,.str yt]) nv sJ.1.1 lI (cH E) rfl rfl (by decide) (by omega) (by simp only[maxLen];omega) (eu E) eA;refine VL.kE fJ kj ?_;refine ae @eb ?_;refine WC.sound aa (ae @eb ?_);exact aD.next (j+1,.own O3.next 4) ⟨cj.dW Hf lI (cj.after lI),App.after Hf.next,bm⟩ (hl:=(by dsimp only;rw[hn,dH,List.length_append,Y1];rfl))
 ·have hn:=nay (by simp[bne,h1]);refine WC.sound aa (aM @eb @lS @h1 ?_);refine WC.sound aa (ae @eb ?_);exact aD.next (j+1,tk) ⟨Hf,lI,bm⟩ (hl:=(by dsimp only;rw[hn];rfl))
def gY (k:List Nd):Bs:=k.flatMap fun y=>bif y.nm==[]then y.tx else[]
def rZ (x:Nd):Bs:=trimB (gY x.kids)
theorem Lv {k:List Nd} {j:Nat} (h:j<k.length):gY (k.take (j+1))=gY (k.take j)++bif k[j].nm==[]then k[j].tx else[]:=by
 unfold gY;rw[cG _ _ h,List.flatMap_append,List.flatMap_cons,List.flatMap_nil,List.append_nil]
theorem Hg {k:List Nd}:∀j,(gY (k.take j)).length<=(gY k).length:=fun j=>by
 have:gY k=gY (k.take j)++gY (k.drop j):=by unfold gY;rw[<-List.flatMap_append,List.take_append_drop]
 rw[this,List.length_append];omega
theorem Y2 (x:Nd) (O:VH) (hk:x.kids.length<=1000000) (ht:(gY x.kids).length<=1000000000):VF Tryz.prog 290 [.agg (cO x)] O (aL fun m O'=>m= .str (rZ x)/\O.Ge O'):=by
 obtain⟨n,a,k,t⟩:=x;simp only[Nd.kids]at hk ht;unfold rZ;simp only[Nd.kids,cO];refine VF.bX 23 [.tmp 2] Tryz.func290 ?_;refine VC.ag aa (ae @eb ?_);refine VC.bx ?_;rintro O1 ⟨aT,en,dd⟩;refine VC.ag aa (ae @eb ?_);refine VC.join aa [3] (fun _:Unit=>[.str (gY k)]) (fun _ O'=>O.Ge O') ?_ ?_;rotate_left
 ·intro _ O9 aY;refine ae @eb ?_;refine ah.rt (II (gY k) _ (Nat.le_trans ht (by decide))) ?_;rintro _ O8 ⟨rfl,rfl⟩;refine ae @eb ?_;exact aY
 refine VC.ag aa (ao @eb @en ?_);refine VC.aB ?_;refine VC.bE [3,9] [7,8] (fun j:Nat=>[.str (gY (k.take j)),mi j]) (fun j O'=>O.Ge O'/\j<=k.length) (fun j=>k.length - j) (0) ?_ ?_
 ·exact⟨aT,Nat.zero_le _⟩
 rintro j O2 ⟨az,hj⟩;by_cases bm:j<k.length;rotate_left
 ·obtain rfl:j=k.length:=by omega
  rw[List.take_length];refine WC.sound aa (ae @eb ?_);exact ay.mk () az
 have bI:=cV kV k j bm;rw[<-oZ]at bI;have RI:=cH k;have iz:=Lv bm;have hle:=Hg (k:=k) (j+1);have RJ:=Hg (k:=k) j;generalize k[j]=y at*;generalize gY (k.take j)=E at*;obtain⟨yn,ya,yk,yt⟩:=y;simp only[cO]at bI;simp only[Nd.nm,Nd.tx]at iz;refine VC.ag aa (ae @eb ?_);refine VC.ag aa (ae @eb ?_);refine VC.bu (VC.aB ?_);refine VC.ag aa (ao @eb @bI ?_);refine VC.al ?_;rintro O3 ⟨aR,lS,gW⟩;cases h1:yn==[]
 ·rw[h1,cond_false,List.append_nil]at iz;refine WC.sound aa (aM @eb @lS @h1 ?_);refine WC.sound aa (ae @eb ?_);exact aD.next (j+1) ⟨az.trans aR,bm⟩ (hl:=(by rw[iz];rfl))
 ·rw[h1,cond_true]at iz;rw[iz,List.length_append]at hle;refine WC.sound aa (aM @eb @lS @h1 ?_);refine WC.sound aa (ae @eb ?_);exact aD.next (j+1) ⟨az.trans aR,bm⟩ (hl:=(by rw[iz];rfl))
set_option linter.defProp false in
def bh:=And.intro eb<|And.intro ad3<|And.intro YI<|And.intro YJ T32
def r3 (e:Int) (w:Bs):MV:=.iface 357 (.agg [mi e,.str w])
theorem ahH {p:MV}:Iu 357 (jE Tryz.prog 357) (some p)=some (.iface 357 p):=by rw[ad3.1.1];rfl
theorem kW (e:Int) (w:Bs) (O:VH):VF Tryz.prog 235 [mi e,.str w] O fun r O'=>O'=O/\match r with
  | .ret _=>False
  | .panic m=>m=r3 e w:=by
 refine VF.db 8 [] Tryz.func235 ?_;refine dB @bh @wi @wd @ahH ?_;refine VL.panic rfl rfl rfl ?_;refine ae @wd ?_;rfl
theorem acN (s:Bs) (O:VH):VF Tryz.prog 238 [.str s] O (aL fun m O'=>m=mb true/\O.Ge O'):=by
 refine VF.db 3 [.tmp 2] Tryz.func238 ?_;refine ae @bh ?_;exact VH.Ge.refl _
def lJ (s:Bs):Bool:=s==jw||s==ki
theorem Px (s:Bs) (O:VH):VF Tryz.prog 294 [.str s] O (aL fun m O'=>m=mb (lJ s)/\O.Ge O'):=by
 unfold lJ;refine VF.db 9 [.tmp 2] Tryz.func294 ?_;cases h1:s==jw<;>cases h2:s==ki
 all_goals
  simp only[jw,ki]at h1 h2;refine aM @bh @h1 @h2 ?_;exact VH.Ge.refl _
theorem UP (s:Bs) (O:VH) (hs:s.length<=maxLen):VF Tryz.prog 295 [.str s] O (aL fun m O'=>m=mb (yZ ⟨s,s⟩)/\O.Ge O'):=by
 refine VF.db 7 [.tmp 2] Tryz.func295 ?_;refine ae @bh ?_;refine ah.rt (FX ⟨s,s⟩ _ hs hs) ?_;rintro _ O2 ⟨rfl,hg⟩;refine ae @bh ?_;exact hg
def Lw (n:Nat):Bs:=[UInt8.ofNat (48+n % 10)]
def By:Nat->Nat->Bs
 | 0,_=>[]
 | k+1,n=>if n=0 then[]else By k (n / 10)++Lw n
def kI (n:Nat):Bs:=By (n+1) n
theorem xq:∀(k n:Nat),n<k->By k n=By (n+1) n
 | 0,n,h=>by omega
 | k+1,n,h=>by
   rw[By,By];split
   ·rfl
   ·rw[xq k (n / 10) (by omega),xq n (n / 10) (by omega)]
theorem Ar {n:Nat} (h:0<n):kI n=kI (n / 10)++Lw n:=by
 unfold kI;rw[By,if_neg (by omega),xq n (n / 10) (by omega)]
theorem qR (n:Nat):(kI n).length<=n:=by
 induction n using Nat.strongRecOn with
 | _ n ih=>
   rcases Nat.eq_zero_or_pos n with rfl | h
   ·simp[kI,By]
   ·rw[Ar h,List.length_append];have:=ih (n / 10) (by omega);simp only[Lw,List.length_cons,List.length_nil];omega
theorem Lx (d:Nat) (h:d<10):(([48,49,50,51,52,53,54,55,56,57]:Bs).drop d).take (d+1 - d)=[UInt8.ofNat (48+d)]:=by
 rw[show d+1 - d=1 by omega];rcases(show d=0\/d=1\/d=2\/d=3\/d=4\/d=5\/d=6\/d=7\/d=8\/d=9 by omega)with rfl | rfl | rfl | rfl | rfl | rfl | rfl | rfl | rfl | rfl<;>rfl
theorem D5 (n:Nat) (O:VH) (hn:n<=1000000000):VF Tryz.prog 291 [mi n] O (aL fun m O'=>m= .str (kI n)/\O'=O):=by
 have B7:=qR n;refine VF.db 17 [.tmp 2] Tryz.func291 ?_;refine ae @bh ?_;refine WC.iw [0,3] [] (fun x:Nat×Bs=>[mi x.1,.str x.2]) (fun x O'=>O'=O/\kI n=kI x.1++x.2/\x.1<=n) (fun x=>x.1) ((n,[])) ?_ ?_
 ·exact⟨rfl,by simp,Nat.le_refl _⟩
 rintro⟨k,s⟩ O2 ⟨eO,hk,xc⟩;dsimp only at hk xc ⊢;rw[eO];clear eO O2
 rcases Nat.eq_zero_or_pos k with rfl | hp
 ·have h0:kI 0=[]:=rfl;rw[h0,List.nil_append]at hk;refine ae @bh ?_;exact congrArg MV.str hk.symm
 ·have hd:=Lx (k % 10) (by omega);have hl:(kI n).length=(kI k).length+s.length:=by rw[hk,List.length_append]
  have hr:(k:Int).tmod 10=((k % 10:Nat):Int):=by rw[Int.tmod_eq_emod_of_nonneg (by omega)];rfl
  have hq:(k:Int).tdiv 10=((k / 10:Nat):Int):=by rw[Int.tdiv_eq_ediv_of_nonneg (by omega)];rfl
  refine dB @bh @hr @hq @hd ?_;refine aD.next (k / 10,Lw k++s) ⟨rfl,?_,by dsimp only;omega⟩;rw[hk,Ar hp,List.append_assoc]
theorem acO {e:Int} {w:Bs}:ar (r3 e w)=r3 e w:=by simp only[r3,wu,aq]
def jJ (x:Nd) (w:Bs):List MV:=cO x++[.str w]
def Py:Nd:=.mk [] [] [] []
def bR (x:Nd) (w name:Bs):Except (Int×Bs) ((Nd×Bs)×Bool):=
 match b_ x name with
 | []=>.ok ((Py,w++[47]++name),false)
 | [y]=>.ok ((y,w++[47]++name),true)
 | _=>.error (20,w++[47]++name++[91,50,93])
def FQ {α :Type} (O:VH) (f:Except (Int×Bs) α) (R: α ->MV->Prop):fU->VH->Prop:=fun r O'=>O.Ge O'/\match r,f with
 | .ret m,.ok x=>R x m
 | .panic m,.error e=>m=r3 e.1 e.2
 | _,_=>False
theorem qS (x:Nd) (w name:Bs) (O:VH) (hk:x.kids.length<=1000000) (hw:w.length<=1000000) (hn:name.length<=1000000):VF Tryz.prog 236 [.agg (jJ x w),.str name] O (FQ O (bR x w name) fun y m=>m= .tuple [.agg (jJ y.1.1 y.1.2),mb y.2]):=by
 refine VF.fgR ?_;have o5:=Cp x name;have mh:(b_ x name).length<=1000000:=Nat.le_trans (List.length_filter_le _ _) hk
 have Pz:bR x w name=match b_ x name with
  | []=>.ok ((Py,w++[47]++name),false)
  | [y]=>.ok ((y,w++[47]++name),true)
  | _=>.error (20,w++[47]++name++[91,50,93]):=rfl
 generalize bR x w name=F at*;generalize b_ x name=K at*;obtain⟨n,a,k,t⟩:=x;simp only[jJ,cO,List.cons_append,List.nil_append]at o5 ⊢;refine VF.bX 34 [.cell 4 359,.tmp 5] Tryz.func236 ?_;refine VC.ag aa (ae @bh ?_);refine VC.bx ?_;rintro O1 ⟨aT,BT,dd⟩;have fB:O1.hp O.next=some (.cells [.str n,.sl a.length (a.flatMap aW) .ar,.sl k.length (ax k) .ar,.str t,.str w]):=(aT.hp _ (Nat.lt_succ_self _)).trans (VH.aZ _ _)
 replace BT:O1.hp (O.next+1)=some (.cells [.str [],.sl 0 [] .nil,.sl 0 [] .nil,.str [],.str []]):=BT
 have ahI:O.Ge O1:=((VH.Ge.refl O).push _).trans aT
 replace dd:O1.next=O.next+2:=dd
 clear aT;refine VC.ag aa (ao @bh @fB ?_);refine ah.rt (o5 O1 hk) ?_;rintro _ O2 ⟨tk,rfl,az⟩;have jL:=az.at fB;have rF:=az.at BT;have fW:=ahI.trans az;refine ae @bh ?_;refine VC.ag aa (ao @bh @jL ?_)
 match K,Pz with
 | [],Pz=>
   subst Pz;refine WC.sound aa (aM @bh @rF @List.length_nil.{0} ?_);refine⟨fW.set (by omega) _,?_⟩;simp only[jJ,Py,cO,wu,a_];rfl
 | [.mk yn ya yk yt],Pz=>
   subst Pz;have eA:=zb (.mk yn ya yk yt);simp only[cO]at eA;have cx:ax [.mk yn ya yk yt]=[.str yn,.sl ya.length (ya.flatMap aW) .ar,.sl yk.length (ax yk) .ar,.str yt]:=by rw[ax,ax,List.append_nil,cO]
   rw[cx];refine WC.sound aa (dB @bh @rF @List.length_cons.{0} @List.length_nil.{0} ?_);refine⟨fW.set (by omega) _,?_⟩;show _=_;rw[cO,fz,eu];rfl
 | y::z::r,Pz=>
   subst Pz;simp only[List.length_cons]at mh;refine WC.sound aa (ao @bh @List.length_cons.{0} ?_);refine ah.p (kW _ _ _) ?_ ?_
   ·rintro m O3 ⟨_,h⟩;exact h.elim
   rintro m O3 ⟨rfl,rfl⟩;refine ae @bh ?_;exact⟨fW,acO⟩
def o7 (x:Nd) (w:Bs) (empty:Bool):Except (Int×Bs) Bs:=
 if 0<(b_ x []).length\/1024<(rZ x).length\/(rZ x=[]/\empty=false)then .error (20,w)else .ok (rZ x)
theorem Ly (x:Nd) (w:Bs) (empty:Bool) (O:VH) (hk:x.kids.length<=1000000) (ht:(gY x.kids).length<=1000000000):VF Tryz.prog 263 [.agg (jJ x w),mb empty] O (FQ O (o7 x w empty) fun y m=>m= .str y):=by
 have o5:=Cp x [];have Y3:=Y2 x;have mh:(b_ x []).length<=1000000:=Nat.le_trans (List.length_filter_le _ _) hk;have NY:(rZ x).length<=1000000000:=Nat.le_trans (Ps _) ht;unfold o7;generalize b_ x []=K at*;generalize rZ x=T at*;obtain⟨n,a,k,t⟩:=x;simp only[jJ,cO,List.cons_append,List.nil_append]at o5 Y3 ⊢;refine VF.bX 31 [.tmp 4] Tryz.func263 ?_;refine VC.ag aa (ae @bh ?_);refine VC.bx ?_;rintro O1 ⟨aT,fB,dd⟩;refine VC.ag aa (ao @bh @fB ?_);refine ah.rt (Y3 O1 hk ht) ?_;rintro _ O2 ⟨rfl,az⟩;have jL:=az.at fB;have iK:=az.next;refine ae @bh ?_;refine VC.ag aa (ao @bh @jL ?_);refine ah.rt (o5 O2 hk) ?_;rintro _ O3 ⟨tk,rfl,aR⟩;have ji:=aR.at jL;have ec:=(aT.trans az).trans aR;by_cases h1:0<K.length
 ·rw[if_pos (.inl h1)];refine ao @bh @ji ?_;refine ah.p (kW _ _ _) ?_ ?_
  ·rintro m O4 ⟨_,h⟩;exact h.elim
  rintro m O4 ⟨rfl,rfl⟩;refine ae @bh ?_;exact⟨ec,rfl⟩
 by_cases h2:1024<T.length
 ·rw[if_pos (.inr (.inl h2))];refine ao @bh @ji ?_;refine ah.p (kW _ _ _) ?_ ?_
  ·rintro m O4 ⟨_,h⟩;exact h.elim
  rintro m O4 ⟨rfl,rfl⟩;refine ae @bh ?_;exact⟨ec,rfl⟩
 cases T with
 | nil=>
   cases empty
   ·rw[if_pos (.inr (.inr ⟨rfl,rfl⟩))];refine dB @bh @ji (show(([]:List UInt8)==[])=true from rfl) @List.length_nil.{0} ?_;refine ah.p (kW _ _ _) ?_ ?_
    ·rintro m O4 ⟨_,h⟩;exact h.elim
    rintro m O4 ⟨rfl,rfl⟩;refine ae @bh ?_;exact⟨ec,rfl⟩
   ·rw[if_neg (fun h=>by rcases h with h | h | ⟨_,h⟩;exact h1 h;exact h2 h;cases h)];refine dB @bh @ji (show(([]:List UInt8)==[])=true from rfl) @List.length_nil.{0} ?_;refine WC.sound aa (ae @bh ?_);exact⟨ec,rfl⟩
 | cons c T=>
   rw[if_neg (fun h=>by rcases h with h | h | ⟨h,_⟩;exact h1 h;exact h2 h;cases h)];refine aM @bh @ji (show((c::T)==[])=false from rfl) ?_;refine WC.sound aa (ae @bh ?_);exact⟨ec,rfl⟩
def iA:List (Bs×Bs)->Nat
 | []=>0
 | x::r=>1+x.1.length+x.2.length+iA r
mutual
def jM:Nd->Nat
 | .mk n a k t=>1+n.length+t.length+iA a+jj k
def jj:List Nd->Nat
 | []=>0
 | x::r=>jM x+jj r
end
theorem zh (n:Bs) (a:List (Bs×Bs)) (k:List Nd) (t:Bs):jM (.mk n a k t)=1+n.length+t.length+iA a+jj k:=by rw[jM]
theorem LA (x:Nd):1<=jM x:=by cases x;rw[jM];omega
theorem As:∀k:List Nd,k.length<=jj k
 | []=>by simp
 | x::r=>by rw[jj,List.length_cons];have:=As r;have:=LA x;omega
theorem Hh:∀{k:List Nd} {x:Nd},x∈k->jM x<=jj k
 | y::r,x,h=>by
   rw[jj];rcases List.mem_cons.1 h with rfl | h
   ·omega
   ·have:=Hh h;omega
theorem vG (x:Nd):jj x.kids<jM x:=by cases x;rw[jM,Nd.kids];omega
theorem jo (x:Nd):x.kids.length<=jM x:=Nat.le_trans (As _) (Nat.le_of_lt (vG x))
theorem D6:∀k:List Nd,(gY k).length<=jj k
 | []=>by simp[gY]
 | x::r=>by
   have ih:=D6 r;unfold gY at ih ⊢;rw[List.flatMap_cons,List.length_append,jj]
   have:(bif x.nm==[]then x.tx else[]).length<=jM x:=by
    cases x with
    | mk n a k t=>
      rw[jM];cases(Nd.mk n a k t).nm==[]
      ·simp
      ·show t.length<=_;omega
   omega
theorem PA {x y:Nd} {name:Bs} (h:y∈b_ x name):jM y<jM x:=Nat.lt_of_le_of_lt (Hh ((List.mem_filter.1 h).1)) (vG x)
def IN (qT:Bool) (right:Bs->Bool) (wy:Bs) (b:Bool) (T:Except (Int×Bs) Bs):Except (Int×Bs) Bs:=
 match b,T with
 | false,_=>if qT then .error (20,wy)else .ok []
 | true,.error e=>.error e
 | true,.ok s=>if right s then .ok s else .error (20,wy)
def bC (x:Nd) (w name:Bs) (qT:Bool) (right:Bs->Bool):Except (Int×Bs) Bs:=
 match bR x w name with
 | .error e=>.error e
 | .ok y=>IN qT right y.1.2 y.2 (o7 y.1.1 y.1.2 false)
theorem qU {x:Nd} {w name:Bs} {y:Nd} {wy:Bs} {b:Bool} (h:bR x w name= .ok ((y,wy),b)):jM y<=jM x/\wy=w++[47]++name:=by
 unfold bR at h;split at h
 ·injection h with h;injection h with h _;injection h with h1 h2
  subst h1;subst h2
  exact⟨by simp only[Py,zh,iA,jj,List.length_nil];exact LA x,rfl⟩
 ·rename_i z hz;injection h with h;injection h with h _;injection h with h1 h2
  subst h1;subst h2
  exact⟨Nat.le_of_lt (PA (by rw[hz];simp)),rfl⟩
 ·cases h
theorem PB {y:Nd} {w:Bs} {e:Bool} {s:Bs} (h:o7 y w e= .ok s):s.length<=1024:=by
 unfold o7 at h;split at h
 ·cases h
 ·rename_i hn;injection h with h;subst h
  exact Nat.le_of_not_lt fun hh=>hn (.inr (.inl hh))
theorem o8 (x:Nd) (w name:Bs) (qT:Bool) (right:Bs->Bool) (id:FuncId) (cs:List MV) (O:VH) (hx:jM x<=1000000) (hw:w.length<=10000) (hn:name.length<=10000) (hid:dk Tryz.prog id=true)
  (hr:∀s O',O.Ge O'->s.length<=1024->VF Tryz.prog id ([.str s]++cs) O' (aL fun m mj=>m=mb (right s)/\O'.Ge mj)):
  VF Tryz.prog 237 [.agg (jJ x w),.str name,mb qT,.func (.func id) [] cs] O (FQ O (bC x w name qT right) fun y m=>m= .str y):=by
 have ux:=qS x w name;have mh:=jo x;have uy:= @qU x w name;have uz:∀e,bR x w name= .error e->bC x w name qT right= .error e:=fun e h=>by unfold bC;rw[h]
 have m7:∀y wy b,bR x w name= .ok ((y,wy),b)->bC x w name qT right=IN qT right wy b (o7 y wy false):=fun y wy b h=>by unfold bC;rw[h]
 generalize bC x w name qT right=WE at*;generalize bR x w name=F at*;obtain⟨n,a,k,t⟩:=x;generalize hW:jM (.mk n a k t)=W at*;simp only[jJ,cO,List.cons_append,List.nil_append]at ux ⊢;refine VF.bX 34 [.tmp 8] Tryz.func237 ?_;refine VC.ag aa (ae @bh ?_);refine VC.bx ?_;rintro O1 ⟨aT,fB,dd⟩;refine VC.ag aa ?_;refine ao @bh @fB ?_;refine ah.p (ux O1 (by omega) (by omega) (by omega)) ?_ ?_;rotate_left
 ·rintro m O2 ⟨az,h⟩;cases F with
  | ok y=>exact h.elim
  | error e=>
    dsimp only at h;rw[uz e rfl];refine ae @bh ?_;exact⟨aT.trans az,h⟩
 rintro m O2 ⟨az,h⟩;cases F with
 | error e=>exact h.elim
 | ok y=>
 obtain⟨⟨y,wy⟩,b⟩:=y;dsimp only at h;subst h;obtain⟨Y4,uA⟩:=uy rfl;rw[m7 _ _ _ rfl];clear uz m7;have ou:wy.length<=30000:=by rw[uA];simp only[List.length_append,List.length_cons,List.length_nil];omega
 clear uy uA;have ahJ:=jo y;have ui:=Nat.le_trans (D6 y.kids) (Nat.le_of_lt (vG y));have Ls:=Ly y wy false;have NY:= @PB y wy false;generalize o7 y wy false=T at*;obtain⟨yn,ya,yk,yt⟩:=y;simp only[jJ,cO,List.cons_append,List.nil_append]at Ls ⊢;refine ae @bh ?_;refine VC.al ?_;rintro O3 ⟨aR,LB,gW⟩;have ec:=(aT.trans az).trans aR;cases b
 ·cases qT
  ·refine WC.sound aa (ae @bh ?_);exact⟨ec,rfl⟩
  ·refine WC.sound aa (ao @bh @LB ?_);refine ah.p (kW _ _ _) ?_ ?_
   ·rintro m O9 ⟨_,h⟩;exact h.elim
   rintro m O9 ⟨rfl,rfl⟩;refine ae @bh ?_;exact⟨ec,rfl⟩
 ·refine WC.sound aa (ao @bh @LB ?_);refine ah.p (Ls O3 (by omega) (by omega)) ?_ ?_;rotate_left
  ·rintro m O4 ⟨bj,h⟩;cases T with
   | ok s=>exact h.elim
   | error e=>
     dsimp only at h;refine ae @bh ?_;exact⟨ec.trans bj,h⟩
  rintro m O4 ⟨bj,h⟩;cases T with
  | error e=>exact h.elim
  | ok s=>
  dsimp only at h;subst h;have Y5:=bj.at LB;have gD:=ec.trans bj;have ic:=bj.next;refine ae @bh ?_;refine ah.rt (hr s O4 gD (NY rfl)) ?_ (hb:=hid);rintro _ O5 ⟨rfl,bG⟩;have hy5:=bG.at Y5;unfold IN;dsimp only;cases right s
  ·refine ao @bh @hy5 ?_;refine ah.p (kW _ _ _) ?_ ?_
   ·rintro m O9 ⟨_,h⟩;exact h.elim
   rintro m O9 ⟨rfl,rfl⟩;refine ae @bh ?_;exact⟨gD.trans bG,rfl⟩
  ·refine ao @bh @hy5 ?_;exact⟨gD.trans bG,rfl⟩
section
variable {G H:Gh} {n:Sz} {D:List Deferred} {e e':Env} {a:Act} {P:Program} {tab:bN} {O O':VH} {w:World} {m m':MV} {u v:Value} {ops:Array Oper} {Q:VQ} {md:Md}
theorem ab.pair {brk:List Nat} {Ψ :Gh->Prop} {J:VH->Prop} {Z:Prop} {fuel i j:Nat} {listed:Array Bool}
  (h1:aG P n D ops i e O Q fun e' O'=>J O'/\ab P n D ops brk J Ψ Z fuel (listed.setIfInBounds i true) e' O' Q) (h2:aG P n D ops j e O Q fun e' O'=>J O'/\ab P n D ops brk J Ψ Z fuel (listed.setIfInBounds j true) e' O' Q) (hr:Region.ready .any ops listed=[i,j]:=by kernel_rfl):ab P n D ops brk J Ψ Z (fuel+1) listed e O Q:=by
 intro hΨ hZ hJ G a w hψ hw aS
 have key:∀x,(aG P n D ops x e O Q fun e' O'=>J O'/\ab P n D ops brk J Ψ Z fuel (listed.setIfInBounds x true) e' O' Q)->wpOp P ops (cu G n D Q) x (fun a' w'=>TE brk G J x w'/\ik P .any ops (cu G n D Q) (TE brk G J) fuel (listed.setIfInBounds x true) a' w') a w:=fun x h=>
  wpOp_mono (fun a' w' ⟨e',O',H,h1,h2,h3,h4,h5⟩=>⟨TE.mk ⟨H,O',h1,h2,h4⟩,iN (fun _ _ _=>cu.le h1) _ _ _ _ (fun k _ x hT=>hT.le h1) (h5 hΨ hZ h4 H a' w' (hΨ _ _ h1 hψ) h2 h3)⟩) (h G a w hw aS)
 refine iM hr (by simp) fun x hx=>?_
 simp only[List.mem_cons,List.not_mem_nil,or_false]at hx;rcases hx with rfl | rfl
 ·exact key _ h1
 ·exact key _ h2
theorem aG.gV {i:Nat} {l:List Oper} {d:Option Tmp} {f:Operand} {xs:Array Operand} {ts:Array TypeId} {ty:TypeId} {ps:String} {af:Array Edge} {g:Option (Nat×Bool)} {id:FuncId} {ms:List MV} {Φ :MV->VH->Prop} {K:Env->VH->Prop} (hR:VF P id ms O (aL Φ))
  (h:∀m O', Φ m O'->K (aV d m e) O') (ho:l[i]?=some (.mk d (.call {callee:=.value f,args:=xs,argTypes:=ts}) ty ps af g):=by exact rfl) (hg:aK ⟨l⟩ (.mk d (.call {callee:=.value f,args:=xs,argTypes:=ts}) ty ps af g) e=some true:=by exact rfl) (hf:ev e f=some (.func (.func id) [] []):=by exact rfl) (hm:fS e xs.toList=some ms:=by exact rfl) (hb:dk P id=true:=by kernel_rfl) (hd:bg n d=true:=by exact rfl):aG P n D ⟨l⟩ i e O Q K:=
 aG.call (o:=.mk d (.call {callee:=.value f,args:=xs,argTypes:=ts}) ty ps af g) (by simpa using ho) hg rfl rfl hf hm (Enters.sY hb) hd (by simpa using hR) fun r O' hr=>by
  cases r with
  | ret m=>exact h m O' hr
  | panic m=>exact hr.elim
end
def Cq (w name:Bs) (i:Nat):Bs:=w++[47]++name++[91]++kI (i+1)++[93]
def o9 (w name:Bs) (K:List Nd):List (Nd×Bs):=K.mapIdx fun i y=>(y,Cq w name i)
def sO (L:List (Nd×Bs)):List MV:=L.flatMap fun p=>jJ p.1 p.2
def mn (x:Nd) (w name:Bs):Except (Int×Bs) (List (Nd×Bs)):=if 1024<(b_ x name).length then .error (2,w)else .ok (o9 w name (b_ x name))
theorem D7 (p:Nd×Bs):(jJ p.1 p.2).length=5:=by rw[jJ,List.length_append,kV];rfl
theorem vH (L:List (Nd×Bs)):(sO L).length=L.length*5:=aX D7 L
theorem LC (x:Nd) (w:Bs):cz (jJ x w)=jJ x w:=by simp only[jJ,wu,zb]
theorem Hi (L:List (Nd×Bs)):cz (sO L)=sO L:=jU (fun p=>LC p.1 p.2) L
theorem PC {w name:Bs} {K:List Nd} {j:Nat} (h:j<K.length):o9 w name (K.take (j+1))=o9 w name (K.take j)++[(K[j],Cq w name j)]:=by
 unfold o9;rw[cG _ _ h,List.mapIdx_append];simp[List.length_take,Nat.min_eq_left (Nat.le_of_lt h)]
theorem Hj (w name:Bs) (K:List Nd):(o9 w name K).length=K.length:=by simp[o9]
theorem RL (x:Nd) (w name:Bs) (O:VH) (hx:jM x<=1000000) (hw:w.length<=10000) (hn:name.length<=10000):
  VF Tryz.prog 266 [.agg (jJ x w),.str name] O (FQ O (mn x w name) fun y m=>∃tk,m= .sl y.length (sO y) tk):=by
 have o5:=Cp x name;have mh:=jo x;have hKl:(b_ x name).length<=1000000:=Nat.le_trans (List.length_filter_le _ _) (by omega);unfold mn;generalize b_ x name=K at*;obtain⟨n,a,k,t⟩:=x;generalize hW:jM (.mk n a k t)=W at*;simp only[jJ,cO,List.cons_append,List.nil_append]at o5 ⊢;refine VF.bX 43 [.tmp 4] Tryz.func266 ?_;refine VC.ag aa (ae @bh ?_);refine VC.bx ?_;rintro O1 ⟨aT,fB,dd⟩;refine VC.ag aa (ao @bh @fB ?_);refine ah.rt (o5 O1 (by omega)) ?_;rintro _ O2 ⟨tk,rfl,az⟩;have jL:=az.at fB;have iK:=az.next;have fW:=aT.trans az;refine ae @bh ?_;by_cases LD:1024<K.length
 ·rw[if_pos LD];refine VC.ag aa (ao @bh @jL ?_);refine ah.p (kW _ _ _) ?_ ?_
  ·rintro m O9 ⟨_,h⟩;exact h.elim
  rintro m O9 ⟨rfl,rfl⟩;refine ae @bh ?_;exact⟨fW,rfl⟩
 rw[if_neg LD];refine VC.ag aa (ao @bh @jL ?_);refine VC.join aa [4] (fun tl:aC=>[.sl (o9 w name K).length (sO (o9 w name K)) tl]) (fun tl O'=>O.Ge O') ?_ ?_;rotate_left
 ·intro tl O9 aY;refine ae @bh ?_;exact⟨aY,tl,rfl⟩
 refine VC.ag aa (ae @bh ?_);refine VC.aB ?_;refine VC.bE [4,20] [1,2,18,19] (fun x:Nat×aC=>[.sl (o9 w name (K.take x.1)).length (sO (o9 w name (K.take x.1))) x.2,mi x.1]) (fun x O'=>O2.Ge O'/\App O' O2.next 5 x.2/\x.1<=K.length) (fun x=>K.length - x.1) ((0,.nil)) ?_ ?_
 ·exact⟨VH.Ge.refl _,trivial,Nat.zero_le _⟩
 rintro⟨j,tl⟩ O3 ⟨aR,cL,hj⟩;dsimp only at cL hj ⊢;by_cases bm:j<K.length;rotate_left
 ·obtain rfl:j=K.length:=by omega
  rw[List.take_length];refine WC.sound aa (ae @bh ?_);exact ay.mk tl (fW.trans aR)
 have bI:=cV kV K j bm;rw[<-oZ]at bI;have RI:=cH K;have iz:=PC (w:=w) (name:=name) bm;have FZ:(o9 w name (K.take j)).length<=1000000:=by rw[Hj,List.length_take];omega
 generalize K[j]=y at*;generalize o9 w name (K.take j)=E at*;have B7:=qR (j+1);have eA:=LC y (Cq w name j);obtain⟨yn,ya,yk,yt⟩:=y;simp only[jJ,cO,List.cons_append,List.nil_append]at bI eA;have ji:=aR.at jL;have gW:=aR.next;refine VC.ag aa (ae @bh ?_);refine VC.ag aa (ae @bh ?_);refine VC.bu (VC.aB ?_);refine VC.ag aa (ao @bh @bI ?_);refine VC.al ?_;rintro O4 ⟨bj,lS,ic⟩;have s9:=bj.at ji;have jX:=cL.ge bj;have D8:=aR.trans bj;have ew:((j:Int)+1)=((j+1:Nat):Int):=by omega
 refine VC.m4 [15,16] ?_;refine ab.av 0 ?_;refine ae @bh ?_;refine ab.av 2 ?_;refine ae @bh ?_;refine ab.ld (m:=.str w) 3 ?_ ?_
 ·exact dz @bh @s9
 simp only[aj];refine ab.av 4 ?_;refine ae @bh ?_;refine ab.av 5 ?_;refine ae @bh ?_;refine ab.av 6 ?_;refine ae @bh ?_;refine ab.av 7 ?_;refine ae @bh ?_;refine ab.av 8 ?_;refine ae @bh ?_;refine ab.av 9 ?_;refine ao @bh @ew ?_;refine ab.pair (i:=1) (j:=10) ?_ ?_
 ·refine aG.o1 ?_;refine ao @bh @lS ?_;refine⟨VH.Ge.refl _,?_⟩;refine ab.call (i:=10) (D5 (j+1) O4 (by omega)) ?_;rintro _ O5 ⟨rfl,eO⟩;simp only[aj];rw[eO];clear eO O5
  refine⟨VH.Ge.refl _,?_⟩;refine ab.av 11 ?_;refine ae @bh ?_;refine ab.av 12 ?_;refine ae @bh ?_;refine ab.av 13 ?_;refine ae @bh ?_;refine ab.op (i:=14) ?_;refine ae @bh ?_;refine⟨VH.Ge.refl _,?_⟩;refine ab.bM [(15,.one),(16,.av)] ?_;refine ae @bh ?_;obtain⟨mE,fJ,kj⟩:=fy (n:=E.length) (cs:=sO E) (ds:=[.str yn,.sl ya.length (ya.flatMap aW) .ar,.sl yk.length (ax yk) .ar,.str yt,.str (w++[47]++name++[91]++kI (j+1)++[93])]) YJ YI.1.1 jX (vH E) rfl rfl (by decide) (by omega) (by simp only[maxLen];omega) (Hi E) eA;refine VL.kE fJ kj ?_;refine ae @bh ?_;refine WC.sound aa (ae @bh ?_);exact aD.next (j+1,.own O4.next 5) ⟨cj.dW D8 jX (cj.after jX),App.after D8.next,bm⟩ (hl:=(by dsimp only;rw[iz,List.length_append];unfold sO;rw[List.flatMap_append];rfl))
 ·refine aG.gV (D5 (j+1) O4 (by omega)) ?_;rintro _ O5 ⟨rfl,eO⟩;rw[eO];clear eO O5
  simp only[aj];refine⟨VH.Ge.refl _,?_⟩;refine ab.av 11 ?_;refine ae @bh ?_;refine ab.av 12 ?_;refine ae @bh ?_;refine ab.op (i:=1) ?_;refine ao @bh @lS ?_;refine⟨VH.Ge.refl _,?_⟩;refine ab.av 13 ?_;refine ae @bh ?_;refine ab.op (i:=14) ?_;refine ae @bh ?_;refine⟨VH.Ge.refl _,?_⟩;refine ab.bM [(15,.one),(16,.av)] ?_;refine ae @bh ?_;obtain⟨mE,fJ,kj⟩:=fy (n:=E.length) (cs:=sO E) (ds:=[.str yn,.sl ya.length (ya.flatMap aW) .ar,.sl yk.length (ax yk) .ar,.str yt,.str (w++[47]++name++[91]++kI (j+1)++[93])]) YJ YI.1.1 jX (vH E) rfl rfl (by decide) (by omega) (by simp only[maxLen];omega) (Hi E) eA;refine VL.kE fJ kj ?_;refine ae @bh ?_;refine WC.sound aa (ae @bh ?_);exact aD.next (j+1,.own O4.next 5) ⟨cj.dW D8 jX (cj.after jX),App.after D8.next,bm⟩ (hl:=(by dsimp only;rw[iz,List.length_append];unfold sO;rw[List.flatMap_append];rfl))
def ku (w:Bs):Nat×Bool:=
 if w=eL 1 then(1,true)else if w=eL 2 then(2,true)else if w=eL 3 then(3,true)else if w=eL 4 then(4,true)else if w=eL 5 then(5,true)else if w=eL 6 then(6,true)else(0,false)
def eP (w:Bs):Nat->Nat->Nat×Bool
 | 0,_=>(0,false)
 | k+1,j=>if j≠0/\eL j=w then(j,true)else eP w k (j+1)
theorem PD (w:Bs):ku w=eP w 7 0:=by
 unfold ku eP eP eP eP eP eP eP eP;simp only[eq_comm (a:=w)];simp
theorem LG (w:Bs) (O:VH):VF Tryz.prog 292 [.str w] O (aL fun m O'=>m= .tuple [mi (ku w).1,mb (ku w).2]/\O'=O):=by
 rw[PD];refine VF.db 18 [.tmp 2,.tmp 3] Tryz.func292 ?_;refine ae @bh ?_;refine WC.iw [5] [0] (fun j:Nat=>[mi j]) (fun j O'=>O'=O/\j<=7/\eP w 7 0=eP w (7 - j) j) (fun j=>7 - j) (0) ?_ ?_
 ·exact⟨rfl,Nat.zero_le _,rfl⟩
 rintro j O2 ⟨eO,hj,hs⟩;rw[eO];clear eO O2
 by_cases h7:j<7
 ·have ez:eP w (7 - j) j=if j≠0/\eL j=w then(j,true)else eP w (7 - (j+1)) (j+1):=by
   obtain⟨d,hd⟩:∃d,7 - j=d+1:=⟨6 - j,by omega⟩
   rw[hd,show 7 - (j+1)=d by omega];rfl
  rw[ez]at hs;by_cases h0:j=0
  ·rw[if_neg (fun h=>h.1 h0)]at hs;refine ae @bh ?_;exact aD.next (j+1) ⟨rfl,h7,hs⟩
  ·refine ae @bh ?_;refine ah.rt (RF j _) ?_;rintro _ O3 ⟨rfl,eO⟩;rw[eO];clear eO O3
   cases hw:eL j==w
   ·rw[if_neg (fun h=>by rw[h.2]at hw;simp at hw)]at hs;refine ao @bh @hw ?_;exact aD.next (j+1) ⟨rfl,h7,hs⟩
   ·rw[if_pos ⟨h0,eq_of_beq hw⟩]at hs;rw[hs];exact dz @bh @hw
 ·obtain rfl:j=7:=by omega
  rw[hs];refine ae @bh ?_;rfl
def du (s p:Bs):Bool:=s.take p.length==p
theorem UQ {s p:Bs} (h:¬p.length<=s.length):du s p=false:=by
 unfold du;rw[beq_eq_false_iff_ne];intro e;have:=congrArg List.length e;rw[List.length_take]at this;omega
theorem F0 (s p:Bs) (O:VH):VF Tryz.prog 313 [.str s,.str p] O (aL fun m O'=>m=mb (du s p)/\O'=O):=by
 refine VF.db 18 [.tmp 4] Tryz.func313 ?_;by_cases h:p.length<=s.length
 ·have e:(s.take p.length==p)=du s p:=rfl;generalize du s p=b at*;cases b
  ·exact dz @bh @e
  ·exact dz @bh @e
 ·rw[UQ h];exact eX @bh
theorem mo (s p:Bs) (O:VH):VF Tryz.prog 303 [.str s,.str p] O (aL fun m O'=>m=mb (du s p)/\O'=O):=by
 refine VF.db 8 [.tmp 4] Tryz.func303 ?_;refine ae @bh ?_;refine ah.rt (F0 s p _) ?_;rintro _ O2 ⟨rfl,rfl⟩;exact eX @bh
set_option linter.defProp false in
def dM:=And.intro bh<|And.intro dq<|And.intro ad2 ahb
section
variable {P:Program} {n:Sz} {D:List Deferred} {e:Env} {O:VH} {Q:VQ}
theorem ab.o_ {brk:List Nat} {Ψ :Gh->Prop} {J:VH->Prop} {Z:Prop} {fuel i:Nat} {listed:Array Bool} {l:List Oper} {d:Option Tmp} {f:Operand} {xs:Array Operand} {ts:Array TypeId} {ty:TypeId} {ps:String} {af:Array Edge} {g:Option (Nat×Bool)} {id:FuncId} {ms cs:List MV} {R:fU->VH->Prop} (hR:VF P id (ms++cs) O R)
  (h:∀m O',R (.ret m) O'->J O'/\ab P n D ⟨l⟩ brk J Ψ Z fuel (listed.setIfInBounds i true) (aV d m e) O' Q) (h2:∀m O',R (.panic m) O'->Q (.panic m) (jQ n e) O') (hr:Region.ready .any ⟨l⟩ listed=[i]:=by kernel_rfl) (ho:l[i]?=some (.mk d (.call {callee:=.value f,args:=xs,argTypes:=ts}) ty ps af g):=by exact rfl) (hg:aK ⟨l⟩ (.mk d (.call {callee:=.value f,args:=xs,argTypes:=ts}) ty ps af g) e=some true:=by exact rfl) (hf:ev e f=some (.func (.func id) [] cs):=by exact rfl) (hm:fS e xs.toList=some ms:=by exact rfl) (hb:dk P id=true:=by kernel_rfl) (hd:bg n d=true:=by exact rfl):ab P n D ⟨l⟩ brk J Ψ Z (fuel+1) listed e O Q:=
 ab.one (aG.call (o:=.mk d (.call {callee:=.value f,args:=xs,argTypes:=ts}) ty ps af g) (by simpa using ho) hg rfl rfl hf hm (Enters.sY hb) hd (by simpa using hR) fun r O' hr=>by
  cases r with
  | ret m=>exact h m O' hr
  | panic m=>exact h2 m O' hr) (hr:=hr)
end
def idxFrom {α :Type} (p: α ->Bool):Nat->List α ->Int
 | _,[]=> -1
 | i,x::r=>if p x then i else idxFrom p (i+1) r
theorem D9 {α :Type} (p: α ->Bool):∀(L:List α) (i:Nat),decide (idxFrom p i L>=0)=L.any p
 | [],i=>rfl
 | x::r,i=>by
   rw[idxFrom,List.any_cons];cases h:p x
   ·simp[D9 p r]
   ·simp
theorem RM (L:List (Bs×Bs)) (tk:aC) (id:FuncId) (cs:List MV) (p:Bs×Bs->Bool) (O:VH) (hid:dk Tryz.prog id=true) (hc:∀x∈L,∀O',O.Ge O'->VF Tryz.prog id ([.agg (aW x)]++cs) O' (aL fun m mj=>m=mb (p x)/\O'.Ge mj)) (hn:L.length<=1000000):
  VF Tryz.prog 210 [.sl L.length (L.flatMap aW) tk,.func (.func id) [] cs] O (aL fun m O'=>m=mi (idxFrom p 0 L)/\O.Ge O'):=by
 have dE:=aX eM L;refine VF.db 19 [.tmp 4] Tryz.func210 ?_;refine ae @dM ?_;refine WC.iw [8] [0,1,7] (fun j:Nat=>[mi j]) (fun j O'=>O.Ge O'/\j<=L.length/\idxFrom p 0 L=idxFrom p j (L.drop j)) (fun j=>L.length - j) (0) ?_ ?_
 ·exact⟨VH.Ge.refl _,Nat.zero_le _,rfl⟩
 rintro j O2 ⟨az,hj,dD⟩;by_cases h2:j<L.length
 ·have bI:=cV eM L j h2;have hcj:=hc L[j] (List.getElem_mem h2) O2 az;rw[List.drop_eq_getElem_cons h2,idxFrom]at dD;generalize L[j]=y at*;refine ao @dM @bI ?_;refine ah.rt hcj ?_ (hb:=hid);rintro _ O3 ⟨rfl,aR⟩;cases hi:p y
  ·rw[hi]at dD;refine ae @dM ?_;exact aD.next (j+1) ⟨az.trans aR,by omega,dD⟩
  ·rw[hi,if_pos rfl]at dD;rw[dD];refine ae @dM ?_;exact az.trans aR
 ·obtain rfl:j=L.length:=by omega
  rw[List.drop_of_length_le (by omega)]at dD;rw[dD];refine ae @dM ?_;exact⟨rfl,az⟩
theorem acP (L:List (Bs×Bs)) (tk:aC) (id:FuncId) (cs:List MV) (p:Bs×Bs->Bool) (O:VH) (hid:dk Tryz.prog id=true) (hc:∀x∈L,∀O',O.Ge O'->VF Tryz.prog id ([.agg (aW x)]++cs) O' (aL fun m mj=>m=mb (p x)/\O'.Ge mj)) (hn:L.length<=1000000):
  VF Tryz.prog 264 [.sl L.length (L.flatMap aW) tk,.func (.func id) [] cs] O (aL fun m O'=>m=mb (L.any p)/\O.Ge O'):=by
 rw[<-D9 p L 0];refine VF.db 9 [.tmp 4] Tryz.func264 ?_;refine ae @dM ?_;refine ah.rt (RM L tk id cs p O hid hc hn) ?_;rintro _ O2 ⟨rfl,az⟩;refine ae @dM ?_;exact az
theorem UR (x:Bs×Bs) (k:Nat) (yn:Bs) (a b c:MV) (O:VH) (hk:O.hp k=some (.cells [.str yn,a,b,c])) (xc:k<O.next):VF Tryz.prog 265 [.agg (aW x),.ptr k 0] O (aL fun m O'=>m=mb (x.1==yn)/\O.Ge O'):=by
 obtain⟨x1,x2⟩:=x;unfold aW;refine VF.bX 9 [.tmp 3] Tryz.func265 ?_;refine VC.ag aa (ae @dM ?_);refine VC.bx ?_;rintro O1 ⟨aT,fB,dd⟩;have en:=(aT.hp k xc).trans hk;refine WC.sound aa (aM @dM @fB @en ?_);exact aT
def r4 (wy:Bs):List Nd->List (Bs×Bs)->Except (Int×Bs) (List (Bs×Bs))
 | [],L=>.ok L
 | k::r,L=>bif L.any (·.1==k.nm)then .error (20,wy++[47]++k.nm++[91,50,93])else match o7 k (wy++[47]++k.nm) true with
   | .error e=>.error e
   | .ok s=>r4 wy r (L++[(k.nm,s)])
def kx (x:Nd) (w:Bs):Except (Int×Bs) (List (Bs×Bs)):=
 match bR x w ko with
 | .error e=>.error e
 | .ok ((_,_),false)=>.ok []
 | .ok ((y,wy),true)=>if 1024<(b_ y []).length then .error (2,wy)else r4 wy (b_ y []) []
theorem Y6 (x:Nd) (w:Bs) (O:VH) (hx:jM x<=1000000) (hw:w.length<=10000):
  VF Tryz.prog 239 [.agg (jJ x w)] O (FQ O (kx x w) fun y m=>∃tk,m= .sl y.length (y.flatMap aW) tk):=by
 have ux:=qS x w ko;have mh:=jo x;have uy:= @qU x w ko;have uz:∀e,bR x w ko= .error e->kx x w= .error e:=fun e h=>by unfold kx;rw[h]
 have m7:∀y wy,bR x w ko= .ok ((y,wy),false)->kx x w= .ok []:=fun y wy h=>by unfold kx;rw[h]
 have gZ:∀y wy,bR x w ko= .ok ((y,wy),true)->kx x w=if 1024<(b_ y []).length then .error (2,wy)else r4 wy (b_ y []) []:=fun y wy h=>by unfold kx;rw[h]
 generalize kx x w=PE at*;generalize bR x w ko=F at*;obtain⟨n,a,k,t⟩:=x;generalize hW:jM (.mk n a k t)=W at*;simp only[jJ,cO,List.cons_append,List.nil_append]at ux ⊢;refine VF.bX 55 [.tmp 2] Tryz.func239 ?_;refine VC.ag aa (ae @dM ?_);refine VC.bx ?_;rintro O1 ⟨aT,fB,dd⟩;refine VC.ag aa (ao @dM @fB ?_);refine ah.p (ux O1 (by omega) (by omega) (by decide)) ?_ ?_;rotate_left
 ·rintro m O2 ⟨az,h⟩;cases F with
  | ok y=>exact h.elim
  | error e=>
    dsimp only at h;rw[uz e rfl];refine ae @dM ?_;exact⟨aT.trans az,h⟩
 rintro m O2 ⟨az,h⟩;cases F with
 | error e=>exact h.elim
 | ok y=>
 obtain⟨⟨y,wy⟩,b⟩:=y;dsimp only at h;subst h;obtain⟨Y4,uA⟩:=uy rfl;have ou:wy.length<=30000:=by rw[uA];simp only[List.length_append,List.length_cons,List.length_nil];omega
 clear uy uA uz;have o5:=Cp y [];have ahJ:=jo y;have hKm:∀z∈b_ y [],jM z<=1000000:=fun z hz=>by have:=PA hz;omega
 have hKl:(b_ y []).length<=1000000:=Nat.le_trans (List.length_filter_le _ _) (by omega)
 replace gZ:b=true->PE=if 1024<(b_ y []).length then .error (2,wy)else r4 wy (b_ y []) []:=fun h=>by subst h;exact gZ y wy rfl
 replace m7:b=false->PE= .ok []:=fun h=>by subst h;exact m7 y wy rfl
 generalize b_ y []=K at*;obtain⟨yn,ya,yk,yt⟩:=y;simp only[jJ,cO,List.cons_append,List.nil_append]at o5 ⊢;have fW:=aT.trans az;refine ae @dM ?_;refine VC.al ?_;rintro O3 ⟨aR,LB,gW⟩;have ec:=fW.trans aR;cases b
 ·rw[m7 rfl];refine WC.sound aa (ae @dM ?_);exact⟨ec,.nil,rfl⟩
 replace gZ:=gZ rfl
 clear m7;refine VC.ag aa (ae @dM ?_);refine VC.ag aa (ao @dM @LB ?_);refine ah.rt (o5 O3 (by omega)) ?_;rintro _ O4 ⟨tk,rfl,bj⟩;have Y5:=bj.at LB;have gD:=ec.trans bj;have ic:=bj.next;refine ae @dM ?_;by_cases LD:1024<K.length
 ·rw[if_pos LD]at gZ;rw[gZ];refine VC.ag aa (ao @dM @Y5 ?_);refine ah.p (kW _ _ _) ?_ ?_
  ·rintro m O9 ⟨_,h⟩;exact h.elim
  rintro m O9 ⟨rfl,rfl⟩;refine ae @dM ?_;exact⟨gD,rfl⟩
 rw[if_neg LD]at gZ;refine VC.ag aa (ao @dM @Y5 ?_);refine VC.join aa [2] (fun x:List (Bs×Bs)×aC=>[.sl x.1.length (x.1.flatMap aW) x.2]) (fun x O'=>O.Ge O'/\PE= .ok x.1) ?_ ?_;rotate_left
 ·rintro⟨L,tl⟩ O9 ⟨aY,hP⟩;rw[hP];refine ae @dM ?_;exact⟨aY,tl,rfl⟩
 refine VC.ag aa (ae @dM ?_);refine VC.aB ?_;refine VC.bE [2,27] [3,25,26] (fun x:Nat×List (Bs×Bs)×aC=>[.sl x.2.1.length (x.2.1.flatMap aW) x.2.2,mi x.1]) (fun x O'=>O4.Ge O'/\App O' O4.next 2 x.2.2/\x.1<=K.length/\x.2.1.length=x.1/\PE=r4 wy (K.drop x.1) x.2.1) (fun x=>K.length - x.1) ((0,[],.nil)) ?_ ?_
 ·exact⟨VH.Ge.refl _,trivial,Nat.zero_le _,rfl,gZ⟩
 rintro⟨j,L,tl⟩ O5 ⟨bG,cL,hj,nP,hP⟩;dsimp only at cL hj nP hP ⊢;by_cases bm:j<K.length;rotate_left
 ·obtain rfl:j=K.length:=by omega
  rw[List.drop_of_length_le (Nat.le_refl _),r4]at hP;refine WC.sound aa (ae @dM ?_);exact ay.mk (L,tl) ⟨gD.trans bG,hP⟩
 have bI:=cV kV K j bm;rw[<-oZ]at bI;have RI:=cH K;rw[List.drop_eq_getElem_cons bm,r4]at hP;have Y7:=hKm K[j] (List.getElem_mem bm);generalize K[j]=z at*;have ui:=Ly z (wy++[47]++z.nm) true;have hkz:=jo z;have htz:=Nat.le_trans (D6 z.kids) (Nat.le_of_lt (vG z))
 have ahK:z.nm.length<=1000000:=by cases z with
  | mk n a k t=>rw[zh]at Y7;show n.length<=_;omega
 generalize o7 z (wy++[47]++z.nm) true=T at*;obtain⟨zn,za,cB,zt⟩:=z;simp only[jJ,cO,Nd.nm,List.cons_append,List.nil_append]at bI ui hP ahK;have hy5:=bG.at Y5;have gf:=bG.next;refine VC.ag aa (ae @dM ?_);refine VC.ag aa (ae @dM ?_);refine VC.bu (VC.aB ?_);refine VC.ag aa (ao @dM @bI ?_);refine VC.al ?_;rintro O6 ⟨fO,lS,m5⟩;have hy6:=fO.at hy5;have nw:=cL.ge fO;have LH:=bG.trans fO;have ew:((j:Int)+1)=((j+1:Nat):Int):=by omega
 refine VC.ag aa (aM @dM @hy6 @lS ?_);refine VC.ag aa (ae @dM ?_);refine ah.rt (acP L tl 265 [.ptr O5.next 0] (fun q=>q.1==zn) O6 (by kernel_rfl) (fun q _ O' IP=>UR q _ zn _ _ _ O' (IP.at lS) (by have:=IP.next;omega)) (by omega)) ?_;rintro _ O7 ⟨rfl,eH⟩;have Bz:=(gD.trans LH).trans eH;have hy7:=eH.at hy6;have s_:=eH.at lS;have rX:=eH.next;have jk:=nw.ge eH;refine ae @dM ?_;cases kF:L.any fun q=>q.1==zn
 rotate_left
 ·rw[kF,cond_true]at hP;rw[hP];refine ae @dM ?_;refine ah.p (kW _ _ _) ?_ ?_
  ·rintro m O9 ⟨_,h⟩;exact h.elim
  rintro m O9 ⟨rfl,rfl⟩;refine ae @dM ?_;exact⟨Bz,rfl⟩
 rw[kF,cond_false]at hP;refine ae @dM ?_;refine VC.m4 [9,10] ?_;refine ab.av 0 ?_;refine ae @dM ?_;refine ab.av 1 ?_;refine ae @dM ?_;refine ab.ld (m:=.str zn) 2 ?_ ?_
 ·exact dz @dM @s_
 simp only[aj];refine ab.av 4 ?_;refine ae @dM ?_;refine ab.op (i:=3) ?_;refine ao @dM @s_ ?_;refine⟨VH.Ge.refl _,?_⟩;refine ab.av 5 ?_;refine ae @dM ?_;refine ab.o_ (i:=6) (ui O7 (by omega) (by omega)) ?_ ?_;rotate_left
 ·rintro m O8 ⟨fE,h⟩;cases T with
  | ok s=>exact h.elim
  | error e=>
    dsimp only at h hP;rw[hP];refine ae @dM ?_;exact⟨Bz.trans fE,h⟩
 rintro m O8 ⟨fE,h⟩;cases T with
 | error e=>exact h.elim
 | ok s=>
 dsimp only at h hP;subst h;simp only[aj];refine⟨fE,?_⟩;refine ab.av 7 ?_;refine ae @dM ?_;refine ab.op (i:=8) ?_;refine ae @dM ?_;refine⟨fE,?_⟩;refine ab.bM [(9,.one),(10,.av)] ?_;refine ae @dM ?_;obtain⟨mE,fJ,kj⟩:=fy (n:=L.length) (cs:=L.flatMap aW) (ds:=[.str zn,.str s]) (es:=aW (zn,s)) IB Bv.1.1 (jk.ge fE) (aX eM L) rfl rfl (by decide) (by omega) (by simp only[maxLen];omega) (fz L) (by simp only[aW,wu]);refine VL.kE fJ kj ?_;refine ae @dM ?_;refine WC.sound aa (ae @dM ?_);exact aD.next (j+1,L++[(zn,s)],.own O8.next 2) ⟨cj.dW ((LH.trans eH).trans fE) (jk.ge fE) (cj.after (jk.ge fE)),App.after (by have:=fE.next;omega),bm,by dsimp only;rw[List.length_append,nP];rfl,hP⟩ (hl:=(by dsimp only;rw[List.length_append,List.flatMap_append,ew];rfl))
section
variable {P:Program} {tab:bN} {n:Sz} {D:List Deferred} {md:Md} {ops:Array Oper} {Q:VQ} {f:Fl} {o:Oper} {L:List (Fl×Oper)} {e:Env} {O:VH} {r:Option (MV×VH)} {b:Bool} {c:Code}
theorem PF (h:WL P tab n D md ops Q L e O):WL P tab n D md ops Q L e O:=h
theorem PG (h:W2 P tab n D md ops Q f o L e O r):W2 P tab n D md ops Q f o L e O r:=h
theorem PH (h:W3 P tab n D md ops Q L e O b):W3 P tab n D md ops Q L e O b:=h
theorem PI (h:WC P tab n D c e O Q):WC P tab n D c e O Q:=h
end
section
variable {A1 A2 A3 A4 A5 A6 A7 P Q:Prop}
theorem fQ (a1:A1) (q:Q) (h:A1->Q->P:=by intro a1 q;first | (with_reducible refine VC.ag aa ?_;refine ae a1 q) | (with_reducible refine WC.sound aa ?_;refine ae a1 q) | (first | with_reducible refine PF ?_ | with_reducible refine PG ?_ | with_reducible refine PH ?_ | with_reducible refine PI ?_);refine ae a1 q):P:=h a1 q
theorem pc (a1:A1) (a2:A2) (q:Q) (h:A1->A2->Q->P:=by intro a1 a2 q;first | (with_reducible refine VC.ag aa ?_;refine ao a1 a2 q) | (with_reducible refine WC.sound aa ?_;refine ao a1 a2 q) | (first | with_reducible refine PF ?_ | with_reducible refine PG ?_ | with_reducible refine PH ?_ | with_reducible refine PI ?_);refine ao a1 a2 q):P:=h a1 a2 q
theorem kg3 (a1:A1) (a2:A2) (a3:A3) (q:Q) (h:A1->A2->A3->Q->P:=by intro a1 a2 a3 q;first | (with_reducible refine VC.ag aa ?_;refine aM a1 a2 a3 q) | (with_reducible refine WC.sound aa ?_;refine aM a1 a2 a3 q) | (first | with_reducible refine PF ?_ | with_reducible refine PG ?_ | with_reducible refine PH ?_ | with_reducible refine PI ?_);refine aM a1 a2 a3 q):P:=h a1 a2 a3 q
theorem kg4 (a1:A1) (a2:A2) (a3:A3) (a4:A4) (q:Q) (h:A1->A2->A3->A4->Q->P:=by intro a1 a2 a3 a4 q;first | (with_reducible refine VC.ag aa ?_;refine dB a1 a2 a3 a4 q) | (with_reducible refine WC.sound aa ?_;refine dB a1 a2 a3 a4 q) | (first | with_reducible refine PF ?_ | with_reducible refine PG ?_ | with_reducible refine PH ?_ | with_reducible refine PI ?_);refine dB a1 a2 a3 a4 q):P:=h a1 a2 a3 a4 q
theorem kg5 (a1:A1) (a2:A2) (a3:A3) (a4:A4) (a5:A5) (q:Q) (h:A1->A2->A3->A4->A5->Q->P:=by intro a1 a2 a3 a4 a5 q;first | (with_reducible refine VC.ag aa ?_;refine ll a1 a2 a3 a4 a5 q) | (with_reducible refine WC.sound aa ?_;refine ll a1 a2 a3 a4 a5 q) | (first | with_reducible refine PF ?_ | with_reducible refine PG ?_ | with_reducible refine PH ?_ | with_reducible refine PI ?_);refine ll a1 a2 a3 a4 a5 q):P:=h a1 a2 a3 a4 a5 q
theorem kg6 (a1:A1) (a2:A2) (a3:A3) (a4:A4) (a5:A5) (a6:A6) (q:Q) (h:A1->A2->A3->A4->A5->A6->Q->P:=by intro a1 a2 a3 a4 a5 a6 q;first | (with_reducible refine VC.ag aa ?_;refine FV a1 a2 a3 a4 a5 a6 q) | (with_reducible refine WC.sound aa ?_;refine FV a1 a2 a3 a4 a5 a6 q) | (first | with_reducible refine PF ?_ | with_reducible refine PG ?_ | with_reducible refine PH ?_ | with_reducible refine PI ?_);refine FV a1 a2 a3 a4 a5 a6 q):P:=h a1 a2 a3 a4 a5 a6 q
end
section
variable {G H:Gh} {n:Sz} {D:List Deferred} {e e':Env} {a:Act} {P:Program} {tab:bN} {O O':VH} {w:World} {m m':MV} {u v:Value} {ops:Array Oper} {Q:VQ} {md:Md}
def Y8 (P:Program) (tab:bN) (rs:List ResultVar) (g:FuncId) (cap:List Operand) (t:Tmp) (k lo:Nat) (rest:Code) (R:fU->VH->Prop):VQ:=fun x e O=>match x with
 | .normal=>∃ms,fS e cap=some ms/\∀D,VC P ⟨k,lo⟩ D rest ((t,.func (.func g) [] ms)::e) O (K_ P tab rs g ms R)
 | .ret=>iO R O (iy tab e O rs)
 | _=>False
theorem PJ (ht:aI P tab) {el:TypeId} {te:bS} {B n' j:Nat} {L ds:List MV} {p q:MV} {dx:TypeDesc} {d:Option Tmp} {x y:Operand} {t tx ty:TypeId} {ps:String} {af:Array Edge} {g:Option (Nat×Bool)}
  (hr:GR O el te.size B p n' L) (hs:yC O te.size q=some (j,ds)) (gG:ds.all dh=true) (hu:(tab t).map bS.under=some (.slice el)) (he:tab el=some te) (ui:(tab tx).map bS.under=some dx) (DA:yD q dx) (hb:(n'+j)*te.bytes<=140737488355328) (hm:n'+j<=maxLen) (hB:B<=O.next)
  (hx:ev e x=some p) (hy:ev e y=some q):
  eJ P n D (.mk d (.call {callee:=.builtin .append,args:= #[x,y],argTypes:= #[t,tx]}) ty ps af g) e O (fun m O'=>GR O' el te.size B m (n'+j) (L++ds)/\bk O (gid p) O'/\(gid p=none->O.Ge O')/\((∃k c,m= .bo k 0 (n'+j) c/\(gid p=some k\/(O.next<=k/\j≠0)))\/(j=0/\m=p/\O'=O))):=by
 intro G a w hw hf;have l9:=hf.ev hx;have wc:=hf.ev hy;have eR:=bl ht ui
 have fin:∀{m O' u w' H},(GR O' el te.size B m (n'+j) (L++ds)/\bk O (gid p) O'/\(gid p=none->O.Ge O')/\((∃k c,m= .bo k 0 (n'+j) c/\(gid p=some k\/(O.next<=k/\j≠0)))\/(j=0/\m=p/\O'=O)))->(Builtin.append_ #[t,tx] ty #[a.eval x,a.eval y]).run P w= .ok u w'->Gh.Le G H->WR H O' w'->VR H m u->
   ∃m O' u w' H,(GR O' el te.size B m (n'+j) (L++ds)/\bk O (gid p) O'/\(gid p=none->O.Ge O')/\((∃k c,m= .bo k 0 (n'+j) c/\(gid p=some k\/(O.next<=k/\j≠0)))\/(j=0/\m=p/\O'=O)))/\(execOp a.eval (.mk d (.call {callee:=.builtin .append,args:= #[x,y],argTypes:= #[t,tx]}) ty ps af g)).run P w= .ok (.value u) w'/\Gh.Le G H/\WR H O' w'/\VR H m u:=fun hM bU h1 h2 h3=>
  ⟨_,_,_,_,_,hM,by simp only[execOp,resolve,invoke,builtin,List.map_toArray,List.map_cons,List.map_nil,Sem.run_bind,Sem.run_pure,Result.andThen_ok]<;>simp[bU],h1,h2,h3⟩
 obtain⟨vs,n7,hv⟩:=yE (P:=P) hw hs wc eR DA gG;have rN:ds.length=j*te.size:=by rw[<-hv.1];exact n7.newsLen
 rcases hr with⟨rfl,rfl,hp⟩ | ⟨k,c,rfl,yH,nP,cx⟩
 ·have hA:∃A,a.eval x= .slice A 0 0/\(∀w',(Builtin.firstCells te.size 0 (.slice A 0 0)).run P w'= .ok #[] w'):=by
   generalize a.eval x=u at l9
   have key:∀A:Option Addr,∀w',(Builtin.firstCells te.size 0 (.slice A 0 0)).run P w'= .ok #[] w':=fun A w'=>by
    cases A<;>simp[Builtin.firstCells,loadCells,loadCellsFrom]
   rcases hp with rfl | rfl
   ·cases l9 with
    | slnil=>exact⟨_,rfl,key _⟩
    | sl h1 h2 h3 h4 h5 h6=>exact h6.elim
   ·cases l9 with
    | sl h1 h2 h3 h4 h5 h6=>
      have h6:_=0:=h6;subst h6;exact⟨_,rfl,key _⟩
  obtain⟨A,hA,To⟩:=hA;have Xu:gid p=none:=by rcases hp with rfl | rfl<;>rfl
  by_cases hj:j=0
  ·subst hj;have oN:ds=[]:=List.eq_nil_of_length_eq_zero (by simpa using rN);subst oN;refine fin (m:=p) (O':=O) (u:=a.eval x) (w':=w) (H:=G) ⟨.inl ⟨rfl,rfl,hp⟩,bk.refl _ _,fun _=>VH.Ge.refl _,.inr ⟨rfl,rfl,rfl⟩⟩ ?_ (Gh.Le.refl G) hw l9;have js:vs=[]:=by have:=hv.1;simpa using this
   subst js;rw[hA];have eA:=bl ht hu;obtain⟨ti,z,i1,i2,_⟩:=(ht _ te he).info;rcases n7.kind with⟨e',hk⟩ | hk<;>cases A<;>simp[Builtin.append_,run_underlying eA,run_underlying hk,eI (ht _ te he),n7.len,n7.cells,storeCells]
  ·rw[hA]at fin;obtain⟨c',w',H,zs,g1,g2,g3,g4,g5,g6,g7⟩:=yF (P:=P) ht hw (n':=0) (c:=0) (A:=A) (L:=[]) (us:=[]) (ty:=ty) hu he eR hs DA gG aO.nil (by simp) (To _) (by omega) hb hm wc;refine fin ⟨.inr ⟨O.next,c',rfl,g1,by rw[List.length_append,rN];simp,?_⟩,?_,fun _=>?_,.inl ⟨_,_,rfl,.inr ⟨Nat.le_refl _,hj⟩⟩⟩ g4 g5 g6 g7
   ·refine Row.xh (cs:=[]) (t:=el) ?_ hB;rw[List.length_append,g3,List.length_append,rN,List.length_nil,Nat.zero_add, <-Nat.add_mul]
    congr 1;omega
   ·rw[Xu];exact bk.push.trans bk.push
   ·exact((VH.Ge.refl O).push _).push _
 ·obtain⟨sp,lQ,nL⟩:=cx.cells;generalize nQ:a.eval x=u at l9;have Xv:=l9;cases Xv with
  | bo hp hn hmx=>
    rename_i b;rw[nQ]at fin;have hmul:(n'+j)*te.size=n'*te.size+j*te.size:=Nat.add_mul _ _ _;by_cases nO:n'+j<=c
    ·have hle:(n'+j)*te.size<=c*te.size:=Nat.mul_le_mul_right _ nO;obtain⟨w',A,g1,g2,g3⟩:=KF (P:=P) (ty:=ty) ht hw hu he eR lQ hs DA gG nO (by rw[nL,rN];omega) l9 wc;rw[Nat.zero_add, <-nP,yG]at g2
     have G1:ds.length<=sp.length:=by
      rw[List.length_append]at nL;omega
     rw[List.take_of_length_le G1]at g2;refine fin ⟨.inr ⟨k,c,rfl,nO,by rw[List.length_append,nP,rN,hmul],cx.adL ?_⟩,bk.set,(fun h=>by cases h),.inl ⟨_,_,rfl,.inl rfl⟩⟩ g1 (Gh.Le.refl G) g2 g3;rw[List.length_append,List.length_append,List.length_drop];rw[List.length_append]at nL;omega
    ·obtain⟨b',C,T,d1,d2,d3⟩:=hw.cells k _ lQ;rw[hp]at d1;injection d1 with d1;subst d1
     have hL:=d3.take L.length;rw[List.take_left,List.take_take,Nat.min_eq_left (by rw[List.length_append];omega)]at hL
     have hold:(Builtin.firstCells te.size n' (.slice (some ⟨b,0,none⟩) n' c)).run P w.drew= .ok (C.toList.take L.length).toArray w.drew:=by
      refine run_firstCells_some (P:=P) w.drew te.size n' ⟨b,0,none⟩ n' c _ (by rw[hL.1,nP]) fun i u hu=>?_
      rw[Addr.add_lit,Nat.zero_add];rw[List.getElem?_take]at hu;split at hu
      ·have ju:w.drew.heap[b]?=some (.cells C T.t T.fr):=d2;simp only[World.cell?,ju,Option.isSome_none,Bool.false_eq_true,if_false];simpa using hu
      ·cases hu
     obtain⟨c',w',H,zs,g1,g2,g3,g4,g5,g6,g7⟩:=yF (P:=P) (ty:=ty) ht hw (n':=n') (c:=c) (A:=some ⟨b,0,none⟩) (L:=L) hu he eR hs DA gG hL nP hold (by omega) hb hm wc;refine fin ⟨.inr ⟨O.next,c',rfl,g1,by rw[List.length_append,nP,rN,hmul],?_⟩,(bk.push.trans bk.push).any,(fun h=>by cases h),.inl ⟨_,_,rfl,.inr ⟨Nat.le_refl _,by omega⟩⟩⟩ g4 g5 g6 g7;refine Row.xh (cs:=[]) (t:=el) ?_ hB;rw[List.length_append,g3,List.length_append,nP,rN, <-hmul, <-Nat.add_mul]
     congr 1;omega
theorem VF.D_ {f g:FuncId} {fn:Func} {A B rest:Code} {id k lo:Nat} {t:Tmp} {cap:Array Operand} {ty Yn:TypeId} {ps Yo:String} {af Yp:Array Edge} {args:List MV} {rs:List ResultVar} {R:fU->VH->Prop} (hf:P.funcs[f]?=some fn) (hE:Enters P g)
  (h:WC P tab ⟨k,0⟩ [] A (cb 0 args) O (sG (Is P ⟨k,0⟩ [] B (Y8 P tab rs g cap.toList t k lo rest R)) (Y8 P tab rs g cap.toList t k lo rest R))) (ht:aI P tab:=by exact aa) (hb:fn.body=some (.seq A (.seq B (.seq (.region id ⟨[.mk (some t) (.makeFunc (.func g) #[] cap) ty ps af none,.mk none (.defer {callee:=.value (.tmp t),args:= #[],argTypes:= #[]}) Yn Yo Yp none]⟩ false) rest))):=by exact rfl) (hk:fn.ntmps=k:=by exact rfl) (hr:fn.results.toList=rs:=by exact rfl) (hn:args.length<=k:=by exact Nat.le_of_ble_eq_true rfl) (fu:t<k:=by decide):VF P f args O R:=by
 subst hk;intro G w vs hw hv;refine calls_of_wp_defers hf hb ?_
 have aS:FR G ⟨fn.ntmps,0⟩ [] (cb 0 args) {tmps:=vs.toArray++Array.replicate (fn.ntmps - vs.toArray.size) undef,defers:=[]}:=by
  have hl:=hv.1;refine⟨rfl,by simp;omega,fun t x hx=>?_⟩;rw[iU,if_pos (Nat.zero_le _),Nat.sub_zero]at hx;obtain⟨u,h1,h2⟩:=hv.get hx;refine⟨u,?_,h2⟩;have dK:=(List.getElem?_eq_some_iff.1 h1).1;rw[Array.getElem?_append_left (by simpa using dK)];simpa using h1
 refine wp_seq (wp_mono (WC.sound ht h G _ w hw aS) ?_)
 have early:∀{e:Env} {a':Act} {w':World} {O':VH} {K:Gh},Gh.Le G K->WR K O' w'->FR K ⟨fn.ntmps,0⟩ [] e a'->iO R O' (iy tab e O' rs)->
   Leaves P fn a'.tmps (fun x w'=>∃r O' H,Gh.Le G H/\WR H O' w'/\ER H r x/\R r O') a'.defers .returning w':=by
  intro e a' w' O' K k1 k2 k3 q3;rw[k3.defers]
  have key:∃m,dj tab fn e O'=some m/\R (.ret m) O':=by
   unfold dj;rw[hr, <-uh];generalize iy tab e O' rs=z at q3;unfold iO at q3;split at q3
   ·exact q3.elim
   ·exact⟨_,rfl,q3⟩
   ·rename_i l hl;refine⟨.tuple l,?_,q3⟩
    match l,hl with
    | [],_=>rfl
    | [m],hl=>exact absurd rfl (hl m)
    | _::_::_,_=>rfl
  obtain⟨m,h6,h7⟩:=key;obtain⟨u2,h8,h9⟩:=lY (P:=P) ht k2 k3 h6;exact⟨u2,h8,.ret m,O',K,k1,k2,h9,h7⟩
 rintro y a1 w1 ⟨x,e,O1,H,g1,g2,g3,g4,g5⟩
 cases y<;>cases x<;>first
  | exact False.elim g4
  | exact g5.elim
  | exact early g1 g2 g3 g5
  | skip
 refine wp_seq (wp_mono (g5 H a1 w1 g2 g3) ?_);rintro y a1 w1 ⟨x,e,O1,H2,g1',g2,g3,g4,g5⟩
 replace g1:=g1.trans g1'
 clear g1'
 cases y<;>cases x<;>first
  | exact False.elim g4
  | exact g5.elim
  | exact early g1 g2 g3 g5
  | skip
 obtain⟨ms,hm,OT⟩:=g5;have g3:FR H2 ⟨fn.ntmps,0⟩ [] e a1:=g3;have js:=g3.fS hm;have FB:cap.map a1.eval=(cap.toList.map a1.eval).toArray:=by apply Array.ext';simp
 generalize cap.toList.map a1.eval=us at js FB
 have OU:(execOp a1.eval (.mk (some t) (.makeFunc (.func g) #[] cap) ty ps af none)).run P w1= .ok (.value (.func (.func g) #[] us.toArray)) w1:=by
  simp[execOp,Instr.makeFunc,FB]
 have hz:=g3.size;dsimp only at hz
 have hev:(a1.put (some t) (.func (.func g) #[] us.toArray)).eval (.tmp t)= .func (.func g) #[] us.toArray:=by
  simp[Act.eval,Act.put,hz,fu]
 have OV:(execOp (a1.put (some t) (.func (.func g) #[] us.toArray)).eval (.mk none (.defer {callee:=.value (.tmp t),args:= #[],argTypes:= #[]}) Yn Yo Yp none)).run P w1= .ok (.defer {target:=.fn (.func g) us.toArray,args:= #[]}) w1:=by
  simp[execOp,resolve,hev,Deferred.ofValue]
 refine wp_seq (wp_region ?_);have KZ:∀o1 o2:Oper,List.range (Array.mk [o1,o2]).size=[0,1]:=fun _ _=>rfl
 rw[KZ];have FU:∀(o1 o2:Oper) (tm:Array Value),o1.guard=none->Region.wanted o1 (yielded ⟨[o1,o2]⟩ tm)=true:=fun o1 o2 tm h=>by simp[Region.wanted,h]
 have wa:∀(o1 o2:Oper) (tm:Array Value),o2.guard=none->Region.wanted o2 (yielded ⟨[o1,o2]⟩ tm)=true:=fun o1 o2 tm h=>by simp[Region.wanted,h]
 simp only[wpOps,List.getElem?_toArray,List.getElem?_cons_zero,List.getElem?_cons_succ];rw[if_pos (FU _ _ _ rfl)];refine .inl ?_;unfold Oper.wp;rw[OU,Oper.upon_value];simp only[wpOps,List.getElem?_toArray,List.getElem?_cons_zero,List.getElem?_cons_succ];rw[if_pos (wa _ _ _ rfl)];refine .inl ?_;first | unfold Oper.wp | skip
 rw[OV,Oper.upon_defer];have xg:FR H2 ⟨fn.ntmps,0⟩ [] ((t,.func (.func g) [] ms)::e) (a1.put (some t) (.func (.func g) #[] us.toArray)):=FR.put g3 fu (.func (fs:=[]) (us:=[]) rfl (fun i c u h=>by simp at h) js.1 js.2);generalize a1.put (some t) (.func (.func g) #[] us.toArray)=a2 at xg;have DJ:FR H2 ⟨fn.ntmps,lo⟩ [{target:=.fn (.func g) us.toArray,args:= #[]}] ((t,.func (.func g) [] ms)::e) {a2 with defers:={target:=.fn (.func g) us.toArray,args:= #[]}::a2.defers}:=⟨by rw[xg.defers],xg.size,xg.get⟩;show rest.wp P _ _ _;refine wp_mono (OT _ H2 _ w1 g2 DJ) ?_;rintro y a' w' ⟨x,e',O',K,k1,k2,k3,k4,k5⟩
 have hinv:∀w:World,(invoke (.fn (.func g) us.toArray) #[]).run P w= .ok (.enter g us.toArray) w:=fun w=>by
  simp[invoke,hE us.toArray w]
 have fin:∀(u:FrameMode) (z:Option MV),u≠ .run->MR K z u->FR K ⟨fn.ntmps,lo⟩ [{target:=.fn (.func g) us.toArray,args:= #[]}] e' a'->fG P g ms z O' (fun O'=>iO R O' (iy tab e' O' rs))->
   Leaves P fn a'.tmps (fun x w'=>∃r O' H,Gh.Le G H/\WR H O' w'/\ER H r x/\R r O') a'.defers u w':=by
  intro u z hu hmr Yq hd;rw[Yq.defers];refine leaves_cons hu (hinv _) ((hd K w' us u k2 (js.mono k1) hmr).mono ?_);rintro r u' N2 ⟨⟨v,rfl⟩,hs,O2,K2,q1,q2,q3⟩;dsimp only;rw[hs]
  have key:∃m,dj tab fn e' O2=some m/\R (.ret m) O2:=by
   unfold dj;rw[hr, <-uh];generalize iy tab e' O2 rs=z at q3;unfold iO at q3;split at q3
   ·exact q3.elim
   ·exact⟨_,rfl,q3⟩
   ·rename_i l hl;refine⟨.tuple l,?_,q3⟩
    match l,hl with
    | [],_=>rfl
    | [m],hl=>exact absurd rfl (hl m)
    | _::_::_,_=>rfl
  obtain⟨m,h6,h7⟩:=key;obtain⟨u2,h8,h9⟩:=lY (P:=P) ht q2 (Yq.mono q1) h6;exact⟨u2,h8,.ret m,O2,K2,(g1.trans k1).trans q1,q2,h9,h7⟩
 cases y with
 | normal=>cases x<;>first | exact False.elim k4 | exact fin .returning none (by simp) trivial k3 k5
 | ret=>cases x<;>first | exact False.elim k4 | exact fin .returning none (by simp) trivial k3 k5
 | panic c=>
   cases x with
   | panic m=>
     obtain⟨u,rfl,hvu⟩:=k4;exact fin (.panicking [⟨u,false,false⟩]) (some m) (by simp) hvu k3.2 k5
   | _=>exact False.elim k4
 | exit i=>cases x<;>first | exact False.elim k4 | exact k5.elim
 | goto i=>cases x<;>first | exact False.elim k4 | exact k5.elim
 | outgrown=>cases x<;>exact False.elim k4
theorem VL.afX (ht:aI P tab) {brk:List Nat} {el:TypeId} {te:bS} {B n' j:Nat} {L ds:List MV} {p q:MV} {dx:TypeDesc} {d:Option Tmp} {x y:Operand} {t tx ty:TypeId} {ps:String} {af:Array Edge} {g:Option (Nat×Bool)} {LL:List (Fl×Oper)} (hne:brk≠[])
  (oK:∀i,ops[i]?=some (.mk d (.call {callee:=.builtin .append,args:= #[x,y],argTypes:= #[t,tx]}) ty ps af g)->brk.contains i=true)
  (hr:GR O el te.size B p n' L) (hs:yC O te.size q=some (j,ds)) (gG:ds.all dh=true) (hu:(tab t).map bS.under=some (.slice el)) (he:tab el=some te) (ui:(tab tx).map bS.under=some dx) (DA:yD q dx) (hb:(n'+j)*te.bytes<=140737488355328) (hm:n'+j<=maxLen) (hB:B<=O.next)
  (hx:ev e x=some p) (hy:ev e y=some q) (hg:aK ops (.mk d (.call {callee:=.builtin .append,args:= #[x,y],argTypes:= #[t,tx]}) ty ps af g) e=some true) (hd:bg n d=true)
  (h:∀m O',GR O' el te.size B m (n'+j) (L++ds)->bk O (gid p) O'->(gid p=none->O.Ge O')->((∃k c,m= .bo k 0 (n'+j) c/\(gid p=some k\/(O.next<=k/\j≠0)))\/(j=0/\m=p/\O'=O))->WL P tab n D (.held brk) ops Q LL (aV d m e) O'):
  VL P n D (.held brk) ops ((.one,.mk d (.call {callee:=.builtin .append,args:= #[x,y],argTypes:= #[t,tx]}) ty ps af g)::LL) e O Q:=by
 refine VL.nM hg hd (fun _ ad8 h=>by injection h with h;subst h;exact hne) (fun ad8 h=>by injection h with h;subst h;exact .inr hne) (PJ ht hr hs gG hu he ui DA hb hm hB hx hy) (fun ad8 h i hi=>by injection h with h;subst h;exact oK i hi) ?_;rintro m O' ⟨h1,h2,h3,h4⟩;exact WL.sound ht (h m O' h1 h2 h3 h4)
theorem bq.mv {brk:List Nat} {fuel:Nat} (i:Nat) {listed:Array Bool} {l:List Oper} {d:Option Tmp} {x:Operand} {ty:TypeId} {ps:String} {af:Array Edge} {g:Option (Nat×Bool)} (h:bq P n D ⟨l⟩ brk fuel (listed.setIfInBounds i true) (aV d m e) O Q) (ho:l[i]?=some (.mk d (.move x) ty ps af g):=by exact rfl) (hs:Region.noSelect ⟨l⟩=true:=by kernel_rfl) (hf:Region.free .any ⟨l⟩ listed i=true:=by kernel_rfl) (hr:(Region.ready .any ⟨l⟩ listed).contains i=true:=by kernel_rfl) (LI:brk.contains i=true:=by kernel_rfl) (hg:aK ⟨l⟩ (.mk d (.move x) ty ps af g) e=some true:=by exact rfl) (hd:bg n d=true:=by exact rfl) (hx:ev e x=some m:=by exact rfl):bq P n D ⟨l⟩ brk (fuel+1) listed e O Q:=by
 intro G a w hw aS;have hu:=aS.ev hx;have bU:∀w:World,(execOp a.eval (.mk d (.move x) ty ps af g)).run P w= .ok (.value (a.eval x)) w:=fun w=>by simp[execOp]
 have IQ:(⟨l⟩:Array Oper)[i]?=some (.mk d (.move x) ty ps af g):=by simpa using ho
 refine nh (S:=fun _=>True) (W:=fun _=>False) (brk:=fun _=>false) IQ (Region.noSelect_spec hs) (gj hd) (fun _ _ _ _=>trivial) (fun x _ hh=>by rw[LI]at hh;cases hh) fuel listed a w (Region.free_spec IQ hf) (fun _ _ _ h=>h.elim) (fun _ h=>h.elim) (fun _ _ _ h=>by cases h) (by simpa using hr) (.inl ⟨bf aS hg,fun x _=>bU x⟩) trivial (h G _ w hw (aS.aV hd hu))
theorem bq.bM (ix:List (Nat×Fl)) {brk:List Nat} {fuel:Nat} {listed:Array Bool} {l:List Oper} {L:List (Fl×Oper)} (h:WL P tab n D (.held brk) ⟨l⟩ Q L e O) (ht:aI P tab:=by exact aa) (hs:Region.noSelect ⟨l⟩=true:=by kernel_rfl) (hp:cc (.held brk) ⟨l⟩ fuel listed ix=true:=by kernel_rfl) (hL:mZ l ix=some L:=by exact rfl):bq P n D ⟨l⟩ brk fuel listed e O Q:=
 (WL.sound ht h) fuel listed ix (rP hL) (fun _=>⟨hs,hp⟩)
theorem VC.gen {c:Code} (h:∀O3,O3=O->VC P n D c e O3 Q):VC P n D c e O Q:=h _ rfl
theorem WL.gen {L:List (Fl×Oper)} (h:∀O3,O3=O->WL P tab n D md ops Q L e O3):WL P tab n D md ops Q L e O:=h _ rfl
theorem gI (a b:bV) {O1:VH} (h:O1=(O.push a).push b):O.Ge O1/\O1.next=O.next+2/\O1.hp O.next=some a/\O1.hp (O.next+1)=some b:=by
 subst h;exact⟨((VH.Ge.refl O).push _).push _,rfl,(VH.oL _ _ (show O.next≠O.next+1 by omega)).trans (VH.aZ _ _),VH.aZ _ _⟩
theorem uB (a b c:bV) {O1:VH} (h:O1=((O.push a).push b).push c):O.Ge O1/\O1.next=O.next+3/\O1.hp O.next=some a/\O1.hp (O.next+1)=some b/\O1.hp (O.next+2)=some c:=by
 subst h;obtain⟨h1,h2,h3,h4⟩:=gI (O:=O) a b rfl;exact⟨h1.push _,rfl,(VH.oL _ _ (show O.next≠O.next+2 by omega)).trans h3,(VH.oL _ _ (show O.next+1≠O.next+2 by omega)).trans h4,VH.aZ _ _⟩
theorem PK (a b c d:bV) {O1:VH} (h:O1=(((O.push a).push b).push c).push d):O.Ge O1/\O1.next=O.next+4/\O1.hp O.next=some a/\O1.hp (O.next+1)=some b/\O1.hp (O.next+2)=some c/\O1.hp (O.next+3)=some d:=by
 subst h;obtain⟨h1,h2,h3,h4,h5⟩:=uB (O:=O) a b c rfl;exact⟨h1.push _,rfl,(VH.oL _ _ (show O.next≠O.next+3 by omega)).trans h3,(VH.oL _ _ (show O.next+1≠O.next+3 by omega)).trans h4,(VH.oL _ _ (show O.next+2≠O.next+3 by omega)).trans h5,VH.aZ _ _⟩
theorem bq.At (i:Nat) {brk:List Nat} {fuel:Nat} {listed:Array Bool} {l:List Oper} {o:Oper} (h:yN (fun m O'=>bq P n D ⟨l⟩ brk fuel (listed.setIfInBounds i true) (aV o.dst m e) O' Q) (gL tab .rd o e O)) (ht:aI P tab:=by exact aa) (ho:l[i]?=some o:=by exact rfl) (hs:Region.noSelect ⟨l⟩=true:=by kernel_rfl) (hf:Region.free .any ⟨l⟩ listed i=true:=by kernel_rfl) (hr:(Region.ready .any ⟨l⟩ listed).contains i=true:=by kernel_rfl) (hb:mX ⟨l⟩ brk listed i=true:=by kernel_rfl) (hg:aK ⟨l⟩ o e=some true:=by exact rfl) (hd:bg n o.dst=true:=by exact rfl):bq P n D ⟨l⟩ brk (fuel+1) listed e O Q:=by
 generalize hv:gL tab .rd o e O=v at h;cases v with
 | none=>exact h.elim
 | some p=>
   obtain⟨m,O'⟩:=p
   exact bq.take (by simpa using ho) hs hf hr hb hd (fun G a w hw aS=>by
    obtain⟨_,u,hu,bU⟩:=vz (P:=P) ht hw aS (by simp) hv;exact⟨u,hu,.inl ⟨bf aS hg,bU⟩⟩) (by
    obtain rfl:=tW (by simp) hv;exact h)
theorem bq.fin {brk:List Nat} {fuel:Nat} {listed:Array Bool} (hb:((List.range listed.size).all fun j=>listed.getD j true||brk.contains j)=true) (h:bP P n D ops fuel listed e O Q):bq P n D ops brk fuel listed e O Q:=by
 intro G a w hw aS;refine ma _ _ _ _ (fun j hj x hs hh=>?_) (h G a w hw aS);rcases Nat.lt_or_ge j listed.size with hl | hl
 ·have:=List.all_eq_true.1 hb j (List.mem_range.2 hl);rw[hj,Bool.false_or]at this;rw[this]at hh;cases hh
 ·rw[Array.getD_eq_getD_getElem?,Array.getElem?_eq_none (by simpa using hl)]at hj;cases hj
theorem bP.RN {i:Nat} {fuel:Nat} {listed:Array Bool} {l:List Oper} {o:Oper} (h:yN (fun m O'=>bP P n D ⟨l⟩ fuel (listed.setIfInBounds i true) (aV o.dst m e) O' Q) (cI tab o e O)) (ht:aI P tab:=by exact aa) (ho:l[i]?=some o:=by exact rfl) (hr:Region.ready .any ⟨l⟩ listed=[i]:=by kernel_rfl) (hg:aK ⟨l⟩ o e=some true:=by exact rfl) (hd:bg n o.dst=true:=by exact rfl):bP P n D ⟨l⟩ (fuel+1) listed e O Q:=
 bP.all hr (by simp) fun j hj=>by
  obtain rfl:j=i:=by simpa using hj
  exact aG.o1 h (ht:=ht) (ho:=ho) (hg:=hg) (hd:=hd)
theorem bP.st {i:Nat} {fuel:Nat} {listed:Array Bool} {l:List Oper} {o:Oper} {M:MV->VH->Prop} (ho:l[i]?=some o) (hr:Region.ready .any ⟨l⟩ listed=[i]) (hg:aK ⟨l⟩ o e=some true) (hd:bg n o.dst=true) (hy:eJ P n D o e O M)
  (h:∀m O',M m O'->bP P n D ⟨l⟩ fuel (listed.setIfInBounds i true) (aV o.dst m e) O' Q):bP P n D ⟨l⟩ (fuel+1) listed e O Q:=
 bP.all hr (by simp) fun j hj=>by
  obtain rfl:j=i:=by simpa using hj
  exact aG.st hy h (ho:=ho) (hg:=hg) (hd:=hd)
theorem bP.two {i j:Nat} {fuel:Nat} {listed:Array Bool} (hr:Region.ready .any ops listed=[i,j])
  (h1:aG P n D ops i e O Q fun e' O'=>bP P n D ops fuel (listed.setIfInBounds i true) e' O' Q) (h2:aG P n D ops j e O Q fun e' O'=>bP P n D ops fuel (listed.setIfInBounds j true) e' O' Q):bP P n D ops (fuel+1) listed e O Q:=
 bP.all hr (by simp) fun x hx=>by
  simp only[List.mem_cons,List.not_mem_nil,or_false]at hx;rcases hx with rfl | rfl
  ·exact h1
  ·exact h2
theorem WR.US (h:WR G O w) {k:Nat} {cs ds:List MV} (hk:O.hp k=some (.cells cs)) (hw:dR cs ds):WR G (O.set k (.cells ds)) w:=
 h.swap (by rw[hk];simp) (fun cs' e=>by
  injection e with e;subst e
  obtain⟨b,C,T,h1,h2,h3⟩:=h.cells k cs hk;exact⟨b,C,T,h1,h2,by rw[<-hw.1];exact hw.vrs h3⟩) (fun X e=>by cases e) (fun _ _ e=>by cases e) (fun e=>by cases e) (fun _ _ _ e=>by cases e)
theorem VC.US {c:Code} {k:Nat} {cs ds:List MV} (hk:O.hp k=some (.cells cs)) (hw:dR cs ds) (h:VC P n D c e (O.set k (.cells ds)) Q):VC P n D c e O Q:=fun G a w hwr hf=>h G a w (hwr.US hk hw) hf
theorem WR.vI (h:WR G O w) {k p o n c sz:Nat} {cs A E:List MV} (hk:O.hp k=some (.cells cs)) (hp:O.hp p=some (.cells (A++ .bo k o n c::E))) (mP:p≠k) (hl:o+sz<=cs.length):∃H,Gh.Le G H/\WR H ((O.kill k).set p (.cells (A++ .sl n ((cs.drop o).take sz) .ar::E))) w:=by
 obtain⟨b,C,T,h1,h2,h3⟩:=h.cells p _ hp;obtain⟨u,hu,hv⟩:=h3.get (i:=A.length) (c:=.bo k o n c) (by rw[List.getElem?_append_right (Nat.le_refl _),Nat.sub_self];rfl);obtain⟨H,h4,h5,h6⟩:=h.freeze hk hv hl;refine⟨H,h4,?_⟩;have LJ:(O.kill k).hp p=some (.cells (A++ .bo k o n c::E)):=(VH.kT _ mP).trans hp;refine h5.swap (by rw[LJ];simp) (fun cs' e=>?_) (fun X e=>by cases e) (fun _ _ e=>by cases e) (fun e=>by cases e) (fun _ _ _ e=>by cases e);injection e with e;subst e
 refine⟨b,C,T,h4.cy h1,h2,?_⟩;have h7:=h3.mono h4;refine⟨?_,fun i c' u' hc CO=>?_⟩
 ·rw[List.length_append,List.length_cons]at h7 ⊢;have:=h7.1;rw[List.length_append,List.length_cons]at this;exact this
 ·have hlen:(A++MV.sl n ((cs.drop o).take sz) .ar::E).length=(A++MV.bo k o n c::E).length:=by simp
  rw[hlen]at CO;by_cases hi:i=A.length
  ·subst hi;rw[List.getElem?_append_right (Nat.le_refl _),Nat.sub_self]at hc;injection hc with hc;subst hc
   rw[hu]at CO;injection CO with CO;subst CO
   exact Wk.tok _ _ h6
  ·refine h7.2 i c' u' ?_ CO;rcases Nat.lt_or_ge i A.length with dK | gK
   ·rw[List.getElem?_append_left dK]at hc ⊢;exact hc
   ·rw[List.getElem?_append_right gK]at hc ⊢;obtain⟨j,hj⟩:∃j,i - A.length=j+1:=⟨i - A.length - 1,by omega⟩
    rw[hj,List.getElem?_cons_succ]at hc ⊢;exact hc
theorem VC.vI {c0:Code} {k p o n' c sz:Nat} {cs A E:List MV} (hk:O.hp k=some (.cells cs)) (hp:O.hp p=some (.cells (A++ .bo k o n' c::E))) (mP:p≠k) (hl:o+sz<=cs.length) (h:VC P n D c0 e ((O.kill k).set p (.cells (A++ .sl n' ((cs.drop o).take sz) .ar::E))) Q):VC P n D c0 e O Q:=fun G a w hw hf=>by
 obtain⟨H,h1,h2⟩:=hw.vI hk hp mP hl;exact wp_mono (h H a w h2 (hf.mono h1)) fun _ _ _=>cu.le h1
end
section
variable {G H:Gh} {n:Sz} {D:List Deferred} {e e':Env} {a:Act} {P:Program} {tab:bN} {O O':VH} {w:World} {m m':MV} {u v:Value} {ops:Array Oper} {Q:VQ} {md:Md}
theorem ab.ahL (i:Nat) {brk:List Nat} {Ψ :Gh->Prop} {J:VH->Prop} {Z:Prop} {fuel:Nat} {listed:Array Bool} {l:List Oper} {o:Oper} (h:yN (fun m O'=>ab P n D ⟨l⟩ brk J Ψ Z fuel (listed.setIfInBounds i true) (aV o.dst m e) O' Q) (gL tab .av o e O)) (ht:aI P tab:=by exact aa) (ho:l[i]?=some o:=by exact rfl) (hs:Region.noSelect ⟨l⟩=true:=by kernel_rfl) (hf:Region.free .any ⟨l⟩ listed i=true:=by kernel_rfl) (hr:(Region.ready .any ⟨l⟩ listed).contains i=true:=by kernel_rfl) (LI:brk.contains i=true:=by kernel_rfl) (hg:aK ⟨l⟩ o e=some true:=by exact rfl) (hd:bg n o.dst=true:=by exact rfl):ab P n D ⟨l⟩ brk J Ψ Z (fuel+1) listed e O Q:=by
 generalize hv:gL tab .av o e O=v at h;cases v with
 | none=>exact h.elim
 | some p=>
   obtain⟨m,O'⟩:=p;obtain⟨h1,rfl⟩:=mY hv;intro hΨ hZ hJ G a w hψ hw aS;obtain⟨u,hu,bU⟩:=tH (P:=P) ht aS h1;have IQ:(⟨l⟩:Array Oper)[i]?=some o:=by simpa using ho
   exact nh (S:=fun x=>SS G x) (W:=fun _=>False) (brk:=fun _=>false) IQ (Region.noSelect_spec hs) (gj hd) (fun _ _ _ hT=>hT.1) (fun x hx=>⟨hx,fun hh=>by rw[LI]at hh;cases hh⟩) fuel listed a w (Region.free_spec IQ hf) (fun _ _ _ h=>h.elim) (fun _ h=>h.elim) (fun _ _ _ h=>by cases h) (by simpa using hr) (.inl ⟨bf aS hg,fun x hx=>bU x hx⟩) hw.ss (h hΨ hZ hJ G _ w hψ hw (aS.aV hd hu))
theorem VC.r5 {id:Nat} (brk:List Nat) (J:VH->Prop) (hJ:J O) (h:ab P n D ops brk J (fun _=>True) True ops.size (Array.replicate ops.size false) e O Q) (hm:P.follows .mixedOrders=true:=by kernel_rfl):VC P n D (.region id ops true) e O Q:=
 fun G a w hw hf=>wp_region_any hm (jR _ _ _ _ (h (fun _ _ _ _=>trivial) trivial hJ G a _ trivial (hw.drawn _) hf))
def exP:MV->Bool
 | .ptr _ _=>true
 | .map _=>true
 | m=>exM m
theorem Y9 (hm:exP m=true) (h1:VR G m u) (hl:Gh.Le G H) (h2:VR H m v):v=u:=by
 cases m with
 | ptr k o=>
   cases h1 with
   | ptr a=>cases h2 with
     | ptr b=>rw[hl.cy a]at b;injection b with b;rw[b]
 | map k=>
   cases h1 with
   | map a=>cases h2 with
     | map b=>rw[hl.cy a]at b;injection b with b;rw[b]
 | _=>refine Rv ?_ h1 h2;exact hm
theorem ab.lp (i:Nat) {J:VH->Prop} {Ψ :Gh->Prop} {Z:Prop} {brk:List Nat} {fuel:Nat} {listed:Array Bool} {l:List Oper} {d:Option Tmp} {t:TypeId} {x:Operand} {ty:TypeId} {ps:String} {af:Array Edge} {g:Option (Nat×Bool)} {p:MV} (hv:∀O2,J O2->ey tab O2 t p=some m) (h:ab P n D ⟨l⟩ brk J Ψ Z fuel (listed.setIfInBounds i true) (aV d m e) O Q) (ht:aI P tab:=by exact aa) (ho:l[i]?=some (.mk d (.load t x) ty ps af g):=by exact rfl) (hs:Region.noSelect ⟨l⟩=true:=by kernel_rfl) (hf:Region.free .any ⟨l⟩ listed i=true:=by kernel_rfl) (hr:(Region.ready .any ⟨l⟩ listed).contains i=true:=by kernel_rfl) (hb:mX ⟨l⟩ brk listed i=true:=by kernel_rfl) (hg:aK ⟨l⟩ (.mk d (.load t x) ty ps af g) e=some true:=by exact rfl) (hd:bg n d=true:=by exact rfl) (hx:ev e x=some p:=by exact rfl) (hm:exP m=true:=by exact rfl):ab P n D ⟨l⟩ brk J Ψ Z (fuel+1) listed e O Q:=by
 refine ab.take (o:=.mk d (.load t x) ty ps af g) (by simpa using ho) hs hf hr hb hd (fun G a w _ hJ _ hw aS=>?_) h;obtain⟨u0,Yl,_⟩:=ns (P:=P) ht hw (hv O hJ) (aS.ev hx);refine⟨u0,Yl,.inl ⟨bf aS hg,fun y hy=>?_⟩⟩;obtain⟨H,O2,g1,g2,g3⟩:=hy;obtain⟨r,g4,g5⟩:=ns (P:=P) ht g2 (hv O2 g3) ((aS.ev hx).mono g1);have:=g5 y g2.sx;have er:=Y9 hm Yl g1 g4;subst er;simp only[execOp,Sem.run_bind,this];rfl
def LK (k1 k2:Nat) (X1 X2:Obj) (O':VH):Prop:=O'.hp k1=some (.obj X1)/\O'.hp k2=some (.obj X2)
def ΨFF (PL LN:List MV) (X1 X2:Obj) (G:Gh):Prop:=jT PL X1 G/\jT LN X2 G
theorem VC.Cr {id:Nat} (brk:List Nat) (k1 k2:Nat) {PL LN:List MV} (en:O.hp k1=some (.cells PL)) (bO:O.hp k2=some (.cells LN))
  (h:∀X1 X2,ab P n D ops brk (LK k1 k2 X1 X2) (ΨFF PL LN X1 X2) True ops.size (Array.replicate ops.size false) e ((O.set k1 (.obj X1)).set k2 (.obj X2)) Q) (hne:k2≠k1:=by omega) (hm:P.follows .mixedOrders=true:=by kernel_rfl):VC P n D (.region id ops true) e O Q:=
 fun G a w hw hf=>by
  obtain⟨X1,fB,FU⟩:=(hw.drawn _).fix en;obtain⟨X2,jL,wa⟩:=FU.fix (k:=k2) (cs:=LN) ((VH.ak _ _ hne).trans bO);exact wp_region_any hm (jR _ _ _ _ (h X1 X2 (fun _ _ hl hx=>⟨jT.mono hl hx.1,jT.mono hl hx.2⟩) trivial ⟨(VH.ak _ _ (Ne.symm hne)).trans (VH.an _ _ _),VH.an _ _ _⟩ G a _ ⟨fB,jL⟩ wa hf))
theorem ab.pd (i:Nat) {J:VH->Prop} {Ψ :Gh->Prop} {Z:Prop} {brk:List Nat} {cs:List MV} {X:Obj} {fuel:Nat} {listed:Array Bool} {l:List Oper} {d:Option Tmp} {t:TypeId} {x:Operand} {ty:TypeId} {ps:String} {af:Array Edge} {g:Option (Nat×Bool)} {k off:Nat} (hJ:∀O',J O'->O'.hp k=some (.obj X)) (hΨ :∀G, Ψ G->jT cs X G) (hv:ey tab (O.set k (.cells cs)) t (.ptr k off)=some m) (h:ab P n D ⟨l⟩ brk J Ψ Z fuel (listed.setIfInBounds i true) (aV d m e) O Q) (ht:aI P tab:=by exact aa) (ho:l[i]?=some (.mk d (.load t x) ty ps af g):=by exact rfl) (hs:Region.noSelect ⟨l⟩=true:=by kernel_rfl) (hf:Region.free .any ⟨l⟩ listed i=true:=by kernel_rfl) (hr:(Region.ready .any ⟨l⟩ listed).contains i=true:=by kernel_rfl) (hb:mX ⟨l⟩ brk listed i=true:=by kernel_rfl) (hg:aK ⟨l⟩ (.mk d (.load t x) ty ps af g) e=some true:=by exact rfl) (hd:bg n d=true:=by exact rfl) (hx:ev e x=some (.ptr k off):=by exact rfl):ab P n D ⟨l⟩ brk J Ψ Z (fuel+1) listed e O Q:=by
 refine ab.take (o:=.mk d (.load t x) ty ps af g) (by simpa using ho) hs hf hr hb hd (fun G a w _ hJO hψ hw aS=>?_) h;obtain⟨C,T,rfl,h3⟩:=hΨ G hψ;unfold ey at hv;simp only[cellsOf,VH.an]at hv;split at hv
 ·rename_i ti cs' off' NX hc;injection hc with hc;injection hc with e1 e2;subst e1;subst e2
  obtain⟨r,nu,fc⟩:=DK (P:=P) ht NX hv h3;have Yu:=aS.ev hx;generalize Yv:a.eval x=xu at Yu;cases Yu with
  | ptr hp=>
    rename_i b;refine⟨r,nu,.inl ⟨bf aS hg,fun y hy=>?_⟩⟩;obtain⟨H,O2,g1,g2,g3⟩:=hy;obtain⟨b',cg,b9⟩:=g2.obj k _ (hJ _ g3);rw[g1.cy hp]at cg;injection cg with cg;subst cg
    have:=fc y b fun j v hj=>by
     rw[List.getElem?_take]at hj;split at hj
     ·simp only[World.cell?,b9,Option.isSome_none,Bool.false_eq_true,if_false];simpa using hj
     ·cases hj
    simp only[execOp,Sem.run_bind,Yv,this];rfl
 ·cases hv
theorem ab.vJ (ix:List (Nat×Fl)) {brk:List Nat} {k1 k2:Nat} {PL LN:List MV} {X1 X2:Obj} {fuel:Nat} {listed:Array Bool} {l:List Oper} {L:List (Fl×Oper)}
  (h:WL P tab n D .any ⟨l⟩ Q L e ((O.set k1 (.cells PL)).set k2 (.cells LN))) (ht:aI P tab:=by exact aa) (hb:((List.range listed.size).all fun j=>listed.getD j true||brk.contains j)=true:=by kernel_rfl) (hs:Region.noSelect ⟨l⟩=true:=by kernel_rfl) (hp:cc .any ⟨l⟩ fuel listed ix=true:=by kernel_rfl) (hL:mZ l ix=some L:=by exact rfl) (hne:k2≠k1:=by omega):ab P n D ⟨l⟩ brk (LK k1 k2 X1 X2) (ΨFF PL LN X1 X2) True fuel listed e O Q:=by
 have h':=bP.bM ix h (ht:=ht) (hs:=hs) (hp:=hp) (hL:=hL);intro hΨ hZ hJ G a w hψ hw aS;refine ma _ _ _ _ (fun j hj x hs=>⟨hs,fun hh=>?_⟩) (h' G a w ((hw.wJ hJ.1 hψ.1).wJ (k:=k2) ((VH.ak _ _ hne).trans hJ.2) hψ.2) aS);rcases Nat.lt_or_ge j listed.size with hl | hl
 ·have:=List.all_eq_true.1 hb j (List.mem_range.2 hl);rw[hj,Bool.false_or]at this;rw[this]at hh;cases hh
 ·rw[Array.getD_eq_getD_getElem?,Array.getElem?_eq_none (by simpa using hl)]at hj;cases hj
theorem VC.zi {id:Nat} (brk:List Nat) (k:Nat) {cs:List MV} (J0:VH->Prop) (hk:O.hp k=some (.cells cs)) (h0:∀X,J0 (O.set k (.obj X)))
  (h:∀X,ab P n D ops brk (fun O'=>O'.hp k=some (.obj X)/\J0 O') (jT cs X) True ops.size (Array.replicate ops.size false) e (O.set k (.obj X)) Q) (hm:P.follows .mixedOrders=true:=by kernel_rfl):VC P n D (.region id ops true) e O Q:=
 fun G a w hw hf=>by
  obtain⟨X,hx,wa⟩:=(hw.drawn _).fix hk;exact wp_region_any hm (jR _ _ _ _ (h X (fun _ _=>jT.mono) trivial ⟨VH.an _ _ _,h0 X⟩ G a _ hx wa hf))
theorem ab.iX (ix:List (Nat×Fl)) {brk:List Nat} {k:Nat} {cs:List MV} {X:Obj} {J0:VH->Prop} {fuel:Nat} {listed:Array Bool} {l:List Oper} {L:List (Fl×Oper)}
  (h:WL P tab n D .any ⟨l⟩ Q L e (O.set k (.cells cs))) (ht:aI P tab:=by exact aa) (hb:((List.range listed.size).all fun j=>listed.getD j true||brk.contains j)=true:=by kernel_rfl) (hs:Region.noSelect ⟨l⟩=true:=by kernel_rfl) (hp:cc .any ⟨l⟩ fuel listed ix=true:=by kernel_rfl) (hL:mZ l ix=some L:=by exact rfl):ab P n D ⟨l⟩ brk (fun O'=>O'.hp k=some (.obj X)/\J0 O') (jT cs X) True fuel listed e O Q:=by
 have h':=bP.bM ix h (ht:=ht) (hs:=hs) (hp:=hp) (hL:=hL);intro hΨ hZ hJ G a w hψ hw aS;refine ma _ _ _ _ (fun j hj x hs=>⟨hs,fun hh=>?_⟩) (h' G a w (hw.wJ hJ.1 hψ) aS);rcases Nat.lt_or_ge j listed.size with hl | hl
 ·have:=List.all_eq_true.1 hb j (List.mem_range.2 hl);rw[hj,Bool.false_or]at this;rw[this]at hh;cases hh
 ·rw[Array.getD_eq_getD_getElem?,Array.getElem?_eq_none (by simpa using hl)]at hj;cases hj
end
set_option linter.defProp false in
def bw:=And.intro dM<|And.intro T4 T3
def ky (dT:Bool) (s:Bs):Bool:=(ku s).2&&(dT||(ku s).1 != 6)
theorem PM (dT:Bool) (O:VH):VF Tryz.prog 293 [mb dT] O (aL fun m O'=>m= .func (.func 311) [] [.ptr O.next 0]/\uu O [mb dT] O'):=by
 refine VF.bX 4 [.tmp 2] Tryz.func293 ?_;refine VC.ag aa (ae @bw ?_);refine VC.bx ?_;rintro O1 h1;refine WC.sound aa (ae @bw ?_);exact h1
theorem LO (dT:Bool) (s:Bs) (b:Nat) (O:VH) (hb:O.hp b=some (.cells [mb dT])):VF Tryz.prog 311 ([.str s]++[.ptr b 0]) O (aL fun m O'=>m=mb (ky dT s)/\O.Ge O'):=by
 have hS:=LG s O;have hF:ky dT s=((ku s).2&&(dT||(ku s).1 != 6)):=rfl;generalize ky dT s=W at*;generalize ku s=q at*;obtain⟨n,c⟩:=q;simp only[List.cons_append,List.nil_append];dsimp only at hF hS;simp only[a_]at hb;refine VF.db 19 [.tmp 3] Tryz.func311 ?_;refine ae @bw ?_;refine ah.rt (hS) ?_;rintro _ O2 ⟨rfl,rfl⟩;subst hF;cases c
 ·refine ao @bw @hb ?_;exact VH.Ge.refl _
 ·cases dT
  ·by_cases h6:n=6
   ·subst h6;refine ao @bw @hb ?_;exact⟨rfl,VH.Ge.refl _⟩
   ·have h6':((n:Int)==6)=false:=by rw[beq_eq_false_iff_ne];omega
    have h6b:((n:Int) != 6)=true:=by rw[bne,h6'];rfl
    have h6n:(n != 6)=true:=by rw[bne_iff_ne];exact h6
    refine ll @bw @hb @h6' @h6b @h6n ?_;exact VH.Ge.refl _
  ·refine ao @bw @hb ?_;exact VH.Ge.refl _
structure DS (O:VH) (B:Nat) (E:List MV) (O':VH) (cs:List MV):Prop where
 dW:O.Ge O'
 le:O.next<=B
 x:O'.hp B=some (.cells E)
 d:O'.hp (B+1)=some (.cells cs)
 lt:B+1<O'.next
theorem DS.st {O O':VH} {B:Nat} {E cs cs':List MV} (h:DS O B E O' cs):DS O B E (O'.set (B+1) (.cells cs')) cs':=
 ⟨h.dW.set (by have:=h.le;omega) _,h.le,VH.sn h.x,VH.an _ _ _,h.lt⟩
theorem DS.ge {O O' O2:VH} {B:Nat} {E cs:List MV} (h:DS O B E O' cs) (k:O'.Ge O2):DS O B E O2 cs:=
 ⟨h.dW.trans k,h.le,(k.hp _ (by have:=h.lt;omega)).trans h.x,(k.hp _ h.lt).trans h.d,Nat.lt_of_lt_of_le h.lt k.next⟩
theorem DS.wJ {O O' O2:VH} {B:Nat} {E cs:List MV} {X:Obj} (h:DS O B E O' cs) (k:(O'.set B (.obj X)).Ge O2):DS O B E (O2.set B (.cells E)) cs:=by
 have e1:(O'.set B (.obj X)).next=O'.next:=rfl;have e2:(O2.set B (.cells E)).next=O2.next:=rfl;have h1:=h.le;have h2:=h.lt;have h3:=h.dW.next;have h4:=k.next;refine⟨⟨by omega,fun j hj=>?_⟩,h.le,VH.an _ _ _,?_,by omega⟩
 ·rw[VH.ak _ _ (by omega),k.hp j (by omega),VH.ak _ _ (by omega)];exact h.dW.hp j hj
 ·rw[VH.ak _ _ (by omega),k.hp _ (by omega),VH.ak _ _ (by omega)];exact h.d
theorem VC.ds {P:Program} {n:Sz} {D:List Deferred} {c:Code} {e:Env} {Q:VQ} {O O':VH} {B:Nat} {E cs cs':List MV} (h:DS O B E O' cs) (k:∀O3,DS O B E O3 cs'->VC P n D c e O3 Q):VC P n D c e (O'.set (B+1) (.cells cs')) Q:=k _ h.st
theorem VC.ds0 {P:Program} {n:Sz} {D:List Deferred} {c:Code} {e:Env} {Q:VQ} {O:VH} {E cs:List MV} (k:∀O3,DS O O.next E O3 cs->VC P n D c e O3 Q):VC P n D c e ((O.push (.cells E)).push (.cells cs)) Q:=
 k _ ⟨((VH.Ge.refl O).push _).push _,Nat.le_refl _,(VH.cY _ _ (Nat.lt_succ_self _)).trans (VH.aZ _ _),VH.aZ _ _,Nat.lt_succ_self _⟩
def de:Bs->Bool:=fun _=>true
theorem r6 (s:Bs) (O':VH):VF Tryz.prog 238 ([.str s]++[]) O' (aL fun m mj=>m=mb (de s)/\O'.Ge mj):=acN s O'
theorem UT (s:Bs) (O':VH):VF Tryz.prog 294 ([.str s]++[]) O' (aL fun m mj=>m=mb (lJ s)/\O'.Ge mj):=Px s O'
def gm (s:Bs):Bool:=yZ ⟨s,s⟩
theorem LP (s:Bs) (O':VH) (hs:s.length<=1024):VF Tryz.prog 295 ([.str s]++[]) O' (aL fun m mj=>m=mb (gm s)/\O'.Ge mj):=UP s O' (by simp only[maxLen];omega)
def exE (k:Nd×Bs):Except (Int×Bs) eC:=
 match bC k.1 k.2 dC true gm with
 | .error e=>.error e
 | .ok g=>match bC k.1 k.2 dm true gm with
   | .error e=>.error e
   | .ok a=>.ok ⟨g,a⟩
def wN:List (Nd×Bs)->List eC->Except (Int×Bs) (List eC)
 | [],X=>.ok X
 | k::r,X=>match exE k with
   | .error e=>.error e
   | .ok i=>wN r (X++[i])
def uC (x:Nd) (w:Bs):Except (Int×Bs) (List eC):=
 match bR x w kO with
 | .error e=>.error e
 | .ok ((_,_),false)=>.ok []
 | .ok ((y,wy),true)=>match mn y wy sM with
   | .error e=>.error e
   | .ok l=>wN l []
def Y_ (s:Bs):Int:=if s=jw then 1 else if s=ki then 2 else 0
def nT (d:Dp):Except (Int×Bs) (List eC)->Except (Int×Bs) Dp
 | .error e=>.error e
 | .ok X=>.ok ⟨d.g,d.a,d.v,d.t,d.c,d.s,d.o,X⟩
def Ea (x:Nd) (w:Bs) (dT:Bool):Except (Int×Bs) Dp:=
 match bC x w dC true de with
 | .error e=>.error e
 | .ok g=>match bC x w dm true de with
 | .error e=>.error e
 | .ok a=>match bC x w eU false de with
 | .error e=>.error e
 | .ok v=>match bC x w zc false de with
 | .error e=>.error e
 | .ok t=>match bC x w zd false de with
 | .error e=>.error e
 | .ok c=>match bC x w pZ false (ky dT)with
 | .error e=>.error e
 | .ok s=>match bC x w lG false lJ with
 | .error e=>.error e
 | .ok o=>nT ⟨g,a,v,t,c,(ku s).1,Y_ o,[]⟩ (uC x w)
theorem Hk {y:Nd} {wy nm:Bs} {L:List (Nd×Bs)} (h:mn y wy nm= .ok L):L.length<=1024/\∀p∈L,jM p.1<=jM y/\p.2.length<=wy.length+nm.length+1030:=by
 unfold mn at h;split at h
 ·cases h
 ·rename_i hn;injection h with h;subst h
  refine⟨by rw[Hj];omega,fun p hp=>?_⟩;unfold o9 at hp;obtain⟨i,hi,rfl⟩:=List.mem_mapIdx.1 hp;have hk:=PA (List.getElem_mem hi);have B7:=qR (i+1);refine⟨Nat.le_of_lt hk,?_⟩;simp only[Cq,List.length_append,List.length_cons,List.length_nil];omega
theorem DS.afY {O O' O2:VH} {B k:Nat} {E cs:List MV} {x y:bV} (h:DS O B E O' cs) (hk:B+1<k) (g:(O'.set k x).Ge O2):DS O B E (O2.set k y) cs:=by
 have e1:(O'.set k x).next=O'.next:=rfl;have e2:(O2.set k y).next=O2.next:=rfl;have h1:=h.le;have h2:=h.lt;have h3:=h.dW.next;have h4:=g.next
 have key:∀j,j<O'.next->j≠k->(O2.set k y).hp j=O'.hp j:=fun j hj hn=>by
  rw[VH.ak _ _ hn,g.hp j (by omega),VH.ak _ _ hn]
 exact⟨⟨by omega,fun j hj=>(key j (by omega) (by omega)).trans (h.dW.hp j hj)⟩,h.le,(key _ (by omega) (by omega)).trans h.x,(key _ (by omega) (by omega)).trans h.d,by omega⟩
theorem DS.app {O O':VH} {B sz:Nat} {E cs:List MV} {tk:aC} (h:DS O B E O' cs) (ha:App O' (B+2) sz tk):DS O B E (O'.after tk) cs:=by
 have k:=cj.after ha;have h1:=h.le;have h2:=h.lt;have h3:=h.dW.next;have key:∀j,j<B+2->(O'.after tk).hp j=O'.hp j:=fun j hj=>k.hp j (by omega) (fun e=>by have:=(App.pM ha e).1;omega)
 exact⟨⟨Nat.le_trans h3 k.next,fun j hj=>(key j (by omega)).trans (h.dW.hp j hj)⟩,h.le,(key _ (by omega)).trans h.x,(key _ (by omega)).trans h.d,Nat.lt_of_lt_of_le h2 k.next⟩
theorem App.nA {O:VH} {B sz k:Nat} {tk:aC} {x:bV} (h:App O B sz tk) (hk:O.hp k≠some .tok):App (O.set k x) B sz tk:=by
 cases tk with
 | own t j=>exact⟨h.1,(VH.ak _ _ (fun e=>by subst e;exact hk h.2.1)).trans h.2.1,h.2.2.1,h.2.2.2⟩
 | nil=>trivial
 | full=>trivial
 | ar=>exact h.elim
section
variable {P:Program} {n:Sz} {D:List Deferred} {e:Env} {O:VH} {Q:VQ}
theorem aG.o_ {i:Nat} {l:List Oper} {d:Option Tmp} {f:Operand} {xs:Array Operand} {ts:Array TypeId} {ty:TypeId} {ps:String} {af:Array Edge} {g:Option (Nat×Bool)} {id:FuncId} {ms cs:List MV} {R:fU->VH->Prop} {K:Env->VH->Prop} (hR:VF P id (ms++cs) O R)
  (h:∀m O',R (.ret m) O'->K (aV d m e) O') (h2:∀m O',R (.panic m) O'->Q (.panic m) (jQ n e) O') (ho:l[i]?=some (.mk d (.call {callee:=.value f,args:=xs,argTypes:=ts}) ty ps af g):=by exact rfl) (hg:aK ⟨l⟩ (.mk d (.call {callee:=.value f,args:=xs,argTypes:=ts}) ty ps af g) e=some true:=by exact rfl) (hf:ev e f=some (.func (.func id) [] cs):=by exact rfl) (hm:fS e xs.toList=some ms:=by exact rfl) (hb:dk P id=true:=by kernel_rfl) (hd:bg n d=true:=by exact rfl):aG P n D ⟨l⟩ i e O Q K:=
 aG.call (o:=.mk d (.call {callee:=.value f,args:=xs,argTypes:=ts}) ty ps af g) (by simpa using ho) hg rfl rfl hf hm (Enters.sY hb) hd (by simpa using hR) fun r O' hr=>by
  cases r with
  | ret m=>exact h m O' hr
  | panic m=>exact h2 m O' hr
end
theorem afZ (x:Nd) (w:Bs) (dT:Bool) (O:VH) (hx:jM x<=1000000) (hw6:w.length<=6000):
  VF Tryz.prog 267 [.agg (jJ x w),mb dT] O (FQ O (Ea x w dT) fun y m=>m= .agg (aF y)):=by
 have hw:w.length<=10000:=by omega
 refine VF.fgR ?_;have qn:=o8 x w;have ux:=qS x w kO;have uy:= @qU x w kO;obtain⟨PE,hP⟩:∃PE,Ea x w dT=PE:=⟨_,rfl⟩
 rw[hP];unfold Ea at hP
 have FZ:∃a b c d e,jJ x w=[a,b,c,d,e]:=by
  cases x;simp only[jJ,cO];exact⟨_,_,_,_,_,rfl⟩
 obtain⟨a,b,c,d,e,hE⟩:=FZ;simp only[hE]at qn ux ⊢;clear hE;refine VF.bX 66 [.cell 4 65] Tryz.func267 ?_;refine VC.ag aa (ae @bw ?_);refine VC.ds0 ?_;intro _ hd;have dX:=hd.x;have cw:=hd.d;refine VC.ag aa (aM @bw @dX @cw ?_);clear dX cw;refine ah.p (qn dC true de 238 [] _ hx hw (by decide) (by kernel_rfl) (fun s O' _ _=>r6 s O')) ?_ ?_;rotate_left
 ·rintro m O9 ⟨aY,h⟩;cases hF:bC x w dC true de with
  | ok s=>rw[hF]at h;exact h.elim
  | error e=>
    rw[hF]at h hP;dsimp only at h hP;rw[h, <-hP];refine ae @bw ?_;exact⟨hd.dW.trans aY,rfl⟩
 rintro m O1 ⟨aY,h⟩;cases Za:bC x w dC true de with
 | error e=>rw[Za]at h;exact h.elim
 | ok s1=>
 rw[Za]at h hP;dsimp only at h hP;subst h;have hb:=hd.ge aY;clear aY hd;have dX:=hb.x;have cw:=hb.d;refine aM @bw @dX @cw ?_;refine VC.ds hb ?_;clear dX cw hb;intro _ hd;have dX:=hd.x;have cw:=hd.d;refine VC.ag aa (aM @bw @dX @cw ?_);clear dX cw;refine ah.p (qn dm true de 238 [] _ hx hw (by decide) (by kernel_rfl) (fun s O' _ _=>r6 s O')) ?_ ?_;rotate_left
 ·rintro m O9 ⟨aY,h⟩;cases hF:bC x w dm true de with
  | ok s=>rw[hF]at h;exact h.elim
  | error e=>
    rw[hF]at h hP;dsimp only at h hP;rw[h, <-hP];refine ae @bw ?_;exact⟨hd.dW.trans aY,rfl⟩
 rintro m O2 ⟨aY,h⟩;cases Zb:bC x w dm true de with
 | error e=>rw[Zb]at h;exact h.elim
 | ok s2=>
 rw[Zb]at h hP;dsimp only at h hP;subst h;have hb:=hd.ge aY;clear aY hd;have dX:=hb.x;have cw:=hb.d;refine aM @bw @dX @cw ?_;refine VC.ds hb ?_;clear dX cw hb;intro _ hd;have dX:=hd.x;have cw:=hd.d;refine VC.ag aa (aM @bw @dX @cw ?_);clear dX cw;refine ah.p (qn eU false de 238 [] _ hx hw (by decide) (by kernel_rfl) (fun s O' _ _=>r6 s O')) ?_ ?_;rotate_left
 ·rintro m O9 ⟨aY,h⟩;cases hF:bC x w eU false de with
  | ok s=>rw[hF]at h;exact h.elim
  | error e=>
    rw[hF]at h hP;dsimp only at h hP;rw[h, <-hP];refine ae @bw ?_;exact⟨hd.dW.trans aY,rfl⟩
 rintro m O3 ⟨aY,h⟩;cases Zc:bC x w eU false de with
 | error e=>rw[Zc]at h;exact h.elim
 | ok s3=>
 rw[Zc]at h hP;dsimp only at h hP;subst h;have hb:=hd.ge aY;clear aY hd;have dX:=hb.x;have cw:=hb.d;refine aM @bw @dX @cw ?_;refine VC.ds hb ?_;clear dX cw hb;intro _ hd;have dX:=hd.x;have cw:=hd.d;refine VC.ag aa (aM @bw @dX @cw ?_);clear dX cw;refine ah.p (qn zc false de 238 [] _ hx hw (by decide) (by kernel_rfl) (fun s O' _ _=>r6 s O')) ?_ ?_;rotate_left
 ·rintro m O9 ⟨aY,h⟩;cases hF:bC x w zc false de with
  | ok s=>rw[hF]at h;exact h.elim
  | error e=>
    rw[hF]at h hP;dsimp only at h hP;rw[h, <-hP];refine ae @bw ?_;exact⟨hd.dW.trans aY,rfl⟩
 rintro m O4 ⟨aY,h⟩;cases Zd:bC x w zc false de with
 | error e=>rw[Zd]at h;exact h.elim
 | ok s4=>
 rw[Zd]at h hP;dsimp only at h hP;subst h;have hb:=hd.ge aY;clear aY hd;have dX:=hb.x;have cw:=hb.d;refine aM @bw @dX @cw ?_;refine VC.ds hb ?_;clear dX cw hb;intro _ hd;have dX:=hd.x;have cw:=hd.d;refine VC.ag aa (aM @bw @dX @cw ?_);clear dX cw;refine ah.p (qn zd false de 238 [] _ hx hw (by decide) (by kernel_rfl) (fun s O' _ _=>r6 s O')) ?_ ?_;rotate_left
 ·rintro m O9 ⟨aY,h⟩;cases hF:bC x w zd false de with
  | ok s=>rw[hF]at h;exact h.elim
  | error e=>
    rw[hF]at h hP;dsimp only at h hP;rw[h, <-hP];refine ae @bw ?_;exact⟨hd.dW.trans aY,rfl⟩
 rintro m O5 ⟨aY,h⟩;cases hF5:bC x w zd false de with
 | error e=>rw[hF5]at h;exact h.elim
 | ok s5=>
 rw[hF5]at h hP;dsimp only at h hP;subst h;have hb:=hd.ge aY;clear aY hd;have dX:=hb.x;have cw:=hb.d;refine aM @bw @dX @cw ?_;refine VC.ds hb ?_;clear dX cw hb;intro O6 hd;have dX:=hd.x;refine VC.bu ?_;refine VC.oQ [7,8,9] (O.next) (dX) ?_;intro X;refine ab.av 1 ?_;refine ae @bw ?_;refine ab.rT (m:=.agg [a,b,c,d,e]) 0 ?_ ?_
 ·exact eX @bw
 simp only[aj];refine ab.call (i:=2) (PM dT _) ?_;rintro _ O7 ⟨rfl,eH,s_,rX⟩;simp only[aj];refine⟨(eH.hp _ (by have:=hd.lt;show _<O6.next;omega)).trans (VH.an _ _ _),?_⟩;have hl6:=hd.lt;have ahM:O7.next=O6.next+1:=rX;have ad9:O7.hp O6.next=some (.cells [mb dT]):=s_;refine ab.gV (k:=O.next) (i:=3) (qn pZ false (ky dT) 311 [.ptr O6.next 0] O7 hx hw (by decide) (by kernel_rfl) (fun s O' IP _=>LO dT s _ O' (IP.at ad9))) ?_ ?_;rotate_left
 ·rintro m O8 ⟨fE,h⟩;have hX:=((eH.trans fE).hp _ (by show O.next<O6.next;omega)).trans (VH.an _ _ _);refine⟨hX,?_⟩;cases hF:bC x w pZ false (ky dT)with
  | ok s=>rw[hF]at h;exact h.elim
  | error e=>
    rw[hF]at h hP;dsimp only at h hP;rw[h, <-hP];refine ae @bw ?_;exact⟨(hd.wJ (eH.trans fE)).dW,rfl⟩
 rintro m O8 ⟨fE,h⟩;have hX:=((eH.trans fE).hp _ (by show O.next<O6.next;omega)).trans (VH.an _ _ _);refine⟨hX,?_⟩;cases hF6:bC x w pZ false (ky dT)with
 | error e=>rw[hF6]at h;exact h.elim
 | ok s6=>
 rw[hF6]at h hP;dsimp only at h hP;subst h;simp only[aj];refine ab.call (i:=4) (LG s6 _) ?_;rintro _ O9 ⟨rfl,eO⟩;rw[eO];clear eO O9
 simp only[aj];refine⟨hX,?_⟩;have hb:=hd.wJ (eH.trans fE);have cw:=(VH.ak O8 (.cells [a,b,c,d,e]) (by omega:O.next+1≠O.next)).symm.trans hb.d;refine ab.av 5 ?_;refine ae @bw ?_;refine ab.ahL 7 ?_;refine ae @bw ?_;refine ab.av 6 ?_;refine ae @bw ?_;refine ab.mc [(8,.av),(9,.one)] ?_;refine ao @bw @cw ?_;clear s_ ad9 cw hX dX;generalize ku s6=sc at*;refine VC.ds hb ?_;clear hb hd eH fE hl6 rX ahM;intro O9 hd;have dX:=hd.x;have cw:=hd.d;refine VC.bz [2,4] (fun _:Int=>[.ptr O.next 0,.ptr (O.next+1) 0]) (fun o O'=>DS O O.next [a,b,c,d,e] O' [.str s1,.str s2,.str s3,.str s4,.str s5,mi sc.1,mi o,.sl 0 [] .nil]/\nT ⟨s1,s2,s3,s4,s5,sc.1,o,[]⟩ (uC x w)=PE) ?_ ?_
 ·refine VC.ag aa (aM @bw @dX @cw ?_);clear dX cw;refine ah.p (qn lG false lJ 294 [] _ hx hw (by decide) (by kernel_rfl) (fun s O' _ _=>UT s O')) ?_ ?_;rotate_left
  ·rintro m O9 ⟨aY,h⟩;cases hF:bC x w lG false lJ with
   | ok s=>rw[hF]at h;exact h.elim
   | error e=>
     rw[hF]at h hP;dsimp only at h hP;rw[h, <-hP];refine ae @bw ?_;exact⟨hd.dW.trans aY,rfl⟩
  rintro m OA ⟨aY,h⟩;cases hF7:bC x w lG false lJ with
  | error e=>rw[hF7]at h;exact h.elim
  | ok s7=>
  rw[hF7]at h hP;dsimp only at h hP;subst h;have hb:=hd.ge aY;clear aY hd;have dX:=hb.x;have cw:=hb.d;refine aM @bw @dX @cw ?_;have lQ:=fun o:Int=>hb.st (cs':=[.str s1,.str s2,.str s3,.str s4,.str s5,mi sc.1,mi o,.sl 0 [] .nil])
  simp only[aq]at lQ;unfold Y_ at hP;refine VC.aB ?_;cases h1:s7==jw
  ·rw[if_neg (fun e=>by rw[e]at h1;exact absurd h1 (by decide))]at hP;cases h2:s7==ki
   ·rw[if_neg (fun e=>by rw[e]at h2;exact absurd h2 (by decide))]at hP;simp only[jw,ki]at h1 h2;refine WC.sound aa (dB @bw @cw @h1 @h2 ?_);exact ay.mk 0 ⟨hb,hP⟩
   ·rw[if_pos (eq_of_beq h2)]at hP;simp only[jw,ki]at h1 h2;refine WC.sound aa (dB @bw @cw @h1 @h2 ?_);exact ay.mk 2 ⟨lQ 2,hP⟩
  ·rw[if_pos (eq_of_beq h1)]at hP;simp only[jw]at h1;refine WC.sound aa (aM @bw @cw @h1 ?_);exact ay.mk 1 ⟨lQ 1,hP⟩
 intro o OA ⟨hd,hP⟩;refine VC.bz [4] (fun _:List eC×aC=>[.ptr (O.next+1) 0]) (fun x O'=>DS O O.next [a,b,c,d,e] O' [.str s1,.str s2,.str s3,.str s4,.str s5,mi sc.1,mi o,.sl x.1.length (x.1.flatMap bF) x.2]/\ .ok (⟨s1,s2,s3,s4,s5,sc.1,o,x.1⟩:Dp)=PE) ?_ ?_;rotate_left
 ·rintro⟨X,tk⟩ O9 ⟨hd,hP⟩;have cw:=hd.d;simp only[aq]at cw;refine WC.sound aa (ao @bw @cw ?_);rw[<-hP];refine⟨hd.dW.set (by omega) _,?_⟩;simp only[aF,aq,wu,mg]
 have dX:=hd.x;have cw:=hd.d;have uz:∀e,bR x w kO= .error e->uC x w= .error e:=fun e h=>by unfold uC;rw[h]
 have m7:∀y wy,bR x w kO= .ok ((y,wy),false)->uC x w= .ok []:=fun y wy h=>by unfold uC;rw[h]
 have gZ:∀y wy,bR x w kO= .ok ((y,wy),true)->uC x w=match mn y wy sM with
  | .error e=>.error e
  | .ok l=>wN l []:=fun y wy h=>by unfold uC;rw[h]
 generalize uC x w=DX at*;generalize bR x w kO=F at*;refine VC.ag aa (aM @bw @dX @cw ?_);clear dX cw;refine ah.p (ux OA (by have:=jo x;omega) (by omega) (by decide)) ?_ ?_;rotate_left
 ·rintro m O2 ⟨az,h⟩;cases F with
  | ok y=>exact h.elim
  | error e=>
    dsimp only at h;rw[uz e rfl]at hP;simp only[nT]at hP;rw[h, <-hP];refine ae @bw ?_;exact⟨hd.dW.trans az,rfl⟩
 rintro m OB ⟨az,h⟩;cases F with
 | error e=>exact h.elim
 | ok y=>
 obtain⟨⟨y,wy⟩,bb⟩:=y;dsimp only at h;subst h;obtain⟨Y4,uA⟩:=uy rfl;have ou:wy.length<=6011:=by rw[uA];simp only[List.length_append,List.length_cons,List.length_nil];omega
 have hb:=hd.ge az;clear hd az uy uA uz
 replace gZ:bb=true->DX=match mn y wy sM with
  | .error e=>.error e
  | .ok l=>wN l []:=fun h=>by subst h;exact gZ y wy rfl
 replace m7:bb=false->DX= .ok []:=fun h=>by subst h;exact m7 y wy rfl
 have Hl:=RL y wy sM;have RP:= @Hk y wy sM;generalize mn y wy sM=LE at*;obtain⟨yn,ya,yk,yt⟩:=y;generalize hWy:jM (.mk yn ya yk yt)=Wy at*;simp only[jJ,cO,List.cons_append,List.nil_append]at Hl ⊢;refine ae @bw ?_;refine VC.al ?_;rintro OC ⟨hgC,hyC,hnC⟩;have hd:=hb.ge hgC;clear hb hgC;cases bb
 ·rw[m7 rfl]at hP;simp only[nT]at hP;refine WC.sound aa (ae @bw ?_);exact ay.mk ([],.nil) ⟨hd,hP⟩
 rw[gZ rfl]at hP;clear m7 gZ;refine VC.ag aa (ae @bw ?_);refine WC.sound aa (ao @bw @hyC ?_);refine ah.p (Hl OC (by omega) (by omega) (by decide)) ?_ ?_;rotate_left
 ·rintro m O9 ⟨aY,h⟩;cases LE with
  | ok y=>exact h.elim
  | error e=>
    dsimp only at h;simp only[nT]at hP;rw[h, <-hP];refine ae @bw ?_;exact⟨hd.dW.trans aY,rfl⟩
 rintro m OD ⟨aY,h⟩;cases LE with
 | error e=>exact h.elim
 | ok L=>
 dsimp only at h hP;obtain⟨tL,rfl⟩:=h;obtain⟨nP,hLm⟩:=RP rfl;have hb:=hd.ge aY;clear hd aY RP Hl hyC;refine ae @bw ?_;refine VC.bE [50] [4,48,49] (fun x:Nat×List eC×aC=>[mi x.1]) (fun x O'=>DS O O.next [a,b,c,d,e] O' [.str s1,.str s2,.str s3,.str s4,.str s5,mi sc.1,mi o,.sl x.2.1.length (x.2.1.flatMap bF) x.2.2]/\App O' (O.next+2) 2 x.2.2/\x.1<=L.length/\x.2.1.length=x.1/\nT ⟨s1,s2,s3,s4,s5,sc.1,o,[]⟩ (wN (L.drop x.1) x.2.1)=PE) (fun x=>L.length - x.1) ((0,[],.nil)) ?_ ?_
 ·exact⟨hb,trivial,Nat.zero_le _,rfl,hP⟩
 rintro⟨j,X,tk⟩ O3 ⟨hd,cL,hj,IJ,hP⟩;dsimp only at hd cL hj IJ hP ⊢;by_cases bm:j<L.length;rotate_left
 ·obtain rfl:j=L.length:=by omega
  rw[List.drop_of_length_le (Nat.le_refl _),wN]at hP;refine WC.sound aa (ae @bw ?_);exact ay.mk (X,tk) ⟨hd,hP⟩
 have bI:((sO L).drop (j*5)).take 5=jJ L[j].1 L[j].2:=cV D7 L j bm;have hL5:=vH L;rw[List.drop_eq_getElem_cons bm,wN]at hP;obtain⟨Y7,UU⟩:=hLm L[j] (List.getElem_mem bm);generalize L[j]=zz at*;obtain⟨z,wz⟩:=zz;dsimp only at Y7 UU;have mK:=fun O'=>o8 z wz dC true gm 295 [] O' (by omega) (by simp only[List.length_cons,List.length_nil]at UU;omega) (by decide) (by kernel_rfl) (fun s mj _ hs=>LP s mj hs)
 have v7:=fun O'=>o8 z wz dm true gm 295 [] O' (by omega) (by simp only[List.length_cons,List.length_nil]at UU;omega) (by decide) (by kernel_rfl) (fun s mj _ hs=>LP s mj hs)
 unfold exE at hP;dsimp only at hP;generalize bC z wz dC true gm=W1 at*;generalize bC z wz dm true gm=W2 at*;obtain⟨zn,za,cB,zt⟩:=z;simp only[jJ,cO,List.cons_append,List.nil_append]at bI mK v7;refine VC.ag aa (ae @bw ?_);refine VC.ag aa (ae @bw ?_);refine VC.bu (VC.aB ?_);refine VC.ag aa (ao @bw @bI ?_);refine VC.al ?_;rintro O4 ⟨bj,lq,ic⟩;have hb:=hd.ge bj;have jX:=cL.ge bj;have fR:O.next+1<O3.next:=hd.lt;clear hd bj cL;refine VC.oQ [8,9,10] (O3.next) (lq) ?_;intro XX;refine ab.av 0 ?_;refine ae @bw ?_;refine ab.rT (m:=.agg [.str zn,.sl za.length (za.flatMap aW) .ar,.sl cB.length (ax cB) .ar,.str zt,.str wz]) 2 ?_ ?_
 ·exact eX @bw
 simp only[aj];refine ab.rT (m:=.agg [.str zn,.sl za.length (za.flatMap aW) .ar,.sl cB.length (ax cB) .ar,.str zt,.str wz]) 4 ?_ ?_
 ·exact eX @bw
 simp only[aj];have jF:=jX.nA (k:=O3.next) (x:=.obj XX) (by rw[lq];simp);have hXX:=VH.an O4 O3.next (.obj XX);have cw:=(VH.ak O4 (.obj XX) (by omega:O.next+1≠O3.next)).trans hb.d;have ny:∀O9,(O4.set O3.next (.obj XX)).Ge O9->O.Ge O9:=fun O9 g=>((hb.dW.set (by omega) _).trans g)
 have kz:∀O9,(O4.set O3.next (.obj XX)).Ge O9->O9.hp O3.next=some (.obj XX)/\O9.hp (O.next+1)=some (.cells [.str s1,.str s2,.str s3,.str s4,.str s5,mi sc.1,mi o,.sl X.length (X.flatMap bF) tk]):=fun O9 g=>⟨(g.hp _ (by show O3.next<O4.next;omega)).trans hXX,(g.hp _ (by show O.next+1<O4.next;omega)).trans cw⟩
 have F1:=fun(O9:VH) (g:(O4.set O3.next (.obj XX)).Ge O9) (y:bV)=>hb.afY (k:=O3.next) fR g (y:=y)
 clear cw;generalize O4.set O3.next (.obj XX)=O5 at*;refine ab.pair (i:=1) (j:=3) ?_ ?_
 ·refine aG.o1 ?_;refine ao @bw (kz _ (VH.Ge.refl _)).2 ?_;refine⟨(kz _ (VH.Ge.refl _)).1,?_⟩;have hG:=VH.Ge.refl O5;refine ab.o_ (i:=3) (mK O5) ?_ ?_;rotate_left
  ·rintro m O9 ⟨aY,h⟩;cases W1 with
   | ok s=>exact h.elim
   | error e=>
     dsimp only at h hP;simp only[nT]at hP;rw[h, <-hP];refine ae @bw ?_;exact⟨ny _ (hG.trans aY),rfl⟩
  rintro m O6 ⟨aY,h⟩;cases W1 with
  | error e=>exact h.elim
  | ok sg=>
  dsimp only at h hP;subst h;simp only[aj]
  replace hG:=hG.trans aY
  clear aY;refine⟨(kz _ hG).1,?_⟩;refine ab.o_ (i:=5) (v7 O6) ?_ ?_;rotate_left
  ·rintro m O9 ⟨aY,h⟩;cases W2 with
   | ok s=>exact h.elim
   | error e=>
     dsimp only at h hP;simp only[nT]at hP;rw[h, <-hP];refine ae @bw ?_;exact⟨ny _ (hG.trans aY),rfl⟩
  rintro m OF ⟨aY,h⟩;cases W2 with
  | error e=>exact h.elim
  | ok sa=>
  dsimp only at h hP;subst h;simp only[aj]
  replace hG:=hG.trans aY
  clear aY;refine⟨(kz _ hG).1,?_⟩;refine ab.av 6 ?_;refine ae @bw ?_;refine ab.op (i:=7) ?_;refine ae @bw ?_;refine⟨(kz _ hG).1,?_⟩;refine ab.mc [(8,.one),(9,.av),(10,.one)] ?_;have Eb:=F1 _ hG (.cells [.str zn,.sl za.length (za.flatMap aW) .ar,.sl cB.length (ax cB) .ar,.str zt,.str wz]);have uD:=(jF.ge hG).nA (k:=O3.next) (x:=.cells [.str zn,.sl za.length (za.flatMap aW) .ar,.sl cB.length (ax cB) .ar,.str zt,.str wz]) (by rw[(kz _ hG).1];simp);refine ae @bw ?_;obtain⟨mE,fJ,kj⟩:=fy (n:=X.length) (cs:=X.flatMap bF) (ds:=[.str sg,.str sa]) (es:=bF ⟨sg,sa⟩) B1 IC.1.1 uD (aX mf X) rfl rfl (by decide) (by omega) (by simp only[maxLen];omega) (mg X) (by simp only[bF,wu]);refine VL.kE fJ kj ?_;have Ec:=Eb.app uD;have Ed:=Ec.d;have Ee:=Ec.st (cs':=[.str s1,.str s2,.str s3,.str s4,.str s5,mi sc.1,mi o,.sl (X.length+1) (X.flatMap bF++bF ⟨sg,sa⟩) (.own OF.next 2)]);have uE:=(App.after (B:=O.next+2) (sz:=2) (tk:=tk) (O:=OF.set O3.next (.cells [.str zn,.sl za.length (za.flatMap aW) .ar,.sl cB.length (ax cB) .ar,.str zt,.str wz])) (by have:=Eb.lt;omega)).nA (k:=O.next+1) (x:=.cells [.str s1,.str s2,.str s3,.str s4,.str s5,mi sc.1,mi o,.sl (X.length+1) (X.flatMap bF++bF ⟨sg,sa⟩) (.own OF.next 2)]) (by rw[Ed];simp);simp only[aq]at Ee uE;generalize (OF.set O3.next (.cells [.str zn,.sl za.length (za.flatMap aW) .ar,.sl cB.length (ax cB) .ar,.str zt,.str wz])).after tk=OG at*;refine ao @bw @Ed ?_;have ew:((j:Int)+1)=((j+1:Nat):Int):=by omega
  have ez:(X++[(⟨sg,sa⟩:eC)]).flatMap bF=X.flatMap bF++bF ⟨sg,sa⟩:=by simp
  have B8:(X++[(⟨sg,sa⟩:eC)]).length=X.length+1:=by simp
  refine WC.sound aa (ao @bw @ew ?_);exact aD.next (j+1,X++[(⟨sg,sa⟩:eC)],.own OF.next 2) ⟨by dsimp only;rw[ez,B8];exact Ee,uE,bm,by dsimp only;rw[B8,IJ],hP⟩
 ·have hG:=VH.Ge.refl O5;refine aG.o_ (mK O5) ?_ ?_;rotate_left
  ·rintro m O9 ⟨aY,h⟩;cases W1 with
   | ok s=>exact h.elim
   | error e=>
     dsimp only at h hP;simp only[nT]at hP;rw[h, <-hP];refine ae @bw ?_;exact⟨ny _ (hG.trans aY),rfl⟩
  rintro m O6 ⟨aY,h⟩;cases W1 with
  | error e=>exact h.elim
  | ok sg=>
  dsimp only at h hP;subst h;simp only[aj]
  replace hG:=hG.trans aY
  clear aY;refine⟨(kz _ hG).1,?_⟩;refine ab.pair (i:=1) (j:=5) ?_ ?_
  ·refine aG.o1 ?_;refine ao @bw (kz _ hG).2 ?_;refine⟨(kz _ hG).1,?_⟩;refine ab.o_ (i:=5) (v7 O6) ?_ ?_;rotate_left
   ·rintro m O9 ⟨aY,h⟩;cases W2 with
    | ok s=>exact h.elim
    | error e=>
      dsimp only at h hP;simp only[nT]at hP;rw[h, <-hP];refine ae @bw ?_;exact⟨ny _ (hG.trans aY),rfl⟩
   rintro m OF ⟨aY,h⟩;cases W2 with
   | error e=>exact h.elim
   | ok sa=>
   dsimp only at h hP;subst h;simp only[aj]
   replace hG:=hG.trans aY
   clear aY;refine⟨(kz _ hG).1,?_⟩;refine ab.av 6 ?_;refine ae @bw ?_;refine ab.op (i:=7) ?_;refine ae @bw ?_;refine⟨(kz _ hG).1,?_⟩;refine ab.mc [(8,.one),(9,.av),(10,.one)] ?_;have Eb:=F1 _ hG (.cells [.str zn,.sl za.length (za.flatMap aW) .ar,.sl cB.length (ax cB) .ar,.str zt,.str wz]);have uD:=(jF.ge hG).nA (k:=O3.next) (x:=.cells [.str zn,.sl za.length (za.flatMap aW) .ar,.sl cB.length (ax cB) .ar,.str zt,.str wz]) (by rw[(kz _ hG).1];simp);refine ae @bw ?_;obtain⟨mE,fJ,kj⟩:=fy (n:=X.length) (cs:=X.flatMap bF) (ds:=[.str sg,.str sa]) (es:=bF ⟨sg,sa⟩) B1 IC.1.1 uD (aX mf X) rfl rfl (by decide) (by omega) (by simp only[maxLen];omega) (mg X) (by simp only[bF,wu]);refine VL.kE fJ kj ?_;have Ec:=Eb.app uD;have Ed:=Ec.d;have Ee:=Ec.st (cs':=[.str s1,.str s2,.str s3,.str s4,.str s5,mi sc.1,mi o,.sl (X.length+1) (X.flatMap bF++bF ⟨sg,sa⟩) (.own OF.next 2)]);have uE:=(App.after (B:=O.next+2) (sz:=2) (tk:=tk) (O:=OF.set O3.next (.cells [.str zn,.sl za.length (za.flatMap aW) .ar,.sl cB.length (ax cB) .ar,.str zt,.str wz])) (by have:=Eb.lt;omega)).nA (k:=O.next+1) (x:=.cells [.str s1,.str s2,.str s3,.str s4,.str s5,mi sc.1,mi o,.sl (X.length+1) (X.flatMap bF++bF ⟨sg,sa⟩) (.own OF.next 2)]) (by rw[Ed];simp);simp only[aq]at Ee uE;generalize (OF.set O3.next (.cells [.str zn,.sl za.length (za.flatMap aW) .ar,.sl cB.length (ax cB) .ar,.str zt,.str wz])).after tk=OG at*;refine ao @bw @Ed ?_;have ew:((j:Int)+1)=((j+1:Nat):Int):=by omega
   have ez:(X++[(⟨sg,sa⟩:eC)]).flatMap bF=X.flatMap bF++bF ⟨sg,sa⟩:=by simp
   have B8:(X++[(⟨sg,sa⟩:eC)]).length=X.length+1:=by simp
   refine WC.sound aa (ao @bw @ew ?_);exact aD.next (j+1,X++[(⟨sg,sa⟩:eC)],.own OF.next 2) ⟨by dsimp only;rw[ez,B8];exact Ee,uE,bm,by dsimp only;rw[B8,IJ],hP⟩
  ·refine aG.o_ (v7 O6) ?_ ?_;rotate_left
   ·rintro m O9 ⟨aY,h⟩;cases W2 with
    | ok s=>exact h.elim
    | error e=>
      dsimp only at h hP;simp only[nT]at hP;rw[h, <-hP];refine ae @bw ?_;exact⟨ny _ (hG.trans aY),rfl⟩
   rintro m OF ⟨aY,h⟩;cases W2 with
   | error e=>exact h.elim
   | ok sa=>
   dsimp only at h hP;subst h;simp only[aj]
   replace hG:=hG.trans aY
   clear aY;refine⟨(kz _ hG).1,?_⟩;refine ab.av 6 ?_;refine ae @bw ?_;refine ab.pair (i:=1) (j:=7) ?_ ?_
   ·refine aG.o1 ?_;refine ao @bw (kz _ hG).2 ?_;refine⟨(kz _ hG).1,?_⟩;refine ab.op (i:=7) ?_;refine ae @bw ?_;refine⟨(kz _ hG).1,?_⟩;refine ab.mc [(8,.one),(9,.av),(10,.one)] ?_;have Eb:=F1 _ hG (.cells [.str zn,.sl za.length (za.flatMap aW) .ar,.sl cB.length (ax cB) .ar,.str zt,.str wz]);have uD:=(jF.ge hG).nA (k:=O3.next) (x:=.cells [.str zn,.sl za.length (za.flatMap aW) .ar,.sl cB.length (ax cB) .ar,.str zt,.str wz]) (by rw[(kz _ hG).1];simp);refine ae @bw ?_;obtain⟨mE,fJ,kj⟩:=fy (n:=X.length) (cs:=X.flatMap bF) (ds:=[.str sg,.str sa]) (es:=bF ⟨sg,sa⟩) B1 IC.1.1 uD (aX mf X) rfl rfl (by decide) (by omega) (by simp only[maxLen];omega) (mg X) (by simp only[bF,wu]);refine VL.kE fJ kj ?_;have Ec:=Eb.app uD;have Ed:=Ec.d;have Ee:=Ec.st (cs':=[.str s1,.str s2,.str s3,.str s4,.str s5,mi sc.1,mi o,.sl (X.length+1) (X.flatMap bF++bF ⟨sg,sa⟩) (.own OF.next 2)]);have uE:=(App.after (B:=O.next+2) (sz:=2) (tk:=tk) (O:=OF.set O3.next (.cells [.str zn,.sl za.length (za.flatMap aW) .ar,.sl cB.length (ax cB) .ar,.str zt,.str wz])) (by have:=Eb.lt;omega)).nA (k:=O.next+1) (x:=.cells [.str s1,.str s2,.str s3,.str s4,.str s5,mi sc.1,mi o,.sl (X.length+1) (X.flatMap bF++bF ⟨sg,sa⟩) (.own OF.next 2)]) (by rw[Ed];simp);simp only[aq]at Ee uE;generalize (OF.set O3.next (.cells [.str zn,.sl za.length (za.flatMap aW) .ar,.sl cB.length (ax cB) .ar,.str zt,.str wz])).after tk=OG at*;refine ao @bw @Ed ?_;have ew:((j:Int)+1)=((j+1:Nat):Int):=by omega
    have ez:(X++[(⟨sg,sa⟩:eC)]).flatMap bF=X.flatMap bF++bF ⟨sg,sa⟩:=by simp
    have B8:(X++[(⟨sg,sa⟩:eC)]).length=X.length+1:=by simp
    refine WC.sound aa (ao @bw @ew ?_);exact aD.next (j+1,X++[(⟨sg,sa⟩:eC)],.own OF.next 2) ⟨by dsimp only;rw[ez,B8];exact Ee,uE,bm,by dsimp only;rw[B8,IJ],hP⟩
   ·refine aG.o1 ?_;refine ae @bw ?_;refine⟨(kz _ hG).1,?_⟩;refine ab.op (i:=1) ?_;refine ao @bw (kz _ hG).2 ?_;refine⟨(kz _ hG).1,?_⟩;refine ab.mc [(8,.one),(9,.av),(10,.one)] ?_;have Eb:=F1 _ hG (.cells [.str zn,.sl za.length (za.flatMap aW) .ar,.sl cB.length (ax cB) .ar,.str zt,.str wz]);have uD:=(jF.ge hG).nA (k:=O3.next) (x:=.cells [.str zn,.sl za.length (za.flatMap aW) .ar,.sl cB.length (ax cB) .ar,.str zt,.str wz]) (by rw[(kz _ hG).1];simp);refine ae @bw ?_;obtain⟨mE,fJ,kj⟩:=fy (n:=X.length) (cs:=X.flatMap bF) (ds:=[.str sg,.str sa]) (es:=bF ⟨sg,sa⟩) B1 IC.1.1 uD (aX mf X) rfl rfl (by decide) (by omega) (by simp only[maxLen];omega) (mg X) (by simp only[bF,wu]);refine VL.kE fJ kj ?_;have Ec:=Eb.app uD;have Ed:=Ec.d;have Ee:=Ec.st (cs':=[.str s1,.str s2,.str s3,.str s4,.str s5,mi sc.1,mi o,.sl (X.length+1) (X.flatMap bF++bF ⟨sg,sa⟩) (.own OF.next 2)]);have uE:=(App.after (B:=O.next+2) (sz:=2) (tk:=tk) (O:=OF.set O3.next (.cells [.str zn,.sl za.length (za.flatMap aW) .ar,.sl cB.length (ax cB) .ar,.str zt,.str wz])) (by have:=Eb.lt;omega)).nA (k:=O.next+1) (x:=.cells [.str s1,.str s2,.str s3,.str s4,.str s5,mi sc.1,mi o,.sl (X.length+1) (X.flatMap bF++bF ⟨sg,sa⟩) (.own OF.next 2)]) (by rw[Ed];simp);simp only[aq]at Ee uE;generalize (OF.set O3.next (.cells [.str zn,.sl za.length (za.flatMap aW) .ar,.sl cB.length (ax cB) .ar,.str zt,.str wz])).after tk=OG at*;refine ao @bw @Ed ?_;have ew:((j:Int)+1)=((j+1:Nat):Int):=by omega
    have ez:(X++[(⟨sg,sa⟩:eC)]).flatMap bF=X.flatMap bF++bF ⟨sg,sa⟩:=by simp
    have B8:(X++[(⟨sg,sa⟩:eC)]).length=X.length+1:=by simp
    refine WC.sound aa (ao @bw @ew ?_);exact aD.next (j+1,X++[(⟨sg,sa⟩:eC)],.own OF.next 2) ⟨by dsimp only;rw[ez,B8];exact Ee,uE,bm,by dsimp only;rw[B8,IJ],hP⟩
set_option linter.defProp false in
def lK:=And.intro bw<|And.intro xk uo
def qo (dT:Bool):List (Nd×Bs)->List Dp->Except (Int×Bs) (List Dp)
 | [],D=>.ok D
 | k::r,D=>match Ea k.1 k.2 dT with
   | .error e=>.error e
   | .ok d=>qo dT r (D++[d])
def kQ (x:Nd) (w:Bs) (dT:Bool):Except (Int×Bs) (List Dp):=
 match bR x w kP with
 | .error e=>.error e
 | .ok ((_,_),false)=>.ok []
 | .ok ((y,wy),true)=>match mn y wy kH with
   | .error e=>.error e
   | .ok L=>qo dT L []
theorem RQ (x:Nd) (w:Bs) (dT:Bool) (O:VH) (hx:jM x<=1000000) (hw:w.length<=4000):
  VF Tryz.prog 240 [.agg (jJ x w),mb dT] O (FQ O (kQ x w dT) fun y m=>∃tk,m= .sl y.length (y.flatMap aF) tk):=by
 have ux:=qS x w kP;have mh:=jo x;have uy:= @qU x w kP;have uz:∀e,bR x w kP= .error e->kQ x w dT= .error e:=fun e h=>by unfold kQ;rw[h]
 have m7:∀y wy,bR x w kP= .ok ((y,wy),false)->kQ x w dT= .ok []:=fun y wy h=>by unfold kQ;rw[h]
 have gZ:∀y wy,bR x w kP= .ok ((y,wy),true)->kQ x w dT=match mn y wy kH with
  | .error e=>.error e
  | .ok L=>qo dT L []:=fun y wy h=>by unfold kQ;rw[h]
 generalize kQ x w dT=PE at*;generalize bR x w kP=F at*;obtain⟨n,a,k,t⟩:=x;generalize hW:jM (.mk n a k t)=W at*;simp only[jJ,cO,List.cons_append,List.nil_append]at ux ⊢;refine VF.bX 31 [.tmp 4] Tryz.func240 ?_;refine VC.ag aa (ae @lK ?_);refine VC.bx ?_;rintro O1 ⟨aT,fB,dd⟩;refine VC.ag aa (ao @lK @fB ?_);refine ah.p (ux O1 (by omega) (by omega) (by decide)) ?_ ?_;rotate_left
 ·rintro m O2 ⟨az,h⟩;cases F with
  | ok y=>exact h.elim
  | error e=>
    dsimp only at h;rw[uz e rfl];refine ae @lK ?_;exact⟨aT.trans az,h⟩
 rintro m O2 ⟨az,h⟩;cases F with
 | error e=>exact h.elim
 | ok y=>
 obtain⟨⟨y,wy⟩,b⟩:=y;dsimp only at h;subst h;obtain⟨Y4,uA⟩:=uy rfl;have ou:wy.length<=4013:=by rw[uA];simp only[List.length_append,List.length_cons,List.length_nil];omega
 clear uy uA uz
 replace gZ:b=true->PE=match mn y wy kH with
  | .error e=>.error e
  | .ok L=>qo dT L []:=fun h=>by subst h;exact gZ y wy rfl
 replace m7:b=false->PE= .ok []:=fun h=>by subst h;exact m7 y wy rfl
 have Hl:=RL y wy kH;have RP:= @Hk y wy kH;generalize mn y wy kH=LE at*;obtain⟨yn,ya,yk,yt⟩:=y;generalize hWy:jM (.mk yn ya yk yt)=Wy at*;simp only[jJ,cO,List.cons_append,List.nil_append]at Hl ⊢;have fW:=aT.trans az;refine ae @lK ?_;refine VC.al ?_;rintro O3 ⟨aR,LB,gW⟩;have ec:=fW.trans aR;cases b
 ·rw[m7 rfl];refine WC.sound aa (ae @lK ?_);exact⟨ec,.nil,rfl⟩
 replace gZ:=gZ rfl
 clear m7;refine VC.ag aa (ae @lK ?_);refine VC.join aa [4] (fun x:List Dp×aC=>[.sl x.1.length (x.1.flatMap aF) x.2]) (fun x O'=>O.Ge O'/\PE= .ok x.1) ?_ ?_;rotate_left
 ·rintro⟨L,tl⟩ O9 ⟨aY,hP⟩;rw[hP];refine ae @lK ?_;exact⟨aY,tl,rfl⟩
 refine VC.ag aa (ao @lK @LB ?_);refine ah.p (Hl O3 (by omega) (by omega) (by decide)) ?_ ?_;rotate_left
 ·rintro m O9 ⟨aY,h⟩;cases LE with
  | ok y=>exact h.elim
  | error e=>
    dsimp only at h gZ;rw[h,gZ];refine ae @lK ?_;exact⟨ec.trans aY,rfl⟩
 rintro m O4 ⟨bj,h⟩;cases LE with
 | error e=>exact h.elim
 | ok L=>
 dsimp only at h gZ;obtain⟨tL,rfl⟩:=h;obtain⟨nP,hLm⟩:=RP rfl;have gD:=ec.trans bj;refine ae @lK ?_;refine VC.aB ?_;refine VC.bE [4,19] [1,17,18] (fun x:Nat×List Dp×aC=>[.sl x.2.1.length (x.2.1.flatMap aF) x.2.2,mi x.1]) (fun x O'=>O4.Ge O'/\App O' O4.next 8 x.2.2/\x.1<=L.length/\x.2.1.length=x.1/\PE=qo dT (L.drop x.1) x.2.1) (fun x=>L.length - x.1) ((0,[],.nil)) ?_ ?_
 ·exact⟨VH.Ge.refl _,trivial,Nat.zero_le _,rfl,gZ⟩
 rintro⟨j,X,tk⟩ O5 ⟨bG,cL,hj,IJ,hP⟩;dsimp only at cL hj IJ hP ⊢;by_cases bm:j<L.length;rotate_left
 ·obtain rfl:j=L.length:=by omega
  rw[List.drop_of_length_le (Nat.le_refl _),qo]at hP;refine WC.sound aa (ae @lK ?_);exact ay.mk (X,tk) ⟨gD.trans bG,hP⟩
 have bI:((sO L).drop (j*5)).take 5=jJ L[j].1 L[j].2:=cV D7 L j bm;have hL5:=vH L;rw[List.drop_eq_getElem_cons bm,qo]at hP;obtain⟨Y7,UU⟩:=hLm L[j] (List.getElem_mem bm);generalize L[j]=zz at*;obtain⟨z,wz⟩:=zz;dsimp only at Y7 UU hP bI;have zj:=fun O'=>afZ z wz dT O' (by omega) (by simp only[List.length_cons,List.length_nil]at UU;omega)
 generalize Ea z wz dT=W1 at*;obtain⟨zn,za,cB,zt⟩:=z;simp only[jJ,cO,List.cons_append,List.nil_append]at bI zj;have gf:=bG.next;refine VC.ag aa (ae @lK ?_);refine VC.ag aa (ae @lK ?_);refine VC.bu (VC.aB ?_);refine VC.ag aa (ao @lK @bI ?_);refine VC.al ?_;rintro O6 ⟨fO,lS,m5⟩;have nw:=cL.ge fO;have LH:=bG.trans fO;refine WC.sound aa (ao @lK @lS ?_);refine ah.p (zj O6) ?_ ?_;rotate_left
 ·rintro m O9 ⟨aY,h⟩;cases W1 with
  | ok y=>exact h.elim
  | error e=>
    dsimp only at h hP;rw[h,hP];refine ae @lK ?_;exact⟨(gD.trans LH).trans aY,rfl⟩
 rintro m O7 ⟨eH,h⟩;cases W1 with
 | error e=>exact h.elim
 | ok d=>
 dsimp only at h hP;subst h;have jk:=nw.ge eH;have ad_:=LH.trans eH;have ew:((j:Int)+1)=((j+1:Nat):Int):=by omega
 have hud:cz (aF d)=aF d:=by simpa using kh [d]
 obtain⟨dg,da,dv,dt,dc,jS,dO,dx⟩:=d;have rN:(aF ⟨dg,da,dv,dt,dc,jS,dO,dx⟩).length=8:=rfl;obtain⟨mE,fJ,kj⟩:=fy (n:=X.length) (cs:=X.flatMap aF) (ds:=aF ⟨dg,da,dv,dt,dc,jS,dO,dx⟩) (es:=aF ⟨dg,da,dv,dt,dc,jS,dO,dx⟩) xk uo.1.1 jk (aX eQ X) rfl rfl (by decide) (by omega) (by simp only[maxLen];omega) (kh X) hud;simp only[aF,aq]at fJ kj ⊢;refine ae @lK ?_;refine VL.kE fJ kj ?_;refine ae @lK ?_;refine WC.sound aa (ao @lK @ew ?_);exact aD.next (j+1,X++[⟨dg,da,dv,dt,dc,jS,dO,dx⟩],.own O7.next 8) ⟨cj.dW ad_ jk (cj.after jk),App.after (by have:=ad_.next;omega),bm,by dsimp only;rw[List.length_append,IJ];rfl,hP⟩ (hl:=(by dsimp only;rw[List.flatMap_append,List.length_append];simp only[List.flatMap_cons,List.flatMap_nil,List.append_nil,aF,aq];rfl))
set_option linter.defProp false in
def au:=And.intro bh<|And.intro ad4<|And.intro ahx<|And.intro ahy<|And.intro ahA ahw
def zm (e:Int) (off:Nat):MV:=.iface 375 (.agg [mi e,mi off])
theorem ahN {p:MV}:Iu 375 (jE Tryz.prog 375) (some p)=some (.iface 375 p):=by rw[ad4.1.1];rfl
theorem gO (e:Int) (off:Nat) (O:VH):VF Tryz.prog 306 [mi e,mi off] O fun r O'=>O'=O/\match r with
  | .ret _=>False
  | .panic m=>m=zm e off:=by
 refine VF.db 8 [] Tryz.func306 ?_;refine dB @au @wi @wd @ahN ?_;refine VL.panic rfl rfl rfl ?_;refine ae @wd ?_;rfl
def Rd (O:VH) (k:Nat) (t:Bs) (off:Nat) (X:MV):Prop:=k<O.next/\O.hp k=some (.cells [.str t,mi off,X])
theorem Rd.ge {O O':VH} {k off:Nat} {t:Bs} {X:MV} (h:Rd O k t off X) (g:O.Ge O'):Rd O' k t off X:=⟨Nat.lt_of_lt_of_le h.1 g.next,(g.hp _ h.1).trans h.2⟩
theorem Rd.set {O:VH} {k off off':Nat} {t t':Bs} {X X':MV} (h:Rd O k t off X):Rd (O.set k (.cells [.str t',mi off',X'])) k t' off' X':=⟨h.1,VH.an _ _ _⟩
theorem vK {O:VH} {k off:Nat} {t:Bs} {X:MV} (h:Rd O k t off X) (ho:off<=t.length):VF Tryz.prog 304 [.ptr k 0] O (aL fun m O'=>m= .str (t.drop off)/\O'=O):=by
 have hk:=h.2;simp only[aq]at hk;refine VF.bX 12 [.tmp 2] Tryz.func304 ?_;refine VC.ag aa (ae @au ?_);refine VC.bu ?_;refine WC.reads ?_;refine ao @au @hk ?_;refine WC.sound aa (ae @au ?_);trivial
theorem mq {O:VH} {k off:Nat} {t:Bs} {X:MV} (h:Rd O k t off X):VF Tryz.prog 253 [.ptr k 0] O (aL fun m O'=>m=mb (decide (t.length<=off))/\O'=O):=by
 have hk:=h.2;simp only[aq]at hk;refine VF.bX 13 [.tmp 2] Tryz.func253 ?_;refine VC.ag aa (ae @au ?_);refine VC.bu ?_;refine WC.reads ?_;by_cases h1:t.length<=off
 ·rw[decide_eq_true h1];refine ao @au @hk ?_;refine WC.sound aa (ae @au ?_);trivial
 ·rw[decide_eq_false h1];refine ao @au @hk ?_;refine WC.sound aa (ae @au ?_);trivial
theorem pe {O:VH} {k off:Nat} {t:Bs} {X:MV} (p:Bs) (h:Rd O k t off X) (ho:off<=t.length):VF Tryz.prog 277 [.ptr k 0,.str p] O (aL fun m O'=>m=mb (du (t.drop off) p)/\O'=O):=by
 refine VF.db 9 [.tmp 4] Tryz.func277 ?_;refine ae @au ?_;refine ah.rt (vK h ho) ?_;rintro _ O2 ⟨rfl,eO⟩;rw[eO];clear eO O2
 refine ae @au ?_;refine ah.rt (mo (t.drop off) p _) ?_;rintro _ O2 ⟨rfl,eO⟩;rw[eO];clear eO O2
 exact eX @au
def TQ {α :Type} (O:VH) (k:Nat) (t:Bs) (X:MV) (f:Except (Int×Nat) (α ×Nat)) (R: α ->MV->Prop):fU->VH->Prop:=fun r O'=>bk O (some k) O'/\match r,f with
 | .ret m,.ok x=>R x.1 m/\Rd O' k t x.2 X
 | .panic m,.error e=>m=zm e.1 e.2
 | _,_=>False
def g_ (t:Bs) (off:Nat) (p:Bs):Except (Int×Nat) (Unit×Nat):=
 if t.length<=off then .error (13,off)else if du (t.drop off) p then .ok ((),off+p.length)else .error (10,off)
theorem r7 {O:VH} {k off:Nat} {t:Bs} {X:MV} (p:Bs) (h:Rd O k t off X) (ht:t.length<=1000000) (hp:p.length<=1000):VF Tryz.prog 282 [.ptr k 0,.str p] O (TQ O k t X (g_ t off p) fun _ m=>m= .tuple []):=by
 have hk:=h.2;simp only[aq]at hk;unfold g_;refine VF.bX 37 [] Tryz.func282 ?_;refine VC.ag aa (ae @au ?_);refine ah.rt (mq h) ?_;rintro _ O2 ⟨rfl,eO⟩;rw[eO];clear eO O2
 by_cases h1:t.length<=off
 ·rw[decide_eq_true h1,if_pos h1];refine ao @au @hk ?_;refine ah.p (gO _ _ _) ?_ ?_
  ·rintro m O9 ⟨_,h⟩;exact h.elim
  rintro m O9 ⟨rfl,rfl⟩;refine ae @au ?_;exact⟨bk.refl _ _,rfl⟩
 rw[decide_eq_false h1,if_neg h1];refine ao @au @hk ?_;refine VC.ag aa (ao @au @hk ?_);refine ah.rt (pe p h (by omega)) ?_;rintro _ O2 ⟨rfl,eO⟩;rw[eO];clear eO O2
 cases h2:du (t.drop off) p
 ·refine ao @au @hk ?_;refine ah.p (gO _ _ _) ?_ ?_
  ·rintro m O9 ⟨_,h⟩;exact h.elim
  rintro m O9 ⟨rfl,rfl⟩;refine ae @au ?_;exact⟨bk.refl _ _,rfl⟩
 ·refine ao @au @hk ?_;refine WC.sound aa (ao @au @hk ?_);exact⟨bk.set,rfl,by simpa[aq]using h.set (t':=t) (off':=off+p.length) (X':=X)⟩
def iB (t:Bs) (off:Nat) (e:Int):Except (Int×Nat) (Bs×Nat):=
 if t.length<=off then .error (13,off)else if jh (t.drop off)=0 then .error (e,off)else .ok ((t.drop off).take (jh (t.drop off)),off+jh (t.drop off))
theorem zo {O:VH} {k off:Nat} {t:Bs} {X:MV} (e:Int) (h:Rd O k t off X) (ht:t.length<=1000000):VF Tryz.prog 280 [.ptr k 0,mi e] O (TQ O k t X (iB t off e) fun y m=>m= .str y):=by
 have hk:=h.2;have B7:=Bw (t.drop off);rw[List.length_drop]at B7;have B9:=acM (t.drop off) O (Nat.le_trans (by rw[List.length_drop];omega:(t.drop off).length<=1000000) (by decide));simp only[aq]at hk;unfold iB;generalize jh (t.drop off)=n at*;refine VF.bX 58 [.tmp 4] Tryz.func280 ?_;refine VC.ag aa (ae @au ?_);refine VC.ag aa (ae @au ?_);refine ah.rt (mq h) ?_;rintro _ O2 ⟨rfl,eO⟩;rw[eO];clear eO O2
 by_cases h1:t.length<=off
 ·rw[decide_eq_true h1,if_pos h1];refine ao @au @hk ?_;refine ah.p (gO _ _ _) ?_ ?_
  ·rintro m O9 ⟨_,h⟩;exact h.elim
  rintro m O9 ⟨rfl,rfl⟩;refine ae @au ?_;exact⟨bk.refl _ _,rfl⟩
 rw[decide_eq_false h1,if_neg h1];refine ao @au @hk ?_;refine VC.ag aa (ao @au @hk ?_);refine ah.rt (vK h (by omega)) ?_;rintro _ O2 ⟨rfl,eO⟩;rw[eO];clear eO O2
 refine ae @au ?_;refine ah.rt (B9) ?_;rintro _ O2 ⟨rfl,eO⟩;rw[eO];clear eO O2
 refine ae @au ?_;by_cases h2:n=0
 ·rw[if_pos h2];refine VC.ag aa (aM @au @hk @h2 ?_);refine ah.p (gO _ _ _) ?_ ?_
  ·rintro m O9 ⟨_,h⟩;exact h.elim
  rintro m O9 ⟨rfl,rfl⟩;refine ae @au ?_;exact⟨bk.refl _ _,rfl⟩
 rw[if_neg h2];refine VC.ag aa (ao @au @hk ?_);refine VC.ag aa (ao @au @hk ?_);have hr:Rd (O.set k (.cells [.str t,mi (off+n:Nat),X])) k t (off+n) X:=h.set;have bO:=hr.2;have hu:bk O (some k) (O.set k (.cells [.str t,mi (off+n:Nat),X])):=bk.set;have jY:(off:Int)+(n:Int)=((off+n:Nat):Int):=by omega
 simp only[aq, <-jY]at hr bO hu;generalize O.set k (.cells [.str t,.v (.int .i64 ((off:Int)+(n:Int))),X])=O2 at*;have Ze:(off:Int)+(n:Int) - (n:Int)=(off:Int):=by omega
 have qp:((off:Int)+(n:Int)).toNat=off+n:=by omega
 refine VC.bu ?_;refine WC.reads ?_;refine dB @au @bO @Ze @qp ?_;refine WC.sound aa (ae @au ?_);exact⟨hu,by rw[show off+n - off=n by omega],hr⟩
def jy (t:Bs) (off:Nat):Nat:=((t.drop off).takeWhile kU).length
theorem pf {O:VH} {k off:Nat} {t:Bs} {X:MV} (h:Rd O k t off X) (ht:t.length<=1000000) (ho:off<=t.length):VF Tryz.prog 281 [.ptr k 0] O (TQ O k t X (.ok (jy t off,off+jy t off)) fun y m=>m=mi y):=by
 have hk:=h.2;simp only[aq]at hk;refine VF.bX 44 [.tmp 2] Tryz.func281 ?_;refine VC.ag aa (ae @au ?_);refine VC.ag aa (ao @au @hk ?_);refine VC.bz [0,3] (fun _:Unit=>[.ptr k 0,mi off]) (fun _ O'=>bk O (some k) O'/\Rd O' k t (off+jy t off) X) ?_ ?_;rotate_left
 ·rintro⟨⟩ O2 ⟨hu,hr⟩;have bO:=hr.2;have Ze:((off+jy t off:Nat):Int) - (off:Int)=(jy t off:Int):=by omega
  have uv:jy t off<=t.length:=by unfold jy;exact Nat.le_trans (ni _ _) (by rw[List.length_drop];omega)
  generalize jy t off=n at*;simp only[aq]at bO;refine VC.ag aa (aM @au @bO @Ze ?_);refine WC.sound aa (ae @au ?_);exact⟨hu,rfl,hr⟩
 refine VC.aB ?_;refine VC.bE [] [0,3] (fun o:Nat=>[]) (fun o O'=>bk O (some k) O'/\Rd O' k t o X/\off<=o/\o<=t.length/\off+jy t off=o+jy t o) (fun o=>t.length - o) (off) ?_ ?_
 ·exact⟨bk.refl _ _,h,Nat.le_refl _,ho,rfl⟩
 rintro o O2 ⟨hu,hr,YQ,YR,uv⟩;have bO:=hr.2;simp only[aq]at bO;by_cases h1:t.length<=o
 ·have h0:jy t o=0:=by unfold jy;rw[List.drop_of_length_le h1];rfl
  rw[h0,Nat.add_zero]at uv;refine VC.bu (VC.bu ?_);refine VC.m4 [4,5,6,7,8,9,10,11,12,13,14,15,16,17,18] ?_;refine ab.av 0 ?_;refine ae @au ?_;refine ab.av 1 ?_;refine ae @au ?_;refine ab.av 2 ?_;refine ae @au ?_;refine ab.call (i:=3) (mq hr) ?_;rintro _ O3 ⟨rfl,eO⟩;simp only[aj];rw[eO];clear eO O3
  rw[decide_eq_true h1];refine⟨VH.Ge.refl _,?_⟩;refine ab.bM [(4,.av),(5,.av),(6,.av),(7,.av),(8,.av),(9,.av),(10,.av),(11,.av),(12,.av),(13,.av),(14,.av),(15,.av),(16,.av),(17,.av),(18,.av)] ?_;refine ae @au ?_;refine WC.sound aa (ae @au ?_);exact ay.mk () ⟨hu,uv▸hr⟩
 ·have h2:o<t.length:=by omega
  have hg:=List.getElem?_eq_getElem h2;have hd:=List.drop_eq_getElem_cons h2
  have wh:jy t o=if kU t[o]then 1+jy t (o+1)else 0:=by
   unfold jy;rw[hd];cases hb:kU t[o]
   ·rw[List.takeWhile_cons_of_neg (by simp[hb])];rfl
   ·rw[List.takeWhile_cons_of_pos hb,List.length_cons,if_pos rfl,Nat.add_comm]
  generalize t[o]=c at*;refine VC.bu (VC.bu ?_);refine VC.m4 [] ?_;refine ab.av 0 ?_;refine ae @au ?_;refine ab.av 1 ?_;refine ae @au ?_;refine ab.av 2 ?_;refine ae @au ?_;refine ab.call (i:=3) (mq hr) ?_;rintro _ O3 ⟨rfl,eO⟩;simp only[aj];rw[eO];clear eO O3
  rw[decide_eq_false h1];refine⟨VH.Ge.refl _,?_⟩;refine ab.av 4 ?_;refine ae @au ?_;refine ab.av 5 ?_;refine ae @au ?_;refine ab.av 6 ?_;refine ae @au ?_;refine ab.av 7 ?_;refine ae @au ?_;refine ab.av 8 ?_;refine ae @au ?_;refine ab.av 9 ?_;refine ae @au ?_;refine ab.ld (m:=.str t) 10 ?_ ?_
  ·exact dz @au @bO
  simp only[aj];refine ab.av 11 ?_;refine ae @au ?_;refine ab.av 12 ?_;refine ae @au ?_;refine ab.av 13 ?_;refine ae @au ?_;refine ab.av 14 ?_;refine ae @au ?_;refine ab.ld (m:=.v (.int .i64 o)) 15 ?_ ?_
  ·exact dz @au @bO
  simp only[aj];refine ab.av 16 ?_;refine ao @au @hg ?_;refine ab.call (i:=17) (oW c _) ?_;rintro _ O3 ⟨rfl,eO⟩;simp only[aj];rw[eO];clear eO O3
  refine⟨VH.Ge.refl _,?_⟩;refine ab.av 18 ?_;refine ae @au ?_;refine ab.bM [] ?_;cases hb:kU c
  ·rw[hb,if_neg (by simp)]at wh;rw[wh,Nat.add_zero]at uv;refine ae @au ?_;refine WC.sound aa (ae @au ?_);exact ay.mk () ⟨hu,uv▸hr⟩
  ·rw[hb,if_pos rfl]at wh;refine ae @au ?_;refine WC.sound aa (ae @au ?_);refine WC.sound aa (ao @au @bO ?_);exact aD.next (o+1) ⟨hu.trans bk.set,by simpa[aq]using hr.set (t':=t) (off':=o+1) (X':=X),by omega,h2,by omega⟩
set_option linter.defProp false in
def dw:=And.intro au T34
theorem Ef (s:List UInt8) (c:UInt8) (O:VH):dV Tryz.prog 288 [.str s,eV c] O fun m O'=>m=mi (s.count c:Nat)/\O'=O:=by
 refine dV.of (ex:=Extern.BytealgCount.count) Tryz.func288 (by kernel_rfl) (by kernel_rfl) (by kernel_rfl) (by kernel_rfl) fun G w vs hw hv=>?_
 obtain⟨u,us,rfl,h1,h2⟩:=hv.ek;obtain⟨u2,us2,rfl,h3,h4⟩:=h2.ek;rw[h4.iu];cases h1;have:=h3.iv;subst this;refine⟨_,Lib.run_countString _ _ w,?_⟩;have e:((c.toNat:Int).toNat).toUInt8=c:=by simp
 rw[e];exact .v rfl
theorem UW (s:List UInt8) (c:UInt8) (O:VH):VF Tryz.prog 260 [.str s,.str [c]] O (aL fun m O'=>m=mi (s.count c:Nat)/\O'=O):=by
 refine VF.db 34 [.tmp 4] Tryz.func260 ?_;refine aM @au @List.length_cons.{0} @List.length_nil.{0} ?_;refine ah.ext (Ef s c O) rfl ?_;rintro _ O2 ⟨rfl,eO⟩;rw[eO];clear eO O2
 exact eX @au
def ff (s:Bs) (c:UInt8):Nat->Int
 | 0=> -1
 | n+1=>if s[n]?=some c then(n:Int)else ff s c n
theorem Eg (s:Bs) (c:UInt8):∀n, -1<=ff s c n/\ff s c n<n
 | 0=>by simp[ff]
 | n+1=>by
   have:=Eg s c n;unfold ff;split<;>omega
theorem mr (s:List UInt8) (c:UInt8) (O:VH) (hs:s.length<=1000000):VF Tryz.prog 285 [.str s,eV c] O (aL fun m O'=>m=mi (ff s c s.length)/\O'=O):=by
 refine VF.db 19 [.tmp 4] Tryz.func285 ?_;refine ae @au ?_;refine WC.iw [5] [0,1] (fun j:Nat=>[mi ((j:Int) - 1)]) (fun j O'=>O'=O/\j<=s.length/\ff s c s.length=ff s c j) (fun j=>j) (s.length) ?_ ?_
 ·exact⟨rfl,Nat.le_refl _,rfl⟩
 rintro j O2 ⟨eO,hj,hl⟩;rw[eO];clear eO O2
 rcases j with _ | n
 ·refine ae @au ?_;rw[hl];rfl
 have hg:=List.getElem?_eq_getElem (show n<s.length by omega);have qp:(((n+1:Nat):Int) - 1).toNat=n:=by omega
 rw[show ff s c (n+1)=if s[n]?=some c then(n:Int)else ff s c n from rfl,hg]at hl;generalize hx:s[n]=d at*;by_cases hd:d=c
 ·rw[hd]at hl hg;rw[if_pos rfl]at hl;refine dB @au @hg @qp @aE ?_;rw[hl]
 ·have ju:¬((d.toNat:Int)=(c.toNat:Int)):=fun e=>hd (UInt8.toNat_inj.1 (by omega))
  rw[if_neg (by simpa using hd)]at hl;refine ll @au @hg @qp @aE @ju ?_;refine aD.next (n) ?_;exact⟨rfl,by omega,hl⟩
theorem F2 (s:List UInt8) (c:UInt8) (O:VH) (hs:s.length<=1000000):VF Tryz.prog 261 [.str s,.str [c]] O (aL fun m O'=>m=mi (ff s c s.length)/\O'=O):=by
 refine VF.db 36 [.tmp 4] Tryz.func261 ?_;refine aM @au @List.length_cons.{0} @List.length_nil.{0} ?_;refine ah.rt (mr s c O hs) ?_;rintro _ O2 ⟨rfl,eO⟩;rw[eO];clear eO O2
 exact eX @au
theorem Au (s:List UInt8) (c:UInt8) (O:VH) (hs:s.length<=1000000):VF Tryz.prog 255 [.str s,eV c] O (aL fun m O'=>m=mi (ff s c s.length)/\O'=O):=by
 refine VF.db 8 [.tmp 4] Tryz.func255 ?_;refine ae @au ?_;refine ah.rt (mr s c O hs) ?_;rintro _ O2 ⟨rfl,eO⟩;rw[eO];clear eO O2
 exact eX @au
def ov (t:Bs) (o:Nat):MV:=.agg [mi o,mi (1+((t.take o).count 10:Nat)),mi ((o:Int) - ff (t.take o) 10 (t.take o).length)]
theorem aea (t:Bs) (o:Nat) (O:VH) (ht:t.length<=1000000) (ho:o<=t.length):VF Tryz.prog 233 [.str t,mi o] O (aL fun m O'=>m=ov t o/\O.Ge O'):=by
 have hb:=Eg (t.take o) 10 (t.take o).length;have hc:=List.count_le_length (a:=(10:UInt8)) (l:=t.take o);have dK:(t.take o).length<=1000000:=by rw[List.length_take];omega
 unfold ov;refine VF.db 23 [.cell 4 34] Tryz.func233 ?_;have hmx:max (0:Int) (min (o:Int) ((t:List UInt8).length:Int))=(o:Int):=by omega
 have qp:((o:Int)).toNat=o:=by omega
 refine aM @dw @hmx @qp ?_;refine ah.rt (UW (t.take o) 10 _) ?_;rintro _ O2 ⟨rfl,eO⟩;rw[eO];clear eO O2
 refine ae @dw ?_;refine ah.rt (F2 (t.take o) 10 _ dK) ?_;rintro _ O2 ⟨rfl,eO⟩;rw[eO];clear eO O2
 generalize ff (t.take o) 10 (t.take o).length=a at*;generalize (t.take o).count 10=b at*;refine ae @dw ?_;first | exact(VH.Ge.refl O).push _ | exact((VH.Ge.refl O).push _).set (Nat.le_refl _) _
open Go.Shelf
def Tryz.IS:Go.Shelf.Ren:=⟨fun | 143=>163 | 219=>190 | 217=>213 | 225=>214 | 224=>215 | 267=>216 | 266=>241 | 314=>242 | n=>n,fun | 9=>9 | 3=>3 | 4=>4 | 5=>5 | 46=>73 | 146=>365 | 51=>152 | n=>n,fun | 1=>0 | n=>n⟩
theorem Tryz.Zf:Go.Proofs.Lays.n143 Tryz.prog Tryz.IS:={
 mixed:=by kernel_rfl
 f143:=Tryz.func163.trans (congrArg some (by kernel_rfl))
 f217:=Tryz.func213.trans (congrArg some (by kernel_rfl))
 f219:=Tryz.func190.trans (congrArg some (by kernel_rfl))
 f224:=Tryz.func215.trans (congrArg some (by kernel_rfl))
 f225:=Tryz.func214.trans (congrArg some (by kernel_rfl))
 f266:=Tryz.func241.trans (congrArg some (by kernel_rfl))
 f267:=Tryz.func216.trans (congrArg some (by kernel_rfl))
 f314:=Tryz.func242.trans (congrArg some (by kernel_rfl))
 t3:=Tryz.underlying3
 a3:=Tryz.isAgg3
 z3:=Tryz.sizeOf3
 v3:=Tryz.zeroValue3
 t4:=Tryz.underlying4
 a4:=Tryz.isAgg4
 z4:=Tryz.sizeOf4
 v4:=Tryz.zeroValue4
 t5:=Tryz.underlying5
 a5:=Tryz.isAgg5
 z5:=Tryz.sizeOf5
 v5:=Tryz.zeroValue5
 t9:=Tryz.underlying9
 a9:=Tryz.isAgg9
 z9:=Tryz.sizeOf9
 v9:=Tryz.zeroValue9
 t46:=Tryz.underlying73
 a46:=Tryz.isAgg73
 z46:=Tryz.sizeOf73
 v46:=Tryz.zeroValue73
 t51:=Tryz.underlying152
 a51:=Tryz.isAgg152
 z51:=Tryz.sizeOf152
 v51:=Tryz.zeroValue152
 t146:=Tryz.underlying365
 a146:=Tryz.isAgg365
 z146:=Tryz.sizeOf365
 v146:=Tryz.zeroValue365
 g1:=by kernel_rfl}
open Go.Lib in
theorem Tryz.strings_Index (s sub:ByteArray) (m:Int) (w:World) (hs:s.size<4294967281) (hm:w.cell? ⟨0,0,none⟩=some (.int .i64 m)):
  Calls Tryz.prog 163 #[.string s,.string sub] w fun e w'=>e= .returned (.int .i64 (Lib.index s.data.toList sub.data.toList))/\w'=w:=Any.strings_Index Tryz.Zf s sub m w hs hm
theorem LQ (s p:List UInt8) (O:VH) (hs:s.length<4294967281):VF Tryz.prog 163 [.str s,.str p] O (aL fun m O'=>m=mi (Lib.index s p)/\O'=O):=by
 intro G w vs hw hv;obtain⟨u,us,rfl,h1,h2⟩:=hv.ek;obtain⟨u2,us2,rfl,h3,h4⟩:=h2.ek;rw[h4.iu];cases h1;cases h3;obtain⟨m,hm⟩:=hw.agI (g:=0) (by decide);refine(Tryz.strings_Index ⟨⟨s⟩⟩ ⟨⟨p⟩⟩ m w hs hm).mono fun e w' ⟨he,wZ⟩=>?_
 subst wZ;subst he
 exact⟨.ret (mi (Lib.index s p)),O,G,Gh.Le.refl G,hw,.v rfl,rfl,rfl⟩
theorem index_le:∀(s p:Bs),Lib.index s p<=(s.length:Int)
 | [],p=>by unfold Lib.index;split<;>simp
 | b::l,p=>by
   have:=index_le l p;unfold Lib.index;rw[List.length_cons];split
   ·omega
   ·split<;>omega
theorem Zg {f:UInt8->Bool}:∀(s:Bs) (j:Nat) (c:UInt8),s[j]?=some c->j<=(s.takeWhile f).length->if f c then j+1<=(s.takeWhile f).length else(s.takeWhile f).length=j
 | [],j,c,hj,_=>by simp at hj
 | d::s,0,c,hj,_=>by
   simp only[List.getElem?_cons_zero,Option.some.injEq]at hj;subst hj;cases h:f d<;>simp[List.takeWhile,h]
 | d::s,j+1,c,hj,h=>by
   rw[List.getElem?_cons_succ]at hj;cases hc:f d
   ·rw[List.takeWhile_cons_of_neg (by simp[hc])]at h;simp at h
   ·rw[List.takeWhile_cons_of_pos hc,List.length_cons]at h ⊢;have:=Zg (f:=f) s j c hj (by omega);cases To:f c
    ·simp only[To,Bool.false_eq_true,if_false]at this ⊢;omega
    ·simp only[To,if_true]at this ⊢;omega
def ph (s p:Bs):Bs:=if 0<=Lib.index s p then s.take (Lib.index s p).toNat else s
def il (t:Bs) (o:Nat) (p:Bs):Except (Int×Nat) (Bs×Nat):=
 if((ph (t.drop o) p).takeWhile lF).length<(ph (t.drop o) p).length then .error (10,o+((ph (t.drop o) p).takeWhile lF).length)
 else if Lib.index (t.drop o) p<0 then .error (13,t.length)else .ok (ph (t.drop o) p,o+(Lib.index (t.drop o) p).toNat+p.length)
theorem Eh {O:VH} {k off:Nat} {t:Bs} {X:MV} (fr p:Bs) (h:Rd O k t off X) (ht:t.length<=1000000) (hp:p.length<=1000) (ho:off+fr.length<=t.length):
  VF Tryz.prog 278 [.ptr k 0,.str fr,.str p] O (TQ O k t X (il t (off+fr.length) p) fun y m=>m= .str y):=by
 have hk:=h.2;have hr:Rd (O.set k (.cells [.str t,mi (off+fr.length:Nat),X])) k t (off+fr.length) X:=h.set;have hu:bk O (some k) (O.set k (.cells [.str t,mi (off+fr.length:Nat),X])):=bk.set;have jY:(off:Int)+(fr.length:Int)=((off+fr.length:Nat):Int):=by omega
 simp only[aq, <-jY]at hk hr hu;refine VF.bX 78 [.tmp 6] Tryz.func278 ?_;refine VC.ag aa (ae @au ?_);refine VC.ag aa (ao @au @hk ?_);generalize O.set k (.cells [.str t,.v (.int .i64 ((off:Int)+(fr.length:Int))),X])=O2 at*;generalize hoo:off+fr.length=o at*;have bO:=hr.2;simp only[aq]at bO;unfold il;refine VC.ag aa (ae @au ?_);refine ah.rt (vK hr ho) ?_;rintro _ O3 ⟨rfl,eO⟩;rw[eO];clear eO O3
 refine ae @au ?_;refine ah.rt (LQ (t.drop o) p _ (by rw[List.length_drop];omega)) ?_;rintro _ O3 ⟨rfl,eO⟩;rw[eO];clear eO O3
 refine ae @au ?_;refine VC.ag aa (ae @au ?_);refine ah.rt (vK hr ho) ?_;rintro _ O3 ⟨rfl,eO⟩;rw[eO];clear eO O3
 refine ae @au ?_;have dd:=Lib.index_ge (t.drop o) p;have iK:Lib.index (t.drop o) p<=((t.drop o).length:Int):=index_le _ _;have js:ph (t.drop o) p=if 0<=Lib.index (t.drop o) p then(t.drop o).take (Lib.index (t.drop o) p).toNat else t.drop o:=rfl
 have B8:(ph (t.drop o) p).length<=1000000:=by
  rw[js];split
  ·rw[List.length_take,List.length_drop];omega
  ·rw[List.length_drop];omega
 generalize ph (t.drop o) p=s at*;generalize Lib.index (t.drop o) p=n at*;refine VC.bz [0,2,7,8] (fun _:Unit=>[.ptr k 0,.str p,.v (.int .i64 n),.str s]) (fun _ O'=>O'=O2) ?_ ?_
 ·rw[List.length_drop]at iK;by_cases h0:0<=n
  ·rw[if_pos h0]at js;subst js;obtain⟨N,rfl⟩:=Int.eq_ofNat_of_zero_le h0;have hN:N<=(t.drop o).length:=by rw[List.length_drop];omega
   have qp:(N:Int).toNat=N:=rfl;refine ae @au ?_;refine WC.sound aa (ao @au @qp ?_);exact ay.mk () rfl
  ·rw[if_neg h0]at js;subst js;refine ao @au @h0 ?_;refine WC.sound aa (ae @au ?_);exact ay.mk () rfl
 rintro⟨⟩ O3 eO;rw[eO];clear eO O3
 refine VC.ag aa (ae @au ?_);clear js;have htw:=ni lF s;refine VC.bE [38] [0,2,7,8,37] (fun j:Nat=>[mi j]) (fun j O'=>O'=O2/\j<=s.length/\j<=(s.takeWhile lF).length) (fun j=>s.length - j) (0) ?_ ?_
 ·exact⟨rfl,Nat.zero_le _,Nat.zero_le _⟩
 rintro j O3 ⟨eO,hj,hjt⟩;rw[eO];clear eO O3
 by_cases h1:j<s.length
 ·have hg:=List.getElem?_eq_getElem h1;have ez:=Zg (f:=lF) s j _ hg hjt;generalize s[j]=c at*;cases hc:lF c
  ·rw[hc,if_neg (by simp)]at ez;rw[if_pos (by omega),ez];refine VC.ag aa (ae @au ?_);refine VC.ag aa (ae @au ?_);refine VC.ag aa (ao @au @hg ?_);refine ah.rt (vE c _) ?_;rintro _ O3 ⟨rfl,eO⟩;rw[eO];clear eO O3
   rw[hc];refine ao @au @bO ?_;refine ah.p (gO 10 (o+j) _) ?_ ?_
   ·rintro m O9 ⟨_,h⟩;exact h.elim
   rintro m O9 ⟨rfl,rfl⟩;refine ae @au ?_;exact⟨hu,rfl⟩
  ·rw[hc,if_pos rfl]at ez;refine VC.ag aa (ae @au ?_);refine VC.ag aa (ae @au ?_);refine VC.ag aa (ao @au @hg ?_);refine ah.rt (vE c _) ?_;rintro _ O3 ⟨rfl,eO⟩;rw[eO];clear eO O3
   rw[hc];refine ao @au @bO ?_;refine WC.sound aa (ae @au ?_);exact aD.next (j+1) ⟨rfl,h1,ez⟩
 ·have bm:j=s.length:=by omega
  subst bm;refine VC.ag aa (ae @au ?_);refine WC.sound aa (ae @au ?_);rw[if_neg (by omega)];by_cases h2:n<0
  ·rw[if_pos h2];refine VC.ag aa (ao @au @bO ?_);refine ah.p (gO 13 t.length _) ?_ ?_
   ·rintro m O9 ⟨_,h⟩;exact h.elim
   rintro m O9 ⟨rfl,rfl⟩;refine ae @au ?_;exact⟨hu,rfl⟩
  ·rw[if_neg h2];refine VC.ag aa (ao @au @bO ?_);have h3:(n.toNat:Int)=n:=by omega
   have h4:n<=1000000:=by rw[List.length_drop]at iK;omega
   refine VC.ag aa (ao @au @bO ?_);refine WC.sound aa (ae @au ?_);have fC:(o:Int)+(n+(p.length:Int))=((o+n.toNat+p.length:Nat):Int):=by omega
   rw[fC];exact⟨hu.trans bk.set,rfl,by simpa[aq]using hr.set (t':=t) (off':=o+n.toNat+p.length) (X':=X)⟩
def qq (s:Bs):Bool:=du s [60,63,120,109,108]&&decide (5<s.length)&&(kU (s.getD 5 0)||s.getD 5 0==63)
theorem UX {O:VH} {k off:Nat} {t:Bs} {X:MV} (h:Rd O k t off X) (ht:t.length<=1000000) (ho:off<=t.length):VF Tryz.prog 279 [.ptr k 0] O (aL fun m O'=>m=mb (qq (t.drop off))/\O'=O):=by
 unfold qq;refine VF.db 25 [.tmp 2] Tryz.func279 ?_;refine ae @au ?_;refine ah.rt (vK h ho) ?_;rintro _ O2 ⟨rfl,eO⟩;rw[eO];clear eO O2
 have hl:(t.drop off).length<=1000000:=by rw[List.length_drop];omega
 generalize t.drop off=s at*;refine ae @au ?_;refine ah.rt (mo s [60,63,120,109,108] _) ?_;rintro _ O2 ⟨rfl,eO⟩;rw[eO];clear eO O2
 cases h1:du s [60,63,120,109,108]
 ·exact eX @au
 by_cases h2:5<s.length
 ·have hg:=List.getElem?_eq_getElem h2;have hd:s.getD 5 0=s[5]:=by simp[List.getD,hg]
  rw[decide_eq_true h2,hd];generalize s[5]=c at*;refine ao @au @hg ?_;refine ah.rt (oW c _) ?_;rintro _ O2 ⟨rfl,eO⟩;rw[eO];clear eO O2
  cases h3:kU c
  ·by_cases h4:c=63
   ·subst h4;refine aM @au @hg @aE ?_;rfl
   ·have h5:¬((c.toNat:Int)=63):=fun e=>h4 (UInt8.toNat_inj.1 (by simpa using(by omega:c.toNat=63)))
    rw[show(c==63)=false by simpa using h4];exact kt4 @au @hg @aE @h5
  ·exact eX @au
 ·rw[decide_eq_false h2];exact eX @au
section
variable {G:Gh} {O:VH} {w:World} {n:Sz} {D:List Deferred} {e:Env} {P:Program} {tab:bN} {ops:Array Oper} {Q:VQ} {u:Value}
def Hm (k:Int):Bs:=(Utf8.encode k).data.toList
theorem UY (ht:aI P tab) (h:WR G O w) {src dst el:TypeId} {tk:aC} {k:Int} (hs:(tab src).map bS.under=some (.slice el)) (hd:(tab dst).map bS.under=some .string) (he:(tab el).map bS.under=some (.int .i32))
  (hx:VR G (.sl 1 [.v (.int .i32 k)] tk) u):gh P (convert src dst u) w G O (.str (Hm k)):=by
 cases hx with
 | sl h1 h2 h3 h4 h5 h6=>
   rename_i us c b o
   have h7:us=[.int .i32 k]:=by
    match us,h1 with
    | [x],_=>rw[(h3 0 _ x rfl rfl).iv]
   subst h7;refine⟨_,w,G,?_,Gh.Le.refl G,h,.str,iT.refl _ _⟩;rw[run_convert_runes_string w src dst el _ _ _ (bl ht hs) (bl ht he) (bl ht hd)]
   have h8:=run_loadCells_list (P:=P) w ⟨b,o,none⟩ [Value.int .i32 k] (fun j v hv=>by
    rw[Addr.add_lit];exact h.d_ _ _ _ (h2 j v hv))
   rw[run_runesToString (P:=P) w ⟨b,o,none⟩ 1 c [k] h8]
   congr 2
theorem VL.Ei (ht:aI P tab) {d:Option Tmp} {src dst el:TypeId} {x:Operand} {ty:TypeId} {ps:String} {af:Array Edge} {g:Option (Nat×Bool)} {L:List (Fl×Oper)} {k:Int} {tk:aC}
  (hg:aK ops (.mk d (.convert src dst x) ty ps af g) e=some true) (hx:ev e x=some (.sl 1 [.v (.int .i32 k)] tk)) (hs:(tab src).map bS.under=some (.slice el)) (oN:(tab dst).map bS.under=some .string) (he:(tab el).map bS.under=some (.int .i32)) (hd:bg n d=true)
  (h:WL P tab n D .plain ops Q L (aV d (.str (Hm k)) e) O):VL P n D .plain ops ((.one,.mk d (.convert src dst x) ty ps af g)::L) e O Q:=by
 refine VL.Dv (M:=fun m O'=>m= .str (Hm k)/\O'=O) hg hd (fun G a w hw hf=>?_) ?_
 ·exact⟨_,_,⟨rfl,rfl⟩,cU.of (UY (P:=P) ht hw hs oN he (hf.ev hx)) (by simp[execOp])⟩
 ·rintro m O' ⟨rfl,rfl⟩;exact WL.sound ht h
end
set_option linter.defProp false in
def bt:=And.intro au<|And.intro Pk G_
def isLet (k:Nat):Bool:=decide (k=9\/k=10\/k=13\/(32<=k/\k<=1114111/\¬(55296<=k/\k<=57343)))
def BA (k:Nat):Bs:=if isLet k then Hm k else[]
theorem LR {k:Nat} (h:isLet k=true):IntKind.i32.wrap (k:Int)=k:=by
 have hk:k<=1114111:=by
  simp only[isLet,decide_eq_true_eq]at h;omega
 clear h;simp only[IntKind.wrap,IntKind.signed,IntKind.bits];simp;omega
theorem UZ (k:Nat) (O:VH) (hk:k<=1000000000000):VF Tryz.prog 320 [mi k] O (aL fun m O'=>m= .tuple [.str (BA k),mb (isLet k)]/\O'=O):=by
 have yes:isLet k=true->BA k=Hm k:=fun h=>by unfold BA;rw[h];rfl
 have no:isLet k=false->BA k=[]:=fun h=>by unfold BA;rw[h];rfl
 have hw:= @LR k;refine VF.db 37 [.tmp 2,.tmp 3] Tryz.func320 ?_;by_cases h1:k=9
 ·have h0:isLet k=true:=decide_eq_true (.inl h1);subst h1;have hw:=hw h0;rw[yes h0,h0];refine ae @bt ?_;refine VL.Ei aa rfl rfl (by rw[G_];rfl) (by rw[T9];rfl) (by rw[Pk];rfl) rfl ?_;refine ao @bt @hw ?_;trivial
 by_cases h2:k=10
 ·have h0:isLet k=true:=decide_eq_true (.inr (.inl h2));subst h2;have hw:=hw h0;rw[yes h0,h0];refine ae @bt ?_;refine VL.Ei aa rfl rfl (by rw[G_];rfl) (by rw[T9];rfl) (by rw[Pk];rfl) rfl ?_;refine ao @bt @hw ?_;trivial
 by_cases h3:k=13
 ·have h0:isLet k=true:=decide_eq_true (.inr (.inr (.inl h3)));subst h3;have hw:=hw h0;rw[yes h0,h0];refine ae @bt ?_;refine VL.Ei aa rfl rfl (by rw[G_];rfl) (by rw[T9];rfl) (by rw[Pk];rfl) rfl ?_;refine ao @bt @hw ?_;trivial
 by_cases h4:k<32
 ·have h0:isLet k=false:=by simp only[isLet,decide_eq_false_iff_not];omega
  rw[no h0,h0];refine ae @bt ?_;trivial
 by_cases h5:1114111<k
 ·have h0:isLet k=false:=by simp only[isLet,decide_eq_false_iff_not];omega
  rw[no h0,h0];refine ae @bt ?_;trivial
 by_cases h6:55296<=k
 ·by_cases h7:k<=57343
  ·have h0:isLet k=false:=by simp only[isLet,decide_eq_false_iff_not];omega
   rw[no h0,h0];refine ae @bt ?_;trivial
  ·have h0:isLet k=true:=by simp only[isLet,decide_eq_true_eq];omega
   have hw:=hw h0;rw[yes h0,h0];refine ae @bt ?_;refine VL.Ei aa rfl rfl (by rw[G_];rfl) (by rw[T9];rfl) (by rw[Pk];rfl) rfl ?_;refine ao @bt @hw ?_;trivial
 ·have h0:isLet k=true:=by simp only[isLet,decide_eq_true_eq];omega
  have hw:=hw h0;rw[yes h0,h0];refine ae @bt ?_;refine VL.Ei aa rfl rfl (by rw[G_];rfl) (by rw[T9];rfl) (by rw[Pk];rfl) rfl ?_;refine ao @bt @hw ?_;trivial
def qV (b:Nat) (c:UInt8):Int:=
 if lR c then(c.toNat:Int) - 48 else if b=16/\97<=c.toNat/\c.toNat<=102 then(c.toNat:Int) - 97+10 else if b=16/\65<=c.toNat/\c.toNat<=70 then(c.toNat:Int) - 65+10 else -1
theorem LS (c:UInt8):lR c=decide (48<=c.toNat/\c.toNat<=57):=by unfold lR;rw[<-Bool.decide_and]
theorem Hn (b:Nat) (c:UInt8) (O:VH):VF Tryz.prog 319 [eV c,mi b] O (aL fun m O'=>m=mi (qV b c)/\O'=O):=by
 have hc:c.toNat<256:=c.toNat_lt;have hd:=oU c O;unfold qV;refine VF.db 41 [.tmp 4] Tryz.func319 ?_;refine ae @bt ?_;refine ah.rt (hd) ?_;rintro _ O2 ⟨rfl,eO⟩;rw[eO];clear eO O2
 cases h1:lR c;rotate_left
 ·rw[LS,decide_eq_true_eq]at h1;refine ao @bt @aE ?_;first | trivial | rfl | (repeat (first | rw[if_pos (by omega)] | rw[if_neg (by omega)]))
 by_cases hb:b=16
 ·subst hb;by_cases h2:97<=c.toNat
  ·by_cases h3:c.toNat<=102
   ·refine ao @bt @aE ?_;first | trivial | rfl | (repeat (first | rw[if_pos (by omega)] | rw[if_neg (by omega)]))
   ·refine ao @bt @aE ?_;first | trivial | rfl | (repeat (first | rw[if_pos (by omega)] | rw[if_neg (by omega)]))
  ·by_cases h4:65<=c.toNat
   ·by_cases h5:c.toNat<=70
    ·refine ao @bt @aE ?_;first | trivial | rfl | (repeat (first | rw[if_pos (by omega)] | rw[if_neg (by omega)]))
    ·refine ao @bt @aE ?_;first | trivial | rfl | (repeat (first | rw[if_pos (by omega)] | rw[if_neg (by omega)]))
   ·refine ao @bt @aE ?_;first | trivial | rfl | (repeat (first | rw[if_pos (by omega)] | rw[if_neg (by omega)]))
 ·have b9:((b:Int)==16)=false:=by simpa using(by omega:¬(b:Int)=16)
  refine aM @bt @aE @b9 ?_;first | trivial | rfl | (repeat (first | rw[if_pos (by omega)] | rw[if_neg (by omega)]))
def wO (b:Nat) (c:UInt8):Bool:=decide (0<=qV b c)
theorem U0 (b k:Nat) (c:UInt8) (O:VH) (hk:O.hp k=some (.cells [mi b])):VF Tryz.prog 318 ([eV c]++[.ptr k 0]) O (aL fun m O'=>m=mb (wO b c)/\O'=O):=by
 show VF _ _ [eV c,.ptr k 0] _ _;simp only[aq]at hk;unfold wO;refine VF.db 8 [.tmp 3] Tryz.func318 ?_;refine ao @bt @hk ?_;refine ah.rt (Hn b c O) ?_;rintro _ O2 ⟨rfl,eO⟩;rw[eO];clear eO O2
 by_cases h:0<=qV b c
 ·rw[decide_eq_true h];refine ae @bt ?_;first | trivial | rfl
 ·rw[decide_eq_false h];refine ao @bt @h ?_;first | trivial | rfl
theorem Zh (f:FuncId) (cs:List MV) (p:UInt8->Bool) (s:List UInt8) (O:VH) (hs:s.length<=1000000000) (hf:∀c,VF Tryz.prog f ([eV c]++cs) O (aL fun m O'=>m=mb (p c)/\O'=O)) (hb:dk Tryz.prog f=true):
  VF Tryz.prog 164 [.str s,.func (.func f) [] cs] O (aL fun m O'=>m=mi (s.takeWhile p).length/\O'=O):=by
 refine VF.db 20 [.tmp 4] Tryz.func164 ?_;refine ae @fb ?_;refine WC.iw [5] [0,1] (fun j:Nat=>[mi j]) (fun j O'=>O'=O/\j<=s.length/\(s.takeWhile p).length=j+((s.drop j).takeWhile p).length) (fun j=>s.length - j) (0) ?_ ?_
 ·exact⟨rfl,Nat.zero_le _,by simp⟩
 rintro j O2 ⟨eO,hj,hw⟩;rw[eO];clear eO O2
 by_cases h2:j<s.length
 ·have hg:=List.getElem?_eq_getElem h2;have hd:=List.drop_eq_getElem_cons h2;generalize s[j]=c at*;refine ao @fb @hg ?_;refine ah.rt (hf c) ?_ (hb:=hb);rintro _ O3 ⟨rfl,eO⟩;rw[eO];clear eO O3
  cases hp:p c
  ·refine ao @fb @hg ?_;rw[hw,hd,List.takeWhile_cons_of_neg (by simp[hp])];trivial
  ·refine ao @fb @hg ?_;refine aD.next (j+1) ?_;refine⟨rfl,by omega,?_⟩;rw[hw,hd,List.takeWhile_cons_of_pos hp,List.length_cons];omega
 ·refine ae @fb ?_;rw[hw,List.drop_of_length_le (by omega)];trivial
def iP (s:Bs) (a:Nat):Bs×Nat×Nat:=if du s [120]then(s.drop 1,a+1,16)else(s,a,10)
def qW (b:Nat) (l:Bs):Nat:=l.foldl (fun k c=>k*b+(qV b c).toNat) 0
def Zi (s:Bs) (a b n:Nat):Bs×Nat×Int:=
 if 8<n then([],0,12)else if n=s.length then([],0,13)else if n=0\/s.getD n 0≠59 then([],0,12)
 else if isLet (qW b (s.take n))then(BA (qW b (s.take n)),a+n+1,0)else([],0,12)
def uF (s:Bs) (a:Nat):Bs×Nat×Int:=Zi (iP s a).1 (iP s a).2.1 (iP s a).2.2 ((iP s a).1.takeWhile (wO (iP s a).2.2)).length
theorem LU {b:Nat} (hb:b<=16):∀(l:Bs) (k:Nat),l.foldl (fun k c=>k*b+(qV b c).toNat) k+1<=(k+1)*16 ^ l.length
 | [],k=>by simp
 | c::l,k=>by
   have hd:(qV b c).toNat<=15:=by
    unfold qV;split
    ·rename_i h;rw[LS,decide_eq_true_eq]at h;omega
    repeat' split
    all_goals omega
   rw[List.foldl_cons,List.length_cons,Nat.pow_succ];refine Nat.le_trans (LU hb l _) ?_;have h1:k*b<=k*16:=Nat.mul_le_mul_left k hb;have h2:k*b+(qV b c).toNat+1<=(k+1)*16:=by omega
   calc _<=((k+1)*16)*16 ^ l.length:=Nat.mul_le_mul_right _ h2
    _=_:=by rw[Nat.mul_assoc,Nat.mul_comm 16]
theorem RR {b:Nat} (hb:b<=16) {l:Bs} (hl:l.length<=8):qW b l<=4294967296:=by
 have h1:=LU hb l 0;have h2:16 ^ l.length<=16 ^ 8:=Nat.pow_le_pow_right (by decide) hl;have h3:(16:Nat) ^ 8=4294967296:=by decide
 unfold qW;omega
theorem PN (b:Nat) (t:Bs) (j:Nat) (h:j<t.length):qW b (t.take (j+1))=qW b (t.take j)*b+(qV b t[j]).toNat:=by
 unfold qW;rw[cG _ _ h,List.foldl_append];rfl
theorem RS {p:UInt8->Bool}:∀(t:Bs) (j:Nat) (c:UInt8),j<(t.takeWhile p).length->t[j]?=some c->p c=true
 | [],j,c,h,_=>by simp at h
 | d::t,j,c,h,hj=>by
   cases hd:p d
   ·rw[List.takeWhile_cons_of_neg (by simp[hd])]at h;simp at h
   ·rw[List.takeWhile_cons_of_pos hd,List.length_cons]at h;cases j with
    | zero=>simp only[List.getElem?_cons_zero,Option.some.injEq]at hj;subst hj;exact hd
    | succ j=>exact RS t j c (by omega) (by simpa using hj)
theorem U3 (s:Bs) (a:Nat) (O:VH) (hs:s.length<=1000000) (ha:a<=1000000):VF Tryz.prog 314 [.str s,mi a] O (aL fun m O'=>m= .tuple [.str (uF s a).1,mi (uF s a).2.1,mi (uF s a).2.2]/\O.Ge O'):=by
 unfold uF;refine VF.bX 65 [.tmp 4,.tmp 5,.tmp 6] Tryz.func314 ?_;refine VC.ag aa (ae @bt ?_);refine VC.ag aa (ae @bt ?_);refine VC.al ?_;rintro O1 ⟨aT,en,dd⟩;refine VC.bz [0,1,7] (fun _:Unit=>[.str (iP s a).1,mi (iP s a).2.1,.ptr O.next 0]) (fun _ O'=>O.Ge O'/\O'.hp O.next=some (.cells [mi (iP s a).2.2])) ?_ ?_
 ·refine VC.ag aa (ae @bt ?_);refine ah.rt (mo s [120] _) ?_;rintro _ O2 ⟨rfl,eO⟩;rw[eO];clear eO O2
  unfold iP;cases h1:du s [120]
  ·refine ae @bt ?_;refine WC.sound aa (ae @bt ?_);exact ay.mk () ⟨aT,en⟩
  ·have h2:1<=s.length:=by
    cases s with
    | nil=>cases h1
    | cons c s=>simp
   refine ao @bt @en ?_;refine WC.sound aa (ao @bt @en ?_);exact ay.mk () ⟨aT.set (Nat.le_refl _) _,VH.an _ _ _⟩
 rintro⟨⟩ O2 ⟨az,bO⟩;have dE:(iP s a).1.length<=1000000:=by unfold iP;split<;>simp<;>omega
 have hpa:(iP s a).2.1<=1000001:=by unfold iP;split<;>simp<;>omega
 have m8:(iP s a).2.2<=16:=by unfold iP;split<;>simp
 generalize iP s a=p at*;obtain⟨t,a2,b⟩:=p;dsimp only at*;have htw:=ni (wO b) t;refine VC.ag aa (ae @bt ?_);refine ah.rt (Zh 318 [.ptr O.next 0] (wO b) t O2 (by omega) (fun c=>U0 b O.next c O2 bO) (by kernel_rfl)) ?_;rintro _ O3 ⟨rfl,eO⟩;rw[eO];clear eO O3
 have jC:= @RS (wO b) t;generalize (t.takeWhile (wO b)).length=n at*;unfold Zi;refine ae @bt ?_;refine VC.bu (VC.aB ?_);by_cases h1:8<n
 ·rw[if_pos h1];refine WC.sound aa (ae @bt ?_);exact⟨rfl,az⟩
 rw[if_neg h1];by_cases h2:n=t.length
 ·rw[if_pos h2];subst h2;refine WC.sound aa (ae @bt ?_);exact⟨rfl,az⟩
 rw[if_neg h2];by_cases h3:n=0
 ·rw[if_pos (.inl h3)];subst h3;refine WC.sound aa (ao @bt @h2 ?_);exact⟨rfl,az⟩
 have hnt:n<t.length:=by omega
 have hg:=List.getElem?_eq_getElem hnt;have hd:t.getD n 0=t[n]:=by simp[List.getD,hg]
 rw[hd];generalize t[n]=c at*;by_cases h4:c=59;rotate_left
 ·rw[if_pos (.inr h4)];have h5:¬((c.toNat:Int)=59):=fun e=>h4 (UInt8.toNat_inj.1 (by simpa using(by omega:c.toNat=59)))
  refine WC.sound aa (dB @bt @hg @aE @h5 ?_);exact⟨rfl,az⟩
 rw[if_neg (fun h=>h.elim h3 (fun h=>h h4))];subst h4;have h5:((((59:UInt8).toNat:Nat):Int) != 59)=false:=rfl;refine WC.sound aa (dB @bt @hg @aE @h5 ?_);clear hg h5;refine VC.ag aa (ae @bt ?_);refine VC.ag aa (ae @bt ?_);simp only[aq]at bO;refine VC.bE [9,40] [0,1,7,8,39] (fun j:Nat=>[mi (qW b (t.take j)),mi j]) (fun j O'=>O'=O2/\j<=n) (fun j=>n - j) (0) ?_ ?_
 ·exact⟨rfl,Nat.zero_le _⟩
 rintro j O3 ⟨eO,hj⟩;rw[eO];clear eO O3
 have h8:(t.take j).length<=8:=by rw[List.length_take];omega
 have hv8:=RR m8 h8;by_cases hjn:j<n
 ·have hjt:j<t.length:=by omega
  have hg:=List.getElem?_eq_getElem hjt;have U4:=jC j _ hjn hg;have iz:=PN b t j hjt;have h9:qW b (t.take (j+1))<=4294967296:=RR m8 (by rw[List.length_take];omega);generalize t[j]=c at*;simp only[wO,decide_eq_true_eq]at U4;generalize hV:qW b (t.take (j+1))=V at*;generalize qW b (t.take j)=v at*;have hdv:((qV b c).toNat:Int)=qV b c:=Int.toNat_of_nonneg U4;have hdc:=Hn b c O2;generalize qV b c=d at*;obtain⟨d,rfl⟩:=Int.eq_ofNat_of_zero_le U4;have jY:(v:Int)*(b:Int)=((v*b:Nat):Int):=by rw[Int.natCast_mul]
  simp only[Int.toNat_natCast]at iz;generalize v*b=vb at*;refine VC.ag aa (ae @bt ?_);refine VC.ag aa (ae @bt ?_);refine VC.bu (VC.aB ?_);refine VC.ag aa (ae @bt ?_);refine VC.m4 [] ?_;refine ab.av 0 ?_;refine ae @bt ?_;refine ab.ld (m:=.v (.int .i64 b)) 1 ?_ ?_
  ·exact dz @bt @bO
  simp only[aj];refine ab.av 2 ?_;refine ao @bt @jY ?_;refine ab.av 3 ?_;refine ae @bt ?_;refine ab.av 4 ?_;refine ae @bt ?_;refine ab.av 5 ?_;refine ao @bt @hg ?_;refine ab.ld (m:=.v (.int .i64 b)) 6 ?_ ?_
  ·exact dz @bt @bO
  simp only[aj];refine ab.call (i:=7) (hdc) ?_;rintro _ O3 ⟨rfl,eO⟩;simp only[aj];rw[eO];clear eO O3
  refine⟨VH.Ge.refl _,?_⟩;refine ab.av 8 ?_;refine ao @bt @jY ?_;refine ab.av 9 ?_;refine ao @bt @jY ?_;refine ab.bM [] ?_;refine ae @bt ?_;refine WC.sound aa (ae @bt ?_);exact aD.next (j+1) ⟨rfl,hjn⟩ (hl:=(by rw[hV,iz];rfl))
 ·obtain rfl:j=n:=by omega
  refine VC.ag aa (ae @bt ?_);refine WC.sound aa (ae @bt ?_);generalize qW b (t.take j)=v at*;refine VC.ag aa (ae @bt ?_);refine ah.rt (UZ v _ (by omega)) ?_;rintro _ O3 ⟨rfl,eO⟩;rw[eO];clear eO O3
  cases h6:isLet v
  ·rw[if_neg (by simp)];refine ae @bt ?_;refine WC.sound aa (ae @bt ?_);exact⟨rfl,az⟩
  ·rw[if_pos rfl];refine ae @bt ?_;refine WC.sound aa (ae @bt ?_);exact⟨rfl,az⟩
def ow (w:Bs):Bs:=
 if w=[108,116]then[60]else if w=[103,116]then[62]else if w=[97,109,112]then[38]else if w=[113,117,111,116]then[34]else if w=[97,112,111,115]then[39]else[]
theorem Zj (w:Bs) (O:VH):VF Tryz.prog 316 [.str w] O (aL fun m O'=>m= .str (ow w)/\O'=O):=by
 unfold ow;refine VF.db 14 [.tmp 2] Tryz.func316 ?_;by_cases h1:w=[108,116]
 ·rw[if_pos h1];have e1:=beq_iff_eq.2 h1;exact dz @bt @e1
 rw[if_neg h1];have e1:(w==[108,116])=false:=by simpa using h1
 by_cases h2:w=[103,116]
 ·rw[if_pos h2];have e2:=beq_iff_eq.2 h2;exact kt3 @bt @e1 @e2
 rw[if_neg h2];have e2:(w==[103,116])=false:=by simpa using h2
 by_cases h3:w=[97,109,112]
 ·rw[if_pos h3];have e3:=beq_iff_eq.2 h3;exact kt4 @bt @e1 @e2 @e3
 rw[if_neg h3];have e3:(w==[97,109,112])=false:=by simpa using h3
 by_cases h4:w=[113,117,111,116]
 ·rw[if_pos h4];have e4:=beq_iff_eq.2 h4;exact kt5 @bt @e1 @e2 @e3 @e4
 rw[if_neg h4];have e4:(w==[113,117,111,116])=false:=by simpa using h4
 by_cases h5:w=[97,112,111,115]
 ·rw[if_pos h5];have e5:=beq_iff_eq.2 h5;exact kt6 @bt @e1 @e2 @e3 @e4 @e5
 rw[if_neg h5];have e5:(w==[97,112,111,115])=false:=by simpa using h5
 exact kt6 @bt @e1 @e2 @e3 @e4 @e5
def BB (c:UInt8):Bool:=decide (97<=c.toNat/\c.toNat<=122)
theorem ahO (c:UInt8) (O:VH):VF Tryz.prog 315 [eV c] O (aL fun m O'=>m=mb (BB c)/\O'=O):=by
 refine VF.db 9 [.tmp 2] Tryz.func315 ?_;by_cases h1:97<=c.toNat
 ·by_cases h2:c.toNat<=122
  ·rw[show BB c=true from decide_eq_true ⟨h1,h2⟩];exact dz @bt @aE
  ·rw[show BB c=false from decide_eq_false (fun h=>h2 h.2)];exact dz @bt @aE
 ·rw[show BB c=false from decide_eq_false (fun h=>h1 h.1)];exact dz @bt @aE
def pj (s:Bs):Bs:=(s.drop 1).takeWhile BB
def oE:List Bs:=[[108,116],[103,116],[97,109,112],[113,117,111,116],[97,112,111,115]]
def Zk (s w:Bs):Bs×Nat×Int:=
 if 1+w.length=s.length then(if oE.any (fun x=>du x w)then([],0,13)else([],0,12))
 else if ow w≠[]/\s.getD (1+w.length) 0=59 then(ow w,w.length+2,0)else([],0,12)
def mu (s:Bs):Bs×Nat×Int:=if du s [38,35]then uF (s.drop 2) 2 else Zk s (pj s)
theorem fX {s p:Bs} (h:du s p=true):p.length<=s.length:=by
 unfold du at h;have h1:s.take p.length=p:=by simpa using h
 rw[<-h1,List.length_take];omega
theorem af0 (s:Bs) (O:VH) (hs:s.length<=1000000) (h0:s[0]?=some 38):
  VF Tryz.prog 309 [.str s] O (aL fun m O'=>m= .tuple [.str (mu s).1,mi (mu s).2.1,mi (mu s).2.2]/\O.Ge O'):=by
 have hne:(s==[])=false:=by cases s<;>simp at h0 ⊢
 have h1:1<=s.length:=by cases s<;>simp at h0 ⊢
 unfold mu;refine VF.db 62 [.tmp 2,.tmp 3,.tmp 4] Tryz.func309 ?_;refine dB @bt @hne @h0 @aE ?_;refine ah.rt (mo s [38,35] _) ?_;rintro _ O2 ⟨rfl,eO⟩;rw[eO];clear eO O2
 cases hn:du s [38,35];rotate_left
 ·have qi:=fX hn;simp only[List.length_cons,List.length_nil]at qi;rw[if_pos rfl];refine ae @bt ?_;refine ah.rt (U3 (s.drop 2) 2 O (by rw[List.length_drop];omega) (by decide)) ?_;rintro _ O2 ⟨rfl,az⟩;generalize uF (s.drop 2) 2=r at*;refine ae @bt ?_;first | exact az | exact⟨rfl,az⟩
 rw[if_neg (by simp)];refine ae @bt ?_;refine ah.rt (IF 315 BB (s.drop 1) _ (Nat.le_trans (by rw[List.length_drop];omega:(s.drop 1).length<=1000000) (by decide)) ahO (by kernel_rfl)) ?_;rintro _ O2 ⟨rfl,eO⟩;rw[eO];clear eO O2
 have hw:pj s=(s.drop 1).takeWhile BB:=rfl;have ou:(pj s).length<=s.length - 1:=by unfold pj;exact Nat.le_trans (ni _ _) (by rw[List.length_drop];exact Nat.le_refl _)
 have Av:(s.drop 1).take (pj s).length=pj s:=by
  unfold pj;exact List.prefix_iff_eq_take.1 (List.takeWhile_prefix _) |>.symm
 have qp:(1+((pj s).length:Int)).toNat - 1=(pj s).length:=by omega
 have aeb:(1+((pj s).length:Int)).toNat=1+(pj s).length:=by omega
 rw[<-hw];clear hw;generalize pj s=w at*;unfold Zk;by_cases h2:1+w.length=s.length
 ·rw[if_pos h2];have h3:(1+(w.length:Int)==(s.length:Int))=true:=by simpa using(by omega:1+(w.length:Int)=(s.length:Int))
  have hws:List.length ([.str [108,116],.str [103,116],.str [97,109,112],.str [113,117,111,116],.str [97,112,111,115]]:List MV)=5:=rfl;refine ll @bt @yT @qp @Av @h3 ?_;refine WC.iw [40] [6,38,39] (fun j:Nat=>[mi j]) (fun j O'=>O'=O/\j<=5/\oE.any (fun x=>du x w)=(oE.drop j).any (fun x=>du x w)) (fun j=>5 - j) (0) ?_ ?_
  ·exact⟨rfl,Nat.zero_le _,rfl⟩
  rintro j O2 ⟨eO,hj,hr⟩;rw[eO];clear eO O2
  by_cases r8:j<5
  ·obtain⟨x,bI,PO⟩:∃x:Bs,([.str [108,116],.str [103,116],.str [97,109,112],.str [113,117,111,116],.str [97,112,111,115]]:List MV)[j]?=some (.str x)/\oE.drop j=x::oE.drop (j+1):=by
    rcases(by omega:j=0\/j=1\/j=2\/j=3\/j=4)with rfl | rfl | rfl | rfl | rfl<;>exact⟨_,rfl,rfl⟩
   rw[PO,List.any_cons]at hr;refine dB @bt @yT @bI @hws ?_;refine ah.rt (mo x w _) ?_;rintro _ O2 ⟨rfl,eO⟩;rw[eO];clear eO O2
   cases hx:du x w
   ·rw[hx,Bool.false_or]at hr;refine ae @bt ?_;exact aD.next (j+1) ⟨rfl,r8,hr⟩
   ·rw[hx,Bool.true_or]at hr;rw[hr,if_pos rfl];refine ae @bt ?_;first | exact VH.Ge.refl _ | exact⟨rfl,VH.Ge.refl _⟩
  ·obtain rfl:j=5:=by omega
   have fc:oE.any (fun x=>du x w)=false:=hr;rw[fc,if_neg (by simp)];refine ae @bt ?_;first | exact VH.Ge.refl _ | exact⟨rfl,VH.Ge.refl _⟩
 rw[if_neg h2];have h3:(1+(w.length:Int)==(s.length:Int))=false:=by simpa using(by omega:¬1+(w.length:Int)=(s.length:Int))
 have h4:1+w.length<s.length:=by omega
 have hg:=List.getElem?_eq_getElem h4;have hd:s.getD (1+w.length) 0=s[1+w.length]:=by simp[List.getD,hg]
 rw[hd];generalize s[1+w.length]=c at*;refine dB @bt @qp @Av @h3 ?_;refine ah.rt (Zj w _) ?_;rintro _ O2 ⟨rfl,eO⟩;rw[eO];clear eO O2
 by_cases h5:ow w=[]
 ·have h6:(ow w==[])=true:=beq_iff_eq.2 h5;rw[if_neg (fun h=>h.1 h5)];refine ao @bt @h6 ?_;first | exact VH.Ge.refl _ | exact⟨rfl,VH.Ge.refl _⟩
 have h6:(ow w==[])=false:=by simpa using h5
 by_cases h7:c=59
 ·rw[if_pos ⟨h5,h7⟩];subst h7;have h8:((((59:UInt8).toNat:Nat):Int)==59)=true:=rfl;refine FV @bt @h6 @aeb @hg @aE @h8 ?_;first | exact VH.Ge.refl _ | exact⟨rfl,VH.Ge.refl _⟩
 ·rw[if_neg (fun h=>h7 h.2)];have h8:¬((c.toNat:Int)=59):=fun e=>h7 (UInt8.toNat_inj.1 (by simpa using(by omega:c.toNat=59)))
  refine FV @bt @h6 @aeb @hg @aE @h8 ?_;first | exact VH.Ge.refl _ | exact⟨rfl,VH.Ge.refl _⟩
theorem LV (w:Bs):(ow w).length<=1:=by unfold ow;repeat' split
                                       all_goals simp
theorem U5 (k:Int):(Hm k).length<=4:=encode_size_le k
theorem Zl {s:Bs} {a:Nat} (h:(uF s a).2.2=0):a+2<=(uF s a).2.1/\(uF s a).2.1<=a+s.length/\(uF s a).1.length<=4:=by
 have mK:a<=(iP s a).2.1/\(iP s a).2.1+(iP s a).1.length<=a+s.length:=by
  unfold iP;split
  ·rename_i h;have:=fX h;simp only[List.length_cons,List.length_nil]at this;rw[List.length_drop];dsimp only;omega
  ·dsimp only;omega
 have htw:=ni (wO (iP s a).2.2) (iP s a).1;unfold uF at h ⊢;generalize ((iP s a).1.takeWhile (wO (iP s a).2.2)).length=n at*;unfold Zi at h ⊢;split at h
 ·cases h
 rw[if_neg ‹_›];split at h
 ·cases h
 rw[if_neg ‹_›];split at h
 ·cases h
 rw[if_neg ‹_›];split at h
 ·rw[if_pos ‹_›]
  have hl:(BA (qW (iP s a).2.2 ((iP s a).1.take n))).length<=4:=by
   unfold BA;split<;>first | exact U5 _ | exact Nat.zero_le _
  exact⟨by dsimp only;omega,by dsimp only;omega,hl⟩
 ·cases h
theorem zp {s:Bs} (h:(mu s).2.2=0):2<=(mu s).2.1/\(mu s).2.1<=s.length/\(mu s).1.length<=(mu s).2.1:=by
 have ou:1+(pj s).length<=s.length\/s=[]:=by
  cases s with
  | nil=>exact .inr rfl
  | cons c s=>left;unfold pj;rw[List.drop_succ_cons,List.drop_zero,List.length_cons];have:=ni BB s;omega
 unfold mu at h ⊢;split at h
 ·rename_i h1;rw[if_pos h1];have h2:=fX h1;simp only[List.length_cons,List.length_nil]at h2;have:=Zl h;rw[List.length_drop]at this;omega
 rw[if_neg ‹_›];unfold Zk at h ⊢;split at h
 ·split at h<;>cases h
 rw[if_neg ‹_›];split at h
 ·rename_i h1;rw[if_pos h1];have:=LV (pj s);rcases ou with ou | rfl
  ·exact⟨by dsimp only;omega,by dsimp only;omega,by dsimp only;omega⟩
  ·have:=h1.2;simp at this
 ·cases h
end Go.Proofs.YthobfcojiglpdaaGreatDoor
