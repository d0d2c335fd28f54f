import Derived.Test.YtjpadehgejlebaaGreatDoorMC
import Derived.Lib.LazyBuf
import Derived.Laws.LoneSync
set_option linter.unusedVariables false
set_option linter.unusedSimpArgs false
namespace Go.Proofs.YtjpadehgejlebaaGreatDoor
open Go.RowKit
open _root_.List renaming length_cons → zP, length_append → Qm, length_drop → Qn, getElem?_eq_some_iff → Vq, length_nil → Zj, append_assoc → Zk, mem_cons → adW, nil_append → adX, cons_append → adY, not_mem_nil → adZ, mem_singleton → ahJ, eq_nil_of_length_eq_zero → ahK, getElem?_append_right → ahN, mem_append → ahP, append_nil → ajm, getElem?_eq_getElem → ajn, length_take → ajo, set_append_right → ajp, all_flatMap → ajq, all_eq_true → ajr, drop_eq_getElem_cons → ajs, mem_cons_of_mem → ajv, append_inj → al_, length_map → am5, mem_map → am6, flatMap_append → am7, drop_zero → ane
open _root_.Nat renaming lt_of_lt_of_le → Ma, le_trans → ahL, add_sub_cancel_left → ahM, le_refl → ahO, zero_le → ajk, zero_add → ajl, lt_of_lt_of_eq → ajt, le_of_ble_eq_true → aju, mul_one → anc
open _root_.And renaming intro → agc
open _root_.Bool renaming and_eq_true → am9
open _root_.Array renaming getElem?_append_left → am8
set_option maxRecDepth 10000
def qa (w:Bs):Bs:=
 if w=[108,116]then[60]else if w=[103,116]then[62]else if w=[97,109,112]then[38]else if w=[113,117,111,116]then[34]else if w=[97,112,111,115]then[39]else[]
theorem abr (w:Bs) (O:VH):VF Tryz.prog 323 [.str w] O (aD fun m O'=>m= .str (qa w)/\O'=O):=by
 unfold qa;refine Δ 14 [.tmp 2] Tryz.func323 ?_;by_cases h1:w=[108,116]
 ·rw[if_pos h1];have e1:=beq_iff_eq.2 h1;exact dX @bS @e1
 rw[if_neg h1];have e1:(w==[108,116])=false:=by simpa using h1
 by_cases h2:w=[103,116]
 ·rw[if_pos h2];have e2:=beq_iff_eq.2 h2;exact kt3 @bS @e1 @e2
 rw[if_neg h2];have e2:(w==[103,116])=false:=by simpa using h2
 by_cases h3:w=[97,109,112]
 ·rw[if_pos h3];have e3:=beq_iff_eq.2 h3;exact kt4 @bS @e1 @e2 @e3
 rw[if_neg h3];have e3:(w==[97,109,112])=false:=by simpa using h3
 by_cases h4:w=[113,117,111,116]
 ·rw[if_pos h4];have e4:=beq_iff_eq.2 h4;exact kt5 @bS @e1 @e2 @e3 @e4
 rw[if_neg h4];have e4:(w==[113,117,111,116])=false:=by simpa using h4
 by_cases h5:w=[97,112,111,115]
 ·rw[if_pos h5];have e5:=beq_iff_eq.2 h5;exact kt6 @bS @e1 @e2 @e3 @e4 @e5
 rw[if_neg h5];have e5:(w==[97,112,111,115])=false:=by simpa using h5
 exact kt6 @bS @e1 @e2 @e3 @e4 @e5
def Df (c:UInt8):Bool:=decide (97<=c.toNat/\c.toNat<=122)
theorem akI (c:UInt8) (O:VH):VF Tryz.prog 322 [gj c] O (aD fun m O'=>m=mb (Df c)/\O'=O):=by
 refine Δ 9 [.tmp 2] Tryz.func322 ?_;by_cases h1:97<=c.toNat
 ·by_cases h2:c.toNat<=122
  ·rw[show Df c=true from decide_eq_true ⟨h1,h2⟩];exact dX @bS @aK
  ·rw[show Df c=false from decide_eq_false (fun h=>h2 h.2)];exact dX @bS @aK
 ·rw[show Df c=false from decide_eq_false (fun h=>h1 h.1)];exact dX @bS @aK
def qT (s:Bs):Bs:=(s.drop 1).takeWhile Df
def qk:List Bs:=[[108,116],[103,116],[97,109,112],[113,117,111,116],[97,112,111,115]]
def abt (s w:Bs):Bs×Nat×Int:=
 if 1+w.length=s.length then(if qk.any (fun x=>ey x w)then([],0,13)else([],0,12))
 else if qa w≠[]/\s.getD (1+w.length) 0=59 then(qa w,w.length+2,0)else([],0,12)
def n4 (s:Bs):Bs×Nat×Int:=if ey s [38,35]then wo (s.drop 2) 2 else abt s (qT s)
theorem ij {s p:Bs} (h:ey s p=true):p.length<=s.length:=by
 unfold ey at h;have h1:s.take p.length=p:=by simpa using h
 rw[<-h1,ajo];omega
theorem aiv (s:Bs) (O:VH) (hs:s.length<=1000000) (h0:s[0]?=some 38):
  VF Tryz.prog 316 [.str s] O (aD fun m O'=>m= .tuple [.str (n4 s).1,mi (n4 s).2.1,mi (n4 s).2.2]/\O.Ge O'):=by
 have hne:(s==[])=false:=by cases s<;>simp at h0 ⊢
 have h1:1<=s.length:=by cases s<;>simp at h0 ⊢
 unfold n4;refine Δ 62 [.tmp 2,.tmp 3,.tmp 4] Tryz.func316 ?_;refine cR @bS @hne @h0 @aK ?_;refine ah.rt (nY s [38,35] _) ?_;rintro _ O2 ⟨rfl,eO⟩;rw[eO];clear eO O2
 cases hn:ey s [38,35];rotate_left
 ·have pB:=ij hn;simp only[zP,Zj]at pB;rw[if_pos rfl];refine ab @bS ?_;refine ah.rt (XL (s.drop 2) 2 O (by rw[Qn];omega) (by decide)) ?_;rintro _ O2 ⟨rfl,aB⟩;generalize wo (s.drop 2) 2=r at*;refine ab @bS ?_;first | exact aB | exact⟨rfl,aB⟩
 rw[if_neg (by simp)];refine ab @bS ?_;refine ah.rt (KK 322 Df (s.drop 1) _ (ahL (by rw[Qn];omega:(s.drop 1).length<=1000000) (by decide)) akI (by kernel_rfl)) ?_;rintro _ O2 ⟨rfl,eO⟩;rw[eO];clear eO O2
 have hw:qT s=(s.drop 1).takeWhile Df:=rfl;have oI:(qT s).length<=s.length - 1:=by unfold qT;exact ahL (oT _ _) (by rw[Qn];exact ahO _)
 have Cj:(s.drop 1).take (qT s).length=qT s:=by
  unfold qT;exact List.prefix_iff_eq_take.1 (List.takeWhile_prefix _) |>.symm
 have o8:(1+((qT s).length:Int)).toNat - 1=(qT s).length:=by omega
 have agI:(1+((qT s).length:Int)).toNat=1+(qT s).length:=by omega
 rw[<-hw];clear hw;generalize qT s=w at*;unfold abt;by_cases h2:1+w.length=s.length
 ·rw[if_pos h2];have h3:(1+(w.length:Int)==(s.length:Int))=true:=by simpa using(by omega:1+(w.length:Int)=(s.length:Int))
  have hws:List.length ([.str [108,116],.str [103,116],.str [97,109,112],.str [113,117,111,116],.str [97,112,111,115]]:List MV)=5:=rfl;refine iN @bS @rL @o8 @Cj @h3 ?_;refine WC.jm [40] [6,38,39] (fun j:Nat=>[mi j]) (fun j O'=>O'=O/\j<=5/\qk.any (fun x=>ey x w)=(qk.drop j).any (fun x=>ey x w)) (fun j=>5 - j) (0) ?_ ?_
  ·exact⟨rfl,ajk _,rfl⟩
  rintro j O2 ⟨eO,hj,hr⟩;rw[eO];clear eO O2
  by_cases uj:j<5
  ·obtain⟨x,bG,R6⟩:∃x:Bs,([.str [108,116],.str [103,116],.str [97,109,112],.str [113,117,111,116],.str [97,112,111,115]]:List MV)[j]?=some (.str x)/\qk.drop j=x::qk.drop (j+1):=by
    rcases(by omega:j=0\/j=1\/j=2\/j=3\/j=4)with rfl | rfl | rfl | rfl | rfl<;>exact⟨_,rfl,rfl⟩
   rw[R6,List.any_cons]at hr;refine cR @bS @rL @bG @hws ?_;refine ah.rt (nY x w _) ?_;rintro _ O2 ⟨rfl,eO⟩;rw[eO];clear eO O2
   cases hx:ey x w
   ·rw[hx,Bool.false_or]at hr;refine ab @bS ?_;exact az.N (j+1) ⟨rfl,uj,hr⟩
   ·rw[hx,Bool.true_or]at hr;rw[hr,if_pos rfl];refine ab @bS ?_;first | exact VH.Ge.refl _ | exact⟨rfl,VH.Ge.refl _⟩
  ·obtain rfl:j=5:=by omega
   have gu:qk.any (fun x=>ey x w)=false:=hr;rw[gu,if_neg (by simp)];refine ab @bS ?_;first | exact VH.Ge.refl _ | exact⟨rfl,VH.Ge.refl _⟩
 rw[if_neg h2];have h3:(1+(w.length:Int)==(s.length:Int))=false:=by simpa using(by omega:¬1+(w.length:Int)=(s.length:Int))
 have h4:1+w.length<s.length:=by omega
 have hg:=ajn h4;have hd:s.getD (1+w.length) 0=s[1+w.length]:=by simp[List.getD,hg]
 rw[hd];generalize s[1+w.length]=c at*;refine cR @bS @o8 @Cj @h3 ?_;refine ah.rt (abr w _) ?_;rintro _ O2 ⟨rfl,eO⟩;rw[eO];clear eO O2
 by_cases h5:qa w=[]
 ·have h6:(qa w==[])=true:=beq_iff_eq.2 h5;rw[if_neg (fun h=>h.1 h5)];refine ao @bS @h6 ?_;first | exact VH.Ge.refl _ | exact⟨rfl,VH.Ge.refl _⟩
 have h6:(qa w==[])=false:=by simpa using h5
 by_cases h7:c=59
 ·rw[if_pos ⟨h5,h7⟩];subst h7;have h8:((((59:UInt8).toNat:Nat):Int)==59)=true:=rfl;refine HJ @bS @h6 @agI @hg @aK @h8 ?_;first | exact VH.Ge.refl _ | exact⟨rfl,VH.Ge.refl _⟩
 ·rw[if_neg (fun h=>h7 h.2)];have h8:¬((c.toNat:Int)=59):=fun e=>h7 (UInt8.toNat_inj.1 (by simpa using(by omega:c.toNat=59)))
  refine HJ @bS @h6 @agI @hg @aK @h8 ?_;first | exact VH.Ge.refl _ | exact⟨rfl,VH.Ge.refl _⟩
theorem Oe (w:Bs):(qa w).length<=1:=by unfold qa;repeat' split
                                       all_goals simp
theorem XN (k:Int):(Jb k).length<=4:=encode_size_le k
theorem abu {s:Bs} {a:Nat} (h:(wo s a).2.2=0):a+2<=(wo s a).2.1/\(wo s a).2.1<=a+s.length/\(wo s a).1.length<=4:=by
 have lJ:a<=(j4 s a).2.1/\(j4 s a).2.1+(j4 s a).1.length<=a+s.length:=by
  unfold j4;split
  ·rename_i h;have:=ij h;simp only[zP,Zj]at this;rw[Qn];dsimp only;omega
  ·dsimp only;omega
 have htw:=oT (yE (j4 s a).2.2) (j4 s a).1;unfold wo at h ⊢;generalize ((j4 s a).1.takeWhile (yE (j4 s a).2.2)).length=n at*;unfold abq at h ⊢;split at h
 ·cases h
 rw[if_neg ‹_›];split at h
 ·cases h
 rw[if_neg ‹_›];split at h
 ·cases h
 rw[if_neg ‹_›];split at h
 ·rw[if_pos ‹_›]
  have hl:(De (sS (j4 s a).2.2 ((j4 s a).1.take n))).length<=4:=by
   unfold De;split<;>first | exact XN _ | exact ajk _
  exact⟨by dsimp only;omega,by dsimp only;omega,hl⟩
 ·cases h
theorem Bg {s:Bs} (h:(n4 s).2.2=0):2<=(n4 s).2.1/\(n4 s).2.1<=s.length/\(n4 s).1.length<=(n4 s).2.1:=by
 have oI:1+(qT s).length<=s.length\/s=[]:=by
  cases s with
  | nil=>exact .inr rfl
  | cons c s=>left;unfold qT;rw[List.drop_succ_cons,ane,zP];have:=oT Df s;omega
 unfold n4 at h ⊢;split at h
 ·rename_i h1;rw[if_pos h1];have h2:=ij h1;simp only[zP,Zj]at h2;have:=abu h;rw[Qn]at this;omega
 rw[if_neg ‹_›];unfold abt at h ⊢;split at h
 ·split at h<;>cases h
 rw[if_neg ‹_›];split at h
 ·rename_i h1;rw[if_pos h1];have:=Oe (qT s);rcases oI with oI | rfl
  ·exact⟨by dsimp only;omega,by dsimp only;omega,by dsimp only;omega⟩
  ·have:=h1.2;simp at this
 ·cases h
def fe (t:Bs) (stop:UInt8):Nat->Nat->Bs->Except (Int×Nat) (Bs×Nat)
 | 0,o,acc=>.ok (acc,o)
 | n+1,o,acc=>match t[o]? with
   | none=>.ok (acc,o)
   | some c=>
     if c=stop then .ok (acc,o)
     else if c=38 then
      if(n4 (t.drop o)).2.2≠0 then .error ((n4 (t.drop o)).2.2,o)else fe t stop n (o+(n4 (t.drop o)).2.1) (acc++(n4 (t.drop o)).1)
     else if c=60\/ng c=false then .error (10,o)
     else fe t stop n (o+1) (acc++[c])
theorem zF {O:VH} {k off:Nat} {t:Bs} {X:MV} (stop:UInt8) (h:Rd O k t off X) (ht:t.length<=1000000) (ho:off<=t.length):
  VF Tryz.prog 298 [.ptr k 0,gj stop] O (TQ O k t X (fe t stop (t.length+1 - off) off []) fun y m=>m= .str y):=by
 refine υ 100 [.tmp 4] Tryz.func298 ?_;refine κ @av ?_;refine κ @av ?_;have v8:=gE.fresh O (ahO O.N);have mT:O.Ge ((O.push (.cells [.v (.pointer none),.sl 0 [] .nil])).push (.shape O.N 155 2)):=((VH.Ge.refl O).push _).push _;generalize ((O.push (.cells [.v (.pointer none),.sl 0 [] .nil])).push (.shape O.N 155 2))=O1 at*;refine Θ [5] (fun x:Bs×Nat×Option Nat=>[.ptr O.N 0]) (fun x O'=>bz O (some k) O'/\Rd O' k t x.2.1 X/\gE O' O.N O.N x.2.2 x.1/\x.1.length<=1000000/\fe t stop (t.length+1 - off) off []= .ok (x.1,x.2.1)) ?_ ?_;rotate_left
 ·rintro⟨acc,o,q⟩ O2 ⟨c8,gu,cJ,kc,he⟩;dsimp only at gu cJ kc he;rw[he];refine ν @av ?_;refine ah.rt (qD cJ (by simp only[maxLen];omega)) ?_;rintro _ O3 ⟨rfl,c9⟩;refine ab @av ?_;have oG:=cJ.yA;exact⟨⟨ahL c8.N c9.N,fun i hi hne=>(c9.hp i (Ma hi c8.N) (fun e=>by have:=oG i e;omega)).trans (c8.hp i hi hne)⟩,rfl,Ma gu.1 c9.N,(c9.hp k gu.1 (fun e=>by have:=oG k e;have:=h.1;omega)).trans gu.2⟩
 refine τ ?_;refine Γ [] [0,1,5] (fun x:Bs×Nat×Option Nat=>[]) (fun x O'=>bz O (some k) O'/\Rd O' k t x.2.1 X/\gE O' O.N O.N x.2.2 x.1/\x.1.length<=x.2.1/\x.2.1<=t.length/\∃n,t.length+1 - x.2.1<=n/\fe t stop (t.length+1 - off) off []=fe t stop n x.2.1 x.1) (fun x=>t.length - x.2.1) (([],off,none)) ?_ ?_
 ·exact⟨(bz.lp mT).any,h.ge mT,v8,ajk _,ho,_,ahO _,rfl⟩
 rintro⟨acc,o,q⟩ O2 ⟨c8,gu,cJ,kc,Of,n,hn,he⟩;dsimp only at gu cJ kc Of hn he;obtain⟨n,rfl⟩:∃i,n=i+1:=⟨n - 1,by omega⟩
 have bM:=gu.2;simp only[aq]at bM;by_cases h1:t.length<=o
 ·have dF:t[o]?=none:=List.getElem?_eq_none h1;have hle:fe t stop (n+1) o acc= .ok (acc,o):=by unfold fe;rw[dF]
  rw[hle]at he;refine χ (χ ?_);refine VC.nP [4,5,6,7,8,9,10,11,12,13,14,15,16,17,18,19] ?_;refine ae.ar 0 ?_;refine ab @av ?_;refine ae.ar 1 ?_;refine ab @av ?_;refine ae.ar 2 ?_;refine ab @av ?_;refine ae.call (i:=3) (nZ gu) ?_;rintro _ O3 ⟨rfl,eO⟩;simp only[ak];rw[eO];clear eO O3
  rw[decide_eq_true h1];refine⟨VH.Ge.refl _,?_⟩;refine ae.bP [(4,.ar),(5,.ar),(6,.ar),(7,.ar),(8,.ar),(9,.ar),(10,.ar),(11,.ar),(12,.ar),(13,.ar),(14,.ar),(15,.ar),(16,.ar),(17,.ar),(18,.ar),(19,.ar)] ?_;refine ab @av ?_;refine ν @av ?_;exact aA.mk (acc,o,q) ⟨c8,gu,cJ,ahL kc (ahL Of ht),he⟩
 have h2:o<t.length:=by omega
 have hg:=ajn h2;generalize t[o]=c at*;refine χ (χ ?_);refine VC.nP [] ?_;refine ae.ar 0 ?_;refine ab @av ?_;refine ae.ar 1 ?_;refine ab @av ?_;refine ae.ar 2 ?_;refine ab @av ?_;refine ae.call (i:=3) (nZ gu) ?_;rintro _ O3 ⟨rfl,eO⟩;simp only[ak];rw[eO];clear eO O3
 rw[decide_eq_false h1];refine⟨VH.Ge.refl _,?_⟩;refine ae.ar 4 ?_;refine ab @av ?_;refine ae.ar 5 ?_;refine ab @av ?_;refine ae.ar 6 ?_;refine ab @av ?_;refine ae.ar 7 ?_;refine ab @av ?_;refine ae.ar 8 ?_;refine ab @av ?_;refine ae.ar 9 ?_;refine ab @av ?_;refine ae.ld (m:=.str t) 10 ?_ ?_
 ·exact dX @av @bM
 simp only[ak];refine ae.ar 11 ?_;refine ab @av ?_;refine ae.ar 12 ?_;refine ab @av ?_;refine ae.ar 13 ?_;refine ab @av ?_;refine ae.ar 14 ?_;refine ab @av ?_;refine ae.ld (m:=.v (.int .i64 o)) 15 ?_ ?_
 ·exact dX @av @bM
 simp only[ak];refine ae.ar 16 ?_;refine ao @av @hg ?_;refine ae.ar 17 ?_;refine ab @av ?_;by_cases h3:c=stop
 ·subst h3;have hle:fe t c (n+1) o acc= .ok (acc,o):=by unfold fe;rw[hg];simp
  rw[hle]at he;refine ae.ar 18 ?_;refine ao @av @aK ?_;refine ae.ar 19 ?_;refine ab @av ?_;refine ae.bP [] ?_;refine ab @av ?_;refine ν @av ?_;exact aA.mk (acc,o,q) ⟨c8,gu,cJ,ahL kc (ahL Of ht),he⟩
 have h4:¬((c.toNat:Int)=(stop.toNat:Int)):=fun e=>h3 (UInt8.toNat_inj.1 (by omega))
 refine ae.ar 18 ?_;refine aG @av @aK @h4 ?_;refine ae.ar 19 ?_;refine ab @av ?_;refine ae.bP [] ?_;refine ab @av ?_;refine ν @av ?_;refine τ ?_;refine χ ?_;refine WC.reads ?_;refine aG @av @bM @hg ?_;by_cases h5:c=38
 ·subst h5;have sf:(t.drop o).length<=1000000:=by rw[Qn];omega
  have mT:(t.drop o)[0]?=some 38:=by rw[List.getElem?_drop];exact hg
  have Bh:=aiv (t.drop o) O2 sf mT;have dP:= @Bg (t.drop o)
  have hle:fe t stop (n+1) o acc=if(n4 (t.drop o)).2.2≠0 then .error ((n4 (t.drop o)).2.2,o)else fe t stop n (o+(n4 (t.drop o)).2.1) (acc++(n4 (t.drop o)).1):=by
   rw[show fe t stop (n+1) o acc=_ from by unfold fe;rfl,hg];simp only;rw[if_neg h3,if_pos trivial]
  rw[hle]at he;rw[Qn]at dP;generalize n4 (t.drop o)=r at*;have h6:((((38:UInt8).toNat:Nat):Int)==38)=true:=rfl;refine θ (aG @av @aK @h6 ?_);refine ah.rt (xF gu Of) ?_;rintro _ O3 ⟨rfl,eO⟩;rw[eO];clear eO O3
  refine ab @av ?_;refine ah.rt (Bh) ?_;rintro _ OR ⟨rfl,hgR⟩;refine ab @av ?_;clear Bh
  replace bM:=(hgR.hp k gu.1).trans bM
  replace gu:=gu.ge hgR
  replace cJ:=cJ.ge hgR
  replace c8:=c8.trans (bz.lp hgR).any
  clear hgR O2;by_cases h7:r.2.2=0
  ·obtain⟨k1,k2,k3⟩:=dP h7;rw[if_neg (by simpa using h7)]at he;have h8:(r.2.2 != 0)=false:=by simpa using h7
   refine ao @av @h8 ?_;refine ah.rt (bV r.1 cJ (by omega)) ?_;rintro _ O3 ⟨rfl,q',cB,c9⟩;have oG:=cJ.yA;have dR:O3.hp k=some (.cells [.str t,.v (.int .i64 (o:Int)),X]):=(c9.hp k gu.1 (by have:=h.1;omega) (fun e=>by have:=oG k e;have:=h.1;omega)).trans bM;refine ao @av @dR ?_;have fD:bz O (some k) O3:=⟨ahL c8.N c9.N,fun i hi hne=>(c9.hp i (Ma hi c8.N) (by omega) (fun e=>by have:=oG i e;omega)).trans (c8.hp i hi hne)⟩;have iL:Rd O3 k t o X:=⟨Ma gu.1 c9.N,dR⟩;refine az.N (acc++r.1,o+r.2.1,q') ⟨fD.trans bz.set,by simpa[aq]using iL.set (t':=t) (off':=o+r.2.1) (X':=X),cB.set dR (by have:=h.1;omega) (fun e=>by have:=cB.yA k e;have:=h.1;omega),by dsimp only;rw[Qm];omega,by dsimp only;omega,n,by dsimp only;omega,he⟩
  ·rw[if_pos h7]at he;rw[he];have h8:(r.2.2 != 0)=true:=by simpa using h7
   refine aG @av @h8 @bM ?_;refine ah.p (jc r.2.2 o _) ?_ ?_
   ·rintro m O9 ⟨_,h⟩;exact h.elim
   rintro m O9 ⟨rfl,rfl⟩;refine ab @av ?_;exact⟨c8,rfl⟩
 have h6:¬((c.toNat:Int)=38):=fun e=>h5 (UInt8.toNat_inj.1 (by simpa using(by omega:c.toNat=38)))
 by_cases h7:c=60\/ng c=false
 ·have hle:fe t stop (n+1) o acc= .error (10,o):=by unfold fe;rw[hg];simp only;rw[if_neg h3,if_neg h5,if_pos h7]
  rw[he,hle];by_cases h8:c=60
  ·have h9:((c.toNat:Int)==60)=true:=by rw[h8];rfl
   refine θ (iN @av @aK @h6 @h9 @bM ?_);refine ah.p (jc 10 o _) ?_ ?_
   ·rintro m O9 ⟨_,h⟩;exact h.elim
   rintro m O9 ⟨rfl,rfl⟩;refine ab @av ?_;exact⟨c8,rfl⟩
  have yZ:¬((c.toNat:Int)=60):=fun e=>h8 (UInt8.toNat_inj.1 (by simpa using(by omega:c.toNat=60)))
  have h9:ng c=false:=h7.resolve_left h8;refine θ (cR @av @aK @h6 @yZ ?_);refine ah.rt (xz c _) ?_;rintro _ O3 ⟨rfl,eO⟩;rw[eO];clear eO O3
  rw[h9];refine ao @av @bM ?_;refine ah.p (jc 10 o _) ?_ ?_
  ·rintro m O9 ⟨_,h⟩;exact h.elim
  rintro m O9 ⟨rfl,rfl⟩;refine ab @av ?_;exact⟨c8,rfl⟩
 have h8:¬c=60:=fun e=>h7 (.inl e)
 have h9:ng c=true:=by simpa using fun hx:ng c=false=>h7 (.inr hx)
 have yZ:¬((c.toNat:Int)=60):=fun e=>h8 (UInt8.toNat_inj.1 (by simpa using(by omega:c.toNat=60)))
 have hle:fe t stop (n+1) o acc=fe t stop n (o+1) (acc++[c]):=by
  rw[show fe t stop (n+1) o acc=_ from by unfold fe;rfl,hg];simp only;rw[if_neg h3,if_neg h5,if_neg h7]
 rw[hle]at he;refine θ (cR @av @aK @h6 @yZ ?_);refine ah.rt (xz c _) ?_;rintro _ O3 ⟨rfl,eO⟩;rw[eO];clear eO O3
 rw[h9];refine ab @av ?_;refine ν @av ?_;refine ah.rt (ua c cJ (by omega)) ?_;rintro _ O3 ⟨rfl,q',cB,c9⟩;have oG:=cJ.yA;have dR:O3.hp k=some (.cells [.str t,.v (.int .i64 (o:Int)),X]):=(c9.hp k gu.1 (by have:=h.1;omega) (fun e=>by have:=oG k e;have:=h.1;omega)).trans bM;refine ao @av @dR ?_;have fD:bz O (some k) O3:=⟨ahL c8.N c9.N,fun i hi hne=>(c9.hp i (Ma hi c8.N) (by omega) (fun e=>by have:=oG i e;omega)).trans (c8.hp i hi hne)⟩;have iL:Rd O3 k t o X:=⟨Ma gu.1 c9.N,dR⟩;refine az.N (acc++[c],o+1,q') ⟨fD.trans bz.set,by simpa[aq]using iL.set (t':=t) (off':=o+1) (X':=X),cB.set dR (by have:=h.1;omega) (fun e=>by have:=cB.yA k e;have:=h.1;omega),by dsimp only;rw[Qm];simp only[zP,Zj];omega,by dsimp only;omega,?_⟩;exact⟨n,by dsimp only;omega,he⟩
theorem o9 {t:Bs} {stop:UInt8}:∀(n o:Nat) (acc:Bs) {s:Bs} {o':Nat},o<=t.length->acc.length<=o->fe t stop n o acc= .ok (s,o')->o<=o'/\o'<=t.length/\s.length<=o'
 | 0,o,acc,s,o',ho,ha,h=>by
   unfold fe at h;injection h with h;injection h with h1 h2
   subst h1;subst h2
   exact⟨ahO _,ho,ha⟩
 | n+1,o,acc,s,o',ho,ha,h=>by
   have done:∀(h:(.ok (acc,o):Except (Int×Nat) (Bs×Nat))= .ok (s,o')),o<=o'/\o'<=t.length/\s.length<=o':=fun h=>by
    injection h with h;injection h with h1 h2
    subst h1;subst h2
    exact⟨ahO _,ho,ha⟩
   unfold fe at h;cases hg:t[o]? with
   | none=>rw[hg]at h;exact done h
   | some c=>
     have R7:o<t.length:=(Vq.1 hg).1;rw[hg]at h;simp only at h;split at h
     ·exact done h
     split at h
     ·rename_i h2;subst h2;split at h
      ·cases h
      ·rename_i h5;obtain⟨k1,k2,k3⟩:=Bg (by simpa using h5);rw[Qn]at k2;have:=o9 n _ _ (by omega) (by rw[Qm];omega) h;omega
     split at h
     ·cases h
     ·have:=o9 n _ _ (by omega) (by rw[Qm];simp only[zP,Zj];omega) h;omega
def uR (t:Bs) (off:Nat):Except (Int×Nat) (Bs×Nat):=match t[off]? with
 | none=>.error (13,off)
 | some q=>
   if q≠34/\q≠39 then .error (10,off)
   else match fe t q (t.length+1 - (off+1)) (off+1) []with
    | .error e=>.error e
    | .ok (s,o)=>if t.length<=o then .error (13,o)else .ok (s,o+1)
theorem abv {O:VH} {k off:Nat} {t:Bs} {X:MV} (h:Rd O k t off X) (ht:t.length<=1000000):
  VF Tryz.prog 315 [.ptr k 0] O (TQ O k t X (uR t off) fun y m=>m= .str y):=by
 have hk:=h.2;simp only[aq]at hk;unfold uR;refine Δ 70 [.tmp 2] Tryz.func315 ?_;refine ab @av ?_;refine ah.rt (nZ h) ?_;rintro _ O2 ⟨rfl,eO⟩;rw[eO];clear eO O2
 by_cases h1:t.length<=off
 ·rw[decide_eq_true h1,List.getElem?_eq_none h1];refine ao @av @hk ?_;refine ah.p (jc _ _ _) ?_ ?_
  ·rintro m O9 ⟨_,h⟩;exact h.elim
  rintro m O9 ⟨rfl,rfl⟩;refine ab @av ?_;exact⟨bz.refl _ _,rfl⟩
 have h2:off<t.length:=by omega
 have hg:=List.getElem?_eq_getElem h2;rw[decide_eq_false h1,hg];generalize t[off]=c at*;refine ab @av ?_;refine WC.reads ?_;refine cR @av @hk @hg @aK ?_;have hr:Rd (O.set k (.cells [.str t,mi (off+1:Nat),X])) k t (off+1) X:=h.set;have hu:bz O (some k) (O.set k (.cells [.str t,mi (off+1:Nat),X])):=bz.set;have ly:((off:Int)+1)=((off+1:Nat):Int):=by omega
 simp only[aq, <-ly]at hr hu;have hle:=zF (X:=X) c hr ht (by omega:off+1<=t.length);have eD:= @o9 t c (t.length+1 - (off+1)) (off+1) [];generalize fe t c (t.length+1 - (off+1)) (off+1) []=LF at*;by_cases hq:c≠34/\c≠39
 ·rw[if_pos hq];have e1:¬((c.toNat:Int)=34):=fun e=>hq.1 (UInt8.toNat_inj.1 (by simpa using(by omega:c.toNat=34)))
  have e2:¬((c.toNat:Int)=39):=fun e=>hq.2 (UInt8.toNat_inj.1 (by simpa using(by omega:c.toNat=39)))
  refine cR @av @hk @e1 @e2 ?_;refine ah.p (jc _ _ _) ?_ ?_
  ·rintro m O9 ⟨_,h⟩;exact h.elim
  rintro m O9 ⟨rfl,rfl⟩;refine ab @av ?_;exact⟨bz.refl _ _,rfl⟩
 rw[if_neg hq];by_cases hc:c=34
 ·subst hc;have e1:((((34:UInt8).toNat:Nat):Int) != 34)=false:=rfl;refine cR @av @aK @e1 @hk ?_;generalize O.set k (.cells [.str t,.v (.int .i64 ((off:Int)+1)),X])=O2 at*;refine ah.p (hle) ?_ ?_;rotate_left
  ·rintro m O3 ⟨c9,h⟩;cases LF with
   | ok y=>exact h.elim
   | error e=>
     dsimp only at h;subst h;refine ab @av ?_;exact⟨hu.trans c9,rfl⟩
  rintro m O3 ⟨c9,h⟩;cases LF with
  | error e=>exact h.elim
  | ok y=>
  obtain⟨s,o⟩:=y;dsimp only at h;obtain⟨rfl,iL⟩:=h;have dR:=iL.2;simp only[aq]at dR;obtain⟨g1,g2,g3⟩:=eD (by omega) (ajk _) rfl;refine ab @av ?_;refine ah.rt (nZ iL) ?_;rintro _ O4 ⟨rfl,eO⟩;rw[eO];clear eO O4
  by_cases h5:t.length<=o
  ·rw[decide_eq_true h5];rw[if_pos h5];refine ao @av @dR ?_;refine ah.p (jc _ _ _) ?_ ?_
   ·rintro m O9 ⟨_,h⟩;exact h.elim
   rintro m O9 ⟨rfl,rfl⟩;refine ab @av ?_;exact⟨hu.trans c9,rfl⟩
  ·rw[decide_eq_false h5];rw[if_neg h5];refine ao @av @dR ?_;exact⟨(hu.trans c9).trans bz.set,rfl,by simpa[aq]using iL.set (t':=t) (off':=o+1) (X':=X)⟩
 ·obtain rfl:c=39:=by
   by_cases h9:c=39
   ·exact h9
   ·exact absurd ⟨hc,h9⟩ hq
  have e1:((((39:UInt8).toNat:Nat):Int) != 34)=true:=rfl;have e2:((((39:UInt8).toNat:Nat):Int) != 39)=false:=rfl;refine iN @av @aK @e1 @e2 @hk ?_;generalize O.set k (.cells [.str t,.v (.int .i64 ((off:Int)+1)),X])=O2 at*;refine ah.p (hle) ?_ ?_;rotate_left
  ·rintro m O3 ⟨c9,h⟩;cases LF with
   | ok y=>exact h.elim
   | error e=>
     dsimp only at h;subst h;refine ab @av ?_;exact⟨hu.trans c9,rfl⟩
  rintro m O3 ⟨c9,h⟩;cases LF with
  | error e=>exact h.elim
  | ok y=>
  obtain⟨s,o⟩:=y;dsimp only at h;obtain⟨rfl,iL⟩:=h;have dR:=iL.2;simp only[aq]at dR;obtain⟨g1,g2,g3⟩:=eD (by omega) (ajk _) rfl;refine ab @av ?_;refine ah.rt (nZ iL) ?_;rintro _ O4 ⟨rfl,eO⟩;rw[eO];clear eO O4
  by_cases h5:t.length<=o
  ·rw[decide_eq_true h5];rw[if_pos h5];refine ao @av @dR ?_;refine ah.p (jc _ _ _) ?_ ?_
   ·rintro m O9 ⟨_,h⟩;exact h.elim
   rintro m O9 ⟨rfl,rfl⟩;refine ab @av ?_;exact⟨hu.trans c9,rfl⟩
  ·rw[decide_eq_false h5];rw[if_neg h5];refine ao @av @dR ?_;exact⟨(hu.trans c9).trans bz.set,rfl,by simpa[aq]using iL.set (t':=t) (off':=o+1) (X':=X)⟩
def mf (t:Bs):Nat->Nat->List (Bs×Bs)->Except (Int×Nat) (List (Bs×Bs)×Nat)
 | 0,o,l=>.ok (l,o)
 | n+1,o,l=>
   if kO t o=0\/t.length<=o+kO t o\/ey (t.drop (o+kO t o)) [47]=true\/ey (t.drop (o+kO t o)) [62]=true then .ok (l,o+kO t o)
   else match jJ t (o+kO t o) 10 with
    | .error e=>.error e
    | .ok (nm,o2)=>
      if l.any (·.1==nm)then .error (15,o+kO t o)
      else match jr t (o2+kO t o2) [61]with
       | .error e=>.error e
       | .ok (_,o4)=>match uR t (o4+kO t o4)with
         | .error e=>.error e
         | .ok (v,o6)=>mf t n o6 (l++[(nm,v)])
theorem jD (t:Bs) (o:Nat) (h:o<=t.length):o+kO t o<=t.length:=by
 unfold kO;have:=oT mF (t.drop o);rw[Qn]at this;omega
theorem gX {t:Bs} {o:Nat} {e:Int} {s:Bs} {o':Nat} (h:jJ t o e= .ok (s,o')):o<o'/\o'<=t.length/\s.length<=o' - o/\0<s.length:=by
 have uZ:=Da (t.drop o);rw[Qn]at uZ;unfold jJ at h;split at h
 ·cases h
 split at h
 ·cases h
 injection h with h;injection h with h1 h2
 subst h1;subst h2
 rw[ajo,Qn];omega
theorem lY {t:Bs} {o:Nat} {p:Bs} {y:Unit} {o':Nat} (h:jr t o p= .ok (y,o')):o'=o+p.length/\o'<=t.length/\o<t.length:=by
 unfold jr at h;split at h
 ·cases h
 split at h
 ·rename_i h2;injection h with h;injection h with h1 h3
  have:=ij h2;rw[Qn]at this;omega
 ·cases h
theorem Bi {t:Bs} {o:Nat} {s:Bs} {o':Nat} (h:uR t o= .ok (s,o')):o<o'/\o'<=t.length/\s.length<=o':=by
 unfold uR at h;split at h
 ·cases h
 rename_i q hq;have R7:=(Vq.1 hq).1;split at h
 ·cases h
 split at h
 ·cases h
 rename_i s2 o2 h2;split at h
 ·cases h
 injection h with h;injection h with h1 h3
 subst h1;subst h3
 have:=o9 _ _ _ (by omega) (by simp) h2;omega
theorem App.bH {O O1:VH} {B sz k:Nat} {tk:Tok} (h:App O B sz tk) (u:bz O (some k) O1) (hk:k<B):App O1 B sz tk:=by
 cases tk with
 | own t j=>
   obtain⟨h1,h2,h3,h4⟩:=h;exact⟨h1,(u.hp t h4 (by intro e;injection e;omega)).trans h2,h3,Ma h4 u.N⟩
 | nil=>trivial
 | full=>trivial
 | au=>exact h.elim
theorem Og {O:VH} {k off:Nat} {t:Bs} {X:MV} (h:Rd O k t off X) (ht:t.length<=1000000) (ho:off<=t.length):
  VF Tryz.prog 297 [.ptr k 0] O (TQ O k t X (mf t (t.length+1 - off) off []) fun y m=>∃tk,m= .sl y.length (y.flatMap bm) tk):=by
 refine υ 64 [.tmp 2] Tryz.func297 ?_;refine κ @av ?_;refine τ ?_;refine Γ [2] [0] (fun x:List (Bs×Bs)×Nat×Tok=>[.sl x.1.length (x.1.flatMap bm) x.2.2]) (fun x O'=>bz O (some k) O'/\Rd O' k t x.2.1 X/\App O' O.N 2 x.2.2/\x.2.1<=t.length/\x.1.length<=x.2.1/\∃n,t.length+1 - x.2.1<=n/\mf t (t.length+1 - off) off []=mf t n x.2.1 x.1) (fun x=>t.length - x.2.1) (([],off,.nil)) ?_ ?_
 ·exact⟨bz.refl _ _,h,trivial,ho,ajk _,_,ahO _,rfl⟩
 rintro⟨l,o,tk⟩ O2 ⟨c8,gu,cf,R7,AE,n,hn,he⟩;dsimp only at c8 gu cf R7 AE hn he ⊢;rw[he];obtain⟨n,rfl⟩:∃i,n=i+1:=⟨n - 1,by omega⟩
 have vZ:=jD t o R7;have hrb:=qR gu ht R7;rw[mf];generalize kO t o=kb at*;refine τ ?_;refine κ @av ?_;refine ah.p (hrb) ?_ ?_;rotate_left
 ·rintro m O9 ⟨_,h⟩;exact h.elim
 rintro m O3 ⟨c9,h9⟩;dsimp only at h9;obtain⟨rfl,iL⟩:=h9;have lu:App O3 O.N 2 tk:=App.bH cf c9 (by have:=h.1;omega);have Gd:=c8.trans c9;refine ab @av ?_;by_cases tO:kb=0
 ·subst tO;rw[if_pos (.inl rfl)];repeat refine g_ @av ?_
  exact⟨Gd,⟨tk,rfl⟩,iL⟩
 have akJ:((kb:Int)==0)=false:=by simpa using tO
 refine ξ @av @akJ ?_;refine ah.rt (nZ iL) ?_;rintro _ O4 ⟨rfl,eO⟩;rw[eO];clear eO O4
 by_cases Jd:t.length<=o+kb
 ·rw[if_pos (.inr (.inl Jd)),decide_eq_true Jd];repeat refine g_ @av ?_
  exact⟨Gd,⟨tk,rfl⟩,iL⟩
 rw[decide_eq_false Jd];refine ab @av ?_;refine ah.rt (qQ [47] iL (by omega)) ?_;rintro _ O4 ⟨rfl,eO⟩;rw[eO];clear eO O4
 cases XO:ey (t.drop (o+kb)) [47];rotate_left
 ·rw[if_pos (.inr (.inr (.inl rfl)))];repeat refine g_ @av ?_
  exact⟨Gd,⟨tk,rfl⟩,iL⟩
 refine ab @av ?_;refine ah.rt (qQ [62] iL (by omega)) ?_;rintro _ O4 ⟨rfl,eO⟩;rw[eO];clear eO O4
 cases h62:ey (t.drop (o+kb)) [62];rotate_left
 ·rw[if_pos (.inr (.inr (.inr rfl)))];repeat refine g_ @av ?_
  exact⟨Gd,⟨tk,rfl⟩,iL⟩
 rw[if_neg (by simp[tO,Jd])];have dR:=iL.2;simp only[aq]at dR;repeat refine qN @av @dR ?_
 have QD:=Bf 10 iL ht;have u_:= @gX t (o+kb) 10;generalize jJ t (o+kb) 10=NF at*;refine ah.p (QD) ?_ ?_;rotate_left
 ·rintro m O9 ⟨jA,h9⟩;cases NF with
  | ok y=>exact h9.elim
  | error e=>
    dsimp only at h9;subst h9;refine ab @av ?_;exact⟨bz.trans Gd jA,rfl⟩
 rintro m O4 ⟨fD,h9⟩;cases NF with
 | error e=>exact h9.elim
 | ok y9=>
 obtain⟨nm,o2⟩:=y9;dsimp only at h9;obtain⟨rfl,HS⟩:=h9;obtain⟨a1,a2,a3,a4⟩:=u_ rfl;have mJ:App O4 O.N 2 tk:=App.bH lu fD (by have:=h.1;omega);have abw:=Gd.trans fD;refine ab @av ?_;have tH:((l.flatMap bm).length)=l.length*2:=aV fK l;refine Θ [0,2,4,5] (fun _:Unit=>[.ptr k 0,.sl l.length (l.flatMap bm) tk,mi (o+kb:Nat),.str nm]) (fun _ O'=>O4.Ge O'/\l.any (·.1==nm)=false) ?_ ?_
 ·refine κ @av ?_;refine τ ?_;refine Γ [40] [0,2,4,5,38,39] (fun j:Nat=>[mi j]) (fun j O'=>O4.Ge O'/\j<=l.length/\l.any (·.1==nm)=(l.drop j).any (·.1==nm)) (fun j=>l.length - j) (0) ?_ ?_
  ·exact⟨VH.Ge.refl _,ajk _,rfl⟩
  rintro j O5 ⟨bD,hj,jY⟩;by_cases zy:j<l.length
  ·have bG:=ct fK l j zy;have R6:=ajs zy;rw[R6,List.any_cons]at jY;generalize l[j]=y at*;obtain⟨yn,yv⟩:=y;simp only[bm]at bG;refine κ @av ?_;refine κ @av ?_;refine χ (τ ?_);refine ξ @av @bG ?_;refine VC.al ?_;rintro O6 ⟨fi,nE,mU⟩;by_cases hy:yn=nm
   ·have e1:(yn==nm)=true:=beq_iff_eq.2 hy;simp only[e1,Bool.true_or]at jY;rw[jY,if_pos rfl];refine θ (aG @av @nE @e1 ?_);refine ν @av ?_;refine ah.p (jc _ _ _) ?_ ?_
    ·rintro m O9 ⟨_,h⟩;exact h.elim
    rintro m O9 ⟨rfl,rfl⟩;refine ab @av ?_;exact⟨abw.trans (bz.lp (bD.trans fi)).any,rfl⟩
   ·have e1:(yn==nm)=false:=by simpa using hy
    simp only[e1,Bool.false_or]at jY;refine θ (aG @av @nE @e1 ?_);refine ν @av ?_;refine ν @av ?_;exact az.N (j+1) ⟨bD.trans fi,zy,jY⟩
  ·obtain rfl:j=l.length:=by omega
   rw[List.drop_length,List.any_nil]at jY;refine κ @av ?_;refine ν @av ?_;exact aA.mk () ⟨bD,jY⟩
 rintro⟨⟩ O5 ⟨bD,jY⟩;rw[jY,if_neg (by simp)];have xZ:=HS.ge bD;have gJ:=mJ.ge bD;have Uk:=abw.trans (bz.lp bD).any;clear bD HS iL gu cf lu mJ c8 c9 fD Gd abw dR hrb;have amy:=jD t o2 a2;refine κ @av ?_;refine ah.p (qR xZ ht a2) ?_ ?_;rotate_left
 ·rintro m O9 ⟨_,h⟩;exact h.elim
 rintro m O6 ⟨r_,h9⟩;dsimp only at h9;obtain⟨rfl,n5⟩:=h9;have mH:App O6 O.N 2 tk:=App.bH gJ r_ (by have:=h.1;omega);have NT:=Uk.trans r_;repeat refine g_ @av ?_
 have hwk:= @lY t (o2+kO t o2) [61];have rC:=ui (X:=X) [61] n5 ht (by decide);generalize jr t (o2+kO t o2) [61]=WF at*;refine ah.p (rC) ?_ ?_;rotate_left
 ·rintro m O9 ⟨jA,h9⟩;cases WF with
  | ok y=>exact h9.elim
  | error e=>
    dsimp only at h9;subst h9;refine ab @av ?_;exact⟨bz.trans NT jA,rfl⟩
 rintro m O7 ⟨DP,h9⟩;cases WF with
 | error e=>exact h9.elim
 | ok y9=>
 obtain⟨y7,o4⟩:=y9;dsimp only at h9;obtain⟨rfl,KU⟩:=h9;obtain⟨b1,b2,b3⟩:=hwk rfl;have kD:App O7 O.N 2 tk:=App.bH mH DP (by have:=h.1;omega);have akK:=NT.trans DP;have amz:=jD t o4 b2;repeat refine g_ @av ?_
 refine ah.p (qR KU ht b2) ?_ ?_;rotate_left
 ·rintro m O9 ⟨_,h⟩;exact h.elim
 rintro m O8 ⟨rB,h9⟩;dsimp only at h9;obtain⟨rfl,hr8⟩:=h9;have Dg:App O8 O.N 2 tk:=App.bH kD rB (by have:=h.1;omega);have agJ:=akK.trans rB;repeat refine g_ @av ?_
 have hvk:= @Bi t (o4+kO t o4);have hvv:=abv hr8 ht;generalize uR t (o4+kO t o4)=VF at*;refine ah.p (hvv) ?_ ?_;rotate_left
 ·rintro m O9 ⟨jA,h9⟩;cases VF with
  | ok y=>exact h9.elim
  | error e=>
    dsimp only at h9;subst h9;refine ab @av ?_;exact⟨bz.trans agJ jA,rfl⟩
 rintro m OA ⟨huA,h9⟩;cases VF with
 | error e=>exact h9.elim
 | ok y9=>
 obtain⟨v,o6⟩:=y9;dsimp only at h9;obtain⟨rfl,hrA⟩:=h9;obtain⟨c1,c2,c3⟩:=hvk rfl;have abx:App OA O.N 2 tk:=App.bH Dg huA (by have:=h.1;omega);have Uv:=agJ.trans huA;repeat refine g_ @av ?_
 have akL:=aR (tk':=.full) (n:=l.length) (k:=1) (cs:=l.flatMap bm) (ds:=[.str nm,.str v]) T90 ags.1.1 abx tH rfl rfl (by decide) (by decide) (by omega) (by simp only[maxLen];omega);refine VL.app akL ?_;repeat refine g_ @av ?_
 have il:=b_.after abx;have hne:∀i,i<O.N->Tok.id tk≠some i:=fun i hi e=>by have:=(abx.nD e).1;omega
 refine az.N (l++[(nm,v)],o6,.own OA.N 2) ⟨⟨ahL Uv.N il.N,fun i hi hk=>(il.hp i (Ma hi Uv.N) (hne i hi)).trans (Uv.hp i hi hk)⟩,⟨Ma hrA.1 il.N,(il.hp k hrA.1 (hne k h.1)).trans hrA.2⟩,App.after Uv.N,c2,?_,n,?_,rfl⟩ (hl:=?_) (hm:=?_)
 ·dsimp only;rw[Qm,List.length_singleton];omega
 ·dsimp only;omega
 ·dsimp only;rw[am7,Qm];rfl
 ·dsimp only;omega
structure Tk where
 kind:Int
 name:Bs
 attrs:List (Bs×Bs)
 text:Bs
 off:Nat
def zG (x:Tk):List MV:=[mi x.kind,.str x.name,.sl x.attrs.length (x.attrs.flatMap bm) .au,.str x.text,mi x.off,mi 0,mi 0]
theorem Gf (x:Tk):(zG x).length=7:=rfl
structure UB (B k:Nat) (O O':VH):Prop where
 N:O.N<=O'.N
 hp:∀i,i<B->i≠k->O'.hp i=O.hp i
theorem UB.refl (B k:Nat) (O:VH):UB B k O O:=⟨ahO _,fun _ _ _=>rfl⟩
theorem UB.bH {B k:Nat} {O O1 O2:VH} (h:UB B k O O1) (u:bz O1 (some k) O2) (hB:B<=O1.N):UB B k O O2:=
 ⟨ahL h.N u.N,fun i hi hk=>(u.hp i (Ma hi hB) (by intro e;injection e;omega)).trans (h.hp i hi hk)⟩
theorem UB.ge {B k:Nat} {O O1 O2:VH} (h:UB B k O O1) (u:O1.Ge O2) (hB:B<=O1.N):UB B k O O2:=
 ⟨ahL h.N u.N,fun i hi hk=>(u.hp i (Ma hi hB)).trans (h.hp i hi hk)⟩
theorem UB.set {B k b:Nat} {O O1:VH} {x:cg} (h:UB B k O O1) (hb:B<=b\/b=k):UB B k O (O1.set b x):=
 ⟨h.N,fun i hi hk=>ω (h.hp i hi hk)⟩
theorem UB.trans {B k:Nat} {O O1 O2:VH} (h:UB B k O O1) (u:UB B k O1 O2):UB B k O O2:=⟨ahL h.N u.N,fun i hi hk=>(u.hp i hi hk).trans (h.hp i hi hk)⟩
theorem Rd.other {O:VH} {k b off:Nat} {t:Bs} {X:MV} {x:cg} (h:Rd O k t off X) (hb:b≠k):Rd (O.set b x) k t off X:=⟨h.1,(π _ _ (fun e=>hb e.symm)).trans h.2⟩
def uS {α β :Type} (f: α -> β):Except (Int×Nat) (α ×Nat)->Except (Int×Nat) (β ×Nat)
 | .error e=>.error e
 | .ok (x,o)=>.ok (f x,o)
def rO (t:Bs) (off:Nat):Except (Int×Nat) (Tk×Nat):=match jJ t (off+2) 11 with
 | .error e=>.error e
 | .ok (nm,o2)=>uS (fun _=>⟨3,nm,[],[],off⟩) (jr t (o2+kO t o2) [62])
def wq (t:Bs) (off:Nat):Except (Int×Nat) (Tk×Nat):=match jJ t (off+1) 11 with
 | .error e=>.error e
 | .ok (nm,o2)=>match mf t (t.length+1 - o2) o2 []with
   | .error e=>.error e
   | .ok (l,o3)=>if ey (t.drop o3) [47]then uS (fun _=>⟨2,nm,l,[],off⟩) (jr t (o3+1) [62])else uS (fun _=>⟨1,nm,l,[],off⟩) (jr t o3 [62])
def nq (t:Bs) (off:Nat):Except (Int×Nat) (Tk×Nat):=
 if ey (t.drop off) [60,33,45,45]then uS (fun s=>⟨5,[],[],s,off⟩) (jC t (off+List.length [(60:UInt8),33,45,45]) [45,45,62])
 else if ey (t.drop off) [60,33,91,67,68,65,84,65,91]then uS (fun s=>⟨4,[],[],s,off⟩) (jC t (off+List.length [(60:UInt8),33,91,67,68,65,84,65,91]) [93,93,62])
 else if off=0/\se (t.drop off)=true then uS (fun s=>⟨6,[],[],s,off⟩) (jC t (off+List.length [(60:UInt8),63,120,109,108]) [63,62])
 else if ey (t.drop off) [60,47]then rO t off
 else if ey (t.drop off) [60]then wq t off
 else uS (fun s=>⟨4,[],[],s,off⟩) (fe t 60 (t.length+1 - off) off [])
structure TJ (O:VH) (B k n:Nat) (t:Bs) (p:MV) (L:List MV) (o:Nat) (O':VH):Prop where
 ub:UB B k O O'
 rd:Rd O' k t o p
 row:GR O' 163 7 B p n L
 lt:O.N<O'.N
theorem TJ.set {O O':VH} {B k n o:Nat} {t:Bs} {p:MV} {L cs:List MV} {x:cg} (h:TJ O B k n t p L o O') (hb:O'.hp O.N=some (.cells cs)) (hp:gid p≠some O.N) (h_:k<B) (hB:B<=O.N):TJ O B k n t p L o (O'.set O.N x):=
 ⟨h.ub.set (.inl hB),h.rd.other (by omega),h.row.qu bz.set hp (fun _ _ _ e=>by rw[hb]at e;cases e),h.lt⟩
theorem TJ.bH {O OX OY:VH} {B k n o o2:Nat} {t:Bs} {p:MV} {L:List MV} (h:TJ O B k n t p L o OX) (u:bz OX (some k) OY) (hr:Rd OY k t o2 p) (hp:gid p≠some k) (hB:B<=O.N):TJ O B k n t p L o2 OY:=
 ⟨h.ub.bH u (by have:=h.lt;omega),hr,h.row.qu u hp (fun _ _ _ e=>by rw[h.rd.2]at e;cases e),Ma h.lt u.N⟩
theorem TJ.pn {O OX OY:VH} {B k n o:Nat} {t:Bs} {p:MV} {L:List MV} (h:TJ O B k n t p L o OX) (u:bz OX (some k) OY) (hB:B<=O.N):UB B k O OY:=h.ub.bH u (by have:=h.lt;omega)
theorem TJ.at {O OX OY:VH} {B k n o:Nat} {t:Bs} {p:MV} {L cs:List MV} (h:TJ O B k n t p L o OX) (u:bz OX (some k) OY) (h_:k<B) (hB:B<=O.N) (hb:OX.hp O.N=some (.cells cs)):OY.hp O.N=some (.cells cs):=
 (u.hp _ h.lt (by intro e;injection e;omega)).trans hb
section
variable {P:Program} {n:Sz} {D:List Deferred} {c:Code} {e:Env} {O:VH} {Q:VQ} {md:Md} {d:Option Tmp} {K:Env->VH->Prop} {fv:Option MV} {ms:Option (List MV)} {b k:Nat} {x y:cg}
theorem ah.s1 (h:∀O3,O3=O.set b x->ah P n md Q d O3 K e fv ms):ah P n md Q d (O.set b x) K e fv ms:=h _ rfl
theorem ah.s2 (h:∀O3,O3=(O.set b x).set k y->ah P n md Q d O3 K e fv ms):ah P n md Q d ((O.set b x).set k y) K e fv ms:=h _ rfl
end
theorem wv {t:Bs}:∀(n o:Nat) (l:List (Bs×Bs)) {l':List (Bs×Bs)} {o':Nat},o<=t.length->mf t n o l= .ok (l',o')->o<=o'/\o'<=t.length
 | 0,o,l,l',o',ho,h=>by
   rw[mf]at h;injection h with h;injection h with h1 h2
   omega
 | n+1,o,l,l',o',ho,h=>by
   have vZ:=jD t o ho;rw[mf]at h;split at h
   ·injection h with h;injection h with h1 h2
    omega
   split at h
   ·cases h
   rename_i nm o2 h2;have hn:=gX h2;have cJ:=jD t o2 (by omega);split at h
   ·cases h
   split at h
   ·cases h
   rename_i y4 o4 h4;have hw:=lY h4;have dd:=jD t o4 (by omega);split at h
   ·cases h
   rename_i v o6 h6;have hv:=Bi h6;have:=wv n o6 _ (by omega) h;omega
set_option maxHeartbeats 800000 in
theorem aby {O:VH} {k off B n:Nat} {t:Bs} {p:MV} {L:List MV} (h:Rd O k t off p) (ht:t.length<=1000000) (ho:off<=t.length) (h_:k<B) (hB:B<=O.N) (c6:GR O 163 7 B p n L) (hn:n<=1000000):
  VF Tryz.prog 276 [.ptr k 0] O fun r O'=>UB B k O O'/\match r,nq t off with
   | .ret m,.ok (x,o')=>m= .tuple []/\∃p',Rd O' k t o' p'/\GR O' 163 7 B p' (n+1) (L++zG x)
   | .panic m,.error e=>m=Be e.1 e.2
   | _,_=>False:=by
 have hk:=h.2;simp only[aq]at hk
 have kZ:gid p≠some k:=fun e=>by
  rcases c6 with⟨_,_,hp | hp⟩ | ⟨k2,c,hp,_,_,jT⟩
  ·rw[hp]at e;cases e
  ·rw[hp]at e;cases e
  ·rw[hp]at e;injection e with e;have:=jT.lo;omega
 refine υ 116 [] Tryz.func276 ?_;refine ξ @av @hk ?_;refine VC.al ?_;rintro O1 ⟨aI,cD,cW⟩;have kA:=h.ge aI;have aiw:=c6.zm (bz.lp aI);have cA:=kA.2;simp only[aq]at cA;have sF:UB B k O O1:=(UB.refl B k O).ge aI hB
 have oJ:gid p≠some O.N:=fun e=>by
  rcases c6 with⟨_,_,hp | hp⟩ | ⟨k2,c,hp,_,_,jT⟩
  ·rw[hp]at e;cases e
  ·rw[hp]at e;cases e
  ·rw[hp]at e;injection e with e;have:=jT.hi;omega
 have hJ:∀{O3:VH} {o:Nat},bz O1 (some k) O3->Rd O3 k t o p->TJ O B k n t p L o O3:=fun{O3 o} u hr=>
  ⟨sF.bH u (by omega),hr,aiw.qu u kZ (fun _ _ _ e=>by rw[kA.2]at e;cases e),by have:=u.N;omega⟩
 refine Θ [0,2] (fun x:Tk×Nat=>[.ptr k 0,.ptr O.N 0]) (fun x O'=>TJ O B k n t p L x.2 O'/\nq t off= .ok x/\∃att,O'.hp O.N=some (.cells [mi x.1.kind,.str x.1.name,att,.str x.1.text,mi x.1.off,mi 0,mi 0])/\au att= .sl x.1.attrs.length (x.1.attrs.flatMap bm) .au/\ec att=true) ?_ ?_
 ·refine τ ?_;unfold nq;refine κ @av ?_;refine ah.rt (qQ [60,33,45,45] kA ho) ?_;rintro _ O2 ⟨rfl,eO⟩;rw[eO];clear eO O2
  cases hp:ey (t.drop off) [60,33,45,45];rotate_left
  ·rw[if_pos rfl];have hle:=ij hp;have huv:=Gb (X:=p) [60,33,45,45] [45,45,62] kA ht (by decide) (by rw[Qn]at hle;omega);generalize jC t (off+List.length [60,33,45,45]) [45,45,62]=F at*;repeat refine g_ @av ?_
   refine ah.p (huv) ?_ ?_;rotate_left
   ·rintro m O9 ⟨jA,h9⟩;cases F with
    | ok y=>exact h9.elim
    | error e=>
      dsimp only at h9;subst h9;repeat refine g_ @av ?_
      exact⟨UB.bH sF (bz.trans (bz.refl _ _) jA) (by omega),rfl⟩
   rintro m O3 ⟨c9,h9⟩;cases F with
   | error e=>exact h9.elim
   | ok y9=>
   obtain⟨s,o2⟩:=y9;dsimp only at h9;obtain⟨rfl,iL⟩:=h9;have cB:=(c9.hp _ (by omega) (by intro e;injection e;omega)).trans cD;repeat refine qN @av @cB ?_
   exact aA.mk (⟨5,[],[],s,off⟩,o2) ⟨((hJ c9 iL).set cB oJ h_ hB).set (ρ _ _ _) oJ h_ hB,rfl,.sl 0 [] .nil,ρ _ _ _,by simp only[wu];rfl,rfl⟩
  rw[if_neg (by simp)];repeat refine g_ @av ?_
  refine ah.rt (qQ [60,33,91,67,68,65,84,65,91] kA ho) ?_;rintro _ O2 ⟨rfl,eO⟩;rw[eO];clear eO O2
  clear hp;cases hp:ey (t.drop off) [60,33,91,67,68,65,84,65,91];rotate_left
  ·rw[if_pos rfl];have hle:=ij hp;have huv:=Gb (X:=p) [60,33,91,67,68,65,84,65,91] [93,93,62] kA ht (by decide) (by rw[Qn]at hle;omega);generalize jC t (off+List.length [60,33,91,67,68,65,84,65,91]) [93,93,62]=F at*;repeat refine g_ @av ?_
   refine ah.p (huv) ?_ ?_;rotate_left
   ·rintro m O9 ⟨jA,h9⟩;cases F with
    | ok y=>exact h9.elim
    | error e=>
      dsimp only at h9;subst h9;repeat refine g_ @av ?_
      exact⟨UB.bH sF (bz.trans (bz.refl _ _) jA) (by omega),rfl⟩
   rintro m O3 ⟨c9,h9⟩;cases F with
   | error e=>exact h9.elim
   | ok y9=>
   obtain⟨s,o2⟩:=y9;dsimp only at h9;obtain⟨rfl,iL⟩:=h9;have cB:=(c9.hp _ (by omega) (by intro e;injection e;omega)).trans cD;repeat refine qN @av @cB ?_
   exact aA.mk (⟨4,[],[],s,off⟩,o2) ⟨((hJ c9 iL).set cB oJ h_ hB).set (ρ _ _ _) oJ h_ hB,rfl,.sl 0 [] .nil,ρ _ _ _,by simp only[wu];rfl,rfl⟩
  rw[if_neg (by simp)];clear hp;by_cases h0:off=0;rotate_left
  ·rw[if_neg (fun h=>h0 h.1)];have h0i:((off:Int)==0)=false:=by simpa using h0
   repeat refine kg3 @av @cA @h0i ?_
   refine ah.rt (qQ [60,47] kA ho) ?_;rintro _ O2 ⟨rfl,eO⟩;rw[eO];clear eO O2
   cases hp:ey (t.drop off) [60,47];rotate_left
   ·rw[if_pos rfl];unfold rO;have hle:=ij hp;simp only[Qn,zP,Zj]at hle;repeat refine qN @av @cA ?_
    have gu:Rd (O1.set k (.cells [.str t,mi (off+2:Nat),p])) k t (off+2) p:=kA.set;have c8:bz O1 (some k) (O1.set k (.cells [.str t,mi (off+2:Nat),p])):=bz.set;have ly:((off:Int)+2)=((off+2:Nat):Int):=by omega
    simp only[aq, <-ly]at gu c8;generalize O1.set k (.cells [.str t,.v (.int .i64 ((off:Int)+2)),p])=O2 at*;repeat refine g_ @av ?_
    have DR:=Bf 11 gu ht;have u_:= @gX t (off+2) 11;generalize jJ t (off+2) 11=F at*;refine ah.p (DR) ?_ ?_;rotate_left
    ·rintro m O9 ⟨jA,h9⟩;cases F with
     | ok y=>exact h9.elim
     | error e=>
       dsimp only at h9;subst h9;repeat refine g_ @av ?_
       exact⟨UB.bH sF (bz.trans c8 jA) (by omega),rfl⟩
    rintro m O3 ⟨c9,h9⟩;cases F with
    | error e=>exact h9.elim
    | ok y9=>
    obtain⟨s,o2⟩:=y9;dsimp only at h9;obtain⟨rfl,iL⟩:=h9;have uT:=c8.trans c9;obtain⟨a1,a2,a3,a4⟩:=u_ rfl;have cB:=(uT.hp _ (by omega) (by intro e;injection e;omega)).trans cD;repeat refine qN @av @cB ?_
    refine ah.s2 ?_;rintro O4 qb;have wA:TJ O B k n t p L o2 O4:=by rw[qb];exact((hJ uT iL).set cB oJ h_ hB).set (ρ _ _ _) oJ h_ hB
    have dd:O4.hp O.N=some (.cells [mi 3,.str s,.sl 0 [] .nil,.str [],mi off,mi 0,mi 0]):=by rw[qb];exact ρ _ _ _
    clear qb;have vZ:=jD t o2 a2;refine ah.p (qR wA.rd ht a2) ?_ ?_;rotate_left
    ·rintro m O9 ⟨_,h⟩;exact h.elim
    rintro m O5 ⟨rA,h9⟩;dsimp only at h9;obtain⟨rfl,xZ⟩:=h9;have uj:=wA.bH rA xZ kZ hB;have du:=wA.at rA h_ hB dd;repeat refine g_ @av ?_
    have rC:=ui (X:=p) [62] xZ ht (by decide);generalize jr t (o2+kO t o2) [62]=W at*;refine ah.p (rC) ?_ ?_;rotate_left
    ·rintro m O9 ⟨jA,h9⟩;cases W with
     | ok y=>exact h9.elim
     | error e=>
       dsimp only at h9;subst h9;repeat refine g_ @av ?_
       exact⟨TJ.pn uj jA hB,rfl⟩
    rintro m O6 ⟨r_,h9⟩;cases W with
    | error e=>exact h9.elim
    | ok y9=>
    obtain⟨y6,o4⟩:=y9;dsimp only at h9;obtain⟨rfl,n5⟩:=h9;have jz:=uj.at r_ h_ hB du;repeat refine g_ @av ?_
    exact aA.mk (⟨3,s,[],[],off⟩,o4) ⟨uj.bH r_ n5 kZ hB,rfl,.sl 0 [] .nil,jz,by simp only[wu];rfl,rfl⟩
   rw[if_neg (by simp)];clear hp;repeat refine g_ @av ?_
   refine ah.rt (qQ [60] kA ho) ?_;rintro _ O2 ⟨rfl,eO⟩;rw[eO];clear eO O2
   cases hp:ey (t.drop off) [60];rotate_left
   ·rw[if_pos rfl];unfold wq;have hle:=ij hp;simp only[Qn,zP,Zj]at hle;repeat refine qN @av @cA ?_
    have gu:Rd (O1.set k (.cells [.str t,mi (off+1:Nat),p])) k t (off+1) p:=kA.set;have c8:bz O1 (some k) (O1.set k (.cells [.str t,mi (off+1:Nat),p])):=bz.set;have ly:((off:Int)+1)=((off+1:Nat):Int):=by omega
    simp only[aq, <-ly]at gu c8;generalize O1.set k (.cells [.str t,.v (.int .i64 ((off:Int)+1)),p])=O2 at*;repeat refine g_ @av ?_
    have DR:=Bf 11 gu ht;have u_:= @gX t (off+1) 11;generalize jJ t (off+1) 11=F at*;refine ah.p (DR) ?_ ?_;rotate_left
    ·rintro m O9 ⟨jA,h9⟩;cases F with
     | ok y=>exact h9.elim
     | error e=>
       dsimp only at h9;subst h9;repeat refine g_ @av ?_
       exact⟨UB.bH sF (bz.trans c8 jA) (by omega),rfl⟩
    rintro m O3 ⟨c9,h9⟩;cases F with
    | error e=>exact h9.elim
    | ok y9=>
    obtain⟨s,o2⟩:=y9;dsimp only at h9;obtain⟨rfl,iL⟩:=h9;have uT:=c8.trans c9;obtain⟨a1,a2,a3,a4⟩:=u_ rfl;have cB:=(uT.hp _ (by omega) (by intro e;injection e;omega)).trans cD;repeat refine qN @av @cB ?_
    refine ah.s1 ?_;rintro O4 qb;have wA:TJ O B k n t p L o2 O4:=by rw[qb];exact(hJ uT iL).set cB oJ h_ hB
    have dd:O4.hp O.N=some (.cells [mi 0,.str s,.sl 0 [] .nil,.str [],mi off,mi 0,mi 0]):=by rw[qb];exact ρ _ _ _
    clear qb;have XP:=Og wA.rd ht a2;have XQ:= @wv t (t.length+1 - o2) o2 [];generalize mf t (t.length+1 - o2) o2 []=A at*;refine ah.p (XP) ?_ ?_;rotate_left
    ·rintro m O9 ⟨jA,h9⟩;cases A with
     | ok y=>exact h9.elim
     | error e=>
       dsimp only at h9;subst h9;repeat refine g_ @av ?_
       exact⟨wA.pn jA hB,rfl⟩
    rintro m O5 ⟨rA,h9⟩;cases A with
    | error e=>exact h9.elim
    | ok y9=>
    obtain⟨l,o3⟩:=y9;dsimp only at h9;obtain⟨⟨tk,rfl⟩,xZ⟩:=h9;obtain⟨c1,c2⟩:=XQ a2 rfl;have uj:=wA.bH rA xZ kZ hB;have du:=wA.at rA h_ hB dd;simp only[aq]at du;repeat refine qN @av @du ?_
    refine ah.s2 ?_;rintro O6 Ck;have zH:TJ O B k n t p L o3 O6:=by rw[Ck];exact(uj.set du oJ h_ hB).set (ρ _ _ _) oJ h_ hB
    have jz:O6.hp O.N=some (.cells [mi 1,.str s,.sl l.length (l.flatMap bm) tk,.str [],mi off,mi 0,mi 0]):=by rw[Ck];exact ρ _ _ _
    clear Ck;have p9:=zH.rd.2;simp only[aq]at jz p9;refine ah.rt (qQ [47] zH.rd c2) ?_;rintro _ O7 ⟨rfl,eO⟩;rw[eO];clear eO O7
    cases XO:ey (t.drop o3) [47]
    ·rw[if_neg (by simp)];repeat refine g_ @av ?_
     have rC:=ui (X:=p) [62] zH.rd ht (by decide);generalize jr t o3 [62]=W at*;refine ah.p (rC) ?_ ?_;rotate_left
     ·rintro m O9 ⟨jA,h9⟩;cases W with
      | ok y=>exact h9.elim
      | error e=>
        dsimp only at h9;subst h9;repeat refine g_ @av ?_
        exact⟨TJ.pn zH jA hB,rfl⟩
     rintro m O7 ⟨DP,h9⟩;cases W with
     | error e=>exact h9.elim
     | ok y9=>
     obtain⟨y7,o4⟩:=y9;dsimp only at h9;obtain⟨rfl,KU⟩:=h9;have zD:=zH.at DP h_ hB jz;repeat refine g_ @av ?_
     exact aA.mk (⟨1,s,l,[],off⟩,o4) ⟨zH.bH DP KU kZ hB,rfl,.sl l.length (l.flatMap bm) tk,zD,by simp only[wu,gH],rfl⟩
    ·rw[if_pos rfl];have Um:=ij XO;simp only[Qn,zP,Zj]at Um;have abz:=fun x:cg=>(π O6 (k:=O.N) (j:=k) x (by omega)).trans p9
     repeat refine kg4 @av @jz @p9 @abz ?_
     refine ah.s2 ?_;rintro O7 qU;have fy:((o3:Int)+1)=((o3+1:Nat):Int):=by omega
     rw[fy]at qU;have HT:=zH.set (x:=.cells [.v (.int .i64 2),.str s,.sl l.length (l.flatMap bm) tk,.str [],.v (.int .i64 off),.v (.int .i64 0),.v (.int .i64 0)]) jz oJ h_ hB;have KV:TJ O B k n t p L (o3+1) O7:=by rw[qU];exact HT.bH bz.set (Rd.set HT.rd) kZ hB
     have zD:O7.hp O.N=some (.cells [mi 2,.str s,.sl l.length (l.flatMap bm) tk,.str [],mi off,mi 0,mi 0]):=by rw[qU];exact ω (ρ _ _ _)
     clear qU HT;have rC:=ui (X:=p) [62] KV.rd ht (by decide);generalize jr t (o3+1) [62]=W at*;refine ah.p (rC) ?_ ?_;rotate_left
     ·rintro m O9 ⟨jA,h9⟩;cases W with
      | ok y=>exact h9.elim
      | error e=>
        dsimp only at h9;subst h9;repeat refine g_ @av ?_
        exact⟨TJ.pn KV jA hB,rfl⟩
     rintro m O8 ⟨rB,h9⟩;cases W with
     | error e=>exact h9.elim
     | ok y9=>
     obtain⟨y8,o4⟩:=y9;dsimp only at h9;obtain⟨rfl,hr8⟩:=h9;have t_:=KV.at rB h_ hB zD;repeat refine g_ @av ?_
     exact aA.mk (⟨2,s,l,[],off⟩,o4) ⟨KV.bH rB hr8 kZ hB,rfl,.sl l.length (l.flatMap bm) tk,t_,by simp only[wu,gH],rfl⟩
   rw[if_neg (by simp)];clear hp;repeat refine g_ @av ?_
   have kK:=zF (X:=p) 60 kA ht ho;generalize fe t 60 (t.length+1 - off) off []=F at*;refine ah.p (kK) ?_ ?_;rotate_left
   ·rintro m O9 ⟨jA,h9⟩;cases F with
    | ok y=>exact h9.elim
    | error e=>
      dsimp only at h9;subst h9;repeat refine g_ @av ?_
      exact⟨UB.bH sF (bz.trans (bz.refl _ _) jA) (by omega),rfl⟩
   rintro m O3 ⟨c9,h9⟩;cases F with
   | error e=>exact h9.elim
   | ok y9=>
   obtain⟨s,o2⟩:=y9;dsimp only at h9;obtain⟨rfl,iL⟩:=h9;have cB:=(c9.hp _ (by omega) (by intro e;injection e;omega)).trans cD;repeat refine qN @av @cB ?_
   exact aA.mk (⟨4,[],[],s,off⟩,o2) ⟨((hJ c9 iL).set cB oJ h_ hB).set (ρ _ _ _) oJ h_ hB,rfl,.sl 0 [] .nil,ρ _ _ _,by simp only[wu];rfl,rfl⟩
  have h0i:((off:Int)==0)=true:=by simpa using h0
  repeat refine kg3 @av @cA @h0i ?_
  refine ah.rt (XH kA ht ho) ?_;rintro _ O2 ⟨rfl,eO⟩;rw[eO];clear eO O2
  cases hhd:se (t.drop off)
  ·rw[if_neg (fun h=>by cases h.2)];repeat refine g_ @av ?_
   refine ah.rt (qQ [60,47] kA ho) ?_;rintro _ O2 ⟨rfl,eO⟩;rw[eO];clear eO O2
   cases hp:ey (t.drop off) [60,47];rotate_left
   ·rw[if_pos rfl];unfold rO;have hle:=ij hp;simp only[Qn,zP,Zj]at hle;repeat refine qN @av @cA ?_
    have gu:Rd (O1.set k (.cells [.str t,mi (off+2:Nat),p])) k t (off+2) p:=kA.set;have c8:bz O1 (some k) (O1.set k (.cells [.str t,mi (off+2:Nat),p])):=bz.set;have ly:((off:Int)+2)=((off+2:Nat):Int):=by omega
    simp only[aq, <-ly]at gu c8;generalize O1.set k (.cells [.str t,.v (.int .i64 ((off:Int)+2)),p])=O2 at*;repeat refine g_ @av ?_
    have DR:=Bf 11 gu ht;have u_:= @gX t (off+2) 11;generalize jJ t (off+2) 11=F at*;refine ah.p (DR) ?_ ?_;rotate_left
    ·rintro m O9 ⟨jA,h9⟩;cases F with
     | ok y=>exact h9.elim
     | error e=>
       dsimp only at h9;subst h9;repeat refine g_ @av ?_
       exact⟨UB.bH sF (bz.trans c8 jA) (by omega),rfl⟩
    rintro m O3 ⟨c9,h9⟩;cases F with
    | error e=>exact h9.elim
    | ok y9=>
    obtain⟨s,o2⟩:=y9;dsimp only at h9;obtain⟨rfl,iL⟩:=h9;have uT:=c8.trans c9;obtain⟨a1,a2,a3,a4⟩:=u_ rfl;have cB:=(uT.hp _ (by omega) (by intro e;injection e;omega)).trans cD;repeat refine qN @av @cB ?_
    refine ah.s2 ?_;rintro O4 qb;have wA:TJ O B k n t p L o2 O4:=by rw[qb];exact((hJ uT iL).set cB oJ h_ hB).set (ρ _ _ _) oJ h_ hB
    have dd:O4.hp O.N=some (.cells [mi 3,.str s,.sl 0 [] .nil,.str [],mi off,mi 0,mi 0]):=by rw[qb];exact ρ _ _ _
    clear qb;have vZ:=jD t o2 a2;refine ah.p (qR wA.rd ht a2) ?_ ?_;rotate_left
    ·rintro m O9 ⟨_,h⟩;exact h.elim
    rintro m O5 ⟨rA,h9⟩;dsimp only at h9;obtain⟨rfl,xZ⟩:=h9;have uj:=wA.bH rA xZ kZ hB;have du:=wA.at rA h_ hB dd;repeat refine g_ @av ?_
    have rC:=ui (X:=p) [62] xZ ht (by decide);generalize jr t (o2+kO t o2) [62]=W at*;refine ah.p (rC) ?_ ?_;rotate_left
    ·rintro m O9 ⟨jA,h9⟩;cases W with
     | ok y=>exact h9.elim
     | error e=>
       dsimp only at h9;subst h9;repeat refine g_ @av ?_
       exact⟨TJ.pn uj jA hB,rfl⟩
    rintro m O6 ⟨r_,h9⟩;cases W with
    | error e=>exact h9.elim
    | ok y9=>
    obtain⟨y6,o4⟩:=y9;dsimp only at h9;obtain⟨rfl,n5⟩:=h9;have jz:=uj.at r_ h_ hB du;repeat refine g_ @av ?_
    exact aA.mk (⟨3,s,[],[],off⟩,o4) ⟨uj.bH r_ n5 kZ hB,rfl,.sl 0 [] .nil,jz,by simp only[wu];rfl,rfl⟩
   rw[if_neg (by simp)];clear hp;repeat refine g_ @av ?_
   refine ah.rt (qQ [60] kA ho) ?_;rintro _ O2 ⟨rfl,eO⟩;rw[eO];clear eO O2
   cases hp:ey (t.drop off) [60];rotate_left
   ·rw[if_pos rfl];unfold wq;have hle:=ij hp;simp only[Qn,zP,Zj]at hle;repeat refine qN @av @cA ?_
    have gu:Rd (O1.set k (.cells [.str t,mi (off+1:Nat),p])) k t (off+1) p:=kA.set;have c8:bz O1 (some k) (O1.set k (.cells [.str t,mi (off+1:Nat),p])):=bz.set;have ly:((off:Int)+1)=((off+1:Nat):Int):=by omega
    simp only[aq, <-ly]at gu c8;generalize O1.set k (.cells [.str t,.v (.int .i64 ((off:Int)+1)),p])=O2 at*;repeat refine g_ @av ?_
    have DR:=Bf 11 gu ht;have u_:= @gX t (off+1) 11;generalize jJ t (off+1) 11=F at*;refine ah.p (DR) ?_ ?_;rotate_left
    ·rintro m O9 ⟨jA,h9⟩;cases F with
     | ok y=>exact h9.elim
     | error e=>
       dsimp only at h9;subst h9;repeat refine g_ @av ?_
       exact⟨UB.bH sF (bz.trans c8 jA) (by omega),rfl⟩
    rintro m O3 ⟨c9,h9⟩;cases F with
    | error e=>exact h9.elim
    | ok y9=>
    obtain⟨s,o2⟩:=y9;dsimp only at h9;obtain⟨rfl,iL⟩:=h9;have uT:=c8.trans c9;obtain⟨a1,a2,a3,a4⟩:=u_ rfl;have cB:=(uT.hp _ (by omega) (by intro e;injection e;omega)).trans cD;repeat refine qN @av @cB ?_
    refine ah.s1 ?_;rintro O4 qb;have wA:TJ O B k n t p L o2 O4:=by rw[qb];exact(hJ uT iL).set cB oJ h_ hB
    have dd:O4.hp O.N=some (.cells [mi 0,.str s,.sl 0 [] .nil,.str [],mi off,mi 0,mi 0]):=by rw[qb];exact ρ _ _ _
    clear qb;have XP:=Og wA.rd ht a2;have XQ:= @wv t (t.length+1 - o2) o2 [];generalize mf t (t.length+1 - o2) o2 []=A at*;refine ah.p (XP) ?_ ?_;rotate_left
    ·rintro m O9 ⟨jA,h9⟩;cases A with
     | ok y=>exact h9.elim
     | error e=>
       dsimp only at h9;subst h9;repeat refine g_ @av ?_
       exact⟨wA.pn jA hB,rfl⟩
    rintro m O5 ⟨rA,h9⟩;cases A with
    | error e=>exact h9.elim
    | ok y9=>
    obtain⟨l,o3⟩:=y9;dsimp only at h9;obtain⟨⟨tk,rfl⟩,xZ⟩:=h9;obtain⟨c1,c2⟩:=XQ a2 rfl;have uj:=wA.bH rA xZ kZ hB;have du:=wA.at rA h_ hB dd;simp only[aq]at du;repeat refine qN @av @du ?_
    refine ah.s2 ?_;rintro O6 Ck;have zH:TJ O B k n t p L o3 O6:=by rw[Ck];exact(uj.set du oJ h_ hB).set (ρ _ _ _) oJ h_ hB
    have jz:O6.hp O.N=some (.cells [mi 1,.str s,.sl l.length (l.flatMap bm) tk,.str [],mi off,mi 0,mi 0]):=by rw[Ck];exact ρ _ _ _
    clear Ck;have p9:=zH.rd.2;simp only[aq]at jz p9;refine ah.rt (qQ [47] zH.rd c2) ?_;rintro _ O7 ⟨rfl,eO⟩;rw[eO];clear eO O7
    cases XO:ey (t.drop o3) [47]
    ·rw[if_neg (by simp)];repeat refine g_ @av ?_
     have rC:=ui (X:=p) [62] zH.rd ht (by decide);generalize jr t o3 [62]=W at*;refine ah.p (rC) ?_ ?_;rotate_left
     ·rintro m O9 ⟨jA,h9⟩;cases W with
      | ok y=>exact h9.elim
      | error e=>
        dsimp only at h9;subst h9;repeat refine g_ @av ?_
        exact⟨TJ.pn zH jA hB,rfl⟩
     rintro m O7 ⟨DP,h9⟩;cases W with
     | error e=>exact h9.elim
     | ok y9=>
     obtain⟨y7,o4⟩:=y9;dsimp only at h9;obtain⟨rfl,KU⟩:=h9;have zD:=zH.at DP h_ hB jz;repeat refine g_ @av ?_
     exact aA.mk (⟨1,s,l,[],off⟩,o4) ⟨zH.bH DP KU kZ hB,rfl,.sl l.length (l.flatMap bm) tk,zD,by simp only[wu,gH],rfl⟩
    ·rw[if_pos rfl];have Um:=ij XO;simp only[Qn,zP,Zj]at Um;have abz:=fun x:cg=>(π O6 (k:=O.N) (j:=k) x (by omega)).trans p9
     repeat refine kg4 @av @jz @p9 @abz ?_
     refine ah.s2 ?_;rintro O7 qU;have fy:((o3:Int)+1)=((o3+1:Nat):Int):=by omega
     rw[fy]at qU;have HT:=zH.set (x:=.cells [.v (.int .i64 2),.str s,.sl l.length (l.flatMap bm) tk,.str [],.v (.int .i64 off),.v (.int .i64 0),.v (.int .i64 0)]) jz oJ h_ hB;have KV:TJ O B k n t p L (o3+1) O7:=by rw[qU];exact HT.bH bz.set (Rd.set HT.rd) kZ hB
     have zD:O7.hp O.N=some (.cells [mi 2,.str s,.sl l.length (l.flatMap bm) tk,.str [],mi off,mi 0,mi 0]):=by rw[qU];exact ω (ρ _ _ _)
     clear qU HT;have rC:=ui (X:=p) [62] KV.rd ht (by decide);generalize jr t (o3+1) [62]=W at*;refine ah.p (rC) ?_ ?_;rotate_left
     ·rintro m O9 ⟨jA,h9⟩;cases W with
      | ok y=>exact h9.elim
      | error e=>
        dsimp only at h9;subst h9;repeat refine g_ @av ?_
        exact⟨TJ.pn KV jA hB,rfl⟩
     rintro m O8 ⟨rB,h9⟩;cases W with
     | error e=>exact h9.elim
     | ok y9=>
     obtain⟨y8,o4⟩:=y9;dsimp only at h9;obtain⟨rfl,hr8⟩:=h9;have t_:=KV.at rB h_ hB zD;repeat refine g_ @av ?_
     exact aA.mk (⟨2,s,l,[],off⟩,o4) ⟨KV.bH rB hr8 kZ hB,rfl,.sl l.length (l.flatMap bm) tk,t_,by simp only[wu,gH],rfl⟩
   rw[if_neg (by simp)];clear hp;repeat refine g_ @av ?_
   have kK:=zF (X:=p) 60 kA ht ho;generalize fe t 60 (t.length+1 - off) off []=F at*;refine ah.p (kK) ?_ ?_;rotate_left
   ·rintro m O9 ⟨jA,h9⟩;cases F with
    | ok y=>exact h9.elim
    | error e=>
      dsimp only at h9;subst h9;repeat refine g_ @av ?_
      exact⟨UB.bH sF (bz.trans (bz.refl _ _) jA) (by omega),rfl⟩
   rintro m O3 ⟨c9,h9⟩;cases F with
   | error e=>exact h9.elim
   | ok y9=>
   obtain⟨s,o2⟩:=y9;dsimp only at h9;obtain⟨rfl,iL⟩:=h9;have cB:=(c9.hp _ (by omega) (by intro e;injection e;omega)).trans cD;repeat refine qN @av @cB ?_
   exact aA.mk (⟨4,[],[],s,off⟩,o2) ⟨((hJ c9 iL).set cB oJ h_ hB).set (ρ _ _ _) oJ h_ hB,rfl,.sl 0 [] .nil,ρ _ _ _,by simp only[wu];rfl,rfl⟩
  ·rw[if_pos ⟨h0,rfl⟩]
   have hp:ey (t.drop off) [60,63,120,109,108]=true:=by
    unfold se at hhd;simp only[am9]at hhd;exact hhd.1.1
   repeat refine g_ @av ?_
   have hle:=ij hp;have huv:=Gb (X:=p) [60,63,120,109,108] [63,62] kA ht (by decide) (by rw[Qn]at hle;omega);generalize jC t (off+List.length [60,63,120,109,108]) [63,62]=F at*;repeat refine g_ @av ?_
   refine ah.p (huv) ?_ ?_;rotate_left
   ·rintro m O9 ⟨jA,h9⟩;cases F with
    | ok y=>exact h9.elim
    | error e=>
      dsimp only at h9;subst h9;repeat refine g_ @av ?_
      exact⟨UB.bH sF (bz.trans (bz.refl _ _) jA) (by omega),rfl⟩
   rintro m O3 ⟨c9,h9⟩;cases F with
   | error e=>exact h9.elim
   | ok y9=>
   obtain⟨s,o2⟩:=y9;dsimp only at h9;obtain⟨rfl,iL⟩:=h9;have cB:=(c9.hp _ (by omega) (by intro e;injection e;omega)).trans cD;repeat refine qN @av @cB ?_
   exact aA.mk (⟨6,[],[],s,off⟩,o2) ⟨((hJ c9 iL).set cB oJ h_ hB).set (ρ _ _ _) oJ h_ hB,rfl,.sl 0 [] .nil,ρ _ _ _,by simp only[wu];rfl,rfl⟩
 rintro⟨x,o'⟩ O2 ⟨aM,dh,att,cJ,bG,iz⟩;dsimp only at aM dh cJ bG iz;rw[dh];have bM:=aM.rd.2;simp only[aq]at cJ bM;refine VC.J_ [0,7,8,9,10] (by kernel_rfl) ?_;refine bQ.mv 0 ?_;refine bQ.bP [(1,.rd),(2,.rd),(3,.rd),(4,.rd),(5,.rd),(6,.one),(7,.one),(8,.one),(9,.one),(10,.one)] ?_;simp only[ak];repeat refine kg3 @av @cJ @bM ?_
 refine VL.wk (EW.top (Wk.sl (qx _))) ?_
 have r9:c7 [.v (.int .i64 x.kind),.str x.name,att,.str x.text,.v (.int .i64 x.off),.v (.int .i64 0),.v (.int .i64 0)]=zG x:=by
  simp only[wu,bG,zG,aq]
 rw[r9];have eh:=aM.lt;refine VL.ais aa (by simp) (fun i hi=>by match i,hi with | 7,_=>rfl | 0,hi | 1,hi | 2,hi | 3,hi | 4,hi | 5,hi | 6,hi | 8,hi | 9,hi | 10,hi=>cases hi | _+11,hi=>cases hi) (te:=⟨_,7,88,_⟩) (dx:=.slice 163) (q:=.sl 1 (zG x) .full) (j:=1) (ds:=zG x) aM.row rfl rfl (by rw[FG];rfl) ago.1.1 (by rw[FG];rfl) trivial (by dsimp only;omega) (by simp only[maxLen];omega) (by omega) rfl rfl rfl rfl ?_;intro m O3 x_ nG iT hm;have dR:O3.hp k=some (.cells [.str t,.v (.int .i64 o'),p]):=(nG.hp k aM.rd.1 (by intro e;exact kZ e)).trans bM
 obtain⟨k2,c2,rfl⟩:∃k2 c2,m= .bB k2 0 (n+1) c2:=by
  rcases hm with⟨k2,c2,h1,_⟩ | ⟨h1,_⟩
  ·exact⟨k2,c2,h1⟩
  ·cases h1
 have amA:B<=k2:=by
  rcases x_ with⟨h1,_⟩ | ⟨k3,c3,h1,_,_,h4⟩
  ·cases h1
  ·injection h1 with h1;rw[h1];exact h4.lo
 have hpB:∀i,i<B->gid p≠some i:=fun i hi e=>by
  rcases c6 with⟨_,_,hp | hp⟩ | ⟨k3,c,hp,_,_,jT⟩
  ·rw[hp]at e;cases e
  ·rw[hp]at e;cases e
  ·rw[hp]at e;injection e with e;have:=jT.lo;omega
 clear hm iT;try refine qN @av @dR ?_
 refine⟨⟨ahL aM.ub.N nG.N,fun i hi hk=>(π _ _ hk).trans ((nG.hp i (by omega) (hpB i hi)).trans (aM.ub.hp i hi hk))⟩,.bB k2 0 (n+1) c2,⟨Ma aM.rd.1 nG.N,ρ _ _ _⟩,x_.qu bz.set (by intro e;injection e;omega) (fun _ _ _ e=>by rw[dR]at e;cases e)⟩
theorem Gg {O:VH} {a b c d:Nat} {K:VH->Prop} (h:K O):gQ Tryz.prog 274 [.ptr a 0,.ptr b 0,.ptr c 0,.ptr d 0] none O K:=by
 refine gQ.rec (d:=7) Tryz.func274 (ajt (by decide:7<19) rfl) ?_;show WC _ _ ⟨19,0⟩ _ _ _ _ _;simp only[cK,ajl,Nat.reduceAdd,AJ];refine ao @ez @wi ?_;refine VL.pure (by simp) (fun _=>.inl rfl) rfl rfl (i_.Fw (bb:=true) Tryz.underlying20 rfl (.inl ⟨rfl,rfl⟩)) ?_;refine WL.sound aa ?_;refine ao @ez @wi ?_;exact h
theorem abA {O:VH} {a b c d off:Nat} {e:Int} {t:Bs} {K:VH->Prop} {x y:MV} {z1 z2 z3:MV} (ht:t.length<=1000000) (ho:off<=t.length) (ha:O.hp a=some (.cells [.str t])) (hb:O.hp b=some (.cells [x])) (hc:O.hp c=some (.cells [y])) (hd:O.hp d=some (.cells [z1,z2,z3]))
  (han:a<O.N) (RJ:b<O.N) (FZ:c<O.N) (xV:d<O.N) (hbc:b≠c) (c_:b≠d) (hcd:c≠d)
  (h:∀O',O.N<=O'.N->(∀i,i<O.N->i≠b->i≠c->i≠d->O'.hp i=O.hp i)->O'.hp b=some (.cells [.sl 0 [] .nil])->O'.hp c=some (.cells [mi e])->O'.hp d=some (.cells [mi off,mi (1+((t.take off).count 10:Nat)),mi ((off:Int) - gm (t.take off) 10 (t.take off).length)])->K O'):gQ Tryz.prog 274 [.ptr a 0,.ptr b 0,.ptr c 0,.ptr d 0] (some (Be e off)) O K:=by
 refine gQ.rec (d:=7) Tryz.func274 (ajt (by decide:7<19) rfl) ?_;show WC _ _ ⟨19,0⟩ _ _ _ _ _;simp only[cK,ajl,Nat.reduceAdd,AJ,Be];refine ao @ez @wi ?_;refine VL.pure (by simp) (fun _=>.inl rfl) rfl rfl (i_.Ub (bb:=false) Tryz.underlying20 rfl (.inl ⟨rfl,rfl⟩)) ?_;refine WL.sound aa ?_;refine ao @ez @wi ?_;refine VL.pure (by simp) (fun _=>.inl rfl) rfl rfl (i_.asT Tryz.underlying414 (fun _ h=>by cases h) rfl) ?_;refine WL.sound aa ?_;refine ao @ez @wi ?_;refine VC.al ?_;rintro O2 ⟨aB,jb,eZ⟩;have fj:=(aB.hp _ han).trans ha;have cJ:=(aB.hp _ RJ).trans hb;have iH:=(aB.hp _ FZ).trans hc;have iM:=(aB.hp _ xV).trans hd;have xY:∀(X:cg) {i:Nat} {y:Option cg},i<O.N->O2.hp i=y->(O2.set O.N X).hp i=y:=fun X {i y} hi h=>ω h
 refine VC.qw [] (O.N) (jb) ?_;intro X;have fM:=xY (.obj X) han fj;have dd:=xY (.obj X) RJ cJ;have fR:=xY (.obj X) FZ iH;have Bj:=xY (.obj X) xV iM;have qV:(O2.set O.N (.obj X)).hp O.N=some (.obj X):=ρ _ _ _;have gO:(O2.set O.N (.obj X)).N=O.N+1:=eZ;have aY:O.Ge (O2.set O.N (.obj X)):=aB.set (ahO _) _;generalize hO4:O2.set O.N (.obj X)=O4 at*;refine ae.ar 0 ?_;refine ab @ez ?_;refine ε (m:=.v (.int .i64 e)) 1 ?_ ?_
 ·exact fU @ez
 simp only[ak];refine ae.ar 3 ?_;refine ab @ez ?_;refine ε (m:=.v (.int .i64 off)) 4 ?_ ?_
 ·exact fU @ez
 simp only[ak];refine ae.op (i:=2) ?_;refine ao @ez @fM ?_;refine⟨qV,?_⟩;refine ae.call (i:=5) (agH t off _ ht ho) ?_;rintro _ O3 ⟨rfl,aH⟩;simp only[ak];refine⟨aH.at qV,?_⟩;have gy:=aH.N;have XS:=aH.at qV;have cB:=aH.at dd;have fy:=aH.at fR;have wB:=aH.at Bj;have bD:O.Ge O3:=aY.trans aH;unfold p_;simp only[aq]at h ⊢;refine ae.op (i:=6) ?_;refine ao @ez @cB ?_;refine⟨XS,?_⟩;refine ae.op (i:=7) ?_;refine ao @ez @fy ?_;refine⟨XS,?_⟩;refine ae.op (i:=8) ?_;refine ao @ez @wB ?_;refine⟨XS,?_⟩;refine ae.nR [] ?_;refine ab @ez ?_;refine h _ (by rw[VH.fp,VH.fp,VH.fp,VH.fp];exact bD.N) (fun i hi h1 h2 h3=>?_) ?_ ?_ ?_
 ·rw[π _ _ (by omega),π _ _ h3,π _ _ h2,π _ _ h1];exact bD.hp i hi
 ·rw[π _ _ (by omega),π _ _ c_,π _ _ hbc,ρ]
 ·rw[π _ _ (by omega),π _ _ hcd,ρ]
 ·rw[π _ _ (by omega),ρ]
theorem kg8 {A1 A2 A3 A4 A5 A6 A7 A8 P Q:Prop} (a1:A1) (a2:A2) (a3:A3) (a4:A4) (a5:A5) (a6:A6) (a7:A7) (a8:A8) (q:Q) (h:A1->A2->A3->A4->A5->A6->A7->A8->Q->P:=by intro a1 a2 a3 a4 a5 a6 a7 a8 q;first | (with_reducible refine θ ?_;refine Xi a1 a2 a3 a4 a5 a6 a7 a8 q) | (with_reducible refine ι ?_;refine Xi a1 a2 a3 a4 a5 a6 a7 a8 q) | (first | with_reducible refine RT ?_ | with_reducible refine RU ?_ | with_reducible refine RV ?_ | with_reducible refine RX ?_);refine Xi a1 a2 a3 a4 a5 a6 a7 a8 q):P:=h a1 a2 a3 a4 a5 a6 a7 a8 q
def ju (t:Bs):Nat->Nat->List Tk->Except (Int×Nat) (List Tk)
 | 0,_,l=>.ok l
 | n+1,o,l=>if t.length<=o then .ok l else match nq t o with
   | .error e=>.error e
   | .ok (x,o')=>ju t n o' (l++[x])
def uU (t:Bs):Except (Int×Nat) (List Tk):=ju t (t.length+1) 0 []
def mV (t:Bs) (o:Nat):Nat:=1+(t.take o).count 10
def Gi (t:Bs) (o:Nat):Int:=(o:Int) - gm (t.take o) 10 (t.take o).length
def va (t:Bs) (x:Tk):List MV:=[mi x.kind,.str x.name,.sl x.attrs.length (x.attrs.flatMap bm) .au,.str x.text,mi x.off,mi (mV t x.off),mi (Gi t x.off)]
theorem xG {t:Bs} {stop:UInt8}:∀(n o:Nat) (acc:Bs) {e:Int} {p:Nat},fe t stop n o acc= .error (e,p)->p<=t.length
 | 0,o,acc,e,p,h=>by unfold fe at h;cases h
 | n+1,o,acc,e,p,h=>by
   unfold fe at h;cases hg:t[o]? with
   | none=>rw[hg]at h;cases h
   | some c=>
     have R7:o<t.length:=(Vq.1 hg).1;rw[hg]at h;simp only at h;split at h
     ·cases h
     split at h
     ·split at h
      ·injection h with h;injection h with h1 h2;omega
      ·exact xG n _ _ h
     split at h
     ·injection h with h;injection h with h1 h2;omega
     ·exact xG n _ _ h
theorem zI {t:Bs} {o:Nat} {k e:Int} {p:Nat} (h:jJ t o k= .error (e,p)):p=o:=by
 unfold jJ at h;split at h
 ·injection h with h;injection h with h1 h2;omega
 split at h
 ·injection h with h;injection h with h1 h2;omega
 ·cases h
theorem uk {t:Bs} {o:Nat} {q:Bs} {e:Int} {p:Nat} (h:jr t o q= .error (e,p)):p=o:=by
 unfold jr at h;split at h
 ·injection h with h;injection h with h1 h2;omega
 split at h
 ·cases h
 ·injection h with h;injection h with h1 h2;omega
theorem XT {t:Bs} {o:Nat} {e:Int} {p:Nat} (ho:o<=t.length) (h:uR t o= .error (e,p)):p<=t.length:=by
 unfold uR at h;split at h
 ·injection h with h;injection h with h1 h2;omega
 rename_i q hq;have R7:=(Vq.1 hq).1;split at h
 ·injection h with h;injection h with h1 h2;omega
 split at h
 ·rename_i e2 h2;injection h with h;subst h
  exact xG _ _ _ h2
 rename_i s2 o2 h2;have:=o9 _ _ _ (by omega) (by simp) h2;split at h
 ·injection h with h;injection h with h1 h2;omega
 ·cases h
theorem Je {t:Bs}:∀(n o:Nat) (l:List (Bs×Bs)) {e:Int} {p:Nat},o<=t.length->mf t n o l= .error (e,p)->p<=t.length
 | 0,o,l,e,p,ho,h=>by rw[mf]at h;cases h
 | n+1,o,l,e,p,ho,h=>by
   have vZ:=jD t o ho;rw[mf]at h;split at h
   ·cases h
   split at h
   ·rename_i e2 h2;injection h with h;subst h
    have:=zI h2;omega
   rename_i nm o2 h2;have hn:=gX h2;have cJ:=jD t o2 (by omega);split at h
   ·injection h with h;injection h with h1 h2;omega
   split at h
   ·rename_i e4 h4;injection h with h;subst h
    have:=uk h4;omega
   rename_i y4 o4 h4;have hw:=lY h4;have dd:=jD t o4 (by omega);split at h
   ·rename_i e6 h6;injection h with h;subst h
    exact XT dd h6
   rename_i v o6 h6;have hv:=Bi h6;exact Je n o6 _ (by omega) h
theorem wC {t:Bs} {o:Nat} {q:Bs} {e:Int} {p:Nat} (ho:o<=t.length) (h:jC t o q= .error (e,p)):p<=t.length:=by
 unfold jC at h;split at h
 ·injection h with h;injection h with h1 h2
  have h3:=oT ng (qS (t.drop o) q)
  have h4:(qS (t.drop o) q).length<=t.length - o:=by
   unfold qS;split
   ·rw[ajo,Qn];omega
   ·rw[Qn];exact ahO _
  omega
 split at h
 ·injection h with h;injection h with h1 h2;omega
 ·cases h
theorem XU (s p:Bs) (h:0<=Lib.index s p):Lib.index s p+p.length<=s.length:=by
 induction s with
 | nil=>
   unfold Lib.index at h ⊢;cases p with
   | nil=>simp
   | cons c p=>simp at h
 | cons b l ih=>
   have iT:=Lib.index_ge l p;unfold Lib.index at h ⊢;split
   ·rename_i h1;have:=(List.isPrefixOf_iff_prefix.1 h1).length_le;omega
   ·rename_i h1;rw[if_neg h1]at h;split
    ·rename_i h2;rw[if_pos h2]at h;omega
    ·rename_i h2;have h3:Lib.index l p≠ -1:=by simpa using h2
     have:=ih (by omega);rw[zP];omega
theorem zJ {t:Bs} {o:Nat} {q s:Bs} {p:Nat} (ho:o<=t.length) (h:jC t o q= .ok (s,p)):o+q.length<=p/\p<=t.length:=by
 unfold jC at h;split at h
 ·cases h
 split at h
 ·cases h
 ·rename_i h1;injection h with h;injection h with h2 h3
  have:=XU (t.drop o) q (by omega);rw[Qn]at this;omega
theorem nr {α β :Type} {f: α -> β} {F:Except (Int×Nat) (α ×Nat)} {e:Int×Nat} (h:uS f F= .error e):F= .error e:=by
 cases F with
 | error e2=>injection h with h;rw[h]
 | ok y=>cases h
theorem jL {α β :Type} {f: α -> β} {F:Except (Int×Nat) (α ×Nat)} {x: β} {o:Nat} (h:uS f F= .ok (x,o)):∃y,F= .ok (y,o)/\x=f y:=by
 cases F with
 | error e2=>cases h
 | ok y=>obtain⟨y,o2⟩:=y;injection h with h;injection h with h1 h2;exact⟨y,by rw[h2],h1.symm⟩
theorem XV {t:Bs} {o:Nat} {e:Int} {p:Nat} (ho:o<=t.length) (h:nq t o= .error (e,p)):p<=t.length:=by
 have hp:∀{q:Bs},ey (t.drop o) q=true->o+q.length<=t.length:=fun hq=>by
  have:=ij hq;rw[Qn]at this;omega
 unfold nq at h;split at h
 ·exact wC (hp ‹_›) (nr h)
 split at h
 ·exact wC (hp ‹_›) (nr h)
 split at h
 ·rename_i h1;refine wC (hp (q:=[60,63,120,109,108]) ?_) (nr h);have:=h1.2;unfold se at this;simp only[am9]at this;exact this.1.1
 split at h
 ·have h0:=hp ‹_›;simp only[zP,Zj]at h0;unfold rO at h;split at h
  ·rename_i h2;injection h with h;subst h
   have:=zI h2;omega
  rename_i nm o2 h2;have hn:=gX h2;have cJ:=jD t o2 (by omega);have:=uk (nr h);omega
 split at h
 ·have h0:=hp ‹_›;simp only[zP,Zj]at h0;unfold wq at h;split at h
  ·rename_i h2;injection h with h;subst h
   have:=zI h2;omega
  rename_i nm o2 h2;have hn:=gX h2;split at h
  ·rename_i e3 h3;injection h with h;subst h
   exact Je _ _ _ (by omega) h3
  rename_i l o3 h3;have ha:=wv _ _ _ (by omega) h3;split at h
  ·have h4:=ij ‹_›;simp only[Qn,zP,Zj]at h4;have:=uk (nr h);omega
  ·have:=uk (nr h);omega
 ·exact xG _ _ _ (nr h)
theorem R8 {t:Bs} {stop:UInt8} {n o:Nat} {acc s:Bs} {o':Nat} (ho:o<t.length) (ha:acc.length<=o) (hne:t[o]?≠some stop) (h:fe t stop (n+1) o acc= .ok (s,o')):o<o':=by
 unfold fe at h;have hg:=ajn ho;rw[hg]at h hne;generalize t[o]=c at*;simp only at h;split at h
 ·rename_i hc;rw[hc]at hne;exact absurd rfl hne
 split at h
 ·split at h
  ·cases h
  ·rename_i h5;obtain⟨k1,k2,k3⟩:=Bg (by simpa using h5);rw[Qn]at k2;have:=o9 n _ _ (by omega) (by rw[Qm];omega) h;omega
 split at h
 ·cases h
 ·have:=o9 n _ _ (by omega) (by rw[Qm];simp only[zP,Zj];omega) h;omega
theorem Oh {t:Bs} {o:Nat} {x:Tk} {o':Nat} (ho:o<t.length) (h:nq t o= .ok (x,o')):x.off=o/\o<o'/\o'<=t.length:=by
 have hp:∀{q:Bs},ey (t.drop o) q=true->o+q.length<=t.length:=fun hq=>by
  have:=ij hq;rw[Qn]at this;omega
 unfold nq at h;split at h
 ·obtain⟨y,h1,rfl⟩:=jL h;have:=zJ (hp ‹_›) h1;simp only[zP,Zj]at this;exact⟨rfl,by omega,by omega⟩
 split at h
 ·obtain⟨y,h1,rfl⟩:=jL h;have:=zJ (hp ‹_›) h1;simp only[zP,Zj]at this;exact⟨rfl,by omega,by omega⟩
 split at h
 ·rename_i h1;obtain⟨y,h2,rfl⟩:=jL h
  have:=zJ (hp (q:=[60,63,120,109,108]) (by
   have:=h1.2;unfold se at this;simp only[am9]at this;exact this.1.1)) h2
  simp only[zP,Zj]at this;exact⟨rfl,by omega,by omega⟩
 split at h
 ·have h0:=hp ‹_›;simp only[zP,Zj]at h0;unfold rO at h;split at h
  ·cases h
  rename_i nm o2 h2;have hn:=gX h2;have cJ:=jD t o2 (by omega);obtain⟨y,h3,rfl⟩:=jL h;have:=lY h3;exact⟨rfl,by omega,by omega⟩
 split at h
 ·have h0:=hp ‹_›;simp only[zP,Zj]at h0;unfold wq at h;split at h
  ·cases h
  rename_i nm o2 h2;have hn:=gX h2;split at h
  ·cases h
  rename_i l o3 h3;have ha:=wv _ _ _ (by omega) h3;split at h
  ·obtain⟨y,h4,rfl⟩:=jL h;have:=lY h4;exact⟨rfl,by omega,by omega⟩
  ·obtain⟨y,h4,rfl⟩:=jL h;have:=lY h4;exact⟨rfl,by omega,by omega⟩
 ·rename_i hne;obtain⟨y,h1,rfl⟩:=jL h;have h2:=o9 _ _ _ (by omega) (by simp) h1;obtain⟨n,hn⟩:∃n,t.length+1 - o=n+1:=⟨t.length - o,by omega⟩
  rw[hn]at h1;refine⟨rfl,R8 ho (by simp) (fun e=>hne ?_) h1,h2.2.1⟩;unfold ey;rw[ajs ho];rw[ajn ho]at e;injection e with e;rw[e];simp
theorem Jf (s:Bs) (c:UInt8):∀n:Nat, -1<=gm s c n/\gm s c n<=n
 | 0=>by unfold gm;omega
 | n+1=>by
   have:=Jf s c n;unfold gm;split<;>omega
theorem abB {A D:List MV} {n:Nat} (hA:A.length=n) {vs:List MV} {i:Nat} {v:MV} (h:vs[i]?=some v):(A++(vs++D))[n+i]?=some v:=by
 have hi:=(Vq.1 h).1;rw[ahN (by omega),List.getElem?_append_left (by omega),hA,ahM];exact h
theorem Oi {A D:List MV} {n:Nat} (hA:A.length=n) {vs:List MV} {i:Nat} {v:MV} (h:i<vs.length):(A++(vs++D)).set (n+i) v=A++(vs.set i v++D):=by
 rw[ajp _ _ (by omega),List.set_append_left _ _ (by omega),hA,ahM]
theorem Oj {t:Bs} {a:Nat} (h:a<t.length):mV t (a+1)=mV t a+if t[a]=10 then 1 else 0:=by
 unfold mV;rw[dz _ _ h,List.count_append];split
 ·rename_i h1;rw[h1];simp;omega
 ·rename_i h1;rw[List.count_singleton,if_neg (by simpa using h1)];omega
theorem Row.to {O O':VH} {el:TypeId} {sz B k c:Nat} {L L' sp:List MV} (h:Row O el sz B k c L) (u:bz O (some k) O') (hc:O'.hp k=some (.cells (L'++sp))) (hl:(L'++sp).length=c*sz):Row O' el sz B k c L':=by
 obtain⟨sp0,h1,h2⟩:=h.cells;obtain⟨j,h3,h4,h5⟩:=h.oV;refine⟨⟨sp,hc,hl⟩,⟨j,h3,Ma h4 u.N,(u.hp j h4 ?_).trans h5⟩,h.lo,Ma h.hi u.N⟩;intro e;injection e with e;subst e;rw[h1]at h5;cases h5
theorem Row.abC {O:VH} {el:TypeId} {sz B k c q:Nat} {L cs:List MV} {x:cg} (h:Row O el sz B k c L) (hq:q≠k) (hc:O.hp q=some (.cells cs)):Row (O.set q x) el sz B k c L:=
 h.qu bz.set hq (fun _ _ e=>by rw[hc]at e;cases e)
theorem wD (t:Bs) (x:Tk):(va t x).length=7:=rfl
set_option maxHeartbeats 800000 in
theorem aix (t:Bs) (O:VH) (ht:t.length<=65536):VF Tryz.prog 259 [.str t] O (aD fun m O'=>O.Ge O'/\match uU t with
  | .ok l=>∃p,m= .tuple [p,mi 0,.agg [mi 0,mi 0,mi 0]]/\GR O' 163 7 O.N p l.length (l.flatMap (va t))
  | .error e=>m= .tuple [.sl 0 [] .nil,mi e.1,p_ t e.2]):=by
 refine VF.F5 (lo:=5) (k:=77) (rs:=[.cell 2 165,.cell 3 87,.cell 4 108]) Tryz.func259 (Enters.sH (by kernel_rfl)) ?_;simp only[cK,ajl,Nat.reduceAdd];refine ab @ez ?_;refine VC.gen ?_;rintro O1 sT;obtain⟨aI,cW,cz,cD,eS,n7⟩:=F6 _ _ _ _ sT;clear sT;refine ξ @ez @cz ?_;try refine g_ @ez ?_
 refine⟨_,rfl,fun D=>?_⟩;refine ξ @ez @cz ?_;refine VC.bx ?_;rintro O2 ⟨aB,bM,eZ⟩
 replace bM:O2.hp (O.N+4)=some (.cells [.str t,mi (0:Nat),.sl 0 [] .nil]):=by rw[<-cW];exact bM
 rw[cW];have fj:=aB.at cz;have cJ:=aB.at cD;have iH:=aB.at eS;have iM:=aB.at n7
 replace eZ:O2.N=O.N+5:=by omega
 have fA:=aI.trans aB;clear aI aB cz cD eS n7 cW O1;refine Θ [1,2,3,4,5] (fun x:List Tk×MV=>[.ptr O.N 0,.ptr (O.N+1) 0,.ptr (O.N+2) 0,.ptr (O.N+3) 0,.ptr (O.N+4) 0]) (fun x O'=>UB (O.N+5) (O.N+4) O2 O'/\Rd O' (O.N+4) t t.length x.2/\GR O' 163 7 (O.N+5) x.2 x.1.length (x.1.flatMap zG)/\x.1.length<=t.length/\(∀y∈x.1,y.off<t.length)/\x.1.Pairwise (fun a b=>a.off<=b.off)/\uU t= .ok x.1) ?_ ?_
 ·refine τ ?_;refine Γ [] [1,2,3,4,5] (fun x:List Tk×MV×Nat=>[]) (fun x O'=>UB (O.N+5) (O.N+4) O2 O'/\Rd O' (O.N+4) t x.2.2 x.2.1/\GR O' 163 7 (O.N+5) x.2.1 x.1.length (x.1.flatMap zG)/\x.1.length<=x.2.2/\x.2.2<=t.length/\(∀y∈x.1,y.off<x.2.2)/\x.1.Pairwise (fun a b=>a.off<=b.off)/\∃n,t.length+1 - x.2.2<=n/\uU t=ju t n x.2.2 x.1) (fun x=>t.length - x.2.2) (([],.sl 0 [] .nil,0)) ?_ ?_
  ·exact⟨UB.refl _ _ _,⟨by omega,bM⟩,.inl ⟨rfl,rfl,.inl rfl⟩,ajk _,ajk _,(fun y hy=>by cases hy),List.Pairwise.nil,_,ahO _,rfl⟩
  rintro⟨l,p,o⟩ O3 ⟨Bk,hr,c6,y_,Of,lz,sb,n,hn,he⟩;dsimp only at Bk hr c6 y_ Of lz sb hn he;obtain⟨n,rfl⟩:∃i,n=i+1:=⟨n - 1,by omega⟩
  rw[ju]at he;repeat refine qN @ez @wd ?_
  refine ah.rt (nZ hr) ?_;rintro _ O4 ⟨rfl,eO⟩;rw[eO];clear eO O4
  by_cases h1:t.length<=o
  ·rw[if_pos h1]at he;obtain rfl:o=t.length:=by omega
   rw[decide_eq_true h1];repeat refine qN @ez @wd ?_
   exact aA.mk (l,p) ⟨Bk,hr,c6,y_,lz,sb,he⟩
  rw[if_neg h1]at he;rw[decide_eq_false h1];repeat refine qN @ez @wd ?_
  have htv:=aby hr (by omega) Of (by omega:O.N+4<O.N+5) (by have:=Bk.N;omega) c6 (by omega);have dh:= @Oh t o;have oq:= @XV t o;generalize nq t o=F at*;refine ah.p htv ?_ ?_
  ·rintro m O4 ⟨abD,h4⟩;cases F with
   | error e=>exact h4.elim
   | ok y=>
   obtain⟨x,o2⟩:=y;dsimp only at h4 he;obtain⟨rfl,p2,HS,aiy⟩:=h4;obtain⟨k1,k2,k3⟩:=dh (by omega) rfl;repeat refine qN @ez @wd ?_
   refine az.N (l++[x],p2,o2) ⟨Bk.trans abD,HS,?_,?_,k3,?_,?_,n,?_,he⟩ (hm:=?_)
   ·dsimp only;rw[Qm,am7,List.flatMap_singleton];exact aiy
   ·dsimp only;rw[Qm,List.length_singleton];omega
   ·intro y hy;dsimp only at hy ⊢;rcases ahP.1 hy with hy | hy
    ·have:=lz y hy;omega
    ·rw[ahJ.1 hy];omega
   ·dsimp only;rw[List.pairwise_append];exact⟨sb,List.pairwise_singleton _ _,fun a ha b hb=>by rw[ahJ.1 hb];have:=lz a ha;omega⟩
   ·dsimp only;omega
   ·dsimp only;omega
  ·rintro m O4 ⟨abD,h4⟩;cases F with
   | ok y=>exact h4.elim
   | error e=>
   obtain⟨e,off⟩:=e;dsimp only at h4 he;subst h4;have qc:=oq Of rfl;have zK:=Bk.trans abD;have gO:=zK.N;have fM:=(zK.hp O.N (by omega) (by omega)).trans fj;have dd:=(zK.hp (O.N+1) (by omega) (by omega)).trans cJ;have fR:=(zK.hp (O.N+2) (by omega) (by omega)).trans iH;have Bj:=(zK.hp (O.N+3) (by omega) (by omega)).trans iM;try refine qN @ez @wd ?_
   refine abA (by omega) qc fM dd fR Bj (by omega) (by omega) (by omega) (by omega) (by omega) (by omega) (by omega) ?_;intro O5 eU oK du gd zL;simp only[aq]at du gd zL;refine iN @ez @wd @du @gd @zL ?_;refine⟨⟨by have:=zK.N;omega,fun i hi=>?_⟩,?_⟩
   ·rw[oK i (by omega) (by omega) (by omega) (by omega),zK.hp i (by omega) (by omega)];exact fA.hp i hi
   ·rw[he];dsimp only;rfl
 rintro⟨l,p⟩ O3 ⟨Bk,hr,c6,AE,lz,sb,he⟩;dsimp only at Bk hr c6 AE lz sb he;rw[he];have jv:=(Bk.hp O.N (by omega) (by omega)).trans fj;have cB:=(Bk.hp (O.N+1) (by omega) (by omega)).trans cJ;have fy:=(Bk.hp (O.N+2) (by omega) (by omega)).trans iH;have wB:=(Bk.hp (O.N+3) (by omega) (by omega)).trans iM;have gy:=Bk.N;have ew:∀i,i<O.N->O3.hp i=O.hp i:=fun i hi=>(Bk.hp i (by omega) (by omega)).trans (fA.hp i hi)
 have dR:=hr.2;simp only[aq]at dR;rcases c6 with⟨h0,hL,hp⟩ | ⟨k2,c,rfl,AD,pH,jT⟩
 ·obtain rfl:l=[]:=ahK h0;have fin:∀{p:MV} {O5:VH},(p= .sl 0 [] .nil\/p= .sl 0 [] .full)->O.N<=O5.N->(∀i,i<O.N->O5.hp i=O.hp i)->(O.Ge O5/\∃p',MV.tuple [p,mi 0,.agg [mi 0,mi 0,mi 0]]= .tuple [p',mi 0,.agg [mi 0,mi 0,mi 0]]/\GR O5 163 7 O.N p' 0 []):=fun hp hn hh=>⟨⟨hn,hh⟩,_,rfl,.inl ⟨rfl,rfl,hp⟩⟩
  have hO:∀{x y z:cg} {i:Nat},i<O.N->((((O3.set (O.N+1) x).set (O.N+2) y).set (O.N+3) z)).hp i=O.hp i:=fun hi=>by
   rw[π _ _ (by omega),π _ _ (by omega),π _ _ (by omega)];exact ew _ hi
  rcases hp with rfl | rfl
  ·refine ξ @ez @wd ?_;refine χ ?_;refine θ (aG @ez @wd @dR ?_);refine τ ?_;refine Γ [6,7,32] [1,2,3,4,5,31] (fun _:Unit=>[mi 1,mi 0,mi 0]) (fun _ O'=>O'=O3) (fun _=>0) (()) ?_ ?_
   ·exact rfl
   rintro⟨⟩ O4 eO;rw[eO];clear eO O4
   repeat refine kg6 @ez @wd @dR @cB @fy @wB ?_
   refine Gg ?_;refine ao @ez @wd ?_;exact fin (by simp) (by rw[VH.fp,VH.fp,VH.fp];omega) (fun i hi=>hO hi)
  ·refine ξ @ez @wd ?_;refine χ ?_;refine θ (aG @ez @wd @dR ?_);refine τ ?_;refine Γ [6,7,32] [1,2,3,4,5,31] (fun _:Unit=>[mi 1,mi 0,mi 0]) (fun _ O'=>O'=O3) (fun _=>0) (()) ?_ ?_
   ·exact rfl
   rintro⟨⟩ O4 eO;rw[eO];clear eO O4
   repeat refine kg6 @ez @wd @dR @cB @fy @wB ?_
   refine Gg ?_;refine ao @ez @wd ?_;exact fin (by simp) (by rw[VH.fp,VH.fp,VH.fp];omega) (fun i hi=>hO hi)
 obtain⟨sp,hsp,IL⟩:=jT.cells;have fQ:=jT.lo;have R9:=jT.hi;refine ξ @ez @wd ?_;refine χ ?_;refine θ (aG @ez @wd @dR ?_);refine τ ?_;refine Γ [6,7,32] [1,2,3,4,5,31] (fun x:Nat×Nat=>[mi (mV t x.2),mi x.2,mi x.1]) (fun x O'=>bz O3 (some k2) O'/\O'.hp k2=some (.cells ((l.take x.1).flatMap (va t)++(l.drop x.1).flatMap zG++sp))/\x.1<=l.length/\x.2<=t.length/\(∀y∈l.drop x.1,x.2<=y.off)) (fun x=>l.length - x.1) ((0,0)) ?_ ?_
 ·exact⟨bz.refl _ _,hsp,ajk _,ajk _,fun _ _=>ajk _⟩
 rintro⟨j,a⟩ O4 ⟨fD,fR,hj,ha,zp⟩;dsimp only at fD fR hj ha zp;have lX:=(fD.hp _ (by omega) (by intro e;injection e;omega)).trans dR;have DT:=(fD.hp _ (by omega) (by intro e;injection e;omega)).trans jv;have Ok:=Nat.min_eq_left hj;by_cases zy:j<l.length;rotate_left
 ·obtain rfl:j=l.length:=by omega
  rw[List.take_length,List.drop_length,List.flatMap_nil,ajm]at fR;have dd:=(fD.hp _ (by omega) (by intro e;injection e;omega)).trans cB;have agK:=(fD.hp _ (by omega) (by intro e;injection e;omega)).trans fy;have Bj:=(fD.hp _ (by omega) (by intro e;injection e;omega)).trans wB
  have akM:Row O4 163 7 (O.N+5) k2 c (l.flatMap (va t)):=jT.to fD fR (by
   rw[Qm,aV (wD t)];rw[Qm,pH]at IL;exact IL)
  have gO:=fD.N
  have hO:∀{x y z:cg} {i:Nat},i<O.N->((((O4.set (O.N+1) x).set (O.N+2) y).set (O.N+3) z)).hp i=O.hp i:=fun hi=>by
   rw[π _ _ (by omega),π _ _ (by omega),π _ _ (by omega)];exact(fD.hp _ (by omega) (by intro e;injection e;omega)).trans (ew _ hi)
  repeat refine kg6 @ez @wd @lX @dd @agK @Bj ?_
  refine Gg ?_;refine ao @ez @wd ?_;refine⟨⟨by rw[VH.fp,VH.fp,VH.fp];omega,fun i hi=>hO hi⟩,_,rfl,.inr ⟨k2,c,rfl,AD,aV (wD t) _,?_⟩⟩;exact(((akM.abC (by omega) dd).abC (by omega) (ω agK)).abC (by omega) (ω (ω Bj))).wider (by omega)
 have R6:=ajs zy;have dh:(l.take (j+1))=l.take j++[l[j]]:=dz _ _ zy;have hxo:l[j].off<t.length:=lz _ (List.getElem_mem zy);have hxa:a<=l[j].off:=zp _ (by rw[R6];exact List.mem_cons_self ..)
 have tQ:∀y∈l.drop (j+1),l[j].off<=y.off:=by
  have:=sb.drop (i:=j);rw[R6,List.pairwise_cons]at this;exact this.1
 rw[R6,List.flatMap_cons]at fR;generalize hx:l[j]=x at*;have hA:((l.take j).flatMap (va t)).length=j*7:=by rw[aV (wD t),ajo,Ok]
 generalize hAe:(l.take j).flatMap (va t)=A at*;generalize hEe:(l.drop (j+1)).flatMap zG=E at*;refine ξ @ez @wd ?_;try refine qN @ez @wd ?_
 refine χ (τ ?_);refine ξ @ez @wd ?_;refine θ (aG @ez @wd @lX ?_);rw[Zk,Zk]at fR;have XW:(A++(zG x++(E++sp)))[j*7+4]?=some (.v (.int .i64 x.off)):=abB hA (vs:=zG x) rfl
 have hCl:j*7+7<=(A++(zG x++(E++sp))).length:=by
  rw[Qm,Qm,Gf,hA];omega
 have hCs:∀(y z:MV),((A++(zG x++(E++sp))).set (j*7+5) y).set (j*7+6) z=A++([mi x.kind,.str x.name,.sl x.attrs.length (x.attrs.flatMap bm) .au,.str x.text,mi x.off,y,z]++(E++sp)):=fun y z=>by
  rw[Oi hA (by rw[Gf];decide),Oi hA (by rw[List.length_set,Gf];decide)];rfl
 generalize A++(zG x++(E++sp))=C at*;refine χ (τ ?_);refine Γ [6,7] [1,2,3,4,5,9,31,32] (fun b:Nat=>[mi (mV t b),mi b]) (fun b O'=>O'=O4/\b<=x.off) (fun b=>x.off - b) (a) ?_ ?_
 ·exact⟨rfl,hxa⟩
 rintro b O5 ⟨eO,hb⟩;rw[eO];clear eO O5
 have amB:mV t b<=1+t.length:=by
  unfold mV;have h1:=List.count_le_length (a:=(10:UInt8)) (l:=t.take b);rw[ajo]at h1;omega
 by_cases e_:b<x.off
 ·have qW:b<t.length:=by omega
  have hg:=ajn qW;have Xh:=Oj qW;generalize t[b]=ch at*;generalize mV t b=ln at*;by_cases rD:ch=10
  ·rw[if_pos rD]at Xh;have e1:((ch.toNat:Int)==10)=true:=by rw[rD];rfl
   repeat refine kg8 @ez @wd @fR @XW @DT @hg @aK @e1 ?_
   exact az.N (b+1) ⟨rfl,by omega⟩ (hl:=(by rw[Xh];rfl))
  ·rw[if_neg rD]at Xh;have e1:((ch.toNat:Int)==10)=false:=by simpa using fun e:(ch.toNat:Int)=10=>rD (UInt8.toNat_inj.1 (by simpa using(by omega:ch.toNat=10)))
   repeat refine kg8 @ez @wd @fR @XW @DT @hg @aK @e1 ?_
   exact az.N (b+1) ⟨rfl,by omega⟩ (hl:=(by rw[Xh];rfl))
 obtain rfl:b=x.off:=by omega
 generalize hln:mV t x.off=ln at*;repeat refine kg5 @ez @wd @fR @XW @DT ?_
 have iz:gm (t.take x.off) 10 (t.take x.off).length<=x.off/\ -1<=gm (t.take x.off) 10 (t.take x.off).length:=by
  have h1:=Jf (t.take x.off) 10 (t.take x.off).length;rw[ajo,Nat.min_eq_left (by omega)]at h1 ⊢;omega
 have hlen:(t.take x.off).length<=1000000:=by rw[ajo];omega
 refine ah.rt (Ci (t.take x.off) 10 _ hlen) ?_;rintro _ O5 ⟨rfl,eO⟩;rw[eO];clear eO O5
 have akN:Gi t x.off=(x.off:Int) - gm (t.take x.off) 10 (t.take x.off).length:=rfl;generalize gm (t.take x.off) 10 (t.take x.off).length=lf at*;repeat refine kg3 @ez @wd @fR ?_
 refine az.N (j+1,x.off) ⟨fD.trans (bz.set.trans bz.set),?_,zy,Nat.le_of_lt hxo,tQ⟩ (hl:=(by dsimp only;rw[hln];rfl));rw[ρ,dh,am7,List.flatMap_singleton];have hC:=hCs (mi ln) (mi ((x.off:Int) - lf))
 have h7:va t x=[mi x.kind,.str x.name,.sl x.attrs.length (x.attrs.flatMap bm) .au,.str x.text,mi x.off,mi ln,mi ((x.off:Int) - lf)]:=by
  unfold va;rw[hln,akN]
 rw[hAe,hEe,h7,Zk,Zk, <-hC];rfl
set_option linter.defProp false in
def b9:=agc np<|agc AO T9
abbrev fB:List MV:=[.v (.bool false),.str [],.str [],.str [],.str [],.str [],.str [],.str [],.sl 0 [] .nil,.sl 0 [] .nil,.sl 0 [] .nil]
theorem abE {O:VH} {a b c:Nat} {K:VH->Prop} (h:K O):gQ Tryz.prog 262 [.ptr a 0,.ptr b 0,.ptr c 0] none O K:=by
 refine gQ.rec (d:=6) Tryz.func262 (ajt (by decide:6<17) rfl) ?_;show WC _ _ ⟨17,0⟩ _ _ _ _ _;simp only[cK,ajl,Nat.reduceAdd,AJ];refine ao @b9 @wi ?_;refine VL.pure (by simp) (fun _=>.inl rfl) rfl rfl (i_.Fw (bb:=true) Tryz.underlying20 rfl (.inl ⟨rfl,rfl⟩)) ?_;refine WL.sound aa ?_;refine ao @b9 @wi ?_;exact h
theorem jM {O:VH} {a b c:Nat} {e:Int} {s:Bs} {K:VH->Prop} {x0 x1 x2 x3 x4 x5 x6 x7 x8 x9 x10 y z:MV} (ha:O.hp a=some (.cells [x0,x1,x2,x3,x4,x5,x6,x7,x8,x9,x10])) (hb:O.hp b=some (.cells [y])) (hc:O.hp c=some (.cells [z]))
  (han:a<O.N) (RJ:b<O.N) (FZ:c<O.N) (hab:a≠b) (hac:a≠c) (hbc:b≠c)
  (h:∀O',O.N<=O'.N->(∀i,i<O.N->i≠a->i≠b->i≠c->O'.hp i=O.hp i)->O'.hp a=some (.cells fB)->O'.hp b=some (.cells [mi e])->O'.hp c=some (.cells [.str s])->K O'):gQ Tryz.prog 262 [.ptr a 0,.ptr b 0,.ptr c 0] (some (uf e s)) O K:=by
 refine gQ.rec (d:=6) Tryz.func262 (ajt (by decide:6<17) rfl) ?_;show WC _ _ ⟨17,0⟩ _ _ _ _ _;simp only[cK,ajl,Nat.reduceAdd,AJ,uf];refine ao @b9 @wi ?_;refine VL.pure (by simp) (fun _=>.inl rfl) rfl rfl (i_.Ub (bb:=false) Tryz.underlying20 rfl (.inl ⟨rfl,rfl⟩)) ?_;refine WL.sound aa ?_;refine ao @b9 @wi ?_;refine VL.pure (by simp) (fun _=>.inl rfl) rfl rfl (i_.asT Tryz.underlying401 (fun _ h=>by cases h) rfl) ?_;refine WL.sound aa ?_;refine ao @b9 @wi ?_;refine VC.al ?_;rintro O2 ⟨aB,jb,eZ⟩;have xY:∀(X:cg) {i:Nat} {y:Option cg},i<O.N->O.hp i=y->(O2.set O.N X).hp i=y:=fun X {i y} hi h=>ω ((aB.hp _ hi).trans h)
 refine VC.qw [] (O.N) (jb) ?_;intro X;have fM:=xY (.obj X) han ha;have dd:=xY (.obj X) RJ hb;have fR:=xY (.obj X) FZ hc;have qV:(O2.set O.N (.obj X)).hp O.N=some (.obj X):=ρ _ _ _;have gO:(O2.set O.N (.obj X)).N=O.N+1:=eZ;have aY:O.Ge (O2.set O.N (.obj X)):=aB.set (ahO _) _;generalize hO4:O2.set O.N (.obj X)=O4 at*;refine ae.ar 0 ?_;refine ab @b9 ?_;refine ae.ar 1 ?_;refine ab @b9 ?_;refine ε (m:=.v (.int .i64 e)) 2 ?_ ?_
 ·exact fU @b9
 simp only[ak];refine ae.ar 3 ?_;refine ab @b9 ?_;refine ε (m:=.str s) 4 ?_ ?_
 ·exact fU @b9
 simp only[ak];refine ae.op (i:=5) ?_;refine ao @b9 @fM ?_;refine⟨qV,?_⟩;refine ae.op (i:=6) ?_;refine ao @b9 @dd ?_;refine⟨qV,?_⟩;refine ae.op (i:=7) ?_;refine ao @b9 @fR ?_;refine⟨qV,?_⟩;refine ae.nR [] ?_;refine ab @b9 ?_;refine h _ (by show O.N<=O4.N;omega) (fun i hi h1 h2 h3=>?_) ?_ ?_ ?_
 ·rw[π _ _ (by omega),π _ _ (by omega),π _ _ (by omega),π _ _ (by omega)];exact aY.hp i hi
 ·rw[π _ _ (by omega),π _ _ (by omega),π _ _ (by omega)];exact ρ _ _ _
 ·rw[π _ _ (by omega),π _ _ (by omega)];exact ρ _ _ _
 ·rw[π _ _ (by omega)];exact ρ _ _ _
structure wE (O:VH) (E:List MV) (O':VH) (cs:List MV):Prop where
 vc:∀i,i<O.N->O'.hp i=O.hp i
 lt:O.N+5<=O'.N
 d:O'.hp (O.N+1)=some (.cells cs)
 e:O'.hp (O.N+2)=some (.cells [mi 0])
 w:O'.hp (O.N+3)=some (.cells [.str []])
 x:O'.hp (O.N+4)=some (.cells E)
theorem wE.ge {O O' O2:VH} {E cs:List MV} (h:wE O E O' cs) (k:O'.Ge O2):wE O E O2 cs:=by
 have h1:=h.lt;exact⟨fun i hi=>(k.hp i (by omega)).trans (h.vc i hi),ahL h1 k.N,k.at h.d,k.at h.e,k.at h.w,k.at h.x⟩
theorem wE.st {O O':VH} {E cs cs':List MV} (h:wE O E O' cs):wE O E (O'.set (O.N+1) (.cells cs')) cs':=
 ⟨fun i hi=>ω (h.vc i hi),h.lt,ρ _ _ _,ω h.e,ω h.w,ω h.x⟩
theorem wE.other {O O' O2:VH} {E cs:List MV} {k:Nat} {x:cg} (h:wE O E O' cs) (hk:O.N+5<=k) (bM:k<O'.N) (g:(O'.set k x).Ge O2):wE O E O2 cs:=by
 have h1:=h.lt;have e1:(O'.set k x).N=O'.N:=rfl;have h4:=g.N
 have key:∀j,j<O.N+5->O2.hp j=O'.hp j:=fun j hj=>by
  rw[g.hp j (by omega),π _ _ (by omega)]
 exact⟨fun i hi=>(key i (by omega)).trans (h.vc i hi),by omega,(key _ (by omega)).trans h.d,(key _ (by omega)).trans h.e,(key _ (by omega)).trans h.w,(key _ (by omega)).trans h.x⟩
theorem wE.akO {O O':VH} {E cs:List MV} {k:Nat} {x:cg} (h:wE O E O' cs) (hk:O.N+5<=k):wE O E (O'.set k x) cs:=
 ⟨fun i hi=>ω (h.vc i hi),h.lt,ω h.d,ω h.e,ω h.w,ω h.x⟩
theorem VC.rs {P:Program} {n:Sz} {D:List Deferred} {c:Code} {e:Env} {Q:VQ} {O O':VH} {E cs cs':List MV} (h:wE O E O' cs) (k:∀O3,wE O E O3 cs'->VC P n D c e O3 Q):VC P n D c e (O'.set (O.N+1) (.cells cs')) Q:=k _ h.st
def wF (x:Nd) (w:Bs):Except (Int×Bs) (List Dp):=
 match cH x w sL with
 | .error e=>.error e
 | .ok ((_,_),false)=>.ok []
 | .ok ((y,wy),true)=>mA y wy true
def wG (x:Nd) (w:Bs):Except (Int×Bs) (Bool×Gv):=
 match cH x w v7 with
 | .error e=>.error e
 | .ok ((_,_),false)=>.ok (false,⟨[],[],[]⟩)
 | .ok ((y,wy),true)=>match bX y wy eE true fw with
   | .error e=>.error e
   | .ok g=>match bX y wy eo true fw with
     | .error e=>.error e
     | .ok a=>match bX y wy fS true vY with
       | .error e=>.error e
       | .ok v=>.ok (true,⟨g,a,v⟩)
def pN (x:Nd):Except (Int×Bs) Pm:=
 bif x.nm==gZ then match wG x x.nm with
  | .error e=>.error e
  | .ok p=>match bX x x.nm eE false ee with
  | .error e=>.error e
  | .ok g=>match bX x x.nm eo true ee with
  | .error e=>.error e
  | .ok a=>match bX x x.nm fS false ee with
  | .error e=>.error e
  | .ok v=>match bX x x.nm yB false ee with
  | .error e=>.error e
  | .ok k=>match lU x x.nm with
  | .error e=>.error e
  | .ok P=>match wF x x.nm with
  | .error e=>.error e
  | .ok M=>match mA x x.nm false with
  | .error e=>.error e
  | .ok D=>.ok ⟨p.1,p.2,g,a,v,k,P,M,D⟩
 else .error (20,x.nm)
def Bl:Pm:=⟨false,⟨[],[],[]⟩,[],[],[],[],[],[],[]⟩
theorem afe (x:Nd) (O:VH) (hx:k7 x<=1000000):VF Tryz.prog 244 [.agg (dK x)] O (aD fun m O'=>O.Ge O'/\match pN x with
  | .ok p=>m= .tuple [.agg (gU p),mi 0,.str []]
  | .error e=>m= .tuple [.agg (gU Bl),mi e.1,.str e.2]):=by
 refine VF.fg ?_;obtain⟨zn,za,de,zt⟩:=x;have sb:=qK (.mk zn za de zt) zn;have hfp:=sO (.mk zn za de zt) zn v7;have hfm:=sO (.mk zn za de zt) zn sL;have R_:=abi (.mk zn za de zt) zn;have Bd:=Us (.mk zn za de zt) zn false;obtain⟨PE,hP⟩:∃PE,pN (.mk zn za de zt)=PE:=⟨_,rfl⟩
 rw[hP];unfold pN at hP;simp only[k6,dK,adY,adX]at sb hfp hfm R_ Bd ⊢;simp only[Nd.nm]at hP;refine VF.deferred (lo:=5) (k:=64) (rs:=[.cell 2 86,.cell 3 87,.cell 4 9]) Tryz.func244 (Enters.sH (by kernel_rfl)) ?_;simp only[cK,ajl,Nat.reduceAdd];refine ab @b9 ?_;refine⟨_,rfl,fun D=>?_⟩;refine VC.gen ?_;rintro O1 sT;obtain⟨aI,cW,cz,cD,eS,n7⟩:=F6 _ _ _ _ sT;clear sT;refine θ (aG @b9 @wd @cz ?_);refine VC.al ?_;rintro O2 ⟨aB,bM,eZ⟩;rw[cW]at bM ⊢
 have hd:wE O [.str zn,.sl za.length (za.flatMap bm) .au,.sl de.length (aC de) .au,.str zt,.str zn] O2 fB:=
  ⟨fun i hi=>aB.at (aI.hp i hi),by omega,aB.at cD,aB.at eS,aB.at n7,bM⟩
 have tG:=aB.at cz;clear aI aB cW eZ bM cz cD eS n7 O1;cases hb:zn==gZ
 ·rw[hb,cond_false]at hP;rw[<-hP];have nC:(zn != [112,114,111,106,101,99,116])=true:=by rw[bne];simp only[gZ]at hb;rw[hb];rfl
  simp only[gZ]at hb;refine θ (iN @b9 @wd @tG @hb @nC ?_);refine ah.p (mI _ _ _) ?_ ?_
  ·rintro m O9 ⟨_,h⟩;exact h.elim
  rintro m O9 ⟨rfl,rfl⟩;refine ao @b9 @wd ?_;refine jM hd.d hd.e hd.w (by have:=hd.lt;omega) (by have:=hd.lt;omega) (by have:=hd.lt;omega) (by omega) (by omega) (by omega) ?_;intro O5 eU oK dS du gd;simp only[aq]at du;refine iN @b9 @wd @dS @du @gd ?_;exact⟨⟨by have:=hd.lt;omega,fun i hi=>by rw[oK i (by have:=hd.lt;omega) (by omega) (by omega) (by omega)];exact hd.vc i hi⟩,rfl⟩
 rw[hb,cond_true]at hP;have hw:zn.length<=10000:=by rw[eq_of_beq hb];decide
 have hw3:zn.length<=3000:=by rw[eq_of_beq hb];decide
 have nC:(zn != [112,114,111,106,101,99,116])=false:=by rw[bne];simp only[gZ]at hb;rw[hb];rfl
 simp only[gZ]at hb;refine θ (iN @b9 @wd @tG @hb @nC ?_);clear hb nC tG;refine Θ [1,2,3,4,5] (fun _:Bool×Gv=>[.ptr O.N 0,.ptr (O.N+1) 0,.ptr (O.N+2) 0,.ptr (O.N+3) 0,.ptr (O.N+4) 0]) (fun p O'=>wE O [.str zn,.sl za.length (za.flatMap bm) .au,.sl de.length (aC de) .au,.str zt,.str zn] O' [mb p.1,.str p.2.g,.str p.2.a,.str p.2.v,.str [],.str [],.str [],.str [],.sl 0 [] .nil,.sl 0 [] .nil,.sl 0 [] .nil]/\wG (.mk zn za de zt) zn= .ok p) ?_ ?_
 ·have wc:= @sQ (.mk zn za de zt) zn v7;have we:∀e,cH (.mk zn za de zt) zn v7= .error e->wG (.mk zn za de zt) zn= .error e:=fun e h=>by unfold wG;rw[h]
  have oH:∀y wy,cH (.mk zn za de zt) zn v7= .ok ((y,wy),false)->wG (.mk zn za de zt) zn= .ok (false,⟨[],[],[]⟩):=fun y wy h=>by unfold wG;rw[h]
  have jq:∀y wy,cH (.mk zn za de zt) zn v7= .ok ((y,wy),true)->wG (.mk zn za de zt) zn=match bX y wy eE true fw with
   | .error e=>.error e
   | .ok g=>match bX y wy eo true fw with
     | .error e=>.error e
     | .ok a=>match bX y wy fS true vY with
       | .error e=>.error e
       | .ok v=>.ok (true,⟨g,a,v⟩):=fun y wy h=>by unfold wG;rw[h]
  generalize wG (.mk zn za de zt) zn=QE at*;generalize cH (.mk zn za de zt) zn v7=F at*;have e_:=hd.x;refine θ (aG @b9 @wd @e_ ?_);refine ah.p (hfp O2 (by have:=kG (.mk zn za de zt);omega) (by omega) (by decide)) ?_ ?_;rotate_left
  ·rintro m O9 ⟨bj,h⟩;have bN:=hd.ge bj;cases F with
   | ok y=>exact h.elim
   | error e=>
     dsimp only at h;rw[we e rfl]at hP;dsimp only at hP;rw[h, <-hP];refine ao @b9 @wd ?_;refine jM bN.d bN.e bN.w (by have:=bN.lt;omega) (by have:=bN.lt;omega) (by have:=bN.lt;omega) (by omega) (by omega) (by omega) ?_;intro O5 eU oK dS du gd;simp only[aq]at du;refine iN @b9 @wd @dS @du @gd ?_;exact⟨⟨by have:=bN.lt;omega,fun i hi=>by rw[oK i (by have:=bN.lt;omega) (by omega) (by omega) (by omega)];exact bN.vc i hi⟩,rfl⟩
  rintro m O3 ⟨aH,h⟩;cases F with
  | error e=>exact h.elim
  | ok y=>
  obtain⟨⟨y,wy⟩,b⟩:=y;dsimp only at h;subst h;obtain⟨hyW,wg⟩:=wc rfl;have oI:wy.length<=10000:=by rw[wg];simp only[Qm,zP,Zj];omega
  have hyX:k7 y<=1000000:=by omega
  clear wc wg we
  replace jq:=fun h:b=true=>by subst h;exact jq y wy rfl
  replace oH:b=false->QE= .ok (false,⟨[],[],[]⟩):=fun h=>by subst h;exact oH y wy rfl
  have lJ:=fun O'=>qK y wy eE true fw 69 [] O' hyX oI (by decide) (by kernel_rfl) (fun s mz _ hs=>uc s mz (by simp only[maxLen];omega))
  have Bc:=fun O'=>qK y wy eo true fw 69 [] O' hyX oI (by decide) (by kernel_rfl) (fun s mz _ hs=>uc s mz (by simp only[maxLen];omega))
  have pO:=fun O'=>qK y wy fS true vY 70 [] O' hyX oI (by decide) (by kernel_rfl) (fun s mz _ hs=>Ry s mz (by simp only[maxLen];omega))
  generalize bX y wy eE true fw=W1 at*;generalize bX y wy eo true fw=W2 at*;generalize bX y wy fS true vY=W3 at*;obtain⟨yn,ya,yk,yt⟩:=y;simp only[k6,dK,adY,adX]at lJ Bc pO ⊢;have cB:=hd.ge aH;have n8:=cB.lt;refine ao @b9 @wd ?_;refine VC.al ?_;rintro O4 ⟨aY,lX,gO⟩;have dd:=cB.ge aY;clear hd cB aH aY e_;cases b
  ·rw[oH rfl]at hP ⊢;refine ο @b9 @wd ?_;exact aA.mk (false,⟨[],[],[]⟩) ⟨dd,rfl⟩
  replace jq:=jq rfl
  clear oH;have c_:=dd.d;refine ξ @b9 @wd ?_;refine ι (aG @b9 @wd @c_ ?_);have hbs:=dd.st (cs':=[.v (.bool true),.str [],.str [],.str [],.str [],.str [],.str [],.str [],.sl 0 [] .nil,.sl 0 [] .nil,.sl 0 [] .nil]);have hks:=(π O4 (.cells [.v (.bool true),.str [],.str [],.str [],.str [],.str [],.str [],.str [],.sl 0 [] .nil,.sl 0 [] .nil,.sl 0 [] .nil]) (by omega:O3.N≠O.N+1)).trans lX;have eU:(O4.set (O.N+1) (.cells [.v (.bool true),.str [],.str [],.str [],.str [],.str [],.str [],.str [],.sl 0 [] .nil,.sl 0 [] .nil,.sl 0 [] .nil])).N=O4.N:=rfl;clear c_ dd lX;generalize O4.set (O.N+1) (.cells [.v (.bool true),.str [],.str [],.str [],.str [],.str [],.str [],.str [],.sl 0 [] .nil,.sl 0 [] .nil,.sl 0 [] .nil])=O5 at*;refine VC.qw [7,8] (O3.N) (hks) ?_;intro X;refine ε (m:=.agg [.str yn,.sl ya.length (ya.flatMap bm) .au,.sl yk.length (aC yk) .au,.str yt,.str wy]) 0 ?_ ?_
  ·exact fU @b9
  simp only[ak];refine ε (m:=.agg [.str yn,.sl ya.length (ya.flatMap bm) .au,.sl yk.length (aC yk) .au,.str yt,.str wy]) 2 ?_ ?_
  ·exact fU @b9
  simp only[ak];refine ε (m:=.agg [.str yn,.sl ya.length (ya.flatMap bm) .au,.sl yk.length (aC yk) .au,.str yt,.str wy]) 4 ?_ ?_
  ·exact fU @b9
  simp only[ak];have HQ:=fun(O9:VH) (g:(O5.set O3.N (.obj X)).Ge O9)=>hbs.other (k:=O3.N) (x:=.obj X) (by omega) (by omega) g
  have il:∀O9,(O5.set O3.N (.obj X)).Ge O9->O9.hp O3.N=some (.obj X):=fun O9 g=>(g.hp _ (by show O3.N<O5.N;omega)).trans (ρ _ _ _)
  generalize O5.set O3.N (.obj X)=O6 at*;have hG:=VH.Ge.refl O6;refine ae.qM (i:=1) (lJ O6) ?_ ?_;rotate_left
  ·rintro m O9 ⟨bj,h⟩;cases W1 with
   | ok s=>exact h.elim
   | error e=>
     dsimp only at h jq;rw[jq]at hP;dsimp only at hP;rw[h, <-hP];have bN:=HQ _ (hG.trans bj);refine ao @b9 @wd ?_;refine jM bN.d bN.e bN.w (by have:=bN.lt;omega) (by have:=bN.lt;omega) (by have:=bN.lt;omega) (by omega) (by omega) (by omega) ?_;intro O5 eU oK dS du gd;simp only[aq]at du;refine iN @b9 @wd @dS @du @gd ?_;exact⟨⟨by have:=bN.lt;omega,fun i hi=>by rw[oK i (by have:=bN.lt;omega) (by omega) (by omega) (by omega)];exact bN.vc i hi⟩,rfl⟩
  rintro m O7 ⟨bj,h⟩;cases W1 with
  | error e=>exact h.elim
  | ok sg=>
  dsimp only at h jq;subst h;simp only[ak]
  replace hG:=hG.trans bj
  clear bj;refine⟨il _ hG,?_⟩;refine ae.qM (i:=3) (Bc O7) ?_ ?_;rotate_left
  ·rintro m O9 ⟨bj,h⟩;cases W2 with
   | ok s=>exact h.elim
   | error e=>
     dsimp only at h jq;rw[jq]at hP;dsimp only at hP;rw[h, <-hP];have bN:=HQ _ (hG.trans bj);refine ao @b9 @wd ?_;refine jM bN.d bN.e bN.w (by have:=bN.lt;omega) (by have:=bN.lt;omega) (by have:=bN.lt;omega) (by omega) (by omega) (by omega) ?_;intro O5 eU oK dS du gd;simp only[aq]at du;refine iN @b9 @wd @dS @du @gd ?_;exact⟨⟨by have:=bN.lt;omega,fun i hi=>by rw[oK i (by have:=bN.lt;omega) (by omega) (by omega) (by omega)];exact bN.vc i hi⟩,rfl⟩
  rintro m O8 ⟨bj,h⟩;cases W2 with
  | error e=>exact h.elim
  | ok sa=>
  dsimp only at h jq;subst h;simp only[ak]
  replace hG:=hG.trans bj
  clear bj;refine⟨il _ hG,?_⟩;refine ae.qM (i:=5) (pO O8) ?_ ?_;rotate_left
  ·rintro m O9 ⟨bj,h⟩;cases W3 with
   | ok s=>exact h.elim
   | error e=>
     dsimp only at h jq;rw[jq]at hP;dsimp only at hP;rw[h, <-hP];have bN:=HQ _ (hG.trans bj);refine ao @b9 @wd ?_;refine jM bN.d bN.e bN.w (by have:=bN.lt;omega) (by have:=bN.lt;omega) (by have:=bN.lt;omega) (by omega) (by omega) (by omega) ?_;intro O5 eU oK dS du gd;simp only[aq]at du;refine iN @b9 @wd @dS @du @gd ?_;exact⟨⟨by have:=bN.lt;omega,fun i hi=>by rw[oK i (by have:=bN.lt;omega) (by omega) (by omega) (by omega)];exact bN.vc i hi⟩,rfl⟩
  rintro m OF ⟨bj,h⟩;cases W3 with
  | error e=>exact h.elim
  | ok sv=>
  dsimp only at h jq;subst h;simp only[ak]
  replace hG:=hG.trans bj
  clear bj;refine⟨il _ hG,?_⟩;refine ae.ar 6 ?_;refine ab @b9 ?_;refine ae.nR [(7,.ar),(8,.one)] ?_;have bN:=(HQ _ hG).akO (k:=O3.N) (x:=.cells [.str yn,.sl ya.length (ya.flatMap bm) .au,.sl yk.length (aC yk) .au,.str yt,.str wy]) (by omega);have c_:=(HQ _ hG).d;have agL:=bN.st (cs':=[mb true,.str sg,.str sa,.str sv,.str [],.str [],.str [],.str [],.sl 0 [] .nil,.sl 0 [] .nil,.sl 0 [] .nil]);simp only[bw]at agL;refine aG @b9 @wd @c_ ?_;exact aA.mk (true,⟨sg,sa,sv⟩) ⟨agL,jq⟩
 rintro p O3 ⟨hd,hQ⟩;rw[hQ]at hP;dsimp only at hP;clear hQ hfp;have e_:=hd.x;have c_:=hd.d;refine θ (aG @b9 @wd @e_ ?_);refine ah.p (sb eE false ee 266 [] _ hx hw (by decide) (by kernel_rfl) (fun s O' _ _=>uh s O')) ?_ ?_;rotate_left
 ·rintro m O9 ⟨bj,h⟩;have bN:=hd.ge bj;cases hF:bX (.mk zn za de zt) zn eE false ee with
  | ok s=>rw[hF]at h;exact h.elim
  | error e=>
    rw[hF]at h hP;dsimp only at h hP;rw[h, <-hP];refine ao @b9 @wd ?_;refine jM bN.d bN.e bN.w (by have:=bN.lt;omega) (by have:=bN.lt;omega) (by have:=bN.lt;omega) (by omega) (by omega) (by omega) ?_;intro O5 eU oK dS du gd;simp only[aq]at du;refine iN @b9 @wd @dS @du @gd ?_;exact⟨⟨by have:=bN.lt;omega,fun i hi=>by rw[oK i (by have:=bN.lt;omega) (by omega) (by omega) (by omega)];exact bN.vc i hi⟩,rfl⟩
 rintro m O4 ⟨bj,h⟩;cases R1:bX (.mk zn za de zt) zn eE false ee with
 | error e=>rw[R1]at h;exact h.elim
 | ok s1=>
 rw[R1]at h hP;dsimp only at h hP;subst h;have hb:=hd.ge bj;clear bj hd;have c_:=hb.d;refine aG @b9 @wd @c_ ?_;refine VC.rs hb ?_;clear e_ c_ hb;intro _ hd;have e_:=hd.x;have c_:=hd.d;refine θ (aG @b9 @wd @e_ ?_);refine ah.p (sb eo true ee 266 [] _ hx hw (by decide) (by kernel_rfl) (fun s O' _ _=>uh s O')) ?_ ?_;rotate_left
 ·rintro m O9 ⟨bj,h⟩;have bN:=hd.ge bj;cases hF:bX (.mk zn za de zt) zn eo true ee with
  | ok s=>rw[hF]at h;exact h.elim
  | error e=>
    rw[hF]at h hP;dsimp only at h hP;rw[h, <-hP];refine ao @b9 @wd ?_;refine jM bN.d bN.e bN.w (by have:=bN.lt;omega) (by have:=bN.lt;omega) (by have:=bN.lt;omega) (by omega) (by omega) (by omega) ?_;intro O5 eU oK dS du gd;simp only[aq]at du;refine iN @b9 @wd @dS @du @gd ?_;exact⟨⟨by have:=bN.lt;omega,fun i hi=>by rw[oK i (by have:=bN.lt;omega) (by omega) (by omega) (by omega)];exact bN.vc i hi⟩,rfl⟩
 rintro m O5 ⟨bj,h⟩;cases KS:bX (.mk zn za de zt) zn eo true ee with
 | error e=>rw[KS]at h;exact h.elim
 | ok s2=>
 rw[KS]at h hP;dsimp only at h hP;subst h;have hb:=hd.ge bj;clear bj hd;have c_:=hb.d;refine aG @b9 @wd @c_ ?_;refine VC.rs hb ?_;clear e_ c_ hb;intro _ hd;have e_:=hd.x;have c_:=hd.d;refine θ (aG @b9 @wd @e_ ?_);refine ah.p (sb fS false ee 266 [] _ hx hw (by decide) (by kernel_rfl) (fun s O' _ _=>uh s O')) ?_ ?_;rotate_left
 ·rintro m O9 ⟨bj,h⟩;have bN:=hd.ge bj;cases hF:bX (.mk zn za de zt) zn fS false ee with
  | ok s=>rw[hF]at h;exact h.elim
  | error e=>
    rw[hF]at h hP;dsimp only at h hP;rw[h, <-hP];refine ao @b9 @wd ?_;refine jM bN.d bN.e bN.w (by have:=bN.lt;omega) (by have:=bN.lt;omega) (by have:=bN.lt;omega) (by omega) (by omega) (by omega) ?_;intro O5 eU oK dS du gd;simp only[aq]at du;refine iN @b9 @wd @dS @du @gd ?_;exact⟨⟨by have:=bN.lt;omega,fun i hi=>by rw[oK i (by have:=bN.lt;omega) (by omega) (by omega) (by omega)];exact bN.vc i hi⟩,rfl⟩
 rintro m O6 ⟨bj,h⟩;cases R3:bX (.mk zn za de zt) zn fS false ee with
 | error e=>rw[R3]at h;exact h.elim
 | ok s3=>
 rw[R3]at h hP;dsimp only at h hP;subst h;have hb:=hd.ge bj;clear bj hd;have c_:=hb.d;refine aG @b9 @wd @c_ ?_;refine VC.rs hb ?_;clear e_ c_ hb;intro _ hd;have e_:=hd.x;have c_:=hd.d;refine θ (aG @b9 @wd @e_ ?_);refine ah.p (sb yB false ee 266 [] _ hx hw (by decide) (by kernel_rfl) (fun s O' _ _=>uh s O')) ?_ ?_;rotate_left
 ·rintro m O9 ⟨bj,h⟩;have bN:=hd.ge bj;cases hF:bX (.mk zn za de zt) zn yB false ee with
  | ok s=>rw[hF]at h;exact h.elim
  | error e=>
    rw[hF]at h hP;dsimp only at h hP;rw[h, <-hP];refine ao @b9 @wd ?_;refine jM bN.d bN.e bN.w (by have:=bN.lt;omega) (by have:=bN.lt;omega) (by have:=bN.lt;omega) (by omega) (by omega) (by omega) ?_;intro O5 eU oK dS du gd;simp only[aq]at du;refine iN @b9 @wd @dS @du @gd ?_;exact⟨⟨by have:=bN.lt;omega,fun i hi=>by rw[oK i (by have:=bN.lt;omega) (by omega) (by omega) (by omega)];exact bN.vc i hi⟩,rfl⟩
 rintro m O7 ⟨bj,h⟩;cases hF4:bX (.mk zn za de zt) zn yB false ee with
 | error e=>rw[hF4]at h;exact h.elim
 | ok s4=>
 rw[hF4]at h hP;dsimp only at h hP;subst h;have hb:=hd.ge bj;clear bj hd;have c_:=hb.d;refine aG @b9 @wd @c_ ?_;refine VC.rs hb ?_;clear e_ c_ hb;intro _ hd;have e_:=hd.x;have c_:=hd.d;refine θ (aG @b9 @wd @e_ ?_);refine ah.p (R_ _ hx hw) ?_ ?_;rotate_left
 ·rintro m O9 ⟨bj,h⟩;have bN:=hd.ge bj;cases hF:lU (.mk zn za de zt) zn with
  | ok s=>rw[hF]at h;exact h.elim
  | error e=>
    rw[hF]at h hP;dsimp only at h hP;rw[h, <-hP];refine ao @b9 @wd ?_;refine jM bN.d bN.e bN.w (by have:=bN.lt;omega) (by have:=bN.lt;omega) (by have:=bN.lt;omega) (by omega) (by omega) (by omega) ?_;intro O5 eU oK dS du gd;simp only[aq]at du;refine iN @b9 @wd @dS @du @gd ?_;exact⟨⟨by have:=bN.lt;omega,fun i hi=>by rw[oK i (by have:=bN.lt;omega) (by omega) (by omega) (by omega)];exact bN.vc i hi⟩,rfl⟩
 rintro m O8 ⟨bj,h⟩;cases hFP:lU (.mk zn za de zt) zn with
 | error e=>rw[hFP]at h;exact h.elim
 | ok P=>
 rw[hFP]at h hP;dsimp only at h hP;have hb:=hd.ge bj;clear bj hd;have c_:=hb.d;obtain⟨tP,rfl⟩:=h;refine aG @b9 @wd @c_ ?_;refine VC.rs hb ?_;clear e_ c_ hb;intro O9 hd;refine Θ [1,2,3,4,5] (fun _:List Dp×Tok=>[.ptr O.N 0,.ptr (O.N+1) 0,.ptr (O.N+2) 0,.ptr (O.N+3) 0,.ptr (O.N+4) 0]) (fun x O'=>wE O [.str zn,.sl za.length (za.flatMap bm) .au,.sl de.length (aC de) .au,.str zt,.str zn] O' [mb p.1,.str p.2.g,.str p.2.a,.str p.2.v,.str s1,.str s2,.str s3,.str s4,.sl P.length (P.flatMap bm) tP,.sl x.1.length (x.1.flatMap aU) x.2,.sl 0 [] .nil]/\wF (.mk zn za de zt) zn= .ok x.1) ?_ ?_
 ·have wc:= @sQ (.mk zn za de zt) zn sL;have we:∀e,cH (.mk zn za de zt) zn sL= .error e->wF (.mk zn za de zt) zn= .error e:=fun e h=>by unfold wF;rw[h]
  have oH:∀y wy,cH (.mk zn za de zt) zn sL= .ok ((y,wy),false)->wF (.mk zn za de zt) zn= .ok []:=fun y wy h=>by unfold wF;rw[h]
  have jq:∀y wy,cH (.mk zn za de zt) zn sL= .ok ((y,wy),true)->wF (.mk zn za de zt) zn=mA y wy true:=fun y wy h=>by unfold wF;rw[h]
  generalize wF (.mk zn za de zt) zn=QE at*;generalize cH (.mk zn za de zt) zn sL=F at*;have e_:=hd.x;have c_:=hd.d;refine θ (aG @b9 @wd @e_ ?_);refine ah.p (hfm _ (by have:=kG (.mk zn za de zt);omega) (by omega) (by decide)) ?_ ?_;rotate_left
  ·rintro m O9 ⟨bj,h⟩;have bN:=hd.ge bj;cases F with
   | ok y=>exact h.elim
   | error e=>
     dsimp only at h;rw[we e rfl]at hP;dsimp only at hP;rw[h, <-hP];refine ao @b9 @wd ?_;refine jM bN.d bN.e bN.w (by have:=bN.lt;omega) (by have:=bN.lt;omega) (by have:=bN.lt;omega) (by omega) (by omega) (by omega) ?_;intro O5 eU oK dS du gd;simp only[aq]at du;refine iN @b9 @wd @dS @du @gd ?_;exact⟨⟨by have:=bN.lt;omega,fun i hi=>by rw[oK i (by have:=bN.lt;omega) (by omega) (by omega) (by omega)];exact bN.vc i hi⟩,rfl⟩
  rintro m O3 ⟨aH,h⟩;cases F with
  | error e=>exact h.elim
  | ok y=>
  obtain⟨⟨y,wy⟩,b⟩:=y;dsimp only at h;subst h;obtain⟨hyW,wg⟩:=wc rfl;have oI:wy.length<=4000:=by rw[wg];simp only[Qm,zP,Zj];omega
  have hyX:k7 y<=1000000:=by omega
  clear wc wg we
  replace jq:=fun h:b=true=>by subst h;exact jq y wy rfl
  replace oH:b=false->QE= .ok []:=fun h=>by subst h;exact oH y wy rfl
  have lJ:=fun O'=>Us y wy true O' hyX oI
  generalize mA y wy true=W1 at*;obtain⟨yn,ya,yk,yt⟩:=y;simp only[k6,dK,adY,adX]at lJ ⊢;have cB:=hd.ge aH;have n8:=cB.lt;refine ao @b9 @wd ?_;refine VC.al ?_;rintro O4 ⟨aY,lX,gO⟩;have dd:=cB.ge aY;clear hd cB aH aY e_;cases b
  ·rw[oH rfl]at hP ⊢;refine ο @b9 @wd ?_;exact aA.mk ([],.nil) ⟨dd,rfl⟩
  replace jq:=jq rfl
  clear oH;subst jq;refine ξ @b9 @wd ?_;refine ι (aG @b9 @wd @lX ?_);refine ah.p (lJ O4) ?_ ?_;rotate_left
  ·rintro m O9 ⟨bj,h⟩;have bN:=dd.ge bj;cases QE with
   | ok s=>exact h.elim
   | error e=>
     dsimp only at h hP;rw[h, <-hP];refine ao @b9 @wd ?_;refine jM bN.d bN.e bN.w (by have:=bN.lt;omega) (by have:=bN.lt;omega) (by have:=bN.lt;omega) (by omega) (by omega) (by omega) ?_;intro O5 eU oK dS du gd;simp only[aq]at du;refine iN @b9 @wd @dS @du @gd ?_;exact⟨⟨by have:=bN.lt;omega,fun i hi=>by rw[oK i (by have:=bN.lt;omega) (by omega) (by omega) (by omega)];exact bN.vc i hi⟩,rfl⟩
  rintro m O5 ⟨bD,h⟩;cases QE with
  | error e=>exact h.elim
  | ok M=>
  dsimp only at h;obtain⟨tM,rfl⟩:=h;have du:=dd.ge bD;have c_:=du.d;have hbs:=du.st (cs':=[mb p.1,.str p.2.g,.str p.2.a,.str p.2.v,.str s1,.str s2,.str s3,.str s4,.sl P.length (P.flatMap bm) tP,.sl M.length (M.flatMap aU) tM,.sl 0 [] .nil]);simp only[bw]at hbs c_;refine aG @b9 @wd @c_ ?_;exact aA.mk (M,tM) ⟨hbs,rfl⟩
 rintro⟨M,tM⟩ OA ⟨hd,hM⟩;rw[hM]at hP;dsimp only at hP hd;have e_:=hd.x;refine θ (aG @b9 @wd @e_ ?_);refine ah.p (Bd _ hx (by omega)) ?_ ?_;rotate_left
 ·rintro m O9 ⟨bj,h⟩;have bN:=hd.ge bj;cases hF:mA (.mk zn za de zt) zn false with
  | ok s=>rw[hF]at h;exact h.elim
  | error e=>
    rw[hF]at h hP;dsimp only at h hP;rw[h, <-hP];refine ao @b9 @wd ?_;refine jM bN.d bN.e bN.w (by have:=bN.lt;omega) (by have:=bN.lt;omega) (by have:=bN.lt;omega) (by omega) (by omega) (by omega) ?_;intro O5 eU oK dS du gd;simp only[aq]at du;refine iN @b9 @wd @dS @du @gd ?_;exact⟨⟨by have:=bN.lt;omega,fun i hi=>by rw[oK i (by have:=bN.lt;omega) (by omega) (by omega) (by omega)];exact bN.vc i hi⟩,rfl⟩
 rintro m OB ⟨bj,h⟩;cases agM:mA (.mk zn za de zt) zn false with
 | error e=>rw[agM]at h;exact h.elim
 | ok DD=>
 rw[agM]at h hP;dsimp only at h hP;have hb:=hd.ge bj;clear bj hd;have c_:=hb.d;obtain⟨tD,rfl⟩:=h;simp only[bw]at c_;refine aG @b9 @wd @c_ ?_;rw[<-hP];refine VC.rs hb ?_;clear e_ c_ hb;intro O9 hd;have c_:=hd.d;have hbe:=hd.e;have hbw:=hd.w;have hl9:=hd.lt;simp only[aq]at hbe;refine θ (iN @b9 @wd @c_ @hbe @hbw ?_);refine ο @b9 @wd ?_;refine abE ?_;refine iN @b9 @wd @c_ @hbe @hbw ?_;refine⟨⟨by show O.N<=O9.N;omega,fun i hi=>?_⟩,?_⟩
 ·rw[π _ _ (by omega),π _ _ (by omega),π _ _ (by omega)];exact hd.vc i hi
 ·simp only[gU,wu,gH,lO,bw]
section
variable {P:Program} {n:Sz} {D:List Deferred} {e:Env} {O:VH}
theorem o_ {d:Option Tmp} {t t' ty el:TypeId} {x:Operand} {ps:String} {af:Array Edge} {g:Option (Nat×Bool)} {k:Nat} {cs:List MV} {tk:Tok} (hu:P.underlying t=some (.slice el)) (hx:ev e x=some (.sl k cs tk)):
  gD P n D (.mk d (.binOp .eql t x (.const (.slice none 0 0)) t') ty ps af g) e O fun m O'=>O'=O/\∃b,m= .v (.bool b)/\(b=true->k=0/\cs=[]):=by
 intro G a w hw hf;have h1:=hf.ev hx;have hc:a.eval (.const (.slice none 0 0))= .slice none 0 0:=rfl
 have key:∀(A:Option Addr) (l c:Nat),a.eval x= .slice A l c->(A=none->k=0/\cs=[])->∃m O' u w' H,(O'=O/\∃b,m= .v (.bool b)/\(b=true->k=0/\cs=[]))/\(execOp a.eval (.mk d (.binOp .eql t x (.const (.slice none 0 0)) t') ty ps af g)).run P w= .ok (.value u) w'/\Gh.Le G H/\WR H O' w'/\VR H m u:=fun A l c ha hA=>by
  refine⟨.v (.bool A.isNone),O,.bool A.isNone,w,G,⟨rfl,_,rfl,fun h=>hA (by cases A<;>first | rfl | cases h)⟩,?_,Gh.Le.refl G,hw,.v rfl⟩;have hgd:(eqGuard .eql t x (.const (.slice none 0 0)) (.slice A l c) (.slice none 0 0)).run P w= .ok () w:=by simp[eqGuard]
  simp only[execOp,ha,hc,Sem.run_bind,hgd,Result.andThen_ok,run_eql_slice_nil w t el A l c hu];rfl
 generalize hv:a.eval x=v at h1;cases h1 with
 | slnil=>exact key none 0 0 hv fun _=>⟨rfl,rfl⟩
 | pr h=>exact key _ _ _ hv fun _=>⟨rfl,rfl⟩
 | kS=>exact key none 0 0 hv fun _=>⟨rfl,rfl⟩
 | sl h1 h2 h3 h4 h5 h6=>exact key _ _ _ hv fun h=>by cases h
end
theorem ns {tab:cj} {op:BinOp} {t:TypeId} {n:Nat} {cs:List MV} {tk:Tok} {y:MV}:dw tab op t (.sl n cs tk) y=none:=rfl
theorem XY (x:Gv):(bZ x).length=3:=rfl
theorem XZ (L:List Gv):c7 (L.flatMap bZ)=L.flatMap bZ:=j9 (fun x=>by simp only[bZ,wu]) L
theorem VF.X5 {P:Program} {f:FuncId} {VP:List MV} {O:VH} {Φ Ψ :MV->VH->Prop} (h:VF P f VP O (aD Φ)) (hw:∀m O', Φ m O'->∃m',Wk m m'/\ Ψ m' O'):VF P f VP O (aD Ψ):=fun G w vs Ew hv=>by
 refine(h G w vs Ew hv).mono ?_;rintro x w' ⟨r,O',H,h1,h2,h3,h4⟩;cases r with
 | ret m=>cases x with
   | returned v=>
     obtain⟨m',k1,k2⟩:=hw m O' h4;exact⟨.ret m',O',H,h1,h2,k1 H v h3,k2⟩
   | _=>exact h3.elim
 | panic m=>exact h4.elim
set_option linter.defProp false in
def kE:=agc b9<|agc yz AO
theorem Cl (L:List (Bs×Bs)) (tk:Tok) (O:VH) (hn:L.length<=100000):VF Tryz.prog 127 [.sl L.length (L.flatMap bm) tk] O (aD fun m O'=>∃t,m= .sl L.length (L.flatMap bm) t/\App O' O.N 2 t/\O.Ge O'):=by
 have dH:=aV fK L;refine Δ 8 [.tmp 2] Tryz.func127 ?_;refine ao @kE @ns ?_;refine VL.pE (o_ Tryz.underlying84 rfl) ?_;rintro _ O1 ⟨eO,b,rfl,hb⟩;rw[eO];clear eO O1
 refine WL.sound aa ?_;cases b
 ·refine ab @kE ?_;by_cases h0:L.length=0
  ·have hL:L=[]:=ahK h0;subst hL;refine VL.app (m:=.sl 0 [] .full) (O':=O) (by simp[iy,KG,C_.1.1]) ?_ (ht:=aa) (hx:=rfl) (hy:=rfl);refine ab @kE ?_;exact⟨.full,rfl,trivial,VH.Ge.refl _⟩
  ·have iz:(L.flatMap bm).all ec=true:=by
    rw[ajq,ajr];intro p _;rfl
   have j5:=aR (tk:=.full) (tk':=tk) (B:=O.N) (n:=0) (k:=L.length) (cs:=[]) (ds:=L.flatMap bm) KG C_.1.1 (O:=O) trivial rfl dH iz (by decide) h0 (by omega) (by simp[maxLen];omega);rw[ajl,adX]at j5;refine η j5 (by rw[qy,gH]) ?_;refine ab @kE ?_;exact⟨_,rfl,App.after (ahO _),b_.B9 (tk:=.full) (sz:=2) trivial (b_.after (sz:=2) (B:=0) trivial)⟩
 ·obtain⟨h0,h1⟩:=hb rfl;rw[h0,h1];refine ab @kE ?_;exact⟨.nil,rfl,trivial,VH.Ge.refl _⟩
theorem Gj (L:List (Bs×Bs)) (tk:Tok) (O:VH) (hn:L.length<=100000):VF Tryz.prog 127 [.sl L.length (L.flatMap bm) tk] O (aD fun m O'=>m= .sl L.length (L.flatMap bm) .au/\O.Ge O'):=
 VF.X5 (Cl L tk O hn) fun m O' ⟨t,h1,h2,h3⟩=>⟨_,h1▸Wk.tok,rfl,h3⟩
theorem X6 (L:List (Dp)) (tk:Tok) (O:VH) (hn:L.length<=100000):VF Tryz.prog 128 [.sl L.length (L.flatMap aU) tk] O (aD fun m O'=>∃t,m= .sl L.length (L.flatMap aU) t/\App O' O.N 8 t/\O.Ge O'):=by
 have dH:=aV gT L;refine Δ 8 [.tmp 2] Tryz.func128 ?_;refine ao @kE @ns ?_;refine VL.pE (o_ Tryz.underlying83 rfl) ?_;rintro _ O1 ⟨eO,b,rfl,hb⟩;rw[eO];clear eO O1
 refine WL.sound aa ?_;cases b
 ·refine ab @kE ?_;by_cases h0:L.length=0
  ·have hL:L=[]:=ahK h0;subst hL;refine VL.app (m:=.sl 0 [] .full) (O':=O) (by simp[iy,FE,B7.1.1]) ?_ (ht:=aa) (hx:=rfl) (hy:=rfl);refine ab @kE ?_;exact⟨.full,rfl,trivial,VH.Ge.refl _⟩
  ·have iz:(L.flatMap aU).all ec=true:=by
    rw[ajq,ajr];intro p _;rfl
   have j5:=aR (tk:=.full) (tk':=tk) (B:=O.N) (n:=0) (k:=L.length) (cs:=[]) (ds:=L.flatMap aU) FE B7.1.1 (O:=O) trivial rfl dH iz (by decide) h0 (by omega) (by simp[maxLen];omega);rw[ajl,adX]at j5;refine η j5 (by rw[qy,lO]) ?_;refine ab @kE ?_;exact⟨_,rfl,App.after (ahO _),b_.B9 (tk:=.full) (sz:=8) trivial (b_.after (sz:=8) (B:=0) trivial)⟩
 ·obtain⟨h0,h1⟩:=hb rfl;rw[h0,h1];refine ab @kE ?_;exact⟨.nil,rfl,trivial,VH.Ge.refl _⟩
theorem Sa (L:List (Dp)) (tk:Tok) (O:VH) (hn:L.length<=100000):VF Tryz.prog 128 [.sl L.length (L.flatMap aU) tk] O (aD fun m O'=>m= .sl L.length (L.flatMap aU) .au/\O.Ge O'):=
 VF.X5 (X6 L tk O hn) fun m O' ⟨t,h1,h2,h3⟩=>⟨_,h1▸Wk.tok,rfl,h3⟩
theorem X7 (L:List (gx)) (tk:Tok) (O:VH) (hn:L.length<=100000):VF Tryz.prog 130 [.sl L.length (L.flatMap cn) tk] O (aD fun m O'=>∃t,m= .sl L.length (L.flatMap cn) t/\App O' O.N 2 t/\O.Ge O'):=by
 have dH:=aV nV L;refine Δ 8 [.tmp 2] Tryz.func130 ?_;refine ao @kE @ns ?_;refine VL.pE (o_ Tryz.underlying54 rfl) ?_;rintro _ O1 ⟨eO,b,rfl,hb⟩;rw[eO];clear eO O1
 refine WL.sound aa ?_;cases b
 ·refine ab @kE ?_;by_cases h0:L.length=0
  ·have hL:L=[]:=ahK h0;subst hL;refine VL.app (m:=.sl 0 [] .full) (O':=O) (by simp[iy,FD,C9.1.1]) ?_ (ht:=aa) (hx:=rfl) (hy:=rfl);refine ab @kE ?_;exact⟨.full,rfl,trivial,VH.Ge.refl _⟩
  ·have iz:(L.flatMap cn).all ec=true:=by
    rw[ajq,ajr];intro p _;rfl
   have j5:=aR (tk:=.full) (tk':=tk) (B:=O.N) (n:=0) (k:=L.length) (cs:=[]) (ds:=L.flatMap cn) FD C9.1.1 (O:=O) trivial rfl dH iz (by decide) h0 (by omega) (by simp[maxLen];omega);rw[ajl,adX]at j5;refine η j5 (by rw[qy,nW]) ?_;refine ab @kE ?_;exact⟨_,rfl,App.after (ahO _),b_.B9 (tk:=.full) (sz:=2) trivial (b_.after (sz:=2) (B:=0) trivial)⟩
 ·obtain⟨h0,h1⟩:=hb rfl;rw[h0,h1];refine ab @kE ?_;exact⟨.nil,rfl,trivial,VH.Ge.refl _⟩
theorem um (L:List (gx)) (tk:Tok) (O:VH) (hn:L.length<=100000):VF Tryz.prog 130 [.sl L.length (L.flatMap cn) tk] O (aD fun m O'=>m= .sl L.length (L.flatMap cn) .au/\O.Ge O'):=
 VF.X5 (X7 L tk O hn) fun m O' ⟨t,h1,h2,h3⟩=>⟨_,h1▸Wk.tok,rfl,h3⟩
theorem xH (L:List (Gv)) (tk:Tok) (O:VH) (hn:L.length<=100000):VF Tryz.prog 134 [.sl L.length (L.flatMap bZ) tk] O (aD fun m O'=>∃t,m= .sl L.length (L.flatMap bZ) t/\App O' O.N 3 t/\O.Ge O'):=by
 have dH:=aV XY L;refine Δ 8 [.tmp 2] Tryz.func134 ?_;refine ao @kE @ns ?_;refine VL.pE (o_ Tryz.underlying258 rfl) ?_;rintro _ O1 ⟨eO,b,rfl,hb⟩;rw[eO];clear eO O1
 refine WL.sound aa ?_;cases b
 ·refine ab @kE ?_;by_cases h0:L.length=0
  ·have hL:L=[]:=ahK h0;subst hL;refine VL.app (m:=.sl 0 [] .full) (O':=O) (by simp[iy,yz,AO.1.1]) ?_ (ht:=aa) (hx:=rfl) (hy:=rfl);refine ab @kE ?_;exact⟨.full,rfl,trivial,VH.Ge.refl _⟩
  ·have iz:(L.flatMap bZ).all ec=true:=by
    rw[ajq,ajr];intro p _;rfl
   have j5:=aR (tk:=.full) (tk':=tk) (B:=O.N) (n:=0) (k:=L.length) (cs:=[]) (ds:=L.flatMap bZ) yz AO.1.1 (O:=O) trivial rfl dH iz (by decide) h0 (by omega) (by simp[maxLen];omega);rw[ajl,adX]at j5;refine η j5 (by rw[qy,XZ]) ?_;refine ab @kE ?_;exact⟨_,rfl,App.after (ahO _),b_.B9 (tk:=.full) (sz:=3) trivial (b_.after (sz:=3) (B:=0) trivial)⟩
 ·obtain⟨h0,h1⟩:=hb rfl;rw[h0,h1];refine ab @kE ?_;exact⟨.nil,rfl,trivial,VH.Ge.refl _⟩
theorem Gk (L:List Dp) (tk:Tok) (O:VH) (hn:L.length<=100000):VF Tryz.prog 128 [.sl L.length (L.flatMap aU) tk] O (aD fun m O'=>O.Ge O'/\GR O' 56 8 O.N m L.length (L.flatMap aU)):=by
 have dH:=aV gT L
 have iz:(L.flatMap aU).all ec=true:=by
  rw[ajq,ajr];intro p _;rfl
 refine Δ 8 [.tmp 2] Tryz.func128 ?_;refine ao @kE @ns ?_;refine VL.pE (o_ Tryz.underlying83 rfl) ?_;rintro _ O1 ⟨eO,b,rfl,hb⟩;rw[eO];clear eO O1
 refine WL.sound aa ?_;cases b
 ·refine ab @kE ?_;refine VL.grow aa (.inl rfl) (te:=⟨_,8,_,_⟩) (B:=O.N) (n':=0) (L:=[]) (dx:=.slice 56) (p:=.sl 0 [] .full) (q:=.sl L.length (L.flatMap aU) tk) (j:=L.length) (ds:=L.flatMap aU) (.inl ⟨rfl,rfl,.inr rfl⟩) (by simp[Ax,dH]) iz (by rw[FE];rfl) B7.1.1 (by rw[FE];rfl) trivial (by dsimp only;omega) (by simp only[maxLen];omega) (ahO _) rfl rfl rfl rfl ?_;intro m O' h1 h2 h3 h4;rw[ajl,adX]at h1;refine ab @kE ?_;exact⟨h3 rfl,h1⟩
 ·obtain⟨h0,h1⟩:=hb rfl;rw[h0,h1];refine ab @kE ?_;exact⟨VH.Ge.refl _,.inl ⟨rfl,rfl,.inl rfl⟩⟩
theorem Cm:laidOutB Tryz.prog=true:=by kernel_rfl
theorem wH:uL Tryz.prog 60 3:=uL.sH Cm (by kernel_rfl)
theorem Dh:uL Tryz.prog 150 2:=uL.sH Cm (by kernel_rfl)
theorem oL:uL Tryz.prog 40 4:=uL.sH Cm (by kernel_rfl)
set_option linter.defProp false in
def Di:=agc fc<|agc T82<|agc T50<|agc T74<|agc T75<|agc Uf<|agc agn rL
theorem aiz (x:Gv) (O:VH):VF Tryz.prog 53 [.agg (bZ x)] O (aD fun m O'=>m= .agg (cn ⟨x.g,x.a⟩)/\O.Ge O'):=by
 obtain⟨g,a,v⟩:=x;have hg:=((VH.Ge.refl O).push (.cells [.str g,.str a,.str v])).push (.cells [.str [],.str []]);unfold bZ cn;refine Δ 8 [.cell 2 150] Tryz.func53 ?_;refine ab @Di ?_;exact hg.set (Nat.le_succ _) _
def fa (x:Gv):List Bs:=[x.g,x.a,x.v]
def Bm (x:gx):List Bs:=[x.g,x.a]
theorem aff (x:Gv):bZ x=(fa x).map .str:=rfl
def uo (x:Gv):Prop:=x.g.length<=maxLen/\x.a.length<=maxLen/\x.v.length<=maxLen
theorem wI {x:Gv} (h:uo x):∀s∈fa x,s.length<=maxLen:=by
 intro s hs;simp only[fa,adW,adZ,or_false]at hs;rcases hs with rfl | rfl | rfl
 ·exact h.1
 ·exact h.2.1
 ·exact h.2.2
structure HU (O:VH) (k ke kv:Nat) (E:fG) (ce:Nat) (V:fG) (cv:Nat) (r a:Int):Prop where
 cell:O.hp k=some (.cells [.map ke,.map kv,mi r,mi a])
 Dj:O.hp ke=some (.map (cP E) ce)
 Jg:O.hp kv=some (.map (cP V) cv)
 Ol:nT 3 E
 vok:nT 2 V
 ptr:∀p∈E,∃q,p.2.1= .ptr q 0
 lt:k<O.N/\ke<O.N/\kv<O.N
 ne:k≠ke/\k≠kv/\ke≠kv
def Cn (E:fG) (x:Gv):Bool:=(iC (fa x) E).isSome
theorem abF {E:fG} (h:∀p∈E,∃q,p.2.1=MV.ptr q 0) {l:List Bs} {m:MV} (hl:iC l E=some m):∃q,m= .ptr q 0:=by
 unfold iC at hl;obtain⟨p,h1,rfl⟩:=Option.map_eq_some_iff.1 hl;exact h p (List.mem_of_find?_eq_some h1)
theorem Uw {O:VH} {k ke kv ce cv:Nat} {E V:fG} {r a:Int} (h:HU O k ke kv E ce V cv r a) (x:Gv) (hx:uo x):VF Tryz.prog 52 [.ptr k 0,.agg (bZ x)] O (aD fun m O'=>m=mb (Cn E x)/\O.Ge O'):=by
 have hl:=wI hx;have xU:=h.cell;simp only[aq]at xU;unfold Cn;rw[aff];generalize hL:fa x=L at*;have pH:L.length=3:=by rw[<-hL];rfl
 obtain⟨g,a',v⟩:=x;have hLc:L.map MV.str=[.str g,.str a',.str v]:=by rw[<-hL];rfl
 rw[hLc];refine υ 16 [.tmp 4] Tryz.func52 ?_;refine κ @Di ?_;refine VC.bx ?_;rintro O1 ⟨aI,cA,cW⟩;have akP:=(aI.hp _ h.lt.1).trans xU;have akQ:=(aI.hp _ h.lt.2.1).trans h.Dj;refine χ ?_;refine WC.bP (.held []) [(0,.rd),(1,.rd),(2,.rd),(3,.rd),(4,.rd),(5,.rd),(6,.rd),(7,.rd),(8,.rd),(9,.rd),(10,.rd),(11,.rd)] ?_;refine aG @Di @akP @cA ?_;refine VL.hold (.inr rfl) rfl rfl (δ wH aa (l:=L) (te:=⟨_,1,8,[.v (.pointer none)]⟩) Tryz.underlying74 Uf rfl rfl akQ h.Ol (by rw[hLc];rfl) pH hl) (WL.sound aa ?_);cases eD:iC L E with
 | none=>
   refine ab @Di ?_;refine ν @Di ?_;exact aI
 | some m=>
   obtain⟨p,rfl⟩:=abF h.ptr eD;refine ab @Di ?_;refine ν @Di ?_;exact aI
section
variable {G H:Gh} {n:Sz} {D:List Deferred} {e e':Env} {a:Act} {P:Program} {tab:cj} {O O':VH} {w:World} {m m':MV} {u v:Value} {ops:Array Oper} {Q:VQ} {md:Md}
def Sb (G:Gh):List Deferred->List (FuncId×List MV)->Prop
 | [],[]=>True
 | d::D,p::ds=>(∃us:List Value,d={target:=.fn (.func p.1) #[],args:=us.toArray}/\aQ G p.2 us)/\Sb G D ds
 | _,_=>False
theorem Sb.mono (h:G.Le H):∀{D:List Deferred} {ds:List (FuncId×List MV)},Sb G D ds->Sb H D ds
 | [],[],_=>trivial
 | _::_,_::_,⟨⟨us,h1,h2⟩,h3⟩=>⟨⟨us,h1,h2.mono h⟩,h3.mono h⟩
 | [],_::_,h=>h.elim
 | _::_,[],h=>h.elim
def Om (P:Program):List (FuncId×List MV)->VH->(VH->Prop)->Prop
 | [],O,K=>K O
 | p::ds,O,K=>Enters P p.1/\gQ P p.1 p.2 none O fun O'=>Om P ds O' K
def Sc (P:Program) (fn:Func) (G0:Gh) (K:VH->Prop):Exit->Act->World->Prop:=
 bodyPostD P fn fun x w'=>(∃v,x= .returned v/\v= .tuple #[])/\∃O' H,Gh.Le G0 H/\WR H O' w'/\K O'
def RC (P:Program) (fn:Func) (n:Sz) (ds:List (FuncId×List MV)) (c:Code) (e:Env) (O:VH) (K:VH->Prop):Prop:=
 ∀G0 G D a w,Gh.Le G0 G->Sb G D ds->WR G O w->FR G n D e a->c.wp P (Sc P fn G0 K) a w
theorem Dk {fn:Func} {tmps:Array Value} {G0:Gh} {K:VH->Prop} (hr:fn.results= #[]):∀(D:List Deferred) (ds:List (FuncId×List MV)) (G:Gh) (O:VH) (w:World),Gh.Le G0 G->Sb G D ds->WR G O w->Om P ds O K->
  Leaves P fn tmps (fun x w'=>(∃v,x= .returned v/\v= .tuple #[])/\∃O' H,Gh.Le G0 H/\WR H O' w'/\K O') D .returning w
 | [],[],G,O,w,h0,_,hw,hk=>⟨.tuple #[],by simp[results,hr],⟨_,rfl,rfl⟩,O,G,h0,hw,hk⟩
 | d::D,p::ds,G,O,w,h0,⟨⟨us,ed,jE⟩,hD⟩,hw,⟨hE,hk⟩=>by
   subst ed;refine leaves_cons (f:=p.1) (args:=us.toArray) (by simp) (by simp[invoke,hE us.toArray w]) ((hk G w us .returning hw jE trivial).mono ?_);rintro r u' Hu ⟨⟨v,rfl⟩,hs,O2,K2,q1,q2,q3⟩;dsimp only;rw[hs];exact Dk hr D ds K2 O2 Hu (h0.trans q1) (hD.mono q1) q2 q3
 | [],_::_,_,_,_,_,h,_,_=>h.elim
 | _::_,[],_,_,_,_,h,_,_=>h.elim
theorem VF.defs {f:FuncId} {fn:Func} {c:Code} {args:List MV} {K:VH->Prop} {R:MV->VH->Prop} (hf:P.funcs[f]?=some fn) (hb:fn.body=some c) (hr:fn.results= #[]) (hn:args.length<=fn.ntmps)
  (h:RC P fn ⟨fn.ntmps,0⟩ [] c (cK 0 args) O K) (hR:∀O',K O'->R (.tuple []) O'):VF P f args O (aD R):=by
 intro G w vs hw hv;refine(calls_of_wp_defers hf hb (h G G [] _ w (Gh.Le.refl G) trivial hw ?_)).mono ?_
 ·have hl:=hv.1;refine⟨rfl,by simp;omega,fun t x hx=>?_⟩;rw[iV,if_pos (ajk _),Nat.sub_zero]at hx;obtain⟨u,h1,h2⟩:=hv.get hx;refine⟨u,?_,h2⟩;have eh:=(Vq.1 h1).1;rw[am8 (by simpa using eh)];simpa using h1
 ·rintro x w' ⟨⟨v,rfl,rfl⟩,O',H,h1,h2,h3⟩;exact⟨.ret (.tuple []),O',H,h1,h2,.tuple (us:=[]) rfl (fun i c u h=>by simp at h),hR _ h3⟩
theorem RC.ag {fn:Func} {ds:List (FuncId×List MV)} {A rest:Code} {K:VH->Prop} (h:∀D,VC P n D A e O fun x e' O'=>match x with
  | .normal=>RC P fn n ds rest e' O' K
  | _=>False):RC P fn n ds (.seq A rest) e O K:=by
 intro G0 G D a w h0 hD hw hf;refine wp_seq (wp_mono (h D G a w hw hf) ?_);rintro y a1 w1 ⟨x,e',O',H,g1,g2,g3,g4,g5⟩
 cases y<;>cases x<;>first
  | exact False.elim g4
  | exact g5.elim
  | skip
 exact g5 G0 H D a1 w1 (h0.trans g1) (hD.mono g1) g2 g3
theorem RC.fin {fn:Func} {ds:List (FuncId×List MV)} {A:Code} {K:VH->Prop} (hr:fn.results= #[]) (h:∀D,VC P n D A e O fun x e' O'=>match x with
  | .normal=>Om P ds O' K
  | .ret=>Om P ds O' K
  | _=>False):RC P fn n ds A e O K:=by
 intro G0 G D a w h0 hD hw hf;refine wp_mono (h D G a w hw hf) ?_;rintro y a1 w1 ⟨x,e',O',H,g1,g2,g3,g4,g5⟩
 have fin:FR H n D e' a1->Om P ds O' K->Leaves P fn a1.tmps (fun x w'=>(∃v,x= .returned v/\v= .tuple #[])/\∃O' H,Gh.Le G0 H/\WR H O' w'/\K O') a1.defers .returning w1:=fun aW hk=>by
  rw[aW.defers];exact Dk hr D ds H O' w1 (h0.trans g1) (hD.mono g1) g2 hk
 cases y<;>cases x<;>first
  | exact False.elim g4
  | exact g5.elim
  | exact fin g3 g5
theorem RC.cond {fn:Func} {ds:List (FuncId×List MV)} {c:Operand} {x y:Code} {K:VH->Prop} {t:Bool} (hc:ev e c=some (mb t)) (h:RC P fn n ds (if t then x else y) e O K):RC P fn n ds (.cond c x y) e O K:=by
 intro G0 G D a w h0 hD hw hf;have hv:=hf.ev hc;generalize hx:a.eval c=u at hv;have:=VR.jj hv;subst this;exact wp_cond hx (h G0 G D a w h0 hD hw hf)
def RO (P:Program) (fn:Func) (n:Sz) (ds:List (FuncId×List MV)) (ops:Array Oper) (rest:Code) (l:List Nat) (e:Env) (O:VH) (K:VH->Prop):Prop:=
 ∀G0 G D a w,Gh.Le G0 G->Sb G D ds->WR G O w->FR G n D e a->wpOps P ops (Exit.then (rest.wp P (Sc P fn G0 K)) (Sc P fn G0 K)) l a w
theorem RC.region {fn:Func} {ds:List (FuncId×List MV)} {id:Nat} {rest:Code} {K:VH->Prop} (l:List Nat) (hl:List.range ops.size=l) (h:RO P fn n ds ops rest l e O K):RC P fn n ds (.seq (.region id ops false) rest) e O K:=by
 subst hl;intro G0 G D a w h0 hD hw hf;exact wp_seq (wp_region (h G0 G D a w h0 hD hw hf))
theorem RO.step (ht:aO P tab) {fn:Func} {ds:List (FuncId×List MV)} {rest:Code} {K:VH->Prop} {i:Nat} {l:List Nat} {o:Oper} (ho:ops[i]?=some o) (hg:aN ops o e=some true) (hv:dD tab o e O=some (m,O')) (hd:bC n o.dst=true) (h:RO P fn n ds ops rest l (aZ o.dst m e) O' K):
  RO P fn n ds ops rest (i::l) e O K:=by
 intro G0 G D a w h0 hD hw aW;obtain⟨nx,w',H,u,hr,tQ,h1,h2,h3,_⟩:=Ee (P:=P) ht hw aW hv;rw[wpOps_cons];simp only[wpOp,ho,bA aW hg,if_true];refine .inl ?_;unfold Oper.wp;rw[hr];have:=h G0 H D (a.put o.dst u) w' (h0.trans h1) (hD.mono h1) h2 ((aW.mono h1).aZ hd h3);rcases tQ with rfl | ⟨rfl,rfl⟩<;>exact this
theorem RO.o1 {fn:Func} {ds:List (FuncId×List MV)} {rest:Code} {K:VH->Prop} {i:Nat} {l:List Nat} {lo:List Oper} {o:Oper} (h:AI (fun m O'=>RO P fn n ds ⟨lo⟩ rest l (aZ o.dst m e) O' K) (dD tab o e O)) (ht:aO P tab:=by exact aa) (ho:lo[i]?=some o:=by exact rfl) (hg:aN ⟨lo⟩ o e=some true:=by exact rfl) (hd:bC n o.dst=true:=by exact rfl):
  RO P fn n ds ⟨lo⟩ rest (i::l) e O K:=by
 generalize hv:dD tab o e O=v at h;cases v with
 | none=>exact h.elim
 | some p=>exact RO.step ht (by simpa using ho) hg hv hd h
theorem RO.defer {fn:Func} {ds:List (FuncId×List MV)} {rest:Code} {K:VH->Prop} {i:Nat} {g:FuncId} {as_:Array Operand} {ts:Array TypeId} {ty:TypeId} {ps:String} {af:Array Edge} {ms:List MV} (ho:ops[i]?=some (.mk none (.defer {callee:=.value (.func g),args:=as_,argTypes:=ts}) ty ps af none)) (hm:gh e as_.toList=some ms)
  (h:RC P fn n ((g,ms)::ds) rest e O K):RO P fn n ds ops rest [i] e O K:=by
 intro G0 G D a w h0 hD hw aW;have jE:=aW.gh hm;have ha:as_.map a.eval=(as_.toList.map a.eval).toArray:=by apply Array.ext';simp
 have cC:(execOp a.eval (.mk none (.defer {callee:=.value (.func g),args:=as_,argTypes:=ts}) ty ps af none)).run P w= .ok (.defer {target:=.fn (.func g) #[],args:=(as_.toList.map a.eval).toArray}) w:=by
  simp only[<-ha];simp[execOp,resolve,Act.eval,Deferred.ofValue]
 rw[wpOps_cons];simp only[wpOp,ho];rw[if_pos (by simp[Region.wanted])];refine .inl ?_;unfold Oper.wp;rw[cC,Oper.upon_defer];simp only[wpOps,Exit.then];exact h G0 G ({target:=.fn (.func g) #[],args:=(as_.toList.map a.eval).toArray}::D) _ w h0 ⟨⟨_,rfl,jE⟩,hD⟩ hw ⟨by show _::a.defers=_;rw[aW.defers],aW.size,aW.get⟩
theorem gQ.mono {f:FuncId} {args:List MV} {x:Option MV} {K K':VH->Prop} (h:gQ P f args x O K) (hk:∀O',K O'->K' O'):gQ P f args x O K':=fun G w vs u hw hv hu=>(h G w vs u hw hv hu).mono fun r u' w' ⟨h1,h2,O',H,h3,h4,h5⟩=>⟨h1,h2,O',H,h3,h4,hk _ h5⟩
theorem gQ.HH (ht:aO P tab) {f:FuncId} {fn:Func} {c:Code} {args:List MV} {K:VH->Prop} (hf:P.funcs[f]?=some fn) (hb:fn.body=some c) (hr:fn.results= #[]) (hn:args.length<=fn.ntmps) (hk:(⟨fn.ntmps,0⟩:Sz)=n) (h:VC P n [] c (cK 0 args) O (C7 tab [] (aD fun _ O'=>K O'))):gQ P f args none O K:=by
 subst hk;intro G w vs u hw hv hu
 have Ex:settle u= .returning:=by
  cases u<;>first
   | rfl
   | exact hu.elim
 have hl:=hv.1;refine(callsD_of_wp (R:=fun x w'=>(∃v,x= .returned v)/\∃O' H,Gh.Le G H/\WR H O' w'/\K O') hf hb (wp_mono (h G _ w hw ?_) ?_)).mono ?_
 ·refine⟨rfl,by simp;omega,fun t x hx=>?_⟩;rw[iV,if_pos (ajk _),Nat.sub_zero]at hx;obtain⟨u,h1,h2⟩:=hv.get hx;refine⟨u,?_,h2⟩;have eh:=(Vq.1 h1).1;rw[am8 (by simpa using eh)];simpa using h1
 ·rintro y a1 w1 ⟨x,e',O',H,g1,g2,g3,g4,g5⟩
  have fin:FR H ⟨fn.ntmps,0⟩ [] e' a1->K O'->bodyPost P fn (fun x w'=>(∃v,x= .returned v)/\∃O' H,Gh.Le G H/\WR H O' w'/\K O') .normal a1 w1:=fun aW hk=>
   ⟨aW.defers,.tuple #[],by simp[results,hr],⟨_,rfl⟩,O',H,g1,g2,hk⟩
  cases y<;>cases x<;>first
   | exact False.elim g4
   | exact fin g3 g5
   | exact g5.elim
 ·rintro r u' w' ⟨rfl,h1,h2⟩;exact⟨h1,Ex,h2⟩
end
section
variable {G:Gh} {O O':VH} {w:World} {P:Program}
theorem WR.cellAt {k off:Nat} {cs:List MV} {x:Value} (h:WR G O w) (hk:O.hp k=some (.cells cs)) (hc:cs[off]?=some (.v x)):∃b,G.bW k=some b/\w.cell? ⟨b,off,none⟩=some x/\w.frozen? ⟨b,off,none⟩=false:=by
 obtain⟨b,C,T,e1,e2,e3⟩:=h.cells k cs hk;obtain⟨v,ji,DB⟩:=e3.get hc;cases DB with
 | v _=>
   refine⟨b,e1,?_,?_⟩
   ·have eh:off<cs.length:=(Vq.1 hc).1;rw[List.getElem?_take_of_lt eh]at ji;simp only[World.cell?,e2,Option.isSome_none,Bool.false_eq_true,if_false];simpa using ji
   ·have hlen:off<C.size:=by
     have:=(Vq.1 ji).1;simp at this;omega
    obtain⟨t',⟨lo,hi⟩,dP⟩:=T;dsimp only at e2 dP;simp only[World.frozen?,e2,Bool.and_eq_false_imp,decide_eq_true_eq,decide_eq_false_iff_not];intro;omega
theorem eY.mem {f:FuncId} {ms:List MV} {m:MV} (hr:∀G w vs,WR G O w->aQ G ms vs->∃u w',(callFunc f vs.toArray).run P w= .ok (.value u) w'/\WR G O' w'/\VR G m u):eY P f ms O fun m' mz=>m'=m/\mz=O':=by
 intro G w vs hw hv;obtain⟨u,w',h1,h2,h3⟩:=hr G w vs hw hv;exact⟨m,O',u,w',G,⟨rfl,rfl⟩,h1,Gh.Le.refl G,h2,h3⟩
theorem VR.Bo:VR G (.tuple []) (.tuple #[]):=.tuple (us:=[]) rfl (fun i c u h=>by simp at h)
theorem aQ.one {x:MV} {vs:List Value} (h:aQ G [x] vs):∃u,vs=[u]/\VR G x u:=by
 obtain⟨u,us,rfl,g1,g2⟩:=h.eW;rw[g2.iQ];exact⟨u,rfl,g1⟩
theorem aQ.abG {k o:Nat} {vs:List Value} (h:aQ G [.ptr k o] vs):∃b,vs=[.pointer (some ⟨b,o,none⟩)]/\G.bW k=some b:=by
 obtain⟨u,rfl,g1⟩:=h.one;cases g1 with
 | ptr h4=>exact⟨_,rfl,h4⟩
theorem aQ.abH {k o:Nat} {x:Value} {vs:List Value} (h:aQ G [.ptr k o,.v x] vs):∃b,vs=[.pointer (some ⟨b,o,none⟩),x]/\G.bW k=some b:=by
 obtain⟨u,us,rfl,g1,g2⟩:=h.eW;obtain⟨u2,rfl,g3⟩:=g2.one;have:=g3.jj;subst this;cases g1 with
 | ptr h4=>exact⟨_,rfl,h4⟩
theorem aQ.akR {k o:Nat} {x y:Value} {vs:List Value} (h:aQ G [.ptr k o,.v x,.v y] vs):∃b,vs=[.pointer (some ⟨b,o,none⟩),x,y]/\G.bW k=some b:=by
 obtain⟨u,us,rfl,g1,g2⟩:=h.eW;obtain⟨u2,us2,rfl,g3,g4⟩:=g2.eW;obtain⟨u3,rfl,g5⟩:=g4.one;have e1:=g3.jj;have e2:=g5.jj;subst e1;subst e2
 cases g1 with
 | ptr h4=>exact⟨_,rfl,h4⟩
end
theorem wJ (O:VH):eY Tryz.prog 153 [] O fun m O'=>m= .tuple []/\O'=O:=
 eY.mem fun G w vs hw hv=>by
  rw[hv.iQ];exact⟨_,w,run_call_mark0 Tryz.func153 (by kernel_rfl) (by kernel_rfl) (by kernel_rfl) .disable (by kernel_rfl) w,hw,VR.Bo⟩
theorem yF (O:VH):eY Tryz.prog 155 [] O fun m O'=>m= .tuple []/\O'=O:=
 eY.mem fun G w vs hw hv=>by
  rw[hv.iQ];exact⟨_,w,run_call_mark0 Tryz.func155 (by kernel_rfl) (by kernel_rfl) (by kernel_rfl) .enable (by kernel_rfl) w,hw,VR.Bo⟩
theorem Gl (k o:Nat) (O:VH):eY Tryz.prog 156 [.ptr k o] O fun m O'=>m= .tuple []/\O'=O:=
 eY.mem fun G w vs hw hv=>by
  obtain⟨b,rfl,hp⟩:=hv.abG;exact⟨_,w,run_call_marked Tryz.func156 (by kernel_rfl) (by kernel_rfl) (by kernel_rfl) .acquire (by kernel_rfl) _ w,hw,VR.Bo⟩
theorem DU (k o:Nat) (O:VH):eY Tryz.prog 158 [.ptr k o] O fun m O'=>m= .tuple []/\O'=O:=
 eY.mem fun G w vs hw hv=>by
  obtain⟨b,rfl,hp⟩:=hv.abG;exact⟨_,w,run_call_marked Tryz.func158 (by kernel_rfl) (by kernel_rfl) (by kernel_rfl) .releaseMerge (by kernel_rfl) _ w,hw,VR.Bo⟩
section
variable {O:VH} {k off:Nat} {cs:List MV}
theorem On {x:Int} (y:Int) (hk:O.hp k=some (.cells cs)) (hc:cs[off]?=some (.v (.int .i64 x))):eY Tryz.prog 90 [.ptr k off,.v (.int .i64 y)] O fun m O'=>m= .v (.int .i64 (IntKind.i64.wrap (x+y)))/\O'=O.set k (.cells (cs.set off (.v (.int .i64 (IntKind.i64.wrap (x+y)))))):=
 eY.mem fun G w vs hw hv=>by
  obtain⟨b',h1,h2,h3⟩:=hw.cellAt hk hc;obtain⟨b,rfl,hp⟩:=hv.abH;rw[h1]at hp;injection hp with hp;subst hp
  exact⟨_,_,run_call_add Tryz.func90 (by kernel_rfl) (by kernel_rfl) (by kernel_rfl) .i64 (by kernel_rfl) h2 h3 rfl,hw.store hk h1 (Vq.1 hc).1 (.v rfl),.v rfl⟩
theorem Oo {x:Int} (y:Int) (hk:O.hp k=some (.cells cs)) (hc:cs[off]?=some (.v (.int .i32 x))):eY Tryz.prog 159 [.ptr k off,.v (.int .i32 y)] O fun m O'=>m= .v (.int .i32 (IntKind.i32.wrap (x+y)))/\O'=O.set k (.cells (cs.set off (.v (.int .i32 (IntKind.i32.wrap (x+y)))))):=
 eY.mem fun G w vs hw hv=>by
  obtain⟨b',h1,h2,h3⟩:=hw.cellAt hk hc;obtain⟨b,rfl,hp⟩:=hv.abH;rw[h1]at hp;injection hp with hp;subst hp
  exact⟨_,_,run_call_add Tryz.func159 (by kernel_rfl) (by kernel_rfl) (by kernel_rfl) .i32 (by kernel_rfl) h2 h3 rfl,hw.store hk h1 (Vq.1 hc).1 (.v rfl),.v rfl⟩
theorem Sd {x:Int} (hk:O.hp k=some (.cells cs)) (hc:cs[off]?=some (.v (.int .u32 x))):eY Tryz.prog 99 [.ptr k off] O fun m O'=>m= .v (.int .u32 x)/\O'=O:=
 eY.mem fun G w vs hw hv=>by
  obtain⟨b',h1,h2,h3⟩:=hw.cellAt hk hc;obtain⟨b,rfl,hp⟩:=hv.abG;rw[h1]at hp;injection hp with hp;subst hp
  exact⟨_,_,run_call_load Tryz.func99 (by kernel_rfl) (by kernel_rfl) (by kernel_rfl) .u32 (by kernel_rfl) h2,hw,.v rfl⟩
theorem Oq {x:Int} (y:Int) (hk:O.hp k=some (.cells cs)) (hc:cs[off]?=some (.v (.int .u32 x))):eY Tryz.prog 125 [.ptr k off,.v (.int .u32 y)] O fun m O'=>m= .tuple []/\O'=O.set k (.cells (cs.set off (.v (.int .u32 y)))):=
 eY.mem fun G w vs hw hv=>by
  obtain⟨b',h1,h2,h3⟩:=hw.cellAt hk hc;obtain⟨b,rfl,hp⟩:=hv.abH;rw[h1]at hp;injection hp with hp;subst hp
  exact⟨_,_,run_call_store Tryz.func125 (by kernel_rfl) (by kernel_rfl) (by kernel_rfl) (by kernel_rfl) h2 h3,hw.store hk h1 (Vq.1 hc).1 (.v rfl),VR.Bo⟩
theorem X8 {x y:Int} (hk:O.hp k=some (.cells cs)) (hc:cs[off]?=some (.v (.int .i32 x))):eY Tryz.prog 154 [.ptr k off,.v (.int .i32 x),.v (.int .i32 y)] O fun m O'=>m= .v (.bool true)/\O'=O.set k (.cells (cs.set off (.v (.int .i32 y)))):=
 eY.mem fun G w vs hw hv=>by
  obtain⟨b',h1,h2,h3⟩:=hw.cellAt hk hc;obtain⟨b,rfl,hp⟩:=hv.akR;rw[h1]at hp;injection hp with hp;subst hp
  exact⟨_,_,run_call_cas_hit Tryz.func154 (by kernel_rfl) (by kernel_rfl) (by kernel_rfl) .i32 (by kernel_rfl) h2 h3,hw.store hk h1 (Vq.1 hc).1 (.v rfl),.v rfl⟩
end
section
variable {P:Program} {tab:cj} {n:Sz} {D:List Deferred} {md:Md} {ops:Array Oper} {Q:VQ} {e:Env} {O:VH}
theorem VL.agN (ht:aO P tab) {d:Option Tmp} {x:Operand} {src dst ty el:TypeId} {ps:String} {af:Array Edge} {g:Option (Nat×Bool)} {L:List (Fl×Oper)} {k off:Nat} {cs:List MV} {y:Value} {te:cL} (hmd:md= .plain\/md= .any)
  (hs:(tab src).map cL.under=some (.pointer el)) (M0:(tab dst).map cL.under=some .unsafePointer) (he:tab el=some te) (hz:te.size≠0) (hk:O.hp k=some (.cells cs)) (hc:cs[off]?=some (.v y))
  (hx:ev e x=some (.ptr k off)) (hg:aN ops (.mk d (.convert src dst x) ty ps af g) e=some true) (hd:bC n d=true) (h:WL P tab n D md ops Q L (aZ d (.ptr k off) e) O):
  VL P n D md ops ((.one,.mk d (.convert src dst x) ty ps af g)::L) e O Q:=by
 refine VL.pE (M:=fun m O'=>m= .ptr k off/\O'=O) (fun G a w hw hf=>?_) (by rintro m O' ⟨rfl,rfl⟩;exact WL.sound ht h) (hmd:=hmd) (hg:=hg) (hd:=hd);have nN:=hf.ev hx;generalize pI:a.eval x=u at nN;cases nN with
 | ptr hp=>
   rename_i b;obtain⟨ti,z,i1,i2,_⟩:=(ht _ te he).info;obtain⟨b2,s1,s2,_⟩:=hw.cellAt hk hc;rw[hp]at s1;injection s1 with s1;subst s1
   have hr:=run_convert_to_unsafe (P:=P) (w:=w) (bL ht hs) (bL ht M0) (by rw[i1,Option.map_some,decide_eq_false (by rw[i2];exact hz)]) s2;exact⟨_,_,_,w,G,⟨rfl,rfl⟩,by simp[execOp,pI,hr],Gh.Le.refl G,hw,.ptr hp⟩
theorem gD.ext {o:Oper} {c:Call} {x:Operand} {id:FuncId} {ms:List MV} {M:MV->VH->Prop} (vA:o.op= .call c) (hc:c.callee= .value x) (hf:ev e x=some (.func (.func id) [] [])) (hm:gh e c.args.toList=some ms) (hx:eY P id ms O M):gD P n D o e O M:=by
 intro G a w hw aW;have vB:=aW.ev hf;generalize Af:a.eval x=fv at vB;cases vB with
 | func h1 h2 h3 h4=>
   rename_i us vs;have jE:us=[]:=ahK h1;have oY:vs=[]:=ahK h3;subst jE;subst oY
   have iK:=aW.gh hm;obtain⟨m,O',u,w',H,hM,hr,g1,g2,g3⟩:=hx G w _ hw iK;refine⟨m,O',u,w',H,hM,?_,g1,g2,g3⟩;have ha: #[]++c.args.map a.eval++ #[]=(c.args.toList.map a.eval).toArray:=by apply Array.ext';simp
   simp only[execOp,vA,resolve,hc,Af,Deferred.ofValue,Sem.run_bind,Sem.run_pure,Result.andThen_ok,invoke];rw[ha];exact hr
end
set_option linter.defProp false in
def dB:=agc T80<|agc ajY<|agc ajO<|agc aj9<|agc aa4<|agc ajP<|agc akc<|agc aa6<|agc T98<|agc Ru<|agc akf<|agc aj_<|agc aj4<|agc T2<|agc ajQ<|agc aj3 IW
section
variable {O:VH} {k off:Nat} {cs:List MV}
theorem wK {x:Int} (y:Int) (hk:O.hp k=some (.cells cs)) (hc:cs[off]?=some (.v (.int .i64 x))):VF Tryz.prog 77 [.ptr k off,.v (.int .i64 y)] O (aD fun m O'=>m= .v (.int .i64 (IntKind.i64.wrap (x+y)))/\O'=O.set k (.cells (cs.set off (.v (.int .i64 (IntKind.i64.wrap (x+y))))))):=by
 refine Δ 10 [.tmp 4] Tryz.func77 ?_;refine ab @dB ?_;refine ah.ext (On y hk hc) rfl ?_;rintro _ O2 ⟨rfl,rfl⟩;exact fU @dB
theorem Gm {x:Int} (hk:O.hp k=some (.cells cs)) (hc:cs[off]?=some (.v (.int .u32 x))):VF Tryz.prog 88 [.ptr k off] O (aD fun m O'=>m=mb (x != 0)/\O'=O):=by
 refine Δ 8 [.tmp 2] Tryz.func88 ?_;refine ab @dB ?_;refine ah.ext (Sd hk hc) rfl ?_;rintro _ O2 ⟨rfl,rfl⟩;exact fU @dB
theorem aiA (b:Bool) (O:VH):VF Tryz.prog 126 [mb b] O (aD fun m O'=>m= .v (.int .u32 (if b then 1 else 0))/\O'=O):=by
 refine Δ 4 [.tmp 2] Tryz.func126 ?_;cases b
 ·exact fU @dB
 ·exact fU @dB
theorem X9 {x:Int} (b:Bool) (hk:O.hp k=some (.cells cs)) (hc:cs[off]?=some (.v (.int .u32 x))):gQ Tryz.prog 102 [.ptr k off,mb b] none O (fun O'=>O'=O.set k (.cells (cs.set off (.v (.int .u32 (if b then 1 else 0)))))):=by
 refine gQ.HH aa (n:=⟨10,0⟩) Tryz.func102 rfl rfl (aju rfl) rfl ?_;simp only[cK,ajl,Nat.reduceAdd];refine VC.nP [5] ?_;refine ae.ar 0 ?_;refine ab @dB ?_;refine ae.ar 1 ?_;refine ab @dB ?_;refine ae.ar 2 ?_;refine ab @dB ?_;refine ae.ar 3 ?_;refine ab @dB ?_;refine ae.call (i:=4) (aiA b O) ?_;rintro _ O2 ⟨rfl,eO⟩;simp only[ak];rw[eO];clear eO O2
 refine⟨VH.Ge.refl _,ae.fin (by kernel_rfl) (cE.st (i:=5) rfl (by kernel_rfl) rfl rfl (gD.ext rfl rfl rfl rfl (Oq _ hk hc)) ?_)⟩;rintro m O2 ⟨rfl,rfl⟩;refine cE.done (by kernel_rfl) ?_;refine ab @dB ?_;trivial
theorem abI (hk:O.hp k=some (.cells cs)) (hc:cs[off]?=some (.v (.int .i32 0))):VF Tryz.prog 123 [.ptr k off] O (aD fun m O'=>O'=O.set k (.cells (cs.set off (.v (.int .i32 1))))):=by
 have hl:off<cs.length:=(Vq.1 hc).1;refine υ 13 [] Tryz.func123 ?_;refine κ @dB ?_;refine ah.ext (wJ _) rfl ?_;rintro _ O2 ⟨rfl,rfl⟩;refine ab @dB ?_;refine κ @dB ?_;refine ah.ext (X8 (y:=1) hk hc) rfl ?_;rintro _ O2 ⟨rfl,eO⟩;have bM:O2.hp k=some (.cells (cs.set off (.v (.int .i32 1)))):=by rw[eO];exact ρ _ _ _
 have iH:(cs.set off (.v (.int .i32 1)))[off]?=some (.v (.int .i32 1)):=by rw[List.getElem?_set_self hl]
 refine ab @dB ?_;refine ah.ext (yF _) rfl ?_;rintro _ O3 ⟨rfl,HV⟩;rw[HV];clear HV O3
 refine ab @dB ?_;refine VL.agN aa (.inl rfl) (el:=102) (by rw[aa6];rfl) (by rw[IW];rfl) aa4.1.1 (by decide) bM iH rfl rfl rfl ?_;refine ab @dB ?_;refine ah.ext (Gl _ _ _) rfl ?_;rintro _ O4 ⟨rfl,qb⟩;rw[qb];clear qb O4
 refine ab @dB ?_;exact eO
theorem afg (hk:O.hp k=some (.cells cs)) (hc:cs[off]?=some (.v (.int .i32 0))):VF Tryz.prog 100 [.ptr k off] O (aD fun m O'=>O'=O.set k (.cells (cs.set off (.v (.int .i32 1))))):=by
 refine Δ 6 [] Tryz.func100 ?_;refine ab @dB ?_;refine ah.rt (abI hk hc) ?_;rintro _ O2 e2;refine ab @dB ?_;exact e2
theorem Se (hk:O.hp k=some (.cells cs)) (hc:cs[off]?=some (.v (.int .i32 1))):VF Tryz.prog 124 [.ptr k off] O (aD fun m O'=>O'=O.set k (.cells (cs.set off (.v (.int .i32 0))))):=by
 have hl:off<cs.length:=(Vq.1 hc).1;refine υ 21 [] Tryz.func124 ?_;refine θ (aG @dB @hk @hc ?_);refine VL.agN aa (.inl rfl) (el:=102) (by rw[aa6];rfl) (by rw[IW];rfl) aa4.1.1 (by decide) hk hc rfl rfl rfl ?_;refine ab @dB ?_;refine ah.ext (DU _ _ _) rfl ?_;rintro _ O2 ⟨rfl,HW⟩;rw[HW];clear HW O2
 refine ab @dB ?_;refine ah.ext (wJ _) rfl ?_;rintro _ O2 ⟨rfl,HW⟩;rw[HW];clear HW O2
 refine ab @dB ?_;refine κ @dB ?_;refine ah.ext (Oo (-1) hk hc) rfl ?_;rintro _ O2 ⟨rfl,eO⟩;refine ao @dB (show IntKind.i32.wrap (1+ -1)=0 from rfl) ?_;refine κ @dB ?_;refine ν @dB ?_;refine ah.ext (yF _) rfl ?_;rintro _ O3 ⟨rfl,HV⟩;rw[HV];clear HV O3
 refine ab @dB ?_;exact eO
theorem X_ (hk:O.hp k=some (.cells cs)) (hc:cs[off]?=some (.v (.int .i32 1))):gQ Tryz.prog 101 [.ptr k off] none O (fun O'=>O'=O.set k (.cells (cs.set off (.v (.int .i32 0))))):=by
 refine gQ.HH aa (n:=⟨6,0⟩) Tryz.func101 rfl rfl (aju rfl) rfl ?_;simp only[cK,ajl,Nat.reduceAdd];refine ν @dB ?_;refine ah.rt (Se hk hc) ?_;rintro _ O2 e2;refine ab @dB ?_;exact e2
theorem Ya {g:FuncId} {xs:List MV} {Φ :VH->Prop} (hk:O.hp k=some (.cells cs)) (h0:cs[off]?=some (.v (.int .u32 0))) (h1:cs[off+1]?=some (.v (.int .i32 0))) (hg:db Tryz.prog g=true)
  (hC:VF Tryz.prog g xs (O.set k (.cells (cs.set (off+1) (.v (.int .i32 1))))) (aD fun _ O'=> Φ O'))
  (hΦ :∀O', Φ O'->∃cs',O'.hp k=some (.cells cs')/\cs'[off]?=some (.v (.int .u32 0))/\cs'[off+1]?=some (.v (.int .i32 1))):
  VF Tryz.prog 89 [.ptr k off,.func (.func g) [] xs] O (aD fun _ O'=>∃O1 cs', Φ O1/\O1.hp k=some (.cells cs')/\O'=O1.set k (.cells ((cs'.set off (.v (.int .u32 1))).set (off+1) (.v (.int .i32 0))))):=by
 refine VF.defs (K:=fun O'=>∃O1 cs', Φ O1/\O1.hp k=some (.cells cs')/\O'=O1.set k (.cells ((cs'.set off (.v (.int .u32 1))).set (off+1) (.v (.int .i32 0))))) Tryz.func89 rfl rfl (aju rfl) ?_ (fun O' h=>h);show RC _ _ ⟨21,0⟩ _ _ _ _ _;simp only[cK,ajl,Nat.reduceAdd];refine RC.ag fun D=>?_
 refine ν @dB ?_;refine ah.rt (afg hk h1) ?_;rintro _ O2 e2;have bM:O2.hp k=some (.cells (cs.set (off+1) (.v (.int .i32 1)))):=by rw[e2];exact ρ _ _ _
 refine ab @dB ?_;refine RC.region [0,1,2,3] rfl ?_;refine RO.o1 ?_;refine ab @dB ?_;refine RO.o1 ?_;refine ab @dB ?_;refine RO.o1 ?_;refine ab @dB ?_;refine RO.defer rfl rfl ?_;refine RC.ag fun D=>?_
 have h02:(cs.set (off+1) (.v (.int .i32 1)))[off]?=some (.v (.int .u32 0)):=by rw[List.getElem?_set_ne (by omega)];exact h0
 refine ν @dB ?_;refine ah.rt (Gm bM h02) ?_;rintro _ O3 ⟨rfl,eO⟩;rw[eO];clear eO O3
 refine ab @dB ?_;refine RC.cond (t:=true) rfl ?_;rw[if_pos rfl];refine RC.region [0,1,2,3] rfl ?_;refine RO.o1 ?_;refine ab @dB ?_;refine RO.o1 ?_;refine ab @dB ?_;refine RO.o1 ?_;refine ab @dB ?_;refine RO.defer rfl rfl ?_;refine RC.fin rfl fun D=>?_
 rw[e2];refine ν @dB ?_;refine ah.rt hC ?_ (hb:=hg);rintro m O3 DO;obtain⟨cs',dR,h3,h4⟩:=hΦ O3 DO;have n8:off<cs'.length:=(Vq.1 h3).1;refine ab @dB ?_;refine⟨Enters.sH (by kernel_rfl),(X9 true dR h3).mono fun O4 e4=>?_⟩;have lX:O4.hp k=some (.cells (cs'.set off (.v (.int .u32 1)))):=by rw[e4];exact ρ _ _ _
 have h44:(cs'.set off (.v (.int .u32 1)))[off+1]?=some (.v (.int .i32 1)):=by rw[List.getElem?_set_ne (by omega)];exact h4
 refine⟨Enters.sH (by kernel_rfl),(X_ lX h44).mono fun O5 e5=>?_⟩;refine⟨O3,cs',DO,dR,?_⟩;rw[e5,e4];exact VH.set_set _ _ _ _
theorem abJ {g:FuncId} {xs:List MV} {Φ :VH->Prop} (hk:O.hp k=some (.cells cs)) (h0:cs[off]?=some (.v (.int .u32 0))) (h1:cs[off+1]?=some (.v (.int .i32 0))) (hg:db Tryz.prog g=true)
  (hC:VF Tryz.prog g xs (O.set k (.cells (cs.set (off+1) (.v (.int .i32 1))))) (aD fun _ O'=> Φ O'))
  (hΦ :∀O', Φ O'->∃cs',O'.hp k=some (.cells cs')/\cs'[off]?=some (.v (.int .u32 0))/\cs'[off+1]?=some (.v (.int .i32 1))):
  VF Tryz.prog 75 [.ptr k off,.func (.func g) [] xs] O (aD fun _ O'=>∃O1 cs', Φ O1/\O1.hp k=some (.cells cs')/\O'=O1.set k (.cells ((cs'.set off (.v (.int .u32 1))).set (off+1) (.v (.int .i32 0))))):=by
 refine υ 12 [] Tryz.func75 ?_;refine κ @dB ?_;refine ah.rt (Gm hk h0) ?_;rintro _ O3 ⟨rfl,eO⟩;rw[eO];clear eO O3
 refine ab @dB ?_;refine ν @dB ?_;refine ah.rt (Ya hk h0 h1 hg hC hΦ) ?_;rintro m O3 h3;refine ab @dB ?_;exact h3
theorem abK (g:FuncId) (xs:List MV) {x:Int} (hx:x≠0) (hk:O.hp k=some (.cells cs)) (h0:cs[off]?=some (.v (.int .u32 x))):VF Tryz.prog 75 [.ptr k off,.func (.func g) [] xs] O (aD fun _ O'=>O'=O):=by
 refine υ 12 [] Tryz.func75 ?_;refine κ @dB ?_;refine ah.rt (Gm hk h0) ?_;rintro _ O3 ⟨rfl,eO⟩;rw[eO];clear eO O3
 have hx':(x != 0)=true:=by rw[bne_iff_ne];exact hx
 refine ao @dB @hx' ?_;refine ο @dB @hx' ?_;trivial
end
structure Rec where
 b:Nat
 off:Nat
 name:Bs
 attrs:List (Bs×Bs)
 kids:List Nd
 q:MV
def jw (r:Rec):List MV:=[.str r.name,.sl r.attrs.length (r.attrs.flatMap bm) .au,r.q,.str []]
theorem sU (r:Rec):(jw r).length=4:=rfl
def pP (O:VH) (B k:Nat):List Rec->Prop
 | []=>True
 | [r]=>r.b=k/\r.off=0
 | r::p::rest=>(∃c,p.q= .bB r.b 0 (p.kids.length+1) c/\p.kids.length+1<=c/\Row O 93 4 B r.b c (aC p.kids++jw r))/\r.off=p.kids.length*4/\p.b<r.b/\pP O B k (p::rest)
def akS (O:VH) (B:Nat):List Rec->Prop
 | []=>True
 | r::_=>GR O 93 4 B r.q r.kids.length (aC r.kids)/\∀i,gid r.q=some i->r.b<i
def pQ:List Rec->List MV->List MV
 | [],z=>z
 | [r],_=>jw r
 | _::r::R,z=>pQ (r::R) z
def im (R:List Rec):List MV:=(R.map fun r=>MV.ptr r.b r.off).reverse
theorem rP (r:Rec) (R:List Rec):(im (r::R))=im R++[.ptr r.b r.off]:=by unfold im;simp
theorem lA (R:List Rec):(im R).length=R.length:=by unfold im;simp
theorem fl:∀(R:List Rec) (z:List MV),z.length=4->(pQ R z).length=4
 | [],z,h=>h
 | [r],_,_=>rfl
 | _::r::R,z,h=>fl (r::R) z h
structure BC (O:VH) (B k:Nat) (R:List Rec) (z tl:List MV):Prop where
 lt:k<B
 le:B<=O.N
 cells:O.hp k=some (.cells (pQ R z++tl))
 zl:z.length=4
 chain:pP O B k R
 top:akS O B R
def Kp (O O':VH) (S:List Nat):Prop:=O.N<=O'.N/\∀i,i<O.N->i ∉ S->O'.hp i=O.hp i
def Co (O:VH) (S:List Nat):Prop:=∀x∈S,∀j t n,O.hp x≠some (.shape j t n)
theorem Co.ne {O:VH} {S:List Nat} (h:Co O S) {j i t n:Nat} (hj:O.hp j=some (.shape i t n)):j ∉ S:=fun hm=>h j hm _ _ _ hj
theorem Row.kp {O O':VH} {el:TypeId} {sz B k c:Nat} {L:List MV} {S:List Nat} (h:Row O el sz B k c L) (u:Kp O O' S) (hS:Co O S) (hk:k ∉ S):Row O' el sz B k c L:=by
 obtain⟨⟨sp,h1,h2⟩,⟨j,h3,h4,h5⟩,h6,h7⟩:=h;exact⟨⟨sp,(u.2 k h7 hk).trans h1,h2⟩,⟨j,h3,Ma h4 u.1,(u.2 j h4 (hS.ne h5)).trans h5⟩,h6,Ma h7 u.1⟩
theorem Row.own {O O':VH} {el:TypeId} {sz B k c:Nat} {L L' sp:List MV} {S:List Nat} (h:Row O el sz B k c L) (u:Kp O O' S) (hS:Co O S) (hc:O'.hp k=some (.cells (L'++sp))) (hl:(L'++sp).length=c*sz):Row O' el sz B k c L':=by
 obtain⟨_,⟨j,h3,h4,h5⟩,h6,h7⟩:=h;exact⟨⟨sp,hc,hl⟩,⟨j,h3,Ma h4 u.1,(u.2 j h4 (hS.ne h5)).trans h5⟩,h6,Ma h7 u.1⟩
theorem pP.lt {O:VH} {B k:Nat}:∀{R:List Rec} {r:Rec},pP O B k (r::R)->∀x∈R,x.b<r.b
 | [],_,_,x,hx=>by cases hx
 | p::R,r,h,x,hx=>by
   obtain⟨_,_,h3,h4⟩:=h;rcases adW.1 hx with rfl | hx
   ·exact h3
   ·exact Nat.lt_trans (h4.lt x hx) h3
theorem pP.kp {O O':VH} {B k:Nat} {S:List Nat} (u:Kp O O' S) (hS:Co O S):∀{R:List Rec},pP O B k R->(∀r∈R,r.b=k\/(∃cs,O.hp r.b=some (.cells cs))->r.b=k\/r.b ∉ S)->k<B->pP O' B k R
 | [],_,_,_=>trivial
 | [r],h,_,_=>h
 | r::p::rest,⟨⟨c,h1,h2,h3⟩,h4,h5,h6⟩,hn,hk=>⟨⟨c,h1,h2,h3.kp u hS (((hn r (by simp)) (.inr (by obtain⟨sp,e,_⟩:=h3.cells;exact⟨_,e⟩))).resolve_left fun e=>by have:=h3.lo;omega)⟩,h4,h5,h6.kp u hS (fun x hx=>hn x (by simp[hx])) hk⟩
theorem GR.lo {O:VH} {el:TypeId} {sz B n i:Nat} {p:MV} {L:List MV} (h:GR O el sz B p n L) (e:gid p=some i):B<=i/\i<O.N:=by
 rcases h with⟨_,_,hp | hp⟩ | ⟨k2,c,hp,_,_,jT⟩
 ·rw[hp]at e;cases e
 ·rw[hp]at e;cases e
 ·rw[hp]at e;injection e with e;subst e;exact⟨jT.lo,jT.hi⟩
theorem GR.kp {O O':VH} {el:TypeId} {sz B n:Nat} {p:MV} {L:List MV} {S:List Nat} (h:GR O el sz B p n L) (u:Kp O O' S) (hS:Co O S) (hk:∀i,gid p=some i->i ∉ S):GR O' el sz B p n L:=by
 rcases h with h | ⟨k2,c,hp,h1,h2,jT⟩
 ·exact .inl h
 ·exact .inr ⟨k2,c,hp,h1,h2,jT.kp u hS (hk k2 (by rw[hp];rfl))⟩
theorem GR.Ot {O:VH} {el:TypeId} {sz B n i:Nat} {p:MV} {L:List MV} (h:GR O el sz B p n L) (e:gid p=some i):∃cs,O.hp i=some (.cells cs):=by
 rcases h with⟨_,_,hp | hp⟩ | ⟨k2,c,hp,_,_,jT⟩
 ·rw[hp]at e;cases e
 ·rw[hp]at e;cases e
 ·rw[hp]at e;injection e with e;subst e
  obtain⟨sp,h1,_⟩:=jT.cells;exact⟨_,h1⟩
theorem BC.loc {O:VH} {B k:Nat} {r:Rec} {R:List Rec} {z tl:List MV} (h:BC O B k (r::R) z tl):∃pre post,O.hp r.b=some (.cells (pre++jw r++post))/\pre.length=r.off/\r.b<O.N/\(R=[]->r.b=k/\pre=[]/\post=tl)/\∀p rest,R=p::rest->pre=aC p.kids/\B<=r.b:=by
 cases R with
 | nil=>
   obtain⟨h1,h2⟩:=h.chain;refine⟨[],tl,?_,h2.symm,?_,fun _=>⟨h1,rfl,rfl⟩,fun p rest e=>by cases e⟩
   ·rw[h1];exact h.cells
   ·rw[h1];exact Ma h.lt h.le
 | cons p rest=>
   obtain⟨⟨c,_,_,jT⟩,ho,_,_⟩:=h.chain;obtain⟨sp,h1,h2⟩:=jT.cells;exact⟨aC p.kids,sp,h1,by rw[dA,ho],jT.hi,(fun e=>by cases e),fun p' amh e=>by injection e with e1 e2;subst e1;exact⟨rfl,jT.lo⟩⟩
theorem BC.part {O O':VH} {B k:Nat} {r r':Rec} {R:List Rec} {z tl pre post:List MV} {S:List Nat} (h:BC O B k (r::R) z tl) (hc:O.hp r.b=some (.cells (pre++jw r++post))) (hl:pre.length=r.off) (hR:R=[]->post=tl) (u:Kp O O' S) (hb:r'.b=r.b) (ho:r'.off=r.off)
  (hn:∀x∈S,x=r.b\/gid r.q=some x) (py:O'.hp r.b=some (.cells (pre++jw r'++post))):O'.hp k=some (.cells (pQ (r'::R) z++tl))/\pP O' B k (r'::R):=by
 have rD:=h.chain;have eh:=rD.lt;have jd:=h.top
 have hS:Co O S:=fun x hx j t n e=>by
  rcases hn x hx with e2 | e2
  ·subst e2;rw[hc]at e;cases e
  ·obtain⟨cs,e3⟩:=jd.1.Ot e2;rw[e3]at e;cases e
 cases R with
 | nil=>
   obtain⟨h1,h2⟩:=rD;have hp:pre=[]:=ahK (by rw[hl,h2]);subst hp;refine⟨?_,⟨by rw[hb,h1],by rw[ho,h2]⟩⟩;rw[<-h1,py,hR rfl];rfl
 | cons p rest=>
   obtain⟨⟨c,e1,e2,jT⟩,e3,e4,e5⟩:=rD;have akT:=jT.lo
   have hkS:k ∉ S:=fun hm=>by
    have:=h.lt;rcases hn k hm with e | e
    ·omega
    ·have:=(jd.1.lo e).1;omega
   obtain⟨sp,uq,Xy⟩:=jT.cells;rw[hc]at uq;injection uq with uq;injection uq with uq
   have dH:pre.length=(aC p.kids).length:=by rw[hl,e3,dA]
   rw[Zk,Zk]at uq;obtain⟨lJ,Bc⟩:=al_ uq dH;obtain⟨_,pO⟩:=al_ Bc rfl;subst lJ;subst pO
   refine⟨?_,⟨⟨c,by rw[e1,hb],e2,?_⟩,by rw[ho,e3],by rw[hb];exact e4,e5.kp u hS (fun x hx _=>?_) h.lt⟩⟩
   ·rw[u.2 k (Ma h.lt h.le) hkS];exact h.cells
   ·rw[hb];refine jT.own u hS py ?_;rw[Qm,Qm,sU]at Xy ⊢;exact Xy
   ·refine .inr fun hm=>?_
    have h6:=eh x hx;rcases hn x.b hm with e | e
    ·omega
    ·have:=jd.2 _ e;omega
theorem BC.KW {O O':VH} {B k:Nat} {r r':Rec} {R:List Rec} {z tl pre post:List MV} {S:List Nat} (h:BC O B k (r::R) z tl) (hc:O.hp r.b=some (.cells (pre++jw r++post))) (hl:pre.length=r.off) (hR:R=[]->post=tl) (u:Kp O O' S) (hb:r'.b=r.b) (ho:r'.off=r.off)
  (hn:∀x∈S,x=r.b\/gid r.q=some x) (py:O'.hp r.b=some (.cells (pre++jw r'++post))) (ht:GR O' 93 4 B r'.q r'.kids.length (aC r'.kids)) (QA:∀i,gid r'.q=some i->r.b<i):BC O' B k (r'::R) z tl:=by
 obtain⟨h1,h2⟩:=h.part hc hl hR u hb ho hn py;exact⟨h.lt,ahL h.le u.1,h1,h.zl,h2,⟨ht,fun i e=>by rw[hb];exact QA i e⟩⟩
theorem BC.push {O O':VH} {B k k' c:Nat} {r:Rec} {R:List Rec} {z tl pre post:List MV} {S:List Nat} {nm:Bs} {gk:List (Bs×Bs)} (h:BC O B k (r::R) z tl) (hc:O.hp r.b=some (.cells (pre++jw r++post))) (hl:pre.length=r.off) (hR:R=[]->post=tl) (u:Kp O O' S)
  (hn:∀x∈S,x=r.b\/gid r.q=some x) (py:O'.hp r.b=some (.cells (pre++jw {r with q:=.bB k' 0 (r.kids.length+1) c}++post))) (hk:gid r.q=some k'\/O.N<=k') (hlen:r.kids.length+1<=c)
  (jT:Row O' 93 4 B k' c (aC r.kids++jw ⟨k',r.kids.length*4,nm,gk,[],.sl 0 [] .nil⟩)):BC O' B k (⟨k',r.kids.length*4,nm,gk,[],.sl 0 [] .nil⟩::{r with q:=.bB k' 0 (r.kids.length+1) c}::R) z tl:=by
 obtain⟨h1,h2⟩:=h.part (r':={r with q:=.bB k' 0 (r.kids.length+1) c}) hc hl hR u rfl rfl hn py
 have hrb:r.b<k':=by
  rcases hk with e | e
  ·exact h.top.2 _ e
  ·obtain⟨_,_,_,_,e2,_⟩:=h.loc;omega
 exact⟨h.lt,ahL h.le u.1,h1,h.zl,⟨⟨c,rfl,hlen,jT⟩,rfl,hrb,h2⟩,⟨.inl ⟨rfl,by rw[aC],.inl rfl⟩,fun i e=>by cases e⟩⟩
theorem BC.step {O O':VH} {B k:Nat} {R:List Rec} {z z' tl tl':List MV} {S:List Nat} (h:BC O B k R z tl) (u:Kp O O' S) (hS:∀x∈S,x=k\/O.hp x=some .tok) (hc:O'.hp k=some (.cells (pQ R z'++tl'))) (hz:z'.length=4):BC O' B k R z' tl':=by
 have hS2:Co O S:=fun x hx j t n e=>by
  rcases hS x hx with e2 | e2
  ·subst e2;rw[h.cells]at e;cases e
  ·rw[e2]at e;cases e
 have hn:∀{i:Nat},(∃cs,O.hp i=some (.cells cs))->i≠k->i ∉ S:=fun{i} ⟨cs,e⟩ hne hm=>by
  rcases hS i hm with e2 | e2
  ·exact hne e2
  ·rw[e2]at e;cases e
 refine⟨h.lt,ahL h.le u.1,hc,hz,h.chain.kp u hS2 (fun r _ hr=>?_) h.lt,?_⟩
 ·by_cases e:r.b=k
  ·exact .inl e
  ·exact .inr (hn (hr.resolve_left e) e)
 ·have ht:=h.top;cases R with
  | nil=>trivial
  | cons r R=>exact⟨ht.1.kp u hS2 (fun i e=>hn (ht.1.Ot e) (by have:=(ht.1.lo e).1;have:=h.lt;omega)),ht.2⟩
theorem Kp.set {O:VH} {k:Nat} {x:cg}:Kp O (O.set k x) [k]:=⟨ahO _,fun i _ hn=>π _ _ (by simpa using hn)⟩
theorem Kp.refl {O:VH} {S:List Nat}:Kp O O S:=⟨ahO _,fun _ _ _=>rfl⟩
theorem Kp.trans {O O1 O2:VH} {S T:List Nat} (h:Kp O O1 S) (k:Kp O1 O2 T):Kp O O2 (S++T):=⟨ahL h.1 k.1,fun i hi hn=>by
 rw[ahP,not_or]at hn;rw[k.2 i (Ma hi h.1) hn.2,h.2 i hi hn.1]⟩
theorem Kp.ge {O O1:VH} (h:O.Ge O1) {S:List Nat}:Kp O O1 S:=⟨h.N,fun i hi _=>h.hp i hi⟩
theorem Kp.bH {O O1:VH} {q:Option Nat} (h:bz O q O1):Kp O O1 q.toList:=⟨h.N,fun i hi hn=>h.hp i hi fun e=>hn (by rw[e];simp)⟩
theorem Kp.k {O O1:VH} {tk:Tok} (h:b_ tk O O1):Kp O O1 (Tok.id tk).toList:=⟨h.N,fun i hi hn=>h.hp i hi fun e=>hn (by rw[e];simp)⟩
theorem Kp.sub {O O1:VH} {S T:List Nat} (h:Kp O O1 S) (hs:∀x∈S,x∈T\/O.N<=x):Kp O O1 T:=⟨h.1,fun i hi hn=>h.2 i hi fun hm=>by
 rcases hs i hm with e | e
 ·exact hn e
 ·omega⟩
theorem BC.ge {O O':VH} {B k:Nat} {R:List Rec} {z tl:List MV} (h:BC O B k R z tl) (g:O.Ge O'):BC O' B k R z tl:=
 h.step (S:=[]) (Kp.ge g) (fun x hx=>by cases hx) ((g.hp _ (Ma h.lt h.le)).trans h.cells) h.zl
def qd (R:List Rec) (tk:Tok) (cu:Nat) (dn tx:Bool):List MV:=[.sl R.length (im R) tk,mi cu,mb dn,mb tx]
structure BS (O:VH) (B k:Nat) (R:List Rec) (tk:Tok) (cu:Nat) (dn tx:Bool) (z:List MV):Prop where
 c:BC O B k R z (qd R tk cu dn tx)
 a:App O B 1 tk
theorem BS.ge {O O':VH} {B k cu:Nat} {R:List Rec} {tk:Tok} {dn tx:Bool} {z:List MV} (h:BS O B k R tk cu dn tx z) (g:O.Ge O'):BS O' B k R tk cu dn tx z:=⟨h.c.ge g,h.a.ge g⟩
def d_ (k:Nat) (R:List Rec) (tk:Tok):List Nat:=k::(R.map (·.b)++(R.head?.bind fun r=>gid r.q).toList++(Tok.id tk).toList)
theorem n9 {k:Nat} {R:List Rec} {tk:Tok}:k∈d_ k R tk:=by simp[d_]
theorem qe {k:Nat} {r:Rec} {R:List Rec} {tk:Tok}:r.b∈d_ k (r::R) tk:=by simp[d_]
theorem n_ {k x:Nat} {r:Rec} {R:List Rec} {tk:Tok} (h:gid r.q=some x):x∈d_ k (r::R) tk:=by simp[d_,h]
theorem Ej {k x:Nat} {R:List Rec} {tk:Tok} (h:Tok.id tk=some x):x∈d_ k R tk:=by simp[d_,h]
theorem Bp {k:Nat} {r:Rec} {R:List Rec} {tk:Tok} (h:r∈R):r.b∈d_ k R tk:=by
 have:=List.mem_map_of_mem (f:=fun r:Rec=>r.b) h;simp only[d_,adW,ahP];exact .inr (.inl (.inl this))
theorem Kp.more {O O1 O2:VH} {U S:List Nat} (h:Kp O O1 U) (k:Kp O1 O2 S) (hs:∀x∈S,x∈U\/O.N<=x):Kp O O2 U:=⟨ahL h.1 k.1,fun i hi hn=>by
 rw[k.2 i (Ma hi h.1) (fun hm=>(hs i hm).elim hn fun e=>by omega),h.2 i hi hn]⟩
set_option linter.defProp false in
def aE:=agc ez<|agc akq<|agc akp<|agc NG<|agc NH vX
theorem rQ {l:List MV} (h:l.length=4):∃a b c d,l=[a,b,c,d]:=by
 match l,h with
 | [a,b,c,d],_=>exact⟨_,_,_,_,rfl⟩
theorem App.yG {O:VH} {B sz k:Nat} {tk:Tok} {x:cg} (h:App O B sz tk) (hk:k<B):App (O.set k x) B sz tk:=by
 cases tk with
 | own t j=>exact⟨h.1,(π _ _ (by have:=h.2.2.1;omega)).trans h.2.1,h.2.2.1,h.2.2.2⟩
 | nil=>trivial
 | full=>trivial
 | au=>exact h.elim
theorem BS.flag {O:VH} {B k cu cnt':Nat} {R:List Rec} {tk:Tok} {dn tx dn' tx':Bool} {z:List MV} (h:BS O B k R tk cu dn tx z):BS (O.set k (.cells (pQ R z++qd R tk cnt' dn' tx'))) B k R tk cnt' dn' tx' z:=
 ⟨h.c.step Kp.set (fun x hx=>.inl (by simpa using hx)) (ρ _ _ _) h.c.zl,h.a.yG h.c.lt⟩
theorem abL {O:VH} {B k cu:Nat} {R:List Rec} {tk:Tok} {dn tx:Bool} {z:List MV} (h:BS O B k R tk cu dn tx z) (hc:cu<=1000000):
  VF Tryz.prog 300 [.ptr k 0] O (aD fun m O'=>m=mb (decide (cu+1<=4096))/\BS O' B k R tk (cu+1) dn tx z/\Kp O O' [k]):=by
 have hk:=h.c.cells;obtain⟨a0,a1,a2,a3,hr⟩:=rQ (fl R z h.c.zl);have pc:=h.flag (cnt':=cu+1) (dn':=dn) (tx':=tx);unfold qd at hk pc;rw[hr]at hk pc;simp only[aq,bw,adY,adX]at hk pc;refine Δ 15 [.tmp 2] Tryz.func300 ?_;by_cases h1:cu+1<=4096
 ·rw[decide_eq_true h1];refine ao @aE @hk ?_;exact⟨pc,Kp.set⟩
 ·rw[decide_eq_false h1];refine ao @aE @hk ?_;exact⟨pc,Kp.set⟩
theorem Gn {O:VH} {B k cu:Nat} {r:Rec} {R:List Rec} {tk:Tok} {dn tx:Bool} {z:List MV} (h:BS O B k (r::R) tk cu dn tx z) (hl:R.length<=1000):
  VF Tryz.prog 281 [.ptr k 0] O (aD fun m O'=>m= .ptr r.b r.off/\O'=O):=by
 have hk:=h.c.cells;obtain⟨a0,a1,a2,a3,hr⟩:=rQ (fl (r::R) z h.c.zl);unfold qd at hk;rw[hr]at hk
 have bG:(im (r::R))[R.length]?=some (.ptr r.b r.off):=by
  rw[rP,ahN (by rw[lA];exact ahO _),lA,Nat.sub_self];rfl
 have hCl:(im (r::R)).length=R.length+1:=by rw[lA];rfl
 generalize im (r::R)=C at*;simp only[aq,bw,List.cons_append,List.nil_append,List.length_cons]at hk;have o8:(((R.length+1:Nat):Int) - 1)=(R.length:Int):=by omega
 refine υ 15 [.tmp 2] Tryz.func281 ?_;refine κ @aE ?_;refine χ ?_;refine WC.reads ?_;refine iN @aE @hk @o8 @bG @vV ?_;refine ν @aE ?_;trivial
def sh (R:List Rec):List (Bs×List (Bs×Bs)×List Nd):=R.map fun r=>(r.name,r.attrs,r.kids)
def rR (n cu:Nat) (dn:Bool):Option Int:=if dn then some 16 else if 64<=n then some 2 else if 4096<cu+1 then some 2 else none
theorem VH.set_comm {O:VH} {a b:Nat} {x y:cg} (h:a≠b):(O.set a x).set b y=(O.set b y).set a x:=by
 have key:bH (bH O.hp a (some x)) b (some y)=bH (bH O.hp b (some y)) a (some x):=by
  funext j
  by_cases e:j=a
  ·subst e;rw[ay _ _ h,aJ,aJ]
  ·by_cases e2:j=b
   ·subst e2;rw[aJ,ay _ _ e,aJ]
   ·rw[ay _ _ e2,ay _ _ e,ay _ _ e,ay _ _ e2]
 unfold VH.set;dsimp only;rw[key]
section
variable {G H:Gh} {n:Sz} {D:List Deferred} {e:Env} {a:Act} {P:Program} {tab:cj} {O O':VH} {w:World} {m:MV} {ops:Array Oper} {Q:VQ}
theorem bQ.agO {brk:List Nat} {fuel i:Nat} {listed:Array Bool} {l:List Oper} {o:Oper} (ho:l[i]?=some o) (hr:Region.ready .any ⟨l⟩ listed=[i]) (hb:brk.contains i=false) (hA:Hs o.op=true)
  (hg:aN ⟨l⟩ o e=some true) (hy:∀G a w,WR G O w->FR G n D e a->dU P o a w G m O') (hd:bC n o.dst=true) (h:bQ P n D ⟨l⟩ brk fuel (listed.setIfInBounds i true) (aZ o.dst m e) O' Q):bQ P n D ⟨l⟩ brk (fuel+1) listed e O Q:=by
 intro G a w hw aW;refine jW hr (by simp) fun j hj=>?_
 obtain rfl:j=i:=by simpa using hj
 obtain⟨nx,w',H,u,cC,tQ,h1,h2,h3,h4⟩:=hy G a w hw aW;have DQ:(⟨l⟩:Array Oper)[j]?=some o:=by simpa using ho
 simp only[wpOp,DQ,bA aW hg,if_true];refine .inl ?_;unfold Oper.wp;rw[cC];have hk:=h H (a.put o.dst u) w' h2 ((aW.mono h1).aZ hd h3)
 have ZH:TH brk G w j w'/\jB P .any ⟨l⟩ (cM G n D Q) (TH brk G w) fuel (listed.setIfInBounds j true) (a.put o.dst u) w':=by
  have qs:=h4 hA;have hs:Sx G w w':=⟨SS.le h1 h2.ss,qs⟩;refine⟨fun _=>hs,jX (fun _ _ _=>cM.le h1) _ _ _ _ (fun k _ x hT qp=>?_) hk⟩;obtain⟨g1,g2⟩:=hT qp;exact⟨SS.le h1 g1,fun k' b nC=>(g2 k' b (h1.bW nC)).trans (qs k' b nC)⟩
 rcases tQ with rfl | ⟨rfl,rfl⟩<;>exact ZH
end
theorem abM {G:Gh} {n:Sz} {D:List Deferred} {e:Env} {a:Act} {O:VH} {w:World} {d:Option Tmp} {ty:TypeId} {ps:String} {af:Array Edge} {g:Option (Nat×Bool)} (hw:WR G O w) (hf:FR G n D e a):dU Tryz.prog (.mk d (.buildSlice 91 1 #[(0,.const (.agg #[.string ⟨⟨[]⟩⟩,.slice none 0 0,.slice none 0 0,.string ⟨⟨[]⟩⟩]))]) ty ps af g) a w G (.sl 1 [.str [],.sl 0 [] .nil,.sl 0 [] .nil,.str []] .full) O:=
 dU.of (uF (t:=91) (len:=1) (m:=.sl 1 [.str [],.sl 0 [] .nil,.sl 0 [] .nil,.str []] .full) (parts:=[(0,.agg [.str [],.sl 0 [] .nil,.sl 0 [] .nil,.str []])]) (ps:= #[(0,.agg #[.string ⟨⟨[]⟩⟩,.slice none 0 0,.slice none 0 0,.string ⟨⟨[]⟩⟩])]) aa hw (by kernel_rfl) rfl
  (aQ.cons (.agg (us:=[.string ⟨⟨[]⟩⟩,.slice none 0 0,.slice none 0 0,.string ⟨⟨[]⟩⟩]) rfl (aQ.cons .str (aQ.cons .slnil (aQ.cons .slnil (aQ.cons .str aQ.nil)))).2) aQ.nil)) (by simp[execOp,Act.eval])
theorem agP (L sp:List MV) (x y z w a b c d:MV):((((L++[x,y,z,w]++sp).set L.length a).set (L.length+1) b).set (L.length+1+1) c).set (L.length+1+1+1) d=L++[a,b,c,d]++sp:=by
 induction L with
 | nil=>rfl
 | cons e L ih=>
   simp only[adY,zP,List.set_cons_succ];rw[ih]
theorem App.Ou {O O':VH} {B sz:Nat} {tk:Tok} {S:List Nat} (h:App O B sz tk) (u:Kp O O' S) (hS:∀x∈S,O.hp x≠some .tok):App O' B sz tk:=by
 cases tk with
 | own t k=>exact⟨h.1,(u.2 t h.2.2.2 (fun hm=>hS t hm h.2.1)).trans h.2.1,h.2.2.1,Ma h.2.2.2 u.1⟩
 | nil=>trivial
 | full=>trivial
 | au=>exact h.elim
theorem Ux {O:VH} {B n:Nat} {p:MV} {L:List MV} (h:GR O 93 4 B p n L):dy (bY Tryz.prog) 91 p=some (.v (.int .i64 n)):=by
 rcases h with⟨rfl,_,rfl | rfl⟩ | ⟨k,c,rfl,_⟩
 ·exact bR vX
 ·exact bR vX
 ·exact IC vX
theorem abN {O:VH} {B k cu:Nat} {R:List Rec} {tk:Tok} {dn tx:Bool} {z:List MV} (h:BS O B k R tk cu dn tx z) (hc:cu<=1000000) (kd:Int) (nm tt:Bs) (gk:List (Bs×Bs)) (p1 p2 p3:Int) (Jh:gk.length<=100000) (fQ:∀r∈R,r.kids.length<=1000000):
  VF Tryz.prog 279 [.ptr k 0,.agg [mi kd,.str nm,.sl gk.length (gk.flatMap bm) .au,.str tt,mi p1,mi p2,mi p3]] O (aD fun m O'=>Kp O O' (d_ k R tk)/\match rR R.length cu dn with
   | some e=>m=mi e
   | none=>m=mi 0/\∃R' tk',BS O' B k R' tk' (cu+1) false false z/\sh R'=(nm,gk,[])::sh R/\∀x∈d_ k R' tk',x∈d_ k R tk\/O.N<=x):=by
 obtain⟨a0,a1,a2,a3,hr⟩:=rQ (fl R z h.c.zl);have h_:=h.c.lt;have hBn:=h.c.le;simp only[aq];refine υ 87 [.tmp 4] Tryz.func279 ?_;refine κ @aE ?_;refine VC.bx ?_;rintro O1 ⟨aI,DV,cW⟩;have h1:=h.ge aI;have cA:=h1.c.cells;unfold qd at cA;rw[hr]at cA;simp only[aq,bw,adY,adX]at cA;have jN:Kp O O1 (d_ k R tk):=Kp.ge aI;have wL:∀x∈[k],x∈d_ k R tk\/O.N<=x:=fun x hx=>.inl (by rw[ahJ]at hx;rw[hx];exact n9)
 cases dn;rotate_left
 ·refine ξ @aE @cA ?_;exact⟨jN,rfl⟩
 by_cases FK:64<=R.length
 ·have hE:rR R.length cu false=some 2:=by unfold rR;rw[if_neg (by simp),if_pos FK]
  rw[hE];refine ξ @aE @cA ?_;exact jN
 refine ξ @aE @cA ?_;refine ah.rt (abL h1 hc) ?_;rintro _ O2 ⟨rfl,h2,c8⟩;by_cases FZ:cu+1<=4096;rotate_left
 ·have hE:rR R.length cu false=some 2:=by unfold rR;rw[if_neg (by simp),if_neg FK,if_pos (by omega)]
  rw[hE,decide_eq_false FZ];refine ab @aE ?_;exact jN.more c8 wL
 have hE:rR R.length cu false=none:=by unfold rR;rw[if_neg (by simp),if_neg FK,if_neg (by omega)]
 rw[hE,decide_eq_true FZ];dsimp only;refine ab @aE ?_;have Sf:Kp O O2 (d_ k R tk):=jN.more c8 wL;have si:=(c8.2 _ (by omega) (by simp;omega)).trans DV;have eZ:=c8.1;refine ξ @aE @si ?_;refine VC.al ?_;rintro O3 ⟨aH,lS,gy⟩;have h3:=h2.ge aH;have dR:=h3.c.cells;have Cp:Kp O O3 (d_ k R tk):=Sf.more (Kp.ge aH (S:=[])) (fun x hx=>by cases hx);have hR:R.length<64:=by omega
 cases R with
 | nil=>
   obtain rfl:z=[a0,a1,a2,a3]:=hr;unfold qd at dR;simp only[pQ,im,List.map_nil,List.reverse_nil,Zj,aq,bw,adY,adX]at dR;refine θ (aG @aE @dR @lS ?_);refine VC.gen ?_;intro O4 qb;have lX:O4.hp k=some (.cells [.str nm,.sl gk.length (gk.flatMap bm) .au,.sl 0 [] .nil,.str [],.sl 0 [] tk,.v (.int .i64 (cu+1:Nat)),.v (.bool false),.v (.bool tx)]):=by rw[qb];exact ρ _ _ _
   have fM:App O4 B 1 tk:=by rw[qb];exact h3.a.yG h_
   have gO:O4.N=O3.N:=by rw[qb];rfl
   have aiB:Kp O O4 (d_ k [] tk):=Cp.more (S:=[k]) (by rw[qb];exact Kp.set) wL;clear qb;refine WC.bP (.held [12]) [(0,.rd),(1,.rd),(2,.rd),(3,.rd),(4,.rd),(5,.rd),(6,.rd),(7,.rd),(8,.one),(9,.one),(10,.one),(11,.rd),(12,.one)] ?_;refine ao @aE @lX ?_;have cf:=aR (tk':=.full) (n:=0) (k:=1) (cs:=[]) (ds:=[.ptr k 0]) NG NH fM rfl rfl rfl (by decide) (by decide) (by decide) (by decide);refine VL.app cf ?_;have gK:=VH.jF fM lX (by simp) (by omega);have eU:=VH.dZ O4 tk;have dS:App (O4.after tk) B 1 (.own O4.N 1):=App.after (by omega);have ur:Kp O (O4.after tk) (d_ k [] tk):=aiB.more (Kp.k (b_.after fM)) (fun x hx=>.inl (Ej (by simpa using hx)));generalize O4.after tk=O5 at*;refine ao @aE @gK ?_;refine VC.gen ?_;intro O6 Ck;have p9:O6.hp k=some (.cells [.str nm,.sl gk.length (gk.flatMap bm) .au,.sl 0 [] .nil,.str [],.sl 1 [.ptr k 0] (.own O4.N 1),.v (.int .i64 (cu+1:Nat)),.v (.bool false),.v (.bool tx)]):=by rw[Ck];exact ρ _ _ _
   have oa:App O6 B 1 (.own O4.N 1):=by rw[Ck];exact dS.yG h_
   have Gp:Kp O O6 (d_ k [] tk):=ur.more (S:=[k]) (by rw[Ck];exact Kp.set) wL;have mU:O6.N=O5.N:=by rw[Ck];rfl
   clear Ck;refine ξ @aE @p9 ?_;refine ν @aE ?_;refine⟨Gp.more Kp.set wL,[⟨k,0,nm,gk,[],.sl 0 [] .nil⟩],.own O4.N 1,⟨⟨h_,by rw[VH.fp];omega,?_,rfl,⟨rfl,rfl⟩,⟨.inl ⟨rfl,by rw[aC],.inl rfl⟩,(fun i e=>by cases e)⟩⟩,oa.yG h_⟩,rfl,fun x hx=>?_⟩
   ·rw[ρ];rfl
   ·have hx:x∈[k,k,O4.N]:=hx;simp only[adW,adZ,or_false]at hx;rcases hx with rfl | rfl | rfl
    ·exact .inl n9
    ·exact .inl n9
    ·exact .inr (by omega)
 | cons r R=>
   unfold qd at dR;rw[hr]at dR;simp only[aq,bw,adY,adX,zP]at dR;obtain⟨pre,post,fy,dH,Dl,Cq,hR2⟩:=h3.c.loc;have jd:=h3.c.top;refine ξ @aE @dR ?_;refine ah.rt (Gn h3 (by rw[zP]at hR;omega)) ?_;rintro _ O9 ⟨rfl,eO⟩;rw[eO];clear eO O9
   refine ab @aE ?_;have hkr:=fQ r (by simp)
   have Ov:(pre++jw r++post)[r.off+2]?=some r.q:=by
    rw[Zk,ahN (by omega), <-dH,ahM];rfl
   have gL:∀q',(pre++jw r++post).set (r.off+2) q'=pre++jw {r with q:=q'}++post:=fun q'=>by
    rw[Zk,ajp _ _ (by omega), <-dH,ahM,Zk];rfl
   have hlC:(pre++jw r++post).length=pre.length+4+post.length:=by simp[sU];omega
   generalize hC:pre++jw r++post=C at*;refine VC.J_ [7,8,9,10,11,12] (by kernel_rfl) ?_;refine bQ.Ce 0 ?_;refine ab @aE ?_;refine bQ.Ce 1 ?_;refine ab @aE ?_;refine bQ.Ce 2 ?_;refine ab @aE ?_;refine bQ.Ce 3 ?_;refine aG @aE @fy @Ov ?_;refine bQ.Ce 4 ?_;refine ao @aE @lS ?_;have ib:=Ux jd.1;refine bQ.Ce 5 ?_;refine ao @aE @ib ?_;refine bQ.agO (i:=6) rfl (by kernel_rfl) (by kernel_rfl) rfl rfl (fun _ _ _ hw hf=>abM hw hf) rfl ?_;simp only[ak];refine bQ.fin (by kernel_rfl) ?_;refine cE.st (i:=7) rfl (by kernel_rfl) rfl rfl (RY aa (te:=⟨_,4,80,_⟩) (dx:=.slice 93) (q:=.sl 1 [.str [],.sl 0 [] .nil,.sl 0 [] .nil,.str []] .full) (j:=1) (ds:=[.str [],.sl 0 [] .nil,.sl 0 [] .nil,.str []]) jd.1 rfl rfl (by rw[vX];rfl) DJ.1.1 (by rw[vX];rfl) trivial (by dsimp only;omega) (by simp only[maxLen];omega) (by omega) rfl rfl) ?_;rintro m O4 ⟨x_,nG,iT,hm⟩
   obtain⟨k2,c2,rfl,bM⟩:∃k2 c2,m= .bB k2 0 (r.kids.length+1) c2/\(gid r.q=some k2\/O3.N<=k2):=by
    rcases hm with⟨k2,c2,h1,h2⟩ | ⟨h1,_⟩
    ·exact⟨k2,c2,h1,h2.imp id And.left⟩
    ·cases h1
   obtain⟨c6,AD⟩:Row O4 93 4 B k2 c2 (aC r.kids++[.str [],.sl 0 [] .nil,.sl 0 [] .nil,.str []])/\r.kids.length+1<=c2:=by
    rcases x_ with⟨h1,_⟩ | ⟨k3,c3,h1,h2,_,h4⟩
    ·omega
    ·injection h1 with h1 _ _ h3;subst h1;subst h3;exact⟨h4,h2⟩
   have abO:r.b<k2:=by
    rcases bM with e | e
    ·exact jd.2 _ e
    ·omega
   have akU:=nG.N;have fR:O4.hp r.b=some (.cells C):=(nG.hp _ Dl (fun e=>by have:=jd.2 _ e;omega)).trans fy;obtain⟨sp,uu,sf⟩:=c6.cells;simp only[ak];have vy:=dA r.kids
   have mC:∀a b c d:MV,((((aC r.kids++([.str [],.sl 0 [] .nil,.sl 0 [] .nil,.str []]:List MV)++sp).set (r.kids.length*4) a).set (r.kids.length*4+1) b).set (r.kids.length*4+1+1) c).set (r.kids.length*4+1+1+1) d=aC r.kids++[a,b,c,d]++sp:=fun a b c d=>by
    rw[<-vy];exact agP _ _ _ _ _ _ _ _ _ _
   generalize EE:aC r.kids++[.str [],.sl 0 [] .nil,.sl 0 [] .nil,.str []]++sp=C2 at*;refine cE.IS 8 ?_;refine ab @aE ?_;refine cE.IS 10 ?_;refine ab @aE ?_;refine cE.IS 11 ?_;refine ab @aE ?_;refine cE.two (i:=9) (j:=12) (by kernel_rfl) ?_ ?_
   ·refine aL.o1 ?_;refine aG @aE @uu @mC ?_;refine cE.Uq (i:=12) ?_;refine aG @aE @fR @gL ?_;refine cE.bP [] ?_;refine WL.gen ?_;intro O5 mW;have eU:O5.N=O4.N:=by rw[mW];rfl
    have gd:O5.hp r.b=some (.cells (pre++jw {r with q:=.bB k2 0 (r.kids.length+1) c2}++post)):=by rw[mW];exact ρ _ _ _
    have Bq:O5.hp k2=some (.cells (aC r.kids++jw ⟨k2,r.kids.length*4,nm,gk,[],.sl 0 [] .nil⟩++sp)):=by rw[mW];exact ω (ρ _ _ _)
    have u4:Kp O4 O5 [k2,r.b]:=by rw[mW];exact Kp.trans (S:=[k2]) (T:=[r.b]) Kp.set Kp.set
    clear mW
    have Sg:Co O4 [k2,r.b]:=fun x hx j t n e=>by
     simp only[adW,adZ,or_false]at hx;rcases hx with rfl | rfl
     ·rw[uu]at e;cases e
     ·rw[fR]at e;cases e
    have Sh:Row O5 93 4 B k2 c2 (aC r.kids++jw ⟨k2,r.kids.length*4,nm,gk,[],.sl 0 [] .nil⟩):=c6.own u4 Sg Bq (by rw[<-sf, <-EE];simp[sU];omega)
    have u3:Kp O3 O5 (r.b::(gid r.q).toList):=((Kp.bH nG).trans u4).sub (fun x hx=>by
     simp only[ahP,adW,adZ,or_false]at hx ⊢;rcases hx with hx | hx | hx
     ·exact .inl (.inr hx)
     ·rcases bM with e | e
      ·rw[e];simp[hx]
      ·exact .inr (by omega)
     ·exact .inl (.inl hx))
    have pd:∀x∈r.b::(gid r.q).toList,x=r.b\/gid r.q=some x:=fun x hx=>by
     rcases adW.1 hx with e | e
     ·exact .inl e
     ·exact .inr (by simpa using e)
    have KX:BC O5 B k _ z (qd (r::R) tk (cu+1) false tx):=h3.c.push (by rw[hC];exact fy) dH (fun e=>(Cq e).2.2) u3 pd gd bM AD Sh
    have dS:App O5 B 1 tk:=by
     refine h3.a.Ou u3 fun x hx e=>?_
     rcases pd x hx with e2 | e2
     ·subst e2;rw[fy]at e;cases e
     ·obtain⟨cs,e3⟩:=jd.1.Ot e2;rw[e3]at e;cases e
    have ur:Kp O O5 (d_ k (r::R) tk):=Cp.more u3 (fun x hx=>by
     rcases pd x hx with e | e
     ·rw[e];exact .inl qe
     ·exact .inl (n_ e))
    obtain⟨b0,b1,b2,b3,kh⟩:=rQ (fl (⟨k2,r.kids.length*4,nm,gk,[],.sl 0 [] .nil⟩::{r with q:=.bB k2 0 (r.kids.length+1) c2}::R) z h.c.zl);have gK:=KX.cells;unfold qd at gK;rw[kh]at gK;have hP:=lA (r::R);generalize hPG:im (r::R)=PT at*;simp only[aq,bw,adY,adX,zP]at gK hP
    have abP:(pre++jw {r with q:=.bB k2 0 (r.kids.length+1) c2}++post)[r.off+2]?=some (.bB k2 0 (r.kids.length+1) c2):=by
     rw[Zk,ahN (by omega), <-dH,ahM];rfl
    generalize pre++jw {r with q:=.bB k2 0 (r.kids.length+1) c2}++post=C5 at*;have o8:(((r.kids.length+1:Nat):Int) - 1)=(r.kids.length:Int):=by omega
    refine ab @aE ?_;refine WC.bP (.held [20]) [(0,.rd),(1,.rd),(2,.rd),(3,.rd),(4,.rd),(5,.rd),(6,.rd),(7,.rd),(8,.rd),(9,.rd),(10,.rd),(11,.rd),(12,.rd),(13,.rd),(14,.rd),(15,.rd),(16,.one),(17,.one),(18,.one),(19,.rd),(20,.one)] ?_;refine HJ @aE @gK @gd @abP @o8 @vV ?_;have cf:=aR (tk':=.full) (n:=R.length+1) (k:=1) (cs:=PT) (ds:=[.ptr k2 (r.kids.length*4)]) NG NH dS (by rw[hP,anc]) rfl rfl (by decide) (by decide) (by simp only[zP]at hR;omega) (by simp only[zP,maxLen]at hR ⊢;omega);refine VL.app cf ?_;have p9:=VH.jF dS gK (by simp) (by omega);have mU:=VH.dZ O5 tk;have oa:App (O5.after tk) B 1 (.own O5.N 1):=App.after (by omega);have u6:Kp O5 (O5.after tk) (Tok.id tk).toList:=Kp.k (b_.after dS)
    have dh:∀x∈(Tok.id tk).toList,O5.hp x=some .tok/\B<=x:=fun x hx=>by
     have e:Tok.id tk=some x:=by simpa using hx
     cases tk with
     | own s j=>injection e with e;subst e;exact⟨dS.2.1,dS.2.2.1⟩
     | _=>cases e
    have Gp:Kp O (O5.after tk) (d_ k (r::R) tk):=ur.more u6 (fun x hx=>.inl (Ej (by simpa using hx)));have abQ:BC (O5.after tk) B k _ z _:=KX.step (tl':=[.sl (R.length+1) PT tk,mi (cu+1:Nat),mb false,mb tx]) u6 (fun x hx=>.inr (dh x hx).1) (by rw[kh];exact p9) h.c.zl;generalize O5.after tk=O6 at*;refine ao @aE @p9 ?_;refine VC.gen ?_;intro O7 qU;have u7:O7.hp k=some (.cells [b0,b1,b2,b3,.sl (R.length+1+1) (PT++[.ptr k2 (r.kids.length*4)]) (.own O5.N 1),.v (.int .i64 (cu+1:Nat)),.v (.bool false),.v (.bool tx)]):=by rw[qU];exact ρ _ _ _
    have uv:App O7 B 1 (.own O5.N 1):=by rw[qU];exact oa.yG h_
    have Si:Kp O O7 (d_ k (r::R) tk):=Gp.more (S:=[k]) (by rw[qU];exact Kp.set) wL;have uY:O7.N=O6.N:=by rw[qU];rfl
    have abR:BC O7 B k _ z [.sl (R.length+1+1) (PT++[.ptr k2 (r.kids.length*4)]) (.own O5.N 1),.v (.int .i64 (cu+1:Nat)),.v (.bool false),.v (.bool tx)]:=abQ.step (S:=[k]) (by rw[qU];exact Kp.set) (fun x hx=>.inl (by simpa using hx)) (by rw[kh];exact u7) h.c.zl;clear qU;refine ξ @aE @u7 ?_;refine ν @aE ?_;refine⟨Si.more Kp.set wL,⟨k2,r.kids.length*4,nm,gk,[],.sl 0 [] .nil⟩::{r with q:=.bB k2 0 (r.kids.length+1) c2}::R,.own O5.N 1,⟨abR.step (S:=[k]) Kp.set (fun x hx=>.inl (by simpa using hx)) ?_ h.c.zl,uv.yG h_⟩,rfl,fun x hx=>?_⟩;rotate_left
    ·have hx:x∈k::((k2::r.b::R.map (·.b))++[]++[O5.N]):=hx;simp only[adW,ahP,ajm,adZ,or_false,am6]at hx;rcases hx with rfl | (rfl | rfl | ⟨g,hg,rfl⟩) | rfl
     ·exact .inl n9
     ·rcases bM with e | e
      ·exact .inl (n_ e)
      ·exact .inr (by omega)
     ·exact .inl qe
     ·exact .inl (Bp (ajv _ hg))
     ·exact .inr (by omega)
    rw[ρ,kh, <-hPG];have e:im (⟨k2,r.kids.length*4,nm,gk,[],.sl 0 [] .nil⟩::{r with q:=.bB k2 0 (r.kids.length+1) c2}::R)=im (r::R)++[.ptr k2 (r.kids.length*4)]:=rP _ _;unfold qd;rw[e];rfl
   ·refine aL.o1 ?_;refine aG @aE @fR @gL ?_;refine cE.Uq (i:=9) ?_;refine aG @aE @uu @mC ?_;refine cE.bP [] ?_;refine WL.gen ?_;intro O5 mW;rw[VH.set_comm (by omega)]at mW;have eU:O5.N=O4.N:=by rw[mW];rfl
    have gd:O5.hp r.b=some (.cells (pre++jw {r with q:=.bB k2 0 (r.kids.length+1) c2}++post)):=by rw[mW];exact ρ _ _ _
    have Bq:O5.hp k2=some (.cells (aC r.kids++jw ⟨k2,r.kids.length*4,nm,gk,[],.sl 0 [] .nil⟩++sp)):=by rw[mW];exact ω (ρ _ _ _)
    have u4:Kp O4 O5 [k2,r.b]:=by rw[mW];exact Kp.trans (S:=[k2]) (T:=[r.b]) Kp.set Kp.set
    clear mW
    have Sg:Co O4 [k2,r.b]:=fun x hx j t n e=>by
     simp only[adW,adZ,or_false]at hx;rcases hx with rfl | rfl
     ·rw[uu]at e;cases e
     ·rw[fR]at e;cases e
    have Sh:Row O5 93 4 B k2 c2 (aC r.kids++jw ⟨k2,r.kids.length*4,nm,gk,[],.sl 0 [] .nil⟩):=c6.own u4 Sg Bq (by rw[<-sf, <-EE];simp[sU];omega)
    have u3:Kp O3 O5 (r.b::(gid r.q).toList):=((Kp.bH nG).trans u4).sub (fun x hx=>by
     simp only[ahP,adW,adZ,or_false]at hx ⊢;rcases hx with hx | hx | hx
     ·exact .inl (.inr hx)
     ·rcases bM with e | e
      ·rw[e];simp[hx]
      ·exact .inr (by omega)
     ·exact .inl (.inl hx))
    have pd:∀x∈r.b::(gid r.q).toList,x=r.b\/gid r.q=some x:=fun x hx=>by
     rcases adW.1 hx with e | e
     ·exact .inl e
     ·exact .inr (by simpa using e)
    have KX:BC O5 B k _ z (qd (r::R) tk (cu+1) false tx):=h3.c.push (by rw[hC];exact fy) dH (fun e=>(Cq e).2.2) u3 pd gd bM AD Sh
    have dS:App O5 B 1 tk:=by
     refine h3.a.Ou u3 fun x hx e=>?_
     rcases pd x hx with e2 | e2
     ·subst e2;rw[fy]at e;cases e
     ·obtain⟨cs,e3⟩:=jd.1.Ot e2;rw[e3]at e;cases e
    have ur:Kp O O5 (d_ k (r::R) tk):=Cp.more u3 (fun x hx=>by
     rcases pd x hx with e | e
     ·rw[e];exact .inl qe
     ·exact .inl (n_ e))
    obtain⟨b0,b1,b2,b3,kh⟩:=rQ (fl (⟨k2,r.kids.length*4,nm,gk,[],.sl 0 [] .nil⟩::{r with q:=.bB k2 0 (r.kids.length+1) c2}::R) z h.c.zl);have gK:=KX.cells;unfold qd at gK;rw[kh]at gK;have hP:=lA (r::R);generalize hPG:im (r::R)=PT at*;simp only[aq,bw,adY,adX,zP]at gK hP
    have abP:(pre++jw {r with q:=.bB k2 0 (r.kids.length+1) c2}++post)[r.off+2]?=some (.bB k2 0 (r.kids.length+1) c2):=by
     rw[Zk,ahN (by omega), <-dH,ahM];rfl
    generalize pre++jw {r with q:=.bB k2 0 (r.kids.length+1) c2}++post=C5 at*;have o8:(((r.kids.length+1:Nat):Int) - 1)=(r.kids.length:Int):=by omega
    refine ab @aE ?_;refine WC.bP (.held [20]) [(0,.rd),(1,.rd),(2,.rd),(3,.rd),(4,.rd),(5,.rd),(6,.rd),(7,.rd),(8,.rd),(9,.rd),(10,.rd),(11,.rd),(12,.rd),(13,.rd),(14,.rd),(15,.rd),(16,.one),(17,.one),(18,.one),(19,.rd),(20,.one)] ?_;refine HJ @aE @gK @gd @abP @o8 @vV ?_;have cf:=aR (tk':=.full) (n:=R.length+1) (k:=1) (cs:=PT) (ds:=[.ptr k2 (r.kids.length*4)]) NG NH dS (by rw[hP,anc]) rfl rfl (by decide) (by decide) (by simp only[zP]at hR;omega) (by simp only[zP,maxLen]at hR ⊢;omega);refine VL.app cf ?_;have p9:=VH.jF dS gK (by simp) (by omega);have mU:=VH.dZ O5 tk;have oa:App (O5.after tk) B 1 (.own O5.N 1):=App.after (by omega);have u6:Kp O5 (O5.after tk) (Tok.id tk).toList:=Kp.k (b_.after dS)
    have dh:∀x∈(Tok.id tk).toList,O5.hp x=some .tok/\B<=x:=fun x hx=>by
     have e:Tok.id tk=some x:=by simpa using hx
     cases tk with
     | own s j=>injection e with e;subst e;exact⟨dS.2.1,dS.2.2.1⟩
     | _=>cases e
    have Gp:Kp O (O5.after tk) (d_ k (r::R) tk):=ur.more u6 (fun x hx=>.inl (Ej (by simpa using hx)));have abQ:BC (O5.after tk) B k _ z _:=KX.step (tl':=[.sl (R.length+1) PT tk,mi (cu+1:Nat),mb false,mb tx]) u6 (fun x hx=>.inr (dh x hx).1) (by rw[kh];exact p9) h.c.zl;generalize O5.after tk=O6 at*;refine ao @aE @p9 ?_;refine VC.gen ?_;intro O7 qU;have u7:O7.hp k=some (.cells [b0,b1,b2,b3,.sl (R.length+1+1) (PT++[.ptr k2 (r.kids.length*4)]) (.own O5.N 1),.v (.int .i64 (cu+1:Nat)),.v (.bool false),.v (.bool tx)]):=by rw[qU];exact ρ _ _ _
    have uv:App O7 B 1 (.own O5.N 1):=by rw[qU];exact oa.yG h_
    have Si:Kp O O7 (d_ k (r::R) tk):=Gp.more (S:=[k]) (by rw[qU];exact Kp.set) wL;have uY:O7.N=O6.N:=by rw[qU];rfl
    have abR:BC O7 B k _ z [.sl (R.length+1+1) (PT++[.ptr k2 (r.kids.length*4)]) (.own O5.N 1),.v (.int .i64 (cu+1:Nat)),.v (.bool false),.v (.bool tx)]:=abQ.step (S:=[k]) (by rw[qU];exact Kp.set) (fun x hx=>.inl (by simpa using hx)) (by rw[kh];exact u7) h.c.zl;clear qU;refine ξ @aE @u7 ?_;refine ν @aE ?_;refine⟨Si.more Kp.set wL,⟨k2,r.kids.length*4,nm,gk,[],.sl 0 [] .nil⟩::{r with q:=.bB k2 0 (r.kids.length+1) c2}::R,.own O5.N 1,⟨abR.step (S:=[k]) Kp.set (fun x hx=>.inl (by simpa using hx)) ?_ h.c.zl,uv.yG h_⟩,rfl,fun x hx=>?_⟩;rotate_left
    ·have hx:x∈k::((k2::r.b::R.map (·.b))++[]++[O5.N]):=hx;simp only[adW,ahP,ajm,adZ,or_false,am6]at hx;rcases hx with rfl | (rfl | rfl | ⟨g,hg,rfl⟩) | rfl
     ·exact .inl n9
     ·rcases bM with e | e
      ·exact .inl (n_ e)
      ·exact .inr (by omega)
     ·exact .inl qe
     ·exact .inl (Bp (ajv _ hg))
     ·exact .inr (by omega)
    rw[ρ,kh, <-hPG];have e:im (⟨k2,r.kids.length*4,nm,gk,[],.sl 0 [] .nil⟩::{r with q:=.bB k2 0 (r.kids.length+1) c2}::R)=im (r::R)++[.ptr k2 (r.kids.length*4)]:=rP _ _;unfold qd;rw[e];rfl
def Rec.nd (r:Rec):Nd:=.mk r.name r.attrs r.kids []
theorem pP.head {O:VH} {B k:Nat} {p:Rec} {R:List Rec} {K:List Nd} (h:pP O B k (p::R)):pP O B k ({p with kids:=K}::R):=by
 cases R with
 | nil=>exact h
 | cons g R=>exact h
theorem Ow {p:Rec} {R:List Rec} {z:List MV} {K:List Nd}:pQ ({p with kids:=K}::R) z=pQ (p::R) z:=by
 cases R with
 | nil=>rfl
 | cons g R=>rfl
def Oy (r:Rec):List Rec->List Rec
 | []=>[]
 | p::R=>{p with kids:=p.kids++[r.nd]}::R
def OI (r:Rec) (z:List MV):List Rec->List MV
 | []=>dK r.nd
 | _::_=>z
theorem BC.pop {O O':VH} {B k:Nat} {r:Rec} {R:List Rec} {z tl pre post:List MV} {S:List Nat} (h:BC O B k (r::R) z tl) (hc:O.hp r.b=some (.cells (pre++jw r++post))) (hl:pre.length=r.off) (hR:R=[]->post=tl) (u:Kp O O' S)
  (hn:∀x∈S,x=r.b\/gid r.q=some x) (py:O'.hp r.b=some (.cells (pre++dK r.nd++post))):BC O' B k (Oy r R) (OI r z R) tl:=by
 have rD:=h.chain;have eh:=rD.lt;have jd:=h.top
 have hS:Co O S:=fun x hx j t n e=>by
  rcases hn x hx with e2 | e2
  ·subst e2;rw[hc]at e;cases e
  ·obtain⟨cs,e3⟩:=jd.1.Ot e2;rw[e3]at e;cases e
 cases R with
 | nil=>
   obtain⟨h1,h2⟩:=rD;have hp:pre=[]:=ahK (by rw[hl,h2]);subst hp;refine⟨h.lt,ahL h.le u.1,?_,mG _,trivial,trivial⟩;rw[<-h1,py,hR rfl];rfl
 | cons p rest=>
   obtain⟨⟨c,e1,e2,jT⟩,e3,e4,e5⟩:=rD;have akT:=jT.lo
   have hkS:k ∉ S:=fun hm=>by
    have:=h.lt;rcases hn k hm with e | e
    ·omega
    ·have:=(jd.1.lo e).1;omega
   obtain⟨sp,uq,Xy⟩:=jT.cells;rw[hc]at uq;injection uq with uq;injection uq with uq
   have dH:pre.length=(aC p.kids).length:=by rw[hl,e3,dA]
   rw[Zk,Zk]at uq;obtain⟨lJ,Bc⟩:=al_ uq dH;obtain⟨_,pO⟩:=al_ Bc rfl;subst lJ;subst pO
   have hlen:(p.kids++[r.nd]).length=p.kids.length+1:=by simp
   refine⟨h.lt,ahL h.le u.1,?_,h.zl,(e5.kp u hS (fun x hx _=>?_) h.lt).head,⟨.inr ⟨r.b,c,?_,?_,?_,?_⟩,fun i e=>?_⟩⟩
   ·show _=some (cg.cells (pQ ({p with kids:=p.kids++[r.nd]}::rest) z++tl));rw[Ow,u.2 k (Ma h.lt h.le) hkS];exact h.cells
   ·refine .inr fun hm=>?_
    have h6:=eh x hx;rcases hn x.b hm with e | e
    ·omega
    ·have:=jd.2 _ e;omega
   ·show p.q=_;rw[e1,hlen]
   ·rw[hlen];exact e2
   ·show(aC (p.kids++[r.nd])).length=_;rw[dA]
   ·show Row O' _ 4 B r.b c (aC (p.kids++[r.nd]));have e6:aC (p.kids++[r.nd])=aC p.kids++dK r.nd:=by rw[eH,aC,aC,ajm]
    rw[e6];refine jT.own u hS py ?_;rw[Qm,Qm,sU]at Xy;rw[Qm,Qm,mG];exact Xy
   ·have e:gid p.q=some i:=e;rw[e1]at e;injection e with e;subst e;exact e4
theorem ff.app {a b c d:List MV} (h:ff a b) (k:ff c d):ff (a++c) (b++d):=by
 refine⟨by rw[Qm,Qm,h.1,k.1],fun i x y hx hy=>?_⟩;rw[List.getElem?_append]at hx hy;by_cases e:i<a.length
 ·rw[if_pos e]at hx;rw[if_pos (by rw[<-h.1];exact e)]at hy;exact h.2 i x y hx hy
 ·rw[if_neg e]at hx;rw[if_neg (by rw[<-h.1];exact e)]at hy;rw[<-h.1]at hy;exact k.2 _ x y hx hy
theorem VC.close {O:VH} {B k:Nat} {r:Rec} {R:List Rec} {z tl pre post:List MV} {P:Program} {n:Sz} {D:List Deferred} {c:Code} {e:Env} {Q:VQ} (h:BC O B k (r::R) z tl) (hc:O.hp r.b=some (.cells (pre++jw r++post)))
  (hk:∀O1,Kp O O1 (r.b::(gid r.q).toList)->O1.hp r.b=some (.cells (pre++dK r.nd++post))->VC P n D c e O1 Q):VC P n D c e O Q:=by
 obtain⟨hg,eh⟩:=h.top;have ql:dK r.nd=[.str r.name,.sl r.attrs.length (r.attrs.flatMap bm) .au,.sl r.kids.length (aC r.kids) .au,.str []]:=by rw[Rec.nd,dK]
 rcases hg with⟨h0,h1,hp⟩ | ⟨kq,cq,hp,hn,hl,jT⟩
 ·refine VC.XD (ds:=pre++dK r.nd++post) hc ?_ (hk _ (Kp.sub Kp.set (fun x hx=>.inl (by simp at hx ⊢;exact .inl hx))) (ρ _ _ _));refine((ff.refl pre).app ?_).app (ff.refl post);rw[ql,jw]
  have hw:Wk r.q (.sl r.kids.length (aC r.kids) .au):=by
   rw[h0,h1];rcases hp with e | e<;>rw[e]<;>exact Wk.tok
  exact(ff.refl [_,_]).app (ff.cons hw (ff.refl _))
 ·obtain⟨sp,h1,h2⟩:=jT.cells;have hne:r.b≠kq:=by have:=eh kq (by rw[hp];rfl);omega
  have e1:pre++jw r++post=(pre++[.str r.name,.sl r.attrs.length (r.attrs.flatMap bm) .au])++ .bB kq 0 r.kids.length cq::(.str []::post):=by
   rw[jw,hp];simp
  rw[e1]at hc;refine VC.xD h1 hc hne (sz:=(aC r.kids).length) (by rw[Qm];omega) ?_
  have e2:pre++dK r.nd++post=(pre++[.str r.name,.sl r.attrs.length (r.attrs.flatMap bm) .au])++ .sl r.kids.length (aC r.kids) .au::(.str []::post):=by
   rw[ql];simp
  rw[ane,List.take_left, <-e2];refine hk _ ?_ (ρ _ _ _);refine⟨ahO _,fun i _ hi=>?_⟩;simp only[hp,gid,adW,Option.toList_some,adZ,or_false,not_or]at hi;rw[π _ _ hi.1,VH.lh _ hi.2]
theorem aiC (r:Rec) (R:List Rec) (tk:Tok):oZ (bY Tryz.prog) 395 (.sl (R.length+1) (im (r::R)) tk) none (.v (.int .i64 (R.length:Int))) (.v (.int .i64 (R.length:Int)))=some (.sl R.length (im R) .full):=by
 have hl:=lA (r::R);have hc:=rP r R;have h2:=lA R;rw[hc]at hl ⊢;simp only[oZ,NG,NH,Option.map_some,dq];rw[if_pos ⟨by omega,by omega,ajk _,ahO _⟩,if_pos ⟨by simp,by rw[hl,anc];rfl⟩,if_neg (by omega)];cases R with
 | nil=>rfl
 | cons p R=>
   rw[if_neg (by simp)];simp only[Int.toNat_natCast,Nat.sub_zero,anc,Nat.zero_mul,ane,if_true];rw[List.take_left' h2]
theorem afh {O:VH} {B k cu:Nat} {r:Rec} {R:List Rec} {tk:Tok} {dn tx:Bool} {z:List MV} (h:BS O B k (r::R) tk cu dn tx z) (Yb:R.length<=1000):
  VF Tryz.prog 280 [.ptr k 0] O (aD fun _ O'=>Kp O O' (d_ k (r::R) tk)/\BS O' B k (Oy r R) .full cu (R.length==0) false (OI r z R)):=by
 obtain⟨pre,post,hc,dH,Dl,Cq,hR2⟩:=h.c.loc;have jd:=h.c.top;have h_:=h.c.lt;have hBn:=h.c.le;have wL:∀x∈[k],x∈d_ k (r::R) tk\/O.N<=x:=fun x hx=>.inl (by rw[ahJ]at hx;rw[hx];exact n9)
 have hSn:∀x∈r.b::(gid r.q).toList,x=r.b\/gid r.q=some x:=fun x hx=>by
  rcases adW.1 hx with e | e
  ·exact .inl e
  ·exact .inr (by simpa using e)
 refine υ 34 [] Tryz.func280 ?_;refine VC.close h.c hc fun O1 u1 eS=>?_
 have hP:=h.c.pop hc dH (fun e=>(Cq e).2.2) u1 hSn eS
 have cz:App O1 B 1 tk:=by
  refine h.a.Ou u1 fun x hx e=>?_
  rcases hSn x hx with e2 | e2
  ·subst e2;rw[hc]at e;cases e
  ·obtain⟨cs,e3⟩:=jd.1.Ot e2;rw[e3]at e;cases e
 have jN:Kp O O1 (d_ k (r::R) tk):=(Kp.refl (S:=d_ k (r::R) tk)).more u1 (fun x hx=>.inl (by
  rcases hSn x hx with e | e
  ·rw[e];exact qe
  ·exact n_ e))
 obtain⟨b0,b1,b2,b3,kh⟩:=rQ (fl (Oy r R) (OI r z R) hP.zl);have cA:=hP.cells;unfold qd at cA;rw[kh]at cA;have Sj:=aiC r R tk;have hPl:=lA (r::R);generalize hPG:im (r::R)=PT at*;simp only[aq,bw,List.cons_append,List.nil_append,List.length_cons]at cA hPl;have o8:(((R.length+1:Nat):Int) - 1)=(R.length:Int):=by omega
 refine χ ?_;refine WC.bP (.held [20]) [(0,.rd),(1,.rd),(2,.rd),(3,.rd),(4,.rd),(5,.rd),(6,.rd),(7,.rd),(8,.rd),(9,.rd),(10,.rd),(11,.rd),(12,.rd),(13,.rd),(14,.rd),(15,.rd),(16,.rd),(17,.rd),(18,.one),(19,.rd),(20,.one)] ?_;refine iN @aE @cA @o8 @vV @Sj ?_;refine VC.gen ?_;intro O2 HW;have bM:O2.hp k=some (.cells [b0,b1,b2,b3,.sl R.length (im R) .full,.v (.int .i64 cu),.v (.bool dn),.v (.bool tx)]):=by rw[HW];exact ρ _ _ _
 have Sf:Kp O O2 (d_ k (r::R) tk):=jN.more (S:=[k]) (by rw[HW];exact Kp.set) wL;have Cr:BC O2 B k _ _ [.sl R.length (im R) .full,.v (.int .i64 cu),.v (.bool dn),.v (.bool tx)]:=hP.step (S:=[k]) (by rw[HW];exact Kp.set) (fun x hx=>.inl (by simpa using hx)) (by rw[kh];exact bM) hP.zl;clear HW
 have pc:∀b,BS ((O2.set k (.cells [b0,b1,b2,b3,.sl R.length (im R) .full,.v (.int .i64 cu),.v (.bool b),.v (.bool tx)])).set k (.cells [b0,b1,b2,b3,.sl R.length (im R) .full,.v (.int .i64 cu),.v (.bool b),.v (.bool false)])) B k (Oy r R) .full cu b false (OI r z R):=fun b=>by
  refine⟨(Cr.step (S:=[k]) (z':=OI r z R) (tl':=[.sl R.length (im R) .full,.v (.int .i64 cu),.v (.bool b),.v (.bool tx)]) Kp.set (fun x hx=>.inl (by simpa using hx)) (by rw[kh,ρ];rfl) hP.zl).step (S:=[k]) Kp.set (fun x hx=>.inl (by simpa using hx)) ?_ hP.zl,trivial⟩;rw[kh,ρ];cases R with
  | nil=>rfl
  | cons p R=>rfl
 have iz:∀x y,Kp O ((O2.set k x).set k y) (d_ k (r::R) tk):=fun x y=>(Sf.more Kp.set wL).more Kp.set wL
 cases R with
 | nil=>
   refine ο @aE @bM ?_;exact⟨iz _ _,pc _⟩
 | cons p R=>
   refine ο @aE @bM ?_;exact⟨iz _ _,pc _⟩
theorem Yc {O:VH} {B k:Nat} {r:Rec} {R:List Rec} {z tl:List MV} {tk:Tok} (h:BC O B k (r::R) z tl):∀x∈d_ k (Oy r R) .full,x∈d_ k (r::R) tk:=by
 intro x hx;cases R with
 | nil=>
   have hx:x∈[k]:=hx;rw[ahJ]at hx;rw[hx];exact n9
 | cons p R=>
   obtain⟨⟨c,e1,_⟩,_⟩:=h.chain;have hx:x∈k::((p.b::R.map (·.b))++(gid p.q).toList++[]):=hx;rw[e1]at hx;simp only[gid,Option.toList_some,adW,ahP,ajm,adZ,or_false,am6]at hx;rcases hx with rfl | (rfl | ⟨g,hg,rfl⟩) | rfl
   ·exact n9
   ·exact Bp (by simp)
   ·exact Bp (by simp[hg])
   ·exact qe
def tK (t:Bs):Nd:=.mk [] [] [] t
theorem Uy (t:Bs):dK (tK t)=[.str [],.sl 0 [] .au,.sl 0 [] .au,.str t]:=by rw[tK,dK,aC];rfl
theorem OJ {O:VH} {B k cu:Nat} {tk:Tok} {dn tx:Bool} {z:List MV} (h:BS O B k [] tk cu dn tx z) (s:Bs) (hs:s.length<=maxLen):
  VF Tryz.prog 278 [.ptr k 0,.str s] O (aD fun m O'=>m=mi (if trimB s=[]then 0 else 16)/\O'=O):=by
 have hk:=h.c.cells;obtain⟨a0,a1,a2,a3,hr⟩:=rQ (fl [] z h.c.zl);unfold qd at hk;rw[hr]at hk;simp only[aq,bw,adY,adX,Zj]at hk;refine υ 61 [.tmp 4] Tryz.func278 ?_;refine κ @aE ?_;refine ξ @aE @hk ?_;refine ah.rt (KN s _ hs) ?_;rintro _ O2 ⟨rfl,eO⟩;rw[eO];clear eO O2
 cases trimB s with
 | nil=>
   refine ao @aE (show(([]:List UInt8)==[])=true from rfl) ?_;trivial
 | cons c t=>
   refine ao @aE (show((c::t)==[])=false from rfl) ?_;trivial
theorem OK {O:VH} {B k cu:Nat} {r:Rec} {R:List Rec} {tk:Tok} {dn tx:Bool} {z:List MV} (h:BS O B k (r::R) tk cu dn tx z) (hR:R.length<=1000):
  VF Tryz.prog 278 [.ptr k 0,.str []] O (aD fun m O'=>m=mi 0/\O'=O):=by
 have hk:=h.c.cells;have h_:=h.c.lt;have hBn:=h.c.le;obtain⟨a0,a1,a2,a3,hr⟩:=rQ (fl (r::R) z h.c.zl);unfold qd at hk;rw[hr]at hk;simp only[aq,bw,adY,adX,zP]at hk;refine υ 61 [.tmp 4] Tryz.func278 ?_;refine κ @aE ?_;refine ξ @aE @hk ?_;refine κ @aE ?_;refine ah.rt (Gn h (by omega)) ?_;rintro _ O2 ⟨rfl,eO⟩;rw[eO];clear eO O2
 refine ab @aE ?_;refine ξ @aE (show(([]:List UInt8)==[])=true from rfl) ?_;refine ν @aE ?_;trivial
theorem OL {O:VH} {B k cu:Nat} {r:Rec} {R:List Rec} {tk:Tok} {dn:Bool} {z:List MV} (h:BS O B k (r::R) tk cu dn true z) (hR0:R.length<=1000) (s t0:Bs) (K:List Nd) (hs:s.length<=1000000000000) (xU:r.kids=K++[tK t0]) (ht0:t0.length<=1000000000000) (fQ:r.kids.length<=1000000) (hne:(s==[])=false):
  VF Tryz.prog 278 [.ptr k 0,.str s] O (aD fun m O'=>m=mi 0/\Kp O O' (d_ k (r::R) tk)/\BS O' B k ({r with kids:=K++[tK (t0++s)]}::R) tk cu dn true z):=by
 have hR:R.length<=1000:=hR0;have hk:=h.c.cells;have h_:=h.c.lt;have hBn:=h.c.le;obtain⟨a0,a1,a2,a3,hr⟩:=rQ (fl (r::R) z h.c.zl);unfold qd at hk;rw[hr]at hk;simp only[aq,bw,adY,adX,zP]at hk;refine υ 61 [.tmp 4] Tryz.func278 ?_;refine κ @aE ?_;refine ξ @aE @hk ?_;refine κ @aE ?_;refine ah.rt (Gn h (by omega)) ?_;rintro _ O2 ⟨rfl,eO⟩;rw[eO];clear eO O2
 refine ab @aE ?_;obtain⟨pre,post,hc,dH,Dl,Cq,hR2⟩:=h.c.loc;have jd:=h.c.top;refine θ (aG @aE @hne @hk ?_);have hKl:r.kids.length=K.length+1:=by rw[xU];simp
 obtain⟨kq,cq,hq,AD,c6⟩:∃kq cq,r.q= .bB kq 0 (K.length+1) cq/\K.length+1<=cq/\Row O 93 4 B kq cq (aC r.kids):=by
  rcases jd.1 with⟨h0,_⟩ | ⟨k2,c,hp,h1,_,h2⟩
  ·omega
  ·rw[hKl]at hp h1;exact⟨k2,c,hp,h1,h2⟩
 have hrq:r.b<kq:=jd.2 kq (by rw[hq];rfl);obtain⟨sp,uu,sf⟩:=c6.cells;have u_:aC r.kids=aC K++[.str [],.sl 0 [] .au,.sl 0 [] .au,.str t0]:=by rw[xU,eH,aC,aC,Uy,ajm]
 rw[u_]at uu sf;have vy:=dA K
 have bG:(aC K++([.str [],.sl 0 [] .au,.sl 0 [] .au,.str t0]:List MV)++sp)[K.length*4+3]?=some (.str t0):=by
  rw[Zk, <-vy,ahN (by omega),ahM];rfl
 have gL:∀m:MV,(aC K++([.str [],.sl 0 [] .au,.sl 0 [] .au,.str t0]:List MV)++sp).set (K.length*4+3) m=aC K++[.str [],.sl 0 [] .au,.sl 0 [] .au,m]++sp:=fun m=>by
  rw[Zk, <-vy,ajp _ _ (by omega),ahM,Zk];rfl
 generalize EE:aC K++[.str [],.sl 0 [] .au,.sl 0 [] .au,.str t0]++sp=C2 at*
 have Ov:(pre++jw r++post)[r.off+2]?=some r.q:=by
  rw[Zk,ahN (by omega), <-dH,ahM];rfl
 rw[hq]at Ov;generalize hC:pre++jw r++post=C at*;have o8:(((K.length+1:Nat):Int) - 1)=(K.length:Int):=by omega
 refine WC.bP (.held [17]) [(0,.rd),(1,.rd),(2,.rd),(3,.rd),(4,.rd),(5,.rd),(6,.rd),(7,.rd),(8,.rd),(9,.rd),(10,.rd),(11,.rd),(12,.rd),(13,.rd),(14,.rd),(15,.one),(16,.rd),(17,.one)] ?_;refine Xi @aE @hc @Ov @o8 @uu @bG @gL @vV ?_;refine ν @aE ?_;have u:Kp O (O.set kq (.cells (aC K++[.str [],.sl 0 [] .au,.sl 0 [] .au,.str (t0++s)]++sp))) [kq]:=Kp.set;have zM:aC (K++[tK (t0++s)])=aC K++[.str [],.sl 0 [] .au,.sl 0 [] .au,.str (t0++s)]:=by rw[eH,aC,aC,Uy,ajm]
 have hl9:(K++[tK (t0++s)]).length=K.length+1:=by simp
 have hB9:B<=kq:=c6.lo;refine⟨(Kp.refl (S:=d_ k (r::R) tk)).more u (fun x hx=>.inl (by rw[ahJ]at hx;rw[hx];exact n_ (by rw[hq];rfl))),h.c.KW (r':={r with kids:=K++[tK (t0++s)]}) (by rw[hC];exact hc) dH (fun e=>(Cq e).2.2) u rfl rfl (fun x hx=>.inr (by rw[ahJ]at hx;rw[hx,hq];rfl)) (by rw[π _ _ (by omega)];show _=some (cg.cells (pre++jw r++post));rw[hC];exact hc) (.inr ⟨kq,cq,?_,?_,?_,?_⟩) (fun i e=>jd.2 i e),h.a.Ou u (fun x hx e=>by rw[ahJ]at hx;subst hx;rw[uu]at e;cases e)⟩
 ·show r.q=_;rw[hq,hl9]
 ·rw[hl9];exact AD
 ·show(aC (K++[tK (t0++s)])).length=_;rw[dA]
 ·show Row _ _ 4 B kq cq (aC (K++[tK (t0++s)]));rw[zM];refine c6.own u (fun x hx j t n e=>by rw[ahJ]at hx;subst hx;rw[uu]at e;cases e) (ρ _ _ _) ?_;rw[<-sf, <-EE];simp
theorem OM {O:VH} {B k cu:Nat} {r:Rec} {R:List Rec} {tk:Tok} {dn:Bool} {z:List MV} (h:BS O B k (r::R) tk cu dn false z) (hc0:cu<=1000000) (hR0:R.length<=1000) (s:Bs) (hs:s.length<=1000000000000) (fQ:r.kids.length<=1000000) (hne:(s==[])=false):
  VF Tryz.prog 278 [.ptr k 0,.str s] O (aD fun m O'=>Kp O O' (d_ k (r::R) tk)/\match decide (4096<cu+1)with
   | true=>m=mi 2
   | false=>m=mi 0/\∃q',BS O' B k ({r with kids:=r.kids++[tK s],q:=q'}::R) tk (cu+1) dn true z/\∀x,gid q'=some x->gid r.q=some x\/O.N<=x):=by
 have hR:R.length<=1000:=hR0;have hk:=h.c.cells;have h_:=h.c.lt;have hBn:=h.c.le;obtain⟨a0,a1,a2,a3,hr⟩:=rQ (fl (r::R) z h.c.zl);unfold qd at hk;rw[hr]at hk;simp only[aq,bw,adY,adX,zP]at hk;refine υ 61 [.tmp 4] Tryz.func278 ?_;refine κ @aE ?_;refine ξ @aE @hk ?_;refine κ @aE ?_;refine ah.rt (Gn h (by omega)) ?_;rintro _ O2 ⟨rfl,eO⟩;rw[eO];clear eO O2
 refine ab @aE ?_;obtain⟨pre,post,hc,dH,Dl,Cq,hR2⟩:=h.c.loc;have jd:=h.c.top;clear hc Cq hR2 dH Dl jd;clear pre post;refine θ (aG @aE @hne @hk ?_);refine ah.rt (abL h hc0) ?_;rintro _ O3 ⟨rfl,h3,c9⟩;by_cases FZ:cu+1<=4096;rotate_left
 ·rw[decide_eq_true (show 4096<cu+1 by omega),decide_eq_false FZ];refine ab @aE ?_;exact(Kp.refl (S:=d_ k (r::R) tk)).more c9 (fun x hx=>.inl (by rw[ahJ]at hx;rw[hx];exact n9))
 rw[decide_eq_false (show ¬4096<cu+1 by omega),decide_eq_true FZ];dsimp only;have wL:∀x∈[k],x∈d_ k (r::R) tk\/O.N<=x:=fun x hx=>.inl (by rw[ahJ]at hx;rw[hx];exact n9)
 have Cp:Kp O O3 (d_ k (r::R) tk):=(Kp.refl (S:=d_ k (r::R) tk)).more c9 wL;have amC:=h3.c.le;refine ab @aE ?_;obtain⟨pre,post,fy,dH,Dl,Cq,hR2⟩:=h3.c.loc;have jd:=h3.c.top
 have Ov:(pre++jw r++post)[r.off+2]?=some r.q:=by
  rw[Zk,ahN (by omega), <-dH,ahM];rfl
 have gL:∀q',(pre++jw r++post).set (r.off+2) q'=pre++jw {r with q:=q'}++post:=fun q'=>by
  rw[Zk,ajp _ _ (by omega), <-dH,ahM,Zk];rfl
 have hlC:(pre++jw r++post).length=pre.length+4+post.length:=by simp[sU];omega
 generalize hC:pre++jw r++post=C at*;refine VC.J_ [8,9,10,11,12,13] (by kernel_rfl) ?_;refine bQ.Ce 0 ?_;refine ab @aE ?_;refine bQ.Ce 1 ?_;refine ab @aE ?_;refine bQ.Ce 2 ?_;refine ab @aE ?_;refine bQ.Ce 3 ?_;refine aG @aE @fy @Ov ?_;refine bQ.Ce 4 ?_;refine ab @aE ?_;refine bQ.Ce 5 ?_;refine ab @aE ?_;have ib:=Ux jd.1;refine bQ.Ce 6 ?_;refine ao @aE @ib ?_;refine bQ.agO (i:=7) rfl (by kernel_rfl) (by kernel_rfl) rfl rfl (fun _ _ _ hw hf=>abM hw hf) rfl ?_;simp only[ak];refine bQ.fin (by kernel_rfl) ?_;refine cE.st (i:=8) rfl (by kernel_rfl) rfl rfl (RY aa (te:=⟨_,4,80,_⟩) (dx:=.slice 93) (q:=.sl 1 [.str [],.sl 0 [] .nil,.sl 0 [] .nil,.str []] .full) (j:=1) (ds:=[.str [],.sl 0 [] .nil,.sl 0 [] .nil,.str []]) jd.1 rfl rfl (by rw[vX];rfl) DJ.1.1 (by rw[vX];rfl) trivial (by dsimp only;omega) (by simp only[maxLen];omega) (by omega) rfl rfl) ?_;rintro m O4 ⟨x_,nG,iT,hm⟩
 obtain⟨k2,c2,rfl,bM⟩:∃k2 c2,m= .bB k2 0 (r.kids.length+1) c2/\(gid r.q=some k2\/O3.N<=k2):=by
  rcases hm with⟨k2,c2,h1,h2⟩ | ⟨h1,_⟩
  ·exact⟨k2,c2,h1,h2.imp id And.left⟩
  ·cases h1
 obtain⟨c6,AD⟩:Row O4 93 4 B k2 c2 (aC r.kids++[.str [],.sl 0 [] .nil,.sl 0 [] .nil,.str []])/\r.kids.length+1<=c2:=by
  rcases x_ with⟨h1,_⟩ | ⟨k3,c3,h1,h2,_,h4⟩
  ·omega
  ·injection h1 with h1 _ _ h3;subst h1;subst h3;exact⟨h4,h2⟩
 have abO:r.b<k2:=by
  rcases bM with e | e
  ·exact jd.2 _ e
  ·omega
 have akU:=nG.N;have fR:O4.hp r.b=some (.cells C):=(nG.hp _ Dl (fun e=>by have:=jd.2 _ e;omega)).trans fy;obtain⟨sp,uu,sf⟩:=c6.cells;simp only[ak];have vy:=dA r.kids
 have mC:∀a b c d:MV,((((aC r.kids++([.str [],.sl 0 [] .nil,.sl 0 [] .nil,.str []]:List MV)++sp).set (r.kids.length*4) a).set (r.kids.length*4+1) b).set (r.kids.length*4+1+1) c).set (r.kids.length*4+1+1+1) d=aC r.kids++[a,b,c,d]++sp:=fun a b c d=>by
  rw[<-vy];exact agP _ _ _ _ _ _ _ _ _ _
 generalize EE:aC r.kids++[.str [],.sl 0 [] .nil,.sl 0 [] .nil,.str []]++sp=C2 at*;refine cE.IS 9 ?_;refine ab @aE ?_;refine cE.IS 11 ?_;refine ab @aE ?_;refine cE.IS 12 ?_;refine ab @aE ?_;refine cE.two (i:=10) (j:=13) (by kernel_rfl) ?_ ?_
 ·refine aL.o1 ?_;refine aG @aE @uu @mC ?_;refine cE.Uq (i:=13) ?_;refine aG @aE @fR @gL ?_;refine cE.bP [] ?_;refine WL.gen ?_;intro O5 mW;have eU:O5.N=O4.N:=by rw[mW];rfl
  have gd:O5.hp r.b=some (.cells (pre++jw {r with q:=.bB k2 0 (r.kids.length+1) c2}++post)):=by rw[mW];exact ρ _ _ _
  have Bq:O5.hp k2=some (.cells (aC r.kids++[.str [],.sl 0 [] .nil,.sl 0 [] .nil,.str s]++sp)):=by rw[mW];exact ω (ρ _ _ _)
  have u4:Kp O4 O5 [k2,r.b]:=by rw[mW];exact Kp.trans (S:=[k2]) (T:=[r.b]) Kp.set Kp.set
  clear mW
  have Sg:Co O4 [k2,r.b]:=fun x hx j t n e=>by
   simp only[adW,adZ,or_false]at hx;rcases hx with rfl | rfl
   ·rw[uu]at e;cases e
   ·rw[fR]at e;cases e
  have u3:Kp O3 O5 (r.b::(gid r.q).toList):=((Kp.bH nG).trans u4).sub (fun x hx=>by
   simp only[ahP,adW,adZ,or_false]at hx ⊢;rcases hx with hx | hx | hx
   ·exact .inl (.inr hx)
   ·rcases bM with e | e
    ·rw[e];simp[hx]
    ·exact .inr (by omega)
   ·exact .inl (.inl hx))
  have pd:∀x∈r.b::(gid r.q).toList,x=r.b\/gid r.q=some x:=fun x hx=>by
   rcases adW.1 hx with e | e
   ·exact .inl e
   ·exact .inr (by simpa using e)
  obtain⟨gK,_⟩:=h3.c.part (r':={r with q:=.bB k2 0 (r.kids.length+1) c2}) (by rw[hC];exact fy) dH (fun e=>(Cq e).2.2) u3 rfl rfl pd gd;obtain⟨b0,b1,b2,b3,kh⟩:=rQ (fl ({r with q:=.bB k2 0 (r.kids.length+1) c2}::R) z h.c.zl);unfold qd at gK;rw[kh]at gK;simp only[aq,bw,adY,adX,zP]at gK;refine ao @aE @gK ?_
  have ON:k2≠k:=by
   have:=c6.lo;omega
  have ur:Kp O O5 (d_ k (r::R) tk):=Cp.more u3 (fun x hx=>by
   rcases pd x hx with e | e
   ·rw[e];exact .inl qe
   ·exact .inl (n_ e))
  have dS:App O5 B 1 tk:=by
   refine h3.a.Ou u3 fun x hx e=>?_
   rcases pd x hx with e2 | e2
   ·subst e2;rw[fy]at e;cases e
   ·obtain⟨cs,e3⟩:=jd.1.Ot e2;rw[e3]at e;cases e
  have zM:aC (r.kids++[tK s])=aC r.kids++[.str [],.sl 0 [] .au,.sl 0 [] .au,.str s]:=by rw[eH,aC,aC,Uy,ajm]
  refine VC.XD (k:=k2) (ds:=aC (r.kids++[tK s])++sp) ((π _ _ ON).trans Bq) (by
   rw[zM];exact((ff.refl _).app (ff.cons (Wk.refl _) (ff.cons Wk.tok (ff.cons Wk.tok (ff.refl _))))).app (ff.refl _)) ?_
  refine ν @aE ?_;have u5:Kp O4 (O5.set k2 (.cells (aC (r.kids++[tK s])++sp))) [k2,r.b]:=(u4.trans Kp.set).sub (fun x hx=>.inl (by simp only[ahP,adW,adZ,or_false]at hx ⊢;exact hx.elim id .inl))
  have u6:Kp O3 (O5.set k2 (.cells (aC (r.kids++[tK s])++sp))) (r.b::(gid r.q).toList):=(u3.trans Kp.set).sub (fun x hx=>by
   simp only[ahP,adW,adZ,or_false]at hx ⊢;rcases hx with hx | hx
   ·exact .inl hx
   ·rcases bM with e | e
    ·rw[e];simp[hx]
    ·exact .inr (by omega))
  have KX:BC _ B k ({r with kids:=r.kids++[tK s],q:=.bB k2 0 (r.kids.length+1) c2}::R) z _:=h3.c.KW (r':={r with kids:=r.kids++[tK s],q:=.bB k2 0 (r.kids.length+1) c2}) (by rw[hC];exact fy) dH (fun e=>(Cq e).2.2) u6 rfl rfl pd (ω gd) (.inr ⟨k2,c2,by show _=_;simp,by simp;exact AD,by show(aC (r.kids++[tK s])).length=_;rw[dA],by
   show Row _ _ 4 B k2 c2 (aC (r.kids++[tK s]));refine c6.own u5 Sg (ρ _ _ _) ?_;rw[<-sf, <-EE,zM];simp⟩) (fun i e=>by injection e with e;subst e;exact abO)
  have e9:∀x,(O5.set k x).set k2 (.cells (aC (r.kids++[tK s])++sp))=(O5.set k2 (.cells (aC (r.kids++[tK s])++sp))).set k x:=fun x=>VH.set_comm (fun e=>ON e.symm)
  have Cr:=c6.lo;rw[e9]
  refine⟨(ur.more (S:=[k2]) Kp.set (fun x hx=>by
   rw[ahJ]at hx;rw[hx];rcases bM with e | e
   ·exact .inl (n_ e)
   ·exact .inr (by have:=c9.1;omega))).more Kp.set wL,_,⟨KX.step (S:=[k]) Kp.set (fun x hx=>.inl (by simpa using hx)) ?_ h3.c.zl,(dS.Ou (S:=[k2]) Kp.set (fun x hx e=>by rw[ahJ]at hx;subst hx;rw[Bq]at e;cases e)).yG h_⟩,fun x e=>by
   injection e with e;subst e
   exact bM.imp id (fun e=>by have:=c9.1;omega)⟩
  rw[ρ]
  have e8:pQ ({r with kids:=r.kids++[tK s],q:=.bB k2 0 (r.kids.length+1) c2}::R) z=[b0,b1,b2,b3]:=by
   rw[<-kh];cases R with
   | nil=>rfl
   | cons g R=>rfl
  rw[e8];rfl
 ·refine aL.o1 ?_;refine aG @aE @fR @gL ?_;refine cE.Uq (i:=10) ?_;refine aG @aE @uu @mC ?_;refine cE.bP [] ?_;refine WL.gen ?_;intro O5 mW;rw[VH.set_comm (by omega)]at mW;have eU:O5.N=O4.N:=by rw[mW];rfl
  have gd:O5.hp r.b=some (.cells (pre++jw {r with q:=.bB k2 0 (r.kids.length+1) c2}++post)):=by rw[mW];exact ρ _ _ _
  have Bq:O5.hp k2=some (.cells (aC r.kids++[.str [],.sl 0 [] .nil,.sl 0 [] .nil,.str s]++sp)):=by rw[mW];exact ω (ρ _ _ _)
  have u4:Kp O4 O5 [k2,r.b]:=by rw[mW];exact Kp.trans (S:=[k2]) (T:=[r.b]) Kp.set Kp.set
  clear mW
  have Sg:Co O4 [k2,r.b]:=fun x hx j t n e=>by
   simp only[adW,adZ,or_false]at hx;rcases hx with rfl | rfl
   ·rw[uu]at e;cases e
   ·rw[fR]at e;cases e
  have u3:Kp O3 O5 (r.b::(gid r.q).toList):=((Kp.bH nG).trans u4).sub (fun x hx=>by
   simp only[ahP,adW,adZ,or_false]at hx ⊢;rcases hx with hx | hx | hx
   ·exact .inl (.inr hx)
   ·rcases bM with e | e
    ·rw[e];simp[hx]
    ·exact .inr (by omega)
   ·exact .inl (.inl hx))
  have pd:∀x∈r.b::(gid r.q).toList,x=r.b\/gid r.q=some x:=fun x hx=>by
   rcases adW.1 hx with e | e
   ·exact .inl e
   ·exact .inr (by simpa using e)
  obtain⟨gK,_⟩:=h3.c.part (r':={r with q:=.bB k2 0 (r.kids.length+1) c2}) (by rw[hC];exact fy) dH (fun e=>(Cq e).2.2) u3 rfl rfl pd gd;obtain⟨b0,b1,b2,b3,kh⟩:=rQ (fl ({r with q:=.bB k2 0 (r.kids.length+1) c2}::R) z h.c.zl);unfold qd at gK;rw[kh]at gK;simp only[aq,bw,adY,adX,zP]at gK;refine ao @aE @gK ?_
  have ON:k2≠k:=by
   have:=c6.lo;omega
  have ur:Kp O O5 (d_ k (r::R) tk):=Cp.more u3 (fun x hx=>by
   rcases pd x hx with e | e
   ·rw[e];exact .inl qe
   ·exact .inl (n_ e))
  have dS:App O5 B 1 tk:=by
   refine h3.a.Ou u3 fun x hx e=>?_
   rcases pd x hx with e2 | e2
   ·subst e2;rw[fy]at e;cases e
   ·obtain⟨cs,e3⟩:=jd.1.Ot e2;rw[e3]at e;cases e
  have zM:aC (r.kids++[tK s])=aC r.kids++[.str [],.sl 0 [] .au,.sl 0 [] .au,.str s]:=by rw[eH,aC,aC,Uy,ajm]
  refine VC.XD (k:=k2) (ds:=aC (r.kids++[tK s])++sp) ((π _ _ ON).trans Bq) (by
   rw[zM];exact((ff.refl _).app (ff.cons (Wk.refl _) (ff.cons Wk.tok (ff.cons Wk.tok (ff.refl _))))).app (ff.refl _)) ?_
  refine ν @aE ?_;have u5:Kp O4 (O5.set k2 (.cells (aC (r.kids++[tK s])++sp))) [k2,r.b]:=(u4.trans Kp.set).sub (fun x hx=>.inl (by simp only[ahP,adW,adZ,or_false]at hx ⊢;exact hx.elim id .inl))
  have u6:Kp O3 (O5.set k2 (.cells (aC (r.kids++[tK s])++sp))) (r.b::(gid r.q).toList):=(u3.trans Kp.set).sub (fun x hx=>by
   simp only[ahP,adW,adZ,or_false]at hx ⊢;rcases hx with hx | hx
   ·exact .inl hx
   ·rcases bM with e | e
    ·rw[e];simp[hx]
    ·exact .inr (by omega))
  have KX:BC _ B k ({r with kids:=r.kids++[tK s],q:=.bB k2 0 (r.kids.length+1) c2}::R) z _:=h3.c.KW (r':={r with kids:=r.kids++[tK s],q:=.bB k2 0 (r.kids.length+1) c2}) (by rw[hC];exact fy) dH (fun e=>(Cq e).2.2) u6 rfl rfl pd (ω gd) (.inr ⟨k2,c2,by show _=_;simp,by simp;exact AD,by show(aC (r.kids++[tK s])).length=_;rw[dA],by
   show Row _ _ 4 B k2 c2 (aC (r.kids++[tK s]));refine c6.own u5 Sg (ρ _ _ _) ?_;rw[<-sf, <-EE,zM];simp⟩) (fun i e=>by injection e with e;subst e;exact abO)
  have e9:∀x,(O5.set k x).set k2 (.cells (aC (r.kids++[tK s])++sp))=(O5.set k2 (.cells (aC (r.kids++[tK s])++sp))).set k x:=fun x=>VH.set_comm (fun e=>ON e.symm)
  have Cr:=c6.lo;rw[e9]
  refine⟨(ur.more (S:=[k2]) Kp.set (fun x hx=>by
   rw[ahJ]at hx;rw[hx];rcases bM with e | e
   ·exact .inl (n_ e)
   ·exact .inr (by have:=c9.1;omega))).more Kp.set wL,_,⟨KX.step (S:=[k]) Kp.set (fun x hx=>.inl (by simpa using hx)) ?_ h3.c.zl,(dS.Ou (S:=[k2]) Kp.set (fun x hx e=>by rw[ahJ]at hx;subst hx;rw[Bq]at e;cases e)).yG h_⟩,fun x e=>by
   injection e with e;subst e
   exact bM.imp id (fun e=>by have:=c9.1;omega)⟩
  rw[ρ]
  have e8:pQ ({r with kids:=r.kids++[tK s],q:=.bB k2 0 (r.kids.length+1) c2}::R) z=[b0,b1,b2,b3]:=by
   rw[<-kh];cases R with
   | nil=>rfl
   | cons g R=>rfl
  rw[e8];rfl
structure PS where
 st:List (Bs×List (Bs×Bs)×List Nd)
 cu:Nat
 dn:Bool
 tx:Bool
 z:Nd
def ob (s:Bs) (p:PS):Except Int PS:=
 match p.st with
 | []=>if trimB s=[]then .ok p else .error 16
 | (n,a,K)::R=>
   if s=[]then .ok p
   else if p.tx then match K.getLast? with
    | some (.mk _ _ _ t)=>.ok {p with st:=(n,a,K.dropLast++[tK (t++s)])::R}
    | none=>.ok p
   else if 4096<p.cu+1 then .error 2
   else .ok {p with st:=(n,a,K++[tK s])::R,cu:=p.cu+1,tx:=true}
def sV (nm:Bs) (gk:List (Bs×Bs)) (p:PS):Except Int PS:=
 if p.dn then .error 16 else if 64<=p.st.length then .error 2 else if 4096<p.cu+1 then .error 2
 else .ok {p with st:=(nm,gk,[])::p.st,cu:=p.cu+1,tx:=false}
def uw (p:PS):PS:=
 match p.st with
 | []=>p
 | [(n,a,K)]=>{p with st:=[],dn:=true,tx:=false,z:=.mk n a K []}
 | (n,a,K)::(n2,a2,K2)::R=>{p with st:=(n2,a2,K2++[.mk n a K []])::R,dn:=false,tx:=false}
def kP (x:Tk) (p:PS):Except Int PS:=
 if x.kind=4 then ob x.text p
 else if x.kind=1 then sV x.name x.attrs p
 else if x.kind=2 then(match sV x.name x.attrs p with
  | .error e=>.error e
  | .ok q=>.ok (uw q))
 else if x.kind=3 then(match p.st with
  | []=>.error 16
  | f::_=>if f.1=x.name then .ok (uw p)else .error 14)
 else .ok p
def jO:List Tk->PS->Except (Int×Nat) PS
 | [],p=>.ok p
 | x::l,p=>match kP x p with
   | .error e=>.error (e,x.off)
   | .ok q=>jO l q
def p0:PS:=⟨[],0,false,false,RM⟩
def iG (t:Bs):Except (Int×Nat) Nd:=
 match uU t with
 | .error e=>.error e
 | .ok l=>match jO l p0 with
   | .error e=>.error e
   | .ok p=>if p.st≠[]then .error (13,t.length)else if p.dn then .ok p.z else .error (16,t.length)
def Gq:List (Bs×List (Bs×Bs)×List Nd)->Nat
 | []=>0
 | f::R=>1+f.1.length+jI f.2.1+kC f.2.2+Gq R
def HX (p:PS):Nat:=Gq p.st+if p.dn then k7 p.z else 0
structure lB (p:PS) (L:Nat):Prop where
 cu:p.cu<=4096
 len:p.st.length<=64
 NK:p.tx=true->∃n a K t R,p.st=(n,a,K++[tK t])::R
 wt:HX p<=L+p.cu
theorem xI (K M:List Nd):kC (K++M)=kC K+kC M:=by
 induction K with
 | nil=>rw[adX,kC,ajl]
 | cons x K ih=>rw[adY,kC,kC,ih];omega
theorem Uz (t:Bs):k7 (tK t)=1+t.length:=by rw[tK,Ba,jI,kC];simp
theorem lB.more {p:PS} {L L':Nat} (h:lB p L) (hl:L<=L'):lB p L':=⟨h.cu,h.len,h.NK,by have:=h.wt;omega⟩
theorem Yd {s:Bs} {p q:PS} {L:Nat} (h:lB p L) (e:ob s p= .ok q):lB q (L+s.length):=by
 unfold ob at e;obtain⟨st,cu,dn,tx,z⟩:=p;obtain⟨h2,h3,h4,h5⟩:=h;dsimp only at e h2 h3 h4 h5;cases st with
 | nil=>
   dsimp only at e;split at e
   ·injection e with e;subst e;exact lB.more ⟨h2,h3,h4,h5⟩ (Nat.le_add_right _ _)
   ·cases e
 | cons f R=>
   obtain⟨n,a,K⟩:=f;dsimp only at e;split at e
   ·injection e with e;subst e;exact lB.more ⟨h2,h3,h4,h5⟩ (Nat.le_add_right _ _)
   split at e
   ·rename_i ht;obtain⟨n',a',K',t,R',he⟩:=h4 ht;injection he with he1 he2;injection he1 with e1 e2;injection e2 with e2 e3
    subst e1;subst e2;subst e3;subst he2
    rw[List.getLast?_concat,List.dropLast_concat]at e;dsimp only[tK]at e;injection e with e;subst e
    refine⟨h2,h3,fun _=>⟨_,_,_,_,_,rfl⟩,?_⟩
    ·simp only[HX,Gq,xI,kC,Uz]at h5 ⊢;have e6:k7 (Nd.mk [] [] [] (t++s))=1+(t++s).length:=Uz _;rw[e6,Qm];omega
   split at e
   ·cases e
   ·injection e with e;subst e
    refine⟨by dsimp only;omega,h3,fun _=>⟨_,_,_,_,_,rfl⟩,?_⟩
    ·simp only[HX,Gq,xI,kC,Uz]at h5 ⊢;omega
theorem Gr {nm:Bs} {gk:List (Bs×Bs)} {p q:PS} {L:Nat} (h:lB p L) (e:sV nm gk p= .ok q):lB q (L+nm.length+jI gk)/\q.st=(nm,gk,[])::p.st:=by
 unfold sV at e;split at e
 ·cases e
 split at e
 ·cases e
 split at e
 ·cases e
 ·injection e with e;subst e
  rename_i hd FK hc;refine⟨⟨by dsimp only;omega,by simp only[zP];omega,(fun e=>by cases e),?_⟩,rfl⟩
  ·have h5:=h.wt;simp only[HX,Gq,kC,hd]at h5 ⊢;omega
theorem OP {p:PS} {L:Nat} (h:lB p L):lB (uw p) L:=by
 unfold uw;split
 ·exact h
 ·rename_i n a K hs;obtain⟨h2,h3,h4,h5⟩:=h;refine⟨h2,ajk _,(fun e=>by cases e),?_⟩;simp only[HX,Gq,hs,Ba]at h5 ⊢;simp;omega
 ·rename_i n a K n2 a2 K2 R hs;obtain⟨h2,h3,h4,h5⟩:=h;refine⟨h2,by rw[hs]at h3;simp only[zP]at h3 ⊢;omega,(fun e=>by cases e),?_⟩;simp only[HX,Gq,hs,xI,kC,Ba]at h5 ⊢;simp;omega
def Bt (x:Tk):Nat:=x.name.length+jI x.attrs+x.text.length
theorem Ji {x:Tk} {p q:PS} {L:Nat} (h:lB p L) (e:kP x p= .ok q):lB q (L+Bt x):=by
 unfold kP at e;unfold Bt;split at e
 ·exact(Yd h e).more (by omega)
 split at e
 ·exact(Gr h e).1.more (by omega)
 split at e
 ·split at e
  ·cases e
  ·rename_i q' hq;injection e with e;subst e
   exact(OP (Gr h hq).1).more (by omega)
 split at e
 ·split at e
  ·cases e
  ·split at e
   ·injection e with e;subst e;exact(OP h).more (by omega)
   ·cases e
 ·injection e with e;subst e;exact h.more (by omega)
theorem OQ {n:Bs} {a:List (Bs×Bs)} {K:List Nd} {R:List (Bs×List (Bs×Bs)×List Nd)} {p:PS} {L:Nat} (h:lB p L) (hm:(n,a,K)∈p.st):K.length<=L+4096:=by
 have h5:=h.wt;have h2:=h.cu;have hk:=Cc K;unfold HX at h5
 have:∀st:List (Bs×List (Bs×Bs)×List Nd),(n,a,K)∈st->kC K<=Gq st:=by
  intro st;induction st with
  | nil=>intro h;cases h
  | cons f R ih=>
    intro h;rw[Gq];rcases adW.1 h with rfl | h
    ·dsimp only;omega
    ·have:=ih h;omega
 have:=this _ hm;omega
theorem xJ {nm:Bs} {gk:List (Bs×Bs)} {p:PS} {e:Int} (h:sV nm gk p= .error e):e=16\/e=2:=by
 unfold sV at h;split at h
 ·injection h with h;exact .inl h.symm
 split at h
 ·injection h with h;exact .inr h.symm
 split at h
 ·injection h with h;exact .inr h.symm
 ·cases h
theorem Sk {s:Bs} {p:PS} {e:Int} (h:ob s p= .error e):e=16\/e=2:=by
 unfold ob at h;split at h
 ·split at h
  ·cases h
  ·injection h with h;exact .inl h.symm
 ·split at h
  ·cases h
  split at h
  ·split at h<;>cases h
  split at h
  ·injection h with h;exact .inr h.symm
  ·cases h
theorem Sl {x:Tk} {p:PS} {e:Int} (h:kP x p= .error e):e=16\/e=2\/e=14:=by
 unfold kP at h;split at h
 ·exact(Sk h).imp id .inl
 split at h
 ·exact(xJ h).imp id .inl
 split at h
 ·split at h
  ·rename_i h2;injection h with h;subst h
   exact(xJ h2).imp id .inl
  ·cases h
 split at h
 ·split at h
  ·injection h with h;exact .inl h.symm
  ·split at h
   ·cases h
   ·injection h with h;exact .inr (.inr h.symm)
 ·cases h
def BP (O:VH) (B k:Nat) (U:List Nat) (p:PS):Prop:=∃R tk,BS O B k R tk p.cu p.dn p.tx (dK p.z)/\sh R=p.st/\∀x∈d_ k R tk,x∈U
theorem BP.ge {O O':VH} {B k:Nat} {U:List Nat} {p:PS} (h:BP O B k U p) (g:O.Ge O'):BP O' B k U p:=by
 obtain⟨R,tk,h1,h2,h3⟩:=h;exact⟨R,tk,h1.ge g,h2,h3⟩
def Sp (O O':VH) (B k:Nat) (U:List Nat) (q:PS):Prop:=∃U',(∀x∈U',x∈U\/O.N<=x)/\BP O' B k U' q
theorem Kp.UA {O O':VH} {S U:List Nat} (h:Kp O O' S) (hs:∀x∈S,x∈U):Kp O O' U:=h.sub fun x hx=>.inl (hs x hx)
theorem Sp.refl {O:VH} {B k:Nat} {U:List Nat} {q:PS} (h:BP O B k U q):Sp O O B k U q:=⟨U,fun _ h=>.inl h,h⟩
theorem Sp.trans {O O1 O2:VH} {B k:Nat} {U U1:List Nat} {q:PS} (hl:O.N<=O1.N) (h1:∀x∈U1,x∈U\/O.N<=x) (h:Sp O1 O2 B k U1 q):Sp O O2 B k U q:=by
 obtain⟨U2,h2,h3⟩:=h;exact⟨U2,fun x hx=>(h2 x hx).elim (h1 x) fun e=>.inr (by omega),h3⟩
theorem abS {O:VH} {B k:Nat} {U:List Nat} {p:PS} {L:Nat} (h:BP O B k U p) (hp:lB p L) (hL:L<=100000) (s:Bs) (hs:s.length<=1000000):
  VF Tryz.prog 278 [.ptr k 0,.str s] O (aD fun m O'=>Kp O O' U/\match ob s p with
   | .error e=>m=mi e
   | .ok q=>m=mi 0/\Sp O O' B k U q):=by
 obtain⟨R,tk,hb,hR,hU⟩:=h;obtain⟨st,cu,dn,tx,z⟩:=p;dsimp only at hb hR;subst hR;have hlen:=hp.len;dsimp only[sh]at hlen;rw[am5]at hlen;have akV:cu<=4096:=hp.cu;cases R with
 | nil=>
   refine VF.mono ?_ (OJ hb s (by simp only[maxLen];omega));rintro(m | m) O' hr
   ·obtain⟨rfl,rfl⟩:=hr;refine⟨Kp.refl,?_⟩;have e5:ob s ⟨sh [],cu,dn,tx,z⟩=if trimB s=[]then .ok ⟨[],cu,dn,tx,z⟩else .error 16:=rfl
    rw[e5];by_cases h2:trimB s=[]
    ·rw[if_pos h2,if_pos h2];exact⟨rfl,Sp.refl ⟨[],tk,hb,rfl,hU⟩⟩
    ·rw[if_neg h2,if_neg h2]
   ·exact hr.elim
 | cons r R=>
   simp only[zP]at hlen
   have fQ:r.kids.length<=1000000:=by
    have:=OQ (R:=[]) hp (List.mem_cons_self (a:=(r.name,r.attrs,r.kids)) (l:=sh R));omega
   by_cases V9:s=[]
   ·subst V9;refine VF.mono ?_ (OK hb (by omega));rintro(m | m) O' hr
    ·obtain⟨rfl,rfl⟩:=hr;exact⟨Kp.refl,rfl,Sp.refl ⟨r::R,tk,hb,rfl,hU⟩⟩
    ·exact hr.elim
   have hne:(s==[])=false:=by cases s<;>simp at V9 ⊢
   cases tx with
   | true=>
     obtain⟨n,a,K,t,R',he⟩:=hp.NK rfl;have he:(r.name,r.attrs,r.kids)::sh R=(n,a,K++[tK t])::R':=he;injection he with he1 he2;injection he1 with e1 e2;injection e2 with e2 e3
     have ht:t.length<=1000000:=by
      have h5:=hp.wt;have e4:sh (r::R)=(r.name,r.attrs,r.kids)::sh R:=rfl;simp only[HX,e4,Gq,e3,xI,kC,Uz]at h5;omega
     refine VF.mono ?_ (OL hb (by omega) s t K (by omega) e3 (by omega) fQ hne);rintro(m | m) O' hr
     ·obtain⟨rfl,h1,h2⟩:=hr;refine⟨h1.UA hU,?_⟩
      have e5:ob s ⟨sh (r::R),cu,dn,true,z⟩= .ok ⟨(r.name,r.attrs,K++[tK (t++s)])::sh R,cu,dn,true,z⟩:=by
       unfold ob;show(if s=[]then _ else _)=_;rw[if_neg V9,if_pos rfl,e3,List.getLast?_concat,List.dropLast_concat];rfl
      rw[e5];exact⟨rfl,U,fun _ h=>.inl h,_,tk,h2,rfl,hU⟩
     ·exact hr.elim
   | false=>
     refine VF.mono ?_ (OM hb (by omega) (by omega) s (by omega) fQ hne);rintro(m | m) O' hr
     ·obtain⟨h1,hr⟩:=hr;refine⟨h1.UA hU,?_⟩
      have e5:ob s ⟨sh (r::R),cu,dn,false,z⟩=if 4096<cu+1 then .error 2 else .ok ⟨(r.name,r.attrs,r.kids++[tK s])::sh R,cu+1,dn,true,z⟩:=by
       unfold ob;show(if s=[]then _ else _)=_;rw[if_neg V9,if_neg (by simp)];rfl
      rw[e5];by_cases hc:4096<cu+1
      ·rw[decide_eq_true hc]at hr;rw[if_pos hc];exact hr
      ·rw[decide_eq_false hc]at hr;rw[if_neg hc];obtain⟨rfl,q',h2,h3⟩:=hr;refine⟨rfl,d_ k ({r with kids:=r.kids++[tK s],q:=q'}::R) tk,fun x hx=>?_,_,tk,h2,rfl,fun _ h=>h⟩;have hx:x∈k::((r.b::R.map (·.b))++(gid q').toList++(Tok.id tk).toList):=hx;simp only[adW,ahP]at hx;rcases hx with rfl | ((rfl | hx) | hx) | hx
       ·exact .inl (hU _ n9)
       ·exact .inl (hU _ qe)
       ·obtain⟨g,hg,rfl⟩:=am6.1 hx;exact .inl (hU _ (Bp (ajv _ hg)))
       ·rcases h3 x (by simpa using hx)with e | e
        ·exact .inl (hU _ (n_ e))
        ·exact .inr e
       ·exact .inl (hU _ (Ej (by simpa using hx)))
     ·exact hr.elim
theorem UC {O:VH} {B k:Nat} {U:List Nat} {p:PS} {L:Nat} (h:BP O B k U p) (hp:lB p L) (hL:L<=100000) (kd:Int) (nm tt:Bs) (gk:List (Bs×Bs)) (p1 p2 p3:Int) (Jh:gk.length<=100000):
  VF Tryz.prog 279 [.ptr k 0,.agg [mi kd,.str nm,.sl gk.length (gk.flatMap bm) .au,.str tt,mi p1,mi p2,mi p3]] O (aD fun m O'=>Kp O O' U/\match sV nm gk p with
   | .error e=>m=mi e
   | .ok q=>m=mi 0/\Sp O O' B k U q):=by
 obtain⟨R,tk,hb,hR,hU⟩:=h;obtain⟨st,cu,dn,tx,z⟩:=p;dsimp only at hb hR;subst hR;have akV:cu<=4096:=hp.cu
 have fQ:∀r∈R,r.kids.length<=1000000:=fun r hr=>by
  have:=OQ hp (show(r.name,r.attrs,r.kids)∈sh R from am6.2 ⟨r,hr,rfl⟩) (R:=[]);omega
 refine VF.mono ?_ (abN hb (by omega) kd nm tt gk p1 p2 p3 Jh fQ);have hl:(sh R).length=R.length:=by unfold sh;rw[am5]
 rintro(m | m) O' hr
 ·obtain⟨h1,hr⟩:=hr;refine⟨h1.UA hU,?_⟩;unfold sV;unfold rR at hr;dsimp only;rw[hl];cases dn
  ·rw[if_neg (by simp)]at hr ⊢;by_cases FK:64<=R.length
   ·rw[if_pos FK]at hr ⊢;exact hr
   ·rw[if_neg FK]at hr ⊢;by_cases hc:4096<cu+1
    ·rw[if_pos hc]at hr ⊢;exact hr
    ·rw[if_neg hc]at hr ⊢;obtain⟨rfl,R',tk',h2,h3,h4⟩:=hr;exact⟨rfl,d_ k R' tk',fun x hx=>(h4 x hx).imp (hU x) id,R',tk',h2,h3,fun _ h=>h⟩
  ·rw[if_pos rfl]at hr ⊢;exact hr
 ·exact hr.elim
theorem UD {O:VH} {B k:Nat} {U:List Nat} {p:PS} {L:Nat} (h:BP O B k U p) (hp:lB p L) (hne:p.st≠[]):
  VF Tryz.prog 280 [.ptr k 0] O (aD fun _ O'=>Kp O O' U/\BP O' B k U (uw p)):=by
 obtain⟨R,tk,hb,hR,hU⟩:=h;obtain⟨st,cu,dn,tx,z⟩:=p;dsimp only at hb hR hne;subst hR;have hlen:=hp.len;dsimp only[sh]at hlen;rw[am5]at hlen;cases R with
 | nil=>exact absurd rfl hne
 | cons r R=>
   refine VF.mono ?_ (afh hb (by simp only[zP]at hlen;omega));rintro(m | m) O' hr
   ·obtain⟨h1,h2⟩:=hr;refine⟨h1.UA hU,?_⟩;have Jj:=Yc (tk:=tk) hb.c;cases R with
    | nil=>exact⟨[],_,h2,rfl,fun x hx=>hU x (Jj x hx)⟩
    | cons g R=>exact⟨_,_,h2,rfl,fun x hx=>hU x (Jj x hx)⟩
   ·exact hr.elim
theorem Ye {O:VH} {B k:Nat} {U:List Nat} {p:PS} {L:Nat} (h:BP O B k U p) (hp:lB p L) (hU:∀x∈U,x<O.N) (t:Bs) (x:Tk) (hL:L+Bt x<=100000) (vy:1<=x.kind/\x.kind<=6):
  VF Tryz.prog 260 [.ptr k 0,.agg (va t x)] O (aD fun m O'=>Kp O O' U/\match kP x p with
   | .error e=>m=mi e
   | .ok q=>m=mi 0/\Sp O O' B k U q):=by
 have Jh:x.attrs.length<=100000:=by
  have:∀a:List (Bs×Bs),a.length<=jI a:=by
   intro a;induction a with
   | nil=>exact ajk _
   | cons y a ih=>rw[jI,zP];omega
  have:=this x.attrs;unfold Bt at hL;omega
 have vU:x.text.length<=100000:=by unfold Bt at hL;omega
 have hLL:L<=100000:=by omega
 have hS:kP x p=if x.kind=4 then ob x.text p else if x.kind=1 then sV x.name x.attrs p else if x.kind=2 then(match sV x.name x.attrs p with
  | .error e=>.error e
  | .ok q=>.ok (uw q))else if x.kind=3 then(match p.st with
  | []=>.error 16
  | f::_=>if f.1=x.name then .ok (uw p)else .error 14)else .ok p:=rfl
 rw[hS];clear hS;have hW:x.name.length+jI x.attrs<=Bt x:=by unfold Bt;omega
 generalize Bt x=W at*;unfold va;obtain⟨kd,nm,gk,tt,off⟩:=x;dsimp only at Jh vU vy hW ⊢;generalize ((mV t off:Nat):Int)=p2 at*;generalize Gi t off=p3 at*;generalize ((off:Nat):Int)=p1 at*;simp only[aq];refine υ 50 [.tmp 4] Tryz.func260 ?_;refine κ @aE ?_;refine VC.bx ?_;rintro O1 ⟨aI,DV,cW⟩;have h1:=h.ge aI;have jN:Kp O O1 U:=Kp.ge aI;have Bu:∀x∈U,x∈U\/O.N<=x:=fun _ h=>.inl h
 have hnU:O.N ∉ U:=fun hm=>by have:=hU _ hm;omega
 rcases(show kd=4\/kd=1\/kd=2\/kd=3\/kd=5\/kd=6 by omega)with rfl | rfl | rfl | rfl | rfl | rfl
 all_goals simp only[Int.reduceEq,if_true,if_false,reduceIte]
 ·refine ξ @aE @DV ?_;refine ah.rt (abS h1 hp hLL tt (by omega)) ?_;rintro m O2 ⟨hl,hm⟩;generalize ob tt p=F at hm ⊢;cases F with
  | error e=>
    dsimp only at hm;subst hm
    refine ab @aE ?_;exact jN.more hl Bu
  | ok q=>
    obtain⟨rfl,hq⟩:=hm;refine ab @aE ?_;exact⟨jN.more hl Bu,hq.trans aI.N Bu⟩
 ·refine ξ @aE @DV ?_;refine ah.rt (UC h1 hp hLL 1 nm tt gk p1 p2 p3 Jh) ?_;rintro m O2 ⟨hl,hm⟩;have si:=(hl.2 O.N (by omega) hnU).trans DV;cases hF:sV nm gk p with
  | error e=>
    rw[hF]at hm;dsimp only at hm;subst hm
    rcases xJ hF with rfl | rfl
    ·refine aG @aE @si @aq ?_;exact jN.more hl Bu
    ·refine aG @aE @si @aq ?_;exact jN.more hl Bu
  | ok q=>
    rw[hF]at hm;obtain⟨rfl,hq⟩:=hm;refine ao @aE @si ?_;exact⟨jN.more hl Bu,hq.trans aI.N Bu⟩
 ·refine ξ @aE @DV ?_;refine ah.rt (UC h1 hp hLL 2 nm tt gk p1 p2 p3 Jh) ?_;rintro m O2 ⟨hl,hm⟩;have si:=(hl.2 O.N (by omega) hnU).trans DV;cases hF:sV nm gk p with
  | error e=>
    rw[hF]at hm;dsimp only at hm;subst hm
    rcases xJ hF with rfl | rfl
    ·refine aG @aE @si @aq ?_;exact jN.more hl Bu
    ·refine aG @aE @si @aq ?_;exact jN.more hl Bu
  | ok q=>
    rw[hF]at hm;obtain⟨rfl,U2,hU2,hq⟩:=hm;obtain⟨dP,cX⟩:=Gr hp hF;refine ao @aE @si ?_;refine ah.rt (UD hq dP (by rw[cX];simp)) ?_;rintro m O3 ⟨n8,qX⟩;refine ab @aE ?_;have agQ:∀x∈U2,x∈U\/O.N<=x:=fun x hx=>(hU2 x hx).imp id fun e=>by have:=aI.N;omega
    exact⟨(jN.more hl Bu).more n8 agQ,U2,agQ,qX⟩
 ·obtain⟨R,tk,hb,hR,hUo⟩:=h1;have cA:=hb.c.cells;obtain⟨a0,a1,a2,a3,hr⟩:=rQ (fl R (dK p.z) hb.c.zl);unfold qd at cA;rw[hr]at cA;simp only[aq,bw,adY,adX]at cA
  have Yb:R.length<=64:=by
   have:=hp.len;rw[<-hR]at this;unfold sh at this;rw[am5]at this;exact this
  cases R with
  | nil=>
    have cX:p.st=[]:=hR.symm;rw[cX];dsimp only;refine θ (cR @aE @DV @cA @Zj.{0} ?_);exact jN
  | cons r R=>
    have cX:p.st=(r.name,r.attrs,r.kids)::sh R:=hR.symm;rw[cX];dsimp only;simp only[zP]at Yb;obtain⟨pre,post,eS,dH,Dl,_,_⟩:=hb.c.loc
    have QD:(pre++jw r++post)[r.off]?=some (.str r.name):=by
     rw[Zk,ahN (by omega), <-dH,Nat.sub_self];rfl
    generalize pre++jw r++post=C at*;have Sm:BP O1 B k U p:=⟨r::R,tk,hb,hR,hUo⟩;refine θ (cR @aE @DV @cA @zP.{0} ?_);refine VC.nP [7,8] ?_;refine ae.ar 0 ?_;refine ab @aE ?_;refine ae.ar 5 ?_;refine ab @aE ?_;refine ae.ld (m:=.str nm) 6 ?_ ?_
    ·exact dX @aE @DV
    simp only[ak];refine ae.call (i:=1) (Gn hb (by omega)) ?_;rintro _ O9 ⟨rfl,eO⟩;simp only[ak];rw[eO];clear eO O9
    refine⟨VH.Ge.refl _,?_⟩;refine ae.ar 2 ?_;refine ab @aE ?_;refine ae.ar 3 ?_;refine ab @aE ?_;refine ae.ld (m:=.str r.name) 4 ?_ ?_
    ·exact kt3 @aE @eS @QD
    simp only[ak];refine ae.bP [(7,.ar),(8,.ar)] ?_;by_cases hn:r.name=nm
    ·rw[if_pos hn];have ZC:(r.name==nm)=true:=beq_iff_eq.2 hn;refine ao @aE @ZC ?_;refine ah.rt (UD Sm hp (by rw[cX];simp)) ?_;rintro m O3 ⟨n8,qX⟩;refine ab @aE ?_;refine ν @aE ?_;exact⟨jN.more n8 Bu,U,Bu,qX⟩
    ·rw[if_neg hn];have ZC:(r.name==nm)=false:=by simpa using hn
     refine ao @aE @ZC ?_;exact jN
 ·refine ξ @aE @DV ?_;refine ν @aE ?_;exact⟨jN,U,Bu,h1⟩
 ·refine ξ @aE @DV ?_;refine ν @aE ?_;exact⟨jN,U,Bu,h1⟩
end Go.Proofs.YtjpadehgejlebaaGreatDoor
