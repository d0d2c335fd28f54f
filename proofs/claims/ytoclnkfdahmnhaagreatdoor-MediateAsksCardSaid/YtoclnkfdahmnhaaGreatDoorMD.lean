import Derived.Test.YtoclnkfdahmnhaaGreatDoorMC
import Derived.Lib.LazyBuf
import Derived.Laws.LoneSync
set_option linter.unusedVariables false
set_option linter.unusedSimpArgs false
namespace Go.Proofs.YtoclnkfdahmnhaaGreatDoor
open Go.RowKit
set_option maxRecDepth 10000
def oS (w:Bs):Bs:=
 if w=[108,116]then[60]else if w=[103,116]then[62]else if w=[97,109,112]then[38]else if w=[113,117,111,116]then[34]else if w=[97,112,111,115]then[39]else[]
theorem aaf (w:Bs) (O:VH):VF Tryz.prog 320 [.str w] O (aH fun m O'=>m= .str (oS w)/\O'=O):=by
 unfold oS;refine VF.dh 14 [.tmp 2] Tryz.func320 ?_;by_cases h1:w=[108,116]
 ·rw[if_pos h1];have e1:=beq_iff_eq.2 h1;exact dq @bE @e1
 rw[if_neg h1];have e1:(w==[108,116])=false:=by simpa using h1
 by_cases h2:w=[103,116]
 ·rw[if_pos h2];have e2:=beq_iff_eq.2 h2;exact kt3 @bE @e1 @e2
 rw[if_neg h2];have e2:(w==[103,116])=false:=by simpa using h2
 by_cases h3:w=[97,109,112]
 ·rw[if_pos h3];have e3:=beq_iff_eq.2 h3;exact kt4 @bE @e1 @e2 @e3
 rw[if_neg h3];have e3:(w==[97,109,112])=false:=by simpa using h3
 by_cases h4:w=[113,117,111,116]
 ·rw[if_pos h4];have e4:=beq_iff_eq.2 h4;exact kt5 @bE @e1 @e2 @e3 @e4
 rw[if_neg h4];have e4:(w==[113,117,111,116])=false:=by simpa using h4
 by_cases h5:w=[97,112,111,115]
 ·rw[if_pos h5];have e5:=beq_iff_eq.2 h5;exact kt6 @bE @e1 @e2 @e3 @e4 @e5
 rw[if_neg h5];have e5:(w==[97,112,111,115])=false:=by simpa using h5
 exact kt6 @bE @e1 @e2 @e3 @e4 @e5
def Cc (c:UInt8):Bool:=decide (97<=c.toNat/\c.toNat<=122)
theorem aiy (c:UInt8) (O:VH):VF Tryz.prog 319 [fB c] O (aH fun m O'=>m=mb (Cc c)/\O'=O):=by
 refine VF.dh 9 [.tmp 2] Tryz.func319 ?_;by_cases h1:97<=c.toNat
 ·by_cases h2:c.toNat<=122
  ·rw[show Cc c=true from decide_eq_true ⟨h1,h2⟩];exact dq @bE @aG
  ·rw[show Cc c=false from decide_eq_false (fun h=>h2 h.2)];exact dq @bE @aG
 ·rw[show Cc c=false from decide_eq_false (fun h=>h1 h.1)];exact dq @bE @aG
def pU (s:Bs):Bs:=(s.drop 1).takeWhile Cc
def o7:List Bs:=[[108,116],[103,116],[97,109,112],[113,117,111,116],[97,112,111,115]]
def aag (s w:Bs):Bs×Nat×Int:=
 if 1+w.length=s.length then(if o7.any (fun x=>dH x w)then([],0,13)else([],0,12))
 else if oS w≠[]/\s.getD (1+w.length) 0=59 then(oS w,w.length+2,0)else([],0,12)
def mX (s:Bs):Bs×Nat×Int:=if dH s [38,35]then u7 (s.drop 2) 2 else aag s (pU s)
theorem gG {s p:Bs} (h:dH s p=true):p.length<=s.length:=by
 unfold dH at h;have h1:s.take p.length=p:=by simpa using h
 rw[<-h1,List.length_take];omega
theorem agO (s:Bs) (O:VH) (hs:s.length<=1000000) (h0:s[0]?=some 38):
  VF Tryz.prog 314 [.str s] O (aH fun m O'=>m= .tuple [.str (mX s).1,mi (mX s).2.1,mi (mX s).2.2]/\O.Ge O'):=by
 have hne:(s==[])=false:=by cases s<;>simp at h0 ⊢
 have h1:1<=s.length:=by cases s<;>simp at h0 ⊢
 unfold mX;refine VF.dh 62 [.tmp 2,.tmp 3,.tmp 4] Tryz.func314 ?_;refine cU @bE @hne @h0 @aG ?_;refine ah.rt (mU s [38,35] _) ?_;rintro _ O2 ⟨rfl,eO⟩;rw[eO];clear eO O2
 cases hn:dH s [38,35];rotate_left
 ·have qL:=gG hn;simp only[List.length_cons,List.length_nil]at qL;rw[if_pos rfl];refine ae @bE ?_;refine ah.rt (V5 (s.drop 2) 2 O (by rw[List.length_drop];omega) (by decide)) ?_;rintro _ O2 ⟨rfl,aC⟩;generalize u7 (s.drop 2) 2=r at*;refine ae @bE ?_;first | exact aC | exact⟨rfl,aC⟩
 rw[if_neg (by simp)];refine ae @bE ?_;refine ah.rt (Jb 319 Cc (s.drop 1) _ (Nat.le_trans (by rw[List.length_drop];omega:(s.drop 1).length<=1000000) (by decide)) aiy (by kernel_rfl)) ?_;rintro _ O2 ⟨rfl,eO⟩;rw[eO];clear eO O2
 have hw:pU s=(s.drop 1).takeWhile Cc:=rfl;have nW:(pU s).length<=s.length - 1:=by unfold pU;exact Nat.le_trans (nN _ _) (by rw[List.length_drop];exact Nat.le_refl _)
 have Bf:(s.drop 1).take (pU s).length=pU s:=by
  unfold pU;exact List.prefix_iff_eq_take.1 (List.takeWhile_prefix _) |>.symm
 have qT:(1+((pU s).length:Int)).toNat - 1=(pU s).length:=by omega
 have ae6:(1+((pU s).length:Int)).toNat=1+(pU s).length:=by omega
 rw[<-hw];clear hw;generalize pU s=w at*;unfold aag;by_cases h2:1+w.length=s.length
 ·rw[if_pos h2];have h3:(1+(w.length:Int)==(s.length:Int))=true:=by simpa using(by omega:1+(w.length:Int)=(s.length:Int))
  have hws:List.length ([.str [108,116],.str [103,116],.str [97,109,112],.str [113,117,111,116],.str [97,112,111,115]]:List MV)=5:=rfl;refine ia @bE @zP @qT @Bf @h3 ?_;refine WC.iG [40] [6,38,39] (fun j:Nat=>[mi j]) (fun j O'=>O'=O/\j<=5/\o7.any (fun x=>dH x w)=(o7.drop j).any (fun x=>dH x w)) (fun j=>5 - j) (0) ?_ ?_
  ·exact⟨rfl,Nat.zero_le _,rfl⟩
  rintro j O2 ⟨eO,hj,hr⟩;rw[eO];clear eO O2
  by_cases qV:j<5
  ·obtain⟨x,br,Jn⟩:∃x:Bs,([.str [108,116],.str [103,116],.str [97,109,112],.str [113,117,111,116],.str [97,112,111,115]]:List MV)[j]?=some (.str x)/\o7.drop j=x::o7.drop (j+1):=by
    rcases(by omega:j=0\/j=1\/j=2\/j=3\/j=4)with rfl | rfl | rfl | rfl | rfl<;>exact⟨_,rfl,rfl⟩
   rw[Jn,List.any_cons]at hr;refine cU @bE @zP @br @hws ?_;refine ah.rt (mU x w _) ?_;rintro _ O2 ⟨rfl,eO⟩;rw[eO];clear eO O2
   cases hx:dH x w
   ·rw[hx,Bool.false_or]at hr;refine ae @bE ?_;exact ay.next (j+1) ⟨rfl,qV,hr⟩
   ·rw[hx,Bool.true_or]at hr;rw[hr,if_pos rfl];refine ae @bE ?_;first | exact VH.Ge.refl _ | exact⟨rfl,VH.Ge.refl _⟩
  ·obtain rfl:j=5:=by omega
   have fy:o7.any (fun x=>dH x w)=false:=hr;rw[fy,if_neg (by simp)];refine ae @bE ?_;first | exact VH.Ge.refl _ | exact⟨rfl,VH.Ge.refl _⟩
 rw[if_neg h2];have h3:(1+(w.length:Int)==(s.length:Int))=false:=by simpa using(by omega:¬1+(w.length:Int)=(s.length:Int))
 have h4:1+w.length<s.length:=by omega
 have hg:=List.getElem?_eq_getElem h4;have hd:s.getD (1+w.length) 0=s[1+w.length]:=by simp[List.getD,hg]
 rw[hd];generalize s[1+w.length]=c at*;refine cU @bE @qT @Bf @h3 ?_;refine ah.rt (aaf w _) ?_;rintro _ O2 ⟨rfl,eO⟩;rw[eO];clear eO O2
 by_cases h5:oS w=[]
 ·have h6:(oS w==[])=true:=beq_iff_eq.2 h5;rw[if_neg (fun h=>h.1 h5)];refine ao @bE @h6 ?_;first | exact VH.Ge.refl _ | exact⟨rfl,VH.Ge.refl _⟩
 have h6:(oS w==[])=false:=by simpa using h5
 by_cases h7:c=59
 ·rw[if_pos ⟨h5,h7⟩];subst h7;have h8:((((59:UInt8).toNat:Nat):Int)==59)=true:=rfl;refine AW @bE @h6 @ae6 @hg @aG @h8 ?_;first | exact VH.Ge.refl _ | exact⟨rfl,VH.Ge.refl _⟩
 ·rw[if_neg (fun h=>h7 h.2)];have h8:¬((c.toNat:Int)=59):=fun e=>h7 (UInt8.toNat_inj.1 (by simpa using(by omega:c.toNat=59)))
  refine AW @bE @h6 @ae6 @hg @aG @h8 ?_;first | exact VH.Ge.refl _ | exact⟨rfl,VH.Ge.refl _⟩
theorem MB (w:Bs):(oS w).length<=1:=by unfold oS;repeat' split
                                       all_goals simp
theorem V_ (k:Int):(HR k).length<=4:=encode_size_le k
theorem aah {s:Bs} {a:Nat} (h:(u7 s a).2.2=0):a+2<=(u7 s a).2.1/\(u7 s a).2.1<=a+s.length/\(u7 s a).1.length<=4:=by
 have nv:a<=(jv s a).2.1/\(jv s a).2.1+(jv s a).1.length<=a+s.length:=by
  unfold jv;split
  ·rename_i h;have:=gG h;simp only[List.length_cons,List.length_nil]at this;rw[List.length_drop];dsimp only;omega
  ·dsimp only;omega
 have htw:=nN (xi (jv s a).2.2) (jv s a).1;unfold u7 at h ⊢;generalize ((jv s a).1.takeWhile (xi (jv s a).2.2)).length=n at*;unfold aae at h ⊢;split at h
 ·cases h
 rw[if_neg ‹_›];split at h
 ·cases h
 rw[if_neg ‹_›];split at h
 ·cases h
 rw[if_neg ‹_›];split at h
 ·rw[if_pos ‹_›]
  have hl:(Cb (rS (jv s a).2.2 ((jv s a).1.take n))).length<=4:=by
   unfold Cb;split<;>first | exact V_ _ | exact Nat.zero_le _
  exact⟨by dsimp only;omega,by dsimp only;omega,hl⟩
 ·cases h
theorem Ae {s:Bs} (h:(mX s).2.2=0):2<=(mX s).2.1/\(mX s).2.1<=s.length/\(mX s).1.length<=(mX s).2.1:=by
 have nW:1+(pU s).length<=s.length\/s=[]:=by
  cases s with
  | nil=>exact .inr rfl
  | cons c s=>left;unfold pU;rw[List.drop_succ_cons,List.drop_zero,List.length_cons];have:=nN Cc s;omega
 unfold mX at h ⊢;split at h
 ·rename_i h1;rw[if_pos h1];have h2:=gG h1;simp only[List.length_cons,List.length_nil]at h2;have:=aah h;rw[List.length_drop]at this;omega
 rw[if_neg ‹_›];unfold aag at h ⊢;split at h
 ·split at h<;>cases h
 rw[if_neg ‹_›];split at h
 ·rename_i h1;rw[if_pos h1];have:=MB (pU s);rcases nW with nW | rfl
  ·exact⟨by dsimp only;omega,by dsimp only;omega,by dsimp only;omega⟩
  ·have:=h1.2;simp at this
 ·cases h
def eC (t:Bs) (stop:UInt8):Nat->Nat->Bs->Except (Int×Nat) (Bs×Nat)
 | 0,o,acc=>.ok (acc,o)
 | n+1,o,acc=>match t[o]? with
   | none=>.ok (acc,o)
   | some c=>
     if c=stop then .ok (acc,o)
     else if c=38 then
      if(mX (t.drop o)).2.2≠0 then .error ((mX (t.drop o)).2.2,o)else eC t stop n (o+(mX (t.drop o)).2.1) (acc++(mX (t.drop o)).1)
     else if c=60\/mc c=false then .error (10,o)
     else eC t stop n (o+1) (acc++[c])
theorem xY {O:VH} {k off:Nat} {t:Bs} {X:MV} (stop:UInt8) (h:Rd O k t off X) (ht:t.length<=1000000) (ho:off<=t.length):
  VF Tryz.prog 292 [.ptr k 0,fB stop] O (TQ O k t X (eC t stop (t.length+1 - off) off []) fun y m=>m= .str y):=by
 refine VF.bL 100 [.tmp 4] Tryz.func292 ?_;refine VC.ag aa (ae @av ?_);refine VC.ag aa (ae @av ?_);have uS:=fR.fresh O (Nat.le_refl O.next);have kP:O.Ge ((O.push (.cells [.v (.pointer none),.sl 0 [] .nil])).push (.shape O.next 145 2)):=((VH.Ge.refl O).push _).push _;generalize ((O.push (.cells [.v (.pointer none),.sl 0 [] .nil])).push (.shape O.next 145 2))=O1 at*;refine VC.bu [5] (fun x:Bs×Nat×Option Nat=>[.ptr O.next 0]) (fun x O'=>bl O (some k) O'/\Rd O' k t x.2.1 X/\fR O' O.next O.next x.2.2 x.1/\x.1.length<=1000000/\eC t stop (t.length+1 - off) off []= .ok (x.1,x.2.1)) ?_ ?_;rotate_left
 ·rintro⟨acc,o,q⟩ O2 ⟨cZ,fy,bZ,fV,he⟩;dsimp only at fy bZ fV he;rw[he];refine WC.sound aa (ae @av ?_);refine ah.rt (px bZ (by simp only[maxLen];omega)) ?_;rintro _ O3 ⟨rfl,cK⟩;refine ae @av ?_;have pH:=bZ.xf;exact⟨⟨Nat.le_trans cZ.next cK.next,fun i hi hne=>(cK.hp i (Nat.lt_of_lt_of_le hi cZ.next) (fun e=>by have:=pH i e;omega)).trans (cZ.hp i hi hne)⟩,rfl,Nat.lt_of_lt_of_le fy.1 cK.next,(cK.hp k fy.1 (fun e=>by have:=pH k e;have:=h.1;omega)).trans fy.2⟩
 refine VC.az ?_;refine VC.bq [] [0,1,5] (fun x:Bs×Nat×Option Nat=>[]) (fun x O'=>bl O (some k) O'/\Rd O' k t x.2.1 X/\fR O' O.next O.next x.2.2 x.1/\x.1.length<=x.2.1/\x.2.1<=t.length/\∃n,t.length+1 - x.2.1<=n/\eC t stop (t.length+1 - off) off []=eC t stop n x.2.1 x.1) (fun x=>t.length - x.2.1) (([],off,none)) ?_ ?_
 ·exact⟨(bl.lF kP).any,h.ge kP,uS,Nat.zero_le _,ho,_,Nat.le_refl _,rfl⟩
 rintro⟨acc,o,q⟩ O2 ⟨cZ,fy,bZ,fV,MC,n,hn,he⟩;dsimp only at fy bZ fV MC hn he;obtain⟨n,rfl⟩:∃i,n=i+1:=⟨n - 1,by omega⟩
 have bt:=fy.2;simp only[ar]at bt;by_cases h1:t.length<=o
 ·have fF:t[o]?=none:=List.getElem?_eq_none h1;have hle:eC t stop (n+1) o acc= .ok (acc,o):=by unfold eC;rw[fF]
  rw[hle]at he;refine VC.bj (VC.bj ?_);refine VC.nB [4,5,6,7,8,9,10,11,12,13,14,15,16,17,18,19] ?_;refine ab.aw 0 ?_;refine ae @av ?_;refine ab.aw 1 ?_;refine ae @av ?_;refine ab.aw 2 ?_;refine ae @av ?_;refine ab.call (i:=3) (mV fy) ?_;rintro _ O3 ⟨rfl,eO⟩;simp only[aj];rw[eO];clear eO O3
  rw[decide_eq_true h1];refine⟨VH.Ge.refl _,?_⟩;refine ab.bH [(4,.aw),(5,.aw),(6,.aw),(7,.aw),(8,.aw),(9,.aw),(10,.aw),(11,.aw),(12,.aw),(13,.aw),(14,.aw),(15,.aw),(16,.aw),(17,.aw),(18,.aw),(19,.aw)] ?_;refine ae @av ?_;refine WC.sound aa (ae @av ?_);exact aA.mk (acc,o,q) ⟨cZ,fy,bZ,Nat.le_trans fV (Nat.le_trans MC ht),he⟩
 have h2:o<t.length:=by omega
 have hg:=List.getElem?_eq_getElem h2;generalize t[o]=c at*;refine VC.bj (VC.bj ?_);refine VC.nB [] ?_;refine ab.aw 0 ?_;refine ae @av ?_;refine ab.aw 1 ?_;refine ae @av ?_;refine ab.aw 2 ?_;refine ae @av ?_;refine ab.call (i:=3) (mV fy) ?_;rintro _ O3 ⟨rfl,eO⟩;simp only[aj];rw[eO];clear eO O3
 rw[decide_eq_false h1];refine⟨VH.Ge.refl _,?_⟩;refine ab.aw 4 ?_;refine ae @av ?_;refine ab.aw 5 ?_;refine ae @av ?_;refine ab.aw 6 ?_;refine ae @av ?_;refine ab.aw 7 ?_;refine ae @av ?_;refine ab.aw 8 ?_;refine ae @av ?_;refine ab.aw 9 ?_;refine ae @av ?_;refine ab.ld (m:=.str t) 10 ?_ ?_
 ·exact dq @av @bt
 simp only[aj];refine ab.aw 11 ?_;refine ae @av ?_;refine ab.aw 12 ?_;refine ae @av ?_;refine ab.aw 13 ?_;refine ae @av ?_;refine ab.aw 14 ?_;refine ae @av ?_;refine ab.ld (m:=.v (.int .i64 o)) 15 ?_ ?_
 ·exact dq @av @bt
 simp only[aj];refine ab.aw 16 ?_;refine ao @av @hg ?_;refine ab.aw 17 ?_;refine ae @av ?_;by_cases h3:c=stop
 ·subst h3;have hle:eC t c (n+1) o acc= .ok (acc,o):=by unfold eC;rw[hg];simp
  rw[hle]at he;refine ab.aw 18 ?_;refine ao @av @aG ?_;refine ab.aw 19 ?_;refine ae @av ?_;refine ab.bH [] ?_;refine ae @av ?_;refine WC.sound aa (ae @av ?_);exact aA.mk (acc,o,q) ⟨cZ,fy,bZ,Nat.le_trans fV (Nat.le_trans MC ht),he⟩
 have h4:¬((c.toNat:Int)=(stop.toNat:Int)):=fun e=>h3 (UInt8.toNat_inj.1 (by omega))
 refine ab.aw 18 ?_;refine aN @av @aG @h4 ?_;refine ab.aw 19 ?_;refine ae @av ?_;refine ab.bH [] ?_;refine ae @av ?_;refine WC.sound aa (ae @av ?_);refine VC.az ?_;refine VC.bj ?_;refine WC.reads ?_;refine aN @av @bt @hg ?_;by_cases h5:c=38
 ·subst h5;have EU:(t.drop o).length<=1000000:=by rw[List.length_drop];omega
  have kP:(t.drop o)[0]?=some 38:=by rw[List.getElem?_drop];exact hg
  have Af:=agO (t.drop o) O2 EU kP;have cu:= @Ae (t.drop o)
  have hle:eC t stop (n+1) o acc=if(mX (t.drop o)).2.2≠0 then .error ((mX (t.drop o)).2.2,o)else eC t stop n (o+(mX (t.drop o)).2.1) (acc++(mX (t.drop o)).1):=by
   rw[show eC t stop (n+1) o acc=_ from by unfold eC;rfl,hg];simp only;rw[if_neg h3,if_pos trivial]
  rw[hle]at he;rw[List.length_drop]at cu;generalize mX (t.drop o)=r at*;have h6:((((38:UInt8).toNat:Nat):Int)==38)=true:=rfl;refine VC.ag aa (aN @av @aG @h6 ?_);refine ah.rt (wo fy MC) ?_;rintro _ O3 ⟨rfl,eO⟩;rw[eO];clear eO O3
  refine ae @av ?_;refine ah.rt (Af) ?_;rintro _ OR ⟨rfl,hgR⟩;refine ae @av ?_;clear Af
  replace bt:=(hgR.hp k fy.1).trans bt
  replace fy:=fy.ge hgR
  replace bZ:=bZ.ge hgR
  replace cZ:=cZ.trans (bl.lF hgR).any
  clear hgR O2;by_cases h7:r.2.2=0
  ·obtain⟨k1,k2,k3⟩:=cu h7;rw[if_neg (by simpa using h7)]at he;have h8:(r.2.2 != 0)=false:=by simpa using h7
   refine ao @av @h8 ?_;refine ah.rt (bI r.1 bZ (by omega)) ?_;rintro _ O3 ⟨rfl,q',cc,cK⟩;have pH:=bZ.xf;have dB:O3.hp k=some (.cells [.str t,.v (.int .i64 (o:Int)),X]):=(cK.hp k fy.1 (by have:=h.1;omega) (fun e=>by have:=pH k e;have:=h.1;omega)).trans bt;refine ao @av @dB ?_;have e_:bl O (some k) O3:=⟨Nat.le_trans cZ.next cK.next,fun i hi hne=>(cK.hp i (Nat.lt_of_lt_of_le hi cZ.next) (by omega) (fun e=>by have:=pH i e;omega)).trans (cZ.hp i hi hne)⟩;have gO:Rd O3 k t o X:=⟨Nat.lt_of_lt_of_le fy.1 cK.next,dB⟩;refine ay.next (acc++r.1,o+r.2.1,q') ⟨e_.trans bl.set,by simpa[ar]using gO.set (t':=t) (off':=o+r.2.1) (X':=X),cc.set dB (by have:=h.1;omega) (fun e=>by have:=cc.xf k e;have:=h.1;omega),by dsimp only;rw[List.length_append];omega,by dsimp only;omega,n,by dsimp only;omega,he⟩
  ·rw[if_pos h7]at he;rw[he];have h8:(r.2.2 != 0)=true:=by simpa using h7
   refine aN @av @h8 @bt ?_;refine ah.p (iz r.2.2 o _) ?_ ?_
   ·rintro m O9 ⟨_,h⟩;exact h.elim
   rintro m O9 ⟨rfl,rfl⟩;refine ae @av ?_;exact⟨cZ,rfl⟩
 have h6:¬((c.toNat:Int)=38):=fun e=>h5 (UInt8.toNat_inj.1 (by simpa using(by omega:c.toNat=38)))
 by_cases h7:c=60\/mc c=false
 ·have hle:eC t stop (n+1) o acc= .error (10,o):=by unfold eC;rw[hg];simp only;rw[if_neg h3,if_neg h5,if_pos h7]
  rw[he,hle];by_cases h8:c=60
  ·have h9:((c.toNat:Int)==60)=true:=by rw[h8];rfl
   refine VC.ag aa (ia @av @aG @h6 @h9 @bt ?_);refine ah.p (iz 10 o _) ?_ ?_
   ·rintro m O9 ⟨_,h⟩;exact h.elim
   rintro m O9 ⟨rfl,rfl⟩;refine ae @av ?_;exact⟨cZ,rfl⟩
  have xH:¬((c.toNat:Int)=60):=fun e=>h8 (UInt8.toNat_inj.1 (by simpa using(by omega:c.toNat=60)))
  have h9:mc c=false:=h7.resolve_left h8;refine VC.ag aa (cU @av @aG @h6 @xH ?_);refine ah.rt (wc c _) ?_;rintro _ O3 ⟨rfl,eO⟩;rw[eO];clear eO O3
  rw[h9];refine ao @av @bt ?_;refine ah.p (iz 10 o _) ?_ ?_
  ·rintro m O9 ⟨_,h⟩;exact h.elim
  rintro m O9 ⟨rfl,rfl⟩;refine ae @av ?_;exact⟨cZ,rfl⟩
 have h8:¬c=60:=fun e=>h7 (.inl e)
 have h9:mc c=true:=by simpa using fun hx:mc c=false=>h7 (.inr hx)
 have xH:¬((c.toNat:Int)=60):=fun e=>h8 (UInt8.toNat_inj.1 (by simpa using(by omega:c.toNat=60)))
 have hle:eC t stop (n+1) o acc=eC t stop n (o+1) (acc++[c]):=by
  rw[show eC t stop (n+1) o acc=_ from by unfold eC;rfl,hg];simp only;rw[if_neg h3,if_neg h5,if_neg h7]
 rw[hle]at he;refine VC.ag aa (cU @av @aG @h6 @xH ?_);refine ah.rt (wc c _) ?_;rintro _ O3 ⟨rfl,eO⟩;rw[eO];clear eO O3
 rw[h9];refine ae @av ?_;refine WC.sound aa (ae @av ?_);refine ah.rt (sD c bZ (by omega)) ?_;rintro _ O3 ⟨rfl,q',cc,cK⟩;have pH:=bZ.xf;have dB:O3.hp k=some (.cells [.str t,.v (.int .i64 (o:Int)),X]):=(cK.hp k fy.1 (by have:=h.1;omega) (fun e=>by have:=pH k e;have:=h.1;omega)).trans bt;refine ao @av @dB ?_;have e_:bl O (some k) O3:=⟨Nat.le_trans cZ.next cK.next,fun i hi hne=>(cK.hp i (Nat.lt_of_lt_of_le hi cZ.next) (by omega) (fun e=>by have:=pH i e;omega)).trans (cZ.hp i hi hne)⟩;have gO:Rd O3 k t o X:=⟨Nat.lt_of_lt_of_le fy.1 cK.next,dB⟩;refine ay.next (acc++[c],o+1,q') ⟨e_.trans bl.set,by simpa[ar]using gO.set (t':=t) (off':=o+1) (X':=X),cc.set dB (by have:=h.1;omega) (fun e=>by have:=cc.xf k e;have:=h.1;omega),by dsimp only;rw[List.length_append];simp only[List.length_cons,List.length_nil];omega,by dsimp only;omega,?_⟩;exact⟨n,by dsimp only;omega,he⟩
theorem nY {t:Bs} {stop:UInt8}:∀(n o:Nat) (acc:Bs) {s:Bs} {o':Nat},o<=t.length->acc.length<=o->eC t stop n o acc= .ok (s,o')->o<=o'/\o'<=t.length/\s.length<=o'
 | 0,o,acc,s,o',ho,ha,h=>by
   unfold eC at h;injection h with h;injection h with h1 h2
   subst h1;subst h2
   exact⟨Nat.le_refl _,ho,ha⟩
 | n+1,o,acc,s,o',ho,ha,h=>by
   have done:∀(h:(.ok (acc,o):Except (Int×Nat) (Bs×Nat))= .ok (s,o')),o<=o'/\o'<=t.length/\s.length<=o':=fun h=>by
    injection h with h;injection h with h1 h2
    subst h1;subst h2
    exact⟨Nat.le_refl _,ho,ha⟩
   unfold eC at h;cases hg:t[o]? with
   | none=>rw[hg]at h;exact done h
   | some c=>
     have QP:o<t.length:=(List.getElem?_eq_some_iff.1 hg).1;rw[hg]at h;simp only at h;split at h
     ·exact done h
     split at h
     ·rename_i h2;subst h2;split at h
      ·cases h
      ·rename_i h5;obtain⟨k1,k2,k3⟩:=Ae (by simpa using h5);rw[List.length_drop]at k2;have:=nY n _ _ (by omega) (by rw[List.length_append];omega) h;omega
     split at h
     ·cases h
     ·have:=nY n _ _ (by omega) (by rw[List.length_append];simp only[List.length_cons,List.length_nil];omega) h;omega
def tF (t:Bs) (off:Nat):Except (Int×Nat) (Bs×Nat):=match t[off]? with
 | none=>.error (13,off)
 | some q=>
   if q≠34/\q≠39 then .error (10,off)
   else match eC t q (t.length+1 - (off+1)) (off+1) []with
    | .error e=>.error e
    | .ok (s,o)=>if t.length<=o then .error (13,o)else .ok (s,o+1)
theorem aai {O:VH} {k off:Nat} {t:Bs} {X:MV} (h:Rd O k t off X) (ht:t.length<=1000000):
  VF Tryz.prog 313 [.ptr k 0] O (TQ O k t X (tF t off) fun y m=>m= .str y):=by
 have hk:=h.2;simp only[ar]at hk;unfold tF;refine VF.dh 70 [.tmp 2] Tryz.func313 ?_;refine ae @av ?_;refine ah.rt (mV h) ?_;rintro _ O2 ⟨rfl,eO⟩;rw[eO];clear eO O2
 by_cases h1:t.length<=off
 ·rw[decide_eq_true h1,List.getElem?_eq_none h1];refine ao @av @hk ?_;refine ah.p (iz _ _ _) ?_ ?_
  ·rintro m O9 ⟨_,h⟩;exact h.elim
  rintro m O9 ⟨rfl,rfl⟩;refine ae @av ?_;exact⟨bl.refl _ _,rfl⟩
 have h2:off<t.length:=by omega
 have hg:=List.getElem?_eq_getElem h2;rw[decide_eq_false h1,hg];generalize t[off]=c at*;refine ae @av ?_;refine WC.reads ?_;refine cU @av @hk @hg @aG ?_;have hr:Rd (O.set k (.cells [.str t,mi (off+1:Nat),X])) k t (off+1) X:=h.set;have hu:bl O (some k) (O.set k (.cells [.str t,mi (off+1:Nat),X])):=bl.set;have kE:((off:Int)+1)=((off+1:Nat):Int):=by omega
 simp only[ar, <-kE]at hr hu;have hle:=xY (X:=X) c hr ht (by omega:off+1<=t.length);have gn:= @nY t c (t.length+1 - (off+1)) (off+1) [];generalize eC t c (t.length+1 - (off+1)) (off+1) []=LF at*;by_cases hq:c≠34/\c≠39
 ·rw[if_pos hq];have e1:¬((c.toNat:Int)=34):=fun e=>hq.1 (UInt8.toNat_inj.1 (by simpa using(by omega:c.toNat=34)))
  have e2:¬((c.toNat:Int)=39):=fun e=>hq.2 (UInt8.toNat_inj.1 (by simpa using(by omega:c.toNat=39)))
  refine cU @av @hk @e1 @e2 ?_;refine ah.p (iz _ _ _) ?_ ?_
  ·rintro m O9 ⟨_,h⟩;exact h.elim
  rintro m O9 ⟨rfl,rfl⟩;refine ae @av ?_;exact⟨bl.refl _ _,rfl⟩
 rw[if_neg hq];by_cases hc:c=34
 ·subst hc;have e1:((((34:UInt8).toNat:Nat):Int) != 34)=false:=rfl;refine cU @av @aG @e1 @hk ?_;generalize O.set k (.cells [.str t,.v (.int .i64 ((off:Int)+1)),X])=O2 at*;refine ah.p (hle) ?_ ?_;rotate_left
  ·rintro m O3 ⟨cK,h⟩;cases LF with
   | ok y=>exact h.elim
   | error e=>
     dsimp only at h;subst h;refine ae @av ?_;exact⟨hu.trans cK,rfl⟩
  rintro m O3 ⟨cK,h⟩;cases LF with
  | error e=>exact h.elim
  | ok y=>
  obtain⟨s,o⟩:=y;dsimp only at h;obtain⟨rfl,gO⟩:=h;have dB:=gO.2;simp only[ar]at dB;obtain⟨g1,g2,g3⟩:=gn (by omega) (Nat.zero_le _) rfl;refine ae @av ?_;refine ah.rt (mV gO) ?_;rintro _ O4 ⟨rfl,eO⟩;rw[eO];clear eO O4
  by_cases h5:t.length<=o
  ·rw[decide_eq_true h5];rw[if_pos h5];refine ao @av @dB ?_;refine ah.p (iz _ _ _) ?_ ?_
   ·rintro m O9 ⟨_,h⟩;exact h.elim
   rintro m O9 ⟨rfl,rfl⟩;refine ae @av ?_;exact⟨hu.trans cK,rfl⟩
  ·rw[decide_eq_false h5];rw[if_neg h5];refine ao @av @dB ?_;exact⟨(hu.trans cK).trans bl.set,rfl,by simpa[ar]using gO.set (t':=t) (off':=o+1) (X':=X)⟩
 ·obtain rfl:c=39:=by
   by_cases h9:c=39
   ·exact h9
   ·exact absurd ⟨hc,h9⟩ hq
  have e1:((((39:UInt8).toNat:Nat):Int) != 34)=true:=rfl;have e2:((((39:UInt8).toNat:Nat):Int) != 39)=false:=rfl;refine ia @av @aG @e1 @e2 @hk ?_;generalize O.set k (.cells [.str t,.v (.int .i64 ((off:Int)+1)),X])=O2 at*;refine ah.p (hle) ?_ ?_;rotate_left
  ·rintro m O3 ⟨cK,h⟩;cases LF with
   | ok y=>exact h.elim
   | error e=>
     dsimp only at h;subst h;refine ae @av ?_;exact⟨hu.trans cK,rfl⟩
  rintro m O3 ⟨cK,h⟩;cases LF with
  | error e=>exact h.elim
  | ok y=>
  obtain⟨s,o⟩:=y;dsimp only at h;obtain⟨rfl,gO⟩:=h;have dB:=gO.2;simp only[ar]at dB;obtain⟨g1,g2,g3⟩:=gn (by omega) (Nat.zero_le _) rfl;refine ae @av ?_;refine ah.rt (mV gO) ?_;rintro _ O4 ⟨rfl,eO⟩;rw[eO];clear eO O4
  by_cases h5:t.length<=o
  ·rw[decide_eq_true h5];rw[if_pos h5];refine ao @av @dB ?_;refine ah.p (iz _ _ _) ?_ ?_
   ·rintro m O9 ⟨_,h⟩;exact h.elim
   rintro m O9 ⟨rfl,rfl⟩;refine ae @av ?_;exact⟨hu.trans cK,rfl⟩
  ·rw[decide_eq_false h5];rw[if_neg h5];refine ao @av @dB ?_;exact⟨(hu.trans cK).trans bl.set,rfl,by simpa[ar]using gO.set (t':=t) (off':=o+1) (X':=X)⟩
def lp (t:Bs):Nat->Nat->List (Bs×Bs)->Except (Int×Nat) (List (Bs×Bs)×Nat)
 | 0,o,l=>.ok (l,o)
 | n+1,o,l=>
   if j4 t o=0\/t.length<=o+j4 t o\/dH (t.drop (o+j4 t o)) [47]=true\/dH (t.drop (o+j4 t o)) [62]=true then .ok (l,o+j4 t o)
   else match jb t (o+j4 t o) 10 with
    | .error e=>.error e
    | .ok (nm,o2)=>
      if l.any (·.1==nm)then .error (15,o+j4 t o)
      else match iK t (o2+j4 t o2) [61]with
       | .error e=>.error e
       | .ok (_,o4)=>match tF t (o4+j4 t o4)with
         | .error e=>.error e
         | .ok (v,o6)=>lp t n o6 (l++[(nm,v)])
theorem iV (t:Bs) (o:Nat) (h:o<=t.length):o+j4 t o<=t.length:=by
 unfold j4;have:=nN lG (t.drop o);rw[List.length_drop]at this;omega
theorem gk {t:Bs} {o:Nat} {e:Int} {s:Bs} {o':Nat} (h:jb t o e= .ok (s,o')):o<o'/\o'<=t.length/\s.length<=o' - o/\0<s.length:=by
 have EF:=B8 (t.drop o);rw[List.length_drop]at EF;unfold jb at h;split at h
 ·cases h
 split at h
 ·cases h
 injection h with h;injection h with h1 h2
 subst h1;subst h2
 rw[List.length_take,List.length_drop];omega
theorem kZ {t:Bs} {o:Nat} {p:Bs} {y:Unit} {o':Nat} (h:iK t o p= .ok (y,o')):o'=o+p.length/\o'<=t.length/\o<t.length:=by
 unfold iK at h;split at h
 ·cases h
 split at h
 ·rename_i h2;injection h with h;injection h with h1 h3
  have:=gG h2;rw[List.length_drop]at this;omega
 ·cases h
theorem Ag {t:Bs} {o:Nat} {s:Bs} {o':Nat} (h:tF t o= .ok (s,o')):o<o'/\o'<=t.length/\s.length<=o':=by
 unfold tF at h;split at h
 ·cases h
 rename_i q hq;have QP:=(List.getElem?_eq_some_iff.1 hq).1;split at h
 ·cases h
 split at h
 ·cases h
 rename_i s2 o2 h2;split at h
 ·cases h
 injection h with h;injection h with h1 h3
 subst h1;subst h3
 have:=nY _ _ _ (by omega) (by simp) h2;omega
theorem App.bn {O O1:VH} {B sz k:Nat} {tk:Tok} (h:App O B sz tk) (u:bl O (some k) O1) (hk:k<B):App O1 B sz tk:=by
 cases tk with
 | own t j=>
   obtain⟨h1,h2,h3,h4⟩:=h;exact⟨h1,(u.hp t h4 (by intro e;injection e;omega)).trans h2,h3,Nat.lt_of_lt_of_le h4 u.next⟩
 | nil=>trivial
 | full=>trivial
 | au=>exact h.elim
theorem ME {O:VH} {k off:Nat} {t:Bs} {X:MV} (h:Rd O k t off X) (ht:t.length<=1000000) (ho:off<=t.length):
  VF Tryz.prog 291 [.ptr k 0] O (TQ O k t X (lp t (t.length+1 - off) off []) fun y m=>∃tk,m= .sl y.length (y.flatMap a_) tk):=by
 refine VF.bL 64 [.tmp 2] Tryz.func291 ?_;refine VC.ag aa (ae @av ?_);refine VC.az ?_;refine VC.bq [2] [0] (fun x:List (Bs×Bs)×Nat×Tok=>[.sl x.1.length (x.1.flatMap a_) x.2.2]) (fun x O'=>bl O (some k) O'/\Rd O' k t x.2.1 X/\App O' O.next 2 x.2.2/\x.2.1<=t.length/\x.1.length<=x.2.1/\∃n,t.length+1 - x.2.1<=n/\lp t (t.length+1 - off) off []=lp t n x.2.1 x.1) (fun x=>t.length - x.2.1) (([],off,.nil)) ?_ ?_
 ·exact⟨bl.refl _ _,h,trivial,ho,Nat.zero_le _,_,Nat.le_refl _,rfl⟩
 rintro⟨l,o,tk⟩ O2 ⟨cZ,fy,cB,QP,zG,n,hn,he⟩;dsimp only at cZ fy cB QP zG hn he ⊢;rw[he];obtain⟨n,rfl⟩:∃i,n=i+1:=⟨n - 1,by omega⟩
 have uQ:=iV t o QP;have hrb:=pR fy ht QP;rw[lp];generalize j4 t o=kb at*;refine VC.az ?_;refine VC.ag aa (ae @av ?_);refine ah.p (hrb) ?_ ?_;rotate_left
 ·rintro m O9 ⟨_,h⟩;exact h.elim
 rintro m O3 ⟨cK,h9⟩;dsimp only at h9;obtain⟨rfl,gO⟩:=h9;have mg:App O3 O.next 2 tk:=App.bn cB cK (by have:=h.1;omega);have EV:=cZ.trans cK;refine ae @av ?_;by_cases um:kb=0
 ·subst um;rw[if_pos (.inl rfl)];repeat refine gu @av ?_
  exact⟨EV,⟨tk,rfl⟩,gO⟩
 have aiz:((kb:Int)==0)=false:=by simpa using um
 refine VC.ag aa (ao @av @aiz ?_);refine ah.rt (mV gO) ?_;rintro _ O4 ⟨rfl,eO⟩;rw[eO];clear eO O4
 by_cases HT:t.length<=o+kb
 ·rw[if_pos (.inr (.inl HT)),decide_eq_true HT];repeat refine gu @av ?_
  exact⟨EV,⟨tk,rfl⟩,gO⟩
 rw[decide_eq_false HT];refine ae @av ?_;refine ah.rt (pQ [47] gO (by omega)) ?_;rintro _ O4 ⟨rfl,eO⟩;rw[eO];clear eO O4
 cases Wa:dH (t.drop (o+kb)) [47];rotate_left
 ·rw[if_pos (.inr (.inr (.inl rfl)))];repeat refine gu @av ?_
  exact⟨EV,⟨tk,rfl⟩,gO⟩
 refine ae @av ?_;refine ah.rt (pQ [62] gO (by omega)) ?_;rintro _ O4 ⟨rfl,eO⟩;rw[eO];clear eO O4
 cases h62:dH (t.drop (o+kb)) [62];rotate_left
 ·rw[if_pos (.inr (.inr (.inr rfl)))];repeat refine gu @av ?_
  exact⟨EV,⟨tk,rfl⟩,gO⟩
 rw[if_neg (by simp[um,HT])];have dB:=gO.2;simp only[ar]at dB;repeat refine pO @av @dB ?_
 have Pq:=Ad 10 gO ht;have tV:= @gk t (o+kb) 10;generalize jb t (o+kb) 10=NF at*;refine ah.p (Pq) ?_ ?_;rotate_left
 ·rintro m O9 ⟨iR,h9⟩;cases NF with
  | ok y=>exact h9.elim
  | error e=>
    dsimp only at h9;subst h9;refine ae @av ?_;exact⟨bl.trans EV iR,rfl⟩
 rintro m O4 ⟨e_,h9⟩;cases NF with
 | error e=>exact h9.elim
 | ok y9=>
 obtain⟨nm,o2⟩:=y9;dsimp only at h9;obtain⟨rfl,Gt⟩:=h9;obtain⟨a1,a2,a3,a4⟩:=tV rfl;have mT:App O4 O.next 2 tk:=App.bn mg e_ (by have:=h.1;omega);have aaj:=EV.trans e_;refine ae @av ?_;have AL:((l.flatMap a_).length)=l.length*2:=aJ eZ l;refine VC.bu [0,2,4,5] (fun _:Unit=>[.ptr k 0,.sl l.length (l.flatMap a_) tk,mi (o+kb:Nat),.str nm]) (fun _ O'=>O4.Ge O'/\l.any (·.1==nm)=false) ?_ ?_
 ·refine VC.ag aa (ae @av ?_);refine VC.az ?_;refine VC.bq [40] [0,2,4,5,38,39] (fun j:Nat=>[mi j]) (fun j O'=>O4.Ge O'/\j<=l.length/\l.any (·.1==nm)=(l.drop j).any (·.1==nm)) (fun j=>l.length - j) (0) ?_ ?_
  ·exact⟨VH.Ge.refl _,Nat.zero_le _,rfl⟩
  rintro j O5 ⟨bz,hj,jr⟩;by_cases AV:j<l.length
  ·have br:=bB eZ l j AV;have Jn:=List.drop_eq_getElem_cons AV;rw[Jn,List.any_cons]at jr;generalize l[j]=y at*;obtain⟨yn,yv⟩:=y;simp only[a_]at br;refine VC.ag aa (ae @av ?_);refine VC.ag aa (ae @av ?_);refine VC.bj (VC.az ?_);refine VC.ag aa (ao @av @br ?_);refine VC.al ?_;rintro O6 ⟨dL,mA,lS⟩;by_cases hy:yn=nm
   ·have e1:(yn==nm)=true:=beq_iff_eq.2 hy;simp only[e1,Bool.true_or]at jr;rw[jr,if_pos rfl];refine VC.ag aa (aN @av @mA @e1 ?_);refine WC.sound aa (ae @av ?_);refine ah.p (iz _ _ _) ?_ ?_
    ·rintro m O9 ⟨_,h⟩;exact h.elim
    rintro m O9 ⟨rfl,rfl⟩;refine ae @av ?_;exact⟨aaj.trans (bl.lF (bz.trans dL)).any,rfl⟩
   ·have e1:(yn==nm)=false:=by simpa using hy
    simp only[e1,Bool.false_or]at jr;refine VC.ag aa (aN @av @mA @e1 ?_);refine WC.sound aa (ae @av ?_);refine WC.sound aa (ae @av ?_);exact ay.next (j+1) ⟨bz.trans dL,AV,jr⟩
  ·obtain rfl:j=l.length:=by omega
   rw[List.drop_length,List.any_nil]at jr;refine VC.ag aa (ae @av ?_);refine WC.sound aa (ae @av ?_);exact aA.mk () ⟨bz,jr⟩
 rintro⟨⟩ O5 ⟨bz,jr⟩;rw[jr,if_neg (by simp)];have wR:=Gt.ge bz;have j_:=mT.ge bz;have SG:=aaj.trans (bl.lF bz).any;clear bz Gt gO fy cB mg mT cZ cK e_ EV aaj dB hrb;have ake:=iV t o2 a2;refine VC.ag aa (ae @av ?_);refine ah.p (pR wR ht a2) ?_ ?_;rotate_left
 ·rintro m O9 ⟨_,h⟩;exact h.elim
 rintro m O6 ⟨qQ,h9⟩;dsimp only at h9;obtain⟨rfl,mY⟩:=h9;have nV:App O6 O.next 2 tk:=App.bn j_ qQ (by have:=h.1;omega);have Mf:=SG.trans qQ;repeat refine gu @av ?_
 have hwk:= @kZ t (o2+j4 t o2) [61];have Bg:=sL (X:=X) [61] mY ht (by decide);generalize iK t (o2+j4 t o2) [61]=WF at*;refine ah.p (Bg) ?_ ?_;rotate_left
 ·rintro m O9 ⟨iR,h9⟩;cases WF with
  | ok y=>exact h9.elim
  | error e=>
    dsimp only at h9;subst h9;refine ae @av ?_;exact⟨bl.trans Mf iR,rfl⟩
 rintro m O7 ⟨CE,h9⟩;cases WF with
 | error e=>exact h9.elim
 | ok y9=>
 obtain⟨y7,o4⟩:=y9;dsimp only at h9;obtain⟨rfl,Jo⟩:=h9;obtain⟨b1,b2,b3⟩:=hwk rfl;have jP:App O7 O.next 2 tk:=App.bn nV CE (by have:=h.1;omega);have aiA:=Mf.trans CE;have akf:=iV t o4 b2;repeat refine gu @av ?_
 refine ah.p (pR Jo ht b2) ?_ ?_;rotate_left
 ·rintro m O9 ⟨_,h⟩;exact h.elim
 rintro m O8 ⟨ql,h9⟩;dsimp only at h9;obtain⟨rfl,hr8⟩:=h9;have Cd:App O8 O.next 2 tk:=App.bn jP ql (by have:=h.1;omega);have ae7:=aiA.trans ql;repeat refine gu @av ?_
 have hvk:= @Ag t (o4+j4 t o4);have hvv:=aai hr8 ht;generalize tF t (o4+j4 t o4)=VF at*;refine ah.p (hvv) ?_ ?_;rotate_left
 ·rintro m O9 ⟨iR,h9⟩;cases VF with
  | ok y=>exact h9.elim
  | error e=>
    dsimp only at h9;subst h9;refine ae @av ?_;exact⟨bl.trans ae7 iR,rfl⟩
 rintro m OA ⟨huA,h9⟩;cases VF with
 | error e=>exact h9.elim
 | ok y9=>
 obtain⟨v,o6⟩:=y9;dsimp only at h9;obtain⟨rfl,hrA⟩:=h9;obtain⟨c1,c2,c3⟩:=hvk rfl;have aak:App OA O.next 2 tk:=App.bn Cd huA (by have:=h.1;omega);have SR:=ae7.trans huA;repeat refine gu @av ?_
 have aiB:=bg (tk':=.full) (n:=l.length) (k:=1) (cs:=l.flatMap a_) (ds:=[.str nm,.str v]) aeJ aeQ.1.1 aak AL rfl rfl (by decide) (by decide) (by omega) (by simp only[maxLen];omega);refine VL.app aiB ?_;repeat refine gu @av ?_
 have fq:=cA.after aak;have hne:∀i,i<O.next->Tok.id tk≠some i:=fun i hi e=>by have:=(aak.pB e).1;omega
 refine ay.next (l++[(nm,v)],o6,.own OA.next 2) ⟨⟨Nat.le_trans SR.next fq.next,fun i hi hk=>(fq.hp i (Nat.lt_of_lt_of_le hi SR.next) (hne i hi)).trans (SR.hp i hi hk)⟩,⟨Nat.lt_of_lt_of_le hrA.1 fq.next,(fq.hp k hrA.1 (hne k h.1)).trans hrA.2⟩,App.after SR.next,c2,?_,n,?_,rfl⟩ (hl:=?_) (hm:=?_)
 ·dsimp only;rw[List.length_append,List.length_singleton];omega
 ·dsimp only;omega
 ·dsimp only;rw[List.flatMap_append,List.length_append];rfl
 ·dsimp only;omega
structure Tk where
 kind:Int
 name:Bs
 attrs:List (Bs×Bs)
 text:Bs
 off:Nat
def xZ (x:Tk):List MV:=[mi x.kind,.str x.name,.sl x.attrs.length (x.attrs.flatMap a_) .au,.str x.text,mi x.off,mi 0,mi 0]
theorem EX (x:Tk):(xZ x).length=7:=rfl
structure UB (B k:Nat) (O O':VH):Prop where
 next:O.next<=O'.next
 hp:∀i,i<B->i≠k->O'.hp i=O.hp i
theorem UB.refl (B k:Nat) (O:VH):UB B k O O:=⟨Nat.le_refl _,fun _ _ _=>rfl⟩
theorem UB.bn {B k:Nat} {O O1 O2:VH} (h:UB B k O O1) (u:bl O1 (some k) O2) (hB:B<=O1.next):UB B k O O2:=
 ⟨Nat.le_trans h.next u.next,fun i hi hk=>(u.hp i (Nat.lt_of_lt_of_le hi hB) (by intro e;injection e;omega)).trans (h.hp i hi hk)⟩
theorem UB.ge {B k:Nat} {O O1 O2:VH} (h:UB B k O O1) (u:O1.Ge O2) (hB:B<=O1.next):UB B k O O2:=
 ⟨Nat.le_trans h.next u.next,fun i hi hk=>(u.hp i (Nat.lt_of_lt_of_le hi hB)).trans (h.hp i hi hk)⟩
theorem UB.set {B k b:Nat} {O O1:VH} {x:bW} (h:UB B k O O1) (hb:B<=b\/b=k):UB B k O (O1.set b x):=
 ⟨h.next,fun i hi hk=>VH.sn (h.hp i hi hk)⟩
theorem UB.trans {B k:Nat} {O O1 O2:VH} (h:UB B k O O1) (u:UB B k O1 O2):UB B k O O2:=⟨Nat.le_trans h.next u.next,fun i hi hk=>(u.hp i hi hk).trans (h.hp i hi hk)⟩
theorem Rd.other {O:VH} {k b off:Nat} {t:Bs} {X:MV} {x:bW} (h:Rd O k t off X) (hb:b≠k):Rd (O.set b x) k t off X:=⟨h.1,(VH.ak _ _ (fun e=>hb e.symm)).trans h.2⟩
def tG {α β :Type} (f: α -> β):Except (Int×Nat) (α ×Nat)->Except (Int×Nat) (β ×Nat)
 | .error e=>.error e
 | .ok (x,o)=>.ok (f x,o)
def qw (t:Bs) (off:Nat):Except (Int×Nat) (Tk×Nat):=match jb t (off+2) 11 with
 | .error e=>.error e
 | .ok (nm,o2)=>tG (fun _=>⟨3,nm,[],[],off⟩) (iK t (o2+j4 t o2) [62])
def u9 (t:Bs) (off:Nat):Except (Int×Nat) (Tk×Nat):=match jb t (off+1) 11 with
 | .error e=>.error e
 | .ok (nm,o2)=>match lp t (t.length+1 - o2) o2 []with
   | .error e=>.error e
   | .ok (l,o3)=>if dH (t.drop o3) [47]then tG (fun _=>⟨2,nm,l,[],off⟩) (iK t (o3+1) [62])else tG (fun _=>⟨1,nm,l,[],off⟩) (iK t o3 [62])
def mn (t:Bs) (off:Nat):Except (Int×Nat) (Tk×Nat):=
 if dH (t.drop off) [60,33,45,45]then tG (fun s=>⟨5,[],[],s,off⟩) (iU t (off+List.length [(60:UInt8),33,45,45]) [45,45,62])
 else if dH (t.drop off) [60,33,91,67,68,65,84,65,91]then tG (fun s=>⟨4,[],[],s,off⟩) (iU t (off+List.length [(60:UInt8),33,91,67,68,65,84,65,91]) [93,93,62])
 else if off=0/\qU (t.drop off)=true then tG (fun s=>⟨6,[],[],s,off⟩) (iU t (off+List.length [(60:UInt8),63,120,109,108]) [63,62])
 else if dH (t.drop off) [60,47]then qw t off
 else if dH (t.drop off) [60]then u9 t off
 else tG (fun s=>⟨4,[],[],s,off⟩) (eC t 60 (t.length+1 - off) off [])
structure TJ (O:VH) (B k n:Nat) (t:Bs) (p:MV) (L:List MV) (o:Nat) (O':VH):Prop where
 ub:UB B k O O'
 rd:Rd O' k t o p
 row:GR O' 153 7 B p n L
 lt:O.next<O'.next
theorem TJ.set {O O':VH} {B k n o:Nat} {t:Bs} {p:MV} {L cs:List MV} {x:bW} (h:TJ O B k n t p L o O') (hb:O'.hp O.next=some (.cells cs)) (hp:gid p≠some O.next) (gx:k<B) (hB:B<=O.next):TJ O B k n t p L o (O'.set O.next x):=
 ⟨h.ub.set (.inl hB),h.rd.other (by omega),h.row.ph bl.set hp (fun _ _ _ e=>by rw[hb]at e;cases e),h.lt⟩
theorem TJ.bn {O OX OY:VH} {B k n o o2:Nat} {t:Bs} {p:MV} {L:List MV} (h:TJ O B k n t p L o OX) (u:bl OX (some k) OY) (hr:Rd OY k t o2 p) (hp:gid p≠some k) (hB:B<=O.next):TJ O B k n t p L o2 OY:=
 ⟨h.ub.bn u (by have:=h.lt;omega),hr,h.row.ph u hp (fun _ _ _ e=>by rw[h.rd.2]at e;cases e),Nat.lt_of_lt_of_le h.lt u.next⟩
theorem TJ.pn {O OX OY:VH} {B k n o:Nat} {t:Bs} {p:MV} {L:List MV} (h:TJ O B k n t p L o OX) (u:bl OX (some k) OY) (hB:B<=O.next):UB B k O OY:=h.ub.bn u (by have:=h.lt;omega)
theorem TJ.at {O OX OY:VH} {B k n o:Nat} {t:Bs} {p:MV} {L cs:List MV} (h:TJ O B k n t p L o OX) (u:bl OX (some k) OY) (gx:k<B) (hB:B<=O.next) (hb:OX.hp O.next=some (.cells cs)):OY.hp O.next=some (.cells cs):=
 (u.hp _ h.lt (by intro e;injection e;omega)).trans hb
section
variable {P:Program} {n:Sz} {D:List Deferred} {c:Code} {e:Env} {O:VH} {Q:VQ} {md:Md} {d:Option Tmp} {K:Env->VH->Prop} {fv:Option MV} {ms:Option (List MV)} {b k:Nat} {x y:bW}
theorem ah.s1 (h:∀O3,O3=O.set b x->ah P n md Q d O3 K e fv ms):ah P n md Q d (O.set b x) K e fv ms:=h _ rfl
theorem ah.s2 (h:∀O3,O3=(O.set b x).set k y->ah P n md Q d O3 K e fv ms):ah P n md Q d ((O.set b x).set k y) K e fv ms:=h _ rfl
end
theorem u_ {t:Bs}:∀(n o:Nat) (l:List (Bs×Bs)) {l':List (Bs×Bs)} {o':Nat},o<=t.length->lp t n o l= .ok (l',o')->o<=o'/\o'<=t.length
 | 0,o,l,l',o',ho,h=>by
   rw[lp]at h;injection h with h;injection h with h1 h2
   omega
 | n+1,o,l,l',o',ho,h=>by
   have uQ:=iV t o ho;rw[lp]at h;split at h
   ·injection h with h;injection h with h1 h2
    omega
   split at h
   ·cases h
   rename_i nm o2 h2;have hn:=gk h2;have bZ:=iV t o2 (by omega);split at h
   ·cases h
   split at h
   ·cases h
   rename_i y4 o4 h4;have hw:=kZ h4;have cL:=iV t o4 (by omega);split at h
   ·cases h
   rename_i v o6 h6;have hv:=Ag h6;have:=u_ n o6 _ (by omega) h;omega
set_option maxHeartbeats 800000 in
theorem aal {O:VH} {k off B n:Nat} {t:Bs} {p:MV} {L:List MV} (h:Rd O k t off p) (ht:t.length<=1000000) (ho:off<=t.length) (gx:k<B) (hB:B<=O.next) (cH:GR O 153 7 B p n L) (hn:n<=1000000):
  VF Tryz.prog 264 [.ptr k 0] O fun r O'=>UB B k O O'/\match r,mn t off with
   | .ret m,.ok (x,o')=>m= .tuple []/\∃p',Rd O' k t o' p'/\GR O' 153 7 B p' (n+1) (L++xZ x)
   | .panic m,.error e=>m=Ac e.1 e.2
   | _,_=>False:=by
 have hk:=h.2;simp only[ar]at hk
 have lJ:gid p≠some k:=fun e=>by
  rcases cH with⟨_,_,hp | hp⟩ | ⟨k2,c,hp,_,_,ko⟩
  ·rw[hp]at e;cases e
  ·rw[hp]at e;cases e
  ·rw[hp]at e;injection e with e;have:=ko.lo;omega
 refine VF.bL 116 [] Tryz.func264 ?_;refine VC.ag aa (ao @av @hk ?_);refine VC.al ?_;rintro O1 ⟨aU,ct,du⟩;have ni:=h.ge aU;have agP:=cH.xP (bl.lF aU);have dN:=ni.2;simp only[ar]at dN;have rE:UB B k O O1:=(UB.refl B k O).ge aU hB
 have nE:gid p≠some O.next:=fun e=>by
  rcases cH with⟨_,_,hp | hp⟩ | ⟨k2,c,hp,_,_,ko⟩
  ·rw[hp]at e;cases e
  ·rw[hp]at e;cases e
  ·rw[hp]at e;injection e with e;have:=ko.hi;omega
 have hJ:∀{O3:VH} {o:Nat},bl O1 (some k) O3->Rd O3 k t o p->TJ O B k n t p L o O3:=fun{O3 o} u hr=>
  ⟨rE.bn u (by omega),hr,agP.ph u lJ (fun _ _ _ e=>by rw[ni.2]at e;cases e),by have:=u.next;omega⟩
 refine VC.bu [0,2] (fun x:Tk×Nat=>[.ptr k 0,.ptr O.next 0]) (fun x O'=>TJ O B k n t p L x.2 O'/\mn t off= .ok x/\∃att,O'.hp O.next=some (.cells [mi x.1.kind,.str x.1.name,att,.str x.1.text,mi x.1.off,mi 0,mi 0])/\au att= .sl x.1.attrs.length (x.1.attrs.flatMap a_) .au/\dE att=true) ?_ ?_
 ·refine VC.az ?_;unfold mn;refine VC.ag aa (ae @av ?_);refine ah.rt (pQ [60,33,45,45] ni ho) ?_;rintro _ O2 ⟨rfl,eO⟩;rw[eO];clear eO O2
  cases hp:dH (t.drop off) [60,33,45,45];rotate_left
  ·rw[if_pos rfl];have hle:=gG hp;have huv:=ES (X:=p) [60,33,45,45] [45,45,62] ni ht (by decide) (by rw[List.length_drop]at hle;omega);generalize iU t (off+List.length [60,33,45,45]) [45,45,62]=F at*;repeat refine gu @av ?_
   refine ah.p (huv) ?_ ?_;rotate_left
   ·rintro m O9 ⟨iR,h9⟩;cases F with
    | ok y=>exact h9.elim
    | error e=>
      dsimp only at h9;subst h9;repeat refine gu @av ?_
      exact⟨UB.bn rE (bl.trans (bl.refl _ _) iR) (by omega),rfl⟩
   rintro m O3 ⟨cK,h9⟩;cases F with
   | error e=>exact h9.elim
   | ok y9=>
   obtain⟨s,o2⟩:=y9;dsimp only at h9;obtain⟨rfl,gO⟩:=h9;have cc:=(cK.hp _ (by omega) (by intro e;injection e;omega)).trans ct;repeat refine pO @av @cc ?_
   exact aA.mk (⟨5,[],[],s,off⟩,o2) ⟨((hJ cK gO).set cc nE gx hB).set (VH.an _ _ _) nE gx hB,rfl,.sl 0 [] .nil,VH.an _ _ _,by simp only[wu];rfl,rfl⟩
  rw[if_neg (by simp)];repeat refine gu @av ?_
  refine ah.rt (pQ [60,33,91,67,68,65,84,65,91] ni ho) ?_;rintro _ O2 ⟨rfl,eO⟩;rw[eO];clear eO O2
  clear hp;cases hp:dH (t.drop off) [60,33,91,67,68,65,84,65,91];rotate_left
  ·rw[if_pos rfl];have hle:=gG hp;have huv:=ES (X:=p) [60,33,91,67,68,65,84,65,91] [93,93,62] ni ht (by decide) (by rw[List.length_drop]at hle;omega);generalize iU t (off+List.length [60,33,91,67,68,65,84,65,91]) [93,93,62]=F at*;repeat refine gu @av ?_
   refine ah.p (huv) ?_ ?_;rotate_left
   ·rintro m O9 ⟨iR,h9⟩;cases F with
    | ok y=>exact h9.elim
    | error e=>
      dsimp only at h9;subst h9;repeat refine gu @av ?_
      exact⟨UB.bn rE (bl.trans (bl.refl _ _) iR) (by omega),rfl⟩
   rintro m O3 ⟨cK,h9⟩;cases F with
   | error e=>exact h9.elim
   | ok y9=>
   obtain⟨s,o2⟩:=y9;dsimp only at h9;obtain⟨rfl,gO⟩:=h9;have cc:=(cK.hp _ (by omega) (by intro e;injection e;omega)).trans ct;repeat refine pO @av @cc ?_
   exact aA.mk (⟨4,[],[],s,off⟩,o2) ⟨((hJ cK gO).set cc nE gx hB).set (VH.an _ _ _) nE gx hB,rfl,.sl 0 [] .nil,VH.an _ _ _,by simp only[wu];rfl,rfl⟩
  rw[if_neg (by simp)];clear hp;by_cases h0:off=0;rotate_left
  ·rw[if_neg (fun h=>h0 h.1)];have h0i:((off:Int)==0)=false:=by simpa using h0
   repeat refine kg3 @av @dN @h0i ?_
   refine ah.rt (pQ [60,47] ni ho) ?_;rintro _ O2 ⟨rfl,eO⟩;rw[eO];clear eO O2
   cases hp:dH (t.drop off) [60,47];rotate_left
   ·rw[if_pos rfl];unfold qw;have hle:=gG hp;simp only[List.length_drop,List.length_cons,List.length_nil]at hle;repeat refine pO @av @dN ?_
    have fy:Rd (O1.set k (.cells [.str t,mi (off+2:Nat),p])) k t (off+2) p:=ni.set;have cZ:bl O1 (some k) (O1.set k (.cells [.str t,mi (off+2:Nat),p])):=bl.set;have kE:((off:Int)+2)=((off+2:Nat):Int):=by omega
    simp only[ar, <-kE]at fy cZ;generalize O1.set k (.cells [.str t,.v (.int .i64 ((off:Int)+2)),p])=O2 at*;repeat refine gu @av ?_
    have CH:=Ad 11 fy ht;have tV:= @gk t (off+2) 11;generalize jb t (off+2) 11=F at*;refine ah.p (CH) ?_ ?_;rotate_left
    ·rintro m O9 ⟨iR,h9⟩;cases F with
     | ok y=>exact h9.elim
     | error e=>
       dsimp only at h9;subst h9;repeat refine gu @av ?_
       exact⟨UB.bn rE (bl.trans cZ iR) (by omega),rfl⟩
    rintro m O3 ⟨cK,h9⟩;cases F with
    | error e=>exact h9.elim
    | ok y9=>
    obtain⟨s,o2⟩:=y9;dsimp only at h9;obtain⟨rfl,gO⟩:=h9;have tH:=cZ.trans cK;obtain⟨a1,a2,a3,a4⟩:=tV rfl;have cc:=(tH.hp _ (by omega) (by intro e;injection e;omega)).trans ct;repeat refine pO @av @cc ?_
    refine ah.s2 ?_;rintro O4 oT;have va:TJ O B k n t p L o2 O4:=by rw[oT];exact((hJ tH gO).set cc nE gx hB).set (VH.an _ _ _) nE gx hB
    have cL:O4.hp O.next=some (.cells [mi 3,.str s,.sl 0 [] .nil,.str [],mi off,mi 0,mi 0]):=by rw[oT];exact VH.an _ _ _
    clear oT;have uQ:=iV t o2 a2;refine ah.p (pR va.rd ht a2) ?_ ?_;rotate_left
    ·rintro m O9 ⟨_,h⟩;exact h.elim
    rintro m O5 ⟨qk,h9⟩;dsimp only at h9;obtain⟨rfl,wR⟩:=h9;have qV:=va.bn qk wR lJ hB;have cV:=va.at qk gx hB cL;repeat refine gu @av ?_
    have Bg:=sL (X:=p) [62] wR ht (by decide);generalize iK t (o2+j4 t o2) [62]=W at*;refine ah.p (Bg) ?_ ?_;rotate_left
    ·rintro m O9 ⟨iR,h9⟩;cases W with
     | ok y=>exact h9.elim
     | error e=>
       dsimp only at h9;subst h9;repeat refine gu @av ?_
       exact⟨TJ.pn qV iR hB,rfl⟩
    rintro m O6 ⟨qQ,h9⟩;cases W with
    | error e=>exact h9.elim
    | ok y9=>
    obtain⟨y6,o4⟩:=y9;dsimp only at h9;obtain⟨rfl,mY⟩:=h9;have iQ:=qV.at qQ gx hB cV;repeat refine gu @av ?_
    exact aA.mk (⟨3,s,[],[],off⟩,o4) ⟨qV.bn qQ mY lJ hB,rfl,.sl 0 [] .nil,iQ,by simp only[wu];rfl,rfl⟩
   rw[if_neg (by simp)];clear hp;repeat refine gu @av ?_
   refine ah.rt (pQ [60] ni ho) ?_;rintro _ O2 ⟨rfl,eO⟩;rw[eO];clear eO O2
   cases hp:dH (t.drop off) [60];rotate_left
   ·rw[if_pos rfl];unfold u9;have hle:=gG hp;simp only[List.length_drop,List.length_cons,List.length_nil]at hle;repeat refine pO @av @dN ?_
    have fy:Rd (O1.set k (.cells [.str t,mi (off+1:Nat),p])) k t (off+1) p:=ni.set;have cZ:bl O1 (some k) (O1.set k (.cells [.str t,mi (off+1:Nat),p])):=bl.set;have kE:((off:Int)+1)=((off+1:Nat):Int):=by omega
    simp only[ar, <-kE]at fy cZ;generalize O1.set k (.cells [.str t,.v (.int .i64 ((off:Int)+1)),p])=O2 at*;repeat refine gu @av ?_
    have CH:=Ad 11 fy ht;have tV:= @gk t (off+1) 11;generalize jb t (off+1) 11=F at*;refine ah.p (CH) ?_ ?_;rotate_left
    ·rintro m O9 ⟨iR,h9⟩;cases F with
     | ok y=>exact h9.elim
     | error e=>
       dsimp only at h9;subst h9;repeat refine gu @av ?_
       exact⟨UB.bn rE (bl.trans cZ iR) (by omega),rfl⟩
    rintro m O3 ⟨cK,h9⟩;cases F with
    | error e=>exact h9.elim
    | ok y9=>
    obtain⟨s,o2⟩:=y9;dsimp only at h9;obtain⟨rfl,gO⟩:=h9;have tH:=cZ.trans cK;obtain⟨a1,a2,a3,a4⟩:=tV rfl;have cc:=(tH.hp _ (by omega) (by intro e;injection e;omega)).trans ct;repeat refine pO @av @cc ?_
    refine ah.s1 ?_;rintro O4 oT;have va:TJ O B k n t p L o2 O4:=by rw[oT];exact(hJ tH gO).set cc nE gx hB
    have cL:O4.hp O.next=some (.cells [mi 0,.str s,.sl 0 [] .nil,.str [],mi off,mi 0,mi 0]):=by rw[oT];exact VH.an _ _ _
    clear oT;have Wb:=ME va.rd ht a2;have Wc:= @u_ t (t.length+1 - o2) o2 [];generalize lp t (t.length+1 - o2) o2 []=A at*;refine ah.p (Wb) ?_ ?_;rotate_left
    ·rintro m O9 ⟨iR,h9⟩;cases A with
     | ok y=>exact h9.elim
     | error e=>
       dsimp only at h9;subst h9;repeat refine gu @av ?_
       exact⟨va.pn iR hB,rfl⟩
    rintro m O5 ⟨qk,h9⟩;cases A with
    | error e=>exact h9.elim
    | ok y9=>
    obtain⟨l,o3⟩:=y9;dsimp only at h9;obtain⟨⟨tk,rfl⟩,wR⟩:=h9;obtain⟨c1,c2⟩:=Wc a2 rfl;have qV:=va.bn qk wR lJ hB;have cV:=va.at qk gx hB cL;simp only[ar]at cV;repeat refine pO @av @cV ?_
    refine ah.s2 ?_;rintro O6 Bh;have x_:TJ O B k n t p L o3 O6:=by rw[Bh];exact(qV.set cV nE gx hB).set (VH.an _ _ _) nE gx hB
    have iQ:O6.hp O.next=some (.cells [mi 1,.str s,.sl l.length (l.flatMap a_) tk,.str [],mi off,mi 0,mi 0]):=by rw[Bh];exact VH.an _ _ _
    clear Bh;have nj:=x_.rd.2;simp only[ar]at iQ nj;refine ah.rt (pQ [47] x_.rd c2) ?_;rintro _ O7 ⟨rfl,eO⟩;rw[eO];clear eO O7
    cases Wa:dH (t.drop o3) [47]
    ·rw[if_neg (by simp)];repeat refine gu @av ?_
     have Bg:=sL (X:=p) [62] x_.rd ht (by decide);generalize iK t o3 [62]=W at*;refine ah.p (Bg) ?_ ?_;rotate_left
     ·rintro m O9 ⟨iR,h9⟩;cases W with
      | ok y=>exact h9.elim
      | error e=>
        dsimp only at h9;subst h9;repeat refine gu @av ?_
        exact⟨TJ.pn x_ iR hB,rfl⟩
     rintro m O7 ⟨CE,h9⟩;cases W with
     | error e=>exact h9.elim
     | ok y9=>
     obtain⟨y7,o4⟩:=y9;dsimp only at h9;obtain⟨rfl,Jo⟩:=h9;have xW:=x_.at CE gx hB iQ;repeat refine gu @av ?_
     exact aA.mk (⟨1,s,l,[],off⟩,o4) ⟨x_.bn CE Jo lJ hB,rfl,.sl l.length (l.flatMap a_) tk,xW,by simp only[wu,fT],rfl⟩
    ·rw[if_pos rfl];have SI:=gG Wa;simp only[List.length_drop,List.length_cons,List.length_nil]at SI;have aam:=fun x:bW=>(VH.ak O6 (k:=O.next) (j:=k) x (by omega)).trans nj
     repeat refine kg4 @av @iQ @nj @aam ?_
     refine ah.s2 ?_;rintro O7 pW;have eR:((o3:Int)+1)=((o3+1:Nat):Int):=by omega
     rw[eR]at pW;have Gu:=x_.set (x:=.cells [.v (.int .i64 2),.str s,.sl l.length (l.flatMap a_) tk,.str [],.v (.int .i64 off),.v (.int .i64 0),.v (.int .i64 0)]) iQ nE gx hB;have Jp:TJ O B k n t p L (o3+1) O7:=by rw[pW];exact Gu.bn bl.set (Rd.set Gu.rd) lJ hB
     have xW:O7.hp O.next=some (.cells [mi 2,.str s,.sl l.length (l.flatMap a_) tk,.str [],mi off,mi 0,mi 0]):=by rw[pW];exact VH.sn (VH.an _ _ _)
     clear pW Gu;have Bg:=sL (X:=p) [62] Jp.rd ht (by decide);generalize iK t (o3+1) [62]=W at*;refine ah.p (Bg) ?_ ?_;rotate_left
     ·rintro m O9 ⟨iR,h9⟩;cases W with
      | ok y=>exact h9.elim
      | error e=>
        dsimp only at h9;subst h9;repeat refine gu @av ?_
        exact⟨TJ.pn Jp iR hB,rfl⟩
     rintro m O8 ⟨ql,h9⟩;cases W with
     | error e=>exact h9.elim
     | ok y9=>
     obtain⟨y8,o4⟩:=y9;dsimp only at h9;obtain⟨rfl,hr8⟩:=h9;have sC:=Jp.at ql gx hB xW;repeat refine gu @av ?_
     exact aA.mk (⟨2,s,l,[],off⟩,o4) ⟨Jp.bn ql hr8 lJ hB,rfl,.sl l.length (l.flatMap a_) tk,sC,by simp only[wu,fT],rfl⟩
   rw[if_neg (by simp)];clear hp;repeat refine gu @av ?_
   have gI:=xY (X:=p) 60 ni ht ho;generalize eC t 60 (t.length+1 - off) off []=F at*;refine ah.p (gI) ?_ ?_;rotate_left
   ·rintro m O9 ⟨iR,h9⟩;cases F with
    | ok y=>exact h9.elim
    | error e=>
      dsimp only at h9;subst h9;repeat refine gu @av ?_
      exact⟨UB.bn rE (bl.trans (bl.refl _ _) iR) (by omega),rfl⟩
   rintro m O3 ⟨cK,h9⟩;cases F with
   | error e=>exact h9.elim
   | ok y9=>
   obtain⟨s,o2⟩:=y9;dsimp only at h9;obtain⟨rfl,gO⟩:=h9;have cc:=(cK.hp _ (by omega) (by intro e;injection e;omega)).trans ct;repeat refine pO @av @cc ?_
   exact aA.mk (⟨4,[],[],s,off⟩,o2) ⟨((hJ cK gO).set cc nE gx hB).set (VH.an _ _ _) nE gx hB,rfl,.sl 0 [] .nil,VH.an _ _ _,by simp only[wu];rfl,rfl⟩
  have h0i:((off:Int)==0)=true:=by simpa using h0
  repeat refine kg3 @av @dN @h0i ?_
  refine ah.rt (V0 ni ht ho) ?_;rintro _ O2 ⟨rfl,eO⟩;rw[eO];clear eO O2
  cases hhd:qU (t.drop off)
  ·rw[if_neg (fun h=>by cases h.2)];repeat refine gu @av ?_
   refine ah.rt (pQ [60,47] ni ho) ?_;rintro _ O2 ⟨rfl,eO⟩;rw[eO];clear eO O2
   cases hp:dH (t.drop off) [60,47];rotate_left
   ·rw[if_pos rfl];unfold qw;have hle:=gG hp;simp only[List.length_drop,List.length_cons,List.length_nil]at hle;repeat refine pO @av @dN ?_
    have fy:Rd (O1.set k (.cells [.str t,mi (off+2:Nat),p])) k t (off+2) p:=ni.set;have cZ:bl O1 (some k) (O1.set k (.cells [.str t,mi (off+2:Nat),p])):=bl.set;have kE:((off:Int)+2)=((off+2:Nat):Int):=by omega
    simp only[ar, <-kE]at fy cZ;generalize O1.set k (.cells [.str t,.v (.int .i64 ((off:Int)+2)),p])=O2 at*;repeat refine gu @av ?_
    have CH:=Ad 11 fy ht;have tV:= @gk t (off+2) 11;generalize jb t (off+2) 11=F at*;refine ah.p (CH) ?_ ?_;rotate_left
    ·rintro m O9 ⟨iR,h9⟩;cases F with
     | ok y=>exact h9.elim
     | error e=>
       dsimp only at h9;subst h9;repeat refine gu @av ?_
       exact⟨UB.bn rE (bl.trans cZ iR) (by omega),rfl⟩
    rintro m O3 ⟨cK,h9⟩;cases F with
    | error e=>exact h9.elim
    | ok y9=>
    obtain⟨s,o2⟩:=y9;dsimp only at h9;obtain⟨rfl,gO⟩:=h9;have tH:=cZ.trans cK;obtain⟨a1,a2,a3,a4⟩:=tV rfl;have cc:=(tH.hp _ (by omega) (by intro e;injection e;omega)).trans ct;repeat refine pO @av @cc ?_
    refine ah.s2 ?_;rintro O4 oT;have va:TJ O B k n t p L o2 O4:=by rw[oT];exact((hJ tH gO).set cc nE gx hB).set (VH.an _ _ _) nE gx hB
    have cL:O4.hp O.next=some (.cells [mi 3,.str s,.sl 0 [] .nil,.str [],mi off,mi 0,mi 0]):=by rw[oT];exact VH.an _ _ _
    clear oT;have uQ:=iV t o2 a2;refine ah.p (pR va.rd ht a2) ?_ ?_;rotate_left
    ·rintro m O9 ⟨_,h⟩;exact h.elim
    rintro m O5 ⟨qk,h9⟩;dsimp only at h9;obtain⟨rfl,wR⟩:=h9;have qV:=va.bn qk wR lJ hB;have cV:=va.at qk gx hB cL;repeat refine gu @av ?_
    have Bg:=sL (X:=p) [62] wR ht (by decide);generalize iK t (o2+j4 t o2) [62]=W at*;refine ah.p (Bg) ?_ ?_;rotate_left
    ·rintro m O9 ⟨iR,h9⟩;cases W with
     | ok y=>exact h9.elim
     | error e=>
       dsimp only at h9;subst h9;repeat refine gu @av ?_
       exact⟨TJ.pn qV iR hB,rfl⟩
    rintro m O6 ⟨qQ,h9⟩;cases W with
    | error e=>exact h9.elim
    | ok y9=>
    obtain⟨y6,o4⟩:=y9;dsimp only at h9;obtain⟨rfl,mY⟩:=h9;have iQ:=qV.at qQ gx hB cV;repeat refine gu @av ?_
    exact aA.mk (⟨3,s,[],[],off⟩,o4) ⟨qV.bn qQ mY lJ hB,rfl,.sl 0 [] .nil,iQ,by simp only[wu];rfl,rfl⟩
   rw[if_neg (by simp)];clear hp;repeat refine gu @av ?_
   refine ah.rt (pQ [60] ni ho) ?_;rintro _ O2 ⟨rfl,eO⟩;rw[eO];clear eO O2
   cases hp:dH (t.drop off) [60];rotate_left
   ·rw[if_pos rfl];unfold u9;have hle:=gG hp;simp only[List.length_drop,List.length_cons,List.length_nil]at hle;repeat refine pO @av @dN ?_
    have fy:Rd (O1.set k (.cells [.str t,mi (off+1:Nat),p])) k t (off+1) p:=ni.set;have cZ:bl O1 (some k) (O1.set k (.cells [.str t,mi (off+1:Nat),p])):=bl.set;have kE:((off:Int)+1)=((off+1:Nat):Int):=by omega
    simp only[ar, <-kE]at fy cZ;generalize O1.set k (.cells [.str t,.v (.int .i64 ((off:Int)+1)),p])=O2 at*;repeat refine gu @av ?_
    have CH:=Ad 11 fy ht;have tV:= @gk t (off+1) 11;generalize jb t (off+1) 11=F at*;refine ah.p (CH) ?_ ?_;rotate_left
    ·rintro m O9 ⟨iR,h9⟩;cases F with
     | ok y=>exact h9.elim
     | error e=>
       dsimp only at h9;subst h9;repeat refine gu @av ?_
       exact⟨UB.bn rE (bl.trans cZ iR) (by omega),rfl⟩
    rintro m O3 ⟨cK,h9⟩;cases F with
    | error e=>exact h9.elim
    | ok y9=>
    obtain⟨s,o2⟩:=y9;dsimp only at h9;obtain⟨rfl,gO⟩:=h9;have tH:=cZ.trans cK;obtain⟨a1,a2,a3,a4⟩:=tV rfl;have cc:=(tH.hp _ (by omega) (by intro e;injection e;omega)).trans ct;repeat refine pO @av @cc ?_
    refine ah.s1 ?_;rintro O4 oT;have va:TJ O B k n t p L o2 O4:=by rw[oT];exact(hJ tH gO).set cc nE gx hB
    have cL:O4.hp O.next=some (.cells [mi 0,.str s,.sl 0 [] .nil,.str [],mi off,mi 0,mi 0]):=by rw[oT];exact VH.an _ _ _
    clear oT;have Wb:=ME va.rd ht a2;have Wc:= @u_ t (t.length+1 - o2) o2 [];generalize lp t (t.length+1 - o2) o2 []=A at*;refine ah.p (Wb) ?_ ?_;rotate_left
    ·rintro m O9 ⟨iR,h9⟩;cases A with
     | ok y=>exact h9.elim
     | error e=>
       dsimp only at h9;subst h9;repeat refine gu @av ?_
       exact⟨va.pn iR hB,rfl⟩
    rintro m O5 ⟨qk,h9⟩;cases A with
    | error e=>exact h9.elim
    | ok y9=>
    obtain⟨l,o3⟩:=y9;dsimp only at h9;obtain⟨⟨tk,rfl⟩,wR⟩:=h9;obtain⟨c1,c2⟩:=Wc a2 rfl;have qV:=va.bn qk wR lJ hB;have cV:=va.at qk gx hB cL;simp only[ar]at cV;repeat refine pO @av @cV ?_
    refine ah.s2 ?_;rintro O6 Bh;have x_:TJ O B k n t p L o3 O6:=by rw[Bh];exact(qV.set cV nE gx hB).set (VH.an _ _ _) nE gx hB
    have iQ:O6.hp O.next=some (.cells [mi 1,.str s,.sl l.length (l.flatMap a_) tk,.str [],mi off,mi 0,mi 0]):=by rw[Bh];exact VH.an _ _ _
    clear Bh;have nj:=x_.rd.2;simp only[ar]at iQ nj;refine ah.rt (pQ [47] x_.rd c2) ?_;rintro _ O7 ⟨rfl,eO⟩;rw[eO];clear eO O7
    cases Wa:dH (t.drop o3) [47]
    ·rw[if_neg (by simp)];repeat refine gu @av ?_
     have Bg:=sL (X:=p) [62] x_.rd ht (by decide);generalize iK t o3 [62]=W at*;refine ah.p (Bg) ?_ ?_;rotate_left
     ·rintro m O9 ⟨iR,h9⟩;cases W with
      | ok y=>exact h9.elim
      | error e=>
        dsimp only at h9;subst h9;repeat refine gu @av ?_
        exact⟨TJ.pn x_ iR hB,rfl⟩
     rintro m O7 ⟨CE,h9⟩;cases W with
     | error e=>exact h9.elim
     | ok y9=>
     obtain⟨y7,o4⟩:=y9;dsimp only at h9;obtain⟨rfl,Jo⟩:=h9;have xW:=x_.at CE gx hB iQ;repeat refine gu @av ?_
     exact aA.mk (⟨1,s,l,[],off⟩,o4) ⟨x_.bn CE Jo lJ hB,rfl,.sl l.length (l.flatMap a_) tk,xW,by simp only[wu,fT],rfl⟩
    ·rw[if_pos rfl];have SI:=gG Wa;simp only[List.length_drop,List.length_cons,List.length_nil]at SI;have aam:=fun x:bW=>(VH.ak O6 (k:=O.next) (j:=k) x (by omega)).trans nj
     repeat refine kg4 @av @iQ @nj @aam ?_
     refine ah.s2 ?_;rintro O7 pW;have eR:((o3:Int)+1)=((o3+1:Nat):Int):=by omega
     rw[eR]at pW;have Gu:=x_.set (x:=.cells [.v (.int .i64 2),.str s,.sl l.length (l.flatMap a_) tk,.str [],.v (.int .i64 off),.v (.int .i64 0),.v (.int .i64 0)]) iQ nE gx hB;have Jp:TJ O B k n t p L (o3+1) O7:=by rw[pW];exact Gu.bn bl.set (Rd.set Gu.rd) lJ hB
     have xW:O7.hp O.next=some (.cells [mi 2,.str s,.sl l.length (l.flatMap a_) tk,.str [],mi off,mi 0,mi 0]):=by rw[pW];exact VH.sn (VH.an _ _ _)
     clear pW Gu;have Bg:=sL (X:=p) [62] Jp.rd ht (by decide);generalize iK t (o3+1) [62]=W at*;refine ah.p (Bg) ?_ ?_;rotate_left
     ·rintro m O9 ⟨iR,h9⟩;cases W with
      | ok y=>exact h9.elim
      | error e=>
        dsimp only at h9;subst h9;repeat refine gu @av ?_
        exact⟨TJ.pn Jp iR hB,rfl⟩
     rintro m O8 ⟨ql,h9⟩;cases W with
     | error e=>exact h9.elim
     | ok y9=>
     obtain⟨y8,o4⟩:=y9;dsimp only at h9;obtain⟨rfl,hr8⟩:=h9;have sC:=Jp.at ql gx hB xW;repeat refine gu @av ?_
     exact aA.mk (⟨2,s,l,[],off⟩,o4) ⟨Jp.bn ql hr8 lJ hB,rfl,.sl l.length (l.flatMap a_) tk,sC,by simp only[wu,fT],rfl⟩
   rw[if_neg (by simp)];clear hp;repeat refine gu @av ?_
   have gI:=xY (X:=p) 60 ni ht ho;generalize eC t 60 (t.length+1 - off) off []=F at*;refine ah.p (gI) ?_ ?_;rotate_left
   ·rintro m O9 ⟨iR,h9⟩;cases F with
    | ok y=>exact h9.elim
    | error e=>
      dsimp only at h9;subst h9;repeat refine gu @av ?_
      exact⟨UB.bn rE (bl.trans (bl.refl _ _) iR) (by omega),rfl⟩
   rintro m O3 ⟨cK,h9⟩;cases F with
   | error e=>exact h9.elim
   | ok y9=>
   obtain⟨s,o2⟩:=y9;dsimp only at h9;obtain⟨rfl,gO⟩:=h9;have cc:=(cK.hp _ (by omega) (by intro e;injection e;omega)).trans ct;repeat refine pO @av @cc ?_
   exact aA.mk (⟨4,[],[],s,off⟩,o2) ⟨((hJ cK gO).set cc nE gx hB).set (VH.an _ _ _) nE gx hB,rfl,.sl 0 [] .nil,VH.an _ _ _,by simp only[wu];rfl,rfl⟩
  ·rw[if_pos ⟨h0,rfl⟩]
   have hp:dH (t.drop off) [60,63,120,109,108]=true:=by
    unfold qU at hhd;simp only[Bool.and_eq_true]at hhd;exact hhd.1.1
   repeat refine gu @av ?_
   have hle:=gG hp;have huv:=ES (X:=p) [60,63,120,109,108] [63,62] ni ht (by decide) (by rw[List.length_drop]at hle;omega);generalize iU t (off+List.length [60,63,120,109,108]) [63,62]=F at*;repeat refine gu @av ?_
   refine ah.p (huv) ?_ ?_;rotate_left
   ·rintro m O9 ⟨iR,h9⟩;cases F with
    | ok y=>exact h9.elim
    | error e=>
      dsimp only at h9;subst h9;repeat refine gu @av ?_
      exact⟨UB.bn rE (bl.trans (bl.refl _ _) iR) (by omega),rfl⟩
   rintro m O3 ⟨cK,h9⟩;cases F with
   | error e=>exact h9.elim
   | ok y9=>
   obtain⟨s,o2⟩:=y9;dsimp only at h9;obtain⟨rfl,gO⟩:=h9;have cc:=(cK.hp _ (by omega) (by intro e;injection e;omega)).trans ct;repeat refine pO @av @cc ?_
   exact aA.mk (⟨6,[],[],s,off⟩,o2) ⟨((hJ cK gO).set cc nE gx hB).set (VH.an _ _ _) nE gx hB,rfl,.sl 0 [] .nil,VH.an _ _ _,by simp only[wu];rfl,rfl⟩
 rintro⟨x,o'⟩ O2 ⟨bf,fl,att,bZ,br,hY⟩;dsimp only at bf fl bZ br hY;rw[fl];have bt:=bf.rd.2;simp only[ar]at bZ bt;refine VC.IG [0,7,8,9,10] (by kernel_rfl) ?_;refine bD.mv 0 ?_;refine bD.bH [(1,.rd),(2,.rd),(3,.rd),(4,.rd),(5,.rd),(6,.one),(7,.one),(8,.one),(9,.one),(10,.one)] ?_;simp only[aj];repeat refine kg3 @av @bZ @bt ?_
 refine VL.wk (EW.top (Wk.sl (pq _))) ?_
 have qO:cI [.v (.int .i64 x.kind),.str x.name,att,.str x.text,.v (.int .i64 x.off),.v (.int .i64 0),.v (.int .i64 0)]=xZ x:=by
  simp only[wu,br,xZ,ar]
 rw[qO];have eb:=bf.lt;refine VL.agL aa (by simp) (fun i hi=>by match i,hi with | 7,_=>rfl | 0,hi | 1,hi | 2,hi | 3,hi | 4,hi | 5,hi | 6,hi | 8,hi | 9,hi | 10,hi=>cases hi | _+11,hi=>cases hi) (te:=⟨_,7,88,_⟩) (dx:=.slice 153) (q:=.sl 1 (xZ x) .full) (j:=1) (ds:=xZ x) bf.row rfl rfl (by rw[En];rfl) aeL.1.1 (by rw[En];rfl) trivial (by dsimp only;omega) (by simp only[maxLen];omega) (by omega) rfl rfl rfl rfl ?_;intro m O3 wS nG ik hm;have dB:O3.hp k=some (.cells [.str t,.v (.int .i64 o'),p]):=(nG.hp k bf.rd.1 (by intro e;exact lJ e)).trans bt
 obtain⟨k2,c2,rfl⟩:∃k2 c2,m= .bm k2 0 (n+1) c2:=by
  rcases hm with⟨k2,c2,h1,_⟩ | ⟨h1,_⟩
  ·exact⟨k2,c2,h1⟩
  ·cases h1
 have akg:B<=k2:=by
  rcases wS with⟨h1,_⟩ | ⟨k3,c3,h1,_,_,h4⟩
  ·cases h1
  ·injection h1 with h1;rw[h1];exact h4.lo
 have hpB:∀i,i<B->gid p≠some i:=fun i hi e=>by
  rcases cH with⟨_,_,hp | hp⟩ | ⟨k3,c,hp,_,_,ko⟩
  ·rw[hp]at e;cases e
  ·rw[hp]at e;cases e
  ·rw[hp]at e;injection e with e;have:=ko.lo;omega
 clear hm ik;try refine pO @av @dB ?_
 refine⟨⟨Nat.le_trans bf.ub.next nG.next,fun i hi hk=>(VH.ak _ _ hk).trans ((nG.hp i (by omega) (hpB i hi)).trans (bf.ub.hp i hi hk))⟩,.bm k2 0 (n+1) c2,⟨Nat.lt_of_lt_of_le bf.rd.1 nG.next,VH.an _ _ _⟩,wS.ph bl.set (by intro e;injection e;omega) (fun _ _ _ e=>by rw[dB]at e;cases e)⟩
theorem EY {O:VH} {a b c d:Nat} {K:VH->Prop} (h:K O):fZ Tryz.prog 262 [.ptr a 0,.ptr b 0,.ptr c 0,.ptr d 0] none O K:=by
 refine fZ.rec (d:=7) Tryz.func262 (Nat.lt_of_lt_of_eq (by decide:7<19) rfl) ?_;show WC _ _ ⟨19,0⟩ _ _ _ _ _;simp only[cf,Nat.zero_add,Nat.reduceAdd,zL];refine ao @dI @wi ?_;refine VL.pure (by simp) (fun _=>.inl rfl) rfl rfl (fG.Eh (bb:=true) Tryz.underlying20 rfl (.inl ⟨rfl,rfl⟩)) ?_;refine WL.sound aa ?_;refine ao @dI @wi ?_;exact h
theorem aan {O:VH} {a b c d off:Nat} {e:Int} {t:Bs} {K:VH->Prop} {x y:MV} {z1 z2 z3:MV} (ht:t.length<=1000000) (ho:off<=t.length) (ha:O.hp a=some (.cells [.str t])) (hb:O.hp b=some (.cells [x])) (hc:O.hp c=some (.cells [y])) (hd:O.hp d=some (.cells [z1,z2,z3]))
  (han:a<O.next) (Qw:b<O.next) (EB:c<O.next) (F4:d<O.next) (hbc:b≠c) (cJ:b≠d) (hcd:c≠d)
  (h:∀O',O.next<=O'.next->(∀i,i<O.next->i≠b->i≠c->i≠d->O'.hp i=O.hp i)->O'.hp b=some (.cells [.sl 0 [] .nil])->O'.hp c=some (.cells [mi e])->O'.hp d=some (.cells [mi off,mi (1+((t.take off).count 10:Nat)),mi ((off:Int) - fD (t.take off) 10 (t.take off).length)])->K O'):fZ Tryz.prog 262 [.ptr a 0,.ptr b 0,.ptr c 0,.ptr d 0] (some (Ac e off)) O K:=by
 refine fZ.rec (d:=7) Tryz.func262 (Nat.lt_of_lt_of_eq (by decide:7<19) rfl) ?_;show WC _ _ ⟨19,0⟩ _ _ _ _ _;simp only[cf,Nat.zero_add,Nat.reduceAdd,zL,Ac];refine ao @dI @wi ?_;refine VL.pure (by simp) (fun _=>.inl rfl) rfl rfl (fG.Su (bb:=false) Tryz.underlying20 rfl (.inl ⟨rfl,rfl⟩)) ?_;refine WL.sound aa ?_;refine ao @dI @wi ?_;refine VL.pure (by simp) (fun _=>.inl rfl) rfl rfl (fG.asT Tryz.underlying385 (fun _ h=>by cases h) rfl) ?_;refine WL.sound aa ?_;refine ao @dI @wi ?_;refine VC.al ?_;rintro O2 ⟨aC,ki,jB⟩;have iS:=(aC.hp _ han).trans ha;have bZ:=(aC.hp _ Qw).trans hb;have jj:=(aC.hp _ EB).trans hc;have jz:=(aC.hp _ F4).trans hd;have wQ:∀(X:bW) {i:Nat} {y:Option bW},i<O.next->O2.hp i=y->(O2.set O.next X).hp i=y:=fun X {i y} hi h=>VH.sn h
 refine VC.po [] (O.next) (ki) ?_;intro X;have lU:=wQ (.obj X) han iS;have cL:=wQ (.obj X) Qw bZ;have ff:=wQ (.obj X) EB jj;have EZ:=wQ (.obj X) F4 jz;have pX:(O2.set O.next (.obj X)).hp O.next=some (.obj X):=VH.an _ _ _;have ib:(O2.set O.next (.obj X)).next=O.next+1:=jB;have aZ:O.Ge (O2.set O.next (.obj X)):=aC.set (Nat.le_refl _) _;generalize hO4:O2.set O.next (.obj X)=O4 at*;refine ab.aw 0 ?_;refine ae @dI ?_;refine ab.sB (m:=.v (.int .i64 e)) 1 ?_ ?_
 ·exact fp @dI
 simp only[aj];refine ab.aw 3 ?_;refine ae @dI ?_;refine ab.sB (m:=.v (.int .i64 off)) 4 ?_ ?_
 ·exact fp @dI
 simp only[aj];refine ab.op (i:=2) ?_;refine ao @dI @lU ?_;refine⟨pX,?_⟩;refine ab.call (i:=5) (ae5 t off _ ht ho) ?_;rintro _ O3 ⟨rfl,aL⟩;simp only[aj];refine⟨aL.at pX,?_⟩;have iH:=aL.next;have Wd:=aL.at pX;have cc:=aL.at cL;have eR:=aL.at ff;have Ah:=aL.at EZ;have bz:O.Ge O3:=aZ.trans aL;unfold oR;simp only[ar]at h ⊢;refine ab.op (i:=6) ?_;refine ao @dI @cc ?_;refine⟨Wd,?_⟩;refine ab.op (i:=7) ?_;refine ao @dI @eR ?_;refine⟨Wd,?_⟩;refine ab.op (i:=8) ?_;refine ao @dI @Ah ?_;refine⟨Wd,?_⟩;refine ab.mO [] ?_;refine ae @dI ?_;refine h _ (by rw[VH.eJ,VH.eJ,VH.eJ,VH.eJ];exact bz.next) (fun i hi h1 h2 h3=>?_) ?_ ?_ ?_
 ·rw[VH.ak _ _ (by omega),VH.ak _ _ h3,VH.ak _ _ h2,VH.ak _ _ h1];exact bz.hp i hi
 ·rw[VH.ak _ _ (by omega),VH.ak _ _ cJ,VH.ak _ _ hbc,VH.an]
 ·rw[VH.ak _ _ (by omega),VH.ak _ _ hcd,VH.an]
 ·rw[VH.ak _ _ (by omega),VH.an]
theorem kg8 {A1 A2 A3 A4 A5 A6 A7 A8 P Q:Prop} (a1:A1) (a2:A2) (a3:A3) (a4:A4) (a5:A5) (a6:A6) (a7:A7) (a8:A8) (q:Q) (h:A1->A2->A3->A4->A5->A6->A7->A8->Q->P:=by intro a1 a2 a3 a4 a5 a6 a7 a8 q;first | (with_reducible refine VC.ag aa ?_;refine Qj a1 a2 a3 a4 a5 a6 a7 a8 q) | (with_reducible refine WC.sound aa ?_;refine Qj a1 a2 a3 a4 a5 a6 a7 a8 q) | (first | with_reducible refine QD ?_ | with_reducible refine QF ?_ | with_reducible refine QG ?_ | with_reducible refine QH ?_);refine Qj a1 a2 a3 a4 a5 a6 a7 a8 q):P:=h a1 a2 a3 a4 a5 a6 a7 a8 q
def iL (t:Bs):Nat->Nat->List Tk->Except (Int×Nat) (List Tk)
 | 0,_,l=>.ok l
 | n+1,o,l=>if t.length<=o then .ok l else match mn t o with
   | .error e=>.error e
   | .ok (x,o')=>iL t n o' (l++[x])
def tI (t:Bs):Except (Int×Nat) (List Tk):=iL t (t.length+1) 0 []
def lV (t:Bs) (o:Nat):Nat:=1+(t.take o).count 10
def E0 (t:Bs) (o:Nat):Int:=(o:Int) - fD (t.take o) 10 (t.take o).length
def tW (t:Bs) (x:Tk):List MV:=[mi x.kind,.str x.name,.sl x.attrs.length (x.attrs.flatMap a_) .au,.str x.text,mi x.off,mi (lV t x.off),mi (E0 t x.off)]
theorem wq {t:Bs} {stop:UInt8}:∀(n o:Nat) (acc:Bs) {e:Int} {p:Nat},eC t stop n o acc= .error (e,p)->p<=t.length
 | 0,o,acc,e,p,h=>by unfold eC at h;cases h
 | n+1,o,acc,e,p,h=>by
   unfold eC at h;cases hg:t[o]? with
   | none=>rw[hg]at h;cases h
   | some c=>
     have QP:o<t.length:=(List.getElem?_eq_some_iff.1 hg).1;rw[hg]at h;simp only at h;split at h
     ·cases h
     split at h
     ·split at h
      ·injection h with h;injection h with h1 h2;omega
      ·exact wq n _ _ h
     split at h
     ·injection h with h;injection h with h1 h2;omega
     ·exact wq n _ _ h
theorem yb {t:Bs} {o:Nat} {k e:Int} {p:Nat} (h:jb t o k= .error (e,p)):p=o:=by
 unfold jb at h;split at h
 ·injection h with h;injection h with h1 h2;omega
 split at h
 ·injection h with h;injection h with h1 h2;omega
 ·cases h
theorem sM {t:Bs} {o:Nat} {q:Bs} {e:Int} {p:Nat} (h:iK t o q= .error (e,p)):p=o:=by
 unfold iK at h;split at h
 ·injection h with h;injection h with h1 h2;omega
 split at h
 ·cases h
 ·injection h with h;injection h with h1 h2;omega
theorem We {t:Bs} {o:Nat} {e:Int} {p:Nat} (ho:o<=t.length) (h:tF t o= .error (e,p)):p<=t.length:=by
 unfold tF at h;split at h
 ·injection h with h;injection h with h1 h2;omega
 rename_i q hq;have QP:=(List.getElem?_eq_some_iff.1 hq).1;split at h
 ·injection h with h;injection h with h1 h2;omega
 split at h
 ·rename_i e2 h2;injection h with h;subst h
  exact wq _ _ _ h2
 rename_i s2 o2 h2;have:=nY _ _ _ (by omega) (by simp) h2;split at h
 ·injection h with h;injection h with h1 h2;omega
 ·cases h
theorem HU {t:Bs}:∀(n o:Nat) (l:List (Bs×Bs)) {e:Int} {p:Nat},o<=t.length->lp t n o l= .error (e,p)->p<=t.length
 | 0,o,l,e,p,ho,h=>by rw[lp]at h;cases h
 | n+1,o,l,e,p,ho,h=>by
   have uQ:=iV t o ho;rw[lp]at h;split at h
   ·cases h
   split at h
   ·rename_i e2 h2;injection h with h;subst h
    have:=yb h2;omega
   rename_i nm o2 h2;have hn:=gk h2;have bZ:=iV t o2 (by omega);split at h
   ·injection h with h;injection h with h1 h2;omega
   split at h
   ·rename_i e4 h4;injection h with h;subst h
    have:=sM h4;omega
   rename_i y4 o4 h4;have hw:=kZ h4;have cL:=iV t o4 (by omega);split at h
   ·rename_i e6 h6;injection h with h;subst h
    exact We cL h6
   rename_i v o6 h6;have hv:=Ag h6;exact HU n o6 _ (by omega) h
theorem vc {t:Bs} {o:Nat} {q:Bs} {e:Int} {p:Nat} (ho:o<=t.length) (h:iU t o q= .error (e,p)):p<=t.length:=by
 unfold iU at h;split at h
 ·injection h with h;injection h with h1 h2
  have h3:=nN mc (pS (t.drop o) q)
  have h4:(pS (t.drop o) q).length<=t.length - o:=by
   unfold pS;split
   ·rw[List.length_take,List.length_drop];omega
   ·rw[List.length_drop];exact Nat.le_refl _
  omega
 split at h
 ·injection h with h;injection h with h1 h2;omega
 ·cases h
theorem Wf (s p:Bs) (h:0<=Lib.index s p):Lib.index s p+p.length<=s.length:=by
 induction s with
 | nil=>
   unfold Lib.index at h ⊢;cases p with
   | nil=>simp
   | cons c p=>simp at h
 | cons b l ih=>
   have ik:=Lib.index_ge l p;unfold Lib.index at h ⊢;split
   ·rename_i h1;have:=(List.isPrefixOf_iff_prefix.1 h1).length_le;omega
   ·rename_i h1;rw[if_neg h1]at h;split
    ·rename_i h2;rw[if_pos h2]at h;omega
    ·rename_i h2;have h3:Lib.index l p≠ -1:=by simpa using h2
     have:=ih (by omega);rw[List.length_cons];omega
theorem yc {t:Bs} {o:Nat} {q s:Bs} {p:Nat} (ho:o<=t.length) (h:iU t o q= .ok (s,p)):o+q.length<=p/\p<=t.length:=by
 unfold iU at h;split at h
 ·cases h
 split at h
 ·cases h
 ·rename_i h1;injection h with h;injection h with h2 h3
  have:=Wf (t.drop o) q (by omega);rw[List.length_drop]at this;omega
theorem mo {α β :Type} {f: α -> β} {F:Except (Int×Nat) (α ×Nat)} {e:Int×Nat} (h:tG f F= .error e):F= .error e:=by
 cases F with
 | error e2=>injection h with h;rw[h]
 | ok y=>cases h
theorem jc {α β :Type} {f: α -> β} {F:Except (Int×Nat) (α ×Nat)} {x: β} {o:Nat} (h:tG f F= .ok (x,o)):∃y,F= .ok (y,o)/\x=f y:=by
 cases F with
 | error e2=>cases h
 | ok y=>obtain⟨y,o2⟩:=y;injection h with h;injection h with h1 h2;exact⟨y,by rw[h2],h1.symm⟩
theorem Wg {t:Bs} {o:Nat} {e:Int} {p:Nat} (ho:o<=t.length) (h:mn t o= .error (e,p)):p<=t.length:=by
 have hp:∀{q:Bs},dH (t.drop o) q=true->o+q.length<=t.length:=fun hq=>by
  have:=gG hq;rw[List.length_drop]at this;omega
 unfold mn at h;split at h
 ·exact vc (hp ‹_›) (mo h)
 split at h
 ·exact vc (hp ‹_›) (mo h)
 split at h
 ·rename_i h1;refine vc (hp (q:=[60,63,120,109,108]) ?_) (mo h);have:=h1.2;unfold qU at this;simp only[Bool.and_eq_true]at this;exact this.1.1
 split at h
 ·have h0:=hp ‹_›;simp only[List.length_cons,List.length_nil]at h0;unfold qw at h;split at h
  ·rename_i h2;injection h with h;subst h
   have:=yb h2;omega
  rename_i nm o2 h2;have hn:=gk h2;have bZ:=iV t o2 (by omega);have:=sM (mo h);omega
 split at h
 ·have h0:=hp ‹_›;simp only[List.length_cons,List.length_nil]at h0;unfold u9 at h;split at h
  ·rename_i h2;injection h with h;subst h
   have:=yb h2;omega
  rename_i nm o2 h2;have hn:=gk h2;split at h
  ·rename_i e3 h3;injection h with h;subst h
   exact HU _ _ _ (by omega) h3
  rename_i l o3 h3;have ha:=u_ _ _ _ (by omega) h3;split at h
  ·have h4:=gG ‹_›;simp only[List.length_drop,List.length_cons,List.length_nil]at h4;have:=sM (mo h);omega
  ·have:=sM (mo h);omega
 ·exact wq _ _ _ (mo h)
theorem QQ {t:Bs} {stop:UInt8} {n o:Nat} {acc s:Bs} {o':Nat} (ho:o<t.length) (ha:acc.length<=o) (hne:t[o]?≠some stop) (h:eC t stop (n+1) o acc= .ok (s,o')):o<o':=by
 unfold eC at h;have hg:=List.getElem?_eq_getElem ho;rw[hg]at h hne;generalize t[o]=c at*;simp only at h;split at h
 ·rename_i hc;rw[hc]at hne;exact absurd rfl hne
 split at h
 ·split at h
  ·cases h
  ·rename_i h5;obtain⟨k1,k2,k3⟩:=Ae (by simpa using h5);rw[List.length_drop]at k2;have:=nY n _ _ (by omega) (by rw[List.length_append];omega) h;omega
 split at h
 ·cases h
 ·have:=nY n _ _ (by omega) (by rw[List.length_append];simp only[List.length_cons,List.length_nil];omega) h;omega
theorem MF {t:Bs} {o:Nat} {x:Tk} {o':Nat} (ho:o<t.length) (h:mn t o= .ok (x,o')):x.off=o/\o<o'/\o'<=t.length:=by
 have hp:∀{q:Bs},dH (t.drop o) q=true->o+q.length<=t.length:=fun hq=>by
  have:=gG hq;rw[List.length_drop]at this;omega
 unfold mn at h;split at h
 ·obtain⟨y,h1,rfl⟩:=jc h;have:=yc (hp ‹_›) h1;simp only[List.length_cons,List.length_nil]at this;exact⟨rfl,by omega,by omega⟩
 split at h
 ·obtain⟨y,h1,rfl⟩:=jc h;have:=yc (hp ‹_›) h1;simp only[List.length_cons,List.length_nil]at this;exact⟨rfl,by omega,by omega⟩
 split at h
 ·rename_i h1;obtain⟨y,h2,rfl⟩:=jc h
  have:=yc (hp (q:=[60,63,120,109,108]) (by
   have:=h1.2;unfold qU at this;simp only[Bool.and_eq_true]at this;exact this.1.1)) h2
  simp only[List.length_cons,List.length_nil]at this;exact⟨rfl,by omega,by omega⟩
 split at h
 ·have h0:=hp ‹_›;simp only[List.length_cons,List.length_nil]at h0;unfold qw at h;split at h
  ·cases h
  rename_i nm o2 h2;have hn:=gk h2;have bZ:=iV t o2 (by omega);obtain⟨y,h3,rfl⟩:=jc h;have:=kZ h3;exact⟨rfl,by omega,by omega⟩
 split at h
 ·have h0:=hp ‹_›;simp only[List.length_cons,List.length_nil]at h0;unfold u9 at h;split at h
  ·cases h
  rename_i nm o2 h2;have hn:=gk h2;split at h
  ·cases h
  rename_i l o3 h3;have ha:=u_ _ _ _ (by omega) h3;split at h
  ·obtain⟨y,h4,rfl⟩:=jc h;have:=kZ h4;exact⟨rfl,by omega,by omega⟩
  ·obtain⟨y,h4,rfl⟩:=jc h;have:=kZ h4;exact⟨rfl,by omega,by omega⟩
 ·rename_i hne;obtain⟨y,h1,rfl⟩:=jc h;have h2:=nY _ _ _ (by omega) (by simp) h1;obtain⟨n,hn⟩:∃n,t.length+1 - o=n+1:=⟨t.length - o,by omega⟩
  rw[hn]at h1;refine⟨rfl,QQ ho (by simp) (fun e=>hne ?_) h1,h2.2.1⟩;unfold dH;rw[List.drop_eq_getElem_cons ho];rw[List.getElem?_eq_getElem ho]at e;injection e with e;rw[e];simp
theorem HV (s:Bs) (c:UInt8):∀n:Nat, -1<=fD s c n/\fD s c n<=n
 | 0=>by unfold fD;omega
 | n+1=>by
   have:=HV s c n;unfold fD;split<;>omega
theorem aao {A D:List MV} {n:Nat} (hA:A.length=n) {vs:List MV} {i:Nat} {v:MV} (h:vs[i]?=some v):(A++(vs++D))[n+i]?=some v:=by
 have hi:=(List.getElem?_eq_some_iff.1 h).1;rw[List.getElem?_append_right (by omega),List.getElem?_append_left (by omega),hA,Nat.add_sub_cancel_left];exact h
theorem MG {A D:List MV} {n:Nat} (hA:A.length=n) {vs:List MV} {i:Nat} {v:MV} (h:i<vs.length):(A++(vs++D)).set (n+i) v=A++(vs.set i v++D):=by
 rw[List.set_append_right _ _ (by omega),List.set_append_left _ _ (by omega),hA,Nat.add_sub_cancel_left]
theorem MH {t:Bs} {a:Nat} (h:a<t.length):lV t (a+1)=lV t a+if t[a]=10 then 1 else 0:=by
 unfold lV;rw[cQ _ _ h,List.count_append];split
 ·rename_i h1;rw[h1];simp;omega
 ·rename_i h1;rw[List.count_singleton,if_neg (by simpa using h1)];omega
theorem Row.to {O O':VH} {el:TypeId} {sz B k c:Nat} {L L' sp:List MV} (h:Row O el sz B k c L) (u:bl O (some k) O') (hc:O'.hp k=some (.cells (L'++sp))) (hl:(L'++sp).length=c*sz):Row O' el sz B k c L':=by
 obtain⟨sp0,h1,h2⟩:=h.cells;obtain⟨j,h3,h4,h5⟩:=h.nP;refine⟨⟨sp,hc,hl⟩,⟨j,h3,Nat.lt_of_lt_of_le h4 u.next,(u.hp j h4 ?_).trans h5⟩,h.lo,Nat.lt_of_lt_of_le h.hi u.next⟩;intro e;injection e with e;subst e;rw[h1]at h5;cases h5
theorem Row.aap {O:VH} {el:TypeId} {sz B k c q:Nat} {L cs:List MV} {x:bW} (h:Row O el sz B k c L) (hq:q≠k) (hc:O.hp q=some (.cells cs)):Row (O.set q x) el sz B k c L:=
 h.ph bl.set hq (fun _ _ e=>by rw[hc]at e;cases e)
theorem vd (t:Bs) (x:Tk):(tW t x).length=7:=rfl
set_option maxHeartbeats 800000 in
theorem agQ (t:Bs) (O:VH) (ht:t.length<=65536):VF Tryz.prog 244 [.str t] O (aH fun m O'=>O.Ge O'/\match tI t with
  | .ok l=>∃p,m= .tuple [p,mi 0,.agg [mi 0,mi 0,mi 0]]/\GR O' 153 7 O.next p l.length (l.flatMap (tW t))
  | .error e=>m= .tuple [.sl 0 [] .nil,mi e.1,oR t e.2]):=by
 refine VF.EI (lo:=5) (k:=77) (rs:=[.cell 2 155,.cell 3 65,.cell 4 69]) Tryz.func244 (Enters.sr (by kernel_rfl)) ?_;simp only[cf,Nat.zero_add,Nat.reduceAdd];refine ae @dI ?_;refine VC.gen ?_;rintro O1 rT;obtain⟨aU,du,cC,ct,gm,pY⟩:=QJ _ _ _ _ rT;clear rT;refine VC.ag aa (ao @dI @cC ?_);try refine gu @dI ?_
 refine⟨_,rfl,fun D=>?_⟩;refine VC.ag aa (ao @dI @cC ?_);refine VC.bx ?_;rintro O2 ⟨aC,bt,jB⟩
 replace bt:O2.hp (O.next+4)=some (.cells [.str t,mi (0:Nat),.sl 0 [] .nil]):=by rw[<-du];exact bt
 rw[du];have iS:=aC.at cC;have bZ:=aC.at ct;have jj:=aC.at gm;have jz:=aC.at pY
 replace jB:O2.next=O.next+5:=by omega
 have gE:=aU.trans aC;clear aU aC cC ct gm pY du O1;refine VC.bu [1,2,3,4,5] (fun x:List Tk×MV=>[.ptr O.next 0,.ptr (O.next+1) 0,.ptr (O.next+2) 0,.ptr (O.next+3) 0,.ptr (O.next+4) 0]) (fun x O'=>UB (O.next+5) (O.next+4) O2 O'/\Rd O' (O.next+4) t t.length x.2/\GR O' 153 7 (O.next+5) x.2 x.1.length (x.1.flatMap xZ)/\x.1.length<=t.length/\(∀y∈x.1,y.off<t.length)/\x.1.Pairwise (fun a b=>a.off<=b.off)/\tI t= .ok x.1) ?_ ?_
 ·refine VC.az ?_;refine VC.bq [] [1,2,3,4,5] (fun x:List Tk×MV×Nat=>[]) (fun x O'=>UB (O.next+5) (O.next+4) O2 O'/\Rd O' (O.next+4) t x.2.2 x.2.1/\GR O' 153 7 (O.next+5) x.2.1 x.1.length (x.1.flatMap xZ)/\x.1.length<=x.2.2/\x.2.2<=t.length/\(∀y∈x.1,y.off<x.2.2)/\x.1.Pairwise (fun a b=>a.off<=b.off)/\∃n,t.length+1 - x.2.2<=n/\tI t=iL t n x.2.2 x.1) (fun x=>t.length - x.2.2) (([],.sl 0 [] .nil,0)) ?_ ?_
  ·exact⟨UB.refl _ _ _,⟨by omega,bt⟩,.inl ⟨rfl,rfl,.inl rfl⟩,Nat.zero_le _,Nat.zero_le _,(fun y hy=>by cases hy),List.Pairwise.nil,_,Nat.le_refl _,rfl⟩
  rintro⟨l,p,o⟩ O3 ⟨Ai,hr,cH,tR,MC,kF,qR,n,hn,he⟩;dsimp only at Ai hr cH tR MC kF qR hn he;obtain⟨n,rfl⟩:∃i,n=i+1:=⟨n - 1,by omega⟩
  rw[iL]at he;repeat refine pO @dI @wd ?_
  refine ah.rt (mV hr) ?_;rintro _ O4 ⟨rfl,eO⟩;rw[eO];clear eO O4
  by_cases h1:t.length<=o
  ·rw[if_pos h1]at he;obtain rfl:o=t.length:=by omega
   rw[decide_eq_true h1];repeat refine pO @dI @wd ?_
   exact aA.mk (l,p) ⟨Ai,hr,cH,tR,kF,qR,he⟩
  rw[if_neg h1]at he;rw[decide_eq_false h1];repeat refine pO @dI @wd ?_
  have htv:=aal hr (by omega) MC (by omega:O.next+4<O.next+5) (by have:=Ai.next;omega) cH (by omega);have fl:= @MF t o;have nh:= @Wg t o;generalize mn t o=F at*;refine ah.p htv ?_ ?_
  ·rintro m O4 ⟨aaq,h4⟩;cases F with
   | error e=>exact h4.elim
   | ok y=>
   obtain⟨x,o2⟩:=y;dsimp only at h4 he;obtain⟨rfl,p2,Gt,agR⟩:=h4;obtain⟨k1,k2,k3⟩:=fl (by omega) rfl;repeat refine pO @dI @wd ?_
   refine ay.next (l++[x],p2,o2) ⟨Ai.trans aaq,Gt,?_,?_,k3,?_,?_,n,?_,he⟩ (hm:=?_)
   ·dsimp only;rw[List.length_append,List.flatMap_append,List.flatMap_singleton];exact agR
   ·dsimp only;rw[List.length_append,List.length_singleton];omega
   ·intro y hy;dsimp only at hy ⊢;rcases List.mem_append.1 hy with hy | hy
    ·have:=kF y hy;omega
    ·rw[List.mem_singleton.1 hy];omega
   ·dsimp only;rw[List.pairwise_append];exact⟨qR,List.pairwise_singleton _ _,fun a ha b hb=>by rw[List.mem_singleton.1 hb];have:=kF a ha;omega⟩
   ·dsimp only;omega
   ·dsimp only;omega
  ·rintro m O4 ⟨aaq,h4⟩;cases F with
   | ok y=>exact h4.elim
   | error e=>
   obtain⟨e,off⟩:=e;dsimp only at h4 he;subst h4;have ve:=nh MC rfl;have ye:=Ai.trans aaq;have ib:=ye.next;have lU:=(ye.hp O.next (by omega) (by omega)).trans iS;have cL:=(ye.hp (O.next+1) (by omega) (by omega)).trans bZ;have ff:=(ye.hp (O.next+2) (by omega) (by omega)).trans jj;have EZ:=(ye.hp (O.next+3) (by omega) (by omega)).trans jz;try refine pO @dI @wd ?_
   refine aan (by omega) ve lU cL ff EZ (by omega) (by omega) (by omega) (by omega) (by omega) (by omega) (by omega) ?_;intro O5 gD nH cV fA Jq;simp only[ar]at cV fA Jq;refine ia @dI @wd @cV @fA @Jq ?_;refine⟨⟨by have:=ye.next;omega,fun i hi=>?_⟩,?_⟩
   ·rw[nH i (by omega) (by omega) (by omega) (by omega),ye.hp i (by omega) (by omega)];exact gE.hp i hi
   ·rw[he];dsimp only;rfl
 rintro⟨l,p⟩ O3 ⟨Ai,hr,cH,zG,kF,qR,he⟩;dsimp only at Ai hr cH zG kF qR he;rw[he];have tX:=(Ai.hp O.next (by omega) (by omega)).trans iS;have cc:=(Ai.hp (O.next+1) (by omega) (by omega)).trans bZ;have eR:=(Ai.hp (O.next+2) (by omega) (by omega)).trans jj;have Ah:=(Ai.hp (O.next+3) (by omega) (by omega)).trans jz;have iH:=Ai.next;have eB:∀i,i<O.next->O3.hp i=O.hp i:=fun i hi=>(Ai.hp i (by omega) (by omega)).trans (gE.hp i hi)
 have dB:=hr.2;simp only[ar]at dB;rcases cH with⟨h0,hL,hp⟩ | ⟨k2,c,rfl,zF,om,ko⟩
 ·obtain rfl:l=[]:=List.eq_nil_of_length_eq_zero h0;have fin:∀{p:MV} {O5:VH},(p= .sl 0 [] .nil\/p= .sl 0 [] .full)->O.next<=O5.next->(∀i,i<O.next->O5.hp i=O.hp i)->(O.Ge O5/\∃p',MV.tuple [p,mi 0,.agg [mi 0,mi 0,mi 0]]= .tuple [p',mi 0,.agg [mi 0,mi 0,mi 0]]/\GR O5 153 7 O.next p' 0 []):=fun hp hn hh=>⟨⟨hn,hh⟩,_,rfl,.inl ⟨rfl,rfl,hp⟩⟩
  have hO:∀{x y z:bW} {i:Nat},i<O.next->((((O3.set (O.next+1) x).set (O.next+2) y).set (O.next+3) z)).hp i=O.hp i:=fun hi=>by
   rw[VH.ak _ _ (by omega),VH.ak _ _ (by omega),VH.ak _ _ (by omega)];exact eB _ hi
  rcases hp with rfl | rfl
  ·refine VC.ag aa (ao @dI @wd ?_);refine VC.bj ?_;refine VC.ag aa (aN @dI @wd @dB ?_);refine VC.az ?_;refine VC.bq [6,7,32] [1,2,3,4,5,31] (fun _:Unit=>[mi 1,mi 0,mi 0]) (fun _ O'=>O'=O3) (fun _=>0) (()) ?_ ?_
   ·exact rfl
   rintro⟨⟩ O4 eO;rw[eO];clear eO O4
   repeat refine kg6 @dI @wd @dB @cc @eR @Ah ?_
   refine EY ?_;refine ao @dI @wd ?_;exact fin (by simp) (by rw[VH.eJ,VH.eJ,VH.eJ];omega) (fun i hi=>hO hi)
  ·refine VC.ag aa (ao @dI @wd ?_);refine VC.bj ?_;refine VC.ag aa (aN @dI @wd @dB ?_);refine VC.az ?_;refine VC.bq [6,7,32] [1,2,3,4,5,31] (fun _:Unit=>[mi 1,mi 0,mi 0]) (fun _ O'=>O'=O3) (fun _=>0) (()) ?_ ?_
   ·exact rfl
   rintro⟨⟩ O4 eO;rw[eO];clear eO O4
   repeat refine kg6 @dI @wd @dB @cc @eR @Ah ?_
   refine EY ?_;refine ao @dI @wd ?_;exact fin (by simp) (by rw[VH.eJ,VH.eJ,VH.eJ];omega) (fun i hi=>hO hi)
 obtain⟨sp,hsp,Ht⟩:=ko.cells;have kU:=ko.lo;have QR:=ko.hi;refine VC.ag aa (ao @dI @wd ?_);refine VC.bj ?_;refine VC.ag aa (aN @dI @wd @dB ?_);refine VC.az ?_;refine VC.bq [6,7,32] [1,2,3,4,5,31] (fun x:Nat×Nat=>[mi (lV t x.2),mi x.2,mi x.1]) (fun x O'=>bl O3 (some k2) O'/\O'.hp k2=some (.cells ((l.take x.1).flatMap (tW t)++(l.drop x.1).flatMap xZ++sp))/\x.1<=l.length/\x.2<=t.length/\(∀y∈l.drop x.1,x.2<=y.off)) (fun x=>l.length - x.1) ((0,0)) ?_ ?_
 ·exact⟨bl.refl _ _,hsp,Nat.zero_le _,Nat.zero_le _,fun _ _=>Nat.zero_le _⟩
 rintro⟨j,a⟩ O4 ⟨e_,ff,hj,ha,xQ⟩;dsimp only at e_ ff hj ha xQ;have jl:=(e_.hp _ (by omega) (by intro e;injection e;omega)).trans dB;have Wh:=(e_.hp _ (by omega) (by intro e;injection e;omega)).trans tX;have hlj:=Nat.min_eq_left hj;by_cases AV:j<l.length;rotate_left
 ·obtain rfl:j=l.length:=by omega
  rw[List.take_length,List.drop_length,List.flatMap_nil,List.append_nil]at ff;have cL:=(e_.hp _ (by omega) (by intro e;injection e;omega)).trans cc;have ae8:=(e_.hp _ (by omega) (by intro e;injection e;omega)).trans eR;have EZ:=(e_.hp _ (by omega) (by intro e;injection e;omega)).trans Ah
  have aiC:Row O4 153 7 (O.next+5) k2 c (l.flatMap (tW t)):=ko.to e_ ff (by
   rw[List.length_append,aJ (vd t)];rw[List.length_append,om]at Ht;exact Ht)
  have ib:=e_.next
  have hO:∀{x y z:bW} {i:Nat},i<O.next->((((O4.set (O.next+1) x).set (O.next+2) y).set (O.next+3) z)).hp i=O.hp i:=fun hi=>by
   rw[VH.ak _ _ (by omega),VH.ak _ _ (by omega),VH.ak _ _ (by omega)];exact(e_.hp _ (by omega) (by intro e;injection e;omega)).trans (eB _ hi)
  repeat refine kg6 @dI @wd @jl @cL @ae8 @EZ ?_
  refine EY ?_;refine ao @dI @wd ?_;refine⟨⟨by rw[VH.eJ,VH.eJ,VH.eJ];omega,fun i hi=>hO hi⟩,_,rfl,.inr ⟨k2,c,rfl,zF,aJ (vd t) _,?_⟩⟩;exact(((aiC.aap (by omega) cL).aap (by omega) (VH.sn ae8)).aap (by omega) (VH.sn (VH.sn EZ))).wider (by omega)
 have Jn:=List.drop_eq_getElem_cons AV;have fl:(l.take (j+1))=l.take j++[l[j]]:=cQ _ _ AV;have hxo:l[j].off<t.length:=kF _ (List.getElem_mem AV);have hxa:a<=l[j].off:=xQ _ (by rw[Jn];exact List.mem_cons_self ..)
 have qh:∀y∈l.drop (j+1),l[j].off<=y.off:=by
  have:=qR.drop (i:=j);rw[Jn,List.pairwise_cons]at this;exact this.1
 rw[Jn,List.flatMap_cons]at ff;generalize hx:l[j]=x at*;have hA:((l.take j).flatMap (tW t)).length=j*7:=by rw[aJ (vd t),List.length_take,hlj]
 generalize hAe:(l.take j).flatMap (tW t)=A at*;generalize hEe:(l.drop (j+1)).flatMap xZ=E at*;refine VC.ag aa (ao @dI @wd ?_);try refine pO @dI @wd ?_
 refine VC.bj (VC.az ?_);refine VC.ag aa (ao @dI @wd ?_);refine VC.ag aa (aN @dI @wd @jl ?_);rw[List.append_assoc,List.append_assoc]at ff;have Wi:(A++(xZ x++(E++sp)))[j*7+4]?=some (.v (.int .i64 x.off)):=aao hA (vs:=xZ x) rfl
 have hCl:j*7+7<=(A++(xZ x++(E++sp))).length:=by
  rw[List.length_append,List.length_append,EX,hA];omega
 have hCs:∀(y z:MV),((A++(xZ x++(E++sp))).set (j*7+5) y).set (j*7+6) z=A++([mi x.kind,.str x.name,.sl x.attrs.length (x.attrs.flatMap a_) .au,.str x.text,mi x.off,y,z]++(E++sp)):=fun y z=>by
  rw[MG hA (by rw[EX];decide),MG hA (by rw[List.length_set,EX];decide)];rfl
 generalize A++(xZ x++(E++sp))=C at*;refine VC.bj (VC.az ?_);refine VC.bq [6,7] [1,2,3,4,5,9,31,32] (fun b:Nat=>[mi (lV t b),mi b]) (fun b O'=>O'=O4/\b<=x.off) (fun b=>x.off - b) (a) ?_ ?_
 ·exact⟨rfl,hxa⟩
 rintro b O5 ⟨eO,hb⟩;rw[eO];clear eO O5
 have akh:lV t b<=1+t.length:=by
  unfold lV;have h1:=List.count_le_length (a:=(10:UInt8)) (l:=t.take b);rw[List.length_take]at h1;omega
 by_cases eo:b<x.off
 ·have Wj:b<t.length:=by omega
  have hg:=List.getElem?_eq_getElem Wj;have Vv:=MH Wj;generalize t[b]=ch at*;generalize lV t b=ln at*;by_cases qW:ch=10
  ·rw[if_pos qW]at Vv;have e1:((ch.toNat:Int)==10)=true:=by rw[qW];rfl
   repeat refine kg8 @dI @wd @ff @Wi @Wh @hg @aG @e1 ?_
   exact ay.next (b+1) ⟨rfl,by omega⟩ (hl:=(by rw[Vv];rfl))
  ·rw[if_neg qW]at Vv;have e1:((ch.toNat:Int)==10)=false:=by simpa using fun e:(ch.toNat:Int)=10=>qW (UInt8.toNat_inj.1 (by simpa using(by omega:ch.toNat=10)))
   repeat refine kg8 @dI @wd @ff @Wi @Wh @hg @aG @e1 ?_
   exact ay.next (b+1) ⟨rfl,by omega⟩ (hl:=(by rw[Vv];rfl))
 obtain rfl:b=x.off:=by omega
 generalize ZX:lV t x.off=ln at*;repeat refine kg5 @dI @wd @ff @Wi @Wh ?_
 have hY:fD (t.take x.off) 10 (t.take x.off).length<=x.off/\ -1<=fD (t.take x.off) 10 (t.take x.off).length:=by
  have h1:=HV (t.take x.off) 10 (t.take x.off).length;rw[List.length_take,Nat.min_eq_left (by omega)]at h1 ⊢;omega
 have hlen:(t.take x.off).length<=1000000:=by rw[List.length_take];omega
 refine ah.rt (Be (t.take x.off) 10 _ hlen) ?_;rintro _ O5 ⟨rfl,eO⟩;rw[eO];clear eO O5
 have aiD:E0 t x.off=(x.off:Int) - fD (t.take x.off) 10 (t.take x.off).length:=rfl;generalize fD (t.take x.off) 10 (t.take x.off).length=lf at*;repeat refine kg3 @dI @wd @ff ?_
 refine ay.next (j+1,x.off) ⟨e_.trans (bl.set.trans bl.set),?_,AV,Nat.le_of_lt hxo,qh⟩ (hl:=(by dsimp only;rw[ZX];rfl));rw[VH.an,fl,List.flatMap_append,List.flatMap_singleton];have hC:=hCs (mi ln) (mi ((x.off:Int) - lf))
 have h7:tW t x=[mi x.kind,.str x.name,.sl x.attrs.length (x.attrs.flatMap a_) .au,.str x.text,mi x.off,mi ln,mi ((x.off:Int) - lf)]:=by
  unfold tW;rw[ZX,aiD]
 rw[hAe,hEe,h7,List.append_assoc,List.append_assoc, <-hC];rfl
set_option linter.defProp false in
def bM:=And.intro mj<|And.intro AY T9
abbrev eS:List MV:=[.v (.bool false),.str [],.str [],.str [],.str [],.str [],.str [],.str [],.sl 0 [] .nil,.sl 0 [] .nil,.sl 0 [] .nil]
theorem aar {O:VH} {a b c:Nat} {K:VH->Prop} (h:K O):fZ Tryz.prog 247 [.ptr a 0,.ptr b 0,.ptr c 0] none O K:=by
 refine fZ.rec (d:=6) Tryz.func247 (Nat.lt_of_lt_of_eq (by decide:6<17) rfl) ?_;show WC _ _ ⟨17,0⟩ _ _ _ _ _;simp only[cf,Nat.zero_add,Nat.reduceAdd,zL];refine ao @bM @wi ?_;refine VL.pure (by simp) (fun _=>.inl rfl) rfl rfl (fG.Eh (bb:=true) Tryz.underlying20 rfl (.inl ⟨rfl,rfl⟩)) ?_;refine WL.sound aa ?_;refine ao @bM @wi ?_;exact h
theorem jd {O:VH} {a b c:Nat} {e:Int} {s:Bs} {K:VH->Prop} {x0 x1 x2 x3 x4 x5 x6 x7 x8 x9 x10 y z:MV} (ha:O.hp a=some (.cells [x0,x1,x2,x3,x4,x5,x6,x7,x8,x9,x10])) (hb:O.hp b=some (.cells [y])) (hc:O.hp c=some (.cells [z]))
  (han:a<O.next) (Qw:b<O.next) (EB:c<O.next) (hab:a≠b) (hac:a≠c) (hbc:b≠c)
  (h:∀O',O.next<=O'.next->(∀i,i<O.next->i≠a->i≠b->i≠c->O'.hp i=O.hp i)->O'.hp a=some (.cells eS)->O'.hp b=some (.cells [mi e])->O'.hp c=some (.cells [.str s])->K O'):fZ Tryz.prog 247 [.ptr a 0,.ptr b 0,.ptr c 0] (some (sH e s)) O K:=by
 refine fZ.rec (d:=6) Tryz.func247 (Nat.lt_of_lt_of_eq (by decide:6<17) rfl) ?_;show WC _ _ ⟨17,0⟩ _ _ _ _ _;simp only[cf,Nat.zero_add,Nat.reduceAdd,zL,sH];refine ao @bM @wi ?_;refine VL.pure (by simp) (fun _=>.inl rfl) rfl rfl (fG.Su (bb:=false) Tryz.underlying20 rfl (.inl ⟨rfl,rfl⟩)) ?_;refine WL.sound aa ?_;refine ao @bM @wi ?_;refine VL.pure (by simp) (fun _=>.inl rfl) rfl rfl (fG.asT Tryz.underlying371 (fun _ h=>by cases h) rfl) ?_;refine WL.sound aa ?_;refine ao @bM @wi ?_;refine VC.al ?_;rintro O2 ⟨aC,ki,jB⟩;have wQ:∀(X:bW) {i:Nat} {y:Option bW},i<O.next->O.hp i=y->(O2.set O.next X).hp i=y:=fun X {i y} hi h=>VH.sn ((aC.hp _ hi).trans h)
 refine VC.po [] (O.next) (ki) ?_;intro X;have lU:=wQ (.obj X) han ha;have cL:=wQ (.obj X) Qw hb;have ff:=wQ (.obj X) EB hc;have pX:(O2.set O.next (.obj X)).hp O.next=some (.obj X):=VH.an _ _ _;have ib:(O2.set O.next (.obj X)).next=O.next+1:=jB;have aZ:O.Ge (O2.set O.next (.obj X)):=aC.set (Nat.le_refl _) _;generalize hO4:O2.set O.next (.obj X)=O4 at*;refine ab.aw 0 ?_;refine ae @bM ?_;refine ab.aw 1 ?_;refine ae @bM ?_;refine ab.sB (m:=.v (.int .i64 e)) 2 ?_ ?_
 ·exact fp @bM
 simp only[aj];refine ab.aw 3 ?_;refine ae @bM ?_;refine ab.sB (m:=.str s) 4 ?_ ?_
 ·exact fp @bM
 simp only[aj];refine ab.op (i:=5) ?_;refine ao @bM @lU ?_;refine⟨pX,?_⟩;refine ab.op (i:=6) ?_;refine ao @bM @cL ?_;refine⟨pX,?_⟩;refine ab.op (i:=7) ?_;refine ao @bM @ff ?_;refine⟨pX,?_⟩;refine ab.mO [] ?_;refine ae @bM ?_;refine h _ (by show O.next<=O4.next;omega) (fun i hi h1 h2 h3=>?_) ?_ ?_ ?_
 ·rw[VH.ak _ _ (by omega),VH.ak _ _ (by omega),VH.ak _ _ (by omega),VH.ak _ _ (by omega)];exact aZ.hp i hi
 ·rw[VH.ak _ _ (by omega),VH.ak _ _ (by omega),VH.ak _ _ (by omega)];exact VH.an _ _ _
 ·rw[VH.ak _ _ (by omega),VH.ak _ _ (by omega)];exact VH.an _ _ _
 ·rw[VH.ak _ _ (by omega)];exact VH.an _ _ _
structure vf (O:VH) (E:List MV) (O':VH) (cs:List MV):Prop where
 tY:∀i,i<O.next->O'.hp i=O.hp i
 lt:O.next+5<=O'.next
 d:O'.hp (O.next+1)=some (.cells cs)
 e:O'.hp (O.next+2)=some (.cells [mi 0])
 w:O'.hp (O.next+3)=some (.cells [.str []])
 x:O'.hp (O.next+4)=some (.cells E)
theorem vf.ge {O O' O2:VH} {E cs:List MV} (h:vf O E O' cs) (k:O'.Ge O2):vf O E O2 cs:=by
 have h1:=h.lt;exact⟨fun i hi=>(k.hp i (by omega)).trans (h.tY i hi),Nat.le_trans h1 k.next,k.at h.d,k.at h.e,k.at h.w,k.at h.x⟩
theorem vf.st {O O':VH} {E cs cs':List MV} (h:vf O E O' cs):vf O E (O'.set (O.next+1) (.cells cs')) cs':=
 ⟨fun i hi=>VH.sn (h.tY i hi),h.lt,VH.an _ _ _,VH.sn h.e,VH.sn h.w,VH.sn h.x⟩
theorem vf.other {O O' O2:VH} {E cs:List MV} {k:Nat} {x:bW} (h:vf O E O' cs) (hk:O.next+5<=k) (bt:k<O'.next) (g:(O'.set k x).Ge O2):vf O E O2 cs:=by
 have h1:=h.lt;have e1:(O'.set k x).next=O'.next:=rfl;have h4:=g.next
 have key:∀j,j<O.next+5->O2.hp j=O'.hp j:=fun j hj=>by
  rw[g.hp j (by omega),VH.ak _ _ (by omega)]
 exact⟨fun i hi=>(key i (by omega)).trans (h.tY i hi),by omega,(key _ (by omega)).trans h.d,(key _ (by omega)).trans h.e,(key _ (by omega)).trans h.w,(key _ (by omega)).trans h.x⟩
theorem vf.aiE {O O':VH} {E cs:List MV} {k:Nat} {x:bW} (h:vf O E O' cs) (hk:O.next+5<=k):vf O E (O'.set k x) cs:=
 ⟨fun i hi=>VH.sn (h.tY i hi),h.lt,VH.sn h.d,VH.sn h.e,VH.sn h.w,VH.sn h.x⟩
theorem VC.rs {P:Program} {n:Sz} {D:List Deferred} {c:Code} {e:Env} {Q:VQ} {O O':VH} {E cs cs':List MV} (h:vf O E O' cs) (k:∀O3,vf O E O3 cs'->VC P n D c e O3 Q):VC P n D c e (O'.set (O.next+1) (.cells cs')) Q:=k _ h.st
def vg (x:Nd) (w:Bs):Except (Int×Bs) (List Dp):=
 match b_ x w rK with
 | .error e=>.error e
 | .ok ((_,_),false)=>.ok []
 | .ok ((y,wy),true)=>lE y wy true
def vh (x:Nd) (w:Bs):Except (Int×Bs) (Bool×Gv):=
 match b_ x w uR with
 | .error e=>.error e
 | .ok ((_,_),false)=>.ok (false,⟨[],[],[]⟩)
 | .ok ((y,wy),true)=>match bK y wy dQ true eP with
   | .error e=>.error e
   | .ok g=>match bK y wy dF true eP with
     | .error e=>.error e
     | .ok a=>match bK y wy fj true uP with
       | .error e=>.error e
       | .ok v=>.ok (true,⟨g,a,v⟩)
def ox (x:Nd):Except (Int×Bs) Pm:=
 bif x.nm==gq then match vh x x.nm with
  | .error e=>.error e
  | .ok p=>match bK x x.nm dQ false dC with
  | .error e=>.error e
  | .ok g=>match bK x x.nm dF true dC with
  | .error e=>.error e
  | .ok a=>match bK x x.nm fj false dC with
  | .error e=>.error e
  | .ok v=>match bK x x.nm xg false dC with
  | .error e=>.error e
  | .ok k=>match kX x x.nm with
  | .error e=>.error e
  | .ok P=>match vg x x.nm with
  | .error e=>.error e
  | .ok M=>match lE x x.nm false with
  | .error e=>.error e
  | .ok D=>.ok ⟨p.1,p.2,g,a,v,k,P,M,D⟩
 else .error (20,x.nm)
def Aj:Pm:=⟨false,⟨[],[],[]⟩,[],[],[],[],[],[],[]⟩
theorem adG (x:Nd) (O:VH) (hx:kj x<=1000000):VF Tryz.prog 225 [.agg (c_ x)] O (aH fun m O'=>O.Ge O'/\match ox x with
  | .ok p=>m= .tuple [.agg (gh p),mi 0,.str []]
  | .error e=>m= .tuple [.agg (gh Aj),mi e.1,.str e.2]):=by
 refine VF.fg ?_;obtain⟨zn,za,cM,zt⟩:=x;have qR:=pK (.mk zn za cM zt) zn;have hfp:=rO (.mk zn za cM zt) zn uR;have hfm:=rO (.mk zn za cM zt) zn rK;have hpr:=Z4 (.mk zn za cM zt) zn;have tU:=SO (.mk zn za cM zt) zn false;obtain⟨PE,hP⟩:∃PE,ox (.mk zn za cM zt)=PE:=⟨_,rfl⟩
 rw[hP];unfold ox at hP;simp only[kh,c_,List.cons_append,List.nil_append]at qR hfp hfm hpr tU ⊢;simp only[Nd.nm]at hP;refine VF.deferred (lo:=5) (k:=64) (rs:=[.cell 2 106,.cell 3 65,.cell 4 9]) Tryz.func225 (Enters.sr (by kernel_rfl)) ?_;simp only[cf,Nat.zero_add,Nat.reduceAdd];refine ae @bM ?_;refine⟨_,rfl,fun D=>?_⟩;refine VC.gen ?_;rintro O1 rT;obtain⟨aU,du,cC,ct,gm,pY⟩:=QJ _ _ _ _ rT;clear rT;refine VC.ag aa (aN @bM @wd @cC ?_);refine VC.al ?_;rintro O2 ⟨aC,bt,jB⟩;rw[du]at bt ⊢
 have hd:vf O [.str zn,.sl za.length (za.flatMap a_) .au,.sl cM.length (aB cM) .au,.str zt,.str zn] O2 eS:=
  ⟨fun i hi=>aC.at (aU.hp i hi),by omega,aC.at ct,aC.at gm,aC.at pY,bt⟩
 have se:=aC.at cC;clear aU aC du jB bt cC ct gm pY O1;cases hb:zn==gq
 ·rw[hb,cond_false]at hP;rw[<-hP];have mz:(zn != [112,114,111,106,101,99,116])=true:=by rw[bne];simp only[gq]at hb;rw[hb];rfl
  simp only[gq]at hb;refine VC.ag aa (ia @bM @wd @se @hb @mz ?_);refine ah.p (lK _ _ _) ?_ ?_
  ·rintro m O9 ⟨_,h⟩;exact h.elim
  rintro m O9 ⟨rfl,rfl⟩;refine ao @bM @wd ?_;refine jd hd.d hd.e hd.w (by have:=hd.lt;omega) (by have:=hd.lt;omega) (by have:=hd.lt;omega) (by omega) (by omega) (by omega) ?_;intro O5 gD nH ft cV fA;simp only[ar]at cV;refine ia @bM @wd @ft @cV @fA ?_;exact⟨⟨by have:=hd.lt;omega,fun i hi=>by rw[nH i (by have:=hd.lt;omega) (by omega) (by omega) (by omega)];exact hd.tY i hi⟩,rfl⟩
 rw[hb,cond_true]at hP;have hw:zn.length<=10000:=by rw[eq_of_beq hb];decide
 have hw3:zn.length<=3000:=by rw[eq_of_beq hb];decide
 have mz:(zn != [112,114,111,106,101,99,116])=false:=by rw[bne];simp only[gq]at hb;rw[hb];rfl
 simp only[gq]at hb;refine VC.ag aa (ia @bM @wd @se @hb @mz ?_);clear hb mz se;refine VC.bu [1,2,3,4,5] (fun _:Bool×Gv=>[.ptr O.next 0,.ptr (O.next+1) 0,.ptr (O.next+2) 0,.ptr (O.next+3) 0,.ptr (O.next+4) 0]) (fun p O'=>vf O [.str zn,.sl za.length (za.flatMap a_) .au,.sl cM.length (aB cM) .au,.str zt,.str zn] O' [mb p.1,.str p.2.g,.str p.2.a,.str p.2.v,.str [],.str [],.str [],.str [],.sl 0 [] .nil,.sl 0 [] .nil,.sl 0 [] .nil]/\vh (.mk zn za cM zt) zn= .ok p) ?_ ?_
 ·have uU:= @rQ (.mk zn za cM zt) zn uR;have uV:∀e,b_ (.mk zn za cM zt) zn uR= .error e->vh (.mk zn za cM zt) zn= .error e:=fun e h=>by unfold vh;rw[h]
  have nD:∀y wy,b_ (.mk zn za cM zt) zn uR= .ok ((y,wy),false)->vh (.mk zn za cM zt) zn= .ok (false,⟨[],[],[]⟩):=fun y wy h=>by unfold vh;rw[h]
  have iJ:∀y wy,b_ (.mk zn za cM zt) zn uR= .ok ((y,wy),true)->vh (.mk zn za cM zt) zn=match bK y wy dQ true eP with
   | .error e=>.error e
   | .ok g=>match bK y wy dF true eP with
     | .error e=>.error e
     | .ok a=>match bK y wy fj true uP with
       | .error e=>.error e
       | .ok v=>.ok (true,⟨g,a,v⟩):=fun y wy h=>by unfold vh;rw[h]
  generalize vh (.mk zn za cM zt) zn=QE at*;generalize b_ (.mk zn za cM zt) zn uR=F at*;have eo:=hd.x;refine VC.ag aa (aN @bM @wd @eo ?_);refine ah.p (hfp O2 (by have:=jU (.mk zn za cM zt);omega) (by omega) (by decide)) ?_ ?_;rotate_left
  ·rintro m O9 ⟨bk,h⟩;have bC:=hd.ge bk;cases F with
   | ok y=>exact h.elim
   | error e=>
     dsimp only at h;rw[uV e rfl]at hP;dsimp only at hP;rw[h, <-hP];refine ao @bM @wd ?_;refine jd bC.d bC.e bC.w (by have:=bC.lt;omega) (by have:=bC.lt;omega) (by have:=bC.lt;omega) (by omega) (by omega) (by omega) ?_;intro O5 gD nH ft cV fA;simp only[ar]at cV;refine ia @bM @wd @ft @cV @fA ?_;exact⟨⟨by have:=bC.lt;omega,fun i hi=>by rw[nH i (by have:=bC.lt;omega) (by omega) (by omega) (by omega)];exact bC.tY i hi⟩,rfl⟩
  rintro m O3 ⟨aL,h⟩;cases F with
  | error e=>exact h.elim
  | ok y=>
  obtain⟨⟨y,wy⟩,b⟩:=y;dsimp only at h;subst h;obtain⟨Z1,uW⟩:=uU rfl;have nW:wy.length<=10000:=by rw[uW];simp only[List.length_append,List.length_cons,List.length_nil];omega
  have hyX:kj y<=1000000:=by omega
  clear uU uW uV
  replace iJ:=fun h:b=true=>by subst h;exact iJ y wy rfl
  replace nD:b=false->QE= .ok (false,⟨[],[],[]⟩):=fun h=>by subst h;exact nD y wy rfl
  have nv:=fun O'=>pK y wy dQ true eP 83 [] O' hyX nW (by decide) (by kernel_rfl) (fun s lD _ hs=>sE s lD (by simp only[maxLen];omega))
  have qI:=fun O'=>pK y wy dF true eP 83 [] O' hyX nW (by decide) (by kernel_rfl) (fun s lD _ hs=>sE s lD (by simp only[maxLen];omega))
  have oy:=fun O'=>pK y wy fj true uP 84 [] O' hyX nW (by decide) (by kernel_rfl) (fun s lD _ hs=>Qo s lD (by simp only[maxLen];omega))
  generalize bK y wy dQ true eP=W1 at*;generalize bK y wy dF true eP=W2 at*;generalize bK y wy fj true uP=W3 at*;obtain⟨yn,ya,yk,yt⟩:=y;simp only[kh,c_,List.cons_append,List.nil_append]at nv qI oy ⊢;have cc:=hd.ge aL;have mZ:=cc.lt;refine ao @bM @wd ?_;refine VC.al ?_;rintro O4 ⟨aZ,jl,ib⟩;have cL:=cc.ge aZ;clear hd cc aL aZ eo;cases b
  ·rw[nD rfl]at hP ⊢;refine WC.sound aa (ao @bM @wd ?_);exact aA.mk (false,⟨[],[],[]⟩) ⟨cL,rfl⟩
  replace iJ:=iJ rfl
  clear nD;have cJ:=cL.d;refine VC.ag aa (ao @bM @wd ?_);refine WC.sound aa (aN @bM @wd @cJ ?_);have hbs:=cL.st (cs':=[.v (.bool true),.str [],.str [],.str [],.str [],.str [],.str [],.str [],.sl 0 [] .nil,.sl 0 [] .nil,.sl 0 [] .nil]);have hks:=(VH.ak O4 (.cells [.v (.bool true),.str [],.str [],.str [],.str [],.str [],.str [],.str [],.sl 0 [] .nil,.sl 0 [] .nil,.sl 0 [] .nil]) (by omega:O3.next≠O.next+1)).trans jl;have gD:(O4.set (O.next+1) (.cells [.v (.bool true),.str [],.str [],.str [],.str [],.str [],.str [],.str [],.sl 0 [] .nil,.sl 0 [] .nil,.sl 0 [] .nil])).next=O4.next:=rfl;clear cJ cL jl;generalize O4.set (O.next+1) (.cells [.v (.bool true),.str [],.str [],.str [],.str [],.str [],.str [],.str [],.sl 0 [] .nil,.sl 0 [] .nil,.sl 0 [] .nil])=O5 at*;refine VC.po [7,8] (O3.next) (hks) ?_;intro X;refine ab.sB (m:=.agg [.str yn,.sl ya.length (ya.flatMap a_) .au,.sl yk.length (aB yk) .au,.str yt,.str wy]) 0 ?_ ?_
  ·exact fp @bM
  simp only[aj];refine ab.sB (m:=.agg [.str yn,.sl ya.length (ya.flatMap a_) .au,.sl yk.length (aB yk) .au,.str yt,.str wy]) 2 ?_ ?_
  ·exact fp @bM
  simp only[aj];refine ab.sB (m:=.agg [.str yn,.sl ya.length (ya.flatMap a_) .au,.sl yk.length (aB yk) .au,.str yt,.str wy]) 4 ?_ ?_
  ·exact fp @bM
  simp only[aj];have Gr:=fun(O9:VH) (g:(O5.set O3.next (.obj X)).Ge O9)=>hbs.other (k:=O3.next) (x:=.obj X) (by omega) (by omega) g
  have fq:∀O9,(O5.set O3.next (.obj X)).Ge O9->O9.hp O3.next=some (.obj X):=fun O9 g=>(g.hp _ (by show O3.next<O5.next;omega)).trans (VH.an _ _ _)
  generalize O5.set O3.next (.obj X)=O6 at*;have hG:=VH.Ge.refl O6;refine ab.pM (i:=1) (nv O6) ?_ ?_;rotate_left
  ·rintro m O9 ⟨bk,h⟩;cases W1 with
   | ok s=>exact h.elim
   | error e=>
     dsimp only at h iJ;rw[iJ]at hP;dsimp only at hP;rw[h, <-hP];have bC:=Gr _ (hG.trans bk);refine ao @bM @wd ?_;refine jd bC.d bC.e bC.w (by have:=bC.lt;omega) (by have:=bC.lt;omega) (by have:=bC.lt;omega) (by omega) (by omega) (by omega) ?_;intro O5 gD nH ft cV fA;simp only[ar]at cV;refine ia @bM @wd @ft @cV @fA ?_;exact⟨⟨by have:=bC.lt;omega,fun i hi=>by rw[nH i (by have:=bC.lt;omega) (by omega) (by omega) (by omega)];exact bC.tY i hi⟩,rfl⟩
  rintro m O7 ⟨bk,h⟩;cases W1 with
  | error e=>exact h.elim
  | ok sg=>
  dsimp only at h iJ;subst h;simp only[aj]
  replace hG:=hG.trans bk
  clear bk;refine⟨fq _ hG,?_⟩;refine ab.pM (i:=3) (qI O7) ?_ ?_;rotate_left
  ·rintro m O9 ⟨bk,h⟩;cases W2 with
   | ok s=>exact h.elim
   | error e=>
     dsimp only at h iJ;rw[iJ]at hP;dsimp only at hP;rw[h, <-hP];have bC:=Gr _ (hG.trans bk);refine ao @bM @wd ?_;refine jd bC.d bC.e bC.w (by have:=bC.lt;omega) (by have:=bC.lt;omega) (by have:=bC.lt;omega) (by omega) (by omega) (by omega) ?_;intro O5 gD nH ft cV fA;simp only[ar]at cV;refine ia @bM @wd @ft @cV @fA ?_;exact⟨⟨by have:=bC.lt;omega,fun i hi=>by rw[nH i (by have:=bC.lt;omega) (by omega) (by omega) (by omega)];exact bC.tY i hi⟩,rfl⟩
  rintro m O8 ⟨bk,h⟩;cases W2 with
  | error e=>exact h.elim
  | ok sa=>
  dsimp only at h iJ;subst h;simp only[aj]
  replace hG:=hG.trans bk
  clear bk;refine⟨fq _ hG,?_⟩;refine ab.pM (i:=5) (oy O8) ?_ ?_;rotate_left
  ·rintro m O9 ⟨bk,h⟩;cases W3 with
   | ok s=>exact h.elim
   | error e=>
     dsimp only at h iJ;rw[iJ]at hP;dsimp only at hP;rw[h, <-hP];have bC:=Gr _ (hG.trans bk);refine ao @bM @wd ?_;refine jd bC.d bC.e bC.w (by have:=bC.lt;omega) (by have:=bC.lt;omega) (by have:=bC.lt;omega) (by omega) (by omega) (by omega) ?_;intro O5 gD nH ft cV fA;simp only[ar]at cV;refine ia @bM @wd @ft @cV @fA ?_;exact⟨⟨by have:=bC.lt;omega,fun i hi=>by rw[nH i (by have:=bC.lt;omega) (by omega) (by omega) (by omega)];exact bC.tY i hi⟩,rfl⟩
  rintro m OF ⟨bk,h⟩;cases W3 with
  | error e=>exact h.elim
  | ok sv=>
  dsimp only at h iJ;subst h;simp only[aj]
  replace hG:=hG.trans bk
  clear bk;refine⟨fq _ hG,?_⟩;refine ab.aw 6 ?_;refine ae @bM ?_;refine ab.mO [(7,.aw),(8,.one)] ?_;have bC:=(Gr _ hG).aiE (k:=O3.next) (x:=.cells [.str yn,.sl ya.length (ya.flatMap a_) .au,.sl yk.length (aB yk) .au,.str yt,.str wy]) (by omega);have cJ:=(Gr _ hG).d;have ae9:=bC.st (cs':=[mb true,.str sg,.str sa,.str sv,.str [],.str [],.str [],.str [],.sl 0 [] .nil,.sl 0 [] .nil,.sl 0 [] .nil]);simp only[aY]at ae9;refine aN @bM @wd @cJ ?_;exact aA.mk (true,⟨sg,sa,sv⟩) ⟨ae9,iJ⟩
 rintro p O3 ⟨hd,hQ⟩;rw[hQ]at hP;dsimp only at hP;clear hQ hfp;have eo:=hd.x;have cJ:=hd.d;refine VC.ag aa (aN @bM @wd @eo ?_);refine ah.p (qR dQ false dC 251 [] _ hx hw (by decide) (by kernel_rfl) (fun s O' _ _=>sK s O')) ?_ ?_;rotate_left
 ·rintro m O9 ⟨bk,h⟩;have bC:=hd.ge bk;cases hF:bK (.mk zn za cM zt) zn dQ false dC with
  | ok s=>rw[hF]at h;exact h.elim
  | error e=>
    rw[hF]at h hP;dsimp only at h hP;rw[h, <-hP];refine ao @bM @wd ?_;refine jd bC.d bC.e bC.w (by have:=bC.lt;omega) (by have:=bC.lt;omega) (by have:=bC.lt;omega) (by omega) (by omega) (by omega) ?_;intro O5 gD nH ft cV fA;simp only[ar]at cV;refine ia @bM @wd @ft @cV @fA ?_;exact⟨⟨by have:=bC.lt;omega,fun i hi=>by rw[nH i (by have:=bC.lt;omega) (by omega) (by omega) (by omega)];exact bC.tY i hi⟩,rfl⟩
 rintro m O4 ⟨bk,h⟩;cases QM:bK (.mk zn za cM zt) zn dQ false dC with
 | error e=>rw[QM]at h;exact h.elim
 | ok s1=>
 rw[QM]at h hP;dsimp only at h hP;subst h;have hb:=hd.ge bk;clear bk hd;have cJ:=hb.d;refine aN @bM @wd @cJ ?_;refine VC.rs hb ?_;clear eo cJ hb;intro _ hd;have eo:=hd.x;have cJ:=hd.d;refine VC.ag aa (aN @bM @wd @eo ?_);refine ah.p (qR dF true dC 251 [] _ hx hw (by decide) (by kernel_rfl) (fun s O' _ _=>sK s O')) ?_ ?_;rotate_left
 ·rintro m O9 ⟨bk,h⟩;have bC:=hd.ge bk;cases hF:bK (.mk zn za cM zt) zn dF true dC with
  | ok s=>rw[hF]at h;exact h.elim
  | error e=>
    rw[hF]at h hP;dsimp only at h hP;rw[h, <-hP];refine ao @bM @wd ?_;refine jd bC.d bC.e bC.w (by have:=bC.lt;omega) (by have:=bC.lt;omega) (by have:=bC.lt;omega) (by omega) (by omega) (by omega) ?_;intro O5 gD nH ft cV fA;simp only[ar]at cV;refine ia @bM @wd @ft @cV @fA ?_;exact⟨⟨by have:=bC.lt;omega,fun i hi=>by rw[nH i (by have:=bC.lt;omega) (by omega) (by omega) (by omega)];exact bC.tY i hi⟩,rfl⟩
 rintro m O5 ⟨bk,h⟩;cases Jl:bK (.mk zn za cM zt) zn dF true dC with
 | error e=>rw[Jl]at h;exact h.elim
 | ok s2=>
 rw[Jl]at h hP;dsimp only at h hP;subst h;have hb:=hd.ge bk;clear bk hd;have cJ:=hb.d;refine aN @bM @wd @cJ ?_;refine VC.rs hb ?_;clear eo cJ hb;intro _ hd;have eo:=hd.x;have cJ:=hd.d;refine VC.ag aa (aN @bM @wd @eo ?_);refine ah.p (qR fj false dC 251 [] _ hx hw (by decide) (by kernel_rfl) (fun s O' _ _=>sK s O')) ?_ ?_;rotate_left
 ·rintro m O9 ⟨bk,h⟩;have bC:=hd.ge bk;cases hF:bK (.mk zn za cM zt) zn fj false dC with
  | ok s=>rw[hF]at h;exact h.elim
  | error e=>
    rw[hF]at h hP;dsimp only at h hP;rw[h, <-hP];refine ao @bM @wd ?_;refine jd bC.d bC.e bC.w (by have:=bC.lt;omega) (by have:=bC.lt;omega) (by have:=bC.lt;omega) (by omega) (by omega) (by omega) ?_;intro O5 gD nH ft cV fA;simp only[ar]at cV;refine ia @bM @wd @ft @cV @fA ?_;exact⟨⟨by have:=bC.lt;omega,fun i hi=>by rw[nH i (by have:=bC.lt;omega) (by omega) (by omega) (by omega)];exact bC.tY i hi⟩,rfl⟩
 rintro m O6 ⟨bk,h⟩;cases QN:bK (.mk zn za cM zt) zn fj false dC with
 | error e=>rw[QN]at h;exact h.elim
 | ok s3=>
 rw[QN]at h hP;dsimp only at h hP;subst h;have hb:=hd.ge bk;clear bk hd;have cJ:=hb.d;refine aN @bM @wd @cJ ?_;refine VC.rs hb ?_;clear eo cJ hb;intro _ hd;have eo:=hd.x;have cJ:=hd.d;refine VC.ag aa (aN @bM @wd @eo ?_);refine ah.p (qR xg false dC 251 [] _ hx hw (by decide) (by kernel_rfl) (fun s O' _ _=>sK s O')) ?_ ?_;rotate_left
 ·rintro m O9 ⟨bk,h⟩;have bC:=hd.ge bk;cases hF:bK (.mk zn za cM zt) zn xg false dC with
  | ok s=>rw[hF]at h;exact h.elim
  | error e=>
    rw[hF]at h hP;dsimp only at h hP;rw[h, <-hP];refine ao @bM @wd ?_;refine jd bC.d bC.e bC.w (by have:=bC.lt;omega) (by have:=bC.lt;omega) (by have:=bC.lt;omega) (by omega) (by omega) (by omega) ?_;intro O5 gD nH ft cV fA;simp only[ar]at cV;refine ia @bM @wd @ft @cV @fA ?_;exact⟨⟨by have:=bC.lt;omega,fun i hi=>by rw[nH i (by have:=bC.lt;omega) (by omega) (by omega) (by omega)];exact bC.tY i hi⟩,rfl⟩
 rintro m O7 ⟨bk,h⟩;cases Z_:bK (.mk zn za cM zt) zn xg false dC with
 | error e=>rw[Z_]at h;exact h.elim
 | ok s4=>
 rw[Z_]at h hP;dsimp only at h hP;subst h;have hb:=hd.ge bk;clear bk hd;have cJ:=hb.d;refine aN @bM @wd @cJ ?_;refine VC.rs hb ?_;clear eo cJ hb;intro _ hd;have eo:=hd.x;have cJ:=hd.d;refine VC.ag aa (aN @bM @wd @eo ?_);refine ah.p (hpr _ hx hw) ?_ ?_;rotate_left
 ·rintro m O9 ⟨bk,h⟩;have bC:=hd.ge bk;cases hF:kX (.mk zn za cM zt) zn with
  | ok s=>rw[hF]at h;exact h.elim
  | error e=>
    rw[hF]at h hP;dsimp only at h hP;rw[h, <-hP];refine ao @bM @wd ?_;refine jd bC.d bC.e bC.w (by have:=bC.lt;omega) (by have:=bC.lt;omega) (by have:=bC.lt;omega) (by omega) (by omega) (by omega) ?_;intro O5 gD nH ft cV fA;simp only[ar]at cV;refine ia @bM @wd @ft @cV @fA ?_;exact⟨⟨by have:=bC.lt;omega,fun i hi=>by rw[nH i (by have:=bC.lt;omega) (by omega) (by omega) (by omega)];exact bC.tY i hi⟩,rfl⟩
 rintro m O8 ⟨bk,h⟩;cases hFP:kX (.mk zn za cM zt) zn with
 | error e=>rw[hFP]at h;exact h.elim
 | ok P=>
 rw[hFP]at h hP;dsimp only at h hP;have hb:=hd.ge bk;clear bk hd;have cJ:=hb.d;obtain⟨tP,rfl⟩:=h;refine aN @bM @wd @cJ ?_;refine VC.rs hb ?_;clear eo cJ hb;intro O9 hd;refine VC.bu [1,2,3,4,5] (fun _:List Dp×Tok=>[.ptr O.next 0,.ptr (O.next+1) 0,.ptr (O.next+2) 0,.ptr (O.next+3) 0,.ptr (O.next+4) 0]) (fun x O'=>vf O [.str zn,.sl za.length (za.flatMap a_) .au,.sl cM.length (aB cM) .au,.str zt,.str zn] O' [mb p.1,.str p.2.g,.str p.2.a,.str p.2.v,.str s1,.str s2,.str s3,.str s4,.sl P.length (P.flatMap a_) tP,.sl x.1.length (x.1.flatMap aQ) x.2,.sl 0 [] .nil]/\vg (.mk zn za cM zt) zn= .ok x.1) ?_ ?_
 ·have uU:= @rQ (.mk zn za cM zt) zn rK;have uV:∀e,b_ (.mk zn za cM zt) zn rK= .error e->vg (.mk zn za cM zt) zn= .error e:=fun e h=>by unfold vg;rw[h]
  have nD:∀y wy,b_ (.mk zn za cM zt) zn rK= .ok ((y,wy),false)->vg (.mk zn za cM zt) zn= .ok []:=fun y wy h=>by unfold vg;rw[h]
  have iJ:∀y wy,b_ (.mk zn za cM zt) zn rK= .ok ((y,wy),true)->vg (.mk zn za cM zt) zn=lE y wy true:=fun y wy h=>by unfold vg;rw[h]
  generalize vg (.mk zn za cM zt) zn=QE at*;generalize b_ (.mk zn za cM zt) zn rK=F at*;have eo:=hd.x;have cJ:=hd.d;refine VC.ag aa (aN @bM @wd @eo ?_);refine ah.p (hfm _ (by have:=jU (.mk zn za cM zt);omega) (by omega) (by decide)) ?_ ?_;rotate_left
  ·rintro m O9 ⟨bk,h⟩;have bC:=hd.ge bk;cases F with
   | ok y=>exact h.elim
   | error e=>
     dsimp only at h;rw[uV e rfl]at hP;dsimp only at hP;rw[h, <-hP];refine ao @bM @wd ?_;refine jd bC.d bC.e bC.w (by have:=bC.lt;omega) (by have:=bC.lt;omega) (by have:=bC.lt;omega) (by omega) (by omega) (by omega) ?_;intro O5 gD nH ft cV fA;simp only[ar]at cV;refine ia @bM @wd @ft @cV @fA ?_;exact⟨⟨by have:=bC.lt;omega,fun i hi=>by rw[nH i (by have:=bC.lt;omega) (by omega) (by omega) (by omega)];exact bC.tY i hi⟩,rfl⟩
  rintro m O3 ⟨aL,h⟩;cases F with
  | error e=>exact h.elim
  | ok y=>
  obtain⟨⟨y,wy⟩,b⟩:=y;dsimp only at h;subst h;obtain⟨Z1,uW⟩:=uU rfl;have nW:wy.length<=4000:=by rw[uW];simp only[List.length_append,List.length_cons,List.length_nil];omega
  have hyX:kj y<=1000000:=by omega
  clear uU uW uV
  replace iJ:=fun h:b=true=>by subst h;exact iJ y wy rfl
  replace nD:b=false->QE= .ok []:=fun h=>by subst h;exact nD y wy rfl
  have nv:=fun O'=>SO y wy true O' hyX nW
  generalize lE y wy true=W1 at*;obtain⟨yn,ya,yk,yt⟩:=y;simp only[kh,c_,List.cons_append,List.nil_append]at nv ⊢;have cc:=hd.ge aL;have mZ:=cc.lt;refine ao @bM @wd ?_;refine VC.al ?_;rintro O4 ⟨aZ,jl,ib⟩;have cL:=cc.ge aZ;clear hd cc aL aZ eo;cases b
  ·rw[nD rfl]at hP ⊢;refine WC.sound aa (ao @bM @wd ?_);exact aA.mk ([],.nil) ⟨cL,rfl⟩
  replace iJ:=iJ rfl
  clear nD;subst iJ;refine VC.ag aa (ao @bM @wd ?_);refine WC.sound aa (aN @bM @wd @jl ?_);refine ah.p (nv O4) ?_ ?_;rotate_left
  ·rintro m O9 ⟨bk,h⟩;have bC:=cL.ge bk;cases QE with
   | ok s=>exact h.elim
   | error e=>
     dsimp only at h hP;rw[h, <-hP];refine ao @bM @wd ?_;refine jd bC.d bC.e bC.w (by have:=bC.lt;omega) (by have:=bC.lt;omega) (by have:=bC.lt;omega) (by omega) (by omega) (by omega) ?_;intro O5 gD nH ft cV fA;simp only[ar]at cV;refine ia @bM @wd @ft @cV @fA ?_;exact⟨⟨by have:=bC.lt;omega,fun i hi=>by rw[nH i (by have:=bC.lt;omega) (by omega) (by omega) (by omega)];exact bC.tY i hi⟩,rfl⟩
  rintro m O5 ⟨bz,h⟩;cases QE with
  | error e=>exact h.elim
  | ok M=>
  dsimp only at h;obtain⟨tM,rfl⟩:=h;have cV:=cL.ge bz;have cJ:=cV.d;have hbs:=cV.st (cs':=[mb p.1,.str p.2.g,.str p.2.a,.str p.2.v,.str s1,.str s2,.str s3,.str s4,.sl P.length (P.flatMap a_) tP,.sl M.length (M.flatMap aQ) tM,.sl 0 [] .nil]);simp only[aY]at hbs cJ;refine aN @bM @wd @cJ ?_;exact aA.mk (M,tM) ⟨hbs,rfl⟩
 rintro⟨M,tM⟩ OA ⟨hd,hM⟩;rw[hM]at hP;dsimp only at hP hd;have eo:=hd.x;refine VC.ag aa (aN @bM @wd @eo ?_);refine ah.p (tU _ hx (by omega)) ?_ ?_;rotate_left
 ·rintro m O9 ⟨bk,h⟩;have bC:=hd.ge bk;cases hF:lE (.mk zn za cM zt) zn false with
  | ok s=>rw[hF]at h;exact h.elim
  | error e=>
    rw[hF]at h hP;dsimp only at h hP;rw[h, <-hP];refine ao @bM @wd ?_;refine jd bC.d bC.e bC.w (by have:=bC.lt;omega) (by have:=bC.lt;omega) (by have:=bC.lt;omega) (by omega) (by omega) (by omega) ?_;intro O5 gD nH ft cV fA;simp only[ar]at cV;refine ia @bM @wd @ft @cV @fA ?_;exact⟨⟨by have:=bC.lt;omega,fun i hi=>by rw[nH i (by have:=bC.lt;omega) (by omega) (by omega) (by omega)];exact bC.tY i hi⟩,rfl⟩
 rintro m OB ⟨bk,h⟩;cases ae_:lE (.mk zn za cM zt) zn false with
 | error e=>rw[ae_]at h;exact h.elim
 | ok DD=>
 rw[ae_]at h hP;dsimp only at h hP;have hb:=hd.ge bk;clear bk hd;have cJ:=hb.d;obtain⟨tD,rfl⟩:=h;simp only[aY]at cJ;refine aN @bM @wd @cJ ?_;rw[<-hP];refine VC.rs hb ?_;clear eo cJ hb;intro O9 hd;have cJ:=hd.d;have hbe:=hd.e;have hbw:=hd.w;have hl9:=hd.lt;simp only[ar]at hbe;refine VC.ag aa (ia @bM @wd @cJ @hbe @hbw ?_);refine WC.sound aa (ao @bM @wd ?_);refine aar ?_;refine ia @bM @wd @cJ @hbe @hbw ?_;refine⟨⟨by show O.next<=O9.next;omega,fun i hi=>?_⟩,?_⟩
 ·rw[VH.ak _ _ (by omega),VH.ak _ _ (by omega),VH.ak _ _ (by omega)];exact hd.tY i hi
 ·simp only[gh,wu,fT,kQ,aY]
section
variable {P:Program} {n:Sz} {D:List Deferred} {e:Env} {O:VH}
theorem pZ {d:Option Tmp} {t t' ty el:TypeId} {x:Operand} {ps:String} {af:Array Edge} {g:Option (Nat×Bool)} {k:Nat} {cs:List MV} {tk:Tok} (hu:P.underlying t=some (.slice el)) (hx:ev e x=some (.sl k cs tk)):
  fQ P n D (.mk d (.binOp .eql t x (.const (.slice none 0 0)) t') ty ps af g) e O fun m O'=>O'=O/\∃b,m= .v (.bool b)/\(b=true->k=0/\cs=[]):=by
 intro G a w hw hf;have h1:=hf.ev hx;have hc:a.eval (.const (.slice none 0 0))= .slice none 0 0:=rfl
 have key:∀(A:Option Addr) (l c:Nat),a.eval x= .slice A l c->(A=none->k=0/\cs=[])->∃m O' u w' H,(O'=O/\∃b,m= .v (.bool b)/\(b=true->k=0/\cs=[]))/\(execOp a.eval (.mk d (.binOp .eql t x (.const (.slice none 0 0)) t') ty ps af g)).run P w= .ok (.value u) w'/\Gh.Le G H/\WR H O' w'/\VR H m u:=fun A l c ha hA=>by
  refine⟨.v (.bool A.isNone),O,.bool A.isNone,w,G,⟨rfl,_,rfl,fun h=>hA (by cases A<;>first | rfl | cases h)⟩,?_,Gh.Le.refl G,hw,.v rfl⟩;have P6:(eqGuard .eql t x (.const (.slice none 0 0)) (.slice A l c) (.slice none 0 0)).run P w= .ok () w:=by simp[eqGuard]
  simp only[execOp,ha,hc,Sem.run_bind,P6,Result.andThen_ok,run_eql_slice_nil w t el A l c hu];rfl
 generalize hv:a.eval x=v at h1;cases h1 with
 | slnil=>exact key none 0 0 hv fun _=>⟨rfl,rfl⟩
 | n9 h=>exact key _ _ _ hv fun _=>⟨rfl,rfl⟩
 | j7=>exact key none 0 0 hv fun _=>⟨rfl,rfl⟩
 | sl h1 h2 h3 h4 h5 h6=>exact key _ _ _ hv fun h=>by cases h
end
theorem nI {tab:bV} {op:BinOp} {t:TypeId} {n:Nat} {cs:List MV} {tk:Tok} {y:MV}:cP tab op t (.sl n cs tk) y=none:=rfl
theorem Wl (x:Gv):(bN x).length=3:=rfl
theorem Wm (L:List Gv):cI (L.flatMap bN)=L.flatMap bN:=kD (fun x=>by simp only[bN,wu]) L
theorem VF.Wn {P:Program} {f:FuncId} {Uf:List MV} {O:VH} {Φ Ψ :MV->VH->Prop} (h:VF P f Uf O (aH Φ)) (hw:∀m O', Φ m O'->∃m',Wk m m'/\ Ψ m' O'):VF P f Uf O (aH Ψ):=fun G w vs xy hv=>by
 refine(h G w vs xy hv).mono ?_;rintro x w' ⟨r,O',H,h1,h2,h3,h4⟩;cases r with
 | ret m=>cases x with
   | returned v=>
     obtain⟨m',k1,k2⟩:=hw m O' h4;exact⟨.ret m',O',H,h1,h2,k1 H v h3,k2⟩
   | _=>exact h3.elim
 | panic m=>exact h4.elim
set_option linter.defProp false in
def jQ:=And.intro bM<|And.intro xe AY
theorem Bi (L:List (Bs×Bs)) (tk:Tok) (O:VH) (hn:L.length<=100000):VF Tryz.prog 114 [.sl L.length (L.flatMap a_) tk] O (aH fun m O'=>∃t,m= .sl L.length (L.flatMap a_) t/\App O' O.next 2 t/\O.Ge O'):=by
 have dK:=aJ eZ L;refine VF.dh 8 [.tmp 2] Tryz.func114 ?_;refine ao @jQ @nI ?_;refine VL.pf (pZ Tryz.underlying104 rfl) ?_;rintro _ O1 ⟨eO,b,rfl,hb⟩;rw[eO];clear eO O1
 refine WL.sound aa ?_;cases b
 ·refine ae @jQ ?_;by_cases h0:L.length=0
  ·have hL:L=[]:=List.eq_nil_of_length_eq_zero h0;subst hL;refine VL.app (m:=.sl 0 [] .full) (O':=O) (by simp[ij,zQ,B7.1.1]) ?_ (ht:=aa) (hx:=rfl) (hy:=rfl);refine ae @jQ ?_;exact⟨.full,rfl,trivial,VH.Ge.refl _⟩
  ·have hY:(L.flatMap a_).all dE=true:=by
    rw[List.all_flatMap,List.all_eq_true];intro p _;rfl
   have kG:=bg (tk:=.full) (tk':=tk) (B:=O.next) (n:=0) (k:=L.length) (cs:=[]) (ds:=L.flatMap a_) zQ B7.1.1 (O:=O) trivial rfl dK hY (by decide) h0 (by omega) (by simp[maxLen];omega);rw[Nat.zero_add,List.nil_append]at kG;refine VL.k_ kG (by rw[rG,fT]) ?_;refine ae @jQ ?_;exact⟨_,rfl,App.after (Nat.le_refl _),cA.Cz (tk:=.full) (sz:=2) trivial (cA.after (sz:=2) (B:=0) trivial)⟩
 ·obtain⟨h0,h1⟩:=hb rfl;rw[h0,h1];refine ae @jQ ?_;exact⟨.nil,rfl,trivial,VH.Ge.refl _⟩
theorem E5 (L:List (Bs×Bs)) (tk:Tok) (O:VH) (hn:L.length<=100000):VF Tryz.prog 114 [.sl L.length (L.flatMap a_) tk] O (aH fun m O'=>m= .sl L.length (L.flatMap a_) .au/\O.Ge O'):=
 VF.Wn (Bi L tk O hn) fun m O' ⟨t,h1,h2,h3⟩=>⟨_,h1▸Wk.tok,rfl,h3⟩
theorem Wo (L:List (Dp)) (tk:Tok) (O:VH) (hn:L.length<=100000):VF Tryz.prog 115 [.sl L.length (L.flatMap aQ) tk] O (aH fun m O'=>∃t,m= .sl L.length (L.flatMap aQ) t/\App O' O.next 8 t/\O.Ge O'):=by
 have dK:=aJ gd L;refine VF.dh 8 [.tmp 2] Tryz.func115 ?_;refine ao @jQ @nI ?_;refine VL.pf (pZ Tryz.underlying103 rfl) ?_;rintro _ O1 ⟨eO,b,rfl,hb⟩;rw[eO];clear eO O1
 refine WL.sound aa ?_;cases b
 ·refine ae @jQ ?_;by_cases h0:L.length=0
  ·have hL:L=[]:=List.eq_nil_of_length_eq_zero h0;subst hL;refine VL.app (m:=.sl 0 [] .full) (O':=O) (by simp[ij,uO,AX.1.1]) ?_ (ht:=aa) (hx:=rfl) (hy:=rfl);refine ae @jQ ?_;exact⟨.full,rfl,trivial,VH.Ge.refl _⟩
  ·have hY:(L.flatMap aQ).all dE=true:=by
    rw[List.all_flatMap,List.all_eq_true];intro p _;rfl
   have kG:=bg (tk:=.full) (tk':=tk) (B:=O.next) (n:=0) (k:=L.length) (cs:=[]) (ds:=L.flatMap aQ) uO AX.1.1 (O:=O) trivial rfl dK hY (by decide) h0 (by omega) (by simp[maxLen];omega);rw[Nat.zero_add,List.nil_append]at kG;refine VL.k_ kG (by rw[rG,kQ]) ?_;refine ae @jQ ?_;exact⟨_,rfl,App.after (Nat.le_refl _),cA.Cz (tk:=.full) (sz:=8) trivial (cA.after (sz:=8) (B:=0) trivial)⟩
 ·obtain⟨h0,h1⟩:=hb rfl;rw[h0,h1];refine ae @jQ ?_;exact⟨.nil,rfl,trivial,VH.Ge.refl _⟩
theorem QS (L:List (Dp)) (tk:Tok) (O:VH) (hn:L.length<=100000):VF Tryz.prog 115 [.sl L.length (L.flatMap aQ) tk] O (aH fun m O'=>m= .sl L.length (L.flatMap aQ) .au/\O.Ge O'):=
 VF.Wn (Wo L tk O hn) fun m O' ⟨t,h1,h2,h3⟩=>⟨_,h1▸Wk.tok,rfl,h3⟩
theorem Wp (L:List (fI)) (tk:Tok) (O:VH) (hn:L.length<=100000):VF Tryz.prog 117 [.sl L.length (L.flatMap bP) tk] O (aH fun m O'=>∃t,m= .sl L.length (L.flatMap bP) t/\App O' O.next 2 t/\O.Ge O'):=by
 have dK:=aJ mQ L;refine VF.dh 8 [.tmp 2] Tryz.func117 ?_;refine ao @jQ @nI ?_;refine VL.pf (pZ Tryz.underlying61 rfl) ?_;rintro _ O1 ⟨eO,b,rfl,hb⟩;rw[eO];clear eO O1
 refine WL.sound aa ?_;cases b
 ·refine ae @jQ ?_;by_cases h0:L.length=0
  ·have hL:L=[]:=List.eq_nil_of_length_eq_zero h0;subst hL;refine VL.app (m:=.sl 0 [] .full) (O':=O) (by simp[ij,Em,B6.1.1]) ?_ (ht:=aa) (hx:=rfl) (hy:=rfl);refine ae @jQ ?_;exact⟨.full,rfl,trivial,VH.Ge.refl _⟩
  ·have hY:(L.flatMap bP).all dE=true:=by
    rw[List.all_flatMap,List.all_eq_true];intro p _;rfl
   have kG:=bg (tk:=.full) (tk':=tk) (B:=O.next) (n:=0) (k:=L.length) (cs:=[]) (ds:=L.flatMap bP) Em B6.1.1 (O:=O) trivial rfl dK hY (by decide) h0 (by omega) (by simp[maxLen];omega);rw[Nat.zero_add,List.nil_append]at kG;refine VL.k_ kG (by rw[rG,mR]) ?_;refine ae @jQ ?_;exact⟨_,rfl,App.after (Nat.le_refl _),cA.Cz (tk:=.full) (sz:=2) trivial (cA.after (sz:=2) (B:=0) trivial)⟩
 ·obtain⟨h0,h1⟩:=hb rfl;rw[h0,h1];refine ae @jQ ?_;exact⟨.nil,rfl,trivial,VH.Ge.refl _⟩
theorem sN (L:List (fI)) (tk:Tok) (O:VH) (hn:L.length<=100000):VF Tryz.prog 117 [.sl L.length (L.flatMap bP) tk] O (aH fun m O'=>m= .sl L.length (L.flatMap bP) .au/\O.Ge O'):=
 VF.Wn (Wp L tk O hn) fun m O' ⟨t,h1,h2,h3⟩=>⟨_,h1▸Wk.tok,rfl,h3⟩
theorem wv (L:List (Gv)) (tk:Tok) (O:VH) (hn:L.length<=100000):VF Tryz.prog 122 [.sl L.length (L.flatMap bN) tk] O (aH fun m O'=>∃t,m= .sl L.length (L.flatMap bN) t/\App O' O.next 3 t/\O.Ge O'):=by
 have dK:=aJ Wl L;refine VF.dh 8 [.tmp 2] Tryz.func122 ?_;refine ao @jQ @nI ?_;refine VL.pf (pZ Tryz.underlying222 rfl) ?_;rintro _ O1 ⟨eO,b,rfl,hb⟩;rw[eO];clear eO O1
 refine WL.sound aa ?_;cases b
 ·refine ae @jQ ?_;by_cases h0:L.length=0
  ·have hL:L=[]:=List.eq_nil_of_length_eq_zero h0;subst hL;refine VL.app (m:=.sl 0 [] .full) (O':=O) (by simp[ij,xe,AY.1.1]) ?_ (ht:=aa) (hx:=rfl) (hy:=rfl);refine ae @jQ ?_;exact⟨.full,rfl,trivial,VH.Ge.refl _⟩
  ·have hY:(L.flatMap bN).all dE=true:=by
    rw[List.all_flatMap,List.all_eq_true];intro p _;rfl
   have kG:=bg (tk:=.full) (tk':=tk) (B:=O.next) (n:=0) (k:=L.length) (cs:=[]) (ds:=L.flatMap bN) xe AY.1.1 (O:=O) trivial rfl dK hY (by decide) h0 (by omega) (by simp[maxLen];omega);rw[Nat.zero_add,List.nil_append]at kG;refine VL.k_ kG (by rw[rG,Wm]) ?_;refine ae @jQ ?_;exact⟨_,rfl,App.after (Nat.le_refl _),cA.Cz (tk:=.full) (sz:=3) trivial (cA.after (sz:=3) (B:=0) trivial)⟩
 ·obtain⟨h0,h1⟩:=hb rfl;rw[h0,h1];refine ae @jQ ?_;exact⟨.nil,rfl,trivial,VH.Ge.refl _⟩
theorem E7 (L:List Dp) (tk:Tok) (O:VH) (hn:L.length<=100000):VF Tryz.prog 115 [.sl L.length (L.flatMap aQ) tk] O (aH fun m O'=>O.Ge O'/\GR O' 63 8 O.next m L.length (L.flatMap aQ)):=by
 have dK:=aJ gd L
 have hY:(L.flatMap aQ).all dE=true:=by
  rw[List.all_flatMap,List.all_eq_true];intro p _;rfl
 refine VF.dh 8 [.tmp 2] Tryz.func115 ?_;refine ao @jQ @nI ?_;refine VL.pf (pZ Tryz.underlying103 rfl) ?_;rintro _ O1 ⟨eO,b,rfl,hb⟩;rw[eO];clear eO O1
 refine WL.sound aa ?_;cases b
 ·refine ae @jQ ?_;refine VL.grow aa (.inl rfl) (te:=⟨_,8,_,_⟩) (B:=O.next) (n':=0) (L:=[]) (dx:=.slice 63) (p:=.sl 0 [] .full) (q:=.sl L.length (L.flatMap aQ) tk) (j:=L.length) (ds:=L.flatMap aQ) (.inl ⟨rfl,rfl,.inr rfl⟩) (by simp[zA,dK]) hY (by rw[uO];rfl) AX.1.1 (by rw[uO];rfl) trivial (by dsimp only;omega) (by simp only[maxLen];omega) (Nat.le_refl _) rfl rfl rfl rfl ?_;intro m O' h1 h2 h3 h4;rw[Nat.zero_add,List.nil_append]at h1;refine ae @jQ ?_;exact⟨h3 rfl,h1⟩
 ·obtain⟨h0,h1⟩:=hb rfl;rw[h0,h1];refine ae @jQ ?_;exact⟨VH.Ge.refl _,.inl ⟨rfl,rfl,.inl rfl⟩⟩
theorem Bj:laidOutB Tryz.prog=true:=by kernel_rfl
theorem vi:tn Tryz.prog 67 3:=tn.sr Bj (by kernel_rfl)
theorem Ce:tn Tryz.prog 140 2:=tn.sr Bj (by kernel_rfl)
theorem qX:tn Tryz.prog 30 4:=tn.sr Bj (by kernel_rfl)
set_option linter.defProp false in
def Cf:=And.intro ez<|And.intro SA<|And.intro T58<|And.intro T94<|And.intro T95<|And.intro SB<|And.intro aeK zP
theorem agS (x:Gv) (O:VH):VF Tryz.prog 63 [.agg (bN x)] O (aH fun m O'=>m= .agg (bP ⟨x.g,x.a⟩)/\O.Ge O'):=by
 obtain⟨g,a,v⟩:=x;have hg:=((VH.Ge.refl O).push (.cells [.str g,.str a,.str v])).push (.cells [.str [],.str []]);unfold bN bP;refine VF.dh 8 [.cell 2 140] Tryz.func63 ?_;refine ae @Cf ?_;exact hg.set (Nat.le_succ _) _
def eu (x:Gv):List Bs:=[x.g,x.a,x.v]
def Ak (x:fI):List Bs:=[x.g,x.a]
theorem adH (x:Gv):bN x=(eu x).map .str:=rfl
def sO (x:Gv):Prop:=x.g.length<=maxLen/\x.a.length<=maxLen/\x.v.length<=maxLen
theorem vm {x:Gv} (h:sO x):∀s∈eu x,s.length<=maxLen:=by
 intro s hs;simp only[eu,List.mem_cons,List.not_mem_nil,or_false]at hs;rcases hs with rfl | rfl | rfl
 ·exact h.1
 ·exact h.2.1
 ·exact h.2.2
structure Gw (O:VH) (k ke kv:Nat) (E:fe) (ce:Nat) (V:fe) (cv:Nat) (r a:Int):Prop where
 cell:O.hp k=some (.cells [.map ke,.map kv,mi r,mi a])
 Cg:O.hp ke=some (.map (cy E) ce)
 HW:O.hp kv=some (.map (cy V) cv)
 MI:nT 3 E
 vok:nT 2 V
 ptr:∀p∈E,∃q,p.2.1= .ptr q 0
 lt:k<O.next/\ke<O.next/\kv<O.next
 ne:k≠ke/\k≠kv/\ke≠kv
def Bk (E:fe) (x:Gv):Bool:=(iZ (eu x) E).isSome
theorem aas {E:fe} (h:∀p∈E,∃q,p.2.1=MV.ptr q 0) {l:List Bs} {m:MV} (hl:iZ l E=some m):∃q,m= .ptr q 0:=by
 unfold iZ at hl;obtain⟨p,h1,rfl⟩:=Option.map_eq_some_iff.1 hl;exact h p (List.mem_of_find?_eq_some h1)
theorem SU {O:VH} {k ke kv ce cv:Nat} {E V:fe} {r a:Int} (h:Gw O k ke kv E ce V cv r a) (x:Gv) (hx:sO x):VF Tryz.prog 62 [.ptr k 0,.agg (bN x)] O (aH fun m O'=>m=mb (Bk E x)/\O.Ge O'):=by
 have hl:=vm hx;have qg:=h.cell;simp only[ar]at qg;unfold Bk;rw[adH];generalize hL:eu x=L at*;have om:L.length=3:=by rw[<-hL];rfl
 obtain⟨g,a',v⟩:=x;have hLc:L.map MV.str=[.str g,.str a',.str v]:=by rw[<-hL];rfl
 rw[hLc];refine VF.bL 16 [.tmp 4] Tryz.func62 ?_;refine VC.ag aa (ae @Cf ?_);refine VC.bx ?_;rintro O1 ⟨aU,dN,du⟩;have qx:=(aU.hp _ h.lt.1).trans qg;have aiF:=(aU.hp _ h.lt.2.1).trans h.Cg;refine VC.bj ?_;refine WC.bH (.held []) [(0,.rd),(1,.rd),(2,.rd),(3,.rd),(4,.rd),(5,.rd),(6,.rd),(7,.rd),(8,.rd),(9,.rd),(10,.rd),(11,.rd)] ?_;refine aN @Cf @qx @dN ?_;refine VL.hold (.inr rfl) rfl rfl (fH.ly vi aa (l:=L) (te:=⟨_,1,8,[.v (.pointer none)]⟩) Tryz.underlying94 SB rfl rfl aiF h.MI (by rw[hLc];rfl) om hl) (WL.sound aa ?_);cases gn:iZ L E with
 | none=>
   refine ae @Cf ?_;refine WC.sound aa (ae @Cf ?_);exact aU
 | some m=>
   obtain⟨p,rfl⟩:=aas h.ptr gn;refine ae @Cf ?_;refine WC.sound aa (ae @Cf ?_);exact aU
section
variable {G H:Gh} {n:Sz} {D:List Deferred} {e e':Env} {a:Act} {P:Program} {tab:bV} {O O':VH} {w:World} {m m':MV} {u v:Value} {ops:Array Oper} {Q:VQ} {md:Md}
def QT (G:Gh):List Deferred->List (FuncId×List MV)->Prop
 | [],[]=>True
 | d::D,p::ds=>(∃us:List Value,d={target:=.fn (.func p.1) #[],args:=us.toArray}/\aO G p.2 us)/\QT G D ds
 | _,_=>False
theorem QT.mono (h:G.Le H):∀{D:List Deferred} {ds:List (FuncId×List MV)},QT G D ds->QT H D ds
 | [],[],_=>trivial
 | _::_,_::_,⟨⟨us,h1,h2⟩,h3⟩=>⟨⟨us,h1,h2.mono h⟩,h3.mono h⟩
 | [],_::_,h=>h.elim
 | _::_,[],h=>h.elim
def MJ (P:Program):List (FuncId×List MV)->VH->(VH->Prop)->Prop
 | [],O,K=>K O
 | p::ds,O,K=>Enters P p.1/\fZ P p.1 p.2 none O fun O'=>MJ P ds O' K
def QU (P:Program) (fn:Func) (G0:Gh) (K:VH->Prop):Exit->Act->World->Prop:=
 bodyPostD P fn fun x w'=>(∃v,x= .returned v/\v= .tuple #[])/\∃O' H,Gh.Le G0 H/\WR H O' w'/\K O'
def RC (P:Program) (fn:Func) (n:Sz) (ds:List (FuncId×List MV)) (c:Code) (e:Env) (O:VH) (K:VH->Prop):Prop:=
 ∀G0 G D a w,Gh.Le G0 G->QT G D ds->WR G O w->FR G n D e a->c.wp P (QU P fn G0 K) a w
theorem Ci {fn:Func} {tmps:Array Value} {G0:Gh} {K:VH->Prop} (hr:fn.results= #[]):∀(D:List Deferred) (ds:List (FuncId×List MV)) (G:Gh) (O:VH) (w:World),Gh.Le G0 G->QT G D ds->WR G O w->MJ P ds O K->
  Leaves P fn tmps (fun x w'=>(∃v,x= .returned v/\v= .tuple #[])/\∃O' H,Gh.Le G0 H/\WR H O' w'/\K O') D .returning w
 | [],[],G,O,w,h0,_,hw,hk=>⟨.tuple #[],by simp[results,hr],⟨_,rfl,rfl⟩,O,G,h0,hw,hk⟩
 | d::D,p::ds,G,O,w,h0,⟨⟨us,ed,iX⟩,hD⟩,hw,⟨hE,hk⟩=>by
   subst ed;refine leaves_cons (f:=p.1) (args:=us.toArray) (by simp) (by simp[invoke,hE us.toArray w]) ((hk G w us .returning hw iX trivial).mono ?_);rintro r u' F3 ⟨⟨v,rfl⟩,hs,O2,K2,q1,q2,q3⟩;dsimp only;rw[hs];exact Ci hr D ds K2 O2 F3 (h0.trans q1) (hD.mono q1) q2 q3
 | [],_::_,_,_,_,_,h,_,_=>h.elim
 | _::_,[],_,_,_,_,h,_,_=>h.elim
theorem VF.defs {f:FuncId} {fn:Func} {c:Code} {args:List MV} {K:VH->Prop} {R:MV->VH->Prop} (hf:P.funcs[f]?=some fn) (hb:fn.body=some c) (hr:fn.results= #[]) (hn:args.length<=fn.ntmps)
  (h:RC P fn ⟨fn.ntmps,0⟩ [] c (cf 0 args) O K) (hR:∀O',K O'->R (.tuple []) O'):VF P f args O (aH R):=by
 intro G w vs hw hv;refine(calls_of_wp_defers hf hb (h G G [] _ w (Gh.Le.refl G) trivial hw ?_)).mono ?_
 ·have hl:=hv.1;refine⟨rfl,by simp;omega,fun t x hx=>?_⟩;rw[im,if_pos (Nat.zero_le _),Nat.sub_zero]at hx;obtain⟨u,h1,h2⟩:=hv.get hx;refine⟨u,?_,h2⟩;have eb:=(List.getElem?_eq_some_iff.1 h1).1;rw[Array.getElem?_append_left (by simpa using eb)];simpa using h1
 ·rintro x w' ⟨⟨v,rfl,rfl⟩,O',H,h1,h2,h3⟩;exact⟨.ret (.tuple []),O',H,h1,h2,.tuple (us:=[]) rfl (fun i c u h=>by simp at h),hR _ h3⟩
theorem RC.ag {fn:Func} {ds:List (FuncId×List MV)} {A rest:Code} {K:VH->Prop} (h:∀D,VC P n D A e O fun x e' O'=>match x with
  | .normal=>RC P fn n ds rest e' O' K
  | _=>False):RC P fn n ds (.seq A rest) e O K:=by
 intro G0 G D a w h0 hD hw hf;refine wp_seq (wp_mono (h D G a w hw hf) ?_);rintro y a1 w1 ⟨x,e',O',H,g1,g2,g3,g4,g5⟩
 cases y<;>cases x<;>first
  | exact False.elim g4
  | exact g5.elim
  | skip
 exact g5 G0 H D a1 w1 (h0.trans g1) (hD.mono g1) g2 g3
theorem RC.fin {fn:Func} {ds:List (FuncId×List MV)} {A:Code} {K:VH->Prop} (hr:fn.results= #[]) (h:∀D,VC P n D A e O fun x e' O'=>match x with
  | .normal=>MJ P ds O' K
  | .ret=>MJ P ds O' K
  | _=>False):RC P fn n ds A e O K:=by
 intro G0 G D a w h0 hD hw hf;refine wp_mono (h D G a w hw hf) ?_;rintro y a1 w1 ⟨x,e',O',H,g1,g2,g3,g4,g5⟩
 have fin:FR H n D e' a1->MJ P ds O' K->Leaves P fn a1.tmps (fun x w'=>(∃v,x= .returned v/\v= .tuple #[])/\∃O' H,Gh.Le G0 H/\WR H O' w'/\K O') a1.defers .returning w1:=fun aS hk=>by
  rw[aS.defers];exact Ci hr D ds H O' w1 (h0.trans g1) (hD.mono g1) g2 hk
 cases y<;>cases x<;>first
  | exact False.elim g4
  | exact g5.elim
  | exact fin g3 g5
theorem RC.cond {fn:Func} {ds:List (FuncId×List MV)} {c:Operand} {x y:Code} {K:VH->Prop} {t:Bool} (hc:ev e c=some (mb t)) (h:RC P fn n ds (if t then x else y) e O K):RC P fn n ds (.cond c x y) e O K:=by
 intro G0 G D a w h0 hD hw hf;have hv:=hf.ev hc;generalize hx:a.eval c=u at hv;have:=VR.iD hv;subst this;exact wp_cond hx (h G0 G D a w h0 hD hw hf)
def RO (P:Program) (fn:Func) (n:Sz) (ds:List (FuncId×List MV)) (ops:Array Oper) (rest:Code) (l:List Nat) (e:Env) (O:VH) (K:VH->Prop):Prop:=
 ∀G0 G D a w,Gh.Le G0 G->QT G D ds->WR G O w->FR G n D e a->wpOps P ops (Exit.then (rest.wp P (QU P fn G0 K)) (QU P fn G0 K)) l a w
theorem RC.region {fn:Func} {ds:List (FuncId×List MV)} {id:Nat} {rest:Code} {K:VH->Prop} (l:List Nat) (hl:List.range ops.size=l) (h:RO P fn n ds ops rest l e O K):RC P fn n ds (.seq (.region id ops false) rest) e O K:=by
 subst hl;intro G0 G D a w h0 hD hw hf;exact wp_seq (wp_region (h G0 G D a w h0 hD hw hf))
theorem RO.step (ht:aM P tab) {fn:Func} {ds:List (FuncId×List MV)} {rest:Code} {K:VH->Prop} {i:Nat} {l:List Nat} {o:Oper} (ho:ops[i]?=some o) (hg:aK ops o e=some true) (hv:cT tab o e O=some (m,O')) (hd:bh n o.dst=true) (h:RO P fn n ds ops rest l (aV o.dst m e) O' K):
  RO P fn n ds ops rest (i::l) e O K:=by
 intro G0 G D a w h0 hD hw aS;obtain⟨nx,w',H,u,hr,qh,h1,h2,h3,_⟩:=CW (P:=P) ht hw aS hv;rw[wpOps_cons];simp only[wpOp,ho,bd aS hg,if_true];refine .inl ?_;unfold Oper.wp;rw[hr];have:=h G0 H D (a.put o.dst u) w' (h0.trans h1) (hD.mono h1) h2 ((aS.mono h1).aV hd h3);rcases qh with rfl | ⟨rfl,rfl⟩<;>exact this
theorem RO.o1 {fn:Func} {ds:List (FuncId×List MV)} {rest:Code} {K:VH->Prop} {i:Nat} {l:List Nat} {lo:List Oper} {o:Oper} (h:zK (fun m O'=>RO P fn n ds ⟨lo⟩ rest l (aV o.dst m e) O' K) (cT tab o e O)) (ht:aM P tab:=by exact aa) (ho:lo[i]?=some o:=by exact rfl) (hg:aK ⟨lo⟩ o e=some true:=by exact rfl) (hd:bh n o.dst=true:=by exact rfl):
  RO P fn n ds ⟨lo⟩ rest (i::l) e O K:=by
 generalize hv:cT tab o e O=v at h;cases v with
 | none=>exact h.elim
 | some p=>exact RO.step ht (by simpa using ho) hg hv hd h
theorem RO.defer {fn:Func} {ds:List (FuncId×List MV)} {rest:Code} {K:VH->Prop} {i:Nat} {g:FuncId} {as_:Array Operand} {ts:Array TypeId} {ty:TypeId} {ps:String} {af:Array Edge} {ms:List MV} (ho:ops[i]?=some (.mk none (.defer {callee:=.value (.func g),args:=as_,argTypes:=ts}) ty ps af none)) (hm:fE e as_.toList=some ms)
  (h:RC P fn n ((g,ms)::ds) rest e O K):RO P fn n ds ops rest [i] e O K:=by
 intro G0 G D a w h0 hD hw aS;have iX:=aS.fE hm;have ha:as_.map a.eval=(as_.toList.map a.eval).toArray:=by apply Array.ext';simp
 have bU:(execOp a.eval (.mk none (.defer {callee:=.value (.func g),args:=as_,argTypes:=ts}) ty ps af none)).run P w= .ok (.defer {target:=.fn (.func g) #[],args:=(as_.toList.map a.eval).toArray}) w:=by
  simp only[<-ha];simp[execOp,resolve,Act.eval,Deferred.ofValue]
 rw[wpOps_cons];simp only[wpOp,ho];rw[if_pos (by simp[Region.wanted])];refine .inl ?_;unfold Oper.wp;rw[bU,Oper.upon_defer];simp only[wpOps,Exit.then];exact h G0 G ({target:=.fn (.func g) #[],args:=(as_.toList.map a.eval).toArray}::D) _ w h0 ⟨⟨_,rfl,iX⟩,hD⟩ hw ⟨by show _::a.defers=_;rw[aS.defers],aS.size,aS.get⟩
theorem fZ.mono {f:FuncId} {args:List MV} {x:Option MV} {K K':VH->Prop} (h:fZ P f args x O K) (hk:∀O',K O'->K' O'):fZ P f args x O K':=fun G w vs u hw hv hu=>(h G w vs u hw hv hu).mono fun r u' w' ⟨h1,h2,O',H,h3,h4,h5⟩=>⟨h1,h2,O',H,h3,h4,hk _ h5⟩
theorem fZ.Gj (ht:aM P tab) {f:FuncId} {fn:Func} {c:Code} {args:List MV} {K:VH->Prop} (hf:P.funcs[f]?=some fn) (hb:fn.body=some c) (hr:fn.results= #[]) (hn:args.length<=fn.ntmps) (hk:(⟨fn.ntmps,0⟩:Sz)=n) (h:VC P n [] c (cf 0 args) O (B4 tab [] (aH fun _ O'=>K O'))):fZ P f args none O K:=by
 subst hk;intro G w vs u hw hv hu
 have Dn:settle u= .returning:=by
  cases u<;>first
   | rfl
   | exact hu.elim
 have hl:=hv.1;refine(callsD_of_wp (R:=fun x w'=>(∃v,x= .returned v)/\∃O' H,Gh.Le G H/\WR H O' w'/\K O') hf hb (wp_mono (h G _ w hw ?_) ?_)).mono ?_
 ·refine⟨rfl,by simp;omega,fun t x hx=>?_⟩;rw[im,if_pos (Nat.zero_le _),Nat.sub_zero]at hx;obtain⟨u,h1,h2⟩:=hv.get hx;refine⟨u,?_,h2⟩;have eb:=(List.getElem?_eq_some_iff.1 h1).1;rw[Array.getElem?_append_left (by simpa using eb)];simpa using h1
 ·rintro y a1 w1 ⟨x,e',O',H,g1,g2,g3,g4,g5⟩
  have fin:FR H ⟨fn.ntmps,0⟩ [] e' a1->K O'->bodyPost P fn (fun x w'=>(∃v,x= .returned v)/\∃O' H,Gh.Le G H/\WR H O' w'/\K O') .normal a1 w1:=fun aS hk=>
   ⟨aS.defers,.tuple #[],by simp[results,hr],⟨_,rfl⟩,O',H,g1,g2,hk⟩
  cases y<;>cases x<;>first
   | exact False.elim g4
   | exact fin g3 g5
   | exact g5.elim
 ·rintro r u' w' ⟨rfl,h1,h2⟩;exact⟨h1,Dn,h2⟩
end
section
variable {G:Gh} {O O':VH} {w:World} {P:Program}
theorem WR.cellAt {k off:Nat} {cs:List MV} {x:Value} (h:WR G O w) (hk:O.hp k=some (.cells cs)) (hc:cs[off]?=some (.v x)):∃b,G.bJ k=some b/\w.cell? ⟨b,off,none⟩=some x/\w.frozen? ⟨b,off,none⟩=false:=by
 obtain⟨b,C,T,e1,e2,e3⟩:=h.cells k cs hk;obtain⟨v,ob,Cq⟩:=e3.get hc;cases Cq with
 | v _=>
   refine⟨b,e1,?_,?_⟩
   ·have eb:off<cs.length:=(List.getElem?_eq_some_iff.1 hc).1;rw[List.getElem?_take_of_lt eb]at ob;simp only[World.cell?,e2,Option.isSome_none,Bool.false_eq_true,if_false];simpa using ob
   ·have hlen:off<C.size:=by
     have:=(List.getElem?_eq_some_iff.1 ob).1;simp at this;omega
    obtain⟨t',⟨lo,hi⟩,cu⟩:=T;dsimp only at e2 cu;simp only[World.frozen?,e2,Bool.and_eq_false_imp,decide_eq_true_eq,decide_eq_false_iff_not];intro;omega
theorem en.mem {f:FuncId} {ms:List MV} {m:MV} (hr:∀G w vs,WR G O w->aO G ms vs->∃u w',(callFunc f vs.toArray).run P w= .ok (.value u) w'/\WR G O' w'/\VR G m u):en P f ms O fun m' lD=>m'=m/\lD=O':=by
 intro G w vs hw hv;obtain⟨u,w',h1,h2,h3⟩:=hr G w vs hw hv;exact⟨m,O',u,w',G,⟨rfl,rfl⟩,h1,Gh.Le.refl G,h2,h3⟩
theorem VR.Al:VR G (.tuple []) (.tuple #[]):=.tuple (us:=[]) rfl (fun i c u h=>by simp at h)
theorem aO.one {x:MV} {vs:List Value} (h:aO G [x] vs):∃u,vs=[u]/\VR G x u:=by
 obtain⟨u,us,rfl,g1,g2⟩:=h.eh;rw[g2.ic];exact⟨u,rfl,g1⟩
theorem aO.aat {k o:Nat} {vs:List Value} (h:aO G [.ptr k o] vs):∃b,vs=[.pointer (some ⟨b,o,none⟩)]/\G.bJ k=some b:=by
 obtain⟨u,rfl,g1⟩:=h.one;cases g1 with
 | ptr h4=>exact⟨_,rfl,h4⟩
theorem aO.aau {k o:Nat} {x:Value} {vs:List Value} (h:aO G [.ptr k o,.v x] vs):∃b,vs=[.pointer (some ⟨b,o,none⟩),x]/\G.bJ k=some b:=by
 obtain⟨u,us,rfl,g1,g2⟩:=h.eh;obtain⟨u2,rfl,g3⟩:=g2.one;have:=g3.iD;subst this;cases g1 with
 | ptr h4=>exact⟨_,rfl,h4⟩
theorem aO.aiG {k o:Nat} {x y:Value} {vs:List Value} (h:aO G [.ptr k o,.v x,.v y] vs):∃b,vs=[.pointer (some ⟨b,o,none⟩),x,y]/\G.bJ k=some b:=by
 obtain⟨u,us,rfl,g1,g2⟩:=h.eh;obtain⟨u2,us2,rfl,g3,g4⟩:=g2.eh;obtain⟨u3,rfl,g5⟩:=g4.one;have e1:=g3.iD;have e2:=g5.iD;subst e1;subst e2
 cases g1 with
 | ptr h4=>exact⟨_,rfl,h4⟩
end
theorem vo (O:VH):en Tryz.prog 277 [] O fun m O'=>m= .tuple []/\O'=O:=
 en.mem fun G w vs hw hv=>by
  rw[hv.ic];exact⟨_,w,run_call_mark0 Tryz.func277 (by kernel_rfl) (by kernel_rfl) (by kernel_rfl) .disable (by kernel_rfl) w,hw,VR.Al⟩
theorem xj (O:VH):en Tryz.prog 279 [] O fun m O'=>m= .tuple []/\O'=O:=
 en.mem fun G w vs hw hv=>by
  rw[hv.ic];exact⟨_,w,run_call_mark0 Tryz.func279 (by kernel_rfl) (by kernel_rfl) (by kernel_rfl) .enable (by kernel_rfl) w,hw,VR.Al⟩
theorem E_ (k o:Nat) (O:VH):en Tryz.prog 280 [.ptr k o] O fun m O'=>m= .tuple []/\O'=O:=
 en.mem fun G w vs hw hv=>by
  obtain⟨b,rfl,hp⟩:=hv.aat;exact⟨_,w,run_call_marked Tryz.func280 (by kernel_rfl) (by kernel_rfl) (by kernel_rfl) .acquire (by kernel_rfl) _ w,hw,VR.Al⟩
theorem CI (k o:Nat) (O:VH):en Tryz.prog 282 [.ptr k o] O fun m O'=>m= .tuple []/\O'=O:=
 en.mem fun G w vs hw hv=>by
  obtain⟨b,rfl,hp⟩:=hv.aat;exact⟨_,w,run_call_marked Tryz.func282 (by kernel_rfl) (by kernel_rfl) (by kernel_rfl) .releaseMerge (by kernel_rfl) _ w,hw,VR.Al⟩
section
variable {O:VH} {k off:Nat} {cs:List MV}
theorem MK {x:Int} (y:Int) (hk:O.hp k=some (.cells cs)) (hc:cs[off]?=some (.v (.int .i64 x))):en Tryz.prog 207 [.ptr k off,.v (.int .i64 y)] O fun m O'=>m= .v (.int .i64 (IntKind.i64.wrap (x+y)))/\O'=O.set k (.cells (cs.set off (.v (.int .i64 (IntKind.i64.wrap (x+y)))))):=
 en.mem fun G w vs hw hv=>by
  obtain⟨b',h1,h2,h3⟩:=hw.cellAt hk hc;obtain⟨b,rfl,hp⟩:=hv.aau;rw[h1]at hp;injection hp with hp;subst hp
  exact⟨_,_,run_call_add Tryz.func207 (by kernel_rfl) (by kernel_rfl) (by kernel_rfl) .i64 (by kernel_rfl) h2 h3 rfl,hw.store hk h1 (List.getElem?_eq_some_iff.1 hc).1 (.v rfl),.v rfl⟩
theorem ML {x:Int} (y:Int) (hk:O.hp k=some (.cells cs)) (hc:cs[off]?=some (.v (.int .i32 x))):en Tryz.prog 283 [.ptr k off,.v (.int .i32 y)] O fun m O'=>m= .v (.int .i32 (IntKind.i32.wrap (x+y)))/\O'=O.set k (.cells (cs.set off (.v (.int .i32 (IntKind.i32.wrap (x+y)))))):=
 en.mem fun G w vs hw hv=>by
  obtain⟨b',h1,h2,h3⟩:=hw.cellAt hk hc;obtain⟨b,rfl,hp⟩:=hv.aau;rw[h1]at hp;injection hp with hp;subst hp
  exact⟨_,_,run_call_add Tryz.func283 (by kernel_rfl) (by kernel_rfl) (by kernel_rfl) .i32 (by kernel_rfl) h2 h3 rfl,hw.store hk h1 (List.getElem?_eq_some_iff.1 hc).1 (.v rfl),.v rfl⟩
theorem QV {x:Int} (hk:O.hp k=some (.cells cs)) (hc:cs[off]?=some (.v (.int .u32 x))):en Tryz.prog 240 [.ptr k off] O fun m O'=>m= .v (.int .u32 x)/\O'=O:=
 en.mem fun G w vs hw hv=>by
  obtain⟨b',h1,h2,h3⟩:=hw.cellAt hk hc;obtain⟨b,rfl,hp⟩:=hv.aat;rw[h1]at hp;injection hp with hp;subst hp
  exact⟨_,_,run_call_load Tryz.func240 (by kernel_rfl) (by kernel_rfl) (by kernel_rfl) .u32 (by kernel_rfl) h2,hw,.v rfl⟩
theorem MM {x:Int} (y:Int) (hk:O.hp k=some (.cells cs)) (hc:cs[off]?=some (.v (.int .u32 x))):en Tryz.prog 260 [.ptr k off,.v (.int .u32 y)] O fun m O'=>m= .tuple []/\O'=O.set k (.cells (cs.set off (.v (.int .u32 y)))):=
 en.mem fun G w vs hw hv=>by
  obtain⟨b',h1,h2,h3⟩:=hw.cellAt hk hc;obtain⟨b,rfl,hp⟩:=hv.aau;rw[h1]at hp;injection hp with hp;subst hp
  exact⟨_,_,run_call_store Tryz.func260 (by kernel_rfl) (by kernel_rfl) (by kernel_rfl) (by kernel_rfl) h2 h3,hw.store hk h1 (List.getElem?_eq_some_iff.1 hc).1 (.v rfl),VR.Al⟩
theorem Wq {x y:Int} (hk:O.hp k=some (.cells cs)) (hc:cs[off]?=some (.v (.int .i32 x))):en Tryz.prog 278 [.ptr k off,.v (.int .i32 x),.v (.int .i32 y)] O fun m O'=>m= .v (.bool true)/\O'=O.set k (.cells (cs.set off (.v (.int .i32 y)))):=
 en.mem fun G w vs hw hv=>by
  obtain⟨b',h1,h2,h3⟩:=hw.cellAt hk hc;obtain⟨b,rfl,hp⟩:=hv.aiG;rw[h1]at hp;injection hp with hp;subst hp
  exact⟨_,_,run_call_cas_hit Tryz.func278 (by kernel_rfl) (by kernel_rfl) (by kernel_rfl) .i32 (by kernel_rfl) h2 h3,hw.store hk h1 (List.getElem?_eq_some_iff.1 hc).1 (.v rfl),.v rfl⟩
end
section
variable {P:Program} {tab:bV} {n:Sz} {D:List Deferred} {md:Md} {ops:Array Oper} {Q:VQ} {e:Env} {O:VH}
theorem VL.afa (ht:aM P tab) {d:Option Tmp} {x:Operand} {src dst ty el:TypeId} {ps:String} {af:Array Edge} {g:Option (Nat×Bool)} {L:List (Fl×Oper)} {k off:Nat} {cs:List MV} {y:Value} {te:cn} (hmd:md= .plain\/md= .any)
  (hs:(tab src).map cn.under=some (.pointer el)) (Lq:(tab dst).map cn.under=some .unsafePointer) (he:tab el=some te) (hz:te.size≠0) (hk:O.hp k=some (.cells cs)) (hc:cs[off]?=some (.v y))
  (hx:ev e x=some (.ptr k off)) (hg:aK ops (.mk d (.convert src dst x) ty ps af g) e=some true) (hd:bh n d=true) (h:WL P tab n D md ops Q L (aV d (.ptr k off) e) O):
  VL P n D md ops ((.one,.mk d (.convert src dst x) ty ps af g)::L) e O Q:=by
 refine VL.pf (M:=fun m O'=>m= .ptr k off/\O'=O) (fun G a w hw hf=>?_) (by rintro m O' ⟨rfl,rfl⟩;exact WL.sound ht h) (hmd:=hmd) (hg:=hg) (hd:=hd);have mJ:=hf.ev hx;generalize oo:a.eval x=u at mJ;cases mJ with
 | ptr hp=>
   rename_i b;obtain⟨ti,z,i1,i2,_⟩:=(ht _ te he).info;obtain⟨b2,s1,s2,_⟩:=hw.cellAt hk hc;rw[hp]at s1;injection s1 with s1;subst s1
   have hr:=run_convert_to_unsafe (P:=P) (w:=w) (bA ht hs) (bA ht Lq) (by rw[i1,Option.map_some,decide_eq_false (by rw[i2];exact hz)]) s2;exact⟨_,_,_,w,G,⟨rfl,rfl⟩,by simp[execOp,oo,hr],Gh.Le.refl G,hw,.ptr hp⟩
theorem fQ.ext {o:Oper} {c:Call} {x:Operand} {id:FuncId} {ms:List MV} {M:MV->VH->Prop} (si:o.op= .call c) (hc:c.callee= .value x) (hf:ev e x=some (.func (.func id) [] [])) (hm:fE e c.args.toList=some ms) (hx:en P id ms O M):fQ P n D o e O M:=by
 intro G a w hw aS;have rB:=aS.ev hf;generalize AO:a.eval x=fv at rB;cases rB with
 | func h1 h2 h3 h4=>
   rename_i us vs;have iX:us=[]:=List.eq_nil_of_length_eq_zero h1;have nS:vs=[]:=List.eq_nil_of_length_eq_zero h3;subst iX;subst nS
   have gH:=aS.fE hm;obtain⟨m,O',u,w',H,hM,hr,g1,g2,g3⟩:=hx G w _ hw gH;refine⟨m,O',u,w',H,hM,?_,g1,g2,g3⟩;have ha: #[]++c.args.map a.eval++ #[]=(c.args.toList.map a.eval).toArray:=by apply Array.ext';simp
   simp only[execOp,si,resolve,hc,AO,Deferred.ofValue,Sem.run_bind,Sem.run_pure,Result.andThen_ok,invoke];rw[ha];exact hr
end
set_option linter.defProp false in
def di:=And.intro aeI<|And.intro ah8<|And.intro ahN<|And.intro aia<|And.intro ZH<|And.intro ahO<|And.intro aie<|And.intro ZK<|And.intro ahM<|And.intro Qk<|And.intro aij<|And.intro aib<|And.intro ah9<|And.intro T2<|And.intro ahP<|And.intro ah_ HC
section
variable {O:VH} {k off:Nat} {cs:List MV}
theorem Fa {x:Int} (y:Int) (hk:O.hp k=some (.cells cs)) (hc:cs[off]?=some (.v (.int .i64 x))):VF Tryz.prog 179 [.ptr k off,.v (.int .i64 y)] O (aH fun m O'=>m= .v (.int .i64 (IntKind.i64.wrap (x+y)))/\O'=O.set k (.cells (cs.set off (.v (.int .i64 (IntKind.i64.wrap (x+y))))))):=by
 refine VF.dh 10 [.tmp 4] Tryz.func179 ?_;refine ae @di ?_;refine ah.ext (MK y hk hc) rfl ?_;rintro _ O2 ⟨rfl,rfl⟩;exact fp @di
theorem MN {x:Int} (hk:O.hp k=some (.cells cs)) (hc:cs[off]?=some (.v (.int .u32 x))):VF Tryz.prog 222 [.ptr k off] O (aH fun m O'=>m=mb (x != 0)/\O'=O):=by
 refine VF.dh 8 [.tmp 2] Tryz.func222 ?_;refine ae @di ?_;refine ah.ext (QV hk hc) rfl ?_;rintro _ O2 ⟨rfl,rfl⟩;exact fp @di
theorem agT (b:Bool) (O:VH):VF Tryz.prog 261 [mb b] O (aH fun m O'=>m= .v (.int .u32 (if b then 1 else 0))/\O'=O):=by
 refine VF.dh 4 [.tmp 2] Tryz.func261 ?_;cases b
 ·exact fp @di
 ·exact fp @di
theorem Wr {x:Int} (b:Bool) (hk:O.hp k=some (.cells cs)) (hc:cs[off]?=some (.v (.int .u32 x))):fZ Tryz.prog 243 [.ptr k off,mb b] none O (fun O'=>O'=O.set k (.cells (cs.set off (.v (.int .u32 (if b then 1 else 0)))))):=by
 refine fZ.Gj aa (n:=⟨10,0⟩) Tryz.func243 rfl rfl (Nat.le_of_ble_eq_true rfl) rfl ?_;simp only[cf,Nat.zero_add,Nat.reduceAdd];refine VC.nB [5] ?_;refine ab.aw 0 ?_;refine ae @di ?_;refine ab.aw 1 ?_;refine ae @di ?_;refine ab.aw 2 ?_;refine ae @di ?_;refine ab.aw 3 ?_;refine ae @di ?_;refine ab.call (i:=4) (agT b O) ?_;rintro _ O2 ⟨rfl,eO⟩;simp only[aj];rw[eO];clear eO O2
 refine⟨VH.Ge.refl _,ab.fin (by kernel_rfl) (bY.st (i:=5) rfl (by kernel_rfl) rfl rfl (fQ.ext rfl rfl rfl rfl (MM _ hk hc)) ?_)⟩;rintro m O2 ⟨rfl,rfl⟩;refine bY.done (by kernel_rfl) ?_;refine ae @di ?_;trivial
theorem aav (hk:O.hp k=some (.cells cs)) (hc:cs[off]?=some (.v (.int .i32 0))):VF Tryz.prog 258 [.ptr k off] O (aH fun m O'=>O'=O.set k (.cells (cs.set off (.v (.int .i32 1))))):=by
 have hl:off<cs.length:=(List.getElem?_eq_some_iff.1 hc).1;refine VF.bL 13 [] Tryz.func258 ?_;refine VC.ag aa (ae @di ?_);refine ah.ext (vo _) rfl ?_;rintro _ O2 ⟨rfl,rfl⟩;refine ae @di ?_;refine VC.ag aa (ae @di ?_);refine ah.ext (Wq (y:=1) hk hc) rfl ?_;rintro _ O2 ⟨rfl,eO⟩;have bt:O2.hp k=some (.cells (cs.set off (.v (.int .i32 1)))):=by rw[eO];exact VH.an _ _ _
 have jj:(cs.set off (.v (.int .i32 1)))[off]?=some (.v (.int .i32 1)):=by rw[List.getElem?_set_self hl]
 refine ae @di ?_;refine ah.ext (xj _) rfl ?_;rintro _ O3 ⟨rfl,Gx⟩;rw[Gx];clear Gx O3
 refine ae @di ?_;refine VL.afa aa (.inl rfl) (el:=132) (by rw[ZK];rfl) (by rw[HC];rfl) ZH.1.1 (by decide) bt jj rfl rfl rfl ?_;refine ae @di ?_;refine ah.ext (E_ _ _ _) rfl ?_;rintro _ O4 ⟨rfl,oT⟩;rw[oT];clear oT O4
 refine ae @di ?_;exact eO
theorem adI (hk:O.hp k=some (.cells cs)) (hc:cs[off]?=some (.v (.int .i32 0))):VF Tryz.prog 241 [.ptr k off] O (aH fun m O'=>O'=O.set k (.cells (cs.set off (.v (.int .i32 1))))):=by
 refine VF.dh 6 [] Tryz.func241 ?_;refine ae @di ?_;refine ah.rt (aav hk hc) ?_;rintro _ O2 e2;refine ae @di ?_;exact e2
theorem QW (hk:O.hp k=some (.cells cs)) (hc:cs[off]?=some (.v (.int .i32 1))):VF Tryz.prog 259 [.ptr k off] O (aH fun m O'=>O'=O.set k (.cells (cs.set off (.v (.int .i32 0))))):=by
 have hl:off<cs.length:=(List.getElem?_eq_some_iff.1 hc).1;refine VF.bL 21 [] Tryz.func259 ?_;refine VC.ag aa (aN @di @hk @hc ?_);refine VL.afa aa (.inl rfl) (el:=132) (by rw[ZK];rfl) (by rw[HC];rfl) ZH.1.1 (by decide) hk hc rfl rfl rfl ?_;refine ae @di ?_;refine ah.ext (CI _ _ _) rfl ?_;rintro _ O2 ⟨rfl,Gy⟩;rw[Gy];clear Gy O2
 refine ae @di ?_;refine ah.ext (vo _) rfl ?_;rintro _ O2 ⟨rfl,Gy⟩;rw[Gy];clear Gy O2
 refine ae @di ?_;refine VC.ag aa (ae @di ?_);refine ah.ext (ML (-1) hk hc) rfl ?_;rintro _ O2 ⟨rfl,eO⟩;refine ao @di (show IntKind.i32.wrap (1+ -1)=0 from rfl) ?_;refine VC.ag aa (ae @di ?_);refine WC.sound aa (ae @di ?_);refine ah.ext (xj _) rfl ?_;rintro _ O3 ⟨rfl,Gx⟩;rw[Gx];clear Gx O3
 refine ae @di ?_;exact eO
theorem Ws (hk:O.hp k=some (.cells cs)) (hc:cs[off]?=some (.v (.int .i32 1))):fZ Tryz.prog 242 [.ptr k off] none O (fun O'=>O'=O.set k (.cells (cs.set off (.v (.int .i32 0))))):=by
 refine fZ.Gj aa (n:=⟨6,0⟩) Tryz.func242 rfl rfl (Nat.le_of_ble_eq_true rfl) rfl ?_;simp only[cf,Nat.zero_add,Nat.reduceAdd];refine WC.sound aa (ae @di ?_);refine ah.rt (QW hk hc) ?_;rintro _ O2 e2;refine ae @di ?_;exact e2
theorem Wt {g:FuncId} {xs:List MV} {Φ :VH->Prop} (hk:O.hp k=some (.cells cs)) (h0:cs[off]?=some (.v (.int .u32 0))) (h1:cs[off+1]?=some (.v (.int .i32 0))) (hg:c9 Tryz.prog g=true)
  (hC:VF Tryz.prog g xs (O.set k (.cells (cs.set (off+1) (.v (.int .i32 1))))) (aH fun _ O'=> Φ O'))
  (hΦ :∀O', Φ O'->∃cs',O'.hp k=some (.cells cs')/\cs'[off]?=some (.v (.int .u32 0))/\cs'[off+1]?=some (.v (.int .i32 1))):
  VF Tryz.prog 223 [.ptr k off,.func (.func g) [] xs] O (aH fun _ O'=>∃O1 cs', Φ O1/\O1.hp k=some (.cells cs')/\O'=O1.set k (.cells ((cs'.set off (.v (.int .u32 1))).set (off+1) (.v (.int .i32 0))))):=by
 refine VF.defs (K:=fun O'=>∃O1 cs', Φ O1/\O1.hp k=some (.cells cs')/\O'=O1.set k (.cells ((cs'.set off (.v (.int .u32 1))).set (off+1) (.v (.int .i32 0))))) Tryz.func223 rfl rfl (Nat.le_of_ble_eq_true rfl) ?_ (fun O' h=>h);show RC _ _ ⟨21,0⟩ _ _ _ _ _;simp only[cf,Nat.zero_add,Nat.reduceAdd];refine RC.ag fun D=>?_
 refine WC.sound aa (ae @di ?_);refine ah.rt (adI hk h1) ?_;rintro _ O2 e2;have bt:O2.hp k=some (.cells (cs.set (off+1) (.v (.int .i32 1)))):=by rw[e2];exact VH.an _ _ _
 refine ae @di ?_;refine RC.region [0,1,2,3] rfl ?_;refine RO.o1 ?_;refine ae @di ?_;refine RO.o1 ?_;refine ae @di ?_;refine RO.o1 ?_;refine ae @di ?_;refine RO.defer rfl rfl ?_;refine RC.ag fun D=>?_
 have h02:(cs.set (off+1) (.v (.int .i32 1)))[off]?=some (.v (.int .u32 0)):=by rw[List.getElem?_set_ne (by omega)];exact h0
 refine WC.sound aa (ae @di ?_);refine ah.rt (MN bt h02) ?_;rintro _ O3 ⟨rfl,eO⟩;rw[eO];clear eO O3
 refine ae @di ?_;refine RC.cond (t:=true) rfl ?_;rw[if_pos rfl];refine RC.region [0,1,2,3] rfl ?_;refine RO.o1 ?_;refine ae @di ?_;refine RO.o1 ?_;refine ae @di ?_;refine RO.o1 ?_;refine ae @di ?_;refine RO.defer rfl rfl ?_;refine RC.fin rfl fun D=>?_
 rw[e2];refine WC.sound aa (ae @di ?_);refine ah.rt hC ?_ (hb:=hg);rintro m O3 CD;obtain⟨cs',dB,h3,h4⟩:=hΦ O3 CD;have mZ:off<cs'.length:=(List.getElem?_eq_some_iff.1 h3).1;refine ae @di ?_;refine⟨Enters.sr (by kernel_rfl),(Wr true dB h3).mono fun O4 e4=>?_⟩;have jl:O4.hp k=some (.cells (cs'.set off (.v (.int .u32 1)))):=by rw[e4];exact VH.an _ _ _
 have h44:(cs'.set off (.v (.int .u32 1)))[off+1]?=some (.v (.int .i32 1)):=by rw[List.getElem?_set_ne (by omega)];exact h4
 refine⟨Enters.sr (by kernel_rfl),(Ws jl h44).mono fun O5 e5=>?_⟩;refine⟨O3,cs',CD,dB,?_⟩;rw[e5,e4];exact VH.set_set _ _ _ _
theorem aiH {g:FuncId} {xs:List MV} {Φ :VH->Prop} (hk:O.hp k=some (.cells cs)) (h0:cs[off]?=some (.v (.int .u32 0))) (h1:cs[off+1]?=some (.v (.int .i32 0))) (hg:c9 Tryz.prog g=true)
  (hC:VF Tryz.prog g xs (O.set k (.cells (cs.set (off+1) (.v (.int .i32 1))))) (aH fun _ O'=> Φ O'))
  (hΦ :∀O', Φ O'->∃cs',O'.hp k=some (.cells cs')/\cs'[off]?=some (.v (.int .u32 0))/\cs'[off+1]?=some (.v (.int .i32 1))):
  VF Tryz.prog 198 [.ptr k off,.func (.func g) [] xs] O (aH fun _ O'=>∃O1 cs', Φ O1/\O1.hp k=some (.cells cs')/\O'=O1.set k (.cells ((cs'.set off (.v (.int .u32 1))).set (off+1) (.v (.int .i32 0))))):=by
 refine VF.bL 12 [] Tryz.func198 ?_;refine VC.ag aa (ae @di ?_);refine ah.rt (MN hk h0) ?_;rintro _ O3 ⟨rfl,eO⟩;rw[eO];clear eO O3
 refine ae @di ?_;refine WC.sound aa (ae @di ?_);refine ah.rt (Wt hk h0 h1 hg hC hΦ) ?_;rintro m O3 h3;refine ae @di ?_;exact h3
end
structure Rec where
 b:Nat
 off:Nat
 name:Bs
 attrs:List (Bs×Bs)
 kids:List Nd
 q:MV
def iM (r:Rec):List MV:=[.str r.name,.sl r.attrs.length (r.attrs.flatMap a_) .au,r.q,.str []]
theorem rU (r:Rec):(iM r).length=4:=rfl
def oz (O:VH) (B k:Nat):List Rec->Prop
 | []=>True
 | [r]=>r.b=k/\r.off=0
 | r::p::rest=>(∃c,p.q= .bm r.b 0 (p.kids.length+1) c/\p.kids.length+1<=c/\Row O 112 4 B r.b c (aB p.kids++iM r))/\r.off=p.kids.length*4/\p.b<r.b/\oz O B k (p::rest)
def aiI (O:VH) (B:Nat):List Rec->Prop
 | []=>True
 | r::_=>GR O 112 4 B r.q r.kids.length (aB r.kids)/\∀i,gid r.q=some i->r.b<i
def oA:List Rec->List MV->List MV
 | [],z=>z
 | [r],_=>iM r
 | _::r::R,z=>oA (r::R) z
def gK (R:List Rec):List MV:=(R.map fun r=>MV.ptr r.b r.off).reverse
theorem qy (r:Rec) (R:List Rec):(gK (r::R))=gK R++[.ptr r.b r.off]:=by unfold gK;simp
theorem kH (R:List Rec):(gK R).length=R.length:=by unfold gK;simp
theorem eG:∀(R:List Rec) (z:List MV),z.length=4->(oA R z).length=4
 | [],z,h=>h
 | [r],_,_=>rfl
 | _::r::R,z,h=>eG (r::R) z h
structure BC (O:VH) (B k:Nat) (R:List Rec) (z tl:List MV):Prop where
 lt:k<B
 le:B<=O.next
 cells:O.hp k=some (.cells (oA R z++tl))
 zl:z.length=4
 chain:oz O B k R
 top:aiI O B R
def Kp (O O':VH) (S:List Nat):Prop:=O.next<=O'.next/\∀i,i<O.next->i ∉ S->O'.hp i=O.hp i
def Bl (O:VH) (S:List Nat):Prop:=∀x∈S,∀j t n,O.hp x≠some (.shape j t n)
theorem Bl.ne {O:VH} {S:List Nat} (h:Bl O S) {j i t n:Nat} (hj:O.hp j=some (.shape i t n)):j ∉ S:=fun hm=>h j hm _ _ _ hj
theorem Row.kp {O O':VH} {el:TypeId} {sz B k c:Nat} {L:List MV} {S:List Nat} (h:Row O el sz B k c L) (u:Kp O O' S) (hS:Bl O S) (hk:k ∉ S):Row O' el sz B k c L:=by
 obtain⟨⟨sp,h1,h2⟩,⟨j,h3,h4,h5⟩,h6,h7⟩:=h;exact⟨⟨sp,(u.2 k h7 hk).trans h1,h2⟩,⟨j,h3,Nat.lt_of_lt_of_le h4 u.1,(u.2 j h4 (hS.ne h5)).trans h5⟩,h6,Nat.lt_of_lt_of_le h7 u.1⟩
theorem Row.own {O O':VH} {el:TypeId} {sz B k c:Nat} {L L' sp:List MV} {S:List Nat} (h:Row O el sz B k c L) (u:Kp O O' S) (hS:Bl O S) (hc:O'.hp k=some (.cells (L'++sp))) (hl:(L'++sp).length=c*sz):Row O' el sz B k c L':=by
 obtain⟨_,⟨j,h3,h4,h5⟩,h6,h7⟩:=h;exact⟨⟨sp,hc,hl⟩,⟨j,h3,Nat.lt_of_lt_of_le h4 u.1,(u.2 j h4 (hS.ne h5)).trans h5⟩,h6,Nat.lt_of_lt_of_le h7 u.1⟩
theorem oz.lt {O:VH} {B k:Nat}:∀{R:List Rec} {r:Rec},oz O B k (r::R)->∀x∈R,x.b<r.b
 | [],_,_,x,hx=>by cases hx
 | p::R,r,h,x,hx=>by
   obtain⟨_,_,h3,h4⟩:=h;rcases List.mem_cons.1 hx with rfl | hx
   ·exact h3
   ·exact Nat.lt_trans (h4.lt x hx) h3
theorem oz.kp {O O':VH} {B k:Nat} {S:List Nat} (u:Kp O O' S) (hS:Bl O S):∀{R:List Rec},oz O B k R->(∀r∈R,r.b=k\/(∃cs,O.hp r.b=some (.cells cs))->r.b=k\/r.b ∉ S)->k<B->oz O' B k R
 | [],_,_,_=>trivial
 | [r],h,_,_=>h
 | r::p::rest,⟨⟨c,h1,h2,h3⟩,h4,h5,h6⟩,hn,hk=>⟨⟨c,h1,h2,h3.kp u hS (((hn r (by simp)) (.inr (by obtain⟨sp,e,_⟩:=h3.cells;exact⟨_,e⟩))).resolve_left fun e=>by have:=h3.lo;omega)⟩,h4,h5,h6.kp u hS (fun x hx=>hn x (by simp[hx])) hk⟩
theorem GR.lo {O:VH} {el:TypeId} {sz B n i:Nat} {p:MV} {L:List MV} (h:GR O el sz B p n L) (e:gid p=some i):B<=i/\i<O.next:=by
 rcases h with⟨_,_,hp | hp⟩ | ⟨k2,c,hp,_,_,ko⟩
 ·rw[hp]at e;cases e
 ·rw[hp]at e;cases e
 ·rw[hp]at e;injection e with e;subst e;exact⟨ko.lo,ko.hi⟩
theorem GR.kp {O O':VH} {el:TypeId} {sz B n:Nat} {p:MV} {L:List MV} {S:List Nat} (h:GR O el sz B p n L) (u:Kp O O' S) (hS:Bl O S) (hk:∀i,gid p=some i->i ∉ S):GR O' el sz B p n L:=by
 rcases h with h | ⟨k2,c,hp,h1,h2,ko⟩
 ·exact .inl h
 ·exact .inr ⟨k2,c,hp,h1,h2,ko.kp u hS (hk k2 (by rw[hp];rfl))⟩
theorem GR.MO {O:VH} {el:TypeId} {sz B n i:Nat} {p:MV} {L:List MV} (h:GR O el sz B p n L) (e:gid p=some i):∃cs,O.hp i=some (.cells cs):=by
 rcases h with⟨_,_,hp | hp⟩ | ⟨k2,c,hp,_,_,ko⟩
 ·rw[hp]at e;cases e
 ·rw[hp]at e;cases e
 ·rw[hp]at e;injection e with e;subst e
  obtain⟨sp,h1,_⟩:=ko.cells;exact⟨_,h1⟩
theorem BC.loc {O:VH} {B k:Nat} {r:Rec} {R:List Rec} {z tl:List MV} (h:BC O B k (r::R) z tl):∃pre post,O.hp r.b=some (.cells (pre++iM r++post))/\pre.length=r.off/\r.b<O.next/\(R=[]->r.b=k/\pre=[]/\post=tl)/\∀p rest,R=p::rest->pre=aB p.kids/\B<=r.b:=by
 cases R with
 | nil=>
   obtain⟨h1,h2⟩:=h.chain;refine⟨[],tl,?_,h2.symm,?_,fun _=>⟨h1,rfl,rfl⟩,fun p rest e=>by cases e⟩
   ·rw[h1];exact h.cells
   ·rw[h1];exact Nat.lt_of_lt_of_le h.lt h.le
 | cons p rest=>
   obtain⟨⟨c,_,_,ko⟩,ho,_,_⟩:=h.chain;obtain⟨sp,h1,h2⟩:=ko.cells;exact⟨aB p.kids,sp,h1,by rw[cR,ho],ko.hi,(fun e=>by cases e),fun p' aj0 e=>by injection e with e1 e2;subst e1;exact⟨rfl,ko.lo⟩⟩
theorem BC.part {O O':VH} {B k:Nat} {r r':Rec} {R:List Rec} {z tl pre post:List MV} {S:List Nat} (h:BC O B k (r::R) z tl) (hc:O.hp r.b=some (.cells (pre++iM r++post))) (hl:pre.length=r.off) (hR:R=[]->post=tl) (u:Kp O O' S) (hb:r'.b=r.b) (ho:r'.off=r.off)
  (hn:∀x∈S,x=r.b\/gid r.q=some x) (oa:O'.hp r.b=some (.cells (pre++iM r'++post))):O'.hp k=some (.cells (oA (r'::R) z++tl))/\oz O' B k (r'::R):=by
 have qW:=h.chain;have eb:=qW.lt;have iA:=h.top
 have hS:Bl O S:=fun x hx j t n e=>by
  rcases hn x hx with e2 | e2
  ·subst e2;rw[hc]at e;cases e
  ·obtain⟨cs,e3⟩:=iA.1.MO e2;rw[e3]at e;cases e
 cases R with
 | nil=>
   obtain⟨h1,h2⟩:=qW;have hp:pre=[]:=List.eq_nil_of_length_eq_zero (by rw[hl,h2]);subst hp;refine⟨?_,⟨by rw[hb,h1],by rw[ho,h2]⟩⟩;rw[<-h1,oa,hR rfl];rfl
 | cons p rest=>
   obtain⟨⟨c,e1,e2,ko⟩,e3,e4,e5⟩:=qW;have aiJ:=ko.lo
   have hkS:k ∉ S:=fun hm=>by
    have:=h.lt;rcases hn k hm with e | e
    ·omega
    ·have:=(iA.1.lo e).1;omega
   obtain⟨sp,sP,VN⟩:=ko.cells;rw[hc]at sP;injection sP with sP;injection sP with sP
   have dK:pre.length=(aB p.kids).length:=by rw[hl,e3,cR]
   rw[List.append_assoc,List.append_assoc]at sP;obtain⟨nv,qI⟩:=List.append_inj sP dK;obtain⟨_,oy⟩:=List.append_inj qI rfl;subst nv;subst oy
   refine⟨?_,⟨⟨c,by rw[e1,hb],e2,?_⟩,by rw[ho,e3],by rw[hb];exact e4,e5.kp u hS (fun x hx _=>?_) h.lt⟩⟩
   ·rw[u.2 k (Nat.lt_of_lt_of_le h.lt h.le) hkS];exact h.cells
   ·rw[hb];refine ko.own u hS oa ?_;rw[List.length_append,List.length_append,rU]at VN ⊢;exact VN
   ·refine .inr fun hm=>?_
    have h6:=eb x hx;rcases hn x.b hm with e | e
    ·omega
    ·have:=iA.2 _ e;omega
theorem BC.Jr {O O':VH} {B k:Nat} {r r':Rec} {R:List Rec} {z tl pre post:List MV} {S:List Nat} (h:BC O B k (r::R) z tl) (hc:O.hp r.b=some (.cells (pre++iM r++post))) (hl:pre.length=r.off) (hR:R=[]->post=tl) (u:Kp O O' S) (hb:r'.b=r.b) (ho:r'.off=r.off)
  (hn:∀x∈S,x=r.b\/gid r.q=some x) (oa:O'.hp r.b=some (.cells (pre++iM r'++post))) (ht:GR O' 112 4 B r'.q r'.kids.length (aB r'.kids)) (Pl:∀i,gid r'.q=some i->r.b<i):BC O' B k (r'::R) z tl:=by
 obtain⟨h1,h2⟩:=h.part hc hl hR u hb ho hn oa;exact⟨h.lt,Nat.le_trans h.le u.1,h1,h.zl,h2,⟨ht,fun i e=>by rw[hb];exact Pl i e⟩⟩
theorem BC.push {O O':VH} {B k k' c:Nat} {r:Rec} {R:List Rec} {z tl pre post:List MV} {S:List Nat} {nm:Bs} {fC:List (Bs×Bs)} (h:BC O B k (r::R) z tl) (hc:O.hp r.b=some (.cells (pre++iM r++post))) (hl:pre.length=r.off) (hR:R=[]->post=tl) (u:Kp O O' S)
  (hn:∀x∈S,x=r.b\/gid r.q=some x) (oa:O'.hp r.b=some (.cells (pre++iM {r with q:=.bm k' 0 (r.kids.length+1) c}++post))) (hk:gid r.q=some k'\/O.next<=k') (hlen:r.kids.length+1<=c)
  (ko:Row O' 112 4 B k' c (aB r.kids++iM ⟨k',r.kids.length*4,nm,fC,[],.sl 0 [] .nil⟩)):BC O' B k (⟨k',r.kids.length*4,nm,fC,[],.sl 0 [] .nil⟩::{r with q:=.bm k' 0 (r.kids.length+1) c}::R) z tl:=by
 obtain⟨h1,h2⟩:=h.part (r':={r with q:=.bm k' 0 (r.kids.length+1) c}) hc hl hR u rfl rfl hn oa
 have hrb:r.b<k':=by
  rcases hk with e | e
  ·exact h.top.2 _ e
  ·obtain⟨_,_,_,_,e2,_⟩:=h.loc;omega
 exact⟨h.lt,Nat.le_trans h.le u.1,h1,h.zl,⟨⟨c,rfl,hlen,ko⟩,rfl,hrb,h2⟩,⟨.inl ⟨rfl,by rw[aB],.inl rfl⟩,fun i e=>by cases e⟩⟩
theorem BC.step {O O':VH} {B k:Nat} {R:List Rec} {z z' tl tl':List MV} {S:List Nat} (h:BC O B k R z tl) (u:Kp O O' S) (hS:∀x∈S,x=k\/O.hp x=some .tok) (hc:O'.hp k=some (.cells (oA R z'++tl'))) (hz:z'.length=4):BC O' B k R z' tl':=by
 have hS2:Bl O S:=fun x hx j t n e=>by
  rcases hS x hx with e2 | e2
  ·subst e2;rw[h.cells]at e;cases e
  ·rw[e2]at e;cases e
 have hn:∀{i:Nat},(∃cs,O.hp i=some (.cells cs))->i≠k->i ∉ S:=fun{i} ⟨cs,e⟩ hne hm=>by
  rcases hS i hm with e2 | e2
  ·exact hne e2
  ·rw[e2]at e;cases e
 refine⟨h.lt,Nat.le_trans h.le u.1,hc,hz,h.chain.kp u hS2 (fun r _ hr=>?_) h.lt,?_⟩
 ·by_cases e:r.b=k
  ·exact .inl e
  ·exact .inr (hn (hr.resolve_left e) e)
 ·have ht:=h.top;cases R with
  | nil=>trivial
  | cons r R=>exact⟨ht.1.kp u hS2 (fun i e=>hn (ht.1.MO e) (by have:=(ht.1.lo e).1;have:=h.lt;omega)),ht.2⟩
theorem Kp.set {O:VH} {k:Nat} {x:bW}:Kp O (O.set k x) [k]:=⟨Nat.le_refl _,fun i _ hn=>VH.ak _ _ (by simpa using hn)⟩
theorem Kp.refl {O:VH} {S:List Nat}:Kp O O S:=⟨Nat.le_refl _,fun _ _ _=>rfl⟩
theorem Kp.trans {O O1 O2:VH} {S T:List Nat} (h:Kp O O1 S) (k:Kp O1 O2 T):Kp O O2 (S++T):=⟨Nat.le_trans h.1 k.1,fun i hi hn=>by
 rw[List.mem_append,not_or]at hn;rw[k.2 i (Nat.lt_of_lt_of_le hi h.1) hn.2,h.2 i hi hn.1]⟩
theorem Kp.ge {O O1:VH} (h:O.Ge O1) {S:List Nat}:Kp O O1 S:=⟨h.next,fun i hi _=>h.hp i hi⟩
theorem Kp.bn {O O1:VH} {q:Option Nat} (h:bl O q O1):Kp O O1 q.toList:=⟨h.next,fun i hi hn=>h.hp i hi fun e=>hn (by rw[e];simp)⟩
theorem Kp.k {O O1:VH} {tk:Tok} (h:cA tk O O1):Kp O O1 (Tok.id tk).toList:=⟨h.next,fun i hi hn=>h.hp i hi fun e=>hn (by rw[e];simp)⟩
theorem Kp.sub {O O1:VH} {S T:List Nat} (h:Kp O O1 S) (hs:∀x∈S,x∈T\/O.next<=x):Kp O O1 T:=⟨h.1,fun i hi hn=>h.2 i hi fun hm=>by
 rcases hs i hm with e | e
 ·exact hn e
 ·omega⟩
theorem BC.ge {O O':VH} {B k:Nat} {R:List Rec} {z tl:List MV} (h:BC O B k R z tl) (g:O.Ge O'):BC O' B k R z tl:=
 h.step (S:=[]) (Kp.ge g) (fun x hx=>by cases hx) ((g.hp _ (Nat.lt_of_lt_of_le h.lt h.le)).trans h.cells) h.zl
def oU (R:List Rec) (tk:Tok) (bQ:Nat) (dn tx:Bool):List MV:=[.sl R.length (gK R) tk,mi bQ,mb dn,mb tx]
structure BS (O:VH) (B k:Nat) (R:List Rec) (tk:Tok) (bQ:Nat) (dn tx:Bool) (z:List MV):Prop where
 c:BC O B k R z (oU R tk bQ dn tx)
 a:App O B 1 tk
theorem BS.ge {O O':VH} {B k bQ:Nat} {R:List Rec} {tk:Tok} {dn tx:Bool} {z:List MV} (h:BS O B k R tk bQ dn tx z) (g:O.Ge O'):BS O' B k R tk bQ dn tx z:=⟨h.c.ge g,h.a.ge g⟩
def dy (k:Nat) (R:List Rec) (tk:Tok):List Nat:=k::(R.map (·.b)++(R.head?.bind fun r=>gid r.q).toList++(Tok.id tk).toList)
theorem m4 {k:Nat} {R:List Rec} {tk:Tok}:k∈dy k R tk:=by simp[dy]
theorem oV {k:Nat} {r:Rec} {R:List Rec} {tk:Tok}:r.b∈dy k (r::R) tk:=by simp[dy]
theorem m5 {k x:Nat} {r:Rec} {R:List Rec} {tk:Tok} (h:gid r.q=some x):x∈dy k (r::R) tk:=by simp[dy,h]
theorem C3 {k x:Nat} {R:List Rec} {tk:Tok} (h:Tok.id tk=some x):x∈dy k R tk:=by simp[dy,h]
theorem Am {k:Nat} {r:Rec} {R:List Rec} {tk:Tok} (h:r∈R):r.b∈dy k R tk:=by
 have:=List.mem_map_of_mem (f:=fun r:Rec=>r.b) h;simp only[dy,List.mem_cons,List.mem_append];exact .inr (.inl (.inl this))
theorem Kp.more {O O1 O2:VH} {U S:List Nat} (h:Kp O O1 U) (k:Kp O1 O2 S) (hs:∀x∈S,x∈U\/O.next<=x):Kp O O2 U:=⟨Nat.le_trans h.1 k.1,fun i hi hn=>by
 rw[k.2 i (Nat.lt_of_lt_of_le hi h.1) (fun hm=>(hs i hm).elim hn fun e=>by omega),h.2 i hi hn]⟩
set_option linter.defProp false in
def aD:=And.intro dI<|And.intro aid<|And.intro aic<|And.intro L3<|And.intro L4 nU
theorem qz {l:List MV} (h:l.length=4):∃a b c d,l=[a,b,c,d]:=by
 match l,h with
 | [a,b,c,d],_=>exact⟨_,_,_,_,rfl⟩
theorem App.xk {O:VH} {B sz k:Nat} {tk:Tok} {x:bW} (h:App O B sz tk) (hk:k<B):App (O.set k x) B sz tk:=by
 cases tk with
 | own t j=>exact⟨h.1,(VH.ak _ _ (by have:=h.2.2.1;omega)).trans h.2.1,h.2.2.1,h.2.2.2⟩
 | nil=>trivial
 | full=>trivial
 | au=>exact h.elim
theorem BS.flag {O:VH} {B k bQ cnt':Nat} {R:List Rec} {tk:Tok} {dn tx dn' tx':Bool} {z:List MV} (h:BS O B k R tk bQ dn tx z):BS (O.set k (.cells (oA R z++oU R tk cnt' dn' tx'))) B k R tk cnt' dn' tx' z:=
 ⟨h.c.step Kp.set (fun x hx=>.inl (by simpa using hx)) (VH.an _ _ _) h.c.zl,h.a.xk h.c.lt⟩
theorem aaw {O:VH} {B k bQ:Nat} {R:List Rec} {tk:Tok} {dn tx:Bool} {z:List MV} (h:BS O B k R tk bQ dn tx z) (hc:bQ<=1000000):
  VF Tryz.prog 294 [.ptr k 0] O (aH fun m O'=>m=mb (decide (bQ+1<=4096))/\BS O' B k R tk (bQ+1) dn tx z/\Kp O O' [k]):=by
 have hk:=h.c.cells;obtain⟨a0,a1,a2,a3,hr⟩:=qz (eG R z h.c.zl);have mq:=h.flag (cnt':=bQ+1) (dn':=dn) (tx':=tx);unfold oU at hk mq;rw[hr]at hk mq;simp only[ar,aY,List.cons_append,List.nil_append]at hk mq;refine VF.dh 15 [.tmp 2] Tryz.func294 ?_;by_cases h1:bQ+1<=4096
 ·rw[decide_eq_true h1];refine ao @aD @hk ?_;exact⟨mq,Kp.set⟩
 ·rw[decide_eq_false h1];refine ao @aD @hk ?_;exact⟨mq,Kp.set⟩
theorem Fb {O:VH} {B k bQ:Nat} {r:Rec} {R:List Rec} {tk:Tok} {dn tx:Bool} {z:List MV} (h:BS O B k (r::R) tk bQ dn tx z) (hl:R.length<=1000):
  VF Tryz.prog 269 [.ptr k 0] O (aH fun m O'=>m= .ptr r.b r.off/\O'=O):=by
 have hk:=h.c.cells;obtain⟨a0,a1,a2,a3,hr⟩:=qz (eG (r::R) z h.c.zl);unfold oU at hk;rw[hr]at hk
 have br:(gK (r::R))[R.length]?=some (.ptr r.b r.off):=by
  rw[qy,List.getElem?_append_right (by rw[kH];exact Nat.le_refl _),kH,Nat.sub_self];rfl
 have hCl:(gK (r::R)).length=R.length+1:=by rw[kH];rfl
 generalize gK (r::R)=C at*;simp only[ar,aY,List.cons_append,List.nil_append,List.length_cons]at hk;have qT:(((R.length+1:Nat):Int) - 1)=(R.length:Int):=by omega
 refine VF.bL 15 [.tmp 2] Tryz.func269 ?_;refine VC.ag aa (ae @aD ?_);refine VC.bj ?_;refine WC.reads ?_;refine ia @aD @hk @qT @br @uM ?_;refine WC.sound aa (ae @aD ?_);trivial
def qY (R:List Rec):List (Bs×List (Bs×Bs)×List Nd):=R.map fun r=>(r.name,r.attrs,r.kids)
def qA (n bQ:Nat) (dn:Bool):Option Int:=if dn then some 16 else if 64<=n then some 2 else if 4096<bQ+1 then some 2 else none
theorem VH.set_comm {O:VH} {a b:Nat} {x y:bW} (h:a≠b):(O.set a x).set b y=(O.set b y).set a x:=by
 have key:bn (bn O.hp a (some x)) b (some y)=bn (bn O.hp b (some y)) a (some x):=by
  funext j
  by_cases e:j=a
  ·subst e;rw[ax _ _ h,aE,aE]
  ·by_cases e2:j=b
   ·subst e2;rw[aE,ax _ _ e,aE]
   ·rw[ax _ _ e2,ax _ _ e,ax _ _ e,ax _ _ e2]
 unfold VH.set;dsimp only;rw[key]
section
variable {G H:Gh} {n:Sz} {D:List Deferred} {e:Env} {a:Act} {P:Program} {tab:bV} {O O':VH} {w:World} {m:MV} {ops:Array Oper} {Q:VQ}
theorem bD.afb {brk:List Nat} {fuel i:Nat} {listed:Array Bool} {l:List Oper} {o:Oper} (ho:l[i]?=some o) (hr:Region.ready .any ⟨l⟩ listed=[i]) (hb:brk.contains i=false) (hA:F1 o.op=true)
  (hg:aK ⟨l⟩ o e=some true) (hy:∀G a w,WR G O w->FR G n D e a->df P o a w G m O') (hd:bh n o.dst=true) (h:bD P n D ⟨l⟩ brk fuel (listed.setIfInBounds i true) (aV o.dst m e) O' Q):bD P n D ⟨l⟩ brk (fuel+1) listed e O Q:=by
 intro G a w hw aS;refine jn hr (by simp) fun j hj=>?_
 obtain rfl:j=i:=by simpa using hj
 obtain⟨nx,w',H,u,bU,qh,h1,h2,h3,h4⟩:=hy G a w hw aS;have CF:(⟨l⟩:Array Oper)[j]?=some o:=by simpa using ho
 simp only[wpOp,CF,bd aS hg,if_true];refine .inl ?_;unfold Oper.wp;rw[bU];have hk:=h H (a.put o.dst u) w' h2 ((aS.mono h1).aV hd h3)
 have X7:TH brk G w j w'/\iT P .any ⟨l⟩ (cg G n D Q) (TH brk G w) fuel (listed.setIfInBounds j true) (a.put o.dst u) w':=by
  have pc:=h4 hA;have hs:Sx G w w':=⟨SS.le h1 h2.ss,pc⟩;refine⟨fun _=>hs,jo (fun _ _ _=>cg.le h1) _ _ _ _ (fun k _ x hT Dx=>?_) hk⟩;obtain⟨g1,g2⟩:=hT Dx;exact⟨SS.le h1 g1,fun k' b mz=>(g2 k' b (h1.bJ mz)).trans (pc k' b mz)⟩
 rcases qh with rfl | ⟨rfl,rfl⟩<;>exact X7
end
theorem aax {G:Gh} {n:Sz} {D:List Deferred} {e:Env} {a:Act} {O:VH} {w:World} {d:Option Tmp} {ty:TypeId} {ps:String} {af:Array Edge} {g:Option (Nat×Bool)} (hw:WR G O w) (hf:FR G n D e a):df Tryz.prog (.mk d (.buildSlice 110 1 #[(0,.const (.agg #[.string ⟨⟨[]⟩⟩,.slice none 0 0,.slice none 0 0,.string ⟨⟨[]⟩⟩]))]) ty ps af g) a w G (.sl 1 [.str [],.sl 0 [] .nil,.sl 0 [] .nil,.str []] .full) O:=
 df.of (s_ (t:=110) (len:=1) (m:=.sl 1 [.str [],.sl 0 [] .nil,.sl 0 [] .nil,.str []] .full) (parts:=[(0,.agg [.str [],.sl 0 [] .nil,.sl 0 [] .nil,.str []])]) (ps:= #[(0,.agg #[.string ⟨⟨[]⟩⟩,.slice none 0 0,.slice none 0 0,.string ⟨⟨[]⟩⟩])]) aa hw (by kernel_rfl) rfl
  (aO.cons (.agg (us:=[.string ⟨⟨[]⟩⟩,.slice none 0 0,.slice none 0 0,.string ⟨⟨[]⟩⟩]) rfl (aO.cons .str (aO.cons .slnil (aO.cons .slnil (aO.cons .str aO.nil)))).2) aO.nil)) (by simp[execOp,Act.eval])
theorem afc (L sp:List MV) (x y z w a b c d:MV):((((L++[x,y,z,w]++sp).set L.length a).set (L.length+1) b).set (L.length+1+1) c).set (L.length+1+1+1) d=L++[a,b,c,d]++sp:=by
 induction L with
 | nil=>rfl
 | cons e L ih=>
   simp only[List.cons_append,List.length_cons,List.set_cons_succ];rw[ih]
theorem App.MP {O O':VH} {B sz:Nat} {tk:Tok} {S:List Nat} (h:App O B sz tk) (u:Kp O O' S) (hS:∀x∈S,O.hp x≠some .tok):App O' B sz tk:=by
 cases tk with
 | own t k=>exact⟨h.1,(u.2 t h.2.2.2 (fun hm=>hS t hm h.2.1)).trans h.2.1,h.2.2.1,Nat.lt_of_lt_of_le h.2.2.2 u.1⟩
 | nil=>trivial
 | full=>trivial
 | au=>exact h.elim
theorem SV {O:VH} {B n:Nat} {p:MV} {L:List MV} (h:GR O 112 4 B p n L):iW (eA Tryz.prog) 110 p=some (.v (.int .i64 n)):=by
 rcases h with⟨rfl,_,rfl | rfl⟩ | ⟨k,c,rfl,_⟩
 ·exact gR nU
 ·exact gR nU
 ·exact Hk nU
theorem aay {O:VH} {B k bQ:Nat} {R:List Rec} {tk:Tok} {dn tx:Bool} {z:List MV} (h:BS O B k R tk bQ dn tx z) (hc:bQ<=1000000) (kd:Int) (nm tt:Bs) (fC:List (Bs×Bs)) (p1 p2 p3:Int) (HX:fC.length<=100000) (kU:∀r∈R,r.kids.length<=1000000):
  VF Tryz.prog 267 [.ptr k 0,.agg [mi kd,.str nm,.sl fC.length (fC.flatMap a_) .au,.str tt,mi p1,mi p2,mi p3]] O (aH fun m O'=>Kp O O' (dy k R tk)/\match qA R.length bQ dn with
   | some e=>m=mi e
   | none=>m=mi 0/\∃R' tk',BS O' B k R' tk' (bQ+1) false false z/\qY R'=(nm,fC,[])::qY R/\∀x∈dy k R' tk',x∈dy k R tk\/O.next<=x):=by
 obtain⟨a0,a1,a2,a3,hr⟩:=qz (eG R z h.c.zl);have gx:=h.c.lt;have hBn:=h.c.le;simp only[ar];refine VF.bL 87 [.tmp 4] Tryz.func267 ?_;refine VC.ag aa (ae @aD ?_);refine VC.bx ?_;rintro O1 ⟨aU,CJ,du⟩;have h1:=h.ge aU;have dN:=h1.c.cells;unfold oU at dN;rw[hr]at dN;simp only[ar,aY,List.cons_append,List.nil_append]at dN;have je:Kp O O1 (dy k R tk):=Kp.ge aU;have vq:∀x∈[k],x∈dy k R tk\/O.next<=x:=fun x hx=>.inl (by rw[List.mem_singleton]at hx;rw[hx];exact m4)
 cases dn;rotate_left
 ·refine VC.ag aa (ao @aD @dN ?_);exact⟨je,rfl⟩
 by_cases Es:64<=R.length
 ·have hE:qA R.length bQ false=some 2:=by unfold qA;rw[if_neg (by simp),if_pos Es]
  rw[hE];refine VC.ag aa (ao @aD @dN ?_);exact je
 refine VC.ag aa (ao @aD @dN ?_);refine ah.rt (aaw h1 hc) ?_;rintro _ O2 ⟨rfl,h2,cZ⟩;by_cases EB:bQ+1<=4096;rotate_left
 ·have hE:qA R.length bQ false=some 2:=by unfold qA;rw[if_neg (by simp),if_neg Es,if_pos (by omega)]
  rw[hE,decide_eq_false EB];refine ae @aD ?_;exact je.more cZ vq
 have hE:qA R.length bQ false=none:=by unfold qA;rw[if_neg (by simp),if_neg Es,if_neg (by omega)]
 rw[hE,decide_eq_true EB];dsimp only;refine ae @aD ?_;have QX:Kp O O2 (dy k R tk):=je.more cZ vq;have Fc:=(cZ.2 _ (by omega) (by simp;omega)).trans CJ;have jB:=cZ.1;refine VC.ag aa (ao @aD @Fc ?_);refine VC.al ?_;rintro O3 ⟨aL,kV,iH⟩;have h3:=h2.ge aL;have dB:=h3.c.cells;have Bm:Kp O O3 (dy k R tk):=QX.more (Kp.ge aL (S:=[])) (fun x hx=>by cases hx);have hR:R.length<64:=by omega
 cases R with
 | nil=>
   obtain rfl:z=[a0,a1,a2,a3]:=hr;unfold oU at dB;simp only[oA,gK,List.map_nil,List.reverse_nil,List.length_nil,ar,aY,List.cons_append,List.nil_append]at dB;refine VC.ag aa (aN @aD @dB @kV ?_);refine VC.gen ?_;intro O4 oT;have jl:O4.hp k=some (.cells [.str nm,.sl fC.length (fC.flatMap a_) .au,.sl 0 [] .nil,.str [],.sl 0 [] tk,.v (.int .i64 (bQ+1:Nat)),.v (.bool false),.v (.bool tx)]):=by rw[oT];exact VH.an _ _ _
   have lU:App O4 B 1 tk:=by rw[oT];exact h3.a.xk gx
   have ib:O4.next=O3.next:=by rw[oT];rfl
   have agU:Kp O O4 (dy k [] tk):=Bm.more (S:=[k]) (by rw[oT];exact Kp.set) vq;clear oT;refine WC.bH (.held [12]) [(0,.rd),(1,.rd),(2,.rd),(3,.rd),(4,.rd),(5,.rd),(6,.rd),(7,.rd),(8,.one),(9,.one),(10,.one),(11,.rd),(12,.one)] ?_;refine ao @aD @jl ?_;have cB:=bg (tk':=.full) (n:=0) (k:=1) (cs:=[]) (ds:=[.ptr k 0]) L3 L4 lU rfl rfl rfl (by decide) (by decide) (by decide) (by decide);refine VL.app cB ?_;have fJ:=VH.AP lU jl (by simp) (by omega);have gD:=VH.fi O4 tk;have ft:App (O4.after tk) B 1 (.own O4.next 1):=App.after (by omega);have sQ:Kp O (O4.after tk) (dy k [] tk):=agU.more (Kp.k (cA.after lU)) (fun x hx=>.inl (C3 (by simpa using hx)));generalize O4.after tk=O5 at*;refine ao @aD @fJ ?_;refine VC.gen ?_;intro O6 Bh;have nj:O6.hp k=some (.cells [.str nm,.sl fC.length (fC.flatMap a_) .au,.sl 0 [] .nil,.str [],.sl 1 [.ptr k 0] (.own O4.next 1),.v (.int .i64 (bQ+1:Nat)),.v (.bool false),.v (.bool tx)]):=by rw[Bh];exact VH.an _ _ _
   have sR:App O6 B 1 (.own O4.next 1):=by rw[Bh];exact ft.xk gx
   have Fe:Kp O O6 (dy k [] tk):=sQ.more (S:=[k]) (by rw[Bh];exact Kp.set) vq;have lS:O6.next=O5.next:=by rw[Bh];rfl
   clear Bh;refine VC.ag aa (ao @aD @nj ?_);refine WC.sound aa (ae @aD ?_);refine⟨Fe.more Kp.set vq,[⟨k,0,nm,fC,[],.sl 0 [] .nil⟩],.own O4.next 1,⟨⟨gx,by rw[VH.eJ];omega,?_,rfl,⟨rfl,rfl⟩,⟨.inl ⟨rfl,by rw[aB],.inl rfl⟩,(fun i e=>by cases e)⟩⟩,sR.xk gx⟩,rfl,fun x hx=>?_⟩
   ·rw[VH.an];rfl
   ·have hx:x∈[k,k,O4.next]:=hx;simp only[List.mem_cons,List.not_mem_nil,or_false]at hx;rcases hx with rfl | rfl | rfl
    ·exact .inl m4
    ·exact .inl m4
    ·exact .inr (by omega)
 | cons r R=>
   unfold oU at dB;rw[hr]at dB;simp only[ar,aY,List.cons_append,List.nil_append,List.length_cons]at dB;obtain⟨pre,post,eR,dK,Cj,Bo,hR2⟩:=h3.c.loc;have iA:=h3.c.top;refine VC.ag aa (ao @aD @dB ?_);refine ah.rt (Fb h3 (by rw[List.length_cons]at hR;omega)) ?_;rintro _ O9 ⟨rfl,eO⟩;rw[eO];clear eO O9
   refine ae @aD ?_;have hkr:=kU r (by simp)
   have Wu:(pre++iM r++post)[r.off+2]?=some r.q:=by
    rw[List.append_assoc,List.getElem?_append_right (by omega), <-dK,Nat.add_sub_cancel_left];rfl
   have mr:∀q',(pre++iM r++post).set (r.off+2) q'=pre++iM {r with q:=q'}++post:=fun q'=>by
    rw[List.append_assoc,List.set_append_right _ _ (by omega), <-dK,Nat.add_sub_cancel_left,List.append_assoc];rfl
   have hlC:(pre++iM r++post).length=pre.length+4+post.length:=by simp[rU];omega
   generalize hC:pre++iM r++post=C at*;refine VC.IG [7,8,9,10,11,12] (by kernel_rfl) ?_;refine bD.Bd 0 ?_;refine ae @aD ?_;refine bD.Bd 1 ?_;refine ae @aD ?_;refine bD.Bd 2 ?_;refine ae @aD ?_;refine bD.Bd 3 ?_;refine aN @aD @eR @Wu ?_;refine bD.Bd 4 ?_;refine ao @aD @kV ?_;have jy:=SV iA.1;refine bD.Bd 5 ?_;refine ao @aD @jy ?_;refine bD.afb (i:=6) rfl (by kernel_rfl) (by kernel_rfl) rfl rfl (fun _ _ _ hw hf=>aax hw hf) rfl ?_;simp only[aj];refine bD.fin (by kernel_rfl) ?_;refine bY.st (i:=7) rfl (by kernel_rfl) rfl rfl (QI aa (te:=⟨_,4,80,_⟩) (dx:=.slice 112) (q:=.sl 1 [.str [],.sl 0 [] .nil,.sl 0 [] .nil,.str []] .full) (j:=1) (ds:=[.str [],.sl 0 [] .nil,.sl 0 [] .nil,.str []]) iA.1 rfl rfl (by rw[nU];rfl) tq.1.1 (by rw[nU];rfl) trivial (by dsimp only;omega) (by simp only[maxLen];omega) (by omega) rfl rfl) ?_;rintro m O4 ⟨wS,nG,ik,hm⟩
   obtain⟨k2,c2,rfl,bt⟩:∃k2 c2,m= .bm k2 0 (r.kids.length+1) c2/\(gid r.q=some k2\/O3.next<=k2):=by
    rcases hm with⟨k2,c2,h1,h2⟩ | ⟨h1,_⟩
    ·exact⟨k2,c2,h1,h2.imp id And.left⟩
    ·cases h1
   obtain⟨cH,zF⟩:Row O4 112 4 B k2 c2 (aB r.kids++[.str [],.sl 0 [] .nil,.sl 0 [] .nil,.str []])/\r.kids.length+1<=c2:=by
    rcases wS with⟨h1,_⟩ | ⟨k3,c3,h1,h2,_,h4⟩
    ·omega
    ·injection h1 with h1 _ _ h3;subst h1;subst h3;exact⟨h4,h2⟩
   have aaz:r.b<k2:=by
    rcases bt with e | e
    ·exact iA.2 _ e
    ·omega
   have aiK:=nG.next;have ff:O4.hp r.b=some (.cells C):=(nG.hp _ Cj (fun e=>by have:=iA.2 _ e;omega)).trans eR;obtain⟨sp,sS,EU⟩:=cH.cells;simp only[aj];have rz:=cR r.kids
   have qZ:∀a b c d:MV,((((aB r.kids++([.str [],.sl 0 [] .nil,.sl 0 [] .nil,.str []]:List MV)++sp).set (r.kids.length*4) a).set (r.kids.length*4+1) b).set (r.kids.length*4+1+1) c).set (r.kids.length*4+1+1+1) d=aB r.kids++[a,b,c,d]++sp:=fun a b c d=>by
    rw[<-rz];exact afc _ _ _ _ _ _ _ _ _ _
   generalize Dv:aB r.kids++[.str [],.sl 0 [] .nil,.sl 0 [] .nil,.str []]++sp=C2 at*;refine bY.Hw 8 ?_;refine ae @aD ?_;refine bY.Hw 10 ?_;refine ae @aD ?_;refine bY.Hw 11 ?_;refine ae @aD ?_;refine bY.two (i:=9) (j:=12) (by kernel_rfl) ?_ ?_
   ·refine aI.o1 ?_;refine aN @aD @sS @qZ ?_;refine bY.SM (i:=12) ?_;refine aN @aD @ff @mr ?_;refine bY.bH [] ?_;refine WL.gen ?_;intro O5 lW;have gD:O5.next=O4.next:=by rw[lW];rfl
    have fA:O5.hp r.b=some (.cells (pre++iM {r with q:=.bm k2 0 (r.kids.length+1) c2}++post)):=by rw[lW];exact VH.an _ _ _
    have An:O5.hp k2=some (.cells (aB r.kids++iM ⟨k2,r.kids.length*4,nm,fC,[],.sl 0 [] .nil⟩++sp)):=by rw[lW];exact VH.sn (VH.an _ _ _)
    have u4:Kp O4 O5 [k2,r.b]:=by rw[lW];exact Kp.trans (S:=[k2]) (T:=[r.b]) Kp.set Kp.set
    clear lW
    have QY:Bl O4 [k2,r.b]:=fun x hx j t n e=>by
     simp only[List.mem_cons,List.not_mem_nil,or_false]at hx;rcases hx with rfl | rfl
     ·rw[sS]at e;cases e
     ·rw[ff]at e;cases e
    have QZ:Row O5 112 4 B k2 c2 (aB r.kids++iM ⟨k2,r.kids.length*4,nm,fC,[],.sl 0 [] .nil⟩):=cH.own u4 QY An (by rw[<-EU, <-Dv];simp[rU];omega)
    have u3:Kp O3 O5 (r.b::(gid r.q).toList):=((Kp.bn nG).trans u4).sub (fun x hx=>by
     simp only[List.mem_append,List.mem_cons,List.not_mem_nil,or_false]at hx ⊢;rcases hx with hx | hx | hx
     ·exact .inl (.inr hx)
     ·rcases bt with e | e
      ·rw[e];simp[hx]
      ·exact .inr (by omega)
     ·exact .inl (.inl hx))
    have nZ:∀x∈r.b::(gid r.q).toList,x=r.b\/gid r.q=some x:=fun x hx=>by
     rcases List.mem_cons.1 hx with e | e
     ·exact .inl e
     ·exact .inr (by simpa using e)
    have Js:BC O5 B k _ z (oU (r::R) tk (bQ+1) false tx):=h3.c.push (by rw[hC];exact eR) dK (fun e=>(Bo e).2.2) u3 nZ fA bt zF QZ
    have ft:App O5 B 1 tk:=by
     refine h3.a.MP u3 fun x hx e=>?_
     rcases nZ x hx with e2 | e2
     ·subst e2;rw[eR]at e;cases e
     ·obtain⟨cs,e3⟩:=iA.1.MO e2;rw[e3]at e;cases e
    have sQ:Kp O O5 (dy k (r::R) tk):=Bm.more u3 (fun x hx=>by
     rcases nZ x hx with e | e
     ·rw[e];exact .inl oV
     ·exact .inl (m5 e))
    obtain⟨b0,b1,b2,b3,kI⟩:=qz (eG (⟨k2,r.kids.length*4,nm,fC,[],.sl 0 [] .nil⟩::{r with q:=.bm k2 0 (r.kids.length+1) c2}::R) z h.c.zl);have fJ:=Js.cells;unfold oU at fJ;rw[kI]at fJ;have hP:=kH (r::R);generalize hPG:gK (r::R)=PT at*;simp only[ar,aY,List.cons_append,List.nil_append,List.length_cons]at fJ hP
    have aaA:(pre++iM {r with q:=.bm k2 0 (r.kids.length+1) c2}++post)[r.off+2]?=some (.bm k2 0 (r.kids.length+1) c2):=by
     rw[List.append_assoc,List.getElem?_append_right (by omega), <-dK,Nat.add_sub_cancel_left];rfl
    generalize pre++iM {r with q:=.bm k2 0 (r.kids.length+1) c2}++post=C5 at*;have qT:(((r.kids.length+1:Nat):Int) - 1)=(r.kids.length:Int):=by omega
    refine ae @aD ?_;refine WC.bH (.held [20]) [(0,.rd),(1,.rd),(2,.rd),(3,.rd),(4,.rd),(5,.rd),(6,.rd),(7,.rd),(8,.rd),(9,.rd),(10,.rd),(11,.rd),(12,.rd),(13,.rd),(14,.rd),(15,.rd),(16,.one),(17,.one),(18,.one),(19,.rd),(20,.one)] ?_;refine AW @aD @fJ @fA @aaA @qT @uM ?_;have cB:=bg (tk':=.full) (n:=R.length+1) (k:=1) (cs:=PT) (ds:=[.ptr k2 (r.kids.length*4)]) L3 L4 ft (by rw[hP,Nat.mul_one]) rfl rfl (by decide) (by decide) (by simp only[List.length_cons]at hR;omega) (by simp only[List.length_cons,maxLen]at hR ⊢;omega);refine VL.app cB ?_;have nj:=VH.AP ft fJ (by simp) (by omega);have lS:=VH.fi O5 tk;have sR:App (O5.after tk) B 1 (.own O5.next 1):=App.after (by omega);have u6:Kp O5 (O5.after tk) (Tok.id tk).toList:=Kp.k (cA.after ft)
    have fl:∀x∈(Tok.id tk).toList,O5.hp x=some .tok/\B<=x:=fun x hx=>by
     have e:Tok.id tk=some x:=by simpa using hx
     cases tk with
     | own s j=>injection e with e;subst e;exact⟨ft.2.1,ft.2.2.1⟩
     | _=>cases e
    have Fe:Kp O (O5.after tk) (dy k (r::R) tk):=sQ.more u6 (fun x hx=>.inl (C3 (by simpa using hx)));have aaB:BC (O5.after tk) B k _ z _:=Js.step (tl':=[.sl (R.length+1) PT tk,mi (bQ+1:Nat),mb false,mb tx]) u6 (fun x hx=>.inr (fl x hx).1) (by rw[kI];exact nj) h.c.zl;generalize O5.after tk=O6 at*;refine ao @aD @nj ?_;refine VC.gen ?_;intro O7 pW;have tT:O7.hp k=some (.cells [b0,b1,b2,b3,.sl (R.length+1+1) (PT++[.ptr k2 (r.kids.length*4)]) (.own O5.next 1),.v (.int .i64 (bQ+1:Nat)),.v (.bool false),.v (.bool tx)]):=by rw[pW];exact VH.an _ _ _
    have Jt:App O7 B 1 (.own O5.next 1):=by rw[pW];exact sR.xk gx
    have Q0:Kp O O7 (dy k (r::R) tk):=Fe.more (S:=[k]) (by rw[pW];exact Kp.set) vq;have rM:O7.next=O6.next:=by rw[pW];rfl
    have aaC:BC O7 B k _ z [.sl (R.length+1+1) (PT++[.ptr k2 (r.kids.length*4)]) (.own O5.next 1),.v (.int .i64 (bQ+1:Nat)),.v (.bool false),.v (.bool tx)]:=aaB.step (S:=[k]) (by rw[pW];exact Kp.set) (fun x hx=>.inl (by simpa using hx)) (by rw[kI];exact tT) h.c.zl;clear pW;refine VC.ag aa (ao @aD @tT ?_);refine WC.sound aa (ae @aD ?_);refine⟨Q0.more Kp.set vq,⟨k2,r.kids.length*4,nm,fC,[],.sl 0 [] .nil⟩::{r with q:=.bm k2 0 (r.kids.length+1) c2}::R,.own O5.next 1,⟨aaC.step (S:=[k]) Kp.set (fun x hx=>.inl (by simpa using hx)) ?_ h.c.zl,Jt.xk gx⟩,rfl,fun x hx=>?_⟩;rotate_left
    ·have hx:x∈k::((k2::r.b::R.map (·.b))++[]++[O5.next]):=hx;simp only[List.mem_cons,List.mem_append,List.append_nil,List.not_mem_nil,or_false,List.mem_map]at hx;rcases hx with rfl | (rfl | rfl | ⟨g,hg,rfl⟩) | rfl
     ·exact .inl m4
     ·rcases bt with e | e
      ·exact .inl (m5 e)
      ·exact .inr (by omega)
     ·exact .inl oV
     ·exact .inl (Am (List.mem_cons_of_mem _ hg))
     ·exact .inr (by omega)
    rw[VH.an,kI, <-hPG];have e:gK (⟨k2,r.kids.length*4,nm,fC,[],.sl 0 [] .nil⟩::{r with q:=.bm k2 0 (r.kids.length+1) c2}::R)=gK (r::R)++[.ptr k2 (r.kids.length*4)]:=qy _ _;unfold oU;rw[e];rfl
   ·refine aI.o1 ?_;refine aN @aD @ff @mr ?_;refine bY.SM (i:=9) ?_;refine aN @aD @sS @qZ ?_;refine bY.bH [] ?_;refine WL.gen ?_;intro O5 lW;rw[VH.set_comm (by omega)]at lW;have gD:O5.next=O4.next:=by rw[lW];rfl
    have fA:O5.hp r.b=some (.cells (pre++iM {r with q:=.bm k2 0 (r.kids.length+1) c2}++post)):=by rw[lW];exact VH.an _ _ _
    have An:O5.hp k2=some (.cells (aB r.kids++iM ⟨k2,r.kids.length*4,nm,fC,[],.sl 0 [] .nil⟩++sp)):=by rw[lW];exact VH.sn (VH.an _ _ _)
    have u4:Kp O4 O5 [k2,r.b]:=by rw[lW];exact Kp.trans (S:=[k2]) (T:=[r.b]) Kp.set Kp.set
    clear lW
    have QY:Bl O4 [k2,r.b]:=fun x hx j t n e=>by
     simp only[List.mem_cons,List.not_mem_nil,or_false]at hx;rcases hx with rfl | rfl
     ·rw[sS]at e;cases e
     ·rw[ff]at e;cases e
    have QZ:Row O5 112 4 B k2 c2 (aB r.kids++iM ⟨k2,r.kids.length*4,nm,fC,[],.sl 0 [] .nil⟩):=cH.own u4 QY An (by rw[<-EU, <-Dv];simp[rU];omega)
    have u3:Kp O3 O5 (r.b::(gid r.q).toList):=((Kp.bn nG).trans u4).sub (fun x hx=>by
     simp only[List.mem_append,List.mem_cons,List.not_mem_nil,or_false]at hx ⊢;rcases hx with hx | hx | hx
     ·exact .inl (.inr hx)
     ·rcases bt with e | e
      ·rw[e];simp[hx]
      ·exact .inr (by omega)
     ·exact .inl (.inl hx))
    have nZ:∀x∈r.b::(gid r.q).toList,x=r.b\/gid r.q=some x:=fun x hx=>by
     rcases List.mem_cons.1 hx with e | e
     ·exact .inl e
     ·exact .inr (by simpa using e)
    have Js:BC O5 B k _ z (oU (r::R) tk (bQ+1) false tx):=h3.c.push (by rw[hC];exact eR) dK (fun e=>(Bo e).2.2) u3 nZ fA bt zF QZ
    have ft:App O5 B 1 tk:=by
     refine h3.a.MP u3 fun x hx e=>?_
     rcases nZ x hx with e2 | e2
     ·subst e2;rw[eR]at e;cases e
     ·obtain⟨cs,e3⟩:=iA.1.MO e2;rw[e3]at e;cases e
    have sQ:Kp O O5 (dy k (r::R) tk):=Bm.more u3 (fun x hx=>by
     rcases nZ x hx with e | e
     ·rw[e];exact .inl oV
     ·exact .inl (m5 e))
    obtain⟨b0,b1,b2,b3,kI⟩:=qz (eG (⟨k2,r.kids.length*4,nm,fC,[],.sl 0 [] .nil⟩::{r with q:=.bm k2 0 (r.kids.length+1) c2}::R) z h.c.zl);have fJ:=Js.cells;unfold oU at fJ;rw[kI]at fJ;have hP:=kH (r::R);generalize hPG:gK (r::R)=PT at*;simp only[ar,aY,List.cons_append,List.nil_append,List.length_cons]at fJ hP
    have aaA:(pre++iM {r with q:=.bm k2 0 (r.kids.length+1) c2}++post)[r.off+2]?=some (.bm k2 0 (r.kids.length+1) c2):=by
     rw[List.append_assoc,List.getElem?_append_right (by omega), <-dK,Nat.add_sub_cancel_left];rfl
    generalize pre++iM {r with q:=.bm k2 0 (r.kids.length+1) c2}++post=C5 at*;have qT:(((r.kids.length+1:Nat):Int) - 1)=(r.kids.length:Int):=by omega
    refine ae @aD ?_;refine WC.bH (.held [20]) [(0,.rd),(1,.rd),(2,.rd),(3,.rd),(4,.rd),(5,.rd),(6,.rd),(7,.rd),(8,.rd),(9,.rd),(10,.rd),(11,.rd),(12,.rd),(13,.rd),(14,.rd),(15,.rd),(16,.one),(17,.one),(18,.one),(19,.rd),(20,.one)] ?_;refine AW @aD @fJ @fA @aaA @qT @uM ?_;have cB:=bg (tk':=.full) (n:=R.length+1) (k:=1) (cs:=PT) (ds:=[.ptr k2 (r.kids.length*4)]) L3 L4 ft (by rw[hP,Nat.mul_one]) rfl rfl (by decide) (by decide) (by simp only[List.length_cons]at hR;omega) (by simp only[List.length_cons,maxLen]at hR ⊢;omega);refine VL.app cB ?_;have nj:=VH.AP ft fJ (by simp) (by omega);have lS:=VH.fi O5 tk;have sR:App (O5.after tk) B 1 (.own O5.next 1):=App.after (by omega);have u6:Kp O5 (O5.after tk) (Tok.id tk).toList:=Kp.k (cA.after ft)
    have fl:∀x∈(Tok.id tk).toList,O5.hp x=some .tok/\B<=x:=fun x hx=>by
     have e:Tok.id tk=some x:=by simpa using hx
     cases tk with
     | own s j=>injection e with e;subst e;exact⟨ft.2.1,ft.2.2.1⟩
     | _=>cases e
    have Fe:Kp O (O5.after tk) (dy k (r::R) tk):=sQ.more u6 (fun x hx=>.inl (C3 (by simpa using hx)));have aaB:BC (O5.after tk) B k _ z _:=Js.step (tl':=[.sl (R.length+1) PT tk,mi (bQ+1:Nat),mb false,mb tx]) u6 (fun x hx=>.inr (fl x hx).1) (by rw[kI];exact nj) h.c.zl;generalize O5.after tk=O6 at*;refine ao @aD @nj ?_;refine VC.gen ?_;intro O7 pW;have tT:O7.hp k=some (.cells [b0,b1,b2,b3,.sl (R.length+1+1) (PT++[.ptr k2 (r.kids.length*4)]) (.own O5.next 1),.v (.int .i64 (bQ+1:Nat)),.v (.bool false),.v (.bool tx)]):=by rw[pW];exact VH.an _ _ _
    have Jt:App O7 B 1 (.own O5.next 1):=by rw[pW];exact sR.xk gx
    have Q0:Kp O O7 (dy k (r::R) tk):=Fe.more (S:=[k]) (by rw[pW];exact Kp.set) vq;have rM:O7.next=O6.next:=by rw[pW];rfl
    have aaC:BC O7 B k _ z [.sl (R.length+1+1) (PT++[.ptr k2 (r.kids.length*4)]) (.own O5.next 1),.v (.int .i64 (bQ+1:Nat)),.v (.bool false),.v (.bool tx)]:=aaB.step (S:=[k]) (by rw[pW];exact Kp.set) (fun x hx=>.inl (by simpa using hx)) (by rw[kI];exact tT) h.c.zl;clear pW;refine VC.ag aa (ao @aD @tT ?_);refine WC.sound aa (ae @aD ?_);refine⟨Q0.more Kp.set vq,⟨k2,r.kids.length*4,nm,fC,[],.sl 0 [] .nil⟩::{r with q:=.bm k2 0 (r.kids.length+1) c2}::R,.own O5.next 1,⟨aaC.step (S:=[k]) Kp.set (fun x hx=>.inl (by simpa using hx)) ?_ h.c.zl,Jt.xk gx⟩,rfl,fun x hx=>?_⟩;rotate_left
    ·have hx:x∈k::((k2::r.b::R.map (·.b))++[]++[O5.next]):=hx;simp only[List.mem_cons,List.mem_append,List.append_nil,List.not_mem_nil,or_false,List.mem_map]at hx;rcases hx with rfl | (rfl | rfl | ⟨g,hg,rfl⟩) | rfl
     ·exact .inl m4
     ·rcases bt with e | e
      ·exact .inl (m5 e)
      ·exact .inr (by omega)
     ·exact .inl oV
     ·exact .inl (Am (List.mem_cons_of_mem _ hg))
     ·exact .inr (by omega)
    rw[VH.an,kI, <-hPG];have e:gK (⟨k2,r.kids.length*4,nm,fC,[],.sl 0 [] .nil⟩::{r with q:=.bm k2 0 (r.kids.length+1) c2}::R)=gK (r::R)++[.ptr k2 (r.kids.length*4)]:=qy _ _;unfold oU;rw[e];rfl
def Rec.nd (r:Rec):Nd:=.mk r.name r.attrs r.kids []
theorem oz.head {O:VH} {B k:Nat} {p:Rec} {R:List Rec} {K:List Nd} (h:oz O B k (p::R)):oz O B k ({p with kids:=K}::R):=by
 cases R with
 | nil=>exact h
 | cons g R=>exact h
theorem MQ {p:Rec} {R:List Rec} {z:List MV} {K:List Nd}:oA ({p with kids:=K}::R) z=oA (p::R) z:=by
 cases R with
 | nil=>rfl
 | cons g R=>rfl
def MT (r:Rec):List Rec->List Rec
 | []=>[]
 | p::R=>{p with kids:=p.kids++[r.nd]}::R
def MU (r:Rec) (z:List MV):List Rec->List MV
 | []=>c_ r.nd
 | _::_=>z
theorem BC.pop {O O':VH} {B k:Nat} {r:Rec} {R:List Rec} {z tl pre post:List MV} {S:List Nat} (h:BC O B k (r::R) z tl) (hc:O.hp r.b=some (.cells (pre++iM r++post))) (hl:pre.length=r.off) (hR:R=[]->post=tl) (u:Kp O O' S)
  (hn:∀x∈S,x=r.b\/gid r.q=some x) (oa:O'.hp r.b=some (.cells (pre++c_ r.nd++post))):BC O' B k (MT r R) (MU r z R) tl:=by
 have qW:=h.chain;have eb:=qW.lt;have iA:=h.top
 have hS:Bl O S:=fun x hx j t n e=>by
  rcases hn x hx with e2 | e2
  ·subst e2;rw[hc]at e;cases e
  ·obtain⟨cs,e3⟩:=iA.1.MO e2;rw[e3]at e;cases e
 cases R with
 | nil=>
   obtain⟨h1,h2⟩:=qW;have hp:pre=[]:=List.eq_nil_of_length_eq_zero (by rw[hl,h2]);subst hp;refine⟨h.lt,Nat.le_trans h.le u.1,?_,lH _,trivial,trivial⟩;rw[<-h1,oa,hR rfl];rfl
 | cons p rest=>
   obtain⟨⟨c,e1,e2,ko⟩,e3,e4,e5⟩:=qW;have aiJ:=ko.lo
   have hkS:k ∉ S:=fun hm=>by
    have:=h.lt;rcases hn k hm with e | e
    ·omega
    ·have:=(iA.1.lo e).1;omega
   obtain⟨sp,sP,VN⟩:=ko.cells;rw[hc]at sP;injection sP with sP;injection sP with sP
   have dK:pre.length=(aB p.kids).length:=by rw[hl,e3,cR]
   rw[List.append_assoc,List.append_assoc]at sP;obtain⟨nv,qI⟩:=List.append_inj sP dK;obtain⟨_,oy⟩:=List.append_inj qI rfl;subst nv;subst oy
   have hlen:(p.kids++[r.nd]).length=p.kids.length+1:=by simp
   refine⟨h.lt,Nat.le_trans h.le u.1,?_,h.zl,(e5.kp u hS (fun x hx _=>?_) h.lt).head,⟨.inr ⟨r.b,c,?_,?_,?_,?_⟩,fun i e=>?_⟩⟩
   ·show _=some (bW.cells (oA ({p with kids:=p.kids++[r.nd]}::rest) z++tl));rw[MQ,u.2 k (Nat.lt_of_lt_of_le h.lt h.le) hkS];exact h.cells
   ·refine .inr fun hm=>?_
    have h6:=eb x hx;rcases hn x.b hm with e | e
    ·omega
    ·have:=iA.2 _ e;omega
   ·show p.q=_;rw[e1,hlen]
   ·rw[hlen];exact e2
   ·show(aB (p.kids++[r.nd])).length=_;rw[cR]
   ·show Row O' _ 4 B r.b c (aB (p.kids++[r.nd]));have e6:aB (p.kids++[r.nd])=aB p.kids++c_ r.nd:=by rw[dU,aB,aB,List.append_nil]
    rw[e6];refine ko.own u hS oa ?_;rw[List.length_append,List.length_append,rU]at VN;rw[List.length_append,List.length_append,lH];exact VN
   ·have e:gid p.q=some i:=e;rw[e1]at e;injection e with e;subst e;exact e4
theorem eD.app {a b c d:List MV} (h:eD a b) (k:eD c d):eD (a++c) (b++d):=by
 refine⟨by rw[List.length_append,List.length_append,h.1,k.1],fun i x y hx hy=>?_⟩;rw[List.getElem?_append]at hx hy;by_cases e:i<a.length
 ·rw[if_pos e]at hx;rw[if_pos (by rw[<-h.1];exact e)]at hy;exact h.2 i x y hx hy
 ·rw[if_neg e]at hx;rw[if_neg (by rw[<-h.1];exact e)]at hy;rw[<-h.1]at hy;exact k.2 _ x y hx hy
theorem VC.close {O:VH} {B k:Nat} {r:Rec} {R:List Rec} {z tl pre post:List MV} {P:Program} {n:Sz} {D:List Deferred} {c:Code} {e:Env} {Q:VQ} (h:BC O B k (r::R) z tl) (hc:O.hp r.b=some (.cells (pre++iM r++post)))
  (hk:∀O1,Kp O O1 (r.b::(gid r.q).toList)->O1.hp r.b=some (.cells (pre++c_ r.nd++post))->VC P n D c e O1 Q):VC P n D c e O Q:=by
 obtain⟨hg,eb⟩:=h.top;have Ko:c_ r.nd=[.str r.name,.sl r.attrs.length (r.attrs.flatMap a_) .au,.sl r.kids.length (aB r.kids) .au,.str []]:=by rw[Rec.nd,c_]
 rcases hg with⟨h0,h1,hp⟩ | ⟨kq,cq,hp,hn,hl,ko⟩
 ·refine VC.VU (ds:=pre++c_ r.nd++post) hc ?_ (hk _ (Kp.sub Kp.set (fun x hx=>.inl (by simp at hx ⊢;exact .inl hx))) (VH.an _ _ _));refine((eD.refl pre).app ?_).app (eD.refl post);rw[Ko,iM]
  have hw:Wk r.q (.sl r.kids.length (aB r.kids) .au):=by
   rw[h0,h1];rcases hp with e | e<;>rw[e]<;>exact Wk.tok
  exact(eD.refl [_,_]).app (eD.cons hw (eD.refl _))
 ·obtain⟨sp,h1,h2⟩:=ko.cells;have hne:r.b≠kq:=by have:=eb kq (by rw[hp];rfl);omega
  have e1:pre++iM r++post=(pre++[.str r.name,.sl r.attrs.length (r.attrs.flatMap a_) .au])++ .bm kq 0 r.kids.length cq::(.str []::post):=by
   rw[iM,hp];simp
  rw[e1]at hc;refine VC.wj h1 hc hne (sz:=(aB r.kids).length) (by rw[List.length_append];omega) ?_
  have e2:pre++c_ r.nd++post=(pre++[.str r.name,.sl r.attrs.length (r.attrs.flatMap a_) .au])++ .sl r.kids.length (aB r.kids) .au::(.str []::post):=by
   rw[Ko];simp
  rw[List.drop_zero,List.take_left, <-e2];refine hk _ ?_ (VH.an _ _ _);refine⟨Nat.le_refl _,fun i _ hi=>?_⟩;simp only[hp,gid,List.mem_cons,Option.toList_some,List.not_mem_nil,or_false,not_or]at hi;rw[VH.ak _ _ hi.1,VH.kA _ hi.2]
theorem agV (r:Rec) (R:List Rec) (tk:Tok):ru (eA Tryz.prog) 365 (.sl (R.length+1) (gK (r::R)) tk) none (.v (.int .i64 (R.length:Int))) (.v (.int .i64 (R.length:Int)))=some (.sl R.length (gK R) .full):=by
 have hl:=kH (r::R);have hc:=qy r R;have h2:=kH R;rw[hc]at hl ⊢;simp only[ru,L3,L4,Option.map_some,cW];rw[if_pos ⟨by omega,by omega,Nat.zero_le _,Nat.le_refl _⟩,if_pos ⟨by simp,by rw[hl,Nat.mul_one];rfl⟩,if_neg (by omega)];cases R with
 | nil=>rfl
 | cons p R=>
   rw[if_neg (by simp)];simp only[Int.toNat_natCast,Nat.sub_zero,Nat.mul_one,Nat.zero_mul,List.drop_zero,if_true];rw[List.take_left' h2]
theorem adJ {O:VH} {B k bQ:Nat} {r:Rec} {R:List Rec} {tk:Tok} {dn tx:Bool} {z:List MV} (h:BS O B k (r::R) tk bQ dn tx z) (hRl:R.length<=1000):
  VF Tryz.prog 268 [.ptr k 0] O (aH fun _ O'=>Kp O O' (dy k (r::R) tk)/\BS O' B k (MT r R) .full bQ (R.length==0) false (MU r z R)):=by
 obtain⟨pre,post,hc,dK,Cj,Bo,hR2⟩:=h.c.loc;have iA:=h.c.top;have gx:=h.c.lt;have hBn:=h.c.le;have vq:∀x∈[k],x∈dy k (r::R) tk\/O.next<=x:=fun x hx=>.inl (by rw[List.mem_singleton]at hx;rw[hx];exact m4)
 have hSn:∀x∈r.b::(gid r.q).toList,x=r.b\/gid r.q=some x:=fun x hx=>by
  rcases List.mem_cons.1 hx with e | e
  ·exact .inl e
  ·exact .inr (by simpa using e)
 refine VF.bL 34 [] Tryz.func268 ?_;refine VC.close h.c hc fun O1 u1 gm=>?_
 have hP:=h.c.pop hc dK (fun e=>(Bo e).2.2) u1 hSn gm
 have cC:App O1 B 1 tk:=by
  refine h.a.MP u1 fun x hx e=>?_
  rcases hSn x hx with e2 | e2
  ·subst e2;rw[hc]at e;cases e
  ·obtain⟨cs,e3⟩:=iA.1.MO e2;rw[e3]at e;cases e
 have je:Kp O O1 (dy k (r::R) tk):=(Kp.refl (S:=dy k (r::R) tk)).more u1 (fun x hx=>.inl (by
  rcases hSn x hx with e | e
  ·rw[e];exact oV
  ·exact m5 e))
 obtain⟨b0,b1,b2,b3,kI⟩:=qz (eG (MT r R) (MU r z R) hP.zl);have dN:=hP.cells;unfold oU at dN;rw[kI]at dN;have hs3:=agV r R tk;have hPl:=kH (r::R);generalize hPG:gK (r::R)=PT at*;simp only[ar,aY,List.cons_append,List.nil_append,List.length_cons]at dN hPl;have qT:(((R.length+1:Nat):Int) - 1)=(R.length:Int):=by omega
 refine VC.bj ?_;refine WC.bH (.held [20]) [(0,.rd),(1,.rd),(2,.rd),(3,.rd),(4,.rd),(5,.rd),(6,.rd),(7,.rd),(8,.rd),(9,.rd),(10,.rd),(11,.rd),(12,.rd),(13,.rd),(14,.rd),(15,.rd),(16,.rd),(17,.rd),(18,.one),(19,.rd),(20,.one)] ?_;refine ia @aD @dN @qT @uM @hs3 ?_;refine VC.gen ?_;intro O2 Gy;have bt:O2.hp k=some (.cells [b0,b1,b2,b3,.sl R.length (gK R) .full,.v (.int .i64 bQ),.v (.bool dn),.v (.bool tx)]):=by rw[Gy];exact VH.an _ _ _
 have QX:Kp O O2 (dy k (r::R) tk):=je.more (S:=[k]) (by rw[Gy];exact Kp.set) vq;have Bp:BC O2 B k _ _ [.sl R.length (gK R) .full,.v (.int .i64 bQ),.v (.bool dn),.v (.bool tx)]:=hP.step (S:=[k]) (by rw[Gy];exact Kp.set) (fun x hx=>.inl (by simpa using hx)) (by rw[kI];exact bt) hP.zl;clear Gy
 have mq:∀b,BS ((O2.set k (.cells [b0,b1,b2,b3,.sl R.length (gK R) .full,.v (.int .i64 bQ),.v (.bool b),.v (.bool tx)])).set k (.cells [b0,b1,b2,b3,.sl R.length (gK R) .full,.v (.int .i64 bQ),.v (.bool b),.v (.bool false)])) B k (MT r R) .full bQ b false (MU r z R):=fun b=>by
  refine⟨(Bp.step (S:=[k]) (z':=MU r z R) (tl':=[.sl R.length (gK R) .full,.v (.int .i64 bQ),.v (.bool b),.v (.bool tx)]) Kp.set (fun x hx=>.inl (by simpa using hx)) (by rw[kI,VH.an];rfl) hP.zl).step (S:=[k]) Kp.set (fun x hx=>.inl (by simpa using hx)) ?_ hP.zl,trivial⟩;rw[kI,VH.an];cases R with
  | nil=>rfl
  | cons p R=>rfl
 have hY:∀x y,Kp O ((O2.set k x).set k y) (dy k (r::R) tk):=fun x y=>(QX.more Kp.set vq).more Kp.set vq
 cases R with
 | nil=>
   refine WC.sound aa (ao @aD @bt ?_);exact⟨hY _ _,mq _⟩
 | cons p R=>
   refine WC.sound aa (ao @aD @bt ?_);exact⟨hY _ _,mq _⟩
theorem Wv {O:VH} {B k:Nat} {r:Rec} {R:List Rec} {z tl:List MV} {tk:Tok} (h:BC O B k (r::R) z tl):∀x∈dy k (MT r R) .full,x∈dy k (r::R) tk:=by
 intro x hx;cases R with
 | nil=>
   have hx:x∈[k]:=hx;rw[List.mem_singleton]at hx;rw[hx];exact m4
 | cons p R=>
   obtain⟨⟨c,e1,_⟩,_⟩:=h.chain;have hx:x∈k::((p.b::R.map (·.b))++(gid p.q).toList++[]):=hx;rw[e1]at hx;simp only[gid,Option.toList_some,List.mem_cons,List.mem_append,List.append_nil,List.not_mem_nil,or_false,List.mem_map]at hx;rcases hx with rfl | (rfl | ⟨g,hg,rfl⟩) | rfl
   ·exact m4
   ·exact Am (by simp)
   ·exact Am (by simp[hg])
   ·exact oV
def tK (t:Bs):Nd:=.mk [] [] [] t
theorem SW (t:Bs):c_ (tK t)=[.str [],.sl 0 [] .au,.sl 0 [] .au,.str t]:=by rw[tK,c_,aB];rfl
theorem MW {O:VH} {B k bQ:Nat} {tk:Tok} {dn tx:Bool} {z:List MV} (h:BS O B k [] tk bQ dn tx z) (s:Bs) (hs:s.length<=maxLen):
  VF Tryz.prog 266 [.ptr k 0,.str s] O (aH fun m O'=>m=mi (if trimB s=[]then 0 else 16)/\O'=O):=by
 have hk:=h.c.cells;obtain⟨a0,a1,a2,a3,hr⟩:=qz (eG [] z h.c.zl);unfold oU at hk;rw[hr]at hk;simp only[ar,aY,List.cons_append,List.nil_append,List.length_nil]at hk;refine VF.bL 61 [.tmp 4] Tryz.func266 ?_;refine VC.ag aa (ae @aD ?_);refine VC.ag aa (ao @aD @hk ?_);refine ah.rt (Je s _ hs) ?_;rintro _ O2 ⟨rfl,eO⟩;rw[eO];clear eO O2
 cases trimB s with
 | nil=>
   refine ao @aD (show(([]:List UInt8)==[])=true from rfl) ?_;trivial
 | cons c t=>
   refine ao @aD (show((c::t)==[])=false from rfl) ?_;trivial
theorem MX {O:VH} {B k bQ:Nat} {r:Rec} {R:List Rec} {tk:Tok} {dn tx:Bool} {z:List MV} (h:BS O B k (r::R) tk bQ dn tx z) (hR:R.length<=1000):
  VF Tryz.prog 266 [.ptr k 0,.str []] O (aH fun m O'=>m=mi 0/\O'=O):=by
 have hk:=h.c.cells;have gx:=h.c.lt;have hBn:=h.c.le;obtain⟨a0,a1,a2,a3,hr⟩:=qz (eG (r::R) z h.c.zl);unfold oU at hk;rw[hr]at hk;simp only[ar,aY,List.cons_append,List.nil_append,List.length_cons]at hk;refine VF.bL 61 [.tmp 4] Tryz.func266 ?_;refine VC.ag aa (ae @aD ?_);refine VC.ag aa (ao @aD @hk ?_);refine VC.ag aa (ae @aD ?_);refine ah.rt (Fb h (by omega)) ?_;rintro _ O2 ⟨rfl,eO⟩;rw[eO];clear eO O2
 refine ae @aD ?_;refine VC.ag aa (ao @aD (show(([]:List UInt8)==[])=true from rfl) ?_);refine WC.sound aa (ae @aD ?_);trivial
theorem MY {O:VH} {B k bQ:Nat} {r:Rec} {R:List Rec} {tk:Tok} {dn:Bool} {z:List MV} (h:BS O B k (r::R) tk bQ dn true z) (hR0:R.length<=1000) (s t0:Bs) (K:List Nd) (hs:s.length<=1000000000000) (qg:r.kids=K++[tK t0]) (ht0:t0.length<=1000000000000) (kU:r.kids.length<=1000000) (hne:(s==[])=false):
  VF Tryz.prog 266 [.ptr k 0,.str s] O (aH fun m O'=>m=mi 0/\Kp O O' (dy k (r::R) tk)/\BS O' B k ({r with kids:=K++[tK (t0++s)]}::R) tk bQ dn true z):=by
 have hR:R.length<=1000:=hR0;have hk:=h.c.cells;have gx:=h.c.lt;have hBn:=h.c.le;obtain⟨a0,a1,a2,a3,hr⟩:=qz (eG (r::R) z h.c.zl);unfold oU at hk;rw[hr]at hk;simp only[ar,aY,List.cons_append,List.nil_append,List.length_cons]at hk;refine VF.bL 61 [.tmp 4] Tryz.func266 ?_;refine VC.ag aa (ae @aD ?_);refine VC.ag aa (ao @aD @hk ?_);refine VC.ag aa (ae @aD ?_);refine ah.rt (Fb h (by omega)) ?_;rintro _ O2 ⟨rfl,eO⟩;rw[eO];clear eO O2
 refine ae @aD ?_;obtain⟨pre,post,hc,dK,Cj,Bo,hR2⟩:=h.c.loc;have iA:=h.c.top;refine VC.ag aa (aN @aD @hne @hk ?_);have hKl:r.kids.length=K.length+1:=by rw[qg];simp
 obtain⟨kq,cq,hq,zF,cH⟩:∃kq cq,r.q= .bm kq 0 (K.length+1) cq/\K.length+1<=cq/\Row O 112 4 B kq cq (aB r.kids):=by
  rcases iA.1 with⟨h0,_⟩ | ⟨k2,c,hp,h1,_,h2⟩
  ·omega
  ·rw[hKl]at hp h1;exact⟨k2,c,hp,h1,h2⟩
 have hrq:r.b<kq:=iA.2 kq (by rw[hq];rfl);obtain⟨sp,sS,EU⟩:=cH.cells;have tV:aB r.kids=aB K++[.str [],.sl 0 [] .au,.sl 0 [] .au,.str t0]:=by rw[qg,dU,aB,aB,SW,List.append_nil]
 rw[tV]at sS EU;have rz:=cR K
 have br:(aB K++([.str [],.sl 0 [] .au,.sl 0 [] .au,.str t0]:List MV)++sp)[K.length*4+3]?=some (.str t0):=by
  rw[List.append_assoc, <-rz,List.getElem?_append_right (by omega),Nat.add_sub_cancel_left];rfl
 have mr:∀m:MV,(aB K++([.str [],.sl 0 [] .au,.sl 0 [] .au,.str t0]:List MV)++sp).set (K.length*4+3) m=aB K++[.str [],.sl 0 [] .au,.sl 0 [] .au,m]++sp:=fun m=>by
  rw[List.append_assoc, <-rz,List.set_append_right _ _ (by omega),Nat.add_sub_cancel_left,List.append_assoc];rfl
 generalize Dv:aB K++[.str [],.sl 0 [] .au,.sl 0 [] .au,.str t0]++sp=C2 at*
 have Wu:(pre++iM r++post)[r.off+2]?=some r.q:=by
  rw[List.append_assoc,List.getElem?_append_right (by omega), <-dK,Nat.add_sub_cancel_left];rfl
 rw[hq]at Wu;generalize hC:pre++iM r++post=C at*;have qT:(((K.length+1:Nat):Int) - 1)=(K.length:Int):=by omega
 refine WC.bH (.held [17]) [(0,.rd),(1,.rd),(2,.rd),(3,.rd),(4,.rd),(5,.rd),(6,.rd),(7,.rd),(8,.rd),(9,.rd),(10,.rd),(11,.rd),(12,.rd),(13,.rd),(14,.rd),(15,.one),(16,.rd),(17,.one)] ?_;refine Qj @aD @hc @Wu @qT @sS @br @mr @uM ?_;refine WC.sound aa (ae @aD ?_);have u:Kp O (O.set kq (.cells (aB K++[.str [],.sl 0 [] .au,.sl 0 [] .au,.str (t0++s)]++sp))) [kq]:=Kp.set;have Ff:aB (K++[tK (t0++s)])=aB K++[.str [],.sl 0 [] .au,.sl 0 [] .au,.str (t0++s)]:=by rw[dU,aB,aB,SW,List.append_nil]
 have hl9:(K++[tK (t0++s)]).length=K.length+1:=by simp
 have hB9:B<=kq:=cH.lo;refine⟨(Kp.refl (S:=dy k (r::R) tk)).more u (fun x hx=>.inl (by rw[List.mem_singleton]at hx;rw[hx];exact m5 (by rw[hq];rfl))),h.c.Jr (r':={r with kids:=K++[tK (t0++s)]}) (by rw[hC];exact hc) dK (fun e=>(Bo e).2.2) u rfl rfl (fun x hx=>.inr (by rw[List.mem_singleton]at hx;rw[hx,hq];rfl)) (by rw[VH.ak _ _ (by omega)];show _=some (bW.cells (pre++iM r++post));rw[hC];exact hc) (.inr ⟨kq,cq,?_,?_,?_,?_⟩) (fun i e=>iA.2 i e),h.a.MP u (fun x hx e=>by rw[List.mem_singleton]at hx;subst hx;rw[sS]at e;cases e)⟩
 ·show r.q=_;rw[hq,hl9]
 ·rw[hl9];exact zF
 ·show(aB (K++[tK (t0++s)])).length=_;rw[cR]
 ·show Row _ _ 4 B kq cq (aB (K++[tK (t0++s)]));rw[Ff];refine cH.own u (fun x hx j t n e=>by rw[List.mem_singleton]at hx;subst hx;rw[sS]at e;cases e) (VH.an _ _ _) ?_;rw[<-EU, <-Dv];simp
theorem MZ {O:VH} {B k bQ:Nat} {r:Rec} {R:List Rec} {tk:Tok} {dn:Bool} {z:List MV} (h:BS O B k (r::R) tk bQ dn false z) (hc0:bQ<=1000000) (hR0:R.length<=1000) (s:Bs) (hs:s.length<=1000000000000) (kU:r.kids.length<=1000000) (hne:(s==[])=false):
  VF Tryz.prog 266 [.ptr k 0,.str s] O (aH fun m O'=>Kp O O' (dy k (r::R) tk)/\match decide (4096<bQ+1)with
   | true=>m=mi 2
   | false=>m=mi 0/\∃q',BS O' B k ({r with kids:=r.kids++[tK s],q:=q'}::R) tk (bQ+1) dn true z/\∀x,gid q'=some x->gid r.q=some x\/O.next<=x):=by
 have hR:R.length<=1000:=hR0;have hk:=h.c.cells;have gx:=h.c.lt;have hBn:=h.c.le;obtain⟨a0,a1,a2,a3,hr⟩:=qz (eG (r::R) z h.c.zl);unfold oU at hk;rw[hr]at hk;simp only[ar,aY,List.cons_append,List.nil_append,List.length_cons]at hk;refine VF.bL 61 [.tmp 4] Tryz.func266 ?_;refine VC.ag aa (ae @aD ?_);refine VC.ag aa (ao @aD @hk ?_);refine VC.ag aa (ae @aD ?_);refine ah.rt (Fb h (by omega)) ?_;rintro _ O2 ⟨rfl,eO⟩;rw[eO];clear eO O2
 refine ae @aD ?_;obtain⟨pre,post,hc,dK,Cj,Bo,hR2⟩:=h.c.loc;have iA:=h.c.top;clear hc Bo hR2 dK Cj iA;clear pre post;refine VC.ag aa (aN @aD @hne @hk ?_);refine ah.rt (aaw h hc0) ?_;rintro _ O3 ⟨rfl,h3,cK⟩;by_cases EB:bQ+1<=4096;rotate_left
 ·rw[decide_eq_true (show 4096<bQ+1 by omega),decide_eq_false EB];refine ae @aD ?_;exact(Kp.refl (S:=dy k (r::R) tk)).more cK (fun x hx=>.inl (by rw[List.mem_singleton]at hx;rw[hx];exact m4))
 rw[decide_eq_false (show ¬4096<bQ+1 by omega),decide_eq_true EB];dsimp only;have vq:∀x∈[k],x∈dy k (r::R) tk\/O.next<=x:=fun x hx=>.inl (by rw[List.mem_singleton]at hx;rw[hx];exact m4)
 have Bm:Kp O O3 (dy k (r::R) tk):=(Kp.refl (S:=dy k (r::R) tk)).more cK vq;have aki:=h3.c.le;refine ae @aD ?_;obtain⟨pre,post,eR,dK,Cj,Bo,hR2⟩:=h3.c.loc;have iA:=h3.c.top
 have Wu:(pre++iM r++post)[r.off+2]?=some r.q:=by
  rw[List.append_assoc,List.getElem?_append_right (by omega), <-dK,Nat.add_sub_cancel_left];rfl
 have mr:∀q',(pre++iM r++post).set (r.off+2) q'=pre++iM {r with q:=q'}++post:=fun q'=>by
  rw[List.append_assoc,List.set_append_right _ _ (by omega), <-dK,Nat.add_sub_cancel_left,List.append_assoc];rfl
 have hlC:(pre++iM r++post).length=pre.length+4+post.length:=by simp[rU];omega
 generalize hC:pre++iM r++post=C at*;refine VC.IG [8,9,10,11,12,13] (by kernel_rfl) ?_;refine bD.Bd 0 ?_;refine ae @aD ?_;refine bD.Bd 1 ?_;refine ae @aD ?_;refine bD.Bd 2 ?_;refine ae @aD ?_;refine bD.Bd 3 ?_;refine aN @aD @eR @Wu ?_;refine bD.Bd 4 ?_;refine ae @aD ?_;refine bD.Bd 5 ?_;refine ae @aD ?_;have jy:=SV iA.1;refine bD.Bd 6 ?_;refine ao @aD @jy ?_;refine bD.afb (i:=7) rfl (by kernel_rfl) (by kernel_rfl) rfl rfl (fun _ _ _ hw hf=>aax hw hf) rfl ?_;simp only[aj];refine bD.fin (by kernel_rfl) ?_;refine bY.st (i:=8) rfl (by kernel_rfl) rfl rfl (QI aa (te:=⟨_,4,80,_⟩) (dx:=.slice 112) (q:=.sl 1 [.str [],.sl 0 [] .nil,.sl 0 [] .nil,.str []] .full) (j:=1) (ds:=[.str [],.sl 0 [] .nil,.sl 0 [] .nil,.str []]) iA.1 rfl rfl (by rw[nU];rfl) tq.1.1 (by rw[nU];rfl) trivial (by dsimp only;omega) (by simp only[maxLen];omega) (by omega) rfl rfl) ?_;rintro m O4 ⟨wS,nG,ik,hm⟩
 obtain⟨k2,c2,rfl,bt⟩:∃k2 c2,m= .bm k2 0 (r.kids.length+1) c2/\(gid r.q=some k2\/O3.next<=k2):=by
  rcases hm with⟨k2,c2,h1,h2⟩ | ⟨h1,_⟩
  ·exact⟨k2,c2,h1,h2.imp id And.left⟩
  ·cases h1
 obtain⟨cH,zF⟩:Row O4 112 4 B k2 c2 (aB r.kids++[.str [],.sl 0 [] .nil,.sl 0 [] .nil,.str []])/\r.kids.length+1<=c2:=by
  rcases wS with⟨h1,_⟩ | ⟨k3,c3,h1,h2,_,h4⟩
  ·omega
  ·injection h1 with h1 _ _ h3;subst h1;subst h3;exact⟨h4,h2⟩
 have aaz:r.b<k2:=by
  rcases bt with e | e
  ·exact iA.2 _ e
  ·omega
 have aiK:=nG.next;have ff:O4.hp r.b=some (.cells C):=(nG.hp _ Cj (fun e=>by have:=iA.2 _ e;omega)).trans eR;obtain⟨sp,sS,EU⟩:=cH.cells;simp only[aj];have rz:=cR r.kids
 have qZ:∀a b c d:MV,((((aB r.kids++([.str [],.sl 0 [] .nil,.sl 0 [] .nil,.str []]:List MV)++sp).set (r.kids.length*4) a).set (r.kids.length*4+1) b).set (r.kids.length*4+1+1) c).set (r.kids.length*4+1+1+1) d=aB r.kids++[a,b,c,d]++sp:=fun a b c d=>by
  rw[<-rz];exact afc _ _ _ _ _ _ _ _ _ _
 generalize Dv:aB r.kids++[.str [],.sl 0 [] .nil,.sl 0 [] .nil,.str []]++sp=C2 at*;refine bY.Hw 9 ?_;refine ae @aD ?_;refine bY.Hw 11 ?_;refine ae @aD ?_;refine bY.Hw 12 ?_;refine ae @aD ?_;refine bY.two (i:=10) (j:=13) (by kernel_rfl) ?_ ?_
 ·refine aI.o1 ?_;refine aN @aD @sS @qZ ?_;refine bY.SM (i:=13) ?_;refine aN @aD @ff @mr ?_;refine bY.bH [] ?_;refine WL.gen ?_;intro O5 lW;have gD:O5.next=O4.next:=by rw[lW];rfl
  have fA:O5.hp r.b=some (.cells (pre++iM {r with q:=.bm k2 0 (r.kids.length+1) c2}++post)):=by rw[lW];exact VH.an _ _ _
  have An:O5.hp k2=some (.cells (aB r.kids++[.str [],.sl 0 [] .nil,.sl 0 [] .nil,.str s]++sp)):=by rw[lW];exact VH.sn (VH.an _ _ _)
  have u4:Kp O4 O5 [k2,r.b]:=by rw[lW];exact Kp.trans (S:=[k2]) (T:=[r.b]) Kp.set Kp.set
  clear lW
  have QY:Bl O4 [k2,r.b]:=fun x hx j t n e=>by
   simp only[List.mem_cons,List.not_mem_nil,or_false]at hx;rcases hx with rfl | rfl
   ·rw[sS]at e;cases e
   ·rw[ff]at e;cases e
  have u3:Kp O3 O5 (r.b::(gid r.q).toList):=((Kp.bn nG).trans u4).sub (fun x hx=>by
   simp only[List.mem_append,List.mem_cons,List.not_mem_nil,or_false]at hx ⊢;rcases hx with hx | hx | hx
   ·exact .inl (.inr hx)
   ·rcases bt with e | e
    ·rw[e];simp[hx]
    ·exact .inr (by omega)
   ·exact .inl (.inl hx))
  have nZ:∀x∈r.b::(gid r.q).toList,x=r.b\/gid r.q=some x:=fun x hx=>by
   rcases List.mem_cons.1 hx with e | e
   ·exact .inl e
   ·exact .inr (by simpa using e)
  obtain⟨fJ,_⟩:=h3.c.part (r':={r with q:=.bm k2 0 (r.kids.length+1) c2}) (by rw[hC];exact eR) dK (fun e=>(Bo e).2.2) u3 rfl rfl nZ fA;obtain⟨b0,b1,b2,b3,kI⟩:=qz (eG ({r with q:=.bm k2 0 (r.kids.length+1) c2}::R) z h.c.zl);unfold oU at fJ;rw[kI]at fJ;simp only[ar,aY,List.cons_append,List.nil_append,List.length_cons]at fJ;refine ao @aD @fJ ?_
  have M0:k2≠k:=by
   have:=cH.lo;omega
  have sQ:Kp O O5 (dy k (r::R) tk):=Bm.more u3 (fun x hx=>by
   rcases nZ x hx with e | e
   ·rw[e];exact .inl oV
   ·exact .inl (m5 e))
  have ft:App O5 B 1 tk:=by
   refine h3.a.MP u3 fun x hx e=>?_
   rcases nZ x hx with e2 | e2
   ·subst e2;rw[eR]at e;cases e
   ·obtain⟨cs,e3⟩:=iA.1.MO e2;rw[e3]at e;cases e
  have Ff:aB (r.kids++[tK s])=aB r.kids++[.str [],.sl 0 [] .au,.sl 0 [] .au,.str s]:=by rw[dU,aB,aB,SW,List.append_nil]
  refine VC.VU (k:=k2) (ds:=aB (r.kids++[tK s])++sp) ((VH.ak _ _ M0).trans An) (by
   rw[Ff];exact((eD.refl _).app (eD.cons (Wk.refl _) (eD.cons Wk.tok (eD.cons Wk.tok (eD.refl _))))).app (eD.refl _)) ?_
  refine WC.sound aa (ae @aD ?_);have u5:Kp O4 (O5.set k2 (.cells (aB (r.kids++[tK s])++sp))) [k2,r.b]:=(u4.trans Kp.set).sub (fun x hx=>.inl (by simp only[List.mem_append,List.mem_cons,List.not_mem_nil,or_false]at hx ⊢;exact hx.elim id .inl))
  have u6:Kp O3 (O5.set k2 (.cells (aB (r.kids++[tK s])++sp))) (r.b::(gid r.q).toList):=(u3.trans Kp.set).sub (fun x hx=>by
   simp only[List.mem_append,List.mem_cons,List.not_mem_nil,or_false]at hx ⊢;rcases hx with hx | hx
   ·exact .inl hx
   ·rcases bt with e | e
    ·rw[e];simp[hx]
    ·exact .inr (by omega))
  have Js:BC _ B k ({r with kids:=r.kids++[tK s],q:=.bm k2 0 (r.kids.length+1) c2}::R) z _:=h3.c.Jr (r':={r with kids:=r.kids++[tK s],q:=.bm k2 0 (r.kids.length+1) c2}) (by rw[hC];exact eR) dK (fun e=>(Bo e).2.2) u6 rfl rfl nZ (VH.sn fA) (.inr ⟨k2,c2,by show _=_;simp,by simp;exact zF,by show(aB (r.kids++[tK s])).length=_;rw[cR],by
   show Row _ _ 4 B k2 c2 (aB (r.kids++[tK s]));refine cH.own u5 QY (VH.an _ _ _) ?_;rw[<-EU, <-Dv,Ff];simp⟩) (fun i e=>by injection e with e;subst e;exact aaz)
  have e9:∀x,(O5.set k x).set k2 (.cells (aB (r.kids++[tK s])++sp))=(O5.set k2 (.cells (aB (r.kids++[tK s])++sp))).set k x:=fun x=>VH.set_comm (fun e=>M0 e.symm)
  have Bp:=cH.lo;rw[e9]
  refine⟨(sQ.more (S:=[k2]) Kp.set (fun x hx=>by
   rw[List.mem_singleton]at hx;rw[hx];rcases bt with e | e
   ·exact .inl (m5 e)
   ·exact .inr (by have:=cK.1;omega))).more Kp.set vq,_,⟨Js.step (S:=[k]) Kp.set (fun x hx=>.inl (by simpa using hx)) ?_ h3.c.zl,(ft.MP (S:=[k2]) Kp.set (fun x hx e=>by rw[List.mem_singleton]at hx;subst hx;rw[An]at e;cases e)).xk gx⟩,fun x e=>by
   injection e with e;subst e
   exact bt.imp id (fun e=>by have:=cK.1;omega)⟩
  rw[VH.an]
  have e8:oA ({r with kids:=r.kids++[tK s],q:=.bm k2 0 (r.kids.length+1) c2}::R) z=[b0,b1,b2,b3]:=by
   rw[<-kI];cases R with
   | nil=>rfl
   | cons g R=>rfl
  rw[e8];rfl
 ·refine aI.o1 ?_;refine aN @aD @ff @mr ?_;refine bY.SM (i:=10) ?_;refine aN @aD @sS @qZ ?_;refine bY.bH [] ?_;refine WL.gen ?_;intro O5 lW;rw[VH.set_comm (by omega)]at lW;have gD:O5.next=O4.next:=by rw[lW];rfl
  have fA:O5.hp r.b=some (.cells (pre++iM {r with q:=.bm k2 0 (r.kids.length+1) c2}++post)):=by rw[lW];exact VH.an _ _ _
  have An:O5.hp k2=some (.cells (aB r.kids++[.str [],.sl 0 [] .nil,.sl 0 [] .nil,.str s]++sp)):=by rw[lW];exact VH.sn (VH.an _ _ _)
  have u4:Kp O4 O5 [k2,r.b]:=by rw[lW];exact Kp.trans (S:=[k2]) (T:=[r.b]) Kp.set Kp.set
  clear lW
  have QY:Bl O4 [k2,r.b]:=fun x hx j t n e=>by
   simp only[List.mem_cons,List.not_mem_nil,or_false]at hx;rcases hx with rfl | rfl
   ·rw[sS]at e;cases e
   ·rw[ff]at e;cases e
  have u3:Kp O3 O5 (r.b::(gid r.q).toList):=((Kp.bn nG).trans u4).sub (fun x hx=>by
   simp only[List.mem_append,List.mem_cons,List.not_mem_nil,or_false]at hx ⊢;rcases hx with hx | hx | hx
   ·exact .inl (.inr hx)
   ·rcases bt with e | e
    ·rw[e];simp[hx]
    ·exact .inr (by omega)
   ·exact .inl (.inl hx))
  have nZ:∀x∈r.b::(gid r.q).toList,x=r.b\/gid r.q=some x:=fun x hx=>by
   rcases List.mem_cons.1 hx with e | e
   ·exact .inl e
   ·exact .inr (by simpa using e)
  obtain⟨fJ,_⟩:=h3.c.part (r':={r with q:=.bm k2 0 (r.kids.length+1) c2}) (by rw[hC];exact eR) dK (fun e=>(Bo e).2.2) u3 rfl rfl nZ fA;obtain⟨b0,b1,b2,b3,kI⟩:=qz (eG ({r with q:=.bm k2 0 (r.kids.length+1) c2}::R) z h.c.zl);unfold oU at fJ;rw[kI]at fJ;simp only[ar,aY,List.cons_append,List.nil_append,List.length_cons]at fJ;refine ao @aD @fJ ?_
  have M0:k2≠k:=by
   have:=cH.lo;omega
  have sQ:Kp O O5 (dy k (r::R) tk):=Bm.more u3 (fun x hx=>by
   rcases nZ x hx with e | e
   ·rw[e];exact .inl oV
   ·exact .inl (m5 e))
  have ft:App O5 B 1 tk:=by
   refine h3.a.MP u3 fun x hx e=>?_
   rcases nZ x hx with e2 | e2
   ·subst e2;rw[eR]at e;cases e
   ·obtain⟨cs,e3⟩:=iA.1.MO e2;rw[e3]at e;cases e
  have Ff:aB (r.kids++[tK s])=aB r.kids++[.str [],.sl 0 [] .au,.sl 0 [] .au,.str s]:=by rw[dU,aB,aB,SW,List.append_nil]
  refine VC.VU (k:=k2) (ds:=aB (r.kids++[tK s])++sp) ((VH.ak _ _ M0).trans An) (by
   rw[Ff];exact((eD.refl _).app (eD.cons (Wk.refl _) (eD.cons Wk.tok (eD.cons Wk.tok (eD.refl _))))).app (eD.refl _)) ?_
  refine WC.sound aa (ae @aD ?_);have u5:Kp O4 (O5.set k2 (.cells (aB (r.kids++[tK s])++sp))) [k2,r.b]:=(u4.trans Kp.set).sub (fun x hx=>.inl (by simp only[List.mem_append,List.mem_cons,List.not_mem_nil,or_false]at hx ⊢;exact hx.elim id .inl))
  have u6:Kp O3 (O5.set k2 (.cells (aB (r.kids++[tK s])++sp))) (r.b::(gid r.q).toList):=(u3.trans Kp.set).sub (fun x hx=>by
   simp only[List.mem_append,List.mem_cons,List.not_mem_nil,or_false]at hx ⊢;rcases hx with hx | hx
   ·exact .inl hx
   ·rcases bt with e | e
    ·rw[e];simp[hx]
    ·exact .inr (by omega))
  have Js:BC _ B k ({r with kids:=r.kids++[tK s],q:=.bm k2 0 (r.kids.length+1) c2}::R) z _:=h3.c.Jr (r':={r with kids:=r.kids++[tK s],q:=.bm k2 0 (r.kids.length+1) c2}) (by rw[hC];exact eR) dK (fun e=>(Bo e).2.2) u6 rfl rfl nZ (VH.sn fA) (.inr ⟨k2,c2,by show _=_;simp,by simp;exact zF,by show(aB (r.kids++[tK s])).length=_;rw[cR],by
   show Row _ _ 4 B k2 c2 (aB (r.kids++[tK s]));refine cH.own u5 QY (VH.an _ _ _) ?_;rw[<-EU, <-Dv,Ff];simp⟩) (fun i e=>by injection e with e;subst e;exact aaz)
  have e9:∀x,(O5.set k x).set k2 (.cells (aB (r.kids++[tK s])++sp))=(O5.set k2 (.cells (aB (r.kids++[tK s])++sp))).set k x:=fun x=>VH.set_comm (fun e=>M0 e.symm)
  have Bp:=cH.lo;rw[e9]
  refine⟨(sQ.more (S:=[k2]) Kp.set (fun x hx=>by
   rw[List.mem_singleton]at hx;rw[hx];rcases bt with e | e
   ·exact .inl (m5 e)
   ·exact .inr (by have:=cK.1;omega))).more Kp.set vq,_,⟨Js.step (S:=[k]) Kp.set (fun x hx=>.inl (by simpa using hx)) ?_ h3.c.zl,(ft.MP (S:=[k2]) Kp.set (fun x hx e=>by rw[List.mem_singleton]at hx;subst hx;rw[An]at e;cases e)).xk gx⟩,fun x e=>by
   injection e with e;subst e
   exact bt.imp id (fun e=>by have:=cK.1;omega)⟩
  rw[VH.an]
  have e8:oA ({r with kids:=r.kids++[tK s],q:=.bm k2 0 (r.kids.length+1) c2}::R) z=[b0,b1,b2,b3]:=by
   rw[<-kI];cases R with
   | nil=>rfl
   | cons g R=>rfl
  rw[e8];rfl
structure PS where
 st:List (Bs×List (Bs×Bs)×List Nd)
 bQ:Nat
 dn:Bool
 tx:Bool
 z:Nd
def m6 (s:Bs) (p:PS):Except Int PS:=
 match p.st with
 | []=>if trimB s=[]then .ok p else .error 16
 | (n,a,K)::R=>
   if s=[]then .ok p
   else if p.tx then match K.getLast? with
    | some (.mk _ _ _ t)=>.ok {p with st:=(n,a,K.dropLast++[tK (t++s)])::R}
    | none=>.ok p
   else if 4096<p.bQ+1 then .error 2
   else .ok {p with st:=(n,a,K++[tK s])::R,bQ:=p.bQ+1,tx:=true}
def rV (nm:Bs) (fC:List (Bs×Bs)) (p:PS):Except Int PS:=
 if p.dn then .error 16 else if 64<=p.st.length then .error 2 else if 4096<p.bQ+1 then .error 2
 else .ok {p with st:=(nm,fC,[])::p.st,bQ:=p.bQ+1,tx:=false}
def sT (p:PS):PS:=
 match p.st with
 | []=>p
 | [(n,a,K)]=>{p with st:=[],dn:=true,tx:=false,z:=.mk n a K []}
 | (n,a,K)::(n2,a2,K2)::R=>{p with st:=(n2,a2,K2++[.mk n a K []])::R,dn:=false,tx:=false}
def j5 (x:Tk) (p:PS):Except Int PS:=
 if x.kind=4 then m6 x.text p
 else if x.kind=1 then rV x.name x.attrs p
 else if x.kind=2 then(match rV x.name x.attrs p with
  | .error e=>.error e
  | .ok q=>.ok (sT q))
 else if x.kind=3 then(match p.st with
  | []=>.error 16
  | f::_=>if f.1=x.name then .ok (sT p)else .error 14)
 else .ok p
def jf:List Tk->PS->Except (Int×Nat) PS
 | [],p=>.ok p
 | x::l,p=>match j5 x p with
   | .error e=>.error (e,x.off)
   | .ok q=>jf l q
def p0:PS:=⟨[],0,false,false,Qy⟩
def gX (t:Bs):Except (Int×Nat) Nd:=
 match tI t with
 | .error e=>.error e
 | .ok l=>match jf l p0 with
   | .error e=>.error e
   | .ok p=>if p.st≠[]then .error (13,t.length)else if p.dn then .ok p.z else .error (16,t.length)
def Fg:List (Bs×List (Bs×Bs)×List Nd)->Nat
 | []=>0
 | f::R=>1+f.1.length+ja f.2.1+jO f.2.2+Fg R
def Gz (p:PS):Nat:=Fg p.st+if p.dn then kj p.z else 0
structure kJ (p:PS) (L:Nat):Prop where
 bQ:p.bQ<=4096
 len:p.st.length<=64
 L8:p.tx=true->∃n a K t R,p.st=(n,a,K++[tK t])::R
 wt:Gz p<=L+p.bQ
theorem wA (K M:List Nd):jO (K++M)=jO K+jO M:=by
 induction K with
 | nil=>rw[List.nil_append,jO,Nat.zero_add]
 | cons x K ih=>rw[List.cons_append,jO,jO,ih];omega
theorem SX (t:Bs):kj (tK t)=1+t.length:=by rw[tK,z_,ja,jO];simp
theorem kJ.more {p:PS} {L L':Nat} (h:kJ p L) (hl:L<=L'):kJ p L':=⟨h.bQ,h.len,h.L8,by have:=h.wt;omega⟩
theorem Ww {s:Bs} {p q:PS} {L:Nat} (h:kJ p L) (e:m6 s p= .ok q):kJ q (L+s.length):=by
 unfold m6 at e;obtain⟨st,bQ,dn,tx,z⟩:=p;obtain⟨h2,h3,h4,h5⟩:=h;dsimp only at e h2 h3 h4 h5;cases st with
 | nil=>
   dsimp only at e;split at e
   ·injection e with e;subst e;exact kJ.more ⟨h2,h3,h4,h5⟩ (Nat.le_add_right _ _)
   ·cases e
 | cons f R=>
   obtain⟨n,a,K⟩:=f;dsimp only at e;split at e
   ·injection e with e;subst e;exact kJ.more ⟨h2,h3,h4,h5⟩ (Nat.le_add_right _ _)
   split at e
   ·rename_i ht;obtain⟨n',a',K',t,R',he⟩:=h4 ht;injection he with he1 he2;injection he1 with e1 e2;injection e2 with e2 e3
    subst e1;subst e2;subst e3;subst he2
    rw[List.getLast?_concat,List.dropLast_concat]at e;dsimp only[tK]at e;injection e with e;subst e
    refine⟨h2,h3,fun _=>⟨_,_,_,_,_,rfl⟩,?_⟩
    ·simp only[Gz,Fg,wA,jO,SX]at h5 ⊢;have e6:kj (Nd.mk [] [] [] (t++s))=1+(t++s).length:=SX _;rw[e6,List.length_append];omega
   split at e
   ·cases e
   ·injection e with e;subst e
    refine⟨by dsimp only;omega,h3,fun _=>⟨_,_,_,_,_,rfl⟩,?_⟩
    ·simp only[Gz,Fg,wA,jO,SX]at h5 ⊢;omega
theorem Fh {nm:Bs} {fC:List (Bs×Bs)} {p q:PS} {L:Nat} (h:kJ p L) (e:rV nm fC p= .ok q):kJ q (L+nm.length+ja fC)/\q.st=(nm,fC,[])::p.st:=by
 unfold rV at e;split at e
 ·cases e
 split at e
 ·cases e
 split at e
 ·cases e
 ·injection e with e;subst e
  rename_i hd Es hc;refine⟨⟨by dsimp only;omega,by simp only[List.length_cons];omega,(fun e=>by cases e),?_⟩,rfl⟩
  ·have h5:=h.wt;simp only[Gz,Fg,jO,hd]at h5 ⊢;omega
theorem M3 {p:PS} {L:Nat} (h:kJ p L):kJ (sT p) L:=by
 unfold sT;split
 ·exact h
 ·rename_i n a K hs;obtain⟨h2,h3,h4,h5⟩:=h;refine⟨h2,Nat.zero_le _,(fun e=>by cases e),?_⟩;simp only[Gz,Fg,hs,z_]at h5 ⊢;simp;omega
 ·rename_i n a K n2 a2 K2 R hs;obtain⟨h2,h3,h4,h5⟩:=h;refine⟨h2,by rw[hs]at h3;simp only[List.length_cons]at h3 ⊢;omega,(fun e=>by cases e),?_⟩;simp only[Gz,Fg,hs,wA,jO,z_]at h5 ⊢;simp;omega
def Ao (x:Tk):Nat:=x.name.length+ja x.attrs+x.text.length
theorem HY {x:Tk} {p q:PS} {L:Nat} (h:kJ p L) (e:j5 x p= .ok q):kJ q (L+Ao x):=by
 unfold j5 at e;unfold Ao;split at e
 ·exact(Ww h e).more (by omega)
 split at e
 ·exact(Fh h e).1.more (by omega)
 split at e
 ·split at e
  ·cases e
  ·rename_i q' hq;injection e with e;subst e
   exact(M3 (Fh h hq).1).more (by omega)
 split at e
 ·split at e
  ·cases e
  ·split at e
   ·injection e with e;subst e;exact(M3 h).more (by omega)
   ·cases e
 ·injection e with e;subst e;exact h.more (by omega)
theorem M4 {n:Bs} {a:List (Bs×Bs)} {K:List Nd} {R:List (Bs×List (Bs×Bs)×List Nd)} {p:PS} {L:Nat} (h:kJ p L) (hm:(n,a,K)∈p.st):K.length<=L+4096:=by
 have h5:=h.wt;have h2:=h.bQ;have hk:=Bc K;unfold Gz at h5
 have:∀st:List (Bs×List (Bs×Bs)×List Nd),(n,a,K)∈st->jO K<=Fg st:=by
  intro st;induction st with
  | nil=>intro h;cases h
  | cons f R ih=>
    intro h;rw[Fg];rcases List.mem_cons.1 h with rfl | h
    ·dsimp only;omega
    ·have:=ih h;omega
 have:=this _ hm;omega
theorem wB {nm:Bs} {fC:List (Bs×Bs)} {p:PS} {e:Int} (h:rV nm fC p= .error e):e=16\/e=2:=by
 unfold rV at h;split at h
 ·injection h with h;exact .inl h.symm
 split at h
 ·injection h with h;exact .inr h.symm
 split at h
 ·injection h with h;exact .inr h.symm
 ·cases h
theorem Q1 {s:Bs} {p:PS} {e:Int} (h:m6 s p= .error e):e=16\/e=2:=by
 unfold m6 at h;split at h
 ·split at h
  ·cases h
  ·injection h with h;exact .inl h.symm
 ·split at h
  ·cases h
  split at h
  ·split at h<;>cases h
  split at h
  ·injection h with h;exact .inr h.symm
  ·cases h
theorem Q2 {x:Tk} {p:PS} {e:Int} (h:j5 x p= .error e):e=16\/e=2\/e=14:=by
 unfold j5 at h;split at h
 ·exact(Q1 h).imp id .inl
 split at h
 ·exact(wB h).imp id .inl
 split at h
 ·split at h
  ·rename_i h2;injection h with h;subst h
   exact(wB h2).imp id .inl
  ·cases h
 split at h
 ·split at h
  ·injection h with h;exact .inl h.symm
  ·split at h
   ·cases h
   ·injection h with h;exact .inr (.inr h.symm)
 ·cases h
def BP (O:VH) (B k:Nat) (U:List Nat) (p:PS):Prop:=∃R tk,BS O B k R tk p.bQ p.dn p.tx (c_ p.z)/\qY R=p.st/\∀x∈dy k R tk,x∈U
theorem BP.ge {O O':VH} {B k:Nat} {U:List Nat} {p:PS} (h:BP O B k U p) (g:O.Ge O'):BP O' B k U p:=by
 obtain⟨R,tk,h1,h2,h3⟩:=h;exact⟨R,tk,h1.ge g,h2,h3⟩
def Sp (O O':VH) (B k:Nat) (U:List Nat) (q:PS):Prop:=∃U',(∀x∈U',x∈U\/O.next<=x)/\BP O' B k U' q
theorem Kp.SY {O O':VH} {S U:List Nat} (h:Kp O O' S) (hs:∀x∈S,x∈U):Kp O O' U:=h.sub fun x hx=>.inl (hs x hx)
theorem Sp.refl {O:VH} {B k:Nat} {U:List Nat} {q:PS} (h:BP O B k U q):Sp O O B k U q:=⟨U,fun _ h=>.inl h,h⟩
theorem Sp.trans {O O1 O2:VH} {B k:Nat} {U U1:List Nat} {q:PS} (hl:O.next<=O1.next) (h1:∀x∈U1,x∈U\/O.next<=x) (h:Sp O1 O2 B k U1 q):Sp O O2 B k U q:=by
 obtain⟨U2,h2,h3⟩:=h;exact⟨U2,fun x hx=>(h2 x hx).elim (h1 x) fun e=>.inr (by omega),h3⟩
theorem aaD {O:VH} {B k:Nat} {U:List Nat} {p:PS} {L:Nat} (h:BP O B k U p) (hp:kJ p L) (hL:L<=100000) (s:Bs) (hs:s.length<=1000000):
  VF Tryz.prog 266 [.ptr k 0,.str s] O (aH fun m O'=>Kp O O' U/\match m6 s p with
   | .error e=>m=mi e
   | .ok q=>m=mi 0/\Sp O O' B k U q):=by
 obtain⟨R,tk,hb,hR,hU⟩:=h;obtain⟨st,bQ,dn,tx,z⟩:=p;dsimp only at hb hR;subst hR;have hlen:=hp.len;dsimp only[qY]at hlen;rw[List.length_map]at hlen;have aiL:bQ<=4096:=hp.bQ;cases R with
 | nil=>
   refine VF.mono ?_ (MW hb s (by simp only[maxLen];omega));rintro(m | m) O' hr
   ·obtain⟨rfl,rfl⟩:=hr;refine⟨Kp.refl,?_⟩;have e5:m6 s ⟨qY [],bQ,dn,tx,z⟩=if trimB s=[]then .ok ⟨[],bQ,dn,tx,z⟩else .error 16:=rfl
    rw[e5];by_cases h2:trimB s=[]
    ·rw[if_pos h2,if_pos h2];exact⟨rfl,Sp.refl ⟨[],tk,hb,rfl,hU⟩⟩
    ·rw[if_neg h2,if_neg h2]
   ·exact hr.elim
 | cons r R=>
   simp only[List.length_cons]at hlen
   have kU:r.kids.length<=1000000:=by
    have:=M4 (R:=[]) hp (List.mem_cons_self (a:=(r.name,r.attrs,r.kids)) (l:=qY R));omega
   by_cases Ur:s=[]
   ·subst Ur;refine VF.mono ?_ (MX hb (by omega));rintro(m | m) O' hr
    ·obtain⟨rfl,rfl⟩:=hr;exact⟨Kp.refl,rfl,Sp.refl ⟨r::R,tk,hb,rfl,hU⟩⟩
    ·exact hr.elim
   have hne:(s==[])=false:=by cases s<;>simp at Ur ⊢
   cases tx with
   | true=>
     obtain⟨n,a,K,t,R',he⟩:=hp.L8 rfl;have he:(r.name,r.attrs,r.kids)::qY R=(n,a,K++[tK t])::R':=he;injection he with he1 he2;injection he1 with e1 e2;injection e2 with e2 e3
     have ht:t.length<=1000000:=by
      have h5:=hp.wt;have e4:qY (r::R)=(r.name,r.attrs,r.kids)::qY R:=rfl;simp only[Gz,e4,Fg,e3,wA,jO,SX]at h5;omega
     refine VF.mono ?_ (MY hb (by omega) s t K (by omega) e3 (by omega) kU hne);rintro(m | m) O' hr
     ·obtain⟨rfl,h1,h2⟩:=hr;refine⟨h1.SY hU,?_⟩
      have e5:m6 s ⟨qY (r::R),bQ,dn,true,z⟩= .ok ⟨(r.name,r.attrs,K++[tK (t++s)])::qY R,bQ,dn,true,z⟩:=by
       unfold m6;show(if s=[]then _ else _)=_;rw[if_neg Ur,if_pos rfl,e3,List.getLast?_concat,List.dropLast_concat];rfl
      rw[e5];exact⟨rfl,U,fun _ h=>.inl h,_,tk,h2,rfl,hU⟩
     ·exact hr.elim
   | false=>
     refine VF.mono ?_ (MZ hb (by omega) (by omega) s (by omega) kU hne);rintro(m | m) O' hr
     ·obtain⟨h1,hr⟩:=hr;refine⟨h1.SY hU,?_⟩
      have e5:m6 s ⟨qY (r::R),bQ,dn,false,z⟩=if 4096<bQ+1 then .error 2 else .ok ⟨(r.name,r.attrs,r.kids++[tK s])::qY R,bQ+1,dn,true,z⟩:=by
       unfold m6;show(if s=[]then _ else _)=_;rw[if_neg Ur,if_neg (by simp)];rfl
      rw[e5];by_cases hc:4096<bQ+1
      ·rw[decide_eq_true hc]at hr;rw[if_pos hc];exact hr
      ·rw[decide_eq_false hc]at hr;rw[if_neg hc];obtain⟨rfl,q',h2,h3⟩:=hr;refine⟨rfl,dy k ({r with kids:=r.kids++[tK s],q:=q'}::R) tk,fun x hx=>?_,_,tk,h2,rfl,fun _ h=>h⟩;have hx:x∈k::((r.b::R.map (·.b))++(gid q').toList++(Tok.id tk).toList):=hx;simp only[List.mem_cons,List.mem_append]at hx;rcases hx with rfl | ((rfl | hx) | hx) | hx
       ·exact .inl (hU _ m4)
       ·exact .inl (hU _ oV)
       ·obtain⟨g,hg,rfl⟩:=List.mem_map.1 hx;exact .inl (hU _ (Am (List.mem_cons_of_mem _ hg)))
       ·rcases h3 x (by simpa using hx)with e | e
        ·exact .inl (hU _ (m5 e))
        ·exact .inr e
       ·exact .inl (hU _ (C3 (by simpa using hx)))
     ·exact hr.elim
theorem SZ {O:VH} {B k:Nat} {U:List Nat} {p:PS} {L:Nat} (h:BP O B k U p) (hp:kJ p L) (hL:L<=100000) (kd:Int) (nm tt:Bs) (fC:List (Bs×Bs)) (p1 p2 p3:Int) (HX:fC.length<=100000):
  VF Tryz.prog 267 [.ptr k 0,.agg [mi kd,.str nm,.sl fC.length (fC.flatMap a_) .au,.str tt,mi p1,mi p2,mi p3]] O (aH fun m O'=>Kp O O' U/\match rV nm fC p with
   | .error e=>m=mi e
   | .ok q=>m=mi 0/\Sp O O' B k U q):=by
 obtain⟨R,tk,hb,hR,hU⟩:=h;obtain⟨st,bQ,dn,tx,z⟩:=p;dsimp only at hb hR;subst hR;have aiL:bQ<=4096:=hp.bQ
 have kU:∀r∈R,r.kids.length<=1000000:=fun r hr=>by
  have:=M4 hp (show(r.name,r.attrs,r.kids)∈qY R from List.mem_map.2 ⟨r,hr,rfl⟩) (R:=[]);omega
 refine VF.mono ?_ (aay hb (by omega) kd nm tt fC p1 p2 p3 HX kU);have hl:(qY R).length=R.length:=by unfold qY;rw[List.length_map]
 rintro(m | m) O' hr
 ·obtain⟨h1,hr⟩:=hr;refine⟨h1.SY hU,?_⟩;unfold rV;unfold qA at hr;dsimp only;rw[hl];cases dn
  ·rw[if_neg (by simp)]at hr ⊢;by_cases Es:64<=R.length
   ·rw[if_pos Es]at hr ⊢;exact hr
   ·rw[if_neg Es]at hr ⊢;by_cases hc:4096<bQ+1
    ·rw[if_pos hc]at hr ⊢;exact hr
    ·rw[if_neg hc]at hr ⊢;obtain⟨rfl,R',tk',h2,h3,h4⟩:=hr;exact⟨rfl,dy k R' tk',fun x hx=>(h4 x hx).imp (hU x) id,R',tk',h2,h3,fun _ h=>h⟩
  ·rw[if_pos rfl]at hr ⊢;exact hr
 ·exact hr.elim
theorem S0 {O:VH} {B k:Nat} {U:List Nat} {p:PS} {L:Nat} (h:BP O B k U p) (hp:kJ p L) (hne:p.st≠[]):
  VF Tryz.prog 268 [.ptr k 0] O (aH fun _ O'=>Kp O O' U/\BP O' B k U (sT p)):=by
 obtain⟨R,tk,hb,hR,hU⟩:=h;obtain⟨st,bQ,dn,tx,z⟩:=p;dsimp only at hb hR hne;subst hR;have hlen:=hp.len;dsimp only[qY]at hlen;rw[List.length_map]at hlen;cases R with
 | nil=>exact absurd rfl hne
 | cons r R=>
   refine VF.mono ?_ (adJ hb (by simp only[List.length_cons]at hlen;omega));rintro(m | m) O' hr
   ·obtain⟨h1,h2⟩:=hr;refine⟨h1.SY hU,?_⟩;have afd:=Wv (tk:=tk) hb.c;cases R with
    | nil=>exact⟨[],_,h2,rfl,fun x hx=>hU x (afd x hx)⟩
    | cons g R=>exact⟨_,_,h2,rfl,fun x hx=>hU x (afd x hx)⟩
   ·exact hr.elim
theorem Wx {O:VH} {B k:Nat} {U:List Nat} {p:PS} {L:Nat} (h:BP O B k U p) (hp:kJ p L) (hU:∀x∈U,x<O.next) (t:Bs) (x:Tk) (hL:L+Ao x<=100000) (rz:1<=x.kind/\x.kind<=6):
  VF Tryz.prog 245 [.ptr k 0,.agg (tW t x)] O (aH fun m O'=>Kp O O' U/\match j5 x p with
   | .error e=>m=mi e
   | .ok q=>m=mi 0/\Sp O O' B k U q):=by
 have HX:x.attrs.length<=100000:=by
  have:∀a:List (Bs×Bs),a.length<=ja a:=by
   intro a;induction a with
   | nil=>exact Nat.zero_le _
   | cons y a ih=>rw[ja,List.length_cons];omega
  have:=this x.attrs;unfold Ao at hL;omega
 have uK:x.text.length<=100000:=by unfold Ao at hL;omega
 have hLL:L<=100000:=by omega
 have hS:j5 x p=if x.kind=4 then m6 x.text p else if x.kind=1 then rV x.name x.attrs p else if x.kind=2 then(match rV x.name x.attrs p with
  | .error e=>.error e
  | .ok q=>.ok (sT q))else if x.kind=3 then(match p.st with
  | []=>.error 16
  | f::_=>if f.1=x.name then .ok (sT p)else .error 14)else .ok p:=rfl
 rw[hS];clear hS;have hW:x.name.length+ja x.attrs<=Ao x:=by unfold Ao;omega
 generalize Ao x=W at*;unfold tW;obtain⟨kd,nm,fC,tt,off⟩:=x;dsimp only at HX uK rz hW ⊢;generalize ((lV t off:Nat):Int)=p2 at*;generalize E0 t off=p3 at*;generalize ((off:Nat):Int)=p1 at*;simp only[ar];refine VF.bL 50 [.tmp 4] Tryz.func245 ?_;refine VC.ag aa (ae @aD ?_);refine VC.bx ?_;rintro O1 ⟨aU,CJ,du⟩;have h1:=h.ge aU;have je:Kp O O1 U:=Kp.ge aU;have Ap:∀x∈U,x∈U\/O.next<=x:=fun _ h=>.inl h
 have hnU:O.next ∉ U:=fun hm=>by have:=hU _ hm;omega
 rcases(show kd=4\/kd=1\/kd=2\/kd=3\/kd=5\/kd=6 by omega)with rfl | rfl | rfl | rfl | rfl | rfl
 all_goals simp only[Int.reduceEq,if_true,if_false,reduceIte]
 ·refine VC.ag aa (ao @aD @CJ ?_);refine ah.rt (aaD h1 hp hLL tt (by omega)) ?_;rintro m O2 ⟨hl,hm⟩;generalize m6 tt p=F at hm ⊢;cases F with
  | error e=>
    dsimp only at hm;subst hm
    refine ae @aD ?_;exact je.more hl Ap
  | ok q=>
    obtain⟨rfl,hq⟩:=hm;refine ae @aD ?_;exact⟨je.more hl Ap,hq.trans aU.next Ap⟩
 ·refine VC.ag aa (ao @aD @CJ ?_);refine ah.rt (SZ h1 hp hLL 1 nm tt fC p1 p2 p3 HX) ?_;rintro m O2 ⟨hl,hm⟩;have Fc:=(hl.2 O.next (by omega) hnU).trans CJ;cases hF:rV nm fC p with
  | error e=>
    rw[hF]at hm;dsimp only at hm;subst hm
    rcases wB hF with rfl | rfl
    ·refine aN @aD @Fc @ar ?_;exact je.more hl Ap
    ·refine aN @aD @Fc @ar ?_;exact je.more hl Ap
  | ok q=>
    rw[hF]at hm;obtain⟨rfl,hq⟩:=hm;refine ao @aD @Fc ?_;exact⟨je.more hl Ap,hq.trans aU.next Ap⟩
 ·refine VC.ag aa (ao @aD @CJ ?_);refine ah.rt (SZ h1 hp hLL 2 nm tt fC p1 p2 p3 HX) ?_;rintro m O2 ⟨hl,hm⟩;have Fc:=(hl.2 O.next (by omega) hnU).trans CJ;cases hF:rV nm fC p with
  | error e=>
    rw[hF]at hm;dsimp only at hm;subst hm
    rcases wB hF with rfl | rfl
    ·refine aN @aD @Fc @ar ?_;exact je.more hl Ap
    ·refine aN @aD @Fc @ar ?_;exact je.more hl Ap
  | ok q=>
    rw[hF]at hm;obtain⟨rfl,U2,hU2,hq⟩:=hm;obtain⟨cu,c5⟩:=Fh hp hF;refine ao @aD @Fc ?_;refine ah.rt (S0 hq cu (by rw[c5];simp)) ?_;rintro m O3 ⟨mZ,vt⟩;refine ae @aD ?_;have afe:∀x∈U2,x∈U\/O.next<=x:=fun x hx=>(hU2 x hx).imp id fun e=>by have:=aU.next;omega
    exact⟨(je.more hl Ap).more mZ afe,U2,afe,vt⟩
 ·obtain⟨R,tk,hb,hR,hUo⟩:=h1;have dN:=hb.c.cells;obtain⟨a0,a1,a2,a3,hr⟩:=qz (eG R (c_ p.z) hb.c.zl);unfold oU at dN;rw[hr]at dN;simp only[ar,aY,List.cons_append,List.nil_append]at dN
  have hRl:R.length<=64:=by
   have:=hp.len;rw[<-hR]at this;unfold qY at this;rw[List.length_map]at this;exact this
  cases R with
  | nil=>
    have c5:p.st=[]:=hR.symm;rw[c5];dsimp only;refine VC.ag aa (cU @aD @CJ @dN @List.length_nil.{0} ?_);exact je
  | cons r R=>
    have c5:p.st=(r.name,r.attrs,r.kids)::qY R:=hR.symm;rw[c5];dsimp only;simp only[List.length_cons]at hRl;obtain⟨pre,post,gm,dK,Cj,_,_⟩:=hb.c.loc
    have Pq:(pre++iM r++post)[r.off]?=some (.str r.name):=by
     rw[List.append_assoc,List.getElem?_append_right (by omega), <-dK,Nat.sub_self];rfl
    generalize pre++iM r++post=C at*;have Q3:BP O1 B k U p:=⟨r::R,tk,hb,hR,hUo⟩;refine VC.ag aa (cU @aD @CJ @dN @List.length_cons.{0} ?_);refine VC.nB [7,8] ?_;refine ab.aw 0 ?_;refine ae @aD ?_;refine ab.aw 5 ?_;refine ae @aD ?_;refine ab.ld (m:=.str nm) 6 ?_ ?_
    ·exact dq @aD @CJ
    simp only[aj];refine ab.call (i:=1) (Fb hb (by omega)) ?_;rintro _ O9 ⟨rfl,eO⟩;simp only[aj];rw[eO];clear eO O9
    refine⟨VH.Ge.refl _,?_⟩;refine ab.aw 2 ?_;refine ae @aD ?_;refine ab.aw 3 ?_;refine ae @aD ?_;refine ab.ld (m:=.str r.name) 4 ?_ ?_
    ·exact kt3 @aD @gm @Pq
    simp only[aj];refine ab.bH [(7,.aw),(8,.aw)] ?_;by_cases hn:r.name=nm
    ·rw[if_pos hn];have XY:(r.name==nm)=true:=beq_iff_eq.2 hn;refine ao @aD @XY ?_;refine ah.rt (S0 Q3 hp (by rw[c5];simp)) ?_;rintro m O3 ⟨mZ,vt⟩;refine ae @aD ?_;refine WC.sound aa (ae @aD ?_);exact⟨je.more mZ Ap,U,Ap,vt⟩
    ·rw[if_neg hn];have XY:(r.name==nm)=false:=by simpa using hn
     refine ao @aD @XY ?_;exact je
 ·refine VC.ag aa (ao @aD @CJ ?_);refine WC.sound aa (ae @aD ?_);exact⟨je,U,Ap,h1⟩
 ·refine VC.ag aa (ao @aD @CJ ?_);refine WC.sound aa (ae @aD ?_);exact⟨je,U,Ap,h1⟩
end Go.Proofs.YtoclnkfdahmnhaaGreatDoor
