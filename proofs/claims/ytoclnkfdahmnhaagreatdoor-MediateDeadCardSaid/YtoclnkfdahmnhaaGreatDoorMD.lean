import Derived.Test.YtoclnkfdahmnhaaGreatDoorMC
import Derived.Lib.LazyBuf
import Derived.Laws.LoneSync
set_option linter.unusedVariables false
set_option linter.unusedSimpArgs false
namespace Go.Proofs.YtoclnkfdahmnhaaGreatDoor
open Go.RowKit
set_option maxRecDepth 10000
def oO (w:Bs):Bs:=
 if w=[108,116]then[60]else if w=[103,116]then[62]else if w=[97,109,112]then[38]else if w=[113,117,111,116]then[34]else if w=[97,112,111,115]then[39]else[]
theorem ZG (w:Bs) (O:VH):VF Tryz.prog 320 [.str w] O (aI fun m O'=>m= .str (oO w)/\O'=O):=by
 unfold oO;refine VF.dh 14 [.tmp 2] Tryz.func320 ?_;by_cases h1:w=[108,116]
 ·rw[if_pos h1];have e1:=beq_iff_eq.2 h1;exact dH @bw @e1
 rw[if_neg h1];have e1:(w==[108,116])=false:=by simpa using h1
 by_cases h2:w=[103,116]
 ·rw[if_pos h2];have e2:=beq_iff_eq.2 h2;exact kt3 @bw @e1 @e2
 rw[if_neg h2];have e2:(w==[103,116])=false:=by simpa using h2
 by_cases h3:w=[97,109,112]
 ·rw[if_pos h3];have e3:=beq_iff_eq.2 h3;exact kt4 @bw @e1 @e2 @e3
 rw[if_neg h3];have e3:(w==[97,109,112])=false:=by simpa using h3
 by_cases h4:w=[113,117,111,116]
 ·rw[if_pos h4];have e4:=beq_iff_eq.2 h4;exact kt5 @bw @e1 @e2 @e3 @e4
 rw[if_neg h4];have e4:(w==[113,117,111,116])=false:=by simpa using h4
 by_cases h5:w=[97,112,111,115]
 ·rw[if_pos h5];have e5:=beq_iff_eq.2 h5;exact kt6 @bw @e1 @e2 @e3 @e4 @e5
 rw[if_neg h5];have e5:(w==[97,112,111,115])=false:=by simpa using h5
 exact kt6 @bw @e1 @e2 @e3 @e4 @e5
def BR (c:UInt8):Bool:=decide (97<=c.toNat/\c.toNat<=122)
theorem aix (c:UInt8) (O:VH):VF Tryz.prog 319 [fp c] O (aI fun m O'=>m=mb (BR c)/\O'=O):=by
 refine VF.dh 9 [.tmp 2] Tryz.func319 ?_;by_cases h1:97<=c.toNat
 ·by_cases h2:c.toNat<=122
  ·rw[show BR c=true from decide_eq_true ⟨h1,h2⟩];exact dH @bw @aG
  ·rw[show BR c=false from decide_eq_false (fun h=>h2 h.2)];exact dH @bw @aG
 ·rw[show BR c=false from decide_eq_false (fun h=>h1 h.1)];exact dH @bw @aG
def pN (s:Bs):Bs:=(s.drop 1).takeWhile BR
def oX:List Bs:=[[108,116],[103,116],[97,109,112],[113,117,111,116],[97,112,111,115]]
def ZH (s w:Bs):Bs×Nat×Int:=
 if 1+w.length=s.length then(if oX.any (fun x=>dC x w)then([],0,13)else([],0,12))
 else if oO w≠[]/\s.getD (1+w.length) 0=59 then(oO w,w.length+2,0)else([],0,12)
def mW (s:Bs):Bs×Nat×Int:=if dC s [38,35]then uV (s.drop 2) 2 else ZH s (pN s)
theorem f_ {s p:Bs} (h:dC s p=true):p.length<=s.length:=by
 unfold dC at h;have h1:s.take p.length=p:=by simpa using h
 rw[<-h1,List.length_take];omega
theorem agC (s:Bs) (O:VH) (hs:s.length<=1000000) (h0:s[0]?=some 38):
  VF Tryz.prog 314 [.str s] O (aI fun m O'=>m= .tuple [.str (mW s).1,mi (mW s).2.1,mi (mW s).2.2]/\O.Ge O'):=by
 have hne:(s==[])=false:=by cases s<;>simp at h0 ⊢
 have h1:1<=s.length:=by cases s<;>simp at h0 ⊢
 unfold mW;refine VF.dh 62 [.tmp 2,.tmp 3,.tmp 4] Tryz.func314 ?_;refine c8 @bw @hne @h0 @aG ?_;refine ah.rt (mT s [38,35] _) ?_;rintro _ O2 ⟨rfl,eO⟩;rw[eO];clear eO O2
 cases hn:dC s [38,35];rotate_left
 ·have o5:=f_ hn;simp only[List.length_cons,List.length_nil]at o5;rw[if_pos rfl];refine ae @bw ?_;refine ah.rt (Vj (s.drop 2) 2 O (by rw[List.length_drop];omega) (by decide)) ?_;rintro _ O2 ⟨rfl,ay⟩;generalize uV (s.drop 2) 2=r at*;refine ae @bw ?_;first | exact ay | exact⟨rfl,ay⟩
 rw[if_neg (by simp)];refine ae @bw ?_;refine ah.rt (IM 319 BR (s.drop 1) _ (Nat.le_trans (by rw[List.length_drop];omega:(s.drop 1).length<=1000000) (by decide)) aix (by kernel_rfl)) ?_;rintro _ O2 ⟨rfl,eO⟩;rw[eO];clear eO O2
 have hw:pN s=(s.drop 1).takeWhile BR:=rfl;have oM:(pN s).length<=s.length - 1:=by unfold pN;exact Nat.le_trans (nJ _ _) (by rw[List.length_drop];exact Nat.le_refl _)
 have AN:(s.drop 1).take (pN s).length=pN s:=by
  unfold pN;exact List.prefix_iff_eq_take.1 (List.takeWhile_prefix _) |>.symm
 have qO:(1+((pN s).length:Int)).toNat - 1=(pN s).length:=by omega
 have aeK:(1+((pN s).length:Int)).toNat=1+(pN s).length:=by omega
 rw[<-hw];clear hw;generalize pN s=w at*;unfold ZH;by_cases h2:1+w.length=s.length
 ·rw[if_pos h2];have h3:(1+(w.length:Int)==(s.length:Int))=true:=by simpa using(by omega:1+(w.length:Int)=(s.length:Int))
  have hws:List.length ([.str [108,116],.str [103,116],.str [97,109,112],.str [113,117,111,116],.str [97,112,111,115]]:List MV)=5:=rfl;refine iL @bw @zj @qO @AN @h3 ?_;refine WC.ik [40] [6,38,39] (fun j:Nat=>[mi j]) (fun j O'=>O'=O/\j<=5/\oX.any (fun x=>dC x w)=(oX.drop j).any (fun x=>dC x w)) (fun j=>5 - j) (0) ?_ ?_
  ·exact⟨rfl,Nat.zero_le _,rfl⟩
  rintro j O2 ⟨eO,hj,hr⟩;rw[eO];clear eO O2
  by_cases sF:j<5
  ·obtain⟨x,bu,P4⟩:∃x:Bs,([.str [108,116],.str [103,116],.str [97,109,112],.str [113,117,111,116],.str [97,112,111,115]]:List MV)[j]?=some (.str x)/\oX.drop j=x::oX.drop (j+1):=by
    rcases(by omega:j=0\/j=1\/j=2\/j=3\/j=4)with rfl | rfl | rfl | rfl | rfl<;>exact⟨_,rfl,rfl⟩
   rw[P4,List.any_cons]at hr;refine c8 @bw @zj @bu @hws ?_;refine ah.rt (mT x w _) ?_;rintro _ O2 ⟨rfl,eO⟩;rw[eO];clear eO O2
   cases hx:dC x w
   ·rw[hx,Bool.false_or]at hr;refine ae @bw ?_;exact aC.next (j+1) ⟨rfl,sF,hr⟩
   ·rw[hx,Bool.true_or]at hr;rw[hr,if_pos rfl];refine ae @bw ?_;first | exact VH.Ge.refl _ | exact⟨rfl,VH.Ge.refl _⟩
  ·obtain rfl:j=5:=by omega
   have fj:oX.any (fun x=>dC x w)=false:=hr;rw[fj,if_neg (by simp)];refine ae @bw ?_;first | exact VH.Ge.refl _ | exact⟨rfl,VH.Ge.refl _⟩
 rw[if_neg h2];have h3:(1+(w.length:Int)==(s.length:Int))=false:=by simpa using(by omega:¬1+(w.length:Int)=(s.length:Int))
 have h4:1+w.length<s.length:=by omega
 have hg:=List.getElem?_eq_getElem h4;have hd:s.getD (1+w.length) 0=s[1+w.length]:=by simp[List.getD,hg]
 rw[hd];generalize s[1+w.length]=c at*;refine c8 @bw @qO @AN @h3 ?_;refine ah.rt (ZG w _) ?_;rintro _ O2 ⟨rfl,eO⟩;rw[eO];clear eO O2
 by_cases h5:oO w=[]
 ·have h6:(oO w==[])=true:=beq_iff_eq.2 h5;rw[if_neg (fun h=>h.1 h5)];refine ao @bw @h6 ?_;first | exact VH.Ge.refl _ | exact⟨rfl,VH.Ge.refl _⟩
 have h6:(oO w==[])=false:=by simpa using h5
 by_cases h7:c=59
 ·rw[if_pos ⟨h5,h7⟩];subst h7;have h8:((((59:UInt8).toNat:Nat):Int)==59)=true:=rfl;refine Ca @bw @h6 @aeK @hg @aG @h8 ?_;first | exact VH.Ge.refl _ | exact⟨rfl,VH.Ge.refl _⟩
 ·rw[if_neg (fun h=>h7 h.2)];have h8:¬((c.toNat:Int)=59):=fun e=>h7 (UInt8.toNat_inj.1 (by simpa using(by omega:c.toNat=59)))
  refine Ca @bw @h6 @aeK @hg @aG @h8 ?_;first | exact VH.Ge.refl _ | exact⟨rfl,VH.Ge.refl _⟩
theorem LR (w:Bs):(oO w).length<=1:=by unfold oO;repeat' split
                                       all_goals simp
theorem Vl (k:Int):(Hn k).length<=4:=encode_size_le k
theorem ZI {s:Bs} {a:Nat} (h:(uV s a).2.2=0):a+2<=(uV s a).2.1/\(uV s a).2.1<=a+s.length/\(uV s a).1.length<=4:=by
 have qh:a<=(jg s a).2.1/\(jg s a).2.1+(jg s a).1.length<=a+s.length:=by
  unfold jg;split
  ·rename_i h;have:=f_ h;simp only[List.length_cons,List.length_nil]at this;rw[List.length_drop];dsimp only;omega
  ·dsimp only;omega
 have htw:=nJ (xh (jg s a).2.2) (jg s a).1;unfold uV at h ⊢;generalize ((jg s a).1.takeWhile (xh (jg s a).2.2)).length=n at*;unfold ZF at h ⊢;split at h
 ·cases h
 rw[if_neg ‹_›];split at h
 ·cases h
 rw[if_neg ‹_›];split at h
 ·cases h
 rw[if_neg ‹_›];split at h
 ·rw[if_pos ‹_›]
  have hl:(BQ (rJ (jg s a).2.2 ((jg s a).1.take n))).length<=4:=by
   unfold BQ;split<;>first | exact Vl _ | exact Nat.zero_le _
  exact⟨by dsimp only;omega,by dsimp only;omega,hl⟩
 ·cases h
theorem zP {s:Bs} (h:(mW s).2.2=0):2<=(mW s).2.1/\(mW s).2.1<=s.length/\(mW s).1.length<=(mW s).2.1:=by
 have oM:1+(pN s).length<=s.length\/s=[]:=by
  cases s with
  | nil=>exact .inr rfl
  | cons c s=>left;unfold pN;rw[List.drop_succ_cons,List.drop_zero,List.length_cons];have:=nJ BR s;omega
 unfold mW at h ⊢;split at h
 ·rename_i h1;rw[if_pos h1];have h2:=f_ h1;simp only[List.length_cons,List.length_nil]at h2;have:=ZI h;rw[List.length_drop]at this;omega
 rw[if_neg ‹_›];unfold ZH at h ⊢;split at h
 ·split at h<;>cases h
 rw[if_neg ‹_›];split at h
 ·rename_i h1;rw[if_pos h1];have:=LR (pN s);rcases oM with oM | rfl
  ·exact⟨by dsimp only;omega,by dsimp only;omega,by dsimp only;omega⟩
  ·have:=h1.2;simp at this
 ·cases h
def eu (t:Bs) (stop:UInt8):Nat->Nat->Bs->Except (Int×Nat) (Bs×Nat)
 | 0,o,acc=>.ok (acc,o)
 | n+1,o,acc=>match t[o]? with
   | none=>.ok (acc,o)
   | some c=>
     if c=stop then .ok (acc,o)
     else if c=38 then
      if(mW (t.drop o)).2.2≠0 then .error ((mW (t.drop o)).2.2,o)else eu t stop n (o+(mW (t.drop o)).2.1) (acc++(mW (t.drop o)).1)
     else if c=60\/l9 c=false then .error (10,o)
     else eu t stop n (o+1) (acc++[c])
theorem xU {O:VH} {k off:Nat} {t:Bs} {X:MV} (stop:UInt8) (h:Rd O k t off X) (ht:t.length<=1000000) (ho:off<=t.length):
  VF Tryz.prog 292 [.ptr k 0,fp stop] O (TQ O k t X (eu t stop (t.length+1 - off) off []) fun y m=>m= .str y):=by
 refine VF.bU 100 [.tmp 4] Tryz.func292 ?_;refine VC.ag aa (ae @ar ?_);refine VC.ag aa (ae @ar ?_);have uN:=fE.fresh O (Nat.le_refl O.next);have lO:O.Ge ((O.push (.cells [.v (.pointer none),.sl 0 [] .nil])).push (.shape O.next 145 2)):=((VH.Ge.refl O).push _).push _;generalize ((O.push (.cells [.v (.pointer none),.sl 0 [] .nil])).push (.shape O.next 145 2))=O1 at*;refine VC.bE [5] (fun x:Bs×Nat×Option Nat=>[.ptr O.next 0]) (fun x O'=>bj O (some k) O'/\Rd O' k t x.2.1 X/\fE O' O.next O.next x.2.2 x.1/\x.1.length<=1000000/\eu t stop (t.length+1 - off) off []= .ok (x.1,x.2.1)) ?_ ?_;rotate_left
 ·rintro⟨acc,o,q⟩ O2 ⟨c7,fj,b9,iB,he⟩;dsimp only at fj b9 iB he;rw[he];refine WC.sound aa (ae @ar ?_);refine ah.rt (po b9 (by simp only[maxLen];omega)) ?_;rintro _ O3 ⟨rfl,cG⟩;refine ae @ar ?_;have pB:=b9.xe;exact⟨⟨Nat.le_trans c7.next cG.next,fun i hi hne=>(cG.hp i (Nat.lt_of_lt_of_le hi c7.next) (fun e=>by have:=pB i e;omega)).trans (c7.hp i hi hne)⟩,rfl,Nat.lt_of_lt_of_le fj.1 cG.next,(cG.hp k fj.1 (fun e=>by have:=pB k e;have:=h.1;omega)).trans fj.2⟩
 refine VC.aD ?_;refine VC.bH [] [0,1,5] (fun x:Bs×Nat×Option Nat=>[]) (fun x O'=>bj O (some k) O'/\Rd O' k t x.2.1 X/\fE O' O.next O.next x.2.2 x.1/\x.1.length<=x.2.1/\x.2.1<=t.length/\∃n,t.length+1 - x.2.1<=n/\eu t stop (t.length+1 - off) off []=eu t stop n x.2.1 x.1) (fun x=>t.length - x.2.1) (([],off,none)) ?_ ?_
 ·exact⟨(bj.lC lO).any,h.ge lO,uN,Nat.zero_le _,ho,_,Nat.le_refl _,rfl⟩
 rintro⟨acc,o,q⟩ O2 ⟨c7,fj,b9,iB,LS,n,hn,he⟩;dsimp only at fj b9 iB LS hn he;obtain⟨n,rfl⟩:∃i,n=i+1:=⟨n - 1,by omega⟩
 have bN:=fj.2;simp only[au]at bN;by_cases h1:t.length<=o
 ·have fw:t[o]?=none:=List.getElem?_eq_none h1;have hle:eu t stop (n+1) o acc= .ok (acc,o):=by unfold eu;rw[fw]
  rw[hle]at he;refine VC.bA (VC.bA ?_);refine VC.oe [4,5,6,7,8,9,10,11,12,13,14,15,16,17,18,19] ?_;refine ab.av 0 ?_;refine ae @ar ?_;refine ab.av 1 ?_;refine ae @ar ?_;refine ab.av 2 ?_;refine ae @ar ?_;refine ab.call (i:=3) (mU fj) ?_;rintro _ O3 ⟨rfl,eO⟩;simp only[aj];rw[eO];clear eO O3
  rw[decide_eq_true h1];refine⟨VH.Ge.refl _,?_⟩;refine ab.bI [(4,.av),(5,.av),(6,.av),(7,.av),(8,.av),(9,.av),(10,.av),(11,.av),(12,.av),(13,.av),(14,.av),(15,.av),(16,.av),(17,.av),(18,.av),(19,.av)] ?_;refine ae @ar ?_;refine WC.sound aa (ae @ar ?_);exact aA.mk (acc,o,q) ⟨c7,fj,b9,Nat.le_trans iB (Nat.le_trans LS ht),he⟩
 have h2:o<t.length:=by omega
 have hg:=List.getElem?_eq_getElem h2;generalize t[o]=c at*;refine VC.bA (VC.bA ?_);refine VC.oe [] ?_;refine ab.av 0 ?_;refine ae @ar ?_;refine ab.av 1 ?_;refine ae @ar ?_;refine ab.av 2 ?_;refine ae @ar ?_;refine ab.call (i:=3) (mU fj) ?_;rintro _ O3 ⟨rfl,eO⟩;simp only[aj];rw[eO];clear eO O3
 rw[decide_eq_false h1];refine⟨VH.Ge.refl _,?_⟩;refine ab.av 4 ?_;refine ae @ar ?_;refine ab.av 5 ?_;refine ae @ar ?_;refine ab.av 6 ?_;refine ae @ar ?_;refine ab.av 7 ?_;refine ae @ar ?_;refine ab.av 8 ?_;refine ae @ar ?_;refine ab.av 9 ?_;refine ae @ar ?_;refine ab.ld (m:=.str t) 10 ?_ ?_
 ·exact dH @ar @bN
 simp only[aj];refine ab.av 11 ?_;refine ae @ar ?_;refine ab.av 12 ?_;refine ae @ar ?_;refine ab.av 13 ?_;refine ae @ar ?_;refine ab.av 14 ?_;refine ae @ar ?_;refine ab.ld (m:=.v (.int .i64 o)) 15 ?_ ?_
 ·exact dH @ar @bN
 simp only[aj];refine ab.av 16 ?_;refine ao @ar @hg ?_;refine ab.av 17 ?_;refine ae @ar ?_;by_cases h3:c=stop
 ·subst h3;have hle:eu t c (n+1) o acc= .ok (acc,o):=by unfold eu;rw[hg];simp
  rw[hle]at he;refine ab.av 18 ?_;refine ao @ar @aG ?_;refine ab.av 19 ?_;refine ae @ar ?_;refine ab.bI [] ?_;refine ae @ar ?_;refine WC.sound aa (ae @ar ?_);exact aA.mk (acc,o,q) ⟨c7,fj,b9,Nat.le_trans iB (Nat.le_trans LS ht),he⟩
 have h4:¬((c.toNat:Int)=(stop.toNat:Int)):=fun e=>h3 (UInt8.toNat_inj.1 (by omega))
 refine ab.av 18 ?_;refine aM @ar @aG @h4 ?_;refine ab.av 19 ?_;refine ae @ar ?_;refine ab.bI [] ?_;refine ae @ar ?_;refine WC.sound aa (ae @ar ?_);refine VC.aD ?_;refine VC.bA ?_;refine WC.reads ?_;refine aM @ar @bN @hg ?_;by_cases h5:c=38
 ·subst h5;have Em:(t.drop o).length<=1000000:=by rw[List.length_drop];omega
  have lO:(t.drop o)[0]?=some 38:=by rw[List.getElem?_drop];exact hg
  have zQ:=agC (t.drop o) O2 Em lO;have b_:= @zP (t.drop o)
  have hle:eu t stop (n+1) o acc=if(mW (t.drop o)).2.2≠0 then .error ((mW (t.drop o)).2.2,o)else eu t stop n (o+(mW (t.drop o)).2.1) (acc++(mW (t.drop o)).1):=by
   rw[show eu t stop (n+1) o acc=_ from by unfold eu;rfl,hg];simp only;rw[if_neg h3,if_pos trivial]
  rw[hle]at he;rw[List.length_drop]at b_;generalize mW (t.drop o)=r at*;have h6:((((38:UInt8).toNat:Nat):Int)==38)=true:=rfl;refine VC.ag aa (aM @ar @aG @h6 ?_);refine ah.rt (wg fj LS) ?_;rintro _ O3 ⟨rfl,eO⟩;rw[eO];clear eO O3
  refine ae @ar ?_;refine ah.rt (zQ) ?_;rintro _ OR ⟨rfl,ZJ⟩;refine ae @ar ?_;clear zQ
  replace bN:=(ZJ.hp k fj.1).trans bN
  replace fj:=fj.ge ZJ
  replace b9:=b9.ge ZJ
  replace c7:=c7.trans (bj.lC ZJ).any
  clear ZJ O2;by_cases h7:r.2.2=0
  ·obtain⟨k1,k2,k3⟩:=b_ h7;rw[if_neg (by simpa using h7)]at he;have h8:(r.2.2 != 0)=false:=by simpa using h7
   refine ao @ar @h8 ?_;refine ah.rt (bC r.1 b9 (by omega)) ?_;rintro _ O3 ⟨rfl,q',ct,cG⟩;have pB:=b9.xe;have dG:O3.hp k=some (.cells [.str t,.v (.int .i64 (o:Int)),X]):=(cG.hp k fj.1 (by have:=h.1;omega) (fun e=>by have:=pB k e;have:=h.1;omega)).trans bN;refine ao @ar @dG ?_;have eS:bj O (some k) O3:=⟨Nat.le_trans c7.next cG.next,fun i hi hne=>(cG.hp i (Nat.lt_of_lt_of_le hi c7.next) (by omega) (fun e=>by have:=pB i e;omega)).trans (c7.hp i hi hne)⟩;have gn:Rd O3 k t o X:=⟨Nat.lt_of_lt_of_le fj.1 cG.next,dG⟩;refine aC.next (acc++r.1,o+r.2.1,q') ⟨eS.trans bj.set,by simpa[au]using gn.set (t':=t) (off':=o+r.2.1) (X':=X),ct.set dG (by have:=h.1;omega) (fun e=>by have:=ct.xe k e;have:=h.1;omega),by dsimp only;rw[List.length_append];omega,by dsimp only;omega,n,by dsimp only;omega,he⟩
  ·rw[if_pos h7]at he;rw[he];have h8:(r.2.2 != 0)=true:=by simpa using h7
   refine aM @ar @h8 @bN ?_;refine ah.p (h_ r.2.2 o _) ?_ ?_
   ·rintro m O9 ⟨_,h⟩;exact h.elim
   rintro m O9 ⟨rfl,rfl⟩;refine ae @ar ?_;exact⟨c7,rfl⟩
 have h6:¬((c.toNat:Int)=38):=fun e=>h5 (UInt8.toNat_inj.1 (by simpa using(by omega:c.toNat=38)))
 by_cases h7:c=60\/l9 c=false
 ·have hle:eu t stop (n+1) o acc= .error (10,o):=by unfold eu;rw[hg];simp only;rw[if_neg h3,if_neg h5,if_pos h7]
  rw[he,hle];by_cases h8:c=60
  ·have h9:((c.toNat:Int)==60)=true:=by rw[h8];rfl
   refine VC.ag aa (iL @ar @aG @h6 @h9 @bN ?_);refine ah.p (h_ 10 o _) ?_ ?_
   ·rintro m O9 ⟨_,h⟩;exact h.elim
   rintro m O9 ⟨rfl,rfl⟩;refine ae @ar ?_;exact⟨c7,rfl⟩
  have xF:¬((c.toNat:Int)=60):=fun e=>h8 (UInt8.toNat_inj.1 (by simpa using(by omega:c.toNat=60)))
  have h9:l9 c=false:=h7.resolve_left h8;refine VC.ag aa (c8 @ar @aG @h6 @xF ?_);refine ah.rt (v7 c _) ?_;rintro _ O3 ⟨rfl,eO⟩;rw[eO];clear eO O3
  rw[h9];refine ao @ar @bN ?_;refine ah.p (h_ 10 o _) ?_ ?_
  ·rintro m O9 ⟨_,h⟩;exact h.elim
  rintro m O9 ⟨rfl,rfl⟩;refine ae @ar ?_;exact⟨c7,rfl⟩
 have h8:¬c=60:=fun e=>h7 (.inl e)
 have h9:l9 c=true:=by simpa using fun hx:l9 c=false=>h7 (.inr hx)
 have xF:¬((c.toNat:Int)=60):=fun e=>h8 (UInt8.toNat_inj.1 (by simpa using(by omega:c.toNat=60)))
 have hle:eu t stop (n+1) o acc=eu t stop n (o+1) (acc++[c]):=by
  rw[show eu t stop (n+1) o acc=_ from by unfold eu;rfl,hg];simp only;rw[if_neg h3,if_neg h5,if_neg h7]
 rw[hle]at he;refine VC.ag aa (c8 @ar @aG @h6 @xF ?_);refine ah.rt (v7 c _) ?_;rintro _ O3 ⟨rfl,eO⟩;rw[eO];clear eO O3
 rw[h9];refine ae @ar ?_;refine WC.sound aa (ae @ar ?_);refine ah.rt (sq c b9 (by omega)) ?_;rintro _ O3 ⟨rfl,q',ct,cG⟩;have pB:=b9.xe;have dG:O3.hp k=some (.cells [.str t,.v (.int .i64 (o:Int)),X]):=(cG.hp k fj.1 (by have:=h.1;omega) (fun e=>by have:=pB k e;have:=h.1;omega)).trans bN;refine ao @ar @dG ?_;have eS:bj O (some k) O3:=⟨Nat.le_trans c7.next cG.next,fun i hi hne=>(cG.hp i (Nat.lt_of_lt_of_le hi c7.next) (by omega) (fun e=>by have:=pB i e;omega)).trans (c7.hp i hi hne)⟩;have gn:Rd O3 k t o X:=⟨Nat.lt_of_lt_of_le fj.1 cG.next,dG⟩;refine aC.next (acc++[c],o+1,q') ⟨eS.trans bj.set,by simpa[au]using gn.set (t':=t) (off':=o+1) (X':=X),ct.set dG (by have:=h.1;omega) (fun e=>by have:=ct.xe k e;have:=h.1;omega),by dsimp only;rw[List.length_append];simp only[List.length_cons,List.length_nil];omega,by dsimp only;omega,?_⟩;exact⟨n,by dsimp only;omega,he⟩
theorem nU {t:Bs} {stop:UInt8}:∀(n o:Nat) (acc:Bs) {s:Bs} {o':Nat},o<=t.length->acc.length<=o->eu t stop n o acc= .ok (s,o')->o<=o'/\o'<=t.length/\s.length<=o'
 | 0,o,acc,s,o',ho,ha,h=>by
   unfold eu at h;injection h with h;injection h with h1 h2
   subst h1;subst h2
   exact⟨Nat.le_refl _,ho,ha⟩
 | n+1,o,acc,s,o',ho,ha,h=>by
   have done:∀(h:(.ok (acc,o):Except (Int×Nat) (Bs×Nat))= .ok (s,o')),o<=o'/\o'<=t.length/\s.length<=o':=fun h=>by
    injection h with h;injection h with h1 h2
    subst h1;subst h2
    exact⟨Nat.le_refl _,ho,ha⟩
   unfold eu at h;cases hg:t[o]? with
   | none=>rw[hg]at h;exact done h
   | some c=>
     have P5:o<t.length:=(List.getElem?_eq_some_iff.1 hg).1;rw[hg]at h;simp only at h;split at h
     ·exact done h
     split at h
     ·rename_i h2;subst h2;split at h
      ·cases h
      ·rename_i h5;obtain⟨k1,k2,k3⟩:=zP (by simpa using h5);rw[List.length_drop]at k2;have:=nU n _ _ (by omega) (by rw[List.length_append];omega) h;omega
     split at h
     ·cases h
     ·have:=nU n _ _ (by omega) (by rw[List.length_append];simp only[List.length_cons,List.length_nil];omega) h;omega
def tA (t:Bs) (off:Nat):Except (Int×Nat) (Bs×Nat):=match t[off]? with
 | none=>.error (13,off)
 | some q=>
   if q≠34/\q≠39 then .error (10,off)
   else match eu t q (t.length+1 - (off+1)) (off+1) []with
    | .error e=>.error e
    | .ok (s,o)=>if t.length<=o then .error (13,o)else .ok (s,o+1)
theorem ZK {O:VH} {k off:Nat} {t:Bs} {X:MV} (h:Rd O k t off X) (ht:t.length<=1000000):
  VF Tryz.prog 313 [.ptr k 0] O (TQ O k t X (tA t off) fun y m=>m= .str y):=by
 have hk:=h.2;simp only[au]at hk;unfold tA;refine VF.dh 70 [.tmp 2] Tryz.func313 ?_;refine ae @ar ?_;refine ah.rt (mU h) ?_;rintro _ O2 ⟨rfl,eO⟩;rw[eO];clear eO O2
 by_cases h1:t.length<=off
 ·rw[decide_eq_true h1,List.getElem?_eq_none h1];refine ao @ar @hk ?_;refine ah.p (h_ _ _ _) ?_ ?_
  ·rintro m O9 ⟨_,h⟩;exact h.elim
  rintro m O9 ⟨rfl,rfl⟩;refine ae @ar ?_;exact⟨bj.refl _ _,rfl⟩
 have h2:off<t.length:=by omega
 have hg:=List.getElem?_eq_getElem h2;rw[decide_eq_false h1,hg];generalize t[off]=c at*;refine ae @ar ?_;refine WC.reads ?_;refine c8 @ar @hk @hg @aG ?_;have hr:Rd (O.set k (.cells [.str t,mi (off+1:Nat),X])) k t (off+1) X:=h.set;have hu:bj O (some k) (O.set k (.cells [.str t,mi (off+1:Nat),X])):=bj.set;have ku:((off:Int)+1)=((off+1:Nat):Int):=by omega
 simp only[au, <-ku]at hr hu;have hle:=xU (X:=X) c hr ht (by omega:off+1<=t.length);have fR:= @nU t c (t.length+1 - (off+1)) (off+1) [];generalize eu t c (t.length+1 - (off+1)) (off+1) []=LF at*;by_cases hq:c≠34/\c≠39
 ·rw[if_pos hq];have e1:¬((c.toNat:Int)=34):=fun e=>hq.1 (UInt8.toNat_inj.1 (by simpa using(by omega:c.toNat=34)))
  have e2:¬((c.toNat:Int)=39):=fun e=>hq.2 (UInt8.toNat_inj.1 (by simpa using(by omega:c.toNat=39)))
  refine c8 @ar @hk @e1 @e2 ?_;refine ah.p (h_ _ _ _) ?_ ?_
  ·rintro m O9 ⟨_,h⟩;exact h.elim
  rintro m O9 ⟨rfl,rfl⟩;refine ae @ar ?_;exact⟨bj.refl _ _,rfl⟩
 rw[if_neg hq];by_cases hc:c=34
 ·subst hc;have e1:((((34:UInt8).toNat:Nat):Int) != 34)=false:=rfl;refine c8 @ar @aG @e1 @hk ?_;generalize O.set k (.cells [.str t,.v (.int .i64 ((off:Int)+1)),X])=O2 at*;refine ah.p (hle) ?_ ?_;rotate_left
  ·rintro m O3 ⟨cG,h⟩;cases LF with
   | ok y=>exact h.elim
   | error e=>
     dsimp only at h;subst h;refine ae @ar ?_;exact⟨hu.trans cG,rfl⟩
  rintro m O3 ⟨cG,h⟩;cases LF with
  | error e=>exact h.elim
  | ok y=>
  obtain⟨s,o⟩:=y;dsimp only at h;obtain⟨rfl,gn⟩:=h;have dG:=gn.2;simp only[au]at dG;obtain⟨g1,g2,g3⟩:=fR (by omega) (Nat.zero_le _) rfl;refine ae @ar ?_;refine ah.rt (mU gn) ?_;rintro _ O4 ⟨rfl,eO⟩;rw[eO];clear eO O4
  by_cases h5:t.length<=o
  ·rw[decide_eq_true h5];rw[if_pos h5];refine ao @ar @dG ?_;refine ah.p (h_ _ _ _) ?_ ?_
   ·rintro m O9 ⟨_,h⟩;exact h.elim
   rintro m O9 ⟨rfl,rfl⟩;refine ae @ar ?_;exact⟨hu.trans cG,rfl⟩
  ·rw[decide_eq_false h5];rw[if_neg h5];refine ao @ar @dG ?_;exact⟨(hu.trans cG).trans bj.set,rfl,by simpa[au]using gn.set (t':=t) (off':=o+1) (X':=X)⟩
 ·obtain rfl:c=39:=by
   by_cases h9:c=39
   ·exact h9
   ·exact absurd ⟨hc,h9⟩ hq
  have e1:((((39:UInt8).toNat:Nat):Int) != 34)=true:=rfl;have e2:((((39:UInt8).toNat:Nat):Int) != 39)=false:=rfl;refine iL @ar @aG @e1 @e2 @hk ?_;generalize O.set k (.cells [.str t,.v (.int .i64 ((off:Int)+1)),X])=O2 at*;refine ah.p (hle) ?_ ?_;rotate_left
  ·rintro m O3 ⟨cG,h⟩;cases LF with
   | ok y=>exact h.elim
   | error e=>
     dsimp only at h;subst h;refine ae @ar ?_;exact⟨hu.trans cG,rfl⟩
  rintro m O3 ⟨cG,h⟩;cases LF with
  | error e=>exact h.elim
  | ok y=>
  obtain⟨s,o⟩:=y;dsimp only at h;obtain⟨rfl,gn⟩:=h;have dG:=gn.2;simp only[au]at dG;obtain⟨g1,g2,g3⟩:=fR (by omega) (Nat.zero_le _) rfl;refine ae @ar ?_;refine ah.rt (mU gn) ?_;rintro _ O4 ⟨rfl,eO⟩;rw[eO];clear eO O4
  by_cases h5:t.length<=o
  ·rw[decide_eq_true h5];rw[if_pos h5];refine ao @ar @dG ?_;refine ah.p (h_ _ _ _) ?_ ?_
   ·rintro m O9 ⟨_,h⟩;exact h.elim
   rintro m O9 ⟨rfl,rfl⟩;refine ae @ar ?_;exact⟨hu.trans cG,rfl⟩
  ·rw[decide_eq_false h5];rw[if_neg h5];refine ao @ar @dG ?_;exact⟨(hu.trans cG).trans bj.set,rfl,by simpa[au]using gn.set (t':=t) (off':=o+1) (X':=X)⟩
def k_ (t:Bs):Nat->Nat->List (Bs×Bs)->Except (Int×Nat) (List (Bs×Bs)×Nat)
 | 0,o,l=>.ok (l,o)
 | n+1,o,l=>
   if jO t o=0\/t.length<=o+jO t o\/dC (t.drop (o+jO t o)) [47]=true\/dC (t.drop (o+jO t o)) [62]=true then .ok (l,o+jO t o)
   else match iO t (o+jO t o) 10 with
    | .error e=>.error e
    | .ok (nm,o2)=>
      if l.any (·.1==nm)then .error (15,o+jO t o)
      else match iq t (o2+jO t o2) [61]with
       | .error e=>.error e
       | .ok (_,o4)=>match tA t (o4+jO t o4)with
         | .error e=>.error e
         | .ok (v,o6)=>k_ t n o6 (l++[(nm,v)])
theorem iG (t:Bs) (o:Nat) (h:o<=t.length):o+jO t o<=t.length:=by
 unfold jO;have:=nJ lD (t.drop o);rw[List.length_drop]at this;omega
theorem fQ {t:Bs} {o:Nat} {e:Int} {s:Bs} {o':Nat} (h:iO t o e= .ok (s,o')):o<o'/\o'<=t.length/\s.length<=o' - o/\0<s.length:=by
 have D6:=BL (t.drop o);rw[List.length_drop]at D6;unfold iO at h;split at h
 ·cases h
 split at h
 ·cases h
 injection h with h;injection h with h1 h2
 subst h1;subst h2
 rw[List.length_take,List.length_drop];omega
theorem kV {t:Bs} {o:Nat} {p:Bs} {y:Unit} {o':Nat} (h:iq t o p= .ok (y,o')):o'=o+p.length/\o'<=t.length/\o<t.length:=by
 unfold iq at h;split at h
 ·cases h
 split at h
 ·rename_i h2;injection h with h;injection h with h1 h3
  have:=f_ h2;rw[List.length_drop]at this;omega
 ·cases h
theorem zR {t:Bs} {o:Nat} {s:Bs} {o':Nat} (h:tA t o= .ok (s,o')):o<o'/\o'<=t.length/\s.length<=o':=by
 unfold tA at h;split at h
 ·cases h
 rename_i q hq;have P5:=(List.getElem?_eq_some_iff.1 hq).1;split at h
 ·cases h
 split at h
 ·cases h
 rename_i s2 o2 h2;split at h
 ·cases h
 injection h with h;injection h with h1 h3
 subst h1;subst h3
 have:=nU _ _ _ (by omega) (by simp) h2;omega
theorem App.bl {O O1:VH} {B sz k:Nat} {tk:Tok} (h:App O B sz tk) (u:bj O (some k) O1) (hk:k<B):App O1 B sz tk:=by
 cases tk with
 | own t j=>
   obtain⟨h1,h2,h3,h4⟩:=h;exact⟨h1,(u.hp t h4 (by intro e;injection e;omega)).trans h2,h3,Nat.lt_of_lt_of_le h4 u.next⟩
 | nil=>trivial
 | full=>trivial
 | aq=>exact h.elim
theorem LU {O:VH} {k off:Nat} {t:Bs} {X:MV} (h:Rd O k t off X) (ht:t.length<=1000000) (ho:off<=t.length):
  VF Tryz.prog 291 [.ptr k 0] O (TQ O k t X (k_ t (t.length+1 - off) off []) fun y m=>∃tk,m= .sl y.length (y.flatMap aZ) tk):=by
 refine VF.bU 64 [.tmp 2] Tryz.func291 ?_;refine VC.ag aa (ae @ar ?_);refine VC.aD ?_;refine VC.bH [2] [0] (fun x:List (Bs×Bs)×Nat×Tok=>[.sl x.1.length (x.1.flatMap aZ) x.2.2]) (fun x O'=>bj O (some k) O'/\Rd O' k t x.2.1 X/\App O' O.next 2 x.2.2/\x.2.1<=t.length/\x.1.length<=x.2.1/\∃n,t.length+1 - x.2.1<=n/\k_ t (t.length+1 - off) off []=k_ t n x.2.1 x.1) (fun x=>t.length - x.2.1) (([],off,.nil)) ?_ ?_
 ·exact⟨bj.refl _ _,h,trivial,ho,Nat.zero_le _,_,Nat.le_refl _,rfl⟩
 rintro⟨l,o,tk⟩ O2 ⟨c7,fj,cT,P5,yX,n,hn,he⟩;dsimp only at c7 fj cT P5 yX hn he ⊢;rw[he];obtain⟨n,rfl⟩:∃i,n=i+1:=⟨n - 1,by omega⟩
 have tI:=iG t o P5;have hrb:=pL fj ht P5;rw[k_];generalize jO t o=kb at*;refine VC.aD ?_;refine VC.ag aa (ae @ar ?_);refine ah.p (hrb) ?_ ?_;rotate_left
 ·rintro m O9 ⟨_,h⟩;exact h.elim
 rintro m O3 ⟨cG,h9⟩;dsimp only at h9;obtain⟨rfl,gn⟩:=h9;have mf:App O3 O.next 2 tk:=App.bl cT cG (by have:=h.1;omega);have En:=c7.trans cG;refine ae @ar ?_;by_cases ug:kb=0
 ·subst ug;rw[if_pos (.inl rfl)];repeat refine fU @ar ?_
  exact⟨En,⟨tk,rfl⟩,gn⟩
 have aiy:((kb:Int)==0)=false:=by simpa using ug
 refine VC.ag aa (ao @ar @aiy ?_);refine ah.rt (mU gn) ?_;rintro _ O4 ⟨rfl,eO⟩;rw[eO];clear eO O4
 by_cases Hp:t.length<=o+kb
 ·rw[if_pos (.inr (.inl Hp)),decide_eq_true Hp];repeat refine fU @ar ?_
  exact⟨En,⟨tk,rfl⟩,gn⟩
 rw[decide_eq_false Hp];refine ae @ar ?_;refine ah.rt (pK [47] gn (by omega)) ?_;rintro _ O4 ⟨rfl,eO⟩;rw[eO];clear eO O4
 cases Vm:dC (t.drop (o+kb)) [47];rotate_left
 ·rw[if_pos (.inr (.inr (.inl rfl)))];repeat refine fU @ar ?_
  exact⟨En,⟨tk,rfl⟩,gn⟩
 refine ae @ar ?_;refine ah.rt (pK [62] gn (by omega)) ?_;rintro _ O4 ⟨rfl,eO⟩;rw[eO];clear eO O4
 cases h62:dC (t.drop (o+kb)) [62];rotate_left
 ·rw[if_pos (.inr (.inr (.inr rfl)))];repeat refine fU @ar ?_
  exact⟨En,⟨tk,rfl⟩,gn⟩
 rw[if_neg (by simp[ug,Hp])];have dG:=gn.2;simp only[au]at dG;repeat refine pI @ar @dG ?_
 have N3:=zN 10 gn ht;have tQ:= @fQ t (o+kb) 10;generalize iO t (o+kb) 10=NF at*;refine ah.p (N3) ?_ ?_;rotate_left
 ·rintro m O9 ⟨gK,h9⟩;cases NF with
  | ok y=>exact h9.elim
  | error e=>
    dsimp only at h9;subst h9;refine ae @ar ?_;exact⟨bj.trans En gK,rfl⟩
 rintro m O4 ⟨eS,h9⟩;cases NF with
 | error e=>exact h9.elim
 | ok y9=>
 obtain⟨nm,o2⟩:=y9;dsimp only at h9;obtain⟨rfl,FZ⟩:=h9;obtain⟨a1,a2,a3,a4⟩:=tQ rfl;have jX:App O4 O.next 2 tk:=App.bl mf eS (by have:=h.1;omega);have ZL:=En.trans eS;refine ae @ar ?_;have Au:((l.flatMap aZ).length)=l.length*2:=aQ eR l;refine VC.bE [0,2,4,5] (fun _:Unit=>[.ptr k 0,.sl l.length (l.flatMap aZ) tk,mi (o+kb:Nat),.str nm]) (fun _ O'=>O4.Ge O'/\l.any (·.1==nm)=false) ?_ ?_
 ·refine VC.ag aa (ae @ar ?_);refine VC.aD ?_;refine VC.bH [40] [0,2,4,5,38,39] (fun j:Nat=>[mi j]) (fun j O'=>O4.Ge O'/\j<=l.length/\l.any (·.1==nm)=(l.drop j).any (·.1==nm)) (fun j=>l.length - j) (0) ?_ ?_
  ·exact⟨VH.Ge.refl _,Nat.zero_le _,rfl⟩
  rintro j O5 ⟨bK,hj,jW⟩;by_cases AD:j<l.length
  ·have bu:=cj eR l j AD;have P4:=List.drop_eq_getElem_cons AD;rw[P4,List.any_cons]at jW;generalize l[j]=y at*;obtain⟨yn,yv⟩:=y;simp only[aZ]at bu;refine VC.ag aa (ae @ar ?_);refine VC.ag aa (ae @ar ?_);refine VC.bA (VC.aD ?_);refine VC.ag aa (ao @ar @bu ?_);refine VC.al ?_;rintro O6 ⟨fS,mA,ny⟩;by_cases hy:yn=nm
   ·have e1:(yn==nm)=true:=beq_iff_eq.2 hy;simp only[e1,Bool.true_or]at jW;rw[jW,if_pos rfl];refine VC.ag aa (aM @ar @mA @e1 ?_);refine WC.sound aa (ae @ar ?_);refine ah.p (h_ _ _ _) ?_ ?_
    ·rintro m O9 ⟨_,h⟩;exact h.elim
    rintro m O9 ⟨rfl,rfl⟩;refine ae @ar ?_;exact⟨ZL.trans (bj.lC (bK.trans fS)).any,rfl⟩
   ·have e1:(yn==nm)=false:=by simpa using hy
    simp only[e1,Bool.false_or]at jW;refine VC.ag aa (aM @ar @mA @e1 ?_);refine WC.sound aa (ae @ar ?_);refine WC.sound aa (ae @ar ?_);exact aC.next (j+1) ⟨bK.trans fS,AD,jW⟩
  ·obtain rfl:j=l.length:=by omega
   rw[List.drop_length,List.any_nil]at jW;refine VC.ag aa (ae @ar ?_);refine WC.sound aa (ae @ar ?_);exact aA.mk () ⟨bK,jW⟩
 rintro⟨⟩ O5 ⟨bK,jW⟩;rw[jW,if_neg (by simp)];have wP:=FZ.ge bK;have mc:=jX.ge bK;have RU:=ZL.trans (bj.lC bK).any;clear bK FZ gn fj cT mf jX c7 cG eS En ZL dG hrb;have ake:=iG t o2 a2;refine VC.ag aa (ae @ar ?_);refine ah.p (pL wP ht a2) ?_ ?_;rotate_left
 ·rintro m O9 ⟨_,h⟩;exact h.elim
 rintro m O6 ⟨qL,h9⟩;dsimp only at h9;obtain⟨rfl,mX⟩:=h9;have ma:App O6 O.next 2 tk:=App.bl mc qL (by have:=h.1;omega);have Lr:=RU.trans qL;repeat refine fU @ar ?_
 have hwk:= @kV t (o2+jO t o2) [61];have AO:=sE (X:=X) [61] mX ht (by decide);generalize iq t (o2+jO t o2) [61]=WF at*;refine ah.p (AO) ?_ ?_;rotate_left
 ·rintro m O9 ⟨gK,h9⟩;cases WF with
  | ok y=>exact h9.elim
  | error e=>
    dsimp only at h9;subst h9;refine ae @ar ?_;exact⟨bj.trans Lr gK,rfl⟩
 rintro m O7 ⟨Cf,h9⟩;cases WF with
 | error e=>exact h9.elim
 | ok y9=>
 obtain⟨y7,o4⟩:=y9;dsimp only at h9;obtain⟨rfl,Eo⟩:=h9;obtain⟨b1,b2,b3⟩:=hwk rfl;have hY:App O7 O.next 2 tk:=App.bl ma Cf (by have:=h.1;omega);have aiz:=Lr.trans Cf;have akf:=iG t o4 b2;repeat refine fU @ar ?_
 refine ah.p (pL Eo ht b2) ?_ ?_;rotate_left
 ·rintro m O9 ⟨_,h⟩;exact h.elim
 rintro m O8 ⟨qg,h9⟩;dsimp only at h9;obtain⟨rfl,ZM⟩:=h9;have BT:App O8 O.next 2 tk:=App.bl hY qg (by have:=h.1;omega);have aeL:=aiz.trans qg;repeat refine fU @ar ?_
 have hvk:= @zR t (o4+jO t o4);have hvv:=ZK ZM ht;generalize tA t (o4+jO t o4)=VF at*;refine ah.p (hvv) ?_ ?_;rotate_left
 ·rintro m O9 ⟨gK,h9⟩;cases VF with
  | ok y=>exact h9.elim
  | error e=>
    dsimp only at h9;subst h9;refine ae @ar ?_;exact⟨bj.trans aeL gK,rfl⟩
 rintro m OA ⟨ZN,h9⟩;cases VF with
 | error e=>exact h9.elim
 | ok y9=>
 obtain⟨v,o6⟩:=y9;dsimp only at h9;obtain⟨rfl,hrA⟩:=h9;obtain⟨c1,c2,c3⟩:=hvk rfl;have ZO:App OA O.next 2 tk:=App.bl BT ZN (by have:=h.1;omega);have R7:=aeL.trans ZN;repeat refine fU @ar ?_
 have aiA:=bo (tk':=.full) (n:=l.length) (k:=1) (cs:=l.flatMap aZ) (ds:=[.str nm,.str v]) aen aeu.1.1 ZO Au rfl rfl (by decide) (by decide) (by omega) (by simp only[maxLen];omega);refine VL.app aiA ?_;repeat refine fU @ar ?_
 have jD:=cK.after ZO;have hne:∀i,i<O.next->Tok.id tk≠some i:=fun i hi e=>by have:=(ZO.qe e).1;omega
 refine aC.next (l++[(nm,v)],o6,.own OA.next 2) ⟨⟨Nat.le_trans R7.next jD.next,fun i hi hk=>(jD.hp i (Nat.lt_of_lt_of_le hi R7.next) (hne i hi)).trans (R7.hp i hi hk)⟩,⟨Nat.lt_of_lt_of_le hrA.1 jD.next,(jD.hp k hrA.1 (hne k h.1)).trans hrA.2⟩,App.after R7.next,c2,?_,n,?_,rfl⟩ (hl:=?_) (hm:=?_)
 ·dsimp only;rw[List.length_append,List.length_singleton];omega
 ·dsimp only;omega
 ·dsimp only;rw[List.flatMap_append,List.length_append];rfl
 ·dsimp only;omega
structure Tk where
 kind:Int
 name:Bs
 attrs:List (Bs×Bs)
 text:Bs
 off:Nat
def xV (x:Tk):List MV:=[mi x.kind,.str x.name,.sl x.attrs.length (x.attrs.flatMap aZ) .aq,.str x.text,mi x.off,mi 0,mi 0]
theorem Ep (x:Tk):(xV x).length=7:=rfl
structure UB (B k:Nat) (O O':VH):Prop where
 next:O.next<=O'.next
 hp:∀i,i<B->i≠k->O'.hp i=O.hp i
theorem UB.refl (B k:Nat) (O:VH):UB B k O O:=⟨Nat.le_refl _,fun _ _ _=>rfl⟩
theorem UB.bl {B k:Nat} {O O1 O2:VH} (h:UB B k O O1) (u:bj O1 (some k) O2) (hB:B<=O1.next):UB B k O O2:=
 ⟨Nat.le_trans h.next u.next,fun i hi hk=>(u.hp i (Nat.lt_of_lt_of_le hi hB) (by intro e;injection e;omega)).trans (h.hp i hi hk)⟩
theorem UB.ge {B k:Nat} {O O1 O2:VH} (h:UB B k O O1) (u:O1.Ge O2) (hB:B<=O1.next):UB B k O O2:=
 ⟨Nat.le_trans h.next u.next,fun i hi hk=>(u.hp i (Nat.lt_of_lt_of_le hi hB)).trans (h.hp i hi hk)⟩
theorem UB.set {B k b:Nat} {O O1:VH} {x:bV} (h:UB B k O O1) (hb:B<=b\/b=k):UB B k O (O1.set b x):=
 ⟨h.next,fun i hi hk=>VH.sn (h.hp i hi hk)⟩
theorem UB.trans {B k:Nat} {O O1 O2:VH} (h:UB B k O O1) (u:UB B k O1 O2):UB B k O O2:=⟨Nat.le_trans h.next u.next,fun i hi hk=>(u.hp i hi hk).trans (h.hp i hi hk)⟩
theorem Rd.other {O:VH} {k b off:Nat} {t:Bs} {X:MV} {x:bV} (h:Rd O k t off X) (hb:b≠k):Rd (O.set b x) k t off X:=⟨h.1,(VH.ak _ _ (fun e=>hb e.symm)).trans h.2⟩
def tB {α β :Type} (f: α -> β):Except (Int×Nat) (α ×Nat)->Except (Int×Nat) (β ×Nat)
 | .error e=>.error e
 | .ok (x,o)=>.ok (f x,o)
def qv (t:Bs) (off:Nat):Except (Int×Nat) (Tk×Nat):=match iO t (off+2) 11 with
 | .error e=>.error e
 | .ok (nm,o2)=>tB (fun _=>⟨3,nm,[],[],off⟩) (iq t (o2+jO t o2) [62])
def uW (t:Bs) (off:Nat):Except (Int×Nat) (Tk×Nat):=match iO t (off+1) 11 with
 | .error e=>.error e
 | .ok (nm,o2)=>match k_ t (t.length+1 - o2) o2 []with
   | .error e=>.error e
   | .ok (l,o3)=>if dC (t.drop o3) [47]then tB (fun _=>⟨2,nm,l,[],off⟩) (iq t (o3+1) [62])else tB (fun _=>⟨1,nm,l,[],off⟩) (iq t o3 [62])
def mj (t:Bs) (off:Nat):Except (Int×Nat) (Tk×Nat):=
 if dC (t.drop off) [60,33,45,45]then tB (fun s=>⟨5,[],[],s,off⟩) (iF t (off+List.length [(60:UInt8),33,45,45]) [45,45,62])
 else if dC (t.drop off) [60,33,91,67,68,65,84,65,91]then tB (fun s=>⟨4,[],[],s,off⟩) (iF t (off+List.length [(60:UInt8),33,91,67,68,65,84,65,91]) [93,93,62])
 else if off=0/\qP (t.drop off)=true then tB (fun s=>⟨6,[],[],s,off⟩) (iF t (off+List.length [(60:UInt8),63,120,109,108]) [63,62])
 else if dC (t.drop off) [60,47]then qv t off
 else if dC (t.drop off) [60]then uW t off
 else tB (fun s=>⟨4,[],[],s,off⟩) (eu t 60 (t.length+1 - off) off [])
structure TJ (O:VH) (B k n:Nat) (t:Bs) (p:MV) (L:List MV) (o:Nat) (O':VH):Prop where
 ub:UB B k O O'
 rd:Rd O' k t o p
 row:GR O' 153 7 B p n L
 lt:O.next<O'.next
theorem TJ.set {O O':VH} {B k n o:Nat} {t:Bs} {p:MV} {L cs:List MV} {x:bV} (h:TJ O B k n t p L o O') (hb:O'.hp O.next=some (.cells cs)) (hp:gid p≠some O.next) (fV:k<B) (hB:B<=O.next):TJ O B k n t p L o (O'.set O.next x):=
 ⟨h.ub.set (.inl hB),h.rd.other (by omega),h.row.pc bj.set hp (fun _ _ _ e=>by rw[hb]at e;cases e),h.lt⟩
theorem TJ.bl {O OX OY:VH} {B k n o o2:Nat} {t:Bs} {p:MV} {L:List MV} (h:TJ O B k n t p L o OX) (u:bj OX (some k) OY) (hr:Rd OY k t o2 p) (hp:gid p≠some k) (hB:B<=O.next):TJ O B k n t p L o2 OY:=
 ⟨h.ub.bl u (by have:=h.lt;omega),hr,h.row.pc u hp (fun _ _ _ e=>by rw[h.rd.2]at e;cases e),Nat.lt_of_lt_of_le h.lt u.next⟩
theorem TJ.pn {O OX OY:VH} {B k n o:Nat} {t:Bs} {p:MV} {L:List MV} (h:TJ O B k n t p L o OX) (u:bj OX (some k) OY) (hB:B<=O.next):UB B k O OY:=h.ub.bl u (by have:=h.lt;omega)
theorem TJ.at {O OX OY:VH} {B k n o:Nat} {t:Bs} {p:MV} {L cs:List MV} (h:TJ O B k n t p L o OX) (u:bj OX (some k) OY) (fV:k<B) (hB:B<=O.next) (hb:OX.hp O.next=some (.cells cs)):OY.hp O.next=some (.cells cs):=
 (u.hp _ h.lt (by intro e;injection e;omega)).trans hb
section
variable {P:Program} {n:Sz} {D:List Deferred} {c:Code} {e:Env} {O:VH} {Q:VQ} {md:Md} {d:Option Tmp} {K:Env->VH->Prop} {fv:Option MV} {ms:Option (List MV)} {b k:Nat} {x y:bV}
theorem ah.s1 (h:∀O3,O3=O.set b x->ah P n md Q d O3 K e fv ms):ah P n md Q d (O.set b x) K e fv ms:=h _ rfl
theorem ah.s2 (h:∀O3,O3=(O.set b x).set k y->ah P n md Q d O3 K e fv ms):ah P n md Q d ((O.set b x).set k y) K e fv ms:=h _ rfl
end
theorem uX {t:Bs}:∀(n o:Nat) (l:List (Bs×Bs)) {l':List (Bs×Bs)} {o':Nat},o<=t.length->k_ t n o l= .ok (l',o')->o<=o'/\o'<=t.length
 | 0,o,l,l',o',ho,h=>by
   rw[k_]at h;injection h with h;injection h with h1 h2
   omega
 | n+1,o,l,l',o',ho,h=>by
   have tI:=iG t o ho;rw[k_]at h;split at h
   ·injection h with h;injection h with h1 h2
    omega
   split at h
   ·cases h
   rename_i nm o2 h2;have hn:=fQ h2;have b9:=iG t o2 (by omega);split at h
   ·cases h
   split at h
   ·cases h
   rename_i y4 o4 h4;have hw:=kV h4;have cL:=iG t o4 (by omega);split at h
   ·cases h
   rename_i v o6 h6;have hv:=zR h6;have:=uX n o6 _ (by omega) h;omega
set_option maxHeartbeats 800000 in
theorem ZP {O:VH} {k off B n:Nat} {t:Bs} {p:MV} {L:List MV} (h:Rd O k t off p) (ht:t.length<=1000000) (ho:off<=t.length) (fV:k<B) (hB:B<=O.next) (cC:GR O 153 7 B p n L) (hn:n<=1000000):
  VF Tryz.prog 264 [.ptr k 0] O fun r O'=>UB B k O O'/\match r,mj t off with
   | .ret m,.ok (x,o')=>m= .tuple []/\∃p',Rd O' k t o' p'/\GR O' 153 7 B p' (n+1) (L++xV x)
   | .panic m,.error e=>m=zM e.1 e.2
   | _,_=>False:=by
 have hk:=h.2;simp only[au]at hk
 have lG:gid p≠some k:=fun e=>by
  rcases cC with⟨_,_,hp | hp⟩ | ⟨k2,c,hp,_,_,j8⟩
  ·rw[hp]at e;cases e
  ·rw[hp]at e;cases e
  ·rw[hp]at e;injection e with e;have:=j8.lo;omega
 refine VF.bU 116 [] Tryz.func264 ?_;refine VC.ag aa (ao @ar @hk ?_);refine VC.al ?_;rintro O1 ⟨aU,cy,du⟩;have ng:=h.ge aU;have agD:=cC.xM (bj.lC aU);have dL:=ng.2;simp only[au]at dL;have tH:UB B k O O1:=(UB.refl B k O).ge aU hB
 have nC:gid p≠some O.next:=fun e=>by
  rcases cC with⟨_,_,hp | hp⟩ | ⟨k2,c,hp,_,_,j8⟩
  ·rw[hp]at e;cases e
  ·rw[hp]at e;cases e
  ·rw[hp]at e;injection e with e;have:=j8.hi;omega
 have hJ:∀{O3:VH} {o:Nat},bj O1 (some k) O3->Rd O3 k t o p->TJ O B k n t p L o O3:=fun{O3 o} u hr=>
  ⟨tH.bl u (by omega),hr,agD.pc u lG (fun _ _ _ e=>by rw[ng.2]at e;cases e),by have:=u.next;omega⟩
 refine VC.bE [0,2] (fun x:Tk×Nat=>[.ptr k 0,.ptr O.next 0]) (fun x O'=>TJ O B k n t p L x.2 O'/\mj t off= .ok x/\∃ZQ,O'.hp O.next=some (.cells [mi x.1.kind,.str x.1.name,ZQ,.str x.1.text,mi x.1.off,mi 0,mi 0])/\aq ZQ= .sl x.1.attrs.length (x.1.attrs.flatMap aZ) .aq/\dz ZQ=true) ?_ ?_
 ·refine VC.aD ?_;unfold mj;refine VC.ag aa (ae @ar ?_);refine ah.rt (pK [60,33,45,45] ng ho) ?_;rintro _ O2 ⟨rfl,eO⟩;rw[eO];clear eO O2
  cases hp:dC (t.drop off) [60,33,45,45];rotate_left
  ·rw[if_pos rfl];have hle:=f_ hp;have ZR:=Ej (X:=p) [60,33,45,45] [45,45,62] ng ht (by decide) (by rw[List.length_drop]at hle;omega);generalize iF t (off+List.length [60,33,45,45]) [45,45,62]=F at*;repeat refine fU @ar ?_
   refine ah.p (ZR) ?_ ?_;rotate_left
   ·rintro m O9 ⟨gK,h9⟩;cases F with
    | ok y=>exact h9.elim
    | error e=>
      dsimp only at h9;subst h9;repeat refine fU @ar ?_
      exact⟨UB.bl tH (bj.trans (bj.refl _ _) gK) (by omega),rfl⟩
   rintro m O3 ⟨cG,h9⟩;cases F with
   | error e=>exact h9.elim
   | ok y9=>
   obtain⟨s,o2⟩:=y9;dsimp only at h9;obtain⟨rfl,gn⟩:=h9;have ct:=(cG.hp _ (by omega) (by intro e;injection e;omega)).trans cy;repeat refine pI @ar @ct ?_
   exact aA.mk (⟨5,[],[],s,off⟩,o2) ⟨((hJ cG gn).set ct nC fV hB).set (VH.an _ _ _) nC fV hB,rfl,.sl 0 [] .nil,VH.an _ _ _,by simp only[wu];rfl,rfl⟩
  rw[if_neg (by simp)];repeat refine fU @ar ?_
  refine ah.rt (pK [60,33,91,67,68,65,84,65,91] ng ho) ?_;rintro _ O2 ⟨rfl,eO⟩;rw[eO];clear eO O2
  clear hp;cases hp:dC (t.drop off) [60,33,91,67,68,65,84,65,91];rotate_left
  ·rw[if_pos rfl];have hle:=f_ hp;have ZR:=Ej (X:=p) [60,33,91,67,68,65,84,65,91] [93,93,62] ng ht (by decide) (by rw[List.length_drop]at hle;omega);generalize iF t (off+List.length [60,33,91,67,68,65,84,65,91]) [93,93,62]=F at*;repeat refine fU @ar ?_
   refine ah.p (ZR) ?_ ?_;rotate_left
   ·rintro m O9 ⟨gK,h9⟩;cases F with
    | ok y=>exact h9.elim
    | error e=>
      dsimp only at h9;subst h9;repeat refine fU @ar ?_
      exact⟨UB.bl tH (bj.trans (bj.refl _ _) gK) (by omega),rfl⟩
   rintro m O3 ⟨cG,h9⟩;cases F with
   | error e=>exact h9.elim
   | ok y9=>
   obtain⟨s,o2⟩:=y9;dsimp only at h9;obtain⟨rfl,gn⟩:=h9;have ct:=(cG.hp _ (by omega) (by intro e;injection e;omega)).trans cy;repeat refine pI @ar @ct ?_
   exact aA.mk (⟨4,[],[],s,off⟩,o2) ⟨((hJ cG gn).set ct nC fV hB).set (VH.an _ _ _) nC fV hB,rfl,.sl 0 [] .nil,VH.an _ _ _,by simp only[wu];rfl,rfl⟩
  rw[if_neg (by simp)];clear hp;by_cases h0:off=0;rotate_left
  ·rw[if_neg (fun h=>h0 h.1)];have h0i:((off:Int)==0)=false:=by simpa using h0
   repeat refine kg3 @ar @dL @h0i ?_
   refine ah.rt (pK [60,47] ng ho) ?_;rintro _ O2 ⟨rfl,eO⟩;rw[eO];clear eO O2
   cases hp:dC (t.drop off) [60,47];rotate_left
   ·rw[if_pos rfl];unfold qv;have hle:=f_ hp;simp only[List.length_drop,List.length_cons,List.length_nil]at hle;repeat refine pI @ar @dL ?_
    have fj:Rd (O1.set k (.cells [.str t,mi (off+2:Nat),p])) k t (off+2) p:=ng.set;have c7:bj O1 (some k) (O1.set k (.cells [.str t,mi (off+2:Nat),p])):=bj.set;have ku:((off:Int)+2)=((off+2:Nat):Int):=by omega
    simp only[au, <-ku]at fj c7;generalize O1.set k (.cells [.str t,.v (.int .i64 ((off:Int)+2)),p])=O2 at*;repeat refine fU @ar ?_
    have Cj:=zN 11 fj ht;have tQ:= @fQ t (off+2) 11;generalize iO t (off+2) 11=F at*;refine ah.p (Cj) ?_ ?_;rotate_left
    ·rintro m O9 ⟨gK,h9⟩;cases F with
     | ok y=>exact h9.elim
     | error e=>
       dsimp only at h9;subst h9;repeat refine fU @ar ?_
       exact⟨UB.bl tH (bj.trans c7 gK) (by omega),rfl⟩
    rintro m O3 ⟨cG,h9⟩;cases F with
    | error e=>exact h9.elim
    | ok y9=>
    obtain⟨s,o2⟩:=y9;dsimp only at h9;obtain⟨rfl,gn⟩:=h9;have tC:=c7.trans cG;obtain⟨a1,a2,a3,a4⟩:=tQ rfl;have ct:=(tC.hp _ (by omega) (by intro e;injection e;omega)).trans cy;repeat refine pI @ar @ct ?_
    refine ah.s2 ?_;rintro O4 oP;have uY:TJ O B k n t p L o2 O4:=by rw[oP];exact((hJ tC gn).set ct nC fV hB).set (VH.an _ _ _) nC fV hB
    have cL:O4.hp O.next=some (.cells [mi 3,.str s,.sl 0 [] .nil,.str [],mi off,mi 0,mi 0]):=by rw[oP];exact VH.an _ _ _
    clear oP;have tI:=iG t o2 a2;refine ah.p (pL uY.rd ht a2) ?_ ?_;rotate_left
    ·rintro m O9 ⟨_,h⟩;exact h.elim
    rintro m O5 ⟨qf,h9⟩;dsimp only at h9;obtain⟨rfl,wP⟩:=h9;have sF:=uY.bl qf wP lG hB;have cR:=uY.at qf fV hB cL;repeat refine fU @ar ?_
    have AO:=sE (X:=p) [62] wP ht (by decide);generalize iq t (o2+jO t o2) [62]=W at*;refine ah.p (AO) ?_ ?_;rotate_left
    ·rintro m O9 ⟨gK,h9⟩;cases W with
     | ok y=>exact h9.elim
     | error e=>
       dsimp only at h9;subst h9;repeat refine fU @ar ?_
       exact⟨TJ.pn sF gK hB,rfl⟩
    rintro m O6 ⟨qL,h9⟩;cases W with
    | error e=>exact h9.elim
    | ok y9=>
    obtain⟨y6,o4⟩:=y9;dsimp only at h9;obtain⟨rfl,mX⟩:=h9;have iC:=sF.at qL fV hB cR;repeat refine fU @ar ?_
    exact aA.mk (⟨3,s,[],[],off⟩,o4) ⟨sF.bl qL mX lG hB,rfl,.sl 0 [] .nil,iC,by simp only[wu];rfl,rfl⟩
   rw[if_neg (by simp)];clear hp;repeat refine fU @ar ?_
   refine ah.rt (pK [60] ng ho) ?_;rintro _ O2 ⟨rfl,eO⟩;rw[eO];clear eO O2
   cases hp:dC (t.drop off) [60];rotate_left
   ·rw[if_pos rfl];unfold uW;have hle:=f_ hp;simp only[List.length_drop,List.length_cons,List.length_nil]at hle;repeat refine pI @ar @dL ?_
    have fj:Rd (O1.set k (.cells [.str t,mi (off+1:Nat),p])) k t (off+1) p:=ng.set;have c7:bj O1 (some k) (O1.set k (.cells [.str t,mi (off+1:Nat),p])):=bj.set;have ku:((off:Int)+1)=((off+1:Nat):Int):=by omega
    simp only[au, <-ku]at fj c7;generalize O1.set k (.cells [.str t,.v (.int .i64 ((off:Int)+1)),p])=O2 at*;repeat refine fU @ar ?_
    have Cj:=zN 11 fj ht;have tQ:= @fQ t (off+1) 11;generalize iO t (off+1) 11=F at*;refine ah.p (Cj) ?_ ?_;rotate_left
    ·rintro m O9 ⟨gK,h9⟩;cases F with
     | ok y=>exact h9.elim
     | error e=>
       dsimp only at h9;subst h9;repeat refine fU @ar ?_
       exact⟨UB.bl tH (bj.trans c7 gK) (by omega),rfl⟩
    rintro m O3 ⟨cG,h9⟩;cases F with
    | error e=>exact h9.elim
    | ok y9=>
    obtain⟨s,o2⟩:=y9;dsimp only at h9;obtain⟨rfl,gn⟩:=h9;have tC:=c7.trans cG;obtain⟨a1,a2,a3,a4⟩:=tQ rfl;have ct:=(tC.hp _ (by omega) (by intro e;injection e;omega)).trans cy;repeat refine pI @ar @ct ?_
    refine ah.s1 ?_;rintro O4 oP;have uY:TJ O B k n t p L o2 O4:=by rw[oP];exact(hJ tC gn).set ct nC fV hB
    have cL:O4.hp O.next=some (.cells [mi 0,.str s,.sl 0 [] .nil,.str [],mi off,mi 0,mi 0]):=by rw[oP];exact VH.an _ _ _
    clear oP;have Vn:=LU uY.rd ht a2;have Vo:= @uX t (t.length+1 - o2) o2 [];generalize k_ t (t.length+1 - o2) o2 []=A at*;refine ah.p (Vn) ?_ ?_;rotate_left
    ·rintro m O9 ⟨gK,h9⟩;cases A with
     | ok y=>exact h9.elim
     | error e=>
       dsimp only at h9;subst h9;repeat refine fU @ar ?_
       exact⟨uY.pn gK hB,rfl⟩
    rintro m O5 ⟨qf,h9⟩;cases A with
    | error e=>exact h9.elim
    | ok y9=>
    obtain⟨l,o3⟩:=y9;dsimp only at h9;obtain⟨⟨tk,rfl⟩,wP⟩:=h9;obtain⟨c1,c2⟩:=Vo a2 rfl;have sF:=uY.bl qf wP lG hB;have cR:=uY.at qf fV hB cL;simp only[au]at cR;repeat refine pI @ar @cR ?_
    refine ah.s2 ?_;rintro O6 AP;have xW:TJ O B k n t p L o3 O6:=by rw[AP];exact(sF.set cR nC fV hB).set (VH.an _ _ _) nC fV hB
    have iC:O6.hp O.next=some (.cells [mi 1,.str s,.sl l.length (l.flatMap aZ) tk,.str [],mi off,mi 0,mi 0]):=by rw[AP];exact VH.an _ _ _
    clear AP;have oL:=xW.rd.2;simp only[au]at iC oL;refine ah.rt (pK [47] xW.rd c2) ?_;rintro _ O7 ⟨rfl,eO⟩;rw[eO];clear eO O7
    cases Vm:dC (t.drop o3) [47]
    ·rw[if_neg (by simp)];repeat refine fU @ar ?_
     have AO:=sE (X:=p) [62] xW.rd ht (by decide);generalize iq t o3 [62]=W at*;refine ah.p (AO) ?_ ?_;rotate_left
     ·rintro m O9 ⟨gK,h9⟩;cases W with
      | ok y=>exact h9.elim
      | error e=>
        dsimp only at h9;subst h9;repeat refine fU @ar ?_
        exact⟨TJ.pn xW gK hB,rfl⟩
     rintro m O7 ⟨Cf,h9⟩;cases W with
     | error e=>exact h9.elim
     | ok y9=>
     obtain⟨y7,o4⟩:=y9;dsimp only at h9;obtain⟨rfl,Eo⟩:=h9;have xS:=xW.at Cf fV hB iC;repeat refine fU @ar ?_
     exact aA.mk (⟨1,s,l,[],off⟩,o4) ⟨xW.bl Cf Eo lG hB,rfl,.sl l.length (l.flatMap aZ) tk,xS,by simp only[wu,fG],rfl⟩
    ·rw[if_pos rfl];have RW:=f_ Vm;simp only[List.length_drop,List.length_cons,List.length_nil]at RW;have ZS:=fun x:bV=>(VH.ak O6 (k:=O.next) (j:=k) x (by omega)).trans oL
     repeat refine kg4 @ar @iC @oL @ZS ?_
     refine ah.s2 ?_;rintro O7 pO;have eJ:((o3:Int)+1)=((o3+1:Nat):Int):=by omega
     rw[eJ]at pO;have F0:=xW.set (x:=.cells [.v (.int .i64 2),.str s,.sl l.length (l.flatMap aZ) tk,.str [],.v (.int .i64 off),.v (.int .i64 0),.v (.int .i64 0)]) iC nC fV hB;have IZ:TJ O B k n t p L (o3+1) O7:=by rw[pO];exact F0.bl bj.set (Rd.set F0.rd) lG hB
     have xS:O7.hp O.next=some (.cells [mi 2,.str s,.sl l.length (l.flatMap aZ) tk,.str [],mi off,mi 0,mi 0]):=by rw[pO];exact VH.sn (VH.an _ _ _)
     clear pO F0;have AO:=sE (X:=p) [62] IZ.rd ht (by decide);generalize iq t (o3+1) [62]=W at*;refine ah.p (AO) ?_ ?_;rotate_left
     ·rintro m O9 ⟨gK,h9⟩;cases W with
      | ok y=>exact h9.elim
      | error e=>
        dsimp only at h9;subst h9;repeat refine fU @ar ?_
        exact⟨TJ.pn IZ gK hB,rfl⟩
     rintro m O8 ⟨qg,h9⟩;cases W with
     | error e=>exact h9.elim
     | ok y9=>
     obtain⟨y8,o4⟩:=y9;dsimp only at h9;obtain⟨rfl,ZM⟩:=h9;have sm:=IZ.at qg fV hB xS;repeat refine fU @ar ?_
     exact aA.mk (⟨2,s,l,[],off⟩,o4) ⟨IZ.bl qg ZM lG hB,rfl,.sl l.length (l.flatMap aZ) tk,sm,by simp only[wu,fG],rfl⟩
   rw[if_neg (by simp)];clear hp;repeat refine fU @ar ?_
   have gN:=xU (X:=p) 60 ng ht ho;generalize eu t 60 (t.length+1 - off) off []=F at*;refine ah.p (gN) ?_ ?_;rotate_left
   ·rintro m O9 ⟨gK,h9⟩;cases F with
    | ok y=>exact h9.elim
    | error e=>
      dsimp only at h9;subst h9;repeat refine fU @ar ?_
      exact⟨UB.bl tH (bj.trans (bj.refl _ _) gK) (by omega),rfl⟩
   rintro m O3 ⟨cG,h9⟩;cases F with
   | error e=>exact h9.elim
   | ok y9=>
   obtain⟨s,o2⟩:=y9;dsimp only at h9;obtain⟨rfl,gn⟩:=h9;have ct:=(cG.hp _ (by omega) (by intro e;injection e;omega)).trans cy;repeat refine pI @ar @ct ?_
   exact aA.mk (⟨4,[],[],s,off⟩,o2) ⟨((hJ cG gn).set ct nC fV hB).set (VH.an _ _ _) nC fV hB,rfl,.sl 0 [] .nil,VH.an _ _ _,by simp only[wu];rfl,rfl⟩
  have h0i:((off:Int)==0)=true:=by simpa using h0
  repeat refine kg3 @ar @dL @h0i ?_
  refine ah.rt (Vf ng ht ho) ?_;rintro _ O2 ⟨rfl,eO⟩;rw[eO];clear eO O2
  cases hhd:qP (t.drop off)
  ·rw[if_neg (fun h=>by cases h.2)];repeat refine fU @ar ?_
   refine ah.rt (pK [60,47] ng ho) ?_;rintro _ O2 ⟨rfl,eO⟩;rw[eO];clear eO O2
   cases hp:dC (t.drop off) [60,47];rotate_left
   ·rw[if_pos rfl];unfold qv;have hle:=f_ hp;simp only[List.length_drop,List.length_cons,List.length_nil]at hle;repeat refine pI @ar @dL ?_
    have fj:Rd (O1.set k (.cells [.str t,mi (off+2:Nat),p])) k t (off+2) p:=ng.set;have c7:bj O1 (some k) (O1.set k (.cells [.str t,mi (off+2:Nat),p])):=bj.set;have ku:((off:Int)+2)=((off+2:Nat):Int):=by omega
    simp only[au, <-ku]at fj c7;generalize O1.set k (.cells [.str t,.v (.int .i64 ((off:Int)+2)),p])=O2 at*;repeat refine fU @ar ?_
    have Cj:=zN 11 fj ht;have tQ:= @fQ t (off+2) 11;generalize iO t (off+2) 11=F at*;refine ah.p (Cj) ?_ ?_;rotate_left
    ·rintro m O9 ⟨gK,h9⟩;cases F with
     | ok y=>exact h9.elim
     | error e=>
       dsimp only at h9;subst h9;repeat refine fU @ar ?_
       exact⟨UB.bl tH (bj.trans c7 gK) (by omega),rfl⟩
    rintro m O3 ⟨cG,h9⟩;cases F with
    | error e=>exact h9.elim
    | ok y9=>
    obtain⟨s,o2⟩:=y9;dsimp only at h9;obtain⟨rfl,gn⟩:=h9;have tC:=c7.trans cG;obtain⟨a1,a2,a3,a4⟩:=tQ rfl;have ct:=(tC.hp _ (by omega) (by intro e;injection e;omega)).trans cy;repeat refine pI @ar @ct ?_
    refine ah.s2 ?_;rintro O4 oP;have uY:TJ O B k n t p L o2 O4:=by rw[oP];exact((hJ tC gn).set ct nC fV hB).set (VH.an _ _ _) nC fV hB
    have cL:O4.hp O.next=some (.cells [mi 3,.str s,.sl 0 [] .nil,.str [],mi off,mi 0,mi 0]):=by rw[oP];exact VH.an _ _ _
    clear oP;have tI:=iG t o2 a2;refine ah.p (pL uY.rd ht a2) ?_ ?_;rotate_left
    ·rintro m O9 ⟨_,h⟩;exact h.elim
    rintro m O5 ⟨qf,h9⟩;dsimp only at h9;obtain⟨rfl,wP⟩:=h9;have sF:=uY.bl qf wP lG hB;have cR:=uY.at qf fV hB cL;repeat refine fU @ar ?_
    have AO:=sE (X:=p) [62] wP ht (by decide);generalize iq t (o2+jO t o2) [62]=W at*;refine ah.p (AO) ?_ ?_;rotate_left
    ·rintro m O9 ⟨gK,h9⟩;cases W with
     | ok y=>exact h9.elim
     | error e=>
       dsimp only at h9;subst h9;repeat refine fU @ar ?_
       exact⟨TJ.pn sF gK hB,rfl⟩
    rintro m O6 ⟨qL,h9⟩;cases W with
    | error e=>exact h9.elim
    | ok y9=>
    obtain⟨y6,o4⟩:=y9;dsimp only at h9;obtain⟨rfl,mX⟩:=h9;have iC:=sF.at qL fV hB cR;repeat refine fU @ar ?_
    exact aA.mk (⟨3,s,[],[],off⟩,o4) ⟨sF.bl qL mX lG hB,rfl,.sl 0 [] .nil,iC,by simp only[wu];rfl,rfl⟩
   rw[if_neg (by simp)];clear hp;repeat refine fU @ar ?_
   refine ah.rt (pK [60] ng ho) ?_;rintro _ O2 ⟨rfl,eO⟩;rw[eO];clear eO O2
   cases hp:dC (t.drop off) [60];rotate_left
   ·rw[if_pos rfl];unfold uW;have hle:=f_ hp;simp only[List.length_drop,List.length_cons,List.length_nil]at hle;repeat refine pI @ar @dL ?_
    have fj:Rd (O1.set k (.cells [.str t,mi (off+1:Nat),p])) k t (off+1) p:=ng.set;have c7:bj O1 (some k) (O1.set k (.cells [.str t,mi (off+1:Nat),p])):=bj.set;have ku:((off:Int)+1)=((off+1:Nat):Int):=by omega
    simp only[au, <-ku]at fj c7;generalize O1.set k (.cells [.str t,.v (.int .i64 ((off:Int)+1)),p])=O2 at*;repeat refine fU @ar ?_
    have Cj:=zN 11 fj ht;have tQ:= @fQ t (off+1) 11;generalize iO t (off+1) 11=F at*;refine ah.p (Cj) ?_ ?_;rotate_left
    ·rintro m O9 ⟨gK,h9⟩;cases F with
     | ok y=>exact h9.elim
     | error e=>
       dsimp only at h9;subst h9;repeat refine fU @ar ?_
       exact⟨UB.bl tH (bj.trans c7 gK) (by omega),rfl⟩
    rintro m O3 ⟨cG,h9⟩;cases F with
    | error e=>exact h9.elim
    | ok y9=>
    obtain⟨s,o2⟩:=y9;dsimp only at h9;obtain⟨rfl,gn⟩:=h9;have tC:=c7.trans cG;obtain⟨a1,a2,a3,a4⟩:=tQ rfl;have ct:=(tC.hp _ (by omega) (by intro e;injection e;omega)).trans cy;repeat refine pI @ar @ct ?_
    refine ah.s1 ?_;rintro O4 oP;have uY:TJ O B k n t p L o2 O4:=by rw[oP];exact(hJ tC gn).set ct nC fV hB
    have cL:O4.hp O.next=some (.cells [mi 0,.str s,.sl 0 [] .nil,.str [],mi off,mi 0,mi 0]):=by rw[oP];exact VH.an _ _ _
    clear oP;have Vn:=LU uY.rd ht a2;have Vo:= @uX t (t.length+1 - o2) o2 [];generalize k_ t (t.length+1 - o2) o2 []=A at*;refine ah.p (Vn) ?_ ?_;rotate_left
    ·rintro m O9 ⟨gK,h9⟩;cases A with
     | ok y=>exact h9.elim
     | error e=>
       dsimp only at h9;subst h9;repeat refine fU @ar ?_
       exact⟨uY.pn gK hB,rfl⟩
    rintro m O5 ⟨qf,h9⟩;cases A with
    | error e=>exact h9.elim
    | ok y9=>
    obtain⟨l,o3⟩:=y9;dsimp only at h9;obtain⟨⟨tk,rfl⟩,wP⟩:=h9;obtain⟨c1,c2⟩:=Vo a2 rfl;have sF:=uY.bl qf wP lG hB;have cR:=uY.at qf fV hB cL;simp only[au]at cR;repeat refine pI @ar @cR ?_
    refine ah.s2 ?_;rintro O6 AP;have xW:TJ O B k n t p L o3 O6:=by rw[AP];exact(sF.set cR nC fV hB).set (VH.an _ _ _) nC fV hB
    have iC:O6.hp O.next=some (.cells [mi 1,.str s,.sl l.length (l.flatMap aZ) tk,.str [],mi off,mi 0,mi 0]):=by rw[AP];exact VH.an _ _ _
    clear AP;have oL:=xW.rd.2;simp only[au]at iC oL;refine ah.rt (pK [47] xW.rd c2) ?_;rintro _ O7 ⟨rfl,eO⟩;rw[eO];clear eO O7
    cases Vm:dC (t.drop o3) [47]
    ·rw[if_neg (by simp)];repeat refine fU @ar ?_
     have AO:=sE (X:=p) [62] xW.rd ht (by decide);generalize iq t o3 [62]=W at*;refine ah.p (AO) ?_ ?_;rotate_left
     ·rintro m O9 ⟨gK,h9⟩;cases W with
      | ok y=>exact h9.elim
      | error e=>
        dsimp only at h9;subst h9;repeat refine fU @ar ?_
        exact⟨TJ.pn xW gK hB,rfl⟩
     rintro m O7 ⟨Cf,h9⟩;cases W with
     | error e=>exact h9.elim
     | ok y9=>
     obtain⟨y7,o4⟩:=y9;dsimp only at h9;obtain⟨rfl,Eo⟩:=h9;have xS:=xW.at Cf fV hB iC;repeat refine fU @ar ?_
     exact aA.mk (⟨1,s,l,[],off⟩,o4) ⟨xW.bl Cf Eo lG hB,rfl,.sl l.length (l.flatMap aZ) tk,xS,by simp only[wu,fG],rfl⟩
    ·rw[if_pos rfl];have RW:=f_ Vm;simp only[List.length_drop,List.length_cons,List.length_nil]at RW;have ZS:=fun x:bV=>(VH.ak O6 (k:=O.next) (j:=k) x (by omega)).trans oL
     repeat refine kg4 @ar @iC @oL @ZS ?_
     refine ah.s2 ?_;rintro O7 pO;have eJ:((o3:Int)+1)=((o3+1:Nat):Int):=by omega
     rw[eJ]at pO;have F0:=xW.set (x:=.cells [.v (.int .i64 2),.str s,.sl l.length (l.flatMap aZ) tk,.str [],.v (.int .i64 off),.v (.int .i64 0),.v (.int .i64 0)]) iC nC fV hB;have IZ:TJ O B k n t p L (o3+1) O7:=by rw[pO];exact F0.bl bj.set (Rd.set F0.rd) lG hB
     have xS:O7.hp O.next=some (.cells [mi 2,.str s,.sl l.length (l.flatMap aZ) tk,.str [],mi off,mi 0,mi 0]):=by rw[pO];exact VH.sn (VH.an _ _ _)
     clear pO F0;have AO:=sE (X:=p) [62] IZ.rd ht (by decide);generalize iq t (o3+1) [62]=W at*;refine ah.p (AO) ?_ ?_;rotate_left
     ·rintro m O9 ⟨gK,h9⟩;cases W with
      | ok y=>exact h9.elim
      | error e=>
        dsimp only at h9;subst h9;repeat refine fU @ar ?_
        exact⟨TJ.pn IZ gK hB,rfl⟩
     rintro m O8 ⟨qg,h9⟩;cases W with
     | error e=>exact h9.elim
     | ok y9=>
     obtain⟨y8,o4⟩:=y9;dsimp only at h9;obtain⟨rfl,ZM⟩:=h9;have sm:=IZ.at qg fV hB xS;repeat refine fU @ar ?_
     exact aA.mk (⟨2,s,l,[],off⟩,o4) ⟨IZ.bl qg ZM lG hB,rfl,.sl l.length (l.flatMap aZ) tk,sm,by simp only[wu,fG],rfl⟩
   rw[if_neg (by simp)];clear hp;repeat refine fU @ar ?_
   have gN:=xU (X:=p) 60 ng ht ho;generalize eu t 60 (t.length+1 - off) off []=F at*;refine ah.p (gN) ?_ ?_;rotate_left
   ·rintro m O9 ⟨gK,h9⟩;cases F with
    | ok y=>exact h9.elim
    | error e=>
      dsimp only at h9;subst h9;repeat refine fU @ar ?_
      exact⟨UB.bl tH (bj.trans (bj.refl _ _) gK) (by omega),rfl⟩
   rintro m O3 ⟨cG,h9⟩;cases F with
   | error e=>exact h9.elim
   | ok y9=>
   obtain⟨s,o2⟩:=y9;dsimp only at h9;obtain⟨rfl,gn⟩:=h9;have ct:=(cG.hp _ (by omega) (by intro e;injection e;omega)).trans cy;repeat refine pI @ar @ct ?_
   exact aA.mk (⟨4,[],[],s,off⟩,o2) ⟨((hJ cG gn).set ct nC fV hB).set (VH.an _ _ _) nC fV hB,rfl,.sl 0 [] .nil,VH.an _ _ _,by simp only[wu];rfl,rfl⟩
  ·rw[if_pos ⟨h0,rfl⟩]
   have hp:dC (t.drop off) [60,63,120,109,108]=true:=by
    unfold qP at hhd;simp only[Bool.and_eq_true]at hhd;exact hhd.1.1
   repeat refine fU @ar ?_
   have hle:=f_ hp;have ZR:=Ej (X:=p) [60,63,120,109,108] [63,62] ng ht (by decide) (by rw[List.length_drop]at hle;omega);generalize iF t (off+List.length [60,63,120,109,108]) [63,62]=F at*;repeat refine fU @ar ?_
   refine ah.p (ZR) ?_ ?_;rotate_left
   ·rintro m O9 ⟨gK,h9⟩;cases F with
    | ok y=>exact h9.elim
    | error e=>
      dsimp only at h9;subst h9;repeat refine fU @ar ?_
      exact⟨UB.bl tH (bj.trans (bj.refl _ _) gK) (by omega),rfl⟩
   rintro m O3 ⟨cG,h9⟩;cases F with
   | error e=>exact h9.elim
   | ok y9=>
   obtain⟨s,o2⟩:=y9;dsimp only at h9;obtain⟨rfl,gn⟩:=h9;have ct:=(cG.hp _ (by omega) (by intro e;injection e;omega)).trans cy;repeat refine pI @ar @ct ?_
   exact aA.mk (⟨6,[],[],s,off⟩,o2) ⟨((hJ cG gn).set ct nC fV hB).set (VH.an _ _ _) nC fV hB,rfl,.sl 0 [] .nil,VH.an _ _ _,by simp only[wu];rfl,rfl⟩
 rintro⟨x,o'⟩ O2 ⟨bd,eG,ZQ,b9,bu,gJ⟩;dsimp only at bd eG b9 bu gJ;rw[eG];have bN:=bd.rd.2;simp only[au]at b9 bN;refine VC.Ie [0,7,8,9,10] (by kernel_rfl) ?_;refine bt.mv 0 ?_;refine bt.bI [(1,.rd),(2,.rd),(3,.rd),(4,.rd),(5,.rd),(6,.one),(7,.one),(8,.one),(9,.one),(10,.one)] ?_;simp only[aj];repeat refine kg3 @ar @b9 @bN ?_
 refine VL.wk (EW.top (Wk.sl (pf _))) ?_
 have nP:cD [.v (.int .i64 x.kind),.str x.name,ZQ,.str x.text,.v (.int .i64 x.off),.v (.int .i64 0),.v (.int .i64 0)]=xV x:=by
  simp only[wu,bu,xV,au]
 rw[nP];have dJ:=bd.lt;refine VL.agz aa (by simp) (fun i hi=>by match i,hi with | 7,_=>rfl | 0,hi | 1,hi | 2,hi | 3,hi | 4,hi | 5,hi | 6,hi | 8,hi | 9,hi | 10,hi=>cases hi | _+11,hi=>cases hi) (te:=⟨_,7,88,_⟩) (dx:=.slice 153) (q:=.sl 1 (xV x) .full) (j:=1) (ds:=xV x) bd.row rfl rfl (by rw[DL];rfl) aep.1.1 (by rw[DL];rfl) trivial (by dsimp only;omega) (by simp only[maxLen];omega) (by omega) rfl rfl rfl rfl ?_;intro m O3 wQ lR gQ hm;have dG:O3.hp k=some (.cells [.str t,.v (.int .i64 o'),p]):=(lR.hp k bd.rd.1 (by intro e;exact lG e)).trans bN
 obtain⟨k2,c2,rfl⟩:∃k2 c2,m= .bk k2 0 (n+1) c2:=by
  rcases hm with⟨k2,c2,h1,_⟩ | ⟨h1,_⟩
  ·exact⟨k2,c2,h1⟩
  ·cases h1
 have akg:B<=k2:=by
  rcases wQ with⟨h1,_⟩ | ⟨k3,c3,h1,_,_,h4⟩
  ·cases h1
  ·injection h1 with h1;rw[h1];exact h4.lo
 have hpB:∀i,i<B->gid p≠some i:=fun i hi e=>by
  rcases cC with⟨_,_,hp | hp⟩ | ⟨k3,c,hp,_,_,j8⟩
  ·rw[hp]at e;cases e
  ·rw[hp]at e;cases e
  ·rw[hp]at e;injection e with e;have:=j8.lo;omega
 clear hm gQ;try refine pI @ar @dG ?_
 refine⟨⟨Nat.le_trans bd.ub.next lR.next,fun i hi hk=>(VH.ak _ _ hk).trans ((lR.hp i (by omega) (hpB i hi)).trans (bd.ub.hp i hi hk))⟩,.bk k2 0 (n+1) c2,⟨Nat.lt_of_lt_of_le bd.rd.1 lR.next,VH.an _ _ _⟩,wQ.pc bj.set (by intro e;injection e;omega) (fun _ _ _ e=>by rw[dG]at e;cases e)⟩
theorem Er {O:VH} {a b c d:Nat} {K:VH->Prop} (h:K O):fM Tryz.prog 262 [.ptr a 0,.ptr b 0,.ptr c 0,.ptr d 0] none O K:=by
 refine fM.rec (d:=7) Tryz.func262 (Nat.lt_of_lt_of_eq (by decide:7<19) rfl) ?_;show WC _ _ ⟨19,0⟩ _ _ _ _ _;simp only[cc,Nat.zero_add,Nat.reduceAdd,zc];refine ao @dD @wi ?_;refine VL.pure (by simp) (fun _=>.inl rfl) rfl rfl (gY.DH (bb:=true) Tryz.underlying20 rfl (.inl ⟨rfl,rfl⟩)) ?_;refine WL.sound aa ?_;refine ao @dD @wi ?_;exact h
theorem ZT {O:VH} {a b c d off:Nat} {e:Int} {t:Bs} {K:VH->Prop} {x y:MV} {z1 z2 z3:MV} (ht:t.length<=1000000) (ho:off<=t.length) (ha:O.hp a=some (.cells [.str t])) (hb:O.hp b=some (.cells [x])) (hc:O.hp c=some (.cells [y])) (hd:O.hp d=some (.cells [z1,z2,z3]))
  (han:a<O.next) (U5:b<O.next) (D2:c<O.next) (Fv:d<O.next) (hbc:b≠c) (cE:b≠d) (hcd:c≠d)
  (h:∀O',O.next<=O'.next->(∀i,i<O.next->i≠b->i≠c->i≠d->O'.hp i=O.hp i)->O'.hp b=some (.cells [.sl 0 [] .nil])->O'.hp c=some (.cells [mi e])->O'.hp d=some (.cells [mi off,mi (1+((t.take off).count 10:Nat)),mi ((off:Int) - ft (t.take off) 10 (t.take off).length)])->K O'):fM Tryz.prog 262 [.ptr a 0,.ptr b 0,.ptr c 0,.ptr d 0] (some (zM e off)) O K:=by
 refine fM.rec (d:=7) Tryz.func262 (Nat.lt_of_lt_of_eq (by decide:7<19) rfl) ?_;show WC _ _ ⟨19,0⟩ _ _ _ _ _;simp only[cc,Nat.zero_add,Nat.reduceAdd,zc,zM];refine ao @dD @wi ?_;refine VL.pure (by simp) (fun _=>.inl rfl) rfl rfl (gY.RH (bb:=false) Tryz.underlying20 rfl (.inl ⟨rfl,rfl⟩)) ?_;refine WL.sound aa ?_;refine ao @dD @wi ?_;refine VL.pure (by simp) (fun _=>.inl rfl) rfl rfl (gY.asT Tryz.underlying385 (fun _ h=>by cases h) rfl) ?_;refine WL.sound aa ?_;refine ao @dD @wi ?_;refine VC.al ?_;rintro O2 ⟨ay,j6,jk⟩;have jn:=(ay.hp _ han).trans ha;have b9:=(ay.hp _ U5).trans hb;have iY:=(ay.hp _ D2).trans hc;have j4:=(ay.hp _ Fv).trans hd;have wO:∀(X:bV) {i:Nat} {y:Option bV},i<O.next->O2.hp i=y->(O2.set O.next X).hp i=y:=fun X {i y} hi h=>VH.sn h
 refine VC.pe [] (O.next) (j6) ?_;intro X;have kx:=wO (.obj X) han jn;have cL:=wO (.obj X) U5 b9;have eX:=wO (.obj X) D2 iY;have Es:=wO (.obj X) Fv j4;have pP:(O2.set O.next (.obj X)).hp O.next=some (.obj X):=VH.an _ _ _;have g_:(O2.set O.next (.obj X)).next=O.next+1:=jk;have bh:O.Ge (O2.set O.next (.obj X)):=ay.set (Nat.le_refl _) _;generalize hO4:O2.set O.next (.obj X)=O4 at*;refine ab.av 0 ?_;refine ae @dD ?_;refine ab.sk (m:=.v (.int .i64 e)) 1 ?_ ?_
 ·exact fe @dD
 simp only[aj];refine ab.av 3 ?_;refine ae @dD ?_;refine ab.sk (m:=.v (.int .i64 off)) 4 ?_ ?_
 ·exact fe @dD
 simp only[aj];refine ab.op (i:=2) ?_;refine ao @dD @kx ?_;refine⟨pP,?_⟩;refine ab.call (i:=5) (aeJ t off _ ht ho) ?_;rintro _ O3 ⟨rfl,aO⟩;simp only[aj];refine⟨aO.at pP,?_⟩;have gZ:=aO.next;have Vp:=aO.at pP;have ct:=aO.at cL;have eJ:=aO.at eX;have zS:=aO.at Es;have bK:O.Ge O3:=bh.trans aO;unfold oN;simp only[au]at h ⊢;refine ab.op (i:=6) ?_;refine ao @dD @ct ?_;refine⟨Vp,?_⟩;refine ab.op (i:=7) ?_;refine ao @dD @eJ ?_;refine⟨Vp,?_⟩;refine ab.op (i:=8) ?_;refine ao @dD @zS ?_;refine⟨Vp,?_⟩;refine ab.mO [] ?_;refine ae @dD ?_;refine h _ (by rw[VH.eB,VH.eB,VH.eB,VH.eB];exact bK.next) (fun i hi h1 h2 h3=>?_) ?_ ?_ ?_
 ·rw[VH.ak _ _ (by omega),VH.ak _ _ h3,VH.ak _ _ h2,VH.ak _ _ h1];exact bK.hp i hi
 ·rw[VH.ak _ _ (by omega),VH.ak _ _ cE,VH.ak _ _ hbc,VH.an]
 ·rw[VH.ak _ _ (by omega),VH.ak _ _ hcd,VH.an]
 ·rw[VH.ak _ _ (by omega),VH.an]
theorem kg8 {A1 A2 A3 A4 A5 A6 A7 A8 P Q:Prop} (a1:A1) (a2:A2) (a3:A3) (a4:A4) (a5:A5) (a6:A6) (a7:A7) (a8:A8) (q:Q) (h:A1->A2->A3->A4->A5->A6->A7->A8->Q->P:=by intro a1 a2 a3 a4 a5 a6 a7 a8 q;first | (with_reducible refine VC.ag aa ?_;refine UM a1 a2 a3 a4 a5 a6 a7 a8 q) | (with_reducible refine WC.sound aa ?_;refine UM a1 a2 a3 a4 a5 a6 a7 a8 q) | (first | with_reducible refine PQ ?_ | with_reducible refine PR ?_ | with_reducible refine PU ?_ | with_reducible refine PV ?_);refine UM a1 a2 a3 a4 a5 a6 a7 a8 q):P:=h a1 a2 a3 a4 a5 a6 a7 a8 q
def ir (t:Bs):Nat->Nat->List Tk->Except (Int×Nat) (List Tk)
 | 0,_,l=>.ok l
 | n+1,o,l=>if t.length<=o then .ok l else match mj t o with
   | .error e=>.error e
   | .ok (x,o')=>ir t n o' (l++[x])
def tE (t:Bs):Except (Int×Nat) (List Tk):=ir t (t.length+1) 0 []
def lS (t:Bs) (o:Nat):Nat:=1+(t.take o).count 10
def Et (t:Bs) (o:Nat):Int:=(o:Int) - ft (t.take o) 10 (t.take o).length
def tR (t:Bs) (x:Tk):List MV:=[mi x.kind,.str x.name,.sl x.attrs.length (x.attrs.flatMap aZ) .aq,.str x.text,mi x.off,mi (lS t x.off),mi (Et t x.off)]
theorem wh {t:Bs} {stop:UInt8}:∀(n o:Nat) (acc:Bs) {e:Int} {p:Nat},eu t stop n o acc= .error (e,p)->p<=t.length
 | 0,o,acc,e,p,h=>by unfold eu at h;cases h
 | n+1,o,acc,e,p,h=>by
   unfold eu at h;cases hg:t[o]? with
   | none=>rw[hg]at h;cases h
   | some c=>
     have P5:o<t.length:=(List.getElem?_eq_some_iff.1 hg).1;rw[hg]at h;simp only at h;split at h
     ·cases h
     split at h
     ·split at h
      ·injection h with h;injection h with h1 h2;omega
      ·exact wh n _ _ h
     split at h
     ·injection h with h;injection h with h1 h2;omega
     ·exact wh n _ _ h
theorem xX {t:Bs} {o:Nat} {k e:Int} {p:Nat} (h:iO t o k= .error (e,p)):p=o:=by
 unfold iO at h;split at h
 ·injection h with h;injection h with h1 h2;omega
 split at h
 ·injection h with h;injection h with h1 h2;omega
 ·cases h
theorem sG {t:Bs} {o:Nat} {q:Bs} {e:Int} {p:Nat} (h:iq t o q= .error (e,p)):p=o:=by
 unfold iq at h;split at h
 ·injection h with h;injection h with h1 h2;omega
 split at h
 ·cases h
 ·injection h with h;injection h with h1 h2;omega
theorem Vq {t:Bs} {o:Nat} {e:Int} {p:Nat} (ho:o<=t.length) (h:tA t o= .error (e,p)):p<=t.length:=by
 unfold tA at h;split at h
 ·injection h with h;injection h with h1 h2;omega
 rename_i q hq;have P5:=(List.getElem?_eq_some_iff.1 hq).1;split at h
 ·injection h with h;injection h with h1 h2;omega
 split at h
 ·rename_i e2 h2;injection h with h;subst h
  exact wh _ _ _ h2
 rename_i s2 o2 h2;have:=nU _ _ _ (by omega) (by simp) h2;split at h
 ·injection h with h;injection h with h1 h2;omega
 ·cases h
theorem Hq {t:Bs}:∀(n o:Nat) (l:List (Bs×Bs)) {e:Int} {p:Nat},o<=t.length->k_ t n o l= .error (e,p)->p<=t.length
 | 0,o,l,e,p,ho,h=>by rw[k_]at h;cases h
 | n+1,o,l,e,p,ho,h=>by
   have tI:=iG t o ho;rw[k_]at h;split at h
   ·cases h
   split at h
   ·rename_i e2 h2;injection h with h;subst h
    have:=xX h2;omega
   rename_i nm o2 h2;have hn:=fQ h2;have b9:=iG t o2 (by omega);split at h
   ·injection h with h;injection h with h1 h2;omega
   split at h
   ·rename_i e4 h4;injection h with h;subst h
    have:=sG h4;omega
   rename_i y4 o4 h4;have hw:=kV h4;have cL:=iG t o4 (by omega);split at h
   ·rename_i e6 h6;injection h with h;subst h
    exact Vq cL h6
   rename_i v o6 h6;have hv:=zR h6;exact Hq n o6 _ (by omega) h
theorem uZ {t:Bs} {o:Nat} {q:Bs} {e:Int} {p:Nat} (ho:o<=t.length) (h:iF t o q= .error (e,p)):p<=t.length:=by
 unfold iF at h;split at h
 ·injection h with h;injection h with h1 h2
  have h3:=nJ l9 (pM (t.drop o) q)
  have h4:(pM (t.drop o) q).length<=t.length - o:=by
   unfold pM;split
   ·rw[List.length_take,List.length_drop];omega
   ·rw[List.length_drop];exact Nat.le_refl _
  omega
 split at h
 ·injection h with h;injection h with h1 h2;omega
 ·cases h
theorem Vr (s p:Bs) (h:0<=Lib.index s p):Lib.index s p+p.length<=s.length:=by
 induction s with
 | nil=>
   unfold Lib.index at h ⊢;cases p with
   | nil=>simp
   | cons c p=>simp at h
 | cons b l ih=>
   have gQ:=Lib.index_ge l p;unfold Lib.index at h ⊢;split
   ·rename_i h1;have:=(List.isPrefixOf_iff_prefix.1 h1).length_le;omega
   ·rename_i h1;rw[if_neg h1]at h;split
    ·rename_i h2;rw[if_pos h2]at h;omega
    ·rename_i h2;have h3:Lib.index l p≠ -1:=by simpa using h2
     have:=ih (by omega);rw[List.length_cons];omega
theorem xY {t:Bs} {o:Nat} {q s:Bs} {p:Nat} (ho:o<=t.length) (h:iF t o q= .ok (s,p)):o+q.length<=p/\p<=t.length:=by
 unfold iF at h;split at h
 ·cases h
 split at h
 ·cases h
 ·rename_i h1;injection h with h;injection h with h2 h3
  have:=Vr (t.drop o) q (by omega);rw[List.length_drop]at this;omega
theorem mn {α β :Type} {f: α -> β} {F:Except (Int×Nat) (α ×Nat)} {e:Int×Nat} (h:tB f F= .error e):F= .error e:=by
 cases F with
 | error e2=>injection h with h;rw[h]
 | ok y=>cases h
theorem iP {α β :Type} {f: α -> β} {F:Except (Int×Nat) (α ×Nat)} {x: β} {o:Nat} (h:tB f F= .ok (x,o)):∃y,F= .ok (y,o)/\x=f y:=by
 cases F with
 | error e2=>cases h
 | ok y=>obtain⟨y,o2⟩:=y;injection h with h;injection h with h1 h2;exact⟨y,by rw[h2],h1.symm⟩
theorem Vs {t:Bs} {o:Nat} {e:Int} {p:Nat} (ho:o<=t.length) (h:mj t o= .error (e,p)):p<=t.length:=by
 have hp:∀{q:Bs},dC (t.drop o) q=true->o+q.length<=t.length:=fun hq=>by
  have:=f_ hq;rw[List.length_drop]at this;omega
 unfold mj at h;split at h
 ·exact uZ (hp ‹_›) (mn h)
 split at h
 ·exact uZ (hp ‹_›) (mn h)
 split at h
 ·rename_i h1;refine uZ (hp (q:=[60,63,120,109,108]) ?_) (mn h);have:=h1.2;unfold qP at this;simp only[Bool.and_eq_true]at this;exact this.1.1
 split at h
 ·have h0:=hp ‹_›;simp only[List.length_cons,List.length_nil]at h0;unfold qv at h;split at h
  ·rename_i h2;injection h with h;subst h
   have:=xX h2;omega
  rename_i nm o2 h2;have hn:=fQ h2;have b9:=iG t o2 (by omega);have:=sG (mn h);omega
 split at h
 ·have h0:=hp ‹_›;simp only[List.length_cons,List.length_nil]at h0;unfold uW at h;split at h
  ·rename_i h2;injection h with h;subst h
   have:=xX h2;omega
  rename_i nm o2 h2;have hn:=fQ h2;split at h
  ·rename_i e3 h3;injection h with h;subst h
   exact Hq _ _ _ (by omega) h3
  rename_i l o3 h3;have ha:=uX _ _ _ (by omega) h3;split at h
  ·have h4:=f_ ‹_›;simp only[List.length_drop,List.length_cons,List.length_nil]at h4;have:=sG (mn h);omega
  ·have:=sG (mn h);omega
 ·exact wh _ _ _ (mn h)
theorem P6 {t:Bs} {stop:UInt8} {n o:Nat} {acc s:Bs} {o':Nat} (ho:o<t.length) (ha:acc.length<=o) (hne:t[o]?≠some stop) (h:eu t stop (n+1) o acc= .ok (s,o')):o<o':=by
 unfold eu at h;have hg:=List.getElem?_eq_getElem ho;rw[hg]at h hne;generalize t[o]=c at*;simp only at h;split at h
 ·rename_i hc;rw[hc]at hne;exact absurd rfl hne
 split at h
 ·split at h
  ·cases h
  ·rename_i h5;obtain⟨k1,k2,k3⟩:=zP (by simpa using h5);rw[List.length_drop]at k2;have:=nU n _ _ (by omega) (by rw[List.length_append];omega) h;omega
 split at h
 ·cases h
 ·have:=nU n _ _ (by omega) (by rw[List.length_append];simp only[List.length_cons,List.length_nil];omega) h;omega
theorem LV {t:Bs} {o:Nat} {x:Tk} {o':Nat} (ho:o<t.length) (h:mj t o= .ok (x,o')):x.off=o/\o<o'/\o'<=t.length:=by
 have hp:∀{q:Bs},dC (t.drop o) q=true->o+q.length<=t.length:=fun hq=>by
  have:=f_ hq;rw[List.length_drop]at this;omega
 unfold mj at h;split at h
 ·obtain⟨y,h1,rfl⟩:=iP h;have:=xY (hp ‹_›) h1;simp only[List.length_cons,List.length_nil]at this;exact⟨rfl,by omega,by omega⟩
 split at h
 ·obtain⟨y,h1,rfl⟩:=iP h;have:=xY (hp ‹_›) h1;simp only[List.length_cons,List.length_nil]at this;exact⟨rfl,by omega,by omega⟩
 split at h
 ·rename_i h1;obtain⟨y,h2,rfl⟩:=iP h
  have:=xY (hp (q:=[60,63,120,109,108]) (by
   have:=h1.2;unfold qP at this;simp only[Bool.and_eq_true]at this;exact this.1.1)) h2
  simp only[List.length_cons,List.length_nil]at this;exact⟨rfl,by omega,by omega⟩
 split at h
 ·have h0:=hp ‹_›;simp only[List.length_cons,List.length_nil]at h0;unfold qv at h;split at h
  ·cases h
  rename_i nm o2 h2;have hn:=fQ h2;have b9:=iG t o2 (by omega);obtain⟨y,h3,rfl⟩:=iP h;have:=kV h3;exact⟨rfl,by omega,by omega⟩
 split at h
 ·have h0:=hp ‹_›;simp only[List.length_cons,List.length_nil]at h0;unfold uW at h;split at h
  ·cases h
  rename_i nm o2 h2;have hn:=fQ h2;split at h
  ·cases h
  rename_i l o3 h3;have ha:=uX _ _ _ (by omega) h3;split at h
  ·obtain⟨y,h4,rfl⟩:=iP h;have:=kV h4;exact⟨rfl,by omega,by omega⟩
  ·obtain⟨y,h4,rfl⟩:=iP h;have:=kV h4;exact⟨rfl,by omega,by omega⟩
 ·rename_i hne;obtain⟨y,h1,rfl⟩:=iP h;have h2:=nU _ _ _ (by omega) (by simp) h1;obtain⟨n,hn⟩:∃n,t.length+1 - o=n+1:=⟨t.length - o,by omega⟩
  rw[hn]at h1;refine⟨rfl,P6 ho (by simp) (fun e=>hne ?_) h1,h2.2.1⟩;unfold dC;rw[List.drop_eq_getElem_cons ho];rw[List.getElem?_eq_getElem ho]at e;injection e with e;rw[e];simp
theorem Hr (s:Bs) (c:UInt8):∀n:Nat, -1<=ft s c n/\ft s c n<=n
 | 0=>by unfold ft;omega
 | n+1=>by
   have:=Hr s c n;unfold ft;split<;>omega
theorem ZU {A D:List MV} {n:Nat} (hA:A.length=n) {vs:List MV} {i:Nat} {v:MV} (h:vs[i]?=some v):(A++(vs++D))[n+i]?=some v:=by
 have hi:=(List.getElem?_eq_some_iff.1 h).1;rw[List.getElem?_append_right (by omega),List.getElem?_append_left (by omega),hA,Nat.add_sub_cancel_left];exact h
theorem LW {A D:List MV} {n:Nat} (hA:A.length=n) {vs:List MV} {i:Nat} {v:MV} (h:i<vs.length):(A++(vs++D)).set (n+i) v=A++(vs.set i v++D):=by
 rw[List.set_append_right _ _ (by omega),List.set_append_left _ _ (by omega),hA,Nat.add_sub_cancel_left]
theorem LX {t:Bs} {a:Nat} (h:a<t.length):lS t (a+1)=lS t a+if t[a]=10 then 1 else 0:=by
 unfold lS;rw[cN _ _ h,List.count_append];split
 ·rename_i h1;rw[h1];simp;omega
 ·rename_i h1;rw[List.count_singleton,if_neg (by simpa using h1)];omega
theorem Row.to {O O':VH} {el:TypeId} {sz B k c:Nat} {L L' sp:List MV} (h:Row O el sz B k c L) (u:bj O (some k) O') (hc:O'.hp k=some (.cells (L'++sp))) (hl:(L'++sp).length=c*sz):Row O' el sz B k c L':=by
 obtain⟨sp0,h1,h2⟩:=h.cells;obtain⟨j,h3,h4,h5⟩:=h.nL;refine⟨⟨sp,hc,hl⟩,⟨j,h3,Nat.lt_of_lt_of_le h4 u.next,(u.hp j h4 ?_).trans h5⟩,h.lo,Nat.lt_of_lt_of_le h.hi u.next⟩;intro e;injection e with e;subst e;rw[h1]at h5;cases h5
theorem Row.ZV {O:VH} {el:TypeId} {sz B k c q:Nat} {L cs:List MV} {x:bV} (h:Row O el sz B k c L) (hq:q≠k) (hc:O.hp q=some (.cells cs)):Row (O.set q x) el sz B k c L:=
 h.pc bj.set hq (fun _ _ e=>by rw[hc]at e;cases e)
theorem u7 (t:Bs) (x:Tk):(tR t x).length=7:=rfl
set_option maxHeartbeats 800000 in
theorem agE (t:Bs) (O:VH) (ht:t.length<=65536):VF Tryz.prog 244 [.str t] O (aI fun m O'=>O.Ge O'/\match tE t with
  | .ok l=>∃p,m= .tuple [p,mi 0,.agg [mi 0,mi 0,mi 0]]/\GR O' 153 7 O.next p l.length (l.flatMap (tR t))
  | .error e=>m= .tuple [.sl 0 [] .nil,mi e.1,oN t e.2]):=by
 refine VF.D_ (lo:=5) (k:=77) (rs:=[.cell 2 155,.cell 3 65,.cell 4 69]) Tryz.func244 (Enters.sf (by kernel_rfl)) ?_;simp only[cc,Nat.zero_add,Nat.reduceAdd];refine ae @dD ?_;refine VC.gen ?_;rintro O1 rK;obtain⟨aU,du,cV,cy,fx,pQ⟩:=PX _ _ _ _ rK;clear rK;refine VC.ag aa (ao @dD @cV ?_);try refine fU @dD ?_
 refine⟨_,rfl,fun D=>?_⟩;refine VC.ag aa (ao @dD @cV ?_);refine VC.bx ?_;rintro O2 ⟨ay,bN,jk⟩
 replace bN:O2.hp (O.next+4)=some (.cells [.str t,mi (0:Nat),.sl 0 [] .nil]):=by rw[<-du];exact bN
 rw[du];have jn:=ay.at cV;have b9:=ay.at cy;have iY:=ay.at fx;have j4:=ay.at pQ
 replace jk:O2.next=O.next+5:=by omega
 have fZ:=aU.trans ay;clear aU ay cV cy fx pQ du O1;refine VC.bE [1,2,3,4,5] (fun x:List Tk×MV=>[.ptr O.next 0,.ptr (O.next+1) 0,.ptr (O.next+2) 0,.ptr (O.next+3) 0,.ptr (O.next+4) 0]) (fun x O'=>UB (O.next+5) (O.next+4) O2 O'/\Rd O' (O.next+4) t t.length x.2/\GR O' 153 7 (O.next+5) x.2 x.1.length (x.1.flatMap xV)/\x.1.length<=t.length/\(∀y∈x.1,y.off<t.length)/\x.1.Pairwise (fun a b=>a.off<=b.off)/\tE t= .ok x.1) ?_ ?_
 ·refine VC.aD ?_;refine VC.bH [] [1,2,3,4,5] (fun x:List Tk×MV×Nat=>[]) (fun x O'=>UB (O.next+5) (O.next+4) O2 O'/\Rd O' (O.next+4) t x.2.2 x.2.1/\GR O' 153 7 (O.next+5) x.2.1 x.1.length (x.1.flatMap xV)/\x.1.length<=x.2.2/\x.2.2<=t.length/\(∀y∈x.1,y.off<x.2.2)/\x.1.Pairwise (fun a b=>a.off<=b.off)/\∃n,t.length+1 - x.2.2<=n/\tE t=ir t n x.2.2 x.1) (fun x=>t.length - x.2.2) (([],.sl 0 [] .nil,0)) ?_ ?_
  ·exact⟨UB.refl _ _ _,⟨by omega,bN⟩,.inl ⟨rfl,rfl,.inl rfl⟩,Nat.zero_le _,Nat.zero_le _,(fun y hy=>by cases hy),List.Pairwise.nil,_,Nat.le_refl _,rfl⟩
  rintro⟨l,p,o⟩ O3 ⟨sH,hr,cC,ua,LS,ky,qM,n,hn,he⟩;dsimp only at sH hr cC ua LS ky qM hn he;obtain⟨n,rfl⟩:∃i,n=i+1:=⟨n - 1,by omega⟩
  rw[ir]at he;repeat refine pI @dD @wd ?_
  refine ah.rt (mU hr) ?_;rintro _ O4 ⟨rfl,eO⟩;rw[eO];clear eO O4
  by_cases h1:t.length<=o
  ·rw[if_pos h1]at he;obtain rfl:o=t.length:=by omega
   rw[decide_eq_true h1];repeat refine pI @dD @wd ?_
   exact aA.mk (l,p) ⟨sH,hr,cC,ua,ky,qM,he⟩
  rw[if_neg h1]at he;rw[decide_eq_false h1];repeat refine pI @dD @wd ?_
  have htv:=ZP hr (by omega) LS (by omega:O.next+4<O.next+5) (by have:=sH.next;omega) cC (by omega);have eG:= @LV t o;have nf:= @Vs t o;generalize mj t o=F at*;refine ah.p htv ?_ ?_
  ·rintro m O4 ⟨ZW,h4⟩;cases F with
   | error e=>exact h4.elim
   | ok y=>
   obtain⟨x,o2⟩:=y;dsimp only at h4 he;obtain⟨rfl,p2,FZ,agF⟩:=h4;obtain⟨k1,k2,k3⟩:=eG (by omega) rfl;repeat refine pI @dD @wd ?_
   refine aC.next (l++[x],p2,o2) ⟨sH.trans ZW,FZ,?_,?_,k3,?_,?_,n,?_,he⟩ (hm:=?_)
   ·dsimp only;rw[List.length_append,List.flatMap_append,List.flatMap_singleton];exact agF
   ·dsimp only;rw[List.length_append,List.length_singleton];omega
   ·intro y hy;dsimp only at hy ⊢;rcases List.mem_append.1 hy with hy | hy
    ·have:=ky y hy;omega
    ·rw[List.mem_singleton.1 hy];omega
   ·dsimp only;rw[List.pairwise_append];exact⟨qM,List.pairwise_singleton _ _,fun a ha b hb=>by rw[List.mem_singleton.1 hb];have:=ky a ha;omega⟩
   ·dsimp only;omega
   ·dsimp only;omega
  ·rintro m O4 ⟨ZW,h4⟩;cases F with
   | ok y=>exact h4.elim
   | error e=>
   obtain⟨e,off⟩:=e;dsimp only at h4 he;subst h4;have u_:=nf LS rfl;have xZ:=sH.trans ZW;have g_:=xZ.next;have kx:=(xZ.hp O.next (by omega) (by omega)).trans jn;have cL:=(xZ.hp (O.next+1) (by omega) (by omega)).trans b9;have eX:=(xZ.hp (O.next+2) (by omega) (by omega)).trans iY;have Es:=(xZ.hp (O.next+3) (by omega) (by omega)).trans j4;try refine pI @dD @wd ?_
   refine ZT (by omega) u_ kx cL eX Es (by omega) (by omega) (by omega) (by omega) (by omega) (by omega) (by omega) ?_;intro O5 gu nD cR fm I0;simp only[au]at cR fm I0;refine iL @dD @wd @cR @fm @I0 ?_;refine⟨⟨by have:=xZ.next;omega,fun i hi=>?_⟩,?_⟩
   ·rw[nD i (by omega) (by omega) (by omega) (by omega),xZ.hp i (by omega) (by omega)];exact fZ.hp i hi
   ·rw[he];dsimp only;rfl
 rintro⟨l,p⟩ O3 ⟨sH,hr,cC,yX,ky,qM,he⟩;dsimp only at sH hr cC yX ky qM he;rw[he];have qi:=(sH.hp O.next (by omega) (by omega)).trans jn;have ct:=(sH.hp (O.next+1) (by omega) (by omega)).trans b9;have eJ:=(sH.hp (O.next+2) (by omega) (by omega)).trans iY;have zS:=(sH.hp (O.next+3) (by omega) (by omega)).trans j4;have gZ:=sH.next;have eo:∀i,i<O.next->O3.hp i=O.hp i:=fun i hi=>(sH.hp i (by omega) (by omega)).trans (fZ.hp i hi)
 have dG:=hr.2;simp only[au]at dG;rcases cC with⟨h0,hL,hp⟩ | ⟨k2,c,rfl,yW,ob,j8⟩
 ·obtain rfl:l=[]:=List.eq_nil_of_length_eq_zero h0;have fin:∀{p:MV} {O5:VH},(p= .sl 0 [] .nil\/p= .sl 0 [] .full)->O.next<=O5.next->(∀i,i<O.next->O5.hp i=O.hp i)->(O.Ge O5/\∃p',MV.tuple [p,mi 0,.agg [mi 0,mi 0,mi 0]]= .tuple [p',mi 0,.agg [mi 0,mi 0,mi 0]]/\GR O5 153 7 O.next p' 0 []):=fun hp hn hh=>⟨⟨hn,hh⟩,_,rfl,.inl ⟨rfl,rfl,hp⟩⟩
  have hO:∀{x y z:bV} {i:Nat},i<O.next->((((O3.set (O.next+1) x).set (O.next+2) y).set (O.next+3) z)).hp i=O.hp i:=fun hi=>by
   rw[VH.ak _ _ (by omega),VH.ak _ _ (by omega),VH.ak _ _ (by omega)];exact eo _ hi
  rcases hp with rfl | rfl
  ·refine VC.ag aa (ao @dD @wd ?_);refine VC.bA ?_;refine VC.ag aa (aM @dD @wd @dG ?_);refine VC.aD ?_;refine VC.bH [6,7,32] [1,2,3,4,5,31] (fun _:Unit=>[mi 1,mi 0,mi 0]) (fun _ O'=>O'=O3) (fun _=>0) (()) ?_ ?_
   ·exact rfl
   rintro⟨⟩ O4 eO;rw[eO];clear eO O4
   repeat refine kg6 @dD @wd @dG @ct @eJ @zS ?_
   refine Er ?_;refine ao @dD @wd ?_;exact fin (by simp) (by rw[VH.eB,VH.eB,VH.eB];omega) (fun i hi=>hO hi)
  ·refine VC.ag aa (ao @dD @wd ?_);refine VC.bA ?_;refine VC.ag aa (aM @dD @wd @dG ?_);refine VC.aD ?_;refine VC.bH [6,7,32] [1,2,3,4,5,31] (fun _:Unit=>[mi 1,mi 0,mi 0]) (fun _ O'=>O'=O3) (fun _=>0) (()) ?_ ?_
   ·exact rfl
   rintro⟨⟩ O4 eO;rw[eO];clear eO O4
   repeat refine kg6 @dD @wd @dG @ct @eJ @zS ?_
   refine Er ?_;refine ao @dD @wd ?_;exact fin (by simp) (by rw[VH.eB,VH.eB,VH.eB];omega) (fun i hi=>hO hi)
 obtain⟨sp,hsp,GW⟩:=j8.cells;have kP:=j8.lo;have P7:=j8.hi;refine VC.ag aa (ao @dD @wd ?_);refine VC.bA ?_;refine VC.ag aa (aM @dD @wd @dG ?_);refine VC.aD ?_;refine VC.bH [6,7,32] [1,2,3,4,5,31] (fun x:Nat×Nat=>[mi (lS t x.2),mi x.2,mi x.1]) (fun x O'=>bj O3 (some k2) O'/\O'.hp k2=some (.cells ((l.take x.1).flatMap (tR t)++(l.drop x.1).flatMap xV++sp))/\x.1<=l.length/\x.2<=t.length/\(∀y∈l.drop x.1,x.2<=y.off)) (fun x=>l.length - x.1) ((0,0)) ?_ ?_
 ·exact⟨bj.refl _ _,hsp,Nat.zero_le _,Nat.zero_le _,fun _ _=>Nat.zero_le _⟩
 rintro⟨j,a⟩ O4 ⟨eS,eX,hj,ha,xN⟩;dsimp only at eS eX hj ha xN;have kU:=(eS.hp _ (by omega) (by intro e;injection e;omega)).trans dG;have Vt:=(eS.hp _ (by omega) (by intro e;injection e;omega)).trans qi;have hlj:=Nat.min_eq_left hj;by_cases AD:j<l.length;rotate_left
 ·obtain rfl:j=l.length:=by omega
  rw[List.take_length,List.drop_length,List.flatMap_nil,List.append_nil]at eX;have cL:=(eS.hp _ (by omega) (by intro e;injection e;omega)).trans ct;have aeM:=(eS.hp _ (by omega) (by intro e;injection e;omega)).trans eJ;have Es:=(eS.hp _ (by omega) (by intro e;injection e;omega)).trans zS
  have aiB:Row O4 153 7 (O.next+5) k2 c (l.flatMap (tR t)):=j8.to eS eX (by
   rw[List.length_append,aQ (u7 t)];rw[List.length_append,ob]at GW;exact GW)
  have g_:=eS.next
  have hO:∀{x y z:bV} {i:Nat},i<O.next->((((O4.set (O.next+1) x).set (O.next+2) y).set (O.next+3) z)).hp i=O.hp i:=fun hi=>by
   rw[VH.ak _ _ (by omega),VH.ak _ _ (by omega),VH.ak _ _ (by omega)];exact(eS.hp _ (by omega) (by intro e;injection e;omega)).trans (eo _ hi)
  repeat refine kg6 @dD @wd @kU @cL @aeM @Es ?_
  refine Er ?_;refine ao @dD @wd ?_;refine⟨⟨by rw[VH.eB,VH.eB,VH.eB];omega,fun i hi=>hO hi⟩,_,rfl,.inr ⟨k2,c,rfl,yW,aQ (u7 t) _,?_⟩⟩;exact(((aiB.ZV (by omega) cL).ZV (by omega) (VH.sn aeM)).ZV (by omega) (VH.sn (VH.sn Es))).wider (by omega)
 have P4:=List.drop_eq_getElem_cons AD;have eG:(l.take (j+1))=l.take j++[l[j]]:=cN _ _ AD;have hxo:l[j].off<t.length:=ky _ (List.getElem_mem AD);have hxa:a<=l[j].off:=xN _ (by rw[P4];exact List.mem_cons_self ..)
 have r9:∀y∈l.drop (j+1),l[j].off<=y.off:=by
  have:=qM.drop (i:=j);rw[P4,List.pairwise_cons]at this;exact this.1
 rw[P4,List.flatMap_cons]at eX;generalize hx:l[j]=x at*;have hA:((l.take j).flatMap (tR t)).length=j*7:=by rw[aQ (u7 t),List.length_take,hlj]
 generalize hAe:(l.take j).flatMap (tR t)=A at*;generalize hEe:(l.drop (j+1)).flatMap xV=E at*;refine VC.ag aa (ao @dD @wd ?_);try refine pI @dD @wd ?_
 refine VC.bA (VC.aD ?_);refine VC.ag aa (ao @dD @wd ?_);refine VC.ag aa (aM @dD @wd @kU ?_);rw[List.append_assoc,List.append_assoc]at eX;have Vu:(A++(xV x++(E++sp)))[j*7+4]?=some (.v (.int .i64 x.off)):=ZU hA (vs:=xV x) rfl
 have hCl:j*7+7<=(A++(xV x++(E++sp))).length:=by
  rw[List.length_append,List.length_append,Ep,hA];omega
 have hCs:∀(y z:MV),((A++(xV x++(E++sp))).set (j*7+5) y).set (j*7+6) z=A++([mi x.kind,.str x.name,.sl x.attrs.length (x.attrs.flatMap aZ) .aq,.str x.text,mi x.off,y,z]++(E++sp)):=fun y z=>by
  rw[LW hA (by rw[Ep];decide),LW hA (by rw[List.length_set,Ep];decide)];rfl
 generalize A++(xV x++(E++sp))=C at*;refine VC.bA (VC.aD ?_);refine VC.bH [6,7] [1,2,3,4,5,9,31,32] (fun b:Nat=>[mi (lS t b),mi b]) (fun b O'=>O'=O4/\b<=x.off) (fun b=>x.off - b) (a) ?_ ?_
 ·exact⟨rfl,hxa⟩
 rintro b O5 ⟨eO,hb⟩;rw[eO];clear eO O5
 have akh:lS t b<=1+t.length:=by
  unfold lS;have h1:=List.count_le_length (a:=(10:UInt8)) (l:=t.take b);rw[List.length_take]at h1;omega
 by_cases ee:b<x.off
 ·have Vv:b<t.length:=by omega
  have hg:=List.getElem?_eq_getElem Vv;have UL:=LX Vv;generalize t[b]=ch at*;generalize lS t b=ln at*;by_cases va:ch=10
  ·rw[if_pos va]at UL;have e1:((ch.toNat:Int)==10)=true:=by rw[va];rfl
   repeat refine kg8 @dD @wd @eX @Vu @Vt @hg @aG @e1 ?_
   exact aC.next (b+1) ⟨rfl,by omega⟩ (hl:=(by rw[UL];rfl))
  ·rw[if_neg va]at UL;have e1:((ch.toNat:Int)==10)=false:=by simpa using fun e:(ch.toNat:Int)=10=>va (UInt8.toNat_inj.1 (by simpa using(by omega:ch.toNat=10)))
   repeat refine kg8 @dD @wd @eX @Vu @Vt @hg @aG @e1 ?_
   exact aC.next (b+1) ⟨rfl,by omega⟩ (hl:=(by rw[UL];rfl))
 obtain rfl:b=x.off:=by omega
 generalize Zo:lS t x.off=ln at*;repeat refine kg5 @dD @wd @eX @Vu @Vt ?_
 have gJ:ft (t.take x.off) 10 (t.take x.off).length<=x.off/\ -1<=ft (t.take x.off) 10 (t.take x.off).length:=by
  have h1:=Hr (t.take x.off) 10 (t.take x.off).length;rw[List.length_take,Nat.min_eq_left (by omega)]at h1 ⊢;omega
 have hlen:(t.take x.off).length<=1000000:=by rw[List.length_take];omega
 refine ah.rt (AM (t.take x.off) 10 _ hlen) ?_;rintro _ O5 ⟨rfl,eO⟩;rw[eO];clear eO O5
 have aiC:Et t x.off=(x.off:Int) - ft (t.take x.off) 10 (t.take x.off).length:=rfl;generalize ft (t.take x.off) 10 (t.take x.off).length=lf at*;repeat refine kg3 @dD @wd @eX ?_
 refine aC.next (j+1,x.off) ⟨eS.trans (bj.set.trans bj.set),?_,AD,Nat.le_of_lt hxo,r9⟩ (hl:=(by dsimp only;rw[Zo];rfl));rw[VH.an,eG,List.flatMap_append,List.flatMap_singleton];have hC:=hCs (mi ln) (mi ((x.off:Int) - lf))
 have h7:tR t x=[mi x.kind,.str x.name,.sl x.attrs.length (x.attrs.flatMap aZ) .aq,.str x.text,mi x.off,mi ln,mi ((x.off:Int) - lf)]:=by
  unfold tR;rw[Zo,aiC]
 rw[hAe,hEe,h7,List.append_assoc,List.append_assoc, <-hC];rfl
set_option linter.defProp false in
def bJ:=And.intro mh<|And.intro AF T9
abbrev eK:List MV:=[.v (.bool false),.str [],.str [],.str [],.str [],.str [],.str [],.str [],.sl 0 [] .nil,.sl 0 [] .nil,.sl 0 [] .nil]
theorem ZX {O:VH} {a b c:Nat} {K:VH->Prop} (h:K O):fM Tryz.prog 247 [.ptr a 0,.ptr b 0,.ptr c 0] none O K:=by
 refine fM.rec (d:=6) Tryz.func247 (Nat.lt_of_lt_of_eq (by decide:6<17) rfl) ?_;show WC _ _ ⟨17,0⟩ _ _ _ _ _;simp only[cc,Nat.zero_add,Nat.reduceAdd,zc];refine ao @bJ @wi ?_;refine VL.pure (by simp) (fun _=>.inl rfl) rfl rfl (gY.DH (bb:=true) Tryz.underlying20 rfl (.inl ⟨rfl,rfl⟩)) ?_;refine WL.sound aa ?_;refine ao @bJ @wi ?_;exact h
theorem iQ {O:VH} {a b c:Nat} {e:Int} {s:Bs} {K:VH->Prop} {x0 x1 x2 x3 x4 x5 x6 x7 x8 x9 x10 y z:MV} (ha:O.hp a=some (.cells [x0,x1,x2,x3,x4,x5,x6,x7,x8,x9,x10])) (hb:O.hp b=some (.cells [y])) (hc:O.hp c=some (.cells [z]))
  (han:a<O.next) (U5:b<O.next) (D2:c<O.next) (hab:a≠b) (hac:a≠c) (hbc:b≠c)
  (h:∀O',O.next<=O'.next->(∀i,i<O.next->i≠a->i≠b->i≠c->O'.hp i=O.hp i)->O'.hp a=some (.cells eK)->O'.hp b=some (.cells [mi e])->O'.hp c=some (.cells [.str s])->K O'):fM Tryz.prog 247 [.ptr a 0,.ptr b 0,.ptr c 0] (some (sA e s)) O K:=by
 refine fM.rec (d:=6) Tryz.func247 (Nat.lt_of_lt_of_eq (by decide:6<17) rfl) ?_;show WC _ _ ⟨17,0⟩ _ _ _ _ _;simp only[cc,Nat.zero_add,Nat.reduceAdd,zc,sA];refine ao @bJ @wi ?_;refine VL.pure (by simp) (fun _=>.inl rfl) rfl rfl (gY.RH (bb:=false) Tryz.underlying20 rfl (.inl ⟨rfl,rfl⟩)) ?_;refine WL.sound aa ?_;refine ao @bJ @wi ?_;refine VL.pure (by simp) (fun _=>.inl rfl) rfl rfl (gY.asT Tryz.underlying371 (fun _ h=>by cases h) rfl) ?_;refine WL.sound aa ?_;refine ao @bJ @wi ?_;refine VC.al ?_;rintro O2 ⟨ay,j6,jk⟩;have wO:∀(X:bV) {i:Nat} {y:Option bV},i<O.next->O.hp i=y->(O2.set O.next X).hp i=y:=fun X {i y} hi h=>VH.sn ((ay.hp _ hi).trans h)
 refine VC.pe [] (O.next) (j6) ?_;intro X;have kx:=wO (.obj X) han ha;have cL:=wO (.obj X) U5 hb;have eX:=wO (.obj X) D2 hc;have pP:(O2.set O.next (.obj X)).hp O.next=some (.obj X):=VH.an _ _ _;have g_:(O2.set O.next (.obj X)).next=O.next+1:=jk;have bh:O.Ge (O2.set O.next (.obj X)):=ay.set (Nat.le_refl _) _;generalize hO4:O2.set O.next (.obj X)=O4 at*;refine ab.av 0 ?_;refine ae @bJ ?_;refine ab.av 1 ?_;refine ae @bJ ?_;refine ab.sk (m:=.v (.int .i64 e)) 2 ?_ ?_
 ·exact fe @bJ
 simp only[aj];refine ab.av 3 ?_;refine ae @bJ ?_;refine ab.sk (m:=.str s) 4 ?_ ?_
 ·exact fe @bJ
 simp only[aj];refine ab.op (i:=5) ?_;refine ao @bJ @kx ?_;refine⟨pP,?_⟩;refine ab.op (i:=6) ?_;refine ao @bJ @cL ?_;refine⟨pP,?_⟩;refine ab.op (i:=7) ?_;refine ao @bJ @eX ?_;refine⟨pP,?_⟩;refine ab.mO [] ?_;refine ae @bJ ?_;refine h _ (by show O.next<=O4.next;omega) (fun i hi h1 h2 h3=>?_) ?_ ?_ ?_
 ·rw[VH.ak _ _ (by omega),VH.ak _ _ (by omega),VH.ak _ _ (by omega),VH.ak _ _ (by omega)];exact bh.hp i hi
 ·rw[VH.ak _ _ (by omega),VH.ak _ _ (by omega),VH.ak _ _ (by omega)];exact VH.an _ _ _
 ·rw[VH.ak _ _ (by omega),VH.ak _ _ (by omega)];exact VH.an _ _ _
 ·rw[VH.ak _ _ (by omega)];exact VH.an _ _ _
structure vc (O:VH) (E:List MV) (O':VH) (cs:List MV):Prop where
 tS:∀i,i<O.next->O'.hp i=O.hp i
 lt:O.next+5<=O'.next
 d:O'.hp (O.next+1)=some (.cells cs)
 e:O'.hp (O.next+2)=some (.cells [mi 0])
 w:O'.hp (O.next+3)=some (.cells [.str []])
 x:O'.hp (O.next+4)=some (.cells E)
theorem vc.ge {O O' O2:VH} {E cs:List MV} (h:vc O E O' cs) (k:O'.Ge O2):vc O E O2 cs:=by
 have h1:=h.lt;exact⟨fun i hi=>(k.hp i (by omega)).trans (h.tS i hi),Nat.le_trans h1 k.next,k.at h.d,k.at h.e,k.at h.w,k.at h.x⟩
theorem vc.st {O O':VH} {E cs cs':List MV} (h:vc O E O' cs):vc O E (O'.set (O.next+1) (.cells cs')) cs':=
 ⟨fun i hi=>VH.sn (h.tS i hi),h.lt,VH.an _ _ _,VH.sn h.e,VH.sn h.w,VH.sn h.x⟩
theorem vc.other {O O' O2:VH} {E cs:List MV} {k:Nat} {x:bV} (h:vc O E O' cs) (hk:O.next+5<=k) (bN:k<O'.next) (g:(O'.set k x).Ge O2):vc O E O2 cs:=by
 have h1:=h.lt;have e1:(O'.set k x).next=O'.next:=rfl;have h4:=g.next
 have key:∀j,j<O.next+5->O2.hp j=O'.hp j:=fun j hj=>by
  rw[g.hp j (by omega),VH.ak _ _ (by omega)]
 exact⟨fun i hi=>(key i (by omega)).trans (h.tS i hi),by omega,(key _ (by omega)).trans h.d,(key _ (by omega)).trans h.e,(key _ (by omega)).trans h.w,(key _ (by omega)).trans h.x⟩
theorem vc.aiD {O O':VH} {E cs:List MV} {k:Nat} {x:bV} (h:vc O E O' cs) (hk:O.next+5<=k):vc O E (O'.set k x) cs:=
 ⟨fun i hi=>VH.sn (h.tS i hi),h.lt,VH.sn h.d,VH.sn h.e,VH.sn h.w,VH.sn h.x⟩
theorem VC.rs {P:Program} {n:Sz} {D:List Deferred} {c:Code} {e:Env} {Q:VQ} {O O':VH} {E cs cs':List MV} (h:vc O E O' cs) (k:∀O3,vc O E O3 cs'->VC P n D c e O3 Q):VC P n D c e (O'.set (O.next+1) (.cells cs')) Q:=k _ h.st
def vd (x:Nd) (w:Bs):Except (Int×Bs) (List Dp):=
 match bZ x w rC with
 | .error e=>.error e
 | .ok ((_,_),false)=>.ok []
 | .ok ((y,wy),true)=>lz y wy true
def ve (x:Nd) (w:Bs):Except (Int×Bs) (Bool×Gv):=
 match bZ x w uM with
 | .error e=>.error e
 | .ok ((_,_),false)=>.ok (false,⟨[],[],[]⟩)
 | .ok ((y,wy),true)=>match bG y wy dI true eH with
   | .error e=>.error e
   | .ok g=>match bG y wy dA true eH with
     | .error e=>.error e
     | .ok a=>match bG y wy fa true uL with
       | .error e=>.error e
       | .ok v=>.ok (true,⟨g,a,v⟩)
def ou (x:Nd):Except (Int×Bs) Pm:=
 bif x.nm==fT then match ve x x.nm with
  | .error e=>.error e
  | .ok p=>match bG x x.nm dI false dw with
  | .error e=>.error e
  | .ok g=>match bG x x.nm dA true dw with
  | .error e=>.error e
  | .ok a=>match bG x x.nm fa false dw with
  | .error e=>.error e
  | .ok v=>match bG x x.nm xf false dw with
  | .error e=>.error e
  | .ok k=>match kS x x.nm with
  | .error e=>.error e
  | .ok P=>match vd x x.nm with
  | .error e=>.error e
  | .ok M=>match lz x x.nm false with
  | .error e=>.error e
  | .ok D=>.ok ⟨p.1,p.2,g,a,v,k,P,M,D⟩
 else .error (20,x.nm)
def zT:Pm:=⟨false,⟨[],[],[]⟩,[],[],[],[],[],[],[]⟩
theorem adk (x:Nd) (O:VH) (hx:j7 x<=1000000):VF Tryz.prog 225 [.agg (cY x)] O (aI fun m O'=>O.Ge O'/\match ou x with
  | .ok p=>m= .tuple [.agg (fO p),mi 0,.str []]
  | .error e=>m= .tuple [.agg (fO zT),mi e.1,.str e.2]):=by
 refine VF.fg ?_;obtain⟨zn,za,cH,zt⟩:=x;have qM:=pE (.mk zn za cH zt) zn;have hfp:=rF (.mk zn za cH zt) zn uM;have hfm:=rF (.mk zn za cH zt) zn rC;have hpr:=Zv (.mk zn za cH zt) zn;have zL:=R4 (.mk zn za cH zt) zn false;obtain⟨PE,hP⟩:∃PE,ou (.mk zn za cH zt)=PE:=⟨_,rfl⟩
 rw[hP];unfold ou at hP;simp only[j5,cY,List.cons_append,List.nil_append]at qM hfp hfm hpr zL ⊢;simp only[Nd.nm]at hP;refine VF.deferred (lo:=5) (k:=64) (rs:=[.cell 2 106,.cell 3 65,.cell 4 9]) Tryz.func225 (Enters.sf (by kernel_rfl)) ?_;simp only[cc,Nat.zero_add,Nat.reduceAdd];refine ae @bJ ?_;refine⟨_,rfl,fun D=>?_⟩;refine VC.gen ?_;rintro O1 rK;obtain⟨aU,du,cV,cy,fx,pQ⟩:=PX _ _ _ _ rK;clear rK;refine VC.ag aa (aM @bJ @wd @cV ?_);refine VC.al ?_;rintro O2 ⟨ay,bN,jk⟩;rw[du]at bN ⊢
 have hd:vc O [.str zn,.sl za.length (za.flatMap aZ) .aq,.sl cH.length (ax cH) .aq,.str zt,.str zn] O2 eK:=
  ⟨fun i hi=>ay.at (aU.hp i hi),by omega,ay.at cy,ay.at fx,ay.at pQ,bN⟩
 have r6:=ay.at cV;clear aU ay du jk bN cV cy fx pQ O1;cases hb:zn==fT
 ·rw[hb,cond_false]at hP;rw[<-hP];have mz:(zn != [112,114,111,106,101,99,116])=true:=by rw[bne];simp only[fT]at hb;rw[hb];rfl
  simp only[fT]at hb;refine VC.ag aa (iL @bJ @wd @r6 @hb @mz ?_);refine ah.p (lH _ _ _) ?_ ?_
  ·rintro m O9 ⟨_,h⟩;exact h.elim
  rintro m O9 ⟨rfl,rfl⟩;refine ao @bJ @wd ?_;refine iQ hd.d hd.e hd.w (by have:=hd.lt;omega) (by have:=hd.lt;omega) (by have:=hd.lt;omega) (by omega) (by omega) (by omega) ?_;intro O5 gu nD eY cR fm;simp only[au]at cR;refine iL @bJ @wd @eY @cR @fm ?_;exact⟨⟨by have:=hd.lt;omega,fun i hi=>by rw[nD i (by have:=hd.lt;omega) (by omega) (by omega) (by omega)];exact hd.tS i hi⟩,rfl⟩
 rw[hb,cond_true]at hP;have hw:zn.length<=10000:=by rw[eq_of_beq hb];decide
 have hw3:zn.length<=3000:=by rw[eq_of_beq hb];decide
 have mz:(zn != [112,114,111,106,101,99,116])=false:=by rw[bne];simp only[fT]at hb;rw[hb];rfl
 simp only[fT]at hb;refine VC.ag aa (iL @bJ @wd @r6 @hb @mz ?_);clear hb mz r6;refine VC.bE [1,2,3,4,5] (fun _:Bool×Gv=>[.ptr O.next 0,.ptr (O.next+1) 0,.ptr (O.next+2) 0,.ptr (O.next+3) 0,.ptr (O.next+4) 0]) (fun p O'=>vc O [.str zn,.sl za.length (za.flatMap aZ) .aq,.sl cH.length (ax cH) .aq,.str zt,.str zn] O' [mb p.1,.str p.2.g,.str p.2.a,.str p.2.v,.str [],.str [],.str [],.str [],.sl 0 [] .nil,.sl 0 [] .nil,.sl 0 [] .nil]/\ve (.mk zn za cH zt) zn= .ok p) ?_ ?_
 ·have uP:= @rH (.mk zn za cH zt) zn uM;have uQ:∀e,bZ (.mk zn za cH zt) zn uM= .error e->ve (.mk zn za cH zt) zn= .error e:=fun e h=>by unfold ve;rw[h]
  have nB:∀y wy,bZ (.mk zn za cH zt) zn uM= .ok ((y,wy),false)->ve (.mk zn za cH zt) zn= .ok (false,⟨[],[],[]⟩):=fun y wy h=>by unfold ve;rw[h]
  have im:∀y wy,bZ (.mk zn za cH zt) zn uM= .ok ((y,wy),true)->ve (.mk zn za cH zt) zn=match bG y wy dI true eH with
   | .error e=>.error e
   | .ok g=>match bG y wy dA true eH with
     | .error e=>.error e
     | .ok a=>match bG y wy fa true uL with
       | .error e=>.error e
       | .ok v=>.ok (true,⟨g,a,v⟩):=fun y wy h=>by unfold ve;rw[h]
  generalize ve (.mk zn za cH zt) zn=QE at*;generalize bZ (.mk zn za cH zt) zn uM=F at*;have ee:=hd.x;refine VC.ag aa (aM @bJ @wd @ee ?_);refine ah.p (hfp O2 (by have:=jH (.mk zn za cH zt);omega) (by omega) (by decide)) ?_ ?_;rotate_left
  ·rintro m O9 ⟨bg,h⟩;have br:=hd.ge bg;cases F with
   | ok y=>exact h.elim
   | error e=>
     dsimp only at h;rw[uQ e rfl]at hP;dsimp only at hP;rw[h, <-hP];refine ao @bJ @wd ?_;refine iQ br.d br.e br.w (by have:=br.lt;omega) (by have:=br.lt;omega) (by have:=br.lt;omega) (by omega) (by omega) (by omega) ?_;intro O5 gu nD eY cR fm;simp only[au]at cR;refine iL @bJ @wd @eY @cR @fm ?_;exact⟨⟨by have:=br.lt;omega,fun i hi=>by rw[nD i (by have:=br.lt;omega) (by omega) (by omega) (by omega)];exact br.tS i hi⟩,rfl⟩
  rintro m O3 ⟨aO,h⟩;cases F with
  | error e=>exact h.elim
  | ok y=>
  obtain⟨⟨y,wy⟩,b⟩:=y;dsimp only at h;subst h;obtain⟨Zs,uR⟩:=uP rfl;have oM:wy.length<=10000:=by rw[uR];simp only[List.length_append,List.length_cons,List.length_nil];omega
  have ZY:j7 y<=1000000:=by omega
  clear uP uR uQ
  replace im:=fun h:b=true=>by subst h;exact im y wy rfl
  replace nB:b=false->QE= .ok (false,⟨[],[],[]⟩):=fun h=>by subst h;exact nB y wy rfl
  have qh:=fun O'=>pE y wy dI true eH 83 [] O' ZY oM (by decide) (by kernel_rfl) (fun s lP _ hs=>sr s lP (by simp only[maxLen];omega))
  have zK:=fun O'=>pE y wy dA true eH 83 [] O' ZY oM (by decide) (by kernel_rfl) (fun s lP _ hs=>sr s lP (by simp only[maxLen];omega))
  have ov:=fun O'=>pE y wy fa true uL 84 [] O' ZY oM (by decide) (by kernel_rfl) (fun s lP _ hs=>Py s lP (by simp only[maxLen];omega))
  generalize bG y wy dI true eH=W1 at*;generalize bG y wy dA true eH=W2 at*;generalize bG y wy fa true uL=W3 at*;obtain⟨yn,ya,yk,yt⟩:=y;simp only[j5,cY,List.cons_append,List.nil_append]at qh zK ov ⊢;have ct:=hd.ge aO;have mY:=ct.lt;refine ao @bJ @wd ?_;refine VC.al ?_;rintro O4 ⟨bh,kU,g_⟩;have cL:=ct.ge bh;clear hd ct aO bh ee;cases b
  ·rw[nB rfl]at hP ⊢;refine WC.sound aa (ao @bJ @wd ?_);exact aA.mk (false,⟨[],[],[]⟩) ⟨cL,rfl⟩
  replace im:=im rfl
  clear nB;have cE:=cL.d;refine VC.ag aa (ao @bJ @wd ?_);refine WC.sound aa (aM @bJ @wd @cE ?_);have hbs:=cL.st (cs':=[.v (.bool true),.str [],.str [],.str [],.str [],.str [],.str [],.str [],.sl 0 [] .nil,.sl 0 [] .nil,.sl 0 [] .nil]);have hks:=(VH.ak O4 (.cells [.v (.bool true),.str [],.str [],.str [],.str [],.str [],.str [],.str [],.sl 0 [] .nil,.sl 0 [] .nil,.sl 0 [] .nil]) (by omega:O3.next≠O.next+1)).trans kU;have gu:(O4.set (O.next+1) (.cells [.v (.bool true),.str [],.str [],.str [],.str [],.str [],.str [],.str [],.sl 0 [] .nil,.sl 0 [] .nil,.sl 0 [] .nil])).next=O4.next:=rfl;clear cE cL kU;generalize O4.set (O.next+1) (.cells [.v (.bool true),.str [],.str [],.str [],.str [],.str [],.str [],.str [],.sl 0 [] .nil,.sl 0 [] .nil,.sl 0 [] .nil])=O5 at*;refine VC.pe [7,8] (O3.next) (hks) ?_;intro X;refine ab.sk (m:=.agg [.str yn,.sl ya.length (ya.flatMap aZ) .aq,.sl yk.length (ax yk) .aq,.str yt,.str wy]) 0 ?_ ?_
  ·exact fe @bJ
  simp only[aj];refine ab.sk (m:=.agg [.str yn,.sl ya.length (ya.flatMap aZ) .aq,.sl yk.length (ax yk) .aq,.str yt,.str wy]) 2 ?_ ?_
  ·exact fe @bJ
  simp only[aj];refine ab.sk (m:=.agg [.str yn,.sl ya.length (ya.flatMap aZ) .aq,.sl yk.length (ax yk) .aq,.str yt,.str wy]) 4 ?_ ?_
  ·exact fe @bJ
  simp only[aj];have FX:=fun(O9:VH) (g:(O5.set O3.next (.obj X)).Ge O9)=>hbs.other (k:=O3.next) (x:=.obj X) (by omega) (by omega) g
  have jD:∀O9,(O5.set O3.next (.obj X)).Ge O9->O9.hp O3.next=some (.obj X):=fun O9 g=>(g.hp _ (by show O3.next<O5.next;omega)).trans (VH.an _ _ _)
  generalize O5.set O3.next (.obj X)=O6 at*;have hG:=VH.Ge.refl O6;refine ab.pH (i:=1) (qh O6) ?_ ?_;rotate_left
  ·rintro m O9 ⟨bg,h⟩;cases W1 with
   | ok s=>exact h.elim
   | error e=>
     dsimp only at h im;rw[im]at hP;dsimp only at hP;rw[h, <-hP];have br:=FX _ (hG.trans bg);refine ao @bJ @wd ?_;refine iQ br.d br.e br.w (by have:=br.lt;omega) (by have:=br.lt;omega) (by have:=br.lt;omega) (by omega) (by omega) (by omega) ?_;intro O5 gu nD eY cR fm;simp only[au]at cR;refine iL @bJ @wd @eY @cR @fm ?_;exact⟨⟨by have:=br.lt;omega,fun i hi=>by rw[nD i (by have:=br.lt;omega) (by omega) (by omega) (by omega)];exact br.tS i hi⟩,rfl⟩
  rintro m O7 ⟨bg,h⟩;cases W1 with
  | error e=>exact h.elim
  | ok sg=>
  dsimp only at h im;subst h;simp only[aj]
  replace hG:=hG.trans bg
  clear bg;refine⟨jD _ hG,?_⟩;refine ab.pH (i:=3) (zK O7) ?_ ?_;rotate_left
  ·rintro m O9 ⟨bg,h⟩;cases W2 with
   | ok s=>exact h.elim
   | error e=>
     dsimp only at h im;rw[im]at hP;dsimp only at hP;rw[h, <-hP];have br:=FX _ (hG.trans bg);refine ao @bJ @wd ?_;refine iQ br.d br.e br.w (by have:=br.lt;omega) (by have:=br.lt;omega) (by have:=br.lt;omega) (by omega) (by omega) (by omega) ?_;intro O5 gu nD eY cR fm;simp only[au]at cR;refine iL @bJ @wd @eY @cR @fm ?_;exact⟨⟨by have:=br.lt;omega,fun i hi=>by rw[nD i (by have:=br.lt;omega) (by omega) (by omega) (by omega)];exact br.tS i hi⟩,rfl⟩
  rintro m O8 ⟨bg,h⟩;cases W2 with
  | error e=>exact h.elim
  | ok sa=>
  dsimp only at h im;subst h;simp only[aj]
  replace hG:=hG.trans bg
  clear bg;refine⟨jD _ hG,?_⟩;refine ab.pH (i:=5) (ov O8) ?_ ?_;rotate_left
  ·rintro m O9 ⟨bg,h⟩;cases W3 with
   | ok s=>exact h.elim
   | error e=>
     dsimp only at h im;rw[im]at hP;dsimp only at hP;rw[h, <-hP];have br:=FX _ (hG.trans bg);refine ao @bJ @wd ?_;refine iQ br.d br.e br.w (by have:=br.lt;omega) (by have:=br.lt;omega) (by have:=br.lt;omega) (by omega) (by omega) (by omega) ?_;intro O5 gu nD eY cR fm;simp only[au]at cR;refine iL @bJ @wd @eY @cR @fm ?_;exact⟨⟨by have:=br.lt;omega,fun i hi=>by rw[nD i (by have:=br.lt;omega) (by omega) (by omega) (by omega)];exact br.tS i hi⟩,rfl⟩
  rintro m OF ⟨bg,h⟩;cases W3 with
  | error e=>exact h.elim
  | ok sv=>
  dsimp only at h im;subst h;simp only[aj]
  replace hG:=hG.trans bg
  clear bg;refine⟨jD _ hG,?_⟩;refine ab.av 6 ?_;refine ae @bJ ?_;refine ab.mO [(7,.av),(8,.one)] ?_;have br:=(FX _ hG).aiD (k:=O3.next) (x:=.cells [.str yn,.sl ya.length (ya.flatMap aZ) .aq,.sl yk.length (ax yk) .aq,.str yt,.str wy]) (by omega);have cE:=(FX _ hG).d;have aeN:=br.st (cs':=[mb true,.str sg,.str sa,.str sv,.str [],.str [],.str [],.str [],.sl 0 [] .nil,.sl 0 [] .nil,.sl 0 [] .nil]);simp only[aY]at aeN;refine aM @bJ @wd @cE ?_;exact aA.mk (true,⟨sg,sa,sv⟩) ⟨aeN,im⟩
 rintro p O3 ⟨hd,hQ⟩;rw[hQ]at hP;dsimp only at hP;clear hQ hfp;have ee:=hd.x;have cE:=hd.d;refine VC.ag aa (aM @bJ @wd @ee ?_);refine ah.p (qM dI false dw 251 [] _ hx hw (by decide) (by kernel_rfl) (fun s O' _ _=>sD s O')) ?_ ?_;rotate_left
 ·rintro m O9 ⟨bg,h⟩;have br:=hd.ge bg;cases hF:bG (.mk zn za cH zt) zn dI false dw with
  | ok s=>rw[hF]at h;exact h.elim
  | error e=>
    rw[hF]at h hP;dsimp only at h hP;rw[h, <-hP];refine ao @bJ @wd ?_;refine iQ br.d br.e br.w (by have:=br.lt;omega) (by have:=br.lt;omega) (by have:=br.lt;omega) (by omega) (by omega) (by omega) ?_;intro O5 gu nD eY cR fm;simp only[au]at cR;refine iL @bJ @wd @eY @cR @fm ?_;exact⟨⟨by have:=br.lt;omega,fun i hi=>by rw[nD i (by have:=br.lt;omega) (by omega) (by omega) (by omega)];exact br.tS i hi⟩,rfl⟩
 rintro m O4 ⟨bg,h⟩;cases P1:bG (.mk zn za cH zt) zn dI false dw with
 | error e=>rw[P1]at h;exact h.elim
 | ok s1=>
 rw[P1]at h hP;dsimp only at h hP;subst h;have hb:=hd.ge bg;clear bg hd;have cE:=hb.d;refine aM @bJ @wd @cE ?_;refine VC.rs hb ?_;clear ee cE hb;intro _ hd;have ee:=hd.x;have cE:=hd.d;refine VC.ag aa (aM @bJ @wd @ee ?_);refine ah.p (qM dA true dw 251 [] _ hx hw (by decide) (by kernel_rfl) (fun s O' _ _=>sD s O')) ?_ ?_;rotate_left
 ·rintro m O9 ⟨bg,h⟩;have br:=hd.ge bg;cases hF:bG (.mk zn za cH zt) zn dA true dw with
  | ok s=>rw[hF]at h;exact h.elim
  | error e=>
    rw[hF]at h hP;dsimp only at h hP;rw[h, <-hP];refine ao @bJ @wd ?_;refine iQ br.d br.e br.w (by have:=br.lt;omega) (by have:=br.lt;omega) (by have:=br.lt;omega) (by omega) (by omega) (by omega) ?_;intro O5 gu nD eY cR fm;simp only[au]at cR;refine iL @bJ @wd @eY @cR @fm ?_;exact⟨⟨by have:=br.lt;omega,fun i hi=>by rw[nD i (by have:=br.lt;omega) (by omega) (by omega) (by omega)];exact br.tS i hi⟩,rfl⟩
 rintro m O5 ⟨bg,h⟩;cases IX:bG (.mk zn za cH zt) zn dA true dw with
 | error e=>rw[IX]at h;exact h.elim
 | ok s2=>
 rw[IX]at h hP;dsimp only at h hP;subst h;have hb:=hd.ge bg;clear bg hd;have cE:=hb.d;refine aM @bJ @wd @cE ?_;refine VC.rs hb ?_;clear ee cE hb;intro _ hd;have ee:=hd.x;have cE:=hd.d;refine VC.ag aa (aM @bJ @wd @ee ?_);refine ah.p (qM fa false dw 251 [] _ hx hw (by decide) (by kernel_rfl) (fun s O' _ _=>sD s O')) ?_ ?_;rotate_left
 ·rintro m O9 ⟨bg,h⟩;have br:=hd.ge bg;cases hF:bG (.mk zn za cH zt) zn fa false dw with
  | ok s=>rw[hF]at h;exact h.elim
  | error e=>
    rw[hF]at h hP;dsimp only at h hP;rw[h, <-hP];refine ao @bJ @wd ?_;refine iQ br.d br.e br.w (by have:=br.lt;omega) (by have:=br.lt;omega) (by have:=br.lt;omega) (by omega) (by omega) (by omega) ?_;intro O5 gu nD eY cR fm;simp only[au]at cR;refine iL @bJ @wd @eY @cR @fm ?_;exact⟨⟨by have:=br.lt;omega,fun i hi=>by rw[nD i (by have:=br.lt;omega) (by omega) (by omega) (by omega)];exact br.tS i hi⟩,rfl⟩
 rintro m O6 ⟨bg,h⟩;cases P2:bG (.mk zn za cH zt) zn fa false dw with
 | error e=>rw[P2]at h;exact h.elim
 | ok s3=>
 rw[P2]at h hP;dsimp only at h hP;subst h;have hb:=hd.ge bg;clear bg hd;have cE:=hb.d;refine aM @bJ @wd @cE ?_;refine VC.rs hb ?_;clear ee cE hb;intro _ hd;have ee:=hd.x;have cE:=hd.d;refine VC.ag aa (aM @bJ @wd @ee ?_);refine ah.p (qM xf false dw 251 [] _ hx hw (by decide) (by kernel_rfl) (fun s O' _ _=>sD s O')) ?_ ?_;rotate_left
 ·rintro m O9 ⟨bg,h⟩;have br:=hd.ge bg;cases hF:bG (.mk zn za cH zt) zn xf false dw with
  | ok s=>rw[hF]at h;exact h.elim
  | error e=>
    rw[hF]at h hP;dsimp only at h hP;rw[h, <-hP];refine ao @bJ @wd ?_;refine iQ br.d br.e br.w (by have:=br.lt;omega) (by have:=br.lt;omega) (by have:=br.lt;omega) (by omega) (by omega) (by omega) ?_;intro O5 gu nD eY cR fm;simp only[au]at cR;refine iL @bJ @wd @eY @cR @fm ?_;exact⟨⟨by have:=br.lt;omega,fun i hi=>by rw[nD i (by have:=br.lt;omega) (by omega) (by omega) (by omega)];exact br.tS i hi⟩,rfl⟩
 rintro m O7 ⟨bg,h⟩;cases ZA:bG (.mk zn za cH zt) zn xf false dw with
 | error e=>rw[ZA]at h;exact h.elim
 | ok s4=>
 rw[ZA]at h hP;dsimp only at h hP;subst h;have hb:=hd.ge bg;clear bg hd;have cE:=hb.d;refine aM @bJ @wd @cE ?_;refine VC.rs hb ?_;clear ee cE hb;intro _ hd;have ee:=hd.x;have cE:=hd.d;refine VC.ag aa (aM @bJ @wd @ee ?_);refine ah.p (hpr _ hx hw) ?_ ?_;rotate_left
 ·rintro m O9 ⟨bg,h⟩;have br:=hd.ge bg;cases hF:kS (.mk zn za cH zt) zn with
  | ok s=>rw[hF]at h;exact h.elim
  | error e=>
    rw[hF]at h hP;dsimp only at h hP;rw[h, <-hP];refine ao @bJ @wd ?_;refine iQ br.d br.e br.w (by have:=br.lt;omega) (by have:=br.lt;omega) (by have:=br.lt;omega) (by omega) (by omega) (by omega) ?_;intro O5 gu nD eY cR fm;simp only[au]at cR;refine iL @bJ @wd @eY @cR @fm ?_;exact⟨⟨by have:=br.lt;omega,fun i hi=>by rw[nD i (by have:=br.lt;omega) (by omega) (by omega) (by omega)];exact br.tS i hi⟩,rfl⟩
 rintro m O8 ⟨bg,h⟩;cases hFP:kS (.mk zn za cH zt) zn with
 | error e=>rw[hFP]at h;exact h.elim
 | ok P=>
 rw[hFP]at h hP;dsimp only at h hP;have hb:=hd.ge bg;clear bg hd;have cE:=hb.d;obtain⟨tP,rfl⟩:=h;refine aM @bJ @wd @cE ?_;refine VC.rs hb ?_;clear ee cE hb;intro O9 hd;refine VC.bE [1,2,3,4,5] (fun _:List Dp×Tok=>[.ptr O.next 0,.ptr (O.next+1) 0,.ptr (O.next+2) 0,.ptr (O.next+3) 0,.ptr (O.next+4) 0]) (fun x O'=>vc O [.str zn,.sl za.length (za.flatMap aZ) .aq,.sl cH.length (ax cH) .aq,.str zt,.str zn] O' [mb p.1,.str p.2.g,.str p.2.a,.str p.2.v,.str s1,.str s2,.str s3,.str s4,.sl P.length (P.flatMap aZ) tP,.sl x.1.length (x.1.flatMap aP) x.2,.sl 0 [] .nil]/\vd (.mk zn za cH zt) zn= .ok x.1) ?_ ?_
 ·have uP:= @rH (.mk zn za cH zt) zn rC;have uQ:∀e,bZ (.mk zn za cH zt) zn rC= .error e->vd (.mk zn za cH zt) zn= .error e:=fun e h=>by unfold vd;rw[h]
  have nB:∀y wy,bZ (.mk zn za cH zt) zn rC= .ok ((y,wy),false)->vd (.mk zn za cH zt) zn= .ok []:=fun y wy h=>by unfold vd;rw[h]
  have im:∀y wy,bZ (.mk zn za cH zt) zn rC= .ok ((y,wy),true)->vd (.mk zn za cH zt) zn=lz y wy true:=fun y wy h=>by unfold vd;rw[h]
  generalize vd (.mk zn za cH zt) zn=QE at*;generalize bZ (.mk zn za cH zt) zn rC=F at*;have ee:=hd.x;have cE:=hd.d;refine VC.ag aa (aM @bJ @wd @ee ?_);refine ah.p (hfm _ (by have:=jH (.mk zn za cH zt);omega) (by omega) (by decide)) ?_ ?_;rotate_left
  ·rintro m O9 ⟨bg,h⟩;have br:=hd.ge bg;cases F with
   | ok y=>exact h.elim
   | error e=>
     dsimp only at h;rw[uQ e rfl]at hP;dsimp only at hP;rw[h, <-hP];refine ao @bJ @wd ?_;refine iQ br.d br.e br.w (by have:=br.lt;omega) (by have:=br.lt;omega) (by have:=br.lt;omega) (by omega) (by omega) (by omega) ?_;intro O5 gu nD eY cR fm;simp only[au]at cR;refine iL @bJ @wd @eY @cR @fm ?_;exact⟨⟨by have:=br.lt;omega,fun i hi=>by rw[nD i (by have:=br.lt;omega) (by omega) (by omega) (by omega)];exact br.tS i hi⟩,rfl⟩
  rintro m O3 ⟨aO,h⟩;cases F with
  | error e=>exact h.elim
  | ok y=>
  obtain⟨⟨y,wy⟩,b⟩:=y;dsimp only at h;subst h;obtain⟨Zs,uR⟩:=uP rfl;have oM:wy.length<=4000:=by rw[uR];simp only[List.length_append,List.length_cons,List.length_nil];omega
  have ZY:j7 y<=1000000:=by omega
  clear uP uR uQ
  replace im:=fun h:b=true=>by subst h;exact im y wy rfl
  replace nB:b=false->QE= .ok []:=fun h=>by subst h;exact nB y wy rfl
  have qh:=fun O'=>R4 y wy true O' ZY oM
  generalize lz y wy true=W1 at*;obtain⟨yn,ya,yk,yt⟩:=y;simp only[j5,cY,List.cons_append,List.nil_append]at qh ⊢;have ct:=hd.ge aO;have mY:=ct.lt;refine ao @bJ @wd ?_;refine VC.al ?_;rintro O4 ⟨bh,kU,g_⟩;have cL:=ct.ge bh;clear hd ct aO bh ee;cases b
  ·rw[nB rfl]at hP ⊢;refine WC.sound aa (ao @bJ @wd ?_);exact aA.mk ([],.nil) ⟨cL,rfl⟩
  replace im:=im rfl
  clear nB;subst im;refine VC.ag aa (ao @bJ @wd ?_);refine WC.sound aa (aM @bJ @wd @kU ?_);refine ah.p (qh O4) ?_ ?_;rotate_left
  ·rintro m O9 ⟨bg,h⟩;have br:=cL.ge bg;cases QE with
   | ok s=>exact h.elim
   | error e=>
     dsimp only at h hP;rw[h, <-hP];refine ao @bJ @wd ?_;refine iQ br.d br.e br.w (by have:=br.lt;omega) (by have:=br.lt;omega) (by have:=br.lt;omega) (by omega) (by omega) (by omega) ?_;intro O5 gu nD eY cR fm;simp only[au]at cR;refine iL @bJ @wd @eY @cR @fm ?_;exact⟨⟨by have:=br.lt;omega,fun i hi=>by rw[nD i (by have:=br.lt;omega) (by omega) (by omega) (by omega)];exact br.tS i hi⟩,rfl⟩
  rintro m O5 ⟨bK,h⟩;cases QE with
  | error e=>exact h.elim
  | ok M=>
  dsimp only at h;obtain⟨tM,rfl⟩:=h;have cR:=cL.ge bK;have cE:=cR.d;have hbs:=cR.st (cs':=[mb p.1,.str p.2.g,.str p.2.a,.str p.2.v,.str s1,.str s2,.str s3,.str s4,.sl P.length (P.flatMap aZ) tP,.sl M.length (M.flatMap aP) tM,.sl 0 [] .nil]);simp only[aY]at hbs cE;refine aM @bJ @wd @cE ?_;exact aA.mk (M,tM) ⟨hbs,rfl⟩
 rintro⟨M,tM⟩ OA ⟨hd,hM⟩;rw[hM]at hP;dsimp only at hP hd;have ee:=hd.x;refine VC.ag aa (aM @bJ @wd @ee ?_);refine ah.p (zL _ hx (by omega)) ?_ ?_;rotate_left
 ·rintro m O9 ⟨bg,h⟩;have br:=hd.ge bg;cases hF:lz (.mk zn za cH zt) zn false with
  | ok s=>rw[hF]at h;exact h.elim
  | error e=>
    rw[hF]at h hP;dsimp only at h hP;rw[h, <-hP];refine ao @bJ @wd ?_;refine iQ br.d br.e br.w (by have:=br.lt;omega) (by have:=br.lt;omega) (by have:=br.lt;omega) (by omega) (by omega) (by omega) ?_;intro O5 gu nD eY cR fm;simp only[au]at cR;refine iL @bJ @wd @eY @cR @fm ?_;exact⟨⟨by have:=br.lt;omega,fun i hi=>by rw[nD i (by have:=br.lt;omega) (by omega) (by omega) (by omega)];exact br.tS i hi⟩,rfl⟩
 rintro m OB ⟨bg,h⟩;cases aeO:lz (.mk zn za cH zt) zn false with
 | error e=>rw[aeO]at h;exact h.elim
 | ok DD=>
 rw[aeO]at h hP;dsimp only at h hP;have hb:=hd.ge bg;clear bg hd;have cE:=hb.d;obtain⟨tD,rfl⟩:=h;simp only[aY]at cE;refine aM @bJ @wd @cE ?_;rw[<-hP];refine VC.rs hb ?_;clear ee cE hb;intro O9 hd;have cE:=hd.d;have hbe:=hd.e;have hbw:=hd.w;have hl9:=hd.lt;simp only[au]at hbe;refine VC.ag aa (iL @bJ @wd @cE @hbe @hbw ?_);refine WC.sound aa (ao @bJ @wd ?_);refine ZX ?_;refine iL @bJ @wd @cE @hbe @hbw ?_;refine⟨⟨by show O.next<=O9.next;omega,fun i hi=>?_⟩,?_⟩
 ·rw[VH.ak _ _ (by omega),VH.ak _ _ (by omega),VH.ak _ _ (by omega)];exact hd.tS i hi
 ·simp only[fO,wu,fG,kL,aY]
section
variable {P:Program} {n:Sz} {D:List Deferred} {e:Env} {O:VH}
theorem pR {d:Option Tmp} {t t' ty el:TypeId} {x:Operand} {ps:String} {af:Array Edge} {g:Option (Nat×Bool)} {k:Nat} {cs:List MV} {tk:Tok} (hu:P.underlying t=some (.slice el)) (hx:ev e x=some (.sl k cs tk)):
  fC P n D (.mk d (.binOp .eql t x (.const (.slice none 0 0)) t') ty ps af g) e O fun m O'=>O'=O/\∃b,m= .v (.bool b)/\(b=true->k=0/\cs=[]):=by
 intro G a w hw hf;have h1:=hf.ev hx;have hc:a.eval (.const (.slice none 0 0))= .slice none 0 0:=rfl
 have key:∀(A:Option Addr) (l c:Nat),a.eval x= .slice A l c->(A=none->k=0/\cs=[])->∃m O' u w' H,(O'=O/\∃b,m= .v (.bool b)/\(b=true->k=0/\cs=[]))/\(execOp a.eval (.mk d (.binOp .eql t x (.const (.slice none 0 0)) t') ty ps af g)).run P w= .ok (.value u) w'/\Gh.Le G H/\WR H O' w'/\VR H m u:=fun A l c ha hA=>by
  refine⟨.v (.bool A.isNone),O,.bool A.isNone,w,G,⟨rfl,_,rfl,fun h=>hA (by cases A<;>first | rfl | cases h)⟩,?_,Gh.Le.refl G,hw,.v rfl⟩;have Pe:(eqGuard .eql t x (.const (.slice none 0 0)) (.slice A l c) (.slice none 0 0)).run P w= .ok () w:=by simp[eqGuard]
  simp only[execOp,ha,hc,Sem.run_bind,Pe,Result.andThen_ok,run_eql_slice_nil w t el A l c hu];rfl
 generalize hv:a.eval x=v at h1;cases h1 with
 | slnil=>exact key none 0 0 hv fun _=>⟨rfl,rfl⟩
 | nZ h=>exact key _ _ _ hv fun _=>⟨rfl,rfl⟩
 | jS=>exact key none 0 0 hv fun _=>⟨rfl,rfl⟩
 | sl h1 h2 h3 h4 h5 h6=>exact key _ _ _ hv fun h=>by cases h
end
theorem nE {tab:bS} {op:BinOp} {t:TypeId} {n:Nat} {cs:List MV} {tk:Tok} {y:MV}:cM tab op t (.sl n cs tk) y=none:=rfl
theorem Vw (x:Gv):(bL x).length=3:=rfl
theorem Vx (L:List Gv):cD (L.flatMap bL)=L.flatMap bL:=ko (fun x=>by simp only[bL,wu]) L
theorem VF.Vy {P:Program} {f:FuncId} {Tq:List MV} {O:VH} {Φ Ψ :MV->VH->Prop} (h:VF P f Tq O (aI Φ)) (hw:∀m O', Φ m O'->∃m',Wk m m'/\ Ψ m' O'):VF P f Tq O (aI Ψ):=fun G w vs CQ hv=>by
 refine(h G w vs CQ hv).mono ?_;rintro x w' ⟨r,O',H,h1,h2,h3,h4⟩;cases r with
 | ret m=>cases x with
   | returned v=>
     obtain⟨m',k1,k2⟩:=hw m O' h4;exact⟨.ret m',O',H,h1,h2,k1 H v h3,k2⟩
   | _=>exact h3.elim
 | panic m=>exact h4.elim
set_option linter.defProp false in
def jE:=And.intro bJ<|And.intro xd AF
theorem AQ (L:List (Bs×Bs)) (tk:Tok) (O:VH) (hn:L.length<=100000):VF Tryz.prog 114 [.sl L.length (L.flatMap aZ) tk] O (aI fun m O'=>∃t,m= .sl L.length (L.flatMap aZ) t/\App O' O.next 2 t/\O.Ge O'):=by
 have dF:=aQ eR L;refine VF.dh 8 [.tmp 2] Tryz.func114 ?_;refine ao @jE @nE ?_;refine VL.o_ (pR Tryz.underlying104 rfl) ?_;rintro _ O1 ⟨eO,b,rfl,hb⟩;rw[eO];clear eO O1
 refine WL.sound aa ?_;cases b
 ·refine ae @jE ?_;by_cases h0:L.length=0
  ·have hL:L=[]:=List.eq_nil_of_length_eq_zero h0;subst hL;refine VL.app (m:=.sl 0 [] .full) (O':=O) (by simp[gP,zm,BK.1.1]) ?_ (ht:=aa) (hx:=rfl) (hy:=rfl);refine ae @jE ?_;exact⟨.full,rfl,trivial,VH.Ge.refl _⟩
  ·have gJ:(L.flatMap aZ).all dz=true:=by
    rw[List.all_flatMap,List.all_eq_true];intro p _;rfl
   have kz:=bo (tk:=.full) (tk':=tk) (B:=O.next) (n:=0) (k:=L.length) (cs:=[]) (ds:=L.flatMap aZ) zm BK.1.1 (O:=O) trivial rfl dF gJ (by decide) h0 (by omega) (by simp[maxLen];omega);rw[Nat.zero_add,List.nil_append]at kz;refine VL.k6 kz (by rw[ry,fG]) ?_;refine ae @jE ?_;exact⟨_,rfl,App.after (Nat.le_refl _),cK.Cc (tk:=.full) (sz:=2) trivial (cK.after (sz:=2) (B:=0) trivial)⟩
 ·obtain⟨h0,h1⟩:=hb rfl;rw[h0,h1];refine ae @jE ?_;exact⟨.nil,rfl,trivial,VH.Ge.refl _⟩
theorem Eu (L:List (Bs×Bs)) (tk:Tok) (O:VH) (hn:L.length<=100000):VF Tryz.prog 114 [.sl L.length (L.flatMap aZ) tk] O (aI fun m O'=>m= .sl L.length (L.flatMap aZ) .aq/\O.Ge O'):=
 VF.Vy (AQ L tk O hn) fun m O' ⟨t,h1,h2,h3⟩=>⟨_,h1▸Wk.tok,rfl,h3⟩
theorem Vz (L:List (Dp)) (tk:Tok) (O:VH) (hn:L.length<=100000):VF Tryz.prog 115 [.sl L.length (L.flatMap aP) tk] O (aI fun m O'=>∃t,m= .sl L.length (L.flatMap aP) t/\App O' O.next 8 t/\O.Ge O'):=by
 have dF:=aQ fN L;refine VF.dh 8 [.tmp 2] Tryz.func115 ?_;refine ao @jE @nE ?_;refine VL.o_ (pR Tryz.underlying103 rfl) ?_;rintro _ O1 ⟨eO,b,rfl,hb⟩;rw[eO];clear eO O1
 refine WL.sound aa ?_;cases b
 ·refine ae @jE ?_;by_cases h0:L.length=0
  ·have hL:L=[]:=List.eq_nil_of_length_eq_zero h0;subst hL;refine VL.app (m:=.sl 0 [] .full) (O':=O) (by simp[gP,uK,AE.1.1]) ?_ (ht:=aa) (hx:=rfl) (hy:=rfl);refine ae @jE ?_;exact⟨.full,rfl,trivial,VH.Ge.refl _⟩
  ·have gJ:(L.flatMap aP).all dz=true:=by
    rw[List.all_flatMap,List.all_eq_true];intro p _;rfl
   have kz:=bo (tk:=.full) (tk':=tk) (B:=O.next) (n:=0) (k:=L.length) (cs:=[]) (ds:=L.flatMap aP) uK AE.1.1 (O:=O) trivial rfl dF gJ (by decide) h0 (by omega) (by simp[maxLen];omega);rw[Nat.zero_add,List.nil_append]at kz;refine VL.k6 kz (by rw[ry,kL]) ?_;refine ae @jE ?_;exact⟨_,rfl,App.after (Nat.le_refl _),cK.Cc (tk:=.full) (sz:=8) trivial (cK.after (sz:=8) (B:=0) trivial)⟩
 ·obtain⟨h0,h1⟩:=hb rfl;rw[h0,h1];refine ae @jE ?_;exact⟨.nil,rfl,trivial,VH.Ge.refl _⟩
theorem P8 (L:List (Dp)) (tk:Tok) (O:VH) (hn:L.length<=100000):VF Tryz.prog 115 [.sl L.length (L.flatMap aP) tk] O (aI fun m O'=>m= .sl L.length (L.flatMap aP) .aq/\O.Ge O'):=
 VF.Vy (Vz L tk O hn) fun m O' ⟨t,h1,h2,h3⟩=>⟨_,h1▸Wk.tok,rfl,h3⟩
theorem VA (L:List (fz)) (tk:Tok) (O:VH) (hn:L.length<=100000):VF Tryz.prog 117 [.sl L.length (L.flatMap bO) tk] O (aI fun m O'=>∃t,m= .sl L.length (L.flatMap bO) t/\App O' O.next 2 t/\O.Ge O'):=by
 have dF:=aQ mQ L;refine VF.dh 8 [.tmp 2] Tryz.func117 ?_;refine ao @jE @nE ?_;refine VL.o_ (pR Tryz.underlying61 rfl) ?_;rintro _ O1 ⟨eO,b,rfl,hb⟩;rw[eO];clear eO O1
 refine WL.sound aa ?_;cases b
 ·refine ae @jE ?_;by_cases h0:L.length=0
  ·have hL:L=[]:=List.eq_nil_of_length_eq_zero h0;subst hL;refine VL.app (m:=.sl 0 [] .full) (O':=O) (by simp[gP,DK,BJ.1.1]) ?_ (ht:=aa) (hx:=rfl) (hy:=rfl);refine ae @jE ?_;exact⟨.full,rfl,trivial,VH.Ge.refl _⟩
  ·have gJ:(L.flatMap bO).all dz=true:=by
    rw[List.all_flatMap,List.all_eq_true];intro p _;rfl
   have kz:=bo (tk:=.full) (tk':=tk) (B:=O.next) (n:=0) (k:=L.length) (cs:=[]) (ds:=L.flatMap bO) DK BJ.1.1 (O:=O) trivial rfl dF gJ (by decide) h0 (by omega) (by simp[maxLen];omega);rw[Nat.zero_add,List.nil_append]at kz;refine VL.k6 kz (by rw[ry,mR]) ?_;refine ae @jE ?_;exact⟨_,rfl,App.after (Nat.le_refl _),cK.Cc (tk:=.full) (sz:=2) trivial (cK.after (sz:=2) (B:=0) trivial)⟩
 ·obtain⟨h0,h1⟩:=hb rfl;rw[h0,h1];refine ae @jE ?_;exact⟨.nil,rfl,trivial,VH.Ge.refl _⟩
theorem sI (L:List (fz)) (tk:Tok) (O:VH) (hn:L.length<=100000):VF Tryz.prog 117 [.sl L.length (L.flatMap bO) tk] O (aI fun m O'=>m= .sl L.length (L.flatMap bO) .aq/\O.Ge O'):=
 VF.Vy (VA L tk O hn) fun m O' ⟨t,h1,h2,h3⟩=>⟨_,h1▸Wk.tok,rfl,h3⟩
theorem wj (L:List (Gv)) (tk:Tok) (O:VH) (hn:L.length<=100000):VF Tryz.prog 122 [.sl L.length (L.flatMap bL) tk] O (aI fun m O'=>∃t,m= .sl L.length (L.flatMap bL) t/\App O' O.next 3 t/\O.Ge O'):=by
 have dF:=aQ Vw L;refine VF.dh 8 [.tmp 2] Tryz.func122 ?_;refine ao @jE @nE ?_;refine VL.o_ (pR Tryz.underlying222 rfl) ?_;rintro _ O1 ⟨eO,b,rfl,hb⟩;rw[eO];clear eO O1
 refine WL.sound aa ?_;cases b
 ·refine ae @jE ?_;by_cases h0:L.length=0
  ·have hL:L=[]:=List.eq_nil_of_length_eq_zero h0;subst hL;refine VL.app (m:=.sl 0 [] .full) (O':=O) (by simp[gP,xd,AF.1.1]) ?_ (ht:=aa) (hx:=rfl) (hy:=rfl);refine ae @jE ?_;exact⟨.full,rfl,trivial,VH.Ge.refl _⟩
  ·have gJ:(L.flatMap bL).all dz=true:=by
    rw[List.all_flatMap,List.all_eq_true];intro p _;rfl
   have kz:=bo (tk:=.full) (tk':=tk) (B:=O.next) (n:=0) (k:=L.length) (cs:=[]) (ds:=L.flatMap bL) xd AF.1.1 (O:=O) trivial rfl dF gJ (by decide) h0 (by omega) (by simp[maxLen];omega);rw[Nat.zero_add,List.nil_append]at kz;refine VL.k6 kz (by rw[ry,Vx]) ?_;refine ae @jE ?_;exact⟨_,rfl,App.after (Nat.le_refl _),cK.Cc (tk:=.full) (sz:=3) trivial (cK.after (sz:=3) (B:=0) trivial)⟩
 ·obtain⟨h0,h1⟩:=hb rfl;rw[h0,h1];refine ae @jE ?_;exact⟨.nil,rfl,trivial,VH.Ge.refl _⟩
theorem Ev (L:List Dp) (tk:Tok) (O:VH) (hn:L.length<=100000):VF Tryz.prog 115 [.sl L.length (L.flatMap aP) tk] O (aI fun m O'=>O.Ge O'/\GR O' 63 8 O.next m L.length (L.flatMap aP)):=by
 have dF:=aQ fN L
 have gJ:(L.flatMap aP).all dz=true:=by
  rw[List.all_flatMap,List.all_eq_true];intro p _;rfl
 refine VF.dh 8 [.tmp 2] Tryz.func115 ?_;refine ao @jE @nE ?_;refine VL.o_ (pR Tryz.underlying103 rfl) ?_;rintro _ O1 ⟨eO,b,rfl,hb⟩;rw[eO];clear eO O1
 refine WL.sound aa ?_;cases b
 ·refine ae @jE ?_;refine VL.grow aa (.inl rfl) (te:=⟨_,8,_,_⟩) (B:=O.next) (n':=0) (L:=[]) (dx:=.slice 63) (p:=.sl 0 [] .full) (q:=.sl L.length (L.flatMap aP) tk) (j:=L.length) (ds:=L.flatMap aP) (.inl ⟨rfl,rfl,.inr rfl⟩) (by simp[yR,dF]) gJ (by rw[uK];rfl) AE.1.1 (by rw[uK];rfl) trivial (by dsimp only;omega) (by simp only[maxLen];omega) (Nat.le_refl _) rfl rfl rfl rfl ?_;intro m O' h1 h2 h3 h4;rw[Nat.zero_add,List.nil_append]at h1;refine ae @jE ?_;exact⟨h3 rfl,h1⟩
 ·obtain⟨h0,h1⟩:=hb rfl;rw[h0,h1];refine ae @jE ?_;exact⟨VH.Ge.refl _,.inl ⟨rfl,rfl,.inl rfl⟩⟩
theorem AR:laidOutB Tryz.prog=true:=by kernel_rfl
theorem vf:tc Tryz.prog 67 3:=tc.sf AR (by kernel_rfl)
theorem BU:tc Tryz.prog 140 2:=tc.sf AR (by kernel_rfl)
theorem qQ:tc Tryz.prog 30 4:=tc.sf AR (by kernel_rfl)
set_option linter.defProp false in
def BV:=And.intro ei<|And.intro RN<|And.intro T58<|And.intro T94<|And.intro T95<|And.intro RP<|And.intro aeo zj
theorem agG (x:Gv) (O:VH):VF Tryz.prog 63 [.agg (bL x)] O (aI fun m O'=>m= .agg (bO ⟨x.g,x.a⟩)/\O.Ge O'):=by
 obtain⟨g,a,v⟩:=x;have hg:=((VH.Ge.refl O).push (.cells [.str g,.str a,.str v])).push (.cells [.str [],.str []]);unfold bL bO;refine VF.dh 8 [.cell 2 140] Tryz.func63 ?_;refine ae @BV ?_;exact hg.set (Nat.le_succ _) _
def ef (x:Gv):List Bs:=[x.g,x.a,x.v]
def zU (x:fz):List Bs:=[x.g,x.a]
theorem adl (x:Gv):bL x=(ef x).map .str:=rfl
def sJ (x:Gv):Prop:=x.g.length<=maxLen/\x.a.length<=maxLen/\x.v.length<=maxLen
theorem vg {x:Gv} (h:sJ x):∀s∈ef x,s.length<=maxLen:=by
 intro s hs;simp only[ef,List.mem_cons,List.not_mem_nil,or_false]at hs;rcases hs with rfl | rfl | rfl
 ·exact h.1
 ·exact h.2.1
 ·exact h.2.2
structure F1 (O:VH) (k ke kv:Nat) (E:eW) (ce:Nat) (V:eW) (cv:Nat) (r a:Int):Prop where
 cell:O.hp k=some (.cells [.map ke,.map kv,mi r,mi a])
 BW:O.hp ke=some (.map (cx E) ce)
 Hs:O.hp kv=some (.map (cx V) cv)
 LY:nQ 3 E
 vok:nQ 2 V
 ptr:∀p∈E,∃q,p.2.1= .ptr q 0
 lt:k<O.next/\ke<O.next/\kv<O.next
 ne:k≠ke/\k≠kv/\ke≠kv
def AS (E:eW) (x:Gv):Bool:=(iK (ef x) E).isSome
theorem ZZ {E:eW} (h:∀p∈E,∃q,p.2.1=MV.ptr q 0) {l:List Bs} {m:MV} (hl:iK l E=some m):∃q,m= .ptr q 0:=by
 unfold iK at hl;obtain⟨p,h1,rfl⟩:=Option.map_eq_some_iff.1 hl;exact h p (List.mem_of_find?_eq_some h1)
theorem R8 {O:VH} {k ke kv ce cv:Nat} {E V:eW} {r a:Int} (h:F1 O k ke kv E ce V cv r a) (x:Gv) (hx:sJ x):VF Tryz.prog 62 [.ptr k 0,.agg (bL x)] O (aI fun m O'=>m=mb (AS E x)/\O.Ge O'):=by
 have hl:=vg hx;have wK:=h.cell;simp only[au]at wK;unfold AS;rw[adl];generalize hL:ef x=L at*;have ob:L.length=3:=by rw[<-hL];rfl
 obtain⟨g,a',v⟩:=x;have hLc:L.map MV.str=[.str g,.str a',.str v]:=by rw[<-hL];rfl
 rw[hLc];refine VF.bU 16 [.tmp 4] Tryz.func62 ?_;refine VC.ag aa (ae @BV ?_);refine VC.bx ?_;rintro O1 ⟨aU,dL,du⟩;have aiE:=(aU.hp _ h.lt.1).trans wK;have aiF:=(aU.hp _ h.lt.2.1).trans h.BW;refine VC.bA ?_;refine WC.bI (.held []) [(0,.rd),(1,.rd),(2,.rd),(3,.rd),(4,.rd),(5,.rd),(6,.rd),(7,.rd),(8,.rd),(9,.rd),(10,.rd),(11,.rd)] ?_;refine aM @BV @aiE @dL ?_;refine VL.hold (.inr rfl) rfl rfl (fy.lq vf aa (l:=L) (te:=⟨_,1,8,[.v (.pointer none)]⟩) Tryz.underlying94 RP rfl rfl aiF h.LY (by rw[hLc];rfl) ob hl) (WL.sound aa ?_);cases fR:iK L E with
 | none=>
   refine ae @BV ?_;refine WC.sound aa (ae @BV ?_);exact aU
 | some m=>
   obtain⟨p,rfl⟩:=ZZ h.ptr fR;refine ae @BV ?_;refine WC.sound aa (ae @BV ?_);exact aU
section
variable {G H:Gh} {n:Sz} {D:List Deferred} {e e':Env} {a:Act} {P:Program} {tab:bS} {O O':VH} {w:World} {m m':MV} {u v:Value} {ops:Array Oper} {Q:VQ} {md:Md}
def P9 (G:Gh):List Deferred->List (FuncId×List MV)->Prop
 | [],[]=>True
 | d::D,p::ds=>(∃us:List Value,d={target:=.fn (.func p.1) #[],args:=us.toArray}/\aL G p.2 us)/\P9 G D ds
 | _,_=>False
theorem P9.mono (h:G.Le H):∀{D:List Deferred} {ds:List (FuncId×List MV)},P9 G D ds->P9 H D ds
 | [],[],_=>trivial
 | _::_,_::_,⟨⟨us,h1,h2⟩,h3⟩=>⟨⟨us,h1,h2.mono h⟩,h3.mono h⟩
 | [],_::_,h=>h.elim
 | _::_,[],h=>h.elim
def LZ (P:Program):List (FuncId×List MV)->VH->(VH->Prop)->Prop
 | [],O,K=>K O
 | p::ds,O,K=>Enters P p.1/\fM P p.1 p.2 none O fun O'=>LZ P ds O' K
def P_ (P:Program) (fn:Func) (G0:Gh) (K:VH->Prop):Exit->Act->World->Prop:=
 bodyPostD P fn fun x w'=>(∃v,x= .returned v/\v= .tuple #[])/\∃O' H,Gh.Le G0 H/\WR H O' w'/\K O'
def RC (P:Program) (fn:Func) (n:Sz) (ds:List (FuncId×List MV)) (c:Code) (e:Env) (O:VH) (K:VH->Prop):Prop:=
 ∀G0 G D a w,Gh.Le G0 G->P9 G D ds->WR G O w->FR G n D e a->c.wp P (P_ P fn G0 K) a w
theorem BX {fn:Func} {tmps:Array Value} {G0:Gh} {K:VH->Prop} (hr:fn.results= #[]):∀(D:List Deferred) (ds:List (FuncId×List MV)) (G:Gh) (O:VH) (w:World),Gh.Le G0 G->P9 G D ds->WR G O w->LZ P ds O K->
  Leaves P fn tmps (fun x w'=>(∃v,x= .returned v/\v= .tuple #[])/\∃O' H,Gh.Le G0 H/\WR H O' w'/\K O') D .returning w
 | [],[],G,O,w,h0,_,hw,hk=>⟨.tuple #[],by simp[results,hr],⟨_,rfl,rfl⟩,O,G,h0,hw,hk⟩
 | d::D,p::ds,G,O,w,h0,⟨⟨us,ed,iH⟩,hD⟩,hw,⟨hE,hk⟩=>by
   subst ed;refine leaves_cons (f:=p.1) (args:=us.toArray) (by simp) (by simp[invoke,hE us.toArray w]) ((hk G w us .returning hw iH trivial).mono ?_);rintro r u' Fu ⟨⟨v,rfl⟩,hs,O2,K2,q1,q2,q3⟩;dsimp only;rw[hs];exact BX hr D ds K2 O2 Fu (h0.trans q1) (hD.mono q1) q2 q3
 | [],_::_,_,_,_,_,h,_,_=>h.elim
 | _::_,[],_,_,_,_,h,_,_=>h.elim
theorem VF.defs {f:FuncId} {fn:Func} {c:Code} {args:List MV} {K:VH->Prop} {R:MV->VH->Prop} (hf:P.funcs[f]?=some fn) (hb:fn.body=some c) (hr:fn.results= #[]) (hn:args.length<=fn.ntmps)
  (h:RC P fn ⟨fn.ntmps,0⟩ [] c (cc 0 args) O K) (hR:∀O',K O'->R (.tuple []) O'):VF P f args O (aI R):=by
 intro G w vs hw hv;refine(calls_of_wp_defers hf hb (h G G [] _ w (Gh.Le.refl G) trivial hw ?_)).mono ?_
 ·have hl:=hv.1;refine⟨rfl,by simp;omega,fun t x hx=>?_⟩;rw[gT,if_pos (Nat.zero_le _),Nat.sub_zero]at hx;obtain⟨u,h1,h2⟩:=hv.get hx;refine⟨u,?_,h2⟩;have dJ:=(List.getElem?_eq_some_iff.1 h1).1;rw[Array.getElem?_append_left (by simpa using dJ)];simpa using h1
 ·rintro x w' ⟨⟨v,rfl,rfl⟩,O',H,h1,h2,h3⟩;exact⟨.ret (.tuple []),O',H,h1,h2,.tuple (us:=[]) rfl (fun i c u h=>by simp at h),hR _ h3⟩
theorem RC.ag {fn:Func} {ds:List (FuncId×List MV)} {A rest:Code} {K:VH->Prop} (h:∀D,VC P n D A e O fun x e' O'=>match x with
  | .normal=>RC P fn n ds rest e' O' K
  | _=>False):RC P fn n ds (.seq A rest) e O K:=by
 intro G0 G D a w h0 hD hw hf;refine wp_seq (wp_mono (h D G a w hw hf) ?_);rintro y a1 w1 ⟨x,e',O',H,g1,g2,g3,g4,g5⟩
 cases y<;>cases x<;>first
  | exact False.elim g4
  | exact g5.elim
  | skip
 exact g5 G0 H D a1 w1 (h0.trans g1) (hD.mono g1) g2 g3
theorem RC.fin {fn:Func} {ds:List (FuncId×List MV)} {A:Code} {K:VH->Prop} (hr:fn.results= #[]) (h:∀D,VC P n D A e O fun x e' O'=>match x with
  | .normal=>LZ P ds O' K
  | .ret=>LZ P ds O' K
  | _=>False):RC P fn n ds A e O K:=by
 intro G0 G D a w h0 hD hw hf;refine wp_mono (h D G a w hw hf) ?_;rintro y a1 w1 ⟨x,e',O',H,g1,g2,g3,g4,g5⟩
 have fin:FR H n D e' a1->LZ P ds O' K->Leaves P fn a1.tmps (fun x w'=>(∃v,x= .returned v/\v= .tuple #[])/\∃O' H,Gh.Le G0 H/\WR H O' w'/\K O') a1.defers .returning w1:=fun aT hk=>by
  rw[aT.defers];exact BX hr D ds H O' w1 (h0.trans g1) (hD.mono g1) g2 hk
 cases y<;>cases x<;>first
  | exact False.elim g4
  | exact g5.elim
  | exact fin g3 g5
theorem RC.cond {fn:Func} {ds:List (FuncId×List MV)} {c:Operand} {x y:Code} {K:VH->Prop} {t:Bool} (hc:ev e c=some (mb t)) (h:RC P fn n ds (if t then x else y) e O K):RC P fn n ds (.cond c x y) e O K:=by
 intro G0 G D a w h0 hD hw hf;have hv:=hf.ev hc;generalize hx:a.eval c=u at hv;have:=VR.ie hv;subst this;exact wp_cond hx (h G0 G D a w h0 hD hw hf)
def RO (P:Program) (fn:Func) (n:Sz) (ds:List (FuncId×List MV)) (ops:Array Oper) (rest:Code) (l:List Nat) (e:Env) (O:VH) (K:VH->Prop):Prop:=
 ∀G0 G D a w,Gh.Le G0 G->P9 G D ds->WR G O w->FR G n D e a->wpOps P ops (Exit.then (rest.wp P (P_ P fn G0 K)) (P_ P fn G0 K)) l a w
theorem RC.region {fn:Func} {ds:List (FuncId×List MV)} {id:Nat} {rest:Code} {K:VH->Prop} (l:List Nat) (hl:List.range ops.size=l) (h:RO P fn n ds ops rest l e O K):RC P fn n ds (.seq (.region id ops false) rest) e O K:=by
 subst hl;intro G0 G D a w h0 hD hw hf;exact wp_seq (wp_region (h G0 G D a w h0 hD hw hf))
theorem RO.step (ht:aJ P tab) {fn:Func} {ds:List (FuncId×List MV)} {rest:Code} {K:VH->Prop} {i:Nat} {l:List Nat} {o:Oper} (ho:ops[i]?=some o) (hg:aK ops o e=some true) (hv:cQ tab o e O=some (m,O')) (hd:bf n o.dst=true) (h:RO P fn n ds ops rest l (aV o.dst m e) O' K):
  RO P fn n ds ops rest (i::l) e O K:=by
 intro G0 G D a w h0 hD hw aT;obtain⟨nx,w',H,u,hr,r9,h1,h2,h3,_⟩:=Cy (P:=P) ht hw aT hv;rw[wpOps_cons];simp only[wpOp,ho,a_ aT hg,if_true];refine .inl ?_;unfold Oper.wp;rw[hr];have:=h G0 H D (a.put o.dst u) w' (h0.trans h1) (hD.mono h1) h2 ((aT.mono h1).aV hd h3);rcases r9 with rfl | ⟨rfl,rfl⟩<;>exact this
theorem RO.o1 {fn:Func} {ds:List (FuncId×List MV)} {rest:Code} {K:VH->Prop} {i:Nat} {l:List Nat} {lo:List Oper} {o:Oper} (h:zb (fun m O'=>RO P fn n ds ⟨lo⟩ rest l (aV o.dst m e) O' K) (cQ tab o e O)) (ht:aJ P tab:=by exact aa) (ho:lo[i]?=some o:=by exact rfl) (hg:aK ⟨lo⟩ o e=some true:=by exact rfl) (hd:bf n o.dst=true:=by exact rfl):
  RO P fn n ds ⟨lo⟩ rest (i::l) e O K:=by
 generalize hv:cQ tab o e O=v at h;cases v with
 | none=>exact h.elim
 | some p=>exact RO.step ht (by simpa using ho) hg hv hd h
theorem RO.defer {fn:Func} {ds:List (FuncId×List MV)} {rest:Code} {K:VH->Prop} {i:Nat} {g:FuncId} {as_:Array Operand} {ts:Array TypeId} {ty:TypeId} {ps:String} {af:Array Edge} {ms:List MV} (ho:ops[i]?=some (.mk none (.defer {callee:=.value (.func g),args:=as_,argTypes:=ts}) ty ps af none)) (hm:fu e as_.toList=some ms)
  (h:RC P fn n ((g,ms)::ds) rest e O K):RO P fn n ds ops rest [i] e O K:=by
 intro G0 G D a w h0 hD hw aT;have iH:=aT.fu hm;have ha:as_.map a.eval=(as_.toList.map a.eval).toArray:=by apply Array.ext';simp
 have bW:(execOp a.eval (.mk none (.defer {callee:=.value (.func g),args:=as_,argTypes:=ts}) ty ps af none)).run P w= .ok (.defer {target:=.fn (.func g) #[],args:=(as_.toList.map a.eval).toArray}) w:=by
  simp only[<-ha];simp[execOp,resolve,Act.eval,Deferred.ofValue]
 rw[wpOps_cons];simp only[wpOp,ho];rw[if_pos (by simp[Region.wanted])];refine .inl ?_;unfold Oper.wp;rw[bW,Oper.upon_defer];simp only[wpOps,Exit.then];exact h G0 G ({target:=.fn (.func g) #[],args:=(as_.toList.map a.eval).toArray}::D) _ w h0 ⟨⟨_,rfl,iH⟩,hD⟩ hw ⟨by show _::a.defers=_;rw[aT.defers],aT.size,aT.get⟩
theorem fM.mono {f:FuncId} {args:List MV} {x:Option MV} {K K':VH->Prop} (h:fM P f args x O K) (hk:∀O',K O'->K' O'):fM P f args x O K':=fun G w vs u hw hv hu=>(h G w vs u hw hv hu).mono fun r u' w' ⟨h1,h2,O',H,h3,h4,h5⟩=>⟨h1,h2,O',H,h3,h4,hk _ h5⟩
theorem fM.FM (ht:aJ P tab) {f:FuncId} {fn:Func} {c:Code} {args:List MV} {K:VH->Prop} (hf:P.funcs[f]?=some fn) (hb:fn.body=some c) (hr:fn.results= #[]) (hn:args.length<=fn.ntmps) (hk:(⟨fn.ntmps,0⟩:Sz)=n) (h:VC P n [] c (cc 0 args) O (BH tab [] (aI fun _ O'=>K O'))):fM P f args none O K:=by
 subst hk;intro G w vs u hw hv hu
 have CR:settle u= .returning:=by
  cases u<;>first
   | rfl
   | exact hu.elim
 have hl:=hv.1;refine(callsD_of_wp (R:=fun x w'=>(∃v,x= .returned v)/\∃O' H,Gh.Le G H/\WR H O' w'/\K O') hf hb (wp_mono (h G _ w hw ?_) ?_)).mono ?_
 ·refine⟨rfl,by simp;omega,fun t x hx=>?_⟩;rw[gT,if_pos (Nat.zero_le _),Nat.sub_zero]at hx;obtain⟨u,h1,h2⟩:=hv.get hx;refine⟨u,?_,h2⟩;have dJ:=(List.getElem?_eq_some_iff.1 h1).1;rw[Array.getElem?_append_left (by simpa using dJ)];simpa using h1
 ·rintro y a1 w1 ⟨x,e',O',H,g1,g2,g3,g4,g5⟩
  have fin:FR H ⟨fn.ntmps,0⟩ [] e' a1->K O'->bodyPost P fn (fun x w'=>(∃v,x= .returned v)/\∃O' H,Gh.Le G H/\WR H O' w'/\K O') .normal a1 w1:=fun aT hk=>
   ⟨aT.defers,.tuple #[],by simp[results,hr],⟨_,rfl⟩,O',H,g1,g2,hk⟩
  cases y<;>cases x<;>first
   | exact False.elim g4
   | exact fin g3 g5
   | exact g5.elim
 ·rintro r u' w' ⟨rfl,h1,h2⟩;exact⟨h1,CR,h2⟩
end
section
variable {G:Gh} {O O':VH} {w:World} {P:Program}
theorem WR.cellAt {k off:Nat} {cs:List MV} {x:Value} (h:WR G O w) (hk:O.hp k=some (.cells cs)) (hc:cs[off]?=some (.v x)):∃b,G.bD k=some b/\w.cell? ⟨b,off,none⟩=some x/\w.frozen? ⟨b,off,none⟩=false:=by
 obtain⟨b,C,T,e1,e2,e3⟩:=h.cells k cs hk;obtain⟨v,qd,Fm⟩:=e3.get hc;cases Fm with
 | v _=>
   refine⟨b,e1,?_,?_⟩
   ·have dJ:off<cs.length:=(List.getElem?_eq_some_iff.1 hc).1;rw[List.getElem?_take_of_lt dJ]at qd;simp only[World.cell?,e2,Option.isSome_none,Bool.false_eq_true,if_false];simpa using qd
   ·have hlen:off<C.size:=by
     have:=(List.getElem?_eq_some_iff.1 qd).1;simp at this;omega
    obtain⟨t',⟨lo,hi⟩,b_⟩:=T;dsimp only at e2 b_;simp only[World.frozen?,e2,Bool.and_eq_false_imp,decide_eq_true_eq,decide_eq_false_iff_not];intro;omega
theorem eb.mem {f:FuncId} {ms:List MV} {m:MV} (hr:∀G w vs,WR G O w->aL G ms vs->∃u w',(callFunc f vs.toArray).run P w= .ok (.value u) w'/\WR G O' w'/\VR G m u):eb P f ms O fun m' lP=>m'=m/\lP=O':=by
 intro G w vs hw hv;obtain⟨u,w',h1,h2,h3⟩:=hr G w vs hw hv;exact⟨m,O',u,w',G,⟨rfl,rfl⟩,h1,Gh.Le.refl G,h2,h3⟩
theorem VR.zV:VR G (.tuple []) (.tuple #[]):=.tuple (us:=[]) rfl (fun i c u h=>by simp at h)
theorem aL.one {x:MV} {vs:List Value} (h:aL G [x] vs):∃u,vs=[u]/\VR G x u:=by
 obtain⟨u,us,rfl,g1,g2⟩:=h.dZ;rw[g2.gL];exact⟨u,rfl,g1⟩
theorem aL.Z0 {k o:Nat} {vs:List Value} (h:aL G [.ptr k o] vs):∃b,vs=[.pointer (some ⟨b,o,none⟩)]/\G.bD k=some b:=by
 obtain⟨u,rfl,g1⟩:=h.one;cases g1 with
 | ptr h4=>exact⟨_,rfl,h4⟩
theorem aL.Z1 {k o:Nat} {x:Value} {vs:List Value} (h:aL G [.ptr k o,.v x] vs):∃b,vs=[.pointer (some ⟨b,o,none⟩),x]/\G.bD k=some b:=by
 obtain⟨u,us,rfl,g1,g2⟩:=h.dZ;obtain⟨u2,rfl,g3⟩:=g2.one;have:=g3.ie;subst this;cases g1 with
 | ptr h4=>exact⟨_,rfl,h4⟩
theorem aL.aiG {k o:Nat} {x y:Value} {vs:List Value} (h:aL G [.ptr k o,.v x,.v y] vs):∃b,vs=[.pointer (some ⟨b,o,none⟩),x,y]/\G.bD k=some b:=by
 obtain⟨u,us,rfl,g1,g2⟩:=h.dZ;obtain⟨u2,us2,rfl,g3,g4⟩:=g2.dZ;obtain⟨u3,rfl,g5⟩:=g4.one;have e1:=g3.ie;have e2:=g5.ie;subst e1;subst e2
 cases g1 with
 | ptr h4=>exact⟨_,rfl,h4⟩
end
theorem vh (O:VH):eb Tryz.prog 277 [] O fun m O'=>m= .tuple []/\O'=O:=
 eb.mem fun G w vs hw hv=>by
  rw[hv.gL];exact⟨_,w,run_call_mark0 Tryz.func277 (by kernel_rfl) (by kernel_rfl) (by kernel_rfl) .disable (by kernel_rfl) w,hw,VR.zV⟩
theorem xi (O:VH):eb Tryz.prog 279 [] O fun m O'=>m= .tuple []/\O'=O:=
 eb.mem fun G w vs hw hv=>by
  rw[hv.gL];exact⟨_,w,run_call_mark0 Tryz.func279 (by kernel_rfl) (by kernel_rfl) (by kernel_rfl) .enable (by kernel_rfl) w,hw,VR.zV⟩
theorem Ew (k o:Nat) (O:VH):eb Tryz.prog 280 [.ptr k o] O fun m O'=>m= .tuple []/\O'=O:=
 eb.mem fun G w vs hw hv=>by
  obtain⟨b,rfl,hp⟩:=hv.Z0;exact⟨_,w,run_call_marked Tryz.func280 (by kernel_rfl) (by kernel_rfl) (by kernel_rfl) .acquire (by kernel_rfl) _ w,hw,VR.zV⟩
theorem Ck (k o:Nat) (O:VH):eb Tryz.prog 282 [.ptr k o] O fun m O'=>m= .tuple []/\O'=O:=
 eb.mem fun G w vs hw hv=>by
  obtain⟨b,rfl,hp⟩:=hv.Z0;exact⟨_,w,run_call_marked Tryz.func282 (by kernel_rfl) (by kernel_rfl) (by kernel_rfl) .releaseMerge (by kernel_rfl) _ w,hw,VR.zV⟩
section
variable {O:VH} {k off:Nat} {cs:List MV}
theorem L3 {x:Int} (y:Int) (hk:O.hp k=some (.cells cs)) (hc:cs[off]?=some (.v (.int .i64 x))):eb Tryz.prog 207 [.ptr k off,.v (.int .i64 y)] O fun m O'=>m= .v (.int .i64 (IntKind.i64.wrap (x+y)))/\O'=O.set k (.cells (cs.set off (.v (.int .i64 (IntKind.i64.wrap (x+y)))))):=
 eb.mem fun G w vs hw hv=>by
  obtain⟨b',h1,h2,h3⟩:=hw.cellAt hk hc;obtain⟨b,rfl,hp⟩:=hv.Z1;rw[h1]at hp;injection hp with hp;subst hp
  exact⟨_,_,run_call_add Tryz.func207 (by kernel_rfl) (by kernel_rfl) (by kernel_rfl) .i64 (by kernel_rfl) h2 h3 rfl,hw.store hk h1 (List.getElem?_eq_some_iff.1 hc).1 (.v rfl),.v rfl⟩
theorem L4 {x:Int} (y:Int) (hk:O.hp k=some (.cells cs)) (hc:cs[off]?=some (.v (.int .i32 x))):eb Tryz.prog 283 [.ptr k off,.v (.int .i32 y)] O fun m O'=>m= .v (.int .i32 (IntKind.i32.wrap (x+y)))/\O'=O.set k (.cells (cs.set off (.v (.int .i32 (IntKind.i32.wrap (x+y)))))):=
 eb.mem fun G w vs hw hv=>by
  obtain⟨b',h1,h2,h3⟩:=hw.cellAt hk hc;obtain⟨b,rfl,hp⟩:=hv.Z1;rw[h1]at hp;injection hp with hp;subst hp
  exact⟨_,_,run_call_add Tryz.func283 (by kernel_rfl) (by kernel_rfl) (by kernel_rfl) .i32 (by kernel_rfl) h2 h3 rfl,hw.store hk h1 (List.getElem?_eq_some_iff.1 hc).1 (.v rfl),.v rfl⟩
theorem Qa {x:Int} (hk:O.hp k=some (.cells cs)) (hc:cs[off]?=some (.v (.int .u32 x))):eb Tryz.prog 240 [.ptr k off] O fun m O'=>m= .v (.int .u32 x)/\O'=O:=
 eb.mem fun G w vs hw hv=>by
  obtain⟨b',h1,h2,h3⟩:=hw.cellAt hk hc;obtain⟨b,rfl,hp⟩:=hv.Z0;rw[h1]at hp;injection hp with hp;subst hp
  exact⟨_,_,run_call_load Tryz.func240 (by kernel_rfl) (by kernel_rfl) (by kernel_rfl) .u32 (by kernel_rfl) h2,hw,.v rfl⟩
theorem L5 {x:Int} (y:Int) (hk:O.hp k=some (.cells cs)) (hc:cs[off]?=some (.v (.int .u32 x))):eb Tryz.prog 260 [.ptr k off,.v (.int .u32 y)] O fun m O'=>m= .tuple []/\O'=O.set k (.cells (cs.set off (.v (.int .u32 y)))):=
 eb.mem fun G w vs hw hv=>by
  obtain⟨b',h1,h2,h3⟩:=hw.cellAt hk hc;obtain⟨b,rfl,hp⟩:=hv.Z1;rw[h1]at hp;injection hp with hp;subst hp
  exact⟨_,_,run_call_store Tryz.func260 (by kernel_rfl) (by kernel_rfl) (by kernel_rfl) (by kernel_rfl) h2 h3,hw.store hk h1 (List.getElem?_eq_some_iff.1 hc).1 (.v rfl),VR.zV⟩
theorem VB {x y:Int} (hk:O.hp k=some (.cells cs)) (hc:cs[off]?=some (.v (.int .i32 x))):eb Tryz.prog 278 [.ptr k off,.v (.int .i32 x),.v (.int .i32 y)] O fun m O'=>m= .v (.bool true)/\O'=O.set k (.cells (cs.set off (.v (.int .i32 y)))):=
 eb.mem fun G w vs hw hv=>by
  obtain⟨b',h1,h2,h3⟩:=hw.cellAt hk hc;obtain⟨b,rfl,hp⟩:=hv.aiG;rw[h1]at hp;injection hp with hp;subst hp
  exact⟨_,_,run_call_cas_hit Tryz.func278 (by kernel_rfl) (by kernel_rfl) (by kernel_rfl) .i32 (by kernel_rfl) h2 h3,hw.store hk h1 (List.getElem?_eq_some_iff.1 hc).1 (.v rfl),.v rfl⟩
end
section
variable {P:Program} {tab:bS} {n:Sz} {D:List Deferred} {md:Md} {ops:Array Oper} {Q:VQ} {e:Env} {O:VH}
theorem VL.aeP (ht:aJ P tab) {d:Option Tmp} {x:Operand} {src dst ty el:TypeId} {ps:String} {af:Array Edge} {g:Option (Nat×Bool)} {L:List (Fl×Oper)} {k off:Nat} {cs:List MV} {y:Value} {te:cn} (hmd:md= .plain\/md= .any)
  (hs:(tab src).map cn.under=some (.pointer el)) (KA:(tab dst).map cn.under=some .unsafePointer) (he:tab el=some te) (hz:te.size≠0) (hk:O.hp k=some (.cells cs)) (hc:cs[off]?=some (.v y))
  (hx:ev e x=some (.ptr k off)) (hg:aK ops (.mk d (.convert src dst x) ty ps af g) e=some true) (hd:bf n d=true) (h:WL P tab n D md ops Q L (aV d (.ptr k off) e) O):
  VL P n D md ops ((.one,.mk d (.convert src dst x) ty ps af g)::L) e O Q:=by
 refine VL.o_ (M:=fun m O'=>m= .ptr k off/\O'=O) (fun G a w hw hf=>?_) (by rintro m O' ⟨rfl,rfl⟩;exact WL.sound ht h) (hmd:=hmd) (hg:=hg) (hd:=hd);have mJ:=hf.ev hx;generalize oc:a.eval x=u at mJ;cases mJ with
 | ptr hp=>
   rename_i b;obtain⟨ti,z,i1,i2,_⟩:=(ht _ te he).info;obtain⟨b2,s1,s2,_⟩:=hw.cellAt hk hc;rw[hp]at s1;injection s1 with s1;subst s1
   have hr:=run_convert_to_unsafe (P:=P) (w:=w) (bq ht hs) (bq ht KA) (by rw[i1,Option.map_some,decide_eq_false (by rw[i2];exact hz)]) s2;exact⟨_,_,_,w,G,⟨rfl,rfl⟩,by simp[execOp,oc,hr],Gh.Le.refl G,hw,.ptr hp⟩
theorem fC.ext {o:Oper} {c:Call} {x:Operand} {id:FuncId} {ms:List MV} {M:MV->VH->Prop} (ui:o.op= .call c) (hc:c.callee= .value x) (hf:ev e x=some (.func (.func id) [] [])) (hm:fu e c.args.toList=some ms) (hx:eb P id ms O M):fC P n D o e O M:=by
 intro G a w hw aT;have uj:=aT.ev hf;generalize Ax:a.eval x=fv at uj;cases uj with
 | func h1 h2 h3 h4=>
   rename_i us vs;have iH:us=[]:=List.eq_nil_of_length_eq_zero h1;have nO:vs=[]:=List.eq_nil_of_length_eq_zero h3;subst iH;subst nO
   have gI:=aT.fu hm;obtain⟨m,O',u,w',H,hM,hr,g1,g2,g3⟩:=hx G w _ hw gI;refine⟨m,O',u,w',H,hM,?_,g1,g2,g3⟩;have ha: #[]++c.args.map a.eval++ #[]=(c.args.toList.map a.eval).toArray:=by apply Array.ext';simp
   simp only[execOp,ui,resolve,hc,Ax,Deferred.ofValue,Sem.run_bind,Sem.run_pure,Result.andThen_ok,invoke];rw[ha];exact hr
end
set_option linter.defProp false in
def db:=And.intro aem<|And.intro ah7<|And.intro ahM<|And.intro ah_<|And.intro Y9<|And.intro ahN<|And.intro aid<|And.intro Zb<|And.intro ahL<|And.intro Pu<|And.intro aii<|And.intro aia<|And.intro ah8<|And.intro T2<|And.intro ahO<|And.intro ah9 G9
section
variable {O:VH} {k off:Nat} {cs:List MV}
theorem Ex {x:Int} (y:Int) (hk:O.hp k=some (.cells cs)) (hc:cs[off]?=some (.v (.int .i64 x))):VF Tryz.prog 179 [.ptr k off,.v (.int .i64 y)] O (aI fun m O'=>m= .v (.int .i64 (IntKind.i64.wrap (x+y)))/\O'=O.set k (.cells (cs.set off (.v (.int .i64 (IntKind.i64.wrap (x+y))))))):=by
 refine VF.dh 10 [.tmp 4] Tryz.func179 ?_;refine ae @db ?_;refine ah.ext (L3 y hk hc) rfl ?_;rintro _ O2 ⟨rfl,rfl⟩;exact fe @db
theorem L6 {x:Int} (hk:O.hp k=some (.cells cs)) (hc:cs[off]?=some (.v (.int .u32 x))):VF Tryz.prog 222 [.ptr k off] O (aI fun m O'=>m=mb (x != 0)/\O'=O):=by
 refine VF.dh 8 [.tmp 2] Tryz.func222 ?_;refine ae @db ?_;refine ah.ext (Qa hk hc) rfl ?_;rintro _ O2 ⟨rfl,rfl⟩;exact fe @db
theorem agH (b:Bool) (O:VH):VF Tryz.prog 261 [mb b] O (aI fun m O'=>m= .v (.int .u32 (if b then 1 else 0))/\O'=O):=by
 refine VF.dh 4 [.tmp 2] Tryz.func261 ?_;cases b
 ·exact fe @db
 ·exact fe @db
theorem VD {x:Int} (b:Bool) (hk:O.hp k=some (.cells cs)) (hc:cs[off]?=some (.v (.int .u32 x))):fM Tryz.prog 243 [.ptr k off,mb b] none O (fun O'=>O'=O.set k (.cells (cs.set off (.v (.int .u32 (if b then 1 else 0)))))):=by
 refine fM.FM aa (n:=⟨10,0⟩) Tryz.func243 rfl rfl (Nat.le_of_ble_eq_true rfl) rfl ?_;simp only[cc,Nat.zero_add,Nat.reduceAdd];refine VC.oe [5] ?_;refine ab.av 0 ?_;refine ae @db ?_;refine ab.av 1 ?_;refine ae @db ?_;refine ab.av 2 ?_;refine ae @db ?_;refine ab.av 3 ?_;refine ae @db ?_;refine ab.call (i:=4) (agH b O) ?_;rintro _ O2 ⟨rfl,eO⟩;simp only[aj];rw[eO];clear eO O2
 refine⟨VH.Ge.refl _,ab.fin (by kernel_rfl) (bX.st (i:=5) rfl (by kernel_rfl) rfl rfl (fC.ext rfl rfl rfl rfl (L5 _ hk hc)) ?_)⟩;rintro m O2 ⟨rfl,rfl⟩;refine bX.done (by kernel_rfl) ?_;refine ae @db ?_;trivial
theorem Z2 (hk:O.hp k=some (.cells cs)) (hc:cs[off]?=some (.v (.int .i32 0))):VF Tryz.prog 258 [.ptr k off] O (aI fun m O'=>O'=O.set k (.cells (cs.set off (.v (.int .i32 1))))):=by
 have hl:off<cs.length:=(List.getElem?_eq_some_iff.1 hc).1;refine VF.bU 13 [] Tryz.func258 ?_;refine VC.ag aa (ae @db ?_);refine ah.ext (vh _) rfl ?_;rintro _ O2 ⟨rfl,rfl⟩;refine ae @db ?_;refine VC.ag aa (ae @db ?_);refine ah.ext (VB (y:=1) hk hc) rfl ?_;rintro _ O2 ⟨rfl,eO⟩;have bN:O2.hp k=some (.cells (cs.set off (.v (.int .i32 1)))):=by rw[eO];exact VH.an _ _ _
 have iY:(cs.set off (.v (.int .i32 1)))[off]?=some (.v (.int .i32 1)):=by rw[List.getElem?_set_self hl]
 refine ae @db ?_;refine ah.ext (xi _) rfl ?_;rintro _ O3 ⟨rfl,F2⟩;rw[F2];clear F2 O3
 refine ae @db ?_;refine VL.aeP aa (.inl rfl) (el:=132) (by rw[Zb];rfl) (by rw[G9];rfl) Y9.1.1 (by decide) bN iY rfl rfl rfl ?_;refine ae @db ?_;refine ah.ext (Ew _ _ _) rfl ?_;rintro _ O4 ⟨rfl,oP⟩;rw[oP];clear oP O4
 refine ae @db ?_;exact eO
theorem adm (hk:O.hp k=some (.cells cs)) (hc:cs[off]?=some (.v (.int .i32 0))):VF Tryz.prog 241 [.ptr k off] O (aI fun m O'=>O'=O.set k (.cells (cs.set off (.v (.int .i32 1))))):=by
 refine VF.dh 6 [] Tryz.func241 ?_;refine ae @db ?_;refine ah.rt (Z2 hk hc) ?_;rintro _ O2 e2;refine ae @db ?_;exact e2
theorem Qb (hk:O.hp k=some (.cells cs)) (hc:cs[off]?=some (.v (.int .i32 1))):VF Tryz.prog 259 [.ptr k off] O (aI fun m O'=>O'=O.set k (.cells (cs.set off (.v (.int .i32 0))))):=by
 have hl:off<cs.length:=(List.getElem?_eq_some_iff.1 hc).1;refine VF.bU 21 [] Tryz.func259 ?_;refine VC.ag aa (aM @db @hk @hc ?_);refine VL.aeP aa (.inl rfl) (el:=132) (by rw[Zb];rfl) (by rw[G9];rfl) Y9.1.1 (by decide) hk hc rfl rfl rfl ?_;refine ae @db ?_;refine ah.ext (Ck _ _ _) rfl ?_;rintro _ O2 ⟨rfl,F3⟩;rw[F3];clear F3 O2
 refine ae @db ?_;refine ah.ext (vh _) rfl ?_;rintro _ O2 ⟨rfl,F3⟩;rw[F3];clear F3 O2
 refine ae @db ?_;refine VC.ag aa (ae @db ?_);refine ah.ext (L4 (-1) hk hc) rfl ?_;rintro _ O2 ⟨rfl,eO⟩;refine ao @db (show IntKind.i32.wrap (1+ -1)=0 from rfl) ?_;refine VC.ag aa (ae @db ?_);refine WC.sound aa (ae @db ?_);refine ah.ext (xi _) rfl ?_;rintro _ O3 ⟨rfl,F2⟩;rw[F2];clear F2 O3
 refine ae @db ?_;exact eO
theorem VE (hk:O.hp k=some (.cells cs)) (hc:cs[off]?=some (.v (.int .i32 1))):fM Tryz.prog 242 [.ptr k off] none O (fun O'=>O'=O.set k (.cells (cs.set off (.v (.int .i32 0))))):=by
 refine fM.FM aa (n:=⟨6,0⟩) Tryz.func242 rfl rfl (Nat.le_of_ble_eq_true rfl) rfl ?_;simp only[cc,Nat.zero_add,Nat.reduceAdd];refine WC.sound aa (ae @db ?_);refine ah.rt (Qb hk hc) ?_;rintro _ O2 e2;refine ae @db ?_;exact e2
theorem VG {g:FuncId} {xs:List MV} {Φ :VH->Prop} (hk:O.hp k=some (.cells cs)) (h0:cs[off]?=some (.v (.int .u32 0))) (h1:cs[off+1]?=some (.v (.int .i32 0))) (hg:di Tryz.prog g=true)
  (hC:VF Tryz.prog g xs (O.set k (.cells (cs.set (off+1) (.v (.int .i32 1))))) (aI fun _ O'=> Φ O'))
  (hΦ :∀O', Φ O'->∃cs',O'.hp k=some (.cells cs')/\cs'[off]?=some (.v (.int .u32 0))/\cs'[off+1]?=some (.v (.int .i32 1))):
  VF Tryz.prog 223 [.ptr k off,.func (.func g) [] xs] O (aI fun _ O'=>∃O1 cs', Φ O1/\O1.hp k=some (.cells cs')/\O'=O1.set k (.cells ((cs'.set off (.v (.int .u32 1))).set (off+1) (.v (.int .i32 0))))):=by
 refine VF.defs (K:=fun O'=>∃O1 cs', Φ O1/\O1.hp k=some (.cells cs')/\O'=O1.set k (.cells ((cs'.set off (.v (.int .u32 1))).set (off+1) (.v (.int .i32 0))))) Tryz.func223 rfl rfl (Nat.le_of_ble_eq_true rfl) ?_ (fun O' h=>h);show RC _ _ ⟨21,0⟩ _ _ _ _ _;simp only[cc,Nat.zero_add,Nat.reduceAdd];refine RC.ag fun D=>?_
 refine WC.sound aa (ae @db ?_);refine ah.rt (adm hk h1) ?_;rintro _ O2 e2;have bN:O2.hp k=some (.cells (cs.set (off+1) (.v (.int .i32 1)))):=by rw[e2];exact VH.an _ _ _
 refine ae @db ?_;refine RC.region [0,1,2,3] rfl ?_;refine RO.o1 ?_;refine ae @db ?_;refine RO.o1 ?_;refine ae @db ?_;refine RO.o1 ?_;refine ae @db ?_;refine RO.defer rfl rfl ?_;refine RC.ag fun D=>?_
 have h02:(cs.set (off+1) (.v (.int .i32 1)))[off]?=some (.v (.int .u32 0)):=by rw[List.getElem?_set_ne (by omega)];exact h0
 refine WC.sound aa (ae @db ?_);refine ah.rt (L6 bN h02) ?_;rintro _ O3 ⟨rfl,eO⟩;rw[eO];clear eO O3
 refine ae @db ?_;refine RC.cond (t:=true) rfl ?_;rw[if_pos rfl];refine RC.region [0,1,2,3] rfl ?_;refine RO.o1 ?_;refine ae @db ?_;refine RO.o1 ?_;refine ae @db ?_;refine RO.o1 ?_;refine ae @db ?_;refine RO.defer rfl rfl ?_;refine RC.fin rfl fun D=>?_
 rw[e2];refine WC.sound aa (ae @db ?_);refine ah.rt hC ?_ (hb:=hg);rintro m O3 Ce;obtain⟨cs',dG,h3,h4⟩:=hΦ O3 Ce;have mY:off<cs'.length:=(List.getElem?_eq_some_iff.1 h3).1;refine ae @db ?_;refine⟨Enters.sf (by kernel_rfl),(VD true dG h3).mono fun O4 e4=>?_⟩;have kU:O4.hp k=some (.cells (cs'.set off (.v (.int .u32 1)))):=by rw[e4];exact VH.an _ _ _
 have h44:(cs'.set off (.v (.int .u32 1)))[off+1]?=some (.v (.int .i32 1)):=by rw[List.getElem?_set_ne (by omega)];exact h4
 refine⟨Enters.sf (by kernel_rfl),(VE kU h44).mono fun O5 e5=>?_⟩;refine⟨O3,cs',Ce,dG,?_⟩;rw[e5,e4];exact VH.set_set _ _ _ _
theorem aiH {g:FuncId} {xs:List MV} {Φ :VH->Prop} (hk:O.hp k=some (.cells cs)) (h0:cs[off]?=some (.v (.int .u32 0))) (h1:cs[off+1]?=some (.v (.int .i32 0))) (hg:di Tryz.prog g=true)
  (hC:VF Tryz.prog g xs (O.set k (.cells (cs.set (off+1) (.v (.int .i32 1))))) (aI fun _ O'=> Φ O'))
  (hΦ :∀O', Φ O'->∃cs',O'.hp k=some (.cells cs')/\cs'[off]?=some (.v (.int .u32 0))/\cs'[off+1]?=some (.v (.int .i32 1))):
  VF Tryz.prog 198 [.ptr k off,.func (.func g) [] xs] O (aI fun _ O'=>∃O1 cs', Φ O1/\O1.hp k=some (.cells cs')/\O'=O1.set k (.cells ((cs'.set off (.v (.int .u32 1))).set (off+1) (.v (.int .i32 0))))):=by
 refine VF.bU 12 [] Tryz.func198 ?_;refine VC.ag aa (ae @db ?_);refine ah.rt (L6 hk h0) ?_;rintro _ O3 ⟨rfl,eO⟩;rw[eO];clear eO O3
 refine ae @db ?_;refine WC.sound aa (ae @db ?_);refine ah.rt (VG hk h0 h1 hg hC hΦ) ?_;rintro m O3 h3;refine ae @db ?_;exact h3
end
structure Rec where
 b:Nat
 off:Nat
 name:Bs
 attrs:List (Bs×Bs)
 kids:List Nd
 q:MV
def iu (r:Rec):List MV:=[.str r.name,.sl r.attrs.length (r.attrs.flatMap aZ) .aq,r.q,.str []]
theorem rL (r:Rec):(iu r).length=4:=rfl
def ow (O:VH) (B k:Nat):List Rec->Prop
 | []=>True
 | [r]=>r.b=k/\r.off=0
 | r::p::rest=>(∃c,p.q= .bk r.b 0 (p.kids.length+1) c/\p.kids.length+1<=c/\Row O 112 4 B r.b c (ax p.kids++iu r))/\r.off=p.kids.length*4/\p.b<r.b/\ow O B k (p::rest)
def aiI (O:VH) (B:Nat):List Rec->Prop
 | []=>True
 | r::_=>GR O 112 4 B r.q r.kids.length (ax r.kids)/\∀i,gid r.q=some i->r.b<i
def ox:List Rec->List MV->List MV
 | [],z=>z
 | [r],_=>iu r
 | _::r::R,z=>ox (r::R) z
def gj (R:List Rec):List MV:=(R.map fun r=>MV.ptr r.b r.off).reverse
theorem qw (r:Rec) (R:List Rec):(gj (r::R))=gj R++[.ptr r.b r.off]:=by unfold gj;simp
theorem kA (R:List Rec):(gj R).length=R.length:=by unfold gj;simp
theorem ez:∀(R:List Rec) (z:List MV),z.length=4->(ox R z).length=4
 | [],z,h=>h
 | [r],_,_=>rfl
 | _::r::R,z,h=>ez (r::R) z h
structure BC (O:VH) (B k:Nat) (R:List Rec) (z tl:List MV):Prop where
 lt:k<B
 le:B<=O.next
 cells:O.hp k=some (.cells (ox R z++tl))
 zl:z.length=4
 chain:ow O B k R
 top:aiI O B R
def Kp (O O':VH) (S:List Nat):Prop:=O.next<=O'.next/\∀i,i<O.next->i ∉ S->O'.hp i=O.hp i
def AT (O:VH) (S:List Nat):Prop:=∀x∈S,∀j t n,O.hp x≠some (.shape j t n)
theorem AT.ne {O:VH} {S:List Nat} (h:AT O S) {j i t n:Nat} (hj:O.hp j=some (.shape i t n)):j ∉ S:=fun hm=>h j hm _ _ _ hj
theorem Row.kp {O O':VH} {el:TypeId} {sz B k c:Nat} {L:List MV} {S:List Nat} (h:Row O el sz B k c L) (u:Kp O O' S) (hS:AT O S) (hk:k ∉ S):Row O' el sz B k c L:=by
 obtain⟨⟨sp,h1,h2⟩,⟨j,h3,h4,h5⟩,h6,h7⟩:=h;exact⟨⟨sp,(u.2 k h7 hk).trans h1,h2⟩,⟨j,h3,Nat.lt_of_lt_of_le h4 u.1,(u.2 j h4 (hS.ne h5)).trans h5⟩,h6,Nat.lt_of_lt_of_le h7 u.1⟩
theorem Row.own {O O':VH} {el:TypeId} {sz B k c:Nat} {L L' sp:List MV} {S:List Nat} (h:Row O el sz B k c L) (u:Kp O O' S) (hS:AT O S) (hc:O'.hp k=some (.cells (L'++sp))) (hl:(L'++sp).length=c*sz):Row O' el sz B k c L':=by
 obtain⟨_,⟨j,h3,h4,h5⟩,h6,h7⟩:=h;exact⟨⟨sp,hc,hl⟩,⟨j,h3,Nat.lt_of_lt_of_le h4 u.1,(u.2 j h4 (hS.ne h5)).trans h5⟩,h6,Nat.lt_of_lt_of_le h7 u.1⟩
theorem ow.lt {O:VH} {B k:Nat}:∀{R:List Rec} {r:Rec},ow O B k (r::R)->∀x∈R,x.b<r.b
 | [],_,_,x,hx=>by cases hx
 | p::R,r,h,x,hx=>by
   obtain⟨_,_,h3,h4⟩:=h;rcases List.mem_cons.1 hx with rfl | hx
   ·exact h3
   ·exact Nat.lt_trans (h4.lt x hx) h3
theorem ow.kp {O O':VH} {B k:Nat} {S:List Nat} (u:Kp O O' S) (hS:AT O S):∀{R:List Rec},ow O B k R->(∀r∈R,r.b=k\/(∃cs,O.hp r.b=some (.cells cs))->r.b=k\/r.b ∉ S)->k<B->ow O' B k R
 | [],_,_,_=>trivial
 | [r],h,_,_=>h
 | r::p::rest,⟨⟨c,h1,h2,h3⟩,h4,h5,h6⟩,hn,hk=>⟨⟨c,h1,h2,h3.kp u hS (((hn r (by simp)) (.inr (by obtain⟨sp,e,_⟩:=h3.cells;exact⟨_,e⟩))).resolve_left fun e=>by have:=h3.lo;omega)⟩,h4,h5,h6.kp u hS (fun x hx=>hn x (by simp[hx])) hk⟩
theorem GR.lo {O:VH} {el:TypeId} {sz B n i:Nat} {p:MV} {L:List MV} (h:GR O el sz B p n L) (e:gid p=some i):B<=i/\i<O.next:=by
 rcases h with⟨_,_,hp | hp⟩ | ⟨k2,c,hp,_,_,j8⟩
 ·rw[hp]at e;cases e
 ·rw[hp]at e;cases e
 ·rw[hp]at e;injection e with e;subst e;exact⟨j8.lo,j8.hi⟩
theorem GR.kp {O O':VH} {el:TypeId} {sz B n:Nat} {p:MV} {L:List MV} {S:List Nat} (h:GR O el sz B p n L) (u:Kp O O' S) (hS:AT O S) (hk:∀i,gid p=some i->i ∉ S):GR O' el sz B p n L:=by
 rcases h with h | ⟨k2,c,hp,h1,h2,j8⟩
 ·exact .inl h
 ·exact .inr ⟨k2,c,hp,h1,h2,j8.kp u hS (hk k2 (by rw[hp];rfl))⟩
theorem GR.L7 {O:VH} {el:TypeId} {sz B n i:Nat} {p:MV} {L:List MV} (h:GR O el sz B p n L) (e:gid p=some i):∃cs,O.hp i=some (.cells cs):=by
 rcases h with⟨_,_,hp | hp⟩ | ⟨k2,c,hp,_,_,j8⟩
 ·rw[hp]at e;cases e
 ·rw[hp]at e;cases e
 ·rw[hp]at e;injection e with e;subst e
  obtain⟨sp,h1,_⟩:=j8.cells;exact⟨_,h1⟩
theorem BC.loc {O:VH} {B k:Nat} {r:Rec} {R:List Rec} {z tl:List MV} (h:BC O B k (r::R) z tl):∃pre post,O.hp r.b=some (.cells (pre++iu r++post))/\pre.length=r.off/\r.b<O.next/\(R=[]->r.b=k/\pre=[]/\post=tl)/\∀p rest,R=p::rest->pre=ax p.kids/\B<=r.b:=by
 cases R with
 | nil=>
   obtain⟨h1,h2⟩:=h.chain;refine⟨[],tl,?_,h2.symm,?_,fun _=>⟨h1,rfl,rfl⟩,fun p rest e=>by cases e⟩
   ·rw[h1];exact h.cells
   ·rw[h1];exact Nat.lt_of_lt_of_le h.lt h.le
 | cons p rest=>
   obtain⟨⟨c,_,_,j8⟩,ho,_,_⟩:=h.chain;obtain⟨sp,h1,h2⟩:=j8.cells;exact⟨ax p.kids,sp,h1,by rw[cO,ho],j8.hi,(fun e=>by cases e),fun p' aj1 e=>by injection e with e1 e2;subst e1;exact⟨rfl,j8.lo⟩⟩
theorem BC.part {O O':VH} {B k:Nat} {r r':Rec} {R:List Rec} {z tl pre post:List MV} {S:List Nat} (h:BC O B k (r::R) z tl) (hc:O.hp r.b=some (.cells (pre++iu r++post))) (hl:pre.length=r.off) (hR:R=[]->post=tl) (u:Kp O O' S) (hb:r'.b=r.b) (ho:r'.off=r.off)
  (hn:∀x∈S,x=r.b\/gid r.q=some x) (n5:O'.hp r.b=some (.cells (pre++iu r'++post))):O'.hp k=some (.cells (ox (r'::R) z++tl))/\ow O' B k (r'::R):=by
 have va:=h.chain;have dJ:=va.lt;have ia:=h.top
 have hS:AT O S:=fun x hx j t n e=>by
  rcases hn x hx with e2 | e2
  ·subst e2;rw[hc]at e;cases e
  ·obtain⟨cs,e3⟩:=ia.1.L7 e2;rw[e3]at e;cases e
 cases R with
 | nil=>
   obtain⟨h1,h2⟩:=va;have hp:pre=[]:=List.eq_nil_of_length_eq_zero (by rw[hl,h2]);subst hp;refine⟨?_,⟨by rw[hb,h1],by rw[ho,h2]⟩⟩;rw[<-h1,n5,hR rfl];rfl
 | cons p rest=>
   obtain⟨⟨c,e1,e2,j8⟩,e3,e4,e5⟩:=va;have aiJ:=j8.lo
   have hkS:k ∉ S:=fun hm=>by
    have:=h.lt;rcases hn k hm with e | e
    ·omega
    ·have:=(ia.1.lo e).1;omega
   obtain⟨sp,sK,U3⟩:=j8.cells;rw[hc]at sK;injection sK with sK;injection sK with sK
   have dF:pre.length=(ax p.kids).length:=by rw[hl,e3,cO]
   rw[List.append_assoc,List.append_assoc]at sK;obtain⟨qh,zK⟩:=List.append_inj sK dF;obtain⟨_,ov⟩:=List.append_inj zK rfl;subst qh;subst ov
   refine⟨?_,⟨⟨c,by rw[e1,hb],e2,?_⟩,by rw[ho,e3],by rw[hb];exact e4,e5.kp u hS (fun x hx _=>?_) h.lt⟩⟩
   ·rw[u.2 k (Nat.lt_of_lt_of_le h.lt h.le) hkS];exact h.cells
   ·rw[hb];refine j8.own u hS n5 ?_;rw[List.length_append,List.length_append,rL]at U3 ⊢;exact U3
   ·refine .inr fun hm=>?_
    have h6:=dJ x hx;rcases hn x.b hm with e | e
    ·omega
    ·have:=ia.2 _ e;omega
theorem BC.I1 {O O':VH} {B k:Nat} {r r':Rec} {R:List Rec} {z tl pre post:List MV} {S:List Nat} (h:BC O B k (r::R) z tl) (hc:O.hp r.b=some (.cells (pre++iu r++post))) (hl:pre.length=r.off) (hR:R=[]->post=tl) (u:Kp O O' S) (hb:r'.b=r.b) (ho:r'.off=r.off)
  (hn:∀x∈S,x=r.b\/gid r.q=some x) (n5:O'.hp r.b=some (.cells (pre++iu r'++post))) (ht:GR O' 112 4 B r'.q r'.kids.length (ax r'.kids)) (NZ:∀i,gid r'.q=some i->r.b<i):BC O' B k (r'::R) z tl:=by
 obtain⟨h1,h2⟩:=h.part hc hl hR u hb ho hn n5;exact⟨h.lt,Nat.le_trans h.le u.1,h1,h.zl,h2,⟨ht,fun i e=>by rw[hb];exact NZ i e⟩⟩
theorem BC.push {O O':VH} {B k k' c:Nat} {r:Rec} {R:List Rec} {z tl pre post:List MV} {S:List Nat} {nm:Bs} {fq:List (Bs×Bs)} (h:BC O B k (r::R) z tl) (hc:O.hp r.b=some (.cells (pre++iu r++post))) (hl:pre.length=r.off) (hR:R=[]->post=tl) (u:Kp O O' S)
  (hn:∀x∈S,x=r.b\/gid r.q=some x) (n5:O'.hp r.b=some (.cells (pre++iu {r with q:=.bk k' 0 (r.kids.length+1) c}++post))) (hk:gid r.q=some k'\/O.next<=k') (hlen:r.kids.length+1<=c)
  (j8:Row O' 112 4 B k' c (ax r.kids++iu ⟨k',r.kids.length*4,nm,fq,[],.sl 0 [] .nil⟩)):BC O' B k (⟨k',r.kids.length*4,nm,fq,[],.sl 0 [] .nil⟩::{r with q:=.bk k' 0 (r.kids.length+1) c}::R) z tl:=by
 obtain⟨h1,h2⟩:=h.part (r':={r with q:=.bk k' 0 (r.kids.length+1) c}) hc hl hR u rfl rfl hn n5
 have hrb:r.b<k':=by
  rcases hk with e | e
  ·exact h.top.2 _ e
  ·obtain⟨_,_,_,_,e2,_⟩:=h.loc;omega
 exact⟨h.lt,Nat.le_trans h.le u.1,h1,h.zl,⟨⟨c,rfl,hlen,j8⟩,rfl,hrb,h2⟩,⟨.inl ⟨rfl,by rw[ax],.inl rfl⟩,fun i e=>by cases e⟩⟩
theorem BC.step {O O':VH} {B k:Nat} {R:List Rec} {z z' tl tl':List MV} {S:List Nat} (h:BC O B k R z tl) (u:Kp O O' S) (hS:∀x∈S,x=k\/O.hp x=some .tok) (hc:O'.hp k=some (.cells (ox R z'++tl'))) (hz:z'.length=4):BC O' B k R z' tl':=by
 have hS2:AT O S:=fun x hx j t n e=>by
  rcases hS x hx with e2 | e2
  ·subst e2;rw[h.cells]at e;cases e
  ·rw[e2]at e;cases e
 have hn:∀{i:Nat},(∃cs,O.hp i=some (.cells cs))->i≠k->i ∉ S:=fun{i} ⟨cs,e⟩ hne hm=>by
  rcases hS i hm with e2 | e2
  ·exact hne e2
  ·rw[e2]at e;cases e
 refine⟨h.lt,Nat.le_trans h.le u.1,hc,hz,h.chain.kp u hS2 (fun r _ hr=>?_) h.lt,?_⟩
 ·by_cases e:r.b=k
  ·exact .inl e
  ·exact .inr (hn (hr.resolve_left e) e)
 ·have ht:=h.top;cases R with
  | nil=>trivial
  | cons r R=>exact⟨ht.1.kp u hS2 (fun i e=>hn (ht.1.L7 e) (by have:=(ht.1.lo e).1;have:=h.lt;omega)),ht.2⟩
theorem Kp.set {O:VH} {k:Nat} {x:bV}:Kp O (O.set k x) [k]:=⟨Nat.le_refl _,fun i _ hn=>VH.ak _ _ (by simpa using hn)⟩
theorem Kp.refl {O:VH} {S:List Nat}:Kp O O S:=⟨Nat.le_refl _,fun _ _ _=>rfl⟩
theorem Kp.trans {O O1 O2:VH} {S T:List Nat} (h:Kp O O1 S) (k:Kp O1 O2 T):Kp O O2 (S++T):=⟨Nat.le_trans h.1 k.1,fun i hi hn=>by
 rw[List.mem_append,not_or]at hn;rw[k.2 i (Nat.lt_of_lt_of_le hi h.1) hn.2,h.2 i hi hn.1]⟩
theorem Kp.ge {O O1:VH} (h:O.Ge O1) {S:List Nat}:Kp O O1 S:=⟨h.next,fun i hi _=>h.hp i hi⟩
theorem Kp.bl {O O1:VH} {q:Option Nat} (h:bj O q O1):Kp O O1 q.toList:=⟨h.next,fun i hi hn=>h.hp i hi fun e=>hn (by rw[e];simp)⟩
theorem Kp.k {O O1:VH} {tk:Tok} (h:cK tk O O1):Kp O O1 (Tok.id tk).toList:=⟨h.next,fun i hi hn=>h.hp i hi fun e=>hn (by rw[e];simp)⟩
theorem Kp.sub {O O1:VH} {S T:List Nat} (h:Kp O O1 S) (hs:∀x∈S,x∈T\/O.next<=x):Kp O O1 T:=⟨h.1,fun i hi hn=>h.2 i hi fun hm=>by
 rcases hs i hm with e | e
 ·exact hn e
 ·omega⟩
theorem BC.ge {O O':VH} {B k:Nat} {R:List Rec} {z tl:List MV} (h:BC O B k R z tl) (g:O.Ge O'):BC O' B k R z tl:=
 h.step (S:=[]) (Kp.ge g) (fun x hx=>by cases hx) ((g.hp _ (Nat.lt_of_lt_of_le h.lt h.le)).trans h.cells) h.zl
def oQ (R:List Rec) (tk:Tok) (bP:Nat) (dn tx:Bool):List MV:=[.sl R.length (gj R) tk,mi bP,mb dn,mb tx]
structure BS (O:VH) (B k:Nat) (R:List Rec) (tk:Tok) (bP:Nat) (dn tx:Bool) (z:List MV):Prop where
 c:BC O B k R z (oQ R tk bP dn tx)
 a:App O B 1 tk
theorem BS.ge {O O':VH} {B k bP:Nat} {R:List Rec} {tk:Tok} {dn tx:Bool} {z:List MV} (h:BS O B k R tk bP dn tx z) (g:O.Ge O'):BS O' B k R tk bP dn tx z:=⟨h.c.ge g,h.a.ge g⟩
def dk (k:Nat) (R:List Rec) (tk:Tok):List Nat:=k::(R.map (·.b)++(R.head?.bind fun r=>gid r.q).toList++(Tok.id tk).toList)
theorem mZ {k:Nat} {R:List Rec} {tk:Tok}:k∈dk k R tk:=by simp[dk]
theorem oR {k:Nat} {r:Rec} {R:List Rec} {tk:Tok}:r.b∈dk k (r::R) tk:=by simp[dk]
theorem m4 {k x:Nat} {r:Rec} {R:List Rec} {tk:Tok} (h:gid r.q=some x):x∈dk k (r::R) tk:=by simp[dk,h]
theorem CE {k x:Nat} {R:List Rec} {tk:Tok} (h:Tok.id tk=some x):x∈dk k R tk:=by simp[dk,h]
theorem zW {k:Nat} {r:Rec} {R:List Rec} {tk:Tok} (h:r∈R):r.b∈dk k R tk:=by
 have:=List.mem_map_of_mem (f:=fun r:Rec=>r.b) h;simp only[dk,List.mem_cons,List.mem_append];exact .inr (.inl (.inl this))
theorem Kp.more {O O1 O2:VH} {U S:List Nat} (h:Kp O O1 U) (k:Kp O1 O2 S) (hs:∀x∈S,x∈U\/O.next<=x):Kp O O2 U:=⟨Nat.le_trans h.1 k.1,fun i hi hn=>by
 rw[k.2 i (Nat.lt_of_lt_of_le hi h.1) (fun hm=>(hs i hm).elim hn fun e=>by omega),h.2 i hi hn]⟩
set_option linter.defProp false in
def aB:=And.intro dD<|And.intro aic<|And.intro aib<|And.intro Lg<|And.intro Lh nR
theorem qx {l:List MV} (h:l.length=4):∃a b c d,l=[a,b,c,d]:=by
 match l,h with
 | [a,b,c,d],_=>exact⟨_,_,_,_,rfl⟩
theorem App.xj {O:VH} {B sz k:Nat} {tk:Tok} {x:bV} (h:App O B sz tk) (hk:k<B):App (O.set k x) B sz tk:=by
 cases tk with
 | own t j=>exact⟨h.1,(VH.ak _ _ (by have:=h.2.2.1;omega)).trans h.2.1,h.2.2.1,h.2.2.2⟩
 | nil=>trivial
 | full=>trivial
 | aq=>exact h.elim
theorem BS.flag {O:VH} {B k bP cnt':Nat} {R:List Rec} {tk:Tok} {dn tx dn' tx':Bool} {z:List MV} (h:BS O B k R tk bP dn tx z):BS (O.set k (.cells (ox R z++oQ R tk cnt' dn' tx'))) B k R tk cnt' dn' tx' z:=
 ⟨h.c.step Kp.set (fun x hx=>.inl (by simpa using hx)) (VH.an _ _ _) h.c.zl,h.a.xj h.c.lt⟩
theorem Z3 {O:VH} {B k bP:Nat} {R:List Rec} {tk:Tok} {dn tx:Bool} {z:List MV} (h:BS O B k R tk bP dn tx z) (hc:bP<=1000000):
  VF Tryz.prog 294 [.ptr k 0] O (aI fun m O'=>m=mb (decide (bP+1<=4096))/\BS O' B k R tk (bP+1) dn tx z/\Kp O O' [k]):=by
 have hk:=h.c.cells;obtain⟨a0,a1,a2,a3,hr⟩:=qx (ez R z h.c.zl);have mo:=h.flag (cnt':=bP+1) (dn':=dn) (tx':=tx);unfold oQ at hk mo;rw[hr]at hk mo;simp only[au,aY,List.cons_append,List.nil_append]at hk mo;refine VF.dh 15 [.tmp 2] Tryz.func294 ?_;by_cases h1:bP+1<=4096
 ·rw[decide_eq_true h1];refine ao @aB @hk ?_;exact⟨mo,Kp.set⟩
 ·rw[decide_eq_false h1];refine ao @aB @hk ?_;exact⟨mo,Kp.set⟩
theorem Ey {O:VH} {B k bP:Nat} {r:Rec} {R:List Rec} {tk:Tok} {dn tx:Bool} {z:List MV} (h:BS O B k (r::R) tk bP dn tx z) (hl:R.length<=1000):
  VF Tryz.prog 269 [.ptr k 0] O (aI fun m O'=>m= .ptr r.b r.off/\O'=O):=by
 have hk:=h.c.cells;obtain⟨a0,a1,a2,a3,hr⟩:=qx (ez (r::R) z h.c.zl);unfold oQ at hk;rw[hr]at hk
 have bu:(gj (r::R))[R.length]?=some (.ptr r.b r.off):=by
  rw[qw,List.getElem?_append_right (by rw[kA];exact Nat.le_refl _),kA,Nat.sub_self];rfl
 have hCl:(gj (r::R)).length=R.length+1:=by rw[kA];rfl
 generalize gj (r::R)=C at*;simp only[au,aY,List.cons_append,List.nil_append,List.length_cons]at hk;have qO:(((R.length+1:Nat):Int) - 1)=(R.length:Int):=by omega
 refine VF.bU 15 [.tmp 2] Tryz.func269 ?_;refine VC.ag aa (ae @aB ?_);refine VC.bA ?_;refine WC.reads ?_;refine iL @aB @hk @qO @bu @uI ?_;refine WC.sound aa (ae @aB ?_);trivial
def qR (R:List Rec):List (Bs×List (Bs×Bs)×List Nd):=R.map fun r=>(r.name,r.attrs,r.kids)
def qy (n bP:Nat) (dn:Bool):Option Int:=if dn then some 16 else if 64<=n then some 2 else if 4096<bP+1 then some 2 else none
theorem VH.set_comm {O:VH} {a b:Nat} {x y:bV} (h:a≠b):(O.set a x).set b y=(O.set b y).set a x:=by
 have key:bl (bl O.hp a (some x)) b (some y)=bl (bl O.hp b (some y)) a (some x):=by
  funext j
  by_cases e:j=a
  ·subst e;rw[aw _ _ h,aE,aE]
  ·by_cases e2:j=b
   ·subst e2;rw[aE,aw _ _ e,aE]
   ·rw[aw _ _ e2,aw _ _ e,aw _ _ e,aw _ _ e2]
 unfold VH.set;dsimp only;rw[key]
section
variable {G H:Gh} {n:Sz} {D:List Deferred} {e:Env} {a:Act} {P:Program} {tab:bS} {O O':VH} {w:World} {m:MV} {ops:Array Oper} {Q:VQ}
theorem bt.aeQ {brk:List Nat} {fuel i:Nat} {listed:Array Bool} {l:List Oper} {o:Oper} (ho:l[i]?=some o) (hr:Region.ready .any ⟨l⟩ listed=[i]) (hb:brk.contains i=false) (hA:Fs o.op=true)
  (hg:aK ⟨l⟩ o e=some true) (hy:∀G a w,WR G O w->FR G n D e a->c_ P o a w G m O') (hd:bf n o.dst=true) (h:bt P n D ⟨l⟩ brk fuel (listed.setIfInBounds i true) (aV o.dst m e) O' Q):bt P n D ⟨l⟩ brk (fuel+1) listed e O Q:=by
 intro G a w hw aT;refine jc hr (by simp) fun j hj=>?_
 obtain rfl:j=i:=by simpa using hj
 obtain⟨nx,w',H,u,bW,r9,h1,h2,h3,h4⟩:=hy G a w hw aT;have Cg:(⟨l⟩:Array Oper)[j]?=some o:=by simpa using ho
 simp only[wpOp,Cg,a_ aT hg,if_true];refine .inl ?_;unfold Oper.wp;rw[bW];have hk:=h H (a.put o.dst u) w' h2 ((aT.mono h1).aV hd h3)
 have Xt:TH brk G w j w'/\iE P .any ⟨l⟩ (cf G n D Q) (TH brk G w) fuel (listed.setIfInBounds j true) (a.put o.dst u) w':=by
  have o7:=h4 hA;have hs:Sx G w w':=⟨SS.le h1 h2.ss,o7⟩;refine⟨fun _=>hs,jd (fun _ _ _=>cf.le h1) _ _ _ _ (fun k _ x hT CZ=>?_) hk⟩;obtain⟨g1,g2⟩:=hT CZ;exact⟨SS.le h1 g1,fun k' b mz=>(g2 k' b (h1.bD mz)).trans (o7 k' b mz)⟩
 rcases r9 with rfl | ⟨rfl,rfl⟩<;>exact Xt
end
theorem Z4 {G:Gh} {n:Sz} {D:List Deferred} {e:Env} {a:Act} {O:VH} {w:World} {d:Option Tmp} {ty:TypeId} {ps:String} {af:Array Edge} {g:Option (Nat×Bool)} (hw:WR G O w) (hf:FR G n D e a):c_ Tryz.prog (.mk d (.buildSlice 110 1 #[(0,.const (.agg #[.string ⟨⟨[]⟩⟩,.slice none 0 0,.slice none 0 0,.string ⟨⟨[]⟩⟩]))]) ty ps af g) a w G (.sl 1 [.str [],.sl 0 [] .nil,.sl 0 [] .nil,.str []] .full) O:=
 c_.of (sX (t:=110) (len:=1) (m:=.sl 1 [.str [],.sl 0 [] .nil,.sl 0 [] .nil,.str []] .full) (parts:=[(0,.agg [.str [],.sl 0 [] .nil,.sl 0 [] .nil,.str []])]) (ps:= #[(0,.agg #[.string ⟨⟨[]⟩⟩,.slice none 0 0,.slice none 0 0,.string ⟨⟨[]⟩⟩])]) aa hw (by kernel_rfl) rfl
  (aL.cons (.agg (us:=[.string ⟨⟨[]⟩⟩,.slice none 0 0,.slice none 0 0,.string ⟨⟨[]⟩⟩]) rfl (aL.cons .str (aL.cons .slnil (aL.cons .slnil (aL.cons .str aL.nil)))).2) aL.nil)) (by simp[execOp,Act.eval])
theorem aeR (L sp:List MV) (x y z w a b c d:MV):((((L++[x,y,z,w]++sp).set L.length a).set (L.length+1) b).set (L.length+1+1) c).set (L.length+1+1+1) d=L++[a,b,c,d]++sp:=by
 induction L with
 | nil=>rfl
 | cons e L ih=>
   simp only[List.cons_append,List.length_cons,List.set_cons_succ];rw[ih]
theorem App.L8 {O O':VH} {B sz:Nat} {tk:Tok} {S:List Nat} (h:App O B sz tk) (u:Kp O O' S) (hS:∀x∈S,O.hp x≠some .tok):App O' B sz tk:=by
 cases tk with
 | own t k=>exact⟨h.1,(u.2 t h.2.2.2 (fun hm=>hS t hm h.2.1)).trans h.2.1,h.2.2.1,Nat.lt_of_lt_of_le h.2.2.2 u.1⟩
 | nil=>trivial
 | full=>trivial
 | aq=>exact h.elim
theorem R9 {O:VH} {B n:Nat} {p:MV} {L:List MV} (h:GR O 112 4 B p n L):kZ (fL Tryz.prog) 110 p=some (.v (.int .i64 n)):=by
 rcases h with⟨rfl,_,rfl | rfl⟩ | ⟨k,c,rfl,_⟩
 ·exact lB nR
 ·exact lB nR
 ·exact GK nR
theorem Z5 {O:VH} {B k bP:Nat} {R:List Rec} {tk:Tok} {dn tx:Bool} {z:List MV} (h:BS O B k R tk bP dn tx z) (hc:bP<=1000000) (kd:Int) (nm tt:Bs) (fq:List (Bs×Bs)) (p1 p2 p3:Int) (Ht:fq.length<=100000) (kP:∀r∈R,r.kids.length<=1000000):
  VF Tryz.prog 267 [.ptr k 0,.agg [mi kd,.str nm,.sl fq.length (fq.flatMap aZ) .aq,.str tt,mi p1,mi p2,mi p3]] O (aI fun m O'=>Kp O O' (dk k R tk)/\match qy R.length bP dn with
   | some e=>m=mi e
   | none=>m=mi 0/\∃R' tk',BS O' B k R' tk' (bP+1) false false z/\qR R'=(nm,fq,[])::qR R/\∀x∈dk k R' tk',x∈dk k R tk\/O.next<=x):=by
 obtain⟨a0,a1,a2,a3,hr⟩:=qx (ez R z h.c.zl);have fV:=h.c.lt;have hBn:=h.c.le;simp only[au];refine VF.bU 87 [.tmp 4] Tryz.func267 ?_;refine VC.ag aa (ae @aB ?_);refine VC.bx ?_;rintro O1 ⟨aU,Cl,du⟩;have h1:=h.ge aU;have dL:=h1.c.cells;unfold oQ at dL;rw[hr]at dL;simp only[au,aY,List.cons_append,List.nil_append]at dL;have iR:Kp O O1 (dk k R tk):=Kp.ge aU;have vi:∀x∈[k],x∈dk k R tk\/O.next<=x:=fun x hx=>.inl (by rw[List.mem_singleton]at hx;rw[hx];exact mZ)
 cases dn;rotate_left
 ·refine VC.ag aa (ao @aB @dL ?_);exact⟨iR,rfl⟩
 by_cases DP:64<=R.length
 ·have hE:qy R.length bP false=some 2:=by unfold qy;rw[if_neg (by simp),if_pos DP]
  rw[hE];refine VC.ag aa (ao @aB @dL ?_);exact iR
 refine VC.ag aa (ao @aB @dL ?_);refine ah.rt (Z3 h1 hc) ?_;rintro _ O2 ⟨rfl,h2,c7⟩;by_cases D2:bP+1<=4096;rotate_left
 ·have hE:qy R.length bP false=some 2:=by unfold qy;rw[if_neg (by simp),if_neg DP,if_pos (by omega)]
  rw[hE,decide_eq_false D2];refine ae @aB ?_;exact iR.more c7 vi
 have hE:qy R.length bP false=none:=by unfold qy;rw[if_neg (by simp),if_neg DP,if_neg (by omega)]
 rw[hE,decide_eq_true D2];dsimp only;refine ae @aB ?_;have Qc:Kp O O2 (dk k R tk):=iR.more c7 vi;have Ez:=(c7.2 _ (by omega) (by simp;omega)).trans Cl;have jk:=c7.1;refine VC.ag aa (ao @aB @Ez ?_);refine VC.al ?_;rintro O3 ⟨aO,kQ,gZ⟩;have h3:=h2.ge aO;have dG:=h3.c.cells;have AU:Kp O O3 (dk k R tk):=Qc.more (Kp.ge aO (S:=[])) (fun x hx=>by cases hx);have hR:R.length<64:=by omega
 cases R with
 | nil=>
   obtain rfl:z=[a0,a1,a2,a3]:=hr;unfold oQ at dG;simp only[ox,gj,List.map_nil,List.reverse_nil,List.length_nil,au,aY,List.cons_append,List.nil_append]at dG;refine VC.ag aa (aM @aB @dG @kQ ?_);refine VC.gen ?_;intro O4 oP;have kU:O4.hp k=some (.cells [.str nm,.sl fq.length (fq.flatMap aZ) .aq,.sl 0 [] .nil,.str [],.sl 0 [] tk,.v (.int .i64 (bP+1:Nat)),.v (.bool false),.v (.bool tx)]):=by rw[oP];exact VH.an _ _ _
   have kx:App O4 B 1 tk:=by rw[oP];exact h3.a.xj fV
   have g_:O4.next=O3.next:=by rw[oP];rfl
   have agI:Kp O O4 (dk k [] tk):=AU.more (S:=[k]) (by rw[oP];exact Kp.set) vi;clear oP;refine WC.bI (.held [12]) [(0,.rd),(1,.rd),(2,.rd),(3,.rd),(4,.rd),(5,.rd),(6,.rd),(7,.rd),(8,.one),(9,.one),(10,.one),(11,.rd),(12,.one)] ?_;refine ao @aB @kU ?_;have cT:=bo (tk':=.full) (n:=0) (k:=1) (cs:=[]) (ds:=[.ptr k 0]) Lg Lh kx rfl rfl rfl (by decide) (by decide) (by decide) (by decide);refine VL.app cT ?_;have gd:=VH.rj kx kU (by simp) (by omega);have gu:=VH.e_ O4 tk;have eY:App (O4.after tk) B 1 (.own O4.next 1):=App.after (by omega);have sL:Kp O (O4.after tk) (dk k [] tk):=agI.more (Kp.k (cK.after kx)) (fun x hx=>.inl (CE (by simpa using hx)));generalize O4.after tk=O5 at*;refine ao @aB @gd ?_;refine VC.gen ?_;intro O6 AP;have oL:O6.hp k=some (.cells [.str nm,.sl fq.length (fq.flatMap aZ) .aq,.sl 0 [] .nil,.str [],.sl 1 [.ptr k 0] (.own O4.next 1),.v (.int .i64 (bP+1:Nat)),.v (.bool false),.v (.bool tx)]):=by rw[AP];exact VH.an _ _ _
   have tT:App O6 B 1 (.own O4.next 1):=by rw[AP];exact eY.xj fV
   have EA:Kp O O6 (dk k [] tk):=sL.more (S:=[k]) (by rw[AP];exact Kp.set) vi;have ny:O6.next=O5.next:=by rw[AP];rfl
   clear AP;refine VC.ag aa (ao @aB @oL ?_);refine WC.sound aa (ae @aB ?_);refine⟨EA.more Kp.set vi,[⟨k,0,nm,fq,[],.sl 0 [] .nil⟩],.own O4.next 1,⟨⟨fV,by rw[VH.eB];omega,?_,rfl,⟨rfl,rfl⟩,⟨.inl ⟨rfl,by rw[ax],.inl rfl⟩,(fun i e=>by cases e)⟩⟩,tT.xj fV⟩,rfl,fun x hx=>?_⟩
   ·rw[VH.an];rfl
   ·have hx:x∈[k,k,O4.next]:=hx;simp only[List.mem_cons,List.not_mem_nil,or_false]at hx;rcases hx with rfl | rfl | rfl
    ·exact .inl mZ
    ·exact .inl mZ
    ·exact .inr (by omega)
 | cons r R=>
   unfold oQ at dG;rw[hr]at dG;simp only[au,aY,List.cons_append,List.nil_append,List.length_cons]at dG;obtain⟨pre,post,eJ,dF,BY,zX,Z6⟩:=h3.c.loc;have ia:=h3.c.top;refine VC.ag aa (ao @aB @dG ?_);refine ah.rt (Ey h3 (by rw[List.length_cons]at hR;omega)) ?_;rintro _ O9 ⟨rfl,eO⟩;rw[eO];clear eO O9
   refine ae @aB ?_;have hkr:=kP r (by simp)
   have VI:(pre++iu r++post)[r.off+2]?=some r.q:=by
    rw[List.append_assoc,List.getElem?_append_right (by omega), <-dF,Nat.add_sub_cancel_left];rfl
   have mq:∀q',(pre++iu r++post).set (r.off+2) q'=pre++iu {r with q:=q'}++post:=fun q'=>by
    rw[List.append_assoc,List.set_append_right _ _ (by omega), <-dF,Nat.add_sub_cancel_left,List.append_assoc];rfl
   have hlC:(pre++iu r++post).length=pre.length+4+post.length:=by simp[rL];omega
   generalize hC:pre++iu r++post=C at*;refine VC.Ie [7,8,9,10,11,12] (by kernel_rfl) ?_;refine bt.AL 0 ?_;refine ae @aB ?_;refine bt.AL 1 ?_;refine ae @aB ?_;refine bt.AL 2 ?_;refine ae @aB ?_;refine bt.AL 3 ?_;refine aM @aB @eJ @VI ?_;refine bt.AL 4 ?_;refine ao @aB @kQ ?_;have kH:=R9 ia.1;refine bt.AL 5 ?_;refine ao @aB @kH ?_;refine bt.aeQ (i:=6) rfl (by kernel_rfl) (by kernel_rfl) rfl rfl (fun _ _ _ hw hf=>Z4 hw hf) rfl ?_;simp only[aj];refine bt.fin (by kernel_rfl) ?_;refine bX.st (i:=7) rfl (by kernel_rfl) rfl rfl (PW aa (te:=⟨_,4,80,_⟩) (dx:=.slice 112) (q:=.sl 1 [.str [],.sl 0 [] .nil,.sl 0 [] .nil,.str []] .full) (j:=1) (ds:=[.str [],.sl 0 [] .nil,.sl 0 [] .nil,.str []]) ia.1 rfl rfl (by rw[nR];rfl) td.1.1 (by rw[nR];rfl) trivial (by dsimp only;omega) (by simp only[maxLen];omega) (by omega) rfl rfl) ?_;rintro m O4 ⟨wQ,lR,gQ,hm⟩
   obtain⟨k2,c2,rfl,bN⟩:∃k2 c2,m= .bk k2 0 (r.kids.length+1) c2/\(gid r.q=some k2\/O3.next<=k2):=by
    rcases hm with⟨k2,c2,h1,h2⟩ | ⟨h1,_⟩
    ·exact⟨k2,c2,h1,h2.imp id And.left⟩
    ·cases h1
   obtain⟨cC,yW⟩:Row O4 112 4 B k2 c2 (ax r.kids++[.str [],.sl 0 [] .nil,.sl 0 [] .nil,.str []])/\r.kids.length+1<=c2:=by
    rcases wQ with⟨h1,_⟩ | ⟨k3,c3,h1,h2,_,h4⟩
    ·omega
    ·injection h1 with h1 _ _ h3;subst h1;subst h3;exact⟨h4,h2⟩
   have Z7:r.b<k2:=by
    rcases bN with e | e
    ·exact ia.2 _ e
    ·omega
   have aiK:=lR.next;have eX:O4.hp r.b=some (.cells C):=(lR.hp _ BY (fun e=>by have:=ia.2 _ e;omega)).trans eJ;obtain⟨sp,wR,Em⟩:=cC.cells;simp only[aj];have uf:=cO r.kids
   have qS:∀a b c d:MV,((((ax r.kids++([.str [],.sl 0 [] .nil,.sl 0 [] .nil,.str []]:List MV)++sp).set (r.kids.length*4) a).set (r.kids.length*4+1) b).set (r.kids.length*4+1+1) c).set (r.kids.length*4+1+1+1) d=ax r.kids++[a,b,c,d]++sp:=fun a b c d=>by
    rw[<-uf];exact aeR _ _ _ _ _ _ _ _ _ _
   generalize CX:ax r.kids++[.str [],.sl 0 [] .nil,.sl 0 [] .nil,.str []]++sp=C2 at*;refine bX.G4 8 ?_;refine ae @aB ?_;refine bX.G4 10 ?_;refine ae @aB ?_;refine bX.G4 11 ?_;refine ae @aB ?_;refine bX.two (i:=9) (j:=12) (by kernel_rfl) ?_ ?_
   ·refine aH.o1 ?_;refine aM @aB @wR @qS ?_;refine bX.R0 (i:=12) ?_;refine aM @aB @eX @mq ?_;refine bX.bI [] ?_;refine WL.gen ?_;intro O5 lT;have gu:O5.next=O4.next:=by rw[lT];rfl
    have fm:O5.hp r.b=some (.cells (pre++iu {r with q:=.bk k2 0 (r.kids.length+1) c2}++post)):=by rw[lT];exact VH.an _ _ _
    have zY:O5.hp k2=some (.cells (ax r.kids++iu ⟨k2,r.kids.length*4,nm,fq,[],.sl 0 [] .nil⟩++sp)):=by rw[lT];exact VH.sn (VH.an _ _ _)
    have u4:Kp O4 O5 [k2,r.b]:=by rw[lT];exact Kp.trans (S:=[k2]) (T:=[r.b]) Kp.set Kp.set
    clear lT
    have Qd:AT O4 [k2,r.b]:=fun x hx j t n e=>by
     simp only[List.mem_cons,List.not_mem_nil,or_false]at hx;rcases hx with rfl | rfl
     ·rw[wR]at e;cases e
     ·rw[eX]at e;cases e
    have Qe:Row O5 112 4 B k2 c2 (ax r.kids++iu ⟨k2,r.kids.length*4,nm,fq,[],.sl 0 [] .nil⟩):=cC.own u4 Qd zY (by rw[<-Em, <-CX];simp[rL];omega)
    have u3:Kp O3 O5 (r.b::(gid r.q).toList):=((Kp.bl lR).trans u4).sub (fun x hx=>by
     simp only[List.mem_append,List.mem_cons,List.not_mem_nil,or_false]at hx ⊢;rcases hx with hx | hx | hx
     ·exact .inl (.inr hx)
     ·rcases bN with e | e
      ·rw[e];simp[hx]
      ·exact .inr (by omega)
     ·exact .inl (.inl hx))
    have nV:∀x∈r.b::(gid r.q).toList,x=r.b\/gid r.q=some x:=fun x hx=>by
     rcases List.mem_cons.1 hx with e | e
     ·exact .inl e
     ·exact .inr (by simpa using e)
    have I2:BC O5 B k _ z (oQ (r::R) tk (bP+1) false tx):=h3.c.push (by rw[hC];exact eJ) dF (fun e=>(zX e).2.2) u3 nV fm bN yW Qe
    have eY:App O5 B 1 tk:=by
     refine h3.a.L8 u3 fun x hx e=>?_
     rcases nV x hx with e2 | e2
     ·subst e2;rw[eJ]at e;cases e
     ·obtain⟨cs,e3⟩:=ia.1.L7 e2;rw[e3]at e;cases e
    have sL:Kp O O5 (dk k (r::R) tk):=AU.more u3 (fun x hx=>by
     rcases nV x hx with e | e
     ·rw[e];exact .inl oR
     ·exact .inl (m4 e))
    obtain⟨b0,b1,b2,b3,kB⟩:=qx (ez (⟨k2,r.kids.length*4,nm,fq,[],.sl 0 [] .nil⟩::{r with q:=.bk k2 0 (r.kids.length+1) c2}::R) z h.c.zl);have gd:=I2.cells;unfold oQ at gd;rw[kB]at gd;have hP:=kA (r::R);generalize hPG:gj (r::R)=PT at*;simp only[au,aY,List.cons_append,List.nil_append,List.length_cons]at gd hP
    have Z8:(pre++iu {r with q:=.bk k2 0 (r.kids.length+1) c2}++post)[r.off+2]?=some (.bk k2 0 (r.kids.length+1) c2):=by
     rw[List.append_assoc,List.getElem?_append_right (by omega), <-dF,Nat.add_sub_cancel_left];rfl
    generalize pre++iu {r with q:=.bk k2 0 (r.kids.length+1) c2}++post=C5 at*;have qO:(((r.kids.length+1:Nat):Int) - 1)=(r.kids.length:Int):=by omega
    refine ae @aB ?_;refine WC.bI (.held [20]) [(0,.rd),(1,.rd),(2,.rd),(3,.rd),(4,.rd),(5,.rd),(6,.rd),(7,.rd),(8,.rd),(9,.rd),(10,.rd),(11,.rd),(12,.rd),(13,.rd),(14,.rd),(15,.rd),(16,.one),(17,.one),(18,.one),(19,.rd),(20,.one)] ?_;refine Ca @aB @gd @fm @Z8 @qO @uI ?_;have cT:=bo (tk':=.full) (n:=R.length+1) (k:=1) (cs:=PT) (ds:=[.ptr k2 (r.kids.length*4)]) Lg Lh eY (by rw[hP,Nat.mul_one]) rfl rfl (by decide) (by decide) (by simp only[List.length_cons]at hR;omega) (by simp only[List.length_cons,maxLen]at hR ⊢;omega);refine VL.app cT ?_;have oL:=VH.rj eY gd (by simp) (by omega);have ny:=VH.e_ O5 tk;have tT:App (O5.after tk) B 1 (.own O5.next 1):=App.after (by omega);have u6:Kp O5 (O5.after tk) (Tok.id tk).toList:=Kp.k (cK.after eY)
    have eG:∀x∈(Tok.id tk).toList,O5.hp x=some .tok/\B<=x:=fun x hx=>by
     have e:Tok.id tk=some x:=by simpa using hx
     cases tk with
     | own s j=>injection e with e;subst e;exact⟨eY.2.1,eY.2.2.1⟩
     | _=>cases e
    have EA:Kp O (O5.after tk) (dk k (r::R) tk):=sL.more u6 (fun x hx=>.inl (CE (by simpa using hx)));have Z9:BC (O5.after tk) B k _ z _:=I2.step (tl':=[.sl (R.length+1) PT tk,mi (bP+1:Nat),mb false,mb tx]) u6 (fun x hx=>.inr (eG x hx).1) (by rw[kB];exact oL) h.c.zl;generalize O5.after tk=O6 at*;refine ao @aB @oL ?_;refine VC.gen ?_;intro O7 pO;have tO:O7.hp k=some (.cells [b0,b1,b2,b3,.sl (R.length+1+1) (PT++[.ptr k2 (r.kids.length*4)]) (.own O5.next 1),.v (.int .i64 (bP+1:Nat)),.v (.bool false),.v (.bool tx)]):=by rw[pO];exact VH.an _ _ _
    have EB:App O7 B 1 (.own O5.next 1):=by rw[pO];exact tT.xj fV
    have Qf:Kp O O7 (dk k (r::R) tk):=EA.more (S:=[k]) (by rw[pO];exact Kp.set) vi;have sw:O7.next=O6.next:=by rw[pO];rfl
    have Z_:BC O7 B k _ z [.sl (R.length+1+1) (PT++[.ptr k2 (r.kids.length*4)]) (.own O5.next 1),.v (.int .i64 (bP+1:Nat)),.v (.bool false),.v (.bool tx)]:=Z9.step (S:=[k]) (by rw[pO];exact Kp.set) (fun x hx=>.inl (by simpa using hx)) (by rw[kB];exact tO) h.c.zl;clear pO;refine VC.ag aa (ao @aB @tO ?_);refine WC.sound aa (ae @aB ?_);refine⟨Qf.more Kp.set vi,⟨k2,r.kids.length*4,nm,fq,[],.sl 0 [] .nil⟩::{r with q:=.bk k2 0 (r.kids.length+1) c2}::R,.own O5.next 1,⟨Z_.step (S:=[k]) Kp.set (fun x hx=>.inl (by simpa using hx)) ?_ h.c.zl,EB.xj fV⟩,rfl,fun x hx=>?_⟩;rotate_left
    ·have hx:x∈k::((k2::r.b::R.map (·.b))++[]++[O5.next]):=hx;simp only[List.mem_cons,List.mem_append,List.append_nil,List.not_mem_nil,or_false,List.mem_map]at hx;rcases hx with rfl | (rfl | rfl | ⟨g,hg,rfl⟩) | rfl
     ·exact .inl mZ
     ·rcases bN with e | e
      ·exact .inl (m4 e)
      ·exact .inr (by omega)
     ·exact .inl oR
     ·exact .inl (zW (List.mem_cons_of_mem _ hg))
     ·exact .inr (by omega)
    rw[VH.an,kB, <-hPG];have e:gj (⟨k2,r.kids.length*4,nm,fq,[],.sl 0 [] .nil⟩::{r with q:=.bk k2 0 (r.kids.length+1) c2}::R)=gj (r::R)++[.ptr k2 (r.kids.length*4)]:=qw _ _;unfold oQ;rw[e];rfl
   ·refine aH.o1 ?_;refine aM @aB @eX @mq ?_;refine bX.R0 (i:=9) ?_;refine aM @aB @wR @qS ?_;refine bX.bI [] ?_;refine WL.gen ?_;intro O5 lT;rw[VH.set_comm (by omega)]at lT;have gu:O5.next=O4.next:=by rw[lT];rfl
    have fm:O5.hp r.b=some (.cells (pre++iu {r with q:=.bk k2 0 (r.kids.length+1) c2}++post)):=by rw[lT];exact VH.an _ _ _
    have zY:O5.hp k2=some (.cells (ax r.kids++iu ⟨k2,r.kids.length*4,nm,fq,[],.sl 0 [] .nil⟩++sp)):=by rw[lT];exact VH.sn (VH.an _ _ _)
    have u4:Kp O4 O5 [k2,r.b]:=by rw[lT];exact Kp.trans (S:=[k2]) (T:=[r.b]) Kp.set Kp.set
    clear lT
    have Qd:AT O4 [k2,r.b]:=fun x hx j t n e=>by
     simp only[List.mem_cons,List.not_mem_nil,or_false]at hx;rcases hx with rfl | rfl
     ·rw[wR]at e;cases e
     ·rw[eX]at e;cases e
    have Qe:Row O5 112 4 B k2 c2 (ax r.kids++iu ⟨k2,r.kids.length*4,nm,fq,[],.sl 0 [] .nil⟩):=cC.own u4 Qd zY (by rw[<-Em, <-CX];simp[rL];omega)
    have u3:Kp O3 O5 (r.b::(gid r.q).toList):=((Kp.bl lR).trans u4).sub (fun x hx=>by
     simp only[List.mem_append,List.mem_cons,List.not_mem_nil,or_false]at hx ⊢;rcases hx with hx | hx | hx
     ·exact .inl (.inr hx)
     ·rcases bN with e | e
      ·rw[e];simp[hx]
      ·exact .inr (by omega)
     ·exact .inl (.inl hx))
    have nV:∀x∈r.b::(gid r.q).toList,x=r.b\/gid r.q=some x:=fun x hx=>by
     rcases List.mem_cons.1 hx with e | e
     ·exact .inl e
     ·exact .inr (by simpa using e)
    have I2:BC O5 B k _ z (oQ (r::R) tk (bP+1) false tx):=h3.c.push (by rw[hC];exact eJ) dF (fun e=>(zX e).2.2) u3 nV fm bN yW Qe
    have eY:App O5 B 1 tk:=by
     refine h3.a.L8 u3 fun x hx e=>?_
     rcases nV x hx with e2 | e2
     ·subst e2;rw[eJ]at e;cases e
     ·obtain⟨cs,e3⟩:=ia.1.L7 e2;rw[e3]at e;cases e
    have sL:Kp O O5 (dk k (r::R) tk):=AU.more u3 (fun x hx=>by
     rcases nV x hx with e | e
     ·rw[e];exact .inl oR
     ·exact .inl (m4 e))
    obtain⟨b0,b1,b2,b3,kB⟩:=qx (ez (⟨k2,r.kids.length*4,nm,fq,[],.sl 0 [] .nil⟩::{r with q:=.bk k2 0 (r.kids.length+1) c2}::R) z h.c.zl);have gd:=I2.cells;unfold oQ at gd;rw[kB]at gd;have hP:=kA (r::R);generalize hPG:gj (r::R)=PT at*;simp only[au,aY,List.cons_append,List.nil_append,List.length_cons]at gd hP
    have Z8:(pre++iu {r with q:=.bk k2 0 (r.kids.length+1) c2}++post)[r.off+2]?=some (.bk k2 0 (r.kids.length+1) c2):=by
     rw[List.append_assoc,List.getElem?_append_right (by omega), <-dF,Nat.add_sub_cancel_left];rfl
    generalize pre++iu {r with q:=.bk k2 0 (r.kids.length+1) c2}++post=C5 at*;have qO:(((r.kids.length+1:Nat):Int) - 1)=(r.kids.length:Int):=by omega
    refine ae @aB ?_;refine WC.bI (.held [20]) [(0,.rd),(1,.rd),(2,.rd),(3,.rd),(4,.rd),(5,.rd),(6,.rd),(7,.rd),(8,.rd),(9,.rd),(10,.rd),(11,.rd),(12,.rd),(13,.rd),(14,.rd),(15,.rd),(16,.one),(17,.one),(18,.one),(19,.rd),(20,.one)] ?_;refine Ca @aB @gd @fm @Z8 @qO @uI ?_;have cT:=bo (tk':=.full) (n:=R.length+1) (k:=1) (cs:=PT) (ds:=[.ptr k2 (r.kids.length*4)]) Lg Lh eY (by rw[hP,Nat.mul_one]) rfl rfl (by decide) (by decide) (by simp only[List.length_cons]at hR;omega) (by simp only[List.length_cons,maxLen]at hR ⊢;omega);refine VL.app cT ?_;have oL:=VH.rj eY gd (by simp) (by omega);have ny:=VH.e_ O5 tk;have tT:App (O5.after tk) B 1 (.own O5.next 1):=App.after (by omega);have u6:Kp O5 (O5.after tk) (Tok.id tk).toList:=Kp.k (cK.after eY)
    have eG:∀x∈(Tok.id tk).toList,O5.hp x=some .tok/\B<=x:=fun x hx=>by
     have e:Tok.id tk=some x:=by simpa using hx
     cases tk with
     | own s j=>injection e with e;subst e;exact⟨eY.2.1,eY.2.2.1⟩
     | _=>cases e
    have EA:Kp O (O5.after tk) (dk k (r::R) tk):=sL.more u6 (fun x hx=>.inl (CE (by simpa using hx)));have Z9:BC (O5.after tk) B k _ z _:=I2.step (tl':=[.sl (R.length+1) PT tk,mi (bP+1:Nat),mb false,mb tx]) u6 (fun x hx=>.inr (eG x hx).1) (by rw[kB];exact oL) h.c.zl;generalize O5.after tk=O6 at*;refine ao @aB @oL ?_;refine VC.gen ?_;intro O7 pO;have tO:O7.hp k=some (.cells [b0,b1,b2,b3,.sl (R.length+1+1) (PT++[.ptr k2 (r.kids.length*4)]) (.own O5.next 1),.v (.int .i64 (bP+1:Nat)),.v (.bool false),.v (.bool tx)]):=by rw[pO];exact VH.an _ _ _
    have EB:App O7 B 1 (.own O5.next 1):=by rw[pO];exact tT.xj fV
    have Qf:Kp O O7 (dk k (r::R) tk):=EA.more (S:=[k]) (by rw[pO];exact Kp.set) vi;have sw:O7.next=O6.next:=by rw[pO];rfl
    have Z_:BC O7 B k _ z [.sl (R.length+1+1) (PT++[.ptr k2 (r.kids.length*4)]) (.own O5.next 1),.v (.int .i64 (bP+1:Nat)),.v (.bool false),.v (.bool tx)]:=Z9.step (S:=[k]) (by rw[pO];exact Kp.set) (fun x hx=>.inl (by simpa using hx)) (by rw[kB];exact tO) h.c.zl;clear pO;refine VC.ag aa (ao @aB @tO ?_);refine WC.sound aa (ae @aB ?_);refine⟨Qf.more Kp.set vi,⟨k2,r.kids.length*4,nm,fq,[],.sl 0 [] .nil⟩::{r with q:=.bk k2 0 (r.kids.length+1) c2}::R,.own O5.next 1,⟨Z_.step (S:=[k]) Kp.set (fun x hx=>.inl (by simpa using hx)) ?_ h.c.zl,EB.xj fV⟩,rfl,fun x hx=>?_⟩;rotate_left
    ·have hx:x∈k::((k2::r.b::R.map (·.b))++[]++[O5.next]):=hx;simp only[List.mem_cons,List.mem_append,List.append_nil,List.not_mem_nil,or_false,List.mem_map]at hx;rcases hx with rfl | (rfl | rfl | ⟨g,hg,rfl⟩) | rfl
     ·exact .inl mZ
     ·rcases bN with e | e
      ·exact .inl (m4 e)
      ·exact .inr (by omega)
     ·exact .inl oR
     ·exact .inl (zW (List.mem_cons_of_mem _ hg))
     ·exact .inr (by omega)
    rw[VH.an,kB, <-hPG];have e:gj (⟨k2,r.kids.length*4,nm,fq,[],.sl 0 [] .nil⟩::{r with q:=.bk k2 0 (r.kids.length+1) c2}::R)=gj (r::R)++[.ptr k2 (r.kids.length*4)]:=qw _ _;unfold oQ;rw[e];rfl
def Rec.nd (r:Rec):Nd:=.mk r.name r.attrs r.kids []
theorem ow.head {O:VH} {B k:Nat} {p:Rec} {R:List Rec} {K:List Nd} (h:ow O B k (p::R)):ow O B k ({p with kids:=K}::R):=by
 cases R with
 | nil=>exact h
 | cons g R=>exact h
theorem L9 {p:Rec} {R:List Rec} {z:List MV} {K:List Nd}:ox ({p with kids:=K}::R) z=ox (p::R) z:=by
 cases R with
 | nil=>rfl
 | cons g R=>rfl
def L_ (r:Rec):List Rec->List Rec
 | []=>[]
 | p::R=>{p with kids:=p.kids++[r.nd]}::R
def Ma (r:Rec) (z:List MV):List Rec->List MV
 | []=>cY r.nd
 | _::_=>z
theorem BC.pop {O O':VH} {B k:Nat} {r:Rec} {R:List Rec} {z tl pre post:List MV} {S:List Nat} (h:BC O B k (r::R) z tl) (hc:O.hp r.b=some (.cells (pre++iu r++post))) (hl:pre.length=r.off) (hR:R=[]->post=tl) (u:Kp O O' S)
  (hn:∀x∈S,x=r.b\/gid r.q=some x) (n5:O'.hp r.b=some (.cells (pre++cY r.nd++post))):BC O' B k (L_ r R) (Ma r z R) tl:=by
 have va:=h.chain;have dJ:=va.lt;have ia:=h.top
 have hS:AT O S:=fun x hx j t n e=>by
  rcases hn x hx with e2 | e2
  ·subst e2;rw[hc]at e;cases e
  ·obtain⟨cs,e3⟩:=ia.1.L7 e2;rw[e3]at e;cases e
 cases R with
 | nil=>
   obtain⟨h1,h2⟩:=va;have hp:pre=[]:=List.eq_nil_of_length_eq_zero (by rw[hl,h2]);subst hp;refine⟨h.lt,Nat.le_trans h.le u.1,?_,lE _,trivial,trivial⟩;rw[<-h1,n5,hR rfl];rfl
 | cons p rest=>
   obtain⟨⟨c,e1,e2,j8⟩,e3,e4,e5⟩:=va;have aiJ:=j8.lo
   have hkS:k ∉ S:=fun hm=>by
    have:=h.lt;rcases hn k hm with e | e
    ·omega
    ·have:=(ia.1.lo e).1;omega
   obtain⟨sp,sK,U3⟩:=j8.cells;rw[hc]at sK;injection sK with sK;injection sK with sK
   have dF:pre.length=(ax p.kids).length:=by rw[hl,e3,cO]
   rw[List.append_assoc,List.append_assoc]at sK;obtain⟨qh,zK⟩:=List.append_inj sK dF;obtain⟨_,ov⟩:=List.append_inj zK rfl;subst qh;subst ov
   have hlen:(p.kids++[r.nd]).length=p.kids.length+1:=by simp
   refine⟨h.lt,Nat.le_trans h.le u.1,?_,h.zl,(e5.kp u hS (fun x hx _=>?_) h.lt).head,⟨.inr ⟨r.b,c,?_,?_,?_,?_⟩,fun i e=>?_⟩⟩
   ·show _=some (bV.cells (ox ({p with kids:=p.kids++[r.nd]}::rest) z++tl));rw[L9,u.2 k (Nat.lt_of_lt_of_le h.lt h.le) hkS];exact h.cells
   ·refine .inr fun hm=>?_
    have h6:=dJ x hx;rcases hn x.b hm with e | e
    ·omega
    ·have:=ia.2 _ e;omega
   ·show p.q=_;rw[e1,hlen]
   ·rw[hlen];exact e2
   ·show(ax (p.kids++[r.nd])).length=_;rw[cO]
   ·show Row O' _ 4 B r.b c (ax (p.kids++[r.nd]));have e6:ax (p.kids++[r.nd])=ax p.kids++cY r.nd:=by rw[dM,ax,ax,List.append_nil]
    rw[e6];refine j8.own u hS n5 ?_;rw[List.length_append,List.length_append,rL]at U3;rw[List.length_append,List.length_append,lE];exact U3
   ·have e:gid p.q=some i:=e;rw[e1]at e;injection e with e;subst e;exact e4
theorem ew.app {a b c d:List MV} (h:ew a b) (k:ew c d):ew (a++c) (b++d):=by
 refine⟨by rw[List.length_append,List.length_append,h.1,k.1],fun i x y hx hy=>?_⟩;rw[List.getElem?_append]at hx hy;by_cases e:i<a.length
 ·rw[if_pos e]at hx;rw[if_pos (by rw[<-h.1];exact e)]at hy;exact h.2 i x y hx hy
 ·rw[if_neg e]at hx;rw[if_neg (by rw[<-h.1];exact e)]at hy;rw[<-h.1]at hy;exact k.2 _ x y hx hy
theorem VC.close {O:VH} {B k:Nat} {r:Rec} {R:List Rec} {z tl pre post:List MV} {P:Program} {n:Sz} {D:List Deferred} {c:Code} {e:Env} {Q:VQ} (h:BC O B k (r::R) z tl) (hc:O.hp r.b=some (.cells (pre++iu r++post)))
  (hk:∀O1,Kp O O1 (r.b::(gid r.q).toList)->O1.hp r.b=some (.cells (pre++cY r.nd++post))->VC P n D c e O1 Q):VC P n D c e O Q:=by
 obtain⟨hg,dJ⟩:=h.top;have S1:cY r.nd=[.str r.name,.sl r.attrs.length (r.attrs.flatMap aZ) .aq,.sl r.kids.length (ax r.kids) .aq,.str []]:=by rw[Rec.nd,cY]
 rcases hg with⟨h0,h1,hp⟩ | ⟨kq,cq,hp,hn,hl,j8⟩
 ·refine VC.U9 (ds:=pre++cY r.nd++post) hc ?_ (hk _ (Kp.sub Kp.set (fun x hx=>.inl (by simp at hx ⊢;exact .inl hx))) (VH.an _ _ _));refine((ew.refl pre).app ?_).app (ew.refl post);rw[S1,iu]
  have hw:Wk r.q (.sl r.kids.length (ax r.kids) .aq):=by
   rw[h0,h1];rcases hp with e | e<;>rw[e]<;>exact Wk.tok
  exact(ew.refl [_,_]).app (ew.cons hw (ew.refl _))
 ·obtain⟨sp,h1,h2⟩:=j8.cells;have hne:r.b≠kq:=by have:=dJ kq (by rw[hp];rfl);omega
  have e1:pre++iu r++post=(pre++[.str r.name,.sl r.attrs.length (r.attrs.flatMap aZ) .aq])++ .bk kq 0 r.kids.length cq::(.str []::post):=by
   rw[iu,hp];simp
  rw[e1]at hc;refine VC.wc h1 hc hne (sz:=(ax r.kids).length) (by rw[List.length_append];omega) ?_
  have e2:pre++cY r.nd++post=(pre++[.str r.name,.sl r.attrs.length (r.attrs.flatMap aZ) .aq])++ .sl r.kids.length (ax r.kids) .aq::(.str []::post):=by
   rw[S1];simp
  rw[List.drop_zero,List.take_left, <-e2];refine hk _ ?_ (VH.an _ _ _);refine⟨Nat.le_refl _,fun i _ hi=>?_⟩;simp only[hp,gid,List.mem_cons,Option.toList_some,List.not_mem_nil,or_false,not_or]at hi;rw[VH.ak _ _ hi.1,VH.kh _ hi.2]
theorem agJ (r:Rec) (R:List Rec) (tk:Tok):re (fL Tryz.prog) 365 (.sl (R.length+1) (gj (r::R)) tk) none (.v (.int .i64 (R.length:Int))) (.v (.int .i64 (R.length:Int)))=some (.sl R.length (gj R) .full):=by
 have hl:=kA (r::R);have hc:=qw r R;have h2:=kA R;rw[hc]at hl ⊢;simp only[re,Lg,Lh,Option.map_some,cS];rw[if_pos ⟨by omega,by omega,Nat.zero_le _,Nat.le_refl _⟩,if_pos ⟨by simp,by rw[hl,Nat.mul_one];rfl⟩,if_neg (by omega)];cases R with
 | nil=>rfl
 | cons p R=>
   rw[if_neg (by simp)];simp only[Int.toNat_natCast,Nat.sub_zero,Nat.mul_one,Nat.zero_mul,List.drop_zero,if_true];rw[List.take_left' h2]
theorem adn {O:VH} {B k bP:Nat} {r:Rec} {R:List Rec} {tk:Tok} {dn tx:Bool} {z:List MV} (h:BS O B k (r::R) tk bP dn tx z) (hRl:R.length<=1000):
  VF Tryz.prog 268 [.ptr k 0] O (aI fun _ O'=>Kp O O' (dk k (r::R) tk)/\BS O' B k (L_ r R) .full bP (R.length==0) false (Ma r z R)):=by
 obtain⟨pre,post,hc,dF,BY,zX,Z6⟩:=h.c.loc;have ia:=h.c.top;have fV:=h.c.lt;have hBn:=h.c.le;have vi:∀x∈[k],x∈dk k (r::R) tk\/O.next<=x:=fun x hx=>.inl (by rw[List.mem_singleton]at hx;rw[hx];exact mZ)
 have hSn:∀x∈r.b::(gid r.q).toList,x=r.b\/gid r.q=some x:=fun x hx=>by
  rcases List.mem_cons.1 hx with e | e
  ·exact .inl e
  ·exact .inr (by simpa using e)
 refine VF.bU 34 [] Tryz.func268 ?_;refine VC.close h.c hc fun O1 u1 fx=>?_
 have hP:=h.c.pop hc dF (fun e=>(zX e).2.2) u1 hSn fx
 have cV:App O1 B 1 tk:=by
  refine h.a.L8 u1 fun x hx e=>?_
  rcases hSn x hx with e2 | e2
  ·subst e2;rw[hc]at e;cases e
  ·obtain⟨cs,e3⟩:=ia.1.L7 e2;rw[e3]at e;cases e
 have iR:Kp O O1 (dk k (r::R) tk):=(Kp.refl (S:=dk k (r::R) tk)).more u1 (fun x hx=>.inl (by
  rcases hSn x hx with e | e
  ·rw[e];exact oR
  ·exact m4 e))
 obtain⟨b0,b1,b2,b3,kB⟩:=qx (ez (L_ r R) (Ma r z R) hP.zl);have dL:=hP.cells;unfold oQ at dL;rw[kB]at dL;have hs3:=agJ r R tk;have hPl:=kA (r::R);generalize hPG:gj (r::R)=PT at*;simp only[au,aY,List.cons_append,List.nil_append,List.length_cons]at dL hPl;have qO:(((R.length+1:Nat):Int) - 1)=(R.length:Int):=by omega
 refine VC.bA ?_;refine WC.bI (.held [20]) [(0,.rd),(1,.rd),(2,.rd),(3,.rd),(4,.rd),(5,.rd),(6,.rd),(7,.rd),(8,.rd),(9,.rd),(10,.rd),(11,.rd),(12,.rd),(13,.rd),(14,.rd),(15,.rd),(16,.rd),(17,.rd),(18,.one),(19,.rd),(20,.one)] ?_;refine iL @aB @dL @qO @uI @hs3 ?_;refine VC.gen ?_;intro O2 F3;have bN:O2.hp k=some (.cells [b0,b1,b2,b3,.sl R.length (gj R) .full,.v (.int .i64 bP),.v (.bool dn),.v (.bool tx)]):=by rw[F3];exact VH.an _ _ _
 have Qc:Kp O O2 (dk k (r::R) tk):=iR.more (S:=[k]) (by rw[F3];exact Kp.set) vi;have AV:BC O2 B k _ _ [.sl R.length (gj R) .full,.v (.int .i64 bP),.v (.bool dn),.v (.bool tx)]:=hP.step (S:=[k]) (by rw[F3];exact Kp.set) (fun x hx=>.inl (by simpa using hx)) (by rw[kB];exact bN) hP.zl;clear F3
 have mo:∀b,BS ((O2.set k (.cells [b0,b1,b2,b3,.sl R.length (gj R) .full,.v (.int .i64 bP),.v (.bool b),.v (.bool tx)])).set k (.cells [b0,b1,b2,b3,.sl R.length (gj R) .full,.v (.int .i64 bP),.v (.bool b),.v (.bool false)])) B k (L_ r R) .full bP b false (Ma r z R):=fun b=>by
  refine⟨(AV.step (S:=[k]) (z':=Ma r z R) (tl':=[.sl R.length (gj R) .full,.v (.int .i64 bP),.v (.bool b),.v (.bool tx)]) Kp.set (fun x hx=>.inl (by simpa using hx)) (by rw[kB,VH.an];rfl) hP.zl).step (S:=[k]) Kp.set (fun x hx=>.inl (by simpa using hx)) ?_ hP.zl,trivial⟩;rw[kB,VH.an];cases R with
  | nil=>rfl
  | cons p R=>rfl
 have gJ:∀x y,Kp O ((O2.set k x).set k y) (dk k (r::R) tk):=fun x y=>(Qc.more Kp.set vi).more Kp.set vi
 cases R with
 | nil=>
   refine WC.sound aa (ao @aB @bN ?_);exact⟨gJ _ _,mo _⟩
 | cons p R=>
   refine WC.sound aa (ao @aB @bN ?_);exact⟨gJ _ _,mo _⟩
theorem VJ {O:VH} {B k:Nat} {r:Rec} {R:List Rec} {z tl:List MV} {tk:Tok} (h:BC O B k (r::R) z tl):∀x∈dk k (L_ r R) .full,x∈dk k (r::R) tk:=by
 intro x hx;cases R with
 | nil=>
   have hx:x∈[k]:=hx;rw[List.mem_singleton]at hx;rw[hx];exact mZ
 | cons p R=>
   obtain⟨⟨c,e1,_⟩,_⟩:=h.chain;have hx:x∈k::((p.b::R.map (·.b))++(gid p.q).toList++[]):=hx;rw[e1]at hx;simp only[gid,Option.toList_some,List.mem_cons,List.mem_append,List.append_nil,List.not_mem_nil,or_false,List.mem_map]at hx;rcases hx with rfl | (rfl | ⟨g,hg,rfl⟩) | rfl
   ·exact mZ
   ·exact zW (by simp)
   ·exact zW (by simp[hg])
   ·exact oR
def tK (t:Bs):Nd:=.mk [] [] [] t
theorem R_ (t:Bs):cY (tK t)=[.str [],.sl 0 [] .aq,.sl 0 [] .aq,.str t]:=by rw[tK,cY,ax];rfl
theorem Mb {O:VH} {B k bP:Nat} {tk:Tok} {dn tx:Bool} {z:List MV} (h:BS O B k [] tk bP dn tx z) (s:Bs) (hs:s.length<=maxLen):
  VF Tryz.prog 266 [.ptr k 0,.str s] O (aI fun m O'=>m=mi (if trimB s=[]then 0 else 16)/\O'=O):=by
 have hk:=h.c.cells;obtain⟨a0,a1,a2,a3,hr⟩:=qx (ez [] z h.c.zl);unfold oQ at hk;rw[hr]at hk;simp only[au,aY,List.cons_append,List.nil_append,List.length_nil]at hk;refine VF.bU 61 [.tmp 4] Tryz.func266 ?_;refine VC.ag aa (ae @aB ?_);refine VC.ag aa (ao @aB @hk ?_);refine ah.rt (IQ s _ hs) ?_;rintro _ O2 ⟨rfl,eO⟩;rw[eO];clear eO O2
 cases trimB s with
 | nil=>
   refine ao @aB (show(([]:List UInt8)==[])=true from rfl) ?_;trivial
 | cons c t=>
   refine ao @aB (show((c::t)==[])=false from rfl) ?_;trivial
theorem Mc {O:VH} {B k bP:Nat} {r:Rec} {R:List Rec} {tk:Tok} {dn tx:Bool} {z:List MV} (h:BS O B k (r::R) tk bP dn tx z) (hR:R.length<=1000):
  VF Tryz.prog 266 [.ptr k 0,.str []] O (aI fun m O'=>m=mi 0/\O'=O):=by
 have hk:=h.c.cells;have fV:=h.c.lt;have hBn:=h.c.le;obtain⟨a0,a1,a2,a3,hr⟩:=qx (ez (r::R) z h.c.zl);unfold oQ at hk;rw[hr]at hk;simp only[au,aY,List.cons_append,List.nil_append,List.length_cons]at hk;refine VF.bU 61 [.tmp 4] Tryz.func266 ?_;refine VC.ag aa (ae @aB ?_);refine VC.ag aa (ao @aB @hk ?_);refine VC.ag aa (ae @aB ?_);refine ah.rt (Ey h (by omega)) ?_;rintro _ O2 ⟨rfl,eO⟩;rw[eO];clear eO O2
 refine ae @aB ?_;refine VC.ag aa (ao @aB (show(([]:List UInt8)==[])=true from rfl) ?_);refine WC.sound aa (ae @aB ?_);trivial
theorem Me {O:VH} {B k bP:Nat} {r:Rec} {R:List Rec} {tk:Tok} {dn:Bool} {z:List MV} (h:BS O B k (r::R) tk bP dn true z) (hR0:R.length<=1000) (s t0:Bs) (K:List Nd) (hs:s.length<=1000000000000) (wK:r.kids=K++[tK t0]) (ht0:t0.length<=1000000000000) (kP:r.kids.length<=1000000) (hne:(s==[])=false):
  VF Tryz.prog 266 [.ptr k 0,.str s] O (aI fun m O'=>m=mi 0/\Kp O O' (dk k (r::R) tk)/\BS O' B k ({r with kids:=K++[tK (t0++s)]}::R) tk bP dn true z):=by
 have hR:R.length<=1000:=hR0;have hk:=h.c.cells;have fV:=h.c.lt;have hBn:=h.c.le;obtain⟨a0,a1,a2,a3,hr⟩:=qx (ez (r::R) z h.c.zl);unfold oQ at hk;rw[hr]at hk;simp only[au,aY,List.cons_append,List.nil_append,List.length_cons]at hk;refine VF.bU 61 [.tmp 4] Tryz.func266 ?_;refine VC.ag aa (ae @aB ?_);refine VC.ag aa (ao @aB @hk ?_);refine VC.ag aa (ae @aB ?_);refine ah.rt (Ey h (by omega)) ?_;rintro _ O2 ⟨rfl,eO⟩;rw[eO];clear eO O2
 refine ae @aB ?_;obtain⟨pre,post,hc,dF,BY,zX,Z6⟩:=h.c.loc;have ia:=h.c.top;refine VC.ag aa (aM @aB @hne @hk ?_);have hKl:r.kids.length=K.length+1:=by rw[wK];simp
 obtain⟨kq,cq,hq,yW,cC⟩:∃kq cq,r.q= .bk kq 0 (K.length+1) cq/\K.length+1<=cq/\Row O 112 4 B kq cq (ax r.kids):=by
  rcases ia.1 with⟨h0,_⟩ | ⟨k2,c,hp,h1,_,h2⟩
  ·omega
  ·rw[hKl]at hp h1;exact⟨k2,c,hp,h1,h2⟩
 have hrq:r.b<kq:=ia.2 kq (by rw[hq];rfl);obtain⟨sp,wR,Em⟩:=cC.cells;have tQ:ax r.kids=ax K++[.str [],.sl 0 [] .aq,.sl 0 [] .aq,.str t0]:=by rw[wK,dM,ax,ax,R_,List.append_nil]
 rw[tQ]at wR Em;have uf:=cO K
 have bu:(ax K++([.str [],.sl 0 [] .aq,.sl 0 [] .aq,.str t0]:List MV)++sp)[K.length*4+3]?=some (.str t0):=by
  rw[List.append_assoc, <-uf,List.getElem?_append_right (by omega),Nat.add_sub_cancel_left];rfl
 have mq:∀m:MV,(ax K++([.str [],.sl 0 [] .aq,.sl 0 [] .aq,.str t0]:List MV)++sp).set (K.length*4+3) m=ax K++[.str [],.sl 0 [] .aq,.sl 0 [] .aq,m]++sp:=fun m=>by
  rw[List.append_assoc, <-uf,List.set_append_right _ _ (by omega),Nat.add_sub_cancel_left,List.append_assoc];rfl
 generalize CX:ax K++[.str [],.sl 0 [] .aq,.sl 0 [] .aq,.str t0]++sp=C2 at*
 have VI:(pre++iu r++post)[r.off+2]?=some r.q:=by
  rw[List.append_assoc,List.getElem?_append_right (by omega), <-dF,Nat.add_sub_cancel_left];rfl
 rw[hq]at VI;generalize hC:pre++iu r++post=C at*;have qO:(((K.length+1:Nat):Int) - 1)=(K.length:Int):=by omega
 refine WC.bI (.held [17]) [(0,.rd),(1,.rd),(2,.rd),(3,.rd),(4,.rd),(5,.rd),(6,.rd),(7,.rd),(8,.rd),(9,.rd),(10,.rd),(11,.rd),(12,.rd),(13,.rd),(14,.rd),(15,.one),(16,.rd),(17,.one)] ?_;refine UM @aB @hc @VI @qO @wR @bu @mq @uI ?_;refine WC.sound aa (ae @aB ?_);have u:Kp O (O.set kq (.cells (ax K++[.str [],.sl 0 [] .aq,.sl 0 [] .aq,.str (t0++s)]++sp))) [kq]:=Kp.set;have EC:ax (K++[tK (t0++s)])=ax K++[.str [],.sl 0 [] .aq,.sl 0 [] .aq,.str (t0++s)]:=by rw[dM,ax,ax,R_,List.append_nil]
 have hl9:(K++[tK (t0++s)]).length=K.length+1:=by simp
 have hB9:B<=kq:=cC.lo;refine⟨(Kp.refl (S:=dk k (r::R) tk)).more u (fun x hx=>.inl (by rw[List.mem_singleton]at hx;rw[hx];exact m4 (by rw[hq];rfl))),h.c.I1 (r':={r with kids:=K++[tK (t0++s)]}) (by rw[hC];exact hc) dF (fun e=>(zX e).2.2) u rfl rfl (fun x hx=>.inr (by rw[List.mem_singleton]at hx;rw[hx,hq];rfl)) (by rw[VH.ak _ _ (by omega)];show _=some (bV.cells (pre++iu r++post));rw[hC];exact hc) (.inr ⟨kq,cq,?_,?_,?_,?_⟩) (fun i e=>ia.2 i e),h.a.L8 u (fun x hx e=>by rw[List.mem_singleton]at hx;subst hx;rw[wR]at e;cases e)⟩
 ·show r.q=_;rw[hq,hl9]
 ·rw[hl9];exact yW
 ·show(ax (K++[tK (t0++s)])).length=_;rw[cO]
 ·show Row _ _ 4 B kq cq (ax (K++[tK (t0++s)]));rw[EC];refine cC.own u (fun x hx j t n e=>by rw[List.mem_singleton]at hx;subst hx;rw[wR]at e;cases e) (VH.an _ _ _) ?_;rw[<-Em, <-CX];simp
theorem Mf {O:VH} {B k bP:Nat} {r:Rec} {R:List Rec} {tk:Tok} {dn:Bool} {z:List MV} (h:BS O B k (r::R) tk bP dn false z) (hc0:bP<=1000000) (hR0:R.length<=1000) (s:Bs) (hs:s.length<=1000000000000) (kP:r.kids.length<=1000000) (hne:(s==[])=false):
  VF Tryz.prog 266 [.ptr k 0,.str s] O (aI fun m O'=>Kp O O' (dk k (r::R) tk)/\match decide (4096<bP+1)with
   | true=>m=mi 2
   | false=>m=mi 0/\∃q',BS O' B k ({r with kids:=r.kids++[tK s],q:=q'}::R) tk (bP+1) dn true z/\∀x,gid q'=some x->gid r.q=some x\/O.next<=x):=by
 have hR:R.length<=1000:=hR0;have hk:=h.c.cells;have fV:=h.c.lt;have hBn:=h.c.le;obtain⟨a0,a1,a2,a3,hr⟩:=qx (ez (r::R) z h.c.zl);unfold oQ at hk;rw[hr]at hk;simp only[au,aY,List.cons_append,List.nil_append,List.length_cons]at hk;refine VF.bU 61 [.tmp 4] Tryz.func266 ?_;refine VC.ag aa (ae @aB ?_);refine VC.ag aa (ao @aB @hk ?_);refine VC.ag aa (ae @aB ?_);refine ah.rt (Ey h (by omega)) ?_;rintro _ O2 ⟨rfl,eO⟩;rw[eO];clear eO O2
 refine ae @aB ?_;obtain⟨pre,post,hc,dF,BY,zX,Z6⟩:=h.c.loc;have ia:=h.c.top;clear hc zX Z6 dF BY ia;clear pre post;refine VC.ag aa (aM @aB @hne @hk ?_);refine ah.rt (Z3 h hc0) ?_;rintro _ O3 ⟨rfl,h3,cG⟩;by_cases D2:bP+1<=4096;rotate_left
 ·rw[decide_eq_true (show 4096<bP+1 by omega),decide_eq_false D2];refine ae @aB ?_;exact(Kp.refl (S:=dk k (r::R) tk)).more cG (fun x hx=>.inl (by rw[List.mem_singleton]at hx;rw[hx];exact mZ))
 rw[decide_eq_false (show ¬4096<bP+1 by omega),decide_eq_true D2];dsimp only;have vi:∀x∈[k],x∈dk k (r::R) tk\/O.next<=x:=fun x hx=>.inl (by rw[List.mem_singleton]at hx;rw[hx];exact mZ)
 have AU:Kp O O3 (dk k (r::R) tk):=(Kp.refl (S:=dk k (r::R) tk)).more cG vi;have aki:=h3.c.le;refine ae @aB ?_;obtain⟨pre,post,eJ,dF,BY,zX,Z6⟩:=h3.c.loc;have ia:=h3.c.top
 have VI:(pre++iu r++post)[r.off+2]?=some r.q:=by
  rw[List.append_assoc,List.getElem?_append_right (by omega), <-dF,Nat.add_sub_cancel_left];rfl
 have mq:∀q',(pre++iu r++post).set (r.off+2) q'=pre++iu {r with q:=q'}++post:=fun q'=>by
  rw[List.append_assoc,List.set_append_right _ _ (by omega), <-dF,Nat.add_sub_cancel_left,List.append_assoc];rfl
 have hlC:(pre++iu r++post).length=pre.length+4+post.length:=by simp[rL];omega
 generalize hC:pre++iu r++post=C at*;refine VC.Ie [8,9,10,11,12,13] (by kernel_rfl) ?_;refine bt.AL 0 ?_;refine ae @aB ?_;refine bt.AL 1 ?_;refine ae @aB ?_;refine bt.AL 2 ?_;refine ae @aB ?_;refine bt.AL 3 ?_;refine aM @aB @eJ @VI ?_;refine bt.AL 4 ?_;refine ae @aB ?_;refine bt.AL 5 ?_;refine ae @aB ?_;have kH:=R9 ia.1;refine bt.AL 6 ?_;refine ao @aB @kH ?_;refine bt.aeQ (i:=7) rfl (by kernel_rfl) (by kernel_rfl) rfl rfl (fun _ _ _ hw hf=>Z4 hw hf) rfl ?_;simp only[aj];refine bt.fin (by kernel_rfl) ?_;refine bX.st (i:=8) rfl (by kernel_rfl) rfl rfl (PW aa (te:=⟨_,4,80,_⟩) (dx:=.slice 112) (q:=.sl 1 [.str [],.sl 0 [] .nil,.sl 0 [] .nil,.str []] .full) (j:=1) (ds:=[.str [],.sl 0 [] .nil,.sl 0 [] .nil,.str []]) ia.1 rfl rfl (by rw[nR];rfl) td.1.1 (by rw[nR];rfl) trivial (by dsimp only;omega) (by simp only[maxLen];omega) (by omega) rfl rfl) ?_;rintro m O4 ⟨wQ,lR,gQ,hm⟩
 obtain⟨k2,c2,rfl,bN⟩:∃k2 c2,m= .bk k2 0 (r.kids.length+1) c2/\(gid r.q=some k2\/O3.next<=k2):=by
  rcases hm with⟨k2,c2,h1,h2⟩ | ⟨h1,_⟩
  ·exact⟨k2,c2,h1,h2.imp id And.left⟩
  ·cases h1
 obtain⟨cC,yW⟩:Row O4 112 4 B k2 c2 (ax r.kids++[.str [],.sl 0 [] .nil,.sl 0 [] .nil,.str []])/\r.kids.length+1<=c2:=by
  rcases wQ with⟨h1,_⟩ | ⟨k3,c3,h1,h2,_,h4⟩
  ·omega
  ·injection h1 with h1 _ _ h3;subst h1;subst h3;exact⟨h4,h2⟩
 have Z7:r.b<k2:=by
  rcases bN with e | e
  ·exact ia.2 _ e
  ·omega
 have aiK:=lR.next;have eX:O4.hp r.b=some (.cells C):=(lR.hp _ BY (fun e=>by have:=ia.2 _ e;omega)).trans eJ;obtain⟨sp,wR,Em⟩:=cC.cells;simp only[aj];have uf:=cO r.kids
 have qS:∀a b c d:MV,((((ax r.kids++([.str [],.sl 0 [] .nil,.sl 0 [] .nil,.str []]:List MV)++sp).set (r.kids.length*4) a).set (r.kids.length*4+1) b).set (r.kids.length*4+1+1) c).set (r.kids.length*4+1+1+1) d=ax r.kids++[a,b,c,d]++sp:=fun a b c d=>by
  rw[<-uf];exact aeR _ _ _ _ _ _ _ _ _ _
 generalize CX:ax r.kids++[.str [],.sl 0 [] .nil,.sl 0 [] .nil,.str []]++sp=C2 at*;refine bX.G4 9 ?_;refine ae @aB ?_;refine bX.G4 11 ?_;refine ae @aB ?_;refine bX.G4 12 ?_;refine ae @aB ?_;refine bX.two (i:=10) (j:=13) (by kernel_rfl) ?_ ?_
 ·refine aH.o1 ?_;refine aM @aB @wR @qS ?_;refine bX.R0 (i:=13) ?_;refine aM @aB @eX @mq ?_;refine bX.bI [] ?_;refine WL.gen ?_;intro O5 lT;have gu:O5.next=O4.next:=by rw[lT];rfl
  have fm:O5.hp r.b=some (.cells (pre++iu {r with q:=.bk k2 0 (r.kids.length+1) c2}++post)):=by rw[lT];exact VH.an _ _ _
  have zY:O5.hp k2=some (.cells (ax r.kids++[.str [],.sl 0 [] .nil,.sl 0 [] .nil,.str s]++sp)):=by rw[lT];exact VH.sn (VH.an _ _ _)
  have u4:Kp O4 O5 [k2,r.b]:=by rw[lT];exact Kp.trans (S:=[k2]) (T:=[r.b]) Kp.set Kp.set
  clear lT
  have Qd:AT O4 [k2,r.b]:=fun x hx j t n e=>by
   simp only[List.mem_cons,List.not_mem_nil,or_false]at hx;rcases hx with rfl | rfl
   ·rw[wR]at e;cases e
   ·rw[eX]at e;cases e
  have u3:Kp O3 O5 (r.b::(gid r.q).toList):=((Kp.bl lR).trans u4).sub (fun x hx=>by
   simp only[List.mem_append,List.mem_cons,List.not_mem_nil,or_false]at hx ⊢;rcases hx with hx | hx | hx
   ·exact .inl (.inr hx)
   ·rcases bN with e | e
    ·rw[e];simp[hx]
    ·exact .inr (by omega)
   ·exact .inl (.inl hx))
  have nV:∀x∈r.b::(gid r.q).toList,x=r.b\/gid r.q=some x:=fun x hx=>by
   rcases List.mem_cons.1 hx with e | e
   ·exact .inl e
   ·exact .inr (by simpa using e)
  obtain⟨gd,_⟩:=h3.c.part (r':={r with q:=.bk k2 0 (r.kids.length+1) c2}) (by rw[hC];exact eJ) dF (fun e=>(zX e).2.2) u3 rfl rfl nV fm;obtain⟨b0,b1,b2,b3,kB⟩:=qx (ez ({r with q:=.bk k2 0 (r.kids.length+1) c2}::R) z h.c.zl);unfold oQ at gd;rw[kB]at gd;simp only[au,aY,List.cons_append,List.nil_append,List.length_cons]at gd;refine ao @aB @gd ?_
  have Mg:k2≠k:=by
   have:=cC.lo;omega
  have sL:Kp O O5 (dk k (r::R) tk):=AU.more u3 (fun x hx=>by
   rcases nV x hx with e | e
   ·rw[e];exact .inl oR
   ·exact .inl (m4 e))
  have eY:App O5 B 1 tk:=by
   refine h3.a.L8 u3 fun x hx e=>?_
   rcases nV x hx with e2 | e2
   ·subst e2;rw[eJ]at e;cases e
   ·obtain⟨cs,e3⟩:=ia.1.L7 e2;rw[e3]at e;cases e
  have EC:ax (r.kids++[tK s])=ax r.kids++[.str [],.sl 0 [] .aq,.sl 0 [] .aq,.str s]:=by rw[dM,ax,ax,R_,List.append_nil]
  refine VC.U9 (k:=k2) (ds:=ax (r.kids++[tK s])++sp) ((VH.ak _ _ Mg).trans zY) (by
   rw[EC];exact((ew.refl _).app (ew.cons (Wk.refl _) (ew.cons Wk.tok (ew.cons Wk.tok (ew.refl _))))).app (ew.refl _)) ?_
  refine WC.sound aa (ae @aB ?_);have u5:Kp O4 (O5.set k2 (.cells (ax (r.kids++[tK s])++sp))) [k2,r.b]:=(u4.trans Kp.set).sub (fun x hx=>.inl (by simp only[List.mem_append,List.mem_cons,List.not_mem_nil,or_false]at hx ⊢;exact hx.elim id .inl))
  have u6:Kp O3 (O5.set k2 (.cells (ax (r.kids++[tK s])++sp))) (r.b::(gid r.q).toList):=(u3.trans Kp.set).sub (fun x hx=>by
   simp only[List.mem_append,List.mem_cons,List.not_mem_nil,or_false]at hx ⊢;rcases hx with hx | hx
   ·exact .inl hx
   ·rcases bN with e | e
    ·rw[e];simp[hx]
    ·exact .inr (by omega))
  have I2:BC _ B k ({r with kids:=r.kids++[tK s],q:=.bk k2 0 (r.kids.length+1) c2}::R) z _:=h3.c.I1 (r':={r with kids:=r.kids++[tK s],q:=.bk k2 0 (r.kids.length+1) c2}) (by rw[hC];exact eJ) dF (fun e=>(zX e).2.2) u6 rfl rfl nV (VH.sn fm) (.inr ⟨k2,c2,by show _=_;simp,by simp;exact yW,by show(ax (r.kids++[tK s])).length=_;rw[cO],by
   show Row _ _ 4 B k2 c2 (ax (r.kids++[tK s]));refine cC.own u5 Qd (VH.an _ _ _) ?_;rw[<-Em, <-CX,EC];simp⟩) (fun i e=>by injection e with e;subst e;exact Z7)
  have e9:∀x,(O5.set k x).set k2 (.cells (ax (r.kids++[tK s])++sp))=(O5.set k2 (.cells (ax (r.kids++[tK s])++sp))).set k x:=fun x=>VH.set_comm (fun e=>Mg e.symm)
  have AV:=cC.lo;rw[e9]
  refine⟨(sL.more (S:=[k2]) Kp.set (fun x hx=>by
   rw[List.mem_singleton]at hx;rw[hx];rcases bN with e | e
   ·exact .inl (m4 e)
   ·exact .inr (by have:=cG.1;omega))).more Kp.set vi,_,⟨I2.step (S:=[k]) Kp.set (fun x hx=>.inl (by simpa using hx)) ?_ h3.c.zl,(eY.L8 (S:=[k2]) Kp.set (fun x hx e=>by rw[List.mem_singleton]at hx;subst hx;rw[zY]at e;cases e)).xj fV⟩,fun x e=>by
   injection e with e;subst e
   exact bN.imp id (fun e=>by have:=cG.1;omega)⟩
  rw[VH.an]
  have e8:ox ({r with kids:=r.kids++[tK s],q:=.bk k2 0 (r.kids.length+1) c2}::R) z=[b0,b1,b2,b3]:=by
   rw[<-kB];cases R with
   | nil=>rfl
   | cons g R=>rfl
  rw[e8];rfl
 ·refine aH.o1 ?_;refine aM @aB @eX @mq ?_;refine bX.R0 (i:=10) ?_;refine aM @aB @wR @qS ?_;refine bX.bI [] ?_;refine WL.gen ?_;intro O5 lT;rw[VH.set_comm (by omega)]at lT;have gu:O5.next=O4.next:=by rw[lT];rfl
  have fm:O5.hp r.b=some (.cells (pre++iu {r with q:=.bk k2 0 (r.kids.length+1) c2}++post)):=by rw[lT];exact VH.an _ _ _
  have zY:O5.hp k2=some (.cells (ax r.kids++[.str [],.sl 0 [] .nil,.sl 0 [] .nil,.str s]++sp)):=by rw[lT];exact VH.sn (VH.an _ _ _)
  have u4:Kp O4 O5 [k2,r.b]:=by rw[lT];exact Kp.trans (S:=[k2]) (T:=[r.b]) Kp.set Kp.set
  clear lT
  have Qd:AT O4 [k2,r.b]:=fun x hx j t n e=>by
   simp only[List.mem_cons,List.not_mem_nil,or_false]at hx;rcases hx with rfl | rfl
   ·rw[wR]at e;cases e
   ·rw[eX]at e;cases e
  have u3:Kp O3 O5 (r.b::(gid r.q).toList):=((Kp.bl lR).trans u4).sub (fun x hx=>by
   simp only[List.mem_append,List.mem_cons,List.not_mem_nil,or_false]at hx ⊢;rcases hx with hx | hx | hx
   ·exact .inl (.inr hx)
   ·rcases bN with e | e
    ·rw[e];simp[hx]
    ·exact .inr (by omega)
   ·exact .inl (.inl hx))
  have nV:∀x∈r.b::(gid r.q).toList,x=r.b\/gid r.q=some x:=fun x hx=>by
   rcases List.mem_cons.1 hx with e | e
   ·exact .inl e
   ·exact .inr (by simpa using e)
  obtain⟨gd,_⟩:=h3.c.part (r':={r with q:=.bk k2 0 (r.kids.length+1) c2}) (by rw[hC];exact eJ) dF (fun e=>(zX e).2.2) u3 rfl rfl nV fm;obtain⟨b0,b1,b2,b3,kB⟩:=qx (ez ({r with q:=.bk k2 0 (r.kids.length+1) c2}::R) z h.c.zl);unfold oQ at gd;rw[kB]at gd;simp only[au,aY,List.cons_append,List.nil_append,List.length_cons]at gd;refine ao @aB @gd ?_
  have Mg:k2≠k:=by
   have:=cC.lo;omega
  have sL:Kp O O5 (dk k (r::R) tk):=AU.more u3 (fun x hx=>by
   rcases nV x hx with e | e
   ·rw[e];exact .inl oR
   ·exact .inl (m4 e))
  have eY:App O5 B 1 tk:=by
   refine h3.a.L8 u3 fun x hx e=>?_
   rcases nV x hx with e2 | e2
   ·subst e2;rw[eJ]at e;cases e
   ·obtain⟨cs,e3⟩:=ia.1.L7 e2;rw[e3]at e;cases e
  have EC:ax (r.kids++[tK s])=ax r.kids++[.str [],.sl 0 [] .aq,.sl 0 [] .aq,.str s]:=by rw[dM,ax,ax,R_,List.append_nil]
  refine VC.U9 (k:=k2) (ds:=ax (r.kids++[tK s])++sp) ((VH.ak _ _ Mg).trans zY) (by
   rw[EC];exact((ew.refl _).app (ew.cons (Wk.refl _) (ew.cons Wk.tok (ew.cons Wk.tok (ew.refl _))))).app (ew.refl _)) ?_
  refine WC.sound aa (ae @aB ?_);have u5:Kp O4 (O5.set k2 (.cells (ax (r.kids++[tK s])++sp))) [k2,r.b]:=(u4.trans Kp.set).sub (fun x hx=>.inl (by simp only[List.mem_append,List.mem_cons,List.not_mem_nil,or_false]at hx ⊢;exact hx.elim id .inl))
  have u6:Kp O3 (O5.set k2 (.cells (ax (r.kids++[tK s])++sp))) (r.b::(gid r.q).toList):=(u3.trans Kp.set).sub (fun x hx=>by
   simp only[List.mem_append,List.mem_cons,List.not_mem_nil,or_false]at hx ⊢;rcases hx with hx | hx
   ·exact .inl hx
   ·rcases bN with e | e
    ·rw[e];simp[hx]
    ·exact .inr (by omega))
  have I2:BC _ B k ({r with kids:=r.kids++[tK s],q:=.bk k2 0 (r.kids.length+1) c2}::R) z _:=h3.c.I1 (r':={r with kids:=r.kids++[tK s],q:=.bk k2 0 (r.kids.length+1) c2}) (by rw[hC];exact eJ) dF (fun e=>(zX e).2.2) u6 rfl rfl nV (VH.sn fm) (.inr ⟨k2,c2,by show _=_;simp,by simp;exact yW,by show(ax (r.kids++[tK s])).length=_;rw[cO],by
   show Row _ _ 4 B k2 c2 (ax (r.kids++[tK s]));refine cC.own u5 Qd (VH.an _ _ _) ?_;rw[<-Em, <-CX,EC];simp⟩) (fun i e=>by injection e with e;subst e;exact Z7)
  have e9:∀x,(O5.set k x).set k2 (.cells (ax (r.kids++[tK s])++sp))=(O5.set k2 (.cells (ax (r.kids++[tK s])++sp))).set k x:=fun x=>VH.set_comm (fun e=>Mg e.symm)
  have AV:=cC.lo;rw[e9]
  refine⟨(sL.more (S:=[k2]) Kp.set (fun x hx=>by
   rw[List.mem_singleton]at hx;rw[hx];rcases bN with e | e
   ·exact .inl (m4 e)
   ·exact .inr (by have:=cG.1;omega))).more Kp.set vi,_,⟨I2.step (S:=[k]) Kp.set (fun x hx=>.inl (by simpa using hx)) ?_ h3.c.zl,(eY.L8 (S:=[k2]) Kp.set (fun x hx e=>by rw[List.mem_singleton]at hx;subst hx;rw[zY]at e;cases e)).xj fV⟩,fun x e=>by
   injection e with e;subst e
   exact bN.imp id (fun e=>by have:=cG.1;omega)⟩
  rw[VH.an]
  have e8:ox ({r with kids:=r.kids++[tK s],q:=.bk k2 0 (r.kids.length+1) c2}::R) z=[b0,b1,b2,b3]:=by
   rw[<-kB];cases R with
   | nil=>rfl
   | cons g R=>rfl
  rw[e8];rfl
structure PS where
 st:List (Bs×List (Bs×Bs)×List Nd)
 bP:Nat
 dn:Bool
 tx:Bool
 z:Nd
def m5 (s:Bs) (p:PS):Except Int PS:=
 match p.st with
 | []=>if trimB s=[]then .ok p else .error 16
 | (n,a,K)::R=>
   if s=[]then .ok p
   else if p.tx then match K.getLast? with
    | some (.mk _ _ _ t)=>.ok {p with st:=(n,a,K.dropLast++[tK (t++s)])::R}
    | none=>.ok p
   else if 4096<p.bP+1 then .error 2
   else .ok {p with st:=(n,a,K++[tK s])::R,bP:=p.bP+1,tx:=true}
def rM (nm:Bs) (fq:List (Bs×Bs)) (p:PS):Except Int PS:=
 if p.dn then .error 16 else if 64<=p.st.length then .error 2 else if 4096<p.bP+1 then .error 2
 else .ok {p with st:=(nm,fq,[])::p.st,bP:=p.bP+1,tx:=false}
def sM (p:PS):PS:=
 match p.st with
 | []=>p
 | [(n,a,K)]=>{p with st:=[],dn:=true,tx:=false,z:=.mk n a K []}
 | (n,a,K)::(n2,a2,K2)::R=>{p with st:=(n2,a2,K2++[.mk n a K []])::R,dn:=false,tx:=false}
def jP (x:Tk) (p:PS):Except Int PS:=
 if x.kind=4 then m5 x.text p
 else if x.kind=1 then rM x.name x.attrs p
 else if x.kind=2 then(match rM x.name x.attrs p with
  | .error e=>.error e
  | .ok q=>.ok (sM q))
 else if x.kind=3 then(match p.st with
  | []=>.error 16
  | f::_=>if f.1=x.name then .ok (sM p)else .error 14)
 else .ok p
def iS:List Tk->PS->Except (Int×Nat) PS
 | [],p=>.ok p
 | x::l,p=>match jP x p with
   | .error e=>.error (e,x.off)
   | .ok q=>iS l q
def p0:PS:=⟨[],0,false,false,PK⟩
def gD (t:Bs):Except (Int×Nat) Nd:=
 match tE t with
 | .error e=>.error e
 | .ok l=>match iS l p0 with
   | .error e=>.error e
   | .ok p=>if p.st≠[]then .error (13,t.length)else if p.dn then .ok p.z else .error (16,t.length)
def ED:List (Bs×List (Bs×Bs)×List Nd)->Nat
 | []=>0
 | f::R=>1+f.1.length+iN f.2.1+jB f.2.2+ED R
def F4 (p:PS):Nat:=ED p.st+if p.dn then j7 p.z else 0
structure kC (p:PS) (L:Nat):Prop where
 bP:p.bP<=4096
 len:p.st.length<=64
 Lk:p.tx=true->∃n a K t R,p.st=(n,a,K++[tK t])::R
 wt:F4 p<=L+p.bP
theorem wm (K M:List Nd):jB (K++M)=jB K+jB M:=by
 induction K with
 | nil=>rw[List.nil_append,jB,Nat.zero_add]
 | cons x K ih=>rw[List.cons_append,jB,jB,ih];omega
theorem Sa (t:Bs):j7 (tK t)=1+t.length:=by rw[tK,zI,iN,jB];simp
theorem kC.more {p:PS} {L L':Nat} (h:kC p L) (hl:L<=L'):kC p L':=⟨h.bP,h.len,h.Lk,by have:=h.wt;omega⟩
theorem VK {s:Bs} {p q:PS} {L:Nat} (h:kC p L) (e:m5 s p= .ok q):kC q (L+s.length):=by
 unfold m5 at e;obtain⟨st,bP,dn,tx,z⟩:=p;obtain⟨h2,h3,h4,h5⟩:=h;dsimp only at e h2 h3 h4 h5;cases st with
 | nil=>
   dsimp only at e;split at e
   ·injection e with e;subst e;exact kC.more ⟨h2,h3,h4,h5⟩ (Nat.le_add_right _ _)
   ·cases e
 | cons f R=>
   obtain⟨n,a,K⟩:=f;dsimp only at e;split at e
   ·injection e with e;subst e;exact kC.more ⟨h2,h3,h4,h5⟩ (Nat.le_add_right _ _)
   split at e
   ·rename_i ht;obtain⟨n',a',K',t,R',he⟩:=h4 ht;injection he with he1 he2;injection he1 with e1 e2;injection e2 with e2 e3
    subst e1;subst e2;subst e3;subst he2
    rw[List.getLast?_concat,List.dropLast_concat]at e;dsimp only[tK]at e;injection e with e;subst e
    refine⟨h2,h3,fun _=>⟨_,_,_,_,_,rfl⟩,?_⟩
    ·simp only[F4,ED,wm,jB,Sa]at h5 ⊢;have e6:j7 (Nd.mk [] [] [] (t++s))=1+(t++s).length:=Sa _;rw[e6,List.length_append];omega
   split at e
   ·cases e
   ·injection e with e;subst e
    refine⟨by dsimp only;omega,h3,fun _=>⟨_,_,_,_,_,rfl⟩,?_⟩
    ·simp only[F4,ED,wm,jB,Sa]at h5 ⊢;omega
theorem EE {nm:Bs} {fq:List (Bs×Bs)} {p q:PS} {L:Nat} (h:kC p L) (e:rM nm fq p= .ok q):kC q (L+nm.length+iN fq)/\q.st=(nm,fq,[])::p.st:=by
 unfold rM at e;split at e
 ·cases e
 split at e
 ·cases e
 split at e
 ·cases e
 ·injection e with e;subst e
  rename_i hd DP hc;refine⟨⟨by dsimp only;omega,by simp only[List.length_cons];omega,(fun e=>by cases e),?_⟩,rfl⟩
  ·have h5:=h.wt;simp only[F4,ED,jB,hd]at h5 ⊢;omega
theorem Mh {p:PS} {L:Nat} (h:kC p L):kC (sM p) L:=by
 unfold sM;split
 ·exact h
 ·rename_i n a K hs;obtain⟨h2,h3,h4,h5⟩:=h;refine⟨h2,Nat.zero_le _,(fun e=>by cases e),?_⟩;simp only[F4,ED,hs,zI]at h5 ⊢;simp;omega
 ·rename_i n a K n2 a2 K2 R hs;obtain⟨h2,h3,h4,h5⟩:=h;refine⟨h2,by rw[hs]at h3;simp only[List.length_cons]at h3 ⊢;omega,(fun e=>by cases e),?_⟩;simp only[F4,ED,hs,wm,jB,zI]at h5 ⊢;simp;omega
def zZ (x:Tk):Nat:=x.name.length+iN x.attrs+x.text.length
theorem Hu {x:Tk} {p q:PS} {L:Nat} (h:kC p L) (e:jP x p= .ok q):kC q (L+zZ x):=by
 unfold jP at e;unfold zZ;split at e
 ·exact(VK h e).more (by omega)
 split at e
 ·exact(EE h e).1.more (by omega)
 split at e
 ·split at e
  ·cases e
  ·rename_i q' hq;injection e with e;subst e
   exact(Mh (EE h hq).1).more (by omega)
 split at e
 ·split at e
  ·cases e
  ·split at e
   ·injection e with e;subst e;exact(Mh h).more (by omega)
   ·cases e
 ·injection e with e;subst e;exact h.more (by omega)
theorem Mi {n:Bs} {a:List (Bs×Bs)} {K:List Nd} {R:List (Bs×List (Bs×Bs)×List Nd)} {p:PS} {L:Nat} (h:kC p L) (hm:(n,a,K)∈p.st):K.length<=L+4096:=by
 have h5:=h.wt;have h2:=h.bP;have hk:=AK K;unfold F4 at h5
 have:∀st:List (Bs×List (Bs×Bs)×List Nd),(n,a,K)∈st->jB K<=ED st:=by
  intro st;induction st with
  | nil=>intro h;cases h
  | cons f R ih=>
    intro h;rw[ED];rcases List.mem_cons.1 h with rfl | h
    ·dsimp only;omega
    ·have:=ih h;omega
 have:=this _ hm;omega
theorem wo {nm:Bs} {fq:List (Bs×Bs)} {p:PS} {e:Int} (h:rM nm fq p= .error e):e=16\/e=2:=by
 unfold rM at h;split at h
 ·injection h with h;exact .inl h.symm
 split at h
 ·injection h with h;exact .inr h.symm
 split at h
 ·injection h with h;exact .inr h.symm
 ·cases h
theorem Qg {s:Bs} {p:PS} {e:Int} (h:m5 s p= .error e):e=16\/e=2:=by
 unfold m5 at h;split at h
 ·split at h
  ·cases h
  ·injection h with h;exact .inl h.symm
 ·split at h
  ·cases h
  split at h
  ·split at h<;>cases h
  split at h
  ·injection h with h;exact .inr h.symm
  ·cases h
theorem Qh {x:Tk} {p:PS} {e:Int} (h:jP x p= .error e):e=16\/e=2\/e=14:=by
 unfold jP at h;split at h
 ·exact(Qg h).imp id .inl
 split at h
 ·exact(wo h).imp id .inl
 split at h
 ·split at h
  ·rename_i h2;injection h with h;subst h
   exact(wo h2).imp id .inl
  ·cases h
 split at h
 ·split at h
  ·injection h with h;exact .inl h.symm
  ·split at h
   ·cases h
   ·injection h with h;exact .inr (.inr h.symm)
 ·cases h
def BP (O:VH) (B k:Nat) (U:List Nat) (p:PS):Prop:=∃R tk,BS O B k R tk p.bP p.dn p.tx (cY p.z)/\qR R=p.st/\∀x∈dk k R tk,x∈U
theorem BP.ge {O O':VH} {B k:Nat} {U:List Nat} {p:PS} (h:BP O B k U p) (g:O.Ge O'):BP O' B k U p:=by
 obtain⟨R,tk,h1,h2,h3⟩:=h;exact⟨R,tk,h1.ge g,h2,h3⟩
def Sp (O O':VH) (B k:Nat) (U:List Nat) (q:PS):Prop:=∃U',(∀x∈U',x∈U\/O.next<=x)/\BP O' B k U' q
theorem Kp.Sb {O O':VH} {S U:List Nat} (h:Kp O O' S) (hs:∀x∈S,x∈U):Kp O O' U:=h.sub fun x hx=>.inl (hs x hx)
theorem Sp.refl {O:VH} {B k:Nat} {U:List Nat} {q:PS} (h:BP O B k U q):Sp O O B k U q:=⟨U,fun _ h=>.inl h,h⟩
theorem Sp.trans {O O1 O2:VH} {B k:Nat} {U U1:List Nat} {q:PS} (hl:O.next<=O1.next) (h1:∀x∈U1,x∈U\/O.next<=x) (h:Sp O1 O2 B k U1 q):Sp O O2 B k U q:=by
 obtain⟨U2,h2,h3⟩:=h;exact⟨U2,fun x hx=>(h2 x hx).elim (h1 x) fun e=>.inr (by omega),h3⟩
theorem aaa {O:VH} {B k:Nat} {U:List Nat} {p:PS} {L:Nat} (h:BP O B k U p) (hp:kC p L) (hL:L<=100000) (s:Bs) (hs:s.length<=1000000):
  VF Tryz.prog 266 [.ptr k 0,.str s] O (aI fun m O'=>Kp O O' U/\match m5 s p with
   | .error e=>m=mi e
   | .ok q=>m=mi 0/\Sp O O' B k U q):=by
 obtain⟨R,tk,hb,hR,hU⟩:=h;obtain⟨st,bP,dn,tx,z⟩:=p;dsimp only at hb hR;subst hR;have hlen:=hp.len;dsimp only[qR]at hlen;rw[List.length_map]at hlen;have aeS:bP<=4096:=hp.bP;cases R with
 | nil=>
   refine VF.mono ?_ (Mb hb s (by simp only[maxLen];omega));rintro(m | m) O' hr
   ·obtain⟨rfl,rfl⟩:=hr;refine⟨Kp.refl,?_⟩;have e5:m5 s ⟨qR [],bP,dn,tx,z⟩=if trimB s=[]then .ok ⟨[],bP,dn,tx,z⟩else .error 16:=rfl
    rw[e5];by_cases h2:trimB s=[]
    ·rw[if_pos h2,if_pos h2];exact⟨rfl,Sp.refl ⟨[],tk,hb,rfl,hU⟩⟩
    ·rw[if_neg h2,if_neg h2]
   ·exact hr.elim
 | cons r R=>
   simp only[List.length_cons]at hlen
   have kP:r.kids.length<=1000000:=by
    have:=Mi (R:=[]) hp (List.mem_cons_self (a:=(r.name,r.attrs,r.kids)) (l:=qR R));omega
   by_cases TC:s=[]
   ·subst TC;refine VF.mono ?_ (Mc hb (by omega));rintro(m | m) O' hr
    ·obtain⟨rfl,rfl⟩:=hr;exact⟨Kp.refl,rfl,Sp.refl ⟨r::R,tk,hb,rfl,hU⟩⟩
    ·exact hr.elim
   have hne:(s==[])=false:=by cases s<;>simp at TC ⊢
   cases tx with
   | true=>
     obtain⟨n,a,K,t,R',he⟩:=hp.Lk rfl;have he:(r.name,r.attrs,r.kids)::qR R=(n,a,K++[tK t])::R':=he;injection he with he1 he2;injection he1 with e1 e2;injection e2 with e2 e3
     have ht:t.length<=1000000:=by
      have h5:=hp.wt;have e4:qR (r::R)=(r.name,r.attrs,r.kids)::qR R:=rfl;simp only[F4,e4,ED,e3,wm,jB,Sa]at h5;omega
     refine VF.mono ?_ (Me hb (by omega) s t K (by omega) e3 (by omega) kP hne);rintro(m | m) O' hr
     ·obtain⟨rfl,h1,h2⟩:=hr;refine⟨h1.Sb hU,?_⟩
      have e5:m5 s ⟨qR (r::R),bP,dn,true,z⟩= .ok ⟨(r.name,r.attrs,K++[tK (t++s)])::qR R,bP,dn,true,z⟩:=by
       unfold m5;show(if s=[]then _ else _)=_;rw[if_neg TC,if_pos rfl,e3,List.getLast?_concat,List.dropLast_concat];rfl
      rw[e5];exact⟨rfl,U,fun _ h=>.inl h,_,tk,h2,rfl,hU⟩
     ·exact hr.elim
   | false=>
     refine VF.mono ?_ (Mf hb (by omega) (by omega) s (by omega) kP hne);rintro(m | m) O' hr
     ·obtain⟨h1,hr⟩:=hr;refine⟨h1.Sb hU,?_⟩
      have e5:m5 s ⟨qR (r::R),bP,dn,false,z⟩=if 4096<bP+1 then .error 2 else .ok ⟨(r.name,r.attrs,r.kids++[tK s])::qR R,bP+1,dn,true,z⟩:=by
       unfold m5;show(if s=[]then _ else _)=_;rw[if_neg TC,if_neg (by simp)];rfl
      rw[e5];by_cases hc:4096<bP+1
      ·rw[decide_eq_true hc]at hr;rw[if_pos hc];exact hr
      ·rw[decide_eq_false hc]at hr;rw[if_neg hc];obtain⟨rfl,q',h2,h3⟩:=hr;refine⟨rfl,dk k ({r with kids:=r.kids++[tK s],q:=q'}::R) tk,fun x hx=>?_,_,tk,h2,rfl,fun _ h=>h⟩;have hx:x∈k::((r.b::R.map (·.b))++(gid q').toList++(Tok.id tk).toList):=hx;simp only[List.mem_cons,List.mem_append]at hx;rcases hx with rfl | ((rfl | hx) | hx) | hx
       ·exact .inl (hU _ mZ)
       ·exact .inl (hU _ oR)
       ·obtain⟨g,hg,rfl⟩:=List.mem_map.1 hx;exact .inl (hU _ (zW (List.mem_cons_of_mem _ hg)))
       ·rcases h3 x (by simpa using hx)with e | e
        ·exact .inl (hU _ (m4 e))
        ·exact .inr e
       ·exact .inl (hU _ (CE (by simpa using hx)))
     ·exact hr.elim
theorem Sc {O:VH} {B k:Nat} {U:List Nat} {p:PS} {L:Nat} (h:BP O B k U p) (hp:kC p L) (hL:L<=100000) (kd:Int) (nm tt:Bs) (fq:List (Bs×Bs)) (p1 p2 p3:Int) (Ht:fq.length<=100000):
  VF Tryz.prog 267 [.ptr k 0,.agg [mi kd,.str nm,.sl fq.length (fq.flatMap aZ) .aq,.str tt,mi p1,mi p2,mi p3]] O (aI fun m O'=>Kp O O' U/\match rM nm fq p with
   | .error e=>m=mi e
   | .ok q=>m=mi 0/\Sp O O' B k U q):=by
 obtain⟨R,tk,hb,hR,hU⟩:=h;obtain⟨st,bP,dn,tx,z⟩:=p;dsimp only at hb hR;subst hR;have aeS:bP<=4096:=hp.bP
 have kP:∀r∈R,r.kids.length<=1000000:=fun r hr=>by
  have:=Mi hp (show(r.name,r.attrs,r.kids)∈qR R from List.mem_map.2 ⟨r,hr,rfl⟩) (R:=[]);omega
 refine VF.mono ?_ (Z5 hb (by omega) kd nm tt fq p1 p2 p3 Ht kP);have hl:(qR R).length=R.length:=by unfold qR;rw[List.length_map]
 rintro(m | m) O' hr
 ·obtain⟨h1,hr⟩:=hr;refine⟨h1.Sb hU,?_⟩;unfold rM;unfold qy at hr;dsimp only;rw[hl];cases dn
  ·rw[if_neg (by simp)]at hr ⊢;by_cases DP:64<=R.length
   ·rw[if_pos DP]at hr ⊢;exact hr
   ·rw[if_neg DP]at hr ⊢;by_cases hc:4096<bP+1
    ·rw[if_pos hc]at hr ⊢;exact hr
    ·rw[if_neg hc]at hr ⊢;obtain⟨rfl,R',tk',h2,h3,h4⟩:=hr;exact⟨rfl,dk k R' tk',fun x hx=>(h4 x hx).imp (hU x) id,R',tk',h2,h3,fun _ h=>h⟩
  ·rw[if_pos rfl]at hr ⊢;exact hr
 ·exact hr.elim
theorem Sd {O:VH} {B k:Nat} {U:List Nat} {p:PS} {L:Nat} (h:BP O B k U p) (hp:kC p L) (hne:p.st≠[]):
  VF Tryz.prog 268 [.ptr k 0] O (aI fun _ O'=>Kp O O' U/\BP O' B k U (sM p)):=by
 obtain⟨R,tk,hb,hR,hU⟩:=h;obtain⟨st,bP,dn,tx,z⟩:=p;dsimp only at hb hR hne;subst hR;have hlen:=hp.len;dsimp only[qR]at hlen;rw[List.length_map]at hlen;cases R with
 | nil=>exact absurd rfl hne
 | cons r R=>
   refine VF.mono ?_ (adn hb (by simp only[List.length_cons]at hlen;omega));rintro(m | m) O' hr
   ·obtain⟨h1,h2⟩:=hr;refine⟨h1.Sb hU,?_⟩;have aeT:=VJ (tk:=tk) hb.c;cases R with
    | nil=>exact⟨[],_,h2,rfl,fun x hx=>hU x (aeT x hx)⟩
    | cons g R=>exact⟨_,_,h2,rfl,fun x hx=>hU x (aeT x hx)⟩
   ·exact hr.elim
theorem VN {O:VH} {B k:Nat} {U:List Nat} {p:PS} {L:Nat} (h:BP O B k U p) (hp:kC p L) (hU:∀x∈U,x<O.next) (t:Bs) (x:Tk) (hL:L+zZ x<=100000) (uf:1<=x.kind/\x.kind<=6):
  VF Tryz.prog 245 [.ptr k 0,.agg (tR t x)] O (aI fun m O'=>Kp O O' U/\match jP x p with
   | .error e=>m=mi e
   | .ok q=>m=mi 0/\Sp O O' B k U q):=by
 have Ht:x.attrs.length<=100000:=by
  have:∀a:List (Bs×Bs),a.length<=iN a:=by
   intro a;induction a with
   | nil=>exact Nat.zero_le _
   | cons y a ih=>rw[iN,List.length_cons];omega
  have:=this x.attrs;unfold zZ at hL;omega
 have uH:x.text.length<=100000:=by unfold zZ at hL;omega
 have hLL:L<=100000:=by omega
 have hS:jP x p=if x.kind=4 then m5 x.text p else if x.kind=1 then rM x.name x.attrs p else if x.kind=2 then(match rM x.name x.attrs p with
  | .error e=>.error e
  | .ok q=>.ok (sM q))else if x.kind=3 then(match p.st with
  | []=>.error 16
  | f::_=>if f.1=x.name then .ok (sM p)else .error 14)else .ok p:=rfl
 rw[hS];clear hS;have hW:x.name.length+iN x.attrs<=zZ x:=by unfold zZ;omega
 generalize zZ x=W at*;unfold tR;obtain⟨kd,nm,fq,tt,off⟩:=x;dsimp only at Ht uH uf hW ⊢;generalize ((lS t off:Nat):Int)=p2 at*;generalize Et t off=p3 at*;generalize ((off:Nat):Int)=p1 at*;simp only[au];refine VF.bU 50 [.tmp 4] Tryz.func245 ?_;refine VC.ag aa (ae @aB ?_);refine VC.bx ?_;rintro O1 ⟨aU,Cl,du⟩;have h1:=h.ge aU;have iR:Kp O O1 U:=Kp.ge aU;have z6:∀x∈U,x∈U\/O.next<=x:=fun _ h=>.inl h
 have hnU:O.next ∉ U:=fun hm=>by have:=hU _ hm;omega
 rcases(show kd=4\/kd=1\/kd=2\/kd=3\/kd=5\/kd=6 by omega)with rfl | rfl | rfl | rfl | rfl | rfl
 all_goals simp only[Int.reduceEq,if_true,if_false,reduceIte]
 ·refine VC.ag aa (ao @aB @Cl ?_);refine ah.rt (aaa h1 hp hLL tt (by omega)) ?_;rintro m O2 ⟨hl,hm⟩;generalize m5 tt p=F at hm ⊢;cases F with
  | error e=>
    dsimp only at hm;subst hm
    refine ae @aB ?_;exact iR.more hl z6
  | ok q=>
    obtain⟨rfl,hq⟩:=hm;refine ae @aB ?_;exact⟨iR.more hl z6,hq.trans aU.next z6⟩
 ·refine VC.ag aa (ao @aB @Cl ?_);refine ah.rt (Sc h1 hp hLL 1 nm tt fq p1 p2 p3 Ht) ?_;rintro m O2 ⟨hl,hm⟩;have Ez:=(hl.2 O.next (by omega) hnU).trans Cl;cases hF:rM nm fq p with
  | error e=>
    rw[hF]at hm;dsimp only at hm;subst hm
    rcases wo hF with rfl | rfl
    ·refine aM @aB @Ez @au ?_;exact iR.more hl z6
    ·refine aM @aB @Ez @au ?_;exact iR.more hl z6
  | ok q=>
    rw[hF]at hm;obtain⟨rfl,hq⟩:=hm;refine ao @aB @Ez ?_;exact⟨iR.more hl z6,hq.trans aU.next z6⟩
 ·refine VC.ag aa (ao @aB @Cl ?_);refine ah.rt (Sc h1 hp hLL 2 nm tt fq p1 p2 p3 Ht) ?_;rintro m O2 ⟨hl,hm⟩;have Ez:=(hl.2 O.next (by omega) hnU).trans Cl;cases hF:rM nm fq p with
  | error e=>
    rw[hF]at hm;dsimp only at hm;subst hm
    rcases wo hF with rfl | rfl
    ·refine aM @aB @Ez @au ?_;exact iR.more hl z6
    ·refine aM @aB @Ez @au ?_;exact iR.more hl z6
  | ok q=>
    rw[hF]at hm;obtain⟨rfl,U2,hU2,hq⟩:=hm;obtain⟨b_,cP⟩:=EE hp hF;refine ao @aB @Ez ?_;refine ah.rt (Sd hq b_ (by rw[cP];simp)) ?_;rintro m O3 ⟨mY,vk⟩;refine ae @aB ?_;have aeU:∀x∈U2,x∈U\/O.next<=x:=fun x hx=>(hU2 x hx).imp id fun e=>by have:=aU.next;omega
    exact⟨(iR.more hl z6).more mY aeU,U2,aeU,vk⟩
 ·obtain⟨R,tk,hb,hR,hUo⟩:=h1;have dL:=hb.c.cells;obtain⟨a0,a1,a2,a3,hr⟩:=qx (ez R (cY p.z) hb.c.zl);unfold oQ at dL;rw[hr]at dL;simp only[au,aY,List.cons_append,List.nil_append]at dL
  have hRl:R.length<=64:=by
   have:=hp.len;rw[<-hR]at this;unfold qR at this;rw[List.length_map]at this;exact this
  cases R with
  | nil=>
    have cP:p.st=[]:=hR.symm;rw[cP];dsimp only;refine VC.ag aa (c8 @aB @Cl @dL @List.length_nil.{0} ?_);exact iR
  | cons r R=>
    have cP:p.st=(r.name,r.attrs,r.kids)::qR R:=hR.symm;rw[cP];dsimp only;simp only[List.length_cons]at hRl;obtain⟨pre,post,fx,dF,BY,_,_⟩:=hb.c.loc
    have N3:(pre++iu r++post)[r.off]?=some (.str r.name):=by
     rw[List.append_assoc,List.getElem?_append_right (by omega), <-dF,Nat.sub_self];rfl
    generalize pre++iu r++post=C at*;have Qi:BP O1 B k U p:=⟨r::R,tk,hb,hR,hUo⟩;refine VC.ag aa (c8 @aB @Cl @dL @List.length_cons.{0} ?_);refine VC.oe [7,8] ?_;refine ab.av 0 ?_;refine ae @aB ?_;refine ab.av 5 ?_;refine ae @aB ?_;refine ab.ld (m:=.str nm) 6 ?_ ?_
    ·exact dH @aB @Cl
    simp only[aj];refine ab.call (i:=1) (Ey hb (by omega)) ?_;rintro _ O9 ⟨rfl,eO⟩;simp only[aj];rw[eO];clear eO O9
    refine⟨VH.Ge.refl _,?_⟩;refine ab.av 2 ?_;refine ae @aB ?_;refine ab.av 3 ?_;refine ae @aB ?_;refine ab.ld (m:=.str r.name) 4 ?_ ?_
    ·exact kt3 @aB @fx @N3
    simp only[aj];refine ab.bI [(7,.av),(8,.av)] ?_;by_cases hn:r.name=nm
    ·rw[if_pos hn];have Xo:(r.name==nm)=true:=beq_iff_eq.2 hn;refine ao @aB @Xo ?_;refine ah.rt (Sd Qi hp (by rw[cP];simp)) ?_;rintro m O3 ⟨mY,vk⟩;refine ae @aB ?_;refine WC.sound aa (ae @aB ?_);exact⟨iR.more mY z6,U,z6,vk⟩
    ·rw[if_neg hn];have Xo:(r.name==nm)=false:=by simpa using hn
     refine ao @aB @Xo ?_;exact iR
 ·refine VC.ag aa (ao @aB @Cl ?_);refine WC.sound aa (ae @aB ?_);exact⟨iR,U,z6,h1⟩
 ·refine VC.ag aa (ao @aB @Cl ?_);refine WC.sound aa (ae @aB ?_);exact⟨iR,U,z6,h1⟩
end Go.Proofs.YtoclnkfdahmnhaaGreatDoor
