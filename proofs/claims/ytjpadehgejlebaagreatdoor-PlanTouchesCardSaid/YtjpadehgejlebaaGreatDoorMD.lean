import Derived.Test.YtjpadehgejlebaaGreatDoorMC
import Derived.Lib.LazyBuf
import Derived.Laws.LoneSync
set_option linter.unusedVariables false
set_option linter.unusedSimpArgs false
namespace Go.Proofs.YtjpadehgejlebaaGreatDoor
open Go.RowKit
open _root_.List renaming length_cons → zW, length_append → Mm, length_drop → Mn, getElem?_eq_some_iff → VI, length_nil → ZA, append_assoc → aeb, mem_cons → aec, nil_append → aed, cons_append → aee, not_mem_nil → agu, mem_singleton → ahW, eq_nil_of_length_eq_zero → ahX, getElem?_append_right → ah0, mem_append → ajw, append_nil → ajz, getElem?_eq_getElem → ajA, length_take → ajB, set_append_right → ame, all_flatMap → am_, all_eq_true → ana, drop_eq_getElem_cons → anb, mem_cons_of_mem → anf, append_inj → ang, length_map → anh, mem_map → ani, flatMap_append → anj, drop_zero → anq
open _root_.Nat renaming lt_of_lt_of_le → Ml, le_trans → ahY, add_sub_cancel_left → ahZ, le_refl → ajv, zero_le → ajx, zero_add → ajy, lt_of_lt_of_eq → anc, le_of_ble_eq_true → ane, mul_one → anp
open _root_.And renaming intro → ahV
open _root_.Bool renaming and_eq_true → anl
open _root_.Array renaming getElem?_append_left → ank
set_option maxRecDepth 10000
def p_ (w:Bs):Bs:=
 if w=[108,116]then[60]else if w=[103,116]then[62]else if w=[97,109,112]then[38]else if w=[113,117,111,116]then[34]else if w=[97,112,111,115]then[39]else[]
theorem abJ (w:Bs) (O:VH):VF Tryz.prog 323 [.str w] O (aE fun m O'=>m= .str (p_ w)/\O'=O):=by
 unfold p_;refine Θ 14 [.tmp 2] Tryz.func323 ?_;by_cases h1:w=[108,116]
 ·rw[if_pos h1];have e1:=beq_iff_eq.2 h1;exact dW @bR @e1
 rw[if_neg h1];have e1:(w==[108,116])=false:=by simpa using h1
 by_cases h2:w=[103,116]
 ·rw[if_pos h2];have e2:=beq_iff_eq.2 h2;exact kt3 @bR @e1 @e2
 rw[if_neg h2];have e2:(w==[103,116])=false:=by simpa using h2
 by_cases h3:w=[97,109,112]
 ·rw[if_pos h3];have e3:=beq_iff_eq.2 h3;exact kt4 @bR @e1 @e2 @e3
 rw[if_neg h3];have e3:(w==[97,109,112])=false:=by simpa using h3
 by_cases h4:w=[113,117,111,116]
 ·rw[if_pos h4];have e4:=beq_iff_eq.2 h4;exact kt5 @bR @e1 @e2 @e3 @e4
 rw[if_neg h4];have e4:(w==[113,117,111,116])=false:=by simpa using h4
 by_cases h5:w=[97,112,111,115]
 ·rw[if_pos h5];have e5:=beq_iff_eq.2 h5;exact kt6 @bR @e1 @e2 @e3 @e4 @e5
 rw[if_neg h5];have e5:(w==[97,112,111,115])=false:=by simpa using h5
 exact kt6 @bR @e1 @e2 @e3 @e4 @e5
def Dn (c:UInt8):Bool:=decide (97<=c.toNat/\c.toNat<=122)
theorem akO (c:UInt8) (O:VH):VF Tryz.prog 322 [gj c] O (aE fun m O'=>m=mb (Dn c)/\O'=O):=by
 refine Θ 9 [.tmp 2] Tryz.func322 ?_;by_cases h1:97<=c.toNat
 ·by_cases h2:c.toNat<=122
  ·rw[show Dn c=true from decide_eq_true ⟨h1,h2⟩];exact dW @bR @aL
  ·rw[show Dn c=false from decide_eq_false (fun h=>h2 h.2)];exact dW @bR @aL
 ·rw[show Dn c=false from decide_eq_false (fun h=>h1 h.1)];exact dW @bR @aL
def qW (s:Bs):Bs:=(s.drop 1).takeWhile Dn
def qi:List Bs:=[[108,116],[103,116],[97,109,112],[113,117,111,116],[97,112,111,115]]
def abK (s w:Bs):Bs×Nat×Int:=
 if 1+w.length=s.length then(if qi.any (fun x=>ew x w)then([],0,13)else([],0,12))
 else if p_ w≠[]/\s.getD (1+w.length) 0=59 then(p_ w,w.length+2,0)else([],0,12)
def n5 (s:Bs):Bs×Nat×Int:=if ew s [38,35]then wE (s.drop 2) 2 else abK s (qW s)
theorem ik {s p:Bs} (h:ew s p=true):p.length<=s.length:=by
 unfold ew at h;have h1:s.take p.length=p:=by simpa using h
 rw[<-h1,ajB];omega
theorem aiF (s:Bs) (O:VH) (hs:s.length<=1000000) (h0:s[0]?=some 38):
  VF Tryz.prog 316 [.str s] O (aE fun m O'=>m= .tuple [.str (n5 s).1,mi (n5 s).2.1,mi (n5 s).2.2]/\O.Ge O'):=by
 have hne:(s==[])=false:=by cases s<;>simp at h0 ⊢
 have h1:1<=s.length:=by cases s<;>simp at h0 ⊢
 unfold n5;refine Θ 62 [.tmp 2,.tmp 3,.tmp 4] Tryz.func316 ?_;refine cJ @bR @hne @h0 @aL ?_;refine π (nY s [38,35] _) ?_;rintro _ O2 ⟨rfl,eO⟩;rw[eO];clear eO O2
 cases hn:ew s [38,35];rotate_left
 ·have qp:=ik hn;simp only[zW,ZA]at qp;rw[if_pos rfl];refine ab @bR ?_;refine π (X9 (s.drop 2) 2 O (by rw[Mn];omega) (by decide)) ?_;rintro _ O2 ⟨rfl,aC⟩;generalize wE (s.drop 2) 2=r at*;refine ab @bR ?_;first | exact aC | exact⟨rfl,aC⟩
 rw[if_neg (by simp)];refine ab @bR ?_;refine π (KR 322 Dn (s.drop 1) _ (ahY (by rw[Mn];omega:(s.drop 1).length<=1000000) (by decide)) akO (by kernel_rfl)) ?_;rintro _ O2 ⟨rfl,eO⟩;rw[eO];clear eO O2
 have hw:qW s=(s.drop 1).takeWhile Dn:=rfl;have oJ:(qW s).length<=s.length - 1:=by unfold qW;exact ahY (oT _ _) (by rw[Mn];exact ajv _)
 have Co:(s.drop 1).take (qW s).length=qW s:=by
  unfold qW;exact List.prefix_iff_eq_take.1 (List.takeWhile_prefix _) |>.symm
 have n0:(1+((qW s).length:Int)).toNat - 1=(qW s).length:=by omega
 have agZ:(1+((qW s).length:Int)).toNat=1+(qW s).length:=by omega
 rw[<-hw];clear hw;generalize qW s=w at*;unfold abK;by_cases h2:1+w.length=s.length
 ·rw[if_pos h2];have h3:(1+(w.length:Int)==(s.length:Int))=true:=by simpa using(by omega:1+(w.length:Int)=(s.length:Int))
  have hws:List.length ([.str [108,116],.str [103,116],.str [97,109,112],.str [113,117,111,116],.str [97,112,111,115]]:List MV)=5:=rfl;refine iw @bR @rM @n0 @Co @h3 ?_;refine WC.jh [40] [6,38,39] (fun j:Nat=>[mi j]) (fun j O'=>O'=O/\j<=5/\qi.any (fun x=>ew x w)=(qi.drop j).any (fun x=>ew x w)) (fun j=>5 - j) (0) ?_ ?_
  ·exact⟨rfl,ajx _,rfl⟩
  rintro j O2 ⟨eO,hj,hr⟩;rw[eO];clear eO O2
  by_cases uu:j<5
  ·obtain⟨x,bE,Sj⟩:∃x:Bs,([.str [108,116],.str [103,116],.str [97,109,112],.str [113,117,111,116],.str [97,112,111,115]]:List MV)[j]?=some (.str x)/\qi.drop j=x::qi.drop (j+1):=by
    rcases(by omega:j=0\/j=1\/j=2\/j=3\/j=4)with rfl | rfl | rfl | rfl | rfl<;>exact⟨_,rfl,rfl⟩
   rw[Sj,List.any_cons]at hr;refine cJ @bR @rM @bE @hws ?_;refine π (nY x w _) ?_;rintro _ O2 ⟨rfl,eO⟩;rw[eO];clear eO O2
   cases hx:ew x w
   ·rw[hx,Bool.false_or]at hr;refine ab @bR ?_;exact az.N (j+1) ⟨rfl,uu,hr⟩
   ·rw[hx,Bool.true_or]at hr;rw[hr,if_pos rfl];refine ab @bR ?_;first | exact VH.Ge.refl _ | exact⟨rfl,VH.Ge.refl _⟩
  ·obtain rfl:j=5:=by omega
   have gu:qi.any (fun x=>ew x w)=false:=hr;rw[gu,if_neg (by simp)];refine ab @bR ?_;first | exact VH.Ge.refl _ | exact⟨rfl,VH.Ge.refl _⟩
 rw[if_neg h2];have h3:(1+(w.length:Int)==(s.length:Int))=false:=by simpa using(by omega:¬1+(w.length:Int)=(s.length:Int))
 have h4:1+w.length<s.length:=by omega
 have hg:=ajA h4;have hd:s.getD (1+w.length) 0=s[1+w.length]:=by simp[List.getD,hg]
 rw[hd];generalize s[1+w.length]=c at*;refine cJ @bR @n0 @Co @h3 ?_;refine π (abJ w _) ?_;rintro _ O2 ⟨rfl,eO⟩;rw[eO];clear eO O2
 by_cases h5:p_ w=[]
 ·have h6:(p_ w==[])=true:=beq_iff_eq.2 h5;rw[if_neg (fun h=>h.1 h5)];refine ao @bR @h6 ?_;first | exact VH.Ge.refl _ | exact⟨rfl,VH.Ge.refl _⟩
 have h6:(p_ w==[])=false:=by simpa using h5
 by_cases h7:c=59
 ·rw[if_pos ⟨h5,h7⟩];subst h7;have h8:((((59:UInt8).toNat:Nat):Int)==59)=true:=rfl;refine FI @bR @h6 @agZ @hg @aL @h8 ?_;first | exact VH.Ge.refl _ | exact⟨rfl,VH.Ge.refl _⟩
 ·rw[if_neg (fun h=>h7 h.2)];have h8:¬((c.toNat:Int)=59):=fun e=>h7 (UInt8.toNat_inj.1 (by simpa using(by omega:c.toNat=59)))
  refine FI @bR @h6 @agZ @hg @aL @h8 ?_;first | exact VH.Ge.refl _ | exact⟨rfl,VH.Ge.refl _⟩
theorem Ot (w:Bs):(p_ w).length<=1:=by unfold p_;repeat' split
                                       all_goals simp
theorem Ya (k:Int):(Jk k).length<=4:=encode_size_le k
theorem abL {s:Bs} {a:Nat} (h:(wE s a).2.2=0):a+2<=(wE s a).2.1/\(wE s a).2.1<=a+s.length/\(wE s a).1.length<=4:=by
 have lJ:a<=(jZ s a).2.1/\(jZ s a).2.1+(jZ s a).1.length<=a+s.length:=by
  unfold jZ;split
  ·rename_i h;have:=ik h;simp only[zW,ZA]at this;rw[Mn];dsimp only;omega
  ·dsimp only;omega
 have htw:=oT (yM (jZ s a).2.2) (jZ s a).1;unfold wE at h ⊢;generalize ((jZ s a).1.takeWhile (yM (jZ s a).2.2)).length=n at*;unfold abI at h ⊢;split at h
 ·cases h
 rw[if_neg ‹_›];split at h
 ·cases h
 rw[if_neg ‹_›];split at h
 ·cases h
 rw[if_neg ‹_›];split at h
 ·rw[if_pos ‹_›]
  have hl:(Dm (sT (jZ s a).2.2 ((jZ s a).1.take n))).length<=4:=by
   unfold Dm;split<;>first | exact Ya _ | exact ajx _
  exact⟨by dsimp only;omega,by dsimp only;omega,hl⟩
 ·cases h
theorem Bj {s:Bs} (h:(n5 s).2.2=0):2<=(n5 s).2.1/\(n5 s).2.1<=s.length/\(n5 s).1.length<=(n5 s).2.1:=by
 have oJ:1+(qW s).length<=s.length\/s=[]:=by
  cases s with
  | nil=>exact .inr rfl
  | cons c s=>left;unfold qW;rw[List.drop_succ_cons,anq,zW];have:=oT Dn s;omega
 unfold n5 at h ⊢;split at h
 ·rename_i h1;rw[if_pos h1];have h2:=ik h1;simp only[zW,ZA]at h2;have:=abL h;rw[Mn]at this;omega
 rw[if_neg ‹_›];unfold abK at h ⊢;split at h
 ·split at h<;>cases h
 rw[if_neg ‹_›];split at h
 ·rename_i h1;rw[if_pos h1];have:=Ot (qW s);rcases oJ with oJ | rfl
  ·exact⟨by dsimp only;omega,by dsimp only;omega,by dsimp only;omega⟩
  ·have:=h1.2;simp at this
 ·cases h
def fi (t:Bs) (stop:UInt8):Nat->Nat->Bs->Except (Int×Nat) (Bs×Nat)
 | 0,o,acc=>.ok (acc,o)
 | n+1,o,acc=>match t[o]? with
   | none=>.ok (acc,o)
   | some c=>
     if c=stop then .ok (acc,o)
     else if c=38 then
      if(n5 (t.drop o)).2.2≠0 then .error ((n5 (t.drop o)).2.2,o)else fi t stop n (o+(n5 (t.drop o)).2.1) (acc++(n5 (t.drop o)).1)
     else if c=60\/nq c=false then .error (10,o)
     else fi t stop n (o+1) (acc++[c])
theorem zN {O:VH} {k off:Nat} {t:Bs} {X:MV} (stop:UInt8) (h:Rd O k t off X) (ht:t.length<=1000000) (ho:off<=t.length):
  VF Tryz.prog 298 [.ptr k 0,gj stop] O (TQ O k t X (fi t stop (t.length+1 - off) off []) fun y m=>m= .str y):=by
 refine χ 100 [.tmp 4] Tryz.func298 ?_;refine κ @av ?_;refine κ @av ?_;have wj:=gD.fresh O (ajv O.N);have mY:O.Ge ((O.push (.cells [.v (.pointer none),.sl 0 [] .nil])).push (.shape O.N 155 2)):=((VH.Ge.refl O).push _).push _;generalize ((O.push (.cells [.v (.pointer none),.sl 0 [] .nil])).push (.shape O.N 155 2))=O1 at*;refine Ξ [5] (fun x:Bs×Nat×Option Nat=>[.ptr O.N 0]) (fun x O'=>bB O (some k) O'/\Rd O' k t x.2.1 X/\gD O' O.N O.N x.2.2 x.1/\x.1.length<=1000000/\fi t stop (t.length+1 - off) off []= .ok (x.1,x.2.1)) ?_ ?_;rotate_left
 ·rintro⟨acc,o,q⟩ O2 ⟨c9,gu,cK,kK,he⟩;dsimp only at gu cK kK he;rw[he];refine ν @av ?_;refine π (qF cK (by simp only[maxLen];omega)) ?_;rintro _ O3 ⟨rfl,c_⟩;refine ab @av ?_;have oH:=cK.yJ;exact⟨⟨ahY c9.N c_.N,fun i hi hne=>(c_.hp i (Ml hi c9.N) (fun e=>by have:=oH i e;omega)).trans (c9.hp i hi hne)⟩,rfl,Ml gu.1 c_.N,(c_.hp k gu.1 (fun e=>by have:=oH k e;have:=h.1;omega)).trans gu.2⟩
 refine υ ?_;refine Δ [] [0,1,5] (fun x:Bs×Nat×Option Nat=>[]) (fun x O'=>bB O (some k) O'/\Rd O' k t x.2.1 X/\gD O' O.N O.N x.2.2 x.1/\x.1.length<=x.2.1/\x.2.1<=t.length/\∃n,t.length+1 - x.2.1<=n/\fi t stop (t.length+1 - off) off []=fi t stop n x.2.1 x.1) (fun x=>t.length - x.2.1) (([],off,none)) ?_ ?_
 ·exact⟨(bB.ll mY).any,h.ge mY,wj,ajx _,ho,_,ajv _,rfl⟩
 rintro⟨acc,o,q⟩ O2 ⟨c9,gu,cK,kK,Ou,n,hn,he⟩;dsimp only at gu cK kK Ou hn he;obtain⟨n,rfl⟩:∃i,n=i+1:=⟨n - 1,by omega⟩
 have bN:=gu.2;simp only[aq]at bN;by_cases h1:t.length<=o
 ·have ec:t[o]?=none:=List.getElem?_eq_none h1;have hle:fi t stop (n+1) o acc= .ok (acc,o):=by unfold fi;rw[ec]
  rw[hle]at he;refine ω (ω ?_);refine VC.oD [4,5,6,7,8,9,10,11,12,13,14,15,16,17,18,19] ?_;refine ae.au 0 ?_;refine ab @av ?_;refine ae.au 1 ?_;refine ab @av ?_;refine ae.au 2 ?_;refine ab @av ?_;refine ae.call (i:=3) (nZ gu) ?_;rintro _ O3 ⟨rfl,eO⟩;simp only[ak];rw[eO];clear eO O3
  rw[decide_eq_true h1];refine⟨VH.Ge.refl _,?_⟩;refine ae.bQ [(4,.au),(5,.au),(6,.au),(7,.au),(8,.au),(9,.au),(10,.au),(11,.au),(12,.au),(13,.au),(14,.au),(15,.au),(16,.au),(17,.au),(18,.au),(19,.au)] ?_;refine ab @av ?_;refine ν @av ?_;exact aB.mk (acc,o,q) ⟨c9,gu,cK,ahY kK (ahY Ou ht),he⟩
 have h2:o<t.length:=by omega
 have hg:=ajA h2;generalize t[o]=c at*;refine ω (ω ?_);refine VC.oD [] ?_;refine ae.au 0 ?_;refine ab @av ?_;refine ae.au 1 ?_;refine ab @av ?_;refine ae.au 2 ?_;refine ab @av ?_;refine ae.call (i:=3) (nZ gu) ?_;rintro _ O3 ⟨rfl,eO⟩;simp only[ak];rw[eO];clear eO O3
 rw[decide_eq_false h1];refine⟨VH.Ge.refl _,?_⟩;refine ae.au 4 ?_;refine ab @av ?_;refine ae.au 5 ?_;refine ab @av ?_;refine ae.au 6 ?_;refine ab @av ?_;refine ae.au 7 ?_;refine ab @av ?_;refine ae.au 8 ?_;refine ab @av ?_;refine ae.au 9 ?_;refine ab @av ?_;refine ae.ld (m:=.str t) 10 ?_ ?_
 ·exact dW @av @bN
 simp only[ak];refine ae.au 11 ?_;refine ab @av ?_;refine ae.au 12 ?_;refine ab @av ?_;refine ae.au 13 ?_;refine ab @av ?_;refine ae.au 14 ?_;refine ab @av ?_;refine ae.ld (m:=.v (.int .i64 o)) 15 ?_ ?_
 ·exact dW @av @bN
 simp only[ak];refine ae.au 16 ?_;refine ao @av @hg ?_;refine ae.au 17 ?_;refine ab @av ?_;by_cases h3:c=stop
 ·subst h3;have hle:fi t c (n+1) o acc= .ok (acc,o):=by unfold fi;rw[hg];simp
  rw[hle]at he;refine ae.au 18 ?_;refine ao @av @aL ?_;refine ae.au 19 ?_;refine ab @av ?_;refine ae.bQ [] ?_;refine ab @av ?_;refine ν @av ?_;exact aB.mk (acc,o,q) ⟨c9,gu,cK,ahY kK (ahY Ou ht),he⟩
 have h4:¬((c.toNat:Int)=(stop.toNat:Int)):=fun e=>h3 (UInt8.toNat_inj.1 (by omega))
 refine ae.au 18 ?_;refine aH @av @aL @h4 ?_;refine ae.au 19 ?_;refine ab @av ?_;refine ae.bQ [] ?_;refine ab @av ?_;refine ν @av ?_;refine υ ?_;refine ω ?_;refine WC.reads ?_;refine aH @av @bN @hg ?_;by_cases h5:c=38
 ·subst h5;have uv:(t.drop o).length<=1000000:=by rw[Mn];omega
  have mY:(t.drop o)[0]?=some 38:=by rw[List.getElem?_drop];exact hg
  have Bk:=aiF (t.drop o) O2 uv mY;have dh:= @Bj (t.drop o)
  have hle:fi t stop (n+1) o acc=if(n5 (t.drop o)).2.2≠0 then .error ((n5 (t.drop o)).2.2,o)else fi t stop n (o+(n5 (t.drop o)).2.1) (acc++(n5 (t.drop o)).1):=by
   rw[show fi t stop (n+1) o acc=_ from by unfold fi;rfl,hg];simp only;rw[if_neg h3,if_pos trivial]
  rw[hle]at he;rw[Mn]at dh;generalize n5 (t.drop o)=r at*;have h6:((((38:UInt8).toNat:Nat):Int)==38)=true:=rfl;refine θ (aH @av @aL @h6 ?_);refine π (xO gu Ou) ?_;rintro _ O3 ⟨rfl,eO⟩;rw[eO];clear eO O3
  refine ab @av ?_;refine π (Bk) ?_;rintro _ OR ⟨rfl,hgR⟩;refine ab @av ?_;clear Bk
  replace bN:=(hgR.hp k gu.1).trans bN
  replace gu:=gu.ge hgR
  replace cK:=cK.ge hgR
  replace c9:=c9.trans (bB.ll hgR).any
  clear hgR O2;by_cases h7:r.2.2=0
  ·obtain⟨k1,k2,k3⟩:=dh h7;rw[if_neg (by simpa using h7)]at he;have h8:(r.2.2 != 0)=false:=by simpa using h7
   refine ao @av @h8 ?_;refine π (bU r.1 cK (by omega)) ?_;rintro _ O3 ⟨rfl,q',cC,c_⟩;have oH:=cK.yJ;have dR:O3.hp k=some (.cells [.str t,.v (.int .i64 (o:Int)),X]):=(c_.hp k gu.1 (by have:=h.1;omega) (fun e=>by have:=oH k e;have:=h.1;omega)).trans bN;refine ao @av @dR ?_;have ff:bB O (some k) O3:=⟨ahY c9.N c_.N,fun i hi hne=>(c_.hp i (Ml hi c9.N) (by omega) (fun e=>by have:=oH i e;omega)).trans (c9.hp i hi hne)⟩;have gO:Rd O3 k t o X:=⟨Ml gu.1 c_.N,dR⟩;refine az.N (acc++r.1,o+r.2.1,q') ⟨ff.trans bB.set,by simpa[aq]using gO.set (t':=t) (off':=o+r.2.1) (X':=X),cC.set dR (by have:=h.1;omega) (fun e=>by have:=cC.yJ k e;have:=h.1;omega),by dsimp only;rw[Mm];omega,by dsimp only;omega,n,by dsimp only;omega,he⟩
  ·rw[if_pos h7]at he;rw[he];have h8:(r.2.2 != 0)=true:=by simpa using h7
   refine aH @av @h8 @bN ?_;refine ah.p (ja r.2.2 o _) ?_ ?_
   ·rintro m O9 ⟨_,h⟩;exact h.elim
   rintro m O9 ⟨rfl,rfl⟩;refine ab @av ?_;exact⟨c9,rfl⟩
 have h6:¬((c.toNat:Int)=38):=fun e=>h5 (UInt8.toNat_inj.1 (by simpa using(by omega:c.toNat=38)))
 by_cases h7:c=60\/nq c=false
 ·have hle:fi t stop (n+1) o acc= .error (10,o):=by unfold fi;rw[hg];simp only;rw[if_neg h3,if_neg h5,if_pos h7]
  rw[he,hle];by_cases h8:c=60
  ·have h9:((c.toNat:Int)==60)=true:=by rw[h8];rfl
   refine θ (iw @av @aL @h6 @h9 @bN ?_);refine ah.p (ja 10 o _) ?_ ?_
   ·rintro m O9 ⟨_,h⟩;exact h.elim
   rintro m O9 ⟨rfl,rfl⟩;refine ab @av ?_;exact⟨c9,rfl⟩
  have zm:¬((c.toNat:Int)=60):=fun e=>h8 (UInt8.toNat_inj.1 (by simpa using(by omega:c.toNat=60)))
  have h9:nq c=false:=h7.resolve_left h8;refine θ (cJ @av @aL @h6 @zm ?_);refine π (xI c _) ?_;rintro _ O3 ⟨rfl,eO⟩;rw[eO];clear eO O3
  rw[h9];refine ao @av @bN ?_;refine ah.p (ja 10 o _) ?_ ?_
  ·rintro m O9 ⟨_,h⟩;exact h.elim
  rintro m O9 ⟨rfl,rfl⟩;refine ab @av ?_;exact⟨c9,rfl⟩
 have h8:¬c=60:=fun e=>h7 (.inl e)
 have h9:nq c=true:=by simpa using fun hx:nq c=false=>h7 (.inr hx)
 have zm:¬((c.toNat:Int)=60):=fun e=>h8 (UInt8.toNat_inj.1 (by simpa using(by omega:c.toNat=60)))
 have hle:fi t stop (n+1) o acc=fi t stop n (o+1) (acc++[c]):=by
  rw[show fi t stop (n+1) o acc=_ from by unfold fi;rfl,hg];simp only;rw[if_neg h3,if_neg h5,if_neg h7]
 rw[hle]at he;refine θ (cJ @av @aL @h6 @zm ?_);refine π (xI c _) ?_;rintro _ O3 ⟨rfl,eO⟩;rw[eO];clear eO O3
 rw[h9];refine ab @av ?_;refine ν @av ?_;refine π (ug c cK (by omega)) ?_;rintro _ O3 ⟨rfl,q',cC,c_⟩;have oH:=cK.yJ;have dR:O3.hp k=some (.cells [.str t,.v (.int .i64 (o:Int)),X]):=(c_.hp k gu.1 (by have:=h.1;omega) (fun e=>by have:=oH k e;have:=h.1;omega)).trans bN;refine ao @av @dR ?_;have ff:bB O (some k) O3:=⟨ahY c9.N c_.N,fun i hi hne=>(c_.hp i (Ml hi c9.N) (by omega) (fun e=>by have:=oH i e;omega)).trans (c9.hp i hi hne)⟩;have gO:Rd O3 k t o X:=⟨Ml gu.1 c_.N,dR⟩;refine az.N (acc++[c],o+1,q') ⟨ff.trans bB.set,by simpa[aq]using gO.set (t':=t) (off':=o+1) (X':=X),cC.set dR (by have:=h.1;omega) (fun e=>by have:=cC.yJ k e;have:=h.1;omega),by dsimp only;rw[Mm];simp only[zW,ZA];omega,by dsimp only;omega,?_⟩;exact⟨n,by dsimp only;omega,he⟩
theorem o9 {t:Bs} {stop:UInt8}:∀(n o:Nat) (acc:Bs) {s:Bs} {o':Nat},o<=t.length->acc.length<=o->fi t stop n o acc= .ok (s,o')->o<=o'/\o'<=t.length/\s.length<=o'
 | 0,o,acc,s,o',ho,ha,h=>by
   unfold fi at h;injection h with h;injection h with h1 h2
   subst h1;subst h2
   exact⟨ajv _,ho,ha⟩
 | n+1,o,acc,s,o',ho,ha,h=>by
   have done:∀(h:(.ok (acc,o):Except (Int×Nat) (Bs×Nat))= .ok (s,o')),o<=o'/\o'<=t.length/\s.length<=o':=fun h=>by
    injection h with h;injection h with h1 h2
    subst h1;subst h2
    exact⟨ajv _,ho,ha⟩
   unfold fi at h;cases hg:t[o]? with
   | none=>rw[hg]at h;exact done h
   | some c=>
     have Sk:o<t.length:=(VI.1 hg).1;rw[hg]at h;simp only at h;split at h
     ·exact done h
     split at h
     ·rename_i h2;subst h2;split at h
      ·cases h
      ·rename_i h5;obtain⟨k1,k2,k3⟩:=Bj (by simpa using h5);rw[Mn]at k2;have:=o9 n _ _ (by omega) (by rw[Mm];omega) h;omega
     split at h
     ·cases h
     ·have:=o9 n _ _ (by omega) (by rw[Mm];simp only[zW,ZA];omega) h;omega
def u7 (t:Bs) (off:Nat):Except (Int×Nat) (Bs×Nat):=match t[off]? with
 | none=>.error (13,off)
 | some q=>
   if q≠34/\q≠39 then .error (10,off)
   else match fi t q (t.length+1 - (off+1)) (off+1) []with
    | .error e=>.error e
    | .ok (s,o)=>if t.length<=o then .error (13,o)else .ok (s,o+1)
theorem abM {O:VH} {k off:Nat} {t:Bs} {X:MV} (h:Rd O k t off X) (ht:t.length<=1000000):
  VF Tryz.prog 315 [.ptr k 0] O (TQ O k t X (u7 t off) fun y m=>m= .str y):=by
 have hk:=h.2;simp only[aq]at hk;unfold u7;refine Θ 70 [.tmp 2] Tryz.func315 ?_;refine ab @av ?_;refine π (nZ h) ?_;rintro _ O2 ⟨rfl,eO⟩;rw[eO];clear eO O2
 by_cases h1:t.length<=off
 ·rw[decide_eq_true h1,List.getElem?_eq_none h1];refine ao @av @hk ?_;refine ah.p (ja _ _ _) ?_ ?_
  ·rintro m O9 ⟨_,h⟩;exact h.elim
  rintro m O9 ⟨rfl,rfl⟩;refine ab @av ?_;exact⟨bB.refl _ _,rfl⟩
 have h2:off<t.length:=by omega
 have hg:=List.getElem?_eq_getElem h2;rw[decide_eq_false h1,hg];generalize t[off]=c at*;refine ab @av ?_;refine WC.reads ?_;refine cJ @av @hk @hg @aL ?_;have hr:Rd (O.set k (.cells [.str t,mi (off+1:Nat),X])) k t (off+1) X:=h.set;have hu:bB O (some k) (O.set k (.cells [.str t,mi (off+1:Nat),X])):=bB.set;have lx:((off:Int)+1)=((off+1:Nat):Int):=by omega
 simp only[aq, <-lx]at hr hu;have hle:=zN (X:=X) c hr ht (by omega:off+1<=t.length);have eC:= @o9 t c (t.length+1 - (off+1)) (off+1) [];generalize fi t c (t.length+1 - (off+1)) (off+1) []=LF at*;by_cases hq:c≠34/\c≠39
 ·rw[if_pos hq];have e1:¬((c.toNat:Int)=34):=fun e=>hq.1 (UInt8.toNat_inj.1 (by simpa using(by omega:c.toNat=34)))
  have e2:¬((c.toNat:Int)=39):=fun e=>hq.2 (UInt8.toNat_inj.1 (by simpa using(by omega:c.toNat=39)))
  refine cJ @av @hk @e1 @e2 ?_;refine ah.p (ja _ _ _) ?_ ?_
  ·rintro m O9 ⟨_,h⟩;exact h.elim
  rintro m O9 ⟨rfl,rfl⟩;refine ab @av ?_;exact⟨bB.refl _ _,rfl⟩
 rw[if_neg hq];by_cases hc:c=34
 ·subst hc;have e1:((((34:UInt8).toNat:Nat):Int) != 34)=false:=rfl;refine cJ @av @aL @e1 @hk ?_;generalize O.set k (.cells [.str t,.v (.int .i64 ((off:Int)+1)),X])=O2 at*;refine ah.p (hle) ?_ ?_;rotate_left
  ·rintro m O3 ⟨c_,h⟩;cases LF with
   | ok y=>exact h.elim
   | error e=>
     dsimp only at h;subst h;refine ab @av ?_;exact⟨hu.trans c_,rfl⟩
  rintro m O3 ⟨c_,h⟩;cases LF with
  | error e=>exact h.elim
  | ok y=>
  obtain⟨s,o⟩:=y;dsimp only at h;obtain⟨rfl,gO⟩:=h;have dR:=gO.2;simp only[aq]at dR;obtain⟨g1,g2,g3⟩:=eC (by omega) (ajx _) rfl;refine ab @av ?_;refine π (nZ gO) ?_;rintro _ O4 ⟨rfl,eO⟩;rw[eO];clear eO O4
  by_cases h5:t.length<=o
  ·rw[decide_eq_true h5];rw[if_pos h5];refine ao @av @dR ?_;refine ah.p (ja _ _ _) ?_ ?_
   ·rintro m O9 ⟨_,h⟩;exact h.elim
   rintro m O9 ⟨rfl,rfl⟩;refine ab @av ?_;exact⟨hu.trans c_,rfl⟩
  ·rw[decide_eq_false h5];rw[if_neg h5];refine ao @av @dR ?_;exact⟨(hu.trans c_).trans bB.set,rfl,by simpa[aq]using gO.set (t':=t) (off':=o+1) (X':=X)⟩
 ·obtain rfl:c=39:=by
   by_cases h9:c=39
   ·exact h9
   ·exact absurd ⟨hc,h9⟩ hq
  have e1:((((39:UInt8).toNat:Nat):Int) != 34)=true:=rfl;have e2:((((39:UInt8).toNat:Nat):Int) != 39)=false:=rfl;refine iw @av @aL @e1 @e2 @hk ?_;generalize O.set k (.cells [.str t,.v (.int .i64 ((off:Int)+1)),X])=O2 at*;refine ah.p (hle) ?_ ?_;rotate_left
  ·rintro m O3 ⟨c_,h⟩;cases LF with
   | ok y=>exact h.elim
   | error e=>
     dsimp only at h;subst h;refine ab @av ?_;exact⟨hu.trans c_,rfl⟩
  rintro m O3 ⟨c_,h⟩;cases LF with
  | error e=>exact h.elim
  | ok y=>
  obtain⟨s,o⟩:=y;dsimp only at h;obtain⟨rfl,gO⟩:=h;have dR:=gO.2;simp only[aq]at dR;obtain⟨g1,g2,g3⟩:=eC (by omega) (ajx _) rfl;refine ab @av ?_;refine π (nZ gO) ?_;rintro _ O4 ⟨rfl,eO⟩;rw[eO];clear eO O4
  by_cases h5:t.length<=o
  ·rw[decide_eq_true h5];rw[if_pos h5];refine ao @av @dR ?_;refine ah.p (ja _ _ _) ?_ ?_
   ·rintro m O9 ⟨_,h⟩;exact h.elim
   rintro m O9 ⟨rfl,rfl⟩;refine ab @av ?_;exact⟨hu.trans c_,rfl⟩
  ·rw[decide_eq_false h5];rw[if_neg h5];refine ao @av @dR ?_;exact⟨(hu.trans c_).trans bB.set,rfl,by simpa[aq]using gO.set (t':=t) (off':=o+1) (X':=X)⟩
def mj (t:Bs):Nat->Nat->List (Bs×Bs)->Except (Int×Nat) (List (Bs×Bs)×Nat)
 | 0,o,l=>.ok (l,o)
 | n+1,o,l=>
   if kM t o=0\/t.length<=o+kM t o\/ew (t.drop (o+kM t o)) [47]=true\/ew (t.drop (o+kM t o)) [62]=true then .ok (l,o+kM t o)
   else match jI t (o+kM t o) 10 with
    | .error e=>.error e
    | .ok (nm,o2)=>
      if l.any (·.1==nm)then .error (15,o+kM t o)
      else match jk t (o2+kM t o2) [61]with
       | .error e=>.error e
       | .ok (_,o4)=>match u7 t (o4+kM t o4)with
         | .error e=>.error e
         | .ok (v,o6)=>mj t n o6 (l++[(nm,v)])
theorem jA (t:Bs) (o:Nat) (h:o<=t.length):o+kM t o<=t.length:=by
 unfold kM;have:=oT mJ (t.drop o);rw[Mn]at this;omega
theorem g_ {t:Bs} {o:Nat} {e:Int} {s:Bs} {o':Nat} (h:jI t o e= .ok (s,o')):o<o'/\o'<=t.length/\s.length<=o' - o/\0<s.length:=by
 have yi:=Di (t.drop o);rw[Mn]at yi;unfold jI at h;split at h
 ·cases h
 split at h
 ·cases h
 injection h with h;injection h with h1 h2
 subst h1;subst h2
 rw[ajB,Mn];omega
theorem lY {t:Bs} {o:Nat} {p:Bs} {y:Unit} {o':Nat} (h:jk t o p= .ok (y,o')):o'=o+p.length/\o'<=t.length/\o<t.length:=by
 unfold jk at h;split at h
 ·cases h
 split at h
 ·rename_i h2;injection h with h;injection h with h1 h3
  have:=ik h2;rw[Mn]at this;omega
 ·cases h
theorem Bl {t:Bs} {o:Nat} {s:Bs} {o':Nat} (h:u7 t o= .ok (s,o')):o<o'/\o'<=t.length/\s.length<=o':=by
 unfold u7 at h;split at h
 ·cases h
 rename_i q hq;have Sk:=(VI.1 hq).1;split at h
 ·cases h
 split at h
 ·cases h
 rename_i s2 o2 h2;split at h
 ·cases h
 injection h with h;injection h with h1 h3
 subst h1;subst h3
 have:=o9 _ _ _ (by omega) (by simp) h2;omega
theorem App.bH {O O1:VH} {B sz k:Nat} {tk:Tok} (h:App O B sz tk) (u:bB O (some k) O1) (hk:k<B):App O1 B sz tk:=by
 cases tk with
 | own t j=>
   obtain⟨h1,h2,h3,h4⟩:=h;exact⟨h1,(u.hp t h4 (by intro e;injection e;omega)).trans h2,h3,Ml h4 u.N⟩
 | nil=>trivial
 | full=>trivial
 | ar=>exact h.elim
theorem Ov {O:VH} {k off:Nat} {t:Bs} {X:MV} (h:Rd O k t off X) (ht:t.length<=1000000) (ho:off<=t.length):
  VF Tryz.prog 297 [.ptr k 0] O (TQ O k t X (mj t (t.length+1 - off) off []) fun y m=>∃tk,m= .sl y.length (y.flatMap bm) tk):=by
 refine χ 64 [.tmp 2] Tryz.func297 ?_;refine κ @av ?_;refine υ ?_;refine Δ [2] [0] (fun x:List (Bs×Bs)×Nat×Tok=>[.sl x.1.length (x.1.flatMap bm) x.2.2]) (fun x O'=>bB O (some k) O'/\Rd O' k t x.2.1 X/\App O' O.N 2 x.2.2/\x.2.1<=t.length/\x.1.length<=x.2.1/\∃n,t.length+1 - x.2.1<=n/\mj t (t.length+1 - off) off []=mj t n x.2.1 x.1) (fun x=>t.length - x.2.1) (([],off,.nil)) ?_ ?_
 ·exact⟨bB.refl _ _,h,trivial,ho,ajx _,_,ajv _,rfl⟩
 rintro⟨l,o,tk⟩ O2 ⟨c9,gu,cy,Sk,AJ,n,hn,he⟩;dsimp only at c9 gu cy Sk AJ hn he ⊢;rw[he];obtain⟨n,rfl⟩:∃i,n=i+1:=⟨n - 1,by omega⟩
 have o5:=jA t o Sk;have hrb:=qU gu ht Sk;rw[mj];generalize kM t o=kb at*;refine υ ?_;refine κ @av ?_;refine ah.p (hrb) ?_ ?_;rotate_left
 ·rintro m O9 ⟨_,h⟩;exact h.elim
 rintro m O3 ⟨c_,h9⟩;dsimp only at h9;obtain⟨rfl,gO⟩:=h9;have lr:App O3 O.N 2 tk:=App.bH cy c_ (by have:=h.1;omega);have Gl:=c9.trans c_;refine ab @av ?_;by_cases tT:kb=0
 ·subst tT;rw[if_pos (.inl rfl)];repeat refine ia @av ?_
  exact⟨Gl,⟨tk,rfl⟩,gO⟩
 have akP:((kb:Int)==0)=false:=by simpa using tT
 refine ξ @av @akP ?_;refine π (nZ gO) ?_;rintro _ O4 ⟨rfl,eO⟩;rw[eO];clear eO O4
 by_cases Jm:t.length<=o+kb
 ·rw[if_pos (.inr (.inl Jm)),decide_eq_true Jm];repeat refine ia @av ?_
  exact⟨Gl,⟨tk,rfl⟩,gO⟩
 rw[decide_eq_false Jm];refine ab @av ?_;refine π (qT [47] gO (by omega)) ?_;rintro _ O4 ⟨rfl,eO⟩;rw[eO];clear eO O4
 cases Yb:ew (t.drop (o+kb)) [47];rotate_left
 ·rw[if_pos (.inr (.inr (.inl rfl)))];repeat refine ia @av ?_
  exact⟨Gl,⟨tk,rfl⟩,gO⟩
 refine ab @av ?_;refine π (qT [62] gO (by omega)) ?_;rintro _ O4 ⟨rfl,eO⟩;rw[eO];clear eO O4
 cases h62:ew (t.drop (o+kb)) [62];rotate_left
 ·rw[if_pos (.inr (.inr (.inr rfl)))];repeat refine ia @av ?_
  exact⟨Gl,⟨tk,rfl⟩,gO⟩
 rw[if_neg (by simp[tT,Jm])];have dR:=gO.2;simp only[aq]at dR;repeat refine qQ @av @dR ?_
 have QR:=Bi 10 gO ht;have vi:= @g_ t (o+kb) 10;generalize jI t (o+kb) 10=NF at*;refine ah.p (QR) ?_ ?_;rotate_left
 ·rintro m O9 ⟨jw,h9⟩;cases NF with
  | ok y=>exact h9.elim
  | error e=>
    dsimp only at h9;subst h9;refine ab @av ?_;exact⟨bB.trans Gl jw,rfl⟩
 rintro m O4 ⟨ff,h9⟩;cases NF with
 | error e=>exact h9.elim
 | ok y9=>
 obtain⟨nm,o2⟩:=y9;dsimp only at h9;obtain⟨rfl,Bm⟩:=h9;obtain⟨a1,a2,a3,a4⟩:=vi rfl;have mP:App O4 O.N 2 tk:=App.bH lr ff (by have:=h.1;omega);have abN:=Gl.trans ff;refine ab @av ?_;have qq:((l.flatMap bm).length)=l.length*2:=aX fM l;refine Ξ [0,2,4,5] (fun _:Unit=>[.ptr k 0,.sl l.length (l.flatMap bm) tk,mi (o+kb:Nat),.str nm]) (fun _ O'=>O4.Ge O'/\l.any (·.1==nm)=false) ?_ ?_
 ·refine κ @av ?_;refine υ ?_;refine Δ [40] [0,2,4,5,38,39] (fun j:Nat=>[mi j]) (fun j O'=>O4.Ge O'/\j<=l.length/\l.any (·.1==nm)=(l.drop j).any (·.1==nm)) (fun j=>l.length - j) (0) ?_ ?_
  ·exact⟨VH.Ge.refl _,ajx _,rfl⟩
  rintro j O5 ⟨bG,hj,jX⟩;by_cases zG:j<l.length
  ·have bE:=cP fM l j zG;have Sj:=anb zG;rw[Sj,List.any_cons]at jX;generalize l[j]=y at*;obtain⟨yn,yv⟩:=y;simp only[bm]at bE;refine κ @av ?_;refine κ @av ?_;refine ω (υ ?_);refine ξ @av @bE ?_;refine VC.al ?_;rintro O6 ⟨eZ,nG,nH⟩;by_cases hy:yn=nm
   ·have e1:(yn==nm)=true:=beq_iff_eq.2 hy;simp only[e1,Bool.true_or]at jX;rw[jX,if_pos rfl];refine θ (aH @av @nG @e1 ?_);refine ν @av ?_;refine ah.p (ja _ _ _) ?_ ?_
    ·rintro m O9 ⟨_,h⟩;exact h.elim
    rintro m O9 ⟨rfl,rfl⟩;refine ab @av ?_;exact⟨abN.trans (bB.ll (bG.trans eZ)).any,rfl⟩
   ·have e1:(yn==nm)=false:=by simpa using hy
    simp only[e1,Bool.false_or]at jX;refine θ (aH @av @nG @e1 ?_);refine ν @av ?_;refine ν @av ?_;exact az.N (j+1) ⟨bG.trans eZ,zG,jX⟩
  ·obtain rfl:j=l.length:=by omega
   rw[List.drop_length,List.any_nil]at jX;refine κ @av ?_;refine ν @av ?_;exact aB.mk () ⟨bG,jX⟩
 rintro⟨⟩ O5 ⟨bG,jX⟩;rw[jX,if_neg (by simp)];have yl:=Bm.ge bG;have gJ:=mP.ge bG;have UA:=abN.trans (bB.ll bG).any;clear bG Bm gO gu cy lr mP c9 c_ ff Gl abN dR hrb;have amD:=jA t o2 a2;refine κ @av ?_;refine ah.p (qU yl ht a2) ?_ ?_;rotate_left
 ·rintro m O9 ⟨_,h⟩;exact h.elim
 rintro m O6 ⟨r_,h9⟩;dsimp only at h9;obtain⟨rfl,n7⟩:=h9;have mM:App O6 O.N 2 tk:=App.bH gJ r_ (by have:=h.1;omega);have N4:=UA.trans r_;repeat refine ia @av ?_
 have hwk:= @lY t (o2+kM t o2) [61];have rD:=ur (X:=X) [61] n7 ht (by decide);generalize jk t (o2+kM t o2) [61]=WF at*;refine ah.p (rD) ?_ ?_;rotate_left
 ·rintro m O9 ⟨jw,h9⟩;cases WF with
  | ok y=>exact h9.elim
  | error e=>
    dsimp only at h9;subst h9;refine ab @av ?_;exact⟨bB.trans N4 jw,rfl⟩
 rintro m O7 ⟨D2,h9⟩;cases WF with
 | error e=>exact h9.elim
 | ok y9=>
 obtain⟨y7,o4⟩:=y9;dsimp only at h9;obtain⟨rfl,Lc⟩:=h9;obtain⟨b1,b2,b3⟩:=hwk rfl;have kC:App O7 O.N 2 tk:=App.bH mM D2 (by have:=h.1;omega);have akQ:=N4.trans D2;have amE:=jA t o4 b2;repeat refine ia @av ?_
 refine ah.p (qU Lc ht b2) ?_ ?_;rotate_left
 ·rintro m O9 ⟨_,h⟩;exact h.elim
 rintro m O8 ⟨rC,h9⟩;dsimp only at h9;obtain⟨rfl,hr8⟩:=h9;have Dq:App O8 O.N 2 tk:=App.bH kC rC (by have:=h.1;omega);have ag0:=akQ.trans rC;repeat refine ia @av ?_
 have hvk:= @Bl t (o4+kM t o4);have hvv:=abM hr8 ht;generalize u7 t (o4+kM t o4)=VF at*;refine ah.p (hvv) ?_ ?_;rotate_left
 ·rintro m O9 ⟨jw,h9⟩;cases VF with
  | ok y=>exact h9.elim
  | error e=>
    dsimp only at h9;subst h9;refine ab @av ?_;exact⟨bB.trans ag0 jw,rfl⟩
 rintro m OA ⟨huA,h9⟩;cases VF with
 | error e=>exact h9.elim
 | ok y9=>
 obtain⟨v,o6⟩:=y9;dsimp only at h9;obtain⟨rfl,hrA⟩:=h9;obtain⟨c1,c2,c3⟩:=hvk rfl;have abO:App OA O.N 2 tk:=App.bH Dq huA (by have:=h.1;omega);have UM:=ag0.trans huA;repeat refine ia @av ?_
 have akR:=aT (tk':=.full) (n:=l.length) (k:=1) (cs:=l.flatMap bm) (ds:=[.str nm,.str v]) T90 agJ.1.1 abO qq rfl rfl (by decide) (by decide) (by omega) (by simp only[maxLen];omega);refine VL.app akR ?_;repeat refine ia @av ?_
 have gR:=cc.after abO;have hne:∀i,i<O.N->Tok.id tk≠some i:=fun i hi e=>by have:=(abO.nE e).1;omega
 refine az.N (l++[(nm,v)],o6,.own OA.N 2) ⟨⟨ahY UM.N gR.N,fun i hi hk=>(gR.hp i (Ml hi UM.N) (hne i hi)).trans (UM.hp i hi hk)⟩,⟨Ml hrA.1 gR.N,(gR.hp k hrA.1 (hne k h.1)).trans hrA.2⟩,App.after UM.N,c2,?_,n,?_,rfl⟩ (hl:=?_) (hm:=?_)
 ·dsimp only;rw[Mm,List.length_singleton];omega
 ·dsimp only;omega
 ·dsimp only;rw[anj,Mm];rfl
 ·dsimp only;omega
structure Tk where
 kind:Int
 name:Bs
 attrs:List (Bs×Bs)
 text:Bs
 off:Nat
def zO (x:Tk):List MV:=[mi x.kind,.str x.name,.sl x.attrs.length (x.attrs.flatMap bm) .ar,.str x.text,mi x.off,mi 0,mi 0]
theorem Gm (x:Tk):(zO x).length=7:=rfl
structure UB (B k:Nat) (O O':VH):Prop where
 N:O.N<=O'.N
 hp:∀i,i<B->i≠k->O'.hp i=O.hp i
theorem UB.refl (B k:Nat) (O:VH):UB B k O O:=⟨ajv _,fun _ _ _=>rfl⟩
theorem UB.bH {B k:Nat} {O O1 O2:VH} (h:UB B k O O1) (u:bB O1 (some k) O2) (hB:B<=O1.N):UB B k O O2:=
 ⟨ahY h.N u.N,fun i hi hk=>(u.hp i (Ml hi hB) (by intro e;injection e;omega)).trans (h.hp i hi hk)⟩
theorem UB.ge {B k:Nat} {O O1 O2:VH} (h:UB B k O O1) (u:O1.Ge O2) (hB:B<=O1.N):UB B k O O2:=
 ⟨ahY h.N u.N,fun i hi hk=>(u.hp i (Ml hi hB)).trans (h.hp i hi hk)⟩
theorem UB.set {B k b:Nat} {O O1:VH} {x:cf} (h:UB B k O O1) (hb:B<=b\/b=k):UB B k O (O1.set b x):=
 ⟨h.N,fun i hi hk=>Γ (h.hp i hi hk)⟩
theorem UB.trans {B k:Nat} {O O1 O2:VH} (h:UB B k O O1) (u:UB B k O1 O2):UB B k O O2:=⟨ahY h.N u.N,fun i hi hk=>(u.hp i hi hk).trans (h.hp i hi hk)⟩
theorem Rd.other {O:VH} {k b off:Nat} {t:Bs} {X:MV} {x:cf} (h:Rd O k t off X) (hb:b≠k):Rd (O.set b x) k t off X:=⟨h.1,(ρ _ _ (fun e=>hb e.symm)).trans h.2⟩
def u9 {α β :Type} (f: α -> β):Except (Int×Nat) (α ×Nat)->Except (Int×Nat) (β ×Nat)
 | .error e=>.error e
 | .ok (x,o)=>.ok (f x,o)
def rP (t:Bs) (off:Nat):Except (Int×Nat) (Tk×Nat):=match jI t (off+2) 11 with
 | .error e=>.error e
 | .ok (nm,o2)=>u9 (fun _=>⟨3,nm,[],[],off⟩) (jk t (o2+kM t o2) [62])
def wF (t:Bs) (off:Nat):Except (Int×Nat) (Tk×Nat):=match jI t (off+1) 11 with
 | .error e=>.error e
 | .ok (nm,o2)=>match mj t (t.length+1 - o2) o2 []with
   | .error e=>.error e
   | .ok (l,o3)=>if ew (t.drop o3) [47]then u9 (fun _=>⟨2,nm,l,[],off⟩) (jk t (o3+1) [62])else u9 (fun _=>⟨1,nm,l,[],off⟩) (jk t o3 [62])
def nw (t:Bs) (off:Nat):Except (Int×Nat) (Tk×Nat):=
 if ew (t.drop off) [60,33,45,45]then u9 (fun s=>⟨5,[],[],s,off⟩) (jz t (off+List.length [(60:UInt8),33,45,45]) [45,45,62])
 else if ew (t.drop off) [60,33,91,67,68,65,84,65,91]then u9 (fun s=>⟨4,[],[],s,off⟩) (jz t (off+List.length [(60:UInt8),33,91,67,68,65,84,65,91]) [93,93,62])
 else if off=0/\se (t.drop off)=true then u9 (fun s=>⟨6,[],[],s,off⟩) (jz t (off+List.length [(60:UInt8),63,120,109,108]) [63,62])
 else if ew (t.drop off) [60,47]then rP t off
 else if ew (t.drop off) [60]then wF t off
 else u9 (fun s=>⟨4,[],[],s,off⟩) (fi t 60 (t.length+1 - off) off [])
structure TJ (O:VH) (B k n:Nat) (t:Bs) (p:MV) (L:List MV) (o:Nat) (O':VH):Prop where
 ub:UB B k O O'
 rd:Rd O' k t o p
 row:GR O' 163 7 B p n L
 lt:O.N<O'.N
theorem TJ.set {O O':VH} {B k n o:Nat} {t:Bs} {p:MV} {L cs:List MV} {x:cf} (h:TJ O B k n t p L o O') (hb:O'.hp O.N=some (.cells cs)) (hp:gid p≠some O.N) (ic:k<B) (hB:B<=O.N):TJ O B k n t p L o (O'.set O.N x):=
 ⟨h.ub.set (.inl hB),h.rd.other (by omega),h.row.qw bB.set hp (fun _ _ _ e=>by rw[hb]at e;cases e),h.lt⟩
theorem TJ.bH {O OX OY:VH} {B k n o o2:Nat} {t:Bs} {p:MV} {L:List MV} (h:TJ O B k n t p L o OX) (u:bB OX (some k) OY) (hr:Rd OY k t o2 p) (hp:gid p≠some k) (hB:B<=O.N):TJ O B k n t p L o2 OY:=
 ⟨h.ub.bH u (by have:=h.lt;omega),hr,h.row.qw u hp (fun _ _ _ e=>by rw[h.rd.2]at e;cases e),Ml h.lt u.N⟩
theorem TJ.pn {O OX OY:VH} {B k n o:Nat} {t:Bs} {p:MV} {L:List MV} (h:TJ O B k n t p L o OX) (u:bB OX (some k) OY) (hB:B<=O.N):UB B k O OY:=h.ub.bH u (by have:=h.lt;omega)
theorem TJ.at {O OX OY:VH} {B k n o:Nat} {t:Bs} {p:MV} {L cs:List MV} (h:TJ O B k n t p L o OX) (u:bB OX (some k) OY) (ic:k<B) (hB:B<=O.N) (hb:OX.hp O.N=some (.cells cs)):OY.hp O.N=some (.cells cs):=
 (u.hp _ h.lt (by intro e;injection e;omega)).trans hb
section
variable {P:Program} {n:Sz} {D:List Deferred} {c:Code} {e:Env} {O:VH} {Q:VQ} {md:Md} {d:Option Tmp} {K:Env->VH->Prop} {fv:Option MV} {ms:Option (List MV)} {b k:Nat} {x y:cf}
theorem ah.s1 (h:∀O3,O3=O.set b x->ah P n md Q d O3 K e fv ms):ah P n md Q d (O.set b x) K e fv ms:=h _ rfl
theorem ah.s2 (h:∀O3,O3=(O.set b x).set k y->ah P n md Q d O3 K e fv ms):ah P n md Q d ((O.set b x).set k y) K e fv ms:=h _ rfl
end
theorem wG {t:Bs}:∀(n o:Nat) (l:List (Bs×Bs)) {l':List (Bs×Bs)} {o':Nat},o<=t.length->mj t n o l= .ok (l',o')->o<=o'/\o'<=t.length
 | 0,o,l,l',o',ho,h=>by
   rw[mj]at h;injection h with h;injection h with h1 h2
   omega
 | n+1,o,l,l',o',ho,h=>by
   have o5:=jA t o ho;rw[mj]at h;split at h
   ·injection h with h;injection h with h1 h2
    omega
   split at h
   ·cases h
   rename_i nm o2 h2;have hn:=g_ h2;have cK:=jA t o2 (by omega);split at h
   ·cases h
   split at h
   ·cases h
   rename_i y4 o4 h4;have hw:=lY h4;have di:=jA t o4 (by omega);split at h
   ·cases h
   rename_i v o6 h6;have hv:=Bl h6;have:=wG n o6 _ (by omega) h;omega
set_option maxHeartbeats 800000 in
theorem abP {O:VH} {k off B n:Nat} {t:Bs} {p:MV} {L:List MV} (h:Rd O k t off p) (ht:t.length<=1000000) (ho:off<=t.length) (ic:k<B) (hB:B<=O.N) (c7:GR O 163 7 B p n L) (hn:n<=1000000):
  VF Tryz.prog 276 [.ptr k 0] O fun r O'=>UB B k O O'/\match r,nw t off with
   | .ret m,.ok (x,o')=>m= .tuple []/\∃p',Rd O' k t o' p'/\GR O' 163 7 B p' (n+1) (L++zO x)
   | .panic m,.error e=>m=Bh e.1 e.2
   | _,_=>False:=by
 have hk:=h.2;simp only[aq]at hk
 have kY:gid p≠some k:=fun e=>by
  rcases c7 with⟨_,_,hp | hp⟩ | ⟨k2,c,hp,_,_,jT⟩
  ·rw[hp]at e;cases e
  ·rw[hp]at e;cases e
  ·rw[hp]at e;injection e with e;have:=jT.lo;omega
 refine χ 116 [] Tryz.func276 ?_;refine ξ @av @hk ?_;refine VC.al ?_;rintro O1 ⟨aJ,cE,cW⟩;have kz:=h.ge aJ;have aiG:=c7.zD (bB.ll aJ);have cA:=kz.2;simp only[aq]at cA;have sG:UB B k O O1:=(UB.refl B k O).ge aJ hB
 have oK:gid p≠some O.N:=fun e=>by
  rcases c7 with⟨_,_,hp | hp⟩ | ⟨k2,c,hp,_,_,jT⟩
  ·rw[hp]at e;cases e
  ·rw[hp]at e;cases e
  ·rw[hp]at e;injection e with e;have:=jT.hi;omega
 have hJ:∀{O3:VH} {o:Nat},bB O1 (some k) O3->Rd O3 k t o p->TJ O B k n t p L o O3:=fun{O3 o} u hr=>
  ⟨sG.bH u (by omega),hr,aiG.qw u kY (fun _ _ _ e=>by rw[kz.2]at e;cases e),by have:=u.N;omega⟩
 refine Ξ [0,2] (fun x:Tk×Nat=>[.ptr k 0,.ptr O.N 0]) (fun x O'=>TJ O B k n t p L x.2 O'/\nw t off= .ok x/\∃att,O'.hp O.N=some (.cells [mi x.1.kind,.str x.1.name,att,.str x.1.text,mi x.1.off,mi 0,mi 0])/\ar att= .sl x.1.attrs.length (x.1.attrs.flatMap bm) .ar/\eb att=true) ?_ ?_
 ·refine υ ?_;unfold nw;refine κ @av ?_;refine π (qT [60,33,45,45] kz ho) ?_;rintro _ O2 ⟨rfl,eO⟩;rw[eO];clear eO O2
  cases hp:ew (t.drop off) [60,33,45,45];rotate_left
  ·rw[if_pos rfl];have hle:=ik hp;have huv:=Gj (X:=p) [60,33,45,45] [45,45,62] kz ht (by decide) (by rw[Mn]at hle;omega);generalize jz t (off+List.length [60,33,45,45]) [45,45,62]=F at*;repeat refine ia @av ?_
   refine ah.p (huv) ?_ ?_;rotate_left
   ·rintro m O9 ⟨jw,h9⟩;cases F with
    | ok y=>exact h9.elim
    | error e=>
      dsimp only at h9;subst h9;repeat refine ia @av ?_
      exact⟨UB.bH sG (bB.trans (bB.refl _ _) jw) (by omega),rfl⟩
   rintro m O3 ⟨c_,h9⟩;cases F with
   | error e=>exact h9.elim
   | ok y9=>
   obtain⟨s,o2⟩:=y9;dsimp only at h9;obtain⟨rfl,gO⟩:=h9;have cC:=(c_.hp _ (by omega) (by intro e;injection e;omega)).trans cE;repeat refine qQ @av @cC ?_
   exact aB.mk (⟨5,[],[],s,off⟩,o2) ⟨((hJ c_ gO).set cC oK ic hB).set (τ _ _ _) oK ic hB,rfl,.sl 0 [] .nil,τ _ _ _,by simp only[wu];rfl,rfl⟩
  rw[if_neg (by simp)];repeat refine ia @av ?_
  refine π (qT [60,33,91,67,68,65,84,65,91] kz ho) ?_;rintro _ O2 ⟨rfl,eO⟩;rw[eO];clear eO O2
  clear hp;cases hp:ew (t.drop off) [60,33,91,67,68,65,84,65,91];rotate_left
  ·rw[if_pos rfl];have hle:=ik hp;have huv:=Gj (X:=p) [60,33,91,67,68,65,84,65,91] [93,93,62] kz ht (by decide) (by rw[Mn]at hle;omega);generalize jz t (off+List.length [60,33,91,67,68,65,84,65,91]) [93,93,62]=F at*;repeat refine ia @av ?_
   refine ah.p (huv) ?_ ?_;rotate_left
   ·rintro m O9 ⟨jw,h9⟩;cases F with
    | ok y=>exact h9.elim
    | error e=>
      dsimp only at h9;subst h9;repeat refine ia @av ?_
      exact⟨UB.bH sG (bB.trans (bB.refl _ _) jw) (by omega),rfl⟩
   rintro m O3 ⟨c_,h9⟩;cases F with
   | error e=>exact h9.elim
   | ok y9=>
   obtain⟨s,o2⟩:=y9;dsimp only at h9;obtain⟨rfl,gO⟩:=h9;have cC:=(c_.hp _ (by omega) (by intro e;injection e;omega)).trans cE;repeat refine qQ @av @cC ?_
   exact aB.mk (⟨4,[],[],s,off⟩,o2) ⟨((hJ c_ gO).set cC oK ic hB).set (τ _ _ _) oK ic hB,rfl,.sl 0 [] .nil,τ _ _ _,by simp only[wu];rfl,rfl⟩
  rw[if_neg (by simp)];clear hp;by_cases h0:off=0;rotate_left
  ·rw[if_neg (fun h=>h0 h.1)];have h0i:((off:Int)==0)=false:=by simpa using h0
   repeat refine kg3 @av @cA @h0i ?_
   refine π (qT [60,47] kz ho) ?_;rintro _ O2 ⟨rfl,eO⟩;rw[eO];clear eO O2
   cases hp:ew (t.drop off) [60,47];rotate_left
   ·rw[if_pos rfl];unfold rP;have hle:=ik hp;simp only[Mn,zW,ZA]at hle;repeat refine qQ @av @cA ?_
    have gu:Rd (O1.set k (.cells [.str t,mi (off+2:Nat),p])) k t (off+2) p:=kz.set;have c9:bB O1 (some k) (O1.set k (.cells [.str t,mi (off+2:Nat),p])):=bB.set;have lx:((off:Int)+2)=((off+2:Nat):Int):=by omega
    simp only[aq, <-lx]at gu c9;generalize O1.set k (.cells [.str t,.v (.int .i64 ((off:Int)+2)),p])=O2 at*;repeat refine ia @av ?_
    have D3:=Bi 11 gu ht;have vi:= @g_ t (off+2) 11;generalize jI t (off+2) 11=F at*;refine ah.p (D3) ?_ ?_;rotate_left
    ·rintro m O9 ⟨jw,h9⟩;cases F with
     | ok y=>exact h9.elim
     | error e=>
       dsimp only at h9;subst h9;repeat refine ia @av ?_
       exact⟨UB.bH sG (bB.trans c9 jw) (by omega),rfl⟩
    rintro m O3 ⟨c_,h9⟩;cases F with
    | error e=>exact h9.elim
    | ok y9=>
    obtain⟨s,o2⟩:=y9;dsimp only at h9;obtain⟨rfl,gO⟩:=h9;have u_:=c9.trans c_;obtain⟨a1,a2,a3,a4⟩:=vi rfl;have cC:=(u_.hp _ (by omega) (by intro e;injection e;omega)).trans cE;repeat refine qQ @av @cC ?_
    refine ah.s2 ?_;rintro O4 qa;have wH:TJ O B k n t p L o2 O4:=by rw[qa];exact((hJ u_ gO).set cC oK ic hB).set (τ _ _ _) oK ic hB
    have di:O4.hp O.N=some (.cells [mi 3,.str s,.sl 0 [] .nil,.str [],mi off,mi 0,mi 0]):=by rw[qa];exact τ _ _ _
    clear qa;have o5:=jA t o2 a2;refine ah.p (qU wH.rd ht a2) ?_ ?_;rotate_left
    ·rintro m O9 ⟨_,h⟩;exact h.elim
    rintro m O5 ⟨rB,h9⟩;dsimp only at h9;obtain⟨rfl,yl⟩:=h9;have uu:=wH.bH rB yl kY hB;have dy:=wH.at rB ic hB di;repeat refine ia @av ?_
    have rD:=ur (X:=p) [62] yl ht (by decide);generalize jk t (o2+kM t o2) [62]=W at*;refine ah.p (rD) ?_ ?_;rotate_left
    ·rintro m O9 ⟨jw,h9⟩;cases W with
     | ok y=>exact h9.elim
     | error e=>
       dsimp only at h9;subst h9;repeat refine ia @av ?_
       exact⟨TJ.pn uu jw hB,rfl⟩
    rintro m O6 ⟨r_,h9⟩;cases W with
    | error e=>exact h9.elim
    | ok y9=>
    obtain⟨y6,o4⟩:=y9;dsimp only at h9;obtain⟨rfl,n7⟩:=h9;have ju:=uu.at r_ ic hB dy;repeat refine ia @av ?_
    exact aB.mk (⟨3,s,[],[],off⟩,o4) ⟨uu.bH r_ n7 kY hB,rfl,.sl 0 [] .nil,ju,by simp only[wu];rfl,rfl⟩
   rw[if_neg (by simp)];clear hp;repeat refine ia @av ?_
   refine π (qT [60] kz ho) ?_;rintro _ O2 ⟨rfl,eO⟩;rw[eO];clear eO O2
   cases hp:ew (t.drop off) [60];rotate_left
   ·rw[if_pos rfl];unfold wF;have hle:=ik hp;simp only[Mn,zW,ZA]at hle;repeat refine qQ @av @cA ?_
    have gu:Rd (O1.set k (.cells [.str t,mi (off+1:Nat),p])) k t (off+1) p:=kz.set;have c9:bB O1 (some k) (O1.set k (.cells [.str t,mi (off+1:Nat),p])):=bB.set;have lx:((off:Int)+1)=((off+1:Nat):Int):=by omega
    simp only[aq, <-lx]at gu c9;generalize O1.set k (.cells [.str t,.v (.int .i64 ((off:Int)+1)),p])=O2 at*;repeat refine ia @av ?_
    have D3:=Bi 11 gu ht;have vi:= @g_ t (off+1) 11;generalize jI t (off+1) 11=F at*;refine ah.p (D3) ?_ ?_;rotate_left
    ·rintro m O9 ⟨jw,h9⟩;cases F with
     | ok y=>exact h9.elim
     | error e=>
       dsimp only at h9;subst h9;repeat refine ia @av ?_
       exact⟨UB.bH sG (bB.trans c9 jw) (by omega),rfl⟩
    rintro m O3 ⟨c_,h9⟩;cases F with
    | error e=>exact h9.elim
    | ok y9=>
    obtain⟨s,o2⟩:=y9;dsimp only at h9;obtain⟨rfl,gO⟩:=h9;have u_:=c9.trans c_;obtain⟨a1,a2,a3,a4⟩:=vi rfl;have cC:=(u_.hp _ (by omega) (by intro e;injection e;omega)).trans cE;repeat refine qQ @av @cC ?_
    refine ah.s1 ?_;rintro O4 qa;have wH:TJ O B k n t p L o2 O4:=by rw[qa];exact(hJ u_ gO).set cC oK ic hB
    have di:O4.hp O.N=some (.cells [mi 0,.str s,.sl 0 [] .nil,.str [],mi off,mi 0,mi 0]):=by rw[qa];exact τ _ _ _
    clear qa;have Yc:=Ov wH.rd ht a2;have Yd:= @wG t (t.length+1 - o2) o2 [];generalize mj t (t.length+1 - o2) o2 []=A at*;refine ah.p (Yc) ?_ ?_;rotate_left
    ·rintro m O9 ⟨jw,h9⟩;cases A with
     | ok y=>exact h9.elim
     | error e=>
       dsimp only at h9;subst h9;repeat refine ia @av ?_
       exact⟨wH.pn jw hB,rfl⟩
    rintro m O5 ⟨rB,h9⟩;cases A with
    | error e=>exact h9.elim
    | ok y9=>
    obtain⟨l,o3⟩:=y9;dsimp only at h9;obtain⟨⟨tk,rfl⟩,yl⟩:=h9;obtain⟨c1,c2⟩:=Yd a2 rfl;have uu:=wH.bH rB yl kY hB;have dy:=wH.at rB ic hB di;simp only[aq]at dy;repeat refine qQ @av @dy ?_
    refine ah.s2 ?_;rintro O6 Cp;have zP:TJ O B k n t p L o3 O6:=by rw[Cp];exact(uu.set dy oK ic hB).set (τ _ _ _) oK ic hB
    have ju:O6.hp O.N=some (.cells [mi 1,.str s,.sl l.length (l.flatMap bm) tk,.str [],mi off,mi 0,mi 0]):=by rw[Cp];exact τ _ _ _
    clear Cp;have p8:=zP.rd.2;simp only[aq]at ju p8;refine π (qT [47] zP.rd c2) ?_;rintro _ O7 ⟨rfl,eO⟩;rw[eO];clear eO O7
    cases Yb:ew (t.drop o3) [47]
    ·rw[if_neg (by simp)];repeat refine ia @av ?_
     have rD:=ur (X:=p) [62] zP.rd ht (by decide);generalize jk t o3 [62]=W at*;refine ah.p (rD) ?_ ?_;rotate_left
     ·rintro m O9 ⟨jw,h9⟩;cases W with
      | ok y=>exact h9.elim
      | error e=>
        dsimp only at h9;subst h9;repeat refine ia @av ?_
        exact⟨TJ.pn zP jw hB,rfl⟩
     rintro m O7 ⟨D2,h9⟩;cases W with
     | error e=>exact h9.elim
     | ok y9=>
     obtain⟨y7,o4⟩:=y9;dsimp only at h9;obtain⟨rfl,Lc⟩:=h9;have zL:=zP.at D2 ic hB ju;repeat refine ia @av ?_
     exact aB.mk (⟨1,s,l,[],off⟩,o4) ⟨zP.bH D2 Lc kY hB,rfl,.sl l.length (l.flatMap bm) tk,zL,by simp only[wu,gH],rfl⟩
    ·rw[if_pos rfl];have UD:=ik Yb;simp only[Mn,zW,ZA]at UD;have abQ:=fun x:cf=>(ρ O6 (k:=O.N) (j:=k) x (by omega)).trans p8
     repeat refine kg4 @av @ju @p8 @abQ ?_
     refine ah.s2 ?_;rintro O7 qX;have fA:((o3:Int)+1)=((o3+1:Nat):Int):=by omega
     rw[fA]at qX;have HZ:=zP.set (x:=.cells [.v (.int .i64 2),.str s,.sl l.length (l.flatMap bm) tk,.str [],.v (.int .i64 off),.v (.int .i64 0),.v (.int .i64 0)]) ju oK ic hB;have Ld:TJ O B k n t p L (o3+1) O7:=by rw[qX];exact HZ.bH bB.set (Rd.set HZ.rd) kY hB
     have zL:O7.hp O.N=some (.cells [mi 2,.str s,.sl l.length (l.flatMap bm) tk,.str [],mi off,mi 0,mi 0]):=by rw[qX];exact Γ (τ _ _ _)
     clear qX HZ;have rD:=ur (X:=p) [62] Ld.rd ht (by decide);generalize jk t (o3+1) [62]=W at*;refine ah.p (rD) ?_ ?_;rotate_left
     ·rintro m O9 ⟨jw,h9⟩;cases W with
      | ok y=>exact h9.elim
      | error e=>
        dsimp only at h9;subst h9;repeat refine ia @av ?_
        exact⟨TJ.pn Ld jw hB,rfl⟩
     rintro m O8 ⟨rC,h9⟩;cases W with
     | error e=>exact h9.elim
     | ok y9=>
     obtain⟨y8,o4⟩:=y9;dsimp only at h9;obtain⟨rfl,hr8⟩:=h9;have uf:=Ld.at rC ic hB zL;repeat refine ia @av ?_
     exact aB.mk (⟨2,s,l,[],off⟩,o4) ⟨Ld.bH rC hr8 kY hB,rfl,.sl l.length (l.flatMap bm) tk,uf,by simp only[wu,gH],rfl⟩
   rw[if_neg (by simp)];clear hp;repeat refine ia @av ?_
   have j6:=zN (X:=p) 60 kz ht ho;generalize fi t 60 (t.length+1 - off) off []=F at*;refine ah.p (j6) ?_ ?_;rotate_left
   ·rintro m O9 ⟨jw,h9⟩;cases F with
    | ok y=>exact h9.elim
    | error e=>
      dsimp only at h9;subst h9;repeat refine ia @av ?_
      exact⟨UB.bH sG (bB.trans (bB.refl _ _) jw) (by omega),rfl⟩
   rintro m O3 ⟨c_,h9⟩;cases F with
   | error e=>exact h9.elim
   | ok y9=>
   obtain⟨s,o2⟩:=y9;dsimp only at h9;obtain⟨rfl,gO⟩:=h9;have cC:=(c_.hp _ (by omega) (by intro e;injection e;omega)).trans cE;repeat refine qQ @av @cC ?_
   exact aB.mk (⟨4,[],[],s,off⟩,o2) ⟨((hJ c_ gO).set cC oK ic hB).set (τ _ _ _) oK ic hB,rfl,.sl 0 [] .nil,τ _ _ _,by simp only[wu];rfl,rfl⟩
  have h0i:((off:Int)==0)=true:=by simpa using h0
  repeat refine kg3 @av @cA @h0i ?_
  refine π (X5 kz ht ho) ?_;rintro _ O2 ⟨rfl,eO⟩;rw[eO];clear eO O2
  cases hhd:se (t.drop off)
  ·rw[if_neg (fun h=>by cases h.2)];repeat refine ia @av ?_
   refine π (qT [60,47] kz ho) ?_;rintro _ O2 ⟨rfl,eO⟩;rw[eO];clear eO O2
   cases hp:ew (t.drop off) [60,47];rotate_left
   ·rw[if_pos rfl];unfold rP;have hle:=ik hp;simp only[Mn,zW,ZA]at hle;repeat refine qQ @av @cA ?_
    have gu:Rd (O1.set k (.cells [.str t,mi (off+2:Nat),p])) k t (off+2) p:=kz.set;have c9:bB O1 (some k) (O1.set k (.cells [.str t,mi (off+2:Nat),p])):=bB.set;have lx:((off:Int)+2)=((off+2:Nat):Int):=by omega
    simp only[aq, <-lx]at gu c9;generalize O1.set k (.cells [.str t,.v (.int .i64 ((off:Int)+2)),p])=O2 at*;repeat refine ia @av ?_
    have D3:=Bi 11 gu ht;have vi:= @g_ t (off+2) 11;generalize jI t (off+2) 11=F at*;refine ah.p (D3) ?_ ?_;rotate_left
    ·rintro m O9 ⟨jw,h9⟩;cases F with
     | ok y=>exact h9.elim
     | error e=>
       dsimp only at h9;subst h9;repeat refine ia @av ?_
       exact⟨UB.bH sG (bB.trans c9 jw) (by omega),rfl⟩
    rintro m O3 ⟨c_,h9⟩;cases F with
    | error e=>exact h9.elim
    | ok y9=>
    obtain⟨s,o2⟩:=y9;dsimp only at h9;obtain⟨rfl,gO⟩:=h9;have u_:=c9.trans c_;obtain⟨a1,a2,a3,a4⟩:=vi rfl;have cC:=(u_.hp _ (by omega) (by intro e;injection e;omega)).trans cE;repeat refine qQ @av @cC ?_
    refine ah.s2 ?_;rintro O4 qa;have wH:TJ O B k n t p L o2 O4:=by rw[qa];exact((hJ u_ gO).set cC oK ic hB).set (τ _ _ _) oK ic hB
    have di:O4.hp O.N=some (.cells [mi 3,.str s,.sl 0 [] .nil,.str [],mi off,mi 0,mi 0]):=by rw[qa];exact τ _ _ _
    clear qa;have o5:=jA t o2 a2;refine ah.p (qU wH.rd ht a2) ?_ ?_;rotate_left
    ·rintro m O9 ⟨_,h⟩;exact h.elim
    rintro m O5 ⟨rB,h9⟩;dsimp only at h9;obtain⟨rfl,yl⟩:=h9;have uu:=wH.bH rB yl kY hB;have dy:=wH.at rB ic hB di;repeat refine ia @av ?_
    have rD:=ur (X:=p) [62] yl ht (by decide);generalize jk t (o2+kM t o2) [62]=W at*;refine ah.p (rD) ?_ ?_;rotate_left
    ·rintro m O9 ⟨jw,h9⟩;cases W with
     | ok y=>exact h9.elim
     | error e=>
       dsimp only at h9;subst h9;repeat refine ia @av ?_
       exact⟨TJ.pn uu jw hB,rfl⟩
    rintro m O6 ⟨r_,h9⟩;cases W with
    | error e=>exact h9.elim
    | ok y9=>
    obtain⟨y6,o4⟩:=y9;dsimp only at h9;obtain⟨rfl,n7⟩:=h9;have ju:=uu.at r_ ic hB dy;repeat refine ia @av ?_
    exact aB.mk (⟨3,s,[],[],off⟩,o4) ⟨uu.bH r_ n7 kY hB,rfl,.sl 0 [] .nil,ju,by simp only[wu];rfl,rfl⟩
   rw[if_neg (by simp)];clear hp;repeat refine ia @av ?_
   refine π (qT [60] kz ho) ?_;rintro _ O2 ⟨rfl,eO⟩;rw[eO];clear eO O2
   cases hp:ew (t.drop off) [60];rotate_left
   ·rw[if_pos rfl];unfold wF;have hle:=ik hp;simp only[Mn,zW,ZA]at hle;repeat refine qQ @av @cA ?_
    have gu:Rd (O1.set k (.cells [.str t,mi (off+1:Nat),p])) k t (off+1) p:=kz.set;have c9:bB O1 (some k) (O1.set k (.cells [.str t,mi (off+1:Nat),p])):=bB.set;have lx:((off:Int)+1)=((off+1:Nat):Int):=by omega
    simp only[aq, <-lx]at gu c9;generalize O1.set k (.cells [.str t,.v (.int .i64 ((off:Int)+1)),p])=O2 at*;repeat refine ia @av ?_
    have D3:=Bi 11 gu ht;have vi:= @g_ t (off+1) 11;generalize jI t (off+1) 11=F at*;refine ah.p (D3) ?_ ?_;rotate_left
    ·rintro m O9 ⟨jw,h9⟩;cases F with
     | ok y=>exact h9.elim
     | error e=>
       dsimp only at h9;subst h9;repeat refine ia @av ?_
       exact⟨UB.bH sG (bB.trans c9 jw) (by omega),rfl⟩
    rintro m O3 ⟨c_,h9⟩;cases F with
    | error e=>exact h9.elim
    | ok y9=>
    obtain⟨s,o2⟩:=y9;dsimp only at h9;obtain⟨rfl,gO⟩:=h9;have u_:=c9.trans c_;obtain⟨a1,a2,a3,a4⟩:=vi rfl;have cC:=(u_.hp _ (by omega) (by intro e;injection e;omega)).trans cE;repeat refine qQ @av @cC ?_
    refine ah.s1 ?_;rintro O4 qa;have wH:TJ O B k n t p L o2 O4:=by rw[qa];exact(hJ u_ gO).set cC oK ic hB
    have di:O4.hp O.N=some (.cells [mi 0,.str s,.sl 0 [] .nil,.str [],mi off,mi 0,mi 0]):=by rw[qa];exact τ _ _ _
    clear qa;have Yc:=Ov wH.rd ht a2;have Yd:= @wG t (t.length+1 - o2) o2 [];generalize mj t (t.length+1 - o2) o2 []=A at*;refine ah.p (Yc) ?_ ?_;rotate_left
    ·rintro m O9 ⟨jw,h9⟩;cases A with
     | ok y=>exact h9.elim
     | error e=>
       dsimp only at h9;subst h9;repeat refine ia @av ?_
       exact⟨wH.pn jw hB,rfl⟩
    rintro m O5 ⟨rB,h9⟩;cases A with
    | error e=>exact h9.elim
    | ok y9=>
    obtain⟨l,o3⟩:=y9;dsimp only at h9;obtain⟨⟨tk,rfl⟩,yl⟩:=h9;obtain⟨c1,c2⟩:=Yd a2 rfl;have uu:=wH.bH rB yl kY hB;have dy:=wH.at rB ic hB di;simp only[aq]at dy;repeat refine qQ @av @dy ?_
    refine ah.s2 ?_;rintro O6 Cp;have zP:TJ O B k n t p L o3 O6:=by rw[Cp];exact(uu.set dy oK ic hB).set (τ _ _ _) oK ic hB
    have ju:O6.hp O.N=some (.cells [mi 1,.str s,.sl l.length (l.flatMap bm) tk,.str [],mi off,mi 0,mi 0]):=by rw[Cp];exact τ _ _ _
    clear Cp;have p8:=zP.rd.2;simp only[aq]at ju p8;refine π (qT [47] zP.rd c2) ?_;rintro _ O7 ⟨rfl,eO⟩;rw[eO];clear eO O7
    cases Yb:ew (t.drop o3) [47]
    ·rw[if_neg (by simp)];repeat refine ia @av ?_
     have rD:=ur (X:=p) [62] zP.rd ht (by decide);generalize jk t o3 [62]=W at*;refine ah.p (rD) ?_ ?_;rotate_left
     ·rintro m O9 ⟨jw,h9⟩;cases W with
      | ok y=>exact h9.elim
      | error e=>
        dsimp only at h9;subst h9;repeat refine ia @av ?_
        exact⟨TJ.pn zP jw hB,rfl⟩
     rintro m O7 ⟨D2,h9⟩;cases W with
     | error e=>exact h9.elim
     | ok y9=>
     obtain⟨y7,o4⟩:=y9;dsimp only at h9;obtain⟨rfl,Lc⟩:=h9;have zL:=zP.at D2 ic hB ju;repeat refine ia @av ?_
     exact aB.mk (⟨1,s,l,[],off⟩,o4) ⟨zP.bH D2 Lc kY hB,rfl,.sl l.length (l.flatMap bm) tk,zL,by simp only[wu,gH],rfl⟩
    ·rw[if_pos rfl];have UD:=ik Yb;simp only[Mn,zW,ZA]at UD;have abQ:=fun x:cf=>(ρ O6 (k:=O.N) (j:=k) x (by omega)).trans p8
     repeat refine kg4 @av @ju @p8 @abQ ?_
     refine ah.s2 ?_;rintro O7 qX;have fA:((o3:Int)+1)=((o3+1:Nat):Int):=by omega
     rw[fA]at qX;have HZ:=zP.set (x:=.cells [.v (.int .i64 2),.str s,.sl l.length (l.flatMap bm) tk,.str [],.v (.int .i64 off),.v (.int .i64 0),.v (.int .i64 0)]) ju oK ic hB;have Ld:TJ O B k n t p L (o3+1) O7:=by rw[qX];exact HZ.bH bB.set (Rd.set HZ.rd) kY hB
     have zL:O7.hp O.N=some (.cells [mi 2,.str s,.sl l.length (l.flatMap bm) tk,.str [],mi off,mi 0,mi 0]):=by rw[qX];exact Γ (τ _ _ _)
     clear qX HZ;have rD:=ur (X:=p) [62] Ld.rd ht (by decide);generalize jk t (o3+1) [62]=W at*;refine ah.p (rD) ?_ ?_;rotate_left
     ·rintro m O9 ⟨jw,h9⟩;cases W with
      | ok y=>exact h9.elim
      | error e=>
        dsimp only at h9;subst h9;repeat refine ia @av ?_
        exact⟨TJ.pn Ld jw hB,rfl⟩
     rintro m O8 ⟨rC,h9⟩;cases W with
     | error e=>exact h9.elim
     | ok y9=>
     obtain⟨y8,o4⟩:=y9;dsimp only at h9;obtain⟨rfl,hr8⟩:=h9;have uf:=Ld.at rC ic hB zL;repeat refine ia @av ?_
     exact aB.mk (⟨2,s,l,[],off⟩,o4) ⟨Ld.bH rC hr8 kY hB,rfl,.sl l.length (l.flatMap bm) tk,uf,by simp only[wu,gH],rfl⟩
   rw[if_neg (by simp)];clear hp;repeat refine ia @av ?_
   have j6:=zN (X:=p) 60 kz ht ho;generalize fi t 60 (t.length+1 - off) off []=F at*;refine ah.p (j6) ?_ ?_;rotate_left
   ·rintro m O9 ⟨jw,h9⟩;cases F with
    | ok y=>exact h9.elim
    | error e=>
      dsimp only at h9;subst h9;repeat refine ia @av ?_
      exact⟨UB.bH sG (bB.trans (bB.refl _ _) jw) (by omega),rfl⟩
   rintro m O3 ⟨c_,h9⟩;cases F with
   | error e=>exact h9.elim
   | ok y9=>
   obtain⟨s,o2⟩:=y9;dsimp only at h9;obtain⟨rfl,gO⟩:=h9;have cC:=(c_.hp _ (by omega) (by intro e;injection e;omega)).trans cE;repeat refine qQ @av @cC ?_
   exact aB.mk (⟨4,[],[],s,off⟩,o2) ⟨((hJ c_ gO).set cC oK ic hB).set (τ _ _ _) oK ic hB,rfl,.sl 0 [] .nil,τ _ _ _,by simp only[wu];rfl,rfl⟩
  ·rw[if_pos ⟨h0,rfl⟩]
   have hp:ew (t.drop off) [60,63,120,109,108]=true:=by
    unfold se at hhd;simp only[anl]at hhd;exact hhd.1.1
   repeat refine ia @av ?_
   have hle:=ik hp;have huv:=Gj (X:=p) [60,63,120,109,108] [63,62] kz ht (by decide) (by rw[Mn]at hle;omega);generalize jz t (off+List.length [60,63,120,109,108]) [63,62]=F at*;repeat refine ia @av ?_
   refine ah.p (huv) ?_ ?_;rotate_left
   ·rintro m O9 ⟨jw,h9⟩;cases F with
    | ok y=>exact h9.elim
    | error e=>
      dsimp only at h9;subst h9;repeat refine ia @av ?_
      exact⟨UB.bH sG (bB.trans (bB.refl _ _) jw) (by omega),rfl⟩
   rintro m O3 ⟨c_,h9⟩;cases F with
   | error e=>exact h9.elim
   | ok y9=>
   obtain⟨s,o2⟩:=y9;dsimp only at h9;obtain⟨rfl,gO⟩:=h9;have cC:=(c_.hp _ (by omega) (by intro e;injection e;omega)).trans cE;repeat refine qQ @av @cC ?_
   exact aB.mk (⟨6,[],[],s,off⟩,o2) ⟨((hJ c_ gO).set cC oK ic hB).set (τ _ _ _) oK ic hB,rfl,.sl 0 [] .nil,τ _ _ _,by simp only[wu];rfl,rfl⟩
 rintro⟨x,o'⟩ O2 ⟨aM,cT,att,cK,bE,iB⟩;dsimp only at aM cT cK bE iB;rw[cT];have bN:=aM.rd.2;simp only[aq]at cK bN;refine VC.Ki [0,7,8,9,10] (by kernel_rfl) ?_;refine bP.mv 0 ?_;refine bP.bQ [(1,.rd),(2,.rd),(3,.rd),(4,.rd),(5,.rd),(6,.one),(7,.one),(8,.one),(9,.one),(10,.one)] ?_;simp only[ak];repeat refine kg3 @av @cK @bN ?_
 refine VL.wk (EW.top (Wk.sl (qz _))) ?_
 have r9:c8 [.v (.int .i64 x.kind),.str x.name,att,.str x.text,.v (.int .i64 x.off),.v (.int .i64 0),.v (.int .i64 0)]=zO x:=by
  simp only[wu,bE,zO,aq]
 rw[r9];have ei:=aM.lt;refine VL.aiC aa (by simp) (fun i hi=>by match i,hi with | 7,_=>rfl | 0,hi | 1,hi | 2,hi | 3,hi | 4,hi | 5,hi | 6,hi | 8,hi | 9,hi | 10,hi=>cases hi | _+11,hi=>cases hi) (te:=⟨_,7,88,_⟩) (dx:=.slice 163) (q:=.sl 1 (zO x) .full) (j:=1) (ds:=zO x) aM.row rfl rfl (by rw[FO];rfl) agF.1.1 (by rw[FO];rfl) trivial (by dsimp only;omega) (by simp only[maxLen];omega) (by omega) rfl rfl rfl rfl ?_;intro m O3 ym lZ iS hm;have dR:O3.hp k=some (.cells [.str t,.v (.int .i64 o'),p]):=(lZ.hp k aM.rd.1 (by intro e;exact kY e)).trans bN
 obtain⟨k2,c2,rfl⟩:∃k2 c2,m= .bz k2 0 (n+1) c2:=by
  rcases hm with⟨k2,c2,h1,_⟩ | ⟨h1,_⟩
  ·exact⟨k2,c2,h1⟩
  ·cases h1
 have amF:B<=k2:=by
  rcases ym with⟨h1,_⟩ | ⟨k3,c3,h1,_,_,h4⟩
  ·cases h1
  ·injection h1 with h1;rw[h1];exact h4.lo
 have hpB:∀i,i<B->gid p≠some i:=fun i hi e=>by
  rcases c7 with⟨_,_,hp | hp⟩ | ⟨k3,c,hp,_,_,jT⟩
  ·rw[hp]at e;cases e
  ·rw[hp]at e;cases e
  ·rw[hp]at e;injection e with e;have:=jT.lo;omega
 clear hm iS;try refine qQ @av @dR ?_
 refine⟨⟨ahY aM.ub.N lZ.N,fun i hi hk=>(ρ _ _ hk).trans ((lZ.hp i (by omega) (hpB i hi)).trans (aM.ub.hp i hi hk))⟩,.bz k2 0 (n+1) c2,⟨Ml aM.rd.1 lZ.N,τ _ _ _⟩,ym.qw bB.set (by intro e;injection e;omega) (fun _ _ _ e=>by rw[dR]at e;cases e)⟩
theorem Gn {O:VH} {a b c d:Nat} {K:VH->Prop} (h:K O):gU Tryz.prog 274 [.ptr a 0,.ptr b 0,.ptr c 0,.ptr d 0] none O K:=by
 refine gU.rec (d:=7) Tryz.func274 (anc (by decide:7<19) rfl) ?_;show WC _ _ ⟨19,0⟩ _ _ _ _ _;simp only[cL,ajy,Nat.reduceAdd,AO];refine ao @ey @wi ?_;refine VL.pure (by simp) (fun _=>.inl rfl) rfl rfl (iZ.FD (bb:=true) Tryz.underlying20 rfl (.inl ⟨rfl,rfl⟩)) ?_;refine WL.sound aa ?_;refine ao @ey @wi ?_;exact h
theorem abR {O:VH} {a b c d off:Nat} {e:Int} {t:Bs} {K:VH->Prop} {x y:MV} {z1 z2 z3:MV} (ht:t.length<=1000000) (ho:off<=t.length) (ha:O.hp a=some (.cells [.str t])) (hb:O.hp b=some (.cells [x])) (hc:O.hp c=some (.cells [y])) (hd:O.hp d=some (.cells [z1,z2,z3]))
  (han:a<O.N) (R3:b<O.N) (F5:c<O.N) (tY:d<O.N) (hbc:b≠c) (dd:b≠d) (hcd:c≠d)
  (h:∀O',O.N<=O'.N->(∀i,i<O.N->i≠b->i≠c->i≠d->O'.hp i=O.hp i)->O'.hp b=some (.cells [.sl 0 [] .nil])->O'.hp c=some (.cells [mi e])->O'.hp d=some (.cells [mi off,mi (1+((t.take off).count 10:Nat)),mi ((off:Int) - gm (t.take off) 10 (t.take off).length)])->K O'):gU Tryz.prog 274 [.ptr a 0,.ptr b 0,.ptr c 0,.ptr d 0] (some (Bh e off)) O K:=by
 refine gU.rec (d:=7) Tryz.func274 (anc (by decide:7<19) rfl) ?_;show WC _ _ ⟨19,0⟩ _ _ _ _ _;simp only[cL,ajy,Nat.reduceAdd,AO,Bh];refine ao @ey @wi ?_;refine VL.pure (by simp) (fun _=>.inl rfl) rfl rfl (iZ.Ur (bb:=false) Tryz.underlying20 rfl (.inl ⟨rfl,rfl⟩)) ?_;refine WL.sound aa ?_;refine ao @ey @wi ?_;refine VL.pure (by simp) (fun _=>.inl rfl) rfl rfl (iZ.asT Tryz.underlying414 (fun _ h=>by cases h) rfl) ?_;refine WL.sound aa ?_;refine ao @ey @wi ?_;refine VC.al ?_;rintro O2 ⟨aC,jv,eJ⟩;have eA:=(aC.hp _ han).trans ha;have cK:=(aC.hp _ R3).trans hb;have iL:=(aC.hp _ F5).trans hc;have jS:=(aC.hp _ tY).trans hd;have yh:∀(X:cf) {i:Nat} {y:Option cf},i<O.N->O2.hp i=y->(O2.set O.N X).hp i=y:=fun X {i y} hi h=>Γ h
 refine VC.qy [] (O.N) (jv) ?_;intro X;have fb:=yh (.obj X) han eA;have di:=yh (.obj X) R3 cK;have fR:=yh (.obj X) F5 iL;have Bo:=yh (.obj X) tY jS;have qY:(O2.set O.N (.obj X)).hp O.N=some (.obj X):=τ _ _ _;have h_:(O2.set O.N (.obj X)).N=O.N+1:=eJ;have aY:O.Ge (O2.set O.N (.obj X)):=aC.set (ajv _) _;generalize hO4:O2.set O.N (.obj X)=O4 at*;refine ae.au 0 ?_;refine ab @ey ?_;refine anM (m:=.v (.int .i64 e)) 1 ?_ ?_
 ·exact fU @ey
 simp only[ak];refine ae.au 3 ?_;refine ab @ey ?_;refine anM (m:=.v (.int .i64 off)) 4 ?_ ?_
 ·exact fU @ey
 simp only[ak];refine ae.op (i:=2) ?_;refine ao @ey @fb ?_;refine⟨qY,?_⟩;refine ae.call (i:=5) (agY t off _ ht ho) ?_;rintro _ O3 ⟨rfl,aG⟩;simp only[ak];refine⟨aG.at qY,?_⟩;have gE:=aG.N;have Ye:=aG.at qY;have cC:=aG.at di;have fA:=aG.at fR;have wI:=aG.at Bo;have bG:O.Ge O3:=aY.trans aG;unfold p9;simp only[aq]at h ⊢;refine ae.op (i:=6) ?_;refine ao @ey @cC ?_;refine⟨Ye,?_⟩;refine ae.op (i:=7) ?_;refine ao @ey @fA ?_;refine⟨Ye,?_⟩;refine ae.op (i:=8) ?_;refine ao @ey @wI ?_;refine⟨Ye,?_⟩;refine ae.nR [] ?_;refine ab @ey ?_;refine h _ (by rw[VH.ft,VH.ft,VH.ft,VH.ft];exact bG.N) (fun i hi h1 h2 h3=>?_) ?_ ?_ ?_
 ·rw[ρ _ _ (by omega),ρ _ _ h3,ρ _ _ h2,ρ _ _ h1];exact bG.hp i hi
 ·rw[ρ _ _ (by omega),ρ _ _ dd,ρ _ _ hbc,τ]
 ·rw[ρ _ _ (by omega),ρ _ _ hcd,τ]
 ·rw[ρ _ _ (by omega),τ]
theorem kg8 {A1 A2 A3 A4 A5 A6 A7 A8 P Q:Prop} (a1:A1) (a2:A2) (a3:A3) (a4:A4) (a5:A5) (a6:A6) (a7:A7) (a8:A8) (q:Q) (h:A1->A2->A3->A4->A5->A6->A7->A8->Q->P:=by intro a1 a2 a3 a4 a5 a6 a7 a8 q;first | (with_reducible refine θ ?_;refine XA a1 a2 a3 a4 a5 a6 a7 a8 q) | (with_reducible refine ι ?_;refine XA a1 a2 a3 a4 a5 a6 a7 a8 q) | (first | with_reducible refine R_ ?_ | with_reducible refine Sa ?_ | with_reducible refine Sb ?_ | with_reducible refine Sc ?_);refine XA a1 a2 a3 a4 a5 a6 a7 a8 q):P:=h a1 a2 a3 a4 a5 a6 a7 a8 q
def jl (t:Bs):Nat->Nat->List Tk->Except (Int×Nat) (List Tk)
 | 0,_,l=>.ok l
 | n+1,o,l=>if t.length<=o then .ok l else match nw t o with
   | .error e=>.error e
   | .ok (x,o')=>jl t n o' (l++[x])
def va (t:Bs):Except (Int×Nat) (List Tk):=jl t (t.length+1) 0 []
def mZ (t:Bs) (o:Nat):Nat:=1+(t.take o).count 10
def Gp (t:Bs) (o:Nat):Int:=(o:Int) - gm (t.take o) 10 (t.take o).length
def vk (t:Bs) (x:Tk):List MV:=[mi x.kind,.str x.name,.sl x.attrs.length (x.attrs.flatMap bm) .ar,.str x.text,mi x.off,mi (mZ t x.off),mi (Gp t x.off)]
theorem xP {t:Bs} {stop:UInt8}:∀(n o:Nat) (acc:Bs) {e:Int} {p:Nat},fi t stop n o acc= .error (e,p)->p<=t.length
 | 0,o,acc,e,p,h=>by unfold fi at h;cases h
 | n+1,o,acc,e,p,h=>by
   unfold fi at h;cases hg:t[o]? with
   | none=>rw[hg]at h;cases h
   | some c=>
     have Sk:o<t.length:=(VI.1 hg).1;rw[hg]at h;simp only at h;split at h
     ·cases h
     split at h
     ·split at h
      ·injection h with h;injection h with h1 h2;omega
      ·exact xP n _ _ h
     split at h
     ·injection h with h;injection h with h1 h2;omega
     ·exact xP n _ _ h
theorem zQ {t:Bs} {o:Nat} {k e:Int} {p:Nat} (h:jI t o k= .error (e,p)):p=o:=by
 unfold jI at h;split at h
 ·injection h with h;injection h with h1 h2;omega
 split at h
 ·injection h with h;injection h with h1 h2;omega
 ·cases h
theorem uw {t:Bs} {o:Nat} {q:Bs} {e:Int} {p:Nat} (h:jk t o q= .error (e,p)):p=o:=by
 unfold jk at h;split at h
 ·injection h with h;injection h with h1 h2;omega
 split at h
 ·cases h
 ·injection h with h;injection h with h1 h2;omega
theorem Yf {t:Bs} {o:Nat} {e:Int} {p:Nat} (ho:o<=t.length) (h:u7 t o= .error (e,p)):p<=t.length:=by
 unfold u7 at h;split at h
 ·injection h with h;injection h with h1 h2;omega
 rename_i q hq;have Sk:=(VI.1 hq).1;split at h
 ·injection h with h;injection h with h1 h2;omega
 split at h
 ·rename_i e2 h2;injection h with h;subst h
  exact xP _ _ _ h2
 rename_i s2 o2 h2;have:=o9 _ _ _ (by omega) (by simp) h2;split at h
 ·injection h with h;injection h with h1 h2;omega
 ·cases h
theorem Jn {t:Bs}:∀(n o:Nat) (l:List (Bs×Bs)) {e:Int} {p:Nat},o<=t.length->mj t n o l= .error (e,p)->p<=t.length
 | 0,o,l,e,p,ho,h=>by rw[mj]at h;cases h
 | n+1,o,l,e,p,ho,h=>by
   have o5:=jA t o ho;rw[mj]at h;split at h
   ·cases h
   split at h
   ·rename_i e2 h2;injection h with h;subst h
    have:=zQ h2;omega
   rename_i nm o2 h2;have hn:=g_ h2;have cK:=jA t o2 (by omega);split at h
   ·injection h with h;injection h with h1 h2;omega
   split at h
   ·rename_i e4 h4;injection h with h;subst h
    have:=uw h4;omega
   rename_i y4 o4 h4;have hw:=lY h4;have di:=jA t o4 (by omega);split at h
   ·rename_i e6 h6;injection h with h;subst h
    exact Yf di h6
   rename_i v o6 h6;have hv:=Bl h6;exact Jn n o6 _ (by omega) h
theorem wJ {t:Bs} {o:Nat} {q:Bs} {e:Int} {p:Nat} (ho:o<=t.length) (h:jz t o q= .error (e,p)):p<=t.length:=by
 unfold jz at h;split at h
 ·injection h with h;injection h with h1 h2
  have h3:=oT nq (qV (t.drop o) q)
  have h4:(qV (t.drop o) q).length<=t.length - o:=by
   unfold qV;split
   ·rw[ajB,Mn];omega
   ·rw[Mn];exact ajv _
  omega
 split at h
 ·injection h with h;injection h with h1 h2;omega
 ·cases h
theorem Yg (s p:Bs) (h:0<=Lib.index s p):Lib.index s p+p.length<=s.length:=by
 induction s with
 | nil=>
   unfold Lib.index at h ⊢;cases p with
   | nil=>simp
   | cons c p=>simp at h
 | cons b l ih=>
   have iS:=Lib.index_ge l p;unfold Lib.index at h ⊢;split
   ·rename_i h1;have:=(List.isPrefixOf_iff_prefix.1 h1).length_le;omega
   ·rename_i h1;rw[if_neg h1]at h;split
    ·rename_i h2;rw[if_pos h2]at h;omega
    ·rename_i h2;have h3:Lib.index l p≠ -1:=by simpa using h2
     have:=ih (by omega);rw[zW];omega
theorem zR {t:Bs} {o:Nat} {q s:Bs} {p:Nat} (ho:o<=t.length) (h:jz t o q= .ok (s,p)):o+q.length<=p/\p<=t.length:=by
 unfold jz at h;split at h
 ·cases h
 split at h
 ·cases h
 ·rename_i h1;injection h with h;injection h with h2 h3
  have:=Yg (t.drop o) q (by omega);rw[Mn]at this;omega
theorem ny {α β :Type} {f: α -> β} {F:Except (Int×Nat) (α ×Nat)} {e:Int×Nat} (h:u9 f F= .error e):F= .error e:=by
 cases F with
 | error e2=>injection h with h;rw[h]
 | ok y=>cases h
theorem jJ {α β :Type} {f: α -> β} {F:Except (Int×Nat) (α ×Nat)} {x: β} {o:Nat} (h:u9 f F= .ok (x,o)):∃y,F= .ok (y,o)/\x=f y:=by
 cases F with
 | error e2=>cases h
 | ok y=>obtain⟨y,o2⟩:=y;injection h with h;injection h with h1 h2;exact⟨y,by rw[h2],h1.symm⟩
theorem Yh {t:Bs} {o:Nat} {e:Int} {p:Nat} (ho:o<=t.length) (h:nw t o= .error (e,p)):p<=t.length:=by
 have hp:∀{q:Bs},ew (t.drop o) q=true->o+q.length<=t.length:=fun hq=>by
  have:=ik hq;rw[Mn]at this;omega
 unfold nw at h;split at h
 ·exact wJ (hp ‹_›) (ny h)
 split at h
 ·exact wJ (hp ‹_›) (ny h)
 split at h
 ·rename_i h1;refine wJ (hp (q:=[60,63,120,109,108]) ?_) (ny h);have:=h1.2;unfold se at this;simp only[anl]at this;exact this.1.1
 split at h
 ·have h0:=hp ‹_›;simp only[zW,ZA]at h0;unfold rP at h;split at h
  ·rename_i h2;injection h with h;subst h
   have:=zQ h2;omega
  rename_i nm o2 h2;have hn:=g_ h2;have cK:=jA t o2 (by omega);have:=uw (ny h);omega
 split at h
 ·have h0:=hp ‹_›;simp only[zW,ZA]at h0;unfold wF at h;split at h
  ·rename_i h2;injection h with h;subst h
   have:=zQ h2;omega
  rename_i nm o2 h2;have hn:=g_ h2;split at h
  ·rename_i e3 h3;injection h with h;subst h
   exact Jn _ _ _ (by omega) h3
  rename_i l o3 h3;have ha:=wG _ _ _ (by omega) h3;split at h
  ·have h4:=ik ‹_›;simp only[Mn,zW,ZA]at h4;have:=uw (ny h);omega
  ·have:=uw (ny h);omega
 ·exact xP _ _ _ (ny h)
theorem Sl {t:Bs} {stop:UInt8} {n o:Nat} {acc s:Bs} {o':Nat} (ho:o<t.length) (ha:acc.length<=o) (hne:t[o]?≠some stop) (h:fi t stop (n+1) o acc= .ok (s,o')):o<o':=by
 unfold fi at h;have hg:=ajA ho;rw[hg]at h hne;generalize t[o]=c at*;simp only at h;split at h
 ·rename_i hc;rw[hc]at hne;exact absurd rfl hne
 split at h
 ·split at h
  ·cases h
  ·rename_i h5;obtain⟨k1,k2,k3⟩:=Bj (by simpa using h5);rw[Mn]at k2;have:=o9 n _ _ (by omega) (by rw[Mm];omega) h;omega
 split at h
 ·cases h
 ·have:=o9 n _ _ (by omega) (by rw[Mm];simp only[zW,ZA];omega) h;omega
theorem Ow {t:Bs} {o:Nat} {x:Tk} {o':Nat} (ho:o<t.length) (h:nw t o= .ok (x,o')):x.off=o/\o<o'/\o'<=t.length:=by
 have hp:∀{q:Bs},ew (t.drop o) q=true->o+q.length<=t.length:=fun hq=>by
  have:=ik hq;rw[Mn]at this;omega
 unfold nw at h;split at h
 ·obtain⟨y,h1,rfl⟩:=jJ h;have:=zR (hp ‹_›) h1;simp only[zW,ZA]at this;exact⟨rfl,by omega,by omega⟩
 split at h
 ·obtain⟨y,h1,rfl⟩:=jJ h;have:=zR (hp ‹_›) h1;simp only[zW,ZA]at this;exact⟨rfl,by omega,by omega⟩
 split at h
 ·rename_i h1;obtain⟨y,h2,rfl⟩:=jJ h
  have:=zR (hp (q:=[60,63,120,109,108]) (by
   have:=h1.2;unfold se at this;simp only[anl]at this;exact this.1.1)) h2
  simp only[zW,ZA]at this;exact⟨rfl,by omega,by omega⟩
 split at h
 ·have h0:=hp ‹_›;simp only[zW,ZA]at h0;unfold rP at h;split at h
  ·cases h
  rename_i nm o2 h2;have hn:=g_ h2;have cK:=jA t o2 (by omega);obtain⟨y,h3,rfl⟩:=jJ h;have:=lY h3;exact⟨rfl,by omega,by omega⟩
 split at h
 ·have h0:=hp ‹_›;simp only[zW,ZA]at h0;unfold wF at h;split at h
  ·cases h
  rename_i nm o2 h2;have hn:=g_ h2;split at h
  ·cases h
  rename_i l o3 h3;have ha:=wG _ _ _ (by omega) h3;split at h
  ·obtain⟨y,h4,rfl⟩:=jJ h;have:=lY h4;exact⟨rfl,by omega,by omega⟩
  ·obtain⟨y,h4,rfl⟩:=jJ h;have:=lY h4;exact⟨rfl,by omega,by omega⟩
 ·rename_i hne;obtain⟨y,h1,rfl⟩:=jJ h;have h2:=o9 _ _ _ (by omega) (by simp) h1;obtain⟨n,hn⟩:∃n,t.length+1 - o=n+1:=⟨t.length - o,by omega⟩
  rw[hn]at h1;refine⟨rfl,Sl ho (by simp) (fun e=>hne ?_) h1,h2.2.1⟩;unfold ew;rw[anb ho];rw[ajA ho]at e;injection e with e;rw[e];simp
theorem Jo (s:Bs) (c:UInt8):∀n:Nat, -1<=gm s c n/\gm s c n<=n
 | 0=>by unfold gm;omega
 | n+1=>by
   have:=Jo s c n;unfold gm;split<;>omega
theorem abS {A D:List MV} {n:Nat} (hA:A.length=n) {vs:List MV} {i:Nat} {v:MV} (h:vs[i]?=some v):(A++(vs++D))[n+i]?=some v:=by
 have hi:=(VI.1 h).1;rw[ah0 (by omega),List.getElem?_append_left (by omega),hA,ahZ];exact h
theorem Oy {A D:List MV} {n:Nat} (hA:A.length=n) {vs:List MV} {i:Nat} {v:MV} (h:i<vs.length):(A++(vs++D)).set (n+i) v=A++(vs.set i v++D):=by
 rw[ame _ _ (by omega),List.set_append_left _ _ (by omega),hA,ahZ]
theorem OI {t:Bs} {a:Nat} (h:a<t.length):mZ t (a+1)=mZ t a+if t[a]=10 then 1 else 0:=by
 unfold mZ;rw[dB _ _ h,List.count_append];split
 ·rename_i h1;rw[h1];simp;omega
 ·rename_i h1;rw[List.count_singleton,if_neg (by simpa using h1)];omega
theorem Row.to {O O':VH} {el:TypeId} {sz B k c:Nat} {L L' sp:List MV} (h:Row O el sz B k c L) (u:bB O (some k) O') (hc:O'.hp k=some (.cells (L'++sp))) (hl:(L'++sp).length=c*sz):Row O' el sz B k c L':=by
 obtain⟨sp0,h1,h2⟩:=h.cells;obtain⟨j,h3,h4,h5⟩:=h.oV;refine⟨⟨sp,hc,hl⟩,⟨j,h3,Ml h4 u.N,(u.hp j h4 ?_).trans h5⟩,h.lo,Ml h.hi u.N⟩;intro e;injection e with e;subst e;rw[h1]at h5;cases h5
theorem Row.abT {O:VH} {el:TypeId} {sz B k c q:Nat} {L cs:List MV} {x:cf} (h:Row O el sz B k c L) (hq:q≠k) (hc:O.hp q=some (.cells cs)):Row (O.set q x) el sz B k c L:=
 h.qw bB.set hq (fun _ _ e=>by rw[hc]at e;cases e)
theorem wK (t:Bs) (x:Tk):(vk t x).length=7:=rfl
set_option maxHeartbeats 800000 in
theorem aiH (t:Bs) (O:VH) (ht:t.length<=65536):VF Tryz.prog 259 [.str t] O (aE fun m O'=>O.Ge O'/\match va t with
  | .ok l=>∃p,m= .tuple [p,mi 0,.agg [mi 0,mi 0,mi 0]]/\GR O' 163 7 O.N p l.length (l.flatMap (vk t))
  | .error e=>m= .tuple [.sl 0 [] .nil,mi e.1,p9 t e.2]):=by
 refine VF.Ga (lo:=5) (k:=77) (rs:=[.cell 2 165,.cell 3 87,.cell 4 108]) Tryz.func259 (Enters.sI (by kernel_rfl)) ?_;simp only[cL,ajy,Nat.reduceAdd];refine ab @ey ?_;refine VC.gen ?_;rintro O1 sU;obtain⟨aJ,cW,cz,cE,fj,oL⟩:=Gb _ _ _ _ sU;clear sU;refine ξ @ey @cz ?_;try refine ia @ey ?_
 refine⟨_,rfl,fun D=>?_⟩;refine ξ @ey @cz ?_;refine VC.bx ?_;rintro O2 ⟨aC,bN,eJ⟩
 replace bN:O2.hp (O.N+4)=some (.cells [.str t,mi (0:Nat),.sl 0 [] .nil]):=by rw[<-cW];exact bN
 rw[cW];have eA:=aC.at cz;have cK:=aC.at cE;have iL:=aC.at fj;have jS:=aC.at oL
 replace eJ:O2.N=O.N+5:=by omega
 have fC:=aJ.trans aC;clear aJ aC cz cE fj oL cW O1;refine Ξ [1,2,3,4,5] (fun x:List Tk×MV=>[.ptr O.N 0,.ptr (O.N+1) 0,.ptr (O.N+2) 0,.ptr (O.N+3) 0,.ptr (O.N+4) 0]) (fun x O'=>UB (O.N+5) (O.N+4) O2 O'/\Rd O' (O.N+4) t t.length x.2/\GR O' 163 7 (O.N+5) x.2 x.1.length (x.1.flatMap zO)/\x.1.length<=t.length/\(∀y∈x.1,y.off<t.length)/\x.1.Pairwise (fun a b=>a.off<=b.off)/\va t= .ok x.1) ?_ ?_
 ·refine υ ?_;refine Δ [] [1,2,3,4,5] (fun x:List Tk×MV×Nat=>[]) (fun x O'=>UB (O.N+5) (O.N+4) O2 O'/\Rd O' (O.N+4) t x.2.2 x.2.1/\GR O' 163 7 (O.N+5) x.2.1 x.1.length (x.1.flatMap zO)/\x.1.length<=x.2.2/\x.2.2<=t.length/\(∀y∈x.1,y.off<x.2.2)/\x.1.Pairwise (fun a b=>a.off<=b.off)/\∃n,t.length+1 - x.2.2<=n/\va t=jl t n x.2.2 x.1) (fun x=>t.length - x.2.2) (([],.sl 0 [] .nil,0)) ?_ ?_
  ·exact⟨UB.refl _ _ _,⟨by omega,bN⟩,.inl ⟨rfl,rfl,.inl rfl⟩,ajx _,ajx _,(fun y hy=>by cases hy),List.Pairwise.nil,_,ajv _,rfl⟩
  rintro⟨l,p,o⟩ O3 ⟨Bp,hr,c7,zp,Ou,ly,sb,n,hn,he⟩;dsimp only at Bp hr c7 zp Ou ly sb hn he;obtain⟨n,rfl⟩:∃i,n=i+1:=⟨n - 1,by omega⟩
  rw[jl]at he;repeat refine qQ @ey @wd ?_
  refine π (nZ hr) ?_;rintro _ O4 ⟨rfl,eO⟩;rw[eO];clear eO O4
  by_cases h1:t.length<=o
  ·rw[if_pos h1]at he;obtain rfl:o=t.length:=by omega
   rw[decide_eq_true h1];repeat refine qQ @ey @wd ?_
   exact aB.mk (l,p) ⟨Bp,hr,c7,zp,ly,sb,he⟩
  rw[if_neg h1]at he;rw[decide_eq_false h1];repeat refine qQ @ey @wd ?_
  have htv:=abP hr (by omega) Ou (by omega:O.N+4<O.N+5) (by have:=Bp.N;omega) c7 (by omega);have cT:= @Ow t o;have oo:= @Yh t o;generalize nw t o=F at*;refine ah.p htv ?_ ?_
  ·rintro m O4 ⟨abU,h4⟩;cases F with
   | error e=>exact h4.elim
   | ok y=>
   obtain⟨x,o2⟩:=y;dsimp only at h4 he;obtain⟨rfl,p2,Bm,aiI⟩:=h4;obtain⟨k1,k2,k3⟩:=cT (by omega) rfl;repeat refine qQ @ey @wd ?_
   refine az.N (l++[x],p2,o2) ⟨Bp.trans abU,Bm,?_,?_,k3,?_,?_,n,?_,he⟩ (hm:=?_)
   ·dsimp only;rw[Mm,anj,List.flatMap_singleton];exact aiI
   ·dsimp only;rw[Mm,List.length_singleton];omega
   ·intro y hy;dsimp only at hy ⊢;rcases ajw.1 hy with hy | hy
    ·have:=ly y hy;omega
    ·rw[ahW.1 hy];omega
   ·dsimp only;rw[List.pairwise_append];exact⟨sb,List.pairwise_singleton _ _,fun a ha b hb=>by rw[ahW.1 hb];have:=ly a ha;omega⟩
   ·dsimp only;omega
   ·dsimp only;omega
  ·rintro m O4 ⟨abU,h4⟩;cases F with
   | ok y=>exact h4.elim
   | error e=>
   obtain⟨e,off⟩:=e;dsimp only at h4 he;subst h4;have qb:=oo Ou rfl;have zS:=Bp.trans abU;have h_:=zS.N;have fb:=(zS.hp O.N (by omega) (by omega)).trans eA;have di:=(zS.hp (O.N+1) (by omega) (by omega)).trans cK;have fR:=(zS.hp (O.N+2) (by omega) (by omega)).trans iL;have Bo:=(zS.hp (O.N+3) (by omega) (by omega)).trans jS;try refine qQ @ey @wd ?_
   refine abR (by omega) qb fb di fR Bo (by omega) (by omega) (by omega) (by omega) (by omega) (by omega) (by omega) ?_;intro O5 e_ oM dy gd Cq;simp only[aq]at dy gd Cq;refine iw @ey @wd @dy @gd @Cq ?_;refine⟨⟨by have:=zS.N;omega,fun i hi=>?_⟩,?_⟩
   ·rw[oM i (by omega) (by omega) (by omega) (by omega),zS.hp i (by omega) (by omega)];exact fC.hp i hi
   ·rw[he];dsimp only;rfl
 rintro⟨l,p⟩ O3 ⟨Bp,hr,c7,AJ,ly,sb,he⟩;dsimp only at Bp hr c7 AJ ly sb he;rw[he];have iH:=(Bp.hp O.N (by omega) (by omega)).trans eA;have cC:=(Bp.hp (O.N+1) (by omega) (by omega)).trans cK;have fA:=(Bp.hp (O.N+2) (by omega) (by omega)).trans iL;have wI:=(Bp.hp (O.N+3) (by omega) (by omega)).trans jS;have gE:=Bp.N;have eu:∀i,i<O.N->O3.hp i=O.hp i:=fun i hi=>(Bp.hp i (by omega) (by omega)).trans (fC.hp i hi)
 have dR:=hr.2;simp only[aq]at dR;rcases c7 with⟨h0,hL,hp⟩ | ⟨k2,c,rfl,AI,pF,jT⟩
 ·obtain rfl:l=[]:=ahX h0;have fin:∀{p:MV} {O5:VH},(p= .sl 0 [] .nil\/p= .sl 0 [] .full)->O.N<=O5.N->(∀i,i<O.N->O5.hp i=O.hp i)->(O.Ge O5/\∃p',MV.tuple [p,mi 0,.agg [mi 0,mi 0,mi 0]]= .tuple [p',mi 0,.agg [mi 0,mi 0,mi 0]]/\GR O5 163 7 O.N p' 0 []):=fun hp hn hh=>⟨⟨hn,hh⟩,_,rfl,.inl ⟨rfl,rfl,hp⟩⟩
  have hO:∀{x y z:cf} {i:Nat},i<O.N->((((O3.set (O.N+1) x).set (O.N+2) y).set (O.N+3) z)).hp i=O.hp i:=fun hi=>by
   rw[ρ _ _ (by omega),ρ _ _ (by omega),ρ _ _ (by omega)];exact eu _ hi
  rcases hp with rfl | rfl
  ·refine ξ @ey @wd ?_;refine ω ?_;refine θ (aH @ey @wd @dR ?_);refine υ ?_;refine Δ [6,7,32] [1,2,3,4,5,31] (fun _:Unit=>[mi 1,mi 0,mi 0]) (fun _ O'=>O'=O3) (fun _=>0) (()) ?_ ?_
   ·exact rfl
   rintro⟨⟩ O4 eO;rw[eO];clear eO O4
   repeat refine kg6 @ey @wd @dR @cC @fA @wI ?_
   refine Gn ?_;refine ao @ey @wd ?_;exact fin (by simp) (by rw[VH.ft,VH.ft,VH.ft];omega) (fun i hi=>hO hi)
  ·refine ξ @ey @wd ?_;refine ω ?_;refine θ (aH @ey @wd @dR ?_);refine υ ?_;refine Δ [6,7,32] [1,2,3,4,5,31] (fun _:Unit=>[mi 1,mi 0,mi 0]) (fun _ O'=>O'=O3) (fun _=>0) (()) ?_ ?_
   ·exact rfl
   rintro⟨⟩ O4 eO;rw[eO];clear eO O4
   repeat refine kg6 @ey @wd @dR @cC @fA @wI ?_
   refine Gn ?_;refine ao @ey @wd ?_;exact fin (by simp) (by rw[VH.ft,VH.ft,VH.ft];omega) (fun i hi=>hO hi)
 obtain⟨sp,hsp,IY⟩:=jT.cells;have fF:=jT.lo;have Sm:=jT.hi;refine ξ @ey @wd ?_;refine ω ?_;refine θ (aH @ey @wd @dR ?_);refine υ ?_;refine Δ [6,7,32] [1,2,3,4,5,31] (fun x:Nat×Nat=>[mi (mZ t x.2),mi x.2,mi x.1]) (fun x O'=>bB O3 (some k2) O'/\O'.hp k2=some (.cells ((l.take x.1).flatMap (vk t)++(l.drop x.1).flatMap zO++sp))/\x.1<=l.length/\x.2<=t.length/\(∀y∈l.drop x.1,x.2<=y.off)) (fun x=>l.length - x.1) ((0,0)) ?_ ?_
 ·exact⟨bB.refl _ _,hsp,ajx _,ajx _,fun _ _=>ajx _⟩
 rintro⟨j,a⟩ O4 ⟨ff,fR,hj,ha,zE⟩;dsimp only at ff fR hj ha zE;have lX:=(ff.hp _ (by omega) (by intro e;injection e;omega)).trans dR;have D4:=(ff.hp _ (by omega) (by intro e;injection e;omega)).trans iH;have D5:=Nat.min_eq_left hj;by_cases zG:j<l.length;rotate_left
 ·obtain rfl:j=l.length:=by omega
  rw[List.take_length,List.drop_length,List.flatMap_nil,ajz]at fR;have di:=(ff.hp _ (by omega) (by intro e;injection e;omega)).trans cC;have ag1:=(ff.hp _ (by omega) (by intro e;injection e;omega)).trans fA;have Bo:=(ff.hp _ (by omega) (by intro e;injection e;omega)).trans wI
  have akS:Row O4 163 7 (O.N+5) k2 c (l.flatMap (vk t)):=jT.to ff fR (by
   rw[Mm,aX (wK t)];rw[Mm,pF]at IY;exact IY)
  have h_:=ff.N
  have hO:∀{x y z:cf} {i:Nat},i<O.N->((((O4.set (O.N+1) x).set (O.N+2) y).set (O.N+3) z)).hp i=O.hp i:=fun hi=>by
   rw[ρ _ _ (by omega),ρ _ _ (by omega),ρ _ _ (by omega)];exact(ff.hp _ (by omega) (by intro e;injection e;omega)).trans (eu _ hi)
  repeat refine kg6 @ey @wd @lX @di @ag1 @Bo ?_
  refine Gn ?_;refine ao @ey @wd ?_;refine⟨⟨by rw[VH.ft,VH.ft,VH.ft];omega,fun i hi=>hO hi⟩,_,rfl,.inr ⟨k2,c,rfl,AI,aX (wK t) _,?_⟩⟩;exact(((akS.abT (by omega) di).abT (by omega) (Γ ag1)).abT (by omega) (Γ (Γ Bo))).wider (by omega)
 have Sj:=anb zG;have cT:(l.take (j+1))=l.take j++[l[j]]:=dB _ _ zG;have hxo:l[j].off<t.length:=ly _ (List.getElem_mem zG);have hxa:a<=l[j].off:=zE _ (by rw[Sj];exact List.mem_cons_self ..)
 have tU:∀y∈l.drop (j+1),l[j].off<=y.off:=by
  have:=sb.drop (i:=j);rw[Sj,List.pairwise_cons]at this;exact this.1
 rw[Sj,List.flatMap_cons]at fR;generalize hx:l[j]=x at*;have hA:((l.take j).flatMap (vk t)).length=j*7:=by rw[aX (wK t),ajB,D5]
 generalize hAe:(l.take j).flatMap (vk t)=A at*;generalize hEe:(l.drop (j+1)).flatMap zO=E at*;refine ξ @ey @wd ?_;try refine qQ @ey @wd ?_
 refine ω (υ ?_);refine ξ @ey @wd ?_;refine θ (aH @ey @wd @lX ?_);rw[aeb,aeb]at fR;have Yi:(A++(zO x++(E++sp)))[j*7+4]?=some (.v (.int .i64 x.off)):=abS hA (vs:=zO x) rfl
 have hCl:j*7+7<=(A++(zO x++(E++sp))).length:=by
  rw[Mm,Mm,Gm,hA];omega
 have hCs:∀(y z:MV),((A++(zO x++(E++sp))).set (j*7+5) y).set (j*7+6) z=A++([mi x.kind,.str x.name,.sl x.attrs.length (x.attrs.flatMap bm) .ar,.str x.text,mi x.off,y,z]++(E++sp)):=fun y z=>by
  rw[Oy hA (by rw[Gm];decide),Oy hA (by rw[List.length_set,Gm];decide)];rfl
 generalize A++(zO x++(E++sp))=C at*;refine ω (υ ?_);refine Δ [6,7] [1,2,3,4,5,9,31,32] (fun b:Nat=>[mi (mZ t b),mi b]) (fun b O'=>O'=O4/\b<=x.off) (fun b=>x.off - b) (a) ?_ ?_
 ·exact⟨rfl,hxa⟩
 rintro b O5 ⟨eO,hb⟩;rw[eO];clear eO O5
 have amG:mZ t b<=1+t.length:=by
  unfold mZ;have h1:=List.count_le_length (a:=(10:UInt8)) (l:=t.take b);rw[ajB]at h1;omega
 by_cases fa:b<x.off
 ·have o_:b<t.length:=by omega
  have hg:=ajA o_;have Xy:=OI o_;generalize t[b]=ch at*;generalize mZ t b=ln at*;by_cases rE:ch=10
  ·rw[if_pos rE]at Xy;have e1:((ch.toNat:Int)==10)=true:=by rw[rE];rfl
   repeat refine kg8 @ey @wd @fR @Yi @D4 @hg @aL @e1 ?_
   exact az.N (b+1) ⟨rfl,by omega⟩ (hl:=(by rw[Xy];rfl))
  ·rw[if_neg rE]at Xy;have e1:((ch.toNat:Int)==10)=false:=by simpa using fun e:(ch.toNat:Int)=10=>rE (UInt8.toNat_inj.1 (by simpa using(by omega:ch.toNat=10)))
   repeat refine kg8 @ey @wd @fR @Yi @D4 @hg @aL @e1 ?_
   exact az.N (b+1) ⟨rfl,by omega⟩ (hl:=(by rw[Xy];rfl))
 obtain rfl:b=x.off:=by omega
 generalize hln:mZ t x.off=ln at*;repeat refine kg5 @ey @wd @fR @Yi @D4 ?_
 have iB:gm (t.take x.off) 10 (t.take x.off).length<=x.off/\ -1<=gm (t.take x.off) 10 (t.take x.off).length:=by
  have h1:=Jo (t.take x.off) 10 (t.take x.off).length;rw[ajB,Nat.min_eq_left (by omega)]at h1 ⊢;omega
 have hlen:(t.take x.off).length<=1000000:=by rw[ajB];omega
 refine π (Cn (t.take x.off) 10 _ hlen) ?_;rintro _ O5 ⟨rfl,eO⟩;rw[eO];clear eO O5
 have akT:Gp t x.off=(x.off:Int) - gm (t.take x.off) 10 (t.take x.off).length:=rfl;generalize gm (t.take x.off) 10 (t.take x.off).length=lf at*;repeat refine kg3 @ey @wd @fR ?_
 refine az.N (j+1,x.off) ⟨ff.trans (bB.set.trans bB.set),?_,zG,Nat.le_of_lt hxo,tU⟩ (hl:=(by dsimp only;rw[hln];rfl));rw[τ,cT,anj,List.flatMap_singleton];have hC:=hCs (mi ln) (mi ((x.off:Int) - lf))
 have h7:vk t x=[mi x.kind,.str x.name,.sl x.attrs.length (x.attrs.flatMap bm) .ar,.str x.text,mi x.off,mi ln,mi ((x.off:Int) - lf)]:=by
  unfold vk;rw[hln,akT]
 rw[hAe,hEe,h7,aeb,aeb, <-hC];rfl
set_option linter.defProp false in
def b9:=ahV nv<|ahV AS T9
abbrev fD:List MV:=[.v (.bool false),.str [],.str [],.str [],.str [],.str [],.str [],.str [],.sl 0 [] .nil,.sl 0 [] .nil,.sl 0 [] .nil]
theorem abV {O:VH} {a b c:Nat} {K:VH->Prop} (h:K O):gU Tryz.prog 262 [.ptr a 0,.ptr b 0,.ptr c 0] none O K:=by
 refine gU.rec (d:=6) Tryz.func262 (anc (by decide:6<17) rfl) ?_;show WC _ _ ⟨17,0⟩ _ _ _ _ _;simp only[cL,ajy,Nat.reduceAdd,AO];refine ao @b9 @wi ?_;refine VL.pure (by simp) (fun _=>.inl rfl) rfl rfl (iZ.FD (bb:=true) Tryz.underlying20 rfl (.inl ⟨rfl,rfl⟩)) ?_;refine WL.sound aa ?_;refine ao @b9 @wi ?_;exact h
theorem jL {O:VH} {a b c:Nat} {e:Int} {s:Bs} {K:VH->Prop} {x0 x1 x2 x3 x4 x5 x6 x7 x8 x9 x10 y z:MV} (ha:O.hp a=some (.cells [x0,x1,x2,x3,x4,x5,x6,x7,x8,x9,x10])) (hb:O.hp b=some (.cells [y])) (hc:O.hp c=some (.cells [z]))
  (han:a<O.N) (R3:b<O.N) (F5:c<O.N) (Yj:a≠b) (hac:a≠c) (hbc:b≠c)
  (h:∀O',O.N<=O'.N->(∀i,i<O.N->i≠a->i≠b->i≠c->O'.hp i=O.hp i)->O'.hp a=some (.cells fD)->O'.hp b=some (.cells [mi e])->O'.hp c=some (.cells [.str s])->K O'):gU Tryz.prog 262 [.ptr a 0,.ptr b 0,.ptr c 0] (some (uk e s)) O K:=by
 refine gU.rec (d:=6) Tryz.func262 (anc (by decide:6<17) rfl) ?_;show WC _ _ ⟨17,0⟩ _ _ _ _ _;simp only[cL,ajy,Nat.reduceAdd,AO,uk];refine ao @b9 @wi ?_;refine VL.pure (by simp) (fun _=>.inl rfl) rfl rfl (iZ.Ur (bb:=false) Tryz.underlying20 rfl (.inl ⟨rfl,rfl⟩)) ?_;refine WL.sound aa ?_;refine ao @b9 @wi ?_;refine VL.pure (by simp) (fun _=>.inl rfl) rfl rfl (iZ.asT Tryz.underlying401 (fun _ h=>by cases h) rfl) ?_;refine WL.sound aa ?_;refine ao @b9 @wi ?_;refine VC.al ?_;rintro O2 ⟨aC,jv,eJ⟩;have yh:∀(X:cf) {i:Nat} {y:Option cf},i<O.N->O.hp i=y->(O2.set O.N X).hp i=y:=fun X {i y} hi h=>Γ ((aC.hp _ hi).trans h)
 refine VC.qy [] (O.N) (jv) ?_;intro X;have fb:=yh (.obj X) han ha;have di:=yh (.obj X) R3 hb;have fR:=yh (.obj X) F5 hc;have qY:(O2.set O.N (.obj X)).hp O.N=some (.obj X):=τ _ _ _;have h_:(O2.set O.N (.obj X)).N=O.N+1:=eJ;have aY:O.Ge (O2.set O.N (.obj X)):=aC.set (ajv _) _;generalize hO4:O2.set O.N (.obj X)=O4 at*;refine ae.au 0 ?_;refine ab @b9 ?_;refine ae.au 1 ?_;refine ab @b9 ?_;refine anM (m:=.v (.int .i64 e)) 2 ?_ ?_
 ·exact fU @b9
 simp only[ak];refine ae.au 3 ?_;refine ab @b9 ?_;refine anM (m:=.str s) 4 ?_ ?_
 ·exact fU @b9
 simp only[ak];refine ae.op (i:=5) ?_;refine ao @b9 @fb ?_;refine⟨qY,?_⟩;refine ae.op (i:=6) ?_;refine ao @b9 @di ?_;refine⟨qY,?_⟩;refine ae.op (i:=7) ?_;refine ao @b9 @fR ?_;refine⟨qY,?_⟩;refine ae.nR [] ?_;refine ab @b9 ?_;refine h _ (by show O.N<=O4.N;omega) (fun i hi h1 h2 h3=>?_) ?_ ?_ ?_
 ·rw[ρ _ _ (by omega),ρ _ _ (by omega),ρ _ _ (by omega),ρ _ _ (by omega)];exact aY.hp i hi
 ·rw[ρ _ _ (by omega),ρ _ _ (by omega),ρ _ _ (by omega)];exact τ _ _ _
 ·rw[ρ _ _ (by omega),ρ _ _ (by omega)];exact τ _ _ _
 ·rw[ρ _ _ (by omega)];exact τ _ _ _
structure wL (O:VH) (E:List MV) (O':VH) (cs:List MV):Prop where
 vm:∀i,i<O.N->O'.hp i=O.hp i
 lt:O.N+5<=O'.N
 d:O'.hp (O.N+1)=some (.cells cs)
 e:O'.hp (O.N+2)=some (.cells [mi 0])
 w:O'.hp (O.N+3)=some (.cells [.str []])
 x:O'.hp (O.N+4)=some (.cells E)
theorem wL.ge {O O' O2:VH} {E cs:List MV} (h:wL O E O' cs) (k:O'.Ge O2):wL O E O2 cs:=by
 have h1:=h.lt;exact⟨fun i hi=>(k.hp i (by omega)).trans (h.vm i hi),ahY h1 k.N,k.at h.d,k.at h.e,k.at h.w,k.at h.x⟩
theorem wL.st {O O':VH} {E cs cs':List MV} (h:wL O E O' cs):wL O E (O'.set (O.N+1) (.cells cs')) cs':=
 ⟨fun i hi=>Γ (h.vm i hi),h.lt,τ _ _ _,Γ h.e,Γ h.w,Γ h.x⟩
theorem wL.other {O O' O2:VH} {E cs:List MV} {k:Nat} {x:cf} (h:wL O E O' cs) (hk:O.N+5<=k) (bN:k<O'.N) (g:(O'.set k x).Ge O2):wL O E O2 cs:=by
 have h1:=h.lt;have e1:(O'.set k x).N=O'.N:=rfl;have h4:=g.N
 have key:∀j,j<O.N+5->O2.hp j=O'.hp j:=fun j hj=>by
  rw[g.hp j (by omega),ρ _ _ (by omega)]
 exact⟨fun i hi=>(key i (by omega)).trans (h.vm i hi),by omega,(key _ (by omega)).trans h.d,(key _ (by omega)).trans h.e,(key _ (by omega)).trans h.w,(key _ (by omega)).trans h.x⟩
theorem wL.akU {O O':VH} {E cs:List MV} {k:Nat} {x:cf} (h:wL O E O' cs) (hk:O.N+5<=k):wL O E (O'.set k x) cs:=
 ⟨fun i hi=>Γ (h.vm i hi),h.lt,Γ h.d,Γ h.e,Γ h.w,Γ h.x⟩
theorem VC.rs {P:Program} {n:Sz} {D:List Deferred} {c:Code} {e:Env} {Q:VQ} {O O':VH} {E cs cs':List MV} (h:wL O E O' cs) (k:∀O3,wL O E O3 cs'->VC P n D c e O3 Q):VC P n D c e (O'.set (O.N+1) (.cells cs')) Q:=k _ h.st
def wM (x:Nd) (w:Bs):Except (Int×Bs) (List Dp):=
 match cI x w sM with
 | .error e=>.error e
 | .ok ((_,_),false)=>.ok []
 | .ok ((y,wy),true)=>mF y wy true
def wN (x:Nd) (w:Bs):Except (Int×Bs) (Bool×Gv):=
 match cI x w wh with
 | .error e=>.error e
 | .ok ((_,_),false)=>.ok (false,⟨[],[],[]⟩)
 | .ok ((y,wy),true)=>match bW y wy eD true fy with
   | .error e=>.error e
   | .ok g=>match bW y wy en true fy with
     | .error e=>.error e
     | .ok a=>match bW y wy fS true wg with
       | .error e=>.error e
       | .ok v=>.ok (true,⟨g,a,v⟩)
def pL (x:Nd):Except (Int×Bs) Pm:=
 bif x.nm==hY then match wN x x.nm with
  | .error e=>.error e
  | .ok p=>match bW x x.nm eD false ef with
  | .error e=>.error e
  | .ok g=>match bW x x.nm en true ef with
  | .error e=>.error e
  | .ok a=>match bW x x.nm fS false ef with
  | .error e=>.error e
  | .ok v=>match bW x x.nm yK false ef with
  | .error e=>.error e
  | .ok k=>match lU x x.nm with
  | .error e=>.error e
  | .ok P=>match wM x x.nm with
  | .error e=>.error e
  | .ok M=>match mF x x.nm false with
  | .error e=>.error e
  | .ok D=>.ok ⟨p.1,p.2,g,a,v,k,P,M,D⟩
 else .error (20,x.nm)
def Bq:Pm:=⟨false,⟨[],[],[]⟩,[],[],[],[],[],[],[]⟩
theorem afu (x:Nd) (O:VH) (hx:k6 x<=1000000):VF Tryz.prog 244 [.agg (dL x)] O (aE fun m O'=>O.Ge O'/\match pL x with
  | .ok p=>m= .tuple [.agg (gX p),mi 0,.str []]
  | .error e=>m= .tuple [.agg (gX Bq),mi e.1,.str e.2]):=by
 refine VF.fg ?_;obtain⟨zn,za,dj,zt⟩:=x;have sb:=qN (.mk zn za dj zt) zn;have hfp:=sP (.mk zn za dj zt) zn wh;have hfm:=sP (.mk zn za dj zt) zn sM;have Sn:=abA (.mk zn za dj zt) zn;have yj:=UJ (.mk zn za dj zt) zn false;obtain⟨PE,hP⟩:∃PE,pL (.mk zn za dj zt)=PE:=⟨_,rfl⟩
 rw[hP];unfold pL at hP;simp only[kZ,dL,aee,aed]at sb hfp hfm Sn yj ⊢;simp only[Nd.nm]at hP;refine VF.deferred (lo:=5) (k:=64) (rs:=[.cell 2 86,.cell 3 87,.cell 4 9]) Tryz.func244 (Enters.sI (by kernel_rfl)) ?_;simp only[cL,ajy,Nat.reduceAdd];refine ab @b9 ?_;refine⟨_,rfl,fun D=>?_⟩;refine VC.gen ?_;rintro O1 sU;obtain⟨aJ,cW,cz,cE,fj,oL⟩:=Gb _ _ _ _ sU;clear sU;refine θ (aH @b9 @wd @cz ?_);refine VC.al ?_;rintro O2 ⟨aC,bN,eJ⟩;rw[cW]at bN ⊢
 have hd:wL O [.str zn,.sl za.length (za.flatMap bm) .ar,.sl dj.length (aD dj) .ar,.str zt,.str zn] O2 fD:=
  ⟨fun i hi=>aC.at (aJ.hp i hi),by omega,aC.at cE,aC.at fj,aC.at oL,bN⟩
 have tO:=aC.at cz;clear aJ aC cW eJ bN cz cE fj oL O1;cases hb:zn==hY
 ·rw[hb,cond_false]at hP;rw[<-hP];have lK:(zn != [112,114,111,106,101,99,116])=true:=by rw[bne];simp only[hY]at hb;rw[hb];rfl
  simp only[hY]at hb;refine θ (iw @b9 @wd @tO @hb @lK ?_);refine ah.p (mO _ _ _) ?_ ?_
  ·rintro m O9 ⟨_,h⟩;exact h.elim
  rintro m O9 ⟨rfl,rfl⟩;refine ao @b9 @wd ?_;refine jL hd.d hd.e hd.w (by have:=hd.lt;omega) (by have:=hd.lt;omega) (by have:=hd.lt;omega) (by omega) (by omega) (by omega) ?_;intro O5 e_ oM db dy gd;simp only[aq]at dy;refine iw @b9 @wd @db @dy @gd ?_;exact⟨⟨by have:=hd.lt;omega,fun i hi=>by rw[oM i (by have:=hd.lt;omega) (by omega) (by omega) (by omega)];exact hd.vm i hi⟩,rfl⟩
 rw[hb,cond_true]at hP;have hw:zn.length<=10000:=by rw[eq_of_beq hb];decide
 have hw3:zn.length<=3000:=by rw[eq_of_beq hb];decide
 have lK:(zn != [112,114,111,106,101,99,116])=false:=by rw[bne];simp only[hY]at hb;rw[hb];rfl
 simp only[hY]at hb;refine θ (iw @b9 @wd @tO @hb @lK ?_);clear hb lK tO;refine Ξ [1,2,3,4,5] (fun _:Bool×Gv=>[.ptr O.N 0,.ptr (O.N+1) 0,.ptr (O.N+2) 0,.ptr (O.N+3) 0,.ptr (O.N+4) 0]) (fun p O'=>wL O [.str zn,.sl za.length (za.flatMap bm) .ar,.sl dj.length (aD dj) .ar,.str zt,.str zn] O' [mb p.1,.str p.2.g,.str p.2.a,.str p.2.v,.str [],.str [],.str [],.str [],.sl 0 [] .nil,.sl 0 [] .nil,.sl 0 [] .nil]/\wN (.mk zn za dj zt) zn= .ok p) ?_ ?_
 ·have wq:= @sR (.mk zn za dj zt) zn wh;have wv:∀e,cI (.mk zn za dj zt) zn wh= .error e->wN (.mk zn za dj zt) zn= .error e:=fun e h=>by unfold wN;rw[h]
  have oI:∀y wy,cI (.mk zn za dj zt) zn wh= .ok ((y,wy),false)->wN (.mk zn za dj zt) zn= .ok (false,⟨[],[],[]⟩):=fun y wy h=>by unfold wN;rw[h]
  have jj:∀y wy,cI (.mk zn za dj zt) zn wh= .ok ((y,wy),true)->wN (.mk zn za dj zt) zn=match bW y wy eD true fy with
   | .error e=>.error e
   | .ok g=>match bW y wy en true fy with
     | .error e=>.error e
     | .ok a=>match bW y wy fS true wg with
       | .error e=>.error e
       | .ok v=>.ok (true,⟨g,a,v⟩):=fun y wy h=>by unfold wN;rw[h]
  generalize wN (.mk zn za dj zt) zn=QE at*;generalize cI (.mk zn za dj zt) zn wh=F at*;have fa:=hd.x;refine θ (aH @b9 @wd @fa ?_);refine ah.p (hfp O2 (by have:=kE (.mk zn za dj zt);omega) (by omega) (by decide)) ?_ ?_;rotate_left
  ·rintro m O9 ⟨bh,h⟩;have bO:=hd.ge bh;cases F with
   | ok y=>exact h.elim
   | error e=>
     dsimp only at h;rw[wv e rfl]at hP;dsimp only at hP;rw[h, <-hP];refine ao @b9 @wd ?_;refine jL bO.d bO.e bO.w (by have:=bO.lt;omega) (by have:=bO.lt;omega) (by have:=bO.lt;omega) (by omega) (by omega) (by omega) ?_;intro O5 e_ oM db dy gd;simp only[aq]at dy;refine iw @b9 @wd @db @dy @gd ?_;exact⟨⟨by have:=bO.lt;omega,fun i hi=>by rw[oM i (by have:=bO.lt;omega) (by omega) (by omega) (by omega)];exact bO.vm i hi⟩,rfl⟩
  rintro m O3 ⟨aG,h⟩;cases F with
  | error e=>exact h.elim
  | ok y=>
  obtain⟨⟨y,wy⟩,b⟩:=y;dsimp only at h;subst h;obtain⟨hyW,wA⟩:=wq rfl;have oJ:wy.length<=10000:=by rw[wA];simp only[Mm,zW,ZA];omega
  have hyX:k6 y<=1000000:=by omega
  clear wq wA wv
  replace jj:=fun h:b=true=>by subst h;exact jj y wy rfl
  replace oI:b=false->QE= .ok (false,⟨[],[],[]⟩):=fun h=>by subst h;exact oI y wy rfl
  have lJ:=fun O'=>qN y wy eD true fy 69 [] O' hyX oJ (by decide) (by kernel_rfl) (fun s mD _ hs=>uh s mD (by simp only[maxLen];omega))
  have Bg:=fun O'=>qN y wy en true fy 69 [] O' hyX oJ (by decide) (by kernel_rfl) (fun s mD _ hs=>uh s mD (by simp only[maxLen];omega))
  have pM:=fun O'=>qN y wy fS true wg 70 [] O' hyX oJ (by decide) (by kernel_rfl) (fun s mD _ hs=>RP s mD (by simp only[maxLen];omega))
  generalize bW y wy eD true fy=W1 at*;generalize bW y wy en true fy=W2 at*;generalize bW y wy fS true wg=W3 at*;obtain⟨yn,ya,yk,yt⟩:=y;simp only[kZ,dL,aee,aed]at lJ Bg pM ⊢;have cC:=hd.ge aG;have n8:=cC.lt;refine ao @b9 @wd ?_;refine VC.al ?_;rintro O4 ⟨aY,lX,h_⟩;have di:=cC.ge aY;clear hd cC aG aY fa;cases b
  ·rw[oI rfl]at hP ⊢;refine ο @b9 @wd ?_;exact aB.mk (false,⟨[],[],[]⟩) ⟨di,rfl⟩
  replace jj:=jj rfl
  clear oI;have dd:=di.d;refine ξ @b9 @wd ?_;refine ι (aH @b9 @wd @dd ?_);have hbs:=di.st (cs':=[.v (.bool true),.str [],.str [],.str [],.str [],.str [],.str [],.str [],.sl 0 [] .nil,.sl 0 [] .nil,.sl 0 [] .nil]);have hks:=(ρ O4 (.cells [.v (.bool true),.str [],.str [],.str [],.str [],.str [],.str [],.str [],.sl 0 [] .nil,.sl 0 [] .nil,.sl 0 [] .nil]) (by omega:O3.N≠O.N+1)).trans lX;have e_:(O4.set (O.N+1) (.cells [.v (.bool true),.str [],.str [],.str [],.str [],.str [],.str [],.str [],.sl 0 [] .nil,.sl 0 [] .nil,.sl 0 [] .nil])).N=O4.N:=rfl;clear dd di lX;generalize O4.set (O.N+1) (.cells [.v (.bool true),.str [],.str [],.str [],.str [],.str [],.str [],.str [],.sl 0 [] .nil,.sl 0 [] .nil,.sl 0 [] .nil])=O5 at*;refine VC.qy [7,8] (O3.N) (hks) ?_;intro X;refine anM (m:=.agg [.str yn,.sl ya.length (ya.flatMap bm) .ar,.sl yk.length (aD yk) .ar,.str yt,.str wy]) 0 ?_ ?_
  ·exact fU @b9
  simp only[ak];refine anM (m:=.agg [.str yn,.sl ya.length (ya.flatMap bm) .ar,.sl yk.length (aD yk) .ar,.str yt,.str wy]) 2 ?_ ?_
  ·exact fU @b9
  simp only[ak];refine anM (m:=.agg [.str yn,.sl ya.length (ya.flatMap bm) .ar,.sl yk.length (aD yk) .ar,.str yt,.str wy]) 4 ?_ ?_
  ·exact fU @b9
  simp only[ak];have HX:=fun(O9:VH) (g:(O5.set O3.N (.obj X)).Ge O9)=>hbs.other (k:=O3.N) (x:=.obj X) (by omega) (by omega) g
  have gR:∀O9,(O5.set O3.N (.obj X)).Ge O9->O9.hp O3.N=some (.obj X):=fun O9 g=>(g.hp _ (by show O3.N<O5.N;omega)).trans (τ _ _ _)
  generalize O5.set O3.N (.obj X)=O6 at*;have hG:=VH.Ge.refl O6;refine ae.qP (i:=1) (lJ O6) ?_ ?_;rotate_left
  ·rintro m O9 ⟨bh,h⟩;cases W1 with
   | ok s=>exact h.elim
   | error e=>
     dsimp only at h jj;rw[jj]at hP;dsimp only at hP;rw[h, <-hP];have bO:=HX _ (hG.trans bh);refine ao @b9 @wd ?_;refine jL bO.d bO.e bO.w (by have:=bO.lt;omega) (by have:=bO.lt;omega) (by have:=bO.lt;omega) (by omega) (by omega) (by omega) ?_;intro O5 e_ oM db dy gd;simp only[aq]at dy;refine iw @b9 @wd @db @dy @gd ?_;exact⟨⟨by have:=bO.lt;omega,fun i hi=>by rw[oM i (by have:=bO.lt;omega) (by omega) (by omega) (by omega)];exact bO.vm i hi⟩,rfl⟩
  rintro m O7 ⟨bh,h⟩;cases W1 with
  | error e=>exact h.elim
  | ok sg=>
  dsimp only at h jj;subst h;simp only[ak]
  replace hG:=hG.trans bh
  clear bh;refine⟨gR _ hG,?_⟩;refine ae.qP (i:=3) (Bg O7) ?_ ?_;rotate_left
  ·rintro m O9 ⟨bh,h⟩;cases W2 with
   | ok s=>exact h.elim
   | error e=>
     dsimp only at h jj;rw[jj]at hP;dsimp only at hP;rw[h, <-hP];have bO:=HX _ (hG.trans bh);refine ao @b9 @wd ?_;refine jL bO.d bO.e bO.w (by have:=bO.lt;omega) (by have:=bO.lt;omega) (by have:=bO.lt;omega) (by omega) (by omega) (by omega) ?_;intro O5 e_ oM db dy gd;simp only[aq]at dy;refine iw @b9 @wd @db @dy @gd ?_;exact⟨⟨by have:=bO.lt;omega,fun i hi=>by rw[oM i (by have:=bO.lt;omega) (by omega) (by omega) (by omega)];exact bO.vm i hi⟩,rfl⟩
  rintro m O8 ⟨bh,h⟩;cases W2 with
  | error e=>exact h.elim
  | ok sa=>
  dsimp only at h jj;subst h;simp only[ak]
  replace hG:=hG.trans bh
  clear bh;refine⟨gR _ hG,?_⟩;refine ae.qP (i:=5) (pM O8) ?_ ?_;rotate_left
  ·rintro m O9 ⟨bh,h⟩;cases W3 with
   | ok s=>exact h.elim
   | error e=>
     dsimp only at h jj;rw[jj]at hP;dsimp only at hP;rw[h, <-hP];have bO:=HX _ (hG.trans bh);refine ao @b9 @wd ?_;refine jL bO.d bO.e bO.w (by have:=bO.lt;omega) (by have:=bO.lt;omega) (by have:=bO.lt;omega) (by omega) (by omega) (by omega) ?_;intro O5 e_ oM db dy gd;simp only[aq]at dy;refine iw @b9 @wd @db @dy @gd ?_;exact⟨⟨by have:=bO.lt;omega,fun i hi=>by rw[oM i (by have:=bO.lt;omega) (by omega) (by omega) (by omega)];exact bO.vm i hi⟩,rfl⟩
  rintro m OF ⟨bh,h⟩;cases W3 with
  | error e=>exact h.elim
  | ok sv=>
  dsimp only at h jj;subst h;simp only[ak]
  replace hG:=hG.trans bh
  clear bh;refine⟨gR _ hG,?_⟩;refine ae.au 6 ?_;refine ab @b9 ?_;refine ae.nR [(7,.au),(8,.one)] ?_;have bO:=(HX _ hG).akU (k:=O3.N) (x:=.cells [.str yn,.sl ya.length (ya.flatMap bm) .ar,.sl yk.length (aD yk) .ar,.str yt,.str wy]) (by omega);have dd:=(HX _ hG).d;have ag2:=bO.st (cs':=[mb true,.str sg,.str sa,.str sv,.str [],.str [],.str [],.str [],.sl 0 [] .nil,.sl 0 [] .nil,.sl 0 [] .nil]);simp only[bu]at ag2;refine aH @b9 @wd @dd ?_;exact aB.mk (true,⟨sg,sa,sv⟩) ⟨ag2,jj⟩
 rintro p O3 ⟨hd,hQ⟩;rw[hQ]at hP;dsimp only at hP;clear hQ hfp;have fa:=hd.x;have dd:=hd.d;refine θ (aH @b9 @wd @fa ?_);refine ah.p (sb eD false ef 266 [] _ hx hw (by decide) (by kernel_rfl) (fun s O' _ _=>uo s O')) ?_ ?_;rotate_left
 ·rintro m O9 ⟨bh,h⟩;have bO:=hd.ge bh;cases hF:bW (.mk zn za dj zt) zn eD false ef with
  | ok s=>rw[hF]at h;exact h.elim
  | error e=>
    rw[hF]at h hP;dsimp only at h hP;rw[h, <-hP];refine ao @b9 @wd ?_;refine jL bO.d bO.e bO.w (by have:=bO.lt;omega) (by have:=bO.lt;omega) (by have:=bO.lt;omega) (by omega) (by omega) (by omega) ?_;intro O5 e_ oM db dy gd;simp only[aq]at dy;refine iw @b9 @wd @db @dy @gd ?_;exact⟨⟨by have:=bO.lt;omega,fun i hi=>by rw[oM i (by have:=bO.lt;omega) (by omega) (by omega) (by omega)];exact bO.vm i hi⟩,rfl⟩
 rintro m O4 ⟨bh,h⟩;cases Sg:bW (.mk zn za dj zt) zn eD false ef with
 | error e=>rw[Sg]at h;exact h.elim
 | ok s1=>
 rw[Sg]at h hP;dsimp only at h hP;subst h;have hb:=hd.ge bh;clear bh hd;have dd:=hb.d;refine aH @b9 @wd @dd ?_;refine VC.rs hb ?_;clear fa dd hb;intro _ hd;have fa:=hd.x;have dd:=hd.d;refine θ (aH @b9 @wd @fa ?_);refine ah.p (sb en true ef 266 [] _ hx hw (by decide) (by kernel_rfl) (fun s O' _ _=>uo s O')) ?_ ?_;rotate_left
 ·rintro m O9 ⟨bh,h⟩;have bO:=hd.ge bh;cases hF:bW (.mk zn za dj zt) zn en true ef with
  | ok s=>rw[hF]at h;exact h.elim
  | error e=>
    rw[hF]at h hP;dsimp only at h hP;rw[h, <-hP];refine ao @b9 @wd ?_;refine jL bO.d bO.e bO.w (by have:=bO.lt;omega) (by have:=bO.lt;omega) (by have:=bO.lt;omega) (by omega) (by omega) (by omega) ?_;intro O5 e_ oM db dy gd;simp only[aq]at dy;refine iw @b9 @wd @db @dy @gd ?_;exact⟨⟨by have:=bO.lt;omega,fun i hi=>by rw[oM i (by have:=bO.lt;omega) (by omega) (by omega) (by omega)];exact bO.vm i hi⟩,rfl⟩
 rintro m O5 ⟨bh,h⟩;cases K_:bW (.mk zn za dj zt) zn en true ef with
 | error e=>rw[K_]at h;exact h.elim
 | ok s2=>
 rw[K_]at h hP;dsimp only at h hP;subst h;have hb:=hd.ge bh;clear bh hd;have dd:=hb.d;refine aH @b9 @wd @dd ?_;refine VC.rs hb ?_;clear fa dd hb;intro _ hd;have fa:=hd.x;have dd:=hd.d;refine θ (aH @b9 @wd @fa ?_);refine ah.p (sb fS false ef 266 [] _ hx hw (by decide) (by kernel_rfl) (fun s O' _ _=>uo s O')) ?_ ?_;rotate_left
 ·rintro m O9 ⟨bh,h⟩;have bO:=hd.ge bh;cases hF:bW (.mk zn za dj zt) zn fS false ef with
  | ok s=>rw[hF]at h;exact h.elim
  | error e=>
    rw[hF]at h hP;dsimp only at h hP;rw[h, <-hP];refine ao @b9 @wd ?_;refine jL bO.d bO.e bO.w (by have:=bO.lt;omega) (by have:=bO.lt;omega) (by have:=bO.lt;omega) (by omega) (by omega) (by omega) ?_;intro O5 e_ oM db dy gd;simp only[aq]at dy;refine iw @b9 @wd @db @dy @gd ?_;exact⟨⟨by have:=bO.lt;omega,fun i hi=>by rw[oM i (by have:=bO.lt;omega) (by omega) (by omega) (by omega)];exact bO.vm i hi⟩,rfl⟩
 rintro m O6 ⟨bh,h⟩;cases Sh:bW (.mk zn za dj zt) zn fS false ef with
 | error e=>rw[Sh]at h;exact h.elim
 | ok s3=>
 rw[Sh]at h hP;dsimp only at h hP;subst h;have hb:=hd.ge bh;clear bh hd;have dd:=hb.d;refine aH @b9 @wd @dd ?_;refine VC.rs hb ?_;clear fa dd hb;intro _ hd;have fa:=hd.x;have dd:=hd.d;refine θ (aH @b9 @wd @fa ?_);refine ah.p (sb yK false ef 266 [] _ hx hw (by decide) (by kernel_rfl) (fun s O' _ _=>uo s O')) ?_ ?_;rotate_left
 ·rintro m O9 ⟨bh,h⟩;have bO:=hd.ge bh;cases hF:bW (.mk zn za dj zt) zn yK false ef with
  | ok s=>rw[hF]at h;exact h.elim
  | error e=>
    rw[hF]at h hP;dsimp only at h hP;rw[h, <-hP];refine ao @b9 @wd ?_;refine jL bO.d bO.e bO.w (by have:=bO.lt;omega) (by have:=bO.lt;omega) (by have:=bO.lt;omega) (by omega) (by omega) (by omega) ?_;intro O5 e_ oM db dy gd;simp only[aq]at dy;refine iw @b9 @wd @db @dy @gd ?_;exact⟨⟨by have:=bO.lt;omega,fun i hi=>by rw[oM i (by have:=bO.lt;omega) (by omega) (by omega) (by omega)];exact bO.vm i hi⟩,rfl⟩
 rintro m O7 ⟨bh,h⟩;cases hF4:bW (.mk zn za dj zt) zn yK false ef with
 | error e=>rw[hF4]at h;exact h.elim
 | ok s4=>
 rw[hF4]at h hP;dsimp only at h hP;subst h;have hb:=hd.ge bh;clear bh hd;have dd:=hb.d;refine aH @b9 @wd @dd ?_;refine VC.rs hb ?_;clear fa dd hb;intro _ hd;have fa:=hd.x;have dd:=hd.d;refine θ (aH @b9 @wd @fa ?_);refine ah.p (Sn _ hx hw) ?_ ?_;rotate_left
 ·rintro m O9 ⟨bh,h⟩;have bO:=hd.ge bh;cases hF:lU (.mk zn za dj zt) zn with
  | ok s=>rw[hF]at h;exact h.elim
  | error e=>
    rw[hF]at h hP;dsimp only at h hP;rw[h, <-hP];refine ao @b9 @wd ?_;refine jL bO.d bO.e bO.w (by have:=bO.lt;omega) (by have:=bO.lt;omega) (by have:=bO.lt;omega) (by omega) (by omega) (by omega) ?_;intro O5 e_ oM db dy gd;simp only[aq]at dy;refine iw @b9 @wd @db @dy @gd ?_;exact⟨⟨by have:=bO.lt;omega,fun i hi=>by rw[oM i (by have:=bO.lt;omega) (by omega) (by omega) (by omega)];exact bO.vm i hi⟩,rfl⟩
 rintro m O8 ⟨bh,h⟩;cases hFP:lU (.mk zn za dj zt) zn with
 | error e=>rw[hFP]at h;exact h.elim
 | ok P=>
 rw[hFP]at h hP;dsimp only at h hP;have hb:=hd.ge bh;clear bh hd;have dd:=hb.d;obtain⟨tP,rfl⟩:=h;refine aH @b9 @wd @dd ?_;refine VC.rs hb ?_;clear fa dd hb;intro O9 hd;refine Ξ [1,2,3,4,5] (fun _:List Dp×Tok=>[.ptr O.N 0,.ptr (O.N+1) 0,.ptr (O.N+2) 0,.ptr (O.N+3) 0,.ptr (O.N+4) 0]) (fun x O'=>wL O [.str zn,.sl za.length (za.flatMap bm) .ar,.sl dj.length (aD dj) .ar,.str zt,.str zn] O' [mb p.1,.str p.2.g,.str p.2.a,.str p.2.v,.str s1,.str s2,.str s3,.str s4,.sl P.length (P.flatMap bm) tP,.sl x.1.length (x.1.flatMap aU) x.2,.sl 0 [] .nil]/\wM (.mk zn za dj zt) zn= .ok x.1) ?_ ?_
 ·have wq:= @sR (.mk zn za dj zt) zn sM;have wv:∀e,cI (.mk zn za dj zt) zn sM= .error e->wM (.mk zn za dj zt) zn= .error e:=fun e h=>by unfold wM;rw[h]
  have oI:∀y wy,cI (.mk zn za dj zt) zn sM= .ok ((y,wy),false)->wM (.mk zn za dj zt) zn= .ok []:=fun y wy h=>by unfold wM;rw[h]
  have jj:∀y wy,cI (.mk zn za dj zt) zn sM= .ok ((y,wy),true)->wM (.mk zn za dj zt) zn=mF y wy true:=fun y wy h=>by unfold wM;rw[h]
  generalize wM (.mk zn za dj zt) zn=QE at*;generalize cI (.mk zn za dj zt) zn sM=F at*;have fa:=hd.x;have dd:=hd.d;refine θ (aH @b9 @wd @fa ?_);refine ah.p (hfm _ (by have:=kE (.mk zn za dj zt);omega) (by omega) (by decide)) ?_ ?_;rotate_left
  ·rintro m O9 ⟨bh,h⟩;have bO:=hd.ge bh;cases F with
   | ok y=>exact h.elim
   | error e=>
     dsimp only at h;rw[wv e rfl]at hP;dsimp only at hP;rw[h, <-hP];refine ao @b9 @wd ?_;refine jL bO.d bO.e bO.w (by have:=bO.lt;omega) (by have:=bO.lt;omega) (by have:=bO.lt;omega) (by omega) (by omega) (by omega) ?_;intro O5 e_ oM db dy gd;simp only[aq]at dy;refine iw @b9 @wd @db @dy @gd ?_;exact⟨⟨by have:=bO.lt;omega,fun i hi=>by rw[oM i (by have:=bO.lt;omega) (by omega) (by omega) (by omega)];exact bO.vm i hi⟩,rfl⟩
  rintro m O3 ⟨aG,h⟩;cases F with
  | error e=>exact h.elim
  | ok y=>
  obtain⟨⟨y,wy⟩,b⟩:=y;dsimp only at h;subst h;obtain⟨hyW,wA⟩:=wq rfl;have oJ:wy.length<=4000:=by rw[wA];simp only[Mm,zW,ZA];omega
  have hyX:k6 y<=1000000:=by omega
  clear wq wA wv
  replace jj:=fun h:b=true=>by subst h;exact jj y wy rfl
  replace oI:b=false->QE= .ok []:=fun h=>by subst h;exact oI y wy rfl
  have lJ:=fun O'=>UJ y wy true O' hyX oJ
  generalize mF y wy true=W1 at*;obtain⟨yn,ya,yk,yt⟩:=y;simp only[kZ,dL,aee,aed]at lJ ⊢;have cC:=hd.ge aG;have n8:=cC.lt;refine ao @b9 @wd ?_;refine VC.al ?_;rintro O4 ⟨aY,lX,h_⟩;have di:=cC.ge aY;clear hd cC aG aY fa;cases b
  ·rw[oI rfl]at hP ⊢;refine ο @b9 @wd ?_;exact aB.mk ([],.nil) ⟨di,rfl⟩
  replace jj:=jj rfl
  clear oI;subst jj;refine ξ @b9 @wd ?_;refine ι (aH @b9 @wd @lX ?_);refine ah.p (lJ O4) ?_ ?_;rotate_left
  ·rintro m O9 ⟨bh,h⟩;have bO:=di.ge bh;cases QE with
   | ok s=>exact h.elim
   | error e=>
     dsimp only at h hP;rw[h, <-hP];refine ao @b9 @wd ?_;refine jL bO.d bO.e bO.w (by have:=bO.lt;omega) (by have:=bO.lt;omega) (by have:=bO.lt;omega) (by omega) (by omega) (by omega) ?_;intro O5 e_ oM db dy gd;simp only[aq]at dy;refine iw @b9 @wd @db @dy @gd ?_;exact⟨⟨by have:=bO.lt;omega,fun i hi=>by rw[oM i (by have:=bO.lt;omega) (by omega) (by omega) (by omega)];exact bO.vm i hi⟩,rfl⟩
  rintro m O5 ⟨bG,h⟩;cases QE with
  | error e=>exact h.elim
  | ok M=>
  dsimp only at h;obtain⟨tM,rfl⟩:=h;have dy:=di.ge bG;have dd:=dy.d;have hbs:=dy.st (cs':=[mb p.1,.str p.2.g,.str p.2.a,.str p.2.v,.str s1,.str s2,.str s3,.str s4,.sl P.length (P.flatMap bm) tP,.sl M.length (M.flatMap aU) tM,.sl 0 [] .nil]);simp only[bu]at hbs dd;refine aH @b9 @wd @dd ?_;exact aB.mk (M,tM) ⟨hbs,rfl⟩
 rintro⟨M,tM⟩ OA ⟨hd,hM⟩;rw[hM]at hP;dsimp only at hP hd;have fa:=hd.x;refine θ (aH @b9 @wd @fa ?_);refine ah.p (yj _ hx (by omega)) ?_ ?_;rotate_left
 ·rintro m O9 ⟨bh,h⟩;have bO:=hd.ge bh;cases hF:mF (.mk zn za dj zt) zn false with
  | ok s=>rw[hF]at h;exact h.elim
  | error e=>
    rw[hF]at h hP;dsimp only at h hP;rw[h, <-hP];refine ao @b9 @wd ?_;refine jL bO.d bO.e bO.w (by have:=bO.lt;omega) (by have:=bO.lt;omega) (by have:=bO.lt;omega) (by omega) (by omega) (by omega) ?_;intro O5 e_ oM db dy gd;simp only[aq]at dy;refine iw @b9 @wd @db @dy @gd ?_;exact⟨⟨by have:=bO.lt;omega,fun i hi=>by rw[oM i (by have:=bO.lt;omega) (by omega) (by omega) (by omega)];exact bO.vm i hi⟩,rfl⟩
 rintro m OB ⟨bh,h⟩;cases ag3:mF (.mk zn za dj zt) zn false with
 | error e=>rw[ag3]at h;exact h.elim
 | ok DD=>
 rw[ag3]at h hP;dsimp only at h hP;have hb:=hd.ge bh;clear bh hd;have dd:=hb.d;obtain⟨tD,rfl⟩:=h;simp only[bu]at dd;refine aH @b9 @wd @dd ?_;rw[<-hP];refine VC.rs hb ?_;clear fa dd hb;intro O9 hd;have dd:=hd.d;have hbe:=hd.e;have hbw:=hd.w;have hl9:=hd.lt;simp only[aq]at hbe;refine θ (iw @b9 @wd @dd @hbe @hbw ?_);refine ο @b9 @wd ?_;refine abV ?_;refine iw @b9 @wd @dd @hbe @hbw ?_;refine⟨⟨by show O.N<=O9.N;omega,fun i hi=>?_⟩,?_⟩
 ·rw[ρ _ _ (by omega),ρ _ _ (by omega),ρ _ _ (by omega)];exact hd.vm i hi
 ·simp only[gX,wu,gH,lO,bu]
section
variable {P:Program} {n:Sz} {D:List Deferred} {e:Env} {O:VH}
theorem pc {d:Option Tmp} {t t' ty el:TypeId} {x:Operand} {ps:String} {af:Array Edge} {g:Option (Nat×Bool)} {k:Nat} {cs:List MV} {tk:Tok} (hu:P.underlying t=some (.slice el)) (hx:ev e x=some (.sl k cs tk)):
  gC P n D (.mk d (.binOp .eql t x (.const (.slice none 0 0)) t') ty ps af g) e O fun m O'=>O'=O/\∃b,m= .v (.bool b)/\(b=true->k=0/\cs=[]):=by
 intro G a w hw hf;have h1:=hf.ev hx;have hc:a.eval (.const (.slice none 0 0))= .slice none 0 0:=rfl
 have key:∀(A:Option Addr) (l c:Nat),a.eval x= .slice A l c->(A=none->k=0/\cs=[])->∃m O' u w' H,(O'=O/\∃b,m= .v (.bool b)/\(b=true->k=0/\cs=[]))/\(execOp a.eval (.mk d (.binOp .eql t x (.const (.slice none 0 0)) t') ty ps af g)).run P w= .ok (.value u) w'/\Gh.Le G H/\WR H O' w'/\VR H m u:=fun A l c ha hA=>by
  refine⟨.v (.bool A.isNone),O,.bool A.isNone,w,G,⟨rfl,_,rfl,fun h=>hA (by cases A<;>first | rfl | cases h)⟩,?_,Gh.Le.refl G,hw,.v rfl⟩;have hgd:(eqGuard .eql t x (.const (.slice none 0 0)) (.slice A l c) (.slice none 0 0)).run P w= .ok () w:=by simp[eqGuard]
  simp only[execOp,ha,hc,Sem.run_bind,hgd,Result.andThen_ok,run_eql_slice_nil w t el A l c hu];rfl
 generalize hv:a.eval x=v at h1;cases h1 with
 | slnil=>exact key none 0 0 hv fun _=>⟨rfl,rfl⟩
 | px h=>exact key _ _ _ hv fun _=>⟨rfl,rfl⟩
 | kQ=>exact key none 0 0 hv fun _=>⟨rfl,rfl⟩
 | sl h1 h2 h3 h4 h5 h6=>exact key _ _ _ hv fun h=>by cases h
end
theorem nA {tab:cg} {op:BinOp} {t:TypeId} {n:Nat} {cs:List MV} {tk:Tok} {y:MV}:dz tab op t (.sl n cs tk) y=none:=rfl
theorem Yk (x:Gv):(bZ x).length=3:=rfl
theorem Yl (L:List Gv):c8 (L.flatMap bZ)=L.flatMap bZ:=j9 (fun x=>by simp only[bZ,wu]) L
theorem VF.Ym {P:Program} {f:FuncId} {Wb:List MV} {O:VH} {Φ Ψ :MV->VH->Prop} (h:VF P f Wb O (aE Φ)) (hw:∀m O', Φ m O'->∃m',Wk m m'/\ Ψ m' O'):VF P f Wb O (aE Ψ):=fun G w vs EC hv=>by
 refine(h G w vs EC hv).mono ?_;rintro x w' ⟨r,O',H,h1,h2,h3,h4⟩;cases r with
 | ret m=>cases x with
   | returned v=>
     obtain⟨m',k1,k2⟩:=hw m O' h4;exact⟨.ret m',O',H,h1,h2,k1 H v h3,k2⟩
   | _=>exact h3.elim
 | panic m=>exact h4.elim
set_option linter.defProp false in
def kD:=ahV b9<|ahV yI AS
theorem Cr (L:List (Bs×Bs)) (tk:Tok) (O:VH) (hn:L.length<=100000):VF Tryz.prog 127 [.sl L.length (L.flatMap bm) tk] O (aE fun m O'=>∃t,m= .sl L.length (L.flatMap bm) t/\App O' O.N 2 t/\O.Ge O'):=by
 have dI:=aX fM L;refine Θ 8 [.tmp 2] Tryz.func127 ?_;refine ao @kD @nA ?_;refine VL.pD (pc Tryz.underlying84 rfl) ?_;rintro _ O1 ⟨eO,b,rfl,hb⟩;rw[eO];clear eO O1
 refine WL.sound aa ?_;cases b
 ·refine ab @kD ?_;by_cases h0:L.length=0
  ·have hL:L=[]:=ahX h0;subst hL;refine VL.app (m:=.sl 0 [] .full) (O':=O) (by simp[iA,KO,Dh.1.1]) ?_ (ht:=aa) (hx:=rfl) (hy:=rfl);refine ab @kD ?_;exact⟨.full,rfl,trivial,VH.Ge.refl _⟩
  ·have iB:(L.flatMap bm).all eb=true:=by
    rw[am_,ana];intro p _;rfl
   have j4:=aT (tk:=.full) (tk':=tk) (B:=O.N) (n:=0) (k:=L.length) (cs:=[]) (ds:=L.flatMap bm) KO Dh.1.1 (O:=O) trivial rfl dI iB (by decide) h0 (by omega) (by simp[maxLen];omega);rw[ajy,aed]at j4;refine δ j4 (by rw[qA,gH]) ?_;refine ab @kD ?_;exact⟨_,rfl,App.after (ajv _),cc.Cc (tk:=.full) (sz:=2) trivial (cc.after (sz:=2) (B:=0) trivial)⟩
 ·obtain⟨h0,h1⟩:=hb rfl;rw[h0,h1];refine ab @kD ?_;exact⟨.nil,rfl,trivial,VH.Ge.refl _⟩
theorem Gq (L:List (Bs×Bs)) (tk:Tok) (O:VH) (hn:L.length<=100000):VF Tryz.prog 127 [.sl L.length (L.flatMap bm) tk] O (aE fun m O'=>m= .sl L.length (L.flatMap bm) .ar/\O.Ge O'):=
 VF.Ym (Cr L tk O hn) fun m O' ⟨t,h1,h2,h3⟩=>⟨_,h1▸Wk.tok,rfl,h3⟩
theorem Yn (L:List (Dp)) (tk:Tok) (O:VH) (hn:L.length<=100000):VF Tryz.prog 128 [.sl L.length (L.flatMap aU) tk] O (aE fun m O'=>∃t,m= .sl L.length (L.flatMap aU) t/\App O' O.N 8 t/\O.Ge O'):=by
 have dI:=aX gW L;refine Θ 8 [.tmp 2] Tryz.func128 ?_;refine ao @kD @nA ?_;refine VL.pD (pc Tryz.underlying83 rfl) ?_;rintro _ O1 ⟨eO,b,rfl,hb⟩;rw[eO];clear eO O1
 refine WL.sound aa ?_;cases b
 ·refine ab @kD ?_;by_cases h0:L.length=0
  ·have hL:L=[]:=ahX h0;subst hL;refine VL.app (m:=.sl 0 [] .full) (O':=O) (by simp[iA,FN,Ca.1.1]) ?_ (ht:=aa) (hx:=rfl) (hy:=rfl);refine ab @kD ?_;exact⟨.full,rfl,trivial,VH.Ge.refl _⟩
  ·have iB:(L.flatMap aU).all eb=true:=by
    rw[am_,ana];intro p _;rfl
   have j4:=aT (tk:=.full) (tk':=tk) (B:=O.N) (n:=0) (k:=L.length) (cs:=[]) (ds:=L.flatMap aU) FN Ca.1.1 (O:=O) trivial rfl dI iB (by decide) h0 (by omega) (by simp[maxLen];omega);rw[ajy,aed]at j4;refine δ j4 (by rw[qA,lO]) ?_;refine ab @kD ?_;exact⟨_,rfl,App.after (ajv _),cc.Cc (tk:=.full) (sz:=8) trivial (cc.after (sz:=8) (B:=0) trivial)⟩
 ·obtain⟨h0,h1⟩:=hb rfl;rw[h0,h1];refine ab @kD ?_;exact⟨.nil,rfl,trivial,VH.Ge.refl _⟩
theorem So (L:List (Dp)) (tk:Tok) (O:VH) (hn:L.length<=100000):VF Tryz.prog 128 [.sl L.length (L.flatMap aU) tk] O (aE fun m O'=>m= .sl L.length (L.flatMap aU) .ar/\O.Ge O'):=
 VF.Ym (Yn L tk O hn) fun m O' ⟨t,h1,h2,h3⟩=>⟨_,h1▸Wk.tok,rfl,h3⟩
theorem Yo (L:List (gx)) (tk:Tok) (O:VH) (hn:L.length<=100000):VF Tryz.prog 130 [.sl L.length (L.flatMap cj) tk] O (aE fun m O'=>∃t,m= .sl L.length (L.flatMap cj) t/\App O' O.N 2 t/\O.Ge O'):=by
 have dI:=aX nV L;refine Θ 8 [.tmp 2] Tryz.func130 ?_;refine ao @kD @nA ?_;refine VL.pD (pc Tryz.underlying54 rfl) ?_;rintro _ O1 ⟨eO,b,rfl,hb⟩;rw[eO];clear eO O1
 refine WL.sound aa ?_;cases b
 ·refine ab @kD ?_;by_cases h0:L.length=0
  ·have hL:L=[]:=ahX h0;subst hL;refine VL.app (m:=.sl 0 [] .full) (O':=O) (by simp[iA,FK,Dg.1.1]) ?_ (ht:=aa) (hx:=rfl) (hy:=rfl);refine ab @kD ?_;exact⟨.full,rfl,trivial,VH.Ge.refl _⟩
  ·have iB:(L.flatMap cj).all eb=true:=by
    rw[am_,ana];intro p _;rfl
   have j4:=aT (tk:=.full) (tk':=tk) (B:=O.N) (n:=0) (k:=L.length) (cs:=[]) (ds:=L.flatMap cj) FK Dg.1.1 (O:=O) trivial rfl dI iB (by decide) h0 (by omega) (by simp[maxLen];omega);rw[ajy,aed]at j4;refine δ j4 (by rw[qA,nW]) ?_;refine ab @kD ?_;exact⟨_,rfl,App.after (ajv _),cc.Cc (tk:=.full) (sz:=2) trivial (cc.after (sz:=2) (B:=0) trivial)⟩
 ·obtain⟨h0,h1⟩:=hb rfl;rw[h0,h1];refine ab @kD ?_;exact⟨.nil,rfl,trivial,VH.Ge.refl _⟩
theorem ux (L:List (gx)) (tk:Tok) (O:VH) (hn:L.length<=100000):VF Tryz.prog 130 [.sl L.length (L.flatMap cj) tk] O (aE fun m O'=>m= .sl L.length (L.flatMap cj) .ar/\O.Ge O'):=
 VF.Ym (Yo L tk O hn) fun m O' ⟨t,h1,h2,h3⟩=>⟨_,h1▸Wk.tok,rfl,h3⟩
theorem xQ (L:List (Gv)) (tk:Tok) (O:VH) (hn:L.length<=100000):VF Tryz.prog 134 [.sl L.length (L.flatMap bZ) tk] O (aE fun m O'=>∃t,m= .sl L.length (L.flatMap bZ) t/\App O' O.N 3 t/\O.Ge O'):=by
 have dI:=aX Yk L;refine Θ 8 [.tmp 2] Tryz.func134 ?_;refine ao @kD @nA ?_;refine VL.pD (pc Tryz.underlying258 rfl) ?_;rintro _ O1 ⟨eO,b,rfl,hb⟩;rw[eO];clear eO O1
 refine WL.sound aa ?_;cases b
 ·refine ab @kD ?_;by_cases h0:L.length=0
  ·have hL:L=[]:=ahX h0;subst hL;refine VL.app (m:=.sl 0 [] .full) (O':=O) (by simp[iA,yI,AS.1.1]) ?_ (ht:=aa) (hx:=rfl) (hy:=rfl);refine ab @kD ?_;exact⟨.full,rfl,trivial,VH.Ge.refl _⟩
  ·have iB:(L.flatMap bZ).all eb=true:=by
    rw[am_,ana];intro p _;rfl
   have j4:=aT (tk:=.full) (tk':=tk) (B:=O.N) (n:=0) (k:=L.length) (cs:=[]) (ds:=L.flatMap bZ) yI AS.1.1 (O:=O) trivial rfl dI iB (by decide) h0 (by omega) (by simp[maxLen];omega);rw[ajy,aed]at j4;refine δ j4 (by rw[qA,Yl]) ?_;refine ab @kD ?_;exact⟨_,rfl,App.after (ajv _),cc.Cc (tk:=.full) (sz:=3) trivial (cc.after (sz:=3) (B:=0) trivial)⟩
 ·obtain⟨h0,h1⟩:=hb rfl;rw[h0,h1];refine ab @kD ?_;exact⟨.nil,rfl,trivial,VH.Ge.refl _⟩
theorem Gr (L:List Dp) (tk:Tok) (O:VH) (hn:L.length<=100000):VF Tryz.prog 128 [.sl L.length (L.flatMap aU) tk] O (aE fun m O'=>O.Ge O'/\GR O' 56 8 O.N m L.length (L.flatMap aU)):=by
 have dI:=aX gW L
 have iB:(L.flatMap aU).all eb=true:=by
  rw[am_,ana];intro p _;rfl
 refine Θ 8 [.tmp 2] Tryz.func128 ?_;refine ao @kD @nA ?_;refine VL.pD (pc Tryz.underlying83 rfl) ?_;rintro _ O1 ⟨eO,b,rfl,hb⟩;rw[eO];clear eO O1
 refine WL.sound aa ?_;cases b
 ·refine ab @kD ?_;refine VL.grow aa (.inl rfl) (te:=⟨_,8,_,_⟩) (B:=O.N) (n':=0) (L:=[]) (dx:=.slice 56) (p:=.sl 0 [] .full) (q:=.sl L.length (L.flatMap aU) tk) (j:=L.length) (ds:=L.flatMap aU) (.inl ⟨rfl,rfl,.inr rfl⟩) (by simp[AD,dI]) iB (by rw[FN];rfl) Ca.1.1 (by rw[FN];rfl) trivial (by dsimp only;omega) (by simp only[maxLen];omega) (ajv _) rfl rfl rfl rfl ?_;intro m O' h1 h2 h3 h4;rw[ajy,aed]at h1;refine ab @kD ?_;exact⟨h3 rfl,h1⟩
 ·obtain⟨h0,h1⟩:=hb rfl;rw[h0,h1];refine ab @kD ?_;exact⟨VH.Ge.refl _,.inl ⟨rfl,rfl,.inl rfl⟩⟩
theorem Cs:laidOutB Tryz.prog=true:=by kernel_rfl
theorem wO:uU Tryz.prog 60 3:=uU.sI Cs (by kernel_rfl)
theorem Dr:uU Tryz.prog 150 2:=uU.sI Cs (by kernel_rfl)
theorem oN:uU Tryz.prog 40 4:=uU.sI Cs (by kernel_rfl)
set_option linter.defProp false in
def Ds:=ahV fh<|ahV T82<|ahV T50<|ahV T74<|ahV T75<|ahV Uv<|ahV agE rM
theorem aiJ (x:Gv) (O:VH):VF Tryz.prog 53 [.agg (bZ x)] O (aE fun m O'=>m= .agg (cj ⟨x.g,x.a⟩)/\O.Ge O'):=by
 obtain⟨g,a,v⟩:=x;have hg:=((VH.Ge.refl O).push (.cells [.str g,.str a,.str v])).push (.cells [.str [],.str []]);unfold bZ cj;refine Θ 8 [.cell 2 150] Tryz.func53 ?_;refine ab @Ds ?_;exact hg.set (Nat.le_succ _) _
def fc (x:Gv):List Bs:=[x.g,x.a,x.v]
def Bt (x:gx):List Bs:=[x.g,x.a]
theorem afv (x:Gv):bZ x=(fc x).map .str:=rfl
def uy (x:Gv):Prop:=x.g.length<=maxLen/\x.a.length<=maxLen/\x.v.length<=maxLen
theorem wP {x:Gv} (h:uy x):∀s∈fc x,s.length<=maxLen:=by
 intro s hs;simp only[fc,aec,agu,or_false]at hs;rcases hs with rfl | rfl | rfl
 ·exact h.1
 ·exact h.2.1
 ·exact h.2.2
structure H0 (O:VH) (k ke kv:Nat) (E:fI) (ce:Nat) (V:fI) (cv:Nat) (r a:Int):Prop where
 cell:O.hp k=some (.cells [.map ke,.map kv,mi r,mi a])
 Dt:O.hp ke=some (.map (cS E) ce)
 Jp:O.hp kv=some (.map (cS V) cv)
 OJ:nT 3 E
 vok:nT 2 V
 ptr:∀p∈E,∃q,p.2.1= .ptr q 0
 lt:k<O.N/\ke<O.N/\kv<O.N
 ne:k≠ke/\k≠kv/\ke≠kv
def Ct (E:fI) (x:Gv):Bool:=(iD (fc x) E).isSome
theorem abW {E:fI} (h:∀p∈E,∃q,p.2.1=MV.ptr q 0) {l:List Bs} {m:MV} (hl:iD l E=some m):∃q,m= .ptr q 0:=by
 unfold iD at hl;obtain⟨p,h1,rfl⟩:=Option.map_eq_some_iff.1 hl;exact h p (List.mem_of_find?_eq_some h1)
theorem UN {O:VH} {k ke kv ce cv:Nat} {E V:fI} {r a:Int} (h:H0 O k ke kv E ce V cv r a) (x:Gv) (hx:uy x):VF Tryz.prog 52 [.ptr k 0,.agg (bZ x)] O (aE fun m O'=>m=mb (Ct E x)/\O.Ge O'):=by
 have hl:=wP hx;have yd:=h.cell;simp only[aq]at yd;unfold Ct;rw[afv];generalize hL:fc x=L at*;have pF:L.length=3:=by rw[<-hL];rfl
 obtain⟨g,a',v⟩:=x;have hLc:L.map MV.str=[.str g,.str a',.str v]:=by rw[<-hL];rfl
 rw[hLc];refine χ 16 [.tmp 4] Tryz.func52 ?_;refine κ @Ds ?_;refine VC.bx ?_;rintro O1 ⟨aJ,cA,cW⟩;have akV:=(aJ.hp _ h.lt.1).trans yd;have akW:=(aJ.hp _ h.lt.2.1).trans h.Dt;refine ω ?_;refine WC.bQ (.held []) [(0,.rd),(1,.rd),(2,.rd),(3,.rd),(4,.rd),(5,.rd),(6,.rd),(7,.rd),(8,.rd),(9,.rd),(10,.rd),(11,.rd)] ?_;refine aH @Ds @akV @cA ?_;refine VL.hold (.inr rfl) rfl rfl (fJ.kI wO aa (l:=L) (te:=⟨_,1,8,[.v (.pointer none)]⟩) Tryz.underlying74 Uv rfl rfl akW h.OJ (by rw[hLc];rfl) pF hl) (WL.sound aa ?_);cases eC:iD L E with
 | none=>
   refine ab @Ds ?_;refine ν @Ds ?_;exact aJ
 | some m=>
   obtain⟨p,rfl⟩:=abW h.ptr eC;refine ab @Ds ?_;refine ν @Ds ?_;exact aJ
section
variable {G H:Gh} {n:Sz} {D:List Deferred} {e e':Env} {a:Act} {P:Program} {tab:cg} {O O':VH} {w:World} {m m':MV} {u v:Value} {ops:Array Oper} {Q:VQ} {md:Md}
def Sq (G:Gh):List Deferred->List (FuncId×List MV)->Prop
 | [],[]=>True
 | d::D,p::ds=>(∃us:List Value,d={target:=.fn (.func p.1) #[],args:=us.toArray}/\aS G p.2 us)/\Sq G D ds
 | _,_=>False
theorem Sq.mono (h:G.Le H):∀{D:List Deferred} {ds:List (FuncId×List MV)},Sq G D ds->Sq H D ds
 | [],[],_=>trivial
 | _::_,_::_,⟨⟨us,h1,h2⟩,h3⟩=>⟨⟨us,h1,h2.mono h⟩,h3.mono h⟩
 | [],_::_,h=>h.elim
 | _::_,[],h=>h.elim
def OK (P:Program):List (FuncId×List MV)->VH->(VH->Prop)->Prop
 | [],O,K=>K O
 | p::ds,O,K=>Enters P p.1/\gU P p.1 p.2 none O fun O'=>OK P ds O' K
def Sr (P:Program) (fn:Func) (G0:Gh) (K:VH->Prop):Exit->Act->World->Prop:=
 bodyPostD P fn fun x w'=>(∃v,x= .returned v/\v= .tuple #[])/\∃O' H,Gh.Le G0 H/\WR H O' w'/\K O'
def RC (P:Program) (fn:Func) (n:Sz) (ds:List (FuncId×List MV)) (c:Code) (e:Env) (O:VH) (K:VH->Prop):Prop:=
 ∀G0 G D a w,Gh.Le G0 G->Sq G D ds->WR G O w->FR G n D e a->c.wp P (Sr P fn G0 K) a w
theorem Du {fn:Func} {tmps:Array Value} {G0:Gh} {K:VH->Prop} (hr:fn.results= #[]):∀(D:List Deferred) (ds:List (FuncId×List MV)) (G:Gh) (O:VH) (w:World),Gh.Le G0 G->Sq G D ds->WR G O w->OK P ds O K->
  Leaves P fn tmps (fun x w'=>(∃v,x= .returned v/\v= .tuple #[])/\∃O' H,Gh.Le G0 H/\WR H O' w'/\K O') D .returning w
 | [],[],G,O,w,h0,_,hw,hk=>⟨.tuple #[],by simp[results,hr],⟨_,rfl,rfl⟩,O,G,h0,hw,hk⟩
 | d::D,p::ds,G,O,w,h0,⟨⟨us,ed,jC⟩,hD⟩,hw,⟨hE,hk⟩=>by
   subst ed;refine leaves_cons (f:=p.1) (args:=us.toArray) (by simp) (by simp[invoke,hE us.toArray w]) ((hk G w us .returning hw jC trivial).mono ?_);rintro r u' HE ⟨⟨v,rfl⟩,hs,O2,K2,q1,q2,q3⟩;dsimp only;rw[hs];exact Du hr D ds K2 O2 HE (h0.trans q1) (hD.mono q1) q2 q3
 | [],_::_,_,_,_,_,h,_,_=>h.elim
 | _::_,[],_,_,_,_,h,_,_=>h.elim
theorem VF.defs {f:FuncId} {fn:Func} {c:Code} {args:List MV} {K:VH->Prop} {R:MV->VH->Prop} (hf:P.funcs[f]?=some fn) (hb:fn.body=some c) (hr:fn.results= #[]) (hn:args.length<=fn.ntmps)
  (h:RC P fn ⟨fn.ntmps,0⟩ [] c (cL 0 args) O K) (hR:∀O',K O'->R (.tuple []) O'):VF P f args O (aE R):=by
 intro G w vs hw hv;refine(calls_of_wp_defers hf hb (h G G [] _ w (Gh.Le.refl G) trivial hw ?_)).mono ?_
 ·have hl:=hv.1;refine⟨rfl,by simp;omega,fun t x hx=>?_⟩;rw[iU,if_pos (ajx _),Nat.sub_zero]at hx;obtain⟨u,h1,h2⟩:=hv.get hx;refine⟨u,?_,h2⟩;have ei:=(VI.1 h1).1;rw[ank (by simpa using ei)];simpa using h1
 ·rintro x w' ⟨⟨v,rfl,rfl⟩,O',H,h1,h2,h3⟩;exact⟨.ret (.tuple []),O',H,h1,h2,.tuple (us:=[]) rfl (fun i c u h=>by simp at h),hR _ h3⟩
theorem RC.ag {fn:Func} {ds:List (FuncId×List MV)} {A rest:Code} {K:VH->Prop} (h:∀D,VC P n D A e O fun x e' O'=>match x with
  | .normal=>RC P fn n ds rest e' O' K
  | _=>False):RC P fn n ds (.seq A rest) e O K:=by
 intro G0 G D a w h0 hD hw hf;refine wp_seq (wp_mono (h D G a w hw hf) ?_);rintro y a1 w1 ⟨x,e',O',H,g1,g2,g3,g4,g5⟩
 cases y<;>cases x<;>first
  | exact False.elim g4
  | exact g5.elim
  | skip
 exact g5 G0 H D a1 w1 (h0.trans g1) (hD.mono g1) g2 g3
theorem RC.fin {fn:Func} {ds:List (FuncId×List MV)} {A:Code} {K:VH->Prop} (hr:fn.results= #[]) (h:∀D,VC P n D A e O fun x e' O'=>match x with
  | .normal=>OK P ds O' K
  | .ret=>OK P ds O' K
  | _=>False):RC P fn n ds A e O K:=by
 intro G0 G D a w h0 hD hw hf;refine wp_mono (h D G a w hw hf) ?_;rintro y a1 w1 ⟨x,e',O',H,g1,g2,g3,g4,g5⟩
 have fin:FR H n D e' a1->OK P ds O' K->Leaves P fn a1.tmps (fun x w'=>(∃v,x= .returned v/\v= .tuple #[])/\∃O' H,Gh.Le G0 H/\WR H O' w'/\K O') a1.defers .returning w1:=fun aV hk=>by
  rw[aV.defers];exact Du hr D ds H O' w1 (h0.trans g1) (hD.mono g1) g2 hk
 cases y<;>cases x<;>first
  | exact False.elim g4
  | exact g5.elim
  | exact fin g3 g5
theorem RC.cond {fn:Func} {ds:List (FuncId×List MV)} {c:Operand} {x y:Code} {K:VH->Prop} {t:Bool} (hc:ev e c=some (mb t)) (h:RC P fn n ds (if t then x else y) e O K):RC P fn n ds (.cond c x y) e O K:=by
 intro G0 G D a w h0 hD hw hf;have hv:=hf.ev hc;generalize hx:a.eval c=u at hv;have:=VR.je hv;subst this;exact wp_cond hx (h G0 G D a w h0 hD hw hf)
def RO (P:Program) (fn:Func) (n:Sz) (ds:List (FuncId×List MV)) (ops:Array Oper) (rest:Code) (l:List Nat) (e:Env) (O:VH) (K:VH->Prop):Prop:=
 ∀G0 G D a w,Gh.Le G0 G->Sq G D ds->WR G O w->FR G n D e a->wpOps P ops (Exit.then (rest.wp P (Sr P fn G0 K)) (Sr P fn G0 K)) l a w
theorem RC.region {fn:Func} {ds:List (FuncId×List MV)} {id:Nat} {rest:Code} {K:VH->Prop} (l:List Nat) (hl:List.range ops.size=l) (h:RO P fn n ds ops rest l e O K):RC P fn n ds (.seq (.region id ops false) rest) e O K:=by
 subst hl;intro G0 G D a w h0 hD hw hf;exact wp_seq (wp_region (h G0 G D a w h0 hD hw hf))
theorem RO.step (ht:aP P tab) {fn:Func} {ds:List (FuncId×List MV)} {rest:Code} {K:VH->Prop} {i:Nat} {l:List Nat} {o:Oper} (ho:ops[i]?=some o) (hg:aO ops o e=some true) (hv:dF tab o e O=some (m,O')) (hd:bD n o.dst=true) (h:RO P fn n ds ops rest l (aZ o.dst m e) O' K):
  RO P fn n ds ops rest (i::l) e O K:=by
 intro G0 G D a w h0 hD hw aV;obtain⟨nx,w',H,u,hr,tU,h1,h2,h3,_⟩:=Ek (P:=P) ht hw aV hv;rw[wpOps_cons];simp only[wpOp,ho,bC aV hg,if_true];refine .inl ?_;unfold Oper.wp;rw[hr];have:=h G0 H D (a.put o.dst u) w' (h0.trans h1) (hD.mono h1) h2 ((aV.mono h1).aZ hd h3);rcases tU with rfl | ⟨rfl,rfl⟩<;>exact this
theorem RO.o1 {fn:Func} {ds:List (FuncId×List MV)} {rest:Code} {K:VH->Prop} {i:Nat} {l:List Nat} {lo:List Oper} {o:Oper} (h:AN (fun m O'=>RO P fn n ds ⟨lo⟩ rest l (aZ o.dst m e) O' K) (dF tab o e O)) (ht:aP P tab:=by exact aa) (ho:lo[i]?=some o:=by exact rfl) (hg:aO ⟨lo⟩ o e=some true:=by exact rfl) (hd:bD n o.dst=true:=by exact rfl):
  RO P fn n ds ⟨lo⟩ rest (i::l) e O K:=by
 generalize hv:dF tab o e O=v at h;cases v with
 | none=>exact h.elim
 | some p=>exact RO.step ht (by simpa using ho) hg hv hd h
theorem RO.defer {fn:Func} {ds:List (FuncId×List MV)} {rest:Code} {K:VH->Prop} {i:Nat} {g:FuncId} {as_:Array Operand} {ts:Array TypeId} {ty:TypeId} {ps:String} {af:Array Edge} {ms:List MV} (ho:ops[i]?=some (.mk none (.defer {callee:=.value (.func g),args:=as_,argTypes:=ts}) ty ps af none)) (hm:gh e as_.toList=some ms)
  (h:RC P fn n ((g,ms)::ds) rest e O K):RO P fn n ds ops rest [i] e O K:=by
 intro G0 G D a w h0 hD hw aV;have jC:=aV.gh hm;have ha:as_.map a.eval=(as_.toList.map a.eval).toArray:=by apply Array.ext';simp
 have cD:(execOp a.eval (.mk none (.defer {callee:=.value (.func g),args:=as_,argTypes:=ts}) ty ps af none)).run P w= .ok (.defer {target:=.fn (.func g) #[],args:=(as_.toList.map a.eval).toArray}) w:=by
  simp only[<-ha];simp[execOp,resolve,Act.eval,Deferred.ofValue]
 rw[wpOps_cons];simp only[wpOp,ho];rw[if_pos (by simp[Region.wanted])];refine .inl ?_;unfold Oper.wp;rw[cD,Oper.upon_defer];simp only[wpOps,Exit.then];exact h G0 G ({target:=.fn (.func g) #[],args:=(as_.toList.map a.eval).toArray}::D) _ w h0 ⟨⟨_,rfl,jC⟩,hD⟩ hw ⟨by show _::a.defers=_;rw[aV.defers],aV.size,aV.get⟩
theorem gU.mono {f:FuncId} {args:List MV} {x:Option MV} {K K':VH->Prop} (h:gU P f args x O K) (hk:∀O',K O'->K' O'):gU P f args x O K':=fun G w vs u hw hv hu=>(h G w vs u hw hv hu).mono fun r u' w' ⟨h1,h2,O',H,h3,h4,h5⟩=>⟨h1,h2,O',H,h3,h4,hk _ h5⟩
theorem gU.HQ (ht:aP P tab) {f:FuncId} {fn:Func} {c:Code} {args:List MV} {K:VH->Prop} (hf:P.funcs[f]?=some fn) (hb:fn.body=some c) (hr:fn.results= #[]) (hn:args.length<=fn.ntmps) (hk:(⟨fn.ntmps,0⟩:Sz)=n) (h:VC P n [] c (cL 0 args) O (De tab [] (aE fun _ O'=>K O'))):gU P f args none O K:=by
 subst hk;intro G w vs u hw hv hu
 have ED:settle u= .returning:=by
  cases u<;>first
   | rfl
   | exact hu.elim
 have hl:=hv.1;refine(callsD_of_wp (R:=fun x w'=>(∃v,x= .returned v)/\∃O' H,Gh.Le G H/\WR H O' w'/\K O') hf hb (wp_mono (h G _ w hw ?_) ?_)).mono ?_
 ·refine⟨rfl,by simp;omega,fun t x hx=>?_⟩;rw[iU,if_pos (ajx _),Nat.sub_zero]at hx;obtain⟨u,h1,h2⟩:=hv.get hx;refine⟨u,?_,h2⟩;have ei:=(VI.1 h1).1;rw[ank (by simpa using ei)];simpa using h1
 ·rintro y a1 w1 ⟨x,e',O',H,g1,g2,g3,g4,g5⟩
  have fin:FR H ⟨fn.ntmps,0⟩ [] e' a1->K O'->bodyPost P fn (fun x w'=>(∃v,x= .returned v)/\∃O' H,Gh.Le G H/\WR H O' w'/\K O') .normal a1 w1:=fun aV hk=>
   ⟨aV.defers,.tuple #[],by simp[results,hr],⟨_,rfl⟩,O',H,g1,g2,hk⟩
  cases y<;>cases x<;>first
   | exact False.elim g4
   | exact fin g3 g5
   | exact g5.elim
 ·rintro r u' w' ⟨rfl,h1,h2⟩;exact⟨h1,ED,h2⟩
end
section
variable {G:Gh} {O O':VH} {w:World} {P:Program}
theorem WR.cellAt {k off:Nat} {cs:List MV} {x:Value} (h:WR G O w) (hk:O.hp k=some (.cells cs)) (hc:cs[off]?=some (.v x)):∃b,G.bV k=some b/\w.cell? ⟨b,off,none⟩=some x/\w.frozen? ⟨b,off,none⟩=false:=by
 obtain⟨b,C,T,e1,e2,e3⟩:=h.cells k cs hk;obtain⟨v,jB,DL⟩:=e3.get hc;cases DL with
 | v _=>
   refine⟨b,e1,?_,?_⟩
   ·have ei:off<cs.length:=(VI.1 hc).1;rw[List.getElem?_take_of_lt ei]at jB;simp only[World.cell?,e2,Option.isSome_none,Bool.false_eq_true,if_false];simpa using jB
   ·have hlen:off<C.size:=by
     have:=(VI.1 jB).1;simp at this;omega
    obtain⟨t',⟨lo,hi⟩,dh⟩:=T;dsimp only at e2 dh;simp only[World.frozen?,e2,Bool.and_eq_false_imp,decide_eq_true_eq,decide_eq_false_iff_not];intro;omega
theorem eY.mem {f:FuncId} {ms:List MV} {m:MV} (hr:∀G w vs,WR G O w->aS G ms vs->∃u w',(callFunc f vs.toArray).run P w= .ok (.value u) w'/\WR G O' w'/\VR G m u):eY P f ms O fun m' mD=>m'=m/\mD=O':=by
 intro G w vs hw hv;obtain⟨u,w',h1,h2,h3⟩:=hr G w vs hw hv;exact⟨m,O',u,w',G,⟨rfl,rfl⟩,h1,Gh.Le.refl G,h2,h3⟩
theorem VR.Bu:VR G (.tuple []) (.tuple #[]):=.tuple (us:=[]) rfl (fun i c u h=>by simp at h)
theorem aS.one {x:MV} {vs:List Value} (h:aS G [x] vs):∃u,vs=[u]/\VR G x u:=by
 obtain⟨u,us,rfl,g1,g2⟩:=h.eW;rw[g2.iP];exact⟨u,rfl,g1⟩
theorem aS.abX {k o:Nat} {vs:List Value} (h:aS G [.ptr k o] vs):∃b,vs=[.pointer (some ⟨b,o,none⟩)]/\G.bV k=some b:=by
 obtain⟨u,rfl,g1⟩:=h.one;cases g1 with
 | ptr h4=>exact⟨_,rfl,h4⟩
theorem aS.abY {k o:Nat} {x:Value} {vs:List Value} (h:aS G [.ptr k o,.v x] vs):∃b,vs=[.pointer (some ⟨b,o,none⟩),x]/\G.bV k=some b:=by
 obtain⟨u,us,rfl,g1,g2⟩:=h.eW;obtain⟨u2,rfl,g3⟩:=g2.one;have:=g3.je;subst this;cases g1 with
 | ptr h4=>exact⟨_,rfl,h4⟩
theorem aS.akX {k o:Nat} {x y:Value} {vs:List Value} (h:aS G [.ptr k o,.v x,.v y] vs):∃b,vs=[.pointer (some ⟨b,o,none⟩),x,y]/\G.bV k=some b:=by
 obtain⟨u,us,rfl,g1,g2⟩:=h.eW;obtain⟨u2,us2,rfl,g3,g4⟩:=g2.eW;obtain⟨u3,rfl,g5⟩:=g4.one;have e1:=g3.je;have e2:=g5.je;subst e1;subst e2
 cases g1 with
 | ptr h4=>exact⟨_,rfl,h4⟩
end
theorem wQ (O:VH):eY Tryz.prog 153 [] O fun m O'=>m= .tuple []/\O'=O:=
 eY.mem fun G w vs hw hv=>by
  rw[hv.iP];exact⟨_,w,run_call_mark0 Tryz.func153 (by kernel_rfl) (by kernel_rfl) (by kernel_rfl) .disable (by kernel_rfl) w,hw,VR.Bu⟩
theorem yN (O:VH):eY Tryz.prog 155 [] O fun m O'=>m= .tuple []/\O'=O:=
 eY.mem fun G w vs hw hv=>by
  rw[hv.iP];exact⟨_,w,run_call_mark0 Tryz.func155 (by kernel_rfl) (by kernel_rfl) (by kernel_rfl) .enable (by kernel_rfl) w,hw,VR.Bu⟩
theorem Gs (k o:Nat) (O:VH):eY Tryz.prog 156 [.ptr k o] O fun m O'=>m= .tuple []/\O'=O:=
 eY.mem fun G w vs hw hv=>by
  obtain⟨b,rfl,hp⟩:=hv.abX;exact⟨_,w,run_call_marked Tryz.func156 (by kernel_rfl) (by kernel_rfl) (by kernel_rfl) .acquire (by kernel_rfl) _ w,hw,VR.Bu⟩
theorem D6 (k o:Nat) (O:VH):eY Tryz.prog 158 [.ptr k o] O fun m O'=>m= .tuple []/\O'=O:=
 eY.mem fun G w vs hw hv=>by
  obtain⟨b,rfl,hp⟩:=hv.abX;exact⟨_,w,run_call_marked Tryz.func158 (by kernel_rfl) (by kernel_rfl) (by kernel_rfl) .releaseMerge (by kernel_rfl) _ w,hw,VR.Bu⟩
section
variable {O:VH} {k off:Nat} {cs:List MV}
theorem OL {x:Int} (y:Int) (hk:O.hp k=some (.cells cs)) (hc:cs[off]?=some (.v (.int .i64 x))):eY Tryz.prog 90 [.ptr k off,.v (.int .i64 y)] O fun m O'=>m= .v (.int .i64 (IntKind.i64.wrap (x+y)))/\O'=O.set k (.cells (cs.set off (.v (.int .i64 (IntKind.i64.wrap (x+y)))))):=
 eY.mem fun G w vs hw hv=>by
  obtain⟨b',h1,h2,h3⟩:=hw.cellAt hk hc;obtain⟨b,rfl,hp⟩:=hv.abY;rw[h1]at hp;injection hp with hp;subst hp
  exact⟨_,_,run_call_add Tryz.func90 (by kernel_rfl) (by kernel_rfl) (by kernel_rfl) .i64 (by kernel_rfl) h2 h3 rfl,hw.store hk h1 (VI.1 hc).1 (.v rfl),.v rfl⟩
theorem OM {x:Int} (y:Int) (hk:O.hp k=some (.cells cs)) (hc:cs[off]?=some (.v (.int .i32 x))):eY Tryz.prog 159 [.ptr k off,.v (.int .i32 y)] O fun m O'=>m= .v (.int .i32 (IntKind.i32.wrap (x+y)))/\O'=O.set k (.cells (cs.set off (.v (.int .i32 (IntKind.i32.wrap (x+y)))))):=
 eY.mem fun G w vs hw hv=>by
  obtain⟨b',h1,h2,h3⟩:=hw.cellAt hk hc;obtain⟨b,rfl,hp⟩:=hv.abY;rw[h1]at hp;injection hp with hp;subst hp
  exact⟨_,_,run_call_add Tryz.func159 (by kernel_rfl) (by kernel_rfl) (by kernel_rfl) .i32 (by kernel_rfl) h2 h3 rfl,hw.store hk h1 (VI.1 hc).1 (.v rfl),.v rfl⟩
theorem Ss {x:Int} (hk:O.hp k=some (.cells cs)) (hc:cs[off]?=some (.v (.int .u32 x))):eY Tryz.prog 99 [.ptr k off] O fun m O'=>m= .v (.int .u32 x)/\O'=O:=
 eY.mem fun G w vs hw hv=>by
  obtain⟨b',h1,h2,h3⟩:=hw.cellAt hk hc;obtain⟨b,rfl,hp⟩:=hv.abX;rw[h1]at hp;injection hp with hp;subst hp
  exact⟨_,_,run_call_load Tryz.func99 (by kernel_rfl) (by kernel_rfl) (by kernel_rfl) .u32 (by kernel_rfl) h2,hw,.v rfl⟩
theorem ON {x:Int} (y:Int) (hk:O.hp k=some (.cells cs)) (hc:cs[off]?=some (.v (.int .u32 x))):eY Tryz.prog 125 [.ptr k off,.v (.int .u32 y)] O fun m O'=>m= .tuple []/\O'=O.set k (.cells (cs.set off (.v (.int .u32 y)))):=
 eY.mem fun G w vs hw hv=>by
  obtain⟨b',h1,h2,h3⟩:=hw.cellAt hk hc;obtain⟨b,rfl,hp⟩:=hv.abY;rw[h1]at hp;injection hp with hp;subst hp
  exact⟨_,_,run_call_store Tryz.func125 (by kernel_rfl) (by kernel_rfl) (by kernel_rfl) (by kernel_rfl) h2 h3,hw.store hk h1 (VI.1 hc).1 (.v rfl),VR.Bu⟩
theorem Yp {x y:Int} (hk:O.hp k=some (.cells cs)) (hc:cs[off]?=some (.v (.int .i32 x))):eY Tryz.prog 154 [.ptr k off,.v (.int .i32 x),.v (.int .i32 y)] O fun m O'=>m= .v (.bool true)/\O'=O.set k (.cells (cs.set off (.v (.int .i32 y)))):=
 eY.mem fun G w vs hw hv=>by
  obtain⟨b',h1,h2,h3⟩:=hw.cellAt hk hc;obtain⟨b,rfl,hp⟩:=hv.akX;rw[h1]at hp;injection hp with hp;subst hp
  exact⟨_,_,run_call_cas_hit Tryz.func154 (by kernel_rfl) (by kernel_rfl) (by kernel_rfl) .i32 (by kernel_rfl) h2 h3,hw.store hk h1 (VI.1 hc).1 (.v rfl),.v rfl⟩
end
section
variable {P:Program} {tab:cg} {n:Sz} {D:List Deferred} {md:Md} {ops:Array Oper} {Q:VQ} {e:Env} {O:VH}
theorem VL.ag4 (ht:aP P tab) {d:Option Tmp} {x:Operand} {src dst ty el:TypeId} {ps:String} {af:Array Edge} {g:Option (Nat×Bool)} {L:List (Fl×Oper)} {k off:Nat} {cs:List MV} {y:Value} {te:cM} (hmd:md= .plain\/md= .any)
  (hs:(tab src).map cM.under=some (.pointer el)) (Nj:(tab dst).map cM.under=some .unsafePointer) (he:tab el=some te) (hz:te.size≠0) (hk:O.hp k=some (.cells cs)) (hc:cs[off]?=some (.v y))
  (hx:ev e x=some (.ptr k off)) (hg:aO ops (.mk d (.convert src dst x) ty ps af g) e=some true) (hd:bD n d=true) (h:WL P tab n D md ops Q L (aZ d (.ptr k off) e) O):
  VL P n D md ops ((.one,.mk d (.convert src dst x) ty ps af g)::L) e O Q:=by
 refine VL.pD (M:=fun m O'=>m= .ptr k off/\O'=O) (fun G a w hw hf=>?_) (by rintro m O' ⟨rfl,rfl⟩;exact WL.sound ht h) (hmd:=hmd) (hg:=hg) (hd:=hd);have nO:=hf.ev hx;generalize pH:a.eval x=u at nO;cases nO with
 | ptr hp=>
   rename_i b;obtain⟨ti,z,i1,i2,_⟩:=(ht _ te he).info;obtain⟨b2,s1,s2,_⟩:=hw.cellAt hk hc;rw[hp]at s1;injection s1 with s1;subst s1
   have hr:=run_convert_to_unsafe (P:=P) (w:=w) (bM ht hs) (bM ht Nj) (by rw[i1,Option.map_some,decide_eq_false (by rw[i2];exact hz)]) s2;exact⟨_,_,_,w,G,⟨rfl,rfl⟩,by simp[execOp,pH,hr],Gh.Le.refl G,hw,.ptr hp⟩
theorem gC.ext {o:Oper} {c:Call} {x:Operand} {id:FuncId} {ms:List MV} {M:MV->VH->Prop} (vH:o.op= .call c) (hc:c.callee= .value x) (hf:ev e x=some (.func (.func id) [] [])) (hm:gh e c.args.toList=some ms) (hx:eY P id ms O M):gC P n D o e O M:=by
 intro G a w hw aV;have vI:=aV.ev hf;generalize Ak:a.eval x=fv at vI;cases vI with
 | func h1 h2 h3 h4=>
   rename_i us vs;have jC:us=[]:=ahX h1;have oY:vs=[]:=ahX h3;subst jC;subst oY
   have iN:=aV.gh hm;obtain⟨m,O',u,w',H,hM,hr,g1,g2,g3⟩:=hx G w _ hw iN;refine⟨m,O',u,w',H,hM,?_,g1,g2,g3⟩;have ha: #[]++c.args.map a.eval++ #[]=(c.args.toList.map a.eval).toArray:=by apply Array.ext';simp
   simp only[execOp,vH,resolve,hc,Ak,Deferred.ofValue,Sem.run_bind,Sem.run_pure,Result.andThen_ok,invoke];rw[ha];exact hr
end
set_option linter.defProp false in
def dD:=ahV T80<|ahV aj4<|ahV ajU<|ahV ake<|ahV abk<|ahV ajV<|ahV aki<|ahV abm<|ahV T98<|ahV RJ<|ahV akl<|ahV akf<|ahV aj_<|ahV T2<|ahV ajW<|ahV aj9 I5
section
variable {O:VH} {k off:Nat} {cs:List MV}
theorem wR {x:Int} (y:Int) (hk:O.hp k=some (.cells cs)) (hc:cs[off]?=some (.v (.int .i64 x))):VF Tryz.prog 77 [.ptr k off,.v (.int .i64 y)] O (aE fun m O'=>m= .v (.int .i64 (IntKind.i64.wrap (x+y)))/\O'=O.set k (.cells (cs.set off (.v (.int .i64 (IntKind.i64.wrap (x+y))))))):=by
 refine Θ 10 [.tmp 4] Tryz.func77 ?_;refine ab @dD ?_;refine ah.ext (OL y hk hc) rfl ?_;rintro _ O2 ⟨rfl,rfl⟩;exact fU @dD
theorem Gt {x:Int} (hk:O.hp k=some (.cells cs)) (hc:cs[off]?=some (.v (.int .u32 x))):VF Tryz.prog 88 [.ptr k off] O (aE fun m O'=>m=mb (x != 0)/\O'=O):=by
 refine Θ 8 [.tmp 2] Tryz.func88 ?_;refine ab @dD ?_;refine ah.ext (Ss hk hc) rfl ?_;rintro _ O2 ⟨rfl,rfl⟩;exact fU @dD
theorem aiK (b:Bool) (O:VH):VF Tryz.prog 126 [mb b] O (aE fun m O'=>m= .v (.int .u32 (if b then 1 else 0))/\O'=O):=by
 refine Θ 4 [.tmp 2] Tryz.func126 ?_;cases b
 ·exact fU @dD
 ·exact fU @dD
theorem Yq {x:Int} (b:Bool) (hk:O.hp k=some (.cells cs)) (hc:cs[off]?=some (.v (.int .u32 x))):gU Tryz.prog 102 [.ptr k off,mb b] none O (fun O'=>O'=O.set k (.cells (cs.set off (.v (.int .u32 (if b then 1 else 0)))))):=by
 refine gU.HQ aa (n:=⟨10,0⟩) Tryz.func102 rfl rfl (ane rfl) rfl ?_;simp only[cL,ajy,Nat.reduceAdd];refine VC.oD [5] ?_;refine ae.au 0 ?_;refine ab @dD ?_;refine ae.au 1 ?_;refine ab @dD ?_;refine ae.au 2 ?_;refine ab @dD ?_;refine ae.au 3 ?_;refine ab @dD ?_;refine ae.call (i:=4) (aiK b O) ?_;rintro _ O2 ⟨rfl,eO⟩;simp only[ak];rw[eO];clear eO O2
 refine⟨VH.Ge.refl _,ae.fin (by kernel_rfl) (cG.st (i:=5) rfl (by kernel_rfl) rfl rfl (gC.ext rfl rfl rfl rfl (ON _ hk hc)) ?_)⟩;rintro m O2 ⟨rfl,rfl⟩;refine cG.done (by kernel_rfl) ?_;refine ab @dD ?_;trivial
theorem abZ (hk:O.hp k=some (.cells cs)) (hc:cs[off]?=some (.v (.int .i32 0))):VF Tryz.prog 123 [.ptr k off] O (aE fun m O'=>O'=O.set k (.cells (cs.set off (.v (.int .i32 1))))):=by
 have hl:off<cs.length:=(VI.1 hc).1;refine χ 13 [] Tryz.func123 ?_;refine κ @dD ?_;refine ah.ext (wQ _) rfl ?_;rintro _ O2 ⟨rfl,rfl⟩;refine ab @dD ?_;refine κ @dD ?_;refine ah.ext (Yp (y:=1) hk hc) rfl ?_;rintro _ O2 ⟨rfl,eO⟩;have bN:O2.hp k=some (.cells (cs.set off (.v (.int .i32 1)))):=by rw[eO];exact τ _ _ _
 have iL:(cs.set off (.v (.int .i32 1)))[off]?=some (.v (.int .i32 1)):=by rw[List.getElem?_set_self hl]
 refine ab @dD ?_;refine ah.ext (yN _) rfl ?_;rintro _ O3 ⟨rfl,H3⟩;rw[H3];clear H3 O3
 refine ab @dD ?_;refine VL.ag4 aa (.inl rfl) (el:=102) (by rw[abm];rfl) (by rw[I5];rfl) abk.1.1 (by decide) bN iL rfl rfl rfl ?_;refine ab @dD ?_;refine ah.ext (Gs _ _ _) rfl ?_;rintro _ O4 ⟨rfl,qa⟩;rw[qa];clear qa O4
 refine ab @dD ?_;exact eO
theorem afw (hk:O.hp k=some (.cells cs)) (hc:cs[off]?=some (.v (.int .i32 0))):VF Tryz.prog 100 [.ptr k off] O (aE fun m O'=>O'=O.set k (.cells (cs.set off (.v (.int .i32 1))))):=by
 refine Θ 6 [] Tryz.func100 ?_;refine ab @dD ?_;refine π (abZ hk hc) ?_;rintro _ O2 e2;refine ab @dD ?_;exact e2
theorem St (hk:O.hp k=some (.cells cs)) (hc:cs[off]?=some (.v (.int .i32 1))):VF Tryz.prog 124 [.ptr k off] O (aE fun m O'=>O'=O.set k (.cells (cs.set off (.v (.int .i32 0))))):=by
 have hl:off<cs.length:=(VI.1 hc).1;refine χ 21 [] Tryz.func124 ?_;refine θ (aH @dD @hk @hc ?_);refine VL.ag4 aa (.inl rfl) (el:=102) (by rw[abm];rfl) (by rw[I5];rfl) abk.1.1 (by decide) hk hc rfl rfl rfl ?_;refine ab @dD ?_;refine ah.ext (D6 _ _ _) rfl ?_;rintro _ O2 ⟨rfl,H4⟩;rw[H4];clear H4 O2
 refine ab @dD ?_;refine ah.ext (wQ _) rfl ?_;rintro _ O2 ⟨rfl,H4⟩;rw[H4];clear H4 O2
 refine ab @dD ?_;refine κ @dD ?_;refine ah.ext (OM (-1) hk hc) rfl ?_;rintro _ O2 ⟨rfl,eO⟩;refine ao @dD (show IntKind.i32.wrap (1+ -1)=0 from rfl) ?_;refine κ @dD ?_;refine ν @dD ?_;refine ah.ext (yN _) rfl ?_;rintro _ O3 ⟨rfl,H3⟩;rw[H3];clear H3 O3
 refine ab @dD ?_;exact eO
theorem Yr (hk:O.hp k=some (.cells cs)) (hc:cs[off]?=some (.v (.int .i32 1))):gU Tryz.prog 101 [.ptr k off] none O (fun O'=>O'=O.set k (.cells (cs.set off (.v (.int .i32 0))))):=by
 refine gU.HQ aa (n:=⟨6,0⟩) Tryz.func101 rfl rfl (ane rfl) rfl ?_;simp only[cL,ajy,Nat.reduceAdd];refine ν @dD ?_;refine π (St hk hc) ?_;rintro _ O2 e2;refine ab @dD ?_;exact e2
theorem Ys {g:FuncId} {xs:List MV} {Φ :VH->Prop} (hk:O.hp k=some (.cells cs)) (h0:cs[off]?=some (.v (.int .u32 0))) (h1:cs[off+1]?=some (.v (.int .i32 0))) (hg:df Tryz.prog g=true)
  (hC:VF Tryz.prog g xs (O.set k (.cells (cs.set (off+1) (.v (.int .i32 1))))) (aE fun _ O'=> Φ O'))
  (hΦ :∀O', Φ O'->∃cs',O'.hp k=some (.cells cs')/\cs'[off]?=some (.v (.int .u32 0))/\cs'[off+1]?=some (.v (.int .i32 1))):
  VF Tryz.prog 89 [.ptr k off,.func (.func g) [] xs] O (aE fun _ O'=>∃O1 cs', Φ O1/\O1.hp k=some (.cells cs')/\O'=O1.set k (.cells ((cs'.set off (.v (.int .u32 1))).set (off+1) (.v (.int .i32 0))))):=by
 refine VF.defs (K:=fun O'=>∃O1 cs', Φ O1/\O1.hp k=some (.cells cs')/\O'=O1.set k (.cells ((cs'.set off (.v (.int .u32 1))).set (off+1) (.v (.int .i32 0))))) Tryz.func89 rfl rfl (ane rfl) ?_ (fun O' h=>h);show RC _ _ ⟨21,0⟩ _ _ _ _ _;simp only[cL,ajy,Nat.reduceAdd];refine RC.ag fun D=>?_
 refine ν @dD ?_;refine π (afw hk h1) ?_;rintro _ O2 e2;have bN:O2.hp k=some (.cells (cs.set (off+1) (.v (.int .i32 1)))):=by rw[e2];exact τ _ _ _
 refine ab @dD ?_;refine RC.region [0,1,2,3] rfl ?_;refine RO.o1 ?_;refine ab @dD ?_;refine RO.o1 ?_;refine ab @dD ?_;refine RO.o1 ?_;refine ab @dD ?_;refine RO.defer rfl rfl ?_;refine RC.ag fun D=>?_
 have h02:(cs.set (off+1) (.v (.int .i32 1)))[off]?=some (.v (.int .u32 0)):=by rw[List.getElem?_set_ne (by omega)];exact h0
 refine ν @dD ?_;refine π (Gt bN h02) ?_;rintro _ O3 ⟨rfl,eO⟩;rw[eO];clear eO O3
 refine ab @dD ?_;refine RC.cond (t:=true) rfl ?_;rw[if_pos rfl];refine RC.region [0,1,2,3] rfl ?_;refine RO.o1 ?_;refine ab @dD ?_;refine RO.o1 ?_;refine ab @dD ?_;refine RO.o1 ?_;refine ab @dD ?_;refine RO.defer rfl rfl ?_;refine RC.fin rfl fun D=>?_
 rw[e2];refine ν @dD ?_;refine π hC ?_ (hb:=hg);rintro m O3 DZ;obtain⟨cs',dR,h3,h4⟩:=hΦ O3 DZ;have n8:off<cs'.length:=(VI.1 h3).1;refine ab @dD ?_;refine⟨Enters.sI (by kernel_rfl),(Yq true dR h3).mono fun O4 e4=>?_⟩;have lX:O4.hp k=some (.cells (cs'.set off (.v (.int .u32 1)))):=by rw[e4];exact τ _ _ _
 have h44:(cs'.set off (.v (.int .u32 1)))[off+1]?=some (.v (.int .i32 1)):=by rw[List.getElem?_set_ne (by omega)];exact h4
 refine⟨Enters.sI (by kernel_rfl),(Yr lX h44).mono fun O5 e5=>?_⟩;refine⟨O3,cs',DZ,dR,?_⟩;rw[e5,e4];exact VH.set_set _ _ _ _
theorem ab0 {g:FuncId} {xs:List MV} {Φ :VH->Prop} (hk:O.hp k=some (.cells cs)) (h0:cs[off]?=some (.v (.int .u32 0))) (h1:cs[off+1]?=some (.v (.int .i32 0))) (hg:df Tryz.prog g=true)
  (hC:VF Tryz.prog g xs (O.set k (.cells (cs.set (off+1) (.v (.int .i32 1))))) (aE fun _ O'=> Φ O'))
  (hΦ :∀O', Φ O'->∃cs',O'.hp k=some (.cells cs')/\cs'[off]?=some (.v (.int .u32 0))/\cs'[off+1]?=some (.v (.int .i32 1))):
  VF Tryz.prog 75 [.ptr k off,.func (.func g) [] xs] O (aE fun _ O'=>∃O1 cs', Φ O1/\O1.hp k=some (.cells cs')/\O'=O1.set k (.cells ((cs'.set off (.v (.int .u32 1))).set (off+1) (.v (.int .i32 0))))):=by
 refine χ 12 [] Tryz.func75 ?_;refine κ @dD ?_;refine π (Gt hk h0) ?_;rintro _ O3 ⟨rfl,eO⟩;rw[eO];clear eO O3
 refine ab @dD ?_;refine ν @dD ?_;refine π (Ys hk h0 h1 hg hC hΦ) ?_;rintro m O3 h3;refine ab @dD ?_;exact h3
theorem ab1 (g:FuncId) (xs:List MV) {x:Int} (hx:x≠0) (hk:O.hp k=some (.cells cs)) (h0:cs[off]?=some (.v (.int .u32 x))):VF Tryz.prog 75 [.ptr k off,.func (.func g) [] xs] O (aE fun _ O'=>O'=O):=by
 refine χ 12 [] Tryz.func75 ?_;refine κ @dD ?_;refine π (Gt hk h0) ?_;rintro _ O3 ⟨rfl,eO⟩;rw[eO];clear eO O3
 have hx':(x != 0)=true:=by rw[bne_iff_ne];exact hx
 refine ao @dD @hx' ?_;refine ο @dD @hx' ?_;trivial
end
structure Rec where
 b:Nat
 off:Nat
 name:Bs
 attrs:List (Bs×Bs)
 kids:List Nd
 q:MV
def jm (r:Rec):List MV:=[.str r.name,.sl r.attrs.length (r.attrs.flatMap bm) .ar,r.q,.str []]
theorem sV (r:Rec):(jm r).length=4:=rfl
def pN (O:VH) (B k:Nat):List Rec->Prop
 | []=>True
 | [r]=>r.b=k/\r.off=0
 | r::p::rest=>(∃c,p.q= .bz r.b 0 (p.kids.length+1) c/\p.kids.length+1<=c/\Row O 93 4 B r.b c (aD p.kids++jm r))/\r.off=p.kids.length*4/\p.b<r.b/\pN O B k (p::rest)
def akY (O:VH) (B:Nat):List Rec->Prop
 | []=>True
 | r::_=>GR O 93 4 B r.q r.kids.length (aD r.kids)/\∀i,gid r.q=some i->r.b<i
def pO:List Rec->List MV->List MV
 | [],z=>z
 | [r],_=>jm r
 | _::r::R,z=>pO (r::R) z
def im (R:List Rec):List MV:=(R.map fun r=>MV.ptr r.b r.off).reverse
theorem rQ (r:Rec) (R:List Rec):(im (r::R))=im R++[.ptr r.b r.off]:=by unfold im;simp
theorem lz (R:List Rec):(im R).length=R.length:=by unfold im;simp
theorem fp:∀(R:List Rec) (z:List MV),z.length=4->(pO R z).length=4
 | [],z,h=>h
 | [r],_,_=>rfl
 | _::r::R,z,h=>fp (r::R) z h
structure BC (O:VH) (B k:Nat) (R:List Rec) (z tl:List MV):Prop where
 lt:k<B
 le:B<=O.N
 cells:O.hp k=some (.cells (pO R z++tl))
 zl:z.length=4
 chain:pN O B k R
 top:akY O B R
def Kp (O O':VH) (S:List Nat):Prop:=O.N<=O'.N/\∀i,i<O.N->i ∉ S->O'.hp i=O.hp i
def Cu (O:VH) (S:List Nat):Prop:=∀x∈S,∀j t n,O.hp x≠some (.shape j t n)
theorem Cu.ne {O:VH} {S:List Nat} (h:Cu O S) {j i t n:Nat} (hj:O.hp j=some (.shape i t n)):j ∉ S:=fun hm=>h j hm _ _ _ hj
theorem Row.kp {O O':VH} {el:TypeId} {sz B k c:Nat} {L:List MV} {S:List Nat} (h:Row O el sz B k c L) (u:Kp O O' S) (hS:Cu O S) (hk:k ∉ S):Row O' el sz B k c L:=by
 obtain⟨⟨sp,h1,h2⟩,⟨j,h3,h4,h5⟩,h6,h7⟩:=h;exact⟨⟨sp,(u.2 k h7 hk).trans h1,h2⟩,⟨j,h3,Ml h4 u.1,(u.2 j h4 (hS.ne h5)).trans h5⟩,h6,Ml h7 u.1⟩
theorem Row.own {O O':VH} {el:TypeId} {sz B k c:Nat} {L L' sp:List MV} {S:List Nat} (h:Row O el sz B k c L) (u:Kp O O' S) (hS:Cu O S) (hc:O'.hp k=some (.cells (L'++sp))) (hl:(L'++sp).length=c*sz):Row O' el sz B k c L':=by
 obtain⟨_,⟨j,h3,h4,h5⟩,h6,h7⟩:=h;exact⟨⟨sp,hc,hl⟩,⟨j,h3,Ml h4 u.1,(u.2 j h4 (hS.ne h5)).trans h5⟩,h6,Ml h7 u.1⟩
theorem pN.lt {O:VH} {B k:Nat}:∀{R:List Rec} {r:Rec},pN O B k (r::R)->∀x∈R,x.b<r.b
 | [],_,_,x,hx=>by cases hx
 | p::R,r,h,x,hx=>by
   obtain⟨_,_,h3,h4⟩:=h;rcases aec.1 hx with rfl | hx
   ·exact h3
   ·exact Nat.lt_trans (h4.lt x hx) h3
theorem pN.kp {O O':VH} {B k:Nat} {S:List Nat} (u:Kp O O' S) (hS:Cu O S):∀{R:List Rec},pN O B k R->(∀r∈R,r.b=k\/(∃cs,O.hp r.b=some (.cells cs))->r.b=k\/r.b ∉ S)->k<B->pN O' B k R
 | [],_,_,_=>trivial
 | [r],h,_,_=>h
 | r::p::rest,⟨⟨c,h1,h2,h3⟩,h4,h5,h6⟩,hn,hk=>⟨⟨c,h1,h2,h3.kp u hS (((hn r (by simp)) (.inr (by obtain⟨sp,e,_⟩:=h3.cells;exact⟨_,e⟩))).resolve_left fun e=>by have:=h3.lo;omega)⟩,h4,h5,h6.kp u hS (fun x hx=>hn x (by simp[hx])) hk⟩
theorem GR.lo {O:VH} {el:TypeId} {sz B n i:Nat} {p:MV} {L:List MV} (h:GR O el sz B p n L) (e:gid p=some i):B<=i/\i<O.N:=by
 rcases h with⟨_,_,hp | hp⟩ | ⟨k2,c,hp,_,_,jT⟩
 ·rw[hp]at e;cases e
 ·rw[hp]at e;cases e
 ·rw[hp]at e;injection e with e;subst e;exact⟨jT.lo,jT.hi⟩
theorem GR.kp {O O':VH} {el:TypeId} {sz B n:Nat} {p:MV} {L:List MV} {S:List Nat} (h:GR O el sz B p n L) (u:Kp O O' S) (hS:Cu O S) (hk:∀i,gid p=some i->i ∉ S):GR O' el sz B p n L:=by
 rcases h with h | ⟨k2,c,hp,h1,h2,jT⟩
 ·exact .inl h
 ·exact .inr ⟨k2,c,hp,h1,h2,jT.kp u hS (hk k2 (by rw[hp];rfl))⟩
theorem GR.OP {O:VH} {el:TypeId} {sz B n i:Nat} {p:MV} {L:List MV} (h:GR O el sz B p n L) (e:gid p=some i):∃cs,O.hp i=some (.cells cs):=by
 rcases h with⟨_,_,hp | hp⟩ | ⟨k2,c,hp,_,_,jT⟩
 ·rw[hp]at e;cases e
 ·rw[hp]at e;cases e
 ·rw[hp]at e;injection e with e;subst e
  obtain⟨sp,h1,_⟩:=jT.cells;exact⟨_,h1⟩
theorem BC.loc {O:VH} {B k:Nat} {r:Rec} {R:List Rec} {z tl:List MV} (h:BC O B k (r::R) z tl):∃pre post,O.hp r.b=some (.cells (pre++jm r++post))/\pre.length=r.off/\r.b<O.N/\(R=[]->r.b=k/\pre=[]/\post=tl)/\∀p rest,R=p::rest->pre=aD p.kids/\B<=r.b:=by
 cases R with
 | nil=>
   obtain⟨h1,h2⟩:=h.chain;refine⟨[],tl,?_,h2.symm,?_,fun _=>⟨h1,rfl,rfl⟩,fun p rest e=>by cases e⟩
   ·rw[h1];exact h.cells
   ·rw[h1];exact Ml h.lt h.le
 | cons p rest=>
   obtain⟨⟨c,_,_,jT⟩,ho,_,_⟩:=h.chain;obtain⟨sp,h1,h2⟩:=jT.cells;exact⟨aD p.kids,sp,h1,by rw[dC,ho],jT.hi,(fun e=>by cases e),fun p' amm e=>by injection e with e1 e2;subst e1;exact⟨rfl,jT.lo⟩⟩
theorem BC.part {O O':VH} {B k:Nat} {r r':Rec} {R:List Rec} {z tl pre post:List MV} {S:List Nat} (h:BC O B k (r::R) z tl) (hc:O.hp r.b=some (.cells (pre++jm r++post))) (hl:pre.length=r.off) (hR:R=[]->post=tl) (u:Kp O O' S) (hb:r'.b=r.b) (ho:r'.off=r.off)
  (hn:∀x∈S,x=r.b\/gid r.q=some x) (pB:O'.hp r.b=some (.cells (pre++jm r'++post))):O'.hp k=some (.cells (pO (r'::R) z++tl))/\pN O' B k (r'::R):=by
 have rE:=h.chain;have ei:=rE.lt;have jb:=h.top
 have hS:Cu O S:=fun x hx j t n e=>by
  rcases hn x hx with e2 | e2
  ·subst e2;rw[hc]at e;cases e
  ·obtain⟨cs,e3⟩:=jb.1.OP e2;rw[e3]at e;cases e
 cases R with
 | nil=>
   obtain⟨h1,h2⟩:=rE;have hp:pre=[]:=ahX (by rw[hl,h2]);subst hp;refine⟨?_,⟨by rw[hb,h1],by rw[ho,h2]⟩⟩;rw[<-h1,pB,hR rfl];rfl
 | cons p rest=>
   obtain⟨⟨c,e1,e2,jT⟩,e3,e4,e5⟩:=rE;have akZ:=jT.lo
   have hkS:k ∉ S:=fun hm=>by
    have:=h.lt;rcases hn k hm with e | e
    ·omega
    ·have:=(jb.1.lo e).1;omega
   obtain⟨sp,uz,XQ⟩:=jT.cells;rw[hc]at uz;injection uz with uz;injection uz with uz
   have dI:pre.length=(aD p.kids).length:=by rw[hl,e3,dC]
   rw[aeb,aeb]at uz;obtain⟨lJ,Bg⟩:=ang uz dI;obtain⟨_,pM⟩:=ang Bg rfl;subst lJ;subst pM
   refine⟨?_,⟨⟨c,by rw[e1,hb],e2,?_⟩,by rw[ho,e3],by rw[hb];exact e4,e5.kp u hS (fun x hx _=>?_) h.lt⟩⟩
   ·rw[u.2 k (Ml h.lt h.le) hkS];exact h.cells
   ·rw[hb];refine jT.own u hS pB ?_;rw[Mm,Mm,sV]at XQ ⊢;exact XQ
   ·refine .inr fun hm=>?_
    have h6:=ei x hx;rcases hn x.b hm with e | e
    ·omega
    ·have:=jb.2 _ e;omega
theorem BC.Lf {O O':VH} {B k:Nat} {r r':Rec} {R:List Rec} {z tl pre post:List MV} {S:List Nat} (h:BC O B k (r::R) z tl) (hc:O.hp r.b=some (.cells (pre++jm r++post))) (hl:pre.length=r.off) (hR:R=[]->post=tl) (u:Kp O O' S) (hb:r'.b=r.b) (ho:r'.off=r.off)
  (hn:∀x∈S,x=r.b\/gid r.q=some x) (pB:O'.hp r.b=some (.cells (pre++jm r'++post))) (ht:GR O' 93 4 B r'.q r'.kids.length (aD r'.kids)) (QO:∀i,gid r'.q=some i->r.b<i):BC O' B k (r'::R) z tl:=by
 obtain⟨h1,h2⟩:=h.part hc hl hR u hb ho hn pB;exact⟨h.lt,ahY h.le u.1,h1,h.zl,h2,⟨ht,fun i e=>by rw[hb];exact QO i e⟩⟩
theorem BC.push {O O':VH} {B k k' c:Nat} {r:Rec} {R:List Rec} {z tl pre post:List MV} {S:List Nat} {nm:Bs} {gk:List (Bs×Bs)} (h:BC O B k (r::R) z tl) (hc:O.hp r.b=some (.cells (pre++jm r++post))) (hl:pre.length=r.off) (hR:R=[]->post=tl) (u:Kp O O' S)
  (hn:∀x∈S,x=r.b\/gid r.q=some x) (pB:O'.hp r.b=some (.cells (pre++jm {r with q:=.bz k' 0 (r.kids.length+1) c}++post))) (hk:gid r.q=some k'\/O.N<=k') (hlen:r.kids.length+1<=c)
  (jT:Row O' 93 4 B k' c (aD r.kids++jm ⟨k',r.kids.length*4,nm,gk,[],.sl 0 [] .nil⟩)):BC O' B k (⟨k',r.kids.length*4,nm,gk,[],.sl 0 [] .nil⟩::{r with q:=.bz k' 0 (r.kids.length+1) c}::R) z tl:=by
 obtain⟨h1,h2⟩:=h.part (r':={r with q:=.bz k' 0 (r.kids.length+1) c}) hc hl hR u rfl rfl hn pB
 have hrb:r.b<k':=by
  rcases hk with e | e
  ·exact h.top.2 _ e
  ·obtain⟨_,_,_,_,e2,_⟩:=h.loc;omega
 exact⟨h.lt,ahY h.le u.1,h1,h.zl,⟨⟨c,rfl,hlen,jT⟩,rfl,hrb,h2⟩,⟨.inl ⟨rfl,by rw[aD],.inl rfl⟩,fun i e=>by cases e⟩⟩
theorem BC.step {O O':VH} {B k:Nat} {R:List Rec} {z z' tl tl':List MV} {S:List Nat} (h:BC O B k R z tl) (u:Kp O O' S) (hS:∀x∈S,x=k\/O.hp x=some .tok) (hc:O'.hp k=some (.cells (pO R z'++tl'))) (hz:z'.length=4):BC O' B k R z' tl':=by
 have hS2:Cu O S:=fun x hx j t n e=>by
  rcases hS x hx with e2 | e2
  ·subst e2;rw[h.cells]at e;cases e
  ·rw[e2]at e;cases e
 have hn:∀{i:Nat},(∃cs,O.hp i=some (.cells cs))->i≠k->i ∉ S:=fun{i} ⟨cs,e⟩ hne hm=>by
  rcases hS i hm with e2 | e2
  ·exact hne e2
  ·rw[e2]at e;cases e
 refine⟨h.lt,ahY h.le u.1,hc,hz,h.chain.kp u hS2 (fun r _ hr=>?_) h.lt,?_⟩
 ·by_cases e:r.b=k
  ·exact .inl e
  ·exact .inr (hn (hr.resolve_left e) e)
 ·have ht:=h.top;cases R with
  | nil=>trivial
  | cons r R=>exact⟨ht.1.kp u hS2 (fun i e=>hn (ht.1.OP e) (by have:=(ht.1.lo e).1;have:=h.lt;omega)),ht.2⟩
theorem Kp.set {O:VH} {k:Nat} {x:cf}:Kp O (O.set k x) [k]:=⟨ajv _,fun i _ hn=>ρ _ _ (by simpa using hn)⟩
theorem Kp.refl {O:VH} {S:List Nat}:Kp O O S:=⟨ajv _,fun _ _ _=>rfl⟩
theorem Kp.trans {O O1 O2:VH} {S T:List Nat} (h:Kp O O1 S) (k:Kp O1 O2 T):Kp O O2 (S++T):=⟨ahY h.1 k.1,fun i hi hn=>by
 rw[ajw,not_or]at hn;rw[k.2 i (Ml hi h.1) hn.2,h.2 i hi hn.1]⟩
theorem Kp.ge {O O1:VH} (h:O.Ge O1) {S:List Nat}:Kp O O1 S:=⟨h.N,fun i hi _=>h.hp i hi⟩
theorem Kp.bH {O O1:VH} {q:Option Nat} (h:bB O q O1):Kp O O1 q.toList:=⟨h.N,fun i hi hn=>h.hp i hi fun e=>hn (by rw[e];simp)⟩
theorem Kp.k {O O1:VH} {tk:Tok} (h:cc tk O O1):Kp O O1 (Tok.id tk).toList:=⟨h.N,fun i hi hn=>h.hp i hi fun e=>hn (by rw[e];simp)⟩
theorem Kp.sub {O O1:VH} {S T:List Nat} (h:Kp O O1 S) (hs:∀x∈S,x∈T\/O.N<=x):Kp O O1 T:=⟨h.1,fun i hi hn=>h.2 i hi fun hm=>by
 rcases hs i hm with e | e
 ·exact hn e
 ·omega⟩
theorem BC.ge {O O':VH} {B k:Nat} {R:List Rec} {z tl:List MV} (h:BC O B k R z tl) (g:O.Ge O'):BC O' B k R z tl:=
 h.step (S:=[]) (Kp.ge g) (fun x hx=>by cases hx) ((g.hp _ (Ml h.lt h.le)).trans h.cells) h.zl
def qc (R:List Rec) (tk:Tok) (cn:Nat) (dn tx:Bool):List MV:=[.sl R.length (im R) tk,mi cn,mb dn,mb tx]
structure BS (O:VH) (B k:Nat) (R:List Rec) (tk:Tok) (cn:Nat) (dn tx:Bool) (z:List MV):Prop where
 c:BC O B k R z (qc R tk cn dn tx)
 a:App O B 1 tk
theorem BS.ge {O O':VH} {B k cn:Nat} {R:List Rec} {tk:Tok} {dn tx:Bool} {z:List MV} (h:BS O B k R tk cn dn tx z) (g:O.Ge O'):BS O' B k R tk cn dn tx z:=⟨h.c.ge g,h.a.ge g⟩
def dZ (k:Nat) (R:List Rec) (tk:Tok):List Nat:=k::(R.map (·.b)++(R.head?.bind fun r=>gid r.q).toList++(Tok.id tk).toList)
theorem n9 {k:Nat} {R:List Rec} {tk:Tok}:k∈dZ k R tk:=by simp[dZ]
theorem qd {k:Nat} {r:Rec} {R:List Rec} {tk:Tok}:r.b∈dZ k (r::R) tk:=by simp[dZ]
theorem n_ {k x:Nat} {r:Rec} {R:List Rec} {tk:Tok} (h:gid r.q=some x):x∈dZ k (r::R) tk:=by simp[dZ,h]
theorem Er {k x:Nat} {R:List Rec} {tk:Tok} (h:Tok.id tk=some x):x∈dZ k R tk:=by simp[dZ,h]
theorem Bv {k:Nat} {r:Rec} {R:List Rec} {tk:Tok} (h:r∈R):r.b∈dZ k R tk:=by
 have:=List.mem_map_of_mem (f:=fun r:Rec=>r.b) h;simp only[dZ,aec,ajw];exact .inr (.inl (.inl this))
theorem Kp.more {O O1 O2:VH} {U S:List Nat} (h:Kp O O1 U) (k:Kp O1 O2 S) (hs:∀x∈S,x∈U\/O.N<=x):Kp O O2 U:=⟨ahY h.1 k.1,fun i hi hn=>by
 rw[k.2 i (Ml hi h.1) (fun hm=>(hs i hm).elim hn fun e=>by omega),h.2 i hi hn]⟩
set_option linter.defProp false in
def aI:=ahV ey<|ahV akw<|ahV akv<|ahV NR<|ahV NS we
theorem rR {l:List MV} (h:l.length=4):∃a b c d,l=[a,b,c,d]:=by
 match l,h with
 | [a,b,c,d],_=>exact⟨_,_,_,_,rfl⟩
theorem App.yO {O:VH} {B sz k:Nat} {tk:Tok} {x:cf} (h:App O B sz tk) (hk:k<B):App (O.set k x) B sz tk:=by
 cases tk with
 | own t j=>exact⟨h.1,(ρ _ _ (by have:=h.2.2.1;omega)).trans h.2.1,h.2.2.1,h.2.2.2⟩
 | nil=>trivial
 | full=>trivial
 | ar=>exact h.elim
theorem BS.flag {O:VH} {B k cn cnt':Nat} {R:List Rec} {tk:Tok} {dn tx dn' tx':Bool} {z:List MV} (h:BS O B k R tk cn dn tx z):BS (O.set k (.cells (pO R z++qc R tk cnt' dn' tx'))) B k R tk cnt' dn' tx' z:=
 ⟨h.c.step Kp.set (fun x hx=>.inl (by simpa using hx)) (τ _ _ _) h.c.zl,h.a.yO h.c.lt⟩
theorem ab2 {O:VH} {B k cn:Nat} {R:List Rec} {tk:Tok} {dn tx:Bool} {z:List MV} (h:BS O B k R tk cn dn tx z) (hc:cn<=1000000):
  VF Tryz.prog 300 [.ptr k 0] O (aE fun m O'=>m=mb (decide (cn+1<=4096))/\BS O' B k R tk (cn+1) dn tx z/\Kp O O' [k]):=by
 have hk:=h.c.cells;obtain⟨a0,a1,a2,a3,hr⟩:=rR (fp R z h.c.zl);have pd:=h.flag (cnt':=cn+1) (dn':=dn) (tx':=tx);unfold qc at hk pd;rw[hr]at hk pd;simp only[aq,bu,aee,aed]at hk pd;refine Θ 15 [.tmp 2] Tryz.func300 ?_;by_cases h1:cn+1<=4096
 ·rw[decide_eq_true h1];refine ao @aI @hk ?_;exact⟨pd,Kp.set⟩
 ·rw[decide_eq_false h1];refine ao @aI @hk ?_;exact⟨pd,Kp.set⟩
theorem Gu {O:VH} {B k cn:Nat} {r:Rec} {R:List Rec} {tk:Tok} {dn tx:Bool} {z:List MV} (h:BS O B k (r::R) tk cn dn tx z) (hl:R.length<=1000):
  VF Tryz.prog 281 [.ptr k 0] O (aE fun m O'=>m= .ptr r.b r.off/\O'=O):=by
 have hk:=h.c.cells;obtain⟨a0,a1,a2,a3,hr⟩:=rR (fp (r::R) z h.c.zl);unfold qc at hk;rw[hr]at hk
 have bE:(im (r::R))[R.length]?=some (.ptr r.b r.off):=by
  rw[rQ,ah0 (by rw[lz];exact ajv _),lz,Nat.sub_self];rfl
 have hCl:(im (r::R)).length=R.length+1:=by rw[lz];rfl
 generalize im (r::R)=C at*;simp only[aq,bu,List.cons_append,List.nil_append,List.length_cons]at hk;have n0:(((R.length+1:Nat):Int) - 1)=(R.length:Int):=by omega
 refine χ 15 [.tmp 2] Tryz.func281 ?_;refine κ @aI ?_;refine ω ?_;refine WC.reads ?_;refine iw @aI @hk @n0 @bE @v_ ?_;refine ν @aI ?_;trivial
def sf (R:List Rec):List (Bs×List (Bs×Bs)×List Nd):=R.map fun r=>(r.name,r.attrs,r.kids)
def rS (n cn:Nat) (dn:Bool):Option Int:=if dn then some 16 else if 64<=n then some 2 else if 4096<cn+1 then some 2 else none
theorem VH.set_comm {O:VH} {a b:Nat} {x y:cf} (h:a≠b):(O.set a x).set b y=(O.set b y).set a x:=by
 have key:bH (bH O.hp a (some x)) b (some y)=bH (bH O.hp b (some y)) a (some x):=by
  funext j
  by_cases e:j=a
  ·subst e;rw[ay _ _ h,aK,aK]
  ·by_cases e2:j=b
   ·subst e2;rw[aK,ay _ _ e,aK]
   ·rw[ay _ _ e2,ay _ _ e,ay _ _ e,ay _ _ e2]
 unfold VH.set;dsimp only;rw[key]
section
variable {G H:Gh} {n:Sz} {D:List Deferred} {e:Env} {a:Act} {P:Program} {tab:cg} {O O':VH} {w:World} {m:MV} {ops:Array Oper} {Q:VQ}
theorem bP.ag5 {brk:List Nat} {fuel i:Nat} {listed:Array Bool} {l:List Oper} {o:Oper} (ho:l[i]?=some o) (hr:Region.ready .any ⟨l⟩ listed=[i]) (hb:brk.contains i=false) (hA:HC o.op=true)
  (hg:aO ⟨l⟩ o e=some true) (hy:∀G a w,WR G O w->FR G n D e a->dT P o a w G m O') (hd:bD n o.dst=true) (h:bP P n D ⟨l⟩ brk fuel (listed.setIfInBounds i true) (aZ o.dst m e) O' Q):bP P n D ⟨l⟩ brk (fuel+1) listed e O Q:=by
 intro G a w hw aV;refine jV hr (by simp) fun j hj=>?_
 obtain rfl:j=i:=by simpa using hj
 obtain⟨nx,w',H,u,cD,tU,h1,h2,h3,h4⟩:=hy G a w hw aV;have KZ:(⟨l⟩:Array Oper)[j]?=some o:=by simpa using ho
 simp only[wpOp,KZ,bC aV hg,if_true];refine .inl ?_;unfold Oper.wp;rw[cD];have hk:=h H (a.put o.dst u) w' h2 ((aV.mono h1).aZ hd h3)
 have ZX:TH brk G w j w'/\jy P .any ⟨l⟩ (cN G n D Q) (TH brk G w) fuel (listed.setIfInBounds j true) (a.put o.dst u) w':=by
  have qu:=h4 hA;have hs:Sx G w w':=⟨SS.le h1 h2.ss,qu⟩;refine⟨fun _=>hs,jW (fun _ _ _=>cN.le h1) _ _ _ _ (fun k _ x hT qs=>?_) hk⟩;obtain⟨g1,g2⟩:=hT qs;exact⟨SS.le h1 g1,fun k' b lK=>(g2 k' b (h1.bV lK)).trans (qu k' b lK)⟩
 rcases tU with rfl | ⟨rfl,rfl⟩<;>exact ZX
end
theorem ab3 {G:Gh} {n:Sz} {D:List Deferred} {e:Env} {a:Act} {O:VH} {w:World} {d:Option Tmp} {ty:TypeId} {ps:String} {af:Array Edge} {g:Option (Nat×Bool)} (hw:WR G O w) (hf:FR G n D e a):dT Tryz.prog (.mk d (.buildSlice 91 1 #[(0,.const (.agg #[.string ⟨⟨[]⟩⟩,.slice none 0 0,.slice none 0 0,.string ⟨⟨[]⟩⟩]))]) ty ps af g) a w G (.sl 1 [.str [],.sl 0 [] .nil,.sl 0 [] .nil,.str []] .full) O:=
 dT.of (uO (t:=91) (len:=1) (m:=.sl 1 [.str [],.sl 0 [] .nil,.sl 0 [] .nil,.str []] .full) (parts:=[(0,.agg [.str [],.sl 0 [] .nil,.sl 0 [] .nil,.str []])]) (ps:= #[(0,.agg #[.string ⟨⟨[]⟩⟩,.slice none 0 0,.slice none 0 0,.string ⟨⟨[]⟩⟩])]) aa hw (by kernel_rfl) rfl
  (aS.cons (.agg (us:=[.string ⟨⟨[]⟩⟩,.slice none 0 0,.slice none 0 0,.string ⟨⟨[]⟩⟩]) rfl (aS.cons .str (aS.cons .slnil (aS.cons .slnil (aS.cons .str aS.nil)))).2) aS.nil)) (by simp[execOp,Act.eval])
theorem ag6 (L sp:List MV) (x y z w a b c d:MV):((((L++[x,y,z,w]++sp).set L.length a).set (L.length+1) b).set (L.length+1+1) c).set (L.length+1+1+1) d=L++[a,b,c,d]++sp:=by
 induction L with
 | nil=>rfl
 | cons e L ih=>
   simp only[aee,zW,List.set_cons_succ];rw[ih]
theorem App.OQ {O O':VH} {B sz:Nat} {tk:Tok} {S:List Nat} (h:App O B sz tk) (u:Kp O O' S) (hS:∀x∈S,O.hp x≠some .tok):App O' B sz tk:=by
 cases tk with
 | own t k=>exact⟨h.1,(u.2 t h.2.2.2 (fun hm=>hS t hm h.2.1)).trans h.2.1,h.2.2.1,Ml h.2.2.2 u.1⟩
 | nil=>trivial
 | full=>trivial
 | ar=>exact h.elim
theorem UO {O:VH} {B n:Nat} {p:MV} {L:List MV} (h:GR O 93 4 B p n L):de (bX Tryz.prog) 91 p=some (.v (.int .i64 n)):=by
 rcases h with⟨rfl,_,rfl | rfl⟩ | ⟨k,c,rfl,_⟩
 ·exact bL we
 ·exact bL we
 ·exact IN we
theorem ab4 {O:VH} {B k cn:Nat} {R:List Rec} {tk:Tok} {dn tx:Bool} {z:List MV} (h:BS O B k R tk cn dn tx z) (hc:cn<=1000000) (kd:Int) (nm tt:Bs) (gk:List (Bs×Bs)) (p1 p2 p3:Int) (Jq:gk.length<=100000) (fF:∀r∈R,r.kids.length<=1000000):
  VF Tryz.prog 279 [.ptr k 0,.agg [mi kd,.str nm,.sl gk.length (gk.flatMap bm) .ar,.str tt,mi p1,mi p2,mi p3]] O (aE fun m O'=>Kp O O' (dZ k R tk)/\match rS R.length cn dn with
   | some e=>m=mi e
   | none=>m=mi 0/\∃R' tk',BS O' B k R' tk' (cn+1) false false z/\sf R'=(nm,gk,[])::sf R/\∀x∈dZ k R' tk',x∈dZ k R tk\/O.N<=x):=by
 obtain⟨a0,a1,a2,a3,hr⟩:=rR (fp R z h.c.zl);have ic:=h.c.lt;have hBn:=h.c.le;simp only[aq];refine χ 87 [.tmp 4] Tryz.func279 ?_;refine κ @aI ?_;refine VC.bx ?_;rintro O1 ⟨aJ,D7,cW⟩;have h1:=h.ge aJ;have cA:=h1.c.cells;unfold qc at cA;rw[hr]at cA;simp only[aq,bu,aee,aed]at cA;have jM:Kp O O1 (dZ k R tk):=Kp.ge aJ;have wS:∀x∈[k],x∈dZ k R tk\/O.N<=x:=fun x hx=>.inl (by rw[ahW]at hx;rw[hx];exact n9)
 cases dn;rotate_left
 ·refine ξ @aI @cA ?_;exact⟨jM,rfl⟩
 by_cases FV:64<=R.length
 ·have hE:rS R.length cn false=some 2:=by unfold rS;rw[if_neg (by simp),if_pos FV]
  rw[hE];refine ξ @aI @cA ?_;exact jM
 refine ξ @aI @cA ?_;refine π (ab2 h1 hc) ?_;rintro _ O2 ⟨rfl,h2,c9⟩;by_cases F5:cn+1<=4096;rotate_left
 ·have hE:rS R.length cn false=some 2:=by unfold rS;rw[if_neg (by simp),if_neg FV,if_pos (by omega)]
  rw[hE,decide_eq_false F5];refine ab @aI ?_;exact jM.more c9 wS
 have hE:rS R.length cn false=none:=by unfold rS;rw[if_neg (by simp),if_neg FV,if_neg (by omega)]
 rw[hE,decide_eq_true F5];dsimp only;refine ab @aI ?_;have Su:Kp O O2 (dZ k R tk):=jM.more c9 wS;have sh:=(c9.2 _ (by omega) (by simp;omega)).trans D7;have eJ:=c9.1;refine ξ @aI @sh ?_;refine VC.al ?_;rintro O3 ⟨aG,lS,gE⟩;have h3:=h2.ge aG;have dR:=h3.c.cells;have Cv:Kp O O3 (dZ k R tk):=Su.more (Kp.ge aG (S:=[])) (fun x hx=>by cases hx);have hR:R.length<64:=by omega
 cases R with
 | nil=>
   obtain rfl:z=[a0,a1,a2,a3]:=hr;unfold qc at dR;simp only[pO,im,List.map_nil,List.reverse_nil,ZA,aq,bu,aee,aed]at dR;refine θ (aH @aI @dR @lS ?_);refine VC.gen ?_;intro O4 qa;have lX:O4.hp k=some (.cells [.str nm,.sl gk.length (gk.flatMap bm) .ar,.sl 0 [] .nil,.str [],.sl 0 [] tk,.v (.int .i64 (cn+1:Nat)),.v (.bool false),.v (.bool tx)]):=by rw[qa];exact τ _ _ _
   have fb:App O4 B 1 tk:=by rw[qa];exact h3.a.yO ic
   have h_:O4.N=O3.N:=by rw[qa];rfl
   have aiL:Kp O O4 (dZ k [] tk):=Cv.more (S:=[k]) (by rw[qa];exact Kp.set) wS;clear qa;refine WC.bQ (.held [12]) [(0,.rd),(1,.rd),(2,.rd),(3,.rd),(4,.rd),(5,.rd),(6,.rd),(7,.rd),(8,.one),(9,.one),(10,.one),(11,.rd),(12,.one)] ?_;refine ao @aI @lX ?_;have cy:=aT (tk':=.full) (n:=0) (k:=1) (cs:=[]) (ds:=[.ptr k 0]) NR NS fb rfl rfl rfl (by decide) (by decide) (by decide) (by decide);refine VL.app cy ?_;have gK:=VH.jD fb lX (by simp) (by omega);have e_:=VH.dY O4 tk;have db:App (O4.after tk) B 1 (.own O4.N 1):=App.after (by omega);have uA:Kp O (O4.after tk) (dZ k [] tk):=aiL.more (Kp.k (cc.after fb)) (fun x hx=>.inl (Er (by simpa using hx)));generalize O4.after tk=O5 at*;refine ao @aI @gK ?_;refine VC.gen ?_;intro O6 Cp;have p8:O6.hp k=some (.cells [.str nm,.sl gk.length (gk.flatMap bm) .ar,.sl 0 [] .nil,.str [],.sl 1 [.ptr k 0] (.own O4.N 1),.v (.int .i64 (cn+1:Nat)),.v (.bool false),.v (.bool tx)]):=by rw[Cp];exact τ _ _ _
   have mQ:App O6 B 1 (.own O4.N 1):=by rw[Cp];exact db.yO ic
   have Gw:Kp O O6 (dZ k [] tk):=uA.more (S:=[k]) (by rw[Cp];exact Kp.set) wS;have nH:O6.N=O5.N:=by rw[Cp];rfl
   clear Cp;refine ξ @aI @p8 ?_;refine ν @aI ?_;refine⟨Gw.more Kp.set wS,[⟨k,0,nm,gk,[],.sl 0 [] .nil⟩],.own O4.N 1,⟨⟨ic,by rw[VH.ft];omega,?_,rfl,⟨rfl,rfl⟩,⟨.inl ⟨rfl,by rw[aD],.inl rfl⟩,(fun i e=>by cases e)⟩⟩,mQ.yO ic⟩,rfl,fun x hx=>?_⟩
   ·rw[τ];rfl
   ·have hx:x∈[k,k,O4.N]:=hx;simp only[aec,agu,or_false]at hx;rcases hx with rfl | rfl | rfl
    ·exact .inl n9
    ·exact .inl n9
    ·exact .inr (by omega)
 | cons r R=>
   unfold qc at dR;rw[hr]at dR;simp only[aq,bu,aee,aed,zW]at dR;obtain⟨pre,post,fA,dI,Dv,Cw,hR2⟩:=h3.c.loc;have jb:=h3.c.top;refine ξ @aI @dR ?_;refine π (Gu h3 (by rw[zW]at hR;omega)) ?_;rintro _ O9 ⟨rfl,eO⟩;rw[eO];clear eO O9
   refine ab @aI ?_;have hkr:=fF r (by simp)
   have OS:(pre++jm r++post)[r.off+2]?=some r.q:=by
    rw[aeb,ah0 (by omega), <-dI,ahZ];rfl
   have gL:∀q',(pre++jm r++post).set (r.off+2) q'=pre++jm {r with q:=q'}++post:=fun q'=>by
    rw[aeb,ame _ _ (by omega), <-dI,ahZ,aeb];rfl
   have hlC:(pre++jm r++post).length=pre.length+4+post.length:=by simp[sV];omega
   generalize hC:pre++jm r++post=C at*;refine VC.Ki [7,8,9,10,11,12] (by kernel_rfl) ?_;refine bP.Cj 0 ?_;refine ab @aI ?_;refine bP.Cj 1 ?_;refine ab @aI ?_;refine bP.Cj 2 ?_;refine ab @aI ?_;refine bP.Cj 3 ?_;refine aH @aI @fA @OS ?_;refine bP.Cj 4 ?_;refine ao @aI @lS ?_;have eP:=UO jb.1;refine bP.Cj 5 ?_;refine ao @aI @eP ?_;refine bP.ag5 (i:=6) rfl (by kernel_rfl) (by kernel_rfl) rfl rfl (fun _ _ _ hw hf=>ab3 hw hf) rfl ?_;simp only[ak];refine bP.fin (by kernel_rfl) ?_;refine cG.st (i:=7) rfl (by kernel_rfl) rfl rfl (Sd aa (te:=⟨_,4,80,_⟩) (dx:=.slice 93) (q:=.sl 1 [.str [],.sl 0 [] .nil,.sl 0 [] .nil,.str []] .full) (j:=1) (ds:=[.str [],.sl 0 [] .nil,.sl 0 [] .nil,.str []]) jb.1 rfl rfl (by rw[we];rfl) DU.1.1 (by rw[we];rfl) trivial (by dsimp only;omega) (by simp only[maxLen];omega) (by omega) rfl rfl) ?_;rintro m O4 ⟨ym,lZ,iS,hm⟩
   obtain⟨k2,c2,rfl,bN⟩:∃k2 c2,m= .bz k2 0 (r.kids.length+1) c2/\(gid r.q=some k2\/O3.N<=k2):=by
    rcases hm with⟨k2,c2,h1,h2⟩ | ⟨h1,_⟩
    ·exact⟨k2,c2,h1,h2.imp id And.left⟩
    ·cases h1
   obtain⟨c7,AI⟩:Row O4 93 4 B k2 c2 (aD r.kids++[.str [],.sl 0 [] .nil,.sl 0 [] .nil,.str []])/\r.kids.length+1<=c2:=by
    rcases ym with⟨h1,_⟩ | ⟨k3,c3,h1,h2,_,h4⟩
    ·omega
    ·injection h1 with h1 _ _ h3;subst h1;subst h3;exact⟨h4,h2⟩
   have ab5:r.b<k2:=by
    rcases bN with e | e
    ·exact jb.2 _ e
    ·omega
   have ak0:=lZ.N;have fR:O4.hp r.b=some (.cells C):=(lZ.hp _ Dv (fun e=>by have:=jb.2 _ e;omega)).trans fA;obtain⟨sp,uB,uv⟩:=c7.cells;simp only[ak];have vF:=dC r.kids
   have mG:∀a b c d:MV,((((aD r.kids++([.str [],.sl 0 [] .nil,.sl 0 [] .nil,.str []]:List MV)++sp).set (r.kids.length*4) a).set (r.kids.length*4+1) b).set (r.kids.length*4+1+1) c).set (r.kids.length*4+1+1+1) d=aD r.kids++[a,b,c,d]++sp:=fun a b c d=>by
    rw[<-vF];exact ag6 _ _ _ _ _ _ _ _ _ _
   generalize EJ:aD r.kids++[.str [],.sl 0 [] .nil,.sl 0 [] .nil,.str []]++sp=C2 at*;refine cG.I1 8 ?_;refine ab @aI ?_;refine cG.I1 10 ?_;refine ab @aI ?_;refine cG.I1 11 ?_;refine ab @aI ?_;refine cG.two (i:=9) (j:=12) (by kernel_rfl) ?_ ?_
   ·refine aN.o1 ?_;refine aH @aI @uB @mG ?_;refine cG.UH (i:=12) ?_;refine aH @aI @fR @gL ?_;refine cG.bQ [] ?_;refine WL.gen ?_;intro O5 m4;have e_:O5.N=O4.N:=by rw[m4];rfl
    have gd:O5.hp r.b=some (.cells (pre++jm {r with q:=.bz k2 0 (r.kids.length+1) c2}++post)):=by rw[m4];exact τ _ _ _
    have Bw:O5.hp k2=some (.cells (aD r.kids++jm ⟨k2,r.kids.length*4,nm,gk,[],.sl 0 [] .nil⟩++sp)):=by rw[m4];exact Γ (τ _ _ _)
    have u4:Kp O4 O5 [k2,r.b]:=by rw[m4];exact Kp.trans (S:=[k2]) (T:=[r.b]) Kp.set Kp.set
    clear m4
    have Sv:Cu O4 [k2,r.b]:=fun x hx j t n e=>by
     simp only[aec,agu,or_false]at hx;rcases hx with rfl | rfl
     ·rw[uB]at e;cases e
     ·rw[fR]at e;cases e
    have Sw:Row O5 93 4 B k2 c2 (aD r.kids++jm ⟨k2,r.kids.length*4,nm,gk,[],.sl 0 [] .nil⟩):=c7.own u4 Sv Bw (by rw[<-uv, <-EJ];simp[sV];omega)
    have u3:Kp O3 O5 (r.b::(gid r.q).toList):=((Kp.bH lZ).trans u4).sub (fun x hx=>by
     simp only[ajw,aec,agu,or_false]at hx ⊢;rcases hx with hx | hx | hx
     ·exact .inl (.inr hx)
     ·rcases bN with e | e
      ·rw[e];simp[hx]
      ·exact .inr (by omega)
     ·exact .inl (.inl hx))
    have pe:∀x∈r.b::(gid r.q).toList,x=r.b\/gid r.q=some x:=fun x hx=>by
     rcases aec.1 hx with e | e
     ·exact .inl e
     ·exact .inr (by simpa using e)
    have Lg:BC O5 B k _ z (qc (r::R) tk (cn+1) false tx):=h3.c.push (by rw[hC];exact fA) dI (fun e=>(Cw e).2.2) u3 pe gd bN AI Sw
    have db:App O5 B 1 tk:=by
     refine h3.a.OQ u3 fun x hx e=>?_
     rcases pe x hx with e2 | e2
     ·subst e2;rw[fA]at e;cases e
     ·obtain⟨cs,e3⟩:=jb.1.OP e2;rw[e3]at e;cases e
    have uA:Kp O O5 (dZ k (r::R) tk):=Cv.more u3 (fun x hx=>by
     rcases pe x hx with e | e
     ·rw[e];exact .inl qd
     ·exact .inl (n_ e))
    obtain⟨b0,b1,b2,b3,jx⟩:=rR (fp (⟨k2,r.kids.length*4,nm,gk,[],.sl 0 [] .nil⟩::{r with q:=.bz k2 0 (r.kids.length+1) c2}::R) z h.c.zl);have gK:=Lg.cells;unfold qc at gK;rw[jx]at gK;have hP:=lz (r::R);generalize hPG:im (r::R)=PT at*;simp only[aq,bu,aee,aed,zW]at gK hP
    have ab6:(pre++jm {r with q:=.bz k2 0 (r.kids.length+1) c2}++post)[r.off+2]?=some (.bz k2 0 (r.kids.length+1) c2):=by
     rw[aeb,ah0 (by omega), <-dI,ahZ];rfl
    generalize pre++jm {r with q:=.bz k2 0 (r.kids.length+1) c2}++post=C5 at*;have n0:(((r.kids.length+1:Nat):Int) - 1)=(r.kids.length:Int):=by omega
    refine ab @aI ?_;refine WC.bQ (.held [20]) [(0,.rd),(1,.rd),(2,.rd),(3,.rd),(4,.rd),(5,.rd),(6,.rd),(7,.rd),(8,.rd),(9,.rd),(10,.rd),(11,.rd),(12,.rd),(13,.rd),(14,.rd),(15,.rd),(16,.one),(17,.one),(18,.one),(19,.rd),(20,.one)] ?_;refine FI @aI @gK @gd @ab6 @n0 @v_ ?_;have cy:=aT (tk':=.full) (n:=R.length+1) (k:=1) (cs:=PT) (ds:=[.ptr k2 (r.kids.length*4)]) NR NS db (by rw[hP,anp]) rfl rfl (by decide) (by decide) (by simp only[zW]at hR;omega) (by simp only[zW,maxLen]at hR ⊢;omega);refine VL.app cy ?_;have p8:=VH.jD db gK (by simp) (by omega);have nH:=VH.dY O5 tk;have mQ:App (O5.after tk) B 1 (.own O5.N 1):=App.after (by omega);have u6:Kp O5 (O5.after tk) (Tok.id tk).toList:=Kp.k (cc.after db)
    have cT:∀x∈(Tok.id tk).toList,O5.hp x=some .tok/\B<=x:=fun x hx=>by
     have e:Tok.id tk=some x:=by simpa using hx
     cases tk with
     | own s j=>injection e with e;subst e;exact⟨db.2.1,db.2.2.1⟩
     | _=>cases e
    have Gw:Kp O (O5.after tk) (dZ k (r::R) tk):=uA.more u6 (fun x hx=>.inl (Er (by simpa using hx)));have ab7:BC (O5.after tk) B k _ z _:=Lg.step (tl':=[.sl (R.length+1) PT tk,mi (cn+1:Nat),mb false,mb tx]) u6 (fun x hx=>.inr (cT x hx).1) (by rw[jx];exact p8) h.c.zl;generalize O5.after tk=O6 at*;refine ao @aI @p8 ?_;refine VC.gen ?_;intro O7 qX;have vh:O7.hp k=some (.cells [b0,b1,b2,b3,.sl (R.length+1+1) (PT++[.ptr k2 (r.kids.length*4)]) (.own O5.N 1),.v (.int .i64 (cn+1:Nat)),.v (.bool false),.v (.bool tx)]):=by rw[qX];exact τ _ _ _
    have uC:App O7 B 1 (.own O5.N 1):=by rw[qX];exact mQ.yO ic
    have Sy:Kp O O7 (dZ k (r::R) tk):=Gw.more (S:=[k]) (by rw[qX];exact Kp.set) wS;have vg:O7.N=O6.N:=by rw[qX];rfl
    have ab8:BC O7 B k _ z [.sl (R.length+1+1) (PT++[.ptr k2 (r.kids.length*4)]) (.own O5.N 1),.v (.int .i64 (cn+1:Nat)),.v (.bool false),.v (.bool tx)]:=ab7.step (S:=[k]) (by rw[qX];exact Kp.set) (fun x hx=>.inl (by simpa using hx)) (by rw[jx];exact vh) h.c.zl;clear qX;refine ξ @aI @vh ?_;refine ν @aI ?_;refine⟨Sy.more Kp.set wS,⟨k2,r.kids.length*4,nm,gk,[],.sl 0 [] .nil⟩::{r with q:=.bz k2 0 (r.kids.length+1) c2}::R,.own O5.N 1,⟨ab8.step (S:=[k]) Kp.set (fun x hx=>.inl (by simpa using hx)) ?_ h.c.zl,uC.yO ic⟩,rfl,fun x hx=>?_⟩;rotate_left
    ·have hx:x∈k::((k2::r.b::R.map (·.b))++[]++[O5.N]):=hx;simp only[aec,ajw,ajz,agu,or_false,ani]at hx;rcases hx with rfl | (rfl | rfl | ⟨g,hg,rfl⟩) | rfl
     ·exact .inl n9
     ·rcases bN with e | e
      ·exact .inl (n_ e)
      ·exact .inr (by omega)
     ·exact .inl qd
     ·exact .inl (Bv (anf _ hg))
     ·exact .inr (by omega)
    rw[τ,jx, <-hPG];have e:im (⟨k2,r.kids.length*4,nm,gk,[],.sl 0 [] .nil⟩::{r with q:=.bz k2 0 (r.kids.length+1) c2}::R)=im (r::R)++[.ptr k2 (r.kids.length*4)]:=rQ _ _;unfold qc;rw[e];rfl
   ·refine aN.o1 ?_;refine aH @aI @fR @gL ?_;refine cG.UH (i:=9) ?_;refine aH @aI @uB @mG ?_;refine cG.bQ [] ?_;refine WL.gen ?_;intro O5 m4;rw[VH.set_comm (by omega)]at m4;have e_:O5.N=O4.N:=by rw[m4];rfl
    have gd:O5.hp r.b=some (.cells (pre++jm {r with q:=.bz k2 0 (r.kids.length+1) c2}++post)):=by rw[m4];exact τ _ _ _
    have Bw:O5.hp k2=some (.cells (aD r.kids++jm ⟨k2,r.kids.length*4,nm,gk,[],.sl 0 [] .nil⟩++sp)):=by rw[m4];exact Γ (τ _ _ _)
    have u4:Kp O4 O5 [k2,r.b]:=by rw[m4];exact Kp.trans (S:=[k2]) (T:=[r.b]) Kp.set Kp.set
    clear m4
    have Sv:Cu O4 [k2,r.b]:=fun x hx j t n e=>by
     simp only[aec,agu,or_false]at hx;rcases hx with rfl | rfl
     ·rw[uB]at e;cases e
     ·rw[fR]at e;cases e
    have Sw:Row O5 93 4 B k2 c2 (aD r.kids++jm ⟨k2,r.kids.length*4,nm,gk,[],.sl 0 [] .nil⟩):=c7.own u4 Sv Bw (by rw[<-uv, <-EJ];simp[sV];omega)
    have u3:Kp O3 O5 (r.b::(gid r.q).toList):=((Kp.bH lZ).trans u4).sub (fun x hx=>by
     simp only[ajw,aec,agu,or_false]at hx ⊢;rcases hx with hx | hx | hx
     ·exact .inl (.inr hx)
     ·rcases bN with e | e
      ·rw[e];simp[hx]
      ·exact .inr (by omega)
     ·exact .inl (.inl hx))
    have pe:∀x∈r.b::(gid r.q).toList,x=r.b\/gid r.q=some x:=fun x hx=>by
     rcases aec.1 hx with e | e
     ·exact .inl e
     ·exact .inr (by simpa using e)
    have Lg:BC O5 B k _ z (qc (r::R) tk (cn+1) false tx):=h3.c.push (by rw[hC];exact fA) dI (fun e=>(Cw e).2.2) u3 pe gd bN AI Sw
    have db:App O5 B 1 tk:=by
     refine h3.a.OQ u3 fun x hx e=>?_
     rcases pe x hx with e2 | e2
     ·subst e2;rw[fA]at e;cases e
     ·obtain⟨cs,e3⟩:=jb.1.OP e2;rw[e3]at e;cases e
    have uA:Kp O O5 (dZ k (r::R) tk):=Cv.more u3 (fun x hx=>by
     rcases pe x hx with e | e
     ·rw[e];exact .inl qd
     ·exact .inl (n_ e))
    obtain⟨b0,b1,b2,b3,jx⟩:=rR (fp (⟨k2,r.kids.length*4,nm,gk,[],.sl 0 [] .nil⟩::{r with q:=.bz k2 0 (r.kids.length+1) c2}::R) z h.c.zl);have gK:=Lg.cells;unfold qc at gK;rw[jx]at gK;have hP:=lz (r::R);generalize hPG:im (r::R)=PT at*;simp only[aq,bu,aee,aed,zW]at gK hP
    have ab6:(pre++jm {r with q:=.bz k2 0 (r.kids.length+1) c2}++post)[r.off+2]?=some (.bz k2 0 (r.kids.length+1) c2):=by
     rw[aeb,ah0 (by omega), <-dI,ahZ];rfl
    generalize pre++jm {r with q:=.bz k2 0 (r.kids.length+1) c2}++post=C5 at*;have n0:(((r.kids.length+1:Nat):Int) - 1)=(r.kids.length:Int):=by omega
    refine ab @aI ?_;refine WC.bQ (.held [20]) [(0,.rd),(1,.rd),(2,.rd),(3,.rd),(4,.rd),(5,.rd),(6,.rd),(7,.rd),(8,.rd),(9,.rd),(10,.rd),(11,.rd),(12,.rd),(13,.rd),(14,.rd),(15,.rd),(16,.one),(17,.one),(18,.one),(19,.rd),(20,.one)] ?_;refine FI @aI @gK @gd @ab6 @n0 @v_ ?_;have cy:=aT (tk':=.full) (n:=R.length+1) (k:=1) (cs:=PT) (ds:=[.ptr k2 (r.kids.length*4)]) NR NS db (by rw[hP,anp]) rfl rfl (by decide) (by decide) (by simp only[zW]at hR;omega) (by simp only[zW,maxLen]at hR ⊢;omega);refine VL.app cy ?_;have p8:=VH.jD db gK (by simp) (by omega);have nH:=VH.dY O5 tk;have mQ:App (O5.after tk) B 1 (.own O5.N 1):=App.after (by omega);have u6:Kp O5 (O5.after tk) (Tok.id tk).toList:=Kp.k (cc.after db)
    have cT:∀x∈(Tok.id tk).toList,O5.hp x=some .tok/\B<=x:=fun x hx=>by
     have e:Tok.id tk=some x:=by simpa using hx
     cases tk with
     | own s j=>injection e with e;subst e;exact⟨db.2.1,db.2.2.1⟩
     | _=>cases e
    have Gw:Kp O (O5.after tk) (dZ k (r::R) tk):=uA.more u6 (fun x hx=>.inl (Er (by simpa using hx)));have ab7:BC (O5.after tk) B k _ z _:=Lg.step (tl':=[.sl (R.length+1) PT tk,mi (cn+1:Nat),mb false,mb tx]) u6 (fun x hx=>.inr (cT x hx).1) (by rw[jx];exact p8) h.c.zl;generalize O5.after tk=O6 at*;refine ao @aI @p8 ?_;refine VC.gen ?_;intro O7 qX;have vh:O7.hp k=some (.cells [b0,b1,b2,b3,.sl (R.length+1+1) (PT++[.ptr k2 (r.kids.length*4)]) (.own O5.N 1),.v (.int .i64 (cn+1:Nat)),.v (.bool false),.v (.bool tx)]):=by rw[qX];exact τ _ _ _
    have uC:App O7 B 1 (.own O5.N 1):=by rw[qX];exact mQ.yO ic
    have Sy:Kp O O7 (dZ k (r::R) tk):=Gw.more (S:=[k]) (by rw[qX];exact Kp.set) wS;have vg:O7.N=O6.N:=by rw[qX];rfl
    have ab8:BC O7 B k _ z [.sl (R.length+1+1) (PT++[.ptr k2 (r.kids.length*4)]) (.own O5.N 1),.v (.int .i64 (cn+1:Nat)),.v (.bool false),.v (.bool tx)]:=ab7.step (S:=[k]) (by rw[qX];exact Kp.set) (fun x hx=>.inl (by simpa using hx)) (by rw[jx];exact vh) h.c.zl;clear qX;refine ξ @aI @vh ?_;refine ν @aI ?_;refine⟨Sy.more Kp.set wS,⟨k2,r.kids.length*4,nm,gk,[],.sl 0 [] .nil⟩::{r with q:=.bz k2 0 (r.kids.length+1) c2}::R,.own O5.N 1,⟨ab8.step (S:=[k]) Kp.set (fun x hx=>.inl (by simpa using hx)) ?_ h.c.zl,uC.yO ic⟩,rfl,fun x hx=>?_⟩;rotate_left
    ·have hx:x∈k::((k2::r.b::R.map (·.b))++[]++[O5.N]):=hx;simp only[aec,ajw,ajz,agu,or_false,ani]at hx;rcases hx with rfl | (rfl | rfl | ⟨g,hg,rfl⟩) | rfl
     ·exact .inl n9
     ·rcases bN with e | e
      ·exact .inl (n_ e)
      ·exact .inr (by omega)
     ·exact .inl qd
     ·exact .inl (Bv (anf _ hg))
     ·exact .inr (by omega)
    rw[τ,jx, <-hPG];have e:im (⟨k2,r.kids.length*4,nm,gk,[],.sl 0 [] .nil⟩::{r with q:=.bz k2 0 (r.kids.length+1) c2}::R)=im (r::R)++[.ptr k2 (r.kids.length*4)]:=rQ _ _;unfold qc;rw[e];rfl
def Rec.nd (r:Rec):Nd:=.mk r.name r.attrs r.kids []
theorem pN.head {O:VH} {B k:Nat} {p:Rec} {R:List Rec} {K:List Nd} (h:pN O B k (p::R)):pN O B k ({p with kids:=K}::R):=by
 cases R with
 | nil=>exact h
 | cons g R=>exact h
theorem OT {p:Rec} {R:List Rec} {z:List MV} {K:List Nd}:pO ({p with kids:=K}::R) z=pO (p::R) z:=by
 cases R with
 | nil=>rfl
 | cons g R=>rfl
def OU (r:Rec):List Rec->List Rec
 | []=>[]
 | p::R=>{p with kids:=p.kids++[r.nd]}::R
def OV (r:Rec) (z:List MV):List Rec->List MV
 | []=>dL r.nd
 | _::_=>z
theorem BC.pop {O O':VH} {B k:Nat} {r:Rec} {R:List Rec} {z tl pre post:List MV} {S:List Nat} (h:BC O B k (r::R) z tl) (hc:O.hp r.b=some (.cells (pre++jm r++post))) (hl:pre.length=r.off) (hR:R=[]->post=tl) (u:Kp O O' S)
  (hn:∀x∈S,x=r.b\/gid r.q=some x) (pB:O'.hp r.b=some (.cells (pre++dL r.nd++post))):BC O' B k (OU r R) (OV r z R) tl:=by
 have rE:=h.chain;have ei:=rE.lt;have jb:=h.top
 have hS:Cu O S:=fun x hx j t n e=>by
  rcases hn x hx with e2 | e2
  ·subst e2;rw[hc]at e;cases e
  ·obtain⟨cs,e3⟩:=jb.1.OP e2;rw[e3]at e;cases e
 cases R with
 | nil=>
   obtain⟨h1,h2⟩:=rE;have hp:pre=[]:=ahX (by rw[hl,h2]);subst hp;refine⟨h.lt,ahY h.le u.1,?_,mK _,trivial,trivial⟩;rw[<-h1,pB,hR rfl];rfl
 | cons p rest=>
   obtain⟨⟨c,e1,e2,jT⟩,e3,e4,e5⟩:=rE;have akZ:=jT.lo
   have hkS:k ∉ S:=fun hm=>by
    have:=h.lt;rcases hn k hm with e | e
    ·omega
    ·have:=(jb.1.lo e).1;omega
   obtain⟨sp,uz,XQ⟩:=jT.cells;rw[hc]at uz;injection uz with uz;injection uz with uz
   have dI:pre.length=(aD p.kids).length:=by rw[hl,e3,dC]
   rw[aeb,aeb]at uz;obtain⟨lJ,Bg⟩:=ang uz dI;obtain⟨_,pM⟩:=ang Bg rfl;subst lJ;subst pM
   have hlen:(p.kids++[r.nd]).length=p.kids.length+1:=by simp
   refine⟨h.lt,ahY h.le u.1,?_,h.zl,(e5.kp u hS (fun x hx _=>?_) h.lt).head,⟨.inr ⟨r.b,c,?_,?_,?_,?_⟩,fun i e=>?_⟩⟩
   ·show _=some (cf.cells (pO ({p with kids:=p.kids++[r.nd]}::rest) z++tl));rw[OT,u.2 k (Ml h.lt h.le) hkS];exact h.cells
   ·refine .inr fun hm=>?_
    have h6:=ei x hx;rcases hn x.b hm with e | e
    ·omega
    ·have:=jb.2 _ e;omega
   ·show p.q=_;rw[e1,hlen]
   ·rw[hlen];exact e2
   ·show(aD (p.kids++[r.nd])).length=_;rw[dC]
   ·show Row O' _ 4 B r.b c (aD (p.kids++[r.nd]));have e6:aD (p.kids++[r.nd])=aD p.kids++dL r.nd:=by rw[eG,aD,aD,ajz]
    rw[e6];refine jT.own u hS pB ?_;rw[Mm,Mm,sV]at XQ;rw[Mm,Mm,mK];exact XQ
   ·have e:gid p.q=some i:=e;rw[e1]at e;injection e with e;subst e;exact e4
theorem fl.app {a b c d:List MV} (h:fl a b) (k:fl c d):fl (a++c) (b++d):=by
 refine⟨by rw[Mm,Mm,h.1,k.1],fun i x y hx hy=>?_⟩;rw[List.getElem?_append]at hx hy;by_cases e:i<a.length
 ·rw[if_pos e]at hx;rw[if_pos (by rw[<-h.1];exact e)]at hy;exact h.2 i x y hx hy
 ·rw[if_neg e]at hx;rw[if_neg (by rw[<-h.1];exact e)]at hy;rw[<-h.1]at hy;exact k.2 _ x y hx hy
theorem VC.close {O:VH} {B k:Nat} {r:Rec} {R:List Rec} {z tl pre post:List MV} {P:Program} {n:Sz} {D:List Deferred} {c:Code} {e:Env} {Q:VQ} (h:BC O B k (r::R) z tl) (hc:O.hp r.b=some (.cells (pre++jm r++post)))
  (hk:∀O1,Kp O O1 (r.b::(gid r.q).toList)->O1.hp r.b=some (.cells (pre++dL r.nd++post))->VC P n D c e O1 Q):VC P n D c e O Q:=by
 obtain⟨hg,ei⟩:=h.top;have VJ:dL r.nd=[.str r.name,.sl r.attrs.length (r.attrs.flatMap bm) .ar,.sl r.kids.length (aD r.kids) .ar,.str []]:=by rw[Rec.nd,dL]
 rcases hg with⟨h0,h1,hp⟩ | ⟨kq,cq,hp,hn,hl,jT⟩
 ·refine VC.XW (ds:=pre++dL r.nd++post) hc ?_ (hk _ (Kp.sub Kp.set (fun x hx=>.inl (by simp at hx ⊢;exact .inl hx))) (τ _ _ _));refine((fl.refl pre).app ?_).app (fl.refl post);rw[VJ,jm]
  have hw:Wk r.q (.sl r.kids.length (aD r.kids) .ar):=by
   rw[h0,h1];rcases hp with e | e<;>rw[e]<;>exact Wk.tok
  exact(fl.refl [_,_]).app (fl.cons hw (fl.refl _))
 ·obtain⟨sp,h1,h2⟩:=jT.cells;have hne:r.b≠kq:=by have:=ei kq (by rw[hp];rfl);omega
  have e1:pre++jm r++post=(pre++[.str r.name,.sl r.attrs.length (r.attrs.flatMap bm) .ar])++ .bz kq 0 r.kids.length cq::(.str []::post):=by
   rw[jm,hp];simp
  rw[e1]at hc;refine VC.xM h1 hc hne (sz:=(aD r.kids).length) (by rw[Mm];omega) ?_
  have e2:pre++dL r.nd++post=(pre++[.str r.name,.sl r.attrs.length (r.attrs.flatMap bm) .ar])++ .sl r.kids.length (aD r.kids) .ar::(.str []::post):=by
   rw[VJ];simp
  rw[anq,List.take_left, <-e2];refine hk _ ?_ (τ _ _ _);refine⟨ajv _,fun i _ hi=>?_⟩;simp only[hp,gid,aec,Option.toList_some,agu,or_false,not_or]at hi;rw[ρ _ _ hi.1,VH.lg _ hi.2]
theorem aiM (r:Rec) (R:List Rec) (tk:Tok):oZ (bX Tryz.prog) 395 (.sl (R.length+1) (im (r::R)) tk) none (.v (.int .i64 (R.length:Int))) (.v (.int .i64 (R.length:Int)))=some (.sl R.length (im R) .full):=by
 have hl:=lz (r::R);have hc:=rQ r R;have h2:=lz R;rw[hc]at hl ⊢;simp only[oZ,NR,NS,Option.map_some,dw];rw[if_pos ⟨by omega,by omega,ajx _,ajv _⟩,if_pos ⟨by simp,by rw[hl,anp];rfl⟩,if_neg (by omega)];cases R with
 | nil=>rfl
 | cons p R=>
   rw[if_neg (by simp)];simp only[Int.toNat_natCast,Nat.sub_zero,anp,Nat.zero_mul,anq,if_true];rw[List.take_left' h2]
theorem afx {O:VH} {B k cn:Nat} {r:Rec} {R:List Rec} {tk:Tok} {dn tx:Bool} {z:List MV} (h:BS O B k (r::R) tk cn dn tx z) (Yt:R.length<=1000):
  VF Tryz.prog 280 [.ptr k 0] O (aE fun _ O'=>Kp O O' (dZ k (r::R) tk)/\BS O' B k (OU r R) .full cn (R.length==0) false (OV r z R)):=by
 obtain⟨pre,post,hc,dI,Dv,Cw,hR2⟩:=h.c.loc;have jb:=h.c.top;have ic:=h.c.lt;have hBn:=h.c.le;have wS:∀x∈[k],x∈dZ k (r::R) tk\/O.N<=x:=fun x hx=>.inl (by rw[ahW]at hx;rw[hx];exact n9)
 have hSn:∀x∈r.b::(gid r.q).toList,x=r.b\/gid r.q=some x:=fun x hx=>by
  rcases aec.1 hx with e | e
  ·exact .inl e
  ·exact .inr (by simpa using e)
 refine χ 34 [] Tryz.func280 ?_;refine VC.close h.c hc fun O1 u1 fj=>?_
 have hP:=h.c.pop hc dI (fun e=>(Cw e).2.2) u1 hSn fj
 have cz:App O1 B 1 tk:=by
  refine h.a.OQ u1 fun x hx e=>?_
  rcases hSn x hx with e2 | e2
  ·subst e2;rw[hc]at e;cases e
  ·obtain⟨cs,e3⟩:=jb.1.OP e2;rw[e3]at e;cases e
 have jM:Kp O O1 (dZ k (r::R) tk):=(Kp.refl (S:=dZ k (r::R) tk)).more u1 (fun x hx=>.inl (by
  rcases hSn x hx with e | e
  ·rw[e];exact qd
  ·exact n_ e))
 obtain⟨b0,b1,b2,b3,jx⟩:=rR (fp (OU r R) (OV r z R) hP.zl);have cA:=hP.cells;unfold qc at cA;rw[jx]at cA;have SA:=aiM r R tk;have hPl:=lz (r::R);generalize hPG:im (r::R)=PT at*;simp only[aq,bu,List.cons_append,List.nil_append,List.length_cons]at cA hPl;have n0:(((R.length+1:Nat):Int) - 1)=(R.length:Int):=by omega
 refine ω ?_;refine WC.bQ (.held [20]) [(0,.rd),(1,.rd),(2,.rd),(3,.rd),(4,.rd),(5,.rd),(6,.rd),(7,.rd),(8,.rd),(9,.rd),(10,.rd),(11,.rd),(12,.rd),(13,.rd),(14,.rd),(15,.rd),(16,.rd),(17,.rd),(18,.one),(19,.rd),(20,.one)] ?_;refine iw @aI @cA @n0 @v_ @SA ?_;refine VC.gen ?_;intro O2 H4;have bN:O2.hp k=some (.cells [b0,b1,b2,b3,.sl R.length (im R) .full,.v (.int .i64 cn),.v (.bool dn),.v (.bool tx)]):=by rw[H4];exact τ _ _ _
 have Su:Kp O O2 (dZ k (r::R) tk):=jM.more (S:=[k]) (by rw[H4];exact Kp.set) wS;have Cx:BC O2 B k _ _ [.sl R.length (im R) .full,.v (.int .i64 cn),.v (.bool dn),.v (.bool tx)]:=hP.step (S:=[k]) (by rw[H4];exact Kp.set) (fun x hx=>.inl (by simpa using hx)) (by rw[jx];exact bN) hP.zl;clear H4
 have pd:∀b,BS ((O2.set k (.cells [b0,b1,b2,b3,.sl R.length (im R) .full,.v (.int .i64 cn),.v (.bool b),.v (.bool tx)])).set k (.cells [b0,b1,b2,b3,.sl R.length (im R) .full,.v (.int .i64 cn),.v (.bool b),.v (.bool false)])) B k (OU r R) .full cn b false (OV r z R):=fun b=>by
  refine⟨(Cx.step (S:=[k]) (z':=OV r z R) (tl':=[.sl R.length (im R) .full,.v (.int .i64 cn),.v (.bool b),.v (.bool tx)]) Kp.set (fun x hx=>.inl (by simpa using hx)) (by rw[jx,τ];rfl) hP.zl).step (S:=[k]) Kp.set (fun x hx=>.inl (by simpa using hx)) ?_ hP.zl,trivial⟩;rw[jx,τ];cases R with
  | nil=>rfl
  | cons p R=>rfl
 have iB:∀x y,Kp O ((O2.set k x).set k y) (dZ k (r::R) tk):=fun x y=>(Su.more Kp.set wS).more Kp.set wS
 cases R with
 | nil=>
   refine ο @aI @bN ?_;exact⟨iB _ _,pd _⟩
 | cons p R=>
   refine ο @aI @bN ?_;exact⟨iB _ _,pd _⟩
theorem Yu {O:VH} {B k:Nat} {r:Rec} {R:List Rec} {z tl:List MV} {tk:Tok} (h:BC O B k (r::R) z tl):∀x∈dZ k (OU r R) .full,x∈dZ k (r::R) tk:=by
 intro x hx;cases R with
 | nil=>
   have hx:x∈[k]:=hx;rw[ahW]at hx;rw[hx];exact n9
 | cons p R=>
   obtain⟨⟨c,e1,_⟩,_⟩:=h.chain;have hx:x∈k::((p.b::R.map (·.b))++(gid p.q).toList++[]):=hx;rw[e1]at hx;simp only[gid,Option.toList_some,aec,ajw,ajz,agu,or_false,ani]at hx;rcases hx with rfl | (rfl | ⟨g,hg,rfl⟩) | rfl
   ·exact n9
   ·exact Bv (by simp)
   ·exact Bv (by simp[hg])
   ·exact qd
def tK (t:Bs):Nd:=.mk [] [] [] t
theorem UP (t:Bs):dL (tK t)=[.str [],.sl 0 [] .ar,.sl 0 [] .ar,.str t]:=by rw[tK,dL,aD];rfl
theorem OW {O:VH} {B k cn:Nat} {tk:Tok} {dn tx:Bool} {z:List MV} (h:BS O B k [] tk cn dn tx z) (s:Bs) (hs:s.length<=maxLen):
  VF Tryz.prog 278 [.ptr k 0,.str s] O (aE fun m O'=>m=mi (if trimB s=[]then 0 else 16)/\O'=O):=by
 have hk:=h.c.cells;obtain⟨a0,a1,a2,a3,hr⟩:=rR (fp [] z h.c.zl);unfold qc at hk;rw[hr]at hk;simp only[aq,bu,aee,aed,ZA]at hk;refine χ 61 [.tmp 4] Tryz.func278 ?_;refine κ @aI ?_;refine ξ @aI @hk ?_;refine π (KU s _ hs) ?_;rintro _ O2 ⟨rfl,eO⟩;rw[eO];clear eO O2
 cases trimB s with
 | nil=>
   refine ao @aI (show(([]:List UInt8)==[])=true from rfl) ?_;trivial
 | cons c t=>
   refine ao @aI (show((c::t)==[])=false from rfl) ?_;trivial
theorem OZ {O:VH} {B k cn:Nat} {r:Rec} {R:List Rec} {tk:Tok} {dn tx:Bool} {z:List MV} (h:BS O B k (r::R) tk cn dn tx z) (hR:R.length<=1000):
  VF Tryz.prog 278 [.ptr k 0,.str []] O (aE fun m O'=>m=mi 0/\O'=O):=by
 have hk:=h.c.cells;have ic:=h.c.lt;have hBn:=h.c.le;obtain⟨a0,a1,a2,a3,hr⟩:=rR (fp (r::R) z h.c.zl);unfold qc at hk;rw[hr]at hk;simp only[aq,bu,aee,aed,zW]at hk;refine χ 61 [.tmp 4] Tryz.func278 ?_;refine κ @aI ?_;refine ξ @aI @hk ?_;refine κ @aI ?_;refine π (Gu h (by omega)) ?_;rintro _ O2 ⟨rfl,eO⟩;rw[eO];clear eO O2
 refine ab @aI ?_;refine ξ @aI (show(([]:List UInt8)==[])=true from rfl) ?_;refine ν @aI ?_;trivial
theorem O_ {O:VH} {B k cn:Nat} {r:Rec} {R:List Rec} {tk:Tok} {dn:Bool} {z:List MV} (h:BS O B k (r::R) tk cn dn true z) (hR0:R.length<=1000) (s t0:Bs) (K:List Nd) (hs:s.length<=1000000000000) (yd:r.kids=K++[tK t0]) (ht0:t0.length<=1000000000000) (fF:r.kids.length<=1000000) (hne:(s==[])=false):
  VF Tryz.prog 278 [.ptr k 0,.str s] O (aE fun m O'=>m=mi 0/\Kp O O' (dZ k (r::R) tk)/\BS O' B k ({r with kids:=K++[tK (t0++s)]}::R) tk cn dn true z):=by
 have hR:R.length<=1000:=hR0;have hk:=h.c.cells;have ic:=h.c.lt;have hBn:=h.c.le;obtain⟨a0,a1,a2,a3,hr⟩:=rR (fp (r::R) z h.c.zl);unfold qc at hk;rw[hr]at hk;simp only[aq,bu,aee,aed,zW]at hk;refine χ 61 [.tmp 4] Tryz.func278 ?_;refine κ @aI ?_;refine ξ @aI @hk ?_;refine κ @aI ?_;refine π (Gu h (by omega)) ?_;rintro _ O2 ⟨rfl,eO⟩;rw[eO];clear eO O2
 refine ab @aI ?_;obtain⟨pre,post,hc,dI,Dv,Cw,hR2⟩:=h.c.loc;have jb:=h.c.top;refine θ (aH @aI @hne @hk ?_);have hKl:r.kids.length=K.length+1:=by rw[yd];simp
 obtain⟨kq,cq,hq,AI,c7⟩:∃kq cq,r.q= .bz kq 0 (K.length+1) cq/\K.length+1<=cq/\Row O 93 4 B kq cq (aD r.kids):=by
  rcases jb.1 with⟨h0,_⟩ | ⟨k2,c,hp,h1,_,h2⟩
  ·omega
  ·rw[hKl]at hp h1;exact⟨k2,c,hp,h1,h2⟩
 have hrq:r.b<kq:=jb.2 kq (by rw[hq];rfl);obtain⟨sp,uB,uv⟩:=c7.cells;have vi:aD r.kids=aD K++[.str [],.sl 0 [] .ar,.sl 0 [] .ar,.str t0]:=by rw[yd,eG,aD,aD,UP,ajz]
 rw[vi]at uB uv;have vF:=dC K
 have bE:(aD K++([.str [],.sl 0 [] .ar,.sl 0 [] .ar,.str t0]:List MV)++sp)[K.length*4+3]?=some (.str t0):=by
  rw[aeb, <-vF,ah0 (by omega),ahZ];rfl
 have gL:∀m:MV,(aD K++([.str [],.sl 0 [] .ar,.sl 0 [] .ar,.str t0]:List MV)++sp).set (K.length*4+3) m=aD K++[.str [],.sl 0 [] .ar,.sl 0 [] .ar,m]++sp:=fun m=>by
  rw[aeb, <-vF,ame _ _ (by omega),ahZ,aeb];rfl
 generalize EJ:aD K++[.str [],.sl 0 [] .ar,.sl 0 [] .ar,.str t0]++sp=C2 at*
 have OS:(pre++jm r++post)[r.off+2]?=some r.q:=by
  rw[aeb,ah0 (by omega), <-dI,ahZ];rfl
 rw[hq]at OS;generalize hC:pre++jm r++post=C at*;have n0:(((K.length+1:Nat):Int) - 1)=(K.length:Int):=by omega
 refine WC.bQ (.held [17]) [(0,.rd),(1,.rd),(2,.rd),(3,.rd),(4,.rd),(5,.rd),(6,.rd),(7,.rd),(8,.rd),(9,.rd),(10,.rd),(11,.rd),(12,.rd),(13,.rd),(14,.rd),(15,.one),(16,.rd),(17,.one)] ?_;refine XA @aI @hc @OS @n0 @uB @bE @gL @v_ ?_;refine ν @aI ?_;have u:Kp O (O.set kq (.cells (aD K++[.str [],.sl 0 [] .ar,.sl 0 [] .ar,.str (t0++s)]++sp))) [kq]:=Kp.set;have zT:aD (K++[tK (t0++s)])=aD K++[.str [],.sl 0 [] .ar,.sl 0 [] .ar,.str (t0++s)]:=by rw[eG,aD,aD,UP,ajz]
 have hl9:(K++[tK (t0++s)]).length=K.length+1:=by simp
 have hB9:B<=kq:=c7.lo;refine⟨(Kp.refl (S:=dZ k (r::R) tk)).more u (fun x hx=>.inl (by rw[ahW]at hx;rw[hx];exact n_ (by rw[hq];rfl))),h.c.Lf (r':={r with kids:=K++[tK (t0++s)]}) (by rw[hC];exact hc) dI (fun e=>(Cw e).2.2) u rfl rfl (fun x hx=>.inr (by rw[ahW]at hx;rw[hx,hq];rfl)) (by rw[ρ _ _ (by omega)];show _=some (cf.cells (pre++jm r++post));rw[hC];exact hc) (.inr ⟨kq,cq,?_,?_,?_,?_⟩) (fun i e=>jb.2 i e),h.a.OQ u (fun x hx e=>by rw[ahW]at hx;subst hx;rw[uB]at e;cases e)⟩
 ·show r.q=_;rw[hq,hl9]
 ·rw[hl9];exact AI
 ·show(aD (K++[tK (t0++s)])).length=_;rw[dC]
 ·show Row _ _ 4 B kq cq (aD (K++[tK (t0++s)]));rw[zT];refine c7.own u (fun x hx j t n e=>by rw[ahW]at hx;subst hx;rw[uB]at e;cases e) (τ _ _ _) ?_;rw[<-uv, <-EJ];simp
theorem Pb {O:VH} {B k cn:Nat} {r:Rec} {R:List Rec} {tk:Tok} {dn:Bool} {z:List MV} (h:BS O B k (r::R) tk cn dn false z) (hc0:cn<=1000000) (hR0:R.length<=1000) (s:Bs) (hs:s.length<=1000000000000) (fF:r.kids.length<=1000000) (hne:(s==[])=false):
  VF Tryz.prog 278 [.ptr k 0,.str s] O (aE fun m O'=>Kp O O' (dZ k (r::R) tk)/\match decide (4096<cn+1)with
   | true=>m=mi 2
   | false=>m=mi 0/\∃q',BS O' B k ({r with kids:=r.kids++[tK s],q:=q'}::R) tk (cn+1) dn true z/\∀x,gid q'=some x->gid r.q=some x\/O.N<=x):=by
 have hR:R.length<=1000:=hR0;have hk:=h.c.cells;have ic:=h.c.lt;have hBn:=h.c.le;obtain⟨a0,a1,a2,a3,hr⟩:=rR (fp (r::R) z h.c.zl);unfold qc at hk;rw[hr]at hk;simp only[aq,bu,aee,aed,zW]at hk;refine χ 61 [.tmp 4] Tryz.func278 ?_;refine κ @aI ?_;refine ξ @aI @hk ?_;refine κ @aI ?_;refine π (Gu h (by omega)) ?_;rintro _ O2 ⟨rfl,eO⟩;rw[eO];clear eO O2
 refine ab @aI ?_;obtain⟨pre,post,hc,dI,Dv,Cw,hR2⟩:=h.c.loc;have jb:=h.c.top;clear hc Cw hR2 dI Dv jb;clear pre post;refine θ (aH @aI @hne @hk ?_);refine π (ab2 h hc0) ?_;rintro _ O3 ⟨rfl,h3,c_⟩;by_cases F5:cn+1<=4096;rotate_left
 ·rw[decide_eq_true (show 4096<cn+1 by omega),decide_eq_false F5];refine ab @aI ?_;exact(Kp.refl (S:=dZ k (r::R) tk)).more c_ (fun x hx=>.inl (by rw[ahW]at hx;rw[hx];exact n9))
 rw[decide_eq_false (show ¬4096<cn+1 by omega),decide_eq_true F5];dsimp only;have wS:∀x∈[k],x∈dZ k (r::R) tk\/O.N<=x:=fun x hx=>.inl (by rw[ahW]at hx;rw[hx];exact n9)
 have Cv:Kp O O3 (dZ k (r::R) tk):=(Kp.refl (S:=dZ k (r::R) tk)).more c_ wS;have amH:=h3.c.le;refine ab @aI ?_;obtain⟨pre,post,fA,dI,Dv,Cw,hR2⟩:=h3.c.loc;have jb:=h3.c.top
 have OS:(pre++jm r++post)[r.off+2]?=some r.q:=by
  rw[aeb,ah0 (by omega), <-dI,ahZ];rfl
 have gL:∀q',(pre++jm r++post).set (r.off+2) q'=pre++jm {r with q:=q'}++post:=fun q'=>by
  rw[aeb,ame _ _ (by omega), <-dI,ahZ,aeb];rfl
 have hlC:(pre++jm r++post).length=pre.length+4+post.length:=by simp[sV];omega
 generalize hC:pre++jm r++post=C at*;refine VC.Ki [8,9,10,11,12,13] (by kernel_rfl) ?_;refine bP.Cj 0 ?_;refine ab @aI ?_;refine bP.Cj 1 ?_;refine ab @aI ?_;refine bP.Cj 2 ?_;refine ab @aI ?_;refine bP.Cj 3 ?_;refine aH @aI @fA @OS ?_;refine bP.Cj 4 ?_;refine ab @aI ?_;refine bP.Cj 5 ?_;refine ab @aI ?_;have eP:=UO jb.1;refine bP.Cj 6 ?_;refine ao @aI @eP ?_;refine bP.ag5 (i:=7) rfl (by kernel_rfl) (by kernel_rfl) rfl rfl (fun _ _ _ hw hf=>ab3 hw hf) rfl ?_;simp only[ak];refine bP.fin (by kernel_rfl) ?_;refine cG.st (i:=8) rfl (by kernel_rfl) rfl rfl (Sd aa (te:=⟨_,4,80,_⟩) (dx:=.slice 93) (q:=.sl 1 [.str [],.sl 0 [] .nil,.sl 0 [] .nil,.str []] .full) (j:=1) (ds:=[.str [],.sl 0 [] .nil,.sl 0 [] .nil,.str []]) jb.1 rfl rfl (by rw[we];rfl) DU.1.1 (by rw[we];rfl) trivial (by dsimp only;omega) (by simp only[maxLen];omega) (by omega) rfl rfl) ?_;rintro m O4 ⟨ym,lZ,iS,hm⟩
 obtain⟨k2,c2,rfl,bN⟩:∃k2 c2,m= .bz k2 0 (r.kids.length+1) c2/\(gid r.q=some k2\/O3.N<=k2):=by
  rcases hm with⟨k2,c2,h1,h2⟩ | ⟨h1,_⟩
  ·exact⟨k2,c2,h1,h2.imp id And.left⟩
  ·cases h1
 obtain⟨c7,AI⟩:Row O4 93 4 B k2 c2 (aD r.kids++[.str [],.sl 0 [] .nil,.sl 0 [] .nil,.str []])/\r.kids.length+1<=c2:=by
  rcases ym with⟨h1,_⟩ | ⟨k3,c3,h1,h2,_,h4⟩
  ·omega
  ·injection h1 with h1 _ _ h3;subst h1;subst h3;exact⟨h4,h2⟩
 have ab5:r.b<k2:=by
  rcases bN with e | e
  ·exact jb.2 _ e
  ·omega
 have ak0:=lZ.N;have fR:O4.hp r.b=some (.cells C):=(lZ.hp _ Dv (fun e=>by have:=jb.2 _ e;omega)).trans fA;obtain⟨sp,uB,uv⟩:=c7.cells;simp only[ak];have vF:=dC r.kids
 have mG:∀a b c d:MV,((((aD r.kids++([.str [],.sl 0 [] .nil,.sl 0 [] .nil,.str []]:List MV)++sp).set (r.kids.length*4) a).set (r.kids.length*4+1) b).set (r.kids.length*4+1+1) c).set (r.kids.length*4+1+1+1) d=aD r.kids++[a,b,c,d]++sp:=fun a b c d=>by
  rw[<-vF];exact ag6 _ _ _ _ _ _ _ _ _ _
 generalize EJ:aD r.kids++[.str [],.sl 0 [] .nil,.sl 0 [] .nil,.str []]++sp=C2 at*;refine cG.I1 9 ?_;refine ab @aI ?_;refine cG.I1 11 ?_;refine ab @aI ?_;refine cG.I1 12 ?_;refine ab @aI ?_;refine cG.two (i:=10) (j:=13) (by kernel_rfl) ?_ ?_
 ·refine aN.o1 ?_;refine aH @aI @uB @mG ?_;refine cG.UH (i:=13) ?_;refine aH @aI @fR @gL ?_;refine cG.bQ [] ?_;refine WL.gen ?_;intro O5 m4;have e_:O5.N=O4.N:=by rw[m4];rfl
  have gd:O5.hp r.b=some (.cells (pre++jm {r with q:=.bz k2 0 (r.kids.length+1) c2}++post)):=by rw[m4];exact τ _ _ _
  have Bw:O5.hp k2=some (.cells (aD r.kids++[.str [],.sl 0 [] .nil,.sl 0 [] .nil,.str s]++sp)):=by rw[m4];exact Γ (τ _ _ _)
  have u4:Kp O4 O5 [k2,r.b]:=by rw[m4];exact Kp.trans (S:=[k2]) (T:=[r.b]) Kp.set Kp.set
  clear m4
  have Sv:Cu O4 [k2,r.b]:=fun x hx j t n e=>by
   simp only[aec,agu,or_false]at hx;rcases hx with rfl | rfl
   ·rw[uB]at e;cases e
   ·rw[fR]at e;cases e
  have u3:Kp O3 O5 (r.b::(gid r.q).toList):=((Kp.bH lZ).trans u4).sub (fun x hx=>by
   simp only[ajw,aec,agu,or_false]at hx ⊢;rcases hx with hx | hx | hx
   ·exact .inl (.inr hx)
   ·rcases bN with e | e
    ·rw[e];simp[hx]
    ·exact .inr (by omega)
   ·exact .inl (.inl hx))
  have pe:∀x∈r.b::(gid r.q).toList,x=r.b\/gid r.q=some x:=fun x hx=>by
   rcases aec.1 hx with e | e
   ·exact .inl e
   ·exact .inr (by simpa using e)
  obtain⟨gK,_⟩:=h3.c.part (r':={r with q:=.bz k2 0 (r.kids.length+1) c2}) (by rw[hC];exact fA) dI (fun e=>(Cw e).2.2) u3 rfl rfl pe gd;obtain⟨b0,b1,b2,b3,jx⟩:=rR (fp ({r with q:=.bz k2 0 (r.kids.length+1) c2}::R) z h.c.zl);unfold qc at gK;rw[jx]at gK;simp only[aq,bu,aee,aed,zW]at gK;refine ao @aI @gK ?_
  have Pc:k2≠k:=by
   have:=c7.lo;omega
  have uA:Kp O O5 (dZ k (r::R) tk):=Cv.more u3 (fun x hx=>by
   rcases pe x hx with e | e
   ·rw[e];exact .inl qd
   ·exact .inl (n_ e))
  have db:App O5 B 1 tk:=by
   refine h3.a.OQ u3 fun x hx e=>?_
   rcases pe x hx with e2 | e2
   ·subst e2;rw[fA]at e;cases e
   ·obtain⟨cs,e3⟩:=jb.1.OP e2;rw[e3]at e;cases e
  have zT:aD (r.kids++[tK s])=aD r.kids++[.str [],.sl 0 [] .ar,.sl 0 [] .ar,.str s]:=by rw[eG,aD,aD,UP,ajz]
  refine VC.XW (k:=k2) (ds:=aD (r.kids++[tK s])++sp) ((ρ _ _ Pc).trans Bw) (by
   rw[zT];exact((fl.refl _).app (fl.cons (Wk.refl _) (fl.cons Wk.tok (fl.cons Wk.tok (fl.refl _))))).app (fl.refl _)) ?_
  refine ν @aI ?_;have u5:Kp O4 (O5.set k2 (.cells (aD (r.kids++[tK s])++sp))) [k2,r.b]:=(u4.trans Kp.set).sub (fun x hx=>.inl (by simp only[ajw,aec,agu,or_false]at hx ⊢;exact hx.elim id .inl))
  have u6:Kp O3 (O5.set k2 (.cells (aD (r.kids++[tK s])++sp))) (r.b::(gid r.q).toList):=(u3.trans Kp.set).sub (fun x hx=>by
   simp only[ajw,aec,agu,or_false]at hx ⊢;rcases hx with hx | hx
   ·exact .inl hx
   ·rcases bN with e | e
    ·rw[e];simp[hx]
    ·exact .inr (by omega))
  have Lg:BC _ B k ({r with kids:=r.kids++[tK s],q:=.bz k2 0 (r.kids.length+1) c2}::R) z _:=h3.c.Lf (r':={r with kids:=r.kids++[tK s],q:=.bz k2 0 (r.kids.length+1) c2}) (by rw[hC];exact fA) dI (fun e=>(Cw e).2.2) u6 rfl rfl pe (Γ gd) (.inr ⟨k2,c2,by show _=_;simp,by simp;exact AI,by show(aD (r.kids++[tK s])).length=_;rw[dC],by
   show Row _ _ 4 B k2 c2 (aD (r.kids++[tK s]));refine c7.own u5 Sv (τ _ _ _) ?_;rw[<-uv, <-EJ,zT];simp⟩) (fun i e=>by injection e with e;subst e;exact ab5)
  have e9:∀x,(O5.set k x).set k2 (.cells (aD (r.kids++[tK s])++sp))=(O5.set k2 (.cells (aD (r.kids++[tK s])++sp))).set k x:=fun x=>VH.set_comm (fun e=>Pc e.symm)
  have Cx:=c7.lo;rw[e9]
  refine⟨(uA.more (S:=[k2]) Kp.set (fun x hx=>by
   rw[ahW]at hx;rw[hx];rcases bN with e | e
   ·exact .inl (n_ e)
   ·exact .inr (by have:=c_.1;omega))).more Kp.set wS,_,⟨Lg.step (S:=[k]) Kp.set (fun x hx=>.inl (by simpa using hx)) ?_ h3.c.zl,(db.OQ (S:=[k2]) Kp.set (fun x hx e=>by rw[ahW]at hx;subst hx;rw[Bw]at e;cases e)).yO ic⟩,fun x e=>by
   injection e with e;subst e
   exact bN.imp id (fun e=>by have:=c_.1;omega)⟩
  rw[τ]
  have e8:pO ({r with kids:=r.kids++[tK s],q:=.bz k2 0 (r.kids.length+1) c2}::R) z=[b0,b1,b2,b3]:=by
   rw[<-jx];cases R with
   | nil=>rfl
   | cons g R=>rfl
  rw[e8];rfl
 ·refine aN.o1 ?_;refine aH @aI @fR @gL ?_;refine cG.UH (i:=10) ?_;refine aH @aI @uB @mG ?_;refine cG.bQ [] ?_;refine WL.gen ?_;intro O5 m4;rw[VH.set_comm (by omega)]at m4;have e_:O5.N=O4.N:=by rw[m4];rfl
  have gd:O5.hp r.b=some (.cells (pre++jm {r with q:=.bz k2 0 (r.kids.length+1) c2}++post)):=by rw[m4];exact τ _ _ _
  have Bw:O5.hp k2=some (.cells (aD r.kids++[.str [],.sl 0 [] .nil,.sl 0 [] .nil,.str s]++sp)):=by rw[m4];exact Γ (τ _ _ _)
  have u4:Kp O4 O5 [k2,r.b]:=by rw[m4];exact Kp.trans (S:=[k2]) (T:=[r.b]) Kp.set Kp.set
  clear m4
  have Sv:Cu O4 [k2,r.b]:=fun x hx j t n e=>by
   simp only[aec,agu,or_false]at hx;rcases hx with rfl | rfl
   ·rw[uB]at e;cases e
   ·rw[fR]at e;cases e
  have u3:Kp O3 O5 (r.b::(gid r.q).toList):=((Kp.bH lZ).trans u4).sub (fun x hx=>by
   simp only[ajw,aec,agu,or_false]at hx ⊢;rcases hx with hx | hx | hx
   ·exact .inl (.inr hx)
   ·rcases bN with e | e
    ·rw[e];simp[hx]
    ·exact .inr (by omega)
   ·exact .inl (.inl hx))
  have pe:∀x∈r.b::(gid r.q).toList,x=r.b\/gid r.q=some x:=fun x hx=>by
   rcases aec.1 hx with e | e
   ·exact .inl e
   ·exact .inr (by simpa using e)
  obtain⟨gK,_⟩:=h3.c.part (r':={r with q:=.bz k2 0 (r.kids.length+1) c2}) (by rw[hC];exact fA) dI (fun e=>(Cw e).2.2) u3 rfl rfl pe gd;obtain⟨b0,b1,b2,b3,jx⟩:=rR (fp ({r with q:=.bz k2 0 (r.kids.length+1) c2}::R) z h.c.zl);unfold qc at gK;rw[jx]at gK;simp only[aq,bu,aee,aed,zW]at gK;refine ao @aI @gK ?_
  have Pc:k2≠k:=by
   have:=c7.lo;omega
  have uA:Kp O O5 (dZ k (r::R) tk):=Cv.more u3 (fun x hx=>by
   rcases pe x hx with e | e
   ·rw[e];exact .inl qd
   ·exact .inl (n_ e))
  have db:App O5 B 1 tk:=by
   refine h3.a.OQ u3 fun x hx e=>?_
   rcases pe x hx with e2 | e2
   ·subst e2;rw[fA]at e;cases e
   ·obtain⟨cs,e3⟩:=jb.1.OP e2;rw[e3]at e;cases e
  have zT:aD (r.kids++[tK s])=aD r.kids++[.str [],.sl 0 [] .ar,.sl 0 [] .ar,.str s]:=by rw[eG,aD,aD,UP,ajz]
  refine VC.XW (k:=k2) (ds:=aD (r.kids++[tK s])++sp) ((ρ _ _ Pc).trans Bw) (by
   rw[zT];exact((fl.refl _).app (fl.cons (Wk.refl _) (fl.cons Wk.tok (fl.cons Wk.tok (fl.refl _))))).app (fl.refl _)) ?_
  refine ν @aI ?_;have u5:Kp O4 (O5.set k2 (.cells (aD (r.kids++[tK s])++sp))) [k2,r.b]:=(u4.trans Kp.set).sub (fun x hx=>.inl (by simp only[ajw,aec,agu,or_false]at hx ⊢;exact hx.elim id .inl))
  have u6:Kp O3 (O5.set k2 (.cells (aD (r.kids++[tK s])++sp))) (r.b::(gid r.q).toList):=(u3.trans Kp.set).sub (fun x hx=>by
   simp only[ajw,aec,agu,or_false]at hx ⊢;rcases hx with hx | hx
   ·exact .inl hx
   ·rcases bN with e | e
    ·rw[e];simp[hx]
    ·exact .inr (by omega))
  have Lg:BC _ B k ({r with kids:=r.kids++[tK s],q:=.bz k2 0 (r.kids.length+1) c2}::R) z _:=h3.c.Lf (r':={r with kids:=r.kids++[tK s],q:=.bz k2 0 (r.kids.length+1) c2}) (by rw[hC];exact fA) dI (fun e=>(Cw e).2.2) u6 rfl rfl pe (Γ gd) (.inr ⟨k2,c2,by show _=_;simp,by simp;exact AI,by show(aD (r.kids++[tK s])).length=_;rw[dC],by
   show Row _ _ 4 B k2 c2 (aD (r.kids++[tK s]));refine c7.own u5 Sv (τ _ _ _) ?_;rw[<-uv, <-EJ,zT];simp⟩) (fun i e=>by injection e with e;subst e;exact ab5)
  have e9:∀x,(O5.set k x).set k2 (.cells (aD (r.kids++[tK s])++sp))=(O5.set k2 (.cells (aD (r.kids++[tK s])++sp))).set k x:=fun x=>VH.set_comm (fun e=>Pc e.symm)
  have Cx:=c7.lo;rw[e9]
  refine⟨(uA.more (S:=[k2]) Kp.set (fun x hx=>by
   rw[ahW]at hx;rw[hx];rcases bN with e | e
   ·exact .inl (n_ e)
   ·exact .inr (by have:=c_.1;omega))).more Kp.set wS,_,⟨Lg.step (S:=[k]) Kp.set (fun x hx=>.inl (by simpa using hx)) ?_ h3.c.zl,(db.OQ (S:=[k2]) Kp.set (fun x hx e=>by rw[ahW]at hx;subst hx;rw[Bw]at e;cases e)).yO ic⟩,fun x e=>by
   injection e with e;subst e
   exact bN.imp id (fun e=>by have:=c_.1;omega)⟩
  rw[τ]
  have e8:pO ({r with kids:=r.kids++[tK s],q:=.bz k2 0 (r.kids.length+1) c2}::R) z=[b0,b1,b2,b3]:=by
   rw[<-jx];cases R with
   | nil=>rfl
   | cons g R=>rfl
  rw[e8];rfl
structure PS where
 st:List (Bs×List (Bs×Bs)×List Nd)
 cn:Nat
 dn:Bool
 tx:Bool
 z:Nd
def oa (s:Bs) (p:PS):Except Int PS:=
 match p.st with
 | []=>if trimB s=[]then .ok p else .error 16
 | (n,a,K)::R=>
   if s=[]then .ok p
   else if p.tx then match K.getLast? with
    | some (.mk _ _ _ t)=>.ok {p with st:=(n,a,K.dropLast++[tK (t++s)])::R}
    | none=>.ok p
   else if 4096<p.cn+1 then .error 2
   else .ok {p with st:=(n,a,K++[tK s])::R,cn:=p.cn+1,tx:=true}
def sW (nm:Bs) (gk:List (Bs×Bs)) (p:PS):Except Int PS:=
 if p.dn then .error 16 else if 64<=p.st.length then .error 2 else if 4096<p.cn+1 then .error 2
 else .ok {p with st:=(nm,gk,[])::p.st,cn:=p.cn+1,tx:=false}
def uD (p:PS):PS:=
 match p.st with
 | []=>p
 | [(n,a,K)]=>{p with st:=[],dn:=true,tx:=false,z:=.mk n a K []}
 | (n,a,K)::(n2,a2,K2)::R=>{p with st:=(n2,a2,K2++[.mk n a K []])::R,dn:=false,tx:=false}
def kN (x:Tk) (p:PS):Except Int PS:=
 if x.kind=4 then oa x.text p
 else if x.kind=1 then sW x.name x.attrs p
 else if x.kind=2 then(match sW x.name x.attrs p with
  | .error e=>.error e
  | .ok q=>.ok (uD q))
 else if x.kind=3 then(match p.st with
  | []=>.error 16
  | f::_=>if f.1=x.name then .ok (uD p)else .error 14)
 else .ok p
def jN:List Tk->PS->Except (Int×Nat) PS
 | [],p=>.ok p
 | x::l,p=>match kN x p with
   | .error e=>.error (e,x.off)
   | .ok q=>jN l q
def p0:PS:=⟨[],0,false,false,R5⟩
def iK (t:Bs):Except (Int×Nat) Nd:=
 match va t with
 | .error e=>.error e
 | .ok l=>match jN l p0 with
   | .error e=>.error e
   | .ok p=>if p.st≠[]then .error (13,t.length)else if p.dn then .ok p.z else .error (16,t.length)
def Gx:List (Bs×List (Bs×Bs)×List Nd)->Nat
 | []=>0
 | f::R=>1+f.1.length+jH f.2.1+kB f.2.2+Gx R
def H5 (p:PS):Nat:=Gx p.st+if p.dn then k6 p.z else 0
structure lA (p:PS) (L:Nat):Prop where
 cn:p.cn<=4096
 len:p.st.length<=64
 NV:p.tx=true->∃n a K t R,p.st=(n,a,K++[tK t])::R
 wt:H5 p<=L+p.cn
theorem xR (K M:List Nd):kB (K++M)=kB K+kB M:=by
 induction K with
 | nil=>rw[aed,kB,ajy]
 | cons x K ih=>rw[aee,kB,kB,ih];omega
theorem UQ (t:Bs):k6 (tK t)=1+t.length:=by rw[tK,Be,jH,kB];simp
theorem lA.more {p:PS} {L L':Nat} (h:lA p L) (hl:L<=L'):lA p L':=⟨h.cn,h.len,h.NV,by have:=h.wt;omega⟩
theorem Yv {s:Bs} {p q:PS} {L:Nat} (h:lA p L) (e:oa s p= .ok q):lA q (L+s.length):=by
 unfold oa at e;obtain⟨st,cn,dn,tx,z⟩:=p;obtain⟨h2,h3,h4,h5⟩:=h;dsimp only at e h2 h3 h4 h5;cases st with
 | nil=>
   dsimp only at e;split at e
   ·injection e with e;subst e;exact lA.more ⟨h2,h3,h4,h5⟩ (Nat.le_add_right _ _)
   ·cases e
 | cons f R=>
   obtain⟨n,a,K⟩:=f;dsimp only at e;split at e
   ·injection e with e;subst e;exact lA.more ⟨h2,h3,h4,h5⟩ (Nat.le_add_right _ _)
   split at e
   ·rename_i ht;obtain⟨n',a',K',t,R',he⟩:=h4 ht;injection he with he1 he2;injection he1 with e1 e2;injection e2 with e2 e3
    subst e1;subst e2;subst e3;subst he2
    rw[List.getLast?_concat,List.dropLast_concat]at e;dsimp only[tK]at e;injection e with e;subst e
    refine⟨h2,h3,fun _=>⟨_,_,_,_,_,rfl⟩,?_⟩
    ·simp only[H5,Gx,xR,kB,UQ]at h5 ⊢;have e6:k6 (Nd.mk [] [] [] (t++s))=1+(t++s).length:=UQ _;rw[e6,Mm];omega
   split at e
   ·cases e
   ·injection e with e;subst e
    refine⟨by dsimp only;omega,h3,fun _=>⟨_,_,_,_,_,rfl⟩,?_⟩
    ·simp only[H5,Gx,xR,kB,UQ]at h5 ⊢;omega
theorem Gy {nm:Bs} {gk:List (Bs×Bs)} {p q:PS} {L:Nat} (h:lA p L) (e:sW nm gk p= .ok q):lA q (L+nm.length+jH gk)/\q.st=(nm,gk,[])::p.st:=by
 unfold sW at e;split at e
 ·cases e
 split at e
 ·cases e
 split at e
 ·cases e
 ·injection e with e;subst e
  rename_i hd FV hc;refine⟨⟨by dsimp only;omega,by simp only[zW];omega,(fun e=>by cases e),?_⟩,rfl⟩
  ·have h5:=h.wt;simp only[H5,Gx,kB,hd]at h5 ⊢;omega
theorem Pd {p:PS} {L:Nat} (h:lA p L):lA (uD p) L:=by
 unfold uD;split
 ·exact h
 ·rename_i n a K hs;obtain⟨h2,h3,h4,h5⟩:=h;refine⟨h2,ajx _,(fun e=>by cases e),?_⟩;simp only[H5,Gx,hs,Be]at h5 ⊢;simp;omega
 ·rename_i n a K n2 a2 K2 R hs;obtain⟨h2,h3,h4,h5⟩:=h;refine⟨h2,by rw[hs]at h3;simp only[zW]at h3 ⊢;omega,(fun e=>by cases e),?_⟩;simp only[H5,Gx,hs,xR,kB,Be]at h5 ⊢;simp;omega
def Bx (x:Tk):Nat:=x.name.length+jH x.attrs+x.text.length
theorem Jr {x:Tk} {p q:PS} {L:Nat} (h:lA p L) (e:kN x p= .ok q):lA q (L+Bx x):=by
 unfold kN at e;unfold Bx;split at e
 ·exact(Yv h e).more (by omega)
 split at e
 ·exact(Gy h e).1.more (by omega)
 split at e
 ·split at e
  ·cases e
  ·rename_i q' hq;injection e with e;subst e
   exact(Pd (Gy h hq).1).more (by omega)
 split at e
 ·split at e
  ·cases e
  ·split at e
   ·injection e with e;subst e;exact(Pd h).more (by omega)
   ·cases e
 ·injection e with e;subst e;exact h.more (by omega)
theorem Pe {n:Bs} {a:List (Bs×Bs)} {K:List Nd} {R:List (Bs×List (Bs×Bs)×List Nd)} {p:PS} {L:Nat} (h:lA p L) (hm:(n,a,K)∈p.st):K.length<=L+4096:=by
 have h5:=h.wt;have h2:=h.cn;have hk:=Cg K;unfold H5 at h5
 have:∀st:List (Bs×List (Bs×Bs)×List Nd),(n,a,K)∈st->kB K<=Gx st:=by
  intro st;induction st with
  | nil=>intro h;cases h
  | cons f R ih=>
    intro h;rw[Gx];rcases aec.1 h with rfl | h
    ·dsimp only;omega
    ·have:=ih h;omega
 have:=this _ hm;omega
theorem xS {nm:Bs} {gk:List (Bs×Bs)} {p:PS} {e:Int} (h:sW nm gk p= .error e):e=16\/e=2:=by
 unfold sW at h;split at h
 ·injection h with h;exact .inl h.symm
 split at h
 ·injection h with h;exact .inr h.symm
 split at h
 ·injection h with h;exact .inr h.symm
 ·cases h
theorem SB {s:Bs} {p:PS} {e:Int} (h:oa s p= .error e):e=16\/e=2:=by
 unfold oa at h;split at h
 ·split at h
  ·cases h
  ·injection h with h;exact .inl h.symm
 ·split at h
  ·cases h
  split at h
  ·split at h<;>cases h
  split at h
  ·injection h with h;exact .inr h.symm
  ·cases h
theorem SC {x:Tk} {p:PS} {e:Int} (h:kN x p= .error e):e=16\/e=2\/e=14:=by
 unfold kN at h;split at h
 ·exact(SB h).imp id .inl
 split at h
 ·exact(xS h).imp id .inl
 split at h
 ·split at h
  ·rename_i h2;injection h with h;subst h
   exact(xS h2).imp id .inl
  ·cases h
 split at h
 ·split at h
  ·injection h with h;exact .inl h.symm
  ·split at h
   ·cases h
   ·injection h with h;exact .inr (.inr h.symm)
 ·cases h
def BP (O:VH) (B k:Nat) (U:List Nat) (p:PS):Prop:=∃R tk,BS O B k R tk p.cn p.dn p.tx (dL p.z)/\sf R=p.st/\∀x∈dZ k R tk,x∈U
theorem BP.ge {O O':VH} {B k:Nat} {U:List Nat} {p:PS} (h:BP O B k U p) (g:O.Ge O'):BP O' B k U p:=by
 obtain⟨R,tk,h1,h2,h3⟩:=h;exact⟨R,tk,h1.ge g,h2,h3⟩
def Sp (O O':VH) (B k:Nat) (U:List Nat) (q:PS):Prop:=∃U',(∀x∈U',x∈U\/O.N<=x)/\BP O' B k U' q
theorem Kp.UR {O O':VH} {S U:List Nat} (h:Kp O O' S) (hs:∀x∈S,x∈U):Kp O O' U:=h.sub fun x hx=>.inl (hs x hx)
theorem Sp.refl {O:VH} {B k:Nat} {U:List Nat} {q:PS} (h:BP O B k U q):Sp O O B k U q:=⟨U,fun _ h=>.inl h,h⟩
theorem Sp.trans {O O1 O2:VH} {B k:Nat} {U U1:List Nat} {q:PS} (hl:O.N<=O1.N) (h1:∀x∈U1,x∈U\/O.N<=x) (h:Sp O1 O2 B k U1 q):Sp O O2 B k U q:=by
 obtain⟨U2,h2,h3⟩:=h;exact⟨U2,fun x hx=>(h2 x hx).elim (h1 x) fun e=>.inr (by omega),h3⟩
theorem ab9 {O:VH} {B k:Nat} {U:List Nat} {p:PS} {L:Nat} (h:BP O B k U p) (hp:lA p L) (hL:L<=100000) (s:Bs) (hs:s.length<=1000000):
  VF Tryz.prog 278 [.ptr k 0,.str s] O (aE fun m O'=>Kp O O' U/\match oa s p with
   | .error e=>m=mi e
   | .ok q=>m=mi 0/\Sp O O' B k U q):=by
 obtain⟨R,tk,hb,hR,hU⟩:=h;obtain⟨st,cn,dn,tx,z⟩:=p;dsimp only at hb hR;subst hR;have hlen:=hp.len;dsimp only[sf]at hlen;rw[anh]at hlen;have ak1:cn<=4096:=hp.cn;cases R with
 | nil=>
   refine VF.mono ?_ (OW hb s (by simp only[maxLen];omega));rintro(m | m) O' hr
   ·obtain⟨rfl,rfl⟩:=hr;refine⟨Kp.refl,?_⟩;have e5:oa s ⟨sf [],cn,dn,tx,z⟩=if trimB s=[]then .ok ⟨[],cn,dn,tx,z⟩else .error 16:=rfl
    rw[e5];by_cases h2:trimB s=[]
    ·rw[if_pos h2,if_pos h2];exact⟨rfl,Sp.refl ⟨[],tk,hb,rfl,hU⟩⟩
    ·rw[if_neg h2,if_neg h2]
   ·exact hr.elim
 | cons r R=>
   simp only[zW]at hlen
   have fF:r.kids.length<=1000000:=by
    have:=Pe (R:=[]) hp (List.mem_cons_self (a:=(r.name,r.attrs,r.kids)) (l:=sf R));omega
   by_cases Wp:s=[]
   ·subst Wp;refine VF.mono ?_ (OZ hb (by omega));rintro(m | m) O' hr
    ·obtain⟨rfl,rfl⟩:=hr;exact⟨Kp.refl,rfl,Sp.refl ⟨r::R,tk,hb,rfl,hU⟩⟩
    ·exact hr.elim
   have hne:(s==[])=false:=by cases s<;>simp at Wp ⊢
   cases tx with
   | true=>
     obtain⟨n,a,K,t,R',he⟩:=hp.NV rfl;have he:(r.name,r.attrs,r.kids)::sf R=(n,a,K++[tK t])::R':=he;injection he with he1 he2;injection he1 with e1 e2;injection e2 with e2 e3
     have ht:t.length<=1000000:=by
      have h5:=hp.wt;have e4:sf (r::R)=(r.name,r.attrs,r.kids)::sf R:=rfl;simp only[H5,e4,Gx,e3,xR,kB,UQ]at h5;omega
     refine VF.mono ?_ (O_ hb (by omega) s t K (by omega) e3 (by omega) fF hne);rintro(m | m) O' hr
     ·obtain⟨rfl,h1,h2⟩:=hr;refine⟨h1.UR hU,?_⟩
      have e5:oa s ⟨sf (r::R),cn,dn,true,z⟩= .ok ⟨(r.name,r.attrs,K++[tK (t++s)])::sf R,cn,dn,true,z⟩:=by
       unfold oa;show(if s=[]then _ else _)=_;rw[if_neg Wp,if_pos rfl,e3,List.getLast?_concat,List.dropLast_concat];rfl
      rw[e5];exact⟨rfl,U,fun _ h=>.inl h,_,tk,h2,rfl,hU⟩
     ·exact hr.elim
   | false=>
     refine VF.mono ?_ (Pb hb (by omega) (by omega) s (by omega) fF hne);rintro(m | m) O' hr
     ·obtain⟨h1,hr⟩:=hr;refine⟨h1.UR hU,?_⟩
      have e5:oa s ⟨sf (r::R),cn,dn,false,z⟩=if 4096<cn+1 then .error 2 else .ok ⟨(r.name,r.attrs,r.kids++[tK s])::sf R,cn+1,dn,true,z⟩:=by
       unfold oa;show(if s=[]then _ else _)=_;rw[if_neg Wp,if_neg (by simp)];rfl
      rw[e5];by_cases hc:4096<cn+1
      ·rw[decide_eq_true hc]at hr;rw[if_pos hc];exact hr
      ·rw[decide_eq_false hc]at hr;rw[if_neg hc];obtain⟨rfl,q',h2,h3⟩:=hr;refine⟨rfl,dZ k ({r with kids:=r.kids++[tK s],q:=q'}::R) tk,fun x hx=>?_,_,tk,h2,rfl,fun _ h=>h⟩;have hx:x∈k::((r.b::R.map (·.b))++(gid q').toList++(Tok.id tk).toList):=hx;simp only[aec,ajw]at hx;rcases hx with rfl | ((rfl | hx) | hx) | hx
       ·exact .inl (hU _ n9)
       ·exact .inl (hU _ qd)
       ·obtain⟨g,hg,rfl⟩:=ani.1 hx;exact .inl (hU _ (Bv (anf _ hg)))
       ·rcases h3 x (by simpa using hx)with e | e
        ·exact .inl (hU _ (n_ e))
        ·exact .inr e
       ·exact .inl (hU _ (Er (by simpa using hx)))
     ·exact hr.elim
theorem US {O:VH} {B k:Nat} {U:List Nat} {p:PS} {L:Nat} (h:BP O B k U p) (hp:lA p L) (hL:L<=100000) (kd:Int) (nm tt:Bs) (gk:List (Bs×Bs)) (p1 p2 p3:Int) (Jq:gk.length<=100000):
  VF Tryz.prog 279 [.ptr k 0,.agg [mi kd,.str nm,.sl gk.length (gk.flatMap bm) .ar,.str tt,mi p1,mi p2,mi p3]] O (aE fun m O'=>Kp O O' U/\match sW nm gk p with
   | .error e=>m=mi e
   | .ok q=>m=mi 0/\Sp O O' B k U q):=by
 obtain⟨R,tk,hb,hR,hU⟩:=h;obtain⟨st,cn,dn,tx,z⟩:=p;dsimp only at hb hR;subst hR;have ak1:cn<=4096:=hp.cn
 have fF:∀r∈R,r.kids.length<=1000000:=fun r hr=>by
  have:=Pe hp (show(r.name,r.attrs,r.kids)∈sf R from ani.2 ⟨r,hr,rfl⟩) (R:=[]);omega
 refine VF.mono ?_ (ab4 hb (by omega) kd nm tt gk p1 p2 p3 Jq fF);have hl:(sf R).length=R.length:=by unfold sf;rw[anh]
 rintro(m | m) O' hr
 ·obtain⟨h1,hr⟩:=hr;refine⟨h1.UR hU,?_⟩;unfold sW;unfold rS at hr;dsimp only;rw[hl];cases dn
  ·rw[if_neg (by simp)]at hr ⊢;by_cases FV:64<=R.length
   ·rw[if_pos FV]at hr ⊢;exact hr
   ·rw[if_neg FV]at hr ⊢;by_cases hc:4096<cn+1
    ·rw[if_pos hc]at hr ⊢;exact hr
    ·rw[if_neg hc]at hr ⊢;obtain⟨rfl,R',tk',h2,h3,h4⟩:=hr;exact⟨rfl,dZ k R' tk',fun x hx=>(h4 x hx).imp (hU x) id,R',tk',h2,h3,fun _ h=>h⟩
  ·rw[if_pos rfl]at hr ⊢;exact hr
 ·exact hr.elim
theorem UT {O:VH} {B k:Nat} {U:List Nat} {p:PS} {L:Nat} (h:BP O B k U p) (hp:lA p L) (hne:p.st≠[]):
  VF Tryz.prog 280 [.ptr k 0] O (aE fun _ O'=>Kp O O' U/\BP O' B k U (uD p)):=by
 obtain⟨R,tk,hb,hR,hU⟩:=h;obtain⟨st,cn,dn,tx,z⟩:=p;dsimp only at hb hR hne;subst hR;have hlen:=hp.len;dsimp only[sf]at hlen;rw[anh]at hlen;cases R with
 | nil=>exact absurd rfl hne
 | cons r R=>
   refine VF.mono ?_ (afx hb (by simp only[zW]at hlen;omega));rintro(m | m) O' hr
   ·obtain⟨h1,h2⟩:=hr;refine⟨h1.UR hU,?_⟩;have Js:=Yu (tk:=tk) hb.c;cases R with
    | nil=>exact⟨[],_,h2,rfl,fun x hx=>hU x (Js x hx)⟩
    | cons g R=>exact⟨_,_,h2,rfl,fun x hx=>hU x (Js x hx)⟩
   ·exact hr.elim
theorem Yw {O:VH} {B k:Nat} {U:List Nat} {p:PS} {L:Nat} (h:BP O B k U p) (hp:lA p L) (hU:∀x∈U,x<O.N) (t:Bs) (x:Tk) (hL:L+Bx x<=100000) (vF:1<=x.kind/\x.kind<=6):
  VF Tryz.prog 260 [.ptr k 0,.agg (vk t x)] O (aE fun m O'=>Kp O O' U/\match kN x p with
   | .error e=>m=mi e
   | .ok q=>m=mi 0/\Sp O O' B k U q):=by
 have Jq:x.attrs.length<=100000:=by
  have:∀a:List (Bs×Bs),a.length<=jH a:=by
   intro a;induction a with
   | nil=>exact ajx _
   | cons y a ih=>rw[jH,zW];omega
  have:=this x.attrs;unfold Bx at hL;omega
 have v8:x.text.length<=100000:=by unfold Bx at hL;omega
 have hLL:L<=100000:=by omega
 have hS:kN x p=if x.kind=4 then oa x.text p else if x.kind=1 then sW x.name x.attrs p else if x.kind=2 then(match sW x.name x.attrs p with
  | .error e=>.error e
  | .ok q=>.ok (uD q))else if x.kind=3 then(match p.st with
  | []=>.error 16
  | f::_=>if f.1=x.name then .ok (uD p)else .error 14)else .ok p:=rfl
 rw[hS];clear hS;have hW:x.name.length+jH x.attrs<=Bx x:=by unfold Bx;omega
 generalize Bx x=W at*;unfold vk;obtain⟨kd,nm,gk,tt,off⟩:=x;dsimp only at Jq v8 vF hW ⊢;generalize ((mZ t off:Nat):Int)=p2 at*;generalize Gp t off=p3 at*;generalize ((off:Nat):Int)=p1 at*;simp only[aq];refine χ 50 [.tmp 4] Tryz.func260 ?_;refine κ @aI ?_;refine VC.bx ?_;rintro O1 ⟨aJ,D7,cW⟩;have h1:=h.ge aJ;have jM:Kp O O1 U:=Kp.ge aJ;have By:∀x∈U,x∈U\/O.N<=x:=fun _ h=>.inl h
 have hnU:O.N ∉ U:=fun hm=>by have:=hU _ hm;omega
 rcases(show kd=4\/kd=1\/kd=2\/kd=3\/kd=5\/kd=6 by omega)with rfl | rfl | rfl | rfl | rfl | rfl
 all_goals simp only[Int.reduceEq,if_true,if_false,reduceIte]
 ·refine ξ @aI @D7 ?_;refine π (ab9 h1 hp hLL tt (by omega)) ?_;rintro m O2 ⟨hl,hm⟩;generalize oa tt p=F at hm ⊢;cases F with
  | error e=>
    dsimp only at hm;subst hm
    refine ab @aI ?_;exact jM.more hl By
  | ok q=>
    obtain⟨rfl,hq⟩:=hm;refine ab @aI ?_;exact⟨jM.more hl By,hq.trans aJ.N By⟩
 ·refine ξ @aI @D7 ?_;refine π (US h1 hp hLL 1 nm tt gk p1 p2 p3 Jq) ?_;rintro m O2 ⟨hl,hm⟩;have sh:=(hl.2 O.N (by omega) hnU).trans D7;cases hF:sW nm gk p with
  | error e=>
    rw[hF]at hm;dsimp only at hm;subst hm
    rcases xS hF with rfl | rfl
    ·refine aH @aI @sh @aq ?_;exact jM.more hl By
    ·refine aH @aI @sh @aq ?_;exact jM.more hl By
  | ok q=>
    rw[hF]at hm;obtain⟨rfl,hq⟩:=hm;refine ao @aI @sh ?_;exact⟨jM.more hl By,hq.trans aJ.N By⟩
 ·refine ξ @aI @D7 ?_;refine π (US h1 hp hLL 2 nm tt gk p1 p2 p3 Jq) ?_;rintro m O2 ⟨hl,hm⟩;have sh:=(hl.2 O.N (by omega) hnU).trans D7;cases hF:sW nm gk p with
  | error e=>
    rw[hF]at hm;dsimp only at hm;subst hm
    rcases xS hF with rfl | rfl
    ·refine aH @aI @sh @aq ?_;exact jM.more hl By
    ·refine aH @aI @sh @aq ?_;exact jM.more hl By
  | ok q=>
    rw[hF]at hm;obtain⟨rfl,U2,hU2,hq⟩:=hm;obtain⟨dh,cY⟩:=Gy hp hF;refine ao @aI @sh ?_;refine π (UT hq dh (by rw[cY];simp)) ?_;rintro m O3 ⟨n8,qZ⟩;refine ab @aI ?_;have ag7:∀x∈U2,x∈U\/O.N<=x:=fun x hx=>(hU2 x hx).imp id fun e=>by have:=aJ.N;omega
    exact⟨(jM.more hl By).more n8 ag7,U2,ag7,qZ⟩
 ·obtain⟨R,tk,hb,hR,hUo⟩:=h1;have cA:=hb.c.cells;obtain⟨a0,a1,a2,a3,hr⟩:=rR (fp R (dL p.z) hb.c.zl);unfold qc at cA;rw[hr]at cA;simp only[aq,bu,aee,aed]at cA
  have Yt:R.length<=64:=by
   have:=hp.len;rw[<-hR]at this;unfold sf at this;rw[anh]at this;exact this
  cases R with
  | nil=>
    have cY:p.st=[]:=hR.symm;rw[cY];dsimp only;refine θ (cJ @aI @D7 @cA @ZA.{0} ?_);exact jM
  | cons r R=>
    have cY:p.st=(r.name,r.attrs,r.kids)::sf R:=hR.symm;rw[cY];dsimp only;simp only[zW]at Yt;obtain⟨pre,post,fj,dI,Dv,_,_⟩:=hb.c.loc
    have QR:(pre++jm r++post)[r.off]?=some (.str r.name):=by
     rw[aeb,ah0 (by omega), <-dI,Nat.sub_self];rfl
    generalize pre++jm r++post=C at*;have SD:BP O1 B k U p:=⟨r::R,tk,hb,hR,hUo⟩;refine θ (cJ @aI @D7 @cA @zW.{0} ?_);refine VC.oD [7,8] ?_;refine ae.au 0 ?_;refine ab @aI ?_;refine ae.au 5 ?_;refine ab @aI ?_;refine ae.ld (m:=.str nm) 6 ?_ ?_
    ·exact dW @aI @D7
    simp only[ak];refine ae.call (i:=1) (Gu hb (by omega)) ?_;rintro _ O9 ⟨rfl,eO⟩;simp only[ak];rw[eO];clear eO O9
    refine⟨VH.Ge.refl _,?_⟩;refine ae.au 2 ?_;refine ab @aI ?_;refine ae.au 3 ?_;refine ab @aI ?_;refine ae.ld (m:=.str r.name) 4 ?_ ?_
    ·exact kt3 @aI @fj @QR
    simp only[ak];refine ae.bQ [(7,.au),(8,.au)] ?_;by_cases hn:r.name=nm
    ·rw[if_pos hn];have ZS:(r.name==nm)=true:=beq_iff_eq.2 hn;refine ao @aI @ZS ?_;refine π (UT SD hp (by rw[cY];simp)) ?_;rintro m O3 ⟨n8,qZ⟩;refine ab @aI ?_;refine ν @aI ?_;exact⟨jM.more n8 By,U,By,qZ⟩
    ·rw[if_neg hn];have ZS:(r.name==nm)=false:=by simpa using hn
     refine ao @aI @ZS ?_;exact jM
 ·refine ξ @aI @D7 ?_;refine ν @aI ?_;exact⟨jM,U,By,h1⟩
 ·refine ξ @aI @D7 ?_;refine ν @aI ?_;exact⟨jM,U,By,h1⟩
end Go.Proofs.YtjpadehgejlebaaGreatDoor
