import Derived.Test.YthobfcojiglpdaaGreatDoorMC
import Derived.Lib.LazyBuf
import Derived.Laws.LoneSync
set_option linter.unusedVariables false
set_option linter.unusedSimpArgs false
namespace Go.Proofs.YthobfcojiglpdaaGreatDoor
open Go.RowKit
set_option maxRecDepth 10000
def ee (t:Bs) (stop:UInt8):Nat->Nat->Bs->Except (Int×Nat) (Bs×Nat)
 | 0,o,acc=>.ok (acc,o)
 | n+1,o,acc=>match t[o]? with
   | none=>.ok (acc,o)
   | some c=>
     if c=stop then .ok (acc,o)
     else if c=38 then
      if(mu (t.drop o)).2.2≠0 then .error ((mu (t.drop o)).2.2,o)else ee t stop n (o+(mu (t.drop o)).2.1) (acc++(mu (t.drop o)).1)
     else if c=60\/lF c=false then .error (10,o)
     else ee t stop n (o+1) (acc++[c])
theorem xr {O:VH} {k off:Nat} {t:Bs} {X:MV} (stop:UInt8) (h:Rd O k t off X) (ht:t.length<=1000000) (ho:off<=t.length):
  VF Tryz.prog 284 [.ptr k 0,eV stop] O (TQ O k t X (ee t stop (t.length+1 - off) off []) fun y m=>m= .str y):=by
 refine VF.bX 100 [.tmp 4] Tryz.func284 ?_;refine VC.ag aa (ae @au ?_);refine VC.ag aa (ae @au ?_);have wh:=fx.fresh O (Nat.le_refl O.next);have mO:O.Ge ((O.push (.cells [.v (.pointer none),.sl 0 [] .nil])).push (.shape O.next 209 2)):=((VH.Ge.refl O).push _).push _;generalize ((O.push (.cells [.v (.pointer none),.sl 0 [] .nil])).push (.shape O.next 209 2))=O1 at*;refine VC.bz [5] (fun x:Bs×Nat×Option Nat=>[.ptr O.next 0]) (fun x O'=>bk O (some k) O'/\Rd O' k t x.2.1 X/\fx O' O.next O.next x.2.2 x.1/\x.1.length<=1000000/\ee t stop (t.length+1 - off) off []= .ok (x.1,x.2.1)) ?_ ?_;rotate_left
 ·rintro⟨acc,o,q⟩ O2 ⟨cS,fc,b9,pN,he⟩;dsimp only at fc b9 pN he;rw[he];refine WC.sound aa (ae @au ?_);refine ah.rt (oV b9 (by simp only[maxLen];omega)) ?_;rintro _ O3 ⟨rfl,cA⟩;refine ae @au ?_;have o0:=b9.wL;exact⟨⟨Nat.le_trans cS.next cA.next,fun i hi hne=>(cA.hp i (Nat.lt_of_lt_of_le hi cS.next) (fun e=>by have:=o0 i e;omega)).trans (cS.hp i hi hne)⟩,rfl,Nat.lt_of_lt_of_le fc.1 cA.next,(cA.hp k fc.1 (fun e=>by have:=o0 k e;have:=h.1;omega)).trans fc.2⟩
 refine VC.aB ?_;refine VC.bE [] [0,1,5] (fun x:Bs×Nat×Option Nat=>[]) (fun x O'=>bk O (some k) O'/\Rd O' k t x.2.1 X/\fx O' O.next O.next x.2.2 x.1/\x.1.length<=x.2.1/\x.2.1<=t.length/\∃n,t.length+1 - x.2.1<=n/\ee t stop (t.length+1 - off) off []=ee t stop n x.2.1 x.1) (fun x=>t.length - x.2.1) (([],off,none)) ?_ ?_
 ·exact⟨(bk.l0 mO).any,h.ge mO,wh,Nat.zero_le _,ho,_,Nat.le_refl _,rfl⟩
 rintro⟨acc,o,q⟩ O2 ⟨cS,fc,b9,pN,LW,n,hn,he⟩;dsimp only at fc b9 pN LW hn he;obtain⟨n,rfl⟩:∃i,n=i+1:=⟨n - 1,by omega⟩
 have bO:=fc.2;simp only[aq]at bO;by_cases h1:t.length<=o
 ·have fm:t[o]?=none:=List.getElem?_eq_none h1;have hle:ee t stop (n+1) o acc= .ok (acc,o):=by unfold ee;rw[fm]
  rw[hle]at he;refine VC.bu (VC.bu ?_);refine VC.m4 [4,5,6,7,8,9,10,11,12,13,14,15,16,17,18,19] ?_;refine ab.av 0 ?_;refine ae @au ?_;refine ab.av 1 ?_;refine ae @au ?_;refine ab.av 2 ?_;refine ae @au ?_;refine ab.call (i:=3) (mq fc) ?_;rintro _ O3 ⟨rfl,eO⟩;simp only[aj];rw[eO];clear eO O3
  rw[decide_eq_true h1];refine⟨VH.Ge.refl _,?_⟩;refine ab.bM [(4,.av),(5,.av),(6,.av),(7,.av),(8,.av),(9,.av),(10,.av),(11,.av),(12,.av),(13,.av),(14,.av),(15,.av),(16,.av),(17,.av),(18,.av),(19,.av)] ?_;refine ae @au ?_;refine WC.sound aa (ae @au ?_);exact ay.mk (acc,o,q) ⟨cS,fc,b9,Nat.le_trans pN (Nat.le_trans LW ht),he⟩
 have h2:o<t.length:=by omega
 have hg:=List.getElem?_eq_getElem h2;generalize t[o]=c at*;refine VC.bu (VC.bu ?_);refine VC.m4 [] ?_;refine ab.av 0 ?_;refine ae @au ?_;refine ab.av 1 ?_;refine ae @au ?_;refine ab.av 2 ?_;refine ae @au ?_;refine ab.call (i:=3) (mq fc) ?_;rintro _ O3 ⟨rfl,eO⟩;simp only[aj];rw[eO];clear eO O3
 rw[decide_eq_false h1];refine⟨VH.Ge.refl _,?_⟩;refine ab.av 4 ?_;refine ae @au ?_;refine ab.av 5 ?_;refine ae @au ?_;refine ab.av 6 ?_;refine ae @au ?_;refine ab.av 7 ?_;refine ae @au ?_;refine ab.av 8 ?_;refine ae @au ?_;refine ab.av 9 ?_;refine ae @au ?_;refine ab.ld (m:=.str t) 10 ?_ ?_
 ·exact dz @au @bO
 simp only[aj];refine ab.av 11 ?_;refine ae @au ?_;refine ab.av 12 ?_;refine ae @au ?_;refine ab.av 13 ?_;refine ae @au ?_;refine ab.av 14 ?_;refine ae @au ?_;refine ab.ld (m:=.v (.int .i64 o)) 15 ?_ ?_
 ·exact dz @au @bO
 simp only[aj];refine ab.av 16 ?_;refine ao @au @hg ?_;refine ab.av 17 ?_;refine ae @au ?_;by_cases h3:c=stop
 ·subst h3;have hle:ee t c (n+1) o acc= .ok (acc,o):=by unfold ee;rw[hg];simp
  rw[hle]at he;refine ab.av 18 ?_;refine ao @au @aE ?_;refine ab.av 19 ?_;refine ae @au ?_;refine ab.bM [] ?_;refine ae @au ?_;refine WC.sound aa (ae @au ?_);exact ay.mk (acc,o,q) ⟨cS,fc,b9,Nat.le_trans pN (Nat.le_trans LW ht),he⟩
 have h4:¬((c.toNat:Int)=(stop.toNat:Int)):=fun e=>h3 (UInt8.toNat_inj.1 (by omega))
 refine ab.av 18 ?_;refine aM @au @aE @h4 ?_;refine ab.av 19 ?_;refine ae @au ?_;refine ab.bM [] ?_;refine ae @au ?_;refine WC.sound aa (ae @au ?_);refine VC.aB ?_;refine VC.bu ?_;refine WC.reads ?_;refine aM @au @bO @hg ?_;by_cases h5:c=38
 ·subst h5;have Aw:(t.drop o).length<=1000000:=by rw[List.length_drop];omega
  have mO:(t.drop o)[0]?=some 38:=by rw[List.getElem?_drop];exact hg
  have zq:=af0 (t.drop o) O2 Aw mO;have dD:= @zp (t.drop o)
  have hle:ee t stop (n+1) o acc=if(mu (t.drop o)).2.2≠0 then .error ((mu (t.drop o)).2.2,o)else ee t stop n (o+(mu (t.drop o)).2.1) (acc++(mu (t.drop o)).1):=by
   rw[show ee t stop (n+1) o acc=_ from by unfold ee;rfl,hg];simp only;rw[if_neg h3,if_pos trivial]
  rw[hle]at he;rw[List.length_drop]at dD;generalize mu (t.drop o)=r at*;have h6:((((38:UInt8).toNat:Nat):Int)==38)=true:=rfl;refine VC.ag aa (aM @au @aE @h6 ?_);refine ah.rt (vK fc LW) ?_;rintro _ O3 ⟨rfl,eO⟩;rw[eO];clear eO O3
  refine ae @au ?_;refine ah.rt (zq) ?_;rintro _ OR ⟨rfl,Zm⟩;refine ae @au ?_;clear zq
  replace bO:=(Zm.hp k fc.1).trans bO
  replace fc:=fc.ge Zm
  replace b9:=b9.ge Zm
  replace cS:=cS.trans (bk.l0 Zm).any
  clear Zm O2;by_cases h7:r.2.2=0
  ·obtain⟨k1,k2,k3⟩:=dD h7;rw[if_neg (by simpa using h7)]at he;have h8:(r.2.2 != 0)=false:=by simpa using h7
   refine ao @au @h8 ?_;refine ah.rt (bB r.1 b9 (by omega)) ?_;rintro _ O3 ⟨rfl,q',bZ,cA⟩;have o0:=b9.wL;have dA:O3.hp k=some (.cells [.str t,.v (.int .i64 (o:Int)),X]):=(cA.hp k fc.1 (by have:=h.1;omega) (fun e=>by have:=o0 k e;have:=h.1;omega)).trans bO;refine ao @au @dA ?_;have eN:bk O (some k) O3:=⟨Nat.le_trans cS.next cA.next,fun i hi hne=>(cA.hp i (Nat.lt_of_lt_of_le hi cS.next) (by omega) (fun e=>by have:=o0 i e;omega)).trans (cS.hp i hi hne)⟩;have gy:Rd O3 k t o X:=⟨Nat.lt_of_lt_of_le fc.1 cA.next,dA⟩;refine aD.next (acc++r.1,o+r.2.1,q') ⟨eN.trans bk.set,by simpa[aq]using gy.set (t':=t) (off':=o+r.2.1) (X':=X),bZ.set dA (by have:=h.1;omega) (fun e=>by have:=bZ.wL k e;have:=h.1;omega),by dsimp only;rw[List.length_append];omega,by dsimp only;omega,n,by dsimp only;omega,he⟩
  ·rw[if_pos h7]at he;rw[he];have h8:(r.2.2 != 0)=true:=by simpa using h7
   refine aM @au @h8 @bO ?_;refine ah.p (gO r.2.2 o _) ?_ ?_
   ·rintro m O9 ⟨_,h⟩;exact h.elim
   rintro m O9 ⟨rfl,rfl⟩;refine ae @au ?_;exact⟨cS,rfl⟩
 have h6:¬((c.toNat:Int)=38):=fun e=>h5 (UInt8.toNat_inj.1 (by simpa using(by omega:c.toNat=38)))
 by_cases h7:c=60\/lF c=false
 ·have hle:ee t stop (n+1) o acc= .error (10,o):=by unfold ee;rw[hg];simp only;rw[if_neg h3,if_neg h5,if_pos h7]
  rw[he,hle];by_cases h8:c=60
  ·have h9:((c.toNat:Int)==60)=true:=by rw[h8];rfl
   refine VC.ag aa (ll @au @aE @h6 @h9 @bO ?_);refine ah.p (gO 10 o _) ?_ ?_
   ·rintro m O9 ⟨_,h⟩;exact h.elim
   rintro m O9 ⟨rfl,rfl⟩;refine ae @au ?_;exact⟨cS,rfl⟩
  have w_:¬((c.toNat:Int)=60):=fun e=>h8 (UInt8.toNat_inj.1 (by simpa using(by omega:c.toNat=60)))
  have h9:lF c=false:=h7.resolve_left h8;refine VC.ag aa (dB @au @aE @h6 @w_ ?_);refine ah.rt (vE c _) ?_;rintro _ O3 ⟨rfl,eO⟩;rw[eO];clear eO O3
  rw[h9];refine ao @au @bO ?_;refine ah.p (gO 10 o _) ?_ ?_
  ·rintro m O9 ⟨_,h⟩;exact h.elim
  rintro m O9 ⟨rfl,rfl⟩;refine ae @au ?_;exact⟨cS,rfl⟩
 have h8:¬c=60:=fun e=>h7 (.inl e)
 have h9:lF c=true:=by simpa using fun hx:lF c=false=>h7 (.inr hx)
 have w_:¬((c.toNat:Int)=60):=fun e=>h8 (UInt8.toNat_inj.1 (by simpa using(by omega:c.toNat=60)))
 have hle:ee t stop (n+1) o acc=ee t stop n (o+1) (acc++[c]):=by
  rw[show ee t stop (n+1) o acc=_ from by unfold ee;rfl,hg];simp only;rw[if_neg h3,if_neg h5,if_neg h7]
 rw[hle]at he;refine VC.ag aa (dB @au @aE @h6 @w_ ?_);refine ah.rt (vE c _) ?_;rintro _ O3 ⟨rfl,eO⟩;rw[eO];clear eO O3
 rw[h9];refine ae @au ?_;refine WC.sound aa (ae @au ?_);refine ah.rt (rU c b9 (by omega)) ?_;rintro _ O3 ⟨rfl,q',bZ,cA⟩;have o0:=b9.wL;have dA:O3.hp k=some (.cells [.str t,.v (.int .i64 (o:Int)),X]):=(cA.hp k fc.1 (by have:=h.1;omega) (fun e=>by have:=o0 k e;have:=h.1;omega)).trans bO;refine ao @au @dA ?_;have eN:bk O (some k) O3:=⟨Nat.le_trans cS.next cA.next,fun i hi hne=>(cA.hp i (Nat.lt_of_lt_of_le hi cS.next) (by omega) (fun e=>by have:=o0 i e;omega)).trans (cS.hp i hi hne)⟩;have gy:Rd O3 k t o X:=⟨Nat.lt_of_lt_of_le fc.1 cA.next,dA⟩;refine aD.next (acc++[c],o+1,q') ⟨eN.trans bk.set,by simpa[aq]using gy.set (t':=t) (off':=o+1) (X':=X),bZ.set dA (by have:=h.1;omega) (fun e=>by have:=bZ.wL k e;have:=h.1;omega),by dsimp only;rw[List.length_append];simp only[List.length_cons,List.length_nil];omega,by dsimp only;omega,?_⟩;exact⟨n,by dsimp only;omega,he⟩
theorem nB {t:Bs} {stop:UInt8}:∀(n o:Nat) (acc:Bs) {s:Bs} {o':Nat},o<=t.length->acc.length<=o->ee t stop n o acc= .ok (s,o')->o<=o'/\o'<=t.length/\s.length<=o'
 | 0,o,acc,s,o',ho,ha,h=>by
   unfold ee at h;injection h with h;injection h with h1 h2
   subst h1;subst h2
   exact⟨Nat.le_refl _,ho,ha⟩
 | n+1,o,acc,s,o',ho,ha,h=>by
   have done:∀(h:(.ok (acc,o):Except (Int×Nat) (Bs×Nat))= .ok (s,o')),o<=o'/\o'<=t.length/\s.length<=o':=fun h=>by
    injection h with h;injection h with h1 h2
    subst h1;subst h2
    exact⟨Nat.le_refl _,ho,ha⟩
   unfold ee at h;cases hg:t[o]? with
   | none=>rw[hg]at h;exact done h
   | some c=>
     have PQ:o<t.length:=(List.getElem?_eq_some_iff.1 hg).1;rw[hg]at h;simp only at h;split at h
     ·exact done h
     split at h
     ·rename_i h2;subst h2;split at h
      ·cases h
      ·rename_i h5;obtain⟨k1,k2,k3⟩:=zp (by simpa using h5);rw[List.length_drop]at k2;have:=nB n _ _ (by omega) (by rw[List.length_append];omega) h;omega
     split at h
     ·cases h
     ·have:=nB n _ _ (by omega) (by rw[List.length_append];simp only[List.length_cons,List.length_nil];omega) h;omega
def sP (t:Bs) (off:Nat):Except (Int×Nat) (Bs×Nat):=match t[off]? with
 | none=>.error (13,off)
 | some q=>
   if q≠34/\q≠39 then .error (10,off)
   else match ee t q (t.length+1 - (off+1)) (off+1) []with
    | .error e=>.error e
    | .ok (s,o)=>if t.length<=o then .error (13,o)else .ok (s,o+1)
theorem Zn {O:VH} {k off:Nat} {t:Bs} {X:MV} (h:Rd O k t off X) (ht:t.length<=1000000):
  VF Tryz.prog 308 [.ptr k 0] O (TQ O k t X (sP t off) fun y m=>m= .str y):=by
 have hk:=h.2;simp only[aq]at hk;unfold sP;refine VF.db 70 [.tmp 2] Tryz.func308 ?_;refine ae @au ?_;refine ah.rt (mq h) ?_;rintro _ O2 ⟨rfl,eO⟩;rw[eO];clear eO O2
 by_cases h1:t.length<=off
 ·rw[decide_eq_true h1,List.getElem?_eq_none h1];refine ao @au @hk ?_;refine ah.p (gO _ _ _) ?_ ?_
  ·rintro m O9 ⟨_,h⟩;exact h.elim
  rintro m O9 ⟨rfl,rfl⟩;refine ae @au ?_;exact⟨bk.refl _ _,rfl⟩
 have h2:off<t.length:=by omega
 have hg:=List.getElem?_eq_getElem h2;rw[decide_eq_false h1,hg];generalize t[off]=c at*;refine ae @au ?_;refine WC.reads ?_;refine dB @au @hk @hg @aE ?_;have hr:Rd (O.set k (.cells [.str t,mi (off+1:Nat),X])) k t (off+1) X:=h.set;have hu:bk O (some k) (O.set k (.cells [.str t,mi (off+1:Nat),X])):=bk.set;have jY:((off:Int)+1)=((off+1:Nat):Int):=by omega
 simp only[aq, <-jY]at hr hu;have hle:=xr (X:=X) c hr ht (by omega:off+1<=t.length);have gC:= @nB t c (t.length+1 - (off+1)) (off+1) [];generalize ee t c (t.length+1 - (off+1)) (off+1) []=LF at*;by_cases hq:c≠34/\c≠39
 ·rw[if_pos hq];have e1:¬((c.toNat:Int)=34):=fun e=>hq.1 (UInt8.toNat_inj.1 (by simpa using(by omega:c.toNat=34)))
  have e2:¬((c.toNat:Int)=39):=fun e=>hq.2 (UInt8.toNat_inj.1 (by simpa using(by omega:c.toNat=39)))
  refine dB @au @hk @e1 @e2 ?_;refine ah.p (gO _ _ _) ?_ ?_
  ·rintro m O9 ⟨_,h⟩;exact h.elim
  rintro m O9 ⟨rfl,rfl⟩;refine ae @au ?_;exact⟨bk.refl _ _,rfl⟩
 rw[if_neg hq];by_cases hc:c=34
 ·subst hc;have e1:((((34:UInt8).toNat:Nat):Int) != 34)=false:=rfl;refine dB @au @aE @e1 @hk ?_;generalize O.set k (.cells [.str t,.v (.int .i64 ((off:Int)+1)),X])=O2 at*;refine ah.p (hle) ?_ ?_;rotate_left
  ·rintro m O3 ⟨cA,h⟩;cases LF with
   | ok y=>exact h.elim
   | error e=>
     dsimp only at h;subst h;refine ae @au ?_;exact⟨hu.trans cA,rfl⟩
  rintro m O3 ⟨cA,h⟩;cases LF with
  | error e=>exact h.elim
  | ok y=>
  obtain⟨s,o⟩:=y;dsimp only at h;obtain⟨rfl,gy⟩:=h;have dA:=gy.2;simp only[aq]at dA;obtain⟨g1,g2,g3⟩:=gC (by omega) (Nat.zero_le _) rfl;refine ae @au ?_;refine ah.rt (mq gy) ?_;rintro _ O4 ⟨rfl,eO⟩;rw[eO];clear eO O4
  by_cases h5:t.length<=o
  ·rw[decide_eq_true h5];rw[if_pos h5];refine ao @au @dA ?_;refine ah.p (gO _ _ _) ?_ ?_
   ·rintro m O9 ⟨_,h⟩;exact h.elim
   rintro m O9 ⟨rfl,rfl⟩;refine ae @au ?_;exact⟨hu.trans cA,rfl⟩
  ·rw[decide_eq_false h5];rw[if_neg h5];refine ao @au @dA ?_;exact⟨(hu.trans cA).trans bk.set,rfl,by simpa[aq]using gy.set (t':=t) (off':=o+1) (X':=X)⟩
 ·obtain rfl:c=39:=by
   by_cases h9:c=39
   ·exact h9
   ·exact absurd ⟨hc,h9⟩ hq
  have e1:((((39:UInt8).toNat:Nat):Int) != 34)=true:=rfl;have e2:((((39:UInt8).toNat:Nat):Int) != 39)=false:=rfl;refine ll @au @aE @e1 @e2 @hk ?_;generalize O.set k (.cells [.str t,.v (.int .i64 ((off:Int)+1)),X])=O2 at*;refine ah.p (hle) ?_ ?_;rotate_left
  ·rintro m O3 ⟨cA,h⟩;cases LF with
   | ok y=>exact h.elim
   | error e=>
     dsimp only at h;subst h;refine ae @au ?_;exact⟨hu.trans cA,rfl⟩
  rintro m O3 ⟨cA,h⟩;cases LF with
  | error e=>exact h.elim
  | ok y=>
  obtain⟨s,o⟩:=y;dsimp only at h;obtain⟨rfl,gy⟩:=h;have dA:=gy.2;simp only[aq]at dA;obtain⟨g1,g2,g3⟩:=gC (by omega) (Nat.zero_le _) rfl;refine ae @au ?_;refine ah.rt (mq gy) ?_;rintro _ O4 ⟨rfl,eO⟩;rw[eO];clear eO O4
  by_cases h5:t.length<=o
  ·rw[decide_eq_true h5];rw[if_pos h5];refine ao @au @dA ?_;refine ah.p (gO _ _ _) ?_ ?_
   ·rintro m O9 ⟨_,h⟩;exact h.elim
   rintro m O9 ⟨rfl,rfl⟩;refine ae @au ?_;exact⟨hu.trans cA,rfl⟩
  ·rw[decide_eq_false h5];rw[if_neg h5];refine ao @au @dA ?_;exact⟨(hu.trans cA).trans bk.set,rfl,by simpa[aq]using gy.set (t':=t) (off':=o+1) (X':=X)⟩
def kJ (t:Bs):Nat->Nat->List (Bs×Bs)->Except (Int×Nat) (List (Bs×Bs)×Nat)
 | 0,o,l=>.ok (l,o)
 | n+1,o,l=>
   if jy t o=0\/t.length<=o+jy t o\/du (t.drop (o+jy t o)) [47]=true\/du (t.drop (o+jy t o)) [62]=true then .ok (l,o+jy t o)
   else match iB t (o+jy t o) 10 with
    | .error e=>.error e
    | .ok (nm,o2)=>
      if l.any (·.1==nm)then .error (15,o+jy t o)
      else match g_ t (o2+jy t o2) [61]with
       | .error e=>.error e
       | .ok (_,o4)=>match sP t (o4+jy t o4)with
         | .error e=>.error e
         | .ok (v,o6)=>kJ t n o6 (l++[(nm,v)])
theorem im (t:Bs) (o:Nat) (h:o<=t.length):o+jy t o<=t.length:=by
 unfold jy;have:=ni kU (t.drop o);rw[List.length_drop]at this;omega
theorem fK {t:Bs} {o:Nat} {e:Int} {s:Bs} {o':Nat} (h:iB t o e= .ok (s,o')):o<o'/\o'<=t.length/\s.length<=o' - o/\0<s.length:=by
 have B7:=Bw (t.drop o);rw[List.length_drop]at B7;unfold iB at h;split at h
 ·cases h
 split at h
 ·cases h
 injection h with h;injection h with h1 h2
 subst h1;subst h2
 rw[List.length_take,List.length_drop];omega
theorem kA {t:Bs} {o:Nat} {p:Bs} {y:Unit} {o':Nat} (h:g_ t o p= .ok (y,o')):o'=o+p.length/\o'<=t.length/\o<t.length:=by
 unfold g_ at h;split at h
 ·cases h
 split at h
 ·rename_i h2;injection h with h;injection h with h1 h3
  have:=fX h2;rw[List.length_drop]at this;omega
 ·cases h
theorem zr {t:Bs} {o:Nat} {s:Bs} {o':Nat} (h:sP t o= .ok (s,o')):o<o'/\o'<=t.length/\s.length<=o':=by
 unfold sP at h;split at h
 ·cases h
 rename_i q hq;have PQ:=(List.getElem?_eq_some_iff.1 hq).1;split at h
 ·cases h
 split at h
 ·cases h
 rename_i s2 o2 h2;split at h
 ·cases h
 injection h with h;injection h with h1 h3
 subst h1;subst h3
 have:=nB _ _ _ (by omega) (by simp) h2;omega
theorem App.bA {O O1:VH} {B sz k:Nat} {tk:aC} (h:App O B sz tk) (u:bk O (some k) O1) (hk:k<B):App O1 B sz tk:=by
 cases tk with
 | own t j=>
   obtain⟨h1,h2,h3,h4⟩:=h;exact⟨h1,(u.hp t h4 (by intro e;injection e;omega)).trans h2,h3,Nat.lt_of_lt_of_le h4 u.next⟩
 | nil=>trivial
 | full=>trivial
 | ar=>exact h.elim
theorem LX {O:VH} {k off:Nat} {t:Bs} {X:MV} (h:Rd O k t off X) (ht:t.length<=1000000) (ho:off<=t.length):
  VF Tryz.prog 283 [.ptr k 0] O (TQ O k t X (kJ t (t.length+1 - off) off []) fun y m=>∃tk,m= .sl y.length (y.flatMap aW) tk):=by
 refine VF.bX 64 [.tmp 2] Tryz.func283 ?_;refine VC.ag aa (ae @au ?_);refine VC.aB ?_;refine VC.bE [2] [0] (fun x:List (Bs×Bs)×Nat×aC=>[.sl x.1.length (x.1.flatMap aW) x.2.2]) (fun x O'=>bk O (some k) O'/\Rd O' k t x.2.1 X/\App O' O.next 2 x.2.2/\x.2.1<=t.length/\x.1.length<=x.2.1/\∃n,t.length+1 - x.2.1<=n/\kJ t (t.length+1 - off) off []=kJ t n x.2.1 x.1) (fun x=>t.length - x.2.1) (([],off,.nil)) ?_ ?_
 ·exact⟨bk.refl _ _,h,trivial,ho,Nat.zero_le _,_,Nat.le_refl _,rfl⟩
 rintro⟨l,o,tk⟩ O2 ⟨cS,fc,cL,PQ,yJ,n,hn,he⟩;dsimp only at cS fc cL PQ yJ hn he ⊢;rw[he];obtain⟨n,rfl⟩:∃i,n=i+1:=⟨n - 1,by omega⟩
 have uv:=im t o PQ;have hrb:=pf fc ht PQ;rw[kJ];generalize jy t o=kb at*;refine VC.aB ?_;refine VC.ag aa (ae @au ?_);refine ah.p (hrb) ?_ ?_;rotate_left
 ·rintro m O9 ⟨_,h⟩;exact h.elim
 rintro m O3 ⟨cA,h9⟩;dsimp only at h9;obtain⟨rfl,gy⟩:=h9;have lI:App O3 O.next 2 tk:=App.bA cL cA (by have:=h.1;omega);have Ej:=cS.trans cA;refine ae @au ?_;by_cases Ah:kb=0
 ·subst Ah;rw[if_pos (.inl rfl)];repeat refine fQ @au ?_
  exact⟨Ej,⟨tk,rfl⟩,gy⟩
 have ahP:((kb:Int)==0)=false:=by simpa using Ah
 refine VC.ag aa (ao @au @ahP ?_);refine ah.rt (mq gy) ?_;rintro _ O4 ⟨rfl,eO⟩;rw[eO];clear eO O4
 by_cases Ho:t.length<=o+kb
 ·rw[if_pos (.inr (.inl Ho)),decide_eq_true Ho];repeat refine fQ @au ?_
  exact⟨Ej,⟨tk,rfl⟩,gy⟩
 rw[decide_eq_false Ho];refine ae @au ?_;refine ah.rt (pe [47] gy (by omega)) ?_;rintro _ O4 ⟨rfl,eO⟩;rw[eO];clear eO O4
 cases U6:du (t.drop (o+kb)) [47];rotate_left
 ·rw[if_pos (.inr (.inr (.inl rfl)))];repeat refine fQ @au ?_
  exact⟨Ej,⟨tk,rfl⟩,gy⟩
 refine ae @au ?_;refine ah.rt (pe [62] gy (by omega)) ?_;rintro _ O4 ⟨rfl,eO⟩;rw[eO];clear eO O4
 cases h62:du (t.drop (o+kb)) [62];rotate_left
 ·rw[if_pos (.inr (.inr (.inr rfl)))];repeat refine fQ @au ?_
  exact⟨Ej,⟨tk,rfl⟩,gy⟩
 rw[if_neg (by simp[Ah,Ho])];have dA:=gy.2;simp only[aq]at dA;repeat refine pc @au @dA ?_
 have N1:=zo 10 gy ht;have tc:= @fK t (o+kb) 10;generalize iB t (o+kb) 10=NF at*;refine ah.p (N1) ?_ ?_;rotate_left
 ·rintro m O9 ⟨ie,h9⟩;cases NF with
  | ok y=>exact h9.elim
  | error e=>
    dsimp only at h9;subst h9;refine ae @au ?_;exact⟨bk.trans Ej ie,rfl⟩
 rintro m O4 ⟨eN,h9⟩;cases NF with
 | error e=>exact h9.elim
 | ok y9=>
 obtain⟨nm,o2⟩:=y9;dsimp only at h9;obtain⟨rfl,LY⟩:=h9;obtain⟨a1,a2,a3,a4⟩:=tc rfl;have jX:App O4 O.next 2 tk:=App.bA lI eN (by have:=h.1;omega);have Zo:=Ej.trans eN;refine ae @au ?_;have Af:((l.flatMap aW).length)=l.length*2:=aX eM l;refine VC.bz [0,2,4,5] (fun _:Unit=>[.ptr k 0,.sl l.length (l.flatMap aW) tk,mi (o+kb:Nat),.str nm]) (fun _ O'=>O4.Ge O'/\l.any (·.1==nm)=false) ?_ ?_
 ·refine VC.ag aa (ae @au ?_);refine VC.aB ?_;refine VC.bE [40] [0,2,4,5,38,39] (fun j:Nat=>[mi j]) (fun j O'=>O4.Ge O'/\j<=l.length/\l.any (·.1==nm)=(l.drop j).any (·.1==nm)) (fun j=>l.length - j) (0) ?_ ?_
  ·exact⟨VH.Ge.refl _,Nat.zero_le _,rfl⟩
  rintro j O5 ⟨bG,hj,kF⟩;by_cases yS:j<l.length
  ·have bI:=cV eM l j yS;have PO:=List.drop_eq_getElem_cons yS;rw[PO,List.any_cons]at kF;generalize l[j]=y at*;obtain⟨yn,yv⟩:=y;simp only[aW]at bI;refine VC.ag aa (ae @au ?_);refine VC.ag aa (ae @au ?_);refine VC.bu (VC.aB ?_);refine VC.ag aa (ao @au @bI ?_);refine VC.al ?_;rintro O6 ⟨fO,lS,m5⟩;by_cases hy:yn=nm
   ·have e1:(yn==nm)=true:=beq_iff_eq.2 hy;simp only[e1,Bool.true_or]at kF;rw[kF,if_pos rfl];refine VC.ag aa (aM @au @lS @e1 ?_);refine WC.sound aa (ae @au ?_);refine ah.p (gO _ _ _) ?_ ?_
    ·rintro m O9 ⟨_,h⟩;exact h.elim
    rintro m O9 ⟨rfl,rfl⟩;refine ae @au ?_;exact⟨Zo.trans (bk.l0 (bG.trans fO)).any,rfl⟩
   ·have e1:(yn==nm)=false:=by simpa using hy
    simp only[e1,Bool.false_or]at kF;refine VC.ag aa (aM @au @lS @e1 ?_);refine WC.sound aa (ae @au ?_);refine WC.sound aa (ae @au ?_);exact aD.next (j+1) ⟨bG.trans fO,yS,kF⟩
  ·obtain rfl:j=l.length:=by omega
   rw[List.drop_length,List.any_nil]at kF;refine VC.ag aa (ae @au ?_);refine WC.sound aa (ae @au ?_);exact ay.mk () ⟨bG,kF⟩
 rintro⟨⟩ O5 ⟨bG,kF⟩;rw[kF,if_neg (by simp)];have zu:=LY.ge bG;have jF:=jX.ge bG;have RH:=Zo.trans (bk.l0 bG).any;clear bG LY gy fc cL lI jX cS cA eN Ej Zo dA hrb;have ajp:=im t o2 a2;refine VC.ag aa (ae @au ?_);refine ah.p (pf zu ht a2) ?_ ?_;rotate_left
 ·rintro m O9 ⟨_,h⟩;exact h.elim
 rintro m O6 ⟨qm,h9⟩;dsimp only at h9;obtain⟨rfl,mw⟩:=h9;have nw:App O6 O.next 2 tk:=App.bA jF qm (by have:=h.1;omega);have Lu:=RH.trans qm;repeat refine fQ @au ?_
 have hwk:= @kA t (o2+jy t o2) [61];have Ax:=r7 (X:=X) [61] mw ht (by decide);generalize g_ t (o2+jy t o2) [61]=WF at*;refine ah.p (Ax) ?_ ?_;rotate_left
 ·rintro m O9 ⟨ie,h9⟩;cases WF with
  | ok y=>exact h9.elim
  | error e=>
    dsimp only at h9;subst h9;refine ae @au ?_;exact⟨bk.trans Lu ie,rfl⟩
 rintro m O7 ⟨B6,h9⟩;cases WF with
 | error e=>exact h9.elim
 | ok y9=>
 obtain⟨y7,o4⟩:=y9;dsimp only at h9;obtain⟨rfl,Zp⟩:=h9;obtain⟨b1,b2,b3⟩:=hwk rfl;have jk:App O7 O.next 2 tk:=App.bA nw B6 (by have:=h.1;omega);have ahQ:=Lu.trans B6;have ajq:=im t o4 b2;repeat refine fQ @au ?_
 refine ah.p (pf Zp ht b2) ?_ ?_;rotate_left
 ·rintro m O9 ⟨_,h⟩;exact h.elim
 rintro m O8 ⟨rY,h9⟩;dsimp only at h9;obtain⟨rfl,Zq⟩:=h9;have sQ:App O8 O.next 2 tk:=App.bA jk rY (by have:=h.1;omega);have aec:=ahQ.trans rY;repeat refine fQ @au ?_
 have hvk:= @zr t (o4+jy t o4);have hvv:=Zn Zq ht;generalize sP t (o4+jy t o4)=VF at*;refine ah.p (hvv) ?_ ?_;rotate_left
 ·rintro m O9 ⟨ie,h9⟩;cases VF with
  | ok y=>exact h9.elim
  | error e=>
    dsimp only at h9;subst h9;refine ae @au ?_;exact⟨bk.trans aec ie,rfl⟩
 rintro m OA ⟨Zr,h9⟩;cases VF with
 | error e=>exact h9.elim
 | ok y9=>
 obtain⟨v,o6⟩:=y9;dsimp only at h9;obtain⟨rfl,hrA⟩:=h9;obtain⟨c1,c2,c3⟩:=hvk rfl;have Zs:App OA O.next 2 tk:=App.bA sQ Zr (by have:=h.1;omega);have RT:=aec.trans Zr;repeat refine fQ @au ?_
 have ahR:=bd (tk':=.full) (n:=l.length) (k:=1) (cs:=l.flatMap aW) (ds:=[.str nm,.str v]) adV ad1.1.1 Zs Af rfl rfl (by decide) (by decide) (by omega) (by simp only[maxLen];omega);refine VL.app ahR ?_;repeat refine fQ @au ?_
 have kz:=cj.after Zs;have hne:∀i,i<O.next->aC.id tk≠some i:=fun i hi e=>by have:=(Zs.pM e).1;omega
 refine aD.next (l++[(nm,v)],o6,.own OA.next 2) ⟨⟨Nat.le_trans RT.next kz.next,fun i hi hk=>(kz.hp i (Nat.lt_of_lt_of_le hi RT.next) (hne i hi)).trans (RT.hp i hi hk)⟩,⟨Nat.lt_of_lt_of_le hrA.1 kz.next,(kz.hp k hrA.1 (hne k h.1)).trans hrA.2⟩,App.after RT.next,c2,?_,n,?_,rfl⟩ (hl:=?_) (hm:=?_)
 ·dsimp only;rw[List.length_append,List.length_singleton];omega
 ·dsimp only;omega
 ·dsimp only;rw[List.flatMap_append,List.length_append];rfl
 ·dsimp only;omega
structure Tk where
 kind:Int
 name:Bs
 attrs:List (Bs×Bs)
 text:Bs
 off:Nat
def xt (x:Tk):List MV:=[mi x.kind,.str x.name,.sl x.attrs.length (x.attrs.flatMap aW) .ar,.str x.text,mi x.off,mi 0,mi 0]
theorem Ek (x:Tk):(xt x).length=7:=rfl
structure UB (B k:Nat) (O O':VH):Prop where
 next:O.next<=O'.next
 hp:∀i,i<B->i≠k->O'.hp i=O.hp i
theorem UB.refl (B k:Nat) (O:VH):UB B k O O:=⟨Nat.le_refl _,fun _ _ _=>rfl⟩
theorem UB.bA {B k:Nat} {O O1 O2:VH} (h:UB B k O O1) (u:bk O1 (some k) O2) (hB:B<=O1.next):UB B k O O2:=
 ⟨Nat.le_trans h.next u.next,fun i hi hk=>(u.hp i (Nat.lt_of_lt_of_le hi hB) (by intro e;injection e;omega)).trans (h.hp i hi hk)⟩
theorem UB.ge {B k:Nat} {O O1 O2:VH} (h:UB B k O O1) (u:O1.Ge O2) (hB:B<=O1.next):UB B k O O2:=
 ⟨Nat.le_trans h.next u.next,fun i hi hk=>(u.hp i (Nat.lt_of_lt_of_le hi hB)).trans (h.hp i hi hk)⟩
theorem UB.set {B k b:Nat} {O O1:VH} {x:bV} (h:UB B k O O1) (hb:B<=b\/b=k):UB B k O (O1.set b x):=
 ⟨h.next,fun i hi hk=>VH.sn (h.hp i hi hk)⟩
theorem UB.trans {B k:Nat} {O O1 O2:VH} (h:UB B k O O1) (u:UB B k O1 O2):UB B k O O2:=⟨Nat.le_trans h.next u.next,fun i hi hk=>(u.hp i hi hk).trans (h.hp i hi hk)⟩
theorem Rd.other {O:VH} {k b off:Nat} {t:Bs} {X:MV} {x:bV} (h:Rd O k t off X) (hb:b≠k):Rd (O.set b x) k t off X:=⟨h.1,(VH.ak _ _ (fun e=>hb e.symm)).trans h.2⟩
def sR {α β :Type} (f: α -> β):Except (Int×Nat) (α ×Nat)->Except (Int×Nat) (β ×Nat)
 | .error e=>.error e
 | .ok (x,o)=>.ok (f x,o)
def p5 (t:Bs) (off:Nat):Except (Int×Nat) (Tk×Nat):=match iB t (off+2) 11 with
 | .error e=>.error e
 | .ok (nm,o2)=>sR (fun _=>⟨3,nm,[],[],off⟩) (g_ t (o2+jy t o2) [62])
def uG (t:Bs) (off:Nat):Except (Int×Nat) (Tk×Nat):=match iB t (off+1) 11 with
 | .error e=>.error e
 | .ok (nm,o2)=>match kJ t (t.length+1 - o2) o2 []with
   | .error e=>.error e
   | .ok (l,o3)=>if du (t.drop o3) [47]then sR (fun _=>⟨2,nm,l,[],off⟩) (g_ t (o3+1) [62])else sR (fun _=>⟨1,nm,l,[],off⟩) (g_ t o3 [62])
def lL (t:Bs) (off:Nat):Except (Int×Nat) (Tk×Nat):=
 if du (t.drop off) [60,33,45,45]then sR (fun s=>⟨5,[],[],s,off⟩) (il t (off+List.length [(60:UInt8),33,45,45]) [45,45,62])
 else if du (t.drop off) [60,33,91,67,68,65,84,65,91]then sR (fun s=>⟨4,[],[],s,off⟩) (il t (off+List.length [(60:UInt8),33,91,67,68,65,84,65,91]) [93,93,62])
 else if off=0/\qq (t.drop off)=true then sR (fun s=>⟨6,[],[],s,off⟩) (il t (off+List.length [(60:UInt8),63,120,109,108]) [63,62])
 else if du (t.drop off) [60,47]then p5 t off
 else if du (t.drop off) [60]then uG t off
 else sR (fun s=>⟨4,[],[],s,off⟩) (ee t 60 (t.length+1 - off) off [])
structure TJ (O:VH) (B k n:Nat) (t:Bs) (p:MV) (L:List MV) (o:Nat) (O':VH):Prop where
 ub:UB B k O O'
 rd:Rd O' k t o p
 row:GR O' 217 7 B p n L
 lt:O.next<O'.next
theorem TJ.set {O O':VH} {B k n o:Nat} {t:Bs} {p:MV} {L cs:List MV} {x:bV} (h:TJ O B k n t p L o O') (hb:O'.hp O.next=some (.cells cs)) (hp:gid p≠some O.next) (fR:k<B) (hB:B<=O.next):TJ O B k n t p L o (O'.set O.next x):=
 ⟨h.ub.set (.inl hB),h.rd.other (by omega),h.row.oO bk.set hp (fun _ _ _ e=>by rw[hb]at e;cases e),h.lt⟩
theorem TJ.bA {O OX OY:VH} {B k n o o2:Nat} {t:Bs} {p:MV} {L:List MV} (h:TJ O B k n t p L o OX) (u:bk OX (some k) OY) (hr:Rd OY k t o2 p) (hp:gid p≠some k) (hB:B<=O.next):TJ O B k n t p L o2 OY:=
 ⟨h.ub.bA u (by have:=h.lt;omega),hr,h.row.oO u hp (fun _ _ _ e=>by rw[h.rd.2]at e;cases e),Nat.lt_of_lt_of_le h.lt u.next⟩
theorem TJ.pn {O OX OY:VH} {B k n o:Nat} {t:Bs} {p:MV} {L:List MV} (h:TJ O B k n t p L o OX) (u:bk OX (some k) OY) (hB:B<=O.next):UB B k O OY:=h.ub.bA u (by have:=h.lt;omega)
theorem TJ.at {O OX OY:VH} {B k n o:Nat} {t:Bs} {p:MV} {L cs:List MV} (h:TJ O B k n t p L o OX) (u:bk OX (some k) OY) (fR:k<B) (hB:B<=O.next) (hb:OX.hp O.next=some (.cells cs)):OY.hp O.next=some (.cells cs):=
 (u.hp _ h.lt (by intro e;injection e;omega)).trans hb
section
variable {P:Program} {n:Sz} {D:List Deferred} {c:Code} {e:Env} {O:VH} {Q:VQ} {md:Md} {d:Option Tmp} {K:Env->VH->Prop} {fv:Option MV} {ms:Option (List MV)} {b k:Nat} {x y:bV}
theorem ah.s1 (h:∀O3,O3=O.set b x->ah P n md Q d O3 K e fv ms):ah P n md Q d (O.set b x) K e fv ms:=h _ rfl
theorem ah.s2 (h:∀O3,O3=(O.set b x).set k y->ah P n md Q d O3 K e fv ms):ah P n md Q d ((O.set b x).set k y) K e fv ms:=h _ rfl
end
theorem uH {t:Bs}:∀(n o:Nat) (l:List (Bs×Bs)) {l':List (Bs×Bs)} {o':Nat},o<=t.length->kJ t n o l= .ok (l',o')->o<=o'/\o'<=t.length
 | 0,o,l,l',o',ho,h=>by
   rw[kJ]at h;injection h with h;injection h with h1 h2
   omega
 | n+1,o,l,l',o',ho,h=>by
   have uv:=im t o ho;rw[kJ]at h;split at h
   ·injection h with h;injection h with h1 h2
    omega
   split at h
   ·cases h
   rename_i nm o2 h2;have hn:=fK h2;have b9:=im t o2 (by omega);split at h
   ·cases h
   split at h
   ·cases h
   rename_i y4 o4 h4;have hw:=kA h4;have cC:=im t o4 (by omega);split at h
   ·cases h
   rename_i v o6 h6;have hv:=zr h6;have:=uH n o6 _ (by omega) h;omega
set_option maxHeartbeats 800000 in
theorem Zt {O:VH} {k off B n:Nat} {t:Bs} {p:MV} {L:List MV} (h:Rd O k t off p) (ht:t.length<=1000000) (ho:off<=t.length) (fR:k<B) (hB:B<=O.next) (cx:GR O 217 7 B p n L) (hn:n<=1000000):
  VF Tryz.prog 254 [.ptr k 0] O fun r O'=>UB B k O O'/\match r,lL t off with
   | .ret m,.ok (x,o')=>m= .tuple []/\∃p',Rd O' k t o' p'/\GR O' 217 7 B p' (n+1) (L++xt x)
   | .panic m,.error e=>m=zm e.1 e.2
   | _,_=>False:=by
 have hk:=h.2;simp only[aq]at hk
 have mP:gid p≠some k:=fun e=>by
  rcases cx with⟨_,_,hp | hp⟩ | ⟨k2,c,hp,_,_,jN⟩
  ·rw[hp]at e;cases e
  ·rw[hp]at e;cases e
  ·rw[hp]at e;injection e with e;have:=jN.lo;omega
 refine VF.bX 116 [] Tryz.func254 ?_;refine VC.ag aa (ao @au @hk ?_);refine VC.al ?_;rintro O1 ⟨aT,cg,dd⟩;have nu:=h.ge aT;have af1:=cx.Dz (bk.l0 aT);have en:=nu.2;simp only[aq]at en;have sX:UB B k O O1:=(UB.refl B k O).ge aT hB
 have m8:gid p≠some O.next:=fun e=>by
  rcases cx with⟨_,_,hp | hp⟩ | ⟨k2,c,hp,_,_,jN⟩
  ·rw[hp]at e;cases e
  ·rw[hp]at e;cases e
  ·rw[hp]at e;injection e with e;have:=jN.hi;omega
 have hJ:∀{O3:VH} {o:Nat},bk O1 (some k) O3->Rd O3 k t o p->TJ O B k n t p L o O3:=fun{O3 o} u hr=>
  ⟨sX.bA u (by omega),hr,af1.oO u mP (fun _ _ _ e=>by rw[nu.2]at e;cases e),by have:=u.next;omega⟩
 refine VC.bz [0,2] (fun x:Tk×Nat=>[.ptr k 0,.ptr O.next 0]) (fun x O'=>TJ O B k n t p L x.2 O'/\lL t off= .ok x/\∃Zu,O'.hp O.next=some (.cells [mi x.1.kind,.str x.1.name,Zu,.str x.1.text,mi x.1.off,mi 0,mi 0])/\ar Zu= .sl x.1.attrs.length (x.1.attrs.flatMap aW) .ar/\dh Zu=true) ?_ ?_
 ·refine VC.aB ?_;unfold lL;refine VC.ag aa (ae @au ?_);refine ah.rt (pe [60,33,45,45] nu ho) ?_;rintro _ O2 ⟨rfl,eO⟩;rw[eO];clear eO O2
  cases hp:du (t.drop off) [60,33,45,45];rotate_left
  ·rw[if_pos rfl];have hle:=fX hp;have Zv:=Eh (X:=p) [60,33,45,45] [45,45,62] nu ht (by decide) (by rw[List.length_drop]at hle;omega);generalize il t (off+List.length [60,33,45,45]) [45,45,62]=F at*;repeat refine fQ @au ?_
   refine ah.p (Zv) ?_ ?_;rotate_left
   ·rintro m O9 ⟨ie,h9⟩;cases F with
    | ok y=>exact h9.elim
    | error e=>
      dsimp only at h9;subst h9;repeat refine fQ @au ?_
      exact⟨UB.bA sX (bk.trans (bk.refl _ _) ie) (by omega),rfl⟩
   rintro m O3 ⟨cA,h9⟩;cases F with
   | error e=>exact h9.elim
   | ok y9=>
   obtain⟨s,o2⟩:=y9;dsimp only at h9;obtain⟨rfl,gy⟩:=h9;have bZ:=(cA.hp _ (by omega) (by intro e;injection e;omega)).trans cg;repeat refine pc @au @bZ ?_
   exact ay.mk (⟨5,[],[],s,off⟩,o2) ⟨((hJ cA gy).set bZ m8 fR hB).set (VH.an _ _ _) m8 fR hB,rfl,.sl 0 [] .nil,VH.an _ _ _,by simp only[wu];rfl,rfl⟩
  rw[if_neg (by simp)];repeat refine fQ @au ?_
  refine ah.rt (pe [60,33,91,67,68,65,84,65,91] nu ho) ?_;rintro _ O2 ⟨rfl,eO⟩;rw[eO];clear eO O2
  clear hp;cases hp:du (t.drop off) [60,33,91,67,68,65,84,65,91];rotate_left
  ·rw[if_pos rfl];have hle:=fX hp;have Zv:=Eh (X:=p) [60,33,91,67,68,65,84,65,91] [93,93,62] nu ht (by decide) (by rw[List.length_drop]at hle;omega);generalize il t (off+List.length [60,33,91,67,68,65,84,65,91]) [93,93,62]=F at*;repeat refine fQ @au ?_
   refine ah.p (Zv) ?_ ?_;rotate_left
   ·rintro m O9 ⟨ie,h9⟩;cases F with
    | ok y=>exact h9.elim
    | error e=>
      dsimp only at h9;subst h9;repeat refine fQ @au ?_
      exact⟨UB.bA sX (bk.trans (bk.refl _ _) ie) (by omega),rfl⟩
   rintro m O3 ⟨cA,h9⟩;cases F with
   | error e=>exact h9.elim
   | ok y9=>
   obtain⟨s,o2⟩:=y9;dsimp only at h9;obtain⟨rfl,gy⟩:=h9;have bZ:=(cA.hp _ (by omega) (by intro e;injection e;omega)).trans cg;repeat refine pc @au @bZ ?_
   exact ay.mk (⟨4,[],[],s,off⟩,o2) ⟨((hJ cA gy).set bZ m8 fR hB).set (VH.an _ _ _) m8 fR hB,rfl,.sl 0 [] .nil,VH.an _ _ _,by simp only[wu];rfl,rfl⟩
  rw[if_neg (by simp)];clear hp;by_cases h0:off=0;rotate_left
  ·rw[if_neg (fun h=>h0 h.1)];have h0i:((off:Int)==0)=false:=by simpa using h0
   repeat refine kg3 @au @en @h0i ?_
   refine ah.rt (pe [60,47] nu ho) ?_;rintro _ O2 ⟨rfl,eO⟩;rw[eO];clear eO O2
   cases hp:du (t.drop off) [60,47];rotate_left
   ·rw[if_pos rfl];unfold p5;have hle:=fX hp;simp only[List.length_drop,List.length_cons,List.length_nil]at hle;repeat refine pc @au @en ?_
    have fc:Rd (O1.set k (.cells [.str t,mi (off+2:Nat),p])) k t (off+2) p:=nu.set;have cS:bk O1 (some k) (O1.set k (.cells [.str t,mi (off+2:Nat),p])):=bk.set;have jY:((off:Int)+2)=((off+2:Nat):Int):=by omega
    simp only[aq, <-jY]at fc cS;generalize O1.set k (.cells [.str t,.v (.int .i64 ((off:Int)+2)),p])=O2 at*;repeat refine fQ @au ?_
    have B9:=zo 11 fc ht;have tc:= @fK t (off+2) 11;generalize iB t (off+2) 11=F at*;refine ah.p (B9) ?_ ?_;rotate_left
    ·rintro m O9 ⟨ie,h9⟩;cases F with
     | ok y=>exact h9.elim
     | error e=>
       dsimp only at h9;subst h9;repeat refine fQ @au ?_
       exact⟨UB.bA sX (bk.trans cS ie) (by omega),rfl⟩
    rintro m O3 ⟨cA,h9⟩;cases F with
    | error e=>exact h9.elim
    | ok y9=>
    obtain⟨s,o2⟩:=y9;dsimp only at h9;obtain⟨rfl,gy⟩:=h9;have sS:=cS.trans cA;obtain⟨a1,a2,a3,a4⟩:=tc rfl;have bZ:=(sS.hp _ (by omega) (by intro e;injection e;omega)).trans cg;repeat refine pc @au @bZ ?_
    refine ah.s2 ?_;rintro O4 ox;have uI:TJ O B k n t p L o2 O4:=by rw[ox];exact((hJ sS gy).set bZ m8 fR hB).set (VH.an _ _ _) m8 fR hB
    have cC:O4.hp O.next=some (.cells [mi 3,.str s,.sl 0 [] .nil,.str [],mi off,mi 0,mi 0]):=by rw[ox];exact VH.an _ _ _
    clear ox;have uv:=im t o2 a2;refine ah.p (pf uI.rd ht a2) ?_ ?_;rotate_left
    ·rintro m O9 ⟨_,h⟩;exact h.elim
    rintro m O5 ⟨pO,h9⟩;dsimp only at h9;obtain⟨rfl,zu⟩:=h9;have r8:=uI.bA pO zu mP hB;have cJ:=uI.at pO fR hB cC;repeat refine fQ @au ?_
    have Ax:=r7 (X:=p) [62] zu ht (by decide);generalize g_ t (o2+jy t o2) [62]=W at*;refine ah.p (Ax) ?_ ?_;rotate_left
    ·rintro m O9 ⟨ie,h9⟩;cases W with
     | ok y=>exact h9.elim
     | error e=>
       dsimp only at h9;subst h9;repeat refine fQ @au ?_
       exact⟨TJ.pn r8 ie hB,rfl⟩
    rintro m O6 ⟨qm,h9⟩;cases W with
    | error e=>exact h9.elim
    | ok y9=>
    obtain⟨y6,o4⟩:=y9;dsimp only at h9;obtain⟨rfl,mw⟩:=h9;have gH:=r8.at qm fR hB cJ;repeat refine fQ @au ?_
    exact ay.mk (⟨3,s,[],[],off⟩,o4) ⟨r8.bA qm mw mP hB,rfl,.sl 0 [] .nil,gH,by simp only[wu];rfl,rfl⟩
   rw[if_neg (by simp)];clear hp;repeat refine fQ @au ?_
   refine ah.rt (pe [60] nu ho) ?_;rintro _ O2 ⟨rfl,eO⟩;rw[eO];clear eO O2
   cases hp:du (t.drop off) [60];rotate_left
   ·rw[if_pos rfl];unfold uG;have hle:=fX hp;simp only[List.length_drop,List.length_cons,List.length_nil]at hle;repeat refine pc @au @en ?_
    have fc:Rd (O1.set k (.cells [.str t,mi (off+1:Nat),p])) k t (off+1) p:=nu.set;have cS:bk O1 (some k) (O1.set k (.cells [.str t,mi (off+1:Nat),p])):=bk.set;have jY:((off:Int)+1)=((off+1:Nat):Int):=by omega
    simp only[aq, <-jY]at fc cS;generalize O1.set k (.cells [.str t,.v (.int .i64 ((off:Int)+1)),p])=O2 at*;repeat refine fQ @au ?_
    have B9:=zo 11 fc ht;have tc:= @fK t (off+1) 11;generalize iB t (off+1) 11=F at*;refine ah.p (B9) ?_ ?_;rotate_left
    ·rintro m O9 ⟨ie,h9⟩;cases F with
     | ok y=>exact h9.elim
     | error e=>
       dsimp only at h9;subst h9;repeat refine fQ @au ?_
       exact⟨UB.bA sX (bk.trans cS ie) (by omega),rfl⟩
    rintro m O3 ⟨cA,h9⟩;cases F with
    | error e=>exact h9.elim
    | ok y9=>
    obtain⟨s,o2⟩:=y9;dsimp only at h9;obtain⟨rfl,gy⟩:=h9;have sS:=cS.trans cA;obtain⟨a1,a2,a3,a4⟩:=tc rfl;have bZ:=(sS.hp _ (by omega) (by intro e;injection e;omega)).trans cg;repeat refine pc @au @bZ ?_
    refine ah.s1 ?_;rintro O4 ox;have uI:TJ O B k n t p L o2 O4:=by rw[ox];exact(hJ sS gy).set bZ m8 fR hB
    have cC:O4.hp O.next=some (.cells [mi 0,.str s,.sl 0 [] .nil,.str [],mi off,mi 0,mi 0]):=by rw[ox];exact VH.an _ _ _
    clear ox;have U7:=LX uI.rd ht a2;have U8:= @uH t (t.length+1 - o2) o2 [];generalize kJ t (t.length+1 - o2) o2 []=A at*;refine ah.p (U7) ?_ ?_;rotate_left
    ·rintro m O9 ⟨ie,h9⟩;cases A with
     | ok y=>exact h9.elim
     | error e=>
       dsimp only at h9;subst h9;repeat refine fQ @au ?_
       exact⟨uI.pn ie hB,rfl⟩
    rintro m O5 ⟨pO,h9⟩;cases A with
    | error e=>exact h9.elim
    | ok y9=>
    obtain⟨l,o3⟩:=y9;dsimp only at h9;obtain⟨⟨tk,rfl⟩,zu⟩:=h9;obtain⟨c1,c2⟩:=U8 a2 rfl;have r8:=uI.bA pO zu mP hB;have cJ:=uI.at pO fR hB cC;simp only[aq]at cJ;repeat refine pc @au @cJ ?_
    refine ah.s2 ?_;rintro O6 Ay;have xv:TJ O B k n t p L o3 O6:=by rw[Ay];exact(r8.set cJ m8 fR hB).set (VH.an _ _ _) m8 fR hB
    have gH:O6.hp O.next=some (.cells [mi 1,.str s,.sl l.length (l.flatMap aW) tk,.str [],mi off,mi 0,mi 0]):=by rw[Ay];exact VH.an _ _ _
    clear Ay;have pP:=xv.rd.2;simp only[aq]at gH pP;refine ah.rt (pe [47] xv.rd c2) ?_;rintro _ O7 ⟨rfl,eO⟩;rw[eO];clear eO O7
    cases U6:du (t.drop o3) [47]
    ·rw[if_neg (by simp)];repeat refine fQ @au ?_
     have Ax:=r7 (X:=p) [62] xv.rd ht (by decide);generalize g_ t o3 [62]=W at*;refine ah.p (Ax) ?_ ?_;rotate_left
     ·rintro m O9 ⟨ie,h9⟩;cases W with
      | ok y=>exact h9.elim
      | error e=>
        dsimp only at h9;subst h9;repeat refine fQ @au ?_
        exact⟨TJ.pn xv ie hB,rfl⟩
     rintro m O7 ⟨B6,h9⟩;cases W with
     | error e=>exact h9.elim
     | ok y9=>
     obtain⟨y7,o4⟩:=y9;dsimp only at h9;obtain⟨rfl,Zp⟩:=h9;have s8:=xv.at B6 fR hB gH;repeat refine fQ @au ?_
     exact ay.mk (⟨1,s,l,[],off⟩,o4) ⟨xv.bA B6 Zp mP hB,rfl,.sl l.length (l.flatMap aW) tk,s8,by simp only[wu,fz],rfl⟩
    ·rw[if_pos rfl];have RJ:=fX U6;simp only[List.length_drop,List.length_cons,List.length_nil]at RJ;have Zw:=fun x:bV=>(VH.ak O6 (k:=O.next) (j:=k) x (by omega)).trans pP
     repeat refine kg4 @au @gH @pP @Zw ?_
     refine ah.s2 ?_;rintro O7 po;have fC:((o3:Int)+1)=((o3+1:Nat):Int):=by omega
     rw[fC]at po;have Az:=xv.set (x:=.cells [.v (.int .i64 2),.str s,.sl l.length (l.flatMap aW) tk,.str [],.v (.int .i64 off),.v (.int .i64 0),.v (.int .i64 0)]) gH m8 fR hB;have IT:TJ O B k n t p L (o3+1) O7:=by rw[po];exact Az.bA bk.set (Rd.set Az.rd) mP hB
     have s8:O7.hp O.next=some (.cells [mi 2,.str s,.sl l.length (l.flatMap aW) tk,.str [],mi off,mi 0,mi 0]):=by rw[po];exact VH.sn (VH.an _ _ _)
     clear po Az;have Ax:=r7 (X:=p) [62] IT.rd ht (by decide);generalize g_ t (o3+1) [62]=W at*;refine ah.p (Ax) ?_ ?_;rotate_left
     ·rintro m O9 ⟨ie,h9⟩;cases W with
      | ok y=>exact h9.elim
      | error e=>
        dsimp only at h9;subst h9;repeat refine fQ @au ?_
        exact⟨TJ.pn IT ie hB,rfl⟩
     rintro m O8 ⟨rY,h9⟩;cases W with
     | error e=>exact h9.elim
     | ok y9=>
     obtain⟨y8,o4⟩:=y9;dsimp only at h9;obtain⟨rfl,Zq⟩:=h9;have pL:=IT.at rY fR hB s8;repeat refine fQ @au ?_
     exact ay.mk (⟨2,s,l,[],off⟩,o4) ⟨IT.bA rY Zq mP hB,rfl,.sl l.length (l.flatMap aW) tk,pL,by simp only[wu,fz],rfl⟩
   rw[if_neg (by simp)];clear hp;repeat refine fQ @au ?_
   have k_:=xr (X:=p) 60 nu ht ho;generalize ee t 60 (t.length+1 - off) off []=F at*;refine ah.p (k_) ?_ ?_;rotate_left
   ·rintro m O9 ⟨ie,h9⟩;cases F with
    | ok y=>exact h9.elim
    | error e=>
      dsimp only at h9;subst h9;repeat refine fQ @au ?_
      exact⟨UB.bA sX (bk.trans (bk.refl _ _) ie) (by omega),rfl⟩
   rintro m O3 ⟨cA,h9⟩;cases F with
   | error e=>exact h9.elim
   | ok y9=>
   obtain⟨s,o2⟩:=y9;dsimp only at h9;obtain⟨rfl,gy⟩:=h9;have bZ:=(cA.hp _ (by omega) (by intro e;injection e;omega)).trans cg;repeat refine pc @au @bZ ?_
   exact ay.mk (⟨4,[],[],s,off⟩,o2) ⟨((hJ cA gy).set bZ m8 fR hB).set (VH.an _ _ _) m8 fR hB,rfl,.sl 0 [] .nil,VH.an _ _ _,by simp only[wu];rfl,rfl⟩
  have h0i:((off:Int)==0)=true:=by simpa using h0
  repeat refine kg3 @au @en @h0i ?_
  refine ah.rt (UX nu ht ho) ?_;rintro _ O2 ⟨rfl,eO⟩;rw[eO];clear eO O2
  cases hhd:qq (t.drop off)
  ·rw[if_neg (fun h=>by cases h.2)];repeat refine fQ @au ?_
   refine ah.rt (pe [60,47] nu ho) ?_;rintro _ O2 ⟨rfl,eO⟩;rw[eO];clear eO O2
   cases hp:du (t.drop off) [60,47];rotate_left
   ·rw[if_pos rfl];unfold p5;have hle:=fX hp;simp only[List.length_drop,List.length_cons,List.length_nil]at hle;repeat refine pc @au @en ?_
    have fc:Rd (O1.set k (.cells [.str t,mi (off+2:Nat),p])) k t (off+2) p:=nu.set;have cS:bk O1 (some k) (O1.set k (.cells [.str t,mi (off+2:Nat),p])):=bk.set;have jY:((off:Int)+2)=((off+2:Nat):Int):=by omega
    simp only[aq, <-jY]at fc cS;generalize O1.set k (.cells [.str t,.v (.int .i64 ((off:Int)+2)),p])=O2 at*;repeat refine fQ @au ?_
    have B9:=zo 11 fc ht;have tc:= @fK t (off+2) 11;generalize iB t (off+2) 11=F at*;refine ah.p (B9) ?_ ?_;rotate_left
    ·rintro m O9 ⟨ie,h9⟩;cases F with
     | ok y=>exact h9.elim
     | error e=>
       dsimp only at h9;subst h9;repeat refine fQ @au ?_
       exact⟨UB.bA sX (bk.trans cS ie) (by omega),rfl⟩
    rintro m O3 ⟨cA,h9⟩;cases F with
    | error e=>exact h9.elim
    | ok y9=>
    obtain⟨s,o2⟩:=y9;dsimp only at h9;obtain⟨rfl,gy⟩:=h9;have sS:=cS.trans cA;obtain⟨a1,a2,a3,a4⟩:=tc rfl;have bZ:=(sS.hp _ (by omega) (by intro e;injection e;omega)).trans cg;repeat refine pc @au @bZ ?_
    refine ah.s2 ?_;rintro O4 ox;have uI:TJ O B k n t p L o2 O4:=by rw[ox];exact((hJ sS gy).set bZ m8 fR hB).set (VH.an _ _ _) m8 fR hB
    have cC:O4.hp O.next=some (.cells [mi 3,.str s,.sl 0 [] .nil,.str [],mi off,mi 0,mi 0]):=by rw[ox];exact VH.an _ _ _
    clear ox;have uv:=im t o2 a2;refine ah.p (pf uI.rd ht a2) ?_ ?_;rotate_left
    ·rintro m O9 ⟨_,h⟩;exact h.elim
    rintro m O5 ⟨pO,h9⟩;dsimp only at h9;obtain⟨rfl,zu⟩:=h9;have r8:=uI.bA pO zu mP hB;have cJ:=uI.at pO fR hB cC;repeat refine fQ @au ?_
    have Ax:=r7 (X:=p) [62] zu ht (by decide);generalize g_ t (o2+jy t o2) [62]=W at*;refine ah.p (Ax) ?_ ?_;rotate_left
    ·rintro m O9 ⟨ie,h9⟩;cases W with
     | ok y=>exact h9.elim
     | error e=>
       dsimp only at h9;subst h9;repeat refine fQ @au ?_
       exact⟨TJ.pn r8 ie hB,rfl⟩
    rintro m O6 ⟨qm,h9⟩;cases W with
    | error e=>exact h9.elim
    | ok y9=>
    obtain⟨y6,o4⟩:=y9;dsimp only at h9;obtain⟨rfl,mw⟩:=h9;have gH:=r8.at qm fR hB cJ;repeat refine fQ @au ?_
    exact ay.mk (⟨3,s,[],[],off⟩,o4) ⟨r8.bA qm mw mP hB,rfl,.sl 0 [] .nil,gH,by simp only[wu];rfl,rfl⟩
   rw[if_neg (by simp)];clear hp;repeat refine fQ @au ?_
   refine ah.rt (pe [60] nu ho) ?_;rintro _ O2 ⟨rfl,eO⟩;rw[eO];clear eO O2
   cases hp:du (t.drop off) [60];rotate_left
   ·rw[if_pos rfl];unfold uG;have hle:=fX hp;simp only[List.length_drop,List.length_cons,List.length_nil]at hle;repeat refine pc @au @en ?_
    have fc:Rd (O1.set k (.cells [.str t,mi (off+1:Nat),p])) k t (off+1) p:=nu.set;have cS:bk O1 (some k) (O1.set k (.cells [.str t,mi (off+1:Nat),p])):=bk.set;have jY:((off:Int)+1)=((off+1:Nat):Int):=by omega
    simp only[aq, <-jY]at fc cS;generalize O1.set k (.cells [.str t,.v (.int .i64 ((off:Int)+1)),p])=O2 at*;repeat refine fQ @au ?_
    have B9:=zo 11 fc ht;have tc:= @fK t (off+1) 11;generalize iB t (off+1) 11=F at*;refine ah.p (B9) ?_ ?_;rotate_left
    ·rintro m O9 ⟨ie,h9⟩;cases F with
     | ok y=>exact h9.elim
     | error e=>
       dsimp only at h9;subst h9;repeat refine fQ @au ?_
       exact⟨UB.bA sX (bk.trans cS ie) (by omega),rfl⟩
    rintro m O3 ⟨cA,h9⟩;cases F with
    | error e=>exact h9.elim
    | ok y9=>
    obtain⟨s,o2⟩:=y9;dsimp only at h9;obtain⟨rfl,gy⟩:=h9;have sS:=cS.trans cA;obtain⟨a1,a2,a3,a4⟩:=tc rfl;have bZ:=(sS.hp _ (by omega) (by intro e;injection e;omega)).trans cg;repeat refine pc @au @bZ ?_
    refine ah.s1 ?_;rintro O4 ox;have uI:TJ O B k n t p L o2 O4:=by rw[ox];exact(hJ sS gy).set bZ m8 fR hB
    have cC:O4.hp O.next=some (.cells [mi 0,.str s,.sl 0 [] .nil,.str [],mi off,mi 0,mi 0]):=by rw[ox];exact VH.an _ _ _
    clear ox;have U7:=LX uI.rd ht a2;have U8:= @uH t (t.length+1 - o2) o2 [];generalize kJ t (t.length+1 - o2) o2 []=A at*;refine ah.p (U7) ?_ ?_;rotate_left
    ·rintro m O9 ⟨ie,h9⟩;cases A with
     | ok y=>exact h9.elim
     | error e=>
       dsimp only at h9;subst h9;repeat refine fQ @au ?_
       exact⟨uI.pn ie hB,rfl⟩
    rintro m O5 ⟨pO,h9⟩;cases A with
    | error e=>exact h9.elim
    | ok y9=>
    obtain⟨l,o3⟩:=y9;dsimp only at h9;obtain⟨⟨tk,rfl⟩,zu⟩:=h9;obtain⟨c1,c2⟩:=U8 a2 rfl;have r8:=uI.bA pO zu mP hB;have cJ:=uI.at pO fR hB cC;simp only[aq]at cJ;repeat refine pc @au @cJ ?_
    refine ah.s2 ?_;rintro O6 Ay;have xv:TJ O B k n t p L o3 O6:=by rw[Ay];exact(r8.set cJ m8 fR hB).set (VH.an _ _ _) m8 fR hB
    have gH:O6.hp O.next=some (.cells [mi 1,.str s,.sl l.length (l.flatMap aW) tk,.str [],mi off,mi 0,mi 0]):=by rw[Ay];exact VH.an _ _ _
    clear Ay;have pP:=xv.rd.2;simp only[aq]at gH pP;refine ah.rt (pe [47] xv.rd c2) ?_;rintro _ O7 ⟨rfl,eO⟩;rw[eO];clear eO O7
    cases U6:du (t.drop o3) [47]
    ·rw[if_neg (by simp)];repeat refine fQ @au ?_
     have Ax:=r7 (X:=p) [62] xv.rd ht (by decide);generalize g_ t o3 [62]=W at*;refine ah.p (Ax) ?_ ?_;rotate_left
     ·rintro m O9 ⟨ie,h9⟩;cases W with
      | ok y=>exact h9.elim
      | error e=>
        dsimp only at h9;subst h9;repeat refine fQ @au ?_
        exact⟨TJ.pn xv ie hB,rfl⟩
     rintro m O7 ⟨B6,h9⟩;cases W with
     | error e=>exact h9.elim
     | ok y9=>
     obtain⟨y7,o4⟩:=y9;dsimp only at h9;obtain⟨rfl,Zp⟩:=h9;have s8:=xv.at B6 fR hB gH;repeat refine fQ @au ?_
     exact ay.mk (⟨1,s,l,[],off⟩,o4) ⟨xv.bA B6 Zp mP hB,rfl,.sl l.length (l.flatMap aW) tk,s8,by simp only[wu,fz],rfl⟩
    ·rw[if_pos rfl];have RJ:=fX U6;simp only[List.length_drop,List.length_cons,List.length_nil]at RJ;have Zw:=fun x:bV=>(VH.ak O6 (k:=O.next) (j:=k) x (by omega)).trans pP
     repeat refine kg4 @au @gH @pP @Zw ?_
     refine ah.s2 ?_;rintro O7 po;have fC:((o3:Int)+1)=((o3+1:Nat):Int):=by omega
     rw[fC]at po;have Az:=xv.set (x:=.cells [.v (.int .i64 2),.str s,.sl l.length (l.flatMap aW) tk,.str [],.v (.int .i64 off),.v (.int .i64 0),.v (.int .i64 0)]) gH m8 fR hB;have IT:TJ O B k n t p L (o3+1) O7:=by rw[po];exact Az.bA bk.set (Rd.set Az.rd) mP hB
     have s8:O7.hp O.next=some (.cells [mi 2,.str s,.sl l.length (l.flatMap aW) tk,.str [],mi off,mi 0,mi 0]):=by rw[po];exact VH.sn (VH.an _ _ _)
     clear po Az;have Ax:=r7 (X:=p) [62] IT.rd ht (by decide);generalize g_ t (o3+1) [62]=W at*;refine ah.p (Ax) ?_ ?_;rotate_left
     ·rintro m O9 ⟨ie,h9⟩;cases W with
      | ok y=>exact h9.elim
      | error e=>
        dsimp only at h9;subst h9;repeat refine fQ @au ?_
        exact⟨TJ.pn IT ie hB,rfl⟩
     rintro m O8 ⟨rY,h9⟩;cases W with
     | error e=>exact h9.elim
     | ok y9=>
     obtain⟨y8,o4⟩:=y9;dsimp only at h9;obtain⟨rfl,Zq⟩:=h9;have pL:=IT.at rY fR hB s8;repeat refine fQ @au ?_
     exact ay.mk (⟨2,s,l,[],off⟩,o4) ⟨IT.bA rY Zq mP hB,rfl,.sl l.length (l.flatMap aW) tk,pL,by simp only[wu,fz],rfl⟩
   rw[if_neg (by simp)];clear hp;repeat refine fQ @au ?_
   have k_:=xr (X:=p) 60 nu ht ho;generalize ee t 60 (t.length+1 - off) off []=F at*;refine ah.p (k_) ?_ ?_;rotate_left
   ·rintro m O9 ⟨ie,h9⟩;cases F with
    | ok y=>exact h9.elim
    | error e=>
      dsimp only at h9;subst h9;repeat refine fQ @au ?_
      exact⟨UB.bA sX (bk.trans (bk.refl _ _) ie) (by omega),rfl⟩
   rintro m O3 ⟨cA,h9⟩;cases F with
   | error e=>exact h9.elim
   | ok y9=>
   obtain⟨s,o2⟩:=y9;dsimp only at h9;obtain⟨rfl,gy⟩:=h9;have bZ:=(cA.hp _ (by omega) (by intro e;injection e;omega)).trans cg;repeat refine pc @au @bZ ?_
   exact ay.mk (⟨4,[],[],s,off⟩,o2) ⟨((hJ cA gy).set bZ m8 fR hB).set (VH.an _ _ _) m8 fR hB,rfl,.sl 0 [] .nil,VH.an _ _ _,by simp only[wu];rfl,rfl⟩
  ·rw[if_pos ⟨h0,rfl⟩]
   have hp:du (t.drop off) [60,63,120,109,108]=true:=by
    unfold qq at hhd;simp only[Bool.and_eq_true]at hhd;exact hhd.1.1
   repeat refine fQ @au ?_
   have hle:=fX hp;have Zv:=Eh (X:=p) [60,63,120,109,108] [63,62] nu ht (by decide) (by rw[List.length_drop]at hle;omega);generalize il t (off+List.length [60,63,120,109,108]) [63,62]=F at*;repeat refine fQ @au ?_
   refine ah.p (Zv) ?_ ?_;rotate_left
   ·rintro m O9 ⟨ie,h9⟩;cases F with
    | ok y=>exact h9.elim
    | error e=>
      dsimp only at h9;subst h9;repeat refine fQ @au ?_
      exact⟨UB.bA sX (bk.trans (bk.refl _ _) ie) (by omega),rfl⟩
   rintro m O3 ⟨cA,h9⟩;cases F with
   | error e=>exact h9.elim
   | ok y9=>
   obtain⟨s,o2⟩:=y9;dsimp only at h9;obtain⟨rfl,gy⟩:=h9;have bZ:=(cA.hp _ (by omega) (by intro e;injection e;omega)).trans cg;repeat refine pc @au @bZ ?_
   exact ay.mk (⟨6,[],[],s,off⟩,o2) ⟨((hJ cA gy).set bZ m8 fR hB).set (VH.an _ _ _) m8 fR hB,rfl,.sl 0 [] .nil,VH.an _ _ _,by simp only[wu];rfl,rfl⟩
 rintro⟨x,o'⟩ O2 ⟨bm,fu,Zu,b9,bI,gG⟩;dsimp only at bm fu b9 bI gG;rw[fu];have bO:=bm.rd.2;simp only[aq]at b9 bO;refine VC.H8 [0,7,8,9,10] (by kernel_rfl) ?_;refine bq.mv 0 ?_;refine bq.bM [(1,.rd),(2,.rd),(3,.rd),(4,.rd),(5,.rd),(6,.one),(7,.one),(8,.one),(9,.one),(10,.one)] ?_;simp only[aj];repeat refine kg3 @au @b9 @bO ?_
 refine VL.wk (EW.top (Wk.sl (oR _))) ?_
 have oN:cz [.v (.int .i64 x.kind),.str x.name,Zu,.str x.text,.v (.int .i64 x.off),.v (.int .i64 0),.v (.int .i64 0)]=xt x:=by
  simp only[wu,bI,xt,aq]
 rw[oN];have dK:=bm.lt;refine VL.afX aa (by simp) (fun i hi=>by match i,hi with | 7,_=>rfl | 0,hi | 1,hi | 2,hi | 3,hi | 4,hi | 5,hi | 6,hi | 8,hi | 9,hi | 10,hi=>cases hi | _+11,hi=>cases hi) (te:=⟨_,7,88,_⟩) (dx:=.slice 217) (q:=.sl 1 (xt x) .full) (j:=1) (ds:=xt x) bm.row rfl rfl (by rw[DM];rfl) adY.1.1 (by rw[DM];rfl) trivial (by dsimp only;omega) (by simp only[maxLen];omega) (by omega) rfl rfl rfl rfl ?_;intro m O3 wm pq gK hm;have dA:O3.hp k=some (.cells [.str t,.v (.int .i64 o'),p]):=(pq.hp k bm.rd.1 (by intro e;exact mP e)).trans bO
 obtain⟨k2,c2,rfl⟩:∃k2 c2,m= .bo k2 0 (n+1) c2:=by
  rcases hm with⟨k2,c2,h1,_⟩ | ⟨h1,_⟩
  ·exact⟨k2,c2,h1⟩
  ·cases h1
 have ajr:B<=k2:=by
  rcases wm with⟨h1,_⟩ | ⟨k3,c3,h1,_,_,h4⟩
  ·cases h1
  ·injection h1 with h1;rw[h1];exact h4.lo
 have hpB:∀i,i<B->gid p≠some i:=fun i hi e=>by
  rcases cx with⟨_,_,hp | hp⟩ | ⟨k3,c,hp,_,_,jN⟩
  ·rw[hp]at e;cases e
  ·rw[hp]at e;cases e
  ·rw[hp]at e;injection e with e;have:=jN.lo;omega
 clear hm gK;try refine pc @au @dA ?_
 refine⟨⟨Nat.le_trans bm.ub.next pq.next,fun i hi hk=>(VH.ak _ _ hk).trans ((pq.hp i (by omega) (hpB i hi)).trans (bm.ub.hp i hi hk))⟩,.bo k2 0 (n+1) c2,⟨Nat.lt_of_lt_of_le bm.rd.1 pq.next,VH.an _ _ _⟩,wm.oO bk.set (by intro e;injection e;omega) (fun _ _ _ e=>by rw[dA]at e;cases e)⟩
theorem Em {O:VH} {a b c d:Nat} {K:VH->Prop} (h:K O):fG Tryz.prog 252 [.ptr a 0,.ptr b 0,.ptr c 0,.ptr d 0] none O K:=by
 refine fG.rec (d:=7) Tryz.func252 (Nat.lt_of_lt_of_eq (by decide:7<19) rfl) ?_;show WC _ _ ⟨19,0⟩ _ _ _ _ _;simp only[cb,Nat.zero_add,Nat.reduceAdd,yO];refine ao @dw @wi ?_;refine VL.pure (by simp) (fun _=>.inl rfl) rfl rfl (gM.DI (bb:=true) Tryz.underlying20 rfl (.inl ⟨rfl,rfl⟩)) ?_;refine WL.sound aa ?_;refine ao @dw @wi ?_;exact h
theorem Zx {O:VH} {a b c d off:Nat} {e:Int} {t:Bs} {K:VH->Prop} {x y:MV} {z1 z2 z3:MV} (ht:t.length<=1000000) (ho:off<=t.length) (ha:O.hp a=some (.cells [.str t])) (hb:O.hp b=some (.cells [x])) (hc:O.hp c=some (.cells [y])) (hd:O.hp d=some (.cells [z1,z2,z3]))
  (han:a<O.next) (YZ:b<O.next) (D3:c<O.next) (BX:d<O.next) (hbc:b≠c) (cw:b≠d) (hcd:c≠d)
  (h:∀O',O.next<=O'.next->(∀i,i<O.next->i≠b->i≠c->i≠d->O'.hp i=O.hp i)->O'.hp b=some (.cells [.sl 0 [] .nil])->O'.hp c=some (.cells [mi e])->O'.hp d=some (.cells [mi off,mi (1+((t.take off).count 10:Nat)),mi ((off:Int) - ff (t.take off) 10 (t.take off).length)])->K O'):fG Tryz.prog 252 [.ptr a 0,.ptr b 0,.ptr c 0,.ptr d 0] (some (zm e off)) O K:=by
 refine fG.rec (d:=7) Tryz.func252 (Nat.lt_of_lt_of_eq (by decide:7<19) rfl) ?_;show WC _ _ ⟨19,0⟩ _ _ _ _ _;simp only[cb,Nat.zero_add,Nat.reduceAdd,yO,zm];refine ao @dw @wi ?_;refine VL.pure (by simp) (fun _=>.inl rfl) rfl rfl (gM.Rw (bb:=false) Tryz.underlying20 rfl (.inl ⟨rfl,rfl⟩)) ?_;refine WL.sound aa ?_;refine ao @dw @wi ?_;refine VL.pure (by simp) (fun _=>.inl rfl) rfl rfl (gM.asT Tryz.underlying375 (fun _ h=>by cases h) rfl) ?_;refine WL.sound aa ?_;refine ao @dw @wi ?_;refine VC.al ?_;rintro O2 ⟨az,jL,iK⟩;have iY:=(az.hp _ han).trans ha;have b9:=(az.hp _ YZ).trans hb;have iJ:=(az.hp _ D3).trans hc;have ju:=(az.hp _ BX).trans hd;have wg:∀(X:bV) {i:Nat} {y:Option bV},i<O.next->O2.hp i=y->(O2.set O.next X).hp i=y:=fun X {i y} hi h=>VH.sn h
 refine VC.oQ [] (O.next) (jL) ?_;intro X;have m9:=wg (.obj X) han iY;have cC:=wg (.obj X) YZ b9;have fh:=wg (.obj X) D3 iJ;have AA:=wg (.obj X) BX ju;have pr:(O2.set O.next (.obj X)).hp O.next=some (.obj X):=VH.an _ _ _;have ic:(O2.set O.next (.obj X)).next=O.next+1:=iK;have bj:O.Ge (O2.set O.next (.obj X)):=az.set (Nat.le_refl _) _;generalize hO4:O2.set O.next (.obj X)=O4 at*;refine ab.av 0 ?_;refine ae @dw ?_;refine ab.rT (m:=.v (.int .i64 e)) 1 ?_ ?_
 ·exact eX @dw
 simp only[aj];refine ab.av 3 ?_;refine ae @dw ?_;refine ab.rT (m:=.v (.int .i64 off)) 4 ?_ ?_
 ·exact eX @dw
 simp only[aj];refine ab.op (i:=2) ?_;refine ao @dw @m9 ?_;refine⟨pr,?_⟩;refine ab.call (i:=5) (aea t off _ ht ho) ?_;rintro _ O3 ⟨rfl,aR⟩;simp only[aj];refine⟨aR.at pr,?_⟩;have gW:=aR.next;have U9:=aR.at pr;have bZ:=aR.at cC;have fC:=aR.at fh;have uJ:=aR.at AA;have bG:O.Ge O3:=bj.trans aR;unfold ov;simp only[aq]at h ⊢;refine ab.op (i:=6) ?_;refine ao @dw @bZ ?_;refine⟨U9,?_⟩;refine ab.op (i:=7) ?_;refine ao @dw @fC ?_;refine⟨U9,?_⟩;refine ab.op (i:=8) ?_;refine ao @dw @uJ ?_;refine⟨U9,?_⟩;refine ab.mc [] ?_;refine ae @dw ?_;refine h _ (by rw[VH.eo,VH.eo,VH.eo,VH.eo];exact bG.next) (fun i hi h1 h2 h3=>?_) ?_ ?_ ?_
 ·rw[VH.ak _ _ (by omega),VH.ak _ _ h3,VH.ak _ _ h2,VH.ak _ _ h1];exact bG.hp i hi
 ·rw[VH.ak _ _ (by omega),VH.ak _ _ cw,VH.ak _ _ hbc,VH.an]
 ·rw[VH.ak _ _ (by omega),VH.ak _ _ hcd,VH.an]
 ·rw[VH.ak _ _ (by omega),VH.an]
theorem kg8 {A1 A2 A3 A4 A5 A6 A7 A8 P Q:Prop} (a1:A1) (a2:A2) (a3:A3) (a4:A4) (a5:A5) (a6:A6) (a7:A7) (a8:A8) (q:Q) (h:A1->A2->A3->A4->A5->A6->A7->A8->Q->P:=by intro a1 a2 a3 a4 a5 a6 a7 a8 q;first | (with_reducible refine VC.ag aa ?_;refine kw8 a1 a2 a3 a4 a5 a6 a7 a8 q) | (with_reducible refine WC.sound aa ?_;refine kw8 a1 a2 a3 a4 a5 a6 a7 a8 q) | (first | with_reducible refine PF ?_ | with_reducible refine PG ?_ | with_reducible refine PH ?_ | with_reducible refine PI ?_);refine kw8 a1 a2 a3 a4 a5 a6 a7 a8 q):P:=h a1 a2 a3 a4 a5 a6 a7 a8 q
def hY (t:Bs):Nat->Nat->List Tk->Except (Int×Nat) (List Tk)
 | 0,_,l=>.ok l
 | n+1,o,l=>if t.length<=o then .ok l else match lL t o with
   | .error e=>.error e
   | .ok (x,o')=>hY t n o' (l++[x])
def sT (t:Bs):Except (Int×Nat) (List Tk):=hY t (t.length+1) 0 []
def lr (t:Bs) (o:Nat):Nat:=1+(t.take o).count 10
def En (t:Bs) (o:Nat):Int:=(o:Int) - ff (t.take o) 10 (t.take o).length
def td (t:Bs) (x:Tk):List MV:=[mi x.kind,.str x.name,.sl x.attrs.length (x.attrs.flatMap aW) .ar,.str x.text,mi x.off,mi (lr t x.off),mi (En t x.off)]
theorem vL {t:Bs} {stop:UInt8}:∀(n o:Nat) (acc:Bs) {e:Int} {p:Nat},ee t stop n o acc= .error (e,p)->p<=t.length
 | 0,o,acc,e,p,h=>by unfold ee at h;cases h
 | n+1,o,acc,e,p,h=>by
   unfold ee at h;cases hg:t[o]? with
   | none=>rw[hg]at h;cases h
   | some c=>
     have PQ:o<t.length:=(List.getElem?_eq_some_iff.1 hg).1;rw[hg]at h;simp only at h;split at h
     ·cases h
     split at h
     ·split at h
      ·injection h with h;injection h with h1 h2;omega
      ·exact vL n _ _ h
     split at h
     ·injection h with h;injection h with h1 h2;omega
     ·exact vL n _ _ h
theorem xw {t:Bs} {o:Nat} {k e:Int} {p:Nat} (h:iB t o k= .error (e,p)):p=o:=by
 unfold iB at h;split at h
 ·injection h with h;injection h with h1 h2;omega
 split at h
 ·injection h with h;injection h with h1 h2;omega
 ·cases h
theorem r9 {t:Bs} {o:Nat} {q:Bs} {e:Int} {p:Nat} (h:g_ t o q= .error (e,p)):p=o:=by
 unfold g_ at h;split at h
 ·injection h with h;injection h with h1 h2;omega
 split at h
 ·cases h
 ·injection h with h;injection h with h1 h2;omega
theorem U_ {t:Bs} {o:Nat} {e:Int} {p:Nat} (ho:o<=t.length) (h:sP t o= .error (e,p)):p<=t.length:=by
 unfold sP at h;split at h
 ·injection h with h;injection h with h1 h2;omega
 rename_i q hq;have PQ:=(List.getElem?_eq_some_iff.1 hq).1;split at h
 ·injection h with h;injection h with h1 h2;omega
 split at h
 ·rename_i e2 h2;injection h with h;subst h
  exact vL _ _ _ h2
 rename_i s2 o2 h2;have:=nB _ _ _ (by omega) (by simp) h2;split at h
 ·injection h with h;injection h with h1 h2;omega
 ·cases h
theorem Hp {t:Bs}:∀(n o:Nat) (l:List (Bs×Bs)) {e:Int} {p:Nat},o<=t.length->kJ t n o l= .error (e,p)->p<=t.length
 | 0,o,l,e,p,ho,h=>by rw[kJ]at h;cases h
 | n+1,o,l,e,p,ho,h=>by
   have uv:=im t o ho;rw[kJ]at h;split at h
   ·cases h
   split at h
   ·rename_i e2 h2;injection h with h;subst h
    have:=xw h2;omega
   rename_i nm o2 h2;have hn:=fK h2;have b9:=im t o2 (by omega);split at h
   ·injection h with h;injection h with h1 h2;omega
   split at h
   ·rename_i e4 h4;injection h with h;subst h
    have:=r9 h4;omega
   rename_i y4 o4 h4;have hw:=kA h4;have cC:=im t o4 (by omega);split at h
   ·rename_i e6 h6;injection h with h;subst h
    exact U_ cC h6
   rename_i v o6 h6;have hv:=zr h6;exact Hp n o6 _ (by omega) h
theorem uK {t:Bs} {o:Nat} {q:Bs} {e:Int} {p:Nat} (ho:o<=t.length) (h:il t o q= .error (e,p)):p<=t.length:=by
 unfold il at h;split at h
 ·injection h with h;injection h with h1 h2
  have h3:=ni lF (ph (t.drop o) q)
  have h4:(ph (t.drop o) q).length<=t.length - o:=by
   unfold ph;split
   ·rw[List.length_take,List.length_drop];omega
   ·rw[List.length_drop];exact Nat.le_refl _
  omega
 split at h
 ·injection h with h;injection h with h1 h2;omega
 ·cases h
theorem Va (s p:Bs) (h:0<=Lib.index s p):Lib.index s p+p.length<=s.length:=by
 induction s with
 | nil=>
   unfold Lib.index at h ⊢;cases p with
   | nil=>simp
   | cons c p=>simp at h
 | cons b l ih=>
   have gK:=Lib.index_ge l p;unfold Lib.index at h ⊢;split
   ·rename_i h1;have:=(List.isPrefixOf_iff_prefix.1 h1).length_le;omega
   ·rename_i h1;rw[if_neg h1]at h;split
    ·rename_i h2;rw[if_pos h2]at h;omega
    ·rename_i h2;have h3:Lib.index l p≠ -1:=by simpa using h2
     have:=ih (by omega);rw[List.length_cons];omega
theorem xx {t:Bs} {o:Nat} {q s:Bs} {p:Nat} (ho:o<=t.length) (h:il t o q= .ok (s,p)):o+q.length<=p/\p<=t.length:=by
 unfold il at h;split at h
 ·cases h
 split at h
 ·cases h
 ·rename_i h1;injection h with h;injection h with h2 h3
  have:=Va (t.drop o) q (by omega);rw[List.length_drop]at this;omega
theorem lM {α β :Type} {f: α -> β} {F:Except (Int×Nat) (α ×Nat)} {e:Int×Nat} (h:sR f F= .error e):F= .error e:=by
 cases F with
 | error e2=>injection h with h;rw[h]
 | ok y=>cases h
theorem iC {α β :Type} {f: α -> β} {F:Except (Int×Nat) (α ×Nat)} {x: β} {o:Nat} (h:sR f F= .ok (x,o)):∃y,F= .ok (y,o)/\x=f y:=by
 cases F with
 | error e2=>cases h
 | ok y=>obtain⟨y,o2⟩:=y;injection h with h;injection h with h1 h2;exact⟨y,by rw[h2],h1.symm⟩
theorem Vb {t:Bs} {o:Nat} {e:Int} {p:Nat} (ho:o<=t.length) (h:lL t o= .error (e,p)):p<=t.length:=by
 have hp:∀{q:Bs},du (t.drop o) q=true->o+q.length<=t.length:=fun hq=>by
  have:=fX hq;rw[List.length_drop]at this;omega
 unfold lL at h;split at h
 ·exact uK (hp ‹_›) (lM h)
 split at h
 ·exact uK (hp ‹_›) (lM h)
 split at h
 ·rename_i h1;refine uK (hp (q:=[60,63,120,109,108]) ?_) (lM h);have:=h1.2;unfold qq at this;simp only[Bool.and_eq_true]at this;exact this.1.1
 split at h
 ·have h0:=hp ‹_›;simp only[List.length_cons,List.length_nil]at h0;unfold p5 at h;split at h
  ·rename_i h2;injection h with h;subst h
   have:=xw h2;omega
  rename_i nm o2 h2;have hn:=fK h2;have b9:=im t o2 (by omega);have:=r9 (lM h);omega
 split at h
 ·have h0:=hp ‹_›;simp only[List.length_cons,List.length_nil]at h0;unfold uG at h;split at h
  ·rename_i h2;injection h with h;subst h
   have:=xw h2;omega
  rename_i nm o2 h2;have hn:=fK h2;split at h
  ·rename_i e3 h3;injection h with h;subst h
   exact Hp _ _ _ (by omega) h3
  rename_i l o3 h3;have ha:=uH _ _ _ (by omega) h3;split at h
  ·have h4:=fX ‹_›;simp only[List.length_drop,List.length_cons,List.length_nil]at h4;have:=r9 (lM h);omega
  ·have:=r9 (lM h);omega
 ·exact vL _ _ _ (lM h)
theorem PR {t:Bs} {stop:UInt8} {n o:Nat} {acc s:Bs} {o':Nat} (ho:o<t.length) (ha:acc.length<=o) (hne:t[o]?≠some stop) (h:ee t stop (n+1) o acc= .ok (s,o')):o<o':=by
 unfold ee at h;have hg:=List.getElem?_eq_getElem ho;rw[hg]at h hne;generalize t[o]=c at*;simp only at h;split at h
 ·rename_i hc;rw[hc]at hne;exact absurd rfl hne
 split at h
 ·split at h
  ·cases h
  ·rename_i h5;obtain⟨k1,k2,k3⟩:=zp (by simpa using h5);rw[List.length_drop]at k2;have:=nB n _ _ (by omega) (by rw[List.length_append];omega) h;omega
 split at h
 ·cases h
 ·have:=nB n _ _ (by omega) (by rw[List.length_append];simp only[List.length_cons,List.length_nil];omega) h;omega
theorem LZ {t:Bs} {o:Nat} {x:Tk} {o':Nat} (ho:o<t.length) (h:lL t o= .ok (x,o')):x.off=o/\o<o'/\o'<=t.length:=by
 have hp:∀{q:Bs},du (t.drop o) q=true->o+q.length<=t.length:=fun hq=>by
  have:=fX hq;rw[List.length_drop]at this;omega
 unfold lL at h;split at h
 ·obtain⟨y,h1,rfl⟩:=iC h;have:=xx (hp ‹_›) h1;simp only[List.length_cons,List.length_nil]at this;exact⟨rfl,by omega,by omega⟩
 split at h
 ·obtain⟨y,h1,rfl⟩:=iC h;have:=xx (hp ‹_›) h1;simp only[List.length_cons,List.length_nil]at this;exact⟨rfl,by omega,by omega⟩
 split at h
 ·rename_i h1;obtain⟨y,h2,rfl⟩:=iC h
  have:=xx (hp (q:=[60,63,120,109,108]) (by
   have:=h1.2;unfold qq at this;simp only[Bool.and_eq_true]at this;exact this.1.1)) h2
  simp only[List.length_cons,List.length_nil]at this;exact⟨rfl,by omega,by omega⟩
 split at h
 ·have h0:=hp ‹_›;simp only[List.length_cons,List.length_nil]at h0;unfold p5 at h;split at h
  ·cases h
  rename_i nm o2 h2;have hn:=fK h2;have b9:=im t o2 (by omega);obtain⟨y,h3,rfl⟩:=iC h;have:=kA h3;exact⟨rfl,by omega,by omega⟩
 split at h
 ·have h0:=hp ‹_›;simp only[List.length_cons,List.length_nil]at h0;unfold uG at h;split at h
  ·cases h
  rename_i nm o2 h2;have hn:=fK h2;split at h
  ·cases h
  rename_i l o3 h3;have ha:=uH _ _ _ (by omega) h3;split at h
  ·obtain⟨y,h4,rfl⟩:=iC h;have:=kA h4;exact⟨rfl,by omega,by omega⟩
  ·obtain⟨y,h4,rfl⟩:=iC h;have:=kA h4;exact⟨rfl,by omega,by omega⟩
 ·rename_i hne;obtain⟨y,h1,rfl⟩:=iC h;have h2:=nB _ _ _ (by omega) (by simp) h1;obtain⟨n,hn⟩:∃n,t.length+1 - o=n+1:=⟨t.length - o,by omega⟩
  rw[hn]at h1;refine⟨rfl,PR ho (by simp) (fun e=>hne ?_) h1,h2.2.1⟩;unfold du;rw[List.drop_eq_getElem_cons ho];rw[List.getElem?_eq_getElem ho]at e;injection e with e;rw[e];simp
theorem Hq (s:Bs) (c:UInt8):∀n:Nat, -1<=ff s c n/\ff s c n<=n
 | 0=>by unfold ff;omega
 | n+1=>by
   have:=Hq s c n;unfold ff;split<;>omega
theorem Zy {A D:List MV} {n:Nat} (hA:A.length=n) {vs:List MV} {i:Nat} {v:MV} (h:vs[i]?=some v):(A++(vs++D))[n+i]?=some v:=by
 have hi:=(List.getElem?_eq_some_iff.1 h).1;rw[List.getElem?_append_right (by omega),List.getElem?_append_left (by omega),hA,Nat.add_sub_cancel_left];exact h
theorem L0 {A D:List MV} {n:Nat} (hA:A.length=n) {vs:List MV} {i:Nat} {v:MV} (h:i<vs.length):(A++(vs++D)).set (n+i) v=A++(vs.set i v++D):=by
 rw[List.set_append_right _ _ (by omega),List.set_append_left _ _ (by omega),hA,Nat.add_sub_cancel_left]
theorem L3 {t:Bs} {a:Nat} (h:a<t.length):lr t (a+1)=lr t a+if t[a]=10 then 1 else 0:=by
 unfold lr;rw[cG _ _ h,List.count_append];split
 ·rename_i h1;rw[h1];simp;omega
 ·rename_i h1;rw[List.count_singleton,if_neg (by simpa using h1)];omega
theorem Row.to {O O':VH} {el:TypeId} {sz B k c:Nat} {L L' sp:List MV} (h:Row O el sz B k c L) (u:bk O (some k) O') (hc:O'.hp k=some (.cells (L'++sp))) (hl:(L'++sp).length=c*sz):Row O' el sz B k c L':=by
 obtain⟨sp0,h1,h2⟩:=h.cells;obtain⟨j,h3,h4,h5⟩:=h.nK;refine⟨⟨sp,hc,hl⟩,⟨j,h3,Nat.lt_of_lt_of_le h4 u.next,(u.hp j h4 ?_).trans h5⟩,h.lo,Nat.lt_of_lt_of_le h.hi u.next⟩;intro e;injection e with e;subst e;rw[h1]at h5;cases h5
theorem Row.Zz {O:VH} {el:TypeId} {sz B k c q:Nat} {L cs:List MV} {x:bV} (h:Row O el sz B k c L) (hq:q≠k) (hc:O.hp q=some (.cells cs)):Row (O.set q x) el sz B k c L:=
 h.oO bk.set hq (fun _ _ e=>by rw[hc]at e;cases e)
theorem uL (t:Bs) (x:Tk):(td t x).length=7:=rfl
set_option maxHeartbeats 800000 in
theorem af2 (t:Bs) (O:VH) (ht:t.length<=65536):VF Tryz.prog 231 [.str t] O (aL fun m O'=>O.Ge O'/\match sT t with
  | .ok l=>∃p,m= .tuple [p,mi 0,.agg [mi 0,mi 0,mi 0]]/\GR O' 217 7 O.next p l.length (l.flatMap (td t))
  | .error e=>m= .tuple [.sl 0 [] .nil,mi e.1,ov t e.2]):=by
 refine VF.D_ (lo:=5) (k:=77) (rs:=[.cell 2 219,.cell 3 32,.cell 4 34]) Tryz.func231 (Enters.sY (by kernel_rfl)) ?_;simp only[cb,Nat.zero_add,Nat.reduceAdd];refine ae @dw ?_;refine VC.gen ?_;rintro O1 qX;obtain⟨aT,dd,di,cg,gB,nU⟩:=PK _ _ _ _ qX;clear qX;refine VC.ag aa (ao @dw @di ?_);try refine fQ @dw ?_
 refine⟨_,rfl,fun D=>?_⟩;refine VC.ag aa (ao @dw @di ?_);refine VC.bx ?_;rintro O2 ⟨az,bO,iK⟩
 replace bO:O2.hp (O.next+4)=some (.cells [.str t,mi (0:Nat),.sl 0 [] .nil]):=by rw[<-dd];exact bO
 rw[dd];have iY:=az.at di;have b9:=az.at cg;have iJ:=az.at gB;have ju:=az.at nU
 replace iK:O2.next=O.next+5:=by omega
 have fW:=aT.trans az;clear aT az di cg gB nU dd O1;refine VC.bz [1,2,3,4,5] (fun x:List Tk×MV=>[.ptr O.next 0,.ptr (O.next+1) 0,.ptr (O.next+2) 0,.ptr (O.next+3) 0,.ptr (O.next+4) 0]) (fun x O'=>UB (O.next+5) (O.next+4) O2 O'/\Rd O' (O.next+4) t t.length x.2/\GR O' 217 7 (O.next+5) x.2 x.1.length (x.1.flatMap xt)/\x.1.length<=t.length/\(∀y∈x.1,y.off<t.length)/\x.1.Pairwise (fun a b=>a.off<=b.off)/\sT t= .ok x.1) ?_ ?_
 ·refine VC.aB ?_;refine VC.bE [] [1,2,3,4,5] (fun x:List Tk×MV×Nat=>[]) (fun x O'=>UB (O.next+5) (O.next+4) O2 O'/\Rd O' (O.next+4) t x.2.2 x.2.1/\GR O' 217 7 (O.next+5) x.2.1 x.1.length (x.1.flatMap xt)/\x.1.length<=x.2.2/\x.2.2<=t.length/\(∀y∈x.1,y.off<x.2.2)/\x.1.Pairwise (fun a b=>a.off<=b.off)/\∃n,t.length+1 - x.2.2<=n/\sT t=hY t n x.2.2 x.1) (fun x=>t.length - x.2.2) (([],.sl 0 [] .nil,0)) ?_ ?_
  ·exact⟨UB.refl _ _ _,⟨by omega,bO⟩,.inl ⟨rfl,rfl,.inl rfl⟩,Nat.zero_le _,Nat.zero_le _,(fun y hy=>by cases hy),List.Pairwise.nil,_,Nat.le_refl _,rfl⟩
  rintro⟨l,p,o⟩ O3 ⟨zw,hr,cx,CT,LW,jZ,qn,n,hn,he⟩;dsimp only at zw hr cx CT LW jZ qn hn he;obtain⟨n,rfl⟩:∃i,n=i+1:=⟨n - 1,by omega⟩
  rw[hY]at he;repeat refine pc @dw @wd ?_
  refine ah.rt (mq hr) ?_;rintro _ O4 ⟨rfl,eO⟩;rw[eO];clear eO O4
  by_cases h1:t.length<=o
  ·rw[if_pos h1]at he;obtain rfl:o=t.length:=by omega
   rw[decide_eq_true h1];repeat refine pc @dw @wd ?_
   exact ay.mk (l,p) ⟨zw,hr,cx,CT,jZ,qn,he⟩
  rw[if_neg h1]at he;rw[decide_eq_false h1];repeat refine pc @dw @wd ?_
  have htv:=Zt hr (by omega) LW (by omega:O.next+4<O.next+5) (by have:=zw.next;omega) cx (by omega);have fu:= @LZ t o;have mM:= @Vb t o;generalize lL t o=F at*;refine ah.p htv ?_ ?_
  ·rintro m O4 ⟨ZA,h4⟩;cases F with
   | error e=>exact h4.elim
   | ok y=>
   obtain⟨x,o2⟩:=y;dsimp only at h4 he;obtain⟨rfl,p2,LY,af3⟩:=h4;obtain⟨k1,k2,k3⟩:=fu (by omega) rfl;repeat refine pc @dw @wd ?_
   refine aD.next (l++[x],p2,o2) ⟨zw.trans ZA,LY,?_,?_,k3,?_,?_,n,?_,he⟩ (hm:=?_)
   ·dsimp only;rw[List.length_append,List.flatMap_append,List.flatMap_singleton];exact af3
   ·dsimp only;rw[List.length_append,List.length_singleton];omega
   ·intro y hy;dsimp only at hy ⊢;rcases List.mem_append.1 hy with hy | hy
    ·have:=jZ y hy;omega
    ·rw[List.mem_singleton.1 hy];omega
   ·dsimp only;rw[List.pairwise_append];exact⟨qn,List.pairwise_singleton _ _,fun a ha b hb=>by rw[List.mem_singleton.1 hb];have:=jZ a ha;omega⟩
   ·dsimp only;omega
   ·dsimp only;omega
  ·rintro m O4 ⟨ZA,h4⟩;cases F with
   | ok y=>exact h4.elim
   | error e=>
   obtain⟨e,off⟩:=e;dsimp only at h4 he;subst h4;have uM:=mM LW rfl;have xy:=zw.trans ZA;have ic:=xy.next;have m9:=(xy.hp O.next (by omega) (by omega)).trans iY;have cC:=(xy.hp (O.next+1) (by omega) (by omega)).trans b9;have fh:=(xy.hp (O.next+2) (by omega) (by omega)).trans iJ;have AA:=(xy.hp (O.next+3) (by omega) (by omega)).trans ju;try refine pc @dw @wd ?_
   refine Zx (by omega) uM m9 cC fh AA (by omega) (by omega) (by omega) (by omega) (by omega) (by omega) (by omega) ?_;intro O5 gf m_ cJ fi IU;simp only[aq]at cJ fi IU;refine ll @dw @wd @cJ @fi @IU ?_;refine⟨⟨by have:=xy.next;omega,fun i hi=>?_⟩,?_⟩
   ·rw[m_ i (by omega) (by omega) (by omega) (by omega),xy.hp i (by omega) (by omega)];exact fW.hp i hi
   ·rw[he];dsimp only;rfl
 rintro⟨l,p⟩ O3 ⟨zw,hr,cx,yJ,jZ,qn,he⟩;dsimp only at zw hr cx yJ jZ qn he;rw[he];have tf:=(zw.hp O.next (by omega) (by omega)).trans iY;have bZ:=(zw.hp (O.next+1) (by omega) (by omega)).trans b9;have fC:=(zw.hp (O.next+2) (by omega) (by omega)).trans iJ;have uJ:=(zw.hp (O.next+3) (by omega) (by omega)).trans ju;have gW:=zw.next;have ec:∀i,i<O.next->O3.hp i=O.hp i:=fun i hi=>(zw.hp i (by omega) (by omega)).trans (fW.hp i hi)
 have dA:=hr.2;simp only[aq]at dA;rcases cx with⟨h0,hL,hp⟩ | ⟨k2,c,rfl,yH,nP,jN⟩
 ·obtain rfl:l=[]:=List.eq_nil_of_length_eq_zero h0;have fin:∀{p:MV} {O5:VH},(p= .sl 0 [] .nil\/p= .sl 0 [] .full)->O.next<=O5.next->(∀i,i<O.next->O5.hp i=O.hp i)->(O.Ge O5/\∃p',MV.tuple [p,mi 0,.agg [mi 0,mi 0,mi 0]]= .tuple [p',mi 0,.agg [mi 0,mi 0,mi 0]]/\GR O5 217 7 O.next p' 0 []):=fun hp hn hh=>⟨⟨hn,hh⟩,_,rfl,.inl ⟨rfl,rfl,hp⟩⟩
  have hO:∀{x y z:bV} {i:Nat},i<O.next->((((O3.set (O.next+1) x).set (O.next+2) y).set (O.next+3) z)).hp i=O.hp i:=fun hi=>by
   rw[VH.ak _ _ (by omega),VH.ak _ _ (by omega),VH.ak _ _ (by omega)];exact ec _ hi
  rcases hp with rfl | rfl
  ·refine VC.ag aa (ao @dw @wd ?_);refine VC.bu ?_;refine VC.ag aa (aM @dw @wd @dA ?_);refine VC.aB ?_;refine VC.bE [6,7,32] [1,2,3,4,5,31] (fun _:Unit=>[mi 1,mi 0,mi 0]) (fun _ O'=>O'=O3) (fun _=>0) (()) ?_ ?_
   ·exact rfl
   rintro⟨⟩ O4 eO;rw[eO];clear eO O4
   repeat refine kg6 @dw @wd @dA @bZ @fC @uJ ?_
   refine Em ?_;refine ao @dw @wd ?_;exact fin (by simp) (by rw[VH.eo,VH.eo,VH.eo];omega) (fun i hi=>hO hi)
  ·refine VC.ag aa (ao @dw @wd ?_);refine VC.bu ?_;refine VC.ag aa (aM @dw @wd @dA ?_);refine VC.aB ?_;refine VC.bE [6,7,32] [1,2,3,4,5,31] (fun _:Unit=>[mi 1,mi 0,mi 0]) (fun _ O'=>O'=O3) (fun _=>0) (()) ?_ ?_
   ·exact rfl
   rintro⟨⟩ O4 eO;rw[eO];clear eO O4
   repeat refine kg6 @dw @wd @dA @bZ @fC @uJ ?_
   refine Em ?_;refine ao @dw @wd ?_;exact fin (by simp) (by rw[VH.eo,VH.eo,VH.eo];omega) (fun i hi=>hO hi)
 obtain⟨sp,hsp,G1⟩:=jN.cells;have mh:=jN.lo;have PU:=jN.hi;refine VC.ag aa (ao @dw @wd ?_);refine VC.bu ?_;refine VC.ag aa (aM @dw @wd @dA ?_);refine VC.aB ?_;refine VC.bE [6,7,32] [1,2,3,4,5,31] (fun x:Nat×Nat=>[mi (lr t x.2),mi x.2,mi x.1]) (fun x O'=>bk O3 (some k2) O'/\O'.hp k2=some (.cells ((l.take x.1).flatMap (td t)++(l.drop x.1).flatMap xt++sp))/\x.1<=l.length/\x.2<=t.length/\(∀y∈l.drop x.1,x.2<=y.off)) (fun x=>l.length - x.1) ((0,0)) ?_ ?_
 ·exact⟨bk.refl _ _,hsp,Nat.zero_le _,Nat.zero_le _,fun _ _=>Nat.zero_le _⟩
 rintro⟨j,a⟩ O4 ⟨eN,fh,hj,ha,xi⟩;dsimp only at eN fh hj ha xi;have lq:=(eN.hp _ (by omega) (by intro e;injection e;omega)).trans dA;have Vc:=(eN.hp _ (by omega) (by intro e;injection e;omega)).trans tf;have hlj:=Nat.min_eq_left hj;by_cases yS:j<l.length;rotate_left
 ·obtain rfl:j=l.length:=by omega
  rw[List.take_length,List.drop_length,List.flatMap_nil,List.append_nil]at fh;have cC:=(eN.hp _ (by omega) (by intro e;injection e;omega)).trans bZ;have aed:=(eN.hp _ (by omega) (by intro e;injection e;omega)).trans fC;have AA:=(eN.hp _ (by omega) (by intro e;injection e;omega)).trans uJ
  have ahS:Row O4 217 7 (O.next+5) k2 c (l.flatMap (td t)):=jN.to eN fh (by
   rw[List.length_append,aX (uL t)];rw[List.length_append,nP]at G1;exact G1)
  have ic:=eN.next
  have hO:∀{x y z:bV} {i:Nat},i<O.next->((((O4.set (O.next+1) x).set (O.next+2) y).set (O.next+3) z)).hp i=O.hp i:=fun hi=>by
   rw[VH.ak _ _ (by omega),VH.ak _ _ (by omega),VH.ak _ _ (by omega)];exact(eN.hp _ (by omega) (by intro e;injection e;omega)).trans (ec _ hi)
  repeat refine kg6 @dw @wd @lq @cC @aed @AA ?_
  refine Em ?_;refine ao @dw @wd ?_;refine⟨⟨by rw[VH.eo,VH.eo,VH.eo];omega,fun i hi=>hO hi⟩,_,rfl,.inr ⟨k2,c,rfl,yH,aX (uL t) _,?_⟩⟩;exact(((ahS.Zz (by omega) cC).Zz (by omega) (VH.sn aed)).Zz (by omega) (VH.sn (VH.sn AA))).afq (by omega)
 have PO:=List.drop_eq_getElem_cons yS;have fu:(l.take (j+1))=l.take j++[l[j]]:=cG _ _ yS;have hxo:l[j].off<t.length:=jZ _ (List.getElem_mem yS);have hxa:a<=l[j].off:=xi _ (by rw[PO];exact List.mem_cons_self ..)
 have rL:∀y∈l.drop (j+1),l[j].off<=y.off:=by
  have:=qn.drop (i:=j);rw[PO,List.pairwise_cons]at this;exact this.1
 rw[PO,List.flatMap_cons]at fh;generalize hx:l[j]=x at*;have hA:((l.take j).flatMap (td t)).length=j*7:=by rw[aX (uL t),List.length_take,hlj]
 generalize hAe:(l.take j).flatMap (td t)=A at*;generalize hEe:(l.drop (j+1)).flatMap xt=E at*;refine VC.ag aa (ao @dw @wd ?_);try refine pc @dw @wd ?_
 refine VC.bu (VC.aB ?_);refine VC.ag aa (ao @dw @wd ?_);refine VC.ag aa (aM @dw @wd @lq ?_);rw[List.append_assoc,List.append_assoc]at fh;have Vd:(A++(xt x++(E++sp)))[j*7+4]?=some (.v (.int .i64 x.off)):=Zy hA (vs:=xt x) rfl
 have hCl:j*7+7<=(A++(xt x++(E++sp))).length:=by
  rw[List.length_append,List.length_append,Ek,hA];omega
 have hCs:∀(y z:MV),((A++(xt x++(E++sp))).set (j*7+5) y).set (j*7+6) z=A++([mi x.kind,.str x.name,.sl x.attrs.length (x.attrs.flatMap aW) .ar,.str x.text,mi x.off,y,z]++(E++sp)):=fun y z=>by
  rw[L0 hA (by rw[Ek];decide),L0 hA (by rw[List.length_set,Ek];decide)];rfl
 generalize A++(xt x++(E++sp))=C at*;refine VC.bu (VC.aB ?_);refine VC.bE [6,7] [1,2,3,4,5,9,31,32] (fun b:Nat=>[mi (lr t b),mi b]) (fun b O'=>O'=O4/\b<=x.off) (fun b=>x.off - b) (a) ?_ ?_
 ·exact⟨rfl,hxa⟩
 rintro b O5 ⟨eO,hb⟩;rw[eO];clear eO O5
 have ajs:lr t b<=1+t.length:=by
  unfold lr;have h1:=List.count_le_length (a:=(10:UInt8)) (l:=t.take b);rw[List.length_take]at h1;omega
 by_cases dX:b<x.off
 ·have Ve:b<t.length:=by omega
  have hg:=List.getElem?_eq_getElem Ve;have UA:=L3 Ve;generalize t[b]=ch at*;generalize lr t b=ln at*;by_cases B_:ch=10
  ·rw[if_pos B_]at UA;have e1:((ch.toNat:Int)==10)=true:=by rw[B_];rfl
   repeat refine kg8 @dw @wd @fh @Vd @Vc @hg @aE @e1 ?_
   exact aD.next (b+1) ⟨rfl,by omega⟩ (hl:=(by rw[UA];rfl))
  ·rw[if_neg B_]at UA;have e1:((ch.toNat:Int)==10)=false:=by simpa using fun e:(ch.toNat:Int)=10=>B_ (UInt8.toNat_inj.1 (by simpa using(by omega:ch.toNat=10)))
   repeat refine kg8 @dw @wd @fh @Vd @Vc @hg @aE @e1 ?_
   exact aD.next (b+1) ⟨rfl,by omega⟩ (hl:=(by rw[UA];rfl))
 obtain rfl:b=x.off:=by omega
 generalize Y0:lr t x.off=ln at*;repeat refine kg5 @dw @wd @fh @Vd @Vc ?_
 have gG:ff (t.take x.off) 10 (t.take x.off).length<=x.off/\ -1<=ff (t.take x.off) 10 (t.take x.off).length:=by
  have h1:=Hq (t.take x.off) 10 (t.take x.off).length;rw[List.length_take,Nat.min_eq_left (by omega)]at h1 ⊢;omega
 have hlen:(t.take x.off).length<=1000000:=by rw[List.length_take];omega
 refine ah.rt (Au (t.take x.off) 10 _ hlen) ?_;rintro _ O5 ⟨rfl,eO⟩;rw[eO];clear eO O5
 have ahT:En t x.off=(x.off:Int) - ff (t.take x.off) 10 (t.take x.off).length:=rfl;generalize ff (t.take x.off) 10 (t.take x.off).length=lf at*;repeat refine kg3 @dw @wd @fh ?_
 refine aD.next (j+1,x.off) ⟨eN.trans (bk.set.trans bk.set),?_,yS,Nat.le_of_lt hxo,rL⟩ (hl:=(by dsimp only;rw[Y0];rfl));rw[VH.an,fu,List.flatMap_append,List.flatMap_singleton];have hC:=hCs (mi ln) (mi ((x.off:Int) - lf))
 have h7:td t x=[mi x.kind,.str x.name,.sl x.attrs.length (x.attrs.flatMap aW) .ar,.str x.text,mi x.off,mi ln,mi ((x.off:Int) - lf)]:=by
  unfold td;rw[Y0,ahT]
 rw[hAe,hEe,h7,List.append_assoc,List.append_assoc, <-hC];rfl
set_option linter.defProp false in
def bD:=And.intro lK<|And.intro Ao T9
abbrev eE:List MV:=[.v (.bool false),.str [],.str [],.str [],.str [],.str [],.str [],.str [],.sl 0 [] .nil,.sl 0 [] .nil,.sl 0 [] .nil]
theorem ZB {O:VH} {a b c:Nat} {K:VH->Prop} (h:K O):fG Tryz.prog 234 [.ptr a 0,.ptr b 0,.ptr c 0] none O K:=by
 refine fG.rec (d:=6) Tryz.func234 (Nat.lt_of_lt_of_eq (by decide:6<17) rfl) ?_;show WC _ _ ⟨17,0⟩ _ _ _ _ _;simp only[cb,Nat.zero_add,Nat.reduceAdd,yO];refine ao @bD @wi ?_;refine VL.pure (by simp) (fun _=>.inl rfl) rfl rfl (gM.DI (bb:=true) Tryz.underlying20 rfl (.inl ⟨rfl,rfl⟩)) ?_;refine WL.sound aa ?_;refine ao @bD @wi ?_;exact h
theorem iD {O:VH} {a b c:Nat} {e:Int} {s:Bs} {K:VH->Prop} {x0 x1 x2 x3 x4 x5 x6 x7 x8 x9 x10 y z:MV} (ha:O.hp a=some (.cells [x0,x1,x2,x3,x4,x5,x6,x7,x8,x9,x10])) (hb:O.hp b=some (.cells [y])) (hc:O.hp c=some (.cells [z]))
  (han:a<O.next) (YZ:b<O.next) (D3:c<O.next) (PV:a≠b) (hac:a≠c) (hbc:b≠c)
  (h:∀O',O.next<=O'.next->(∀i,i<O.next->i≠a->i≠b->i≠c->O'.hp i=O.hp i)->O'.hp a=some (.cells eE)->O'.hp b=some (.cells [mi e])->O'.hp c=some (.cells [.str s])->K O'):fG Tryz.prog 234 [.ptr a 0,.ptr b 0,.ptr c 0] (some (r3 e s)) O K:=by
 refine fG.rec (d:=6) Tryz.func234 (Nat.lt_of_lt_of_eq (by decide:6<17) rfl) ?_;show WC _ _ ⟨17,0⟩ _ _ _ _ _;simp only[cb,Nat.zero_add,Nat.reduceAdd,yO,r3];refine ao @bD @wi ?_;refine VL.pure (by simp) (fun _=>.inl rfl) rfl rfl (gM.Rw (bb:=false) Tryz.underlying20 rfl (.inl ⟨rfl,rfl⟩)) ?_;refine WL.sound aa ?_;refine ao @bD @wi ?_;refine VL.pure (by simp) (fun _=>.inl rfl) rfl rfl (gM.asT Tryz.underlying357 (fun _ h=>by cases h) rfl) ?_;refine WL.sound aa ?_;refine ao @bD @wi ?_;refine VC.al ?_;rintro O2 ⟨az,jL,iK⟩;have wg:∀(X:bV) {i:Nat} {y:Option bV},i<O.next->O.hp i=y->(O2.set O.next X).hp i=y:=fun X {i y} hi h=>VH.sn ((az.hp _ hi).trans h)
 refine VC.oQ [] (O.next) (jL) ?_;intro X;have m9:=wg (.obj X) han ha;have cC:=wg (.obj X) YZ hb;have fh:=wg (.obj X) D3 hc;have pr:(O2.set O.next (.obj X)).hp O.next=some (.obj X):=VH.an _ _ _;have ic:(O2.set O.next (.obj X)).next=O.next+1:=iK;have bj:O.Ge (O2.set O.next (.obj X)):=az.set (Nat.le_refl _) _;generalize hO4:O2.set O.next (.obj X)=O4 at*;refine ab.av 0 ?_;refine ae @bD ?_;refine ab.av 1 ?_;refine ae @bD ?_;refine ab.rT (m:=.v (.int .i64 e)) 2 ?_ ?_
 ·exact eX @bD
 simp only[aj];refine ab.av 3 ?_;refine ae @bD ?_;refine ab.rT (m:=.str s) 4 ?_ ?_
 ·exact eX @bD
 simp only[aj];refine ab.op (i:=5) ?_;refine ao @bD @m9 ?_;refine⟨pr,?_⟩;refine ab.op (i:=6) ?_;refine ao @bD @cC ?_;refine⟨pr,?_⟩;refine ab.op (i:=7) ?_;refine ao @bD @fh ?_;refine⟨pr,?_⟩;refine ab.mc [] ?_;refine ae @bD ?_;refine h _ (by show O.next<=O4.next;omega) (fun i hi h1 h2 h3=>?_) ?_ ?_ ?_
 ·rw[VH.ak _ _ (by omega),VH.ak _ _ (by omega),VH.ak _ _ (by omega),VH.ak _ _ (by omega)];exact bj.hp i hi
 ·rw[VH.ak _ _ (by omega),VH.ak _ _ (by omega),VH.ak _ _ (by omega)];exact VH.an _ _ _
 ·rw[VH.ak _ _ (by omega),VH.ak _ _ (by omega)];exact VH.an _ _ _
 ·rw[VH.ak _ _ (by omega)];exact VH.an _ _ _
structure uN (O:VH) (E:List MV) (O':VH) (cs:List MV):Prop where
 th:∀i,i<O.next->O'.hp i=O.hp i
 lt:O.next+5<=O'.next
 d:O'.hp (O.next+1)=some (.cells cs)
 e:O'.hp (O.next+2)=some (.cells [mi 0])
 w:O'.hp (O.next+3)=some (.cells [.str []])
 x:O'.hp (O.next+4)=some (.cells E)
theorem uN.ge {O O' O2:VH} {E cs:List MV} (h:uN O E O' cs) (k:O'.Ge O2):uN O E O2 cs:=by
 have h1:=h.lt;exact⟨fun i hi=>(k.hp i (by omega)).trans (h.th i hi),Nat.le_trans h1 k.next,k.at h.d,k.at h.e,k.at h.w,k.at h.x⟩
theorem uN.st {O O':VH} {E cs cs':List MV} (h:uN O E O' cs):uN O E (O'.set (O.next+1) (.cells cs')) cs':=
 ⟨fun i hi=>VH.sn (h.th i hi),h.lt,VH.an _ _ _,VH.sn h.e,VH.sn h.w,VH.sn h.x⟩
theorem uN.other {O O' O2:VH} {E cs:List MV} {k:Nat} {x:bV} (h:uN O E O' cs) (hk:O.next+5<=k) (bO:k<O'.next) (g:(O'.set k x).Ge O2):uN O E O2 cs:=by
 have h1:=h.lt;have e1:(O'.set k x).next=O'.next:=rfl;have h4:=g.next
 have key:∀j,j<O.next+5->O2.hp j=O'.hp j:=fun j hj=>by
  rw[g.hp j (by omega),VH.ak _ _ (by omega)]
 exact⟨fun i hi=>(key i (by omega)).trans (h.th i hi),by omega,(key _ (by omega)).trans h.d,(key _ (by omega)).trans h.e,(key _ (by omega)).trans h.w,(key _ (by omega)).trans h.x⟩
theorem uN.ahU {O O':VH} {E cs:List MV} {k:Nat} {x:bV} (h:uN O E O' cs) (hk:O.next+5<=k):uN O E (O'.set k x) cs:=
 ⟨fun i hi=>VH.sn (h.th i hi),h.lt,VH.sn h.d,VH.sn h.e,VH.sn h.w,VH.sn h.x⟩
theorem VC.rs {P:Program} {n:Sz} {D:List Deferred} {c:Code} {e:Env} {Q:VQ} {O O':VH} {E cs cs':List MV} (h:uN O E O' cs) (k:∀O3,uN O E O3 cs'->VC P n D c e O3 Q):VC P n D c e (O'.set (O.next+1) (.cells cs')) Q:=k _ h.st
def uO (x:Nd) (w:Bs):Except (Int×Bs) (List Dp):=
 match bR x w qP with
 | .error e=>.error e
 | .ok ((_,_),false)=>.ok []
 | .ok ((y,wy),true)=>kQ y wy true
def uP (x:Nd) (w:Bs):Except (Int×Bs) (Bool×Gv):=
 match bR x w uw with
 | .error e=>.error e
 | .ok ((_,_),false)=>.ok (false,⟨[],[],[]⟩)
 | .ok ((y,wy),true)=>match bC y wy dC true eB with
   | .error e=>.error e
   | .ok g=>match bC y wy dm true eB with
     | .error e=>.error e
     | .ok a=>match bC y wy eU true ur with
       | .error e=>.error e
       | .ok v=>.ok (true,⟨g,a,v⟩)
def nV (x:Nd):Except (Int×Bs) Pm:=
 bif x.nm==fP then match uP x x.nm with
  | .error e=>.error e
  | .ok p=>match bC x x.nm dC false de with
  | .error e=>.error e
  | .ok g=>match bC x x.nm dm true de with
  | .error e=>.error e
  | .ok a=>match bC x x.nm eU false de with
  | .error e=>.error e
  | .ok v=>match bC x x.nm wM false de with
  | .error e=>.error e
  | .ok k=>match kx x x.nm with
  | .error e=>.error e
  | .ok P=>match uO x x.nm with
  | .error e=>.error e
  | .ok M=>match kQ x x.nm false with
  | .error e=>.error e
  | .ok D=>.ok ⟨p.1,p.2,g,a,v,k,P,M,D⟩
 else .error (20,x.nm)
def zx:Pm:=⟨false,⟨[],[],[]⟩,[],[],[],[],[],[],[]⟩
theorem acQ (x:Nd) (O:VH) (hx:jM x<=1000000):VF Tryz.prog 208 [.agg (cO x)] O (aL fun m O'=>O.Ge O'/\match nV x with
  | .ok p=>m= .tuple [.agg (fI p),mi 0,.str []]
  | .error e=>m= .tuple [.agg (fI zx),mi e.1,.str e.2]):=by
 refine VF.fg ?_;obtain⟨zn,za,cB,zt⟩:=x;have qn:=o8 (.mk zn za cB zt) zn;have hfp:=qS (.mk zn za cB zt) zn uw;have hfm:=qS (.mk zn za cB zt) zn qP;have hpr:=Y6 (.mk zn za cB zt) zn;have zj:=RQ (.mk zn za cB zt) zn false;obtain⟨PE,hP⟩:∃PE,nV (.mk zn za cB zt)=PE:=⟨_,rfl⟩
 rw[hP];unfold nV at hP;simp only[jJ,cO,List.cons_append,List.nil_append]at qn hfp hfm hpr zj ⊢;simp only[Nd.nm]at hP;refine VF.deferred (lo:=5) (k:=64) (rs:=[.cell 2 132,.cell 3 32,.cell 4 9]) Tryz.func208 (Enters.sY (by kernel_rfl)) ?_;simp only[cb,Nat.zero_add,Nat.reduceAdd];refine ae @bD ?_;refine⟨_,rfl,fun D=>?_⟩;refine VC.gen ?_;rintro O1 qX;obtain⟨aT,dd,di,cg,gB,nU⟩:=PK _ _ _ _ qX;clear qX;refine VC.ag aa (aM @bD @wd @di ?_);refine VC.al ?_;rintro O2 ⟨az,bO,iK⟩;rw[dd]at bO ⊢
 have hd:uN O [.str zn,.sl za.length (za.flatMap aW) .ar,.sl cB.length (ax cB) .ar,.str zt,.str zn] O2 eE:=
  ⟨fun i hi=>az.at (aT.hp i hi),by omega,az.at cg,az.at gB,az.at nU,bO⟩
 have rF:=az.at di;clear aT az dd iK bO di cg gB nU O1;cases hb:zn==fP
 ·rw[hb,cond_false]at hP;rw[<-hP];have oG:(zn != [112,114,111,106,101,99,116])=true:=by rw[bne];simp only[fP]at hb;rw[hb];rfl
  simp only[fP]at hb;refine VC.ag aa (ll @bD @wd @rF @hb @oG ?_);refine ah.p (kW _ _ _) ?_ ?_
  ·rintro m O9 ⟨_,h⟩;exact h.elim
  rintro m O9 ⟨rfl,rfl⟩;refine ao @bD @wd ?_;refine iD hd.d hd.e hd.w (by have:=hd.lt;omega) (by have:=hd.lt;omega) (by have:=hd.lt;omega) (by omega) (by omega) (by omega) ?_;intro O5 gf m_ fp cJ fi;simp only[aq]at cJ;refine ll @bD @wd @fp @cJ @fi ?_;exact⟨⟨by have:=hd.lt;omega,fun i hi=>by rw[m_ i (by have:=hd.lt;omega) (by omega) (by omega) (by omega)];exact hd.th i hi⟩,rfl⟩
 rw[hb,cond_true]at hP;have hw:zn.length<=10000:=by rw[eq_of_beq hb];decide
 have hw3:zn.length<=3000:=by rw[eq_of_beq hb];decide
 have oG:(zn != [112,114,111,106,101,99,116])=false:=by rw[bne];simp only[fP]at hb;rw[hb];rfl
 simp only[fP]at hb;refine VC.ag aa (ll @bD @wd @rF @hb @oG ?_);clear hb oG rF;refine VC.bz [1,2,3,4,5] (fun _:Bool×Gv=>[.ptr O.next 0,.ptr (O.next+1) 0,.ptr (O.next+2) 0,.ptr (O.next+3) 0,.ptr (O.next+4) 0]) (fun p O'=>uN O [.str zn,.sl za.length (za.flatMap aW) .ar,.sl cB.length (ax cB) .ar,.str zt,.str zn] O' [mb p.1,.str p.2.g,.str p.2.a,.str p.2.v,.str [],.str [],.str [],.str [],.sl 0 [] .nil,.sl 0 [] .nil,.sl 0 [] .nil]/\uP (.mk zn za cB zt) zn= .ok p) ?_ ?_
 ·have uy:= @qU (.mk zn za cB zt) zn uw;have uz:∀e,bR (.mk zn za cB zt) zn uw= .error e->uP (.mk zn za cB zt) zn= .error e:=fun e h=>by unfold uP;rw[h]
  have m7:∀y wy,bR (.mk zn za cB zt) zn uw= .ok ((y,wy),false)->uP (.mk zn za cB zt) zn= .ok (false,⟨[],[],[]⟩):=fun y wy h=>by unfold uP;rw[h]
  have gZ:∀y wy,bR (.mk zn za cB zt) zn uw= .ok ((y,wy),true)->uP (.mk zn za cB zt) zn=match bC y wy dC true eB with
   | .error e=>.error e
   | .ok g=>match bC y wy dm true eB with
     | .error e=>.error e
     | .ok a=>match bC y wy eU true ur with
       | .error e=>.error e
       | .ok v=>.ok (true,⟨g,a,v⟩):=fun y wy h=>by unfold uP;rw[h]
  generalize uP (.mk zn za cB zt) zn=QE at*;generalize bR (.mk zn za cB zt) zn uw=F at*;have dX:=hd.x;refine VC.ag aa (aM @bD @wd @dX ?_);refine ah.p (hfp O2 (by have:=jo (.mk zn za cB zt);omega) (by omega) (by decide)) ?_ ?_;rotate_left
  ·rintro m O9 ⟨aY,h⟩;have bn:=hd.ge aY;cases F with
   | ok y=>exact h.elim
   | error e=>
     dsimp only at h;rw[uz e rfl]at hP;dsimp only at hP;rw[h, <-hP];refine ao @bD @wd ?_;refine iD bn.d bn.e bn.w (by have:=bn.lt;omega) (by have:=bn.lt;omega) (by have:=bn.lt;omega) (by omega) (by omega) (by omega) ?_;intro O5 gf m_ fp cJ fi;simp only[aq]at cJ;refine ll @bD @wd @fp @cJ @fi ?_;exact⟨⟨by have:=bn.lt;omega,fun i hi=>by rw[m_ i (by have:=bn.lt;omega) (by omega) (by omega) (by omega)];exact bn.th i hi⟩,rfl⟩
  rintro m O3 ⟨aR,h⟩;cases F with
  | error e=>exact h.elim
  | ok y=>
  obtain⟨⟨y,wy⟩,b⟩:=y;dsimp only at h;subst h;obtain⟨Y4,uA⟩:=uy rfl;have ou:wy.length<=10000:=by rw[uA];simp only[List.length_append,List.length_cons,List.length_nil];omega
  have ZC:jM y<=1000000:=by omega
  clear uy uA uz
  replace gZ:=fun h:b=true=>by subst h;exact gZ y wy rfl
  replace m7:b=false->QE= .ok (false,⟨[],[],[]⟩):=fun h=>by subst h;exact m7 y wy rfl
  have mK:=fun O'=>o8 y wy dC true eB 89 [] O' ZC ou (by decide) (by kernel_rfl) (fun s mj _ hs=>rV s mj (by simp only[maxLen];omega))
  have v7:=fun O'=>o8 y wy dm true eB 89 [] O' ZC ou (by decide) (by kernel_rfl) (fun s mj _ hs=>rV s mj (by simp only[maxLen];omega))
  have nW:=fun O'=>o8 y wy eU true ur 106 [] O' ZC ou (by decide) (by kernel_rfl) (fun s mj _ hs=>Pq s mj (by simp only[maxLen];omega))
  generalize bC y wy dC true eB=W1 at*;generalize bC y wy dm true eB=W2 at*;generalize bC y wy eU true ur=W3 at*;obtain⟨yn,ya,yk,yt⟩:=y;simp only[jJ,cO,List.cons_append,List.nil_append]at mK v7 nW ⊢;have bZ:=hd.ge aR;have qs:=bZ.lt;refine ao @bD @wd ?_;refine VC.al ?_;rintro O4 ⟨bj,lq,ic⟩;have cC:=bZ.ge bj;clear hd bZ aR bj dX;cases b
  ·rw[m7 rfl]at hP ⊢;refine WC.sound aa (ao @bD @wd ?_);exact ay.mk (false,⟨[],[],[]⟩) ⟨cC,rfl⟩
  replace gZ:=gZ rfl
  clear m7;have cw:=cC.d;refine VC.ag aa (ao @bD @wd ?_);refine WC.sound aa (aM @bD @wd @cw ?_);have hbs:=cC.st (cs':=[.v (.bool true),.str [],.str [],.str [],.str [],.str [],.str [],.str [],.sl 0 [] .nil,.sl 0 [] .nil,.sl 0 [] .nil]);have hks:=(VH.ak O4 (.cells [.v (.bool true),.str [],.str [],.str [],.str [],.str [],.str [],.str [],.sl 0 [] .nil,.sl 0 [] .nil,.sl 0 [] .nil]) (by omega:O3.next≠O.next+1)).trans lq;have gf:(O4.set (O.next+1) (.cells [.v (.bool true),.str [],.str [],.str [],.str [],.str [],.str [],.str [],.sl 0 [] .nil,.sl 0 [] .nil,.sl 0 [] .nil])).next=O4.next:=rfl;clear cw cC lq;generalize O4.set (O.next+1) (.cells [.v (.bool true),.str [],.str [],.str [],.str [],.str [],.str [],.str [],.sl 0 [] .nil,.sl 0 [] .nil,.sl 0 [] .nil])=O5 at*;refine VC.oQ [7,8] (O3.next) (hks) ?_;intro X;refine ab.rT (m:=.agg [.str yn,.sl ya.length (ya.flatMap aW) .ar,.sl yk.length (ax yk) .ar,.str yt,.str wy]) 0 ?_ ?_
  ·exact eX @bD
  simp only[aj];refine ab.rT (m:=.agg [.str yn,.sl ya.length (ya.flatMap aW) .ar,.sl yk.length (ax yk) .ar,.str yt,.str wy]) 2 ?_ ?_
  ·exact eX @bD
  simp only[aj];refine ab.rT (m:=.agg [.str yn,.sl ya.length (ya.flatMap aW) .ar,.sl yk.length (ax yk) .ar,.str yt,.str wy]) 4 ?_ ?_
  ·exact eX @bD
  simp only[aj];have F1:=fun(O9:VH) (g:(O5.set O3.next (.obj X)).Ge O9)=>hbs.other (k:=O3.next) (x:=.obj X) (by omega) (by omega) g
  have kz:∀O9,(O5.set O3.next (.obj X)).Ge O9->O9.hp O3.next=some (.obj X):=fun O9 g=>(g.hp _ (by show O3.next<O5.next;omega)).trans (VH.an _ _ _)
  generalize O5.set O3.next (.obj X)=O6 at*;have hG:=VH.Ge.refl O6;refine ab.o_ (i:=1) (mK O6) ?_ ?_;rotate_left
  ·rintro m O9 ⟨aY,h⟩;cases W1 with
   | ok s=>exact h.elim
   | error e=>
     dsimp only at h gZ;rw[gZ]at hP;dsimp only at hP;rw[h, <-hP];have bn:=F1 _ (hG.trans aY);refine ao @bD @wd ?_;refine iD bn.d bn.e bn.w (by have:=bn.lt;omega) (by have:=bn.lt;omega) (by have:=bn.lt;omega) (by omega) (by omega) (by omega) ?_;intro O5 gf m_ fp cJ fi;simp only[aq]at cJ;refine ll @bD @wd @fp @cJ @fi ?_;exact⟨⟨by have:=bn.lt;omega,fun i hi=>by rw[m_ i (by have:=bn.lt;omega) (by omega) (by omega) (by omega)];exact bn.th i hi⟩,rfl⟩
  rintro m O7 ⟨aY,h⟩;cases W1 with
  | error e=>exact h.elim
  | ok sg=>
  dsimp only at h gZ;subst h;simp only[aj]
  replace hG:=hG.trans aY
  clear aY;refine⟨kz _ hG,?_⟩;refine ab.o_ (i:=3) (v7 O7) ?_ ?_;rotate_left
  ·rintro m O9 ⟨aY,h⟩;cases W2 with
   | ok s=>exact h.elim
   | error e=>
     dsimp only at h gZ;rw[gZ]at hP;dsimp only at hP;rw[h, <-hP];have bn:=F1 _ (hG.trans aY);refine ao @bD @wd ?_;refine iD bn.d bn.e bn.w (by have:=bn.lt;omega) (by have:=bn.lt;omega) (by have:=bn.lt;omega) (by omega) (by omega) (by omega) ?_;intro O5 gf m_ fp cJ fi;simp only[aq]at cJ;refine ll @bD @wd @fp @cJ @fi ?_;exact⟨⟨by have:=bn.lt;omega,fun i hi=>by rw[m_ i (by have:=bn.lt;omega) (by omega) (by omega) (by omega)];exact bn.th i hi⟩,rfl⟩
  rintro m O8 ⟨aY,h⟩;cases W2 with
  | error e=>exact h.elim
  | ok sa=>
  dsimp only at h gZ;subst h;simp only[aj]
  replace hG:=hG.trans aY
  clear aY;refine⟨kz _ hG,?_⟩;refine ab.o_ (i:=5) (nW O8) ?_ ?_;rotate_left
  ·rintro m O9 ⟨aY,h⟩;cases W3 with
   | ok s=>exact h.elim
   | error e=>
     dsimp only at h gZ;rw[gZ]at hP;dsimp only at hP;rw[h, <-hP];have bn:=F1 _ (hG.trans aY);refine ao @bD @wd ?_;refine iD bn.d bn.e bn.w (by have:=bn.lt;omega) (by have:=bn.lt;omega) (by have:=bn.lt;omega) (by omega) (by omega) (by omega) ?_;intro O5 gf m_ fp cJ fi;simp only[aq]at cJ;refine ll @bD @wd @fp @cJ @fi ?_;exact⟨⟨by have:=bn.lt;omega,fun i hi=>by rw[m_ i (by have:=bn.lt;omega) (by omega) (by omega) (by omega)];exact bn.th i hi⟩,rfl⟩
  rintro m OF ⟨aY,h⟩;cases W3 with
  | error e=>exact h.elim
  | ok sv=>
  dsimp only at h gZ;subst h;simp only[aj]
  replace hG:=hG.trans aY
  clear aY;refine⟨kz _ hG,?_⟩;refine ab.av 6 ?_;refine ae @bD ?_;refine ab.mc [(7,.av),(8,.one)] ?_;have bn:=(F1 _ hG).ahU (k:=O3.next) (x:=.cells [.str yn,.sl ya.length (ya.flatMap aW) .ar,.sl yk.length (ax yk) .ar,.str yt,.str wy]) (by omega);have cw:=(F1 _ hG).d;have aee:=bn.st (cs':=[mb true,.str sg,.str sa,.str sv,.str [],.str [],.str [],.str [],.sl 0 [] .nil,.sl 0 [] .nil,.sl 0 [] .nil]);simp only[a_]at aee;refine aM @bD @wd @cw ?_;exact ay.mk (true,⟨sg,sa,sv⟩) ⟨aee,gZ⟩
 rintro p O3 ⟨hd,hQ⟩;rw[hQ]at hP;dsimp only at hP;clear hQ hfp;have dX:=hd.x;have cw:=hd.d;refine VC.ag aa (aM @bD @wd @dX ?_);refine ah.p (qn dC false de 238 [] _ hx hw (by decide) (by kernel_rfl) (fun s O' _ _=>r6 s O')) ?_ ?_;rotate_left
 ·rintro m O9 ⟨aY,h⟩;have bn:=hd.ge aY;cases hF:bC (.mk zn za cB zt) zn dC false de with
  | ok s=>rw[hF]at h;exact h.elim
  | error e=>
    rw[hF]at h hP;dsimp only at h hP;rw[h, <-hP];refine ao @bD @wd ?_;refine iD bn.d bn.e bn.w (by have:=bn.lt;omega) (by have:=bn.lt;omega) (by have:=bn.lt;omega) (by omega) (by omega) (by omega) ?_;intro O5 gf m_ fp cJ fi;simp only[aq]at cJ;refine ll @bD @wd @fp @cJ @fi ?_;exact⟨⟨by have:=bn.lt;omega,fun i hi=>by rw[m_ i (by have:=bn.lt;omega) (by omega) (by omega) (by omega)];exact bn.th i hi⟩,rfl⟩
 rintro m O4 ⟨aY,h⟩;cases Za:bC (.mk zn za cB zt) zn dC false de with
 | error e=>rw[Za]at h;exact h.elim
 | ok s1=>
 rw[Za]at h hP;dsimp only at h hP;subst h;have hb:=hd.ge aY;clear aY hd;have cw:=hb.d;refine aM @bD @wd @cw ?_;refine VC.rs hb ?_;clear dX cw hb;intro _ hd;have dX:=hd.x;have cw:=hd.d;refine VC.ag aa (aM @bD @wd @dX ?_);refine ah.p (qn dm true de 238 [] _ hx hw (by decide) (by kernel_rfl) (fun s O' _ _=>r6 s O')) ?_ ?_;rotate_left
 ·rintro m O9 ⟨aY,h⟩;have bn:=hd.ge aY;cases hF:bC (.mk zn za cB zt) zn dm true de with
  | ok s=>rw[hF]at h;exact h.elim
  | error e=>
    rw[hF]at h hP;dsimp only at h hP;rw[h, <-hP];refine ao @bD @wd ?_;refine iD bn.d bn.e bn.w (by have:=bn.lt;omega) (by have:=bn.lt;omega) (by have:=bn.lt;omega) (by omega) (by omega) (by omega) ?_;intro O5 gf m_ fp cJ fi;simp only[aq]at cJ;refine ll @bD @wd @fp @cJ @fi ?_;exact⟨⟨by have:=bn.lt;omega,fun i hi=>by rw[m_ i (by have:=bn.lt;omega) (by omega) (by omega) (by omega)];exact bn.th i hi⟩,rfl⟩
 rintro m O5 ⟨aY,h⟩;cases Zb:bC (.mk zn za cB zt) zn dm true de with
 | error e=>rw[Zb]at h;exact h.elim
 | ok s2=>
 rw[Zb]at h hP;dsimp only at h hP;subst h;have hb:=hd.ge aY;clear aY hd;have cw:=hb.d;refine aM @bD @wd @cw ?_;refine VC.rs hb ?_;clear dX cw hb;intro _ hd;have dX:=hd.x;have cw:=hd.d;refine VC.ag aa (aM @bD @wd @dX ?_);refine ah.p (qn eU false de 238 [] _ hx hw (by decide) (by kernel_rfl) (fun s O' _ _=>r6 s O')) ?_ ?_;rotate_left
 ·rintro m O9 ⟨aY,h⟩;have bn:=hd.ge aY;cases hF:bC (.mk zn za cB zt) zn eU false de with
  | ok s=>rw[hF]at h;exact h.elim
  | error e=>
    rw[hF]at h hP;dsimp only at h hP;rw[h, <-hP];refine ao @bD @wd ?_;refine iD bn.d bn.e bn.w (by have:=bn.lt;omega) (by have:=bn.lt;omega) (by have:=bn.lt;omega) (by omega) (by omega) (by omega) ?_;intro O5 gf m_ fp cJ fi;simp only[aq]at cJ;refine ll @bD @wd @fp @cJ @fi ?_;exact⟨⟨by have:=bn.lt;omega,fun i hi=>by rw[m_ i (by have:=bn.lt;omega) (by omega) (by omega) (by omega)];exact bn.th i hi⟩,rfl⟩
 rintro m O6 ⟨aY,h⟩;cases Zc:bC (.mk zn za cB zt) zn eU false de with
 | error e=>rw[Zc]at h;exact h.elim
 | ok s3=>
 rw[Zc]at h hP;dsimp only at h hP;subst h;have hb:=hd.ge aY;clear aY hd;have cw:=hb.d;refine aM @bD @wd @cw ?_;refine VC.rs hb ?_;clear dX cw hb;intro _ hd;have dX:=hd.x;have cw:=hd.d;refine VC.ag aa (aM @bD @wd @dX ?_);refine ah.p (qn wM false de 238 [] _ hx hw (by decide) (by kernel_rfl) (fun s O' _ _=>r6 s O')) ?_ ?_;rotate_left
 ·rintro m O9 ⟨aY,h⟩;have bn:=hd.ge aY;cases hF:bC (.mk zn za cB zt) zn wM false de with
  | ok s=>rw[hF]at h;exact h.elim
  | error e=>
    rw[hF]at h hP;dsimp only at h hP;rw[h, <-hP];refine ao @bD @wd ?_;refine iD bn.d bn.e bn.w (by have:=bn.lt;omega) (by have:=bn.lt;omega) (by have:=bn.lt;omega) (by omega) (by omega) (by omega) ?_;intro O5 gf m_ fp cJ fi;simp only[aq]at cJ;refine ll @bD @wd @fp @cJ @fi ?_;exact⟨⟨by have:=bn.lt;omega,fun i hi=>by rw[m_ i (by have:=bn.lt;omega) (by omega) (by omega) (by omega)];exact bn.th i hi⟩,rfl⟩
 rintro m O7 ⟨aY,h⟩;cases Zd:bC (.mk zn za cB zt) zn wM false de with
 | error e=>rw[Zd]at h;exact h.elim
 | ok s4=>
 rw[Zd]at h hP;dsimp only at h hP;subst h;have hb:=hd.ge aY;clear aY hd;have cw:=hb.d;refine aM @bD @wd @cw ?_;refine VC.rs hb ?_;clear dX cw hb;intro _ hd;have dX:=hd.x;have cw:=hd.d;refine VC.ag aa (aM @bD @wd @dX ?_);refine ah.p (hpr _ hx hw) ?_ ?_;rotate_left
 ·rintro m O9 ⟨aY,h⟩;have bn:=hd.ge aY;cases hF:kx (.mk zn za cB zt) zn with
  | ok s=>rw[hF]at h;exact h.elim
  | error e=>
    rw[hF]at h hP;dsimp only at h hP;rw[h, <-hP];refine ao @bD @wd ?_;refine iD bn.d bn.e bn.w (by have:=bn.lt;omega) (by have:=bn.lt;omega) (by have:=bn.lt;omega) (by omega) (by omega) (by omega) ?_;intro O5 gf m_ fp cJ fi;simp only[aq]at cJ;refine ll @bD @wd @fp @cJ @fi ?_;exact⟨⟨by have:=bn.lt;omega,fun i hi=>by rw[m_ i (by have:=bn.lt;omega) (by omega) (by omega) (by omega)];exact bn.th i hi⟩,rfl⟩
 rintro m O8 ⟨aY,h⟩;cases hFP:kx (.mk zn za cB zt) zn with
 | error e=>rw[hFP]at h;exact h.elim
 | ok P=>
 rw[hFP]at h hP;dsimp only at h hP;have hb:=hd.ge aY;clear aY hd;have cw:=hb.d;obtain⟨tP,rfl⟩:=h;refine aM @bD @wd @cw ?_;refine VC.rs hb ?_;clear dX cw hb;intro O9 hd;refine VC.bz [1,2,3,4,5] (fun _:List Dp×aC=>[.ptr O.next 0,.ptr (O.next+1) 0,.ptr (O.next+2) 0,.ptr (O.next+3) 0,.ptr (O.next+4) 0]) (fun x O'=>uN O [.str zn,.sl za.length (za.flatMap aW) .ar,.sl cB.length (ax cB) .ar,.str zt,.str zn] O' [mb p.1,.str p.2.g,.str p.2.a,.str p.2.v,.str s1,.str s2,.str s3,.str s4,.sl P.length (P.flatMap aW) tP,.sl x.1.length (x.1.flatMap aF) x.2,.sl 0 [] .nil]/\uO (.mk zn za cB zt) zn= .ok x.1) ?_ ?_
 ·have uy:= @qU (.mk zn za cB zt) zn qP;have uz:∀e,bR (.mk zn za cB zt) zn qP= .error e->uO (.mk zn za cB zt) zn= .error e:=fun e h=>by unfold uO;rw[h]
  have m7:∀y wy,bR (.mk zn za cB zt) zn qP= .ok ((y,wy),false)->uO (.mk zn za cB zt) zn= .ok []:=fun y wy h=>by unfold uO;rw[h]
  have gZ:∀y wy,bR (.mk zn za cB zt) zn qP= .ok ((y,wy),true)->uO (.mk zn za cB zt) zn=kQ y wy true:=fun y wy h=>by unfold uO;rw[h]
  generalize uO (.mk zn za cB zt) zn=QE at*;generalize bR (.mk zn za cB zt) zn qP=F at*;have dX:=hd.x;have cw:=hd.d;refine VC.ag aa (aM @bD @wd @dX ?_);refine ah.p (hfm _ (by have:=jo (.mk zn za cB zt);omega) (by omega) (by decide)) ?_ ?_;rotate_left
  ·rintro m O9 ⟨aY,h⟩;have bn:=hd.ge aY;cases F with
   | ok y=>exact h.elim
   | error e=>
     dsimp only at h;rw[uz e rfl]at hP;dsimp only at hP;rw[h, <-hP];refine ao @bD @wd ?_;refine iD bn.d bn.e bn.w (by have:=bn.lt;omega) (by have:=bn.lt;omega) (by have:=bn.lt;omega) (by omega) (by omega) (by omega) ?_;intro O5 gf m_ fp cJ fi;simp only[aq]at cJ;refine ll @bD @wd @fp @cJ @fi ?_;exact⟨⟨by have:=bn.lt;omega,fun i hi=>by rw[m_ i (by have:=bn.lt;omega) (by omega) (by omega) (by omega)];exact bn.th i hi⟩,rfl⟩
  rintro m O3 ⟨aR,h⟩;cases F with
  | error e=>exact h.elim
  | ok y=>
  obtain⟨⟨y,wy⟩,b⟩:=y;dsimp only at h;subst h;obtain⟨Y4,uA⟩:=uy rfl;have ou:wy.length<=4000:=by rw[uA];simp only[List.length_append,List.length_cons,List.length_nil];omega
  have ZC:jM y<=1000000:=by omega
  clear uy uA uz
  replace gZ:=fun h:b=true=>by subst h;exact gZ y wy rfl
  replace m7:b=false->QE= .ok []:=fun h=>by subst h;exact m7 y wy rfl
  have mK:=fun O'=>RQ y wy true O' ZC ou
  generalize kQ y wy true=W1 at*;obtain⟨yn,ya,yk,yt⟩:=y;simp only[jJ,cO,List.cons_append,List.nil_append]at mK ⊢;have bZ:=hd.ge aR;have qs:=bZ.lt;refine ao @bD @wd ?_;refine VC.al ?_;rintro O4 ⟨bj,lq,ic⟩;have cC:=bZ.ge bj;clear hd bZ aR bj dX;cases b
  ·rw[m7 rfl]at hP ⊢;refine WC.sound aa (ao @bD @wd ?_);exact ay.mk ([],.nil) ⟨cC,rfl⟩
  replace gZ:=gZ rfl
  clear m7;subst gZ;refine VC.ag aa (ao @bD @wd ?_);refine WC.sound aa (aM @bD @wd @lq ?_);refine ah.p (mK O4) ?_ ?_;rotate_left
  ·rintro m O9 ⟨aY,h⟩;have bn:=cC.ge aY;cases QE with
   | ok s=>exact h.elim
   | error e=>
     dsimp only at h hP;rw[h, <-hP];refine ao @bD @wd ?_;refine iD bn.d bn.e bn.w (by have:=bn.lt;omega) (by have:=bn.lt;omega) (by have:=bn.lt;omega) (by omega) (by omega) (by omega) ?_;intro O5 gf m_ fp cJ fi;simp only[aq]at cJ;refine ll @bD @wd @fp @cJ @fi ?_;exact⟨⟨by have:=bn.lt;omega,fun i hi=>by rw[m_ i (by have:=bn.lt;omega) (by omega) (by omega) (by omega)];exact bn.th i hi⟩,rfl⟩
  rintro m O5 ⟨bG,h⟩;cases QE with
  | error e=>exact h.elim
  | ok M=>
  dsimp only at h;obtain⟨tM,rfl⟩:=h;have cJ:=cC.ge bG;have cw:=cJ.d;have hbs:=cJ.st (cs':=[mb p.1,.str p.2.g,.str p.2.a,.str p.2.v,.str s1,.str s2,.str s3,.str s4,.sl P.length (P.flatMap aW) tP,.sl M.length (M.flatMap aF) tM,.sl 0 [] .nil]);simp only[a_]at hbs cw;refine aM @bD @wd @cw ?_;exact ay.mk (M,tM) ⟨hbs,rfl⟩
 rintro⟨M,tM⟩ OA ⟨hd,hM⟩;rw[hM]at hP;dsimp only at hP hd;have dX:=hd.x;refine VC.ag aa (aM @bD @wd @dX ?_);refine ah.p (zj _ hx (by omega)) ?_ ?_;rotate_left
 ·rintro m O9 ⟨aY,h⟩;have bn:=hd.ge aY;cases hF:kQ (.mk zn za cB zt) zn false with
  | ok s=>rw[hF]at h;exact h.elim
  | error e=>
    rw[hF]at h hP;dsimp only at h hP;rw[h, <-hP];refine ao @bD @wd ?_;refine iD bn.d bn.e bn.w (by have:=bn.lt;omega) (by have:=bn.lt;omega) (by have:=bn.lt;omega) (by omega) (by omega) (by omega) ?_;intro O5 gf m_ fp cJ fi;simp only[aq]at cJ;refine ll @bD @wd @fp @cJ @fi ?_;exact⟨⟨by have:=bn.lt;omega,fun i hi=>by rw[m_ i (by have:=bn.lt;omega) (by omega) (by omega) (by omega)];exact bn.th i hi⟩,rfl⟩
 rintro m OB ⟨aY,h⟩;cases aef:kQ (.mk zn za cB zt) zn false with
 | error e=>rw[aef]at h;exact h.elim
 | ok DD=>
 rw[aef]at h hP;dsimp only at h hP;have hb:=hd.ge aY;clear aY hd;have cw:=hb.d;obtain⟨tD,rfl⟩:=h;simp only[a_]at cw;refine aM @bD @wd @cw ?_;rw[<-hP];refine VC.rs hb ?_;clear dX cw hb;intro O9 hd;have cw:=hd.d;have hbe:=hd.e;have hbw:=hd.w;have hl9:=hd.lt;simp only[aq]at hbe;refine VC.ag aa (ll @bD @wd @cw @hbe @hbw ?_);refine WC.sound aa (ao @bD @wd ?_);refine ZB ?_;refine ll @bD @wd @cw @hbe @hbw ?_;refine⟨⟨by show O.next<=O9.next;omega,fun i hi=>?_⟩,?_⟩
 ·rw[VH.ak _ _ (by omega),VH.ak _ _ (by omega),VH.ak _ _ (by omega)];exact hd.th i hi
 ·simp only[fI,wu,fz,kh,a_]
section
variable {P:Program} {n:Sz} {D:List Deferred} {e:Env} {O:VH}
theorem pw {d:Option Tmp} {t t' ty el:TypeId} {x:Operand} {ps:String} {af:Array Edge} {g:Option (Nat×Bool)} {k:Nat} {cs:List MV} {tk:aC} (hu:P.underlying t=some (.slice el)) (hx:ev e x=some (.sl k cs tk)):
  eJ P n D (.mk d (.binOp .eql t x (.const (.slice none 0 0)) t') ty ps af g) e O fun m O'=>O'=O/\∃b,m= .v (.bool b)/\(b=true->k=0/\cs=[]):=by
 intro G a w hw hf;have h1:=hf.ev hx;have hc:a.eval (.const (.slice none 0 0))= .slice none 0 0:=rfl
 have key:∀(A:Option Addr) (l c:Nat),a.eval x= .slice A l c->(A=none->k=0/\cs=[])->∃m O' u w' H,(O'=O/\∃b,m= .v (.bool b)/\(b=true->k=0/\cs=[]))/\(execOp a.eval (.mk d (.binOp .eql t x (.const (.slice none 0 0)) t') ty ps af g)).run P w= .ok (.value u) w'/\Gh.Le G H/\WR H O' w'/\VR H m u:=fun A l c ha hA=>by
  refine⟨.v (.bool A.isNone),O,.bool A.isNone,w,G,⟨rfl,_,rfl,fun h=>hA (by cases A<;>first | rfl | cases h)⟩,?_,Gh.Le.refl G,hw,.v rfl⟩;have Ym:(eqGuard .eql t x (.const (.slice none 0 0)) (.slice A l c) (.slice none 0 0)).run P w= .ok () w:=by simp[eqGuard]
  simp only[execOp,ha,hc,Sem.run_bind,Ym,Result.andThen_ok,run_eql_slice_nil w t el A l c hu];rfl
 generalize hv:a.eval x=v at h1;cases h1 with
 | slnil=>exact key none 0 0 hv fun _=>⟨rfl,rfl⟩
 | oq h=>exact key _ _ _ hv fun _=>⟨rfl,rfl⟩
 | jB=>exact key none 0 0 hv fun _=>⟨rfl,rfl⟩
 | sl h1 h2 h3 h4 h5 h6=>exact key _ _ _ hv fun h=>by cases h
end
theorem nc {tab:bN} {op:BinOp} {t:TypeId} {n:Nat} {cs:List MV} {tk:aC} {y:MV}:cF tab op t (.sl n cs tk) y=none:=rfl
theorem Vf (x:Gv):(bp x).length=3:=rfl
theorem Vg (L:List Gv):cz (L.flatMap bp)=L.flatMap bp:=jU (fun x=>by simp only[bp,wu]) L
theorem VF.Vh {P:Program} {f:FuncId} {Td:List MV} {O:VH} {Φ Ψ :MV->VH->Prop} (h:VF P f Td O (aL Φ)) (hw:∀m O', Φ m O'->∃m',Wk m m'/\ Ψ m' O'):VF P f Td O (aL Ψ):=fun G w vs wZ hv=>by
 refine(h G w vs wZ hv).mono ?_;rintro x w' ⟨r,O',H,h1,h2,h3,h4⟩;cases r with
 | ret m=>cases x with
   | returned v=>
     obtain⟨m',k1,k2⟩:=hw m O' h4;exact⟨.ret m',O',H,h1,h2,k1 H v h3,k2⟩
   | _=>exact h3.elim
 | panic m=>exact h4.elim
set_option linter.defProp false in
def jl:=And.intro bD<|And.intro FW Ao
theorem AB (L:List (Bs×Bs)) (tk:aC) (O:VH) (hn:L.length<=100000):VF Tryz.prog 78 [.sl L.length (L.flatMap aW) tk] O (aL fun m O'=>∃t,m= .sl L.length (L.flatMap aW) t/\App O' O.next 2 t/\O.Ge O'):=by
 have dE:=aX eM L;refine VF.db 8 [.tmp 2] Tryz.func78 ?_;refine ao @jl @nc ?_;refine VL.nN (pw Tryz.underlying47 rfl) ?_;rintro _ O1 ⟨eO,b,rfl,hb⟩;rw[eO];clear eO O1
 refine WL.sound aa ?_;cases b
 ·refine ae @jl ?_;by_cases h0:L.length=0
  ·have hL:L=[]:=List.eq_nil_of_length_eq_zero h0;subst hL;refine VL.app (m:=.sl 0 [] .full) (O':=O) (by simp[gJ,IB,Bv.1.1]) ?_ (ht:=aa) (hx:=rfl) (hy:=rfl);refine ae @jl ?_;exact⟨.full,rfl,trivial,VH.Ge.refl _⟩
  ·have gG:(L.flatMap aW).all dh=true:=by
    rw[List.all_flatMap,List.all_eq_true];intro p _;rfl
   have j4:=bd (tk:=.full) (tk':=tk) (B:=O.next) (n:=0) (k:=L.length) (cs:=[]) (ds:=L.flatMap aW) IB Bv.1.1 (O:=O) trivial rfl dE gG (by decide) h0 (by omega) (by simp[maxLen];omega);rw[Nat.zero_add,List.nil_append]at j4;refine VL.kE j4 (by rw[qL,fz]) ?_;refine ae @jl ?_;exact⟨_,rfl,App.after (Nat.le_refl _),cj.y_ (tk:=.full) (sz:=2) trivial (cj.after (sz:=2) (B:=0) trivial)⟩
 ·obtain⟨h0,h1⟩:=hb rfl;rw[h0,h1];refine ae @jl ?_;exact⟨.nil,rfl,trivial,VH.Ge.refl _⟩
theorem Eo (L:List (Bs×Bs)) (tk:aC) (O:VH) (hn:L.length<=100000):VF Tryz.prog 78 [.sl L.length (L.flatMap aW) tk] O (aL fun m O'=>m= .sl L.length (L.flatMap aW) .ar/\O.Ge O'):=
 VF.Vh (AB L tk O hn) fun m O' ⟨t,h1,h2,h3⟩=>⟨_,h1▸Wk.tok,rfl,h3⟩
theorem Vi (L:List (Dp)) (tk:aC) (O:VH) (hn:L.length<=100000):VF Tryz.prog 79 [.sl L.length (L.flatMap aF) tk] O (aL fun m O'=>∃t,m= .sl L.length (L.flatMap aF) t/\App O' O.next 8 t/\O.Ge O'):=by
 have dE:=aX eQ L;refine VF.db 8 [.tmp 2] Tryz.func79 ?_;refine ao @jl @nc ?_;refine VL.nN (pw Tryz.underlying48 rfl) ?_;rintro _ O1 ⟨eO,b,rfl,hb⟩;rw[eO];clear eO O1
 refine WL.sound aa ?_;cases b
 ·refine ae @jl ?_;by_cases h0:L.length=0
  ·have hL:L=[]:=List.eq_nil_of_length_eq_zero h0;subst hL;refine VL.app (m:=.sl 0 [] .full) (O':=O) (by simp[gJ,xk,uo.1.1]) ?_ (ht:=aa) (hx:=rfl) (hy:=rfl);refine ae @jl ?_;exact⟨.full,rfl,trivial,VH.Ge.refl _⟩
  ·have gG:(L.flatMap aF).all dh=true:=by
    rw[List.all_flatMap,List.all_eq_true];intro p _;rfl
   have j4:=bd (tk:=.full) (tk':=tk) (B:=O.next) (n:=0) (k:=L.length) (cs:=[]) (ds:=L.flatMap aF) xk uo.1.1 (O:=O) trivial rfl dE gG (by decide) h0 (by omega) (by simp[maxLen];omega);rw[Nat.zero_add,List.nil_append]at j4;refine VL.kE j4 (by rw[qL,kh]) ?_;refine ae @jl ?_;exact⟨_,rfl,App.after (Nat.le_refl _),cj.y_ (tk:=.full) (sz:=8) trivial (cj.after (sz:=8) (B:=0) trivial)⟩
 ·obtain⟨h0,h1⟩:=hb rfl;rw[h0,h1];refine ae @jl ?_;exact⟨.nil,rfl,trivial,VH.Ge.refl _⟩
theorem PW (L:List (Dp)) (tk:aC) (O:VH) (hn:L.length<=100000):VF Tryz.prog 79 [.sl L.length (L.flatMap aF) tk] O (aL fun m O'=>m= .sl L.length (L.flatMap aF) .ar/\O.Ge O'):=
 VF.Vh (Vi L tk O hn) fun m O' ⟨t,h1,h2,h3⟩=>⟨_,h1▸Wk.tok,rfl,h3⟩
theorem Vj (L:List (eC)) (tk:aC) (O:VH) (hn:L.length<=100000):VF Tryz.prog 81 [.sl L.length (L.flatMap bF) tk] O (aL fun m O'=>∃t,m= .sl L.length (L.flatMap bF) t/\App O' O.next 2 t/\O.Ge O'):=by
 have dE:=aX mf L;refine VF.db 8 [.tmp 2] Tryz.func81 ?_;refine ao @jl @nc ?_;refine VL.nN (pw Tryz.underlying55 rfl) ?_;rintro _ O1 ⟨eO,b,rfl,hb⟩;rw[eO];clear eO O1
 refine WL.sound aa ?_;cases b
 ·refine ae @jl ?_;by_cases h0:L.length=0
  ·have hL:L=[]:=List.eq_nil_of_length_eq_zero h0;subst hL;refine VL.app (m:=.sl 0 [] .full) (O':=O) (by simp[gJ,B1,IC.1.1]) ?_ (ht:=aa) (hx:=rfl) (hy:=rfl);refine ae @jl ?_;exact⟨.full,rfl,trivial,VH.Ge.refl _⟩
  ·have gG:(L.flatMap bF).all dh=true:=by
    rw[List.all_flatMap,List.all_eq_true];intro p _;rfl
   have j4:=bd (tk:=.full) (tk':=tk) (B:=O.next) (n:=0) (k:=L.length) (cs:=[]) (ds:=L.flatMap bF) B1 IC.1.1 (O:=O) trivial rfl dE gG (by decide) h0 (by omega) (by simp[maxLen];omega);rw[Nat.zero_add,List.nil_append]at j4;refine VL.kE j4 (by rw[qL,mg]) ?_;refine ae @jl ?_;exact⟨_,rfl,App.after (Nat.le_refl _),cj.y_ (tk:=.full) (sz:=2) trivial (cj.after (sz:=2) (B:=0) trivial)⟩
 ·obtain⟨h0,h1⟩:=hb rfl;rw[h0,h1];refine ae @jl ?_;exact⟨.nil,rfl,trivial,VH.Ge.refl _⟩
theorem r_ (L:List (eC)) (tk:aC) (O:VH) (hn:L.length<=100000):VF Tryz.prog 81 [.sl L.length (L.flatMap bF) tk] O (aL fun m O'=>m= .sl L.length (L.flatMap bF) .ar/\O.Ge O'):=
 VF.Vh (Vj L tk O hn) fun m O' ⟨t,h1,h2,h3⟩=>⟨_,h1▸Wk.tok,rfl,h3⟩
theorem vM (L:List (Gv)) (tk:aC) (O:VH) (hn:L.length<=100000):VF Tryz.prog 86 [.sl L.length (L.flatMap bp) tk] O (aL fun m O'=>∃t,m= .sl L.length (L.flatMap bp) t/\App O' O.next 3 t/\O.Ge O'):=by
 have dE:=aX Vf L;refine VF.db 8 [.tmp 2] Tryz.func86 ?_;refine ao @jl @nc ?_;refine VL.nN (pw Tryz.underlying95 rfl) ?_;rintro _ O1 ⟨eO,b,rfl,hb⟩;rw[eO];clear eO O1
 refine WL.sound aa ?_;cases b
 ·refine ae @jl ?_;by_cases h0:L.length=0
  ·have hL:L=[]:=List.eq_nil_of_length_eq_zero h0;subst hL;refine VL.app (m:=.sl 0 [] .full) (O':=O) (by simp[gJ,FW,Ao.1.1]) ?_ (ht:=aa) (hx:=rfl) (hy:=rfl);refine ae @jl ?_;exact⟨.full,rfl,trivial,VH.Ge.refl _⟩
  ·have gG:(L.flatMap bp).all dh=true:=by
    rw[List.all_flatMap,List.all_eq_true];intro p _;rfl
   have j4:=bd (tk:=.full) (tk':=tk) (B:=O.next) (n:=0) (k:=L.length) (cs:=[]) (ds:=L.flatMap bp) FW Ao.1.1 (O:=O) trivial rfl dE gG (by decide) h0 (by omega) (by simp[maxLen];omega);rw[Nat.zero_add,List.nil_append]at j4;refine VL.kE j4 (by rw[qL,Vg]) ?_;refine ae @jl ?_;exact⟨_,rfl,App.after (Nat.le_refl _),cj.y_ (tk:=.full) (sz:=3) trivial (cj.after (sz:=3) (B:=0) trivial)⟩
 ·obtain⟨h0,h1⟩:=hb rfl;rw[h0,h1];refine ae @jl ?_;exact⟨.nil,rfl,trivial,VH.Ge.refl _⟩
theorem Ep (L:List Dp) (tk:aC) (O:VH) (hn:L.length<=100000):VF Tryz.prog 79 [.sl L.length (L.flatMap aF) tk] O (aL fun m O'=>O.Ge O'/\GR O' 65 8 O.next m L.length (L.flatMap aF)):=by
 have dE:=aX eQ L
 have gG:(L.flatMap aF).all dh=true:=by
  rw[List.all_flatMap,List.all_eq_true];intro p _;rfl
 refine VF.db 8 [.tmp 2] Tryz.func79 ?_;refine ao @jl @nc ?_;refine VL.nN (pw Tryz.underlying48 rfl) ?_;rintro _ O1 ⟨eO,b,rfl,hb⟩;rw[eO];clear eO O1
 refine WL.sound aa ?_;cases b
 ·refine ae @jl ?_;refine VL.grow aa (.inl rfl) (te:=⟨_,8,_,_⟩) (B:=O.next) (n':=0) (L:=[]) (dx:=.slice 65) (p:=.sl 0 [] .full) (q:=.sl L.length (L.flatMap aF) tk) (j:=L.length) (ds:=L.flatMap aF) (.inl ⟨rfl,rfl,.inr rfl⟩) (by simp[yC,dE]) gG (by rw[xk];rfl) uo.1.1 (by rw[xk];rfl) trivial (by dsimp only;omega) (by simp only[maxLen];omega) (Nat.le_refl _) rfl rfl rfl rfl ?_;intro m O' h1 h2 h3 h4;rw[Nat.zero_add,List.nil_append]at h1;refine ae @jl ?_;exact⟨h3 rfl,h1⟩
 ·obtain⟨h0,h1⟩:=hb rfl;rw[h0,h1];refine ae @jl ?_;exact⟨VH.Ge.refl _,.inl ⟨rfl,rfl,.inl rfl⟩⟩
theorem AD:laidOutB Tryz.prog=true:=by kernel_rfl
theorem uQ:sI Tryz.prog 24 3:=sI.sY AD (by kernel_rfl)
theorem BD:sI Tryz.prog 75 2:=sI.sY AD (by kernel_rfl)
theorem uR:sI Tryz.prog 41 4:=sI.sY AD (by kernel_rfl)
set_option linter.defProp false in
def BE:=And.intro eb<|And.intro RB<|And.intro T25<|And.intro YG<|And.intro adT<|And.intro RA<|And.intro adW yT
theorem af4 (x:Gv) (O:VH):VF Tryz.prog 63 [.agg (bp x)] O (aL fun m O'=>m= .agg (bF ⟨x.g,x.a⟩)/\O.Ge O'):=by
 obtain⟨g,a,v⟩:=x;have hg:=((VH.Ge.refl O).push (.cells [.str g,.str a,.str v])).push (.cells [.str [],.str []]);unfold bp bF;refine VF.db 8 [.cell 2 75] Tryz.func63 ?_;refine ae @BE ?_;exact hg.set (Nat.le_succ _) _
def dY (x:Gv):List Bs:=[x.g,x.a,x.v]
def zy (x:eC):List Bs:=[x.g,x.a]
theorem acR (x:Gv):bp x=(dY x).map .str:=rfl
def sb (x:Gv):Prop:=x.g.length<=maxLen/\x.a.length<=maxLen/\x.v.length<=maxLen
theorem uS {x:Gv} (h:sb x):∀s∈dY x,s.length<=maxLen:=by
 intro s hs;simp only[dY,List.mem_cons,List.not_mem_nil,or_false]at hs;rcases hs with rfl | rfl | rfl
 ·exact h.1
 ·exact h.2.1
 ·exact h.2.2
structure F3 (O:VH) (k ke kv:Nat) (E:eS) (ce:Nat) (V:eS) (cv:Nat) (r a:Int):Prop where
 cell:O.hp k=some (.cells [.map ke,.map kv,mi r,mi a])
 zA:O.hp ke=some (.map (cf E) ce)
 Er:O.hp kv=some (.map (cf V) cv)
 L4:n_ 3 E
 vok:n_ 2 V
 ptr:∀p∈E,∃q,p.2.1= .ptr q 0
 lt:k<O.next/\ke<O.next/\kv<O.next
 ne:k≠ke/\k≠kv/\ke≠kv
def AE (E:eS) (x:Gv):Bool:=(jI (dY x) E).isSome
theorem ZD {E:eS} (h:∀p∈E,∃q,p.2.1=MV.ptr q 0) {l:List Bs} {m:MV} (hl:jI l E=some m):∃q,m= .ptr q 0:=by
 unfold jI at hl;obtain⟨p,h1,rfl⟩:=Option.map_eq_some_iff.1 hl;exact h p (List.mem_of_find?_eq_some h1)
theorem RU {O:VH} {k ke kv ce cv:Nat} {E V:eS} {r a:Int} (h:F3 O k ke kv E ce V cv r a) (x:Gv) (hx:sb x):VF Tryz.prog 20 [.ptr k 0,.agg (bp x)] O (aL fun m O'=>m=mb (AE E x)/\O.Ge O'):=by
 have hl:=uS hx;have v8:=h.cell;simp only[aq]at v8;unfold AE;rw[acR];generalize hL:dY x=L at*;have nP:L.length=3:=by rw[<-hL];rfl
 obtain⟨g,a',v⟩:=x;have hLc:L.map MV.str=[.str g,.str a',.str v]:=by rw[<-hL];rfl
 rw[hLc];refine VF.bX 16 [.tmp 4] Tryz.func20 ?_;refine VC.ag aa (ae @BE ?_);refine VC.bx ?_;rintro O1 ⟨aT,en,dd⟩;have ahV:=(aT.hp _ h.lt.1).trans v8;have ahW:=(aT.hp _ h.lt.2.1).trans h.zA;refine VC.bu ?_;refine WC.bM (.held []) [(0,.rd),(1,.rd),(2,.rd),(3,.rd),(4,.rd),(5,.rd),(6,.rd),(7,.rd),(8,.rd),(9,.rd),(10,.rd),(11,.rd)] ?_;refine aM @BE @ahV @en ?_;refine VL.hold (.inr rfl) rfl rfl (fH.lh uQ aa (l:=L) (te:=⟨_,1,8,[.v (.pointer none)]⟩) Tryz.underlying120 RA rfl rfl ahW h.L4 (by rw[hLc];rfl) nP hl) (WL.sound aa ?_);cases gC:jI L E with
 | none=>
   refine ae @BE ?_;refine WC.sound aa (ae @BE ?_);exact aT
 | some m=>
   obtain⟨p,rfl⟩:=ZD h.ptr gC;refine ae @BE ?_;refine WC.sound aa (ae @BE ?_);exact aT
section
variable {G H:Gh} {n:Sz} {D:List Deferred} {e e':Env} {a:Act} {P:Program} {tab:bN} {O O':VH} {w:World} {m m':MV} {u v:Value} {ops:Array Oper} {Q:VQ} {md:Md}
def PX (G:Gh):List Deferred->List (FuncId×List MV)->Prop
 | [],[]=>True
 | d::D,p::ds=>(∃us:List Value,d={target:=.fn (.func p.1) #[],args:=us.toArray}/\aO G p.2 us)/\PX G D ds
 | _,_=>False
theorem PX.mono (h:G.Le H):∀{D:List Deferred} {ds:List (FuncId×List MV)},PX G D ds->PX H D ds
 | [],[],_=>trivial
 | _::_,_::_,⟨⟨us,h1,h2⟩,h3⟩=>⟨⟨us,h1,h2.mono h⟩,h3.mono h⟩
 | [],_::_,h=>h.elim
 | _::_,[],h=>h.elim
def L5 (P:Program):List (FuncId×List MV)->VH->(VH->Prop)->Prop
 | [],O,K=>K O
 | p::ds,O,K=>Enters P p.1/\fG P p.1 p.2 none O fun O'=>L5 P ds O' K
def PY (P:Program) (fn:Func) (G0:Gh) (K:VH->Prop):Exit->Act->World->Prop:=
 bodyPostD P fn fun x w'=>(∃v,x= .returned v/\v= .tuple #[])/\∃O' H,Gh.Le G0 H/\WR H O' w'/\K O'
def RC (P:Program) (fn:Func) (n:Sz) (ds:List (FuncId×List MV)) (c:Code) (e:Env) (O:VH) (K:VH->Prop):Prop:=
 ∀G0 G D a w,Gh.Le G0 G->PX G D ds->WR G O w->FR G n D e a->c.wp P (PY P fn G0 K) a w
theorem BF {fn:Func} {tmps:Array Value} {G0:Gh} {K:VH->Prop} (hr:fn.results= #[]):∀(D:List Deferred) (ds:List (FuncId×List MV)) (G:Gh) (O:VH) (w:World),Gh.Le G0 G->PX G D ds->WR G O w->L5 P ds O K->
  Leaves P fn tmps (fun x w'=>(∃v,x= .returned v/\v= .tuple #[])/\∃O' H,Gh.Le G0 H/\WR H O' w'/\K O') D .returning w
 | [],[],G,O,w,h0,_,hw,hk=>⟨.tuple #[],by simp[results,hr],⟨_,rfl,rfl⟩,O,G,h0,hw,hk⟩
 | d::D,p::ds,G,O,w,h0,⟨⟨us,ed,js⟩,hD⟩,hw,⟨hE,hk⟩=>by
   subst ed;refine leaves_cons (f:=p.1) (args:=us.toArray) (by simp) (by simp[invoke,hE us.toArray w]) ((hk G w us .returning hw js trivial).mono ?_);rintro r u' N2 ⟨⟨v,rfl⟩,hs,O2,K2,q1,q2,q3⟩;dsimp only;rw[hs];exact BF hr D ds K2 O2 N2 (h0.trans q1) (hD.mono q1) q2 q3
 | [],_::_,_,_,_,_,h,_,_=>h.elim
 | _::_,[],_,_,_,_,h,_,_=>h.elim
theorem VF.defs {f:FuncId} {fn:Func} {c:Code} {args:List MV} {K:VH->Prop} {R:MV->VH->Prop} (hf:P.funcs[f]?=some fn) (hb:fn.body=some c) (hr:fn.results= #[]) (hn:args.length<=fn.ntmps)
  (h:RC P fn ⟨fn.ntmps,0⟩ [] c (cb 0 args) O K) (hR:∀O',K O'->R (.tuple []) O'):VF P f args O (aL R):=by
 intro G w vs hw hv;refine(calls_of_wp_defers hf hb (h G G [] _ w (Gh.Le.refl G) trivial hw ?_)).mono ?_
 ·have hl:=hv.1;refine⟨rfl,by simp;omega,fun t x hx=>?_⟩;rw[iU,if_pos (Nat.zero_le _),Nat.sub_zero]at hx;obtain⟨u,h1,h2⟩:=hv.get hx;refine⟨u,?_,h2⟩;have dK:=(List.getElem?_eq_some_iff.1 h1).1;rw[Array.getElem?_append_left (by simpa using dK)];simpa using h1
 ·rintro x w' ⟨⟨v,rfl,rfl⟩,O',H,h1,h2,h3⟩;exact⟨.ret (.tuple []),O',H,h1,h2,.tuple (us:=[]) rfl (fun i c u h=>by simp at h),hR _ h3⟩
theorem RC.ag {fn:Func} {ds:List (FuncId×List MV)} {A rest:Code} {K:VH->Prop} (h:∀D,VC P n D A e O fun x e' O'=>match x with
  | .normal=>RC P fn n ds rest e' O' K
  | _=>False):RC P fn n ds (.seq A rest) e O K:=by
 intro G0 G D a w h0 hD hw hf;refine wp_seq (wp_mono (h D G a w hw hf) ?_);rintro y a1 w1 ⟨x,e',O',H,g1,g2,g3,g4,g5⟩
 cases y<;>cases x<;>first
  | exact False.elim g4
  | exact g5.elim
  | skip
 exact g5 G0 H D a1 w1 (h0.trans g1) (hD.mono g1) g2 g3
theorem RC.fin {fn:Func} {ds:List (FuncId×List MV)} {A:Code} {K:VH->Prop} (hr:fn.results= #[]) (h:∀D,VC P n D A e O fun x e' O'=>match x with
  | .normal=>L5 P ds O' K
  | .ret=>L5 P ds O' K
  | _=>False):RC P fn n ds A e O K:=by
 intro G0 G D a w h0 hD hw hf;refine wp_mono (h D G a w hw hf) ?_;rintro y a1 w1 ⟨x,e',O',H,g1,g2,g3,g4,g5⟩
 have fin:FR H n D e' a1->L5 P ds O' K->Leaves P fn a1.tmps (fun x w'=>(∃v,x= .returned v/\v= .tuple #[])/\∃O' H,Gh.Le G0 H/\WR H O' w'/\K O') a1.defers .returning w1:=fun aS hk=>by
  rw[aS.defers];exact BF hr D ds H O' w1 (h0.trans g1) (hD.mono g1) g2 hk
 cases y<;>cases x<;>first
  | exact False.elim g4
  | exact g5.elim
  | exact fin g3 g5
theorem RC.cond {fn:Func} {ds:List (FuncId×List MV)} {c:Operand} {x y:Code} {K:VH->Prop} {t:Bool} (hc:ev e c=some (mb t)) (h:RC P fn n ds (if t then x else y) e O K):RC P fn n ds (.cond c x y) e O K:=by
 intro G0 G D a w h0 hD hw hf;have hv:=hf.ev hc;generalize hx:a.eval c=u at hv;have:=VR.iv hv;subst this;exact wp_cond hx (h G0 G D a w h0 hD hw hf)
def RO (P:Program) (fn:Func) (n:Sz) (ds:List (FuncId×List MV)) (ops:Array Oper) (rest:Code) (l:List Nat) (e:Env) (O:VH) (K:VH->Prop):Prop:=
 ∀G0 G D a w,Gh.Le G0 G->PX G D ds->WR G O w->FR G n D e a->wpOps P ops (Exit.then (rest.wp P (PY P fn G0 K)) (PY P fn G0 K)) l a w
theorem RC.region {fn:Func} {ds:List (FuncId×List MV)} {id:Nat} {rest:Code} {K:VH->Prop} (l:List Nat) (hl:List.range ops.size=l) (h:RO P fn n ds ops rest l e O K):RC P fn n ds (.seq (.region id ops false) rest) e O K:=by
 subst hl;intro G0 G D a w h0 hD hw hf;exact wp_seq (wp_region (h G0 G D a w h0 hD hw hf))
theorem RO.step (ht:aI P tab) {fn:Func} {ds:List (FuncId×List MV)} {rest:Code} {K:VH->Prop} {i:Nat} {l:List Nat} {o:Oper} (ho:ops[i]?=some o) (hg:aK ops o e=some true) (hv:cI tab o e O=some (m,O')) (hd:bg n o.dst=true) (h:RO P fn n ds ops rest l (aV o.dst m e) O' K):
  RO P fn n ds ops rest (i::l) e O K:=by
 intro G0 G D a w h0 hD hw aS;obtain⟨nx,w',H,u,hr,rL,h1,h2,h3,_⟩:=Cn (P:=P) ht hw aS hv;rw[wpOps_cons];simp only[wpOp,ho,bf aS hg,if_true];refine .inl ?_;unfold Oper.wp;rw[hr];have:=h G0 H D (a.put o.dst u) w' (h0.trans h1) (hD.mono h1) h2 ((aS.mono h1).aV hd h3);rcases rL with rfl | ⟨rfl,rfl⟩<;>exact this
theorem RO.o1 {fn:Func} {ds:List (FuncId×List MV)} {rest:Code} {K:VH->Prop} {i:Nat} {l:List Nat} {lo:List Oper} {o:Oper} (h:yN (fun m O'=>RO P fn n ds ⟨lo⟩ rest l (aV o.dst m e) O' K) (cI tab o e O)) (ht:aI P tab:=by exact aa) (ho:lo[i]?=some o:=by exact rfl) (hg:aK ⟨lo⟩ o e=some true:=by exact rfl) (hd:bg n o.dst=true:=by exact rfl):
  RO P fn n ds ⟨lo⟩ rest (i::l) e O K:=by
 generalize hv:cI tab o e O=v at h;cases v with
 | none=>exact h.elim
 | some p=>exact RO.step ht (by simpa using ho) hg hv hd h
theorem RO.defer {fn:Func} {ds:List (FuncId×List MV)} {rest:Code} {K:VH->Prop} {i:Nat} {g:FuncId} {as_:Array Operand} {ts:Array TypeId} {ty:TypeId} {ps:String} {af:Array Edge} {ms:List MV} (ho:ops[i]?=some (.mk none (.defer {callee:=.value (.func g),args:=as_,argTypes:=ts}) ty ps af none)) (hm:fS e as_.toList=some ms)
  (h:RC P fn n ((g,ms)::ds) rest e O K):RO P fn n ds ops rest [i] e O K:=by
 intro G0 G D a w h0 hD hw aS;have js:=aS.fS hm;have ha:as_.map a.eval=(as_.toList.map a.eval).toArray:=by apply Array.ext';simp
 have bU:(execOp a.eval (.mk none (.defer {callee:=.value (.func g),args:=as_,argTypes:=ts}) ty ps af none)).run P w= .ok (.defer {target:=.fn (.func g) #[],args:=(as_.toList.map a.eval).toArray}) w:=by
  simp only[<-ha];simp[execOp,resolve,Act.eval,Deferred.ofValue]
 rw[wpOps_cons];simp only[wpOp,ho];rw[if_pos (by simp[Region.wanted])];refine .inl ?_;unfold Oper.wp;rw[bU,Oper.upon_defer];simp only[wpOps,Exit.then];exact h G0 G ({target:=.fn (.func g) #[],args:=(as_.toList.map a.eval).toArray}::D) _ w h0 ⟨⟨_,rfl,js⟩,hD⟩ hw ⟨by show _::a.defers=_;rw[aS.defers],aS.size,aS.get⟩
theorem fG.mono {f:FuncId} {args:List MV} {x:Option MV} {K K':VH->Prop} (h:fG P f args x O K) (hk:∀O',K O'->K' O'):fG P f args x O K':=fun G w vs u hw hv hu=>(h G w vs u hw hv hu).mono fun r u' w' ⟨h1,h2,O',H,h3,h4,h5⟩=>⟨h1,h2,O',H,h3,h4,hk _ h5⟩
theorem fG.ofV (ht:aI P tab) {f:FuncId} {fn:Func} {c:Code} {args:List MV} {K:VH->Prop} (hf:P.funcs[f]?=some fn) (hb:fn.body=some c) (hr:fn.results= #[]) (hn:args.length<=fn.ntmps) (hk:(⟨fn.ntmps,0⟩:Sz)=n) (h:VC P n [] c (cb 0 args) O (Bt tab [] (aL fun _ O'=>K O'))):fG P f args none O K:=by
 subst hk;intro G w vs u hw hv hu
 have CO:settle u= .returning:=by
  cases u<;>first
   | rfl
   | exact hu.elim
 have hl:=hv.1;refine(callsD_of_wp (R:=fun x w'=>(∃v,x= .returned v)/\∃O' H,Gh.Le G H/\WR H O' w'/\K O') hf hb (wp_mono (h G _ w hw ?_) ?_)).mono ?_
 ·refine⟨rfl,by simp;omega,fun t x hx=>?_⟩;rw[iU,if_pos (Nat.zero_le _),Nat.sub_zero]at hx;obtain⟨u,h1,h2⟩:=hv.get hx;refine⟨u,?_,h2⟩;have dK:=(List.getElem?_eq_some_iff.1 h1).1;rw[Array.getElem?_append_left (by simpa using dK)];simpa using h1
 ·rintro y a1 w1 ⟨x,e',O',H,g1,g2,g3,g4,g5⟩
  have fin:FR H ⟨fn.ntmps,0⟩ [] e' a1->K O'->bodyPost P fn (fun x w'=>(∃v,x= .returned v)/\∃O' H,Gh.Le G H/\WR H O' w'/\K O') .normal a1 w1:=fun aS hk=>
   ⟨aS.defers,.tuple #[],by simp[results,hr],⟨_,rfl⟩,O',H,g1,g2,hk⟩
  cases y<;>cases x<;>first
   | exact False.elim g4
   | exact fin g3 g5
   | exact g5.elim
 ·rintro r u' w' ⟨rfl,h1,h2⟩;exact⟨h1,CO,h2⟩
end
section
variable {G:Gh} {O O':VH} {w:World} {P:Program}
theorem WR.cellAt {k off:Nat} {cs:List MV} {x:Value} (h:WR G O w) (hk:O.hp k=some (.cells cs)) (hc:cs[off]?=some (.v x)):∃b,G.cy k=some b/\w.cell? ⟨b,off,none⟩=some x/\w.frozen? ⟨b,off,none⟩=false:=by
 obtain⟨b,C,T,e1,e2,e3⟩:=h.cells k cs hk;obtain⟨v,CP,Fx⟩:=e3.get hc;cases Fx with
 | v _=>
   refine⟨b,e1,?_,?_⟩
   ·have dK:off<cs.length:=(List.getElem?_eq_some_iff.1 hc).1;rw[List.getElem?_take_of_lt dK]at CP;simp only[World.cell?,e2,Option.isSome_none,Bool.false_eq_true,if_false];simpa using CP
   ·have hlen:off<C.size:=by
     have:=(List.getElem?_eq_some_iff.1 CP).1;simp at this;omega
    obtain⟨t',⟨lo,hi⟩,dD⟩:=T;dsimp only at e2 dD;simp only[World.frozen?,e2,Bool.and_eq_false_imp,decide_eq_true_eq,decide_eq_false_iff_not];intro;omega
theorem dV.mem {f:FuncId} {ms:List MV} {m:MV} (hr:∀G w vs,WR G O w->aO G ms vs->∃u w',(callFunc f vs.toArray).run P w= .ok (.value u) w'/\WR G O' w'/\VR G m u):dV P f ms O fun m' mj=>m'=m/\mj=O':=by
 intro G w vs hw hv;obtain⟨u,w',h1,h2,h3⟩:=hr G w vs hw hv;exact⟨m,O',u,w',G,⟨rfl,rfl⟩,h1,Gh.Le.refl G,h2,h3⟩
theorem VR.zB:VR G (.tuple []) (.tuple #[]):=.tuple (us:=[]) rfl (fun i c u h=>by simp at h)
theorem aO.one {x:MV} {vs:List Value} (h:aO G [x] vs):∃u,vs=[u]/\VR G x u:=by
 obtain⟨u,us,rfl,g1,g2⟩:=h.ek;rw[g2.iu];exact⟨u,rfl,g1⟩
theorem aO.ZE {k o:Nat} {vs:List Value} (h:aO G [.ptr k o] vs):∃b,vs=[.pointer (some ⟨b,o,none⟩)]/\G.cy k=some b:=by
 obtain⟨u,rfl,g1⟩:=h.one;cases g1 with
 | ptr h4=>exact⟨_,rfl,h4⟩
theorem aO.ZF {k o:Nat} {x:Value} {vs:List Value} (h:aO G [.ptr k o,.v x] vs):∃b,vs=[.pointer (some ⟨b,o,none⟩),x]/\G.cy k=some b:=by
 obtain⟨u,us,rfl,g1,g2⟩:=h.ek;obtain⟨u2,rfl,g3⟩:=g2.one;have:=g3.iv;subst this;cases g1 with
 | ptr h4=>exact⟨_,rfl,h4⟩
theorem aO.ahX {k o:Nat} {x y:Value} {vs:List Value} (h:aO G [.ptr k o,.v x,.v y] vs):∃b,vs=[.pointer (some ⟨b,o,none⟩),x,y]/\G.cy k=some b:=by
 obtain⟨u,us,rfl,g1,g2⟩:=h.ek;obtain⟨u2,us2,rfl,g3,g4⟩:=g2.ek;obtain⟨u3,rfl,g5⟩:=g4.one;have e1:=g3.iv;have e2:=g5.iv;subst e1;subst e2
 cases g1 with
 | ptr h4=>exact⟨_,rfl,h4⟩
end
theorem uT (O:VH):dV Tryz.prog 269 [] O fun m O'=>m= .tuple []/\O'=O:=
 dV.mem fun G w vs hw hv=>by
  rw[hv.iu];exact⟨_,w,run_call_mark0 Tryz.func269 (by kernel_rfl) (by kernel_rfl) (by kernel_rfl) .disable (by kernel_rfl) w,hw,VR.zB⟩
theorem wP (O:VH):dV Tryz.prog 271 [] O fun m O'=>m= .tuple []/\O'=O:=
 dV.mem fun G w vs hw hv=>by
  rw[hv.iu];exact⟨_,w,run_call_mark0 Tryz.func271 (by kernel_rfl) (by kernel_rfl) (by kernel_rfl) .enable (by kernel_rfl) w,hw,VR.zB⟩
theorem Es (k o:Nat) (O:VH):dV Tryz.prog 272 [.ptr k o] O fun m O'=>m= .tuple []/\O'=O:=
 dV.mem fun G w vs hw hv=>by
  obtain⟨b,rfl,hp⟩:=hv.ZE;exact⟨_,w,run_call_marked Tryz.func272 (by kernel_rfl) (by kernel_rfl) (by kernel_rfl) .acquire (by kernel_rfl) _ w,hw,VR.zB⟩
theorem Ca (k o:Nat) (O:VH):dV Tryz.prog 274 [.ptr k o] O fun m O'=>m= .tuple []/\O'=O:=
 dV.mem fun G w vs hw hv=>by
  obtain⟨b,rfl,hp⟩:=hv.ZE;exact⟨_,w,run_call_marked Tryz.func274 (by kernel_rfl) (by kernel_rfl) (by kernel_rfl) .releaseMerge (by kernel_rfl) _ w,hw,VR.zB⟩
section
variable {O:VH} {k off:Nat} {cs:List MV}
theorem L6 {x:Int} (y:Int) (hk:O.hp k=some (.cells cs)) (hc:cs[off]?=some (.v (.int .i64 x))):dV Tryz.prog 189 [.ptr k off,.v (.int .i64 y)] O fun m O'=>m= .v (.int .i64 (IntKind.i64.wrap (x+y)))/\O'=O.set k (.cells (cs.set off (.v (.int .i64 (IntKind.i64.wrap (x+y)))))):=
 dV.mem fun G w vs hw hv=>by
  obtain⟨b',h1,h2,h3⟩:=hw.cellAt hk hc;obtain⟨b,rfl,hp⟩:=hv.ZF;rw[h1]at hp;injection hp with hp;subst hp
  exact⟨_,_,run_call_add Tryz.func189 (by kernel_rfl) (by kernel_rfl) (by kernel_rfl) .i64 (by kernel_rfl) h2 h3 rfl,hw.store hk h1 (List.getElem?_eq_some_iff.1 hc).1 (.v rfl),.v rfl⟩
theorem L7 {x:Int} (y:Int) (hk:O.hp k=some (.cells cs)) (hc:cs[off]?=some (.v (.int .i32 x))):dV Tryz.prog 275 [.ptr k off,.v (.int .i32 y)] O fun m O'=>m= .v (.int .i32 (IntKind.i32.wrap (x+y)))/\O'=O.set k (.cells (cs.set off (.v (.int .i32 (IntKind.i32.wrap (x+y)))))):=
 dV.mem fun G w vs hw hv=>by
  obtain⟨b',h1,h2,h3⟩:=hw.cellAt hk hc;obtain⟨b,rfl,hp⟩:=hv.ZF;rw[h1]at hp;injection hp with hp;subst hp
  exact⟨_,_,run_call_add Tryz.func275 (by kernel_rfl) (by kernel_rfl) (by kernel_rfl) .i32 (by kernel_rfl) h2 h3 rfl,hw.store hk h1 (List.getElem?_eq_some_iff.1 hc).1 (.v rfl),.v rfl⟩
theorem PZ {x:Int} (hk:O.hp k=some (.cells cs)) (hc:cs[off]?=some (.v (.int .u32 x))):dV Tryz.prog 227 [.ptr k off] O fun m O'=>m= .v (.int .u32 x)/\O'=O:=
 dV.mem fun G w vs hw hv=>by
  obtain⟨b',h1,h2,h3⟩:=hw.cellAt hk hc;obtain⟨b,rfl,hp⟩:=hv.ZE;rw[h1]at hp;injection hp with hp;subst hp
  exact⟨_,_,run_call_load Tryz.func227 (by kernel_rfl) (by kernel_rfl) (by kernel_rfl) .u32 (by kernel_rfl) h2,hw,.v rfl⟩
theorem L8 {x:Int} (y:Int) (hk:O.hp k=some (.cells cs)) (hc:cs[off]?=some (.v (.int .u32 x))):dV Tryz.prog 250 [.ptr k off,.v (.int .u32 y)] O fun m O'=>m= .tuple []/\O'=O.set k (.cells (cs.set off (.v (.int .u32 y)))):=
 dV.mem fun G w vs hw hv=>by
  obtain⟨b',h1,h2,h3⟩:=hw.cellAt hk hc;obtain⟨b,rfl,hp⟩:=hv.ZF;rw[h1]at hp;injection hp with hp;subst hp
  exact⟨_,_,run_call_store Tryz.func250 (by kernel_rfl) (by kernel_rfl) (by kernel_rfl) (by kernel_rfl) h2 h3,hw.store hk h1 (List.getElem?_eq_some_iff.1 hc).1 (.v rfl),VR.zB⟩
theorem Vk {x y:Int} (hk:O.hp k=some (.cells cs)) (hc:cs[off]?=some (.v (.int .i32 x))):dV Tryz.prog 270 [.ptr k off,.v (.int .i32 x),.v (.int .i32 y)] O fun m O'=>m= .v (.bool true)/\O'=O.set k (.cells (cs.set off (.v (.int .i32 y)))):=
 dV.mem fun G w vs hw hv=>by
  obtain⟨b',h1,h2,h3⟩:=hw.cellAt hk hc;obtain⟨b,rfl,hp⟩:=hv.ahX;rw[h1]at hp;injection hp with hp;subst hp
  exact⟨_,_,run_call_cas_hit Tryz.func270 (by kernel_rfl) (by kernel_rfl) (by kernel_rfl) .i32 (by kernel_rfl) h2 h3,hw.store hk h1 (List.getElem?_eq_some_iff.1 hc).1 (.v rfl),.v rfl⟩
end
section
variable {P:Program} {tab:bN} {n:Sz} {D:List Deferred} {md:Md} {ops:Array Oper} {Q:VQ} {e:Env} {O:VH}
theorem VL.aeg (ht:aI P tab) {d:Option Tmp} {x:Operand} {src dst ty el:TypeId} {ps:String} {af:Array Edge} {g:Option (Nat×Bool)} {L:List (Fl×Oper)} {k off:Nat} {cs:List MV} {y:Value} {te:bS} (hmd:md= .plain\/md= .any)
  (hs:(tab src).map bS.under=some (.pointer el)) (KI:(tab dst).map bS.under=some .unsafePointer) (he:tab el=some te) (hz:te.size≠0) (hk:O.hp k=some (.cells cs)) (hc:cs[off]?=some (.v y))
  (hx:ev e x=some (.ptr k off)) (hg:aK ops (.mk d (.convert src dst x) ty ps af g) e=some true) (hd:bg n d=true) (h:WL P tab n D md ops Q L (aV d (.ptr k off) e) O):
  VL P n D md ops ((.one,.mk d (.convert src dst x) ty ps af g)::L) e O Q:=by
 refine VL.nN (M:=fun m O'=>m= .ptr k off/\O'=O) (fun G a w hw hf=>?_) (by rintro m O' ⟨rfl,rfl⟩;exact WL.sound ht h) (hmd:=hmd) (hg:=hg) (hd:=hd);have l9:=hf.ev hx;generalize nQ:a.eval x=u at l9;cases l9 with
 | ptr hp=>
   rename_i b;obtain⟨ti,z,i1,i2,_⟩:=(ht _ te he).info;obtain⟨b2,s1,s2,_⟩:=hw.cellAt hk hc;rw[hp]at s1;injection s1 with s1;subst s1
   have hr:=run_convert_to_unsafe (P:=P) (w:=w) (bl ht hs) (bl ht KI) (by rw[i1,Option.map_some,decide_eq_false (by rw[i2];exact hz)]) s2;exact⟨_,_,_,w,G,⟨rfl,rfl⟩,by simp[execOp,nQ,hr],Gh.Le.refl G,hw,.ptr hp⟩
theorem eJ.ext {o:Oper} {c:Call} {x:Operand} {id:FuncId} {ms:List MV} {M:MV->VH->Prop} (xe:o.op= .call c) (hc:c.callee= .value x) (hf:ev e x=some (.func (.func id) [] [])) (hm:fS e c.args.toList=some ms) (hx:dV P id ms O M):eJ P n D o e O M:=by
 intro G a w hw aS;have C7:=aS.ev hf;generalize N3:a.eval x=fv at C7;cases C7 with
 | func h1 h2 h3 h4=>
   rename_i us vs;have js:us=[]:=List.eq_nil_of_length_eq_zero h1;have ot:vs=[]:=List.eq_nil_of_length_eq_zero h3;subst js;subst ot
   have gF:=aS.fS hm;obtain⟨m,O',u,w',H,hM,hr,g1,g2,g3⟩:=hx G w _ hw gF;refine⟨m,O',u,w',H,hM,?_,g1,g2,g3⟩;have ha: #[]++c.args.map a.eval++ #[]=(c.args.toList.map a.eval).toArray:=by apply Array.ext';simp
   simp only[execOp,xe,resolve,hc,N3,Deferred.ofValue,Sem.run_bind,Sem.run_pure,Result.andThen_ok,invoke];rw[ha];exact hr
end
set_option linter.defProp false in
def cW:=And.intro adU<|And.intro aho<|And.intro ag6<|And.intro ahr<|And.intro YH<|And.intro ag7<|And.intro ahv<|And.intro YK<|And.intro ag5<|And.intro Pk<|And.intro ahz<|And.intro ahs<|And.intro ahp<|And.intro T2<|And.intro ag8<|And.intro ahq G9
section
variable {O:VH} {k off:Nat} {cs:List MV}
theorem Et {x:Int} (y:Int) (hk:O.hp k=some (.cells cs)) (hc:cs[off]?=some (.v (.int .i64 x))):VF Tryz.prog 157 [.ptr k off,.v (.int .i64 y)] O (aL fun m O'=>m= .v (.int .i64 (IntKind.i64.wrap (x+y)))/\O'=O.set k (.cells (cs.set off (.v (.int .i64 (IntKind.i64.wrap (x+y))))))):=by
 refine VF.db 10 [.tmp 4] Tryz.func157 ?_;refine ae @cW ?_;refine ah.ext (L6 y hk hc) rfl ?_;rintro _ O2 ⟨rfl,rfl⟩;exact eX @cW
theorem L9 {x:Int} (hk:O.hp k=some (.cells cs)) (hc:cs[off]?=some (.v (.int .u32 x))):VF Tryz.prog 205 [.ptr k off] O (aL fun m O'=>m=mb (x != 0)/\O'=O):=by
 refine VF.db 8 [.tmp 2] Tryz.func205 ?_;refine ae @cW ?_;refine ah.ext (PZ hk hc) rfl ?_;rintro _ O2 ⟨rfl,rfl⟩;exact eX @cW
theorem af5 (b:Bool) (O:VH):VF Tryz.prog 251 [mb b] O (aL fun m O'=>m= .v (.int .u32 (if b then 1 else 0))/\O'=O):=by
 refine VF.db 4 [.tmp 2] Tryz.func251 ?_;cases b
 ·exact eX @cW
 ·exact eX @cW
theorem Vl {x:Int} (b:Bool) (hk:O.hp k=some (.cells cs)) (hc:cs[off]?=some (.v (.int .u32 x))):fG Tryz.prog 230 [.ptr k off,mb b] none O (fun O'=>O'=O.set k (.cells (cs.set off (.v (.int .u32 (if b then 1 else 0)))))):=by
 refine fG.ofV aa (n:=⟨10,0⟩) Tryz.func230 rfl rfl (Nat.le_of_ble_eq_true rfl) rfl ?_;simp only[cb,Nat.zero_add,Nat.reduceAdd];refine VC.m4 [5] ?_;refine ab.av 0 ?_;refine ae @cW ?_;refine ab.av 1 ?_;refine ae @cW ?_;refine ab.av 2 ?_;refine ae @cW ?_;refine ab.av 3 ?_;refine ae @cW ?_;refine ab.call (i:=4) (af5 b O) ?_;rintro _ O2 ⟨rfl,eO⟩;simp only[aj];rw[eO];clear eO O2
 refine⟨VH.Ge.refl _,ab.fin (by kernel_rfl) (bP.st (i:=5) rfl (by kernel_rfl) rfl rfl (eJ.ext rfl rfl rfl rfl (L8 _ hk hc)) ?_)⟩;rintro m O2 ⟨rfl,rfl⟩;refine bP.done (by kernel_rfl) ?_;refine ae @cW ?_;trivial
theorem ZG (hk:O.hp k=some (.cells cs)) (hc:cs[off]?=some (.v (.int .i32 0))):VF Tryz.prog 248 [.ptr k off] O (aL fun m O'=>O'=O.set k (.cells (cs.set off (.v (.int .i32 1))))):=by
 have hl:off<cs.length:=(List.getElem?_eq_some_iff.1 hc).1;refine VF.bX 13 [] Tryz.func248 ?_;refine VC.ag aa (ae @cW ?_);refine ah.ext (uT _) rfl ?_;rintro _ O2 ⟨rfl,rfl⟩;refine ae @cW ?_;refine VC.ag aa (ae @cW ?_);refine ah.ext (Vk (y:=1) hk hc) rfl ?_;rintro _ O2 ⟨rfl,eO⟩;have bO:O2.hp k=some (.cells (cs.set off (.v (.int .i32 1)))):=by rw[eO];exact VH.an _ _ _
 have iJ:(cs.set off (.v (.int .i32 1)))[off]?=some (.v (.int .i32 1)):=by rw[List.getElem?_set_self hl]
 refine ae @cW ?_;refine ah.ext (wP _) rfl ?_;rintro _ O3 ⟨rfl,F4⟩;rw[F4];clear F4 O3
 refine ae @cW ?_;refine VL.aeg aa (.inl rfl) (el:=156) (by rw[YK];rfl) (by rw[G9];rfl) YH.1.1 (by decide) bO iJ rfl rfl rfl ?_;refine ae @cW ?_;refine ah.ext (Es _ _ _) rfl ?_;rintro _ O4 ⟨rfl,ox⟩;rw[ox];clear ox O4
 refine ae @cW ?_;exact eO
theorem acS (hk:O.hp k=some (.cells cs)) (hc:cs[off]?=some (.v (.int .i32 0))):VF Tryz.prog 228 [.ptr k off] O (aL fun m O'=>O'=O.set k (.cells (cs.set off (.v (.int .i32 1))))):=by
 refine VF.db 6 [] Tryz.func228 ?_;refine ae @cW ?_;refine ah.rt (ZG hk hc) ?_;rintro _ O2 e2;refine ae @cW ?_;exact e2
theorem P1 (hk:O.hp k=some (.cells cs)) (hc:cs[off]?=some (.v (.int .i32 1))):VF Tryz.prog 249 [.ptr k off] O (aL fun m O'=>O'=O.set k (.cells (cs.set off (.v (.int .i32 0))))):=by
 have hl:off<cs.length:=(List.getElem?_eq_some_iff.1 hc).1;refine VF.bX 21 [] Tryz.func249 ?_;refine VC.ag aa (aM @cW @hk @hc ?_);refine VL.aeg aa (.inl rfl) (el:=156) (by rw[YK];rfl) (by rw[G9];rfl) YH.1.1 (by decide) hk hc rfl rfl rfl ?_;refine ae @cW ?_;refine ah.ext (Ca _ _ _) rfl ?_;rintro _ O2 ⟨rfl,F5⟩;rw[F5];clear F5 O2
 refine ae @cW ?_;refine ah.ext (uT _) rfl ?_;rintro _ O2 ⟨rfl,F5⟩;rw[F5];clear F5 O2
 refine ae @cW ?_;refine VC.ag aa (ae @cW ?_);refine ah.ext (L7 (-1) hk hc) rfl ?_;rintro _ O2 ⟨rfl,eO⟩;refine ao @cW (show IntKind.i32.wrap (1+ -1)=0 from rfl) ?_;refine VC.ag aa (ae @cW ?_);refine WC.sound aa (ae @cW ?_);refine ah.ext (wP _) rfl ?_;rintro _ O3 ⟨rfl,F4⟩;rw[F4];clear F4 O3
 refine ae @cW ?_;exact eO
theorem Vm (hk:O.hp k=some (.cells cs)) (hc:cs[off]?=some (.v (.int .i32 1))):fG Tryz.prog 229 [.ptr k off] none O (fun O'=>O'=O.set k (.cells (cs.set off (.v (.int .i32 0))))):=by
 refine fG.ofV aa (n:=⟨6,0⟩) Tryz.func229 rfl rfl (Nat.le_of_ble_eq_true rfl) rfl ?_;simp only[cb,Nat.zero_add,Nat.reduceAdd];refine WC.sound aa (ae @cW ?_);refine ah.rt (P1 hk hc) ?_;rintro _ O2 e2;refine ae @cW ?_;exact e2
theorem Vn {g:FuncId} {xs:List MV} {Φ :VH->Prop} (hk:O.hp k=some (.cells cs)) (h0:cs[off]?=some (.v (.int .u32 0))) (h1:cs[off+1]?=some (.v (.int .i32 0))) (hg:dk Tryz.prog g=true)
  (hC:VF Tryz.prog g xs (O.set k (.cells (cs.set (off+1) (.v (.int .i32 1))))) (aL fun _ O'=> Φ O'))
  (hΦ :∀O', Φ O'->∃cs',O'.hp k=some (.cells cs')/\cs'[off]?=some (.v (.int .u32 0))/\cs'[off+1]?=some (.v (.int .i32 1))):
  VF Tryz.prog 206 [.ptr k off,.func (.func g) [] xs] O (aL fun _ O'=>∃O1 cs', Φ O1/\O1.hp k=some (.cells cs')/\O'=O1.set k (.cells ((cs'.set off (.v (.int .u32 1))).set (off+1) (.v (.int .i32 0))))):=by
 refine VF.defs (K:=fun O'=>∃O1 cs', Φ O1/\O1.hp k=some (.cells cs')/\O'=O1.set k (.cells ((cs'.set off (.v (.int .u32 1))).set (off+1) (.v (.int .i32 0))))) Tryz.func206 rfl rfl (Nat.le_of_ble_eq_true rfl) ?_ (fun O' h=>h);show RC _ _ ⟨21,0⟩ _ _ _ _ _;simp only[cb,Nat.zero_add,Nat.reduceAdd];refine RC.ag fun D=>?_
 refine WC.sound aa (ae @cW ?_);refine ah.rt (acS hk h1) ?_;rintro _ O2 e2;have bO:O2.hp k=some (.cells (cs.set (off+1) (.v (.int .i32 1)))):=by rw[e2];exact VH.an _ _ _
 refine ae @cW ?_;refine RC.region [0,1,2,3] rfl ?_;refine RO.o1 ?_;refine ae @cW ?_;refine RO.o1 ?_;refine ae @cW ?_;refine RO.o1 ?_;refine ae @cW ?_;refine RO.defer rfl rfl ?_;refine RC.ag fun D=>?_
 have h02:(cs.set (off+1) (.v (.int .i32 1)))[off]?=some (.v (.int .u32 0)):=by rw[List.getElem?_set_ne (by omega)];exact h0
 refine WC.sound aa (ae @cW ?_);refine ah.rt (L9 bO h02) ?_;rintro _ O3 ⟨rfl,eO⟩;rw[eO];clear eO O3
 refine ae @cW ?_;refine RC.cond (t:=true) rfl ?_;rw[if_pos rfl];refine RC.region [0,1,2,3] rfl ?_;refine RO.o1 ?_;refine ae @cW ?_;refine RO.o1 ?_;refine ae @cW ?_;refine RO.o1 ?_;refine ae @cW ?_;refine RO.defer rfl rfl ?_;refine RC.fin rfl fun D=>?_
 rw[e2];refine WC.sound aa (ae @cW ?_);refine ah.rt hC ?_ (hb:=hg);rintro m O3 B4;obtain⟨cs',dA,h3,h4⟩:=hΦ O3 B4;have qs:off<cs'.length:=(List.getElem?_eq_some_iff.1 h3).1;refine ae @cW ?_;refine⟨Enters.sY (by kernel_rfl),(Vl true dA h3).mono fun O4 e4=>?_⟩;have lq:O4.hp k=some (.cells (cs'.set off (.v (.int .u32 1)))):=by rw[e4];exact VH.an _ _ _
 have h44:(cs'.set off (.v (.int .u32 1)))[off+1]?=some (.v (.int .i32 1)):=by rw[List.getElem?_set_ne (by omega)];exact h4
 refine⟨Enters.sY (by kernel_rfl),(Vm lq h44).mono fun O5 e5=>?_⟩;refine⟨O3,cs',B4,dA,?_⟩;rw[e5,e4];exact VH.set_set _ _ _ _
theorem ahY {g:FuncId} {xs:List MV} {Φ :VH->Prop} (hk:O.hp k=some (.cells cs)) (h0:cs[off]?=some (.v (.int .u32 0))) (h1:cs[off+1]?=some (.v (.int .i32 0))) (hg:dk Tryz.prog g=true)
  (hC:VF Tryz.prog g xs (O.set k (.cells (cs.set (off+1) (.v (.int .i32 1))))) (aL fun _ O'=> Φ O'))
  (hΦ :∀O', Φ O'->∃cs',O'.hp k=some (.cells cs')/\cs'[off]?=some (.v (.int .u32 0))/\cs'[off+1]?=some (.v (.int .i32 1))):
  VF Tryz.prog 178 [.ptr k off,.func (.func g) [] xs] O (aL fun _ O'=>∃O1 cs', Φ O1/\O1.hp k=some (.cells cs')/\O'=O1.set k (.cells ((cs'.set off (.v (.int .u32 1))).set (off+1) (.v (.int .i32 0))))):=by
 refine VF.bX 12 [] Tryz.func178 ?_;refine VC.ag aa (ae @cW ?_);refine ah.rt (L9 hk h0) ?_;rintro _ O3 ⟨rfl,eO⟩;rw[eO];clear eO O3
 refine ae @cW ?_;refine WC.sound aa (ae @cW ?_);refine ah.rt (Vn hk h0 h1 hg hC hΦ) ?_;rintro m O3 h3;refine ae @cW ?_;exact h3
end
structure Rec where
 b:Nat
 off:Nat
 name:Bs
 attrs:List (Bs×Bs)
 kids:List Nd
 q:MV
def h_ (r:Rec):List MV:=[.str r.name,.sl r.attrs.length (r.attrs.flatMap aW) .ar,r.q,.str []]
theorem qY (r:Rec):(h_ r).length=4:=rfl
def nX (O:VH) (B k:Nat):List Rec->Prop
 | []=>True
 | [r]=>r.b=k/\r.off=0
 | r::p::rest=>(∃c,p.q= .bo r.b 0 (p.kids.length+1) c/\p.kids.length+1<=c/\Row O 137 4 B r.b c (ax p.kids++h_ r))/\r.off=p.kids.length*4/\p.b<r.b/\nX O B k (p::rest)
def ahZ (O:VH) (B:Nat):List Rec->Prop
 | []=>True
 | r::_=>GR O 137 4 B r.q r.kids.length (ax r.kids)/\∀i,gid r.q=some i->r.b<i
def nY:List Rec->List MV->List MV
 | [],z=>z
 | [r],_=>h_ r
 | _::r::R,z=>nY (r::R) z
def fZ (R:List Rec):List MV:=(R.map fun r=>MV.ptr r.b r.off).reverse
theorem p6 (r:Rec) (R:List Rec):(fZ (r::R))=fZ R++[.ptr r.b r.off]:=by unfold fZ;simp
theorem j5 (R:List Rec):(fZ R).length=R.length:=by unfold fZ;simp
theorem eh:∀(R:List Rec) (z:List MV),z.length=4->(nY R z).length=4
 | [],z,h=>h
 | [r],_,_=>rfl
 | _::r::R,z,h=>eh (r::R) z h
structure BC (O:VH) (B k:Nat) (R:List Rec) (z tl:List MV):Prop where
 lt:k<B
 le:B<=O.next
 cells:O.hp k=some (.cells (nY R z++tl))
 zl:z.length=4
 chain:nX O B k R
 top:ahZ O B R
def Kp (O O':VH) (S:List Nat):Prop:=O.next<=O'.next/\∀i,i<O.next->i ∉ S->O'.hp i=O.hp i
def AF (O:VH) (S:List Nat):Prop:=∀x∈S,∀j t n,O.hp x≠some (.shape j t n)
theorem AF.ne {O:VH} {S:List Nat} (h:AF O S) {j i t n:Nat} (hj:O.hp j=some (.shape i t n)):j ∉ S:=fun hm=>h j hm _ _ _ hj
theorem Row.kp {O O':VH} {el:TypeId} {sz B k c:Nat} {L:List MV} {S:List Nat} (h:Row O el sz B k c L) (u:Kp O O' S) (hS:AF O S) (hk:k ∉ S):Row O' el sz B k c L:=by
 obtain⟨⟨sp,h1,h2⟩,⟨j,h3,h4,h5⟩,h6,h7⟩:=h;exact⟨⟨sp,(u.2 k h7 hk).trans h1,h2⟩,⟨j,h3,Nat.lt_of_lt_of_le h4 u.1,(u.2 j h4 (hS.ne h5)).trans h5⟩,h6,Nat.lt_of_lt_of_le h7 u.1⟩
theorem Row.own {O O':VH} {el:TypeId} {sz B k c:Nat} {L L' sp:List MV} {S:List Nat} (h:Row O el sz B k c L) (u:Kp O O' S) (hS:AF O S) (hc:O'.hp k=some (.cells (L'++sp))) (hl:(L'++sp).length=c*sz):Row O' el sz B k c L':=by
 obtain⟨_,⟨j,h3,h4,h5⟩,h6,h7⟩:=h;exact⟨⟨sp,hc,hl⟩,⟨j,h3,Nat.lt_of_lt_of_le h4 u.1,(u.2 j h4 (hS.ne h5)).trans h5⟩,h6,Nat.lt_of_lt_of_le h7 u.1⟩
theorem nX.lt {O:VH} {B k:Nat}:∀{R:List Rec} {r:Rec},nX O B k (r::R)->∀x∈R,x.b<r.b
 | [],_,_,x,hx=>by cases hx
 | p::R,r,h,x,hx=>by
   obtain⟨_,_,h3,h4⟩:=h;rcases List.mem_cons.1 hx with rfl | hx
   ·exact h3
   ·exact Nat.lt_trans (h4.lt x hx) h3
theorem nX.kp {O O':VH} {B k:Nat} {S:List Nat} (u:Kp O O' S) (hS:AF O S):∀{R:List Rec},nX O B k R->(∀r∈R,r.b=k\/(∃cs,O.hp r.b=some (.cells cs))->r.b=k\/r.b ∉ S)->k<B->nX O' B k R
 | [],_,_,_=>trivial
 | [r],h,_,_=>h
 | r::p::rest,⟨⟨c,h1,h2,h3⟩,h4,h5,h6⟩,hn,hk=>⟨⟨c,h1,h2,h3.kp u hS (((hn r (by simp)) (.inr (by obtain⟨sp,e,_⟩:=h3.cells;exact⟨_,e⟩))).resolve_left fun e=>by have:=h3.lo;omega)⟩,h4,h5,h6.kp u hS (fun x hx=>hn x (by simp[hx])) hk⟩
theorem GR.lo {O:VH} {el:TypeId} {sz B n i:Nat} {p:MV} {L:List MV} (h:GR O el sz B p n L) (e:gid p=some i):B<=i/\i<O.next:=by
 rcases h with⟨_,_,hp | hp⟩ | ⟨k2,c,hp,_,_,jN⟩
 ·rw[hp]at e;cases e
 ·rw[hp]at e;cases e
 ·rw[hp]at e;injection e with e;subst e;exact⟨jN.lo,jN.hi⟩
theorem GR.kp {O O':VH} {el:TypeId} {sz B n:Nat} {p:MV} {L:List MV} {S:List Nat} (h:GR O el sz B p n L) (u:Kp O O' S) (hS:AF O S) (hk:∀i,gid p=some i->i ∉ S):GR O' el sz B p n L:=by
 rcases h with h | ⟨k2,c,hp,h1,h2,jN⟩
 ·exact .inl h
 ·exact .inr ⟨k2,c,hp,h1,h2,jN.kp u hS (hk k2 (by rw[hp];rfl))⟩
theorem GR.L_ {O:VH} {el:TypeId} {sz B n i:Nat} {p:MV} {L:List MV} (h:GR O el sz B p n L) (e:gid p=some i):∃cs,O.hp i=some (.cells cs):=by
 rcases h with⟨_,_,hp | hp⟩ | ⟨k2,c,hp,_,_,jN⟩
 ·rw[hp]at e;cases e
 ·rw[hp]at e;cases e
 ·rw[hp]at e;injection e with e;subst e
  obtain⟨sp,h1,_⟩:=jN.cells;exact⟨_,h1⟩
theorem BC.loc {O:VH} {B k:Nat} {r:Rec} {R:List Rec} {z tl:List MV} (h:BC O B k (r::R) z tl):∃pre post,O.hp r.b=some (.cells (pre++h_ r++post))/\pre.length=r.off/\r.b<O.next/\(R=[]->r.b=k/\pre=[]/\post=tl)/\∀p rest,R=p::rest->pre=ax p.kids/\B<=r.b:=by
 cases R with
 | nil=>
   obtain⟨h1,h2⟩:=h.chain;refine⟨[],tl,?_,h2.symm,?_,fun _=>⟨h1,rfl,rfl⟩,fun p rest e=>by cases e⟩
   ·rw[h1];exact h.cells
   ·rw[h1];exact Nat.lt_of_lt_of_le h.lt h.le
 | cons p rest=>
   obtain⟨⟨c,_,_,jN⟩,ho,_,_⟩:=h.chain;obtain⟨sp,h1,h2⟩:=jN.cells;exact⟨ax p.kids,sp,h1,by rw[cH,ho],jN.hi,(fun e=>by cases e),fun p' ajb e=>by injection e with e1 e2;subst e1;exact⟨rfl,jN.lo⟩⟩
theorem BC.part {O O':VH} {B k:Nat} {r r':Rec} {R:List Rec} {z tl pre post:List MV} {S:List Nat} (h:BC O B k (r::R) z tl) (hc:O.hp r.b=some (.cells (pre++h_ r++post))) (hl:pre.length=r.off) (hR:R=[]->post=tl) (u:Kp O O' S) (hb:r'.b=r.b) (ho:r'.off=r.off)
  (hn:∀x∈S,x=r.b\/gid r.q=some x) (qh:O'.hp r.b=some (.cells (pre++h_ r'++post))):O'.hp k=some (.cells (nY (r'::R) z++tl))/\nX O' B k (r'::R):=by
 have B_:=h.chain;have dK:=B_.lt;have gP:=h.top
 have hS:AF O S:=fun x hx j t n e=>by
  rcases hn x hx with e2 | e2
  ·subst e2;rw[hc]at e;cases e
  ·obtain⟨cs,e3⟩:=gP.1.L_ e2;rw[e3]at e;cases e
 cases R with
 | nil=>
   obtain⟨h1,h2⟩:=B_;have hp:pre=[]:=List.eq_nil_of_length_eq_zero (by rw[hl,h2]);subst hp;refine⟨?_,⟨by rw[hb,h1],by rw[ho,h2]⟩⟩;rw[<-h1,qh,hR rfl];rfl
 | cons p rest=>
   obtain⟨⟨c,e1,e2,jN⟩,e3,e4,e5⟩:=B_;have ah0:=jN.lo
   have hkS:k ∉ S:=fun hm=>by
    have:=h.lt;rcases hn k hm with e | e
    ·omega
    ·have:=(gP.1.lo e).1;omega
   obtain⟨sp,nZ,wj⟩:=jN.cells;rw[hc]at nZ;injection nZ with nZ;injection nZ with nZ
   have dE:pre.length=(ax p.kids).length:=by rw[hl,e3,cH]
   rw[List.append_assoc,List.append_assoc]at nZ;obtain⟨mK,v7⟩:=List.append_inj nZ dE;obtain⟨_,nW⟩:=List.append_inj v7 rfl;subst mK;subst nW
   refine⟨?_,⟨⟨c,by rw[e1,hb],e2,?_⟩,by rw[ho,e3],by rw[hb];exact e4,e5.kp u hS (fun x hx _=>?_) h.lt⟩⟩
   ·rw[u.2 k (Nat.lt_of_lt_of_le h.lt h.le) hkS];exact h.cells
   ·rw[hb];refine jN.own u hS qh ?_;rw[List.length_append,List.length_append,qY]at wj ⊢;exact wj
   ·refine .inr fun hm=>?_
    have h6:=dK x hx;rcases hn x.b hm with e | e
    ·omega
    ·have:=gP.2 _ e;omega
theorem BC.IV {O O':VH} {B k:Nat} {r r':Rec} {R:List Rec} {z tl pre post:List MV} {S:List Nat} (h:BC O B k (r::R) z tl) (hc:O.hp r.b=some (.cells (pre++h_ r++post))) (hl:pre.length=r.off) (hR:R=[]->post=tl) (u:Kp O O' S) (hb:r'.b=r.b) (ho:r'.off=r.off)
  (hn:∀x∈S,x=r.b\/gid r.q=some x) (qh:O'.hp r.b=some (.cells (pre++h_ r'++post))) (ht:GR O' 137 4 B r'.q r'.kids.length (ax r'.kids)) (NY:∀i,gid r'.q=some i->r.b<i):BC O' B k (r'::R) z tl:=by
 obtain⟨h1,h2⟩:=h.part hc hl hR u hb ho hn qh;exact⟨h.lt,Nat.le_trans h.le u.1,h1,h.zl,h2,⟨ht,fun i e=>by rw[hb];exact NY i e⟩⟩
theorem BC.push {O O':VH} {B k k' c:Nat} {r:Rec} {R:List Rec} {z tl pre post:List MV} {S:List Nat} {nm:Bs} {fe:List (Bs×Bs)} (h:BC O B k (r::R) z tl) (hc:O.hp r.b=some (.cells (pre++h_ r++post))) (hl:pre.length=r.off) (hR:R=[]->post=tl) (u:Kp O O' S)
  (hn:∀x∈S,x=r.b\/gid r.q=some x) (qh:O'.hp r.b=some (.cells (pre++h_ {r with q:=.bo k' 0 (r.kids.length+1) c}++post))) (hk:gid r.q=some k'\/O.next<=k') (hlen:r.kids.length+1<=c)
  (jN:Row O' 137 4 B k' c (ax r.kids++h_ ⟨k',r.kids.length*4,nm,fe,[],.sl 0 [] .nil⟩)):BC O' B k (⟨k',r.kids.length*4,nm,fe,[],.sl 0 [] .nil⟩::{r with q:=.bo k' 0 (r.kids.length+1) c}::R) z tl:=by
 obtain⟨h1,h2⟩:=h.part (r':={r with q:=.bo k' 0 (r.kids.length+1) c}) hc hl hR u rfl rfl hn qh
 have hrb:r.b<k':=by
  rcases hk with e | e
  ·exact h.top.2 _ e
  ·obtain⟨_,_,_,_,e2,_⟩:=h.loc;omega
 exact⟨h.lt,Nat.le_trans h.le u.1,h1,h.zl,⟨⟨c,rfl,hlen,jN⟩,rfl,hrb,h2⟩,⟨.inl ⟨rfl,by rw[ax],.inl rfl⟩,fun i e=>by cases e⟩⟩
theorem BC.step {O O':VH} {B k:Nat} {R:List Rec} {z z' tl tl':List MV} {S:List Nat} (h:BC O B k R z tl) (u:Kp O O' S) (hS:∀x∈S,x=k\/O.hp x=some .tok) (hc:O'.hp k=some (.cells (nY R z'++tl'))) (hz:z'.length=4):BC O' B k R z' tl':=by
 have hS2:AF O S:=fun x hx j t n e=>by
  rcases hS x hx with e2 | e2
  ·subst e2;rw[h.cells]at e;cases e
  ·rw[e2]at e;cases e
 have hn:∀{i:Nat},(∃cs,O.hp i=some (.cells cs))->i≠k->i ∉ S:=fun{i} ⟨cs,e⟩ hne hm=>by
  rcases hS i hm with e2 | e2
  ·exact hne e2
  ·rw[e2]at e;cases e
 refine⟨h.lt,Nat.le_trans h.le u.1,hc,hz,h.chain.kp u hS2 (fun r _ hr=>?_) h.lt,?_⟩
 ·by_cases e:r.b=k
  ·exact .inl e
  ·exact .inr (hn (hr.resolve_left e) e)
 ·have ht:=h.top;cases R with
  | nil=>trivial
  | cons r R=>exact⟨ht.1.kp u hS2 (fun i e=>hn (ht.1.L_ e) (by have:=(ht.1.lo e).1;have:=h.lt;omega)),ht.2⟩
theorem Kp.set {O:VH} {k:Nat} {x:bV}:Kp O (O.set k x) [k]:=⟨Nat.le_refl _,fun i _ hn=>VH.ak _ _ (by simpa using hn)⟩
theorem Kp.refl {O:VH} {S:List Nat}:Kp O O S:=⟨Nat.le_refl _,fun _ _ _=>rfl⟩
theorem Kp.trans {O O1 O2:VH} {S T:List Nat} (h:Kp O O1 S) (k:Kp O1 O2 T):Kp O O2 (S++T):=⟨Nat.le_trans h.1 k.1,fun i hi hn=>by
 rw[List.mem_append,not_or]at hn;rw[k.2 i (Nat.lt_of_lt_of_le hi h.1) hn.2,h.2 i hi hn.1]⟩
theorem Kp.ge {O O1:VH} (h:O.Ge O1) {S:List Nat}:Kp O O1 S:=⟨h.next,fun i hi _=>h.hp i hi⟩
theorem Kp.bA {O O1:VH} {q:Option Nat} (h:bk O q O1):Kp O O1 q.toList:=⟨h.next,fun i hi hn=>h.hp i hi fun e=>hn (by rw[e];simp)⟩
theorem Kp.k {O O1:VH} {tk:aC} (h:cj tk O O1):Kp O O1 (aC.id tk).toList:=⟨h.next,fun i hi hn=>h.hp i hi fun e=>hn (by rw[e];simp)⟩
theorem Kp.sub {O O1:VH} {S T:List Nat} (h:Kp O O1 S) (hs:∀x∈S,x∈T\/O.next<=x):Kp O O1 T:=⟨h.1,fun i hi hn=>h.2 i hi fun hm=>by
 rcases hs i hm with e | e
 ·exact hn e
 ·omega⟩
theorem BC.ge {O O':VH} {B k:Nat} {R:List Rec} {z tl:List MV} (h:BC O B k R z tl) (g:O.Ge O'):BC O' B k R z tl:=
 h.step (S:=[]) (Kp.ge g) (fun x hx=>by cases hx) ((g.hp _ (Nat.lt_of_lt_of_le h.lt h.le)).trans h.cells) h.zl
def oy (R:List Rec) (tk:aC) (bJ:Nat) (dn tx:Bool):List MV:=[.sl R.length (fZ R) tk,mi bJ,mb dn,mb tx]
structure BS (O:VH) (B k:Nat) (R:List Rec) (tk:aC) (bJ:Nat) (dn tx:Bool) (z:List MV):Prop where
 c:BC O B k R z (oy R tk bJ dn tx)
 a:App O B 1 tk
theorem BS.ge {O O':VH} {B k bJ:Nat} {R:List Rec} {tk:aC} {dn tx:Bool} {z:List MV} (h:BS O B k R tk bJ dn tx z) (g:O.Ge O'):BS O' B k R tk bJ dn tx z:=⟨h.c.ge g,h.a.ge g⟩
def c7 (k:Nat) (R:List Rec) (tk:aC):List Nat:=k::(R.map (·.b)++(R.head?.bind fun r=>gid r.q).toList++(aC.id tk).toList)
theorem my {k:Nat} {R:List Rec} {tk:aC}:k∈c7 k R tk:=by simp[c7]
theorem oz {k:Nat} {r:Rec} {R:List Rec} {tk:aC}:r.b∈c7 k (r::R) tk:=by simp[c7]
theorem mz {k x:Nat} {r:Rec} {R:List Rec} {tk:aC} (h:gid r.q=some x):x∈c7 k (r::R) tk:=by simp[c7,h]
theorem Cs {k x:Nat} {R:List Rec} {tk:aC} (h:aC.id tk=some x):x∈c7 k R tk:=by simp[c7,h]
theorem zC {k:Nat} {r:Rec} {R:List Rec} {tk:aC} (h:r∈R):r.b∈c7 k R tk:=by
 have:=List.mem_map_of_mem (f:=fun r:Rec=>r.b) h;simp only[c7,List.mem_cons,List.mem_append];exact .inr (.inl (.inl this))
theorem Kp.more {O O1 O2:VH} {U S:List Nat} (h:Kp O O1 U) (k:Kp O1 O2 S) (hs:∀x∈S,x∈U\/O.next<=x):Kp O O2 U:=⟨Nat.le_trans h.1 k.1,fun i hi hn=>by
 rw[k.2 i (Nat.lt_of_lt_of_le hi h.1) (fun hm=>(hs i hm).elim hn fun e=>by omega),h.2 i hi hn]⟩
set_option linter.defProp false in
def aA:=And.intro dw<|And.intro ahu<|And.intro aht<|And.intro Lk<|And.intro Ll nv
theorem p7 {l:List MV} (h:l.length=4):∃a b c d,l=[a,b,c,d]:=by
 match l,h with
 | [a,b,c,d],_=>exact⟨_,_,_,_,rfl⟩
theorem App.wQ {O:VH} {B sz k:Nat} {tk:aC} {x:bV} (h:App O B sz tk) (hk:k<B):App (O.set k x) B sz tk:=by
 cases tk with
 | own t j=>exact⟨h.1,(VH.ak _ _ (by have:=h.2.2.1;omega)).trans h.2.1,h.2.2.1,h.2.2.2⟩
 | nil=>trivial
 | full=>trivial
 | ar=>exact h.elim
theorem BS.flag {O:VH} {B k bJ cnt':Nat} {R:List Rec} {tk:aC} {dn tx dn' tx':Bool} {z:List MV} (h:BS O B k R tk bJ dn tx z):BS (O.set k (.cells (nY R z++oy R tk cnt' dn' tx'))) B k R tk cnt' dn' tx' z:=
 ⟨h.c.step Kp.set (fun x hx=>.inl (by simpa using hx)) (VH.an _ _ _) h.c.zl,h.a.wQ h.c.lt⟩
theorem ZH {O:VH} {B k bJ:Nat} {R:List Rec} {tk:aC} {dn tx:Bool} {z:List MV} (h:BS O B k R tk bJ dn tx z) (hc:bJ<=1000000):
  VF Tryz.prog 286 [.ptr k 0] O (aL fun m O'=>m=mb (decide (bJ+1<=4096))/\BS O' B k R tk (bJ+1) dn tx z/\Kp O O' [k]):=by
 have hk:=h.c.cells;obtain⟨a0,a1,a2,a3,hr⟩:=p7 (eh R z h.c.zl);have nC:=h.flag (cnt':=bJ+1) (dn':=dn) (tx':=tx);unfold oy at hk nC;rw[hr]at hk nC;simp only[aq,a_,List.cons_append,List.nil_append]at hk nC;refine VF.db 15 [.tmp 2] Tryz.func286 ?_;by_cases h1:bJ+1<=4096
 ·rw[decide_eq_true h1];refine ao @aA @hk ?_;exact⟨nC,Kp.set⟩
 ·rw[decide_eq_false h1];refine ao @aA @hk ?_;exact⟨nC,Kp.set⟩
theorem Eu {O:VH} {B k bJ:Nat} {r:Rec} {R:List Rec} {tk:aC} {dn tx:Bool} {z:List MV} (h:BS O B k (r::R) tk bJ dn tx z) (hl:R.length<=1000):
  VF Tryz.prog 259 [.ptr k 0] O (aL fun m O'=>m= .ptr r.b r.off/\O'=O):=by
 have hk:=h.c.cells;obtain⟨a0,a1,a2,a3,hr⟩:=p7 (eh (r::R) z h.c.zl);unfold oy at hk;rw[hr]at hk
 have bI:(fZ (r::R))[R.length]?=some (.ptr r.b r.off):=by
  rw[p6,List.getElem?_append_right (by rw[j5];exact Nat.le_refl _),j5,Nat.sub_self];rfl
 have hCl:(fZ (r::R)).length=R.length+1:=by rw[j5];rfl
 generalize fZ (r::R)=C at*;simp only[aq,a_,List.cons_append,List.nil_append,List.length_cons]at hk;have qp:(((R.length+1:Nat):Int) - 1)=(R.length:Int):=by omega
 refine VF.bX 15 [.tmp 2] Tryz.func259 ?_;refine VC.ag aa (ae @aA ?_);refine VC.bu ?_;refine WC.reads ?_;refine ll @aA @hk @qp @bI @uj ?_;refine WC.sound aa (ae @aA ?_);trivial
def qt (R:List Rec):List (Bs×List (Bs×Bs)×List Nd):=R.map fun r=>(r.name,r.attrs,r.kids)
def p8 (n bJ:Nat) (dn:Bool):Option Int:=if dn then some 16 else if 64<=n then some 2 else if 4096<bJ+1 then some 2 else none
theorem VH.set_comm {O:VH} {a b:Nat} {x y:bV} (h:a≠b):(O.set a x).set b y=(O.set b y).set a x:=by
 have key:bA (bA O.hp a (some x)) b (some y)=bA (bA O.hp b (some y)) a (some x):=by
  funext j
  by_cases e:j=a
  ·subst e;rw[aw _ _ h,aQ,aQ]
  ·by_cases e2:j=b
   ·subst e2;rw[aQ,aw _ _ e,aQ]
   ·rw[aw _ _ e2,aw _ _ e,aw _ _ e,aw _ _ e2]
 unfold VH.set;dsimp only;rw[key]
section
variable {G H:Gh} {n:Sz} {D:List Deferred} {e:Env} {a:Act} {P:Program} {tab:bN} {O O':VH} {w:World} {m:MV} {ops:Array Oper} {Q:VQ}
theorem bq.aeh {brk:List Nat} {fuel i:Nat} {listed:Array Bool} {l:List Oper} {o:Oper} (ho:l[i]?=some o) (hr:Region.ready .any ⟨l⟩ listed=[i]) (hb:brk.contains i=false) (hA:FD o.op=true)
  (hg:aK ⟨l⟩ o e=some true) (hy:∀G a w,WR G O w->FR G n D e a->cU P o a w G m O') (hd:bg n o.dst=true) (h:bq P n D ⟨l⟩ brk fuel (listed.setIfInBounds i true) (aV o.dst m e) O' Q):bq P n D ⟨l⟩ brk (fuel+1) listed e O Q:=by
 intro G a w hw aS;refine iM hr (by simp) fun j hj=>?_
 obtain rfl:j=i:=by simpa using hj
 obtain⟨nx,w',H,u,bU,rL,h1,h2,h3,h4⟩:=hy G a w hw aS;have IQ:(⟨l⟩:Array Oper)[j]?=some o:=by simpa using ho
 simp only[wpOp,IQ,bf aS hg,if_true];refine .inl ?_;unfold Oper.wp;rw[bU];have hk:=h H (a.put o.dst u) w' h2 ((aS.mono h1).aV hd h3)
 have WY:TH brk G w j w'/\ik P .any ⟨l⟩ (cu G n D Q) (TH brk G w) fuel (listed.setIfInBounds j true) (a.put o.dst u) w':=by
  have oK:=h4 hA;have hs:Sx G w w':=⟨SS.le h1 h2.ss,oK⟩;refine⟨fun _=>hs,iN (fun _ _ _=>cu.le h1) _ _ _ _ (fun k _ x hT BU=>?_) hk⟩;obtain⟨g1,g2⟩:=hT BU;exact⟨SS.le h1 g1,fun k' b oG=>(g2 k' b (h1.cy oG)).trans (oK k' b oG)⟩
 rcases rL with rfl | ⟨rfl,rfl⟩<;>exact WY
end
theorem ZI {G:Gh} {n:Sz} {D:List Deferred} {e:Env} {a:Act} {O:VH} {w:World} {d:Option Tmp} {ty:TypeId} {ps:String} {af:Array Edge} {g:Option (Nat×Bool)} (hw:WR G O w) (hf:FR G n D e a):cU Tryz.prog (.mk d (.buildSlice 135 1 #[(0,.const (.agg #[.string ⟨⟨[]⟩⟩,.slice none 0 0,.slice none 0 0,.string ⟨⟨[]⟩⟩]))]) ty ps af g) a w G (.sl 1 [.str [],.sl 0 [] .nil,.sl 0 [] .nil,.str []] .full) O:=
 cU.of (sB (t:=135) (len:=1) (m:=.sl 1 [.str [],.sl 0 [] .nil,.sl 0 [] .nil,.str []] .full) (parts:=[(0,.agg [.str [],.sl 0 [] .nil,.sl 0 [] .nil,.str []])]) (ps:= #[(0,.agg #[.string ⟨⟨[]⟩⟩,.slice none 0 0,.slice none 0 0,.string ⟨⟨[]⟩⟩])]) aa hw (by kernel_rfl) rfl
  (aO.cons (.agg (us:=[.string ⟨⟨[]⟩⟩,.slice none 0 0,.slice none 0 0,.string ⟨⟨[]⟩⟩]) rfl (aO.cons .str (aO.cons .slnil (aO.cons .slnil (aO.cons .str aO.nil)))).2) aO.nil)) (by simp[execOp,Act.eval])
theorem aei (L sp:List MV) (x y z w a b c d:MV):((((L++[x,y,z,w]++sp).set L.length a).set (L.length+1) b).set (L.length+1+1) c).set (L.length+1+1+1) d=L++[a,b,c,d]++sp:=by
 induction L with
 | nil=>rfl
 | cons e L ih=>
   simp only[List.cons_append,List.length_cons,List.set_cons_succ];rw[ih]
theorem App.Ma {O O':VH} {B sz:Nat} {tk:aC} {S:List Nat} (h:App O B sz tk) (u:Kp O O' S) (hS:∀x∈S,O.hp x≠some .tok):App O' B sz tk:=by
 cases tk with
 | own t k=>exact⟨h.1,(u.2 t h.2.2.2 (fun hm=>hS t hm h.2.1)).trans h.2.1,h.2.2.1,Nat.lt_of_lt_of_le h.2.2.2 u.1⟩
 | nil=>trivial
 | full=>trivial
 | ar=>exact h.elim
theorem RV {O:VH} {B n:Nat} {p:MV} {L:List MV} (h:GR O 137 4 B p n L):n5 (jE Tryz.prog) 135 p=some (.v (.int .i64 n)):=by
 rcases h with⟨rfl,_,rfl | rfl⟩ | ⟨k,c,rfl,_⟩
 ·exact yl nv
 ·exact yl nv
 ·exact GO nv
theorem ZJ {O:VH} {B k bJ:Nat} {R:List Rec} {tk:aC} {dn tx:Bool} {z:List MV} (h:BS O B k R tk bJ dn tx z) (hc:bJ<=1000000) (kd:Int) (nm tt:Bs) (fe:List (Bs×Bs)) (p1 p2 p3:Int) (Hr:fe.length<=100000) (mh:∀r∈R,r.kids.length<=1000000):
  VF Tryz.prog 257 [.ptr k 0,.agg [mi kd,.str nm,.sl fe.length (fe.flatMap aW) .ar,.str tt,mi p1,mi p2,mi p3]] O (aL fun m O'=>Kp O O' (c7 k R tk)/\match p8 R.length bJ dn with
   | some e=>m=mi e
   | none=>m=mi 0/\∃R' tk',BS O' B k R' tk' (bJ+1) false false z/\qt R'=(nm,fe,[])::qt R/\∀x∈c7 k R' tk',x∈c7 k R tk\/O.next<=x):=by
 obtain⟨a0,a1,a2,a3,hr⟩:=p7 (eh R z h.c.zl);have fR:=h.c.lt;have hBn:=h.c.le;simp only[aq];refine VF.bX 87 [.tmp 4] Tryz.func257 ?_;refine VC.ag aa (ae @aA ?_);refine VC.bx ?_;rintro O1 ⟨aT,Cb,dd⟩;have h1:=h.ge aT;have en:=h1.c.cells;unfold oy at en;rw[hr]at en;simp only[aq,a_,List.cons_append,List.nil_append]at en;have iE:Kp O O1 (c7 k R tk):=Kp.ge aT;have uU:∀x∈[k],x∈c7 k R tk\/O.next<=x:=fun x hx=>.inl (by rw[List.mem_singleton]at hx;rw[hx];exact my)
 cases dn;rotate_left
 ·refine VC.ag aa (ao @aA @en ?_);exact⟨iE,rfl⟩
 by_cases DP:64<=R.length
 ·have hE:p8 R.length bJ false=some 2:=by unfold p8;rw[if_neg (by simp),if_pos DP]
  rw[hE];refine VC.ag aa (ao @aA @en ?_);exact iE
 refine VC.ag aa (ao @aA @en ?_);refine ah.rt (ZH h1 hc) ?_;rintro _ O2 ⟨rfl,h2,cS⟩;by_cases D3:bJ+1<=4096;rotate_left
 ·have hE:p8 R.length bJ false=some 2:=by unfold p8;rw[if_neg (by simp),if_neg DP,if_pos (by omega)]
  rw[hE,decide_eq_false D3];refine ae @aA ?_;exact iE.more cS uU
 have hE:p8 R.length bJ false=none:=by unfold p8;rw[if_neg (by simp),if_neg DP,if_neg (by omega)]
 rw[hE,decide_eq_true D3];dsimp only;refine ae @aA ?_;have P2:Kp O O2 (c7 k R tk):=iE.more cS uU;have Ev:=(cS.2 _ (by omega) (by simp;omega)).trans Cb;have iK:=cS.1;refine VC.ag aa (ao @aA @Ev ?_);refine VC.al ?_;rintro O3 ⟨aR,ji,gW⟩;have h3:=h2.ge aR;have dA:=h3.c.cells;have AG:Kp O O3 (c7 k R tk):=P2.more (Kp.ge aR (S:=[])) (fun x hx=>by cases hx);have hR:R.length<64:=by omega
 cases R with
 | nil=>
   obtain rfl:z=[a0,a1,a2,a3]:=hr;unfold oy at dA;simp only[nY,fZ,List.map_nil,List.reverse_nil,List.length_nil,aq,a_,List.cons_append,List.nil_append]at dA;refine VC.ag aa (aM @aA @dA @ji ?_);refine VC.gen ?_;intro O4 ox;have lq:O4.hp k=some (.cells [.str nm,.sl fe.length (fe.flatMap aW) .ar,.sl 0 [] .nil,.str [],.sl 0 [] tk,.v (.int .i64 (bJ+1:Nat)),.v (.bool false),.v (.bool tx)]):=by rw[ox];exact VH.an _ _ _
   have m9:App O4 B 1 tk:=by rw[ox];exact h3.a.wQ fR
   have ic:O4.next=O3.next:=by rw[ox];rfl
   have af6:Kp O O4 (c7 k [] tk):=AG.more (S:=[k]) (by rw[ox];exact Kp.set) uU;clear ox;refine WC.bM (.held [12]) [(0,.rd),(1,.rd),(2,.rd),(3,.rd),(4,.rd),(5,.rd),(6,.rd),(7,.rd),(8,.one),(9,.one),(10,.one),(11,.rd),(12,.one)] ?_;refine ao @aA @lq ?_;have cL:=bd (tk':=.full) (n:=0) (k:=1) (cs:=[]) (ds:=[.ptr k 0]) Lk Ll m9 rfl rfl rfl (by decide) (by decide) (by decide) (by decide);refine VL.app cL ?_;have gX:=VH.Aj m9 lq (by simp) (by omega);have gf:=VH.fw O4 tk;have fp:App (O4.after tk) B 1 (.own O4.next 1):=App.after (by omega);have sd:Kp O (O4.after tk) (c7 k [] tk):=af6.more (Kp.k (cj.after m9)) (fun x hx=>.inl (Cs (by simpa using hx)));generalize O4.after tk=O5 at*;refine ao @aA @gX ?_;refine VC.gen ?_;intro O6 Ay;have pP:O6.hp k=some (.cells [.str nm,.sl fe.length (fe.flatMap aW) .ar,.sl 0 [] .nil,.str [],.sl 1 [.ptr k 0] (.own O4.next 1),.v (.int .i64 (bJ+1:Nat)),.v (.bool false),.v (.bool tx)]):=by rw[Ay];exact VH.an _ _ _
   have Ew:App O6 B 1 (.own O4.next 1):=by rw[Ay];exact fp.wQ fR
   have Ex:Kp O O6 (c7 k [] tk):=sd.more (S:=[k]) (by rw[Ay];exact Kp.set) uU;have m5:O6.next=O5.next:=by rw[Ay];rfl
   clear Ay;refine VC.ag aa (ao @aA @pP ?_);refine WC.sound aa (ae @aA ?_);refine⟨Ex.more Kp.set uU,[⟨k,0,nm,fe,[],.sl 0 [] .nil⟩],.own O4.next 1,⟨⟨fR,by rw[VH.eo];omega,?_,rfl,⟨rfl,rfl⟩,⟨.inl ⟨rfl,by rw[ax],.inl rfl⟩,(fun i e=>by cases e)⟩⟩,Ew.wQ fR⟩,rfl,fun x hx=>?_⟩
   ·rw[VH.an];rfl
   ·have hx:x∈[k,k,O4.next]:=hx;simp only[List.mem_cons,List.not_mem_nil,or_false]at hx;rcases hx with rfl | rfl | rfl
    ·exact .inl my
    ·exact .inl my
    ·exact .inr (by omega)
 | cons r R=>
   unfold oy at dA;rw[hr]at dA;simp only[aq,a_,List.cons_append,List.nil_append,List.length_cons]at dA;obtain⟨pre,post,fC,dE,BG,AH,ZK⟩:=h3.c.loc;have gP:=h3.c.top;refine VC.ag aa (ao @aA @dA ?_);refine ah.rt (Eu h3 (by rw[List.length_cons]at hR;omega)) ?_;rintro _ O9 ⟨rfl,eO⟩;rw[eO];clear eO O9
   refine ae @aA ?_;have hkr:=mh r (by simp)
   have Vo:(pre++h_ r++post)[r.off+2]?=some r.q:=by
    rw[List.append_assoc,List.getElem?_append_right (by omega), <-dE,Nat.add_sub_cancel_left];rfl
   have oe:∀q',(pre++h_ r++post).set (r.off+2) q'=pre++h_ {r with q:=q'}++post:=fun q'=>by
    rw[List.append_assoc,List.set_append_right _ _ (by omega), <-dE,Nat.add_sub_cancel_left,List.append_assoc];rfl
   have hlC:(pre++h_ r++post).length=pre.length+4+post.length:=by simp[qY];omega
   generalize hC:pre++h_ r++post=C at*;refine VC.H8 [7,8,9,10,11,12] (by kernel_rfl) ?_;refine bq.At 0 ?_;refine ae @aA ?_;refine bq.At 1 ?_;refine ae @aA ?_;refine bq.At 2 ?_;refine ae @aA ?_;refine bq.At 3 ?_;refine aM @aA @fC @Vo ?_;refine bq.At 4 ?_;refine ao @aA @ji ?_;have rI:=RV gP.1;refine bq.At 5 ?_;refine ao @aA @rI ?_;refine bq.aeh (i:=6) rfl (by kernel_rfl) (by kernel_rfl) rfl rfl (fun _ _ _ hw hf=>ZI hw hf) rfl ?_;simp only[aj];refine bq.fin (by kernel_rfl) ?_;refine bP.st (i:=7) rfl (by kernel_rfl) rfl rfl (PJ aa (te:=⟨_,4,80,_⟩) (dx:=.slice 137) (q:=.sl 1 [.str [],.sl 0 [] .nil,.sl 0 [] .nil,.str []] .full) (j:=1) (ds:=[.str [],.sl 0 [] .nil,.sl 0 [] .nil,.str []]) gP.1 rfl rfl (by rw[nv];rfl) sJ.1.1 (by rw[nv];rfl) trivial (by dsimp only;omega) (by simp only[maxLen];omega) (by omega) rfl rfl) ?_;rintro m O4 ⟨wm,pq,gK,hm⟩
   obtain⟨k2,c2,rfl,bO⟩:∃k2 c2,m= .bo k2 0 (r.kids.length+1) c2/\(gid r.q=some k2\/O3.next<=k2):=by
    rcases hm with⟨k2,c2,h1,h2⟩ | ⟨h1,_⟩
    ·exact⟨k2,c2,h1,h2.imp id And.left⟩
    ·cases h1
   obtain⟨cx,yH⟩:Row O4 137 4 B k2 c2 (ax r.kids++[.str [],.sl 0 [] .nil,.sl 0 [] .nil,.str []])/\r.kids.length+1<=c2:=by
    rcases wm with⟨h1,_⟩ | ⟨k3,c3,h1,h2,_,h4⟩
    ·omega
    ·injection h1 with h1 _ _ h3;subst h1;subst h3;exact⟨h4,h2⟩
   have ZL:r.b<k2:=by
    rcases bO with e | e
    ·exact gP.2 _ e
    ·omega
   have ah1:=pq.next;have fh:O4.hp r.b=some (.cells C):=(pq.hp _ BG (fun e=>by have:=gP.2 _ e;omega)).trans fC;obtain⟨sp,wo,Aw⟩:=cx.cells;simp only[aj];have tJ:=cH r.kids
   have qu:∀a b c d:MV,((((ax r.kids++([.str [],.sl 0 [] .nil,.sl 0 [] .nil,.str []]:List MV)++sp).set (r.kids.length*4) a).set (r.kids.length*4+1) b).set (r.kids.length*4+1+1) c).set (r.kids.length*4+1+1+1) d=ax r.kids++[a,b,c,d]++sp:=fun a b c d=>by
    rw[<-tJ];exact aei _ _ _ _ _ _ _ _ _ _
   generalize CW:ax r.kids++[.str [],.sl 0 [] .nil,.sl 0 [] .nil,.str []]++sp=C2 at*;refine bP.G4 8 ?_;refine ae @aA ?_;refine bP.G4 10 ?_;refine ae @aA ?_;refine bP.G4 11 ?_;refine ae @aA ?_;refine bP.two (i:=9) (j:=12) (by kernel_rfl) ?_ ?_
   ·refine aG.o1 ?_;refine aM @aA @wo @qu ?_;refine bP.RN (i:=12) ?_;refine aM @aA @fh @oe ?_;refine bP.bM [] ?_;refine WL.gen ?_;intro O5 lu;have gf:O5.next=O4.next:=by rw[lu];rfl
    have fi:O5.hp r.b=some (.cells (pre++h_ {r with q:=.bo k2 0 (r.kids.length+1) c2}++post)):=by rw[lu];exact VH.an _ _ _
    have zD:O5.hp k2=some (.cells (ax r.kids++h_ ⟨k2,r.kids.length*4,nm,fe,[],.sl 0 [] .nil⟩++sp)):=by rw[lu];exact VH.sn (VH.an _ _ _)
    have u4:Kp O4 O5 [k2,r.b]:=by rw[lu];exact Kp.trans (S:=[k2]) (T:=[r.b]) Kp.set Kp.set
    clear lu
    have P3:AF O4 [k2,r.b]:=fun x hx j t n e=>by
     simp only[List.mem_cons,List.not_mem_nil,or_false]at hx;rcases hx with rfl | rfl
     ·rw[wo]at e;cases e
     ·rw[fh]at e;cases e
    have P4:Row O5 137 4 B k2 c2 (ax r.kids++h_ ⟨k2,r.kids.length*4,nm,fe,[],.sl 0 [] .nil⟩):=cx.own u4 P3 zD (by rw[<-Aw, <-CW];simp[qY];omega)
    have u3:Kp O3 O5 (r.b::(gid r.q).toList):=((Kp.bA pq).trans u4).sub (fun x hx=>by
     simp only[List.mem_append,List.mem_cons,List.not_mem_nil,or_false]at hx ⊢;rcases hx with hx | hx | hx
     ·exact .inl (.inr hx)
     ·rcases bO with e | e
      ·rw[e];simp[hx]
      ·exact .inr (by omega)
     ·exact .inl (.inl hx))
    have nD:∀x∈r.b::(gid r.q).toList,x=r.b\/gid r.q=some x:=fun x hx=>by
     rcases List.mem_cons.1 hx with e | e
     ·exact .inl e
     ·exact .inr (by simpa using e)
    have IW:BC O5 B k _ z (oy (r::R) tk (bJ+1) false tx):=h3.c.push (by rw[hC];exact fC) dE (fun e=>(AH e).2.2) u3 nD fi bO yH P4
    have fp:App O5 B 1 tk:=by
     refine h3.a.Ma u3 fun x hx e=>?_
     rcases nD x hx with e2 | e2
     ·subst e2;rw[fC]at e;cases e
     ·obtain⟨cs,e3⟩:=gP.1.L_ e2;rw[e3]at e;cases e
    have sd:Kp O O5 (c7 k (r::R) tk):=AG.more u3 (fun x hx=>by
     rcases nD x hx with e | e
     ·rw[e];exact .inl oz
     ·exact .inl (mz e))
    obtain⟨b0,b1,b2,b3,kR⟩:=p7 (eh (⟨k2,r.kids.length*4,nm,fe,[],.sl 0 [] .nil⟩::{r with q:=.bo k2 0 (r.kids.length+1) c2}::R) z h.c.zl);have gX:=IW.cells;unfold oy at gX;rw[kR]at gX;have hP:=j5 (r::R);generalize hPG:fZ (r::R)=PT at*;simp only[aq,a_,List.cons_append,List.nil_append,List.length_cons]at gX hP
    have ZM:(pre++h_ {r with q:=.bo k2 0 (r.kids.length+1) c2}++post)[r.off+2]?=some (.bo k2 0 (r.kids.length+1) c2):=by
     rw[List.append_assoc,List.getElem?_append_right (by omega), <-dE,Nat.add_sub_cancel_left];rfl
    generalize pre++h_ {r with q:=.bo k2 0 (r.kids.length+1) c2}++post=C5 at*;have qp:(((r.kids.length+1:Nat):Int) - 1)=(r.kids.length:Int):=by omega
    refine ae @aA ?_;refine WC.bM (.held [20]) [(0,.rd),(1,.rd),(2,.rd),(3,.rd),(4,.rd),(5,.rd),(6,.rd),(7,.rd),(8,.rd),(9,.rd),(10,.rd),(11,.rd),(12,.rd),(13,.rd),(14,.rd),(15,.rd),(16,.one),(17,.one),(18,.one),(19,.rd),(20,.one)] ?_;refine FV @aA @gX @fi @ZM @qp @uj ?_;have cL:=bd (tk':=.full) (n:=R.length+1) (k:=1) (cs:=PT) (ds:=[.ptr k2 (r.kids.length*4)]) Lk Ll fp (by rw[hP,Nat.mul_one]) rfl rfl (by decide) (by decide) (by simp only[List.length_cons]at hR;omega) (by simp only[List.length_cons,maxLen]at hR ⊢;omega);refine VL.app cL ?_;have pP:=VH.Aj fp gX (by simp) (by omega);have m5:=VH.fw O5 tk;have Ew:App (O5.after tk) B 1 (.own O5.next 1):=App.after (by omega);have u6:Kp O5 (O5.after tk) (aC.id tk).toList:=Kp.k (cj.after fp)
    have fu:∀x∈(aC.id tk).toList,O5.hp x=some .tok/\B<=x:=fun x hx=>by
     have e:aC.id tk=some x:=by simpa using hx
     cases tk with
     | own s j=>injection e with e;subst e;exact⟨fp.2.1,fp.2.2.1⟩
     | _=>cases e
    have Ex:Kp O (O5.after tk) (c7 k (r::R) tk):=sd.more u6 (fun x hx=>.inl (Cs (by simpa using hx)));have ZN:BC (O5.after tk) B k _ z _:=IW.step (tl':=[.sl (R.length+1) PT tk,mi (bJ+1:Nat),mb false,mb tx]) u6 (fun x hx=>.inr (fu x hx).1) (by rw[kR];exact pP) h.c.zl;generalize O5.after tk=O6 at*;refine ao @aA @pP ?_;refine VC.gen ?_;intro O7 po;have s_:O7.hp k=some (.cells [b0,b1,b2,b3,.sl (R.length+1+1) (PT++[.ptr k2 (r.kids.length*4)]) (.own O5.next 1),.v (.int .i64 (bJ+1:Nat)),.v (.bool false),.v (.bool tx)]):=by rw[po];exact VH.an _ _ _
    have IX:App O7 B 1 (.own O5.next 1):=by rw[po];exact Ew.wQ fR
    have P5:Kp O O7 (c7 k (r::R) tk):=Ex.more (S:=[k]) (by rw[po];exact Kp.set) uU;have rX:O7.next=O6.next:=by rw[po];rfl
    have ZO:BC O7 B k _ z [.sl (R.length+1+1) (PT++[.ptr k2 (r.kids.length*4)]) (.own O5.next 1),.v (.int .i64 (bJ+1:Nat)),.v (.bool false),.v (.bool tx)]:=ZN.step (S:=[k]) (by rw[po];exact Kp.set) (fun x hx=>.inl (by simpa using hx)) (by rw[kR];exact s_) h.c.zl;clear po;refine VC.ag aa (ao @aA @s_ ?_);refine WC.sound aa (ae @aA ?_);refine⟨P5.more Kp.set uU,⟨k2,r.kids.length*4,nm,fe,[],.sl 0 [] .nil⟩::{r with q:=.bo k2 0 (r.kids.length+1) c2}::R,.own O5.next 1,⟨ZO.step (S:=[k]) Kp.set (fun x hx=>.inl (by simpa using hx)) ?_ h.c.zl,IX.wQ fR⟩,rfl,fun x hx=>?_⟩;rotate_left
    ·have hx:x∈k::((k2::r.b::R.map (·.b))++[]++[O5.next]):=hx;simp only[List.mem_cons,List.mem_append,List.append_nil,List.not_mem_nil,or_false,List.mem_map]at hx;rcases hx with rfl | (rfl | rfl | ⟨g,hg,rfl⟩) | rfl
     ·exact .inl my
     ·rcases bO with e | e
      ·exact .inl (mz e)
      ·exact .inr (by omega)
     ·exact .inl oz
     ·exact .inl (zC (List.mem_cons_of_mem _ hg))
     ·exact .inr (by omega)
    rw[VH.an,kR, <-hPG];have e:fZ (⟨k2,r.kids.length*4,nm,fe,[],.sl 0 [] .nil⟩::{r with q:=.bo k2 0 (r.kids.length+1) c2}::R)=fZ (r::R)++[.ptr k2 (r.kids.length*4)]:=p6 _ _;unfold oy;rw[e];rfl
   ·refine aG.o1 ?_;refine aM @aA @fh @oe ?_;refine bP.RN (i:=9) ?_;refine aM @aA @wo @qu ?_;refine bP.bM [] ?_;refine WL.gen ?_;intro O5 lu;rw[VH.set_comm (by omega)]at lu;have gf:O5.next=O4.next:=by rw[lu];rfl
    have fi:O5.hp r.b=some (.cells (pre++h_ {r with q:=.bo k2 0 (r.kids.length+1) c2}++post)):=by rw[lu];exact VH.an _ _ _
    have zD:O5.hp k2=some (.cells (ax r.kids++h_ ⟨k2,r.kids.length*4,nm,fe,[],.sl 0 [] .nil⟩++sp)):=by rw[lu];exact VH.sn (VH.an _ _ _)
    have u4:Kp O4 O5 [k2,r.b]:=by rw[lu];exact Kp.trans (S:=[k2]) (T:=[r.b]) Kp.set Kp.set
    clear lu
    have P3:AF O4 [k2,r.b]:=fun x hx j t n e=>by
     simp only[List.mem_cons,List.not_mem_nil,or_false]at hx;rcases hx with rfl | rfl
     ·rw[wo]at e;cases e
     ·rw[fh]at e;cases e
    have P4:Row O5 137 4 B k2 c2 (ax r.kids++h_ ⟨k2,r.kids.length*4,nm,fe,[],.sl 0 [] .nil⟩):=cx.own u4 P3 zD (by rw[<-Aw, <-CW];simp[qY];omega)
    have u3:Kp O3 O5 (r.b::(gid r.q).toList):=((Kp.bA pq).trans u4).sub (fun x hx=>by
     simp only[List.mem_append,List.mem_cons,List.not_mem_nil,or_false]at hx ⊢;rcases hx with hx | hx | hx
     ·exact .inl (.inr hx)
     ·rcases bO with e | e
      ·rw[e];simp[hx]
      ·exact .inr (by omega)
     ·exact .inl (.inl hx))
    have nD:∀x∈r.b::(gid r.q).toList,x=r.b\/gid r.q=some x:=fun x hx=>by
     rcases List.mem_cons.1 hx with e | e
     ·exact .inl e
     ·exact .inr (by simpa using e)
    have IW:BC O5 B k _ z (oy (r::R) tk (bJ+1) false tx):=h3.c.push (by rw[hC];exact fC) dE (fun e=>(AH e).2.2) u3 nD fi bO yH P4
    have fp:App O5 B 1 tk:=by
     refine h3.a.Ma u3 fun x hx e=>?_
     rcases nD x hx with e2 | e2
     ·subst e2;rw[fC]at e;cases e
     ·obtain⟨cs,e3⟩:=gP.1.L_ e2;rw[e3]at e;cases e
    have sd:Kp O O5 (c7 k (r::R) tk):=AG.more u3 (fun x hx=>by
     rcases nD x hx with e | e
     ·rw[e];exact .inl oz
     ·exact .inl (mz e))
    obtain⟨b0,b1,b2,b3,kR⟩:=p7 (eh (⟨k2,r.kids.length*4,nm,fe,[],.sl 0 [] .nil⟩::{r with q:=.bo k2 0 (r.kids.length+1) c2}::R) z h.c.zl);have gX:=IW.cells;unfold oy at gX;rw[kR]at gX;have hP:=j5 (r::R);generalize hPG:fZ (r::R)=PT at*;simp only[aq,a_,List.cons_append,List.nil_append,List.length_cons]at gX hP
    have ZM:(pre++h_ {r with q:=.bo k2 0 (r.kids.length+1) c2}++post)[r.off+2]?=some (.bo k2 0 (r.kids.length+1) c2):=by
     rw[List.append_assoc,List.getElem?_append_right (by omega), <-dE,Nat.add_sub_cancel_left];rfl
    generalize pre++h_ {r with q:=.bo k2 0 (r.kids.length+1) c2}++post=C5 at*;have qp:(((r.kids.length+1:Nat):Int) - 1)=(r.kids.length:Int):=by omega
    refine ae @aA ?_;refine WC.bM (.held [20]) [(0,.rd),(1,.rd),(2,.rd),(3,.rd),(4,.rd),(5,.rd),(6,.rd),(7,.rd),(8,.rd),(9,.rd),(10,.rd),(11,.rd),(12,.rd),(13,.rd),(14,.rd),(15,.rd),(16,.one),(17,.one),(18,.one),(19,.rd),(20,.one)] ?_;refine FV @aA @gX @fi @ZM @qp @uj ?_;have cL:=bd (tk':=.full) (n:=R.length+1) (k:=1) (cs:=PT) (ds:=[.ptr k2 (r.kids.length*4)]) Lk Ll fp (by rw[hP,Nat.mul_one]) rfl rfl (by decide) (by decide) (by simp only[List.length_cons]at hR;omega) (by simp only[List.length_cons,maxLen]at hR ⊢;omega);refine VL.app cL ?_;have pP:=VH.Aj fp gX (by simp) (by omega);have m5:=VH.fw O5 tk;have Ew:App (O5.after tk) B 1 (.own O5.next 1):=App.after (by omega);have u6:Kp O5 (O5.after tk) (aC.id tk).toList:=Kp.k (cj.after fp)
    have fu:∀x∈(aC.id tk).toList,O5.hp x=some .tok/\B<=x:=fun x hx=>by
     have e:aC.id tk=some x:=by simpa using hx
     cases tk with
     | own s j=>injection e with e;subst e;exact⟨fp.2.1,fp.2.2.1⟩
     | _=>cases e
    have Ex:Kp O (O5.after tk) (c7 k (r::R) tk):=sd.more u6 (fun x hx=>.inl (Cs (by simpa using hx)));have ZN:BC (O5.after tk) B k _ z _:=IW.step (tl':=[.sl (R.length+1) PT tk,mi (bJ+1:Nat),mb false,mb tx]) u6 (fun x hx=>.inr (fu x hx).1) (by rw[kR];exact pP) h.c.zl;generalize O5.after tk=O6 at*;refine ao @aA @pP ?_;refine VC.gen ?_;intro O7 po;have s_:O7.hp k=some (.cells [b0,b1,b2,b3,.sl (R.length+1+1) (PT++[.ptr k2 (r.kids.length*4)]) (.own O5.next 1),.v (.int .i64 (bJ+1:Nat)),.v (.bool false),.v (.bool tx)]):=by rw[po];exact VH.an _ _ _
    have IX:App O7 B 1 (.own O5.next 1):=by rw[po];exact Ew.wQ fR
    have P5:Kp O O7 (c7 k (r::R) tk):=Ex.more (S:=[k]) (by rw[po];exact Kp.set) uU;have rX:O7.next=O6.next:=by rw[po];rfl
    have ZO:BC O7 B k _ z [.sl (R.length+1+1) (PT++[.ptr k2 (r.kids.length*4)]) (.own O5.next 1),.v (.int .i64 (bJ+1:Nat)),.v (.bool false),.v (.bool tx)]:=ZN.step (S:=[k]) (by rw[po];exact Kp.set) (fun x hx=>.inl (by simpa using hx)) (by rw[kR];exact s_) h.c.zl;clear po;refine VC.ag aa (ao @aA @s_ ?_);refine WC.sound aa (ae @aA ?_);refine⟨P5.more Kp.set uU,⟨k2,r.kids.length*4,nm,fe,[],.sl 0 [] .nil⟩::{r with q:=.bo k2 0 (r.kids.length+1) c2}::R,.own O5.next 1,⟨ZO.step (S:=[k]) Kp.set (fun x hx=>.inl (by simpa using hx)) ?_ h.c.zl,IX.wQ fR⟩,rfl,fun x hx=>?_⟩;rotate_left
    ·have hx:x∈k::((k2::r.b::R.map (·.b))++[]++[O5.next]):=hx;simp only[List.mem_cons,List.mem_append,List.append_nil,List.not_mem_nil,or_false,List.mem_map]at hx;rcases hx with rfl | (rfl | rfl | ⟨g,hg,rfl⟩) | rfl
     ·exact .inl my
     ·rcases bO with e | e
      ·exact .inl (mz e)
      ·exact .inr (by omega)
     ·exact .inl oz
     ·exact .inl (zC (List.mem_cons_of_mem _ hg))
     ·exact .inr (by omega)
    rw[VH.an,kR, <-hPG];have e:fZ (⟨k2,r.kids.length*4,nm,fe,[],.sl 0 [] .nil⟩::{r with q:=.bo k2 0 (r.kids.length+1) c2}::R)=fZ (r::R)++[.ptr k2 (r.kids.length*4)]:=p6 _ _;unfold oy;rw[e];rfl
def Rec.nd (r:Rec):Nd:=.mk r.name r.attrs r.kids []
theorem nX.head {O:VH} {B k:Nat} {p:Rec} {R:List Rec} {K:List Nd} (h:nX O B k (p::R)):nX O B k ({p with kids:=K}::R):=by
 cases R with
 | nil=>exact h
 | cons g R=>exact h
theorem Mb {p:Rec} {R:List Rec} {z:List MV} {K:List Nd}:nY ({p with kids:=K}::R) z=nY (p::R) z:=by
 cases R with
 | nil=>rfl
 | cons g R=>rfl
def Mc (r:Rec):List Rec->List Rec
 | []=>[]
 | p::R=>{p with kids:=p.kids++[r.nd]}::R
def Me (r:Rec) (z:List MV):List Rec->List MV
 | []=>cO r.nd
 | _::_=>z
theorem BC.pop {O O':VH} {B k:Nat} {r:Rec} {R:List Rec} {z tl pre post:List MV} {S:List Nat} (h:BC O B k (r::R) z tl) (hc:O.hp r.b=some (.cells (pre++h_ r++post))) (hl:pre.length=r.off) (hR:R=[]->post=tl) (u:Kp O O' S)
  (hn:∀x∈S,x=r.b\/gid r.q=some x) (qh:O'.hp r.b=some (.cells (pre++cO r.nd++post))):BC O' B k (Mc r R) (Me r z R) tl:=by
 have B_:=h.chain;have dK:=B_.lt;have gP:=h.top
 have hS:AF O S:=fun x hx j t n e=>by
  rcases hn x hx with e2 | e2
  ·subst e2;rw[hc]at e;cases e
  ·obtain⟨cs,e3⟩:=gP.1.L_ e2;rw[e3]at e;cases e
 cases R with
 | nil=>
   obtain⟨h1,h2⟩:=B_;have hp:pre=[]:=List.eq_nil_of_length_eq_zero (by rw[hl,h2]);subst hp;refine⟨h.lt,Nat.le_trans h.le u.1,?_,kV _,trivial,trivial⟩;rw[<-h1,qh,hR rfl];rfl
 | cons p rest=>
   obtain⟨⟨c,e1,e2,jN⟩,e3,e4,e5⟩:=B_;have ah0:=jN.lo
   have hkS:k ∉ S:=fun hm=>by
    have:=h.lt;rcases hn k hm with e | e
    ·omega
    ·have:=(gP.1.lo e).1;omega
   obtain⟨sp,nZ,wj⟩:=jN.cells;rw[hc]at nZ;injection nZ with nZ;injection nZ with nZ
   have dE:pre.length=(ax p.kids).length:=by rw[hl,e3,cH]
   rw[List.append_assoc,List.append_assoc]at nZ;obtain⟨mK,v7⟩:=List.append_inj nZ dE;obtain⟨_,nW⟩:=List.append_inj v7 rfl;subst mK;subst nW
   have hlen:(p.kids++[r.nd]).length=p.kids.length+1:=by simp
   refine⟨h.lt,Nat.le_trans h.le u.1,?_,h.zl,(e5.kp u hS (fun x hx _=>?_) h.lt).head,⟨.inr ⟨r.b,c,?_,?_,?_,?_⟩,fun i e=>?_⟩⟩
   ·show _=some (bV.cells (nY ({p with kids:=p.kids++[r.nd]}::rest) z++tl));rw[Mb,u.2 k (Nat.lt_of_lt_of_le h.lt h.le) hkS];exact h.cells
   ·refine .inr fun hm=>?_
    have h6:=dK x hx;rcases hn x.b hm with e | e
    ·omega
    ·have:=gP.2 _ e;omega
   ·show p.q=_;rw[e1,hlen]
   ·rw[hlen];exact e2
   ·show(ax (p.kids++[r.nd])).length=_;rw[cH]
   ·show Row O' _ 4 B r.b c (ax (p.kids++[r.nd]));have e6:ax (p.kids++[r.nd])=ax p.kids++cO r.nd:=by rw[dH,ax,ax,List.append_nil]
    rw[e6];refine jN.own u hS qh ?_;rw[List.length_append,List.length_append,qY]at wj;rw[List.length_append,List.length_append,kV];exact wj
   ·have e:gid p.q=some i:=e;rw[e1]at e;injection e with e;subst e;exact e4
theorem dR.app {a b c d:List MV} (h:dR a b) (k:dR c d):dR (a++c) (b++d):=by
 refine⟨by rw[List.length_append,List.length_append,h.1,k.1],fun i x y hx hy=>?_⟩;rw[List.getElem?_append]at hx hy;by_cases e:i<a.length
 ·rw[if_pos e]at hx;rw[if_pos (by rw[<-h.1];exact e)]at hy;exact h.2 i x y hx hy
 ·rw[if_neg e]at hx;rw[if_neg (by rw[<-h.1];exact e)]at hy;rw[<-h.1]at hy;exact k.2 _ x y hx hy
theorem VC.close {O:VH} {B k:Nat} {r:Rec} {R:List Rec} {z tl pre post:List MV} {P:Program} {n:Sz} {D:List Deferred} {c:Code} {e:Env} {Q:VQ} (h:BC O B k (r::R) z tl) (hc:O.hp r.b=some (.cells (pre++h_ r++post)))
  (hk:∀O1,Kp O O1 (r.b::(gid r.q).toList)->O1.hp r.b=some (.cells (pre++cO r.nd++post))->VC P n D c e O1 Q):VC P n D c e O Q:=by
 obtain⟨hg,dK⟩:=h.top;have CF:cO r.nd=[.str r.name,.sl r.attrs.length (r.attrs.flatMap aW) .ar,.sl r.kids.length (ax r.kids) .ar,.str []]:=by rw[Rec.nd,cO]
 rcases hg with⟨h0,h1,hp⟩ | ⟨kq,cq,hp,hn,hl,jN⟩
 ·refine VC.US (ds:=pre++cO r.nd++post) hc ?_ (hk _ (Kp.sub Kp.set (fun x hx=>.inl (by simp at hx ⊢;exact .inl hx))) (VH.an _ _ _));refine((dR.refl pre).app ?_).app (dR.refl post);rw[CF,h_]
  have hw:Wk r.q (.sl r.kids.length (ax r.kids) .ar):=by
   rw[h0,h1];rcases hp with e | e<;>rw[e]<;>exact Wk.tok
  exact(dR.refl [_,_]).app (dR.cons hw (dR.refl _))
 ·obtain⟨sp,h1,h2⟩:=jN.cells;have hne:r.b≠kq:=by have:=dK kq (by rw[hp];rfl);omega
  have e1:pre++h_ r++post=(pre++[.str r.name,.sl r.attrs.length (r.attrs.flatMap aW) .ar])++ .bo kq 0 r.kids.length cq::(.str []::post):=by
   rw[h_,hp];simp
  rw[e1]at hc;refine VC.vI h1 hc hne (sz:=(ax r.kids).length) (by rw[List.length_append];omega) ?_
  have e2:pre++cO r.nd++post=(pre++[.str r.name,.sl r.attrs.length (r.attrs.flatMap aW) .ar])++ .sl r.kids.length (ax r.kids) .ar::(.str []::post):=by
   rw[CF];simp
  rw[List.drop_zero,List.take_left, <-e2];refine hk _ ?_ (VH.an _ _ _);refine⟨Nat.le_refl _,fun i _ hi=>?_⟩;simp only[hp,gid,List.mem_cons,Option.toList_some,List.not_mem_nil,or_false,not_or]at hi;rw[VH.ak _ _ hi.1,VH.kT _ hi.2]
theorem af7 (r:Rec) (R:List Rec) (tk:aC):qG (jE Tryz.prog) 351 (.sl (R.length+1) (fZ (r::R)) tk) none (.v (.int .i64 (R.length:Int))) (.v (.int .i64 (R.length:Int)))=some (.sl R.length (fZ R) .full):=by
 have hl:=j5 (r::R);have hc:=p6 r R;have h2:=j5 R;rw[hc]at hl ⊢;simp only[qG,Lk,Ll,Option.map_some,cK];rw[if_pos ⟨by omega,by omega,Nat.zero_le _,Nat.le_refl _⟩,if_pos ⟨by simp,by rw[hl,Nat.mul_one];rfl⟩,if_neg (by omega)];cases R with
 | nil=>rfl
 | cons p R=>
   rw[if_neg (by simp)];simp only[Int.toNat_natCast,Nat.sub_zero,Nat.mul_one,Nat.zero_mul,List.drop_zero,if_true];rw[List.take_left' h2]
theorem acT {O:VH} {B k bJ:Nat} {r:Rec} {R:List Rec} {tk:aC} {dn tx:Bool} {z:List MV} (h:BS O B k (r::R) tk bJ dn tx z) (ZP:R.length<=1000):
  VF Tryz.prog 258 [.ptr k 0] O (aL fun _ O'=>Kp O O' (c7 k (r::R) tk)/\BS O' B k (Mc r R) .full bJ (R.length==0) false (Me r z R)):=by
 obtain⟨pre,post,hc,dE,BG,AH,ZK⟩:=h.c.loc;have gP:=h.c.top;have fR:=h.c.lt;have hBn:=h.c.le;have uU:∀x∈[k],x∈c7 k (r::R) tk\/O.next<=x:=fun x hx=>.inl (by rw[List.mem_singleton]at hx;rw[hx];exact my)
 have hSn:∀x∈r.b::(gid r.q).toList,x=r.b\/gid r.q=some x:=fun x hx=>by
  rcases List.mem_cons.1 hx with e | e
  ·exact .inl e
  ·exact .inr (by simpa using e)
 refine VF.bX 34 [] Tryz.func258 ?_;refine VC.close h.c hc fun O1 u1 gB=>?_
 have hP:=h.c.pop hc dE (fun e=>(AH e).2.2) u1 hSn gB
 have di:App O1 B 1 tk:=by
  refine h.a.Ma u1 fun x hx e=>?_
  rcases hSn x hx with e2 | e2
  ·subst e2;rw[hc]at e;cases e
  ·obtain⟨cs,e3⟩:=gP.1.L_ e2;rw[e3]at e;cases e
 have iE:Kp O O1 (c7 k (r::R) tk):=(Kp.refl (S:=c7 k (r::R) tk)).more u1 (fun x hx=>.inl (by
  rcases hSn x hx with e | e
  ·rw[e];exact oz
  ·exact mz e))
 obtain⟨b0,b1,b2,b3,kR⟩:=p7 (eh (Mc r R) (Me r z R) hP.zl);have en:=hP.cells;unfold oy at en;rw[kR]at en;have IY:=af7 r R tk;have hPl:=j5 (r::R);generalize hPG:fZ (r::R)=PT at*;simp only[aq,a_,List.cons_append,List.nil_append,List.length_cons]at en hPl;have qp:(((R.length+1:Nat):Int) - 1)=(R.length:Int):=by omega
 refine VC.bu ?_;refine WC.bM (.held [20]) [(0,.rd),(1,.rd),(2,.rd),(3,.rd),(4,.rd),(5,.rd),(6,.rd),(7,.rd),(8,.rd),(9,.rd),(10,.rd),(11,.rd),(12,.rd),(13,.rd),(14,.rd),(15,.rd),(16,.rd),(17,.rd),(18,.one),(19,.rd),(20,.one)] ?_;refine ll @aA @en @qp @uj @IY ?_;refine VC.gen ?_;intro O2 F5;have bO:O2.hp k=some (.cells [b0,b1,b2,b3,.sl R.length (fZ R) .full,.v (.int .i64 bJ),.v (.bool dn),.v (.bool tx)]):=by rw[F5];exact VH.an _ _ _
 have P2:Kp O O2 (c7 k (r::R) tk):=iE.more (S:=[k]) (by rw[F5];exact Kp.set) uU;have AI:BC O2 B k _ _ [.sl R.length (fZ R) .full,.v (.int .i64 bJ),.v (.bool dn),.v (.bool tx)]:=hP.step (S:=[k]) (by rw[F5];exact Kp.set) (fun x hx=>.inl (by simpa using hx)) (by rw[kR];exact bO) hP.zl;clear F5
 have nC:∀b,BS ((O2.set k (.cells [b0,b1,b2,b3,.sl R.length (fZ R) .full,.v (.int .i64 bJ),.v (.bool b),.v (.bool tx)])).set k (.cells [b0,b1,b2,b3,.sl R.length (fZ R) .full,.v (.int .i64 bJ),.v (.bool b),.v (.bool false)])) B k (Mc r R) .full bJ b false (Me r z R):=fun b=>by
  refine⟨(AI.step (S:=[k]) (z':=Me r z R) (tl':=[.sl R.length (fZ R) .full,.v (.int .i64 bJ),.v (.bool b),.v (.bool tx)]) Kp.set (fun x hx=>.inl (by simpa using hx)) (by rw[kR,VH.an];rfl) hP.zl).step (S:=[k]) Kp.set (fun x hx=>.inl (by simpa using hx)) ?_ hP.zl,trivial⟩;rw[kR,VH.an];cases R with
  | nil=>rfl
  | cons p R=>rfl
 have gG:∀x y,Kp O ((O2.set k x).set k y) (c7 k (r::R) tk):=fun x y=>(P2.more Kp.set uU).more Kp.set uU
 cases R with
 | nil=>
   refine WC.sound aa (ao @aA @bO ?_);exact⟨gG _ _,nC _⟩
 | cons p R=>
   refine WC.sound aa (ao @aA @bO ?_);exact⟨gG _ _,nC _⟩
theorem Vp {O:VH} {B k:Nat} {r:Rec} {R:List Rec} {z tl:List MV} {tk:aC} (h:BC O B k (r::R) z tl):∀x∈c7 k (Mc r R) .full,x∈c7 k (r::R) tk:=by
 intro x hx;cases R with
 | nil=>
   have hx:x∈[k]:=hx;rw[List.mem_singleton]at hx;rw[hx];exact my
 | cons p R=>
   obtain⟨⟨c,e1,_⟩,_⟩:=h.chain;have hx:x∈k::((p.b::R.map (·.b))++(gid p.q).toList++[]):=hx;rw[e1]at hx;simp only[gid,Option.toList_some,List.mem_cons,List.mem_append,List.append_nil,List.not_mem_nil,or_false,List.mem_map]at hx;rcases hx with rfl | (rfl | ⟨g,hg,rfl⟩) | rfl
   ·exact my
   ·exact zC (by simp)
   ·exact zC (by simp[hg])
   ·exact oz
def tK (t:Bs):Nd:=.mk [] [] [] t
theorem RW (t:Bs):cO (tK t)=[.str [],.sl 0 [] .ar,.sl 0 [] .ar,.str t]:=by rw[tK,cO,ax];rfl
theorem Mf {O:VH} {B k bJ:Nat} {tk:aC} {dn tx:Bool} {z:List MV} (h:BS O B k [] tk bJ dn tx z) (s:Bs) (hs:s.length<=maxLen):
  VF Tryz.prog 256 [.ptr k 0,.str s] O (aL fun m O'=>m=mi (if trimB s=[]then 0 else 16)/\O'=O):=by
 have hk:=h.c.cells;obtain⟨a0,a1,a2,a3,hr⟩:=p7 (eh [] z h.c.zl);unfold oy at hk;rw[hr]at hk;simp only[aq,a_,List.cons_append,List.nil_append,List.length_nil]at hk;refine VF.bX 61 [.tmp 4] Tryz.func256 ?_;refine VC.ag aa (ae @aA ?_);refine VC.ag aa (ao @aA @hk ?_);refine ah.rt (II s _ hs) ?_;rintro _ O2 ⟨rfl,eO⟩;rw[eO];clear eO O2
 cases trimB s with
 | nil=>
   refine ao @aA (show(([]:List UInt8)==[])=true from rfl) ?_;trivial
 | cons c t=>
   refine ao @aA (show((c::t)==[])=false from rfl) ?_;trivial
theorem Mg {O:VH} {B k bJ:Nat} {r:Rec} {R:List Rec} {tk:aC} {dn tx:Bool} {z:List MV} (h:BS O B k (r::R) tk bJ dn tx z) (hR:R.length<=1000):
  VF Tryz.prog 256 [.ptr k 0,.str []] O (aL fun m O'=>m=mi 0/\O'=O):=by
 have hk:=h.c.cells;have fR:=h.c.lt;have hBn:=h.c.le;obtain⟨a0,a1,a2,a3,hr⟩:=p7 (eh (r::R) z h.c.zl);unfold oy at hk;rw[hr]at hk;simp only[aq,a_,List.cons_append,List.nil_append,List.length_cons]at hk;refine VF.bX 61 [.tmp 4] Tryz.func256 ?_;refine VC.ag aa (ae @aA ?_);refine VC.ag aa (ao @aA @hk ?_);refine VC.ag aa (ae @aA ?_);refine ah.rt (Eu h (by omega)) ?_;rintro _ O2 ⟨rfl,eO⟩;rw[eO];clear eO O2
 refine ae @aA ?_;refine VC.ag aa (ao @aA (show(([]:List UInt8)==[])=true from rfl) ?_);refine WC.sound aa (ae @aA ?_);trivial
theorem Mh {O:VH} {B k bJ:Nat} {r:Rec} {R:List Rec} {tk:aC} {dn:Bool} {z:List MV} (h:BS O B k (r::R) tk bJ dn true z) (hR0:R.length<=1000) (s t0:Bs) (K:List Nd) (hs:s.length<=1000000000000) (v8:r.kids=K++[tK t0]) (ht0:t0.length<=1000000000000) (mh:r.kids.length<=1000000) (hne:(s==[])=false):
  VF Tryz.prog 256 [.ptr k 0,.str s] O (aL fun m O'=>m=mi 0/\Kp O O' (c7 k (r::R) tk)/\BS O' B k ({r with kids:=K++[tK (t0++s)]}::R) tk bJ dn true z):=by
 have hR:R.length<=1000:=hR0;have hk:=h.c.cells;have fR:=h.c.lt;have hBn:=h.c.le;obtain⟨a0,a1,a2,a3,hr⟩:=p7 (eh (r::R) z h.c.zl);unfold oy at hk;rw[hr]at hk;simp only[aq,a_,List.cons_append,List.nil_append,List.length_cons]at hk;refine VF.bX 61 [.tmp 4] Tryz.func256 ?_;refine VC.ag aa (ae @aA ?_);refine VC.ag aa (ao @aA @hk ?_);refine VC.ag aa (ae @aA ?_);refine ah.rt (Eu h (by omega)) ?_;rintro _ O2 ⟨rfl,eO⟩;rw[eO];clear eO O2
 refine ae @aA ?_;obtain⟨pre,post,hc,dE,BG,AH,ZK⟩:=h.c.loc;have gP:=h.c.top;refine VC.ag aa (aM @aA @hne @hk ?_);have hKl:r.kids.length=K.length+1:=by rw[v8];simp
 obtain⟨kq,cq,hq,yH,cx⟩:∃kq cq,r.q= .bo kq 0 (K.length+1) cq/\K.length+1<=cq/\Row O 137 4 B kq cq (ax r.kids):=by
  rcases gP.1 with⟨h0,_⟩ | ⟨k2,c,hp,h1,_,h2⟩
  ·omega
  ·rw[hKl]at hp h1;exact⟨k2,c,hp,h1,h2⟩
 have hrq:r.b<kq:=gP.2 kq (by rw[hq];rfl);obtain⟨sp,wo,Aw⟩:=cx.cells;have tc:ax r.kids=ax K++[.str [],.sl 0 [] .ar,.sl 0 [] .ar,.str t0]:=by rw[v8,dH,ax,ax,RW,List.append_nil]
 rw[tc]at wo Aw;have tJ:=cH K
 have bI:(ax K++([.str [],.sl 0 [] .ar,.sl 0 [] .ar,.str t0]:List MV)++sp)[K.length*4+3]?=some (.str t0):=by
  rw[List.append_assoc, <-tJ,List.getElem?_append_right (by omega),Nat.add_sub_cancel_left];rfl
 have oe:∀m:MV,(ax K++([.str [],.sl 0 [] .ar,.sl 0 [] .ar,.str t0]:List MV)++sp).set (K.length*4+3) m=ax K++[.str [],.sl 0 [] .ar,.sl 0 [] .ar,m]++sp:=fun m=>by
  rw[List.append_assoc, <-tJ,List.set_append_right _ _ (by omega),Nat.add_sub_cancel_left,List.append_assoc];rfl
 generalize CW:ax K++[.str [],.sl 0 [] .ar,.sl 0 [] .ar,.str t0]++sp=C2 at*
 have Vo:(pre++h_ r++post)[r.off+2]?=some r.q:=by
  rw[List.append_assoc,List.getElem?_append_right (by omega), <-dE,Nat.add_sub_cancel_left];rfl
 rw[hq]at Vo;generalize hC:pre++h_ r++post=C at*;have qp:(((K.length+1:Nat):Int) - 1)=(K.length:Int):=by omega
 refine WC.bM (.held [17]) [(0,.rd),(1,.rd),(2,.rd),(3,.rd),(4,.rd),(5,.rd),(6,.rd),(7,.rd),(8,.rd),(9,.rd),(10,.rd),(11,.rd),(12,.rd),(13,.rd),(14,.rd),(15,.one),(16,.rd),(17,.one)] ?_;refine kw8 @aA @hc @Vo @qp @wo @bI @oe @uj ?_;refine WC.sound aa (ae @aA ?_);have u:Kp O (O.set kq (.cells (ax K++[.str [],.sl 0 [] .ar,.sl 0 [] .ar,.str (t0++s)]++sp))) [kq]:=Kp.set;have Ey:ax (K++[tK (t0++s)])=ax K++[.str [],.sl 0 [] .ar,.sl 0 [] .ar,.str (t0++s)]:=by rw[dH,ax,ax,RW,List.append_nil]
 have hl9:(K++[tK (t0++s)]).length=K.length+1:=by simp
 have hB9:B<=kq:=cx.lo;refine⟨(Kp.refl (S:=c7 k (r::R) tk)).more u (fun x hx=>.inl (by rw[List.mem_singleton]at hx;rw[hx];exact mz (by rw[hq];rfl))),h.c.IV (r':={r with kids:=K++[tK (t0++s)]}) (by rw[hC];exact hc) dE (fun e=>(AH e).2.2) u rfl rfl (fun x hx=>.inr (by rw[List.mem_singleton]at hx;rw[hx,hq];rfl)) (by rw[VH.ak _ _ (by omega)];show _=some (bV.cells (pre++h_ r++post));rw[hC];exact hc) (.inr ⟨kq,cq,?_,?_,?_,?_⟩) (fun i e=>gP.2 i e),h.a.Ma u (fun x hx e=>by rw[List.mem_singleton]at hx;subst hx;rw[wo]at e;cases e)⟩
 ·show r.q=_;rw[hq,hl9]
 ·rw[hl9];exact yH
 ·show(ax (K++[tK (t0++s)])).length=_;rw[cH]
 ·show Row _ _ 4 B kq cq (ax (K++[tK (t0++s)]));rw[Ey];refine cx.own u (fun x hx j t n e=>by rw[List.mem_singleton]at hx;subst hx;rw[wo]at e;cases e) (VH.an _ _ _) ?_;rw[<-Aw, <-CW];simp
theorem Mi {O:VH} {B k bJ:Nat} {r:Rec} {R:List Rec} {tk:aC} {dn:Bool} {z:List MV} (h:BS O B k (r::R) tk bJ dn false z) (hc0:bJ<=1000000) (hR0:R.length<=1000) (s:Bs) (hs:s.length<=1000000000000) (mh:r.kids.length<=1000000) (hne:(s==[])=false):
  VF Tryz.prog 256 [.ptr k 0,.str s] O (aL fun m O'=>Kp O O' (c7 k (r::R) tk)/\match decide (4096<bJ+1)with
   | true=>m=mi 2
   | false=>m=mi 0/\∃q',BS O' B k ({r with kids:=r.kids++[tK s],q:=q'}::R) tk (bJ+1) dn true z/\∀x,gid q'=some x->gid r.q=some x\/O.next<=x):=by
 have hR:R.length<=1000:=hR0;have hk:=h.c.cells;have fR:=h.c.lt;have hBn:=h.c.le;obtain⟨a0,a1,a2,a3,hr⟩:=p7 (eh (r::R) z h.c.zl);unfold oy at hk;rw[hr]at hk;simp only[aq,a_,List.cons_append,List.nil_append,List.length_cons]at hk;refine VF.bX 61 [.tmp 4] Tryz.func256 ?_;refine VC.ag aa (ae @aA ?_);refine VC.ag aa (ao @aA @hk ?_);refine VC.ag aa (ae @aA ?_);refine ah.rt (Eu h (by omega)) ?_;rintro _ O2 ⟨rfl,eO⟩;rw[eO];clear eO O2
 refine ae @aA ?_;obtain⟨pre,post,hc,dE,BG,AH,ZK⟩:=h.c.loc;have gP:=h.c.top;clear hc AH ZK dE BG gP;clear pre post;refine VC.ag aa (aM @aA @hne @hk ?_);refine ah.rt (ZH h hc0) ?_;rintro _ O3 ⟨rfl,h3,cA⟩;by_cases D3:bJ+1<=4096;rotate_left
 ·rw[decide_eq_true (show 4096<bJ+1 by omega),decide_eq_false D3];refine ae @aA ?_;exact(Kp.refl (S:=c7 k (r::R) tk)).more cA (fun x hx=>.inl (by rw[List.mem_singleton]at hx;rw[hx];exact my))
 rw[decide_eq_false (show ¬4096<bJ+1 by omega),decide_eq_true D3];dsimp only;have uU:∀x∈[k],x∈c7 k (r::R) tk\/O.next<=x:=fun x hx=>.inl (by rw[List.mem_singleton]at hx;rw[hx];exact my)
 have AG:Kp O O3 (c7 k (r::R) tk):=(Kp.refl (S:=c7 k (r::R) tk)).more cA uU;have ajt:=h3.c.le;refine ae @aA ?_;obtain⟨pre,post,fC,dE,BG,AH,ZK⟩:=h3.c.loc;have gP:=h3.c.top
 have Vo:(pre++h_ r++post)[r.off+2]?=some r.q:=by
  rw[List.append_assoc,List.getElem?_append_right (by omega), <-dE,Nat.add_sub_cancel_left];rfl
 have oe:∀q',(pre++h_ r++post).set (r.off+2) q'=pre++h_ {r with q:=q'}++post:=fun q'=>by
  rw[List.append_assoc,List.set_append_right _ _ (by omega), <-dE,Nat.add_sub_cancel_left,List.append_assoc];rfl
 have hlC:(pre++h_ r++post).length=pre.length+4+post.length:=by simp[qY];omega
 generalize hC:pre++h_ r++post=C at*;refine VC.H8 [8,9,10,11,12,13] (by kernel_rfl) ?_;refine bq.At 0 ?_;refine ae @aA ?_;refine bq.At 1 ?_;refine ae @aA ?_;refine bq.At 2 ?_;refine ae @aA ?_;refine bq.At 3 ?_;refine aM @aA @fC @Vo ?_;refine bq.At 4 ?_;refine ae @aA ?_;refine bq.At 5 ?_;refine ae @aA ?_;have rI:=RV gP.1;refine bq.At 6 ?_;refine ao @aA @rI ?_;refine bq.aeh (i:=7) rfl (by kernel_rfl) (by kernel_rfl) rfl rfl (fun _ _ _ hw hf=>ZI hw hf) rfl ?_;simp only[aj];refine bq.fin (by kernel_rfl) ?_;refine bP.st (i:=8) rfl (by kernel_rfl) rfl rfl (PJ aa (te:=⟨_,4,80,_⟩) (dx:=.slice 137) (q:=.sl 1 [.str [],.sl 0 [] .nil,.sl 0 [] .nil,.str []] .full) (j:=1) (ds:=[.str [],.sl 0 [] .nil,.sl 0 [] .nil,.str []]) gP.1 rfl rfl (by rw[nv];rfl) sJ.1.1 (by rw[nv];rfl) trivial (by dsimp only;omega) (by simp only[maxLen];omega) (by omega) rfl rfl) ?_;rintro m O4 ⟨wm,pq,gK,hm⟩
 obtain⟨k2,c2,rfl,bO⟩:∃k2 c2,m= .bo k2 0 (r.kids.length+1) c2/\(gid r.q=some k2\/O3.next<=k2):=by
  rcases hm with⟨k2,c2,h1,h2⟩ | ⟨h1,_⟩
  ·exact⟨k2,c2,h1,h2.imp id And.left⟩
  ·cases h1
 obtain⟨cx,yH⟩:Row O4 137 4 B k2 c2 (ax r.kids++[.str [],.sl 0 [] .nil,.sl 0 [] .nil,.str []])/\r.kids.length+1<=c2:=by
  rcases wm with⟨h1,_⟩ | ⟨k3,c3,h1,h2,_,h4⟩
  ·omega
  ·injection h1 with h1 _ _ h3;subst h1;subst h3;exact⟨h4,h2⟩
 have ZL:r.b<k2:=by
  rcases bO with e | e
  ·exact gP.2 _ e
  ·omega
 have ah1:=pq.next;have fh:O4.hp r.b=some (.cells C):=(pq.hp _ BG (fun e=>by have:=gP.2 _ e;omega)).trans fC;obtain⟨sp,wo,Aw⟩:=cx.cells;simp only[aj];have tJ:=cH r.kids
 have qu:∀a b c d:MV,((((ax r.kids++([.str [],.sl 0 [] .nil,.sl 0 [] .nil,.str []]:List MV)++sp).set (r.kids.length*4) a).set (r.kids.length*4+1) b).set (r.kids.length*4+1+1) c).set (r.kids.length*4+1+1+1) d=ax r.kids++[a,b,c,d]++sp:=fun a b c d=>by
  rw[<-tJ];exact aei _ _ _ _ _ _ _ _ _ _
 generalize CW:ax r.kids++[.str [],.sl 0 [] .nil,.sl 0 [] .nil,.str []]++sp=C2 at*;refine bP.G4 9 ?_;refine ae @aA ?_;refine bP.G4 11 ?_;refine ae @aA ?_;refine bP.G4 12 ?_;refine ae @aA ?_;refine bP.two (i:=10) (j:=13) (by kernel_rfl) ?_ ?_
 ·refine aG.o1 ?_;refine aM @aA @wo @qu ?_;refine bP.RN (i:=13) ?_;refine aM @aA @fh @oe ?_;refine bP.bM [] ?_;refine WL.gen ?_;intro O5 lu;have gf:O5.next=O4.next:=by rw[lu];rfl
  have fi:O5.hp r.b=some (.cells (pre++h_ {r with q:=.bo k2 0 (r.kids.length+1) c2}++post)):=by rw[lu];exact VH.an _ _ _
  have zD:O5.hp k2=some (.cells (ax r.kids++[.str [],.sl 0 [] .nil,.sl 0 [] .nil,.str s]++sp)):=by rw[lu];exact VH.sn (VH.an _ _ _)
  have u4:Kp O4 O5 [k2,r.b]:=by rw[lu];exact Kp.trans (S:=[k2]) (T:=[r.b]) Kp.set Kp.set
  clear lu
  have P3:AF O4 [k2,r.b]:=fun x hx j t n e=>by
   simp only[List.mem_cons,List.not_mem_nil,or_false]at hx;rcases hx with rfl | rfl
   ·rw[wo]at e;cases e
   ·rw[fh]at e;cases e
  have u3:Kp O3 O5 (r.b::(gid r.q).toList):=((Kp.bA pq).trans u4).sub (fun x hx=>by
   simp only[List.mem_append,List.mem_cons,List.not_mem_nil,or_false]at hx ⊢;rcases hx with hx | hx | hx
   ·exact .inl (.inr hx)
   ·rcases bO with e | e
    ·rw[e];simp[hx]
    ·exact .inr (by omega)
   ·exact .inl (.inl hx))
  have nD:∀x∈r.b::(gid r.q).toList,x=r.b\/gid r.q=some x:=fun x hx=>by
   rcases List.mem_cons.1 hx with e | e
   ·exact .inl e
   ·exact .inr (by simpa using e)
  obtain⟨gX,_⟩:=h3.c.part (r':={r with q:=.bo k2 0 (r.kids.length+1) c2}) (by rw[hC];exact fC) dE (fun e=>(AH e).2.2) u3 rfl rfl nD fi;obtain⟨b0,b1,b2,b3,kR⟩:=p7 (eh ({r with q:=.bo k2 0 (r.kids.length+1) c2}::R) z h.c.zl);unfold oy at gX;rw[kR]at gX;simp only[aq,a_,List.cons_append,List.nil_append,List.length_cons]at gX;refine ao @aA @gX ?_
  have Mk:k2≠k:=by
   have:=cx.lo;omega
  have sd:Kp O O5 (c7 k (r::R) tk):=AG.more u3 (fun x hx=>by
   rcases nD x hx with e | e
   ·rw[e];exact .inl oz
   ·exact .inl (mz e))
  have fp:App O5 B 1 tk:=by
   refine h3.a.Ma u3 fun x hx e=>?_
   rcases nD x hx with e2 | e2
   ·subst e2;rw[fC]at e;cases e
   ·obtain⟨cs,e3⟩:=gP.1.L_ e2;rw[e3]at e;cases e
  have Ey:ax (r.kids++[tK s])=ax r.kids++[.str [],.sl 0 [] .ar,.sl 0 [] .ar,.str s]:=by rw[dH,ax,ax,RW,List.append_nil]
  refine VC.US (k:=k2) (ds:=ax (r.kids++[tK s])++sp) ((VH.ak _ _ Mk).trans zD) (by
   rw[Ey];exact((dR.refl _).app (dR.cons (Wk.refl _) (dR.cons Wk.tok (dR.cons Wk.tok (dR.refl _))))).app (dR.refl _)) ?_
  refine WC.sound aa (ae @aA ?_);have u5:Kp O4 (O5.set k2 (.cells (ax (r.kids++[tK s])++sp))) [k2,r.b]:=(u4.trans Kp.set).sub (fun x hx=>.inl (by simp only[List.mem_append,List.mem_cons,List.not_mem_nil,or_false]at hx ⊢;exact hx.elim id .inl))
  have u6:Kp O3 (O5.set k2 (.cells (ax (r.kids++[tK s])++sp))) (r.b::(gid r.q).toList):=(u3.trans Kp.set).sub (fun x hx=>by
   simp only[List.mem_append,List.mem_cons,List.not_mem_nil,or_false]at hx ⊢;rcases hx with hx | hx
   ·exact .inl hx
   ·rcases bO with e | e
    ·rw[e];simp[hx]
    ·exact .inr (by omega))
  have IW:BC _ B k ({r with kids:=r.kids++[tK s],q:=.bo k2 0 (r.kids.length+1) c2}::R) z _:=h3.c.IV (r':={r with kids:=r.kids++[tK s],q:=.bo k2 0 (r.kids.length+1) c2}) (by rw[hC];exact fC) dE (fun e=>(AH e).2.2) u6 rfl rfl nD (VH.sn fi) (.inr ⟨k2,c2,by show _=_;simp,by simp;exact yH,by show(ax (r.kids++[tK s])).length=_;rw[cH],by
   show Row _ _ 4 B k2 c2 (ax (r.kids++[tK s]));refine cx.own u5 P3 (VH.an _ _ _) ?_;rw[<-Aw, <-CW,Ey];simp⟩) (fun i e=>by injection e with e;subst e;exact ZL)
  have e9:∀x,(O5.set k x).set k2 (.cells (ax (r.kids++[tK s])++sp))=(O5.set k2 (.cells (ax (r.kids++[tK s])++sp))).set k x:=fun x=>VH.set_comm (fun e=>Mk e.symm)
  have AI:=cx.lo;rw[e9]
  refine⟨(sd.more (S:=[k2]) Kp.set (fun x hx=>by
   rw[List.mem_singleton]at hx;rw[hx];rcases bO with e | e
   ·exact .inl (mz e)
   ·exact .inr (by have:=cA.1;omega))).more Kp.set uU,_,⟨IW.step (S:=[k]) Kp.set (fun x hx=>.inl (by simpa using hx)) ?_ h3.c.zl,(fp.Ma (S:=[k2]) Kp.set (fun x hx e=>by rw[List.mem_singleton]at hx;subst hx;rw[zD]at e;cases e)).wQ fR⟩,fun x e=>by
   injection e with e;subst e
   exact bO.imp id (fun e=>by have:=cA.1;omega)⟩
  rw[VH.an]
  have e8:nY ({r with kids:=r.kids++[tK s],q:=.bo k2 0 (r.kids.length+1) c2}::R) z=[b0,b1,b2,b3]:=by
   rw[<-kR];cases R with
   | nil=>rfl
   | cons g R=>rfl
  rw[e8];rfl
 ·refine aG.o1 ?_;refine aM @aA @fh @oe ?_;refine bP.RN (i:=10) ?_;refine aM @aA @wo @qu ?_;refine bP.bM [] ?_;refine WL.gen ?_;intro O5 lu;rw[VH.set_comm (by omega)]at lu;have gf:O5.next=O4.next:=by rw[lu];rfl
  have fi:O5.hp r.b=some (.cells (pre++h_ {r with q:=.bo k2 0 (r.kids.length+1) c2}++post)):=by rw[lu];exact VH.an _ _ _
  have zD:O5.hp k2=some (.cells (ax r.kids++[.str [],.sl 0 [] .nil,.sl 0 [] .nil,.str s]++sp)):=by rw[lu];exact VH.sn (VH.an _ _ _)
  have u4:Kp O4 O5 [k2,r.b]:=by rw[lu];exact Kp.trans (S:=[k2]) (T:=[r.b]) Kp.set Kp.set
  clear lu
  have P3:AF O4 [k2,r.b]:=fun x hx j t n e=>by
   simp only[List.mem_cons,List.not_mem_nil,or_false]at hx;rcases hx with rfl | rfl
   ·rw[wo]at e;cases e
   ·rw[fh]at e;cases e
  have u3:Kp O3 O5 (r.b::(gid r.q).toList):=((Kp.bA pq).trans u4).sub (fun x hx=>by
   simp only[List.mem_append,List.mem_cons,List.not_mem_nil,or_false]at hx ⊢;rcases hx with hx | hx | hx
   ·exact .inl (.inr hx)
   ·rcases bO with e | e
    ·rw[e];simp[hx]
    ·exact .inr (by omega)
   ·exact .inl (.inl hx))
  have nD:∀x∈r.b::(gid r.q).toList,x=r.b\/gid r.q=some x:=fun x hx=>by
   rcases List.mem_cons.1 hx with e | e
   ·exact .inl e
   ·exact .inr (by simpa using e)
  obtain⟨gX,_⟩:=h3.c.part (r':={r with q:=.bo k2 0 (r.kids.length+1) c2}) (by rw[hC];exact fC) dE (fun e=>(AH e).2.2) u3 rfl rfl nD fi;obtain⟨b0,b1,b2,b3,kR⟩:=p7 (eh ({r with q:=.bo k2 0 (r.kids.length+1) c2}::R) z h.c.zl);unfold oy at gX;rw[kR]at gX;simp only[aq,a_,List.cons_append,List.nil_append,List.length_cons]at gX;refine ao @aA @gX ?_
  have Mk:k2≠k:=by
   have:=cx.lo;omega
  have sd:Kp O O5 (c7 k (r::R) tk):=AG.more u3 (fun x hx=>by
   rcases nD x hx with e | e
   ·rw[e];exact .inl oz
   ·exact .inl (mz e))
  have fp:App O5 B 1 tk:=by
   refine h3.a.Ma u3 fun x hx e=>?_
   rcases nD x hx with e2 | e2
   ·subst e2;rw[fC]at e;cases e
   ·obtain⟨cs,e3⟩:=gP.1.L_ e2;rw[e3]at e;cases e
  have Ey:ax (r.kids++[tK s])=ax r.kids++[.str [],.sl 0 [] .ar,.sl 0 [] .ar,.str s]:=by rw[dH,ax,ax,RW,List.append_nil]
  refine VC.US (k:=k2) (ds:=ax (r.kids++[tK s])++sp) ((VH.ak _ _ Mk).trans zD) (by
   rw[Ey];exact((dR.refl _).app (dR.cons (Wk.refl _) (dR.cons Wk.tok (dR.cons Wk.tok (dR.refl _))))).app (dR.refl _)) ?_
  refine WC.sound aa (ae @aA ?_);have u5:Kp O4 (O5.set k2 (.cells (ax (r.kids++[tK s])++sp))) [k2,r.b]:=(u4.trans Kp.set).sub (fun x hx=>.inl (by simp only[List.mem_append,List.mem_cons,List.not_mem_nil,or_false]at hx ⊢;exact hx.elim id .inl))
  have u6:Kp O3 (O5.set k2 (.cells (ax (r.kids++[tK s])++sp))) (r.b::(gid r.q).toList):=(u3.trans Kp.set).sub (fun x hx=>by
   simp only[List.mem_append,List.mem_cons,List.not_mem_nil,or_false]at hx ⊢;rcases hx with hx | hx
   ·exact .inl hx
   ·rcases bO with e | e
    ·rw[e];simp[hx]
    ·exact .inr (by omega))
  have IW:BC _ B k ({r with kids:=r.kids++[tK s],q:=.bo k2 0 (r.kids.length+1) c2}::R) z _:=h3.c.IV (r':={r with kids:=r.kids++[tK s],q:=.bo k2 0 (r.kids.length+1) c2}) (by rw[hC];exact fC) dE (fun e=>(AH e).2.2) u6 rfl rfl nD (VH.sn fi) (.inr ⟨k2,c2,by show _=_;simp,by simp;exact yH,by show(ax (r.kids++[tK s])).length=_;rw[cH],by
   show Row _ _ 4 B k2 c2 (ax (r.kids++[tK s]));refine cx.own u5 P3 (VH.an _ _ _) ?_;rw[<-Aw, <-CW,Ey];simp⟩) (fun i e=>by injection e with e;subst e;exact ZL)
  have e9:∀x,(O5.set k x).set k2 (.cells (ax (r.kids++[tK s])++sp))=(O5.set k2 (.cells (ax (r.kids++[tK s])++sp))).set k x:=fun x=>VH.set_comm (fun e=>Mk e.symm)
  have AI:=cx.lo;rw[e9]
  refine⟨(sd.more (S:=[k2]) Kp.set (fun x hx=>by
   rw[List.mem_singleton]at hx;rw[hx];rcases bO with e | e
   ·exact .inl (mz e)
   ·exact .inr (by have:=cA.1;omega))).more Kp.set uU,_,⟨IW.step (S:=[k]) Kp.set (fun x hx=>.inl (by simpa using hx)) ?_ h3.c.zl,(fp.Ma (S:=[k2]) Kp.set (fun x hx e=>by rw[List.mem_singleton]at hx;subst hx;rw[zD]at e;cases e)).wQ fR⟩,fun x e=>by
   injection e with e;subst e
   exact bO.imp id (fun e=>by have:=cA.1;omega)⟩
  rw[VH.an]
  have e8:nY ({r with kids:=r.kids++[tK s],q:=.bo k2 0 (r.kids.length+1) c2}::R) z=[b0,b1,b2,b3]:=by
   rw[<-kR];cases R with
   | nil=>rfl
   | cons g R=>rfl
  rw[e8];rfl
structure PS where
 st:List (Bs×List (Bs×Bs)×List Nd)
 bJ:Nat
 dn:Bool
 tx:Bool
 z:Nd
def mA (s:Bs) (p:PS):Except Int PS:=
 match p.st with
 | []=>if trimB s=[]then .ok p else .error 16
 | (n,a,K)::R=>
   if s=[]then .ok p
   else if p.tx then match K.getLast? with
    | some (.mk _ _ _ t)=>.ok {p with st:=(n,a,K.dropLast++[tK (t++s)])::R}
    | none=>.ok p
   else if 4096<p.bJ+1 then .error 2
   else .ok {p with st:=(n,a,K++[tK s])::R,bJ:=p.bJ+1,tx:=true}
def qZ (nm:Bs) (fe:List (Bs×Bs)) (p:PS):Except Int PS:=
 if p.dn then .error 16 else if 64<=p.st.length then .error 2 else if 4096<p.bJ+1 then .error 2
 else .ok {p with st:=(nm,fe,[])::p.st,bJ:=p.bJ+1,tx:=false}
def se (p:PS):PS:=
 match p.st with
 | []=>p
 | [(n,a,K)]=>{p with st:=[],dn:=true,tx:=false,z:=.mk n a K []}
 | (n,a,K)::(n2,a2,K2)::R=>{p with st:=(n2,a2,K2++[.mk n a K []])::R,dn:=false,tx:=false}
def jz (x:Tk) (p:PS):Except Int PS:=
 if x.kind=4 then mA x.text p
 else if x.kind=1 then qZ x.name x.attrs p
 else if x.kind=2 then(match qZ x.name x.attrs p with
  | .error e=>.error e
  | .ok q=>.ok (se q))
 else if x.kind=3 then(match p.st with
  | []=>.error 16
  | f::_=>if f.1=x.name then .ok (se p)else .error 14)
 else .ok p
def iF:List Tk->PS->Except (Int×Nat) PS
 | [],p=>.ok p
 | x::l,p=>match jz x p with
   | .error e=>.error (e,x.off)
   | .ok q=>iF l q
def p0:PS:=⟨[],0,false,false,Py⟩
def gx (t:Bs):Except (Int×Nat) Nd:=
 match sT t with
 | .error e=>.error e
 | .ok l=>match iF l p0 with
   | .error e=>.error e
   | .ok p=>if p.st≠[]then .error (13,t.length)else if p.dn then .ok p.z else .error (16,t.length)
def Ez:List (Bs×List (Bs×Bs)×List Nd)->Nat
 | []=>0
 | f::R=>1+f.1.length+iA f.2.1+jj f.2.2+Ez R
def F6 (p:PS):Nat:=Ez p.st+if p.dn then jM p.z else 0
structure j6 (p:PS) (L:Nat):Prop where
 bJ:p.bJ<=4096
 len:p.st.length<=64
 Lo:p.tx=true->∃n a K t R,p.st=(n,a,K++[tK t])::R
 wt:F6 p<=L+p.bJ
theorem vN (K M:List Nd):jj (K++M)=jj K+jj M:=by
 induction K with
 | nil=>rw[List.nil_append,jj,Nat.zero_add]
 | cons x K ih=>rw[List.cons_append,jj,jj,ih];omega
theorem RX (t:Bs):jM (tK t)=1+t.length:=by rw[tK,zh,iA,jj];simp
theorem j6.more {p:PS} {L L':Nat} (h:j6 p L) (hl:L<=L'):j6 p L':=⟨h.bJ,h.len,h.Lo,by have:=h.wt;omega⟩
theorem Vq {s:Bs} {p q:PS} {L:Nat} (h:j6 p L) (e:mA s p= .ok q):j6 q (L+s.length):=by
 unfold mA at e;obtain⟨st,bJ,dn,tx,z⟩:=p;obtain⟨h2,h3,h4,h5⟩:=h;dsimp only at e h2 h3 h4 h5;cases st with
 | nil=>
   dsimp only at e;split at e
   ·injection e with e;subst e;exact j6.more ⟨h2,h3,h4,h5⟩ (Nat.le_add_right _ _)
   ·cases e
 | cons f R=>
   obtain⟨n,a,K⟩:=f;dsimp only at e;split at e
   ·injection e with e;subst e;exact j6.more ⟨h2,h3,h4,h5⟩ (Nat.le_add_right _ _)
   split at e
   ·rename_i ht;obtain⟨n',a',K',t,R',he⟩:=h4 ht;injection he with P6 he2;injection P6 with e1 e2;injection e2 with e2 e3
    subst e1;subst e2;subst e3;subst he2
    rw[List.getLast?_concat,List.dropLast_concat]at e;dsimp only[tK]at e;injection e with e;subst e
    refine⟨h2,h3,fun _=>⟨_,_,_,_,_,rfl⟩,?_⟩
    ·simp only[F6,Ez,vN,jj,RX]at h5 ⊢;have e6:jM (Nd.mk [] [] [] (t++s))=1+(t++s).length:=RX _;rw[e6,List.length_append];omega
   split at e
   ·cases e
   ·injection e with e;subst e
    refine⟨by dsimp only;omega,h3,fun _=>⟨_,_,_,_,_,rfl⟩,?_⟩
    ·simp only[F6,Ez,vN,jj,RX]at h5 ⊢;omega
theorem EA {nm:Bs} {fe:List (Bs×Bs)} {p q:PS} {L:Nat} (h:j6 p L) (e:qZ nm fe p= .ok q):j6 q (L+nm.length+iA fe)/\q.st=(nm,fe,[])::p.st:=by
 unfold qZ at e;split at e
 ·cases e
 split at e
 ·cases e
 split at e
 ·cases e
 ·injection e with e;subst e
  rename_i hd DP hc;refine⟨⟨by dsimp only;omega,by simp only[List.length_cons];omega,(fun e=>by cases e),?_⟩,rfl⟩
  ·have h5:=h.wt;simp only[F6,Ez,jj,hd]at h5 ⊢;omega
theorem Ml {p:PS} {L:Nat} (h:j6 p L):j6 (se p) L:=by
 unfold se;split
 ·exact h
 ·rename_i n a K hs;obtain⟨h2,h3,h4,h5⟩:=h;refine⟨h2,Nat.zero_le _,(fun e=>by cases e),?_⟩;simp only[F6,Ez,hs,zh]at h5 ⊢;simp;omega
 ·rename_i n a K n2 a2 K2 R hs;obtain⟨h2,h3,h4,h5⟩:=h;refine⟨h2,by rw[hs]at h3;simp only[List.length_cons]at h3 ⊢;omega,(fun e=>by cases e),?_⟩;simp only[F6,Ez,hs,vN,jj,zh]at h5 ⊢;simp;omega
def zE (x:Tk):Nat:=x.name.length+iA x.attrs+x.text.length
theorem Hs {x:Tk} {p q:PS} {L:Nat} (h:j6 p L) (e:jz x p= .ok q):j6 q (L+zE x):=by
 unfold jz at e;unfold zE;split at e
 ·exact(Vq h e).more (by omega)
 split at e
 ·exact(EA h e).1.more (by omega)
 split at e
 ·split at e
  ·cases e
  ·rename_i q' hq;injection e with e;subst e
   exact(Ml (EA h hq).1).more (by omega)
 split at e
 ·split at e
  ·cases e
  ·split at e
   ·injection e with e;subst e;exact(Ml h).more (by omega)
   ·cases e
 ·injection e with e;subst e;exact h.more (by omega)
theorem Mm {n:Bs} {a:List (Bs×Bs)} {K:List Nd} {R:List (Bs×List (Bs×Bs)×List Nd)} {p:PS} {L:Nat} (h:j6 p L) (hm:(n,a,K)∈p.st):K.length<=L+4096:=by
 have h5:=h.wt;have h2:=h.bJ;have hk:=As K;unfold F6 at h5
 have:∀st:List (Bs×List (Bs×Bs)×List Nd),(n,a,K)∈st->jj K<=Ez st:=by
  intro st;induction st with
  | nil=>intro h;cases h
  | cons f R ih=>
    intro h;rw[Ez];rcases List.mem_cons.1 h with rfl | h
    ·dsimp only;omega
    ·have:=ih h;omega
 have:=this _ hm;omega
theorem vO {nm:Bs} {fe:List (Bs×Bs)} {p:PS} {e:Int} (h:qZ nm fe p= .error e):e=16\/e=2:=by
 unfold qZ at h;split at h
 ·injection h with h;exact .inl h.symm
 split at h
 ·injection h with h;exact .inr h.symm
 split at h
 ·injection h with h;exact .inr h.symm
 ·cases h
theorem P7 {s:Bs} {p:PS} {e:Int} (h:mA s p= .error e):e=16\/e=2:=by
 unfold mA at h;split at h
 ·split at h
  ·cases h
  ·injection h with h;exact .inl h.symm
 ·split at h
  ·cases h
  split at h
  ·split at h<;>cases h
  split at h
  ·injection h with h;exact .inr h.symm
  ·cases h
theorem P8 {x:Tk} {p:PS} {e:Int} (h:jz x p= .error e):e=16\/e=2\/e=14:=by
 unfold jz at h;split at h
 ·exact(P7 h).imp id .inl
 split at h
 ·exact(vO h).imp id .inl
 split at h
 ·split at h
  ·rename_i h2;injection h with h;subst h
   exact(vO h2).imp id .inl
  ·cases h
 split at h
 ·split at h
  ·injection h with h;exact .inl h.symm
  ·split at h
   ·cases h
   ·injection h with h;exact .inr (.inr h.symm)
 ·cases h
def BP (O:VH) (B k:Nat) (U:List Nat) (p:PS):Prop:=∃R tk,BS O B k R tk p.bJ p.dn p.tx (cO p.z)/\qt R=p.st/\∀x∈c7 k R tk,x∈U
theorem BP.ge {O O':VH} {B k:Nat} {U:List Nat} {p:PS} (h:BP O B k U p) (g:O.Ge O'):BP O' B k U p:=by
 obtain⟨R,tk,h1,h2,h3⟩:=h;exact⟨R,tk,h1.ge g,h2,h3⟩
def Sp (O O':VH) (B k:Nat) (U:List Nat) (q:PS):Prop:=∃U',(∀x∈U',x∈U\/O.next<=x)/\BP O' B k U' q
theorem Kp.RY {O O':VH} {S U:List Nat} (h:Kp O O' S) (hs:∀x∈S,x∈U):Kp O O' U:=h.sub fun x hx=>.inl (hs x hx)
theorem Sp.refl {O:VH} {B k:Nat} {U:List Nat} {q:PS} (h:BP O B k U q):Sp O O B k U q:=⟨U,fun _ h=>.inl h,h⟩
theorem Sp.trans {O O1 O2:VH} {B k:Nat} {U U1:List Nat} {q:PS} (hl:O.next<=O1.next) (h1:∀x∈U1,x∈U\/O.next<=x) (h:Sp O1 O2 B k U1 q):Sp O O2 B k U q:=by
 obtain⟨U2,h2,h3⟩:=h;exact⟨U2,fun x hx=>(h2 x hx).elim (h1 x) fun e=>.inr (by omega),h3⟩
theorem ZQ {O:VH} {B k:Nat} {U:List Nat} {p:PS} {L:Nat} (h:BP O B k U p) (hp:j6 p L) (hL:L<=100000) (s:Bs) (hs:s.length<=1000000):
  VF Tryz.prog 256 [.ptr k 0,.str s] O (aL fun m O'=>Kp O O' U/\match mA s p with
   | .error e=>m=mi e
   | .ok q=>m=mi 0/\Sp O O' B k U q):=by
 obtain⟨R,tk,hb,hR,hU⟩:=h;obtain⟨st,bJ,dn,tx,z⟩:=p;dsimp only at hb hR;subst hR;have hlen:=hp.len;dsimp only[qt]at hlen;rw[List.length_map]at hlen;have ah2:bJ<=4096:=hp.bJ;cases R with
 | nil=>
   refine VF.mono ?_ (Mf hb s (by simp only[maxLen];omega));rintro(m | m) O' hr
   ·obtain⟨rfl,rfl⟩:=hr;refine⟨Kp.refl,?_⟩;have e5:mA s ⟨qt [],bJ,dn,tx,z⟩=if trimB s=[]then .ok ⟨[],bJ,dn,tx,z⟩else .error 16:=rfl
    rw[e5];by_cases h2:trimB s=[]
    ·rw[if_pos h2,if_pos h2];exact⟨rfl,Sp.refl ⟨[],tk,hb,rfl,hU⟩⟩
    ·rw[if_neg h2,if_neg h2]
   ·exact hr.elim
 | cons r R=>
   simp only[List.length_cons]at hlen
   have mh:r.kids.length<=1000000:=by
    have:=Mm (R:=[]) hp (List.mem_cons_self (a:=(r.name,r.attrs,r.kids)) (l:=qt R));omega
   by_cases Tq:s=[]
   ·subst Tq;refine VF.mono ?_ (Mg hb (by omega));rintro(m | m) O' hr
    ·obtain⟨rfl,rfl⟩:=hr;exact⟨Kp.refl,rfl,Sp.refl ⟨r::R,tk,hb,rfl,hU⟩⟩
    ·exact hr.elim
   have hne:(s==[])=false:=by cases s<;>simp at Tq ⊢
   cases tx with
   | true=>
     obtain⟨n,a,K,t,R',he⟩:=hp.Lo rfl;have he:(r.name,r.attrs,r.kids)::qt R=(n,a,K++[tK t])::R':=he;injection he with P6 he2;injection P6 with e1 e2;injection e2 with e2 e3
     have ht:t.length<=1000000:=by
      have h5:=hp.wt;have e4:qt (r::R)=(r.name,r.attrs,r.kids)::qt R:=rfl;simp only[F6,e4,Ez,e3,vN,jj,RX]at h5;omega
     refine VF.mono ?_ (Mh hb (by omega) s t K (by omega) e3 (by omega) mh hne);rintro(m | m) O' hr
     ·obtain⟨rfl,h1,h2⟩:=hr;refine⟨h1.RY hU,?_⟩
      have e5:mA s ⟨qt (r::R),bJ,dn,true,z⟩= .ok ⟨(r.name,r.attrs,K++[tK (t++s)])::qt R,bJ,dn,true,z⟩:=by
       unfold mA;show(if s=[]then _ else _)=_;rw[if_neg Tq,if_pos rfl,e3,List.getLast?_concat,List.dropLast_concat];rfl
      rw[e5];exact⟨rfl,U,fun _ h=>.inl h,_,tk,h2,rfl,hU⟩
     ·exact hr.elim
   | false=>
     refine VF.mono ?_ (Mi hb (by omega) (by omega) s (by omega) mh hne);rintro(m | m) O' hr
     ·obtain⟨h1,hr⟩:=hr;refine⟨h1.RY hU,?_⟩
      have e5:mA s ⟨qt (r::R),bJ,dn,false,z⟩=if 4096<bJ+1 then .error 2 else .ok ⟨(r.name,r.attrs,r.kids++[tK s])::qt R,bJ+1,dn,true,z⟩:=by
       unfold mA;show(if s=[]then _ else _)=_;rw[if_neg Tq,if_neg (by simp)];rfl
      rw[e5];by_cases hc:4096<bJ+1
      ·rw[decide_eq_true hc]at hr;rw[if_pos hc];exact hr
      ·rw[decide_eq_false hc]at hr;rw[if_neg hc];obtain⟨rfl,q',h2,h3⟩:=hr;refine⟨rfl,c7 k ({r with kids:=r.kids++[tK s],q:=q'}::R) tk,fun x hx=>?_,_,tk,h2,rfl,fun _ h=>h⟩;have hx:x∈k::((r.b::R.map (·.b))++(gid q').toList++(aC.id tk).toList):=hx;simp only[List.mem_cons,List.mem_append]at hx;rcases hx with rfl | ((rfl | hx) | hx) | hx
       ·exact .inl (hU _ my)
       ·exact .inl (hU _ oz)
       ·obtain⟨g,hg,rfl⟩:=List.mem_map.1 hx;exact .inl (hU _ (zC (List.mem_cons_of_mem _ hg)))
       ·rcases h3 x (by simpa using hx)with e | e
        ·exact .inl (hU _ (mz e))
        ·exact .inr e
       ·exact .inl (hU _ (Cs (by simpa using hx)))
     ·exact hr.elim
theorem RZ {O:VH} {B k:Nat} {U:List Nat} {p:PS} {L:Nat} (h:BP O B k U p) (hp:j6 p L) (hL:L<=100000) (kd:Int) (nm tt:Bs) (fe:List (Bs×Bs)) (p1 p2 p3:Int) (Hr:fe.length<=100000):
  VF Tryz.prog 257 [.ptr k 0,.agg [mi kd,.str nm,.sl fe.length (fe.flatMap aW) .ar,.str tt,mi p1,mi p2,mi p3]] O (aL fun m O'=>Kp O O' U/\match qZ nm fe p with
   | .error e=>m=mi e
   | .ok q=>m=mi 0/\Sp O O' B k U q):=by
 obtain⟨R,tk,hb,hR,hU⟩:=h;obtain⟨st,bJ,dn,tx,z⟩:=p;dsimp only at hb hR;subst hR;have ah2:bJ<=4096:=hp.bJ
 have mh:∀r∈R,r.kids.length<=1000000:=fun r hr=>by
  have:=Mm hp (show(r.name,r.attrs,r.kids)∈qt R from List.mem_map.2 ⟨r,hr,rfl⟩) (R:=[]);omega
 refine VF.mono ?_ (ZJ hb (by omega) kd nm tt fe p1 p2 p3 Hr mh);have hl:(qt R).length=R.length:=by unfold qt;rw[List.length_map]
 rintro(m | m) O' hr
 ·obtain⟨h1,hr⟩:=hr;refine⟨h1.RY hU,?_⟩;unfold qZ;unfold p8 at hr;dsimp only;rw[hl];cases dn
  ·rw[if_neg (by simp)]at hr ⊢;by_cases DP:64<=R.length
   ·rw[if_pos DP]at hr ⊢;exact hr
   ·rw[if_neg DP]at hr ⊢;by_cases hc:4096<bJ+1
    ·rw[if_pos hc]at hr ⊢;exact hr
    ·rw[if_neg hc]at hr ⊢;obtain⟨rfl,R',tk',h2,h3,h4⟩:=hr;exact⟨rfl,c7 k R' tk',fun x hx=>(h4 x hx).imp (hU x) id,R',tk',h2,h3,fun _ h=>h⟩
  ·rw[if_pos rfl]at hr ⊢;exact hr
 ·exact hr.elim
theorem R0 {O:VH} {B k:Nat} {U:List Nat} {p:PS} {L:Nat} (h:BP O B k U p) (hp:j6 p L) (hne:p.st≠[]):
  VF Tryz.prog 258 [.ptr k 0] O (aL fun _ O'=>Kp O O' U/\BP O' B k U (se p)):=by
 obtain⟨R,tk,hb,hR,hU⟩:=h;obtain⟨st,bJ,dn,tx,z⟩:=p;dsimp only at hb hR hne;subst hR;have hlen:=hp.len;dsimp only[qt]at hlen;rw[List.length_map]at hlen;cases R with
 | nil=>exact absurd rfl hne
 | cons r R=>
   refine VF.mono ?_ (acT hb (by simp only[List.length_cons]at hlen;omega));rintro(m | m) O' hr
   ·obtain⟨h1,h2⟩:=hr;refine⟨h1.RY hU,?_⟩;have aej:=Vp (tk:=tk) hb.c;cases R with
    | nil=>exact⟨[],_,h2,rfl,fun x hx=>hU x (aej x hx)⟩
    | cons g R=>exact⟨_,_,h2,rfl,fun x hx=>hU x (aej x hx)⟩
   ·exact hr.elim
theorem Vr {O:VH} {B k:Nat} {U:List Nat} {p:PS} {L:Nat} (h:BP O B k U p) (hp:j6 p L) (hU:∀x∈U,x<O.next) (t:Bs) (x:Tk) (hL:L+zE x<=100000) (tJ:1<=x.kind/\x.kind<=6):
  VF Tryz.prog 232 [.ptr k 0,.agg (td t x)] O (aL fun m O'=>Kp O O' U/\match jz x p with
   | .error e=>m=mi e
   | .ok q=>m=mi 0/\Sp O O' B k U q):=by
 have Hr:x.attrs.length<=100000:=by
  have:∀a:List (Bs×Bs),a.length<=iA a:=by
   intro a;induction a with
   | nil=>exact Nat.zero_le _
   | cons y a ih=>rw[iA,List.length_cons];omega
  have:=this x.attrs;unfold zE at hL;omega
 have ui:x.text.length<=100000:=by unfold zE at hL;omega
 have hLL:L<=100000:=by omega
 have hS:jz x p=if x.kind=4 then mA x.text p else if x.kind=1 then qZ x.name x.attrs p else if x.kind=2 then(match qZ x.name x.attrs p with
  | .error e=>.error e
  | .ok q=>.ok (se q))else if x.kind=3 then(match p.st with
  | []=>.error 16
  | f::_=>if f.1=x.name then .ok (se p)else .error 14)else .ok p:=rfl
 rw[hS];clear hS;have hW:x.name.length+iA x.attrs<=zE x:=by unfold zE;omega
 generalize zE x=W at*;unfold td;obtain⟨kd,nm,fe,tt,off⟩:=x;dsimp only at Hr ui tJ hW ⊢;generalize ((lr t off:Nat):Int)=p2 at*;generalize En t off=p3 at*;generalize ((off:Nat):Int)=p1 at*;simp only[aq];refine VF.bX 50 [.tmp 4] Tryz.func232 ?_;refine VC.ag aa (ae @aA ?_);refine VC.bx ?_;rintro O1 ⟨aT,Cb,dd⟩;have h1:=h.ge aT;have iE:Kp O O1 U:=Kp.ge aT;have zF:∀x∈U,x∈U\/O.next<=x:=fun _ h=>.inl h
 have hnU:O.next ∉ U:=fun hm=>by have:=hU _ hm;omega
 rcases(show kd=4\/kd=1\/kd=2\/kd=3\/kd=5\/kd=6 by omega)with rfl | rfl | rfl | rfl | rfl | rfl
 all_goals simp only[Int.reduceEq,if_true,if_false,reduceIte]
 ·refine VC.ag aa (ao @aA @Cb ?_);refine ah.rt (ZQ h1 hp hLL tt (by omega)) ?_;rintro m O2 ⟨hl,hm⟩;generalize mA tt p=F at hm ⊢;cases F with
  | error e=>
    dsimp only at hm;subst hm
    refine ae @aA ?_;exact iE.more hl zF
  | ok q=>
    obtain⟨rfl,hq⟩:=hm;refine ae @aA ?_;exact⟨iE.more hl zF,hq.trans aT.next zF⟩
 ·refine VC.ag aa (ao @aA @Cb ?_);refine ah.rt (RZ h1 hp hLL 1 nm tt fe p1 p2 p3 Hr) ?_;rintro m O2 ⟨hl,hm⟩;have Ev:=(hl.2 O.next (by omega) hnU).trans Cb;cases hF:qZ nm fe p with
  | error e=>
    rw[hF]at hm;dsimp only at hm;subst hm
    rcases vO hF with rfl | rfl
    ·refine aM @aA @Ev @aq ?_;exact iE.more hl zF
    ·refine aM @aA @Ev @aq ?_;exact iE.more hl zF
  | ok q=>
    rw[hF]at hm;obtain⟨rfl,hq⟩:=hm;refine ao @aA @Ev ?_;exact⟨iE.more hl zF,hq.trans aT.next zF⟩
 ·refine VC.ag aa (ao @aA @Cb ?_);refine ah.rt (RZ h1 hp hLL 2 nm tt fe p1 p2 p3 Hr) ?_;rintro m O2 ⟨hl,hm⟩;have Ev:=(hl.2 O.next (by omega) hnU).trans Cb;cases hF:qZ nm fe p with
  | error e=>
    rw[hF]at hm;dsimp only at hm;subst hm
    rcases vO hF with rfl | rfl
    ·refine aM @aA @Ev @aq ?_;exact iE.more hl zF
    ·refine aM @aA @Ev @aq ?_;exact iE.more hl zF
  | ok q=>
    rw[hF]at hm;obtain⟨rfl,U2,hU2,hq⟩:=hm;obtain⟨dD,ez⟩:=EA hp hF;refine ao @aA @Ev ?_;refine ah.rt (R0 hq dD (by rw[ez];simp)) ?_;rintro m O3 ⟨qs,uV⟩;refine ae @aA ?_;have aek:∀x∈U2,x∈U\/O.next<=x:=fun x hx=>(hU2 x hx).imp id fun e=>by have:=aT.next;omega
    exact⟨(iE.more hl zF).more qs aek,U2,aek,uV⟩
 ·obtain⟨R,tk,hb,hR,hUo⟩:=h1;have en:=hb.c.cells;obtain⟨a0,a1,a2,a3,hr⟩:=p7 (eh R (cO p.z) hb.c.zl);unfold oy at en;rw[hr]at en;simp only[aq,a_,List.cons_append,List.nil_append]at en
  have ZP:R.length<=64:=by
   have:=hp.len;rw[<-hR]at this;unfold qt at this;rw[List.length_map]at this;exact this
  cases R with
  | nil=>
    have ez:p.st=[]:=hR.symm;rw[ez];dsimp only;refine VC.ag aa (dB @aA @Cb @en @List.length_nil.{0} ?_);exact iE
  | cons r R=>
    have ez:p.st=(r.name,r.attrs,r.kids)::qt R:=hR.symm;rw[ez];dsimp only;simp only[List.length_cons]at ZP;obtain⟨pre,post,gB,dE,BG,_,_⟩:=hb.c.loc
    have N1:(pre++h_ r++post)[r.off]?=some (.str r.name):=by
     rw[List.append_assoc,List.getElem?_append_right (by omega), <-dE,Nat.sub_self];rfl
    generalize pre++h_ r++post=C at*;have P9:BP O1 B k U p:=⟨r::R,tk,hb,hR,hUo⟩;refine VC.ag aa (dB @aA @Cb @en @List.length_cons.{0} ?_);refine VC.m4 [7,8] ?_;refine ab.av 0 ?_;refine ae @aA ?_;refine ab.av 5 ?_;refine ae @aA ?_;refine ab.ld (m:=.str nm) 6 ?_ ?_
    ·exact dz @aA @Cb
    simp only[aj];refine ab.call (i:=1) (Eu hb (by omega)) ?_;rintro _ O9 ⟨rfl,eO⟩;simp only[aj];rw[eO];clear eO O9
    refine⟨VH.Ge.refl _,?_⟩;refine ab.av 2 ?_;refine ae @aA ?_;refine ab.av 3 ?_;refine ae @aA ?_;refine ab.ld (m:=.str r.name) 4 ?_ ?_
    ·exact kt3 @aA @gB @N1
    simp only[aj];refine ab.bM [(7,.av),(8,.av)] ?_;by_cases hn:r.name=nm
    ·rw[if_pos hn];have WT:(r.name==nm)=true:=beq_iff_eq.2 hn;refine ao @aA @WT ?_;refine ah.rt (R0 P9 hp (by rw[ez];simp)) ?_;rintro m O3 ⟨qs,uV⟩;refine ae @aA ?_;refine WC.sound aa (ae @aA ?_);exact⟨iE.more qs zF,U,zF,uV⟩
    ·rw[if_neg hn];have WT:(r.name==nm)=false:=by simpa using hn
     refine ao @aA @WT ?_;exact iE
 ·refine VC.ag aa (ao @aA @Cb ?_);refine WC.sound aa (ae @aA ?_);exact⟨iE,U,zF,h1⟩
 ·refine VC.ag aa (ao @aA @Cb ?_);refine WC.sound aa (ae @aA ?_);exact⟨iE,U,zF,h1⟩
theorem Ct {t:Bs} {stop:UInt8}:∀(n o:Nat) (acc:Bs) {s:Bs} {o':Nat},ee t stop n o acc= .ok (s,o')->s.length+o<=acc.length+o'
 | 0,o,acc,s,o',h=>by
   unfold ee at h;injection h with h;injection h with h1 h2
   subst h1;subst h2;omega
 | n+1,o,acc,s,o',h=>by
   have done:∀(h:(.ok (acc,o):Except (Int×Nat) (Bs×Nat))= .ok (s,o')),s.length+o<=acc.length+o':=fun h=>by
    injection h with h;injection h with h1 h2
    subst h1;subst h2;omega
   unfold ee at h;cases hg:t[o]? with
   | none=>rw[hg]at h;exact done h
   | some c=>
     rw[hg]at h;simp only at h;split at h
     ·exact done h
     split at h
     ·split at h
      ·cases h
      ·rename_i h5;obtain⟨k1,k2,k3⟩:=zp (by simpa using h5);have:=Ct n _ _ h;rw[List.length_append]at this;omega
     split at h
     ·cases h
     ·have:=Ct n _ _ h;rw[List.length_append]at this;simp only[List.length_cons,List.length_nil]at this;omega
theorem acU {t:Bs} {o:Nat} {s:Bs} {o':Nat} (h:sP t o= .ok (s,o')):s.length+o+2<=o':=by
 unfold sP at h;split at h
 ·cases h
 split at h
 ·cases h
 split at h
 ·cases h
 rename_i s2 o2 h2;have:=Ct _ _ _ h2;split at h
 ·cases h
 ·injection h with h;injection h with h1 h3
  subst h1;subst h3
  simp only[List.length_nil]at this;omega
theorem Vs (a b:List (Bs×Bs)):iA (a++b)=iA a+iA b:=by
 induction a with
 | nil=>rw[List.nil_append,iA,Nat.zero_add]
 | cons x a ih=>rw[List.cons_append,iA,iA,ih];omega
theorem R1 {t:Bs}:∀(n o:Nat) (l:List (Bs×Bs)) {l':List (Bs×Bs)} {o':Nat},o<=t.length->kJ t n o l= .ok (l',o')->iA l'+o<=iA l+o'
 | 0,o,l,l',o',ho,h=>by
   rw[kJ]at h;injection h with h;injection h with h1 h2
   subst h1;subst h2;omega
 | n+1,o,l,l',o',ho,h=>by
   have uv:=im t o ho;rw[kJ]at h;split at h
   ·injection h with h;injection h with h1 h2
    subst h1;subst h2;omega
   rename_i hc;have cg:1<=jy t o:=Nat.one_le_iff_ne_zero.2 fun e=>hc (.inl e)
   split at h
   ·cases h
   rename_i nm o2 h2;have hn:=fK h2;have b9:=im t o2 (by omega);split at h
   ·cases h
   split at h
   ·cases h
   rename_i y4 o4 h4;have hw:=kA h4;have cC:=im t o4 (by omega);split at h
   ·cases h
   rename_i v o6 h6;have hv:=acU h6;have Fx:=zr h6;have:=R1 n o6 _ (by omega) h;rw[Vs,iA,iA]at this;dsimp only at this;omega
theorem AJ {t:Bs} {o:Nat} {q s:Bs} {p:Nat} (h:il t o q= .ok (s,p)):s.length+o<=p:=by
 unfold il at h;split at h
 ·cases h
 split at h
 ·cases h
 ·rename_i h1;injection h with h;injection h with h2 h3
  have hi:0<=Lib.index (t.drop o) q:=by omega
  unfold ph at h2;rw[if_pos hi]at h2;rw[<-h2,List.length_take];omega
theorem acV {t:Bs} {o:Nat} {x:Tk} {o':Nat} (ho:o<=t.length) (h:lL t o= .ok (x,o')):zE x+o<=o'/\1<=x.kind/\x.kind<=6:=by
 unfold lL at h;unfold zE;split at h
 ·obtain⟨y,h1,rfl⟩:=iC h;have:=AJ h1;simp only[List.length_cons,List.length_nil,iA]at this ⊢;exact⟨by omega,by decide,by decide⟩
 split at h
 ·obtain⟨y,h1,rfl⟩:=iC h;have:=AJ h1;simp only[List.length_cons,List.length_nil,iA]at this ⊢;exact⟨by omega,by decide,by decide⟩
 split at h
 ·obtain⟨y,h1,rfl⟩:=iC h;have:=AJ h1;simp only[List.length_cons,List.length_nil,iA]at this ⊢;exact⟨by omega,by decide,by decide⟩
 split at h
 ·unfold p5 at h;split at h
  ·cases h
  rename_i nm o2 h2;have hn:=fK h2;obtain⟨y,h1,rfl⟩:=iC h;have:=kA h1;simp only[List.length_cons,List.length_nil,iA]at this ⊢;exact⟨by omega,by decide,by decide⟩
 split at h
 ·unfold uG at h;split at h
  ·cases h
  rename_i nm o2 h2;have hn:=fK h2;split at h
  ·cases h
  rename_i l o3 h3;have ha:=R1 _ _ _ (by omega) h3;rw[iA]at ha;split at h
  all_goals
   obtain⟨y,h1,rfl⟩:=iC h;have:=kA h1;simp only[List.length_cons,List.length_nil]at this ⊢;exact⟨by omega,by decide,by decide⟩
 ·obtain⟨y,h1,rfl⟩:=iC h;have:=Ct _ _ _ h1;simp only[List.length_nil,iA]at this ⊢;exact⟨by omega,by decide,by decide⟩
def kX (l:List Tk):Nat:=(l.map zE).sum
theorem EB (l:List Tk) (x:Tk):kX (l++[x])=kX l+zE x:=by simp[kX]
theorem Mn {t:Bs}:∀(n o:Nat) (l:List Tk) {l':List Tk},o<=t.length->kX l<=o->(∀x∈l,1<=x.kind/\x.kind<=6/\x.off<=t.length)->hY t n o l= .ok l'->kX l'<=t.length/\∀x∈l',1<=x.kind/\x.kind<=6/\x.off<=t.length
 | 0,o,l,l',ho,hl,hk,h=>by
   rw[hY]at h;injection h with h;subst h;exact⟨by omega,hk⟩
 | n+1,o,l,l',ho,hl,hk,h=>by
   rw[hY]at h;split at h
   ·injection h with h;subst h;exact⟨by omega,hk⟩
   rename_i dK;split at h
   ·cases h
   rename_i x o' hx;have h1:=acV ho hx;have h2:=LZ (by omega) hx;refine Mn n o' _ h2.2.2 ?_ (fun y hy=>?_) h
   ·rw[EB];omega
   ·rcases List.mem_append.1 hy with hy | hy
    ·exact hk y hy
    ·rw[List.mem_singleton]at hy;subst hy;exact⟨h1.2.1,h1.2.2,by omega⟩
theorem R3 {t:Bs} {l:List Tk} (h:sT t= .ok l):kX l<=t.length/\∀x∈l,1<=x.kind/\x.kind<=6/\x.off<=t.length:=
 Mn _ 0 [] (Nat.zero_le _) (Nat.zero_le _) (fun x hx=>by cases hx) h
theorem P_ (l:List Tk) (x:Tk) (p:PS):iF (l++[x]) p=match iF l p with
  | .error e=>.error e
  | .ok q=>match jz x q with
    | .error e=>.error (e,x.off)
    | .ok q=>.ok q:=by
 induction l generalizing p with
 | nil=>rfl
 | cons y l ih=>
   rw[List.cons_append,iF,iF];cases jz y p with
   | error e=>rfl
   | ok q=>exact ih q
theorem Qa {l m:List Tk} {p:PS} {e:Int×Nat} (h:iF l p= .error e):iF (l++m) p= .error e:=by
 induction l generalizing p with
 | nil=>cases h
 | cons y l ih=>
   rw[iF]at h;rw[List.cons_append,iF];split at h
   ·rename_i h1;injection h with h;subst h;rfl
   ·exact ih h
theorem ZR:j6 p0 0:=⟨by decide,by decide,(fun e=>by cases e),by simp[F6,p0,Ez]⟩
end Go.Proofs.YthobfcojiglpdaaGreatDoor
