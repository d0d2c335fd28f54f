import Derived.Test.YtoclnkfdahmnhaaGreatDoorMC
import Derived.Laws.Cover4
import Derived.Lib.LazyBuf
import Derived.Laws.LoneSync
set_option linter.unusedVariables false
set_option linter.unusedSimpArgs false
namespace Go.Proofs.YtoclnkfdahmnhaaGreatDoor
open Go.RowKit
set_option maxRecDepth 10000
section
variable {G:Gh} {O:VH} {w:World} {n:Sz} {D:List Deferred} {e:Env} {P:Program} {tab:b9} {ops:Array Oper} {Q:VQ} {u:Value}
def Hm (k:Int):Bs:=(Utf8.encode k).data.toList
theorem Va (ht:aK P tab) (h:WR G O w) {src dst el:TypeId} {tk:Tok} {k:Int} (hs:(tab src).map cz.under=some (.slice el)) (hd:(tab dst).map cz.under=some .string) (he:(tab el).map cz.under=some (.int .i32))
  (hx:VR G (.sl 1 [.v (.int .i32 k)] tk) u):gJ P (convert src dst u) w G O (.str (Hm k)):=by
 cases hx with
 | sl h1 h2 h3 h4 h5 h6=>
   rename_i us c b o
   have h7:us=[.int .i32 k]:=by
    match us,h1 with
    | [x],_=>rw[(h3 0 _ x rfl rfl).iw]
   subst h7;refine⟨_,w,G,?_,Gh.Le.refl G,h,.str,jz.refl _ _⟩;rw[run_convert_runes_string w src dst el _ _ _ (bB ht hs) (bB ht he) (bB ht hd)]
   have h8:=run_loadCells_list (P:=P) w ⟨b,o,none⟩ [Value.int .i32 k] (fun j v hv=>by
    rw[Addr.add_lit];exact h.dX _ _ _ (h2 j v hv))
   rw[run_runesToString (P:=P) w ⟨b,o,none⟩ 1 c [k] h8]
   congr 2
theorem VL.Ew (ht:aK P tab) {d:Option Tmp} {src dst el:TypeId} {x:Operand} {ty:TypeId} {ps:String} {af:Array Edge} {g:Option (Nat×Bool)} {L:List (Fl×Oper)} {k:Int} {tk:Tok}
  (hg:aL ops (.mk d (.convert src dst x) ty ps af g) e=some true) (hx:ev e x=some (.sl 1 [.v (.int .i32 k)] tk)) (hs:(tab src).map cz.under=some (.slice el)) (qS:(tab dst).map cz.under=some .string) (he:(tab el).map cz.under=some (.int .i32)) (hd:bm n d=true)
  (h:WL P tab n D .plain ops Q L (aU d (.str (Hm k)) e) O):VL P n D .plain ops ((.one,.mk d (.convert src dst x) ty ps af g)::L) e O Q:=by
 refine VL.DF (M:=fun m O'=>m= .str (Hm k)/\O'=O) hg hd (fun G a w hw hf=>?_) ?_
 ·exact⟨_,_,⟨rfl,rfl⟩,dq.of (Va (P:=P) ht hw hs qS he (hf.ev hx)) (by simp[execOp])⟩
 ·rintro m O' ⟨rfl,rfl⟩;exact WL.sound ht h
end
set_option linter.defProp false in
def bG:=And.intro au<|And.intro Pl G_
def isLet (k:Nat):Bool:=decide (k=9\/k=10\/k=13\/(32<=k/\k<=1114111/\¬(55296<=k/\k<=57343)))
def BY (k:Nat):Bs:=if isLet k then Hm k else[]
theorem LO {k:Nat} (h:isLet k=true):IntKind.i32.wrap (k:Int)=k:=by
 have hk:k<=1114111:=by
  simp only[isLet,decide_eq_true_eq]at h;omega
 clear h;simp only[IntKind.wrap,IntKind.signed,IntKind.bits];simp;omega
theorem Vb (k:Nat) (O:VH) (hk:k<=1000000000000):VF Tryz.prog 324 [mi k] O (aD fun m O'=>m= .tuple [.str (BY k),mb (isLet k)]/\O'=O):=by
 have yes:isLet k=true->BY k=Hm k:=fun h=>by unfold BY;rw[h];rfl
 have no:isLet k=false->BY k=[]:=fun h=>by unfold BY;rw[h];rfl
 have hw:= @LO k;refine VF.du 37 [.tmp 2,.tmp 3] Tryz.func324 ?_;by_cases h1:k=9
 ·have h0:isLet k=true:=decide_eq_true (.inl h1);subst h1;have hw:=hw h0;rw[yes h0,h0];refine ae @bG ?_;refine VL.Ew aa rfl rfl (by rw[G_];rfl) (by rw[T9];rfl) (by rw[Pl];rfl) rfl ?_;refine ao @bG @hw ?_;trivial
 by_cases h2:k=10
 ·have h0:isLet k=true:=decide_eq_true (.inr (.inl h2));subst h2;have hw:=hw h0;rw[yes h0,h0];refine ae @bG ?_;refine VL.Ew aa rfl rfl (by rw[G_];rfl) (by rw[T9];rfl) (by rw[Pl];rfl) rfl ?_;refine ao @bG @hw ?_;trivial
 by_cases h3:k=13
 ·have h0:isLet k=true:=decide_eq_true (.inr (.inr (.inl h3)));subst h3;have hw:=hw h0;rw[yes h0,h0];refine ae @bG ?_;refine VL.Ew aa rfl rfl (by rw[G_];rfl) (by rw[T9];rfl) (by rw[Pl];rfl) rfl ?_;refine ao @bG @hw ?_;trivial
 by_cases h4:k<32
 ·have h0:isLet k=false:=by simp only[isLet,decide_eq_false_iff_not];omega
  rw[no h0,h0];refine ae @bG ?_;trivial
 by_cases h5:1114111<k
 ·have h0:isLet k=false:=by simp only[isLet,decide_eq_false_iff_not];omega
  rw[no h0,h0];refine ae @bG ?_;trivial
 by_cases h6:55296<=k
 ·by_cases h7:k<=57343
  ·have h0:isLet k=false:=by simp only[isLet,decide_eq_false_iff_not];omega
   rw[no h0,h0];refine ae @bG ?_;trivial
  ·have h0:isLet k=true:=by simp only[isLet,decide_eq_true_eq];omega
   have hw:=hw h0;rw[yes h0,h0];refine ae @bG ?_;refine VL.Ew aa rfl rfl (by rw[G_];rfl) (by rw[T9];rfl) (by rw[Pl];rfl) rfl ?_;refine ao @bG @hw ?_;trivial
 ·have h0:isLet k=true:=by simp only[isLet,decide_eq_true_eq];omega
  have hw:=hw h0;rw[yes h0,h0];refine ae @bG ?_;refine VL.Ew aa rfl rfl (by rw[G_];rfl) (by rw[T9];rfl) (by rw[Pl];rfl) rfl ?_;refine ao @bG @hw ?_;trivial
def rS (b:Nat) (c:UInt8):Int:=
 if pB c then(c.toNat:Int) - 48 else if b=16/\97<=c.toNat/\c.toNat<=102 then(c.toNat:Int) - 97+10 else if b=16/\65<=c.toNat/\c.toNat<=70 then(c.toNat:Int) - 65+10 else -1
theorem LP (c:UInt8):pB c=decide (48<=c.toNat/\c.toNat<=57):=by unfold pB;rw[<-Bool.decide_and]
theorem Hn (b:Nat) (c:UInt8) (O:VH):VF Tryz.prog 323 [fB c,mi b] O (aD fun m O'=>m=mi (rS b c)/\O'=O):=by
 have hc:c.toNat<256:=c.toNat_lt;have hd:=pC c O;unfold rS;refine VF.du 41 [.tmp 4] Tryz.func323 ?_;refine ae @bG ?_;refine ah.rt (hd) ?_;rintro _ O2 ⟨rfl,eO⟩;rw[eO];clear eO O2
 cases h1:pB c;rotate_left
 ·rw[LP,decide_eq_true_eq]at h1;refine ao @bG @aE ?_;first | trivial | rfl | (repeat (first | rw[if_pos (by omega)] | rw[if_neg (by omega)]))
 by_cases hb:b=16
 ·subst hb;by_cases h2:97<=c.toNat
  ·by_cases h3:c.toNat<=102
   ·refine ao @bG @aE ?_;first | trivial | rfl | (repeat (first | rw[if_pos (by omega)] | rw[if_neg (by omega)]))
   ·refine ao @bG @aE ?_;first | trivial | rfl | (repeat (first | rw[if_pos (by omega)] | rw[if_neg (by omega)]))
  ·by_cases h4:65<=c.toNat
   ·by_cases h5:c.toNat<=70
    ·refine ao @bG @aE ?_;first | trivial | rfl | (repeat (first | rw[if_pos (by omega)] | rw[if_neg (by omega)]))
    ·refine ao @bG @aE ?_;first | trivial | rfl | (repeat (first | rw[if_pos (by omega)] | rw[if_neg (by omega)]))
   ·refine ao @bG @aE ?_;first | trivial | rfl | (repeat (first | rw[if_pos (by omega)] | rw[if_neg (by omega)]))
 ·have ct:((b:Int)==16)=false:=by simpa using(by omega:¬(b:Int)=16)
  refine aI @bG @aE @ct ?_;first | trivial | rfl | (repeat (first | rw[if_pos (by omega)] | rw[if_neg (by omega)]))
def xj (b:Nat) (c:UInt8):Bool:=decide (0<=rS b c)
theorem Ve (b k:Nat) (c:UInt8) (O:VH) (hk:O.hp k=some (.cells [mi b])):VF Tryz.prog 322 ([fB c]++[.ptr k 0]) O (aD fun m O'=>m=mb (xj b c)/\O'=O):=by
 show VF _ _ [fB c,.ptr k 0] _ _;simp only[ar]at hk;unfold xj;refine VF.du 8 [.tmp 3] Tryz.func322 ?_;refine ao @bG @hk ?_;refine ah.rt (Hn b c O) ?_;rintro _ O2 ⟨rfl,eO⟩;rw[eO];clear eO O2
 by_cases h:0<=rS b c
 ·rw[decide_eq_true h];refine ae @bG ?_;first | trivial | rfl
 ·rw[decide_eq_false h];refine ao @bG @h ?_;first | trivial | rfl
theorem Zq (f:FuncId) (cs:List MV) (p:UInt8->Bool) (s:List UInt8) (O:VH) (hs:s.length<=1000000000) (hf:∀c,VF Tryz.prog f ([fB c]++cs) O (aD fun m O'=>m=mb (p c)/\O'=O)) (hb:cM Tryz.prog f=true):
  VF Tryz.prog 184 [.str s,.func (.func f) [] cs] O (aD fun m O'=>m=mi (s.takeWhile p).length/\O'=O):=by
 refine VF.du 20 [.tmp 4] Tryz.func184 ?_;refine ae @fz ?_;refine WC.iA [5] [0,1] (fun j:Nat=>[mi j]) (fun j O'=>O'=O/\j<=s.length/\(s.takeWhile p).length=j+((s.drop j).takeWhile p).length) (fun j=>s.length - j) (0) ?_ ?_
 ·exact⟨rfl,Nat.zero_le _,by simp⟩
 rintro j O2 ⟨eO,hj,hw⟩;rw[eO];clear eO O2
 by_cases h2:j<s.length
 ·have hg:=List.getElem?_eq_getElem h2;have hd:=List.drop_eq_getElem_cons h2;generalize s[j]=c at*;refine ao @fz @hg ?_;refine ah.rt (hf c) ?_ (hb:=hb);rintro _ O3 ⟨rfl,eO⟩;rw[eO];clear eO O3
  cases hp:p c
  ·refine ao @fz @hg ?_;rw[hw,hd,List.takeWhile_cons_of_neg (by simp[hp])];trivial
  ·refine ao @fz @hg ?_;refine az.next (j+1) ?_;refine⟨rfl,by omega,?_⟩;rw[hw,hd,List.takeWhile_cons_of_pos hp,List.length_cons];omega
 ·refine ae @fz ?_;rw[hw,List.drop_of_length_le (by omega)];trivial
def jx (s:Bs) (a:Nat):Bs×Nat×Nat:=if dN s [120]then(s.drop 1,a+1,16)else(s,a,10)
def rT (b:Nat) (l:Bs):Nat:=l.foldl (fun k c=>k*b+(rS b c).toNat) 0
def Zr (s:Bs) (a b n:Nat):Bs×Nat×Int:=
 if 8<n then([],0,12)else if n=s.length then([],0,13)else if n=0\/s.getD n 0≠59 then([],0,12)
 else if isLet (rT b (s.take n))then(BY (rT b (s.take n)),a+n+1,0)else([],0,12)
def u7 (s:Bs) (a:Nat):Bs×Nat×Int:=Zr (jx s a).1 (jx s a).2.1 (jx s a).2.2 ((jx s a).1.takeWhile (xj (jx s a).2.2)).length
theorem LQ {b:Nat} (hb:b<=16):∀(l:Bs) (k:Nat),l.foldl (fun k c=>k*b+(rS b c).toNat) k+1<=(k+1)*16 ^ l.length
 | [],k=>by simp
 | c::l,k=>by
   have hd:(rS b c).toNat<=15:=by
    unfold rS;split
    ·rename_i h;rw[LP,decide_eq_true_eq]at h;omega
    repeat' split
    all_goals omega
   rw[List.foldl_cons,List.length_cons,Nat.pow_succ];refine Nat.le_trans (LQ hb l _) ?_;have h1:k*b<=k*16:=Nat.mul_le_mul_left k hb;have h2:k*b+(rS b c).toNat+1<=(k+1)*16:=by omega
   calc _<=((k+1)*16)*16 ^ l.length:=Nat.mul_le_mul_right _ h2
    _=_:=by rw[Nat.mul_assoc,Nat.mul_comm 16]
theorem R1 {b:Nat} (hb:b<=16) {l:Bs} (hl:l.length<=8):rT b l<=4294967296:=by
 have h1:=LQ hb l 0;have h2:16 ^ l.length<=16 ^ 8:=Nat.pow_le_pow_right (by decide) hl;have h3:(16:Nat) ^ 8=4294967296:=by decide
 unfold rT;omega
theorem PX (b:Nat) (t:Bs) (j:Nat) (h:j<t.length):rT b (t.take (j+1))=rT b (t.take j)*b+(rS b t[j]).toNat:=by
 unfold rT;rw[cY _ _ h,List.foldl_append];rfl
theorem R3 {p:UInt8->Bool}:∀(t:Bs) (j:Nat) (c:UInt8),j<(t.takeWhile p).length->t[j]?=some c->p c=true
 | [],j,c,h,_=>by simp at h
 | d::t,j,c,h,hj=>by
   cases hd:p d
   ·rw[List.takeWhile_cons_of_neg (by simp[hd])]at h;simp at h
   ·rw[List.takeWhile_cons_of_pos hd,List.length_cons]at h;cases j with
    | zero=>simp only[List.getElem?_cons_zero,Option.some.injEq]at hj;subst hj;exact hd
    | succ j=>exact R3 t j c (by omega) (by simpa using hj)
theorem Vf (s:Bs) (a:Nat) (O:VH) (hs:s.length<=1000000) (ha:a<=1000000):VF Tryz.prog 318 [.str s,mi a] O (aD fun m O'=>m= .tuple [.str (u7 s a).1,mi (u7 s a).2.1,mi (u7 s a).2.2]/\O.Ge O'):=by
 unfold u7;refine VF.bO 65 [.tmp 4,.tmp 5,.tmp 6] Tryz.func318 ?_;refine VC.ag aa (ae @bG ?_);refine VC.ag aa (ae @bG ?_);refine VC.al ?_;rintro O1 ⟨aM,dT,c5⟩;refine VC.bJ [0,1,7] (fun _:Unit=>[.str (jx s a).1,mi (jx s a).2.1,.ptr O.next 0]) (fun _ O'=>O.Ge O'/\O'.hp O.next=some (.cells [mi (jx s a).2.2])) ?_ ?_
 ·refine VC.ag aa (ae @bG ?_);refine ah.rt (mY s [120] _) ?_;rintro _ O2 ⟨rfl,eO⟩;rw[eO];clear eO O2
  unfold jx;cases h1:dN s [120]
  ·refine ae @bG ?_;refine WC.sound aa (ae @bG ?_);exact aA.mk () ⟨aM,dT⟩
  ·have h2:1<=s.length:=by
    cases s with
    | nil=>cases h1
    | cons c s=>simp
   refine ao @bG @dT ?_;refine WC.sound aa (ao @bG @dT ?_);exact aA.mk () ⟨aM.set (Nat.le_refl _) _,VH.an _ _ _⟩
 rintro⟨⟩ O2 ⟨ax,bR⟩;have dK:(jx s a).1.length<=1000000:=by unfold jx;split<;>simp<;>omega
 have hpa:(jx s a).2.1<=1000001:=by unfold jx;split<;>simp<;>omega
 have nG:(jx s a).2.2<=16:=by unfold jx;split<;>simp
 generalize jx s a=p at*;obtain⟨t,a2,b⟩:=p;dsimp only at*;have htw:=nN (xj b) t;refine VC.ag aa (ae @bG ?_);refine ah.rt (Zq 322 [.ptr O.next 0] (xj b) t O2 (by omega) (fun c=>Ve b O.next c O2 bR) (by kernel_rfl)) ?_;rintro _ O3 ⟨rfl,eO⟩;rw[eO];clear eO O3
 have j9:= @R3 (xj b) t;generalize (t.takeWhile (xj b)).length=n at*;unfold Zr;refine ae @bG ?_;refine VC.bC (VC.aB ?_);by_cases h1:8<n
 ·rw[if_pos h1];refine WC.sound aa (ae @bG ?_);exact⟨rfl,ax⟩
 rw[if_neg h1];by_cases h2:n=t.length
 ·rw[if_pos h2];subst h2;refine WC.sound aa (ae @bG ?_);exact⟨rfl,ax⟩
 rw[if_neg h2];by_cases h3:n=0
 ·rw[if_pos (.inl h3)];subst h3;refine WC.sound aa (ao @bG @h2 ?_);exact⟨rfl,ax⟩
 have hnt:n<t.length:=by omega
 have hg:=List.getElem?_eq_getElem hnt;have hd:t.getD n 0=t[n]:=by simp[List.getD,hg]
 rw[hd];generalize t[n]=c at*;by_cases h4:c=59;rotate_left
 ·rw[if_pos (.inr h4)];have h5:¬((c.toNat:Int)=59):=fun e=>h4 (UInt8.toNat_inj.1 (by simpa using(by omega:c.toNat=59)))
  refine WC.sound aa (de @bG @hg @aE @h5 ?_);exact⟨rfl,ax⟩
 rw[if_neg (fun h=>h.elim h3 (fun h=>h h4))];subst h4;have h5:((((59:UInt8).toNat:Nat):Int) != 59)=false:=rfl;refine WC.sound aa (de @bG @hg @aE @h5 ?_);clear hg h5;refine VC.ag aa (ae @bG ?_);refine VC.ag aa (ae @bG ?_);simp only[ar]at bR;refine VC.bP [9,40] [0,1,7,8,39] (fun j:Nat=>[mi (rT b (t.take j)),mi j]) (fun j O'=>O'=O2/\j<=n) (fun j=>n - j) (0) ?_ ?_
 ·exact⟨rfl,Nat.zero_le _⟩
 rintro j O3 ⟨eO,hj⟩;rw[eO];clear eO O3
 have h8:(t.take j).length<=8:=by rw[List.length_take];omega
 have hv8:=R1 nG h8;by_cases hjn:j<n
 ·have hjt:j<t.length:=by omega
  have hg:=List.getElem?_eq_getElem hjt;have Vg:=j9 j _ hjn hg;have iZ:=PX b t j hjt;have h9:rT b (t.take (j+1))<=4294967296:=R1 nG (by rw[List.length_take];omega);generalize t[j]=c at*;simp only[xj,decide_eq_true_eq]at Vg;generalize hV:rT b (t.take (j+1))=V at*;generalize rT b (t.take j)=v at*;have hdv:((rS b c).toNat:Int)=rS b c:=Int.toNat_of_nonneg Vg;have hdc:=Hn b c O2;generalize rS b c=d at*;obtain⟨d,rfl⟩:=Int.eq_ofNat_of_zero_le Vg;have kF:(v:Int)*(b:Int)=((v*b:Nat):Int):=by rw[Int.natCast_mul]
  simp only[Int.toNat_natCast]at iZ;generalize v*b=vb at*;refine VC.ag aa (ae @bG ?_);refine VC.ag aa (ae @bG ?_);refine VC.bC (VC.aB ?_);refine VC.ag aa (ae @bG ?_);refine VC.lY [] ?_;refine ab.av 0 ?_;refine ae @bG ?_;refine ab.ld (m:=.v (.int .i64 b)) 1 ?_ ?_
  ·exact c9 @bG @bR
  simp only[aj];refine ab.av 2 ?_;refine ao @bG @kF ?_;refine ab.av 3 ?_;refine ae @bG ?_;refine ab.av 4 ?_;refine ae @bG ?_;refine ab.av 5 ?_;refine ao @bG @hg ?_;refine ab.ld (m:=.v (.int .i64 b)) 6 ?_ ?_
  ·exact c9 @bG @bR
  simp only[aj];refine ab.call (i:=7) (hdc) ?_;rintro _ O3 ⟨rfl,eO⟩;simp only[aj];rw[eO];clear eO O3
  refine⟨VH.Ge.refl _,?_⟩;refine ab.av 8 ?_;refine ao @bG @kF ?_;refine ab.av 9 ?_;refine ao @bG @kF ?_;refine ab.bH [] ?_;refine ae @bG ?_;refine WC.sound aa (ae @bG ?_);exact az.next (j+1) ⟨rfl,hjn⟩ (hl:=(by rw[hV,iZ];rfl))
 ·obtain rfl:j=n:=by omega
  refine VC.ag aa (ae @bG ?_);refine WC.sound aa (ae @bG ?_);generalize rT b (t.take j)=v at*;refine VC.ag aa (ae @bG ?_);refine ah.rt (Vb v _ (by omega)) ?_;rintro _ O3 ⟨rfl,eO⟩;rw[eO];clear eO O3
  cases h6:isLet v
  ·rw[if_neg (by simp)];refine ae @bG ?_;refine WC.sound aa (ae @bG ?_);exact⟨rfl,ax⟩
  ·rw[if_pos rfl];refine ae @bG ?_;refine WC.sound aa (ae @bG ?_);exact⟨rfl,ax⟩
def oT (w:Bs):Bs:=
 if w=[108,116]then[60]else if w=[103,116]then[62]else if w=[97,109,112]then[38]else if w=[113,117,111,116]then[34]else if w=[97,112,111,115]then[39]else[]
theorem Zs (w:Bs) (O:VH):VF Tryz.prog 320 [.str w] O (aD fun m O'=>m= .str (oT w)/\O'=O):=by
 unfold oT;refine VF.du 14 [.tmp 2] Tryz.func320 ?_;by_cases h1:w=[108,116]
 ·rw[if_pos h1];have e1:=beq_iff_eq.2 h1;exact c9 @bG @e1
 rw[if_neg h1];have e1:(w==[108,116])=false:=by simpa using h1
 by_cases h2:w=[103,116]
 ·rw[if_pos h2];have e2:=beq_iff_eq.2 h2;exact kt3 @bG @e1 @e2
 rw[if_neg h2];have e2:(w==[103,116])=false:=by simpa using h2
 by_cases h3:w=[97,109,112]
 ·rw[if_pos h3];have e3:=beq_iff_eq.2 h3;exact kt4 @bG @e1 @e2 @e3
 rw[if_neg h3];have e3:(w==[97,109,112])=false:=by simpa using h3
 by_cases h4:w=[113,117,111,116]
 ·rw[if_pos h4];have e4:=beq_iff_eq.2 h4;exact kt5 @bG @e1 @e2 @e3 @e4
 rw[if_neg h4];have e4:(w==[113,117,111,116])=false:=by simpa using h4
 by_cases h5:w=[97,112,111,115]
 ·rw[if_pos h5];have e5:=beq_iff_eq.2 h5;exact kt6 @bG @e1 @e2 @e3 @e4 @e5
 rw[if_neg h5];have e5:(w==[97,112,111,115])=false:=by simpa using h5
 exact kt6 @bG @e1 @e2 @e3 @e4 @e5
def BZ (c:UInt8):Bool:=decide (97<=c.toNat/\c.toNat<=122)
theorem aik (c:UInt8) (O:VH):VF Tryz.prog 319 [fB c] O (aD fun m O'=>m=mb (BZ c)/\O'=O):=by
 refine VF.du 9 [.tmp 2] Tryz.func319 ?_;by_cases h1:97<=c.toNat
 ·by_cases h2:c.toNat<=122
  ·rw[show BZ c=true from decide_eq_true ⟨h1,h2⟩];exact c9 @bG @aE
  ·rw[show BZ c=false from decide_eq_false (fun h=>h2 h.2)];exact c9 @bG @aE
 ·rw[show BZ c=false from decide_eq_false (fun h=>h1 h.1)];exact c9 @bG @aE
def pX (s:Bs):Bs:=(s.drop 1).takeWhile BZ
def pc:List Bs:=[[108,116],[103,116],[97,109,112],[113,117,111,116],[97,112,111,115]]
def Zt (s w:Bs):Bs×Nat×Int:=
 if 1+w.length=s.length then(if pc.any (fun x=>dN x w)then([],0,13)else([],0,12))
 else if oT w≠[]/\s.getD (1+w.length) 0=59 then(oT w,w.length+2,0)else([],0,12)
def m5 (s:Bs):Bs×Nat×Int:=if dN s [38,35]then u7 (s.drop 2) 2 else Zt s (pX s)
theorem gB {s p:Bs} (h:dN s p=true):p.length<=s.length:=by
 unfold dN at h;have h1:s.take p.length=p:=by simpa using h
 rw[<-h1,List.length_take];omega
theorem agr (s:Bs) (O:VH) (hs:s.length<=1000000) (h0:s[0]?=some 38):
  VF Tryz.prog 314 [.str s] O (aD fun m O'=>m= .tuple [.str (m5 s).1,mi (m5 s).2.1,mi (m5 s).2.2]/\O.Ge O'):=by
 have hne:(s==[])=false:=by cases s<;>simp at h0 ⊢
 have h1:1<=s.length:=by cases s<;>simp at h0 ⊢
 unfold m5;refine VF.du 62 [.tmp 2,.tmp 3,.tmp 4] Tryz.func314 ?_;refine de @bG @hne @h0 @aE ?_;refine ah.rt (mY s [38,35] _) ?_;rintro _ O2 ⟨rfl,eO⟩;rw[eO];clear eO O2
 cases hn:dN s [38,35];rotate_left
 ·have qP:=gB hn;simp only[List.length_cons,List.length_nil]at qP;rw[if_pos rfl];refine ae @bG ?_;refine ah.rt (Vf (s.drop 2) 2 O (by rw[List.length_drop];omega) (by decide)) ?_;rintro _ O2 ⟨rfl,ax⟩;generalize u7 (s.drop 2) 2=r at*;refine ae @bG ?_;first | exact ax | exact⟨rfl,ax⟩
 rw[if_neg (by simp)];refine ae @bG ?_;refine ah.rt (IC 319 BZ (s.drop 1) _ (Nat.le_trans (by rw[List.length_drop];omega:(s.drop 1).length<=1000000) (by decide)) aik (by kernel_rfl)) ?_;rintro _ O2 ⟨rfl,eO⟩;rw[eO];clear eO O2
 have hw:pX s=(s.drop 1).takeWhile BZ:=rfl;have ox:(pX s).length<=s.length - 1:=by unfold pX;exact Nat.le_trans (nN _ _) (by rw[List.length_drop];exact Nat.le_refl _)
 have AQ:(s.drop 1).take (pX s).length=pX s:=by
  unfold pX;exact List.prefix_iff_eq_take.1 (List.takeWhile_prefix _) |>.symm
 have qW:(1+((pX s).length:Int)).toNat - 1=(pX s).length:=by omega
 have aeF:(1+((pX s).length:Int)).toNat=1+(pX s).length:=by omega
 rw[<-hw];clear hw;generalize pX s=w at*;unfold Zt;by_cases h2:1+w.length=s.length
 ·rw[if_pos h2];have h3:(1+(w.length:Int)==(s.length:Int))=true:=by simpa using(by omega:1+(w.length:Int)=(s.length:Int))
  have hws:List.length ([.str [108,116],.str [103,116],.str [97,109,112],.str [113,117,111,116],.str [97,112,111,115]]:List MV)=5:=rfl;refine gW @bG @uO @qW @AQ @h3 ?_;refine WC.iA [40] [6,38,39] (fun j:Nat=>[mi j]) (fun j O'=>O'=O/\j<=5/\pc.any (fun x=>dN x w)=(pc.drop j).any (fun x=>dN x w)) (fun j=>5 - j) (0) ?_ ?_
  ·exact⟨rfl,Nat.zero_le _,rfl⟩
  rintro j O2 ⟨eO,hj,hr⟩;rw[eO];clear eO O2
  by_cases sQ:j<5
  ·obtain⟨x,bA,PY⟩:∃x:Bs,([.str [108,116],.str [103,116],.str [97,109,112],.str [113,117,111,116],.str [97,112,111,115]]:List MV)[j]?=some (.str x)/\pc.drop j=x::pc.drop (j+1):=by
    rcases(by omega:j=0\/j=1\/j=2\/j=3\/j=4)with rfl | rfl | rfl | rfl | rfl<;>exact⟨_,rfl,rfl⟩
   rw[PY,List.any_cons]at hr;refine de @bG @uO @bA @hws ?_;refine ah.rt (mY x w _) ?_;rintro _ O2 ⟨rfl,eO⟩;rw[eO];clear eO O2
   cases hx:dN x w
   ·rw[hx,Bool.false_or]at hr;refine ae @bG ?_;exact az.next (j+1) ⟨rfl,sQ,hr⟩
   ·rw[hx,Bool.true_or]at hr;rw[hr,if_pos rfl];refine ae @bG ?_;first | exact VH.Ge.refl _ | exact⟨rfl,VH.Ge.refl _⟩
  ·obtain rfl:j=5:=by omega
   have fi:pc.any (fun x=>dN x w)=false:=hr;rw[fi,if_neg (by simp)];refine ae @bG ?_;first | exact VH.Ge.refl _ | exact⟨rfl,VH.Ge.refl _⟩
 rw[if_neg h2];have h3:(1+(w.length:Int)==(s.length:Int))=false:=by simpa using(by omega:¬1+(w.length:Int)=(s.length:Int))
 have h4:1+w.length<s.length:=by omega
 have hg:=List.getElem?_eq_getElem h4;have hd:s.getD (1+w.length) 0=s[1+w.length]:=by simp[List.getD,hg]
 rw[hd];generalize s[1+w.length]=c at*;refine de @bG @qW @AQ @h3 ?_;refine ah.rt (Zs w _) ?_;rintro _ O2 ⟨rfl,eO⟩;rw[eO];clear eO O2
 by_cases h5:oT w=[]
 ·have h6:(oT w==[])=true:=beq_iff_eq.2 h5;rw[if_neg (fun h=>h.1 h5)];refine ao @bG @h6 ?_;first | exact VH.Ge.refl _ | exact⟨rfl,VH.Ge.refl _⟩
 have h6:(oT w==[])=false:=by simpa using h5
 by_cases h7:c=59
 ·rw[if_pos ⟨h5,h7⟩];subst h7;have h8:((((59:UInt8).toNat:Nat):Int)==59)=true:=rfl;refine La @bG @h6 @aeF @hg @aE @h8 ?_;first | exact VH.Ge.refl _ | exact⟨rfl,VH.Ge.refl _⟩
 ·rw[if_neg (fun h=>h7 h.2)];have h8:¬((c.toNat:Int)=59):=fun e=>h7 (UInt8.toNat_inj.1 (by simpa using(by omega:c.toNat=59)))
  refine La @bG @h6 @aeF @hg @aE @h8 ?_;first | exact VH.Ge.refl _ | exact⟨rfl,VH.Ge.refl _⟩
theorem LR (w:Bs):(oT w).length<=1:=by unfold oT;repeat' split
                                       all_goals simp
theorem Vh (k:Int):(Hm k).length<=4:=encode_size_le k
theorem Zu {s:Bs} {a:Nat} (h:(u7 s a).2.2=0):a+2<=(u7 s a).2.1/\(u7 s a).2.1<=a+s.length/\(u7 s a).1.length<=4:=by
 have qm:a<=(jx s a).2.1/\(jx s a).2.1+(jx s a).1.length<=a+s.length:=by
  unfold jx;split
  ·rename_i h;have:=gB h;simp only[List.length_cons,List.length_nil]at this;rw[List.length_drop];dsimp only;omega
  ·dsimp only;omega
 have htw:=nN (xj (jx s a).2.2) (jx s a).1;unfold u7 at h ⊢;generalize ((jx s a).1.takeWhile (xj (jx s a).2.2)).length=n at*;unfold Zr at h ⊢;split at h
 ·cases h
 rw[if_neg ‹_›];split at h
 ·cases h
 rw[if_neg ‹_›];split at h
 ·cases h
 rw[if_neg ‹_›];split at h
 ·rw[if_pos ‹_›]
  have hl:(BY (rT (jx s a).2.2 ((jx s a).1.take n))).length<=4:=by
   unfold BY;split<;>first | exact Vh _ | exact Nat.zero_le _
  exact⟨by dsimp only;omega,by dsimp only;omega,hl⟩
 ·cases h
theorem zV {s:Bs} (h:(m5 s).2.2=0):2<=(m5 s).2.1/\(m5 s).2.1<=s.length/\(m5 s).1.length<=(m5 s).2.1:=by
 have ox:1+(pX s).length<=s.length\/s=[]:=by
  cases s with
  | nil=>exact .inr rfl
  | cons c s=>left;unfold pX;rw[List.drop_succ_cons,List.drop_zero,List.length_cons];have:=nN BZ s;omega
 unfold m5 at h ⊢;split at h
 ·rename_i h1;rw[if_pos h1];have h2:=gB h1;simp only[List.length_cons,List.length_nil]at h2;have:=Zu h;rw[List.length_drop]at this;omega
 rw[if_neg ‹_›];unfold Zt at h ⊢;split at h
 ·split at h<;>cases h
 rw[if_neg ‹_›];split at h
 ·rename_i h1;rw[if_pos h1];have:=LR (pX s);rcases ox with ox | rfl
  ·exact⟨by dsimp only;omega,by dsimp only;omega,by dsimp only;omega⟩
  ·have:=h1.2;simp at this
 ·cases h
def eH (t:Bs) (stop:UInt8):Nat->Nat->Bs->Except (Int×Nat) (Bs×Nat)
 | 0,o,acc=>.ok (acc,o)
 | n+1,o,acc=>match t[o]? with
   | none=>.ok (acc,o)
   | some c=>
     if c=stop then .ok (acc,o)
     else if c=38 then
      if(m5 (t.drop o)).2.2≠0 then .error ((m5 (t.drop o)).2.2,o)else eH t stop n (o+(m5 (t.drop o)).2.1) (acc++(m5 (t.drop o)).1)
     else if c=60\/mh c=false then .error (10,o)
     else eH t stop n (o+1) (acc++[c])
theorem xX {O:VH} {k off:Nat} {t:Bs} {X:MV} (stop:UInt8) (h:Rd O k t off X) (ht:t.length<=1000000) (ho:off<=t.length):
  VF Tryz.prog 292 [.ptr k 0,fB stop] O (TQ O k t X (eH t stop (t.length+1 - off) off []) fun y m=>m= .str y):=by
 refine VF.bO 100 [.tmp 4] Tryz.func292 ?_;refine VC.ag aa (ae @au ?_);refine VC.ag aa (ae @au ?_);have rM:=fP.fresh O (Nat.le_refl O.next);have kU:O.Ge ((O.push (.cells [.v (.pointer none),.sl 0 [] .nil])).push (.shape O.next 145 2)):=((VH.Ge.refl O).push _).push _;generalize ((O.push (.cells [.v (.pointer none),.sl 0 [] .nil])).push (.shape O.next 145 2))=O1 at*;refine VC.bJ [5] (fun x:Bs×Nat×Option Nat=>[.ptr O.next 0]) (fun x O'=>bq O (some k) O'/\Rd O' k t x.2.1 X/\fP O' O.next O.next x.2.2 x.1/\x.1.length<=1000000/\eH t stop (t.length+1 - off) off []= .ok (x.1,x.2.1)) ?_ ?_;rotate_left
 ·rintro⟨acc,o,q⟩ O2 ⟨dk,fi,ct,jX,he⟩;dsimp only at fi ct jX he;rw[he];refine WC.sound aa (ae @au ?_);refine ah.rt (pD ct (by simp only[maxLen];omega)) ?_;rintro _ O3 ⟨rfl,cN⟩;refine ae @au ?_;have pK:=ct.xg;exact⟨⟨Nat.le_trans dk.next cN.next,fun i hi hne=>(cN.hp i (Nat.lt_of_lt_of_le hi dk.next) (fun e=>by have:=pK i e;omega)).trans (dk.hp i hi hne)⟩,rfl,Nat.lt_of_lt_of_le fi.1 cN.next,(cN.hp k fi.1 (fun e=>by have:=pK k e;have:=h.1;omega)).trans fi.2⟩
 refine VC.aB ?_;refine VC.bP [] [0,1,5] (fun x:Bs×Nat×Option Nat=>[]) (fun x O'=>bq O (some k) O'/\Rd O' k t x.2.1 X/\fP O' O.next O.next x.2.2 x.1/\x.1.length<=x.2.1/\x.2.1<=t.length/\∃n,t.length+1 - x.2.1<=n/\eH t stop (t.length+1 - off) off []=eH t stop n x.2.1 x.1) (fun x=>t.length - x.2.1) (([],off,none)) ?_ ?_
 ·exact⟨(bq.lI kU).any,h.ge kU,rM,Nat.zero_le _,ho,_,Nat.le_refl _,rfl⟩
 rintro⟨acc,o,q⟩ O2 ⟨dk,fi,ct,jX,LS,n,hn,he⟩;dsimp only at fi ct jX LS hn he;obtain⟨n,rfl⟩:∃i,n=i+1:=⟨n - 1,by omega⟩
 have bR:=fi.2;simp only[ar]at bR;by_cases h1:t.length<=o
 ·have fH:t[o]?=none:=List.getElem?_eq_none h1;have hle:eH t stop (n+1) o acc= .ok (acc,o):=by unfold eH;rw[fH]
  rw[hle]at he;refine VC.bC (VC.bC ?_);refine VC.lY [4,5,6,7,8,9,10,11,12,13,14,15,16,17,18,19] ?_;refine ab.av 0 ?_;refine ae @au ?_;refine ab.av 1 ?_;refine ae @au ?_;refine ab.av 2 ?_;refine ae @au ?_;refine ab.call (i:=3) (mZ fi) ?_;rintro _ O3 ⟨rfl,eO⟩;simp only[aj];rw[eO];clear eO O3
  rw[decide_eq_true h1];refine⟨VH.Ge.refl _,?_⟩;refine ab.bH [(4,.av),(5,.av),(6,.av),(7,.av),(8,.av),(9,.av),(10,.av),(11,.av),(12,.av),(13,.av),(14,.av),(15,.av),(16,.av),(17,.av),(18,.av),(19,.av)] ?_;refine ae @au ?_;refine WC.sound aa (ae @au ?_);exact aA.mk (acc,o,q) ⟨dk,fi,ct,Nat.le_trans jX (Nat.le_trans LS ht),he⟩
 have h2:o<t.length:=by omega
 have hg:=List.getElem?_eq_getElem h2;generalize t[o]=c at*;refine VC.bC (VC.bC ?_);refine VC.lY [] ?_;refine ab.av 0 ?_;refine ae @au ?_;refine ab.av 1 ?_;refine ae @au ?_;refine ab.av 2 ?_;refine ae @au ?_;refine ab.call (i:=3) (mZ fi) ?_;rintro _ O3 ⟨rfl,eO⟩;simp only[aj];rw[eO];clear eO O3
 rw[decide_eq_false h1];refine⟨VH.Ge.refl _,?_⟩;refine ab.av 4 ?_;refine ae @au ?_;refine ab.av 5 ?_;refine ae @au ?_;refine ab.av 6 ?_;refine ae @au ?_;refine ab.av 7 ?_;refine ae @au ?_;refine ab.av 8 ?_;refine ae @au ?_;refine ab.av 9 ?_;refine ae @au ?_;refine ab.ld (m:=.str t) 10 ?_ ?_
 ·exact c9 @au @bR
 simp only[aj];refine ab.av 11 ?_;refine ae @au ?_;refine ab.av 12 ?_;refine ae @au ?_;refine ab.av 13 ?_;refine ae @au ?_;refine ab.av 14 ?_;refine ae @au ?_;refine ab.ld (m:=.v (.int .i64 o)) 15 ?_ ?_
 ·exact c9 @au @bR
 simp only[aj];refine ab.av 16 ?_;refine ao @au @hg ?_;refine ab.av 17 ?_;refine ae @au ?_;by_cases h3:c=stop
 ·subst h3;have hle:eH t c (n+1) o acc= .ok (acc,o):=by unfold eH;rw[hg];simp
  rw[hle]at he;refine ab.av 18 ?_;refine ao @au @aE ?_;refine ab.av 19 ?_;refine ae @au ?_;refine ab.bH [] ?_;refine ae @au ?_;refine WC.sound aa (ae @au ?_);exact aA.mk (acc,o,q) ⟨dk,fi,ct,Nat.le_trans jX (Nat.le_trans LS ht),he⟩
 have h4:¬((c.toNat:Int)=(stop.toNat:Int)):=fun e=>h3 (UInt8.toNat_inj.1 (by omega))
 refine ab.av 18 ?_;refine aI @au @aE @h4 ?_;refine ab.av 19 ?_;refine ae @au ?_;refine ab.bH [] ?_;refine ae @au ?_;refine WC.sound aa (ae @au ?_);refine VC.aB ?_;refine VC.bC ?_;refine WC.reads ?_;refine aI @au @bR @hg ?_;by_cases h5:c=38
 ·subst h5;have u9:(t.drop o).length<=1000000:=by rw[List.length_drop];omega
  have kU:(t.drop o)[0]?=some 38:=by rw[List.getElem?_drop];exact hg
  have zW:=agr (t.drop o) O2 u9 kU;have cW:= @zV (t.drop o)
  have hle:eH t stop (n+1) o acc=if(m5 (t.drop o)).2.2≠0 then .error ((m5 (t.drop o)).2.2,o)else eH t stop n (o+(m5 (t.drop o)).2.1) (acc++(m5 (t.drop o)).1):=by
   rw[show eH t stop (n+1) o acc=_ from by unfold eH;rfl,hg];simp only;rw[if_neg h3,if_pos trivial]
  rw[hle]at he;rw[List.length_drop]at cW;generalize m5 (t.drop o)=r at*;have h6:((((38:UInt8).toNat:Nat):Int)==38)=true:=rfl;refine VC.ag aa (aI @au @aE @h6 ?_);refine ah.rt (wq fi LS) ?_;rintro _ O3 ⟨rfl,eO⟩;rw[eO];clear eO O3
  refine ae @au ?_;refine ah.rt (zW) ?_;rintro _ OR ⟨rfl,Zv⟩;refine ae @au ?_;clear zW
  replace bR:=(Zv.hp k fi.1).trans bR
  replace fi:=fi.ge Zv
  replace ct:=ct.ge Zv
  replace dk:=dk.trans (bq.lI Zv).any
  clear Zv O2;by_cases h7:r.2.2=0
  ·obtain⟨k1,k2,k3⟩:=cW h7;rw[if_neg (by simpa using h7)]at he;have h8:(r.2.2 != 0)=false:=by simpa using h7
   refine ao @au @h8 ?_;refine ah.rt (bK r.1 ct (by omega)) ?_;rintro _ O3 ⟨rfl,q',cu,cN⟩;have pK:=ct.xg;have dG:O3.hp k=some (.cells [.str t,.v (.int .i64 (o:Int)),X]):=(cN.hp k fi.1 (by have:=h.1;omega) (fun e=>by have:=pK k e;have:=h.1;omega)).trans bR;refine ao @au @dG ?_;have fb:bq O (some k) O3:=⟨Nat.le_trans dk.next cN.next,fun i hi hne=>(cN.hp i (Nat.lt_of_lt_of_le hi dk.next) (by omega) (fun e=>by have:=pK i e;omega)).trans (dk.hp i hi hne)⟩;have gI:Rd O3 k t o X:=⟨Nat.lt_of_lt_of_le fi.1 cN.next,dG⟩;refine az.next (acc++r.1,o+r.2.1,q') ⟨fb.trans bq.set,by simpa[ar]using gI.set (t':=t) (off':=o+r.2.1) (X':=X),cu.set dG (by have:=h.1;omega) (fun e=>by have:=cu.xg k e;have:=h.1;omega),by dsimp only;rw[List.length_append];omega,by dsimp only;omega,n,by dsimp only;omega,he⟩
  ·rw[if_pos h7]at he;rw[he];have h8:(r.2.2 != 0)=true:=by simpa using h7
   refine aI @au @h8 @bR ?_;refine ah.p (il r.2.2 o _) ?_ ?_
   ·rintro m O9 ⟨_,h⟩;exact h.elim
   rintro m O9 ⟨rfl,rfl⟩;refine ae @au ?_;exact⟨dk,rfl⟩
 have h6:¬((c.toNat:Int)=38):=fun e=>h5 (UInt8.toNat_inj.1 (by simpa using(by omega:c.toNat=38)))
 by_cases h7:c=60\/mh c=false
 ·have hle:eH t stop (n+1) o acc= .error (10,o):=by unfold eH;rw[hg];simp only;rw[if_neg h3,if_neg h5,if_pos h7]
  rw[he,hle];by_cases h8:c=60
  ·have h9:((c.toNat:Int)==60)=true:=by rw[h8];rfl
   refine VC.ag aa (gW @au @aE @h6 @h9 @bR ?_);refine ah.p (il 10 o _) ?_ ?_
   ·rintro m O9 ⟨_,h⟩;exact h.elim
   rintro m O9 ⟨rfl,rfl⟩;refine ae @au ?_;exact⟨dk,rfl⟩
  have xI:¬((c.toNat:Int)=60):=fun e=>h8 (UInt8.toNat_inj.1 (by simpa using(by omega:c.toNat=60)))
  have h9:mh c=false:=h7.resolve_left h8;refine VC.ag aa (de @au @aE @h6 @xI ?_);refine ah.rt (we c _) ?_;rintro _ O3 ⟨rfl,eO⟩;rw[eO];clear eO O3
  rw[h9];refine ao @au @bR ?_;refine ah.p (il 10 o _) ?_ ?_
  ·rintro m O9 ⟨_,h⟩;exact h.elim
  rintro m O9 ⟨rfl,rfl⟩;refine ae @au ?_;exact⟨dk,rfl⟩
 have h8:¬c=60:=fun e=>h7 (.inl e)
 have h9:mh c=true:=by simpa using fun hx:mh c=false=>h7 (.inr hx)
 have xI:¬((c.toNat:Int)=60):=fun e=>h8 (UInt8.toNat_inj.1 (by simpa using(by omega:c.toNat=60)))
 have hle:eH t stop (n+1) o acc=eH t stop n (o+1) (acc++[c]):=by
  rw[show eH t stop (n+1) o acc=_ from by unfold eH;rfl,hg];simp only;rw[if_neg h3,if_neg h5,if_neg h7]
 rw[hle]at he;refine VC.ag aa (de @au @aE @h6 @xI ?_);refine ah.rt (we c _) ?_;rintro _ O3 ⟨rfl,eO⟩;rw[eO];clear eO O3
 rw[h9];refine ae @au ?_;refine WC.sound aa (ae @au ?_);refine ah.rt (sH c ct (by omega)) ?_;rintro _ O3 ⟨rfl,q',cu,cN⟩;have pK:=ct.xg;have dG:O3.hp k=some (.cells [.str t,.v (.int .i64 (o:Int)),X]):=(cN.hp k fi.1 (by have:=h.1;omega) (fun e=>by have:=pK k e;have:=h.1;omega)).trans bR;refine ao @au @dG ?_;have fb:bq O (some k) O3:=⟨Nat.le_trans dk.next cN.next,fun i hi hne=>(cN.hp i (Nat.lt_of_lt_of_le hi dk.next) (by omega) (fun e=>by have:=pK i e;omega)).trans (dk.hp i hi hne)⟩;have gI:Rd O3 k t o X:=⟨Nat.lt_of_lt_of_le fi.1 cN.next,dG⟩;refine az.next (acc++[c],o+1,q') ⟨fb.trans bq.set,by simpa[ar]using gI.set (t':=t) (off':=o+1) (X':=X),cu.set dG (by have:=h.1;omega) (fun e=>by have:=cu.xg k e;have:=h.1;omega),by dsimp only;rw[List.length_append];simp only[List.length_cons,List.length_nil];omega,by dsimp only;omega,?_⟩;exact⟨n,by dsimp only;omega,he⟩
theorem nZ {t:Bs} {stop:UInt8}:∀(n o:Nat) (acc:Bs) {s:Bs} {o':Nat},o<=t.length->acc.length<=o->eH t stop n o acc= .ok (s,o')->o<=o'/\o'<=t.length/\s.length<=o'
 | 0,o,acc,s,o',ho,ha,h=>by
   unfold eH at h;injection h with h;injection h with h1 h2
   subst h1;subst h2
   exact⟨Nat.le_refl _,ho,ha⟩
 | n+1,o,acc,s,o',ho,ha,h=>by
   have done:∀(h:(.ok (acc,o):Except (Int×Nat) (Bs×Nat))= .ok (s,o')),o<=o'/\o'<=t.length/\s.length<=o':=fun h=>by
    injection h with h;injection h with h1 h2
    subst h1;subst h2
    exact⟨Nat.le_refl _,ho,ha⟩
   unfold eH at h;cases hg:t[o]? with
   | none=>rw[hg]at h;exact done h
   | some c=>
     have PZ:o<t.length:=(List.getElem?_eq_some_iff.1 hg).1;rw[hg]at h;simp only at h;split at h
     ·exact done h
     split at h
     ·rename_i h2;subst h2;split at h
      ·cases h
      ·rename_i h5;obtain⟨k1,k2,k3⟩:=zV (by simpa using h5);rw[List.length_drop]at k2;have:=nZ n _ _ (by omega) (by rw[List.length_append];omega) h;omega
     split at h
     ·cases h
     ·have:=nZ n _ _ (by omega) (by rw[List.length_append];simp only[List.length_cons,List.length_nil];omega) h;omega
def tG (t:Bs) (off:Nat):Except (Int×Nat) (Bs×Nat):=match t[off]? with
 | none=>.error (13,off)
 | some q=>
   if q≠34/\q≠39 then .error (10,off)
   else match eH t q (t.length+1 - (off+1)) (off+1) []with
    | .error e=>.error e
    | .ok (s,o)=>if t.length<=o then .error (13,o)else .ok (s,o+1)
theorem Zw {O:VH} {k off:Nat} {t:Bs} {X:MV} (h:Rd O k t off X) (ht:t.length<=1000000):
  VF Tryz.prog 313 [.ptr k 0] O (TQ O k t X (tG t off) fun y m=>m= .str y):=by
 have hk:=h.2;simp only[ar]at hk;unfold tG;refine VF.du 70 [.tmp 2] Tryz.func313 ?_;refine ae @au ?_;refine ah.rt (mZ h) ?_;rintro _ O2 ⟨rfl,eO⟩;rw[eO];clear eO O2
 by_cases h1:t.length<=off
 ·rw[decide_eq_true h1,List.getElem?_eq_none h1];refine ao @au @hk ?_;refine ah.p (il _ _ _) ?_ ?_
  ·rintro m O9 ⟨_,h⟩;exact h.elim
  rintro m O9 ⟨rfl,rfl⟩;refine ae @au ?_;exact⟨bq.refl _ _,rfl⟩
 have h2:off<t.length:=by omega
 have hg:=List.getElem?_eq_getElem h2;rw[decide_eq_false h1,hg];generalize t[off]=c at*;refine ae @au ?_;refine WC.reads ?_;refine de @au @hk @hg @aE ?_;have hr:Rd (O.set k (.cells [.str t,mi (off+1:Nat),X])) k t (off+1) X:=h.set;have hu:bq O (some k) (O.set k (.cells [.str t,mi (off+1:Nat),X])):=bq.set;have kF:((off:Int)+1)=((off+1:Nat):Int):=by omega
 simp only[ar, <-kF]at hr hu;have hle:=xX (X:=X) c hr ht (by omega:off+1<=t.length);have fO:= @nZ t c (t.length+1 - (off+1)) (off+1) [];generalize eH t c (t.length+1 - (off+1)) (off+1) []=LF at*;by_cases hq:c≠34/\c≠39
 ·rw[if_pos hq];have e1:¬((c.toNat:Int)=34):=fun e=>hq.1 (UInt8.toNat_inj.1 (by simpa using(by omega:c.toNat=34)))
  have e2:¬((c.toNat:Int)=39):=fun e=>hq.2 (UInt8.toNat_inj.1 (by simpa using(by omega:c.toNat=39)))
  refine de @au @hk @e1 @e2 ?_;refine ah.p (il _ _ _) ?_ ?_
  ·rintro m O9 ⟨_,h⟩;exact h.elim
  rintro m O9 ⟨rfl,rfl⟩;refine ae @au ?_;exact⟨bq.refl _ _,rfl⟩
 rw[if_neg hq];by_cases hc:c=34
 ·subst hc;have e1:((((34:UInt8).toNat:Nat):Int) != 34)=false:=rfl;refine de @au @aE @e1 @hk ?_;generalize O.set k (.cells [.str t,.v (.int .i64 ((off:Int)+1)),X])=O2 at*;refine ah.p (hle) ?_ ?_;rotate_left
  ·rintro m O3 ⟨cN,h⟩;cases LF with
   | ok y=>exact h.elim
   | error e=>
     dsimp only at h;subst h;refine ae @au ?_;exact⟨hu.trans cN,rfl⟩
  rintro m O3 ⟨cN,h⟩;cases LF with
  | error e=>exact h.elim
  | ok y=>
  obtain⟨s,o⟩:=y;dsimp only at h;obtain⟨rfl,gI⟩:=h;have dG:=gI.2;simp only[ar]at dG;obtain⟨g1,g2,g3⟩:=fO (by omega) (Nat.zero_le _) rfl;refine ae @au ?_;refine ah.rt (mZ gI) ?_;rintro _ O4 ⟨rfl,eO⟩;rw[eO];clear eO O4
  by_cases h5:t.length<=o
  ·rw[decide_eq_true h5];rw[if_pos h5];refine ao @au @dG ?_;refine ah.p (il _ _ _) ?_ ?_
   ·rintro m O9 ⟨_,h⟩;exact h.elim
   rintro m O9 ⟨rfl,rfl⟩;refine ae @au ?_;exact⟨hu.trans cN,rfl⟩
  ·rw[decide_eq_false h5];rw[if_neg h5];refine ao @au @dG ?_;exact⟨(hu.trans cN).trans bq.set,rfl,by simpa[ar]using gI.set (t':=t) (off':=o+1) (X':=X)⟩
 ·obtain rfl:c=39:=by
   by_cases h9:c=39
   ·exact h9
   ·exact absurd ⟨hc,h9⟩ hq
  have e1:((((39:UInt8).toNat:Nat):Int) != 34)=true:=rfl;have e2:((((39:UInt8).toNat:Nat):Int) != 39)=false:=rfl;refine gW @au @aE @e1 @e2 @hk ?_;generalize O.set k (.cells [.str t,.v (.int .i64 ((off:Int)+1)),X])=O2 at*;refine ah.p (hle) ?_ ?_;rotate_left
  ·rintro m O3 ⟨cN,h⟩;cases LF with
   | ok y=>exact h.elim
   | error e=>
     dsimp only at h;subst h;refine ae @au ?_;exact⟨hu.trans cN,rfl⟩
  rintro m O3 ⟨cN,h⟩;cases LF with
  | error e=>exact h.elim
  | ok y=>
  obtain⟨s,o⟩:=y;dsimp only at h;obtain⟨rfl,gI⟩:=h;have dG:=gI.2;simp only[ar]at dG;obtain⟨g1,g2,g3⟩:=fO (by omega) (Nat.zero_le _) rfl;refine ae @au ?_;refine ah.rt (mZ gI) ?_;rintro _ O4 ⟨rfl,eO⟩;rw[eO];clear eO O4
  by_cases h5:t.length<=o
  ·rw[decide_eq_true h5];rw[if_pos h5];refine ao @au @dG ?_;refine ah.p (il _ _ _) ?_ ?_
   ·rintro m O9 ⟨_,h⟩;exact h.elim
   rintro m O9 ⟨rfl,rfl⟩;refine ae @au ?_;exact⟨hu.trans cN,rfl⟩
  ·rw[decide_eq_false h5];rw[if_neg h5];refine ao @au @dG ?_;exact⟨(hu.trans cN).trans bq.set,rfl,by simpa[ar]using gI.set (t':=t) (off':=o+1) (X':=X)⟩
def lu (t:Bs):Nat->Nat->List (Bs×Bs)->Except (Int×Nat) (List (Bs×Bs)×Nat)
 | 0,o,l=>.ok (l,o)
 | n+1,o,l=>
   if j5 t o=0\/t.length<=o+j5 t o\/dN (t.drop (o+j5 t o)) [47]=true\/dN (t.drop (o+j5 t o)) [62]=true then .ok (l,o+j5 t o)
   else match jb t (o+j5 t o) 10 with
    | .error e=>.error e
    | .ok (nm,o2)=>
      if l.any (·.1==nm)then .error (15,o+j5 t o)
      else match iE t (o2+j5 t o2) [61]with
       | .error e=>.error e
       | .ok (_,o4)=>match tG t (o4+j5 t o4)with
         | .error e=>.error e
         | .ok (v,o6)=>lu t n o6 (l++[(nm,v)])
theorem iP (t:Bs) (o:Nat) (h:o<=t.length):o+j5 t o<=t.length:=by
 unfold j5;have:=nN lJ (t.drop o);rw[List.length_drop]at this;omega
theorem f_ {t:Bs} {o:Nat} {e:Int} {s:Bs} {o':Nat} (h:jb t o e= .ok (s,o')):o<o'/\o'<=t.length/\s.length<=o' - o/\0<s.length:=by
 have zN:=BU (t.drop o);rw[List.length_drop]at zN;unfold jb at h;split at h
 ·cases h
 split at h
 ·cases h
 injection h with h;injection h with h1 h2
 subst h1;subst h2
 rw[List.length_take,List.length_drop];omega
theorem k9 {t:Bs} {o:Nat} {p:Bs} {y:Unit} {o':Nat} (h:iE t o p= .ok (y,o')):o'=o+p.length/\o'<=t.length/\o<t.length:=by
 unfold iE at h;split at h
 ·cases h
 split at h
 ·rename_i h2;injection h with h;injection h with h1 h3
  have:=gB h2;rw[List.length_drop]at this;omega
 ·cases h
theorem zX {t:Bs} {o:Nat} {s:Bs} {o':Nat} (h:tG t o= .ok (s,o')):o<o'/\o'<=t.length/\s.length<=o':=by
 unfold tG at h;split at h
 ·cases h
 rename_i q hq;have PZ:=(List.getElem?_eq_some_iff.1 hq).1;split at h
 ·cases h
 split at h
 ·cases h
 rename_i s2 o2 h2;split at h
 ·cases h
 injection h with h;injection h with h1 h3
 subst h1;subst h3
 have:=nZ _ _ _ (by omega) (by simp) h2;omega
theorem App.br {O O1:VH} {B sz k:Nat} {tk:Tok} (h:App O B sz tk) (u:bq O (some k) O1) (hk:k<B):App O1 B sz tk:=by
 cases tk with
 | own t j=>
   obtain⟨h1,h2,h3,h4⟩:=h;exact⟨h1,(u.hp t h4 (by intro e;injection e;omega)).trans h2,h3,Nat.lt_of_lt_of_le h4 u.next⟩
 | nil=>trivial
 | full=>trivial
 | aq=>exact h.elim
theorem LU {O:VH} {k off:Nat} {t:Bs} {X:MV} (h:Rd O k t off X) (ht:t.length<=1000000) (ho:off<=t.length):
  VF Tryz.prog 291 [.ptr k 0] O (TQ O k t X (lu t (t.length+1 - off) off []) fun y m=>∃tk,m= .sl y.length (y.flatMap aY) tk):=by
 refine VF.bO 64 [.tmp 2] Tryz.func291 ?_;refine VC.ag aa (ae @au ?_);refine VC.aB ?_;refine VC.bP [2] [0] (fun x:List (Bs×Bs)×Nat×Tok=>[.sl x.1.length (x.1.flatMap aY) x.2.2]) (fun x O'=>bq O (some k) O'/\Rd O' k t x.2.1 X/\App O' O.next 2 x.2.2/\x.2.1<=t.length/\x.1.length<=x.2.1/\∃n,t.length+1 - x.2.1<=n/\lu t (t.length+1 - off) off []=lu t n x.2.1 x.1) (fun x=>t.length - x.2.1) (([],off,.nil)) ?_ ?_
 ·exact⟨bq.refl _ _,h,trivial,ho,Nat.zero_le _,_,Nat.le_refl _,rfl⟩
 rintro⟨l,o,tk⟩ O2 ⟨dk,fi,cH,PZ,tT,n,hn,he⟩;dsimp only at dk fi cH PZ tT hn he ⊢;rw[he];obtain⟨n,rfl⟩:∃i,n=i+1:=⟨n - 1,by omega⟩
 have uR:=iP t o PZ;have hrb:=pS fi ht PZ;rw[lu];generalize j5 t o=kb at*;refine VC.aB ?_;refine VC.ag aa (ae @au ?_);refine ah.p (hrb) ?_ ?_;rotate_left
 ·rintro m O9 ⟨_,h⟩;exact h.elim
 rintro m O3 ⟨cN,h9⟩;dsimp only at h9;obtain⟨rfl,gI⟩:=h9;have jw:App O3 O.next 2 tk:=App.br cH cN (by have:=h.1;omega);have Ex:=dk.trans cN;refine ae @au ?_;by_cases um:kb=0
 ·subst um;rw[if_pos (.inl rfl)];repeat refine gj @au ?_
  exact⟨Ex,⟨tk,rfl⟩,gI⟩
 have ail:((kb:Int)==0)=false:=by simpa using um
 refine VC.ag aa (ao @au @ail ?_);refine ah.rt (mZ gI) ?_;rintro _ O4 ⟨rfl,eO⟩;rw[eO];clear eO O4
 by_cases Ho:t.length<=o+kb
 ·rw[if_pos (.inr (.inl Ho)),decide_eq_true Ho];repeat refine gj @au ?_
  exact⟨Ex,⟨tk,rfl⟩,gI⟩
 rw[decide_eq_false Ho];refine ae @au ?_;refine ah.rt (pR [47] gI (by omega)) ?_;rintro _ O4 ⟨rfl,eO⟩;rw[eO];clear eO O4
 cases Vi:dN (t.drop (o+kb)) [47];rotate_left
 ·rw[if_pos (.inr (.inr (.inl rfl)))];repeat refine gj @au ?_
  exact⟨Ex,⟨tk,rfl⟩,gI⟩
 refine ae @au ?_;refine ah.rt (pR [62] gI (by omega)) ?_;rintro _ O4 ⟨rfl,eO⟩;rw[eO];clear eO O4
 cases h62:dN (t.drop (o+kb)) [62];rotate_left
 ·rw[if_pos (.inr (.inr (.inr rfl)))];repeat refine gj @au ?_
  exact⟨Ex,⟨tk,rfl⟩,gI⟩
 rw[if_neg (by simp[um,Ho])];have dG:=gI.2;simp only[ar]at dG;repeat refine pQ @au @dG ?_
 have NY:=zT 10 gI ht;have tX:= @f_ t (o+kb) 10;generalize jb t (o+kb) 10=NF at*;refine ah.p (NY) ?_ ?_;rotate_left
 ·rintro m O9 ⟨iM,h9⟩;cases NF with
  | ok y=>exact h9.elim
  | error e=>
    dsimp only at h9;subst h9;refine ae @au ?_;exact⟨bq.trans Ex iM,rfl⟩
 rintro m O4 ⟨fb,h9⟩;cases NF with
 | error e=>exact h9.elim
 | ok y9=>
 obtain⟨nm,o2⟩:=y9;dsimp only at h9;obtain⟨rfl,FZ⟩:=h9;obtain⟨a1,a2,a3,a4⟩:=tX rfl;have lM:App O4 O.next 2 tk:=App.br jw fb (by have:=h.1;omega);have Zx:=Ex.trans fb;refine ae @au ?_;have Ax:((l.flatMap aY).length)=l.length*2:=aT fa l;refine VC.bJ [0,2,4,5] (fun _:Unit=>[.ptr k 0,.sl l.length (l.flatMap aY) tk,mi (o+kb:Nat),.str nm]) (fun _ O'=>O4.Ge O'/\l.any (·.1==nm)=false) ?_ ?_
 ·refine VC.ag aa (ae @au ?_);refine VC.aB ?_;refine VC.bP [40] [0,2,4,5,38,39] (fun j:Nat=>[mi j]) (fun j O'=>O4.Ge O'/\j<=l.length/\l.any (·.1==nm)=(l.drop j).any (·.1==nm)) (fun j=>l.length - j) (0) ?_ ?_
  ·exact⟨VH.Ge.refl _,Nat.zero_le _,rfl⟩
  rintro j O5 ⟨bW,hj,kf⟩;by_cases AG:j<l.length
  ·have bA:=cg fa l j AG;have PY:=List.drop_eq_getElem_cons AG;rw[PY,List.any_cons]at kf;generalize l[j]=y at*;obtain⟨yn,yv⟩:=y;simp only[aY]at bA;refine VC.ag aa (ae @au ?_);refine VC.ag aa (ae @au ?_);refine VC.bC (VC.aB ?_);refine VC.ag aa (ao @au @bA ?_);refine VC.al ?_;rintro O6 ⟨fC,mG,ov⟩;by_cases hy:yn=nm
   ·have e1:(yn==nm)=true:=beq_iff_eq.2 hy;simp only[e1,Bool.true_or]at kf;rw[kf,if_pos rfl];refine VC.ag aa (aI @au @mG @e1 ?_);refine WC.sound aa (ae @au ?_);refine ah.p (il _ _ _) ?_ ?_
    ·rintro m O9 ⟨_,h⟩;exact h.elim
    rintro m O9 ⟨rfl,rfl⟩;refine ae @au ?_;exact⟨Zx.trans (bq.lI (bW.trans fC)).any,rfl⟩
   ·have e1:(yn==nm)=false:=by simpa using hy
    simp only[e1,Bool.false_or]at kf;refine VC.ag aa (aI @au @mG @e1 ?_);refine WC.sound aa (ae @au ?_);refine WC.sound aa (ae @au ?_);exact az.next (j+1) ⟨bW.trans fC,AG,kf⟩
  ·obtain rfl:j=l.length:=by omega
   rw[List.drop_length,List.any_nil]at kf;refine VC.ag aa (ae @au ?_);refine WC.sound aa (ae @au ?_);exact aA.mk () ⟨bW,kf⟩
 rintro⟨⟩ O5 ⟨bW,kf⟩;rw[kf,if_neg (by simp)];have qn:=FZ.ge bW;have lq:=lM.ge bW;have RS:=Zx.trans (bq.lI bW).any;clear bW FZ gI fi cH jw lM dk cN fb Ex Zx dG hrb;have aj4:=iP t o2 a2;refine VC.ag aa (ae @au ?_);refine ah.p (pS qn ht a2) ?_ ?_;rotate_left
 ·rintro m O9 ⟨_,h⟩;exact h.elim
 rintro m O6 ⟨qT,h9⟩;dsimp only at h9;obtain⟨rfl,m6⟩:=h9;have nW:App O6 O.next 2 tk:=App.br lq qT (by have:=h.1;omega);have Lr:=RS.trans qT;repeat refine gj @au ?_
 have hwk:= @k9 t (o2+j5 t o2) [61];have AR:=sP (X:=X) [61] m6 ht (by decide);generalize iE t (o2+j5 t o2) [61]=WF at*;refine ah.p (AR) ?_ ?_;rotate_left
 ·rintro m O9 ⟨iM,h9⟩;cases WF with
  | ok y=>exact h9.elim
  | error e=>
    dsimp only at h9;subst h9;refine ae @au ?_;exact⟨bq.trans Lr iM,rfl⟩
 rintro m O7 ⟨Co,h9⟩;cases WF with
 | error e=>exact h9.elim
 | ok y9=>
 obtain⟨y7,o4⟩:=y9;dsimp only at h9;obtain⟨rfl,IQ⟩:=h9;obtain⟨b1,b2,b3⟩:=hwk rfl;have jP:App O7 O.next 2 tk:=App.br nW Co (by have:=h.1;omega);have aim:=Lr.trans Co;have aj5:=iP t o4 b2;repeat refine gj @au ?_
 refine ah.p (pS IQ ht b2) ?_ ?_;rotate_left
 ·rintro m O9 ⟨_,h⟩;exact h.elim
 rintro m O8 ⟨ql,h9⟩;dsimp only at h9;obtain⟨rfl,Zy⟩:=h9;have B0:App O8 O.next 2 tk:=App.br jP ql (by have:=h.1;omega);have aeG:=aim.trans ql;repeat refine gj @au ?_
 have hvk:= @zX t (o4+j5 t o4);have hvv:=Zw Zy ht;generalize tG t (o4+j5 t o4)=VF at*;refine ah.p (hvv) ?_ ?_;rotate_left
 ·rintro m O9 ⟨iM,h9⟩;cases VF with
  | ok y=>exact h9.elim
  | error e=>
    dsimp only at h9;subst h9;refine ae @au ?_;exact⟨bq.trans aeG iM,rfl⟩
 rintro m OA ⟨Zz,h9⟩;cases VF with
 | error e=>exact h9.elim
 | ok y9=>
 obtain⟨v,o6⟩:=y9;dsimp only at h9;obtain⟨rfl,hrA⟩:=h9;obtain⟨c1,c2,c3⟩:=hvk rfl;have ZA:App OA O.next 2 tk:=App.br B0 Zz (by have:=h.1;omega);have R4:=aeG.trans Zz;repeat refine gj @au ?_
 have ain:=bo (tk':=.full) (n:=l.length) (k:=1) (cs:=l.flatMap aY) (ds:=[.str nm,.str v]) aeh aep.1.1 ZA Ax rfl rfl (by decide) (by decide) (by omega) (by simp only[maxLen];omega);refine VL.app ain ?_;repeat refine gj @au ?_
 have jm:=cP.after ZA;have hne:∀i,i<O.next->Tok.id tk≠some i:=fun i hi e=>by have:=(ZA.ou e).1;omega
 refine az.next (l++[(nm,v)],o6,.own OA.next 2) ⟨⟨Nat.le_trans R4.next jm.next,fun i hi hk=>(jm.hp i (Nat.lt_of_lt_of_le hi R4.next) (hne i hi)).trans (R4.hp i hi hk)⟩,⟨Nat.lt_of_lt_of_le hrA.1 jm.next,(jm.hp k hrA.1 (hne k h.1)).trans hrA.2⟩,App.after R4.next,c2,?_,n,?_,rfl⟩ (hl:=?_) (hm:=?_)
 ·dsimp only;rw[List.length_append,List.length_singleton];omega
 ·dsimp only;omega
 ·dsimp only;rw[List.flatMap_append,List.length_append];rfl
 ·dsimp only;omega
structure Tk where
 kind:Int
 name:Bs
 attrs:List (Bs×Bs)
 text:Bs
 off:Nat
def xY (x:Tk):List MV:=[mi x.kind,.str x.name,.sl x.attrs.length (x.attrs.flatMap aY) .aq,.str x.text,mi x.off,mi 0,mi 0]
theorem Ey (x:Tk):(xY x).length=7:=rfl
structure UB (B k:Nat) (O O':VH):Prop where
 next:O.next<=O'.next
 hp:∀i,i<B->i≠k->O'.hp i=O.hp i
theorem UB.refl (B k:Nat) (O:VH):UB B k O O:=⟨Nat.le_refl _,fun _ _ _=>rfl⟩
theorem UB.br {B k:Nat} {O O1 O2:VH} (h:UB B k O O1) (u:bq O1 (some k) O2) (hB:B<=O1.next):UB B k O O2:=
 ⟨Nat.le_trans h.next u.next,fun i hi hk=>(u.hp i (Nat.lt_of_lt_of_le hi hB) (by intro e;injection e;omega)).trans (h.hp i hi hk)⟩
theorem UB.ge {B k:Nat} {O O1 O2:VH} (h:UB B k O O1) (u:O1.Ge O2) (hB:B<=O1.next):UB B k O O2:=
 ⟨Nat.le_trans h.next u.next,fun i hi hk=>(u.hp i (Nat.lt_of_lt_of_le hi hB)).trans (h.hp i hi hk)⟩
theorem UB.set {B k b:Nat} {O O1:VH} {x:b_} (h:UB B k O O1) (hb:B<=b\/b=k):UB B k O (O1.set b x):=
 ⟨h.next,fun i hi hk=>VH.sn (h.hp i hi hk)⟩
theorem UB.trans {B k:Nat} {O O1 O2:VH} (h:UB B k O O1) (u:UB B k O1 O2):UB B k O O2:=⟨Nat.le_trans h.next u.next,fun i hi hk=>(u.hp i hi hk).trans (h.hp i hi hk)⟩
theorem Rd.other {O:VH} {k b off:Nat} {t:Bs} {X:MV} {x:b_} (h:Rd O k t off X) (hb:b≠k):Rd (O.set b x) k t off X:=⟨h.1,(VH.ak _ _ (fun e=>hb e.symm)).trans h.2⟩
def tH {α β :Type} (f: α -> β):Except (Int×Nat) (α ×Nat)->Except (Int×Nat) (β ×Nat)
 | .error e=>.error e
 | .ok (x,o)=>.ok (f x,o)
def qz (t:Bs) (off:Nat):Except (Int×Nat) (Tk×Nat):=match jb t (off+2) 11 with
 | .error e=>.error e
 | .ok (nm,o2)=>tH (fun _=>⟨3,nm,[],[],off⟩) (iE t (o2+j5 t o2) [62])
def u_ (t:Bs) (off:Nat):Except (Int×Nat) (Tk×Nat):=match jb t (off+1) 11 with
 | .error e=>.error e
 | .ok (nm,o2)=>match lu t (t.length+1 - o2) o2 []with
   | .error e=>.error e
   | .ok (l,o3)=>if dN (t.drop o3) [47]then tH (fun _=>⟨2,nm,l,[],off⟩) (iE t (o3+1) [62])else tH (fun _=>⟨1,nm,l,[],off⟩) (iE t o3 [62])
def mu (t:Bs) (off:Nat):Except (Int×Nat) (Tk×Nat):=
 if dN (t.drop off) [60,33,45,45]then tH (fun s=>⟨5,[],[],s,off⟩) (iO t (off+List.length [(60:UInt8),33,45,45]) [45,45,62])
 else if dN (t.drop off) [60,33,91,67,68,65,84,65,91]then tH (fun s=>⟨4,[],[],s,off⟩) (iO t (off+List.length [(60:UInt8),33,91,67,68,65,84,65,91]) [93,93,62])
 else if off=0/\qX (t.drop off)=true then tH (fun s=>⟨6,[],[],s,off⟩) (iO t (off+List.length [(60:UInt8),63,120,109,108]) [63,62])
 else if dN (t.drop off) [60,47]then qz t off
 else if dN (t.drop off) [60]then u_ t off
 else tH (fun s=>⟨4,[],[],s,off⟩) (eH t 60 (t.length+1 - off) off [])
structure TJ (O:VH) (B k n:Nat) (t:Bs) (p:MV) (L:List MV) (o:Nat) (O':VH):Prop where
 ub:UB B k O O'
 rd:Rd O' k t o p
 row:GR O' 153 7 B p n L
 lt:O.next<O'.next
theorem TJ.set {O O':VH} {B k n o:Nat} {t:Bs} {p:MV} {L cs:List MV} {x:b_} (h:TJ O B k n t p L o O') (hb:O'.hp O.next=some (.cells cs)) (hp:gid p≠some O.next) (gm:k<B) (hB:B<=O.next):TJ O B k n t p L o (O'.set O.next x):=
 ⟨h.ub.set (.inl hB),h.rd.other (by omega),h.row.pr bq.set hp (fun _ _ _ e=>by rw[hb]at e;cases e),h.lt⟩
theorem TJ.br {O OX OY:VH} {B k n o o2:Nat} {t:Bs} {p:MV} {L:List MV} (h:TJ O B k n t p L o OX) (u:bq OX (some k) OY) (hr:Rd OY k t o2 p) (hp:gid p≠some k) (hB:B<=O.next):TJ O B k n t p L o2 OY:=
 ⟨h.ub.br u (by have:=h.lt;omega),hr,h.row.pr u hp (fun _ _ _ e=>by rw[h.rd.2]at e;cases e),Nat.lt_of_lt_of_le h.lt u.next⟩
theorem TJ.pn {O OX OY:VH} {B k n o:Nat} {t:Bs} {p:MV} {L:List MV} (h:TJ O B k n t p L o OX) (u:bq OX (some k) OY) (hB:B<=O.next):UB B k O OY:=h.ub.br u (by have:=h.lt;omega)
theorem TJ.at {O OX OY:VH} {B k n o:Nat} {t:Bs} {p:MV} {L cs:List MV} (h:TJ O B k n t p L o OX) (u:bq OX (some k) OY) (gm:k<B) (hB:B<=O.next) (hb:OX.hp O.next=some (.cells cs)):OY.hp O.next=some (.cells cs):=
 (u.hp _ h.lt (by intro e;injection e;omega)).trans hb
section
variable {P:Program} {n:Sz} {D:List Deferred} {c:Code} {e:Env} {O:VH} {Q:VQ} {md:Md} {d:Option Tmp} {K:Env->VH->Prop} {fv:Option MV} {ms:Option (List MV)} {b k:Nat} {x y:b_}
theorem ah.s1 (h:∀O3,O3=O.set b x->ah P n md Q d O3 K e fv ms):ah P n md Q d (O.set b x) K e fv ms:=h _ rfl
theorem ah.s2 (h:∀O3,O3=(O.set b x).set k y->ah P n md Q d O3 K e fv ms):ah P n md Q d ((O.set b x).set k y) K e fv ms:=h _ rfl
end
theorem va {t:Bs}:∀(n o:Nat) (l:List (Bs×Bs)) {l':List (Bs×Bs)} {o':Nat},o<=t.length->lu t n o l= .ok (l',o')->o<=o'/\o'<=t.length
 | 0,o,l,l',o',ho,h=>by
   rw[lu]at h;injection h with h;injection h with h1 h2
   omega
 | n+1,o,l,l',o',ho,h=>by
   have uR:=iP t o ho;rw[lu]at h;split at h
   ·injection h with h;injection h with h1 h2
    omega
   split at h
   ·cases h
   rename_i nm o2 h2;have hn:=f_ h2;have ct:=iP t o2 (by omega);split at h
   ·cases h
   split at h
   ·cases h
   rename_i y4 o4 h4;have hw:=k9 h4;have cQ:=iP t o4 (by omega);split at h
   ·cases h
   rename_i v o6 h6;have hv:=zX h6;have:=va n o6 _ (by omega) h;omega
set_option maxHeartbeats 800000 in
theorem ZB {O:VH} {k off B n:Nat} {t:Bs} {p:MV} {L:List MV} (h:Rd O k t off p) (ht:t.length<=1000000) (ho:off<=t.length) (gm:k<B) (hB:B<=O.next) (cL:GR O 153 7 B p n L) (hn:n<=1000000):
  VF Tryz.prog 264 [.ptr k 0] O fun r O'=>UB B k O O'/\match r,mu t off with
   | .ret m,.ok (x,o')=>m= .tuple []/\∃p',Rd O' k t o' p'/\GR O' 153 7 B p' (n+1) (L++xY x)
   | .panic m,.error e=>m=zS e.1 e.2
   | _,_=>False:=by
 have hk:=h.2;simp only[ar]at hk
 have jl:gid p≠some k:=fun e=>by
  rcases cL with⟨_,_,hp | hp⟩ | ⟨k2,c,hp,_,_,kz⟩
  ·rw[hp]at e;cases e
  ·rw[hp]at e;cases e
  ·rw[hp]at e;injection e with e;have:=kz.lo;omega
 refine VF.bO 116 [] Tryz.func264 ?_;refine VC.ag aa (ao @au @hk ?_);refine VC.al ?_;rintro O1 ⟨aM,cA,c5⟩;have nj:=h.ge aM;have ags:=cL.xP (bq.lI aM);have dT:=nj.2;simp only[ar]at dT;have tR:UB B k O O1:=(UB.refl B k O).ge aM hB
 have nG:gid p≠some O.next:=fun e=>by
  rcases cL with⟨_,_,hp | hp⟩ | ⟨k2,c,hp,_,_,kz⟩
  ·rw[hp]at e;cases e
  ·rw[hp]at e;cases e
  ·rw[hp]at e;injection e with e;have:=kz.hi;omega
 have hJ:∀{O3:VH} {o:Nat},bq O1 (some k) O3->Rd O3 k t o p->TJ O B k n t p L o O3:=fun{O3 o} u hr=>
  ⟨tR.br u (by omega),hr,ags.pr u jl (fun _ _ _ e=>by rw[nj.2]at e;cases e),by have:=u.next;omega⟩
 refine VC.bJ [0,2] (fun x:Tk×Nat=>[.ptr k 0,.ptr O.next 0]) (fun x O'=>TJ O B k n t p L x.2 O'/\mu t off= .ok x/\∃ZC,O'.hp O.next=some (.cells [mi x.1.kind,.str x.1.name,ZC,.str x.1.text,mi x.1.off,mi 0,mi 0])/\aq ZC= .sl x.1.attrs.length (x.1.attrs.flatMap aY) .aq/\dJ ZC=true) ?_ ?_
 ·refine VC.aB ?_;unfold mu;refine VC.ag aa (ae @au ?_);refine ah.rt (pR [60,33,45,45] nj ho) ?_;rintro _ O2 ⟨rfl,eO⟩;rw[eO];clear eO O2
  cases hp:dN (t.drop off) [60,33,45,45];rotate_left
  ·rw[if_pos rfl];have hle:=gB hp;have ZD:=Ev (X:=p) [60,33,45,45] [45,45,62] nj ht (by decide) (by rw[List.length_drop]at hle;omega);generalize iO t (off+List.length [60,33,45,45]) [45,45,62]=F at*;repeat refine gj @au ?_
   refine ah.p (ZD) ?_ ?_;rotate_left
   ·rintro m O9 ⟨iM,h9⟩;cases F with
    | ok y=>exact h9.elim
    | error e=>
      dsimp only at h9;subst h9;repeat refine gj @au ?_
      exact⟨UB.br tR (bq.trans (bq.refl _ _) iM) (by omega),rfl⟩
   rintro m O3 ⟨cN,h9⟩;cases F with
   | error e=>exact h9.elim
   | ok y9=>
   obtain⟨s,o2⟩:=y9;dsimp only at h9;obtain⟨rfl,gI⟩:=h9;have cu:=(cN.hp _ (by omega) (by intro e;injection e;omega)).trans cA;repeat refine pQ @au @cu ?_
   exact aA.mk (⟨5,[],[],s,off⟩,o2) ⟨((hJ cN gI).set cu nG gm hB).set (VH.an _ _ _) nG gm hB,rfl,.sl 0 [] .nil,VH.an _ _ _,by simp only[wu];rfl,rfl⟩
  rw[if_neg (by simp)];repeat refine gj @au ?_
  refine ah.rt (pR [60,33,91,67,68,65,84,65,91] nj ho) ?_;rintro _ O2 ⟨rfl,eO⟩;rw[eO];clear eO O2
  clear hp;cases hp:dN (t.drop off) [60,33,91,67,68,65,84,65,91];rotate_left
  ·rw[if_pos rfl];have hle:=gB hp;have ZD:=Ev (X:=p) [60,33,91,67,68,65,84,65,91] [93,93,62] nj ht (by decide) (by rw[List.length_drop]at hle;omega);generalize iO t (off+List.length [60,33,91,67,68,65,84,65,91]) [93,93,62]=F at*;repeat refine gj @au ?_
   refine ah.p (ZD) ?_ ?_;rotate_left
   ·rintro m O9 ⟨iM,h9⟩;cases F with
    | ok y=>exact h9.elim
    | error e=>
      dsimp only at h9;subst h9;repeat refine gj @au ?_
      exact⟨UB.br tR (bq.trans (bq.refl _ _) iM) (by omega),rfl⟩
   rintro m O3 ⟨cN,h9⟩;cases F with
   | error e=>exact h9.elim
   | ok y9=>
   obtain⟨s,o2⟩:=y9;dsimp only at h9;obtain⟨rfl,gI⟩:=h9;have cu:=(cN.hp _ (by omega) (by intro e;injection e;omega)).trans cA;repeat refine pQ @au @cu ?_
   exact aA.mk (⟨4,[],[],s,off⟩,o2) ⟨((hJ cN gI).set cu nG gm hB).set (VH.an _ _ _) nG gm hB,rfl,.sl 0 [] .nil,VH.an _ _ _,by simp only[wu];rfl,rfl⟩
  rw[if_neg (by simp)];clear hp;by_cases h0:off=0;rotate_left
  ·rw[if_neg (fun h=>h0 h.1)];have h0i:((off:Int)==0)=false:=by simpa using h0
   repeat refine kg3 @au @dT @h0i ?_
   refine ah.rt (pR [60,47] nj ho) ?_;rintro _ O2 ⟨rfl,eO⟩;rw[eO];clear eO O2
   cases hp:dN (t.drop off) [60,47];rotate_left
   ·rw[if_pos rfl];unfold qz;have hle:=gB hp;simp only[List.length_drop,List.length_cons,List.length_nil]at hle;repeat refine pQ @au @dT ?_
    have fi:Rd (O1.set k (.cells [.str t,mi (off+2:Nat),p])) k t (off+2) p:=nj.set;have dk:bq O1 (some k) (O1.set k (.cells [.str t,mi (off+2:Nat),p])):=bq.set;have kF:((off:Int)+2)=((off+2:Nat):Int):=by omega
    simp only[ar, <-kF]at fi dk;generalize O1.set k (.cells [.str t,.v (.int .i64 ((off:Int)+2)),p])=O2 at*;repeat refine gj @au ?_
    have Cs:=zT 11 fi ht;have tX:= @f_ t (off+2) 11;generalize jb t (off+2) 11=F at*;refine ah.p (Cs) ?_ ?_;rotate_left
    ·rintro m O9 ⟨iM,h9⟩;cases F with
     | ok y=>exact h9.elim
     | error e=>
       dsimp only at h9;subst h9;repeat refine gj @au ?_
       exact⟨UB.br tR (bq.trans dk iM) (by omega),rfl⟩
    rintro m O3 ⟨cN,h9⟩;cases F with
    | error e=>exact h9.elim
    | ok y9=>
    obtain⟨s,o2⟩:=y9;dsimp only at h9;obtain⟨rfl,gI⟩:=h9;have tI:=dk.trans cN;obtain⟨a1,a2,a3,a4⟩:=tX rfl;have cu:=(tI.hp _ (by omega) (by intro e;injection e;omega)).trans cA;repeat refine pQ @au @cu ?_
    refine ah.s2 ?_;rintro O4 oU;have vc:TJ O B k n t p L o2 O4:=by rw[oU];exact((hJ tI gI).set cu nG gm hB).set (VH.an _ _ _) nG gm hB
    have cQ:O4.hp O.next=some (.cells [mi 3,.str s,.sl 0 [] .nil,.str [],mi off,mi 0,mi 0]):=by rw[oU];exact VH.an _ _ _
    clear oU;have uR:=iP t o2 a2;refine ah.p (pS vc.rd ht a2) ?_ ?_;rotate_left
    ·rintro m O9 ⟨_,h⟩;exact h.elim
    rintro m O5 ⟨oQ,h9⟩;dsimp only at h9;obtain⟨rfl,qn⟩:=h9;have sQ:=vc.br oQ qn jl hB;have cV:=vc.at oQ gm hB cQ;repeat refine gj @au ?_
    have AR:=sP (X:=p) [62] qn ht (by decide);generalize iE t (o2+j5 t o2) [62]=W at*;refine ah.p (AR) ?_ ?_;rotate_left
    ·rintro m O9 ⟨iM,h9⟩;cases W with
     | ok y=>exact h9.elim
     | error e=>
       dsimp only at h9;subst h9;repeat refine gj @au ?_
       exact⟨TJ.pn sQ iM hB,rfl⟩
    rintro m O6 ⟨qT,h9⟩;cases W with
    | error e=>exact h9.elim
    | ok y9=>
    obtain⟨y6,o4⟩:=y9;dsimp only at h9;obtain⟨rfl,m6⟩:=h9;have iK:=sQ.at qT gm hB cV;repeat refine gj @au ?_
    exact aA.mk (⟨3,s,[],[],off⟩,o4) ⟨sQ.br qT m6 jl hB,rfl,.sl 0 [] .nil,iK,by simp only[wu];rfl,rfl⟩
   rw[if_neg (by simp)];clear hp;repeat refine gj @au ?_
   refine ah.rt (pR [60] nj ho) ?_;rintro _ O2 ⟨rfl,eO⟩;rw[eO];clear eO O2
   cases hp:dN (t.drop off) [60];rotate_left
   ·rw[if_pos rfl];unfold u_;have hle:=gB hp;simp only[List.length_drop,List.length_cons,List.length_nil]at hle;repeat refine pQ @au @dT ?_
    have fi:Rd (O1.set k (.cells [.str t,mi (off+1:Nat),p])) k t (off+1) p:=nj.set;have dk:bq O1 (some k) (O1.set k (.cells [.str t,mi (off+1:Nat),p])):=bq.set;have kF:((off:Int)+1)=((off+1:Nat):Int):=by omega
    simp only[ar, <-kF]at fi dk;generalize O1.set k (.cells [.str t,.v (.int .i64 ((off:Int)+1)),p])=O2 at*;repeat refine gj @au ?_
    have Cs:=zT 11 fi ht;have tX:= @f_ t (off+1) 11;generalize jb t (off+1) 11=F at*;refine ah.p (Cs) ?_ ?_;rotate_left
    ·rintro m O9 ⟨iM,h9⟩;cases F with
     | ok y=>exact h9.elim
     | error e=>
       dsimp only at h9;subst h9;repeat refine gj @au ?_
       exact⟨UB.br tR (bq.trans dk iM) (by omega),rfl⟩
    rintro m O3 ⟨cN,h9⟩;cases F with
    | error e=>exact h9.elim
    | ok y9=>
    obtain⟨s,o2⟩:=y9;dsimp only at h9;obtain⟨rfl,gI⟩:=h9;have tI:=dk.trans cN;obtain⟨a1,a2,a3,a4⟩:=tX rfl;have cu:=(tI.hp _ (by omega) (by intro e;injection e;omega)).trans cA;repeat refine pQ @au @cu ?_
    refine ah.s1 ?_;rintro O4 oU;have vc:TJ O B k n t p L o2 O4:=by rw[oU];exact(hJ tI gI).set cu nG gm hB
    have cQ:O4.hp O.next=some (.cells [mi 0,.str s,.sl 0 [] .nil,.str [],mi off,mi 0,mi 0]):=by rw[oU];exact VH.an _ _ _
    clear oU;have Vj:=LU vc.rd ht a2;have Vk:= @va t (t.length+1 - o2) o2 [];generalize lu t (t.length+1 - o2) o2 []=A at*;refine ah.p (Vj) ?_ ?_;rotate_left
    ·rintro m O9 ⟨iM,h9⟩;cases A with
     | ok y=>exact h9.elim
     | error e=>
       dsimp only at h9;subst h9;repeat refine gj @au ?_
       exact⟨vc.pn iM hB,rfl⟩
    rintro m O5 ⟨oQ,h9⟩;cases A with
    | error e=>exact h9.elim
    | ok y9=>
    obtain⟨l,o3⟩:=y9;dsimp only at h9;obtain⟨⟨tk,rfl⟩,qn⟩:=h9;obtain⟨c1,c2⟩:=Vk a2 rfl;have sQ:=vc.br oQ qn jl hB;have cV:=vc.at oQ gm hB cQ;simp only[ar]at cV;repeat refine pQ @au @cV ?_
    refine ah.s2 ?_;rintro O6 AS;have xZ:TJ O B k n t p L o3 O6:=by rw[AS];exact(sQ.set cV nG gm hB).set (VH.an _ _ _) nG gm hB
    have iK:O6.hp O.next=some (.cells [mi 1,.str s,.sl l.length (l.flatMap aY) tk,.str [],mi off,mi 0,mi 0]):=by rw[AS];exact VH.an _ _ _
    clear AS;have oR:=xZ.rd.2;simp only[ar]at iK oR;refine ah.rt (pR [47] xZ.rd c2) ?_;rintro _ O7 ⟨rfl,eO⟩;rw[eO];clear eO O7
    cases Vi:dN (t.drop o3) [47]
    ·rw[if_neg (by simp)];repeat refine gj @au ?_
     have AR:=sP (X:=p) [62] xZ.rd ht (by decide);generalize iE t o3 [62]=W at*;refine ah.p (AR) ?_ ?_;rotate_left
     ·rintro m O9 ⟨iM,h9⟩;cases W with
      | ok y=>exact h9.elim
      | error e=>
        dsimp only at h9;subst h9;repeat refine gj @au ?_
        exact⟨TJ.pn xZ iM hB,rfl⟩
     rintro m O7 ⟨Co,h9⟩;cases W with
     | error e=>exact h9.elim
     | ok y9=>
     obtain⟨y7,o4⟩:=y9;dsimp only at h9;obtain⟨rfl,IQ⟩:=h9;have xV:=xZ.at Co gm hB iK;repeat refine gj @au ?_
     exact aA.mk (⟨1,s,l,[],off⟩,o4) ⟨xZ.br Co IQ jl hB,rfl,.sl l.length (l.flatMap aY) tk,xV,by simp only[wu,fS],rfl⟩
    ·rw[if_pos rfl];have RU:=gB Vi;simp only[List.length_drop,List.length_cons,List.length_nil]at RU;have ZE:=fun x:b_=>(VH.ak O6 (k:=O.next) (j:=k) x (by omega)).trans oR
     repeat refine kg4 @au @iK @oR @ZE ?_
     refine ah.s2 ?_;rintro O7 pY;have eE:((o3:Int)+1)=((o3+1:Nat):Int):=by omega
     rw[eE]at pY;have Ez:=xZ.set (x:=.cells [.v (.int .i64 2),.str s,.sl l.length (l.flatMap aY) tk,.str [],.v (.int .i64 off),.v (.int .i64 0),.v (.int .i64 0)]) iK nG gm hB;have IS:TJ O B k n t p L (o3+1) O7:=by rw[pY];exact Ez.br bq.set (Rd.set Ez.rd) jl hB
     have xV:O7.hp O.next=some (.cells [mi 2,.str s,.sl l.length (l.flatMap aY) tk,.str [],mi off,mi 0,mi 0]):=by rw[pY];exact VH.sn (VH.an _ _ _)
     clear pY Ez;have AR:=sP (X:=p) [62] IS.rd ht (by decide);generalize iE t (o3+1) [62]=W at*;refine ah.p (AR) ?_ ?_;rotate_left
     ·rintro m O9 ⟨iM,h9⟩;cases W with
      | ok y=>exact h9.elim
      | error e=>
        dsimp only at h9;subst h9;repeat refine gj @au ?_
        exact⟨TJ.pn IS iM hB,rfl⟩
     rintro m O8 ⟨ql,h9⟩;cases W with
     | error e=>exact h9.elim
     | ok y9=>
     obtain⟨y8,o4⟩:=y9;dsimp only at h9;obtain⟨rfl,Zy⟩:=h9;have sF:=IS.at ql gm hB xV;repeat refine gj @au ?_
     exact aA.mk (⟨2,s,l,[],off⟩,o4) ⟨IS.br ql Zy jl hB,rfl,.sl l.length (l.flatMap aY) tk,sF,by simp only[wu,fS],rfl⟩
   rw[if_neg (by simp)];clear hp;repeat refine gj @au ?_
   have iR:=xX (X:=p) 60 nj ht ho;generalize eH t 60 (t.length+1 - off) off []=F at*;refine ah.p (iR) ?_ ?_;rotate_left
   ·rintro m O9 ⟨iM,h9⟩;cases F with
    | ok y=>exact h9.elim
    | error e=>
      dsimp only at h9;subst h9;repeat refine gj @au ?_
      exact⟨UB.br tR (bq.trans (bq.refl _ _) iM) (by omega),rfl⟩
   rintro m O3 ⟨cN,h9⟩;cases F with
   | error e=>exact h9.elim
   | ok y9=>
   obtain⟨s,o2⟩:=y9;dsimp only at h9;obtain⟨rfl,gI⟩:=h9;have cu:=(cN.hp _ (by omega) (by intro e;injection e;omega)).trans cA;repeat refine pQ @au @cu ?_
   exact aA.mk (⟨4,[],[],s,off⟩,o2) ⟨((hJ cN gI).set cu nG gm hB).set (VH.an _ _ _) nG gm hB,rfl,.sl 0 [] .nil,VH.an _ _ _,by simp only[wu];rfl,rfl⟩
  have h0i:((off:Int)==0)=true:=by simpa using h0
  repeat refine kg3 @au @dT @h0i ?_
  refine ah.rt (U_ nj ht ho) ?_;rintro _ O2 ⟨rfl,eO⟩;rw[eO];clear eO O2
  cases hhd:qX (t.drop off)
  ·rw[if_neg (fun h=>by cases h.2)];repeat refine gj @au ?_
   refine ah.rt (pR [60,47] nj ho) ?_;rintro _ O2 ⟨rfl,eO⟩;rw[eO];clear eO O2
   cases hp:dN (t.drop off) [60,47];rotate_left
   ·rw[if_pos rfl];unfold qz;have hle:=gB hp;simp only[List.length_drop,List.length_cons,List.length_nil]at hle;repeat refine pQ @au @dT ?_
    have fi:Rd (O1.set k (.cells [.str t,mi (off+2:Nat),p])) k t (off+2) p:=nj.set;have dk:bq O1 (some k) (O1.set k (.cells [.str t,mi (off+2:Nat),p])):=bq.set;have kF:((off:Int)+2)=((off+2:Nat):Int):=by omega
    simp only[ar, <-kF]at fi dk;generalize O1.set k (.cells [.str t,.v (.int .i64 ((off:Int)+2)),p])=O2 at*;repeat refine gj @au ?_
    have Cs:=zT 11 fi ht;have tX:= @f_ t (off+2) 11;generalize jb t (off+2) 11=F at*;refine ah.p (Cs) ?_ ?_;rotate_left
    ·rintro m O9 ⟨iM,h9⟩;cases F with
     | ok y=>exact h9.elim
     | error e=>
       dsimp only at h9;subst h9;repeat refine gj @au ?_
       exact⟨UB.br tR (bq.trans dk iM) (by omega),rfl⟩
    rintro m O3 ⟨cN,h9⟩;cases F with
    | error e=>exact h9.elim
    | ok y9=>
    obtain⟨s,o2⟩:=y9;dsimp only at h9;obtain⟨rfl,gI⟩:=h9;have tI:=dk.trans cN;obtain⟨a1,a2,a3,a4⟩:=tX rfl;have cu:=(tI.hp _ (by omega) (by intro e;injection e;omega)).trans cA;repeat refine pQ @au @cu ?_
    refine ah.s2 ?_;rintro O4 oU;have vc:TJ O B k n t p L o2 O4:=by rw[oU];exact((hJ tI gI).set cu nG gm hB).set (VH.an _ _ _) nG gm hB
    have cQ:O4.hp O.next=some (.cells [mi 3,.str s,.sl 0 [] .nil,.str [],mi off,mi 0,mi 0]):=by rw[oU];exact VH.an _ _ _
    clear oU;have uR:=iP t o2 a2;refine ah.p (pS vc.rd ht a2) ?_ ?_;rotate_left
    ·rintro m O9 ⟨_,h⟩;exact h.elim
    rintro m O5 ⟨oQ,h9⟩;dsimp only at h9;obtain⟨rfl,qn⟩:=h9;have sQ:=vc.br oQ qn jl hB;have cV:=vc.at oQ gm hB cQ;repeat refine gj @au ?_
    have AR:=sP (X:=p) [62] qn ht (by decide);generalize iE t (o2+j5 t o2) [62]=W at*;refine ah.p (AR) ?_ ?_;rotate_left
    ·rintro m O9 ⟨iM,h9⟩;cases W with
     | ok y=>exact h9.elim
     | error e=>
       dsimp only at h9;subst h9;repeat refine gj @au ?_
       exact⟨TJ.pn sQ iM hB,rfl⟩
    rintro m O6 ⟨qT,h9⟩;cases W with
    | error e=>exact h9.elim
    | ok y9=>
    obtain⟨y6,o4⟩:=y9;dsimp only at h9;obtain⟨rfl,m6⟩:=h9;have iK:=sQ.at qT gm hB cV;repeat refine gj @au ?_
    exact aA.mk (⟨3,s,[],[],off⟩,o4) ⟨sQ.br qT m6 jl hB,rfl,.sl 0 [] .nil,iK,by simp only[wu];rfl,rfl⟩
   rw[if_neg (by simp)];clear hp;repeat refine gj @au ?_
   refine ah.rt (pR [60] nj ho) ?_;rintro _ O2 ⟨rfl,eO⟩;rw[eO];clear eO O2
   cases hp:dN (t.drop off) [60];rotate_left
   ·rw[if_pos rfl];unfold u_;have hle:=gB hp;simp only[List.length_drop,List.length_cons,List.length_nil]at hle;repeat refine pQ @au @dT ?_
    have fi:Rd (O1.set k (.cells [.str t,mi (off+1:Nat),p])) k t (off+1) p:=nj.set;have dk:bq O1 (some k) (O1.set k (.cells [.str t,mi (off+1:Nat),p])):=bq.set;have kF:((off:Int)+1)=((off+1:Nat):Int):=by omega
    simp only[ar, <-kF]at fi dk;generalize O1.set k (.cells [.str t,.v (.int .i64 ((off:Int)+1)),p])=O2 at*;repeat refine gj @au ?_
    have Cs:=zT 11 fi ht;have tX:= @f_ t (off+1) 11;generalize jb t (off+1) 11=F at*;refine ah.p (Cs) ?_ ?_;rotate_left
    ·rintro m O9 ⟨iM,h9⟩;cases F with
     | ok y=>exact h9.elim
     | error e=>
       dsimp only at h9;subst h9;repeat refine gj @au ?_
       exact⟨UB.br tR (bq.trans dk iM) (by omega),rfl⟩
    rintro m O3 ⟨cN,h9⟩;cases F with
    | error e=>exact h9.elim
    | ok y9=>
    obtain⟨s,o2⟩:=y9;dsimp only at h9;obtain⟨rfl,gI⟩:=h9;have tI:=dk.trans cN;obtain⟨a1,a2,a3,a4⟩:=tX rfl;have cu:=(tI.hp _ (by omega) (by intro e;injection e;omega)).trans cA;repeat refine pQ @au @cu ?_
    refine ah.s1 ?_;rintro O4 oU;have vc:TJ O B k n t p L o2 O4:=by rw[oU];exact(hJ tI gI).set cu nG gm hB
    have cQ:O4.hp O.next=some (.cells [mi 0,.str s,.sl 0 [] .nil,.str [],mi off,mi 0,mi 0]):=by rw[oU];exact VH.an _ _ _
    clear oU;have Vj:=LU vc.rd ht a2;have Vk:= @va t (t.length+1 - o2) o2 [];generalize lu t (t.length+1 - o2) o2 []=A at*;refine ah.p (Vj) ?_ ?_;rotate_left
    ·rintro m O9 ⟨iM,h9⟩;cases A with
     | ok y=>exact h9.elim
     | error e=>
       dsimp only at h9;subst h9;repeat refine gj @au ?_
       exact⟨vc.pn iM hB,rfl⟩
    rintro m O5 ⟨oQ,h9⟩;cases A with
    | error e=>exact h9.elim
    | ok y9=>
    obtain⟨l,o3⟩:=y9;dsimp only at h9;obtain⟨⟨tk,rfl⟩,qn⟩:=h9;obtain⟨c1,c2⟩:=Vk a2 rfl;have sQ:=vc.br oQ qn jl hB;have cV:=vc.at oQ gm hB cQ;simp only[ar]at cV;repeat refine pQ @au @cV ?_
    refine ah.s2 ?_;rintro O6 AS;have xZ:TJ O B k n t p L o3 O6:=by rw[AS];exact(sQ.set cV nG gm hB).set (VH.an _ _ _) nG gm hB
    have iK:O6.hp O.next=some (.cells [mi 1,.str s,.sl l.length (l.flatMap aY) tk,.str [],mi off,mi 0,mi 0]):=by rw[AS];exact VH.an _ _ _
    clear AS;have oR:=xZ.rd.2;simp only[ar]at iK oR;refine ah.rt (pR [47] xZ.rd c2) ?_;rintro _ O7 ⟨rfl,eO⟩;rw[eO];clear eO O7
    cases Vi:dN (t.drop o3) [47]
    ·rw[if_neg (by simp)];repeat refine gj @au ?_
     have AR:=sP (X:=p) [62] xZ.rd ht (by decide);generalize iE t o3 [62]=W at*;refine ah.p (AR) ?_ ?_;rotate_left
     ·rintro m O9 ⟨iM,h9⟩;cases W with
      | ok y=>exact h9.elim
      | error e=>
        dsimp only at h9;subst h9;repeat refine gj @au ?_
        exact⟨TJ.pn xZ iM hB,rfl⟩
     rintro m O7 ⟨Co,h9⟩;cases W with
     | error e=>exact h9.elim
     | ok y9=>
     obtain⟨y7,o4⟩:=y9;dsimp only at h9;obtain⟨rfl,IQ⟩:=h9;have xV:=xZ.at Co gm hB iK;repeat refine gj @au ?_
     exact aA.mk (⟨1,s,l,[],off⟩,o4) ⟨xZ.br Co IQ jl hB,rfl,.sl l.length (l.flatMap aY) tk,xV,by simp only[wu,fS],rfl⟩
    ·rw[if_pos rfl];have RU:=gB Vi;simp only[List.length_drop,List.length_cons,List.length_nil]at RU;have ZE:=fun x:b_=>(VH.ak O6 (k:=O.next) (j:=k) x (by omega)).trans oR
     repeat refine kg4 @au @iK @oR @ZE ?_
     refine ah.s2 ?_;rintro O7 pY;have eE:((o3:Int)+1)=((o3+1:Nat):Int):=by omega
     rw[eE]at pY;have Ez:=xZ.set (x:=.cells [.v (.int .i64 2),.str s,.sl l.length (l.flatMap aY) tk,.str [],.v (.int .i64 off),.v (.int .i64 0),.v (.int .i64 0)]) iK nG gm hB;have IS:TJ O B k n t p L (o3+1) O7:=by rw[pY];exact Ez.br bq.set (Rd.set Ez.rd) jl hB
     have xV:O7.hp O.next=some (.cells [mi 2,.str s,.sl l.length (l.flatMap aY) tk,.str [],mi off,mi 0,mi 0]):=by rw[pY];exact VH.sn (VH.an _ _ _)
     clear pY Ez;have AR:=sP (X:=p) [62] IS.rd ht (by decide);generalize iE t (o3+1) [62]=W at*;refine ah.p (AR) ?_ ?_;rotate_left
     ·rintro m O9 ⟨iM,h9⟩;cases W with
      | ok y=>exact h9.elim
      | error e=>
        dsimp only at h9;subst h9;repeat refine gj @au ?_
        exact⟨TJ.pn IS iM hB,rfl⟩
     rintro m O8 ⟨ql,h9⟩;cases W with
     | error e=>exact h9.elim
     | ok y9=>
     obtain⟨y8,o4⟩:=y9;dsimp only at h9;obtain⟨rfl,Zy⟩:=h9;have sF:=IS.at ql gm hB xV;repeat refine gj @au ?_
     exact aA.mk (⟨2,s,l,[],off⟩,o4) ⟨IS.br ql Zy jl hB,rfl,.sl l.length (l.flatMap aY) tk,sF,by simp only[wu,fS],rfl⟩
   rw[if_neg (by simp)];clear hp;repeat refine gj @au ?_
   have iR:=xX (X:=p) 60 nj ht ho;generalize eH t 60 (t.length+1 - off) off []=F at*;refine ah.p (iR) ?_ ?_;rotate_left
   ·rintro m O9 ⟨iM,h9⟩;cases F with
    | ok y=>exact h9.elim
    | error e=>
      dsimp only at h9;subst h9;repeat refine gj @au ?_
      exact⟨UB.br tR (bq.trans (bq.refl _ _) iM) (by omega),rfl⟩
   rintro m O3 ⟨cN,h9⟩;cases F with
   | error e=>exact h9.elim
   | ok y9=>
   obtain⟨s,o2⟩:=y9;dsimp only at h9;obtain⟨rfl,gI⟩:=h9;have cu:=(cN.hp _ (by omega) (by intro e;injection e;omega)).trans cA;repeat refine pQ @au @cu ?_
   exact aA.mk (⟨4,[],[],s,off⟩,o2) ⟨((hJ cN gI).set cu nG gm hB).set (VH.an _ _ _) nG gm hB,rfl,.sl 0 [] .nil,VH.an _ _ _,by simp only[wu];rfl,rfl⟩
  ·rw[if_pos ⟨h0,rfl⟩]
   have hp:dN (t.drop off) [60,63,120,109,108]=true:=by
    unfold qX at hhd;simp only[Bool.and_eq_true]at hhd;exact hhd.1.1
   repeat refine gj @au ?_
   have hle:=gB hp;have ZD:=Ev (X:=p) [60,63,120,109,108] [63,62] nj ht (by decide) (by rw[List.length_drop]at hle;omega);generalize iO t (off+List.length [60,63,120,109,108]) [63,62]=F at*;repeat refine gj @au ?_
   refine ah.p (ZD) ?_ ?_;rotate_left
   ·rintro m O9 ⟨iM,h9⟩;cases F with
    | ok y=>exact h9.elim
    | error e=>
      dsimp only at h9;subst h9;repeat refine gj @au ?_
      exact⟨UB.br tR (bq.trans (bq.refl _ _) iM) (by omega),rfl⟩
   rintro m O3 ⟨cN,h9⟩;cases F with
   | error e=>exact h9.elim
   | ok y9=>
   obtain⟨s,o2⟩:=y9;dsimp only at h9;obtain⟨rfl,gI⟩:=h9;have cu:=(cN.hp _ (by omega) (by intro e;injection e;omega)).trans cA;repeat refine pQ @au @cu ?_
   exact aA.mk (⟨6,[],[],s,off⟩,o2) ⟨((hJ cN gI).set cu nG gm hB).set (VH.an _ _ _) nG gm hB,rfl,.sl 0 [] .nil,VH.an _ _ _,by simp only[wu];rfl,rfl⟩
 rintro⟨x,o'⟩ O2 ⟨aX,eb,ZC,ct,bA,gV⟩;dsimp only at aX eb ct bA gV;rw[eb];have bR:=aX.rd.2;simp only[ar]at ct bR;refine VC.H6 [0,7,8,9,10] (by kernel_rfl) ?_;refine bE.mv 0 ?_;refine bE.bH [(1,.rd),(2,.rd),(3,.rd),(4,.rd),(5,.rd),(6,.one),(7,.one),(8,.one),(9,.one),(10,.one)] ?_;simp only[aj];repeat refine kg3 @au @ct @bR ?_
 refine VL.wk (EW.top (Wk.sl (py _))) ?_
 have qS:cO [.v (.int .i64 x.kind),.str x.name,ZC,.str x.text,.v (.int .i64 x.off),.v (.int .i64 0),.v (.int .i64 0)]=xY x:=by
  simp only[wu,bA,xY,ar]
 rw[qS];have eg:=aX.lt;refine VL.ago aa (by simp) (fun i hi=>by match i,hi with | 7,_=>rfl | 0,hi | 1,hi | 2,hi | 3,hi | 4,hi | 5,hi | 6,hi | 8,hi | 9,hi | 10,hi=>cases hi | _+11,hi=>cases hi) (te:=⟨_,7,88,_⟩) (dx:=.slice 153) (q:=.sl 1 (xY x) .full) (j:=1) (ds:=xY x) aX.row rfl rfl (by rw[DY];rfl) aek.1.1 (by rw[DY];rfl) trivial (by dsimp only;omega) (by simp only[maxLen];omega) (by omega) rfl rfl rfl rfl ?_;intro m O3 wT pZ gZ hm;have dG:O3.hp k=some (.cells [.str t,.v (.int .i64 o'),p]):=(pZ.hp k aX.rd.1 (by intro e;exact jl e)).trans bR
 obtain⟨k2,c2,rfl⟩:∃k2 c2,m= .bp k2 0 (n+1) c2:=by
  rcases hm with⟨k2,c2,h1,_⟩ | ⟨h1,_⟩
  ·exact⟨k2,c2,h1⟩
  ·cases h1
 have aj6:B<=k2:=by
  rcases wT with⟨h1,_⟩ | ⟨k3,c3,h1,_,_,h4⟩
  ·cases h1
  ·injection h1 with h1;rw[h1];exact h4.lo
 have hpB:∀i,i<B->gid p≠some i:=fun i hi e=>by
  rcases cL with⟨_,_,hp | hp⟩ | ⟨k3,c,hp,_,_,kz⟩
  ·rw[hp]at e;cases e
  ·rw[hp]at e;cases e
  ·rw[hp]at e;injection e with e;have:=kz.lo;omega
 clear hm gZ;try refine pQ @au @dG ?_
 refine⟨⟨Nat.le_trans aX.ub.next pZ.next,fun i hi hk=>(VH.ak _ _ hk).trans ((pZ.hp i (by omega) (hpB i hi)).trans (aX.ub.hp i hi hk))⟩,.bp k2 0 (n+1) c2,⟨Nat.lt_of_lt_of_le aX.rd.1 pZ.next,VH.an _ _ _⟩,wT.pr bq.set (by intro e;injection e;omega) (fun _ _ _ e=>by rw[dG]at e;cases e)⟩
theorem EA {O:VH} {a b c d:Nat} {K:VH->Prop} (h:K O):fW Tryz.prog 262 [.ptr a 0,.ptr b 0,.ptr c 0,.ptr d 0] none O K:=by
 refine fW.rec (d:=7) Tryz.func262 (Nat.lt_of_lt_of_eq (by decide:7<19) rfl) ?_;show WC _ _ ⟨19,0⟩ _ _ _ _ _;simp only[cw,Nat.zero_add,Nat.reduceAdd,zp];refine ao @dP @wi ?_;refine VL.pure (by simp) (fun _=>.inl rfl) rfl rfl (ig.DR (bb:=true) Tryz.underlying20 rfl (.inl ⟨rfl,rfl⟩)) ?_;refine WL.sound aa ?_;refine ao @dP @wi ?_;exact h
theorem ZF {O:VH} {a b c d off:Nat} {e:Int} {t:Bs} {K:VH->Prop} {x y:MV} {z1 z2 z3:MV} (ht:t.length<=1000000) (ho:off<=t.length) (ha:O.hp a=some (.cells [.str t])) (hb:O.hp b=some (.cells [x])) (hc:O.hp c=some (.cells [y])) (hd:O.hp d=some (.cells [z1,z2,z3]))
  (han:a<O.next) (U0:b<O.next) (Ee:c<O.next) (Fy:d<O.next) (hbc:b≠c) (cK:b≠d) (ZG:c≠d)
  (h:∀O',O.next<=O'.next->(∀i,i<O.next->i≠b->i≠c->i≠d->O'.hp i=O.hp i)->O'.hp b=some (.cells [.sl 0 [] .nil])->O'.hp c=some (.cells [mi e])->O'.hp d=some (.cells [mi off,mi (1+((t.take off).count 10:Nat)),mi ((off:Int) - fE (t.take off) 10 (t.take off).length)])->K O'):fW Tryz.prog 262 [.ptr a 0,.ptr b 0,.ptr c 0,.ptr d 0] (some (zS e off)) O K:=by
 refine fW.rec (d:=7) Tryz.func262 (Nat.lt_of_lt_of_eq (by decide:7<19) rfl) ?_;show WC _ _ ⟨19,0⟩ _ _ _ _ _;simp only[cw,Nat.zero_add,Nat.reduceAdd,zp,zS];refine ao @dP @wi ?_;refine VL.pure (by simp) (fun _=>.inl rfl) rfl rfl (ig.RH (bb:=false) Tryz.underlying20 rfl (.inl ⟨rfl,rfl⟩)) ?_;refine WL.sound aa ?_;refine ao @dP @wi ?_;refine VL.pure (by simp) (fun _=>.inl rfl) rfl rfl (ig.asT Tryz.underlying385 (fun _ h=>by cases h) rfl) ?_;refine WL.sound aa ?_;refine ao @dP @wi ?_;refine VC.al ?_;rintro O2 ⟨ax,iL,iB⟩;have jc:=(ax.hp _ han).trans ha;have ct:=(ax.hp _ U0).trans hb;have jj:=(ax.hp _ Ee).trans hc;have jV:=(ax.hp _ Fy).trans hd;have wS:∀(X:b_) {i:Nat} {y:Option b_},i<O.next->O2.hp i=y->(O2.set O.next X).hp i=y:=fun X {i y} hi h=>VH.sn h
 refine VC.px [] (O.next) (iL) ?_;intro X;have kG:=wS (.obj X) han jc;have cQ:=wS (.obj X) U0 ct;have eX:=wS (.obj X) Ee jj;have x_:=wS (.obj X) Fy jV;have p5:(O2.set O.next (.obj X)).hp O.next=some (.obj X):=VH.an _ _ _;have gM:(O2.set O.next (.obj X)).next=O.next+1:=iB;have bg:O.Ge (O2.set O.next (.obj X)):=ax.set (Nat.le_refl _) _;generalize hO4:O2.set O.next (.obj X)=O4 at*;refine ab.av 0 ?_;refine ae @dP ?_;refine ab.sE (m:=.v (.int .i64 e)) 1 ?_ ?_
 ·exact eW @dP
 simp only[aj];refine ab.av 3 ?_;refine ae @dP ?_;refine ab.sE (m:=.v (.int .i64 off)) 4 ?_ ?_
 ·exact eW @dP
 simp only[aj];refine ab.op (i:=2) ?_;refine ao @dP @kG ?_;refine⟨p5,?_⟩;refine ab.call (i:=5) (aeE t off _ ht ho) ?_;rintro _ O3 ⟨rfl,aJ⟩;simp only[aj];refine⟨aJ.at p5,?_⟩;have gL:=aJ.next;have Vl:=aJ.at p5;have cu:=aJ.at cQ;have eE:=aJ.at eX;have zY:=aJ.at x_;have bW:O.Ge O3:=bg.trans aJ;unfold oS;simp only[ar]at h ⊢;refine ab.op (i:=6) ?_;refine ao @dP @cu ?_;refine⟨Vl,?_⟩;refine ab.op (i:=7) ?_;refine ao @dP @eE ?_;refine⟨Vl,?_⟩;refine ab.op (i:=8) ?_;refine ao @dP @zY ?_;refine⟨Vl,?_⟩;refine ab.mT [] ?_;refine ae @dP ?_;refine h _ (by rw[VH.eM,VH.eM,VH.eM,VH.eM];exact bW.next) (fun i hi h1 h2 h3=>?_) ?_ ?_ ?_
 ·rw[VH.ak _ _ (by omega),VH.ak _ _ h3,VH.ak _ _ h2,VH.ak _ _ h1];exact bW.hp i hi
 ·rw[VH.ak _ _ (by omega),VH.ak _ _ cK,VH.ak _ _ hbc,VH.an]
 ·rw[VH.ak _ _ (by omega),VH.ak _ _ ZG,VH.an]
 ·rw[VH.ak _ _ (by omega),VH.an]
theorem kg8 {A1 A2 A3 A4 A5 A6 A7 A8 P Q:Prop} (a1:A1) (a2:A2) (a3:A3) (a4:A4) (a5:A5) (a6:A6) (a7:A7) (a8:A8) (q:Q) (h:A1->A2->A3->A4->A5->A6->A7->A8->Q->P:=by intro a1 a2 a3 a4 a5 a6 a7 a8 q;first | (with_reducible refine VC.ag aa ?_;refine UK a1 a2 a3 a4 a5 a6 a7 a8 q) | (with_reducible refine WC.sound aa ?_;refine UK a1 a2 a3 a4 a5 a6 a7 a8 q) | (first | with_reducible refine PK ?_ | with_reducible refine PL ?_ | with_reducible refine PM ?_ | with_reducible refine PN ?_);refine UK a1 a2 a3 a4 a5 a6 a7 a8 q):P:=h a1 a2 a3 a4 a5 a6 a7 a8 q
def iF (t:Bs):Nat->Nat->List Tk->Except (Int×Nat) (List Tk)
 | 0,_,l=>.ok l
 | n+1,o,l=>if t.length<=o then .ok l else match mu t o with
   | .error e=>.error e
   | .ok (x,o')=>iF t n o' (l++[x])
def tJ (t:Bs):Except (Int×Nat) (List Tk):=iF t (t.length+1) 0 []
def lZ (t:Bs) (o:Nat):Nat:=1+(t.take o).count 10
def EB (t:Bs) (o:Nat):Int:=(o:Int) - fE (t.take o) 10 (t.take o).length
def tY (t:Bs) (x:Tk):List MV:=[mi x.kind,.str x.name,.sl x.attrs.length (x.attrs.flatMap aY) .aq,.str x.text,mi x.off,mi (lZ t x.off),mi (EB t x.off)]
theorem wv {t:Bs} {stop:UInt8}:∀(n o:Nat) (acc:Bs) {e:Int} {p:Nat},eH t stop n o acc= .error (e,p)->p<=t.length
 | 0,o,acc,e,p,h=>by unfold eH at h;cases h
 | n+1,o,acc,e,p,h=>by
   unfold eH at h;cases hg:t[o]? with
   | none=>rw[hg]at h;cases h
   | some c=>
     have PZ:o<t.length:=(List.getElem?_eq_some_iff.1 hg).1;rw[hg]at h;simp only at h;split at h
     ·cases h
     split at h
     ·split at h
      ·injection h with h;injection h with h1 h2;omega
      ·exact wv n _ _ h
     split at h
     ·injection h with h;injection h with h1 h2;omega
     ·exact wv n _ _ h
theorem yb {t:Bs} {o:Nat} {k e:Int} {p:Nat} (h:jb t o k= .error (e,p)):p=o:=by
 unfold jb at h;split at h
 ·injection h with h;injection h with h1 h2;omega
 split at h
 ·injection h with h;injection h with h1 h2;omega
 ·cases h
theorem sR {t:Bs} {o:Nat} {q:Bs} {e:Int} {p:Nat} (h:iE t o q= .error (e,p)):p=o:=by
 unfold iE at h;split at h
 ·injection h with h;injection h with h1 h2;omega
 split at h
 ·cases h
 ·injection h with h;injection h with h1 h2;omega
theorem Vm {t:Bs} {o:Nat} {e:Int} {p:Nat} (ho:o<=t.length) (h:tG t o= .error (e,p)):p<=t.length:=by
 unfold tG at h;split at h
 ·injection h with h;injection h with h1 h2;omega
 rename_i q hq;have PZ:=(List.getElem?_eq_some_iff.1 hq).1;split at h
 ·injection h with h;injection h with h1 h2;omega
 split at h
 ·rename_i e2 h2;injection h with h;subst h
  exact wv _ _ _ h2
 rename_i s2 o2 h2;have:=nZ _ _ _ (by omega) (by simp) h2;split at h
 ·injection h with h;injection h with h1 h2;omega
 ·cases h
theorem Hp {t:Bs}:∀(n o:Nat) (l:List (Bs×Bs)) {e:Int} {p:Nat},o<=t.length->lu t n o l= .error (e,p)->p<=t.length
 | 0,o,l,e,p,ho,h=>by rw[lu]at h;cases h
 | n+1,o,l,e,p,ho,h=>by
   have uR:=iP t o ho;rw[lu]at h;split at h
   ·cases h
   split at h
   ·rename_i e2 h2;injection h with h;subst h
    have:=yb h2;omega
   rename_i nm o2 h2;have hn:=f_ h2;have ct:=iP t o2 (by omega);split at h
   ·injection h with h;injection h with h1 h2;omega
   split at h
   ·rename_i e4 h4;injection h with h;subst h
    have:=sR h4;omega
   rename_i y4 o4 h4;have hw:=k9 h4;have cQ:=iP t o4 (by omega);split at h
   ·rename_i e6 h6;injection h with h;subst h
    exact Vm cQ h6
   rename_i v o6 h6;have hv:=zX h6;exact Hp n o6 _ (by omega) h
theorem vd {t:Bs} {o:Nat} {q:Bs} {e:Int} {p:Nat} (ho:o<=t.length) (h:iO t o q= .error (e,p)):p<=t.length:=by
 unfold iO at h;split at h
 ·injection h with h;injection h with h1 h2
  have h3:=nN mh (pW (t.drop o) q)
  have h4:(pW (t.drop o) q).length<=t.length - o:=by
   unfold pW;split
   ·rw[List.length_take,List.length_drop];omega
   ·rw[List.length_drop];exact Nat.le_refl _
  omega
 split at h
 ·injection h with h;injection h with h1 h2;omega
 ·cases h
theorem Vn (s p:Bs) (h:0<=Lib.index s p):Lib.index s p+p.length<=s.length:=by
 induction s with
 | nil=>
   unfold Lib.index at h ⊢;cases p with
   | nil=>simp
   | cons c p=>simp at h
 | cons b l ih=>
   have gZ:=Lib.index_ge l p;unfold Lib.index at h ⊢;split
   ·rename_i h1;have:=(List.isPrefixOf_iff_prefix.1 h1).length_le;omega
   ·rename_i h1;rw[if_neg h1]at h;split
    ·rename_i h2;rw[if_pos h2]at h;omega
    ·rename_i h2;have h3:Lib.index l p≠ -1:=by simpa using h2
     have:=ih (by omega);rw[List.length_cons];omega
theorem yc {t:Bs} {o:Nat} {q s:Bs} {p:Nat} (ho:o<=t.length) (h:iO t o q= .ok (s,p)):o+q.length<=p/\p<=t.length:=by
 unfold iO at h;split at h
 ·cases h
 split at h
 ·cases h
 ·rename_i h1;injection h with h;injection h with h2 h3
  have:=Vn (t.drop o) q (by omega);rw[List.length_drop]at this;omega
theorem mw {α β :Type} {f: α -> β} {F:Except (Int×Nat) (α ×Nat)} {e:Int×Nat} (h:tH f F= .error e):F= .error e:=by
 cases F with
 | error e2=>injection h with h;rw[h]
 | ok y=>cases h
theorem jd {α β :Type} {f: α -> β} {F:Except (Int×Nat) (α ×Nat)} {x: β} {o:Nat} (h:tH f F= .ok (x,o)):∃y,F= .ok (y,o)/\x=f y:=by
 cases F with
 | error e2=>cases h
 | ok y=>obtain⟨y,o2⟩:=y;injection h with h;injection h with h1 h2;exact⟨y,by rw[h2],h1.symm⟩
theorem Vo {t:Bs} {o:Nat} {e:Int} {p:Nat} (ho:o<=t.length) (h:mu t o= .error (e,p)):p<=t.length:=by
 have hp:∀{q:Bs},dN (t.drop o) q=true->o+q.length<=t.length:=fun hq=>by
  have:=gB hq;rw[List.length_drop]at this;omega
 unfold mu at h;split at h
 ·exact vd (hp ‹_›) (mw h)
 split at h
 ·exact vd (hp ‹_›) (mw h)
 split at h
 ·rename_i h1;refine vd (hp (q:=[60,63,120,109,108]) ?_) (mw h);have:=h1.2;unfold qX at this;simp only[Bool.and_eq_true]at this;exact this.1.1
 split at h
 ·have h0:=hp ‹_›;simp only[List.length_cons,List.length_nil]at h0;unfold qz at h;split at h
  ·rename_i h2;injection h with h;subst h
   have:=yb h2;omega
  rename_i nm o2 h2;have hn:=f_ h2;have ct:=iP t o2 (by omega);have:=sR (mw h);omega
 split at h
 ·have h0:=hp ‹_›;simp only[List.length_cons,List.length_nil]at h0;unfold u_ at h;split at h
  ·rename_i h2;injection h with h;subst h
   have:=yb h2;omega
  rename_i nm o2 h2;have hn:=f_ h2;split at h
  ·rename_i e3 h3;injection h with h;subst h
   exact Hp _ _ _ (by omega) h3
  rename_i l o3 h3;have ha:=va _ _ _ (by omega) h3;split at h
  ·have h4:=gB ‹_›;simp only[List.length_drop,List.length_cons,List.length_nil]at h4;have:=sR (mw h);omega
  ·have:=sR (mw h);omega
 ·exact wv _ _ _ (mw h)
theorem P1 {t:Bs} {stop:UInt8} {n o:Nat} {acc s:Bs} {o':Nat} (ho:o<t.length) (ha:acc.length<=o) (hne:t[o]?≠some stop) (h:eH t stop (n+1) o acc= .ok (s,o')):o<o':=by
 unfold eH at h;have hg:=List.getElem?_eq_getElem ho;rw[hg]at h hne;generalize t[o]=c at*;simp only at h;split at h
 ·rename_i hc;rw[hc]at hne;exact absurd rfl hne
 split at h
 ·split at h
  ·cases h
  ·rename_i h5;obtain⟨k1,k2,k3⟩:=zV (by simpa using h5);rw[List.length_drop]at k2;have:=nZ n _ _ (by omega) (by rw[List.length_append];omega) h;omega
 split at h
 ·cases h
 ·have:=nZ n _ _ (by omega) (by rw[List.length_append];simp only[List.length_cons,List.length_nil];omega) h;omega
theorem LV {t:Bs} {o:Nat} {x:Tk} {o':Nat} (ho:o<t.length) (h:mu t o= .ok (x,o')):x.off=o/\o<o'/\o'<=t.length:=by
 have hp:∀{q:Bs},dN (t.drop o) q=true->o+q.length<=t.length:=fun hq=>by
  have:=gB hq;rw[List.length_drop]at this;omega
 unfold mu at h;split at h
 ·obtain⟨y,h1,rfl⟩:=jd h;have:=yc (hp ‹_›) h1;simp only[List.length_cons,List.length_nil]at this;exact⟨rfl,by omega,by omega⟩
 split at h
 ·obtain⟨y,h1,rfl⟩:=jd h;have:=yc (hp ‹_›) h1;simp only[List.length_cons,List.length_nil]at this;exact⟨rfl,by omega,by omega⟩
 split at h
 ·rename_i h1;obtain⟨y,h2,rfl⟩:=jd h
  have:=yc (hp (q:=[60,63,120,109,108]) (by
   have:=h1.2;unfold qX at this;simp only[Bool.and_eq_true]at this;exact this.1.1)) h2
  simp only[List.length_cons,List.length_nil]at this;exact⟨rfl,by omega,by omega⟩
 split at h
 ·have h0:=hp ‹_›;simp only[List.length_cons,List.length_nil]at h0;unfold qz at h;split at h
  ·cases h
  rename_i nm o2 h2;have hn:=f_ h2;have ct:=iP t o2 (by omega);obtain⟨y,h3,rfl⟩:=jd h;have:=k9 h3;exact⟨rfl,by omega,by omega⟩
 split at h
 ·have h0:=hp ‹_›;simp only[List.length_cons,List.length_nil]at h0;unfold u_ at h;split at h
  ·cases h
  rename_i nm o2 h2;have hn:=f_ h2;split at h
  ·cases h
  rename_i l o3 h3;have ha:=va _ _ _ (by omega) h3;split at h
  ·obtain⟨y,h4,rfl⟩:=jd h;have:=k9 h4;exact⟨rfl,by omega,by omega⟩
  ·obtain⟨y,h4,rfl⟩:=jd h;have:=k9 h4;exact⟨rfl,by omega,by omega⟩
 ·rename_i hne;obtain⟨y,h1,rfl⟩:=jd h;have h2:=nZ _ _ _ (by omega) (by simp) h1;obtain⟨n,hn⟩:∃n,t.length+1 - o=n+1:=⟨t.length - o,by omega⟩
  rw[hn]at h1;refine⟨rfl,P1 ho (by simp) (fun e=>hne ?_) h1,h2.2.1⟩;unfold dN;rw[List.drop_eq_getElem_cons ho];rw[List.getElem?_eq_getElem ho]at e;injection e with e;rw[e];simp
theorem Hq (s:Bs) (c:UInt8):∀n:Nat, -1<=fE s c n/\fE s c n<=n
 | 0=>by unfold fE;omega
 | n+1=>by
   have:=Hq s c n;unfold fE;split<;>omega
theorem ZH {A D:List MV} {n:Nat} (hA:A.length=n) {vs:List MV} {i:Nat} {v:MV} (h:vs[i]?=some v):(A++(vs++D))[n+i]?=some v:=by
 have hi:=(List.getElem?_eq_some_iff.1 h).1;rw[List.getElem?_append_right (by omega),List.getElem?_append_left (by omega),hA,Nat.add_sub_cancel_left];exact h
theorem LW {A D:List MV} {n:Nat} (hA:A.length=n) {vs:List MV} {i:Nat} {v:MV} (h:i<vs.length):(A++(vs++D)).set (n+i) v=A++(vs.set i v++D):=by
 rw[List.set_append_right _ _ (by omega),List.set_append_left _ _ (by omega),hA,Nat.add_sub_cancel_left]
theorem LX {t:Bs} {a:Nat} (h:a<t.length):lZ t (a+1)=lZ t a+if t[a]=10 then 1 else 0:=by
 unfold lZ;rw[cY _ _ h,List.count_append];split
 ·rename_i h1;rw[h1];simp;omega
 ·rename_i h1;rw[List.count_singleton,if_neg (by simpa using h1)];omega
theorem Row.to {O O':VH} {el:TypeId} {sz B k c:Nat} {L L' sp:List MV} (h:Row O el sz B k c L) (u:bq O (some k) O') (hc:O'.hp k=some (.cells (L'++sp))) (hl:(L'++sp).length=c*sz):Row O' el sz B k c L':=by
 obtain⟨sp0,h1,h2⟩:=h.cells;obtain⟨j,h3,h4,h5⟩:=h.nw;refine⟨⟨sp,hc,hl⟩,⟨j,h3,Nat.lt_of_lt_of_le h4 u.next,(u.hp j h4 ?_).trans h5⟩,h.lo,Nat.lt_of_lt_of_le h.hi u.next⟩;intro e;injection e with e;subst e;rw[h1]at h5;cases h5
theorem Row.ZI {O:VH} {el:TypeId} {sz B k c q:Nat} {L cs:List MV} {x:b_} (h:Row O el sz B k c L) (hq:q≠k) (hc:O.hp q=some (.cells cs)):Row (O.set q x) el sz B k c L:=
 h.pr bq.set hq (fun _ _ e=>by rw[hc]at e;cases e)
theorem ve (t:Bs) (x:Tk):(tY t x).length=7:=rfl
set_option maxHeartbeats 800000 in
theorem agt (t:Bs) (O:VH) (ht:t.length<=65536):VF Tryz.prog 244 [.str t] O (aD fun m O'=>O.Ge O'/\match tJ t with
  | .ok l=>∃p,m= .tuple [p,mi 0,.agg [mi 0,mi 0,mi 0]]/\GR O' 153 7 O.next p l.length (l.flatMap (tY t))
  | .error e=>m= .tuple [.sl 0 [] .nil,mi e.1,oS t e.2]):=by
 refine VF.Em (lo:=5) (k:=77) (rs:=[.cell 2 155,.cell 3 65,.cell 4 69]) Tryz.func244 (Enters.sA (by kernel_rfl)) ?_;simp only[cw,Nat.zero_add,Nat.reduceAdd];refine ae @dP ?_;refine VC.gen ?_;rintro O1 rU;obtain⟨aM,c5,cS,cA,fN,p6⟩:=PQ _ _ _ _ rU;clear rU;refine VC.ag aa (ao @dP @cS ?_);try refine gj @dP ?_
 refine⟨_,rfl,fun D=>?_⟩;refine VC.ag aa (ao @dP @cS ?_);refine VC.bx ?_;rintro O2 ⟨ax,bR,iB⟩
 replace bR:O2.hp (O.next+4)=some (.cells [.str t,mi (0:Nat),.sl 0 [] .nil]):=by rw[<-c5];exact bR
 rw[c5];have jc:=ax.at cS;have ct:=ax.at cA;have jj:=ax.at fN;have jV:=ax.at p6
 replace iB:O2.next=O.next+5:=by omega
 have gx:=aM.trans ax;clear aM ax cS cA fN p6 c5 O1;refine VC.bJ [1,2,3,4,5] (fun x:List Tk×MV=>[.ptr O.next 0,.ptr (O.next+1) 0,.ptr (O.next+2) 0,.ptr (O.next+3) 0,.ptr (O.next+4) 0]) (fun x O'=>UB (O.next+5) (O.next+4) O2 O'/\Rd O' (O.next+4) t t.length x.2/\GR O' 153 7 (O.next+5) x.2 x.1.length (x.1.flatMap xY)/\x.1.length<=t.length/\(∀y∈x.1,y.off<t.length)/\x.1.Pairwise (fun a b=>a.off<=b.off)/\tJ t= .ok x.1) ?_ ?_
 ·refine VC.aB ?_;refine VC.bP [] [1,2,3,4,5] (fun x:List Tk×MV×Nat=>[]) (fun x O'=>UB (O.next+5) (O.next+4) O2 O'/\Rd O' (O.next+4) t x.2.2 x.2.1/\GR O' 153 7 (O.next+5) x.2.1 x.1.length (x.1.flatMap xY)/\x.1.length<=x.2.2/\x.2.2<=t.length/\(∀y∈x.1,y.off<x.2.2)/\x.1.Pairwise (fun a b=>a.off<=b.off)/\∃n,t.length+1 - x.2.2<=n/\tJ t=iF t n x.2.2 x.1) (fun x=>t.length - x.2.2) (([],.sl 0 [] .nil,0)) ?_ ?_
  ·exact⟨UB.refl _ _ _,⟨by omega,bR⟩,.inl ⟨rfl,rfl,.inl rfl⟩,Nat.zero_le _,Nat.zero_le _,(fun y hy=>by cases hy),List.Pairwise.nil,_,Nat.le_refl _,rfl⟩
  rintro⟨l,p,o⟩ O3 ⟨zZ,hr,cL,wN,LS,kH,qU,n,hn,he⟩;dsimp only at zZ hr cL wN LS kH qU hn he;obtain⟨n,rfl⟩:∃i,n=i+1:=⟨n - 1,by omega⟩
  rw[iF]at he;repeat refine pQ @dP @wd ?_
  refine ah.rt (mZ hr) ?_;rintro _ O4 ⟨rfl,eO⟩;rw[eO];clear eO O4
  by_cases h1:t.length<=o
  ·rw[if_pos h1]at he;obtain rfl:o=t.length:=by omega
   rw[decide_eq_true h1];repeat refine pQ @dP @wd ?_
   exact aA.mk (l,p) ⟨zZ,hr,cL,wN,kH,qU,he⟩
  rw[if_neg h1]at he;rw[decide_eq_false h1];repeat refine pQ @dP @wd ?_
  have htv:=ZB hr (by omega) LS (by omega:O.next+4<O.next+5) (by have:=zZ.next;omega) cL (by omega);have eb:= @LV t o;have ni:= @Vo t o;generalize mu t o=F at*;refine ah.p htv ?_ ?_
  ·rintro m O4 ⟨ZJ,h4⟩;cases F with
   | error e=>exact h4.elim
   | ok y=>
   obtain⟨x,o2⟩:=y;dsimp only at h4 he;obtain⟨rfl,p2,FZ,agu⟩:=h4;obtain⟨k1,k2,k3⟩:=eb (by omega) rfl;repeat refine pQ @dP @wd ?_
   refine az.next (l++[x],p2,o2) ⟨zZ.trans ZJ,FZ,?_,?_,k3,?_,?_,n,?_,he⟩ (hm:=?_)
   ·dsimp only;rw[List.length_append,List.flatMap_append,List.flatMap_singleton];exact agu
   ·dsimp only;rw[List.length_append,List.length_singleton];omega
   ·intro y hy;dsimp only at hy ⊢;rcases List.mem_append.1 hy with hy | hy
    ·have:=kH y hy;omega
    ·rw[List.mem_singleton.1 hy];omega
   ·dsimp only;rw[List.pairwise_append];exact⟨qU,List.pairwise_singleton _ _,fun a ha b hb=>by rw[List.mem_singleton.1 hb];have:=kH a ha;omega⟩
   ·dsimp only;omega
   ·dsimp only;omega
  ·rintro m O4 ⟨ZJ,h4⟩;cases F with
   | ok y=>exact h4.elim
   | error e=>
   obtain⟨e,off⟩:=e;dsimp only at h4 he;subst h4;have vf:=ni LS rfl;have yd:=zZ.trans ZJ;have gM:=yd.next;have kG:=(yd.hp O.next (by omega) (by omega)).trans jc;have cQ:=(yd.hp (O.next+1) (by omega) (by omega)).trans ct;have eX:=(yd.hp (O.next+2) (by omega) (by omega)).trans jj;have x_:=(yd.hp (O.next+3) (by omega) (by omega)).trans jV;try refine pQ @dP @wd ?_
   refine ZF (by omega) vf kG cQ eX x_ (by omega) (by omega) (by omega) (by omega) (by omega) (by omega) (by omega) ?_;intro O5 gu nH cV fA IT;simp only[ar]at cV fA IT;refine gW @dP @wd @cV @fA @IT ?_;refine⟨⟨by have:=yd.next;omega,fun i hi=>?_⟩,?_⟩
   ·rw[nH i (by omega) (by omega) (by omega) (by omega),yd.hp i (by omega) (by omega)];exact gx.hp i hi
   ·rw[he];dsimp only;rfl
 rintro⟨l,p⟩ O3 ⟨zZ,hr,cL,tT,kH,qU,he⟩;dsimp only at zZ hr cL tT kH qU he;rw[he];have oV:=(zZ.hp O.next (by omega) (by omega)).trans jc;have cu:=(zZ.hp (O.next+1) (by omega) (by omega)).trans ct;have eE:=(zZ.hp (O.next+2) (by omega) (by omega)).trans jj;have zY:=(zZ.hp (O.next+3) (by omega) (by omega)).trans jV;have gL:=zZ.next;have eG:∀i,i<O.next->O3.hp i=O.hp i:=fun i hi=>(zZ.hp i (by omega) (by omega)).trans (gx.hp i hi)
 have dG:=hr.2;simp only[ar]at dG;rcases cL with⟨h0,hL,hp⟩ | ⟨k2,c,rfl,zc,om,kz⟩
 ·obtain rfl:l=[]:=List.eq_nil_of_length_eq_zero h0;have fin:∀{p:MV} {O5:VH},(p= .sl 0 [] .nil\/p= .sl 0 [] .full)->O.next<=O5.next->(∀i,i<O.next->O5.hp i=O.hp i)->(O.Ge O5/\∃p',MV.tuple [p,mi 0,.agg [mi 0,mi 0,mi 0]]= .tuple [p',mi 0,.agg [mi 0,mi 0,mi 0]]/\GR O5 153 7 O.next p' 0 []):=fun hp hn hh=>⟨⟨hn,hh⟩,_,rfl,.inl ⟨rfl,rfl,hp⟩⟩
  have hO:∀{x y z:b_} {i:Nat},i<O.next->((((O3.set (O.next+1) x).set (O.next+2) y).set (O.next+3) z)).hp i=O.hp i:=fun hi=>by
   rw[VH.ak _ _ (by omega),VH.ak _ _ (by omega),VH.ak _ _ (by omega)];exact eG _ hi
  rcases hp with rfl | rfl
  ·refine VC.ag aa (ao @dP @wd ?_);refine VC.bC ?_;refine VC.ag aa (aI @dP @wd @dG ?_);refine VC.aB ?_;refine VC.bP [6,7,32] [1,2,3,4,5,31] (fun _:Unit=>[mi 1,mi 0,mi 0]) (fun _ O'=>O'=O3) (fun _=>0) (()) ?_ ?_
   ·exact rfl
   rintro⟨⟩ O4 eO;rw[eO];clear eO O4
   repeat refine kg6 @dP @wd @dG @cu @eE @zY ?_
   refine EA ?_;refine ao @dP @wd ?_;exact fin (by simp) (by rw[VH.eM,VH.eM,VH.eM];omega) (fun i hi=>hO hi)
  ·refine VC.ag aa (ao @dP @wd ?_);refine VC.bC ?_;refine VC.ag aa (aI @dP @wd @dG ?_);refine VC.aB ?_;refine VC.bP [6,7,32] [1,2,3,4,5,31] (fun _:Unit=>[mi 1,mi 0,mi 0]) (fun _ O'=>O'=O3) (fun _=>0) (()) ?_ ?_
   ·exact rfl
   rintro⟨⟩ O4 eO;rw[eO];clear eO O4
   repeat refine kg6 @dP @wd @dG @cu @eE @zY ?_
   refine EA ?_;refine ao @dP @wd ?_;exact fin (by simp) (by rw[VH.eM,VH.eM,VH.eM];omega) (fun i hi=>hO hi)
 obtain⟨sp,hsp,GW⟩:=kz.cells;have jY:=kz.lo;have P2:=kz.hi;refine VC.ag aa (ao @dP @wd ?_);refine VC.bC ?_;refine VC.ag aa (aI @dP @wd @dG ?_);refine VC.aB ?_;refine VC.bP [6,7,32] [1,2,3,4,5,31] (fun x:Nat×Nat=>[mi (lZ t x.2),mi x.2,mi x.1]) (fun x O'=>bq O3 (some k2) O'/\O'.hp k2=some (.cells ((l.take x.1).flatMap (tY t)++(l.drop x.1).flatMap xY++sp))/\x.1<=l.length/\x.2<=t.length/\(∀y∈l.drop x.1,x.2<=y.off)) (fun x=>l.length - x.1) ((0,0)) ?_ ?_
 ·exact⟨bq.refl _ _,hsp,Nat.zero_le _,Nat.zero_le _,fun _ _=>Nat.zero_le _⟩
 rintro⟨j,a⟩ O4 ⟨fb,eX,hj,ha,xQ⟩;dsimp only at fb eX hj ha xQ;have ja:=(fb.hp _ (by omega) (by intro e;injection e;omega)).trans dG;have AT:=(fb.hp _ (by omega) (by intro e;injection e;omega)).trans oV;have hlj:=Nat.min_eq_left hj;by_cases AG:j<l.length;rotate_left
 ·obtain rfl:j=l.length:=by omega
  rw[List.take_length,List.drop_length,List.flatMap_nil,List.append_nil]at eX;have cQ:=(fb.hp _ (by omega) (by intro e;injection e;omega)).trans cu;have aeH:=(fb.hp _ (by omega) (by intro e;injection e;omega)).trans eE;have x_:=(fb.hp _ (by omega) (by intro e;injection e;omega)).trans zY
  have aio:Row O4 153 7 (O.next+5) k2 c (l.flatMap (tY t)):=kz.to fb eX (by
   rw[List.length_append,aT (ve t)];rw[List.length_append,om]at GW;exact GW)
  have gM:=fb.next
  have hO:∀{x y z:b_} {i:Nat},i<O.next->((((O4.set (O.next+1) x).set (O.next+2) y).set (O.next+3) z)).hp i=O.hp i:=fun hi=>by
   rw[VH.ak _ _ (by omega),VH.ak _ _ (by omega),VH.ak _ _ (by omega)];exact(fb.hp _ (by omega) (by intro e;injection e;omega)).trans (eG _ hi)
  repeat refine kg6 @dP @wd @ja @cQ @aeH @x_ ?_
  refine EA ?_;refine ao @dP @wd ?_;refine⟨⟨by rw[VH.eM,VH.eM,VH.eM];omega,fun i hi=>hO hi⟩,_,rfl,.inr ⟨k2,c,rfl,zc,aT (ve t) _,?_⟩⟩;exact(((aio.ZI (by omega) cQ).ZI (by omega) (VH.sn aeH)).ZI (by omega) (VH.sn (VH.sn x_))).wider (by omega)
 have PY:=List.drop_eq_getElem_cons AG;have eb:(l.take (j+1))=l.take j++[l[j]]:=cY _ _ AG;have hxo:l[j].off<t.length:=kH _ (List.getElem_mem AG);have hxa:a<=l[j].off:=xQ _ (by rw[PY];exact List.mem_cons_self ..)
 have wP:∀y∈l.drop (j+1),l[j].off<=y.off:=by
  have:=qU.drop (i:=j);rw[PY,List.pairwise_cons]at this;exact this.1
 rw[PY,List.flatMap_cons]at eX;generalize hx:l[j]=x at*;have hA:((l.take j).flatMap (tY t)).length=j*7:=by rw[aT (ve t),List.length_take,hlj]
 generalize hAe:(l.take j).flatMap (tY t)=A at*;generalize hEe:(l.drop (j+1)).flatMap xY=E at*;refine VC.ag aa (ao @dP @wd ?_);try refine pQ @dP @wd ?_
 refine VC.bC (VC.aB ?_);refine VC.ag aa (ao @dP @wd ?_);refine VC.ag aa (aI @dP @wd @ja ?_);rw[List.append_assoc,List.append_assoc]at eX;have Vp:(A++(xY x++(E++sp)))[j*7+4]?=some (.v (.int .i64 x.off)):=ZH hA (vs:=xY x) rfl
 have hCl:j*7+7<=(A++(xY x++(E++sp))).length:=by
  rw[List.length_append,List.length_append,Ey,hA];omega
 have hCs:∀(y z:MV),((A++(xY x++(E++sp))).set (j*7+5) y).set (j*7+6) z=A++([mi x.kind,.str x.name,.sl x.attrs.length (x.attrs.flatMap aY) .aq,.str x.text,mi x.off,y,z]++(E++sp)):=fun y z=>by
  rw[LW hA (by rw[Ey];decide),LW hA (by rw[List.length_set,Ey];decide)];rfl
 generalize A++(xY x++(E++sp))=C at*;refine VC.bC (VC.aB ?_);refine VC.bP [6,7] [1,2,3,4,5,9,31,32] (fun b:Nat=>[mi (lZ t b),mi b]) (fun b O'=>O'=O4/\b<=x.off) (fun b=>x.off - b) (a) ?_ ?_
 ·exact⟨rfl,hxa⟩
 rintro b O5 ⟨eO,hb⟩;rw[eO];clear eO O5
 have aj7:lZ t b<=1+t.length:=by
  unfold lZ;have h1:=List.count_le_length (a:=(10:UInt8)) (l:=t.take b);rw[List.length_take]at h1;omega
 by_cases ez:b<x.off
 ·have Vq:b<t.length:=by omega
  have hg:=List.getElem?_eq_getElem Vq;have UJ:=LX Vq;generalize t[b]=ch at*;generalize lZ t b=ln at*;by_cases vg:ch=10
  ·rw[if_pos vg]at UJ;have e1:((ch.toNat:Int)==10)=true:=by rw[vg];rfl
   repeat refine kg8 @dP @wd @eX @Vp @AT @hg @aE @e1 ?_
   exact az.next (b+1) ⟨rfl,by omega⟩ (hl:=(by rw[UJ];rfl))
  ·rw[if_neg vg]at UJ;have e1:((ch.toNat:Int)==10)=false:=by simpa using fun e:(ch.toNat:Int)=10=>vg (UInt8.toNat_inj.1 (by simpa using(by omega:ch.toNat=10)))
   repeat refine kg8 @dP @wd @eX @Vp @AT @hg @aE @e1 ?_
   exact az.next (b+1) ⟨rfl,by omega⟩ (hl:=(by rw[UJ];rfl))
 obtain rfl:b=x.off:=by omega
 generalize Za:lZ t x.off=ln at*;repeat refine kg5 @dP @wd @eX @Vp @AT ?_
 have gV:fE (t.take x.off) 10 (t.take x.off).length<=x.off/\ -1<=fE (t.take x.off) 10 (t.take x.off).length:=by
  have h1:=Hq (t.take x.off) 10 (t.take x.off).length;rw[List.length_take,Nat.min_eq_left (by omega)]at h1 ⊢;omega
 have hlen:(t.take x.off).length<=1000000:=by rw[List.length_take];omega
 refine ah.rt (AP (t.take x.off) 10 _ hlen) ?_;rintro _ O5 ⟨rfl,eO⟩;rw[eO];clear eO O5
 have aip:EB t x.off=(x.off:Int) - fE (t.take x.off) 10 (t.take x.off).length:=rfl;generalize fE (t.take x.off) 10 (t.take x.off).length=lf at*;repeat refine kg3 @dP @wd @eX ?_
 refine az.next (j+1,x.off) ⟨fb.trans (bq.set.trans bq.set),?_,AG,Nat.le_of_lt hxo,wP⟩ (hl:=(by dsimp only;rw[Za];rfl));rw[VH.an,eb,List.flatMap_append,List.flatMap_singleton];have hC:=hCs (mi ln) (mi ((x.off:Int) - lf))
 have h7:tY t x=[mi x.kind,.str x.name,.sl x.attrs.length (x.attrs.flatMap aY) .aq,.str x.text,mi x.off,mi ln,mi ((x.off:Int) - lf)]:=by
  unfold tY;rw[Za,aip]
 rw[hAe,hEe,h7,List.append_assoc,List.append_assoc, <-hC];rfl
set_option linter.defProp false in
def bQ:=And.intro mr<|And.intro AI T9
abbrev eU:List MV:=[.v (.bool false),.str [],.str [],.str [],.str [],.str [],.str [],.str [],.sl 0 [] .nil,.sl 0 [] .nil,.sl 0 [] .nil]
theorem ZK {O:VH} {a b c:Nat} {K:VH->Prop} (h:K O):fW Tryz.prog 247 [.ptr a 0,.ptr b 0,.ptr c 0] none O K:=by
 refine fW.rec (d:=6) Tryz.func247 (Nat.lt_of_lt_of_eq (by decide:6<17) rfl) ?_;show WC _ _ ⟨17,0⟩ _ _ _ _ _;simp only[cw,Nat.zero_add,Nat.reduceAdd,zp];refine ao @bQ @wi ?_;refine VL.pure (by simp) (fun _=>.inl rfl) rfl rfl (ig.DR (bb:=true) Tryz.underlying20 rfl (.inl ⟨rfl,rfl⟩)) ?_;refine WL.sound aa ?_;refine ao @bQ @wi ?_;exact h
theorem je {O:VH} {a b c:Nat} {e:Int} {s:Bs} {K:VH->Prop} {x0 x1 x2 x3 x4 x5 x6 x7 x8 x9 x10 y z:MV} (ha:O.hp a=some (.cells [x0,x1,x2,x3,x4,x5,x6,x7,x8,x9,x10])) (hb:O.hp b=some (.cells [y])) (hc:O.hp c=some (.cells [z]))
  (han:a<O.next) (U0:b<O.next) (Ee:c<O.next) (hab:a≠b) (hac:a≠c) (hbc:b≠c)
  (h:∀O',O.next<=O'.next->(∀i,i<O.next->i≠a->i≠b->i≠c->O'.hp i=O.hp i)->O'.hp a=some (.cells eU)->O'.hp b=some (.cells [mi e])->O'.hp c=some (.cells [.str s])->K O'):fW Tryz.prog 247 [.ptr a 0,.ptr b 0,.ptr c 0] (some (sL e s)) O K:=by
 refine fW.rec (d:=6) Tryz.func247 (Nat.lt_of_lt_of_eq (by decide:6<17) rfl) ?_;show WC _ _ ⟨17,0⟩ _ _ _ _ _;simp only[cw,Nat.zero_add,Nat.reduceAdd,zp,sL];refine ao @bQ @wi ?_;refine VL.pure (by simp) (fun _=>.inl rfl) rfl rfl (ig.RH (bb:=false) Tryz.underlying20 rfl (.inl ⟨rfl,rfl⟩)) ?_;refine WL.sound aa ?_;refine ao @bQ @wi ?_;refine VL.pure (by simp) (fun _=>.inl rfl) rfl rfl (ig.asT Tryz.underlying371 (fun _ h=>by cases h) rfl) ?_;refine WL.sound aa ?_;refine ao @bQ @wi ?_;refine VC.al ?_;rintro O2 ⟨ax,iL,iB⟩;have wS:∀(X:b_) {i:Nat} {y:Option b_},i<O.next->O.hp i=y->(O2.set O.next X).hp i=y:=fun X {i y} hi h=>VH.sn ((ax.hp _ hi).trans h)
 refine VC.px [] (O.next) (iL) ?_;intro X;have kG:=wS (.obj X) han ha;have cQ:=wS (.obj X) U0 hb;have eX:=wS (.obj X) Ee hc;have p5:(O2.set O.next (.obj X)).hp O.next=some (.obj X):=VH.an _ _ _;have gM:(O2.set O.next (.obj X)).next=O.next+1:=iB;have bg:O.Ge (O2.set O.next (.obj X)):=ax.set (Nat.le_refl _) _;generalize hO4:O2.set O.next (.obj X)=O4 at*;refine ab.av 0 ?_;refine ae @bQ ?_;refine ab.av 1 ?_;refine ae @bQ ?_;refine ab.sE (m:=.v (.int .i64 e)) 2 ?_ ?_
 ·exact eW @bQ
 simp only[aj];refine ab.av 3 ?_;refine ae @bQ ?_;refine ab.sE (m:=.str s) 4 ?_ ?_
 ·exact eW @bQ
 simp only[aj];refine ab.op (i:=5) ?_;refine ao @bQ @kG ?_;refine⟨p5,?_⟩;refine ab.op (i:=6) ?_;refine ao @bQ @cQ ?_;refine⟨p5,?_⟩;refine ab.op (i:=7) ?_;refine ao @bQ @eX ?_;refine⟨p5,?_⟩;refine ab.mT [] ?_;refine ae @bQ ?_;refine h _ (by show O.next<=O4.next;omega) (fun i hi h1 h2 h3=>?_) ?_ ?_ ?_
 ·rw[VH.ak _ _ (by omega),VH.ak _ _ (by omega),VH.ak _ _ (by omega),VH.ak _ _ (by omega)];exact bg.hp i hi
 ·rw[VH.ak _ _ (by omega),VH.ak _ _ (by omega),VH.ak _ _ (by omega)];exact VH.an _ _ _
 ·rw[VH.ak _ _ (by omega),VH.ak _ _ (by omega)];exact VH.an _ _ _
 ·rw[VH.ak _ _ (by omega)];exact VH.an _ _ _
structure vh (O:VH) (E:List MV) (O':VH) (cs:List MV):Prop where
 oW:∀i,i<O.next->O'.hp i=O.hp i
 lt:O.next+5<=O'.next
 d:O'.hp (O.next+1)=some (.cells cs)
 e:O'.hp (O.next+2)=some (.cells [mi 0])
 w:O'.hp (O.next+3)=some (.cells [.str []])
 x:O'.hp (O.next+4)=some (.cells E)
theorem vh.ge {O O' O2:VH} {E cs:List MV} (h:vh O E O' cs) (k:O'.Ge O2):vh O E O2 cs:=by
 have h1:=h.lt;exact⟨fun i hi=>(k.hp i (by omega)).trans (h.oW i hi),Nat.le_trans h1 k.next,k.at h.d,k.at h.e,k.at h.w,k.at h.x⟩
theorem vh.st {O O':VH} {E cs cs':List MV} (h:vh O E O' cs):vh O E (O'.set (O.next+1) (.cells cs')) cs':=
 ⟨fun i hi=>VH.sn (h.oW i hi),h.lt,VH.an _ _ _,VH.sn h.e,VH.sn h.w,VH.sn h.x⟩
theorem vh.other {O O' O2:VH} {E cs:List MV} {k:Nat} {x:b_} (h:vh O E O' cs) (hk:O.next+5<=k) (bR:k<O'.next) (g:(O'.set k x).Ge O2):vh O E O2 cs:=by
 have h1:=h.lt;have e1:(O'.set k x).next=O'.next:=rfl;have h4:=g.next
 have key:∀j,j<O.next+5->O2.hp j=O'.hp j:=fun j hj=>by
  rw[g.hp j (by omega),VH.ak _ _ (by omega)]
 exact⟨fun i hi=>(key i (by omega)).trans (h.oW i hi),by omega,(key _ (by omega)).trans h.d,(key _ (by omega)).trans h.e,(key _ (by omega)).trans h.w,(key _ (by omega)).trans h.x⟩
theorem vh.aiq {O O':VH} {E cs:List MV} {k:Nat} {x:b_} (h:vh O E O' cs) (hk:O.next+5<=k):vh O E (O'.set k x) cs:=
 ⟨fun i hi=>VH.sn (h.oW i hi),h.lt,VH.sn h.d,VH.sn h.e,VH.sn h.w,VH.sn h.x⟩
theorem VC.rs {P:Program} {n:Sz} {D:List Deferred} {c:Code} {e:Env} {Q:VQ} {O O':VH} {E cs cs':List MV} (h:vh O E O' cs) (k:∀O3,vh O E O3 cs'->VC P n D c e O3 Q):VC P n D c e (O'.set (O.next+1) (.cells cs')) Q:=k _ h.st
def vi (x:Nd) (w:Bs):Except (Int×Bs) (List Dp):=
 match cn x w rL with
 | .error e=>.error e
 | .ok ((_,_),false)=>.ok []
 | .ok ((y,wy),true)=>lH y wy true
def vk (x:Nd) (w:Bs):Except (Int×Bs) (Bool×Gv):=
 match cn x w uS with
 | .error e=>.error e
 | .ok ((_,_),false)=>.ok (false,⟨[],[],[]⟩)
 | .ok ((y,wy),true)=>match bN y wy dS true eS with
   | .error e=>.error e
   | .ok g=>match bN y wy dL true eS with
     | .error e=>.error e
     | .ok a=>match bN y wy fp true uQ with
       | .error e=>.error e
       | .ok v=>.ok (true,⟨g,a,v⟩)
def oz (x:Nd):Except (Int×Bs) Pm:=
 bif x.nm==gh then match vk x x.nm with
  | .error e=>.error e
  | .ok p=>match bN x x.nm dS false dH with
  | .error e=>.error e
  | .ok g=>match bN x x.nm dL true dH with
  | .error e=>.error e
  | .ok a=>match bN x x.nm fp false dH with
  | .error e=>.error e
  | .ok v=>match bN x x.nm xh false dH with
  | .error e=>.error e
  | .ok k=>match k7 x x.nm with
  | .error e=>.error e
  | .ok P=>match vi x x.nm with
  | .error e=>.error e
  | .ok M=>match lH x x.nm false with
  | .error e=>.error e
  | .ok D=>.ok ⟨p.1,p.2,g,a,v,k,P,M,D⟩
 else .error (20,x.nm)
def z6:Pm:=⟨false,⟨[],[],[]⟩,[],[],[],[],[],[],[]⟩
theorem ac5 (x:Nd) (O:VH) (hx:ky x<=1000000):VF Tryz.prog 225 [.agg (df x)] O (aD fun m O'=>O.Ge O'/\match oz x with
  | .ok p=>m= .tuple [.agg (fY p),mi 0,.str []]
  | .error e=>m= .tuple [.agg (fY z6),mi e.1,.str e.2]):=by
 refine VF.fg ?_;obtain⟨zn,za,cR,zt⟩:=x;have qU:=pN (.mk zn za cR zt) zn;have hfp:=rP (.mk zn za cR zt) zn uS;have hfm:=rP (.mk zn za cR zt) zn rL;have hpr:=Zg (.mk zn za cR zt) zn;have zR:=R0 (.mk zn za cR zt) zn false;obtain⟨PE,hP⟩:∃PE,oz (.mk zn za cR zt)=PE:=⟨_,rfl⟩
 rw[hP];unfold oz at hP;simp only[kx,df,List.cons_append,List.nil_append]at qU hfp hfm hpr zR ⊢;simp only[Nd.nm]at hP;refine VF.deferred (lo:=5) (k:=64) (rs:=[.cell 2 106,.cell 3 65,.cell 4 9]) Tryz.func225 (Enters.sA (by kernel_rfl)) ?_;simp only[cw,Nat.zero_add,Nat.reduceAdd];refine ae @bQ ?_;refine⟨_,rfl,fun D=>?_⟩;refine VC.gen ?_;rintro O1 rU;obtain⟨aM,c5,cS,cA,fN,p6⟩:=PQ _ _ _ _ rU;clear rU;refine VC.ag aa (aI @bQ @wd @cS ?_);refine VC.al ?_;rintro O2 ⟨ax,bR,iB⟩;rw[c5]at bR ⊢
 have hd:vh O [.str zn,.sl za.length (za.flatMap aY) .aq,.sl cR.length (ay cR) .aq,.str zt,.str zn] O2 eU:=
  ⟨fun i hi=>ax.at (aM.hp i hi),by omega,ax.at cA,ax.at fN,ax.at p6,bR⟩
 have sk:=ax.at cS;clear aM ax c5 iB bR cS cA fN p6 O1;cases hb:zn==gh
 ·rw[hb,cond_false]at hP;rw[<-hP];have mF:(zn != [112,114,111,106,101,99,116])=true:=by rw[bne];simp only[gh]at hb;rw[hb];rfl
  simp only[gh]at hb;refine VC.ag aa (gW @bQ @wd @sk @hb @mF ?_);refine ah.p (lL _ _ _) ?_ ?_
  ·rintro m O9 ⟨_,h⟩;exact h.elim
  rintro m O9 ⟨rfl,rfl⟩;refine ao @bQ @wd ?_;refine je hd.d hd.e hd.w (by have:=hd.lt;omega) (by have:=hd.lt;omega) (by have:=hd.lt;omega) (by omega) (by omega) (by omega) ?_;intro O5 gu nH fl cV fA;simp only[ar]at cV;refine gW @bQ @wd @fl @cV @fA ?_;exact⟨⟨by have:=hd.lt;omega,fun i hi=>by rw[nH i (by have:=hd.lt;omega) (by omega) (by omega) (by omega)];exact hd.oW i hi⟩,rfl⟩
 rw[hb,cond_true]at hP;have hw:zn.length<=10000:=by rw[eq_of_beq hb];decide
 have hw3:zn.length<=3000:=by rw[eq_of_beq hb];decide
 have mF:(zn != [112,114,111,106,101,99,116])=false:=by rw[bne];simp only[gh]at hb;rw[hb];rfl
 simp only[gh]at hb;refine VC.ag aa (gW @bQ @wd @sk @hb @mF ?_);clear hb mF sk;refine VC.bJ [1,2,3,4,5] (fun _:Bool×Gv=>[.ptr O.next 0,.ptr (O.next+1) 0,.ptr (O.next+2) 0,.ptr (O.next+3) 0,.ptr (O.next+4) 0]) (fun p O'=>vh O [.str zn,.sl za.length (za.flatMap aY) .aq,.sl cR.length (ay cR) .aq,.str zt,.str zn] O' [mb p.1,.str p.2.g,.str p.2.a,.str p.2.v,.str [],.str [],.str [],.str [],.sl 0 [] .nil,.sl 0 [] .nil,.sl 0 [] .nil]/\vk (.mk zn za cR zt) zn= .ok p) ?_ ?_
 ·have uU:= @rR (.mk zn za cR zt) zn uS;have uV:∀e,cn (.mk zn za cR zt) zn uS= .error e->vk (.mk zn za cR zt) zn= .error e:=fun e h=>by unfold vk;rw[h]
  have nE:∀y wy,cn (.mk zn za cR zt) zn uS= .ok ((y,wy),false)->vk (.mk zn za cR zt) zn= .ok (false,⟨[],[],[]⟩):=fun y wy h=>by unfold vk;rw[h]
  have iD:∀y wy,cn (.mk zn za cR zt) zn uS= .ok ((y,wy),true)->vk (.mk zn za cR zt) zn=match bN y wy dS true eS with
   | .error e=>.error e
   | .ok g=>match bN y wy dL true eS with
     | .error e=>.error e
     | .ok a=>match bN y wy fp true uQ with
       | .error e=>.error e
       | .ok v=>.ok (true,⟨g,a,v⟩):=fun y wy h=>by unfold vk;rw[h]
  generalize vk (.mk zn za cR zt) zn=QE at*;generalize cn (.mk zn za cR zt) zn uS=F at*;have ez:=hd.x;refine VC.ag aa (aI @bQ @wd @ez ?_);refine ah.p (hfp O2 (by have:=jS (.mk zn za cR zt);omega) (by omega) (by decide)) ?_ ?_;rotate_left
  ·rintro m O9 ⟨bn,h⟩;have bD:=hd.ge bn;cases F with
   | ok y=>exact h.elim
   | error e=>
     dsimp only at h;rw[uV e rfl]at hP;dsimp only at hP;rw[h, <-hP];refine ao @bQ @wd ?_;refine je bD.d bD.e bD.w (by have:=bD.lt;omega) (by have:=bD.lt;omega) (by have:=bD.lt;omega) (by omega) (by omega) (by omega) ?_;intro O5 gu nH fl cV fA;simp only[ar]at cV;refine gW @bQ @wd @fl @cV @fA ?_;exact⟨⟨by have:=bD.lt;omega,fun i hi=>by rw[nH i (by have:=bD.lt;omega) (by omega) (by omega) (by omega)];exact bD.oW i hi⟩,rfl⟩
  rintro m O3 ⟨aJ,h⟩;cases F with
  | error e=>exact h.elim
  | ok y=>
  obtain⟨⟨y,wy⟩,b⟩:=y;dsimp only at h;subst h;obtain⟨Ze,uW⟩:=uU rfl;have ox:wy.length<=10000:=by rw[uW];simp only[List.length_append,List.length_cons,List.length_nil];omega
  have ZL:ky y<=1000000:=by omega
  clear uU uW uV
  replace iD:=fun h:b=true=>by subst h;exact iD y wy rfl
  replace nE:b=false->QE= .ok (false,⟨[],[],[]⟩):=fun h=>by subst h;exact nE y wy rfl
  have qm:=fun O'=>pN y wy dS true eS 83 [] O' ZL ox (by decide) (by kernel_rfl) (fun s j4 _ hs=>sI s j4 (by simp only[maxLen];omega))
  have zQ:=fun O'=>pN y wy dL true eS 83 [] O' ZL ox (by decide) (by kernel_rfl) (fun s j4 _ hs=>sI s j4 (by simp only[maxLen];omega))
  have oA:=fun O'=>pN y wy fp true uQ 84 [] O' ZL ox (by decide) (by kernel_rfl) (fun s j4 _ hs=>Pr s j4 (by simp only[maxLen];omega))
  generalize bN y wy dS true eS=W1 at*;generalize bN y wy dL true eS=W2 at*;generalize bN y wy fp true uQ=W3 at*;obtain⟨yn,ya,yk,yt⟩:=y;simp only[kx,df,List.cons_append,List.nil_append]at qm zQ oA ⊢;have cu:=hd.ge aJ;have lN:=cu.lt;refine ao @bQ @wd ?_;refine VC.al ?_;rintro O4 ⟨bg,ja,gM⟩;have cQ:=cu.ge bg;clear hd cu aJ bg ez;cases b
  ·rw[nE rfl]at hP ⊢;refine WC.sound aa (ao @bQ @wd ?_);exact aA.mk (false,⟨[],[],[]⟩) ⟨cQ,rfl⟩
  replace iD:=iD rfl
  clear nE;have cK:=cQ.d;refine VC.ag aa (ao @bQ @wd ?_);refine WC.sound aa (aI @bQ @wd @cK ?_);have hbs:=cQ.st (cs':=[.v (.bool true),.str [],.str [],.str [],.str [],.str [],.str [],.str [],.sl 0 [] .nil,.sl 0 [] .nil,.sl 0 [] .nil]);have FV:=(VH.ak O4 (.cells [.v (.bool true),.str [],.str [],.str [],.str [],.str [],.str [],.str [],.sl 0 [] .nil,.sl 0 [] .nil,.sl 0 [] .nil]) (by omega:O3.next≠O.next+1)).trans ja;have gu:(O4.set (O.next+1) (.cells [.v (.bool true),.str [],.str [],.str [],.str [],.str [],.str [],.str [],.sl 0 [] .nil,.sl 0 [] .nil,.sl 0 [] .nil])).next=O4.next:=rfl;clear cK cQ ja;generalize O4.set (O.next+1) (.cells [.v (.bool true),.str [],.str [],.str [],.str [],.str [],.str [],.str [],.sl 0 [] .nil,.sl 0 [] .nil,.sl 0 [] .nil])=O5 at*;refine VC.px [7,8] (O3.next) (FV) ?_;intro X;refine ab.sE (m:=.agg [.str yn,.sl ya.length (ya.flatMap aY) .aq,.sl yk.length (ay yk) .aq,.str yt,.str wy]) 0 ?_ ?_
  ·exact eW @bQ
  simp only[aj];refine ab.sE (m:=.agg [.str yn,.sl ya.length (ya.flatMap aY) .aq,.sl yk.length (ay yk) .aq,.str yt,.str wy]) 2 ?_ ?_
  ·exact eW @bQ
  simp only[aj];refine ab.sE (m:=.agg [.str yn,.sl ya.length (ya.flatMap aY) .aq,.sl yk.length (ay yk) .aq,.str yt,.str wy]) 4 ?_ ?_
  ·exact eW @bQ
  simp only[aj];have FX:=fun(O9:VH) (g:(O5.set O3.next (.obj X)).Ge O9)=>hbs.other (k:=O3.next) (x:=.obj X) (by omega) (by omega) g
  have jm:∀O9,(O5.set O3.next (.obj X)).Ge O9->O9.hp O3.next=some (.obj X):=fun O9 g=>(g.hp _ (by show O3.next<O5.next;omega)).trans (VH.an _ _ _)
  generalize O5.set O3.next (.obj X)=O6 at*;have hG:=VH.Ge.refl O6;refine ab.pP (i:=1) (qm O6) ?_ ?_;rotate_left
  ·rintro m O9 ⟨bn,h⟩;cases W1 with
   | ok s=>exact h.elim
   | error e=>
     dsimp only at h iD;rw[iD]at hP;dsimp only at hP;rw[h, <-hP];have bD:=FX _ (hG.trans bn);refine ao @bQ @wd ?_;refine je bD.d bD.e bD.w (by have:=bD.lt;omega) (by have:=bD.lt;omega) (by have:=bD.lt;omega) (by omega) (by omega) (by omega) ?_;intro O5 gu nH fl cV fA;simp only[ar]at cV;refine gW @bQ @wd @fl @cV @fA ?_;exact⟨⟨by have:=bD.lt;omega,fun i hi=>by rw[nH i (by have:=bD.lt;omega) (by omega) (by omega) (by omega)];exact bD.oW i hi⟩,rfl⟩
  rintro m O7 ⟨bn,h⟩;cases W1 with
  | error e=>exact h.elim
  | ok sg=>
  dsimp only at h iD;subst h;simp only[aj]
  replace hG:=hG.trans bn
  clear bn;refine⟨jm _ hG,?_⟩;refine ab.pP (i:=3) (zQ O7) ?_ ?_;rotate_left
  ·rintro m O9 ⟨bn,h⟩;cases W2 with
   | ok s=>exact h.elim
   | error e=>
     dsimp only at h iD;rw[iD]at hP;dsimp only at hP;rw[h, <-hP];have bD:=FX _ (hG.trans bn);refine ao @bQ @wd ?_;refine je bD.d bD.e bD.w (by have:=bD.lt;omega) (by have:=bD.lt;omega) (by have:=bD.lt;omega) (by omega) (by omega) (by omega) ?_;intro O5 gu nH fl cV fA;simp only[ar]at cV;refine gW @bQ @wd @fl @cV @fA ?_;exact⟨⟨by have:=bD.lt;omega,fun i hi=>by rw[nH i (by have:=bD.lt;omega) (by omega) (by omega) (by omega)];exact bD.oW i hi⟩,rfl⟩
  rintro m O8 ⟨bn,h⟩;cases W2 with
  | error e=>exact h.elim
  | ok sa=>
  dsimp only at h iD;subst h;simp only[aj]
  replace hG:=hG.trans bn
  clear bn;refine⟨jm _ hG,?_⟩;refine ab.pP (i:=5) (oA O8) ?_ ?_;rotate_left
  ·rintro m O9 ⟨bn,h⟩;cases W3 with
   | ok s=>exact h.elim
   | error e=>
     dsimp only at h iD;rw[iD]at hP;dsimp only at hP;rw[h, <-hP];have bD:=FX _ (hG.trans bn);refine ao @bQ @wd ?_;refine je bD.d bD.e bD.w (by have:=bD.lt;omega) (by have:=bD.lt;omega) (by have:=bD.lt;omega) (by omega) (by omega) (by omega) ?_;intro O5 gu nH fl cV fA;simp only[ar]at cV;refine gW @bQ @wd @fl @cV @fA ?_;exact⟨⟨by have:=bD.lt;omega,fun i hi=>by rw[nH i (by have:=bD.lt;omega) (by omega) (by omega) (by omega)];exact bD.oW i hi⟩,rfl⟩
  rintro m OF ⟨bn,h⟩;cases W3 with
  | error e=>exact h.elim
  | ok sv=>
  dsimp only at h iD;subst h;simp only[aj]
  replace hG:=hG.trans bn
  clear bn;refine⟨jm _ hG,?_⟩;refine ab.av 6 ?_;refine ae @bQ ?_;refine ab.mT [(7,.av),(8,.one)] ?_;have bD:=(FX _ hG).aiq (k:=O3.next) (x:=.cells [.str yn,.sl ya.length (ya.flatMap aY) .aq,.sl yk.length (ay yk) .aq,.str yt,.str wy]) (by omega);have cK:=(FX _ hG).d;have aeI:=bD.st (cs':=[mb true,.str sg,.str sa,.str sv,.str [],.str [],.str [],.str [],.sl 0 [] .nil,.sl 0 [] .nil,.sl 0 [] .nil]);simp only[a_]at aeI;refine aI @bQ @wd @cK ?_;exact aA.mk (true,⟨sg,sa,sv⟩) ⟨aeI,iD⟩
 rintro p O3 ⟨hd,hQ⟩;rw[hQ]at hP;dsimp only at hP;clear hQ hfp;have ez:=hd.x;have cK:=hd.d;refine VC.ag aa (aI @bQ @wd @ez ?_);refine ah.p (qU dS false dH 251 [] _ hx hw (by decide) (by kernel_rfl) (fun s O' _ _=>sO s O')) ?_ ?_;rotate_left
 ·rintro m O9 ⟨bn,h⟩;have bD:=hd.ge bn;cases hF:bN (.mk zn za cR zt) zn dS false dH with
  | ok s=>rw[hF]at h;exact h.elim
  | error e=>
    rw[hF]at h hP;dsimp only at h hP;rw[h, <-hP];refine ao @bQ @wd ?_;refine je bD.d bD.e bD.w (by have:=bD.lt;omega) (by have:=bD.lt;omega) (by have:=bD.lt;omega) (by omega) (by omega) (by omega) ?_;intro O5 gu nH fl cV fA;simp only[ar]at cV;refine gW @bQ @wd @fl @cV @fA ?_;exact⟨⟨by have:=bD.lt;omega,fun i hi=>by rw[nH i (by have:=bD.lt;omega) (by omega) (by omega) (by omega)];exact bD.oW i hi⟩,rfl⟩
 rintro m O4 ⟨bn,h⟩;cases PV:bN (.mk zn za cR zt) zn dS false dH with
 | error e=>rw[PV]at h;exact h.elim
 | ok s1=>
 rw[PV]at h hP;dsimp only at h hP;subst h;have hb:=hd.ge bn;clear bn hd;have cK:=hb.d;refine aI @bQ @wd @cK ?_;refine VC.rs hb ?_;clear ez cK hb;intro _ hd;have ez:=hd.x;have cK:=hd.d;refine VC.ag aa (aI @bQ @wd @ez ?_);refine ah.p (qU dL true dH 251 [] _ hx hw (by decide) (by kernel_rfl) (fun s O' _ _=>sO s O')) ?_ ?_;rotate_left
 ·rintro m O9 ⟨bn,h⟩;have bD:=hd.ge bn;cases hF:bN (.mk zn za cR zt) zn dL true dH with
  | ok s=>rw[hF]at h;exact h.elim
  | error e=>
    rw[hF]at h hP;dsimp only at h hP;rw[h, <-hP];refine ao @bQ @wd ?_;refine je bD.d bD.e bD.w (by have:=bD.lt;omega) (by have:=bD.lt;omega) (by have:=bD.lt;omega) (by omega) (by omega) (by omega) ?_;intro O5 gu nH fl cV fA;simp only[ar]at cV;refine gW @bQ @wd @fl @cV @fA ?_;exact⟨⟨by have:=bD.lt;omega,fun i hi=>by rw[nH i (by have:=bD.lt;omega) (by omega) (by omega) (by omega)];exact bD.oW i hi⟩,rfl⟩
 rintro m O5 ⟨bn,h⟩;cases IN:bN (.mk zn za cR zt) zn dL true dH with
 | error e=>rw[IN]at h;exact h.elim
 | ok s2=>
 rw[IN]at h hP;dsimp only at h hP;subst h;have hb:=hd.ge bn;clear bn hd;have cK:=hb.d;refine aI @bQ @wd @cK ?_;refine VC.rs hb ?_;clear ez cK hb;intro _ hd;have ez:=hd.x;have cK:=hd.d;refine VC.ag aa (aI @bQ @wd @ez ?_);refine ah.p (qU fp false dH 251 [] _ hx hw (by decide) (by kernel_rfl) (fun s O' _ _=>sO s O')) ?_ ?_;rotate_left
 ·rintro m O9 ⟨bn,h⟩;have bD:=hd.ge bn;cases hF:bN (.mk zn za cR zt) zn fp false dH with
  | ok s=>rw[hF]at h;exact h.elim
  | error e=>
    rw[hF]at h hP;dsimp only at h hP;rw[h, <-hP];refine ao @bQ @wd ?_;refine je bD.d bD.e bD.w (by have:=bD.lt;omega) (by have:=bD.lt;omega) (by have:=bD.lt;omega) (by omega) (by omega) (by omega) ?_;intro O5 gu nH fl cV fA;simp only[ar]at cV;refine gW @bQ @wd @fl @cV @fA ?_;exact⟨⟨by have:=bD.lt;omega,fun i hi=>by rw[nH i (by have:=bD.lt;omega) (by omega) (by omega) (by omega)];exact bD.oW i hi⟩,rfl⟩
 rintro m O6 ⟨bn,h⟩;cases PW:bN (.mk zn za cR zt) zn fp false dH with
 | error e=>rw[PW]at h;exact h.elim
 | ok s3=>
 rw[PW]at h hP;dsimp only at h hP;subst h;have hb:=hd.ge bn;clear bn hd;have cK:=hb.d;refine aI @bQ @wd @cK ?_;refine VC.rs hb ?_;clear ez cK hb;intro _ hd;have ez:=hd.x;have cK:=hd.d;refine VC.ag aa (aI @bQ @wd @ez ?_);refine ah.p (qU xh false dH 251 [] _ hx hw (by decide) (by kernel_rfl) (fun s O' _ _=>sO s O')) ?_ ?_;rotate_left
 ·rintro m O9 ⟨bn,h⟩;have bD:=hd.ge bn;cases hF:bN (.mk zn za cR zt) zn xh false dH with
  | ok s=>rw[hF]at h;exact h.elim
  | error e=>
    rw[hF]at h hP;dsimp only at h hP;rw[h, <-hP];refine ao @bQ @wd ?_;refine je bD.d bD.e bD.w (by have:=bD.lt;omega) (by have:=bD.lt;omega) (by have:=bD.lt;omega) (by omega) (by omega) (by omega) ?_;intro O5 gu nH fl cV fA;simp only[ar]at cV;refine gW @bQ @wd @fl @cV @fA ?_;exact⟨⟨by have:=bD.lt;omega,fun i hi=>by rw[nH i (by have:=bD.lt;omega) (by omega) (by omega) (by omega)];exact bD.oW i hi⟩,rfl⟩
 rintro m O7 ⟨bn,h⟩;cases Zl:bN (.mk zn za cR zt) zn xh false dH with
 | error e=>rw[Zl]at h;exact h.elim
 | ok s4=>
 rw[Zl]at h hP;dsimp only at h hP;subst h;have hb:=hd.ge bn;clear bn hd;have cK:=hb.d;refine aI @bQ @wd @cK ?_;refine VC.rs hb ?_;clear ez cK hb;intro _ hd;have ez:=hd.x;have cK:=hd.d;refine VC.ag aa (aI @bQ @wd @ez ?_);refine ah.p (hpr _ hx hw) ?_ ?_;rotate_left
 ·rintro m O9 ⟨bn,h⟩;have bD:=hd.ge bn;cases hF:k7 (.mk zn za cR zt) zn with
  | ok s=>rw[hF]at h;exact h.elim
  | error e=>
    rw[hF]at h hP;dsimp only at h hP;rw[h, <-hP];refine ao @bQ @wd ?_;refine je bD.d bD.e bD.w (by have:=bD.lt;omega) (by have:=bD.lt;omega) (by have:=bD.lt;omega) (by omega) (by omega) (by omega) ?_;intro O5 gu nH fl cV fA;simp only[ar]at cV;refine gW @bQ @wd @fl @cV @fA ?_;exact⟨⟨by have:=bD.lt;omega,fun i hi=>by rw[nH i (by have:=bD.lt;omega) (by omega) (by omega) (by omega)];exact bD.oW i hi⟩,rfl⟩
 rintro m O8 ⟨bn,h⟩;cases hFP:k7 (.mk zn za cR zt) zn with
 | error e=>rw[hFP]at h;exact h.elim
 | ok P=>
 rw[hFP]at h hP;dsimp only at h hP;have hb:=hd.ge bn;clear bn hd;have cK:=hb.d;obtain⟨tP,rfl⟩:=h;refine aI @bQ @wd @cK ?_;refine VC.rs hb ?_;clear ez cK hb;intro O9 hd;refine VC.bJ [1,2,3,4,5] (fun _:List Dp×Tok=>[.ptr O.next 0,.ptr (O.next+1) 0,.ptr (O.next+2) 0,.ptr (O.next+3) 0,.ptr (O.next+4) 0]) (fun x O'=>vh O [.str zn,.sl za.length (za.flatMap aY) .aq,.sl cR.length (ay cR) .aq,.str zt,.str zn] O' [mb p.1,.str p.2.g,.str p.2.a,.str p.2.v,.str s1,.str s2,.str s3,.str s4,.sl P.length (P.flatMap aY) tP,.sl x.1.length (x.1.flatMap aQ) x.2,.sl 0 [] .nil]/\vi (.mk zn za cR zt) zn= .ok x.1) ?_ ?_
 ·have uU:= @rR (.mk zn za cR zt) zn rL;have uV:∀e,cn (.mk zn za cR zt) zn rL= .error e->vi (.mk zn za cR zt) zn= .error e:=fun e h=>by unfold vi;rw[h]
  have nE:∀y wy,cn (.mk zn za cR zt) zn rL= .ok ((y,wy),false)->vi (.mk zn za cR zt) zn= .ok []:=fun y wy h=>by unfold vi;rw[h]
  have iD:∀y wy,cn (.mk zn za cR zt) zn rL= .ok ((y,wy),true)->vi (.mk zn za cR zt) zn=lH y wy true:=fun y wy h=>by unfold vi;rw[h]
  generalize vi (.mk zn za cR zt) zn=QE at*;generalize cn (.mk zn za cR zt) zn rL=F at*;have ez:=hd.x;have cK:=hd.d;refine VC.ag aa (aI @bQ @wd @ez ?_);refine ah.p (hfm _ (by have:=jS (.mk zn za cR zt);omega) (by omega) (by decide)) ?_ ?_;rotate_left
  ·rintro m O9 ⟨bn,h⟩;have bD:=hd.ge bn;cases F with
   | ok y=>exact h.elim
   | error e=>
     dsimp only at h;rw[uV e rfl]at hP;dsimp only at hP;rw[h, <-hP];refine ao @bQ @wd ?_;refine je bD.d bD.e bD.w (by have:=bD.lt;omega) (by have:=bD.lt;omega) (by have:=bD.lt;omega) (by omega) (by omega) (by omega) ?_;intro O5 gu nH fl cV fA;simp only[ar]at cV;refine gW @bQ @wd @fl @cV @fA ?_;exact⟨⟨by have:=bD.lt;omega,fun i hi=>by rw[nH i (by have:=bD.lt;omega) (by omega) (by omega) (by omega)];exact bD.oW i hi⟩,rfl⟩
  rintro m O3 ⟨aJ,h⟩;cases F with
  | error e=>exact h.elim
  | ok y=>
  obtain⟨⟨y,wy⟩,b⟩:=y;dsimp only at h;subst h;obtain⟨Ze,uW⟩:=uU rfl;have ox:wy.length<=4000:=by rw[uW];simp only[List.length_append,List.length_cons,List.length_nil];omega
  have ZL:ky y<=1000000:=by omega
  clear uU uW uV
  replace iD:=fun h:b=true=>by subst h;exact iD y wy rfl
  replace nE:b=false->QE= .ok []:=fun h=>by subst h;exact nE y wy rfl
  have qm:=fun O'=>R0 y wy true O' ZL ox
  generalize lH y wy true=W1 at*;obtain⟨yn,ya,yk,yt⟩:=y;simp only[kx,df,List.cons_append,List.nil_append]at qm ⊢;have cu:=hd.ge aJ;have lN:=cu.lt;refine ao @bQ @wd ?_;refine VC.al ?_;rintro O4 ⟨bg,ja,gM⟩;have cQ:=cu.ge bg;clear hd cu aJ bg ez;cases b
  ·rw[nE rfl]at hP ⊢;refine WC.sound aa (ao @bQ @wd ?_);exact aA.mk ([],.nil) ⟨cQ,rfl⟩
  replace iD:=iD rfl
  clear nE;subst iD;refine VC.ag aa (ao @bQ @wd ?_);refine WC.sound aa (aI @bQ @wd @ja ?_);refine ah.p (qm O4) ?_ ?_;rotate_left
  ·rintro m O9 ⟨bn,h⟩;have bD:=cQ.ge bn;cases QE with
   | ok s=>exact h.elim
   | error e=>
     dsimp only at h hP;rw[h, <-hP];refine ao @bQ @wd ?_;refine je bD.d bD.e bD.w (by have:=bD.lt;omega) (by have:=bD.lt;omega) (by have:=bD.lt;omega) (by omega) (by omega) (by omega) ?_;intro O5 gu nH fl cV fA;simp only[ar]at cV;refine gW @bQ @wd @fl @cV @fA ?_;exact⟨⟨by have:=bD.lt;omega,fun i hi=>by rw[nH i (by have:=bD.lt;omega) (by omega) (by omega) (by omega)];exact bD.oW i hi⟩,rfl⟩
  rintro m O5 ⟨bW,h⟩;cases QE with
  | error e=>exact h.elim
  | ok M=>
  dsimp only at h;obtain⟨tM,rfl⟩:=h;have cV:=cQ.ge bW;have cK:=cV.d;have hbs:=cV.st (cs':=[mb p.1,.str p.2.g,.str p.2.a,.str p.2.v,.str s1,.str s2,.str s3,.str s4,.sl P.length (P.flatMap aY) tP,.sl M.length (M.flatMap aQ) tM,.sl 0 [] .nil]);simp only[a_]at hbs cK;refine aI @bQ @wd @cK ?_;exact aA.mk (M,tM) ⟨hbs,rfl⟩
 rintro⟨M,tM⟩ OA ⟨hd,hM⟩;rw[hM]at hP;dsimp only at hP hd;have ez:=hd.x;refine VC.ag aa (aI @bQ @wd @ez ?_);refine ah.p (zR _ hx (by omega)) ?_ ?_;rotate_left
 ·rintro m O9 ⟨bn,h⟩;have bD:=hd.ge bn;cases hF:lH (.mk zn za cR zt) zn false with
  | ok s=>rw[hF]at h;exact h.elim
  | error e=>
    rw[hF]at h hP;dsimp only at h hP;rw[h, <-hP];refine ao @bQ @wd ?_;refine je bD.d bD.e bD.w (by have:=bD.lt;omega) (by have:=bD.lt;omega) (by have:=bD.lt;omega) (by omega) (by omega) (by omega) ?_;intro O5 gu nH fl cV fA;simp only[ar]at cV;refine gW @bQ @wd @fl @cV @fA ?_;exact⟨⟨by have:=bD.lt;omega,fun i hi=>by rw[nH i (by have:=bD.lt;omega) (by omega) (by omega) (by omega)];exact bD.oW i hi⟩,rfl⟩
 rintro m OB ⟨bn,h⟩;cases aeJ:lH (.mk zn za cR zt) zn false with
 | error e=>rw[aeJ]at h;exact h.elim
 | ok DD=>
 rw[aeJ]at h hP;dsimp only at h hP;have hb:=hd.ge bn;clear bn hd;have cK:=hb.d;obtain⟨tD,rfl⟩:=h;simp only[a_]at cK;refine aI @bQ @wd @cK ?_;rw[<-hP];refine VC.rs hb ?_;clear ez cK hb;intro O9 hd;have cK:=hd.d;have ZM:=hd.e;have hbw:=hd.w;have hl9:=hd.lt;simp only[ar]at ZM;refine VC.ag aa (gW @bQ @wd @cK @ZM @hbw ?_);refine WC.sound aa (ao @bQ @wd ?_);refine ZK ?_;refine gW @bQ @wd @cK @ZM @hbw ?_;refine⟨⟨by show O.next<=O9.next;omega,fun i hi=>?_⟩,?_⟩
 ·rw[VH.ak _ _ (by omega),VH.ak _ _ (by omega),VH.ak _ _ (by omega)];exact hd.oW i hi
 ·simp only[fY,wu,fS,kV,a_]
section
variable {α :Type} {c: α -> α ->Int} {a b d e l m n:List α}
def eqv (c: α -> α ->Int) (x y: α):Bool:=decide (c x y=0)
def St (c: α -> α ->Int) (l m:List α):Prop:=∀x,l.filter (eqv c x)=m.filter (eqv c x)
end
section
variable {P:Program} {n:Sz} {D:List Deferred} {e:Env} {O:VH}
theorem p7 {d:Option Tmp} {t t' ty el:TypeId} {x:Operand} {ps:String} {af:Array Edge} {g:Option (Nat×Bool)} {k:Nat} {cs:List MV} {tk:Tok} (hu:P.underlying t=some (.slice el)) (hx:ev e x=some (.sl k cs tk)):
  fM P n D (.mk d (.binOp .eql t x (.const (.slice none 0 0)) t') ty ps af g) e O fun m O'=>O'=O/\∃b,m= .v (.bool b)/\(b=true->k=0/\cs=[]):=by
 intro G a w hw hf;have h1:=hf.ev hx;have hc:a.eval (.const (.slice none 0 0))= .slice none 0 0:=rfl
 have key:∀(A:Option Addr) (l c:Nat),a.eval x= .slice A l c->(A=none->k=0/\cs=[])->∃m O' u w' H,(O'=O/\∃b,m= .v (.bool b)/\(b=true->k=0/\cs=[]))/\(execOp a.eval (.mk d (.binOp .eql t x (.const (.slice none 0 0)) t') ty ps af g)).run P w= .ok (.value u) w'/\Gh.Le G H/\WR H O' w'/\VR H m u:=fun A l c ha hA=>by
  refine⟨.v (.bool A.isNone),O,.bool A.isNone,w,G,⟨rfl,_,rfl,fun h=>hA (by cases A<;>first | rfl | cases h)⟩,?_,Gh.Le.refl G,hw,.v rfl⟩;have OU:(eqGuard .eql t x (.const (.slice none 0 0)) (.slice A l c) (.slice none 0 0)).run P w= .ok () w:=by simp[eqGuard]
  simp only[execOp,ha,hc,Sem.run_bind,OU,Result.andThen_ok,run_eql_slice_nil w t el A l c hu];rfl
 generalize hv:a.eval x=v at h1;cases h1 with
 | slnil=>exact key none 0 0 hv fun _=>⟨rfl,rfl⟩
 | nP h=>exact key _ _ _ hv fun _=>⟨rfl,rfl⟩
 | jH=>exact key none 0 0 hv fun _=>⟨rfl,rfl⟩
 | sl h1 h2 h3 h4 h5 h6=>exact key _ _ _ hv fun h=>by cases h
end
theorem nI {tab:b9} {op:BinOp} {t:TypeId} {n:Nat} {cs:List MV} {tk:Tok} {y:MV}:cX tab op t (.sl n cs tk) y=none:=rfl
theorem Vr (x:Gv):(bS x).length=3:=rfl
theorem Vs (L:List Gv):cO (L.flatMap bS)=L.flatMap bS:=kE (fun x=>by simp only[bS,wu]) L
theorem VF.Vt {P:Program} {f:FuncId} {To:List MV} {O:VH} {Φ Ψ :MV->VH->Prop} (h:VF P f To O (aD Φ)) (hw:∀m O', Φ m O'->∃m',Wk m m'/\ Ψ m' O'):VF P f To O (aD Ψ):=fun G w vs qM hv=>by
 refine(h G w vs qM hv).mono ?_;rintro x w' ⟨r,O',H,h1,h2,h3,h4⟩;cases r with
 | ret m=>cases x with
   | returned v=>
     obtain⟨m',k1,k2⟩:=hw m O' h4;exact⟨.ret m',O',H,h1,h2,k1 H v h3,k2⟩
   | _=>exact h3.elim
 | panic m=>exact h4.elim
set_option linter.defProp false in
def jQ:=And.intro bQ<|And.intro xf AI
theorem AU (L:List (Bs×Bs)) (tk:Tok) (O:VH) (hn:L.length<=100000):VF Tryz.prog 114 [.sl L.length (L.flatMap aY) tk] O (aD fun m O'=>∃t,m= .sl L.length (L.flatMap aY) t/\App O' O.next 2 t/\O.Ge O'):=by
 have dK:=aT fa L;refine VF.du 8 [.tmp 2] Tryz.func114 ?_;refine ao @jQ @nI ?_;refine VL.pq (p7 Tryz.underlying104 rfl) ?_;rintro _ O1 ⟨eO,b,rfl,hb⟩;rw[eO];clear eO O1
 refine WL.sound aa ?_;cases b
 ·refine ae @jQ ?_;by_cases h0:L.length=0
  ·have hL:L=[]:=List.eq_nil_of_length_eq_zero h0;subst hL;refine VL.app (m:=.sl 0 [] .full) (O':=O) (by simp[gY,zA,BT.1.1]) ?_ (ht:=aa) (hx:=rfl) (hy:=rfl);refine ae @jQ ?_;exact⟨.full,rfl,trivial,VH.Ge.refl _⟩
  ·have gV:(L.flatMap aY).all dJ=true:=by
    rw[List.all_flatMap,List.all_eq_true];intro p _;rfl
   have kI:=bo (tk:=.full) (tk':=tk) (B:=O.next) (n:=0) (k:=L.length) (cs:=[]) (ds:=L.flatMap aY) zA BT.1.1 (O:=O) trivial rfl dK gV (by decide) h0 (by omega) (by simp[maxLen];omega);rw[Nat.zero_add,List.nil_append]at kI;refine VL.lh kI (by rw[rG,fS]) ?_;refine ae @jQ ?_;exact⟨_,rfl,App.after (Nat.le_refl _),cP.Cl (tk:=.full) (sz:=2) trivial (cP.after (sz:=2) (B:=0) trivial)⟩
 ·obtain⟨h0,h1⟩:=hb rfl;rw[h0,h1];refine ae @jQ ?_;exact⟨.nil,rfl,trivial,VH.Ge.refl _⟩
theorem EC (L:List (Bs×Bs)) (tk:Tok) (O:VH) (hn:L.length<=100000):VF Tryz.prog 114 [.sl L.length (L.flatMap aY) tk] O (aD fun m O'=>m= .sl L.length (L.flatMap aY) .aq/\O.Ge O'):=
 VF.Vt (AU L tk O hn) fun m O' ⟨t,h1,h2,h3⟩=>⟨_,h1▸Wk.tok,rfl,h3⟩
theorem Vu (L:List (Dp)) (tk:Tok) (O:VH) (hn:L.length<=100000):VF Tryz.prog 115 [.sl L.length (L.flatMap aQ) tk] O (aD fun m O'=>∃t,m= .sl L.length (L.flatMap aQ) t/\App O' O.next 8 t/\O.Ge O'):=by
 have dK:=aT fX L;refine VF.du 8 [.tmp 2] Tryz.func115 ?_;refine ao @jQ @nI ?_;refine VL.pq (p7 Tryz.underlying103 rfl) ?_;rintro _ O1 ⟨eO,b,rfl,hb⟩;rw[eO];clear eO O1
 refine WL.sound aa ?_;cases b
 ·refine ae @jQ ?_;by_cases h0:L.length=0
  ·have hL:L=[]:=List.eq_nil_of_length_eq_zero h0;subst hL;refine VL.app (m:=.sl 0 [] .full) (O':=O) (by simp[gY,uP,AH.1.1]) ?_ (ht:=aa) (hx:=rfl) (hy:=rfl);refine ae @jQ ?_;exact⟨.full,rfl,trivial,VH.Ge.refl _⟩
  ·have gV:(L.flatMap aQ).all dJ=true:=by
    rw[List.all_flatMap,List.all_eq_true];intro p _;rfl
   have kI:=bo (tk:=.full) (tk':=tk) (B:=O.next) (n:=0) (k:=L.length) (cs:=[]) (ds:=L.flatMap aQ) uP AH.1.1 (O:=O) trivial rfl dK gV (by decide) h0 (by omega) (by simp[maxLen];omega);rw[Nat.zero_add,List.nil_append]at kI;refine VL.lh kI (by rw[rG,kV]) ?_;refine ae @jQ ?_;exact⟨_,rfl,App.after (Nat.le_refl _),cP.Cl (tk:=.full) (sz:=8) trivial (cP.after (sz:=8) (B:=0) trivial)⟩
 ·obtain⟨h0,h1⟩:=hb rfl;rw[h0,h1];refine ae @jQ ?_;exact⟨.nil,rfl,trivial,VH.Ge.refl _⟩
theorem P3 (L:List (Dp)) (tk:Tok) (O:VH) (hn:L.length<=100000):VF Tryz.prog 115 [.sl L.length (L.flatMap aQ) tk] O (aD fun m O'=>m= .sl L.length (L.flatMap aQ) .aq/\O.Ge O'):=
 VF.Vt (Vu L tk O hn) fun m O' ⟨t,h1,h2,h3⟩=>⟨_,h1▸Wk.tok,rfl,h3⟩
theorem Vv (L:List (fJ)) (tk:Tok) (O:VH) (hn:L.length<=100000):VF Tryz.prog 117 [.sl L.length (L.flatMap bV) tk] O (aD fun m O'=>∃t,m= .sl L.length (L.flatMap bV) t/\App O' O.next 2 t/\O.Ge O'):=by
 have dK:=aT mV L;refine VF.du 8 [.tmp 2] Tryz.func117 ?_;refine ao @jQ @nI ?_;refine VL.pq (p7 Tryz.underlying61 rfl) ?_;rintro _ O1 ⟨eO,b,rfl,hb⟩;rw[eO];clear eO O1
 refine WL.sound aa ?_;cases b
 ·refine ae @jQ ?_;by_cases h0:L.length=0
  ·have hL:L=[]:=List.eq_nil_of_length_eq_zero h0;subst hL;refine VL.app (m:=.sl 0 [] .full) (O':=O) (by simp[gY,DW,BR.1.1]) ?_ (ht:=aa) (hx:=rfl) (hy:=rfl);refine ae @jQ ?_;exact⟨.full,rfl,trivial,VH.Ge.refl _⟩
  ·have gV:(L.flatMap bV).all dJ=true:=by
    rw[List.all_flatMap,List.all_eq_true];intro p _;rfl
   have kI:=bo (tk:=.full) (tk':=tk) (B:=O.next) (n:=0) (k:=L.length) (cs:=[]) (ds:=L.flatMap bV) DW BR.1.1 (O:=O) trivial rfl dK gV (by decide) h0 (by omega) (by simp[maxLen];omega);rw[Nat.zero_add,List.nil_append]at kI;refine VL.lh kI (by rw[rG,mW]) ?_;refine ae @jQ ?_;exact⟨_,rfl,App.after (Nat.le_refl _),cP.Cl (tk:=.full) (sz:=2) trivial (cP.after (sz:=2) (B:=0) trivial)⟩
 ·obtain⟨h0,h1⟩:=hb rfl;rw[h0,h1];refine ae @jQ ?_;exact⟨.nil,rfl,trivial,VH.Ge.refl _⟩
theorem sS (L:List (fJ)) (tk:Tok) (O:VH) (hn:L.length<=100000):VF Tryz.prog 117 [.sl L.length (L.flatMap bV) tk] O (aD fun m O'=>m= .sl L.length (L.flatMap bV) .aq/\O.Ge O'):=
 VF.Vt (Vv L tk O hn) fun m O' ⟨t,h1,h2,h3⟩=>⟨_,h1▸Wk.tok,rfl,h3⟩
theorem wA (L:List (Gv)) (tk:Tok) (O:VH) (hn:L.length<=100000):VF Tryz.prog 122 [.sl L.length (L.flatMap bS) tk] O (aD fun m O'=>∃t,m= .sl L.length (L.flatMap bS) t/\App O' O.next 3 t/\O.Ge O'):=by
 have dK:=aT Vr L;refine VF.du 8 [.tmp 2] Tryz.func122 ?_;refine ao @jQ @nI ?_;refine VL.pq (p7 Tryz.underlying222 rfl) ?_;rintro _ O1 ⟨eO,b,rfl,hb⟩;rw[eO];clear eO O1
 refine WL.sound aa ?_;cases b
 ·refine ae @jQ ?_;by_cases h0:L.length=0
  ·have hL:L=[]:=List.eq_nil_of_length_eq_zero h0;subst hL;refine VL.app (m:=.sl 0 [] .full) (O':=O) (by simp[gY,xf,AI.1.1]) ?_ (ht:=aa) (hx:=rfl) (hy:=rfl);refine ae @jQ ?_;exact⟨.full,rfl,trivial,VH.Ge.refl _⟩
  ·have gV:(L.flatMap bS).all dJ=true:=by
    rw[List.all_flatMap,List.all_eq_true];intro p _;rfl
   have kI:=bo (tk:=.full) (tk':=tk) (B:=O.next) (n:=0) (k:=L.length) (cs:=[]) (ds:=L.flatMap bS) xf AI.1.1 (O:=O) trivial rfl dK gV (by decide) h0 (by omega) (by simp[maxLen];omega);rw[Nat.zero_add,List.nil_append]at kI;refine VL.lh kI (by rw[rG,Vs]) ?_;refine ae @jQ ?_;exact⟨_,rfl,App.after (Nat.le_refl _),cP.Cl (tk:=.full) (sz:=3) trivial (cP.after (sz:=3) (B:=0) trivial)⟩
 ·obtain⟨h0,h1⟩:=hb rfl;rw[h0,h1];refine ae @jQ ?_;exact⟨.nil,rfl,trivial,VH.Ge.refl _⟩
theorem ED (L:List Dp) (tk:Tok) (O:VH) (hn:L.length<=100000):VF Tryz.prog 115 [.sl L.length (L.flatMap aQ) tk] O (aD fun m O'=>O.Ge O'/\GR O' 63 8 O.next m L.length (L.flatMap aQ)):=by
 have dK:=aT fX L
 have gV:(L.flatMap aQ).all dJ=true:=by
  rw[List.all_flatMap,List.all_eq_true];intro p _;rfl
 refine VF.du 8 [.tmp 2] Tryz.func115 ?_;refine ao @jQ @nI ?_;refine VL.pq (p7 Tryz.underlying103 rfl) ?_;rintro _ O1 ⟨eO,b,rfl,hb⟩;rw[eO];clear eO O1
 refine WL.sound aa ?_;cases b
 ·refine ae @jQ ?_;refine VL.grow aa (.inl rfl) (te:=⟨_,8,_,_⟩) (B:=O.next) (n':=0) (L:=[]) (dx:=.slice 63) (p:=.sl 0 [] .full) (q:=.sl L.length (L.flatMap aQ) tk) (j:=L.length) (ds:=L.flatMap aQ) (.inl ⟨rfl,rfl,.inr rfl⟩) (by simp[yX,dK]) gV (by rw[uP];rfl) AH.1.1 (by rw[uP];rfl) trivial (by dsimp only;omega) (by simp only[maxLen];omega) (Nat.le_refl _) rfl rfl rfl rfl ?_;intro m O' h1 h2 h3 h4;rw[Nat.zero_add,List.nil_append]at h1;refine ae @jQ ?_;exact⟨h3 rfl,h1⟩
 ·obtain⟨h0,h1⟩:=hb rfl;rw[h0,h1];refine ae @jQ ?_;exact⟨VH.Ge.refl _,.inl ⟨rfl,rfl,.inl rfl⟩⟩
theorem AV:laidOutB Tryz.prog=true:=by kernel_rfl
theorem vm:tr Tryz.prog 67 3:=tr.sA AV (by kernel_rfl)
theorem B1:tr Tryz.prog 140 2:=tr.sA AV (by kernel_rfl)
theorem qY:tr Tryz.prog 30 4:=tr.sA AV (by kernel_rfl)
set_option linter.defProp false in
def B2:=And.intro eD<|And.intro RM<|And.intro T58<|And.intro T94<|And.intro T95<|And.intro RN<|And.intro aej uO
theorem agv (x:Gv) (O:VH):VF Tryz.prog 63 [.agg (bS x)] O (aD fun m O'=>m= .agg (bV ⟨x.g,x.a⟩)/\O.Ge O'):=by
 obtain⟨g,a,v⟩:=x;have hg:=((VH.Ge.refl O).push (.cells [.str g,.str a,.str v])).push (.cells [.str [],.str []]);unfold bS bV;refine VF.du 8 [.cell 2 140] Tryz.func63 ?_;refine ae @B2 ?_;exact hg.set (Nat.le_succ _) _
def eA (x:Gv):List Bs:=[x.g,x.a,x.v]
def z7 (x:fJ):List Bs:=[x.g,x.a]
theorem ac6 (x:Gv):bS x=(eA x).map .str:=rfl
def sT (x:Gv):Prop:=x.g.length<=maxLen/\x.a.length<=maxLen/\x.v.length<=maxLen
theorem vo {x:Gv} (h:sT x):∀s∈eA x,s.length<=maxLen:=by
 intro s hs;simp only[eA,List.mem_cons,List.not_mem_nil,or_false]at hs;rcases hs with rfl | rfl | rfl
 ·exact h.1
 ·exact h.2.1
 ·exact h.2.2
structure F0 (O:VH) (k ke kv:Nat) (E:fj) (ce:Nat) (V:fj) (cv:Nat) (r a:Int):Prop where
 cell:O.hp k=some (.cells [.map ke,.map kv,mi r,mi a])
 B3:O.hp ke=some (.map (cG E) ce)
 Hr:O.hp kv=some (.map (cG V) cv)
 LY:nU 3 E
 vok:nU 2 V
 ptr:∀p∈E,∃q,p.2.1= .ptr q 0
 lt:k<O.next/\ke<O.next/\kv<O.next
 ne:k≠ke/\k≠kv/\ke≠kv
def AW (E:fj) (x:Gv):Bool:=(iX (eA x) E).isSome
theorem ZN {E:fj} (h:∀p∈E,∃q,p.2.1=MV.ptr q 0) {l:List Bs} {m:MV} (hl:iX l E=some m):∃q,m= .ptr q 0:=by
 unfold iX at hl;obtain⟨p,h1,rfl⟩:=Option.map_eq_some_iff.1 hl;exact h p (List.mem_of_find?_eq_some h1)
theorem R5 {O:VH} {k ke kv ce cv:Nat} {E V:fj} {r a:Int} (h:F0 O k ke kv E ce V cv r a) (x:Gv) (hx:sT x):VF Tryz.prog 62 [.ptr k 0,.agg (bS x)] O (aD fun m O'=>m=mb (AW E x)/\O.Ge O'):=by
 have hl:=vo hx;have sm:=h.cell;simp only[ar]at sm;unfold AW;rw[ac6];generalize hL:eA x=L at*;have om:L.length=3:=by rw[<-hL];rfl
 obtain⟨g,a',v⟩:=x;have hLc:L.map MV.str=[.str g,.str a',.str v]:=by rw[<-hL];rfl
 rw[hLc];refine VF.bO 16 [.tmp 4] Tryz.func62 ?_;refine VC.ag aa (ae @B2 ?_);refine VC.bx ?_;rintro O1 ⟨aM,dT,c5⟩;have air:=(aM.hp _ h.lt.1).trans sm;have ais:=(aM.hp _ h.lt.2.1).trans h.B3;refine VC.bC ?_;refine WC.bH (.held []) [(0,.rd),(1,.rd),(2,.rd),(3,.rd),(4,.rd),(5,.rd),(6,.rd),(7,.rd),(8,.rd),(9,.rd),(10,.rd),(11,.rd)] ?_;refine aI @B2 @air @dT ?_;refine VL.hold (.inr rfl) rfl rfl (fI.lA vm aa (l:=L) (te:=⟨_,1,8,[.v (.pointer none)]⟩) Tryz.underlying94 RN rfl rfl ais h.LY (by rw[hLc];rfl) om hl) (WL.sound aa ?_);cases fO:iX L E with
 | none=>
   refine ae @B2 ?_;refine WC.sound aa (ae @B2 ?_);exact aM
 | some m=>
   obtain⟨p,rfl⟩:=ZN h.ptr fO;refine ae @B2 ?_;refine WC.sound aa (ae @B2 ?_);exact aM
section
variable {G H:Gh} {n:Sz} {D:List Deferred} {e e':Env} {a:Act} {P:Program} {tab:b9} {O O':VH} {w:World} {m m':MV} {u v:Value} {ops:Array Oper} {Q:VQ} {md:Md}
def P4 (G:Gh):List Deferred->List (FuncId×List MV)->Prop
 | [],[]=>True
 | d::D,p::ds=>(∃us:List Value,d={target:=.fn (.func p.1) #[],args:=us.toArray}/\aO G p.2 us)/\P4 G D ds
 | _,_=>False
theorem P4.mono (h:G.Le H):∀{D:List Deferred} {ds:List (FuncId×List MV)},P4 G D ds->P4 H D ds
 | [],[],_=>trivial
 | _::_,_::_,⟨⟨us,h1,h2⟩,h3⟩=>⟨⟨us,h1,h2.mono h⟩,h3.mono h⟩
 | [],_::_,h=>h.elim
 | _::_,[],h=>h.elim
def LZ (P:Program):List (FuncId×List MV)->VH->(VH->Prop)->Prop
 | [],O,K=>K O
 | p::ds,O,K=>Enters P p.1/\fW P p.1 p.2 none O fun O'=>LZ P ds O' K
def P5 (P:Program) (fn:Func) (G0:Gh) (K:VH->Prop):Exit->Act->World->Prop:=
 bodyPostD P fn fun x w'=>(∃v,x= .returned v/\v= .tuple #[])/\∃O' H,Gh.Le G0 H/\WR H O' w'/\K O'
def RC (P:Program) (fn:Func) (n:Sz) (ds:List (FuncId×List MV)) (c:Code) (e:Env) (O:VH) (K:VH->Prop):Prop:=
 ∀G0 G D a w,Gh.Le G0 G->P4 G D ds->WR G O w->FR G n D e a->c.wp P (P5 P fn G0 K) a w
theorem B4 {fn:Func} {tmps:Array Value} {G0:Gh} {K:VH->Prop} (hr:fn.results= #[]):∀(D:List Deferred) (ds:List (FuncId×List MV)) (G:Gh) (O:VH) (w:World),Gh.Le G0 G->P4 G D ds->WR G O w->LZ P ds O K->
  Leaves P fn tmps (fun x w'=>(∃v,x= .returned v/\v= .tuple #[])/\∃O' H,Gh.Le G0 H/\WR H O' w'/\K O') D .returning w
 | [],[],G,O,w,h0,_,hw,hk=>⟨.tuple #[],by simp[results,hr],⟨_,rfl,rfl⟩,O,G,h0,hw,hk⟩
 | d::D,p::ds,G,O,w,h0,⟨⟨us,ed,iu⟩,hD⟩,hw,⟨hE,hk⟩=>by
   subst ed;refine leaves_cons (f:=p.1) (args:=us.toArray) (by simp) (by simp[invoke,hE us.toArray w]) ((hk G w us .returning hw iu trivial).mono ?_);rintro r u' Fx ⟨⟨v,rfl⟩,hs,O2,K2,q1,q2,q3⟩;dsimp only;rw[hs];exact B4 hr D ds K2 O2 Fx (h0.trans q1) (hD.mono q1) q2 q3
 | [],_::_,_,_,_,_,h,_,_=>h.elim
 | _::_,[],_,_,_,_,h,_,_=>h.elim
theorem VF.defs {f:FuncId} {fn:Func} {c:Code} {args:List MV} {K:VH->Prop} {R:MV->VH->Prop} (hf:P.funcs[f]?=some fn) (hb:fn.body=some c) (hr:fn.results= #[]) (hn:args.length<=fn.ntmps)
  (h:RC P fn ⟨fn.ntmps,0⟩ [] c (cw 0 args) O K) (hR:∀O',K O'->R (.tuple []) O'):VF P f args O (aD R):=by
 intro G w vs hw hv;refine(calls_of_wp_defers hf hb (h G G [] _ w (Gh.Le.refl G) trivial hw ?_)).mono ?_
 ·have hl:=hv.1;refine⟨rfl,by simp;omega,fun t x hx=>?_⟩;rw[hY,if_pos (Nat.zero_le _),Nat.sub_zero]at hx;obtain⟨u,h1,h2⟩:=hv.get hx;refine⟨u,?_,h2⟩;have eg:=(List.getElem?_eq_some_iff.1 h1).1;rw[Array.getElem?_append_left (by simpa using eg)];simpa using h1
 ·rintro x w' ⟨⟨v,rfl,rfl⟩,O',H,h1,h2,h3⟩;exact⟨.ret (.tuple []),O',H,h1,h2,.tuple (us:=[]) rfl (fun i c u h=>by simp at h),hR _ h3⟩
theorem RC.ag {fn:Func} {ds:List (FuncId×List MV)} {A rest:Code} {K:VH->Prop} (h:∀D,VC P n D A e O fun x e' O'=>match x with
  | .normal=>RC P fn n ds rest e' O' K
  | _=>False):RC P fn n ds (.seq A rest) e O K:=by
 intro G0 G D a w h0 hD hw hf;refine wp_seq (wp_mono (h D G a w hw hf) ?_);rintro y a1 w1 ⟨x,e',O',H,g1,g2,g3,g4,g5⟩
 cases y<;>cases x<;>first
  | exact False.elim g4
  | exact g5.elim
  | skip
 exact g5 G0 H D a1 w1 (h0.trans g1) (hD.mono g1) g2 g3
theorem RC.fin {fn:Func} {ds:List (FuncId×List MV)} {A:Code} {K:VH->Prop} (hr:fn.results= #[]) (h:∀D,VC P n D A e O fun x e' O'=>match x with
  | .normal=>LZ P ds O' K
  | .ret=>LZ P ds O' K
  | _=>False):RC P fn n ds A e O K:=by
 intro G0 G D a w h0 hD hw hf;refine wp_mono (h D G a w hw hf) ?_;rintro y a1 w1 ⟨x,e',O',H,g1,g2,g3,g4,g5⟩
 have fin:FR H n D e' a1->LZ P ds O' K->Leaves P fn a1.tmps (fun x w'=>(∃v,x= .returned v/\v= .tuple #[])/\∃O' H,Gh.Le G0 H/\WR H O' w'/\K O') a1.defers .returning w1:=fun aS hk=>by
  rw[aS.defers];exact B4 hr D ds H O' w1 (h0.trans g1) (hD.mono g1) g2 hk
 cases y<;>cases x<;>first
  | exact False.elim g4
  | exact g5.elim
  | exact fin g3 g5
theorem RC.cond {fn:Func} {ds:List (FuncId×List MV)} {c:Operand} {x y:Code} {K:VH->Prop} {t:Bool} (hc:ev e c=some (mb t)) (h:RC P fn n ds (if t then x else y) e O K):RC P fn n ds (.cond c x y) e O K:=by
 intro G0 G D a w h0 hD hw hf;have hv:=hf.ev hc;generalize hx:a.eval c=u at hv;have:=VR.iw hv;subst this;exact wp_cond hx (h G0 G D a w h0 hD hw hf)
def RO (P:Program) (fn:Func) (n:Sz) (ds:List (FuncId×List MV)) (ops:Array Oper) (rest:Code) (l:List Nat) (e:Env) (O:VH) (K:VH->Prop):Prop:=
 ∀G0 G D a w,Gh.Le G0 G->P4 G D ds->WR G O w->FR G n D e a->wpOps P ops (Exit.then (rest.wp P (P5 P fn G0 K)) (P5 P fn G0 K)) l a w
theorem RC.region {fn:Func} {ds:List (FuncId×List MV)} {id:Nat} {rest:Code} {K:VH->Prop} (l:List Nat) (hl:List.range ops.size=l) (h:RO P fn n ds ops rest l e O K):RC P fn n ds (.seq (.region id ops false) rest) e O K:=by
 subst hl;intro G0 G D a w h0 hD hw hf;exact wp_seq (wp_region (h G0 G D a w h0 hD hw hf))
theorem RO.step (ht:aK P tab) {fn:Func} {ds:List (FuncId×List MV)} {rest:Code} {K:VH->Prop} {i:Nat} {l:List Nat} {o:Oper} (ho:ops[i]?=some o) (hg:aL ops o e=some true) (hv:c6 tab o e O=some (m,O')) (hd:bm n o.dst=true) (h:RO P fn n ds ops rest l (aU o.dst m e) O' K):
  RO P fn n ds ops rest (i::l) e O K:=by
 intro G0 G D a w h0 hD hw aS;obtain⟨nx,w',H,u,hr,wP,h1,h2,h3,_⟩:=CK (P:=P) ht hw aS hv;rw[wpOps_cons];simp only[wpOp,ho,bj aS hg,if_true];refine .inl ?_;unfold Oper.wp;rw[hr];have:=h G0 H D (a.put o.dst u) w' (h0.trans h1) (hD.mono h1) h2 ((aS.mono h1).aU hd h3);rcases wP with rfl | ⟨rfl,rfl⟩<;>exact this
theorem RO.o1 {fn:Func} {ds:List (FuncId×List MV)} {rest:Code} {K:VH->Prop} {i:Nat} {l:List Nat} {lo:List Oper} {o:Oper} (h:zm (fun m O'=>RO P fn n ds ⟨lo⟩ rest l (aU o.dst m e) O' K) (c6 tab o e O)) (ht:aK P tab:=by exact aa) (ho:lo[i]?=some o:=by exact rfl) (hg:aL ⟨lo⟩ o e=some true:=by exact rfl) (hd:bm n o.dst=true:=by exact rfl):
  RO P fn n ds ⟨lo⟩ rest (i::l) e O K:=by
 generalize hv:c6 tab o e O=v at h;cases v with
 | none=>exact h.elim
 | some p=>exact RO.step ht (by simpa using ho) hg hv hd h
theorem RO.defer {fn:Func} {ds:List (FuncId×List MV)} {rest:Code} {K:VH->Prop} {i:Nat} {g:FuncId} {as_:Array Operand} {ts:Array TypeId} {ty:TypeId} {ps:String} {af:Array Edge} {ms:List MV} (ho:ops[i]?=some (.mk none (.defer {callee:=.value (.func g),args:=as_,argTypes:=ts}) ty ps af none)) (hm:fG e as_.toList=some ms)
  (h:RC P fn n ((g,ms)::ds) rest e O K):RO P fn n ds ops rest [i] e O K:=by
 intro G0 G D a w h0 hD hw aS;have iu:=aS.fG hm;have ha:as_.map a.eval=(as_.toList.map a.eval).toArray:=by apply Array.ext';simp
 have cc:(execOp a.eval (.mk none (.defer {callee:=.value (.func g),args:=as_,argTypes:=ts}) ty ps af none)).run P w= .ok (.defer {target:=.fn (.func g) #[],args:=(as_.toList.map a.eval).toArray}) w:=by
  simp only[<-ha];simp[execOp,resolve,Act.eval,Deferred.ofValue]
 rw[wpOps_cons];simp only[wpOp,ho];rw[if_pos (by simp[Region.wanted])];refine .inl ?_;unfold Oper.wp;rw[cc,Oper.upon_defer];simp only[wpOps,Exit.then];exact h G0 G ({target:=.fn (.func g) #[],args:=(as_.toList.map a.eval).toArray}::D) _ w h0 ⟨⟨_,rfl,iu⟩,hD⟩ hw ⟨by show _::a.defers=_;rw[aS.defers],aS.size,aS.get⟩
theorem fW.mono {f:FuncId} {args:List MV} {x:Option MV} {K K':VH->Prop} (h:fW P f args x O K) (hk:∀O',K O'->K' O'):fW P f args x O K':=fun G w vs u hw hv hu=>(h G w vs u hw hv hu).mono fun r u' w' ⟨h1,h2,O',H,h3,h4,h5⟩=>⟨h1,h2,O',H,h3,h4,hk _ h5⟩
theorem fW.FO (ht:aK P tab) {f:FuncId} {fn:Func} {c:Code} {args:List MV} {K:VH->Prop} (hf:P.funcs[f]?=some fn) (hb:fn.body=some c) (hr:fn.results= #[]) (hn:args.length<=fn.ntmps) (hk:(⟨fn.ntmps,0⟩:Sz)=n) (h:VC P n [] c (cw 0 args) O (BO tab [] (aD fun _ O'=>K O'))):fW P f args none O K:=by
 subst hk;intro G w vs u hw hv hu
 have C0:settle u= .returning:=by
  cases u<;>first
   | rfl
   | exact hu.elim
 have hl:=hv.1;refine(callsD_of_wp (R:=fun x w'=>(∃v,x= .returned v)/\∃O' H,Gh.Le G H/\WR H O' w'/\K O') hf hb (wp_mono (h G _ w hw ?_) ?_)).mono ?_
 ·refine⟨rfl,by simp;omega,fun t x hx=>?_⟩;rw[hY,if_pos (Nat.zero_le _),Nat.sub_zero]at hx;obtain⟨u,h1,h2⟩:=hv.get hx;refine⟨u,?_,h2⟩;have eg:=(List.getElem?_eq_some_iff.1 h1).1;rw[Array.getElem?_append_left (by simpa using eg)];simpa using h1
 ·rintro y a1 w1 ⟨x,e',O',H,g1,g2,g3,g4,g5⟩
  have fin:FR H ⟨fn.ntmps,0⟩ [] e' a1->K O'->bodyPost P fn (fun x w'=>(∃v,x= .returned v)/\∃O' H,Gh.Le G H/\WR H O' w'/\K O') .normal a1 w1:=fun aS hk=>
   ⟨aS.defers,.tuple #[],by simp[results,hr],⟨_,rfl⟩,O',H,g1,g2,hk⟩
  cases y<;>cases x<;>first
   | exact False.elim g4
   | exact fin g3 g5
   | exact g5.elim
 ·rintro r u' w' ⟨rfl,h1,h2⟩;exact⟨h1,C0,h2⟩
end
section
variable {G:Gh} {O O':VH} {w:World} {P:Program}
theorem WR.cellAt {k off:Nat} {cs:List MV} {x:Value} (h:WR G O w) (hk:O.hp k=some (.cells cs)) (hc:cs[off]?=some (.v x)):∃b,G.bL k=some b/\w.cell? ⟨b,off,none⟩=some x/\w.frozen? ⟨b,off,none⟩=false:=by
 obtain⟨b,C,T,e1,e2,e3⟩:=h.cells k cs hk;obtain⟨v,oP,Fq⟩:=e3.get hc;cases Fq with
 | v _=>
   refine⟨b,e1,?_,?_⟩
   ·have eg:off<cs.length:=(List.getElem?_eq_some_iff.1 hc).1;rw[List.getElem?_take_of_lt eg]at oP;simp only[World.cell?,e2,Option.isSome_none,Bool.false_eq_true,if_false];simpa using oP
   ·have hlen:off<C.size:=by
     have:=(List.getElem?_eq_some_iff.1 oP).1;simp at this;omega
    obtain⟨t',⟨lo,hi⟩,cW⟩:=T;dsimp only at e2 cW;simp only[World.frozen?,e2,Bool.and_eq_false_imp,decide_eq_true_eq,decide_eq_false_iff_not];intro;omega
theorem ey.mem {f:FuncId} {ms:List MV} {m:MV} (hr:∀G w vs,WR G O w->aO G ms vs->∃u w',(callFunc f vs.toArray).run P w= .ok (.value u) w'/\WR G O' w'/\VR G m u):ey P f ms O fun m' j4=>m'=m/\j4=O':=by
 intro G w vs hw hv;obtain⟨u,w',h1,h2,h3⟩:=hr G w vs hw hv;exact⟨m,O',u,w',G,⟨rfl,rfl⟩,h1,Gh.Le.refl G,h2,h3⟩
theorem VR.z8:VR G (.tuple []) (.tuple #[]):=.tuple (us:=[]) rfl (fun i c u h=>by simp at h)
theorem aO.one {x:MV} {vs:List Value} (h:aO G [x] vs):∃u,vs=[u]/\VR G x u:=by
 obtain⟨u,us,rfl,g1,g2⟩:=h.cB;rw[g2.fw];exact⟨u,rfl,g1⟩
theorem aO.ZO {k o:Nat} {vs:List Value} (h:aO G [.ptr k o] vs):∃b,vs=[.pointer (some ⟨b,o,none⟩)]/\G.bL k=some b:=by
 obtain⟨u,rfl,g1⟩:=h.one;cases g1 with
 | ptr h4=>exact⟨_,rfl,h4⟩
theorem aO.ZP {k o:Nat} {x:Value} {vs:List Value} (h:aO G [.ptr k o,.v x] vs):∃b,vs=[.pointer (some ⟨b,o,none⟩),x]/\G.bL k=some b:=by
 obtain⟨u,us,rfl,g1,g2⟩:=h.cB;obtain⟨u2,rfl,g3⟩:=g2.one;have:=g3.iw;subst this;cases g1 with
 | ptr h4=>exact⟨_,rfl,h4⟩
theorem aO.ait {k o:Nat} {x y:Value} {vs:List Value} (h:aO G [.ptr k o,.v x,.v y] vs):∃b,vs=[.pointer (some ⟨b,o,none⟩),x,y]/\G.bL k=some b:=by
 obtain⟨u,us,rfl,g1,g2⟩:=h.cB;obtain⟨u2,Po,rfl,g3,g4⟩:=g2.cB;obtain⟨u3,rfl,g5⟩:=g4.one;have e1:=g3.iw;have e2:=g5.iw;subst e1;subst e2
 cases g1 with
 | ptr h4=>exact⟨_,rfl,h4⟩
end
theorem vq (O:VH):ey Tryz.prog 277 [] O fun m O'=>m= .tuple []/\O'=O:=
 ey.mem fun G w vs hw hv=>by
  rw[hv.fw];exact⟨_,w,run_call_mark0 Tryz.func277 (by kernel_rfl) (by kernel_rfl) (by kernel_rfl) .disable (by kernel_rfl) w,hw,VR.z8⟩
theorem xk (O:VH):ey Tryz.prog 279 [] O fun m O'=>m= .tuple []/\O'=O:=
 ey.mem fun G w vs hw hv=>by
  rw[hv.fw];exact⟨_,w,run_call_mark0 Tryz.func279 (by kernel_rfl) (by kernel_rfl) (by kernel_rfl) .enable (by kernel_rfl) w,hw,VR.z8⟩
theorem EE (k o:Nat) (O:VH):ey Tryz.prog 280 [.ptr k o] O fun m O'=>m= .tuple []/\O'=O:=
 ey.mem fun G w vs hw hv=>by
  obtain⟨b,rfl,hp⟩:=hv.ZO;exact⟨_,w,run_call_marked Tryz.func280 (by kernel_rfl) (by kernel_rfl) (by kernel_rfl) .acquire (by kernel_rfl) _ w,hw,VR.z8⟩
theorem Ct (k o:Nat) (O:VH):ey Tryz.prog 282 [.ptr k o] O fun m O'=>m= .tuple []/\O'=O:=
 ey.mem fun G w vs hw hv=>by
  obtain⟨b,rfl,hp⟩:=hv.ZO;exact⟨_,w,run_call_marked Tryz.func282 (by kernel_rfl) (by kernel_rfl) (by kernel_rfl) .releaseMerge (by kernel_rfl) _ w,hw,VR.z8⟩
section
variable {O:VH} {k off:Nat} {cs:List MV}
theorem L3 {x:Int} (y:Int) (hk:O.hp k=some (.cells cs)) (hc:cs[off]?=some (.v (.int .i64 x))):ey Tryz.prog 207 [.ptr k off,.v (.int .i64 y)] O fun m O'=>m= .v (.int .i64 (IntKind.i64.wrap (x+y)))/\O'=O.set k (.cells (cs.set off (.v (.int .i64 (IntKind.i64.wrap (x+y)))))):=
 ey.mem fun G w vs hw hv=>by
  obtain⟨b',h1,h2,h3⟩:=hw.cellAt hk hc;obtain⟨b,rfl,hp⟩:=hv.ZP;rw[h1]at hp;injection hp with hp;subst hp
  exact⟨_,_,run_call_add Tryz.func207 (by kernel_rfl) (by kernel_rfl) (by kernel_rfl) .i64 (by kernel_rfl) h2 h3 rfl,hw.store hk h1 (List.getElem?_eq_some_iff.1 hc).1 (.v rfl),.v rfl⟩
theorem L4 {x:Int} (y:Int) (hk:O.hp k=some (.cells cs)) (hc:cs[off]?=some (.v (.int .i32 x))):ey Tryz.prog 283 [.ptr k off,.v (.int .i32 y)] O fun m O'=>m= .v (.int .i32 (IntKind.i32.wrap (x+y)))/\O'=O.set k (.cells (cs.set off (.v (.int .i32 (IntKind.i32.wrap (x+y)))))):=
 ey.mem fun G w vs hw hv=>by
  obtain⟨b',h1,h2,h3⟩:=hw.cellAt hk hc;obtain⟨b,rfl,hp⟩:=hv.ZP;rw[h1]at hp;injection hp with hp;subst hp
  exact⟨_,_,run_call_add Tryz.func283 (by kernel_rfl) (by kernel_rfl) (by kernel_rfl) .i32 (by kernel_rfl) h2 h3 rfl,hw.store hk h1 (List.getElem?_eq_some_iff.1 hc).1 (.v rfl),.v rfl⟩
theorem P6 {x:Int} (hk:O.hp k=some (.cells cs)) (hc:cs[off]?=some (.v (.int .u32 x))):ey Tryz.prog 240 [.ptr k off] O fun m O'=>m= .v (.int .u32 x)/\O'=O:=
 ey.mem fun G w vs hw hv=>by
  obtain⟨b',h1,h2,h3⟩:=hw.cellAt hk hc;obtain⟨b,rfl,hp⟩:=hv.ZO;rw[h1]at hp;injection hp with hp;subst hp
  exact⟨_,_,run_call_load Tryz.func240 (by kernel_rfl) (by kernel_rfl) (by kernel_rfl) .u32 (by kernel_rfl) h2,hw,.v rfl⟩
theorem L5 {x:Int} (y:Int) (hk:O.hp k=some (.cells cs)) (hc:cs[off]?=some (.v (.int .u32 x))):ey Tryz.prog 260 [.ptr k off,.v (.int .u32 y)] O fun m O'=>m= .tuple []/\O'=O.set k (.cells (cs.set off (.v (.int .u32 y)))):=
 ey.mem fun G w vs hw hv=>by
  obtain⟨b',h1,h2,h3⟩:=hw.cellAt hk hc;obtain⟨b,rfl,hp⟩:=hv.ZP;rw[h1]at hp;injection hp with hp;subst hp
  exact⟨_,_,run_call_store Tryz.func260 (by kernel_rfl) (by kernel_rfl) (by kernel_rfl) (by kernel_rfl) h2 h3,hw.store hk h1 (List.getElem?_eq_some_iff.1 hc).1 (.v rfl),VR.z8⟩
theorem Vw {x y:Int} (hk:O.hp k=some (.cells cs)) (hc:cs[off]?=some (.v (.int .i32 x))):ey Tryz.prog 278 [.ptr k off,.v (.int .i32 x),.v (.int .i32 y)] O fun m O'=>m= .v (.bool true)/\O'=O.set k (.cells (cs.set off (.v (.int .i32 y)))):=
 ey.mem fun G w vs hw hv=>by
  obtain⟨b',h1,h2,h3⟩:=hw.cellAt hk hc;obtain⟨b,rfl,hp⟩:=hv.ait;rw[h1]at hp;injection hp with hp;subst hp
  exact⟨_,_,run_call_cas_hit Tryz.func278 (by kernel_rfl) (by kernel_rfl) (by kernel_rfl) .i32 (by kernel_rfl) h2 h3,hw.store hk h1 (List.getElem?_eq_some_iff.1 hc).1 (.v rfl),.v rfl⟩
end
section
variable {P:Program} {tab:b9} {n:Sz} {D:List Deferred} {md:Md} {ops:Array Oper} {Q:VQ} {e:Env} {O:VH}
theorem VL.aeK (ht:aK P tab) {d:Option Tmp} {x:Operand} {src dst ty el:TypeId} {ps:String} {af:Array Edge} {g:Option (Nat×Bool)} {L:List (Fl×Oper)} {k off:Nat} {cs:List MV} {y:Value} {te:cz} (hmd:md= .plain\/md= .any)
  (hs:(tab src).map cz.under=some (.pointer el)) (Kx:(tab dst).map cz.under=some .unsafePointer) (he:tab el=some te) (hz:te.size≠0) (hk:O.hp k=some (.cells cs)) (hc:cs[off]?=some (.v y))
  (hx:ev e x=some (.ptr k off)) (hg:aL ops (.mk d (.convert src dst x) ty ps af g) e=some true) (hd:bm n d=true) (h:WL P tab n D md ops Q L (aU d (.ptr k off) e) O):
  VL P n D md ops ((.one,.mk d (.convert src dst x) ty ps af g)::L) e O Q:=by
 refine VL.pq (M:=fun m O'=>m= .ptr k off/\O'=O) (fun G a w hw hf=>?_) (by rintro m O' ⟨rfl,rfl⟩;exact WL.sound ht h) (hmd:=hmd) (hg:=hg) (hd:=hd);have mR:=hf.ev hx;generalize oo:a.eval x=u at mR;cases mR with
 | ptr hp=>
   rename_i b;obtain⟨ti,z,i1,i2,_⟩:=(ht _ te he).info;obtain⟨b2,s1,s2,_⟩:=hw.cellAt hk hc;rw[hp]at s1;injection s1 with s1;subst s1
   have hr:=run_convert_to_unsafe (P:=P) (w:=w) (bB ht hs) (bB ht Kx) (by rw[i1,Option.map_some,decide_eq_false (by rw[i2];exact hz)]) s2;exact⟨_,_,_,w,G,⟨rfl,rfl⟩,by simp[execOp,oo,hr],Gh.Le.refl G,hw,.ptr hp⟩
theorem fM.ext {o:Oper} {c:Call} {x:Operand} {id:FuncId} {ms:List MV} {M:MV->VH->Prop} (uq:o.op= .call c) (hc:c.callee= .value x) (hf:ev e x=some (.func (.func id) [] [])) (hm:fG e c.args.toList=some ms) (hx:ey P id ms O M):fM P n D o e O M:=by
 intro G a w hw aS;have rB:=aS.ev hf;generalize wQ:a.eval x=fv at rB;cases rB with
 | func h1 h2 h3 h4=>
   rename_i us vs;have iu:us=[]:=List.eq_nil_of_length_eq_zero h1;have nT:vs=[]:=List.eq_nil_of_length_eq_zero h3;subst iu;subst nT
   have gU:=aS.fG hm;obtain⟨m,O',u,w',H,hM,hr,g1,g2,g3⟩:=hx G w _ hw gU;refine⟨m,O',u,w',H,hM,?_,g1,g2,g3⟩;have ha: #[]++c.args.map a.eval++ #[]=(c.args.toList.map a.eval).toArray:=by apply Array.ext';simp
   simp only[execOp,uq,resolve,hc,wQ,Deferred.ofValue,Sem.run_bind,Sem.run_pure,Result.andThen_ok,invoke];rw[ha];exact hr
end
set_option linter.defProp false in
def dy:=And.intro aeg<|And.intro ahU<|And.intro ahz<|And.intro ahX<|And.intro YX<|And.intro ahA<|And.intro ah1<|And.intro Y0<|And.intro ahy<|And.intro Pl<|And.intro ah5<|And.intro ahY<|And.intro ahV<|And.intro T2<|And.intro ahB<|And.intro ahW G8
section
variable {O:VH} {k off:Nat} {cs:List MV}
theorem EF {x:Int} (y:Int) (hk:O.hp k=some (.cells cs)) (hc:cs[off]?=some (.v (.int .i64 x))):VF Tryz.prog 179 [.ptr k off,.v (.int .i64 y)] O (aD fun m O'=>m= .v (.int .i64 (IntKind.i64.wrap (x+y)))/\O'=O.set k (.cells (cs.set off (.v (.int .i64 (IntKind.i64.wrap (x+y))))))):=by
 refine VF.du 10 [.tmp 4] Tryz.func179 ?_;refine ae @dy ?_;refine ah.ext (L3 y hk hc) rfl ?_;rintro _ O2 ⟨rfl,rfl⟩;exact eW @dy
theorem L6 {x:Int} (hk:O.hp k=some (.cells cs)) (hc:cs[off]?=some (.v (.int .u32 x))):VF Tryz.prog 222 [.ptr k off] O (aD fun m O'=>m=mb (x != 0)/\O'=O):=by
 refine VF.du 8 [.tmp 2] Tryz.func222 ?_;refine ae @dy ?_;refine ah.ext (P6 hk hc) rfl ?_;rintro _ O2 ⟨rfl,rfl⟩;exact eW @dy
theorem agw (b:Bool) (O:VH):VF Tryz.prog 261 [mb b] O (aD fun m O'=>m= .v (.int .u32 (if b then 1 else 0))/\O'=O):=by
 refine VF.du 4 [.tmp 2] Tryz.func261 ?_;cases b
 ·exact eW @dy
 ·exact eW @dy
theorem Vx {x:Int} (b:Bool) (hk:O.hp k=some (.cells cs)) (hc:cs[off]?=some (.v (.int .u32 x))):fW Tryz.prog 243 [.ptr k off,mb b] none O (fun O'=>O'=O.set k (.cells (cs.set off (.v (.int .u32 (if b then 1 else 0)))))):=by
 refine fW.FO aa (n:=⟨10,0⟩) Tryz.func243 rfl rfl (Nat.le_of_ble_eq_true rfl) rfl ?_;simp only[cw,Nat.zero_add,Nat.reduceAdd];refine VC.lY [5] ?_;refine ab.av 0 ?_;refine ae @dy ?_;refine ab.av 1 ?_;refine ae @dy ?_;refine ab.av 2 ?_;refine ae @dy ?_;refine ab.av 3 ?_;refine ae @dy ?_;refine ab.call (i:=4) (agw b O) ?_;rintro _ O2 ⟨rfl,eO⟩;simp only[aj];rw[eO];clear eO O2
 refine⟨VH.Ge.refl _,ab.fin (by kernel_rfl) (cf.st (i:=5) rfl (by kernel_rfl) rfl rfl (fM.ext rfl rfl rfl rfl (L5 _ hk hc)) ?_)⟩;rintro m O2 ⟨rfl,rfl⟩;refine cf.done (by kernel_rfl) ?_;refine ae @dy ?_;trivial
theorem ZQ (hk:O.hp k=some (.cells cs)) (hc:cs[off]?=some (.v (.int .i32 0))):VF Tryz.prog 258 [.ptr k off] O (aD fun m O'=>O'=O.set k (.cells (cs.set off (.v (.int .i32 1))))):=by
 have hl:off<cs.length:=(List.getElem?_eq_some_iff.1 hc).1;refine VF.bO 13 [] Tryz.func258 ?_;refine VC.ag aa (ae @dy ?_);refine ah.ext (vq _) rfl ?_;rintro _ O2 ⟨rfl,rfl⟩;refine ae @dy ?_;refine VC.ag aa (ae @dy ?_);refine ah.ext (Vw (y:=1) hk hc) rfl ?_;rintro _ O2 ⟨rfl,eO⟩;have bR:O2.hp k=some (.cells (cs.set off (.v (.int .i32 1)))):=by rw[eO];exact VH.an _ _ _
 have jj:(cs.set off (.v (.int .i32 1)))[off]?=some (.v (.int .i32 1)):=by rw[List.getElem?_set_self hl]
 refine ae @dy ?_;refine ah.ext (xk _) rfl ?_;rintro _ O3 ⟨rfl,F1⟩;rw[F1];clear F1 O3
 refine ae @dy ?_;refine VL.aeK aa (.inl rfl) (el:=132) (by rw[Y0];rfl) (by rw[G8];rfl) YX.1.1 (by decide) bR jj rfl rfl rfl ?_;refine ae @dy ?_;refine ah.ext (EE _ _ _) rfl ?_;rintro _ O4 ⟨rfl,oU⟩;rw[oU];clear oU O4
 refine ae @dy ?_;exact eO
theorem ac7 (hk:O.hp k=some (.cells cs)) (hc:cs[off]?=some (.v (.int .i32 0))):VF Tryz.prog 241 [.ptr k off] O (aD fun m O'=>O'=O.set k (.cells (cs.set off (.v (.int .i32 1))))):=by
 refine VF.du 6 [] Tryz.func241 ?_;refine ae @dy ?_;refine ah.rt (ZQ hk hc) ?_;rintro _ O2 e2;refine ae @dy ?_;exact e2
theorem P7 (hk:O.hp k=some (.cells cs)) (hc:cs[off]?=some (.v (.int .i32 1))):VF Tryz.prog 259 [.ptr k off] O (aD fun m O'=>O'=O.set k (.cells (cs.set off (.v (.int .i32 0))))):=by
 have hl:off<cs.length:=(List.getElem?_eq_some_iff.1 hc).1;refine VF.bO 21 [] Tryz.func259 ?_;refine VC.ag aa (aI @dy @hk @hc ?_);refine VL.aeK aa (.inl rfl) (el:=132) (by rw[Y0];rfl) (by rw[G8];rfl) YX.1.1 (by decide) hk hc rfl rfl rfl ?_;refine ae @dy ?_;refine ah.ext (Ct _ _ _) rfl ?_;rintro _ O2 ⟨rfl,F2⟩;rw[F2];clear F2 O2
 refine ae @dy ?_;refine ah.ext (vq _) rfl ?_;rintro _ O2 ⟨rfl,F2⟩;rw[F2];clear F2 O2
 refine ae @dy ?_;refine VC.ag aa (ae @dy ?_);refine ah.ext (L4 (-1) hk hc) rfl ?_;rintro _ O2 ⟨rfl,eO⟩;refine ao @dy (show IntKind.i32.wrap (1+ -1)=0 from rfl) ?_;refine VC.ag aa (ae @dy ?_);refine WC.sound aa (ae @dy ?_);refine ah.ext (xk _) rfl ?_;rintro _ O3 ⟨rfl,F1⟩;rw[F1];clear F1 O3
 refine ae @dy ?_;exact eO
theorem Vy (hk:O.hp k=some (.cells cs)) (hc:cs[off]?=some (.v (.int .i32 1))):fW Tryz.prog 242 [.ptr k off] none O (fun O'=>O'=O.set k (.cells (cs.set off (.v (.int .i32 0))))):=by
 refine fW.FO aa (n:=⟨6,0⟩) Tryz.func242 rfl rfl (Nat.le_of_ble_eq_true rfl) rfl ?_;simp only[cw,Nat.zero_add,Nat.reduceAdd];refine WC.sound aa (ae @dy ?_);refine ah.rt (P7 hk hc) ?_;rintro _ O2 e2;refine ae @dy ?_;exact e2
theorem Vz {g:FuncId} {xs:List MV} {Φ :VH->Prop} (hk:O.hp k=some (.cells cs)) (h0:cs[off]?=some (.v (.int .u32 0))) (h1:cs[off+1]?=some (.v (.int .i32 0))) (hg:cM Tryz.prog g=true)
  (hC:VF Tryz.prog g xs (O.set k (.cells (cs.set (off+1) (.v (.int .i32 1))))) (aD fun _ O'=> Φ O'))
  (hΦ :∀O', Φ O'->∃cs',O'.hp k=some (.cells cs')/\cs'[off]?=some (.v (.int .u32 0))/\cs'[off+1]?=some (.v (.int .i32 1))):
  VF Tryz.prog 223 [.ptr k off,.func (.func g) [] xs] O (aD fun _ O'=>∃O1 cs', Φ O1/\O1.hp k=some (.cells cs')/\O'=O1.set k (.cells ((cs'.set off (.v (.int .u32 1))).set (off+1) (.v (.int .i32 0))))):=by
 refine VF.defs (K:=fun O'=>∃O1 cs', Φ O1/\O1.hp k=some (.cells cs')/\O'=O1.set k (.cells ((cs'.set off (.v (.int .u32 1))).set (off+1) (.v (.int .i32 0))))) Tryz.func223 rfl rfl (Nat.le_of_ble_eq_true rfl) ?_ (fun O' h=>h);show RC _ _ ⟨21,0⟩ _ _ _ _ _;simp only[cw,Nat.zero_add,Nat.reduceAdd];refine RC.ag fun D=>?_
 refine WC.sound aa (ae @dy ?_);refine ah.rt (ac7 hk h1) ?_;rintro _ O2 e2;have bR:O2.hp k=some (.cells (cs.set (off+1) (.v (.int .i32 1)))):=by rw[e2];exact VH.an _ _ _
 refine ae @dy ?_;refine RC.region [0,1,2,3] rfl ?_;refine RO.o1 ?_;refine ae @dy ?_;refine RO.o1 ?_;refine ae @dy ?_;refine RO.o1 ?_;refine ae @dy ?_;refine RO.defer rfl rfl ?_;refine RC.ag fun D=>?_
 have h02:(cs.set (off+1) (.v (.int .i32 1)))[off]?=some (.v (.int .u32 0)):=by rw[List.getElem?_set_ne (by omega)];exact h0
 refine WC.sound aa (ae @dy ?_);refine ah.rt (L6 bR h02) ?_;rintro _ O3 ⟨rfl,eO⟩;rw[eO];clear eO O3
 refine ae @dy ?_;refine RC.cond (t:=true) rfl ?_;rw[if_pos rfl];refine RC.region [0,1,2,3] rfl ?_;refine RO.o1 ?_;refine ae @dy ?_;refine RO.o1 ?_;refine ae @dy ?_;refine RO.o1 ?_;refine ae @dy ?_;refine RO.defer rfl rfl ?_;refine RC.fin rfl fun D=>?_
 rw[e2];refine WC.sound aa (ae @dy ?_);refine ah.rt hC ?_ (hb:=hg);rintro m O3 Cn;obtain⟨cs',dG,h3,h4⟩:=hΦ O3 Cn;have lN:off<cs'.length:=(List.getElem?_eq_some_iff.1 h3).1;refine ae @dy ?_;refine⟨Enters.sA (by kernel_rfl),(Vx true dG h3).mono fun O4 e4=>?_⟩;have ja:O4.hp k=some (.cells (cs'.set off (.v (.int .u32 1)))):=by rw[e4];exact VH.an _ _ _
 have h44:(cs'.set off (.v (.int .u32 1)))[off+1]?=some (.v (.int .i32 1)):=by rw[List.getElem?_set_ne (by omega)];exact h4
 refine⟨Enters.sA (by kernel_rfl),(Vy ja h44).mono fun O5 e5=>?_⟩;refine⟨O3,cs',Cn,dG,?_⟩;rw[e5,e4];exact VH.set_set _ _ _ _
theorem aiu {g:FuncId} {xs:List MV} {Φ :VH->Prop} (hk:O.hp k=some (.cells cs)) (h0:cs[off]?=some (.v (.int .u32 0))) (h1:cs[off+1]?=some (.v (.int .i32 0))) (hg:cM Tryz.prog g=true)
  (hC:VF Tryz.prog g xs (O.set k (.cells (cs.set (off+1) (.v (.int .i32 1))))) (aD fun _ O'=> Φ O'))
  (hΦ :∀O', Φ O'->∃cs',O'.hp k=some (.cells cs')/\cs'[off]?=some (.v (.int .u32 0))/\cs'[off+1]?=some (.v (.int .i32 1))):
  VF Tryz.prog 198 [.ptr k off,.func (.func g) [] xs] O (aD fun _ O'=>∃O1 cs', Φ O1/\O1.hp k=some (.cells cs')/\O'=O1.set k (.cells ((cs'.set off (.v (.int .u32 1))).set (off+1) (.v (.int .i32 0))))):=by
 refine VF.bO 12 [] Tryz.func198 ?_;refine VC.ag aa (ae @dy ?_);refine ah.rt (L6 hk h0) ?_;rintro _ O3 ⟨rfl,eO⟩;rw[eO];clear eO O3
 refine ae @dy ?_;refine WC.sound aa (ae @dy ?_);refine ah.rt (Vz hk h0 h1 hg hC hΦ) ?_;rintro m O3 h3;refine ae @dy ?_;exact h3
end
structure Rec where
 b:Nat
 off:Nat
 name:Bs
 attrs:List (Bs×Bs)
 kids:List Nd
 q:MV
def iG (r:Rec):List MV:=[.str r.name,.sl r.attrs.length (r.attrs.flatMap aY) .aq,r.q,.str []]
theorem rV (r:Rec):(iG r).length=4:=rfl
def oB (O:VH) (B k:Nat):List Rec->Prop
 | []=>True
 | [r]=>r.b=k/\r.off=0
 | r::p::rest=>(∃c,p.q= .bp r.b 0 (p.kids.length+1) c/\p.kids.length+1<=c/\Row O 112 4 B r.b c (ay p.kids++iG r))/\r.off=p.kids.length*4/\p.b<r.b/\oB O B k (p::rest)
def aiv (O:VH) (B:Nat):List Rec->Prop
 | []=>True
 | r::_=>GR O 112 4 B r.q r.kids.length (ay r.kids)/\∀i,gid r.q=some i->r.b<i
def oC:List Rec->List MV->List MV
 | [],z=>z
 | [r],_=>iG r
 | _::r::R,z=>oC (r::R) z
def gD (R:List Rec):List MV:=(R.map fun r=>MV.ptr r.b r.off).reverse
theorem qA (r:Rec) (R:List Rec):(gD (r::R))=gD R++[.ptr r.b r.off]:=by unfold gD;simp
theorem kJ (R:List Rec):(gD R).length=R.length:=by unfold gD;simp
theorem eK:∀(R:List Rec) (z:List MV),z.length=4->(oC R z).length=4
 | [],z,h=>h
 | [r],_,_=>rfl
 | _::r::R,z,h=>eK (r::R) z h
structure BC (O:VH) (B k:Nat) (R:List Rec) (z tl:List MV):Prop where
 lt:k<B
 le:B<=O.next
 cells:O.hp k=some (.cells (oC R z++tl))
 zl:z.length=4
 chain:oB O B k R
 top:aiv O B R
def Kp (O O':VH) (S:List Nat):Prop:=O.next<=O'.next/\∀i,i<O.next->i ∉ S->O'.hp i=O.hp i
def AX (O:VH) (S:List Nat):Prop:=∀x∈S,∀j t n,O.hp x≠some (.shape j t n)
theorem AX.ne {O:VH} {S:List Nat} (h:AX O S) {j i t n:Nat} (hj:O.hp j=some (.shape i t n)):j ∉ S:=fun hm=>h j hm _ _ _ hj
theorem Row.kp {O O':VH} {el:TypeId} {sz B k c:Nat} {L:List MV} {S:List Nat} (h:Row O el sz B k c L) (u:Kp O O' S) (hS:AX O S) (hk:k ∉ S):Row O' el sz B k c L:=by
 obtain⟨⟨sp,h1,h2⟩,⟨j,h3,h4,h5⟩,h6,h7⟩:=h;exact⟨⟨sp,(u.2 k h7 hk).trans h1,h2⟩,⟨j,h3,Nat.lt_of_lt_of_le h4 u.1,(u.2 j h4 (hS.ne h5)).trans h5⟩,h6,Nat.lt_of_lt_of_le h7 u.1⟩
theorem Row.own {O O':VH} {el:TypeId} {sz B k c:Nat} {L L' sp:List MV} {S:List Nat} (h:Row O el sz B k c L) (u:Kp O O' S) (hS:AX O S) (hc:O'.hp k=some (.cells (L'++sp))) (hl:(L'++sp).length=c*sz):Row O' el sz B k c L':=by
 obtain⟨_,⟨j,h3,h4,h5⟩,h6,h7⟩:=h;exact⟨⟨sp,hc,hl⟩,⟨j,h3,Nat.lt_of_lt_of_le h4 u.1,(u.2 j h4 (hS.ne h5)).trans h5⟩,h6,Nat.lt_of_lt_of_le h7 u.1⟩
theorem oB.lt {O:VH} {B k:Nat}:∀{R:List Rec} {r:Rec},oB O B k (r::R)->∀x∈R,x.b<r.b
 | [],_,_,x,hx=>by cases hx
 | p::R,r,h,x,hx=>by
   obtain⟨_,_,h3,h4⟩:=h;rcases List.mem_cons.1 hx with rfl | hx
   ·exact h3
   ·exact Nat.lt_trans (h4.lt x hx) h3
theorem oB.kp {O O':VH} {B k:Nat} {S:List Nat} (u:Kp O O' S) (hS:AX O S):∀{R:List Rec},oB O B k R->(∀r∈R,r.b=k\/(∃cs,O.hp r.b=some (.cells cs))->r.b=k\/r.b ∉ S)->k<B->oB O' B k R
 | [],_,_,_=>trivial
 | [r],h,_,_=>h
 | r::p::rest,⟨⟨c,h1,h2,h3⟩,h4,h5,h6⟩,hn,hk=>⟨⟨c,h1,h2,h3.kp u hS (((hn r (by simp)) (.inr (by obtain⟨sp,e,_⟩:=h3.cells;exact⟨_,e⟩))).resolve_left fun e=>by have:=h3.lo;omega)⟩,h4,h5,h6.kp u hS (fun x hx=>hn x (by simp[hx])) hk⟩
theorem GR.lo {O:VH} {el:TypeId} {sz B n i:Nat} {p:MV} {L:List MV} (h:GR O el sz B p n L) (e:gid p=some i):B<=i/\i<O.next:=by
 rcases h with⟨_,_,hp | hp⟩ | ⟨k2,c,hp,_,_,kz⟩
 ·rw[hp]at e;cases e
 ·rw[hp]at e;cases e
 ·rw[hp]at e;injection e with e;subst e;exact⟨kz.lo,kz.hi⟩
theorem GR.kp {O O':VH} {el:TypeId} {sz B n:Nat} {p:MV} {L:List MV} {S:List Nat} (h:GR O el sz B p n L) (u:Kp O O' S) (hS:AX O S) (hk:∀i,gid p=some i->i ∉ S):GR O' el sz B p n L:=by
 rcases h with h | ⟨k2,c,hp,h1,h2,kz⟩
 ·exact .inl h
 ·exact .inr ⟨k2,c,hp,h1,h2,kz.kp u hS (hk k2 (by rw[hp];rfl))⟩
theorem GR.L7 {O:VH} {el:TypeId} {sz B n i:Nat} {p:MV} {L:List MV} (h:GR O el sz B p n L) (e:gid p=some i):∃cs,O.hp i=some (.cells cs):=by
 rcases h with⟨_,_,hp | hp⟩ | ⟨k2,c,hp,_,_,kz⟩
 ·rw[hp]at e;cases e
 ·rw[hp]at e;cases e
 ·rw[hp]at e;injection e with e;subst e
  obtain⟨sp,h1,_⟩:=kz.cells;exact⟨_,h1⟩
theorem BC.loc {O:VH} {B k:Nat} {r:Rec} {R:List Rec} {z tl:List MV} (h:BC O B k (r::R) z tl):∃pre post,O.hp r.b=some (.cells (pre++iG r++post))/\pre.length=r.off/\r.b<O.next/\(R=[]->r.b=k/\pre=[]/\post=tl)/\∀p rest,R=p::rest->pre=ay p.kids/\B<=r.b:=by
 cases R with
 | nil=>
   obtain⟨h1,h2⟩:=h.chain;refine⟨[],tl,?_,h2.symm,?_,fun _=>⟨h1,rfl,rfl⟩,fun p rest e=>by cases e⟩
   ·rw[h1];exact h.cells
   ·rw[h1];exact Nat.lt_of_lt_of_le h.lt h.le
 | cons p rest=>
   obtain⟨⟨c,_,_,kz⟩,ho,_,_⟩:=h.chain;obtain⟨sp,h1,h2⟩:=kz.cells;exact⟨ay p.kids,sp,h1,by rw[cZ,ho],kz.hi,(fun e=>by cases e),fun p' ajP e=>by injection e with e1 e2;subst e1;exact⟨rfl,kz.lo⟩⟩
theorem BC.part {O O':VH} {B k:Nat} {r r':Rec} {R:List Rec} {z tl pre post:List MV} {S:List Nat} (h:BC O B k (r::R) z tl) (hc:O.hp r.b=some (.cells (pre++iG r++post))) (hl:pre.length=r.off) (hR:R=[]->post=tl) (u:Kp O O' S) (hb:r'.b=r.b) (ho:r'.off=r.off)
  (hn:∀x∈S,x=r.b\/gid r.q=some x) (oa:O'.hp r.b=some (.cells (pre++iG r'++post))):O'.hp k=some (.cells (oC (r'::R) z++tl))/\oB O' B k (r'::R):=by
 have vg:=h.chain;have eg:=vg.lt;have im:=h.top
 have hS:AX O S:=fun x hx j t n e=>by
  rcases hn x hx with e2 | e2
  ·subst e2;rw[hc]at e;cases e
  ·obtain⟨cs,e3⟩:=im.1.L7 e2;rw[e3]at e;cases e
 cases R with
 | nil=>
   obtain⟨h1,h2⟩:=vg;have hp:pre=[]:=List.eq_nil_of_length_eq_zero (by rw[hl,h2]);subst hp;refine⟨?_,⟨by rw[hb,h1],by rw[ho,h2]⟩⟩;rw[<-h1,oa,hR rfl];rfl
 | cons p rest=>
   obtain⟨⟨c,e1,e2,kz⟩,e3,e4,e5⟩:=vg;have aiw:=kz.lo
   have hkS:k ∉ S:=fun hm=>by
    have:=h.lt;rcases hn k hm with e | e
    ·omega
    ·have:=(im.1.lo e).1;omega
   obtain⟨sp,sU,UY⟩:=kz.cells;rw[hc]at sU;injection sU with sU;injection sU with sU
   have dK:pre.length=(ay p.kids).length:=by rw[hl,e3,cZ]
   rw[List.append_assoc,List.append_assoc]at sU;obtain⟨qm,zQ⟩:=List.append_inj sU dK;obtain⟨_,oA⟩:=List.append_inj zQ rfl;subst qm;subst oA
   refine⟨?_,⟨⟨c,by rw[e1,hb],e2,?_⟩,by rw[ho,e3],by rw[hb];exact e4,e5.kp u hS (fun x hx _=>?_) h.lt⟩⟩
   ·rw[u.2 k (Nat.lt_of_lt_of_le h.lt h.le) hkS];exact h.cells
   ·rw[hb];refine kz.own u hS oa ?_;rw[List.length_append,List.length_append,rV]at UY ⊢;exact UY
   ·refine .inr fun hm=>?_
    have h6:=eg x hx;rcases hn x.b hm with e | e
    ·omega
    ·have:=im.2 _ e;omega
theorem BC.IU {O O':VH} {B k:Nat} {r r':Rec} {R:List Rec} {z tl pre post:List MV} {S:List Nat} (h:BC O B k (r::R) z tl) (hc:O.hp r.b=some (.cells (pre++iG r++post))) (hl:pre.length=r.off) (hR:R=[]->post=tl) (u:Kp O O' S) (hb:r'.b=r.b) (ho:r'.off=r.off)
  (hn:∀x∈S,x=r.b\/gid r.q=some x) (oa:O'.hp r.b=some (.cells (pre++iG r'++post))) (ht:GR O' 112 4 B r'.q r'.kids.length (ay r'.kids)) (NU:∀i,gid r'.q=some i->r.b<i):BC O' B k (r'::R) z tl:=by
 obtain⟨h1,h2⟩:=h.part hc hl hR u hb ho hn oa;exact⟨h.lt,Nat.le_trans h.le u.1,h1,h.zl,h2,⟨ht,fun i e=>by rw[hb];exact NU i e⟩⟩
theorem BC.push {O O':VH} {B k k' c:Nat} {r:Rec} {R:List Rec} {z tl pre post:List MV} {S:List Nat} {nm:Bs} {fD:List (Bs×Bs)} (h:BC O B k (r::R) z tl) (hc:O.hp r.b=some (.cells (pre++iG r++post))) (hl:pre.length=r.off) (hR:R=[]->post=tl) (u:Kp O O' S)
  (hn:∀x∈S,x=r.b\/gid r.q=some x) (oa:O'.hp r.b=some (.cells (pre++iG {r with q:=.bp k' 0 (r.kids.length+1) c}++post))) (hk:gid r.q=some k'\/O.next<=k') (hlen:r.kids.length+1<=c)
  (kz:Row O' 112 4 B k' c (ay r.kids++iG ⟨k',r.kids.length*4,nm,fD,[],.sl 0 [] .nil⟩)):BC O' B k (⟨k',r.kids.length*4,nm,fD,[],.sl 0 [] .nil⟩::{r with q:=.bp k' 0 (r.kids.length+1) c}::R) z tl:=by
 obtain⟨h1,h2⟩:=h.part (r':={r with q:=.bp k' 0 (r.kids.length+1) c}) hc hl hR u rfl rfl hn oa
 have hrb:r.b<k':=by
  rcases hk with e | e
  ·exact h.top.2 _ e
  ·obtain⟨_,_,_,_,e2,_⟩:=h.loc;omega
 exact⟨h.lt,Nat.le_trans h.le u.1,h1,h.zl,⟨⟨c,rfl,hlen,kz⟩,rfl,hrb,h2⟩,⟨.inl ⟨rfl,by rw[ay],.inl rfl⟩,fun i e=>by cases e⟩⟩
theorem BC.step {O O':VH} {B k:Nat} {R:List Rec} {z z' tl tl':List MV} {S:List Nat} (h:BC O B k R z tl) (u:Kp O O' S) (hS:∀x∈S,x=k\/O.hp x=some .tok) (hc:O'.hp k=some (.cells (oC R z'++tl'))) (hz:z'.length=4):BC O' B k R z' tl':=by
 have hS2:AX O S:=fun x hx j t n e=>by
  rcases hS x hx with e2 | e2
  ·subst e2;rw[h.cells]at e;cases e
  ·rw[e2]at e;cases e
 have hn:∀{i:Nat},(∃cs,O.hp i=some (.cells cs))->i≠k->i ∉ S:=fun{i} ⟨cs,e⟩ hne hm=>by
  rcases hS i hm with e2 | e2
  ·exact hne e2
  ·rw[e2]at e;cases e
 refine⟨h.lt,Nat.le_trans h.le u.1,hc,hz,h.chain.kp u hS2 (fun r _ hr=>?_) h.lt,?_⟩
 ·by_cases e:r.b=k
  ·exact .inl e
  ·exact .inr (hn (hr.resolve_left e) e)
 ·have ht:=h.top;cases R with
  | nil=>trivial
  | cons r R=>exact⟨ht.1.kp u hS2 (fun i e=>hn (ht.1.L7 e) (by have:=(ht.1.lo e).1;have:=h.lt;omega)),ht.2⟩
theorem Kp.set {O:VH} {k:Nat} {x:b_}:Kp O (O.set k x) [k]:=⟨Nat.le_refl _,fun i _ hn=>VH.ak _ _ (by simpa using hn)⟩
theorem Kp.refl {O:VH} {S:List Nat}:Kp O O S:=⟨Nat.le_refl _,fun _ _ _=>rfl⟩
theorem Kp.trans {O O1 O2:VH} {S T:List Nat} (h:Kp O O1 S) (k:Kp O1 O2 T):Kp O O2 (S++T):=⟨Nat.le_trans h.1 k.1,fun i hi hn=>by
 rw[List.mem_append,not_or]at hn;rw[k.2 i (Nat.lt_of_lt_of_le hi h.1) hn.2,h.2 i hi hn.1]⟩
theorem Kp.ge {O O1:VH} (h:O.Ge O1) {S:List Nat}:Kp O O1 S:=⟨h.next,fun i hi _=>h.hp i hi⟩
theorem Kp.br {O O1:VH} {q:Option Nat} (h:bq O q O1):Kp O O1 q.toList:=⟨h.next,fun i hi hn=>h.hp i hi fun e=>hn (by rw[e];simp)⟩
theorem Kp.k {O O1:VH} {tk:Tok} (h:cP tk O O1):Kp O O1 (Tok.id tk).toList:=⟨h.next,fun i hi hn=>h.hp i hi fun e=>hn (by rw[e];simp)⟩
theorem Kp.sub {O O1:VH} {S T:List Nat} (h:Kp O O1 S) (hs:∀x∈S,x∈T\/O.next<=x):Kp O O1 T:=⟨h.1,fun i hi hn=>h.2 i hi fun hm=>by
 rcases hs i hm with e | e
 ·exact hn e
 ·omega⟩
theorem BC.ge {O O':VH} {B k:Nat} {R:List Rec} {z tl:List MV} (h:BC O B k R z tl) (g:O.Ge O'):BC O' B k R z tl:=
 h.step (S:=[]) (Kp.ge g) (fun x hx=>by cases hx) ((g.hp _ (Nat.lt_of_lt_of_le h.lt h.le)).trans h.cells) h.zl
def oX (R:List Rec) (tk:Tok) (bX:Nat) (dn tx:Bool):List MV:=[.sl R.length (gD R) tk,mi bX,mb dn,mb tx]
structure BS (O:VH) (B k:Nat) (R:List Rec) (tk:Tok) (bX:Nat) (dn tx:Bool) (z:List MV):Prop where
 c:BC O B k R z (oX R tk bX dn tx)
 a:App O B 1 tk
theorem BS.ge {O O':VH} {B k bX:Nat} {R:List Rec} {tk:Tok} {dn tx:Bool} {z:List MV} (h:BS O B k R tk bX dn tx z) (g:O.Ge O'):BS O' B k R tk bX dn tx z:=⟨h.c.ge g,h.a.ge g⟩
def dD (k:Nat) (R:List Rec) (tk:Tok):List Nat:=k::(R.map (·.b)++(R.head?.bind fun r=>gid r.q).toList++(Tok.id tk).toList)
theorem m7 {k:Nat} {R:List Rec} {tk:Tok}:k∈dD k R tk:=by simp[dD]
theorem oY {k:Nat} {r:Rec} {R:List Rec} {tk:Tok}:r.b∈dD k (r::R) tk:=by simp[dD]
theorem m9 {k x:Nat} {r:Rec} {R:List Rec} {tk:Tok} (h:gid r.q=some x):x∈dD k (r::R) tk:=by simp[dD,h]
theorem CP {k x:Nat} {R:List Rec} {tk:Tok} (h:Tok.id tk=some x):x∈dD k R tk:=by simp[dD,h]
theorem z_ {k:Nat} {r:Rec} {R:List Rec} {tk:Tok} (h:r∈R):r.b∈dD k R tk:=by
 have:=List.mem_map_of_mem (f:=fun r:Rec=>r.b) h;simp only[dD,List.mem_cons,List.mem_append];exact .inr (.inl (.inl this))
theorem Kp.more {O O1 O2:VH} {U S:List Nat} (h:Kp O O1 U) (k:Kp O1 O2 S) (hs:∀x∈S,x∈U\/O.next<=x):Kp O O2 U:=⟨Nat.le_trans h.1 k.1,fun i hi hn=>by
 rw[k.2 i (Nat.lt_of_lt_of_le hi h.1) (fun hm=>(hs i hm).elim hn fun e=>by omega),h.2 i hi hn]⟩
set_option linter.defProp false in
def aC:=And.intro dP<|And.intro ah0<|And.intro ahZ<|And.intro Lf<|And.intro Lg nV
theorem qB {l:List MV} (h:l.length=4):∃a b c d,l=[a,b,c,d]:=by
 match l,h with
 | [a,b,c,d],_=>exact⟨_,_,_,_,rfl⟩
theorem App.xm {O:VH} {B sz k:Nat} {tk:Tok} {x:b_} (h:App O B sz tk) (hk:k<B):App (O.set k x) B sz tk:=by
 cases tk with
 | own t j=>exact⟨h.1,(VH.ak _ _ (by have:=h.2.2.1;omega)).trans h.2.1,h.2.2.1,h.2.2.2⟩
 | nil=>trivial
 | full=>trivial
 | aq=>exact h.elim
theorem BS.flag {O:VH} {B k bX cnt':Nat} {R:List Rec} {tk:Tok} {dn tx dn' tx':Bool} {z:List MV} (h:BS O B k R tk bX dn tx z):BS (O.set k (.cells (oC R z++oX R tk cnt' dn' tx'))) B k R tk cnt' dn' tx' z:=
 ⟨h.c.step Kp.set (fun x hx=>.inl (by simpa using hx)) (VH.an _ _ _) h.c.zl,h.a.xm h.c.lt⟩
theorem ZR {O:VH} {B k bX:Nat} {R:List Rec} {tk:Tok} {dn tx:Bool} {z:List MV} (h:BS O B k R tk bX dn tx z) (hc:bX<=1000000):
  VF Tryz.prog 294 [.ptr k 0] O (aD fun m O'=>m=mb (decide (bX+1<=4096))/\BS O' B k R tk (bX+1) dn tx z/\Kp O O' [k]):=by
 have hk:=h.c.cells;obtain⟨a0,a1,a2,a3,hr⟩:=qB (eK R z h.c.zl);have my:=h.flag (cnt':=bX+1) (dn':=dn) (tx':=tx);unfold oX at hk my;rw[hr]at hk my;simp only[ar,a_,List.cons_append,List.nil_append]at hk my;refine VF.du 15 [.tmp 2] Tryz.func294 ?_;by_cases h1:bX+1<=4096
 ·rw[decide_eq_true h1];refine ao @aC @hk ?_;exact⟨my,Kp.set⟩
 ·rw[decide_eq_false h1];refine ao @aC @hk ?_;exact⟨my,Kp.set⟩
theorem EG {O:VH} {B k bX:Nat} {r:Rec} {R:List Rec} {tk:Tok} {dn tx:Bool} {z:List MV} (h:BS O B k (r::R) tk bX dn tx z) (hl:R.length<=1000):
  VF Tryz.prog 269 [.ptr k 0] O (aD fun m O'=>m= .ptr r.b r.off/\O'=O):=by
 have hk:=h.c.cells;obtain⟨a0,a1,a2,a3,hr⟩:=qB (eK (r::R) z h.c.zl);unfold oX at hk;rw[hr]at hk
 have bA:(gD (r::R))[R.length]?=some (.ptr r.b r.off):=by
  rw[qA,List.getElem?_append_right (by rw[kJ];exact Nat.le_refl _),kJ,Nat.sub_self];rfl
 have hCl:(gD (r::R)).length=R.length+1:=by rw[kJ];rfl
 generalize gD (r::R)=C at*;simp only[ar,a_,List.cons_append,List.nil_append,List.length_cons]at hk;have qW:(((R.length+1:Nat):Int) - 1)=(R.length:Int):=by omega
 refine VF.bO 15 [.tmp 2] Tryz.func269 ?_;refine VC.ag aa (ae @aC ?_);refine VC.bC ?_;refine WC.reads ?_;refine gW @aC @hk @qW @bA @uM ?_;refine WC.sound aa (ae @aC ?_);trivial
def qZ (R:List Rec):List (Bs×List (Bs×Bs)×List Nd):=R.map fun r=>(r.name,r.attrs,r.kids)
def qC (n bX:Nat) (dn:Bool):Option Int:=if dn then some 16 else if 64<=n then some 2 else if 4096<bX+1 then some 2 else none
theorem VH.set_comm {O:VH} {a b:Nat} {x y:b_} (h:a≠b):(O.set a x).set b y=(O.set b y).set a x:=by
 have key:br (br O.hp a (some x)) b (some y)=br (br O.hp b (some y)) a (some x):=by
  funext j
  by_cases e:j=a
  ·subst e;rw[aw _ _ h,aG,aG]
  ·by_cases e2:j=b
   ·subst e2;rw[aG,aw _ _ e,aG]
   ·rw[aw _ _ e2,aw _ _ e,aw _ _ e,aw _ _ e2]
 unfold VH.set;dsimp only;rw[key]
section
variable {G H:Gh} {n:Sz} {D:List Deferred} {e:Env} {a:Act} {P:Program} {tab:b9} {O O':VH} {w:World} {m:MV} {ops:Array Oper} {Q:VQ}
theorem bE.aeL {brk:List Nat} {fuel i:Nat} {listed:Array Bool} {l:List Oper} {o:Oper} (ho:l[i]?=some o) (hr:Region.ready .any ⟨l⟩ listed=[i]) (hb:brk.contains i=false) (hA:Fv o.op=true)
  (hg:aL ⟨l⟩ o e=some true) (hy:∀G a w,WR G O w->FR G n D e a->dq P o a w G m O') (hd:bm n o.dst=true) (h:bE P n D ⟨l⟩ brk fuel (listed.setIfInBounds i true) (aU o.dst m e) O' Q):bE P n D ⟨l⟩ brk (fuel+1) listed e O Q:=by
 intro G a w hw aS;refine jq hr (by simp) fun j hj=>?_
 obtain rfl:j=i:=by simpa using hj
 obtain⟨nx,w',H,u,cc,wP,h1,h2,h3,h4⟩:=hy G a w hw aS;have Cq:(⟨l⟩:Array Oper)[j]?=some o:=by simpa using ho
 simp only[wpOp,Cq,bj aS hg,if_true];refine .inl ?_;unfold Oper.wp;rw[cc];have hk:=h H (a.put o.dst u) w' h2 ((aS.mono h1).aU hd h3)
 have Xh:TH brk G w j w'/\iN P .any ⟨l⟩ (cx G n D Q) (TH brk G w) fuel (listed.setIfInBounds j true) (a.put o.dst u) w':=by
  have ph:=h4 hA;have hs:Sx G w w':=⟨SS.le h1 h2.ss,ph⟩;refine⟨fun _=>hs,jr (fun _ _ _=>cx.le h1) _ _ _ _ (fun k _ x hT Da=>?_) hk⟩;obtain⟨g1,g2⟩:=hT Da;exact⟨SS.le h1 g1,fun k' b mF=>(g2 k' b (h1.bL mF)).trans (ph k' b mF)⟩
 rcases wP with rfl | ⟨rfl,rfl⟩<;>exact Xh
end
theorem ZS {G:Gh} {n:Sz} {D:List Deferred} {e:Env} {a:Act} {O:VH} {w:World} {d:Option Tmp} {ty:TypeId} {ps:String} {af:Array Edge} {g:Option (Nat×Bool)} (hw:WR G O w) (hf:FR G n D e a):dq Tryz.prog (.mk d (.buildSlice 110 1 #[(0,.const (.agg #[.string ⟨⟨[]⟩⟩,.slice none 0 0,.slice none 0 0,.string ⟨⟨[]⟩⟩]))]) ty ps af g) a w G (.sl 1 [.str [],.sl 0 [] .nil,.sl 0 [] .nil,.str []] .full) O:=
 dq.of (td (t:=110) (len:=1) (m:=.sl 1 [.str [],.sl 0 [] .nil,.sl 0 [] .nil,.str []] .full) (parts:=[(0,.agg [.str [],.sl 0 [] .nil,.sl 0 [] .nil,.str []])]) (ps:= #[(0,.agg #[.string ⟨⟨[]⟩⟩,.slice none 0 0,.slice none 0 0,.string ⟨⟨[]⟩⟩])]) aa hw (by kernel_rfl) rfl
  (aO.cons (.agg (us:=[.string ⟨⟨[]⟩⟩,.slice none 0 0,.slice none 0 0,.string ⟨⟨[]⟩⟩]) rfl (aO.cons .str (aO.cons .slnil (aO.cons .slnil (aO.cons .str aO.nil)))).2) aO.nil)) (by simp[execOp,Act.eval])
theorem aeM (L sp:List MV) (x y z w a b c d:MV):((((L++[x,y,z,w]++sp).set L.length a).set (L.length+1) b).set (L.length+1+1) c).set (L.length+1+1+1) d=L++[a,b,c,d]++sp:=by
 induction L with
 | nil=>rfl
 | cons e L ih=>
   simp only[List.cons_append,List.length_cons,List.set_cons_succ];rw[ih]
theorem App.L8 {O O':VH} {B sz:Nat} {tk:Tok} {S:List Nat} (h:App O B sz tk) (u:Kp O O' S) (hS:∀x∈S,O.hp x≠some .tok):App O' B sz tk:=by
 cases tk with
 | own t k=>exact⟨h.1,(u.2 t h.2.2.2 (fun hm=>hS t hm h.2.1)).trans h.2.1,h.2.2.1,Nat.lt_of_lt_of_le h.2.2.2 u.1⟩
 | nil=>trivial
 | full=>trivial
 | aq=>exact h.elim
theorem R6 {O:VH} {B n:Nat} {p:MV} {L:List MV} (h:GR O 112 4 B p n L):jJ (fF Tryz.prog) 110 p=some (.v (.int .i64 n)):=by
 rcases h with⟨rfl,_,rfl | rfl⟩ | ⟨k,c,rfl,_⟩
 ·exact iS nV
 ·exact iS nV
 ·exact GK nV
theorem ZT {O:VH} {B k bX:Nat} {R:List Rec} {tk:Tok} {dn tx:Bool} {z:List MV} (h:BS O B k R tk bX dn tx z) (hc:bX<=1000000) (kd:Int) (nm tt:Bs) (fD:List (Bs×Bs)) (p1 p2 p3:Int) (Hs:fD.length<=100000) (jY:∀r∈R,r.kids.length<=1000000):
  VF Tryz.prog 267 [.ptr k 0,.agg [mi kd,.str nm,.sl fD.length (fD.flatMap aY) .aq,.str tt,mi p1,mi p2,mi p3]] O (aD fun m O'=>Kp O O' (dD k R tk)/\match qC R.length bX dn with
   | some e=>m=mi e
   | none=>m=mi 0/\∃R' tk',BS O' B k R' tk' (bX+1) false false z/\qZ R'=(nm,fD,[])::qZ R/\∀x∈dD k R' tk',x∈dD k R tk\/O.next<=x):=by
 obtain⟨a0,a1,a2,a3,hr⟩:=qB (eK R z h.c.zl);have gm:=h.c.lt;have hBn:=h.c.le;simp only[ar];refine VF.bO 87 [.tmp 4] Tryz.func267 ?_;refine VC.ag aa (ae @aC ?_);refine VC.bx ?_;rintro O1 ⟨aM,Cu,c5⟩;have h1:=h.ge aM;have dT:=h1.c.cells;unfold oX at dT;rw[hr]at dT;simp only[ar,a_,List.cons_append,List.nil_append]at dT;have jf:Kp O O1 (dD k R tk):=Kp.ge aM;have vt:∀x∈[k],x∈dD k R tk\/O.next<=x:=fun x hx=>.inl (by rw[List.mem_singleton]at hx;rw[hx];exact m7)
 cases dn;rotate_left
 ·refine VC.ag aa (ao @aC @dT ?_);exact⟨jf,rfl⟩
 by_cases D2:64<=R.length
 ·have hE:qC R.length bX false=some 2:=by unfold qC;rw[if_neg (by simp),if_pos D2]
  rw[hE];refine VC.ag aa (ao @aC @dT ?_);exact jf
 refine VC.ag aa (ao @aC @dT ?_);refine ah.rt (ZR h1 hc) ?_;rintro _ O2 ⟨rfl,h2,dk⟩;by_cases Ee:bX+1<=4096;rotate_left
 ·have hE:qC R.length bX false=some 2:=by unfold qC;rw[if_neg (by simp),if_neg D2,if_pos (by omega)]
  rw[hE,decide_eq_false Ee];refine ae @aC ?_;exact jf.more dk vt
 have hE:qC R.length bX false=none:=by unfold qC;rw[if_neg (by simp),if_neg D2,if_neg (by omega)]
 rw[hE,decide_eq_true Ee];dsimp only;refine ae @aC ?_;have P8:Kp O O2 (dD k R tk):=jf.more dk vt;have EH:=(dk.2 _ (by omega) (by simp;omega)).trans Cu;have iB:=dk.1;refine VC.ag aa (ao @aC @EH ?_);refine VC.al ?_;rintro O3 ⟨aJ,kZ,gL⟩;have h3:=h2.ge aJ;have dG:=h3.c.cells;have AY:Kp O O3 (dD k R tk):=P8.more (Kp.ge aJ (S:=[])) (fun x hx=>by cases hx);have hR:R.length<64:=by omega
 cases R with
 | nil=>
   obtain rfl:z=[a0,a1,a2,a3]:=hr;unfold oX at dG;simp only[oC,gD,List.map_nil,List.reverse_nil,List.length_nil,ar,a_,List.cons_append,List.nil_append]at dG;refine VC.ag aa (aI @aC @dG @kZ ?_);refine VC.gen ?_;intro O4 oU;have ja:O4.hp k=some (.cells [.str nm,.sl fD.length (fD.flatMap aY) .aq,.sl 0 [] .nil,.str [],.sl 0 [] tk,.v (.int .i64 (bX+1:Nat)),.v (.bool false),.v (.bool tx)]):=by rw[oU];exact VH.an _ _ _
   have kG:App O4 B 1 tk:=by rw[oU];exact h3.a.xm gm
   have gM:O4.next=O3.next:=by rw[oU];rfl
   have agx:Kp O O4 (dD k [] tk):=AY.more (S:=[k]) (by rw[oU];exact Kp.set) vt;clear oU;refine WC.bH (.held [12]) [(0,.rd),(1,.rd),(2,.rd),(3,.rd),(4,.rd),(5,.rd),(6,.rd),(7,.rd),(8,.one),(9,.one),(10,.one),(11,.rd),(12,.one)] ?_;refine ao @aC @ja ?_;have cH:=bo (tk':=.full) (n:=0) (k:=1) (cs:=[]) (ds:=[.ptr k 0]) Lf Lg kG rfl rfl rfl (by decide) (by decide) (by decide) (by decide);refine VL.app cH ?_;have gC:=VH.o_ kG ja (by simp) (by omega);have gu:=VH.eN O4 tk;have fl:App (O4.after tk) B 1 (.own O4.next 1):=App.after (by omega);have sV:Kp O (O4.after tk) (dD k [] tk):=agx.more (Kp.k (cP.after kG)) (fun x hx=>.inl (CP (by simpa using hx)));generalize O4.after tk=O5 at*;refine ao @aC @gC ?_;refine VC.gen ?_;intro O6 AS;have oR:O6.hp k=some (.cells [.str nm,.sl fD.length (fD.flatMap aY) .aq,.sl 0 [] .nil,.str [],.sl 1 [.ptr k 0] (.own O4.next 1),.v (.int .i64 (bX+1:Nat)),.v (.bool false),.v (.bool tx)]):=by rw[AS];exact VH.an _ _ _
   have AZ:App O6 B 1 (.own O4.next 1):=by rw[AS];exact fl.xm gm
   have EI:Kp O O6 (dD k [] tk):=sV.more (S:=[k]) (by rw[AS];exact Kp.set) vt;have ov:O6.next=O5.next:=by rw[AS];rfl
   clear AS;refine VC.ag aa (ao @aC @oR ?_);refine WC.sound aa (ae @aC ?_);refine⟨EI.more Kp.set vt,[⟨k,0,nm,fD,[],.sl 0 [] .nil⟩],.own O4.next 1,⟨⟨gm,by rw[VH.eM];omega,?_,rfl,⟨rfl,rfl⟩,⟨.inl ⟨rfl,by rw[ay],.inl rfl⟩,(fun i e=>by cases e)⟩⟩,AZ.xm gm⟩,rfl,fun x hx=>?_⟩
   ·rw[VH.an];rfl
   ·have hx:x∈[k,k,O4.next]:=hx;simp only[List.mem_cons,List.not_mem_nil,or_false]at hx;rcases hx with rfl | rfl | rfl
    ·exact .inl m7
    ·exact .inl m7
    ·exact .inr (by omega)
 | cons r R=>
   unfold oX at dG;rw[hr]at dG;simp only[ar,a_,List.cons_append,List.nil_append,List.length_cons]at dG;obtain⟨pre,post,eE,dK,B5,A_,IV⟩:=h3.c.loc;have im:=h3.c.top;refine VC.ag aa (ao @aC @dG ?_);refine ah.rt (EG h3 (by rw[List.length_cons]at hR;omega)) ?_;rintro _ O9 ⟨rfl,eO⟩;rw[eO];clear eO O9
   refine ae @aC ?_;have hkr:=jY r (by simp)
   have VA:(pre++iG r++post)[r.off+2]?=some r.q:=by
    rw[List.append_assoc,List.getElem?_append_right (by omega), <-dK,Nat.add_sub_cancel_left];rfl
   have kh:∀q',(pre++iG r++post).set (r.off+2) q'=pre++iG {r with q:=q'}++post:=fun q'=>by
    rw[List.append_assoc,List.set_append_right _ _ (by omega), <-dK,Nat.add_sub_cancel_left,List.append_assoc];rfl
   have hlC:(pre++iG r++post).length=pre.length+4+post.length:=by simp[rV];omega
   generalize hC:pre++iG r++post=C at*;refine VC.H6 [7,8,9,10,11,12] (by kernel_rfl) ?_;refine bE.AO 0 ?_;refine ae @aC ?_;refine bE.AO 1 ?_;refine ae @aC ?_;refine bE.AO 2 ?_;refine ae @aC ?_;refine bE.AO 3 ?_;refine aI @aC @eE @VA ?_;refine bE.AO 4 ?_;refine ao @aC @kZ ?_;have jk:=R6 im.1;refine bE.AO 5 ?_;refine ao @aC @jk ?_;refine bE.aeL (i:=6) rfl (by kernel_rfl) (by kernel_rfl) rfl rfl (fun _ _ _ hw hf=>ZS hw hf) rfl ?_;simp only[aj];refine bE.fin (by kernel_rfl) ?_;refine cf.st (i:=7) rfl (by kernel_rfl) rfl rfl (PO aa (te:=⟨_,4,80,_⟩) (dx:=.slice 112) (q:=.sl 1 [.str [],.sl 0 [] .nil,.sl 0 [] .nil,.str []] .full) (j:=1) (ds:=[.str [],.sl 0 [] .nil,.sl 0 [] .nil,.str []]) im.1 rfl rfl (by rw[nV];rfl) tu.1.1 (by rw[nV];rfl) trivial (by dsimp only;omega) (by simp only[maxLen];omega) (by omega) rfl rfl) ?_;rintro m O4 ⟨wT,pZ,gZ,hm⟩
   obtain⟨k2,c2,rfl,bR⟩:∃k2 c2,m= .bp k2 0 (r.kids.length+1) c2/\(gid r.q=some k2\/O3.next<=k2):=by
    rcases hm with⟨k2,c2,h1,h2⟩ | ⟨h1,_⟩
    ·exact⟨k2,c2,h1,h2.imp id And.left⟩
    ·cases h1
   obtain⟨cL,zc⟩:Row O4 112 4 B k2 c2 (ay r.kids++[.str [],.sl 0 [] .nil,.sl 0 [] .nil,.str []])/\r.kids.length+1<=c2:=by
    rcases wT with⟨h1,_⟩ | ⟨k3,c3,h1,h2,_,h4⟩
    ·omega
    ·injection h1 with h1 _ _ h3;subst h1;subst h3;exact⟨h4,h2⟩
   have ZU:r.b<k2:=by
    rcases bR with e | e
    ·exact im.2 _ e
    ·omega
   have aix:=pZ.next;have eX:O4.hp r.b=some (.cells C):=(pZ.hp _ B5 (fun e=>by have:=im.2 _ e;omega)).trans eE;obtain⟨sp,wU,u9⟩:=cL.cells;simp only[aj];have uk:=cZ r.kids
   have q_:∀a b c d:MV,((((ay r.kids++([.str [],.sl 0 [] .nil,.sl 0 [] .nil,.str []]:List MV)++sp).set (r.kids.length*4) a).set (r.kids.length*4+1) b).set (r.kids.length*4+1+1) c).set (r.kids.length*4+1+1+1) d=ay r.kids++[a,b,c,d]++sp:=fun a b c d=>by
    rw[<-uk];exact aeM _ _ _ _ _ _ _ _ _ _
   generalize C9:ay r.kids++[.str [],.sl 0 [] .nil,.sl 0 [] .nil,.str []]++sp=C2 at*;refine cf.G3 8 ?_;refine ae @aC ?_;refine cf.G3 10 ?_;refine ae @aC ?_;refine cf.G3 11 ?_;refine ae @aC ?_;refine cf.two (i:=9) (j:=12) (by kernel_rfl) ?_ ?_
   ·refine aH.o1 ?_;refine aI @aC @wU @q_ ?_;refine cf.RY (i:=12) ?_;refine aI @aC @eX @kh ?_;refine cf.bH [] ?_;refine WL.gen ?_;intro O5 l0;have gu:O5.next=O4.next:=by rw[l0];rfl
    have fA:O5.hp r.b=some (.cells (pre++iG {r with q:=.bp k2 0 (r.kids.length+1) c2}++post)):=by rw[l0];exact VH.an _ _ _
    have Aa:O5.hp k2=some (.cells (ay r.kids++iG ⟨k2,r.kids.length*4,nm,fD,[],.sl 0 [] .nil⟩++sp)):=by rw[l0];exact VH.sn (VH.an _ _ _)
    have u4:Kp O4 O5 [k2,r.b]:=by rw[l0];exact Kp.trans (S:=[k2]) (T:=[r.b]) Kp.set Kp.set
    clear l0
    have P9:AX O4 [k2,r.b]:=fun x hx j t n e=>by
     simp only[List.mem_cons,List.not_mem_nil,or_false]at hx;rcases hx with rfl | rfl
     ·rw[wU]at e;cases e
     ·rw[eX]at e;cases e
    have P_:Row O5 112 4 B k2 c2 (ay r.kids++iG ⟨k2,r.kids.length*4,nm,fD,[],.sl 0 [] .nil⟩):=cL.own u4 P9 Aa (by rw[<-u9, <-C9];simp[rV];omega)
    have u3:Kp O3 O5 (r.b::(gid r.q).toList):=((Kp.br pZ).trans u4).sub (fun x hx=>by
     simp only[List.mem_append,List.mem_cons,List.not_mem_nil,or_false]at hx ⊢;rcases hx with hx | hx | hx
     ·exact .inl (.inr hx)
     ·rcases bR with e | e
      ·rw[e];simp[hx]
      ·exact .inr (by omega)
     ·exact .inl (.inl hx))
    have n0:∀x∈r.b::(gid r.q).toList,x=r.b\/gid r.q=some x:=fun x hx=>by
     rcases List.mem_cons.1 hx with e | e
     ·exact .inl e
     ·exact .inr (by simpa using e)
    have IW:BC O5 B k _ z (oX (r::R) tk (bX+1) false tx):=h3.c.push (by rw[hC];exact eE) dK (fun e=>(A_ e).2.2) u3 n0 fA bR zc P_
    have fl:App O5 B 1 tk:=by
     refine h3.a.L8 u3 fun x hx e=>?_
     rcases n0 x hx with e2 | e2
     ·subst e2;rw[eE]at e;cases e
     ·obtain⟨cs,e3⟩:=im.1.L7 e2;rw[e3]at e;cases e
    have sV:Kp O O5 (dD k (r::R) tk):=AY.more u3 (fun x hx=>by
     rcases n0 x hx with e | e
     ·rw[e];exact .inl oY
     ·exact .inl (m9 e))
    obtain⟨b0,b1,b2,b3,kK⟩:=qB (eK (⟨k2,r.kids.length*4,nm,fD,[],.sl 0 [] .nil⟩::{r with q:=.bp k2 0 (r.kids.length+1) c2}::R) z h.c.zl);have gC:=IW.cells;unfold oX at gC;rw[kK]at gC;have hP:=kJ (r::R);generalize hPG:gD (r::R)=PT at*;simp only[ar,a_,List.cons_append,List.nil_append,List.length_cons]at gC hP
    have ZV:(pre++iG {r with q:=.bp k2 0 (r.kids.length+1) c2}++post)[r.off+2]?=some (.bp k2 0 (r.kids.length+1) c2):=by
     rw[List.append_assoc,List.getElem?_append_right (by omega), <-dK,Nat.add_sub_cancel_left];rfl
    generalize pre++iG {r with q:=.bp k2 0 (r.kids.length+1) c2}++post=C5 at*;have qW:(((r.kids.length+1:Nat):Int) - 1)=(r.kids.length:Int):=by omega
    refine ae @aC ?_;refine WC.bH (.held [20]) [(0,.rd),(1,.rd),(2,.rd),(3,.rd),(4,.rd),(5,.rd),(6,.rd),(7,.rd),(8,.rd),(9,.rd),(10,.rd),(11,.rd),(12,.rd),(13,.rd),(14,.rd),(15,.rd),(16,.one),(17,.one),(18,.one),(19,.rd),(20,.one)] ?_;refine La @aC @gC @fA @ZV @qW @uM ?_;have cH:=bo (tk':=.full) (n:=R.length+1) (k:=1) (cs:=PT) (ds:=[.ptr k2 (r.kids.length*4)]) Lf Lg fl (by rw[hP,Nat.mul_one]) rfl rfl (by decide) (by decide) (by simp only[List.length_cons]at hR;omega) (by simp only[List.length_cons,maxLen]at hR ⊢;omega);refine VL.app cH ?_;have oR:=VH.o_ fl gC (by simp) (by omega);have ov:=VH.eN O5 tk;have AZ:App (O5.after tk) B 1 (.own O5.next 1):=App.after (by omega);have u6:Kp O5 (O5.after tk) (Tok.id tk).toList:=Kp.k (cP.after fl)
    have eb:∀x∈(Tok.id tk).toList,O5.hp x=some .tok/\B<=x:=fun x hx=>by
     have e:Tok.id tk=some x:=by simpa using hx
     cases tk with
     | own s j=>injection e with e;subst e;exact⟨fl.2.1,fl.2.2.1⟩
     | _=>cases e
    have EI:Kp O (O5.after tk) (dD k (r::R) tk):=sV.more u6 (fun x hx=>.inl (CP (by simpa using hx)));have ZW:BC (O5.after tk) B k _ z _:=IW.step (tl':=[.sl (R.length+1) PT tk,mi (bX+1:Nat),mb false,mb tx]) u6 (fun x hx=>.inr (eb x hx).1) (by rw[kK];exact oR) h.c.zl;generalize O5.after tk=O6 at*;refine ao @aC @oR ?_;refine VC.gen ?_;intro O7 pY;have tW:O7.hp k=some (.cells [b0,b1,b2,b3,.sl (R.length+1+1) (PT++[.ptr k2 (r.kids.length*4)]) (.own O5.next 1),.v (.int .i64 (bX+1:Nat)),.v (.bool false),.v (.bool tx)]):=by rw[pY];exact VH.an _ _ _
    have IX:App O7 B 1 (.own O5.next 1):=by rw[pY];exact AZ.xm gm
    have Qa:Kp O O7 (dD k (r::R) tk):=EI.more (S:=[k]) (by rw[pY];exact Kp.set) vt;have tV:O7.next=O6.next:=by rw[pY];rfl
    have ZX:BC O7 B k _ z [.sl (R.length+1+1) (PT++[.ptr k2 (r.kids.length*4)]) (.own O5.next 1),.v (.int .i64 (bX+1:Nat)),.v (.bool false),.v (.bool tx)]:=ZW.step (S:=[k]) (by rw[pY];exact Kp.set) (fun x hx=>.inl (by simpa using hx)) (by rw[kK];exact tW) h.c.zl;clear pY;refine VC.ag aa (ao @aC @tW ?_);refine WC.sound aa (ae @aC ?_);refine⟨Qa.more Kp.set vt,⟨k2,r.kids.length*4,nm,fD,[],.sl 0 [] .nil⟩::{r with q:=.bp k2 0 (r.kids.length+1) c2}::R,.own O5.next 1,⟨ZX.step (S:=[k]) Kp.set (fun x hx=>.inl (by simpa using hx)) ?_ h.c.zl,IX.xm gm⟩,rfl,fun x hx=>?_⟩;rotate_left
    ·have hx:x∈k::((k2::r.b::R.map (·.b))++[]++[O5.next]):=hx;simp only[List.mem_cons,List.mem_append,List.append_nil,List.not_mem_nil,or_false,List.mem_map]at hx;rcases hx with rfl | (rfl | rfl | ⟨g,hg,rfl⟩) | rfl
     ·exact .inl m7
     ·rcases bR with e | e
      ·exact .inl (m9 e)
      ·exact .inr (by omega)
     ·exact .inl oY
     ·exact .inl (z_ (List.mem_cons_of_mem _ hg))
     ·exact .inr (by omega)
    rw[VH.an,kK, <-hPG];have e:gD (⟨k2,r.kids.length*4,nm,fD,[],.sl 0 [] .nil⟩::{r with q:=.bp k2 0 (r.kids.length+1) c2}::R)=gD (r::R)++[.ptr k2 (r.kids.length*4)]:=qA _ _;unfold oX;rw[e];rfl
   ·refine aH.o1 ?_;refine aI @aC @eX @kh ?_;refine cf.RY (i:=9) ?_;refine aI @aC @wU @q_ ?_;refine cf.bH [] ?_;refine WL.gen ?_;intro O5 l0;rw[VH.set_comm (by omega)]at l0;have gu:O5.next=O4.next:=by rw[l0];rfl
    have fA:O5.hp r.b=some (.cells (pre++iG {r with q:=.bp k2 0 (r.kids.length+1) c2}++post)):=by rw[l0];exact VH.an _ _ _
    have Aa:O5.hp k2=some (.cells (ay r.kids++iG ⟨k2,r.kids.length*4,nm,fD,[],.sl 0 [] .nil⟩++sp)):=by rw[l0];exact VH.sn (VH.an _ _ _)
    have u4:Kp O4 O5 [k2,r.b]:=by rw[l0];exact Kp.trans (S:=[k2]) (T:=[r.b]) Kp.set Kp.set
    clear l0
    have P9:AX O4 [k2,r.b]:=fun x hx j t n e=>by
     simp only[List.mem_cons,List.not_mem_nil,or_false]at hx;rcases hx with rfl | rfl
     ·rw[wU]at e;cases e
     ·rw[eX]at e;cases e
    have P_:Row O5 112 4 B k2 c2 (ay r.kids++iG ⟨k2,r.kids.length*4,nm,fD,[],.sl 0 [] .nil⟩):=cL.own u4 P9 Aa (by rw[<-u9, <-C9];simp[rV];omega)
    have u3:Kp O3 O5 (r.b::(gid r.q).toList):=((Kp.br pZ).trans u4).sub (fun x hx=>by
     simp only[List.mem_append,List.mem_cons,List.not_mem_nil,or_false]at hx ⊢;rcases hx with hx | hx | hx
     ·exact .inl (.inr hx)
     ·rcases bR with e | e
      ·rw[e];simp[hx]
      ·exact .inr (by omega)
     ·exact .inl (.inl hx))
    have n0:∀x∈r.b::(gid r.q).toList,x=r.b\/gid r.q=some x:=fun x hx=>by
     rcases List.mem_cons.1 hx with e | e
     ·exact .inl e
     ·exact .inr (by simpa using e)
    have IW:BC O5 B k _ z (oX (r::R) tk (bX+1) false tx):=h3.c.push (by rw[hC];exact eE) dK (fun e=>(A_ e).2.2) u3 n0 fA bR zc P_
    have fl:App O5 B 1 tk:=by
     refine h3.a.L8 u3 fun x hx e=>?_
     rcases n0 x hx with e2 | e2
     ·subst e2;rw[eE]at e;cases e
     ·obtain⟨cs,e3⟩:=im.1.L7 e2;rw[e3]at e;cases e
    have sV:Kp O O5 (dD k (r::R) tk):=AY.more u3 (fun x hx=>by
     rcases n0 x hx with e | e
     ·rw[e];exact .inl oY
     ·exact .inl (m9 e))
    obtain⟨b0,b1,b2,b3,kK⟩:=qB (eK (⟨k2,r.kids.length*4,nm,fD,[],.sl 0 [] .nil⟩::{r with q:=.bp k2 0 (r.kids.length+1) c2}::R) z h.c.zl);have gC:=IW.cells;unfold oX at gC;rw[kK]at gC;have hP:=kJ (r::R);generalize hPG:gD (r::R)=PT at*;simp only[ar,a_,List.cons_append,List.nil_append,List.length_cons]at gC hP
    have ZV:(pre++iG {r with q:=.bp k2 0 (r.kids.length+1) c2}++post)[r.off+2]?=some (.bp k2 0 (r.kids.length+1) c2):=by
     rw[List.append_assoc,List.getElem?_append_right (by omega), <-dK,Nat.add_sub_cancel_left];rfl
    generalize pre++iG {r with q:=.bp k2 0 (r.kids.length+1) c2}++post=C5 at*;have qW:(((r.kids.length+1:Nat):Int) - 1)=(r.kids.length:Int):=by omega
    refine ae @aC ?_;refine WC.bH (.held [20]) [(0,.rd),(1,.rd),(2,.rd),(3,.rd),(4,.rd),(5,.rd),(6,.rd),(7,.rd),(8,.rd),(9,.rd),(10,.rd),(11,.rd),(12,.rd),(13,.rd),(14,.rd),(15,.rd),(16,.one),(17,.one),(18,.one),(19,.rd),(20,.one)] ?_;refine La @aC @gC @fA @ZV @qW @uM ?_;have cH:=bo (tk':=.full) (n:=R.length+1) (k:=1) (cs:=PT) (ds:=[.ptr k2 (r.kids.length*4)]) Lf Lg fl (by rw[hP,Nat.mul_one]) rfl rfl (by decide) (by decide) (by simp only[List.length_cons]at hR;omega) (by simp only[List.length_cons,maxLen]at hR ⊢;omega);refine VL.app cH ?_;have oR:=VH.o_ fl gC (by simp) (by omega);have ov:=VH.eN O5 tk;have AZ:App (O5.after tk) B 1 (.own O5.next 1):=App.after (by omega);have u6:Kp O5 (O5.after tk) (Tok.id tk).toList:=Kp.k (cP.after fl)
    have eb:∀x∈(Tok.id tk).toList,O5.hp x=some .tok/\B<=x:=fun x hx=>by
     have e:Tok.id tk=some x:=by simpa using hx
     cases tk with
     | own s j=>injection e with e;subst e;exact⟨fl.2.1,fl.2.2.1⟩
     | _=>cases e
    have EI:Kp O (O5.after tk) (dD k (r::R) tk):=sV.more u6 (fun x hx=>.inl (CP (by simpa using hx)));have ZW:BC (O5.after tk) B k _ z _:=IW.step (tl':=[.sl (R.length+1) PT tk,mi (bX+1:Nat),mb false,mb tx]) u6 (fun x hx=>.inr (eb x hx).1) (by rw[kK];exact oR) h.c.zl;generalize O5.after tk=O6 at*;refine ao @aC @oR ?_;refine VC.gen ?_;intro O7 pY;have tW:O7.hp k=some (.cells [b0,b1,b2,b3,.sl (R.length+1+1) (PT++[.ptr k2 (r.kids.length*4)]) (.own O5.next 1),.v (.int .i64 (bX+1:Nat)),.v (.bool false),.v (.bool tx)]):=by rw[pY];exact VH.an _ _ _
    have IX:App O7 B 1 (.own O5.next 1):=by rw[pY];exact AZ.xm gm
    have Qa:Kp O O7 (dD k (r::R) tk):=EI.more (S:=[k]) (by rw[pY];exact Kp.set) vt;have tV:O7.next=O6.next:=by rw[pY];rfl
    have ZX:BC O7 B k _ z [.sl (R.length+1+1) (PT++[.ptr k2 (r.kids.length*4)]) (.own O5.next 1),.v (.int .i64 (bX+1:Nat)),.v (.bool false),.v (.bool tx)]:=ZW.step (S:=[k]) (by rw[pY];exact Kp.set) (fun x hx=>.inl (by simpa using hx)) (by rw[kK];exact tW) h.c.zl;clear pY;refine VC.ag aa (ao @aC @tW ?_);refine WC.sound aa (ae @aC ?_);refine⟨Qa.more Kp.set vt,⟨k2,r.kids.length*4,nm,fD,[],.sl 0 [] .nil⟩::{r with q:=.bp k2 0 (r.kids.length+1) c2}::R,.own O5.next 1,⟨ZX.step (S:=[k]) Kp.set (fun x hx=>.inl (by simpa using hx)) ?_ h.c.zl,IX.xm gm⟩,rfl,fun x hx=>?_⟩;rotate_left
    ·have hx:x∈k::((k2::r.b::R.map (·.b))++[]++[O5.next]):=hx;simp only[List.mem_cons,List.mem_append,List.append_nil,List.not_mem_nil,or_false,List.mem_map]at hx;rcases hx with rfl | (rfl | rfl | ⟨g,hg,rfl⟩) | rfl
     ·exact .inl m7
     ·rcases bR with e | e
      ·exact .inl (m9 e)
      ·exact .inr (by omega)
     ·exact .inl oY
     ·exact .inl (z_ (List.mem_cons_of_mem _ hg))
     ·exact .inr (by omega)
    rw[VH.an,kK, <-hPG];have e:gD (⟨k2,r.kids.length*4,nm,fD,[],.sl 0 [] .nil⟩::{r with q:=.bp k2 0 (r.kids.length+1) c2}::R)=gD (r::R)++[.ptr k2 (r.kids.length*4)]:=qA _ _;unfold oX;rw[e];rfl
def Rec.nd (r:Rec):Nd:=.mk r.name r.attrs r.kids []
theorem oB.head {O:VH} {B k:Nat} {p:Rec} {R:List Rec} {K:List Nd} (h:oB O B k (p::R)):oB O B k ({p with kids:=K}::R):=by
 cases R with
 | nil=>exact h
 | cons g R=>exact h
theorem L9 {p:Rec} {R:List Rec} {z:List MV} {K:List Nd}:oC ({p with kids:=K}::R) z=oC (p::R) z:=by
 cases R with
 | nil=>rfl
 | cons g R=>rfl
def L_ (r:Rec):List Rec->List Rec
 | []=>[]
 | p::R=>{p with kids:=p.kids++[r.nd]}::R
def Ma (r:Rec) (z:List MV):List Rec->List MV
 | []=>df r.nd
 | _::_=>z
theorem BC.pop {O O':VH} {B k:Nat} {r:Rec} {R:List Rec} {z tl pre post:List MV} {S:List Nat} (h:BC O B k (r::R) z tl) (hc:O.hp r.b=some (.cells (pre++iG r++post))) (hl:pre.length=r.off) (hR:R=[]->post=tl) (u:Kp O O' S)
  (hn:∀x∈S,x=r.b\/gid r.q=some x) (oa:O'.hp r.b=some (.cells (pre++df r.nd++post))):BC O' B k (L_ r R) (Ma r z R) tl:=by
 have vg:=h.chain;have eg:=vg.lt;have im:=h.top
 have hS:AX O S:=fun x hx j t n e=>by
  rcases hn x hx with e2 | e2
  ·subst e2;rw[hc]at e;cases e
  ·obtain⟨cs,e3⟩:=im.1.L7 e2;rw[e3]at e;cases e
 cases R with
 | nil=>
   obtain⟨h1,h2⟩:=vg;have hp:pre=[]:=List.eq_nil_of_length_eq_zero (by rw[hl,h2]);subst hp;refine⟨h.lt,Nat.le_trans h.le u.1,?_,lK _,trivial,trivial⟩;rw[<-h1,oa,hR rfl];rfl
 | cons p rest=>
   obtain⟨⟨c,e1,e2,kz⟩,e3,e4,e5⟩:=vg;have aiw:=kz.lo
   have hkS:k ∉ S:=fun hm=>by
    have:=h.lt;rcases hn k hm with e | e
    ·omega
    ·have:=(im.1.lo e).1;omega
   obtain⟨sp,sU,UY⟩:=kz.cells;rw[hc]at sU;injection sU with sU;injection sU with sU
   have dK:pre.length=(ay p.kids).length:=by rw[hl,e3,cZ]
   rw[List.append_assoc,List.append_assoc]at sU;obtain⟨qm,zQ⟩:=List.append_inj sU dK;obtain⟨_,oA⟩:=List.append_inj zQ rfl;subst qm;subst oA
   have hlen:(p.kids++[r.nd]).length=p.kids.length+1:=by simp
   refine⟨h.lt,Nat.le_trans h.le u.1,?_,h.zl,(e5.kp u hS (fun x hx _=>?_) h.lt).head,⟨.inr ⟨r.b,c,?_,?_,?_,?_⟩,fun i e=>?_⟩⟩
   ·show _=some (b_.cells (oC ({p with kids:=p.kids++[r.nd]}::rest) z++tl));rw[L9,u.2 k (Nat.lt_of_lt_of_le h.lt h.le) hkS];exact h.cells
   ·refine .inr fun hm=>?_
    have h6:=eg x hx;rcases hn x.b hm with e | e
    ·omega
    ·have:=im.2 _ e;omega
   ·show p.q=_;rw[e1,hlen]
   ·rw[hlen];exact e2
   ·show(ay (p.kids++[r.nd])).length=_;rw[cZ]
   ·show Row O' _ 4 B r.b c (ay (p.kids++[r.nd]));have e6:ay (p.kids++[r.nd])=ay p.kids++df r.nd:=by rw[dY,ay,ay,List.append_nil]
    rw[e6];refine kz.own u hS oa ?_;rw[List.length_append,List.length_append,rV]at UY;rw[List.length_append,List.length_append,lK];exact UY
   ·have e:gid p.q=some i:=e;rw[e1]at e;injection e with e;subst e;exact e4
theorem eI.app {a b c d:List MV} (h:eI a b) (k:eI c d):eI (a++c) (b++d):=by
 refine⟨by rw[List.length_append,List.length_append,h.1,k.1],fun i x y hx hy=>?_⟩;rw[List.getElem?_append]at hx hy;by_cases e:i<a.length
 ·rw[if_pos e]at hx;rw[if_pos (by rw[<-h.1];exact e)]at hy;exact h.2 i x y hx hy
 ·rw[if_neg e]at hx;rw[if_neg (by rw[<-h.1];exact e)]at hy;rw[<-h.1]at hy;exact k.2 _ x y hx hy
theorem VC.close {O:VH} {B k:Nat} {r:Rec} {R:List Rec} {z tl pre post:List MV} {P:Program} {n:Sz} {D:List Deferred} {c:Code} {e:Env} {Q:VQ} (h:BC O B k (r::R) z tl) (hc:O.hp r.b=some (.cells (pre++iG r++post)))
  (hk:∀O1,Kp O O1 (r.b::(gid r.q).toList)->O1.hp r.b=some (.cells (pre++df r.nd++post))->VC P n D c e O1 Q):VC P n D c e O Q:=by
 obtain⟨hg,eg⟩:=h.top;have S0:df r.nd=[.str r.name,.sl r.attrs.length (r.attrs.flatMap aY) .aq,.sl r.kids.length (ay r.kids) .aq,.str []]:=by rw[Rec.nd,df]
 rcases hg with⟨h0,h1,hp⟩ | ⟨kq,cq,hp,hn,hl,kz⟩
 ·refine VC.U6 (ds:=pre++df r.nd++post) hc ?_ (hk _ (Kp.sub Kp.set (fun x hx=>.inl (by simp at hx ⊢;exact .inl hx))) (VH.an _ _ _));refine((eI.refl pre).app ?_).app (eI.refl post);rw[S0,iG]
  have hw:Wk r.q (.sl r.kids.length (ay r.kids) .aq):=by
   rw[h0,h1];rcases hp with e | e<;>rw[e]<;>exact Wk.tok
  exact(eI.refl [_,_]).app (eI.cons hw (eI.refl _))
 ·obtain⟨sp,h1,h2⟩:=kz.cells;have hne:r.b≠kq:=by have:=eg kq (by rw[hp];rfl);omega
  have e1:pre++iG r++post=(pre++[.str r.name,.sl r.attrs.length (r.attrs.flatMap aY) .aq])++ .bp kq 0 r.kids.length cq::(.str []::post):=by
   rw[iG,hp];simp
  rw[e1]at hc;refine VC.wm h1 hc hne (sz:=(ay r.kids).length) (by rw[List.length_append];omega) ?_
  have e2:pre++df r.nd++post=(pre++[.str r.name,.sl r.attrs.length (r.attrs.flatMap aY) .aq])++ .sl r.kids.length (ay r.kids) .aq::(.str []::post):=by
   rw[S0];simp
  rw[List.drop_zero,List.take_left, <-e2];refine hk _ ?_ (VH.an _ _ _);refine⟨Nat.le_refl _,fun i _ hi=>?_⟩;simp only[hp,gid,List.mem_cons,Option.toList_some,List.not_mem_nil,or_false,not_or]at hi;rw[VH.ak _ _ hi.1,VH.kC _ hi.2]
theorem agy (r:Rec) (R:List Rec) (tk:Tok):ry (fF Tryz.prog) 365 (.sl (R.length+1) (gD (r::R)) tk) none (.v (.int .i64 (R.length:Int))) (.v (.int .i64 (R.length:Int)))=some (.sl R.length (gD R) .full):=by
 have hl:=kJ (r::R);have hc:=qA r R;have h2:=kJ R;rw[hc]at hl ⊢;simp only[ry,Lf,Lg,Option.map_some,c7];rw[if_pos ⟨by omega,by omega,Nat.zero_le _,Nat.le_refl _⟩,if_pos ⟨by simp,by rw[hl,Nat.mul_one];rfl⟩,if_neg (by omega)];cases R with
 | nil=>rfl
 | cons p R=>
   rw[if_neg (by simp)];simp only[Int.toNat_natCast,Nat.sub_zero,Nat.mul_one,Nat.zero_mul,List.drop_zero,if_true];rw[List.take_left' h2]
theorem ac8 {O:VH} {B k bX:Nat} {r:Rec} {R:List Rec} {tk:Tok} {dn tx:Bool} {z:List MV} (h:BS O B k (r::R) tk bX dn tx z) (Qb:R.length<=1000):
  VF Tryz.prog 268 [.ptr k 0] O (aD fun _ O'=>Kp O O' (dD k (r::R) tk)/\BS O' B k (L_ r R) .full bX (R.length==0) false (Ma r z R)):=by
 obtain⟨pre,post,hc,dK,B5,A_,IV⟩:=h.c.loc;have im:=h.c.top;have gm:=h.c.lt;have hBn:=h.c.le;have vt:∀x∈[k],x∈dD k (r::R) tk\/O.next<=x:=fun x hx=>.inl (by rw[List.mem_singleton]at hx;rw[hx];exact m7)
 have hSn:∀x∈r.b::(gid r.q).toList,x=r.b\/gid r.q=some x:=fun x hx=>by
  rcases List.mem_cons.1 hx with e | e
  ·exact .inl e
  ·exact .inr (by simpa using e)
 refine VF.bO 34 [] Tryz.func268 ?_;refine VC.close h.c hc fun O1 u1 fN=>?_
 have hP:=h.c.pop hc dK (fun e=>(A_ e).2.2) u1 hSn fN
 have cS:App O1 B 1 tk:=by
  refine h.a.L8 u1 fun x hx e=>?_
  rcases hSn x hx with e2 | e2
  ·subst e2;rw[hc]at e;cases e
  ·obtain⟨cs,e3⟩:=im.1.L7 e2;rw[e3]at e;cases e
 have jf:Kp O O1 (dD k (r::R) tk):=(Kp.refl (S:=dD k (r::R) tk)).more u1 (fun x hx=>.inl (by
  rcases hSn x hx with e | e
  ·rw[e];exact oY
  ·exact m9 e))
 obtain⟨b0,b1,b2,b3,kK⟩:=qB (eK (L_ r R) (Ma r z R) hP.zl);have dT:=hP.cells;unfold oX at dT;rw[kK]at dT;have IY:=agy r R tk;have hPl:=kJ (r::R);generalize hPG:gD (r::R)=PT at*;simp only[ar,a_,List.cons_append,List.nil_append,List.length_cons]at dT hPl;have qW:(((R.length+1:Nat):Int) - 1)=(R.length:Int):=by omega
 refine VC.bC ?_;refine WC.bH (.held [20]) [(0,.rd),(1,.rd),(2,.rd),(3,.rd),(4,.rd),(5,.rd),(6,.rd),(7,.rd),(8,.rd),(9,.rd),(10,.rd),(11,.rd),(12,.rd),(13,.rd),(14,.rd),(15,.rd),(16,.rd),(17,.rd),(18,.one),(19,.rd),(20,.one)] ?_;refine gW @aC @dT @qW @uM @IY ?_;refine VC.gen ?_;intro O2 F2;have bR:O2.hp k=some (.cells [b0,b1,b2,b3,.sl R.length (gD R) .full,.v (.int .i64 bX),.v (.bool dn),.v (.bool tx)]):=by rw[F2];exact VH.an _ _ _
 have P8:Kp O O2 (dD k (r::R) tk):=jf.more (S:=[k]) (by rw[F2];exact Kp.set) vt;have Ba:BC O2 B k _ _ [.sl R.length (gD R) .full,.v (.int .i64 bX),.v (.bool dn),.v (.bool tx)]:=hP.step (S:=[k]) (by rw[F2];exact Kp.set) (fun x hx=>.inl (by simpa using hx)) (by rw[kK];exact bR) hP.zl;clear F2
 have my:∀b,BS ((O2.set k (.cells [b0,b1,b2,b3,.sl R.length (gD R) .full,.v (.int .i64 bX),.v (.bool b),.v (.bool tx)])).set k (.cells [b0,b1,b2,b3,.sl R.length (gD R) .full,.v (.int .i64 bX),.v (.bool b),.v (.bool false)])) B k (L_ r R) .full bX b false (Ma r z R):=fun b=>by
  refine⟨(Ba.step (S:=[k]) (z':=Ma r z R) (tl':=[.sl R.length (gD R) .full,.v (.int .i64 bX),.v (.bool b),.v (.bool tx)]) Kp.set (fun x hx=>.inl (by simpa using hx)) (by rw[kK,VH.an];rfl) hP.zl).step (S:=[k]) Kp.set (fun x hx=>.inl (by simpa using hx)) ?_ hP.zl,trivial⟩;rw[kK,VH.an];cases R with
  | nil=>rfl
  | cons p R=>rfl
 have gV:∀x y,Kp O ((O2.set k x).set k y) (dD k (r::R) tk):=fun x y=>(P8.more Kp.set vt).more Kp.set vt
 cases R with
 | nil=>
   refine WC.sound aa (ao @aC @bR ?_);exact⟨gV _ _,my _⟩
 | cons p R=>
   refine WC.sound aa (ao @aC @bR ?_);exact⟨gV _ _,my _⟩
theorem VB {O:VH} {B k:Nat} {r:Rec} {R:List Rec} {z tl:List MV} {tk:Tok} (h:BC O B k (r::R) z tl):∀x∈dD k (L_ r R) .full,x∈dD k (r::R) tk:=by
 intro x hx;cases R with
 | nil=>
   have hx:x∈[k]:=hx;rw[List.mem_singleton]at hx;rw[hx];exact m7
 | cons p R=>
   obtain⟨⟨c,e1,_⟩,_⟩:=h.chain;have hx:x∈k::((p.b::R.map (·.b))++(gid p.q).toList++[]):=hx;rw[e1]at hx;simp only[gid,Option.toList_some,List.mem_cons,List.mem_append,List.append_nil,List.not_mem_nil,or_false,List.mem_map]at hx;rcases hx with rfl | (rfl | ⟨g,hg,rfl⟩) | rfl
   ·exact m7
   ·exact z_ (by simp)
   ·exact z_ (by simp[hg])
   ·exact oY
def tK (t:Bs):Nd:=.mk [] [] [] t
theorem R7 (t:Bs):df (tK t)=[.str [],.sl 0 [] .aq,.sl 0 [] .aq,.str t]:=by rw[tK,df,ay];rfl
theorem Mb {O:VH} {B k bX:Nat} {tk:Tok} {dn tx:Bool} {z:List MV} (h:BS O B k [] tk bX dn tx z) (s:Bs) (hs:s.length<=maxLen):
  VF Tryz.prog 266 [.ptr k 0,.str s] O (aD fun m O'=>m=mi (if trimB s=[]then 0 else 16)/\O'=O):=by
 have hk:=h.c.cells;obtain⟨a0,a1,a2,a3,hr⟩:=qB (eK [] z h.c.zl);unfold oX at hk;rw[hr]at hk;simp only[ar,a_,List.cons_append,List.nil_append,List.length_nil]at hk;refine VF.bO 61 [.tmp 4] Tryz.func266 ?_;refine VC.ag aa (ae @aC ?_);refine VC.ag aa (ao @aC @hk ?_);refine ah.rt (IF s _ hs) ?_;rintro _ O2 ⟨rfl,eO⟩;rw[eO];clear eO O2
 cases trimB s with
 | nil=>
   refine ao @aC (show(([]:List UInt8)==[])=true from rfl) ?_;trivial
 | cons c t=>
   refine ao @aC (show((c::t)==[])=false from rfl) ?_;trivial
theorem Mc {O:VH} {B k bX:Nat} {r:Rec} {R:List Rec} {tk:Tok} {dn tx:Bool} {z:List MV} (h:BS O B k (r::R) tk bX dn tx z) (hR:R.length<=1000):
  VF Tryz.prog 266 [.ptr k 0,.str []] O (aD fun m O'=>m=mi 0/\O'=O):=by
 have hk:=h.c.cells;have gm:=h.c.lt;have hBn:=h.c.le;obtain⟨a0,a1,a2,a3,hr⟩:=qB (eK (r::R) z h.c.zl);unfold oX at hk;rw[hr]at hk;simp only[ar,a_,List.cons_append,List.nil_append,List.length_cons]at hk;refine VF.bO 61 [.tmp 4] Tryz.func266 ?_;refine VC.ag aa (ae @aC ?_);refine VC.ag aa (ao @aC @hk ?_);refine VC.ag aa (ae @aC ?_);refine ah.rt (EG h (by omega)) ?_;rintro _ O2 ⟨rfl,eO⟩;rw[eO];clear eO O2
 refine ae @aC ?_;refine VC.ag aa (ao @aC (show(([]:List UInt8)==[])=true from rfl) ?_);refine WC.sound aa (ae @aC ?_);trivial
theorem Me {O:VH} {B k bX:Nat} {r:Rec} {R:List Rec} {tk:Tok} {dn:Bool} {z:List MV} (h:BS O B k (r::R) tk bX dn true z) (hR0:R.length<=1000) (s t0:Bs) (K:List Nd) (hs:s.length<=1000000000000) (sm:r.kids=K++[tK t0]) (ht0:t0.length<=1000000000000) (jY:r.kids.length<=1000000) (hne:(s==[])=false):
  VF Tryz.prog 266 [.ptr k 0,.str s] O (aD fun m O'=>m=mi 0/\Kp O O' (dD k (r::R) tk)/\BS O' B k ({r with kids:=K++[tK (t0++s)]}::R) tk bX dn true z):=by
 have hR:R.length<=1000:=hR0;have hk:=h.c.cells;have gm:=h.c.lt;have hBn:=h.c.le;obtain⟨a0,a1,a2,a3,hr⟩:=qB (eK (r::R) z h.c.zl);unfold oX at hk;rw[hr]at hk;simp only[ar,a_,List.cons_append,List.nil_append,List.length_cons]at hk;refine VF.bO 61 [.tmp 4] Tryz.func266 ?_;refine VC.ag aa (ae @aC ?_);refine VC.ag aa (ao @aC @hk ?_);refine VC.ag aa (ae @aC ?_);refine ah.rt (EG h (by omega)) ?_;rintro _ O2 ⟨rfl,eO⟩;rw[eO];clear eO O2
 refine ae @aC ?_;obtain⟨pre,post,hc,dK,B5,A_,IV⟩:=h.c.loc;have im:=h.c.top;refine VC.ag aa (aI @aC @hne @hk ?_);have hKl:r.kids.length=K.length+1:=by rw[sm];simp
 obtain⟨kq,cq,hq,zc,cL⟩:∃kq cq,r.q= .bp kq 0 (K.length+1) cq/\K.length+1<=cq/\Row O 112 4 B kq cq (ay r.kids):=by
  rcases im.1 with⟨h0,_⟩ | ⟨k2,c,hp,h1,_,h2⟩
  ·omega
  ·rw[hKl]at hp h1;exact⟨k2,c,hp,h1,h2⟩
 have hrq:r.b<kq:=im.2 kq (by rw[hq];rfl);obtain⟨sp,wU,u9⟩:=cL.cells;have tX:ay r.kids=ay K++[.str [],.sl 0 [] .aq,.sl 0 [] .aq,.str t0]:=by rw[sm,dY,ay,ay,R7,List.append_nil]
 rw[tX]at wU u9;have uk:=cZ K
 have bA:(ay K++([.str [],.sl 0 [] .aq,.sl 0 [] .aq,.str t0]:List MV)++sp)[K.length*4+3]?=some (.str t0):=by
  rw[List.append_assoc, <-uk,List.getElem?_append_right (by omega),Nat.add_sub_cancel_left];rfl
 have kh:∀m:MV,(ay K++([.str [],.sl 0 [] .aq,.sl 0 [] .aq,.str t0]:List MV)++sp).set (K.length*4+3) m=ay K++[.str [],.sl 0 [] .aq,.sl 0 [] .aq,m]++sp:=fun m=>by
  rw[List.append_assoc, <-uk,List.set_append_right _ _ (by omega),Nat.add_sub_cancel_left,List.append_assoc];rfl
 generalize C9:ay K++[.str [],.sl 0 [] .aq,.sl 0 [] .aq,.str t0]++sp=C2 at*
 have VA:(pre++iG r++post)[r.off+2]?=some r.q:=by
  rw[List.append_assoc,List.getElem?_append_right (by omega), <-dK,Nat.add_sub_cancel_left];rfl
 rw[hq]at VA;generalize hC:pre++iG r++post=C at*;have qW:(((K.length+1:Nat):Int) - 1)=(K.length:Int):=by omega
 refine WC.bH (.held [17]) [(0,.rd),(1,.rd),(2,.rd),(3,.rd),(4,.rd),(5,.rd),(6,.rd),(7,.rd),(8,.rd),(9,.rd),(10,.rd),(11,.rd),(12,.rd),(13,.rd),(14,.rd),(15,.one),(16,.rd),(17,.one)] ?_;refine UK @aC @hc @VA @qW @wU @bA @kh @uM ?_;refine WC.sound aa (ae @aC ?_);have u:Kp O (O.set kq (.cells (ay K++[.str [],.sl 0 [] .aq,.sl 0 [] .aq,.str (t0++s)]++sp))) [kq]:=Kp.set;have EJ:ay (K++[tK (t0++s)])=ay K++[.str [],.sl 0 [] .aq,.sl 0 [] .aq,.str (t0++s)]:=by rw[dY,ay,ay,R7,List.append_nil]
 have hl9:(K++[tK (t0++s)]).length=K.length+1:=by simp
 have hB9:B<=kq:=cL.lo;refine⟨(Kp.refl (S:=dD k (r::R) tk)).more u (fun x hx=>.inl (by rw[List.mem_singleton]at hx;rw[hx];exact m9 (by rw[hq];rfl))),h.c.IU (r':={r with kids:=K++[tK (t0++s)]}) (by rw[hC];exact hc) dK (fun e=>(A_ e).2.2) u rfl rfl (fun x hx=>.inr (by rw[List.mem_singleton]at hx;rw[hx,hq];rfl)) (by rw[VH.ak _ _ (by omega)];show _=some (b_.cells (pre++iG r++post));rw[hC];exact hc) (.inr ⟨kq,cq,?_,?_,?_,?_⟩) (fun i e=>im.2 i e),h.a.L8 u (fun x hx e=>by rw[List.mem_singleton]at hx;subst hx;rw[wU]at e;cases e)⟩
 ·show r.q=_;rw[hq,hl9]
 ·rw[hl9];exact zc
 ·show(ay (K++[tK (t0++s)])).length=_;rw[cZ]
 ·show Row _ _ 4 B kq cq (ay (K++[tK (t0++s)]));rw[EJ];refine cL.own u (fun x hx j t n e=>by rw[List.mem_singleton]at hx;subst hx;rw[wU]at e;cases e) (VH.an _ _ _) ?_;rw[<-u9, <-C9];simp
theorem Mf {O:VH} {B k bX:Nat} {r:Rec} {R:List Rec} {tk:Tok} {dn:Bool} {z:List MV} (h:BS O B k (r::R) tk bX dn false z) (hc0:bX<=1000000) (hR0:R.length<=1000) (s:Bs) (hs:s.length<=1000000000000) (jY:r.kids.length<=1000000) (hne:(s==[])=false):
  VF Tryz.prog 266 [.ptr k 0,.str s] O (aD fun m O'=>Kp O O' (dD k (r::R) tk)/\match decide (4096<bX+1)with
   | true=>m=mi 2
   | false=>m=mi 0/\∃q',BS O' B k ({r with kids:=r.kids++[tK s],q:=q'}::R) tk (bX+1) dn true z/\∀x,gid q'=some x->gid r.q=some x\/O.next<=x):=by
 have hR:R.length<=1000:=hR0;have hk:=h.c.cells;have gm:=h.c.lt;have hBn:=h.c.le;obtain⟨a0,a1,a2,a3,hr⟩:=qB (eK (r::R) z h.c.zl);unfold oX at hk;rw[hr]at hk;simp only[ar,a_,List.cons_append,List.nil_append,List.length_cons]at hk;refine VF.bO 61 [.tmp 4] Tryz.func266 ?_;refine VC.ag aa (ae @aC ?_);refine VC.ag aa (ao @aC @hk ?_);refine VC.ag aa (ae @aC ?_);refine ah.rt (EG h (by omega)) ?_;rintro _ O2 ⟨rfl,eO⟩;rw[eO];clear eO O2
 refine ae @aC ?_;obtain⟨pre,post,hc,dK,B5,A_,IV⟩:=h.c.loc;have im:=h.c.top;clear hc A_ IV dK B5 im;clear pre post;refine VC.ag aa (aI @aC @hne @hk ?_);refine ah.rt (ZR h hc0) ?_;rintro _ O3 ⟨rfl,h3,cN⟩;by_cases Ee:bX+1<=4096;rotate_left
 ·rw[decide_eq_true (show 4096<bX+1 by omega),decide_eq_false Ee];refine ae @aC ?_;exact(Kp.refl (S:=dD k (r::R) tk)).more cN (fun x hx=>.inl (by rw[List.mem_singleton]at hx;rw[hx];exact m7))
 rw[decide_eq_false (show ¬4096<bX+1 by omega),decide_eq_true Ee];dsimp only;have vt:∀x∈[k],x∈dD k (r::R) tk\/O.next<=x:=fun x hx=>.inl (by rw[List.mem_singleton]at hx;rw[hx];exact m7)
 have AY:Kp O O3 (dD k (r::R) tk):=(Kp.refl (S:=dD k (r::R) tk)).more cN vt;have aj8:=h3.c.le;refine ae @aC ?_;obtain⟨pre,post,eE,dK,B5,A_,IV⟩:=h3.c.loc;have im:=h3.c.top
 have VA:(pre++iG r++post)[r.off+2]?=some r.q:=by
  rw[List.append_assoc,List.getElem?_append_right (by omega), <-dK,Nat.add_sub_cancel_left];rfl
 have kh:∀q',(pre++iG r++post).set (r.off+2) q'=pre++iG {r with q:=q'}++post:=fun q'=>by
  rw[List.append_assoc,List.set_append_right _ _ (by omega), <-dK,Nat.add_sub_cancel_left,List.append_assoc];rfl
 have hlC:(pre++iG r++post).length=pre.length+4+post.length:=by simp[rV];omega
 generalize hC:pre++iG r++post=C at*;refine VC.H6 [8,9,10,11,12,13] (by kernel_rfl) ?_;refine bE.AO 0 ?_;refine ae @aC ?_;refine bE.AO 1 ?_;refine ae @aC ?_;refine bE.AO 2 ?_;refine ae @aC ?_;refine bE.AO 3 ?_;refine aI @aC @eE @VA ?_;refine bE.AO 4 ?_;refine ae @aC ?_;refine bE.AO 5 ?_;refine ae @aC ?_;have jk:=R6 im.1;refine bE.AO 6 ?_;refine ao @aC @jk ?_;refine bE.aeL (i:=7) rfl (by kernel_rfl) (by kernel_rfl) rfl rfl (fun _ _ _ hw hf=>ZS hw hf) rfl ?_;simp only[aj];refine bE.fin (by kernel_rfl) ?_;refine cf.st (i:=8) rfl (by kernel_rfl) rfl rfl (PO aa (te:=⟨_,4,80,_⟩) (dx:=.slice 112) (q:=.sl 1 [.str [],.sl 0 [] .nil,.sl 0 [] .nil,.str []] .full) (j:=1) (ds:=[.str [],.sl 0 [] .nil,.sl 0 [] .nil,.str []]) im.1 rfl rfl (by rw[nV];rfl) tu.1.1 (by rw[nV];rfl) trivial (by dsimp only;omega) (by simp only[maxLen];omega) (by omega) rfl rfl) ?_;rintro m O4 ⟨wT,pZ,gZ,hm⟩
 obtain⟨k2,c2,rfl,bR⟩:∃k2 c2,m= .bp k2 0 (r.kids.length+1) c2/\(gid r.q=some k2\/O3.next<=k2):=by
  rcases hm with⟨k2,c2,h1,h2⟩ | ⟨h1,_⟩
  ·exact⟨k2,c2,h1,h2.imp id And.left⟩
  ·cases h1
 obtain⟨cL,zc⟩:Row O4 112 4 B k2 c2 (ay r.kids++[.str [],.sl 0 [] .nil,.sl 0 [] .nil,.str []])/\r.kids.length+1<=c2:=by
  rcases wT with⟨h1,_⟩ | ⟨k3,c3,h1,h2,_,h4⟩
  ·omega
  ·injection h1 with h1 _ _ h3;subst h1;subst h3;exact⟨h4,h2⟩
 have ZU:r.b<k2:=by
  rcases bR with e | e
  ·exact im.2 _ e
  ·omega
 have aix:=pZ.next;have eX:O4.hp r.b=some (.cells C):=(pZ.hp _ B5 (fun e=>by have:=im.2 _ e;omega)).trans eE;obtain⟨sp,wU,u9⟩:=cL.cells;simp only[aj];have uk:=cZ r.kids
 have q_:∀a b c d:MV,((((ay r.kids++([.str [],.sl 0 [] .nil,.sl 0 [] .nil,.str []]:List MV)++sp).set (r.kids.length*4) a).set (r.kids.length*4+1) b).set (r.kids.length*4+1+1) c).set (r.kids.length*4+1+1+1) d=ay r.kids++[a,b,c,d]++sp:=fun a b c d=>by
  rw[<-uk];exact aeM _ _ _ _ _ _ _ _ _ _
 generalize C9:ay r.kids++[.str [],.sl 0 [] .nil,.sl 0 [] .nil,.str []]++sp=C2 at*;refine cf.G3 9 ?_;refine ae @aC ?_;refine cf.G3 11 ?_;refine ae @aC ?_;refine cf.G3 12 ?_;refine ae @aC ?_;refine cf.two (i:=10) (j:=13) (by kernel_rfl) ?_ ?_
 ·refine aH.o1 ?_;refine aI @aC @wU @q_ ?_;refine cf.RY (i:=13) ?_;refine aI @aC @eX @kh ?_;refine cf.bH [] ?_;refine WL.gen ?_;intro O5 l0;have gu:O5.next=O4.next:=by rw[l0];rfl
  have fA:O5.hp r.b=some (.cells (pre++iG {r with q:=.bp k2 0 (r.kids.length+1) c2}++post)):=by rw[l0];exact VH.an _ _ _
  have Aa:O5.hp k2=some (.cells (ay r.kids++[.str [],.sl 0 [] .nil,.sl 0 [] .nil,.str s]++sp)):=by rw[l0];exact VH.sn (VH.an _ _ _)
  have u4:Kp O4 O5 [k2,r.b]:=by rw[l0];exact Kp.trans (S:=[k2]) (T:=[r.b]) Kp.set Kp.set
  clear l0
  have P9:AX O4 [k2,r.b]:=fun x hx j t n e=>by
   simp only[List.mem_cons,List.not_mem_nil,or_false]at hx;rcases hx with rfl | rfl
   ·rw[wU]at e;cases e
   ·rw[eX]at e;cases e
  have u3:Kp O3 O5 (r.b::(gid r.q).toList):=((Kp.br pZ).trans u4).sub (fun x hx=>by
   simp only[List.mem_append,List.mem_cons,List.not_mem_nil,or_false]at hx ⊢;rcases hx with hx | hx | hx
   ·exact .inl (.inr hx)
   ·rcases bR with e | e
    ·rw[e];simp[hx]
    ·exact .inr (by omega)
   ·exact .inl (.inl hx))
  have n0:∀x∈r.b::(gid r.q).toList,x=r.b\/gid r.q=some x:=fun x hx=>by
   rcases List.mem_cons.1 hx with e | e
   ·exact .inl e
   ·exact .inr (by simpa using e)
  obtain⟨gC,_⟩:=h3.c.part (r':={r with q:=.bp k2 0 (r.kids.length+1) c2}) (by rw[hC];exact eE) dK (fun e=>(A_ e).2.2) u3 rfl rfl n0 fA;obtain⟨b0,b1,b2,b3,kK⟩:=qB (eK ({r with q:=.bp k2 0 (r.kids.length+1) c2}::R) z h.c.zl);unfold oX at gC;rw[kK]at gC;simp only[ar,a_,List.cons_append,List.nil_append,List.length_cons]at gC;refine ao @aC @gC ?_
  have Mg:k2≠k:=by
   have:=cL.lo;omega
  have sV:Kp O O5 (dD k (r::R) tk):=AY.more u3 (fun x hx=>by
   rcases n0 x hx with e | e
   ·rw[e];exact .inl oY
   ·exact .inl (m9 e))
  have fl:App O5 B 1 tk:=by
   refine h3.a.L8 u3 fun x hx e=>?_
   rcases n0 x hx with e2 | e2
   ·subst e2;rw[eE]at e;cases e
   ·obtain⟨cs,e3⟩:=im.1.L7 e2;rw[e3]at e;cases e
  have EJ:ay (r.kids++[tK s])=ay r.kids++[.str [],.sl 0 [] .aq,.sl 0 [] .aq,.str s]:=by rw[dY,ay,ay,R7,List.append_nil]
  refine VC.U6 (k:=k2) (ds:=ay (r.kids++[tK s])++sp) ((VH.ak _ _ Mg).trans Aa) (by
   rw[EJ];exact((eI.refl _).app (eI.cons (Wk.refl _) (eI.cons Wk.tok (eI.cons Wk.tok (eI.refl _))))).app (eI.refl _)) ?_
  refine WC.sound aa (ae @aC ?_);have u5:Kp O4 (O5.set k2 (.cells (ay (r.kids++[tK s])++sp))) [k2,r.b]:=(u4.trans Kp.set).sub (fun x hx=>.inl (by simp only[List.mem_append,List.mem_cons,List.not_mem_nil,or_false]at hx ⊢;exact hx.elim id .inl))
  have u6:Kp O3 (O5.set k2 (.cells (ay (r.kids++[tK s])++sp))) (r.b::(gid r.q).toList):=(u3.trans Kp.set).sub (fun x hx=>by
   simp only[List.mem_append,List.mem_cons,List.not_mem_nil,or_false]at hx ⊢;rcases hx with hx | hx
   ·exact .inl hx
   ·rcases bR with e | e
    ·rw[e];simp[hx]
    ·exact .inr (by omega))
  have IW:BC _ B k ({r with kids:=r.kids++[tK s],q:=.bp k2 0 (r.kids.length+1) c2}::R) z _:=h3.c.IU (r':={r with kids:=r.kids++[tK s],q:=.bp k2 0 (r.kids.length+1) c2}) (by rw[hC];exact eE) dK (fun e=>(A_ e).2.2) u6 rfl rfl n0 (VH.sn fA) (.inr ⟨k2,c2,by show _=_;simp,by simp;exact zc,by show(ay (r.kids++[tK s])).length=_;rw[cZ],by
   show Row _ _ 4 B k2 c2 (ay (r.kids++[tK s]));refine cL.own u5 P9 (VH.an _ _ _) ?_;rw[<-u9, <-C9,EJ];simp⟩) (fun i e=>by injection e with e;subst e;exact ZU)
  have e9:∀x,(O5.set k x).set k2 (.cells (ay (r.kids++[tK s])++sp))=(O5.set k2 (.cells (ay (r.kids++[tK s])++sp))).set k x:=fun x=>VH.set_comm (fun e=>Mg e.symm)
  have Ba:=cL.lo;rw[e9]
  refine⟨(sV.more (S:=[k2]) Kp.set (fun x hx=>by
   rw[List.mem_singleton]at hx;rw[hx];rcases bR with e | e
   ·exact .inl (m9 e)
   ·exact .inr (by have:=cN.1;omega))).more Kp.set vt,_,⟨IW.step (S:=[k]) Kp.set (fun x hx=>.inl (by simpa using hx)) ?_ h3.c.zl,(fl.L8 (S:=[k2]) Kp.set (fun x hx e=>by rw[List.mem_singleton]at hx;subst hx;rw[Aa]at e;cases e)).xm gm⟩,fun x e=>by
   injection e with e;subst e
   exact bR.imp id (fun e=>by have:=cN.1;omega)⟩
  rw[VH.an]
  have e8:oC ({r with kids:=r.kids++[tK s],q:=.bp k2 0 (r.kids.length+1) c2}::R) z=[b0,b1,b2,b3]:=by
   rw[<-kK];cases R with
   | nil=>rfl
   | cons g R=>rfl
  rw[e8];rfl
 ·refine aH.o1 ?_;refine aI @aC @eX @kh ?_;refine cf.RY (i:=10) ?_;refine aI @aC @wU @q_ ?_;refine cf.bH [] ?_;refine WL.gen ?_;intro O5 l0;rw[VH.set_comm (by omega)]at l0;have gu:O5.next=O4.next:=by rw[l0];rfl
  have fA:O5.hp r.b=some (.cells (pre++iG {r with q:=.bp k2 0 (r.kids.length+1) c2}++post)):=by rw[l0];exact VH.an _ _ _
  have Aa:O5.hp k2=some (.cells (ay r.kids++[.str [],.sl 0 [] .nil,.sl 0 [] .nil,.str s]++sp)):=by rw[l0];exact VH.sn (VH.an _ _ _)
  have u4:Kp O4 O5 [k2,r.b]:=by rw[l0];exact Kp.trans (S:=[k2]) (T:=[r.b]) Kp.set Kp.set
  clear l0
  have P9:AX O4 [k2,r.b]:=fun x hx j t n e=>by
   simp only[List.mem_cons,List.not_mem_nil,or_false]at hx;rcases hx with rfl | rfl
   ·rw[wU]at e;cases e
   ·rw[eX]at e;cases e
  have u3:Kp O3 O5 (r.b::(gid r.q).toList):=((Kp.br pZ).trans u4).sub (fun x hx=>by
   simp only[List.mem_append,List.mem_cons,List.not_mem_nil,or_false]at hx ⊢;rcases hx with hx | hx | hx
   ·exact .inl (.inr hx)
   ·rcases bR with e | e
    ·rw[e];simp[hx]
    ·exact .inr (by omega)
   ·exact .inl (.inl hx))
  have n0:∀x∈r.b::(gid r.q).toList,x=r.b\/gid r.q=some x:=fun x hx=>by
   rcases List.mem_cons.1 hx with e | e
   ·exact .inl e
   ·exact .inr (by simpa using e)
  obtain⟨gC,_⟩:=h3.c.part (r':={r with q:=.bp k2 0 (r.kids.length+1) c2}) (by rw[hC];exact eE) dK (fun e=>(A_ e).2.2) u3 rfl rfl n0 fA;obtain⟨b0,b1,b2,b3,kK⟩:=qB (eK ({r with q:=.bp k2 0 (r.kids.length+1) c2}::R) z h.c.zl);unfold oX at gC;rw[kK]at gC;simp only[ar,a_,List.cons_append,List.nil_append,List.length_cons]at gC;refine ao @aC @gC ?_
  have Mg:k2≠k:=by
   have:=cL.lo;omega
  have sV:Kp O O5 (dD k (r::R) tk):=AY.more u3 (fun x hx=>by
   rcases n0 x hx with e | e
   ·rw[e];exact .inl oY
   ·exact .inl (m9 e))
  have fl:App O5 B 1 tk:=by
   refine h3.a.L8 u3 fun x hx e=>?_
   rcases n0 x hx with e2 | e2
   ·subst e2;rw[eE]at e;cases e
   ·obtain⟨cs,e3⟩:=im.1.L7 e2;rw[e3]at e;cases e
  have EJ:ay (r.kids++[tK s])=ay r.kids++[.str [],.sl 0 [] .aq,.sl 0 [] .aq,.str s]:=by rw[dY,ay,ay,R7,List.append_nil]
  refine VC.U6 (k:=k2) (ds:=ay (r.kids++[tK s])++sp) ((VH.ak _ _ Mg).trans Aa) (by
   rw[EJ];exact((eI.refl _).app (eI.cons (Wk.refl _) (eI.cons Wk.tok (eI.cons Wk.tok (eI.refl _))))).app (eI.refl _)) ?_
  refine WC.sound aa (ae @aC ?_);have u5:Kp O4 (O5.set k2 (.cells (ay (r.kids++[tK s])++sp))) [k2,r.b]:=(u4.trans Kp.set).sub (fun x hx=>.inl (by simp only[List.mem_append,List.mem_cons,List.not_mem_nil,or_false]at hx ⊢;exact hx.elim id .inl))
  have u6:Kp O3 (O5.set k2 (.cells (ay (r.kids++[tK s])++sp))) (r.b::(gid r.q).toList):=(u3.trans Kp.set).sub (fun x hx=>by
   simp only[List.mem_append,List.mem_cons,List.not_mem_nil,or_false]at hx ⊢;rcases hx with hx | hx
   ·exact .inl hx
   ·rcases bR with e | e
    ·rw[e];simp[hx]
    ·exact .inr (by omega))
  have IW:BC _ B k ({r with kids:=r.kids++[tK s],q:=.bp k2 0 (r.kids.length+1) c2}::R) z _:=h3.c.IU (r':={r with kids:=r.kids++[tK s],q:=.bp k2 0 (r.kids.length+1) c2}) (by rw[hC];exact eE) dK (fun e=>(A_ e).2.2) u6 rfl rfl n0 (VH.sn fA) (.inr ⟨k2,c2,by show _=_;simp,by simp;exact zc,by show(ay (r.kids++[tK s])).length=_;rw[cZ],by
   show Row _ _ 4 B k2 c2 (ay (r.kids++[tK s]));refine cL.own u5 P9 (VH.an _ _ _) ?_;rw[<-u9, <-C9,EJ];simp⟩) (fun i e=>by injection e with e;subst e;exact ZU)
  have e9:∀x,(O5.set k x).set k2 (.cells (ay (r.kids++[tK s])++sp))=(O5.set k2 (.cells (ay (r.kids++[tK s])++sp))).set k x:=fun x=>VH.set_comm (fun e=>Mg e.symm)
  have Ba:=cL.lo;rw[e9]
  refine⟨(sV.more (S:=[k2]) Kp.set (fun x hx=>by
   rw[List.mem_singleton]at hx;rw[hx];rcases bR with e | e
   ·exact .inl (m9 e)
   ·exact .inr (by have:=cN.1;omega))).more Kp.set vt,_,⟨IW.step (S:=[k]) Kp.set (fun x hx=>.inl (by simpa using hx)) ?_ h3.c.zl,(fl.L8 (S:=[k2]) Kp.set (fun x hx e=>by rw[List.mem_singleton]at hx;subst hx;rw[Aa]at e;cases e)).xm gm⟩,fun x e=>by
   injection e with e;subst e
   exact bR.imp id (fun e=>by have:=cN.1;omega)⟩
  rw[VH.an]
  have e8:oC ({r with kids:=r.kids++[tK s],q:=.bp k2 0 (r.kids.length+1) c2}::R) z=[b0,b1,b2,b3]:=by
   rw[<-kK];cases R with
   | nil=>rfl
   | cons g R=>rfl
  rw[e8];rfl
end Go.Proofs.YtoclnkfdahmnhaaGreatDoor
