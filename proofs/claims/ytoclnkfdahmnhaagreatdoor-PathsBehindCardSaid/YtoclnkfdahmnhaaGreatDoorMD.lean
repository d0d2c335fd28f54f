import Derived.Test.YtoclnkfdahmnhaaGreatDoorMC
import Derived.Laws.Cover4
import Derived.Lib.LazyBuf
import Derived.Laws.LoneSync
set_option linter.unusedVariables false
set_option linter.unusedSimpArgs false
namespace Go.Proofs.YtoclnkfdahmnhaaGreatDoor
open Go.RowKit
open _root_.List renaming length_cons → yP, length_append → Kn, length_drop → RZ, getElem?_eq_some_iff → TP, length_nil → XN, append_assoc → XO, mem_cons → acs, nil_append → acu, not_mem_nil → acw, mem_singleton → agr, eq_nil_of_length_eq_zero → agt, cons_append → agv, getElem?_append_right → agx, mem_append → ahX, getElem?_eq_getElem → ahZ, append_nil → ah1, length_take → ah2, drop_eq_getElem_cons → ah3, set_append_right → ah4, all_flatMap → ah5, all_eq_true → ah6, append_inj → alC, flatMap_append → alD, takeWhile_cons_of_neg → alE, takeWhile_cons_of_pos → alF, drop_zero → alM
open _root_.Nat renaming lt_of_lt_of_le → Km, le_trans → ags, add_sub_cancel_left → agu, le_refl → agw, zero_le → ahY, zero_add → ah0, lt_of_lt_of_eq → ah7, le_of_ble_eq_true → akF, mul_one → alL
open _root_.And renaming intro → acv
open _root_.Bool renaming and_eq_true → alH
open _root_.Array renaming getElem?_append_left → alG
set_option maxRecDepth 10000
section
variable {G:Gh} {O:VH} {w:World} {n:Sz} {D:List Deferred} {e:Env} {P:Program} {tab:bY} {ops:Array Oper} {Q:VQ} {u:Value}
def HT (k:Int):Bs:=(Utf8.encode k).data.toList
theorem V8 (ht:aL P tab) (h:WR G O w) {src dst el:TypeId} {tk:Tok} {k:Int} (hs:(tab src).map cy.under=some (.slice el)) (hd:(tab dst).map cy.under=some .string) (he:(tab el).map cy.under=some (.int .i32))
  (hx:VR G (.sl 1 [.v (.int .i32 k)] tk) u):gY P (convert src dst u) w G O (.str (HT k)):=by
 cases hx with
 | sl h1 h2 h3 h4 h5 h6=>
   rename_i us c b o
   have h7:us=[.int .i32 k]:=by
    match us,h1 with
    | [x],_=>rw[(h3 0 _ x rfl rfl).iP]
   subst h7;refine⟨_,w,G,?_,Gh.Le.refl G,h,.str,jO.refl _ _⟩;rw[run_convert_runes_string w src dst el _ _ _ (bE ht hs) (bE ht he) (bE ht hd)]
   have h8:=run_loadCells_list (P:=P) w ⟨b,o,none⟩ [Value.int .i32 k] (fun j v hv=>by
    rw[Addr.add_lit];exact h.ec _ _ _ (h2 j v hv))
   rw[run_runesToString (P:=P) w ⟨b,o,none⟩ 1 c [k] h8]
   congr 2
theorem VL.E8 (ht:aL P tab) {d:Option Tmp} {src dst el:TypeId} {x:Operand} {ty:TypeId} {ps:String} {af:Array Edge} {g:Option (Nat×Bool)} {L:List (Fl×Oper)} {k:Int} {tk:Tok}
  (hg:aN ops (.mk d (.convert src dst x) ty ps af g) e=some true) (hx:ev e x=some (.sl 1 [.v (.int .i32 k)] tk)) (hs:(tab src).map cy.under=some (.slice el)) (ri:(tab dst).map cy.under=some .string) (he:(tab el).map cy.under=some (.int .i32)) (hd:bp n d=true)
  (h:WL P tab n D .plain ops Q L (aV d (.str (HT k)) e) O):VL P n D .plain ops ((.one,.mk d (.convert src dst x) ty ps af g)::L) e O Q:=by
 refine VL.Ee (M:=fun m O'=>m= .str (HT k)/\O'=O) hg hd (fun G a w hw hf=>?_) ?_
 ·exact⟨_,_,⟨rfl,rfl⟩,dw.of (V8 (P:=P) ht hw hs ri he (hf.ev hx)) (by simp[execOp])⟩
 ·rintro m O' ⟨rfl,rfl⟩;exact WL.sound ht h
end
set_option linter.defProp false in
def bM:=acv au<|acv P9 HG
def isLet (k:Nat):Bool:=decide (k=9\/k=10\/k=13\/(32<=k/\k<=1114111/\¬(55296<=k/\k<=57343)))
def Cv (k:Nat):Bs:=if isLet k then HT k else[]
theorem Mu {k:Nat} (h:isLet k=true):IntKind.i32.wrap (k:Int)=k:=by
 have hk:k<=1114111:=by
  simp only[isLet,decide_eq_true_eq]at h;omega
 clear h;simp only[IntKind.wrap,IntKind.signed,IntKind.bits];simp;omega
theorem V9 (k:Nat) (O:VH) (hk:k<=1000000000000):VF Tryz.prog 324 [mi k] O (aE fun m O'=>m= .tuple [.str (Cv k),mb (isLet k)]/\O'=O):=by
 have yes:isLet k=true->Cv k=HT k:=fun h=>by unfold Cv;rw[h];rfl
 have no:isLet k=false->Cv k=[]:=fun h=>by unfold Cv;rw[h];rfl
 have hw:= @Mu k;refine VF.dy 37 [.tmp 2,.tmp 3] Tryz.func324 ?_;by_cases h1:k=9
 ·have h0:isLet k=true:=decide_eq_true (.inl h1);subst h1;have hw:=hw h0;rw[yes h0,h0];refine ae @bM ?_;refine VL.E8 aa rfl rfl (by rw[HG];rfl) (by rw[T9];rfl) (by rw[P9];rfl) rfl ?_;refine ao @bM @hw ?_;trivial
 by_cases h2:k=10
 ·have h0:isLet k=true:=decide_eq_true (.inr (.inl h2));subst h2;have hw:=hw h0;rw[yes h0,h0];refine ae @bM ?_;refine VL.E8 aa rfl rfl (by rw[HG];rfl) (by rw[T9];rfl) (by rw[P9];rfl) rfl ?_;refine ao @bM @hw ?_;trivial
 by_cases h3:k=13
 ·have h0:isLet k=true:=decide_eq_true (.inr (.inr (.inl h3)));subst h3;have hw:=hw h0;rw[yes h0,h0];refine ae @bM ?_;refine VL.E8 aa rfl rfl (by rw[HG];rfl) (by rw[T9];rfl) (by rw[P9];rfl) rfl ?_;refine ao @bM @hw ?_;trivial
 by_cases h4:k<32
 ·have h0:isLet k=false:=by simp only[isLet,decide_eq_false_iff_not];omega
  rw[no h0,h0];refine ae @bM ?_;trivial
 by_cases h5:1114111<k
 ·have h0:isLet k=false:=by simp only[isLet,decide_eq_false_iff_not];omega
  rw[no h0,h0];refine ae @bM ?_;trivial
 by_cases h6:55296<=k
 ·by_cases h7:k<=57343
  ·have h0:isLet k=false:=by simp only[isLet,decide_eq_false_iff_not];omega
   rw[no h0,h0];refine ae @bM ?_;trivial
  ·have h0:isLet k=true:=by simp only[isLet,decide_eq_true_eq];omega
   have hw:=hw h0;rw[yes h0,h0];refine ae @bM ?_;refine VL.E8 aa rfl rfl (by rw[HG];rfl) (by rw[T9];rfl) (by rw[P9];rfl) rfl ?_;refine ao @bM @hw ?_;trivial
 ·have h0:isLet k=true:=by simp only[isLet,decide_eq_true_eq];omega
  have hw:=hw h0;rw[yes h0,h0];refine ae @bM ?_;refine VL.E8 aa rfl rfl (by rw[HG];rfl) (by rw[T9];rfl) (by rw[P9];rfl) rfl ?_;refine ao @bM @hw ?_;trivial
def r_ (b:Nat) (c:UInt8):Int:=
 if pM c then(c.toNat:Int) - 48 else if b=16/\97<=c.toNat/\c.toNat<=102 then(c.toNat:Int) - 97+10 else if b=16/\65<=c.toNat/\c.toNat<=70 then(c.toNat:Int) - 65+10 else -1
theorem Mv (c:UInt8):pM c=decide (48<=c.toNat/\c.toNat<=57):=by unfold pM;rw[<-Bool.decide_and]
theorem HU (b:Nat) (c:UInt8) (O:VH):VF Tryz.prog 323 [fL c,mi b] O (aE fun m O'=>m=mi (r_ b c)/\O'=O):=by
 have hc:c.toNat<256:=c.toNat_lt;have hd:=pN c O;unfold r_;refine VF.dy 41 [.tmp 4] Tryz.func323 ?_;refine ae @bM ?_;refine ah.rt (hd) ?_;rintro _ O2 ⟨rfl,eO⟩;rw[eO];clear eO O2
 cases h1:pM c;rotate_left
 ·rw[Mv,decide_eq_true_eq]at h1;refine ao @bM @aI ?_;first | trivial | rfl | (repeat (first | rw[if_pos (by omega)] | rw[if_neg (by omega)]))
 by_cases hb:b=16
 ·subst hb;by_cases h2:97<=c.toNat
  ·by_cases h3:c.toNat<=102
   ·refine ao @bM @aI ?_;first | trivial | rfl | (repeat (first | rw[if_pos (by omega)] | rw[if_neg (by omega)]))
   ·refine ao @bM @aI ?_;first | trivial | rfl | (repeat (first | rw[if_pos (by omega)] | rw[if_neg (by omega)]))
  ·by_cases h4:65<=c.toNat
   ·by_cases h5:c.toNat<=70
    ·refine ao @bM @aI ?_;first | trivial | rfl | (repeat (first | rw[if_pos (by omega)] | rw[if_neg (by omega)]))
    ·refine ao @bM @aI ?_;first | trivial | rfl | (repeat (first | rw[if_pos (by omega)] | rw[if_neg (by omega)]))
   ·refine ao @bM @aI ?_;first | trivial | rfl | (repeat (first | rw[if_pos (by omega)] | rw[if_neg (by omega)]))
 ·have ct:((b:Int)==16)=false:=by simpa using(by omega:¬(b:Int)=16)
  refine aJ @bM @aI @ct ?_;first | trivial | rfl | (repeat (first | rw[if_pos (by omega)] | rw[if_neg (by omega)]))
def xK (b:Nat) (c:UInt8):Bool:=decide (0<=r_ b c)
theorem V_ (b k:Nat) (c:UInt8) (O:VH) (hk:O.hp k=some (.cells [mi b])):VF Tryz.prog 322 ([fL c]++[.ptr k 0]) O (aE fun m O'=>m=mb (xK b c)/\O'=O):=by
 show VF _ _ [fL c,.ptr k 0] _ _;simp only[aq]at hk;unfold xK;refine VF.dy 8 [.tmp 3] Tryz.func322 ?_;refine ao @bM @hk ?_;refine ah.rt (HU b c O) ?_;rintro _ O2 ⟨rfl,eO⟩;rw[eO];clear eO O2
 by_cases h:0<=r_ b c
 ·rw[decide_eq_true h];refine ae @bM ?_;first | trivial | rfl
 ·rw[decide_eq_false h];refine ao @bM @h ?_;first | trivial | rfl
theorem aah (f:FuncId) (cs:List MV) (p:UInt8->Bool) (s:List UInt8) (O:VH) (hs:s.length<=1000000000) (hf:∀c,VF Tryz.prog f ([fL c]++cs) O (aE fun m O'=>m=mb (p c)/\O'=O)) (hb:cR Tryz.prog f=true):
  VF Tryz.prog 184 [.str s,.func (.func f) [] cs] O (aE fun m O'=>m=mi (s.takeWhile p).length/\O'=O):=by
 refine VF.dy 20 [.tmp 4] Tryz.func184 ?_;refine ae @fI ?_;refine WC.iS [5] [0,1] (fun j:Nat=>[mi j]) (fun j O'=>O'=O/\j<=s.length/\(s.takeWhile p).length=j+((s.drop j).takeWhile p).length) (fun j=>s.length - j) (0) ?_ ?_
 ·exact⟨rfl,ahY _,by simp⟩
 rintro j O2 ⟨eO,hj,hw⟩;rw[eO];clear eO O2
 by_cases h2:j<s.length
 ·have hg:=ahZ h2;have hd:=ah3 h2;generalize s[j]=c at*;refine ao @fI @hg ?_;refine ah.rt (hf c) ?_ (hb:=hb);rintro _ O3 ⟨rfl,eO⟩;rw[eO];clear eO O3
  cases hp:p c
  ·refine ao @fI @hg ?_;rw[hw,hd,alE (by simp[hp])];trivial
  ·refine ao @fI @hg ?_;refine ax.next (j+1) ?_;refine⟨rfl,by omega,?_⟩;rw[hw,hd,alF hp,yP];omega
 ·refine ae @fI ?_;rw[hw,List.drop_of_length_le (by omega)];trivial
def jM (s:Bs) (a:Nat):Bs×Nat×Nat:=if dP s [120]then(s.drop 1,a+1,16)else(s,a,10)
def sb (b:Nat) (l:Bs):Nat:=l.foldl (fun k c=>k*b+(r_ b c).toNat) 0
def aai (s:Bs) (a b n:Nat):Bs×Nat×Int:=
 if 8<n then([],0,12)else if n=s.length then([],0,13)else if n=0\/s.getD n 0≠59 then([],0,12)
 else if isLet (sb b (s.take n))then(Cv (sb b (s.take n)),a+n+1,0)else([],0,12)
def vt (s:Bs) (a:Nat):Bs×Nat×Int:=aai (jM s a).1 (jM s a).2.1 (jM s a).2.2 ((jM s a).1.takeWhile (xK (jM s a).2.2)).length
theorem Mw {b:Nat} (hb:b<=16):∀(l:Bs) (k:Nat),l.foldl (fun k c=>k*b+(r_ b c).toNat) k+1<=(k+1)*16 ^ l.length
 | [],k=>by simp
 | c::l,k=>by
   have hd:(r_ b c).toNat<=15:=by
    unfold r_;split
    ·rename_i h;rw[Mv,decide_eq_true_eq]at h;omega
    repeat' split
    all_goals omega
   rw[List.foldl_cons,yP,Nat.pow_succ];refine ags (Mw hb l _) ?_;have h1:k*b<=k*16:=Nat.mul_le_mul_left k hb;have h2:k*b+(r_ b c).toNat+1<=(k+1)*16:=by omega
   calc _<=((k+1)*16)*16 ^ l.length:=Nat.mul_le_mul_right _ h2
    _=_:=by rw[Nat.mul_assoc,Nat.mul_comm 16]
theorem SP {b:Nat} (hb:b<=16) {l:Bs} (hl:l.length<=8):sb b l<=4294967296:=by
 have h1:=Mw hb l 0;have h2:16 ^ l.length<=16 ^ 8:=Nat.pow_le_pow_right (by decide) hl;have h3:(16:Nat) ^ 8=4294967296:=by decide
 unfold sb;omega
theorem QG (b:Nat) (t:Bs) (j:Nat) (h:j<t.length):sb b (t.take (j+1))=sb b (t.take j)*b+(r_ b t[j]).toNat:=by
 unfold sb;rw[c6 _ _ h,List.foldl_append];rfl
theorem SQ {p:UInt8->Bool}:∀(t:Bs) (j:Nat) (c:UInt8),j<(t.takeWhile p).length->t[j]?=some c->p c=true
 | [],j,c,h,_=>by simp at h
 | d::t,j,c,h,hj=>by
   cases hd:p d
   ·rw[alE (by simp[hd])]at h;simp at h
   ·rw[alF hd,yP]at h;cases j with
    | zero=>simp only[List.getElem?_cons_zero,Option.some.injEq]at hj;subst hj;exact hd
    | succ j=>exact SQ t j c (by omega) (by simpa using hj)
theorem Wa (s:Bs) (a:Nat) (O:VH) (hs:s.length<=1000000) (ha:a<=1000000):VF Tryz.prog 318 [.str s,mi a] O (aE fun m O'=>m= .tuple [.str (vt s a).1,mi (vt s a).2.1,mi (vt s a).2.2]/\O.Ge O'):=by
 unfold vt;refine VF.bN 65 [.tmp 4,.tmp 5,.tmp 6] Tryz.func318 ?_;refine VC.ag aa (ae @bM ?_);refine VC.ag aa (ae @bM ?_);refine VC.al ?_;rintro O1 ⟨aM,dY,cW⟩;refine VC.bC [0,1,7] (fun _:Unit=>[.str (jM s a).1,mi (jM s a).2.1,.ptr O.next 0]) (fun _ O'=>O.Ge O'/\O'.hp O.next=some (.cells [mi (jM s a).2.2])) ?_ ?_
 ·refine VC.ag aa (ae @bM ?_);refine ah.rt (m_ s [120] _) ?_;rintro _ O2 ⟨rfl,eO⟩;rw[eO];clear eO O2
  unfold jM;cases h1:dP s [120]
  ·refine ae @bM ?_;refine WC.sound aa (ae @bM ?_);exact aA.mk () ⟨aM,dY⟩
  ·have h2:1<=s.length:=by
    cases s with
    | nil=>cases h1
    | cons c s=>simp
   refine ao @bM @dY ?_;refine WC.sound aa (ao @bM @dY ?_);exact aA.mk () ⟨aM.set (agw _) _,VH.an _ _ _⟩
 rintro⟨⟩ O2 ⟨ay,bJ⟩;have dL:(jM s a).1.length<=1000000:=by unfold jM;split<;>simp<;>omega
 have hpa:(jM s a).2.1<=1000001:=by unfold jM;split<;>simp<;>omega
 have nO:(jM s a).2.2<=16:=by unfold jM;split<;>simp
 generalize jM s a=p at*;obtain⟨t,a2,b⟩:=p;dsimp only at*;have htw:=nV (xK b) t;refine VC.ag aa (ae @bM ?_);refine ah.rt (aah 322 [.ptr O.next 0] (xK b) t O2 (by omega) (fun c=>V_ b O.next c O2 bJ) (by kernel_rfl)) ?_;rintro _ O3 ⟨rfl,eO⟩;rw[eO];clear eO O3
 have kC:= @SQ (xK b) t;generalize (t.takeWhile (xK b)).length=n at*;unfold aai;refine ae @bM ?_;refine VC.bB (VC.az ?_);by_cases h1:8<n
 ·rw[if_pos h1];refine WC.sound aa (ae @bM ?_);exact⟨rfl,ay⟩
 rw[if_neg h1];by_cases h2:n=t.length
 ·rw[if_pos h2];subst h2;refine WC.sound aa (ae @bM ?_);exact⟨rfl,ay⟩
 rw[if_neg h2];by_cases h3:n=0
 ·rw[if_pos (.inl h3)];subst h3;refine WC.sound aa (ao @bM @h2 ?_);exact⟨rfl,ay⟩
 have hnt:n<t.length:=by omega
 have hg:=ahZ hnt;have hd:t.getD n 0=t[n]:=by simp[List.getD,hg]
 rw[hd];generalize t[n]=c at*;by_cases h4:c=59;rotate_left
 ·rw[if_pos (.inr h4)];have h5:¬((c.toNat:Int)=59):=fun e=>h4 (UInt8.toNat_inj.1 (by simpa using(by omega:c.toNat=59)))
  refine WC.sound aa (c_ @bM @hg @aI @h5 ?_);exact⟨rfl,ay⟩
 rw[if_neg (fun h=>h.elim h3 (fun h=>h h4))];subst h4;have h5:((((59:UInt8).toNat:Nat):Int) != 59)=false:=rfl;refine WC.sound aa (c_ @bM @hg @aI @h5 ?_);clear hg h5;refine VC.ag aa (ae @bM ?_);refine VC.ag aa (ae @bM ?_);simp only[aq]at bJ;refine VC.bG [9,40] [0,1,7,8,39] (fun j:Nat=>[mi (sb b (t.take j)),mi j]) (fun j O'=>O'=O2/\j<=n) (fun j=>n - j) (0) ?_ ?_
 ·exact⟨rfl,ahY _⟩
 rintro j O3 ⟨eO,hj⟩;rw[eO];clear eO O3
 have h8:(t.take j).length<=8:=by rw[ah2];omega
 have hv8:=SP nO h8;by_cases hjn:j<n
 ·have hjt:j<t.length:=by omega
  have hg:=List.getElem?_eq_getElem hjt;have Wb:=kC j _ hjn hg;have jm:=QG b t j hjt;have h9:sb b (t.take (j+1))<=4294967296:=SP nO (by rw[List.length_take];omega);generalize t[j]=c at*;simp only[xK,decide_eq_true_eq]at Wb;generalize hV:sb b (t.take (j+1))=V at*;generalize sb b (t.take j)=v at*;have hdv:((r_ b c).toNat:Int)=r_ b c:=Int.toNat_of_nonneg Wb;have hdc:=HU b c O2;generalize r_ b c=d at*;obtain⟨d,rfl⟩:=Int.eq_ofNat_of_zero_le Wb;have kQ:(v:Int)*(b:Int)=((v*b:Nat):Int):=by rw[Int.natCast_mul]
  simp only[Int.toNat_natCast]at jm;generalize v*b=vb at*;refine VC.ag aa (ae @bM ?_);refine VC.ag aa (ae @bM ?_);refine VC.bB (VC.az ?_);refine VC.ag aa (ae @bM ?_);refine VC.mZ [] ?_;refine ab.av 0 ?_;refine ae @bM ?_;refine ab.ld (m:=.v (.int .i64 b)) 1 ?_ ?_
  ·exact dq @bM @bJ
  simp only[aj];refine ab.av 2 ?_;refine ao @bM @kQ ?_;refine ab.av 3 ?_;refine ae @bM ?_;refine ab.av 4 ?_;refine ae @bM ?_;refine ab.av 5 ?_;refine ao @bM @hg ?_;refine ab.ld (m:=.v (.int .i64 b)) 6 ?_ ?_
  ·exact dq @bM @bJ
  simp only[aj];refine ab.call (i:=7) (hdc) ?_;rintro _ O3 ⟨rfl,eO⟩;simp only[aj];rw[eO];clear eO O3
  refine⟨VH.Ge.refl _,?_⟩;refine ab.av 8 ?_;refine ao @bM @kQ ?_;refine ab.av 9 ?_;refine ao @bM @kQ ?_;refine ab.bO [] ?_;refine ae @bM ?_;refine WC.sound aa (ae @bM ?_);exact ax.next (j+1) ⟨rfl,hjn⟩ (hl:=(by rw[hV,jm];rfl))
 ·obtain rfl:j=n:=by omega
  refine VC.ag aa (ae @bM ?_);refine WC.sound aa (ae @bM ?_);generalize sb b (t.take j)=v at*;refine VC.ag aa (ae @bM ?_);refine ah.rt (V9 v _ (by omega)) ?_;rintro _ O3 ⟨rfl,eO⟩;rw[eO];clear eO O3
  cases h6:isLet v
  ·rw[if_neg (by simp)];refine ae @bM ?_;refine WC.sound aa (ae @bM ?_);exact⟨rfl,ay⟩
  ·rw[if_pos rfl];refine ae @bM ?_;refine WC.sound aa (ae @bM ?_);exact⟨rfl,ay⟩
def o7 (w:Bs):Bs:=
 if w=[108,116]then[60]else if w=[103,116]then[62]else if w=[97,109,112]then[38]else if w=[113,117,111,116]then[34]else if w=[97,112,111,115]then[39]else[]
theorem aaj (w:Bs) (O:VH):VF Tryz.prog 320 [.str w] O (aE fun m O'=>m= .str (o7 w)/\O'=O):=by
 unfold o7;refine VF.dy 14 [.tmp 2] Tryz.func320 ?_;by_cases h1:w=[108,116]
 ·rw[if_pos h1];have e1:=beq_iff_eq.2 h1;exact dq @bM @e1
 rw[if_neg h1];have e1:(w==[108,116])=false:=by simpa using h1
 by_cases h2:w=[103,116]
 ·rw[if_pos h2];have e2:=beq_iff_eq.2 h2;exact kt3 @bM @e1 @e2
 rw[if_neg h2];have e2:(w==[103,116])=false:=by simpa using h2
 by_cases h3:w=[97,109,112]
 ·rw[if_pos h3];have e3:=beq_iff_eq.2 h3;exact kt4 @bM @e1 @e2 @e3
 rw[if_neg h3];have e3:(w==[97,109,112])=false:=by simpa using h3
 by_cases h4:w=[113,117,111,116]
 ·rw[if_pos h4];have e4:=beq_iff_eq.2 h4;exact kt5 @bM @e1 @e2 @e3 @e4
 rw[if_neg h4];have e4:(w==[113,117,111,116])=false:=by simpa using h4
 by_cases h5:w=[97,112,111,115]
 ·rw[if_pos h5];have e5:=beq_iff_eq.2 h5;exact kt6 @bM @e1 @e2 @e3 @e4 @e5
 rw[if_neg h5];have e5:(w==[97,112,111,115])=false:=by simpa using h5
 exact kt6 @bM @e1 @e2 @e3 @e4 @e5
def Cw (c:UInt8):Bool:=decide (97<=c.toNat/\c.toNat<=122)
theorem ajb (c:UInt8) (O:VH):VF Tryz.prog 319 [fL c] O (aE fun m O'=>m=mb (Cw c)/\O'=O):=by
 refine VF.dy 9 [.tmp 2] Tryz.func319 ?_;by_cases h1:97<=c.toNat
 ·by_cases h2:c.toNat<=122
  ·rw[show Cw c=true from decide_eq_true ⟨h1,h2⟩];exact dq @bM @aI
  ·rw[show Cw c=false from decide_eq_false (fun h=>h2 h.2)];exact dq @bM @aI
 ·rw[show Cw c=false from decide_eq_false (fun h=>h1 h.1)];exact dq @bM @aI
def qa (s:Bs):Bs:=(s.drop 1).takeWhile Cw
def pq:List Bs:=[[108,116],[103,116],[97,109,112],[113,117,111,116],[97,112,111,115]]
def aak (s w:Bs):Bs×Nat×Int:=
 if 1+w.length=s.length then(if pq.any (fun x=>dP x w)then([],0,13)else([],0,12))
 else if o7 w≠[]/\s.getD (1+w.length) 0=59 then(o7 w,w.length+2,0)else([],0,12)
def ng (s:Bs):Bs×Nat×Int:=if dP s [38,35]then vt (s.drop 2) 2 else aak s (qa s)
theorem gO {s p:Bs} (h:dP s p=true):p.length<=s.length:=by
 unfold dP at h;have h1:s.take p.length=p:=by simpa using h
 rw[<-h1,ah2];omega
theorem ahd (s:Bs) (O:VH) (hs:s.length<=1000000) (h0:s[0]?=some 38):
  VF Tryz.prog 314 [.str s] O (aE fun m O'=>m= .tuple [.str (ng s).1,mi (ng s).2.1,mi (ng s).2.2]/\O.Ge O'):=by
 have hne:(s==[])=false:=by cases s<;>simp at h0 ⊢
 have h1:1<=s.length:=by cases s<;>simp at h0 ⊢
 unfold ng;refine VF.dy 62 [.tmp 2,.tmp 3,.tmp 4] Tryz.func314 ?_;refine c_ @bM @hne @h0 @aI ?_;refine ah.rt (m_ s [38,35] _) ?_;rintro _ O2 ⟨rfl,eO⟩;rw[eO];clear eO O2
 cases hn:dP s [38,35];rotate_left
 ·have ra:=gO hn;simp only[yP,XN]at ra;rw[if_pos rfl];refine ae @bM ?_;refine ah.rt (Wa (s.drop 2) 2 O (by rw[RZ];omega) (by decide)) ?_;rintro _ O2 ⟨rfl,ay⟩;generalize vt (s.drop 2) 2=r at*;refine ae @bM ?_;first | exact ay | exact⟨rfl,ay⟩
 rw[if_neg (by simp)];refine ae @bM ?_;refine ah.rt (Jc 319 Cw (s.drop 1) _ (ags (by rw[RZ];omega:(s.drop 1).length<=1000000) (by decide)) ajb (by kernel_rfl)) ?_;rintro _ O2 ⟨rfl,eO⟩;rw[eO];clear eO O2
 have hw:qa s=(s.drop 1).takeWhile Cw:=rfl;have oJ:(qa s).length<=s.length - 1:=by unfold qa;exact ags (nV _ _) (by rw[RZ];exact agw _)
 have BA:(s.drop 1).take (qa s).length=qa s:=by
  unfold qa;exact List.prefix_iff_eq_take.1 (List.takeWhile_prefix _) |>.symm
 have ry:(1+((qa s).length:Int)).toNat - 1=(qa s).length:=by omega
 have afm:(1+((qa s).length:Int)).toNat=1+(qa s).length:=by omega
 rw[<-hw];clear hw;generalize qa s=w at*;unfold aak;by_cases h2:1+w.length=s.length
 ·rw[if_pos h2];have h3:(1+(w.length:Int)==(s.length:Int))=true:=by simpa using(by omega:1+(w.length:Int)=(s.length:Int))
  have hws:List.length ([.str [108,116],.str [103,116],.str [97,109,112],.str [113,117,111,116],.str [97,112,111,115]]:List MV)=5:=rfl;refine gQ @bM @xi @ry @BA @h3 ?_;refine WC.iS [40] [6,38,39] (fun j:Nat=>[mi j]) (fun j O'=>O'=O/\j<=5/\pq.any (fun x=>dP x w)=(pq.drop j).any (fun x=>dP x w)) (fun j=>5 - j) (0) ?_ ?_
  ·exact⟨rfl,ahY _,rfl⟩
  rintro j O2 ⟨eO,hj,hr⟩;rw[eO];clear eO O2
  by_cases rA:j<5
  ·obtain⟨x,bw,QH⟩:∃x:Bs,([.str [108,116],.str [103,116],.str [97,109,112],.str [113,117,111,116],.str [97,112,111,115]]:List MV)[j]?=some (.str x)/\pq.drop j=x::pq.drop (j+1):=by
    rcases(by omega:j=0\/j=1\/j=2\/j=3\/j=4)with rfl | rfl | rfl | rfl | rfl<;>exact⟨_,rfl,rfl⟩
   rw[QH,List.any_cons]at hr;refine c_ @bM @xi @bw @hws ?_;refine ah.rt (m_ x w _) ?_;rintro _ O2 ⟨rfl,eO⟩;rw[eO];clear eO O2
   cases hx:dP x w
   ·rw[hx,Bool.false_or]at hr;refine ae @bM ?_;exact ax.next (j+1) ⟨rfl,rA,hr⟩
   ·rw[hx,Bool.true_or]at hr;rw[hr,if_pos rfl];refine ae @bM ?_;first | exact VH.Ge.refl _ | exact⟨rfl,VH.Ge.refl _⟩
  ·obtain rfl:j=5:=by omega
   have fl:pq.any (fun x=>dP x w)=false:=hr;rw[fl,if_neg (by simp)];refine ae @bM ?_;first | exact VH.Ge.refl _ | exact⟨rfl,VH.Ge.refl _⟩
 rw[if_neg h2];have h3:(1+(w.length:Int)==(s.length:Int))=false:=by simpa using(by omega:¬1+(w.length:Int)=(s.length:Int))
 have h4:1+w.length<s.length:=by omega
 have hg:=ahZ h4;have hd:s.getD (1+w.length) 0=s[1+w.length]:=by simp[List.getD,hg]
 rw[hd];generalize s[1+w.length]=c at*;refine c_ @bM @ry @BA @h3 ?_;refine ah.rt (aaj w _) ?_;rintro _ O2 ⟨rfl,eO⟩;rw[eO];clear eO O2
 by_cases h5:o7 w=[]
 ·have h6:(o7 w==[])=true:=beq_iff_eq.2 h5;rw[if_neg (fun h=>h.1 h5)];refine ao @bM @h6 ?_;first | exact VH.Ge.refl _ | exact⟨rfl,VH.Ge.refl _⟩
 have h6:(o7 w==[])=false:=by simpa using h5
 by_cases h7:c=59
 ·rw[if_pos ⟨h5,h7⟩];subst h7;have h8:((((59:UInt8).toNat:Nat):Int)==59)=true:=rfl;refine Bm @bM @h6 @afm @hg @aI @h8 ?_;first | exact VH.Ge.refl _ | exact⟨rfl,VH.Ge.refl _⟩
 ·rw[if_neg (fun h=>h7 h.2)];have h8:¬((c.toNat:Int)=59):=fun e=>h7 (UInt8.toNat_inj.1 (by simpa using(by omega:c.toNat=59)))
  refine Bm @bM @h6 @afm @hg @aI @h8 ?_;first | exact VH.Ge.refl _ | exact⟨rfl,VH.Ge.refl _⟩
theorem Mx (w:Bs):(o7 w).length<=1:=by unfold o7;repeat' split
                                       all_goals simp
theorem Wc (k:Int):(HT k).length<=4:=encode_size_le k
theorem aal {s:Bs} {a:Nat} (h:(vt s a).2.2=0):a+2<=(vt s a).2.1/\(vt s a).2.1<=a+s.length/\(vt s a).1.length<=4:=by
 have qA:a<=(jM s a).2.1/\(jM s a).2.1+(jM s a).1.length<=a+s.length:=by
  unfold jM;split
  ·rename_i h;have:=gO h;simp only[yP,XN]at this;rw[RZ];dsimp only;omega
  ·dsimp only;omega
 have htw:=nV (xK (jM s a).2.2) (jM s a).1;unfold vt at h ⊢;generalize ((jM s a).1.takeWhile (xK (jM s a).2.2)).length=n at*;unfold aai at h ⊢;split at h
 ·cases h
 rw[if_neg ‹_›];split at h
 ·cases h
 rw[if_neg ‹_›];split at h
 ·cases h
 rw[if_neg ‹_›];split at h
 ·rw[if_pos ‹_›]
  have hl:(Cv (sb (jM s a).2.2 ((jM s a).1.take n))).length<=4:=by
   unfold Cv;split<;>first | exact Wc _ | exact ahY _
  exact⟨by dsimp only;omega,by dsimp only;omega,hl⟩
 ·cases h
theorem Aw {s:Bs} (h:(ng s).2.2=0):2<=(ng s).2.1/\(ng s).2.1<=s.length/\(ng s).1.length<=(ng s).2.1:=by
 have oJ:1+(qa s).length<=s.length\/s=[]:=by
  cases s with
  | nil=>exact .inr rfl
  | cons c s=>left;unfold qa;rw[List.drop_succ_cons,alM,yP];have:=nV Cw s;omega
 unfold ng at h ⊢;split at h
 ·rename_i h1;rw[if_pos h1];have h2:=gO h1;simp only[yP,XN]at h2;have:=aal h;rw[RZ]at this;omega
 rw[if_neg ‹_›];unfold aak at h ⊢;split at h
 ·split at h<;>cases h
 rw[if_neg ‹_›];split at h
 ·rename_i h1;rw[if_pos h1];have:=Mx (qa s);rcases oJ with oJ | rfl
  ·exact⟨by dsimp only;omega,by dsimp only;omega,by dsimp only;omega⟩
  ·have:=h1.2;simp at this
 ·cases h
def eQ (t:Bs) (stop:UInt8):Nat->Nat->Bs->Except (Int×Nat) (Bs×Nat)
 | 0,o,acc=>.ok (acc,o)
 | n+1,o,acc=>match t[o]? with
   | none=>.ok (acc,o)
   | some c=>
     if c=stop then .ok (acc,o)
     else if c=38 then
      if(ng (t.drop o)).2.2≠0 then .error ((ng (t.drop o)).2.2,o)else eQ t stop n (o+(ng (t.drop o)).2.1) (acc++(ng (t.drop o)).1)
     else if c=60\/mw c=false then .error (10,o)
     else eQ t stop n (o+1) (acc++[c])
theorem yH {O:VH} {k off:Nat} {t:Bs} {X:MV} (stop:UInt8) (h:Rd O k t off X) (ht:t.length<=1000000) (ho:off<=t.length):
  VF Tryz.prog 292 [.ptr k 0,fL stop] O (TQ O k t X (eQ t stop (t.length+1 - off) off []) fun y m=>m= .str y):=by
 refine VF.bN 100 [.tmp 4] Tryz.func292 ?_;refine VC.ag aa (ae @au ?_);refine VC.ag aa (ae @au ?_);have r4:=fX.fresh O (agw O.next);have kh:O.Ge ((O.push (.cells [.v (.pointer none),.sl 0 [] .nil])).push (.shape O.next 145 2)):=((VH.Ge.refl O).push _).push _;generalize ((O.push (.cells [.v (.pointer none),.sl 0 [] .nil])).push (.shape O.next 145 2))=O1 at*;refine VC.bC [5] (fun x:Bs×Nat×Option Nat=>[.ptr O.next 0]) (fun x O'=>br O (some k) O'/\Rd O' k t x.2.1 X/\fX O' O.next O.next x.2.2 x.1/\x.1.length<=1000000/\eQ t stop (t.length+1 - off) off []= .ok (x.1,x.2.1)) ?_ ?_;rotate_left
 ·rintro⟨acc,o,q⟩ O2 ⟨dm,fl,ct,gh,he⟩;dsimp only at fl ct gh he;rw[he];refine WC.sound aa (ae @au ?_);refine ah.rt (pO ct (by simp only[maxLen];omega)) ?_;rintro _ O3 ⟨rfl,cP⟩;refine ae @au ?_;have oc:=ct.xG;exact⟨⟨ags dm.next cP.next,fun i hi hne=>(cP.hp i (Km hi dm.next) (fun e=>by have:=oc i e;omega)).trans (dm.hp i hi hne)⟩,rfl,Km fl.1 cP.next,(cP.hp k fl.1 (fun e=>by have:=oc k e;have:=h.1;omega)).trans fl.2⟩
 refine VC.az ?_;refine VC.bG [] [0,1,5] (fun x:Bs×Nat×Option Nat=>[]) (fun x O'=>br O (some k) O'/\Rd O' k t x.2.1 X/\fX O' O.next O.next x.2.2 x.1/\x.1.length<=x.2.1/\x.2.1<=t.length/\∃n,t.length+1 - x.2.1<=n/\eQ t stop (t.length+1 - off) off []=eQ t stop n x.2.1 x.1) (fun x=>t.length - x.2.1) (([],off,none)) ?_ ?_
 ·exact⟨(br.lR kh).any,h.ge kh,r4,ahY _,ho,_,agw _,rfl⟩
 rintro⟨acc,o,q⟩ O2 ⟨dm,fl,ct,gh,My,n,hn,he⟩;dsimp only at fl ct gh My hn he;obtain⟨n,rfl⟩:∃i,n=i+1:=⟨n - 1,by omega⟩
 have bJ:=fl.2;simp only[aq]at bJ;by_cases h1:t.length<=o
 ·have fG:t[o]?=none:=List.getElem?_eq_none h1;have hle:eQ t stop (n+1) o acc= .ok (acc,o):=by unfold eQ;rw[fG]
  rw[hle]at he;refine VC.bB (VC.bB ?_);refine VC.mZ [4,5,6,7,8,9,10,11,12,13,14,15,16,17,18,19] ?_;refine ab.av 0 ?_;refine ae @au ?_;refine ab.av 1 ?_;refine ae @au ?_;refine ab.av 2 ?_;refine ae @au ?_;refine ab.call (i:=3) (nc fl) ?_;rintro _ O3 ⟨rfl,eO⟩;simp only[aj];rw[eO];clear eO O3
  rw[decide_eq_true h1];refine⟨VH.Ge.refl _,?_⟩;refine ab.bO [(4,.av),(5,.av),(6,.av),(7,.av),(8,.av),(9,.av),(10,.av),(11,.av),(12,.av),(13,.av),(14,.av),(15,.av),(16,.av),(17,.av),(18,.av),(19,.av)] ?_;refine ae @au ?_;refine WC.sound aa (ae @au ?_);exact aA.mk (acc,o,q) ⟨dm,fl,ct,ags gh (ags My ht),he⟩
 have h2:o<t.length:=by omega
 have hg:=ahZ h2;generalize t[o]=c at*;refine VC.bB (VC.bB ?_);refine VC.mZ [] ?_;refine ab.av 0 ?_;refine ae @au ?_;refine ab.av 1 ?_;refine ae @au ?_;refine ab.av 2 ?_;refine ae @au ?_;refine ab.call (i:=3) (nc fl) ?_;rintro _ O3 ⟨rfl,eO⟩;simp only[aj];rw[eO];clear eO O3
 rw[decide_eq_false h1];refine⟨VH.Ge.refl _,?_⟩;refine ab.av 4 ?_;refine ae @au ?_;refine ab.av 5 ?_;refine ae @au ?_;refine ab.av 6 ?_;refine ae @au ?_;refine ab.av 7 ?_;refine ae @au ?_;refine ab.av 8 ?_;refine ae @au ?_;refine ab.av 9 ?_;refine ae @au ?_;refine ab.ld (m:=.str t) 10 ?_ ?_
 ·exact dq @au @bJ
 simp only[aj];refine ab.av 11 ?_;refine ae @au ?_;refine ab.av 12 ?_;refine ae @au ?_;refine ab.av 13 ?_;refine ae @au ?_;refine ab.av 14 ?_;refine ae @au ?_;refine ab.ld (m:=.v (.int .i64 o)) 15 ?_ ?_
 ·exact dq @au @bJ
 simp only[aj];refine ab.av 16 ?_;refine ao @au @hg ?_;refine ab.av 17 ?_;refine ae @au ?_;by_cases h3:c=stop
 ·subst h3;have hle:eQ t c (n+1) o acc= .ok (acc,o):=by unfold eQ;rw[hg];simp
  rw[hle]at he;refine ab.av 18 ?_;refine ao @au @aI ?_;refine ab.av 19 ?_;refine ae @au ?_;refine ab.bO [] ?_;refine ae @au ?_;refine WC.sound aa (ae @au ?_);exact aA.mk (acc,o,q) ⟨dm,fl,ct,ags gh (ags My ht),he⟩
 have h4:¬((c.toNat:Int)=(stop.toNat:Int)):=fun e=>h3 (UInt8.toNat_inj.1 (by omega))
 refine ab.av 18 ?_;refine aJ @au @aI @h4 ?_;refine ab.av 19 ?_;refine ae @au ?_;refine ab.bO [] ?_;refine ae @au ?_;refine WC.sound aa (ae @au ?_);refine VC.az ?_;refine VC.bB ?_;refine WC.reads ?_;refine aJ @au @bJ @hg ?_;by_cases h5:c=38
 ·subst h5;have vu:(t.drop o).length<=1000000:=by rw[RZ];omega
  have kh:(t.drop o)[0]?=some 38:=by rw[List.getElem?_drop];exact hg
  have Ax:=ahd (t.drop o) O2 vu kh;have cK:= @Aw (t.drop o)
  have hle:eQ t stop (n+1) o acc=if(ng (t.drop o)).2.2≠0 then .error ((ng (t.drop o)).2.2,o)else eQ t stop n (o+(ng (t.drop o)).2.1) (acc++(ng (t.drop o)).1):=by
   rw[show eQ t stop (n+1) o acc=_ from by unfold eQ;rfl,hg];simp only;rw[if_neg h3,if_pos trivial]
  rw[hle]at he;rw[RZ]at cK;generalize ng (t.drop o)=r at*;have h6:((((38:UInt8).toNat:Nat):Int)==38)=true:=rfl;refine VC.ag aa (aJ @au @aI @h6 ?_);refine ah.rt (wT fl My) ?_;rintro _ O3 ⟨rfl,eO⟩;rw[eO];clear eO O3
  refine ae @au ?_;refine ah.rt (Ax) ?_;rintro _ OR ⟨rfl,hgR⟩;refine ae @au ?_;clear Ax
  replace bJ:=(hgR.hp k fl.1).trans bJ
  replace fl:=fl.ge hgR
  replace ct:=ct.ge hgR
  replace dm:=dm.trans (br.lR hgR).any
  clear hgR O2;by_cases h7:r.2.2=0
  ·obtain⟨k1,k2,k3⟩:=cK h7;rw[if_neg (by simpa using h7)]at he;have h8:(r.2.2 != 0)=false:=by simpa using h7
   refine ao @au @h8 ?_;refine ah.rt (bQ r.1 ct (by omega)) ?_;rintro _ O3 ⟨rfl,q',cg,cP⟩;have oc:=ct.xG;have dz:O3.hp k=some (.cells [.str t,.v (.int .i64 (o:Int)),X]):=(cP.hp k fl.1 (by have:=h.1;omega) (fun e=>by have:=oc k e;have:=h.1;omega)).trans bJ;refine ao @au @dz ?_;have fq:br O (some k) O3:=⟨ags dm.next cP.next,fun i hi hne=>(cP.hp i (Km hi dm.next) (by omega) (fun e=>by have:=oc i e;omega)).trans (dm.hp i hi hne)⟩;have gX:Rd O3 k t o X:=⟨Km fl.1 cP.next,dz⟩;refine ax.next (acc++r.1,o+r.2.1,q') ⟨fq.trans br.set,by simpa[aq]using gX.set (t':=t) (off':=o+r.2.1) (X':=X),cg.set dz (by have:=h.1;omega) (fun e=>by have:=cg.xG k e;have:=h.1;omega),by dsimp only;rw[Kn];omega,by dsimp only;omega,n,by dsimp only;omega,he⟩
  ·rw[if_pos h7]at he;rw[he];have h8:(r.2.2 != 0)=true:=by simpa using h7
   refine aJ @au @h8 @bJ ?_;refine ah.p (iJ r.2.2 o _) ?_ ?_
   ·rintro m O9 ⟨_,h⟩;exact h.elim
   rintro m O9 ⟨rfl,rfl⟩;refine ae @au ?_;exact⟨dm,rfl⟩
 have h6:¬((c.toNat:Int)=38):=fun e=>h5 (UInt8.toNat_inj.1 (by simpa using(by omega:c.toNat=38)))
 by_cases h7:c=60\/mw c=false
 ·have hle:eQ t stop (n+1) o acc= .error (10,o):=by unfold eQ;rw[hg];simp only;rw[if_neg h3,if_neg h5,if_pos h7]
  rw[he,hle];by_cases h8:c=60
  ·have h9:((c.toNat:Int)==60)=true:=by rw[h8];rfl
   refine VC.ag aa (gQ @au @aI @h6 @h9 @bJ ?_);refine ah.p (iJ 10 o _) ?_ ?_
   ·rintro m O9 ⟨_,h⟩;exact h.elim
   rintro m O9 ⟨rfl,rfl⟩;refine ae @au ?_;exact⟨dm,rfl⟩
  have rb:¬((c.toNat:Int)=60):=fun e=>h8 (UInt8.toNat_inj.1 (by simpa using(by omega:c.toNat=60)))
  have h9:mw c=false:=h7.resolve_left h8;refine VC.ag aa (c_ @au @aI @h6 @rb ?_);refine ah.rt (wN c _) ?_;rintro _ O3 ⟨rfl,eO⟩;rw[eO];clear eO O3
  rw[h9];refine ao @au @bJ ?_;refine ah.p (iJ 10 o _) ?_ ?_
  ·rintro m O9 ⟨_,h⟩;exact h.elim
  rintro m O9 ⟨rfl,rfl⟩;refine ae @au ?_;exact⟨dm,rfl⟩
 have h8:¬c=60:=fun e=>h7 (.inl e)
 have h9:mw c=true:=by simpa using fun hx:mw c=false=>h7 (.inr hx)
 have rb:¬((c.toNat:Int)=60):=fun e=>h8 (UInt8.toNat_inj.1 (by simpa using(by omega:c.toNat=60)))
 have hle:eQ t stop (n+1) o acc=eQ t stop n (o+1) (acc++[c]):=by
  rw[show eQ t stop (n+1) o acc=_ from by unfold eQ;rfl,hg];simp only;rw[if_neg h3,if_neg h5,if_neg h7]
 rw[hle]at he;refine VC.ag aa (c_ @au @aI @h6 @rb ?_);refine ah.rt (wN c _) ?_;rintro _ O3 ⟨rfl,eO⟩;rw[eO];clear eO O3
 rw[h9];refine ae @au ?_;refine WC.sound aa (ae @au ?_);refine ah.rt (sT c ct (by omega)) ?_;rintro _ O3 ⟨rfl,q',cg,cP⟩;have oc:=ct.xG;have dz:O3.hp k=some (.cells [.str t,.v (.int .i64 (o:Int)),X]):=(cP.hp k fl.1 (by have:=h.1;omega) (fun e=>by have:=oc k e;have:=h.1;omega)).trans bJ;refine ao @au @dz ?_;have fq:br O (some k) O3:=⟨ags dm.next cP.next,fun i hi hne=>(cP.hp i (Km hi dm.next) (by omega) (fun e=>by have:=oc i e;omega)).trans (dm.hp i hi hne)⟩;have gX:Rd O3 k t o X:=⟨Km fl.1 cP.next,dz⟩;refine ax.next (acc++[c],o+1,q') ⟨fq.trans br.set,by simpa[aq]using gX.set (t':=t) (off':=o+1) (X':=X),cg.set dz (by have:=h.1;omega) (fun e=>by have:=cg.xG k e;have:=h.1;omega),by dsimp only;rw[Kn];simp only[yP,XN];omega,by dsimp only;omega,?_⟩;exact⟨n,by dsimp only;omega,he⟩
theorem om {t:Bs} {stop:UInt8}:∀(n o:Nat) (acc:Bs) {s:Bs} {o':Nat},o<=t.length->acc.length<=o->eQ t stop n o acc= .ok (s,o')->o<=o'/\o'<=t.length/\s.length<=o'
 | 0,o,acc,s,o',ho,ha,h=>by
   unfold eQ at h;injection h with h;injection h with h1 h2
   subst h1;subst h2
   exact⟨agw _,ho,ha⟩
 | n+1,o,acc,s,o',ho,ha,h=>by
   have done:∀(h:(.ok (acc,o):Except (Int×Nat) (Bs×Nat))= .ok (s,o')),o<=o'/\o'<=t.length/\s.length<=o':=fun h=>by
    injection h with h;injection h with h1 h2
    subst h1;subst h2
    exact⟨agw _,ho,ha⟩
   unfold eQ at h;cases hg:t[o]? with
   | none=>rw[hg]at h;exact done h
   | some c=>
     have Mz:o<t.length:=(TP.1 hg).1;rw[hg]at h;simp only at h;split at h
     ·exact done h
     split at h
     ·rename_i h2;subst h2;split at h
      ·cases h
      ·rename_i h5;obtain⟨k1,k2,k3⟩:=Aw (by simpa using h5);rw[RZ]at k2;have:=om n _ _ (by omega) (by rw[Kn];omega) h;omega
     split at h
     ·cases h
     ·have:=om n _ _ (by omega) (by rw[Kn];simp only[yP,XN];omega) h;omega
def tY (t:Bs) (off:Nat):Except (Int×Nat) (Bs×Nat):=match t[off]? with
 | none=>.error (13,off)
 | some q=>
   if q≠34/\q≠39 then .error (10,off)
   else match eQ t q (t.length+1 - (off+1)) (off+1) []with
    | .error e=>.error e
    | .ok (s,o)=>if t.length<=o then .error (13,o)else .ok (s,o+1)
theorem aam {O:VH} {k off:Nat} {t:Bs} {X:MV} (h:Rd O k t off X) (ht:t.length<=1000000):
  VF Tryz.prog 313 [.ptr k 0] O (TQ O k t X (tY t off) fun y m=>m= .str y):=by
 have hk:=h.2;simp only[aq]at hk;unfold tY;refine VF.dy 70 [.tmp 2] Tryz.func313 ?_;refine ae @au ?_;refine ah.rt (nc h) ?_;rintro _ O2 ⟨rfl,eO⟩;rw[eO];clear eO O2
 by_cases h1:t.length<=off
 ·rw[decide_eq_true h1,List.getElem?_eq_none h1];refine ao @au @hk ?_;refine ah.p (iJ _ _ _) ?_ ?_
  ·rintro m O9 ⟨_,h⟩;exact h.elim
  rintro m O9 ⟨rfl,rfl⟩;refine ae @au ?_;exact⟨br.refl _ _,rfl⟩
 have h2:off<t.length:=by omega
 have hg:=List.getElem?_eq_getElem h2;rw[decide_eq_false h1,hg];generalize t[off]=c at*;refine ae @au ?_;refine WC.reads ?_;refine c_ @au @hk @hg @aI ?_;have hr:Rd (O.set k (.cells [.str t,mi (off+1:Nat),X])) k t (off+1) X:=h.set;have hu:br O (some k) (O.set k (.cells [.str t,mi (off+1:Nat),X])):=br.set;have kQ:((off:Int)+1)=((off+1:Nat):Int):=by omega
 simp only[aq, <-kQ]at hr hu;have hle:=yH (X:=X) c hr ht (by omega:off+1<=t.length);have ey:= @om t c (t.length+1 - (off+1)) (off+1) [];generalize eQ t c (t.length+1 - (off+1)) (off+1) []=LF at*;by_cases hq:c≠34/\c≠39
 ·rw[if_pos hq];have e1:¬((c.toNat:Int)=34):=fun e=>hq.1 (UInt8.toNat_inj.1 (by simpa using(by omega:c.toNat=34)))
  have e2:¬((c.toNat:Int)=39):=fun e=>hq.2 (UInt8.toNat_inj.1 (by simpa using(by omega:c.toNat=39)))
  refine c_ @au @hk @e1 @e2 ?_;refine ah.p (iJ _ _ _) ?_ ?_
  ·rintro m O9 ⟨_,h⟩;exact h.elim
  rintro m O9 ⟨rfl,rfl⟩;refine ae @au ?_;exact⟨br.refl _ _,rfl⟩
 rw[if_neg hq];by_cases hc:c=34
 ·subst hc;have e1:((((34:UInt8).toNat:Nat):Int) != 34)=false:=rfl;refine c_ @au @aI @e1 @hk ?_;generalize O.set k (.cells [.str t,.v (.int .i64 ((off:Int)+1)),X])=O2 at*;refine ah.p (hle) ?_ ?_;rotate_left
  ·rintro m O3 ⟨cP,h⟩;cases LF with
   | ok y=>exact h.elim
   | error e=>
     dsimp only at h;subst h;refine ae @au ?_;exact⟨hu.trans cP,rfl⟩
  rintro m O3 ⟨cP,h⟩;cases LF with
  | error e=>exact h.elim
  | ok y=>
  obtain⟨s,o⟩:=y;dsimp only at h;obtain⟨rfl,gX⟩:=h;have dz:=gX.2;simp only[aq]at dz;obtain⟨g1,g2,g3⟩:=ey (by omega) (ahY _) rfl;refine ae @au ?_;refine ah.rt (nc gX) ?_;rintro _ O4 ⟨rfl,eO⟩;rw[eO];clear eO O4
  by_cases h5:t.length<=o
  ·rw[decide_eq_true h5];rw[if_pos h5];refine ao @au @dz ?_;refine ah.p (iJ _ _ _) ?_ ?_
   ·rintro m O9 ⟨_,h⟩;exact h.elim
   rintro m O9 ⟨rfl,rfl⟩;refine ae @au ?_;exact⟨hu.trans cP,rfl⟩
  ·rw[decide_eq_false h5];rw[if_neg h5];refine ao @au @dz ?_;exact⟨(hu.trans cP).trans br.set,rfl,by simpa[aq]using gX.set (t':=t) (off':=o+1) (X':=X)⟩
 ·obtain rfl:c=39:=by
   by_cases h9:c=39
   ·exact h9
   ·exact absurd ⟨hc,h9⟩ hq
  have e1:((((39:UInt8).toNat:Nat):Int) != 34)=true:=rfl;have e2:((((39:UInt8).toNat:Nat):Int) != 39)=false:=rfl;refine gQ @au @aI @e1 @e2 @hk ?_;generalize O.set k (.cells [.str t,.v (.int .i64 ((off:Int)+1)),X])=O2 at*;refine ah.p (hle) ?_ ?_;rotate_left
  ·rintro m O3 ⟨cP,h⟩;cases LF with
   | ok y=>exact h.elim
   | error e=>
     dsimp only at h;subst h;refine ae @au ?_;exact⟨hu.trans cP,rfl⟩
  rintro m O3 ⟨cP,h⟩;cases LF with
  | error e=>exact h.elim
  | ok y=>
  obtain⟨s,o⟩:=y;dsimp only at h;obtain⟨rfl,gX⟩:=h;have dz:=gX.2;simp only[aq]at dz;obtain⟨g1,g2,g3⟩:=ey (by omega) (ahY _) rfl;refine ae @au ?_;refine ah.rt (nc gX) ?_;rintro _ O4 ⟨rfl,eO⟩;rw[eO];clear eO O4
  by_cases h5:t.length<=o
  ·rw[decide_eq_true h5];rw[if_pos h5];refine ao @au @dz ?_;refine ah.p (iJ _ _ _) ?_ ?_
   ·rintro m O9 ⟨_,h⟩;exact h.elim
   rintro m O9 ⟨rfl,rfl⟩;refine ae @au ?_;exact⟨hu.trans cP,rfl⟩
  ·rw[decide_eq_false h5];rw[if_neg h5];refine ao @au @dz ?_;exact⟨(hu.trans cP).trans br.set,rfl,by simpa[aq]using gX.set (t':=t) (off':=o+1) (X':=X)⟩
def lG (t:Bs):Nat->Nat->List (Bs×Bs)->Except (Int×Nat) (List (Bs×Bs)×Nat)
 | 0,o,l=>.ok (l,o)
 | n+1,o,l=>
   if ky t o=0\/t.length<=o+ky t o\/dP (t.drop (o+ky t o)) [47]=true\/dP (t.drop (o+ky t o)) [62]=true then .ok (l,o+ky t o)
   else match jr t (o+ky t o) 10 with
    | .error e=>.error e
    | .ok (nm,o2)=>
      if l.any (·.1==nm)then .error (15,o+ky t o)
      else match iV t (o2+ky t o2) [61]with
       | .error e=>.error e
       | .ok (_,o4)=>match tY t (o4+ky t o4)with
         | .error e=>.error e
         | .ok (v,o6)=>lG t n o6 (l++[(nm,v)])
theorem jg (t:Bs) (o:Nat) (h:o<=t.length):o+ky t o<=t.length:=by
 unfold ky;have:=nV lS (t.drop o);rw[RZ]at this;omega
theorem gE {t:Bs} {o:Nat} {e:Int} {s:Bs} {o':Nat} (h:jr t o e= .ok (s,o')):o<o'/\o'<=t.length/\s.length<=o' - o/\0<s.length:=by
 have yG:=Cr (t.drop o);rw[RZ]at yG;unfold jr at h;split at h
 ·cases h
 split at h
 ·cases h
 injection h with h;injection h with h1 h2
 subst h1;subst h2
 rw[ah2,RZ];omega
theorem ly {t:Bs} {o:Nat} {p:Bs} {y:Unit} {o':Nat} (h:iV t o p= .ok (y,o')):o'=o+p.length/\o'<=t.length/\o<t.length:=by
 unfold iV at h;split at h
 ·cases h
 split at h
 ·rename_i h2;injection h with h;injection h with h1 h3
  have:=gO h2;rw[RZ]at this;omega
 ·cases h
theorem Ay {t:Bs} {o:Nat} {s:Bs} {o':Nat} (h:tY t o= .ok (s,o')):o<o'/\o'<=t.length/\s.length<=o':=by
 unfold tY at h;split at h
 ·cases h
 rename_i q hq;have Mz:=(TP.1 hq).1;split at h
 ·cases h
 split at h
 ·cases h
 rename_i s2 o2 h2;split at h
 ·cases h
 injection h with h;injection h with h1 h3
 subst h1;subst h3
 have:=om _ _ _ (by omega) (by simp) h2;omega
theorem App.bt {O O1:VH} {B sz k:Nat} {tk:Tok} (h:App O B sz tk) (u:br O (some k) O1) (hk:k<B):App O1 B sz tk:=by
 cases tk with
 | own t j=>
   obtain⟨h1,h2,h3,h4⟩:=h;exact⟨h1,(u.hp t h4 (by intro e;injection e;omega)).trans h2,h3,Km h4 u.next⟩
 | nil=>trivial
 | full=>trivial
 | ar=>exact h.elim
theorem MA {O:VH} {k off:Nat} {t:Bs} {X:MV} (h:Rd O k t off X) (ht:t.length<=1000000) (ho:off<=t.length):
  VF Tryz.prog 291 [.ptr k 0] O (TQ O k t X (lG t (t.length+1 - off) off []) fun y m=>∃tk,m= .sl y.length (y.flatMap bh) tk):=by
 refine VF.bN 64 [.tmp 2] Tryz.func291 ?_;refine VC.ag aa (ae @au ?_);refine VC.az ?_;refine VC.bG [2] [0] (fun x:List (Bs×Bs)×Nat×Tok=>[.sl x.1.length (x.1.flatMap bh) x.2.2]) (fun x O'=>br O (some k) O'/\Rd O' k t x.2.1 X/\App O' O.next 2 x.2.2/\x.2.1<=t.length/\x.1.length<=x.2.1/\∃n,t.length+1 - x.2.1<=n/\lG t (t.length+1 - off) off []=lG t n x.2.1 x.1) (fun x=>t.length - x.2.1) (([],off,.nil)) ?_ ?_
 ·exact⟨br.refl _ _,h,trivial,ho,ahY _,_,agw _,rfl⟩
 rintro⟨l,o,tk⟩ O2 ⟨dm,fl,cC,Mz,rT,n,hn,he⟩;dsimp only at dm fl cC Mz rT hn he ⊢;rw[he];obtain⟨n,rfl⟩:∃i,n=i+1:=⟨n - 1,by omega⟩
 have vc:=jg t o Mz;have hrb:=p8 fl ht Mz;rw[lG];generalize ky t o=kb at*;refine VC.az ?_;refine VC.ag aa (ae @au ?_);refine ah.p (hrb) ?_ ?_;rotate_left
 ·rintro m O9 ⟨_,h⟩;exact h.elim
 rintro m O3 ⟨cP,h9⟩;dsimp only at h9;obtain⟨rfl,gX⟩:=h9;have gV:App O3 O.next 2 tk:=App.bt cC cP (by have:=h.1;omega);have E9:=dm.trans cP;refine ae @au ?_;by_cases uD:kb=0
 ·subst uD;rw[if_pos (.inl rfl)];repeat refine gJ @au ?_
  exact⟨E9,⟨tk,rfl⟩,gX⟩
 have ajc:((kb:Int)==0)=false:=by simpa using uD
 refine VC.ag aa (ao @au @ajc ?_);refine ah.rt (nc gX) ?_;rintro _ O4 ⟨rfl,eO⟩;rw[eO];clear eO O4
 by_cases HV:t.length<=o+kb
 ·rw[if_pos (.inr (.inl HV)),decide_eq_true HV];repeat refine gJ @au ?_
  exact⟨E9,⟨tk,rfl⟩,gX⟩
 rw[decide_eq_false HV];refine ae @au ?_;refine ah.rt (p7 [47] gX (by omega)) ?_;rintro _ O4 ⟨rfl,eO⟩;rw[eO];clear eO O4
 cases Wd:dP (t.drop (o+kb)) [47];rotate_left
 ·rw[if_pos (.inr (.inr (.inl rfl)))];repeat refine gJ @au ?_
  exact⟨E9,⟨tk,rfl⟩,gX⟩
 refine ae @au ?_;refine ah.rt (p7 [62] gX (by omega)) ?_;rintro _ O4 ⟨rfl,eO⟩;rw[eO];clear eO O4
 cases h62:dP (t.drop (o+kb)) [62];rotate_left
 ·rw[if_pos (.inr (.inr (.inr rfl)))];repeat refine gJ @au ?_
  exact⟨E9,⟨tk,rfl⟩,gX⟩
 rw[if_neg (by simp[uD,HV])];have dz:=gX.2;simp only[aq]at dz;repeat refine p6 @au @dz ?_
 have Pc:=Au 10 gX ht;have uj:= @gE t (o+kb) 10;generalize jr t (o+kb) 10=NF at*;refine ah.p (Pc) ?_ ?_;rotate_left
 ·rintro m O9 ⟨jd,h9⟩;cases NF with
  | ok y=>exact h9.elim
  | error e=>
    dsimp only at h9;subst h9;refine ae @au ?_;exact⟨br.trans E9 jd,rfl⟩
 rintro m O4 ⟨fq,h9⟩;cases NF with
 | error e=>exact h9.elim
 | ok y9=>
 obtain⟨nm,o2⟩:=y9;dsimp only at h9;obtain⟨rfl,Gx⟩:=h9;obtain⟨a1,a2,a3,a4⟩:=uj rfl;have lV:App O4 O.next 2 tk:=App.bt gV fq (by have:=h.1;omega);have aan:=E9.trans fq;refine ae @au ?_;have Bc:((l.flatMap bh).length)=l.length*2:=aQ fp l;refine VC.bC [0,2,4,5] (fun _:Unit=>[.ptr k 0,.sl l.length (l.flatMap bh) tk,mi (o+kb:Nat),.str nm]) (fun _ O'=>O4.Ge O'/\l.any (·.1==nm)=false) ?_ ?_
 ·refine VC.ag aa (ae @au ?_);refine VC.az ?_;refine VC.bG [40] [0,2,4,5,38,39] (fun j:Nat=>[mi j]) (fun j O'=>O4.Ge O'/\j<=l.length/\l.any (·.1==nm)=(l.drop j).any (·.1==nm)) (fun j=>l.length - j) (0) ?_ ?_
  ·exact⟨VH.Ge.refl _,ahY _,rfl⟩
  rintro j O5 ⟨bH,hj,kE⟩;by_cases Ab:j<l.length
  ·have bw:=bU fp l j Ab;have QH:=ah3 Ab;rw[QH,List.any_cons]at kE;generalize l[j]=y at*;obtain⟨yn,yv⟩:=y;simp only[bh]at bw;refine VC.ag aa (ae @au ?_);refine VC.ag aa (ae @au ?_);refine VC.bB (VC.az ?_);refine VC.ag aa (ao @au @bw ?_);refine VC.al ?_;rintro O6 ⟨fJ,mO,n9⟩;by_cases hy:yn=nm
   ·have e1:(yn==nm)=true:=beq_iff_eq.2 hy;simp only[e1,Bool.true_or]at kE;rw[kE,if_pos rfl];refine VC.ag aa (aJ @au @mO @e1 ?_);refine WC.sound aa (ae @au ?_);refine ah.p (iJ _ _ _) ?_ ?_
    ·rintro m O9 ⟨_,h⟩;exact h.elim
    rintro m O9 ⟨rfl,rfl⟩;refine ae @au ?_;exact⟨aan.trans (br.lR (bH.trans fJ)).any,rfl⟩
   ·have e1:(yn==nm)=false:=by simpa using hy
    simp only[e1,Bool.false_or]at kE;refine VC.ag aa (aJ @au @mO @e1 ?_);refine WC.sound aa (ae @au ?_);refine WC.sound aa (ae @au ?_);exact ax.next (j+1) ⟨bH.trans fJ,Ab,kE⟩
  ·obtain rfl:j=l.length:=by omega
   rw[List.drop_length,List.any_nil]at kE;refine VC.ag aa (ae @au ?_);refine WC.sound aa (ae @au ?_);exact aA.mk () ⟨bH,kE⟩
 rintro⟨⟩ O5 ⟨bH,kE⟩;rw[kE,if_neg (by simp)];have qB:=Gx.ge bH;have jL:=lV.ge bH;have SG:=aan.trans (br.lR bH).any;clear bH Gx gX fl cC gV lV dm cP fq E9 aan dz hrb;have ak2:=jg t o2 a2;refine VC.ag aa (ae @au ?_);refine ah.p (p8 qB ht a2) ?_ ?_;rotate_left
 ·rintro m O9 ⟨_,h⟩;exact h.elim
 rintro m O6 ⟨rk,h9⟩;dsimp only at h9;obtain⟨rfl,nh⟩:=h9;have n_:App O6 O.next 2 tk:=App.bt jL rk (by have:=h.1;omega);have Ma:=SG.trans rk;repeat refine gJ @au ?_
 have hwk:= @ly t (o2+ky t o2) [61];have BB:=s_ (X:=X) [61] nh ht (by decide);generalize iV t (o2+ky t o2) [61]=WF at*;refine ah.p (BB) ?_ ?_;rotate_left
 ·rintro m O9 ⟨jd,h9⟩;cases WF with
  | ok y=>exact h9.elim
  | error e=>
    dsimp only at h9;subst h9;refine ae @au ?_;exact⟨br.trans Ma jd,rfl⟩
 rintro m O7 ⟨CW,h9⟩;cases WF with
 | error e=>exact h9.elim
 | ok y9=>
 obtain⟨y7,o4⟩:=y9;dsimp only at h9;obtain⟨rfl,Jq⟩:=h9;obtain⟨b1,b2,b3⟩:=hwk rfl;have j5:App O7 O.next 2 tk:=App.bt n_ CW (by have:=h.1;omega);have ajd:=Ma.trans CW;have ak3:=jg t o4 b2;repeat refine gJ @au ?_
 refine ah.p (p8 Jq ht b2) ?_ ?_;rotate_left
 ·rintro m O9 ⟨_,h⟩;exact h.elim
 rintro m O8 ⟨qz,h9⟩;dsimp only at h9;obtain⟨rfl,hr8⟩:=h9;have Cx:App O8 O.next 2 tk:=App.bt j5 qz (by have:=h.1;omega);have afn:=ajd.trans qz;repeat refine gJ @au ?_
 have hvk:= @Ay t (o4+ky t o4);have hvv:=aam hr8 ht;generalize tY t (o4+ky t o4)=VF at*;refine ah.p (hvv) ?_ ?_;rotate_left
 ·rintro m O9 ⟨jd,h9⟩;cases VF with
  | ok y=>exact h9.elim
  | error e=>
    dsimp only at h9;subst h9;refine ae @au ?_;exact⟨br.trans afn jd,rfl⟩
 rintro m OA ⟨huA,h9⟩;cases VF with
 | error e=>exact h9.elim
 | ok y9=>
 obtain⟨v,o6⟩:=y9;dsimp only at h9;obtain⟨rfl,hrA⟩:=h9;obtain⟨c1,c2,c3⟩:=hvk rfl;have aao:App OA O.next 2 tk:=App.bt Cx huA (by have:=h.1;omega);have SR:=afn.trans huA;repeat refine gJ @au ?_
 have aje:=bj (tk':=.full) (n:=l.length) (k:=1) (cs:=l.flatMap bh) (ds:=[.str nm,.str v]) aeZ ae7.1.1 aao Bc rfl rfl (by decide) (by decide) (by omega) (by simp only[maxLen];omega);refine VL.app aje ?_;repeat refine gJ @au ?_
 have fu:=cL.after aao;have hne:∀i,i<O.next->Tok.id tk≠some i:=fun i hi e=>by have:=(aao.n8 e).1;omega
 refine ax.next (l++[(nm,v)],o6,.own OA.next 2) ⟨⟨ags SR.next fu.next,fun i hi hk=>(fu.hp i (Km hi SR.next) (hne i hi)).trans (SR.hp i hi hk)⟩,⟨Km hrA.1 fu.next,(fu.hp k hrA.1 (hne k h.1)).trans hrA.2⟩,App.after SR.next,c2,?_,n,?_,rfl⟩ (hl:=?_) (hm:=?_)
 ·dsimp only;rw[Kn,List.length_singleton];omega
 ·dsimp only;omega
 ·dsimp only;rw[alD,Kn];rfl
 ·dsimp only;omega
structure Tk where
 kind:Int
 name:Bs
 attrs:List (Bs×Bs)
 text:Bs
 off:Nat
def yI (x:Tk):List MV:=[mi x.kind,.str x.name,.sl x.attrs.length (x.attrs.flatMap bh) .ar,.str x.text,mi x.off,mi 0,mi 0]
theorem E_ (x:Tk):(yI x).length=7:=rfl
structure UB (B k:Nat) (O O':VH):Prop where
 next:O.next<=O'.next
 hp:∀i,i<B->i≠k->O'.hp i=O.hp i
theorem UB.refl (B k:Nat) (O:VH):UB B k O O:=⟨agw _,fun _ _ _=>rfl⟩
theorem UB.bt {B k:Nat} {O O1 O2:VH} (h:UB B k O O1) (u:br O1 (some k) O2) (hB:B<=O1.next):UB B k O O2:=
 ⟨ags h.next u.next,fun i hi hk=>(u.hp i (Km hi hB) (by intro e;injection e;omega)).trans (h.hp i hi hk)⟩
theorem UB.ge {B k:Nat} {O O1 O2:VH} (h:UB B k O O1) (u:O1.Ge O2) (hB:B<=O1.next):UB B k O O2:=
 ⟨ags h.next u.next,fun i hi hk=>(u.hp i (Km hi hB)).trans (h.hp i hi hk)⟩
theorem UB.set {B k b:Nat} {O O1:VH} {x:cf} (h:UB B k O O1) (hb:B<=b\/b=k):UB B k O (O1.set b x):=
 ⟨h.next,fun i hi hk=>VH.sn (h.hp i hi hk)⟩
theorem UB.trans {B k:Nat} {O O1 O2:VH} (h:UB B k O O1) (u:UB B k O1 O2):UB B k O O2:=⟨ags h.next u.next,fun i hi hk=>(u.hp i hi hk).trans (h.hp i hi hk)⟩
theorem Rd.other {O:VH} {k b off:Nat} {t:Bs} {X:MV} {x:cf} (h:Rd O k t off X) (hb:b≠k):Rd (O.set b x) k t off X:=⟨h.1,(VH.ak _ _ (fun e=>hb e.symm)).trans h.2⟩
def tZ {α β :Type} (f: α -> β):Except (Int×Nat) (α ×Nat)->Except (Int×Nat) (β ×Nat)
 | .error e=>.error e
 | .ok (x,o)=>.ok (f x,o)
def qM (t:Bs) (off:Nat):Except (Int×Nat) (Tk×Nat):=match jr t (off+2) 11 with
 | .error e=>.error e
 | .ok (nm,o2)=>tZ (fun _=>⟨3,nm,[],[],off⟩) (iV t (o2+ky t o2) [62])
def vv (t:Bs) (off:Nat):Except (Int×Nat) (Tk×Nat):=match jr t (off+1) 11 with
 | .error e=>.error e
 | .ok (nm,o2)=>match lG t (t.length+1 - o2) o2 []with
   | .error e=>.error e
   | .ok (l,o3)=>if dP (t.drop o3) [47]then tZ (fun _=>⟨2,nm,l,[],off⟩) (iV t (o3+1) [62])else tZ (fun _=>⟨1,nm,l,[],off⟩) (iV t o3 [62])
def mF (t:Bs) (off:Nat):Except (Int×Nat) (Tk×Nat):=
 if dP (t.drop off) [60,33,45,45]then tZ (fun s=>⟨5,[],[],s,off⟩) (jf t (off+List.length [(60:UInt8),33,45,45]) [45,45,62])
 else if dP (t.drop off) [60,33,91,67,68,65,84,65,91]then tZ (fun s=>⟨4,[],[],s,off⟩) (jf t (off+List.length [(60:UInt8),33,91,67,68,65,84,65,91]) [93,93,62])
 else if off=0/\rz (t.drop off)=true then tZ (fun s=>⟨6,[],[],s,off⟩) (jf t (off+List.length [(60:UInt8),63,120,109,108]) [63,62])
 else if dP (t.drop off) [60,47]then qM t off
 else if dP (t.drop off) [60]then vv t off
 else tZ (fun s=>⟨4,[],[],s,off⟩) (eQ t 60 (t.length+1 - off) off [])
structure TJ (O:VH) (B k n:Nat) (t:Bs) (p:MV) (L:List MV) (o:Nat) (O':VH):Prop where
 ub:UB B k O O'
 rd:Rd O' k t o p
 row:GR O' 153 7 B p n L
 lt:O.next<O'.next
theorem TJ.set {O O':VH} {B k n o:Nat} {t:Bs} {p:MV} {L cs:List MV} {x:cf} (h:TJ O B k n t p L o O') (hb:O'.hp O.next=some (.cells cs)) (hp:gid p≠some O.next) (gu:k<B) (hB:B<=O.next):TJ O B k n t p L o (O'.set O.next x):=
 ⟨h.ub.set (.inl hB),h.rd.other (by omega),h.row.pI br.set hp (fun _ _ _ e=>by rw[hb]at e;cases e),h.lt⟩
theorem TJ.bt {O OX OY:VH} {B k n o o2:Nat} {t:Bs} {p:MV} {L:List MV} (h:TJ O B k n t p L o OX) (u:br OX (some k) OY) (hr:Rd OY k t o2 p) (hp:gid p≠some k) (hB:B<=O.next):TJ O B k n t p L o2 OY:=
 ⟨h.ub.bt u (by have:=h.lt;omega),hr,h.row.pI u hp (fun _ _ _ e=>by rw[h.rd.2]at e;cases e),Km h.lt u.next⟩
theorem TJ.pn {O OX OY:VH} {B k n o:Nat} {t:Bs} {p:MV} {L:List MV} (h:TJ O B k n t p L o OX) (u:br OX (some k) OY) (hB:B<=O.next):UB B k O OY:=h.ub.bt u (by have:=h.lt;omega)
theorem TJ.at {O OX OY:VH} {B k n o:Nat} {t:Bs} {p:MV} {L cs:List MV} (h:TJ O B k n t p L o OX) (u:br OX (some k) OY) (gu:k<B) (hB:B<=O.next) (hb:OX.hp O.next=some (.cells cs)):OY.hp O.next=some (.cells cs):=
 (u.hp _ h.lt (by intro e;injection e;omega)).trans hb
section
variable {P:Program} {n:Sz} {D:List Deferred} {c:Code} {e:Env} {O:VH} {Q:VQ} {md:Md} {d:Option Tmp} {K:Env->VH->Prop} {fv:Option MV} {ms:Option (List MV)} {b k:Nat} {x y:cf}
theorem ah.s1 (h:∀O3,O3=O.set b x->ah P n md Q d O3 K e fv ms):ah P n md Q d (O.set b x) K e fv ms:=h _ rfl
theorem ah.s2 (h:∀O3,O3=(O.set b x).set k y->ah P n md Q d O3 K e fv ms):ah P n md Q d ((O.set b x).set k y) K e fv ms:=h _ rfl
end
theorem vw {t:Bs}:∀(n o:Nat) (l:List (Bs×Bs)) {l':List (Bs×Bs)} {o':Nat},o<=t.length->lG t n o l= .ok (l',o')->o<=o'/\o'<=t.length
 | 0,o,l,l',o',ho,h=>by
   rw[lG]at h;injection h with h;injection h with h1 h2
   omega
 | n+1,o,l,l',o',ho,h=>by
   have vc:=jg t o ho;rw[lG]at h;split at h
   ·injection h with h;injection h with h1 h2
    omega
   split at h
   ·cases h
   rename_i nm o2 h2;have hn:=gE h2;have ct:=jg t o2 (by omega);split at h
   ·cases h
   split at h
   ·cases h
   rename_i y4 o4 h4;have hw:=ly h4;have cU:=jg t o4 (by omega);split at h
   ·cases h
   rename_i v o6 h6;have hv:=Ay h6;have:=vw n o6 _ (by omega) h;omega
set_option maxHeartbeats 800000 in
theorem aap {O:VH} {k off B n:Nat} {t:Bs} {p:MV} {L:List MV} (h:Rd O k t off p) (ht:t.length<=1000000) (ho:off<=t.length) (gu:k<B) (hB:B<=O.next) (cQ:GR O 153 7 B p n L) (hn:n<=1000000):
  VF Tryz.prog 264 [.ptr k 0] O fun r O'=>UB B k O O'/\match r,mF t off with
   | .ret m,.ok (x,o')=>m= .tuple []/\∃p',Rd O' k t o' p'/\GR O' 153 7 B p' (n+1) (L++yI x)
   | .panic m,.error e=>m=At e.1 e.2
   | _,_=>False:=by
 have hk:=h.2;simp only[aq]at hk
 have jC:gid p≠some k:=fun e=>by
  rcases cQ with⟨_,_,hp | hp⟩ | ⟨k2,c,hp,_,_,kK⟩
  ·rw[hp]at e;cases e
  ·rw[hp]at e;cases e
  ·rw[hp]at e;injection e with e;have:=kK.lo;omega
 refine VF.bN 116 [] Tryz.func264 ?_;refine VC.ag aa (ao @au @hk ?_);refine VC.al ?_;rintro O1 ⟨aM,cA,cW⟩;have ny:=h.ge aM;have ahe:=cQ.yz (br.lR aM);have dY:=ny.2;simp only[aq]at dY;have ue:UB B k O O1:=(UB.refl B k O).ge aM hB
 have nO:gid p≠some O.next:=fun e=>by
  rcases cQ with⟨_,_,hp | hp⟩ | ⟨k2,c,hp,_,_,kK⟩
  ·rw[hp]at e;cases e
  ·rw[hp]at e;cases e
  ·rw[hp]at e;injection e with e;have:=kK.hi;omega
 have hJ:∀{O3:VH} {o:Nat},br O1 (some k) O3->Rd O3 k t o p->TJ O B k n t p L o O3:=fun{O3 o} u hr=>
  ⟨ue.bt u (by omega),hr,ahe.pI u jC (fun _ _ _ e=>by rw[ny.2]at e;cases e),by have:=u.next;omega⟩
 refine VC.bC [0,2] (fun x:Tk×Nat=>[.ptr k 0,.ptr O.next 0]) (fun x O'=>TJ O B k n t p L x.2 O'/\mF t off= .ok x/\∃att,O'.hp O.next=some (.cells [mi x.1.kind,.str x.1.name,att,.str x.1.text,mi x.1.off,mi 0,mi 0])/\ar att= .sl x.1.attrs.length (x.1.attrs.flatMap bh) .ar/\dK att=true) ?_ ?_
 ·refine VC.az ?_;unfold mF;refine VC.ag aa (ae @au ?_);refine ah.rt (p7 [60,33,45,45] ny ho) ?_;rintro _ O2 ⟨rfl,eO⟩;rw[eO];clear eO O2
  cases hp:dP (t.drop off) [60,33,45,45];rotate_left
  ·rw[if_pos rfl];have hle:=gO hp;have huv:=E7 (X:=p) [60,33,45,45] [45,45,62] ny ht (by decide) (by rw[RZ]at hle;omega);generalize jf t (off+List.length [60,33,45,45]) [45,45,62]=F at*;repeat refine gJ @au ?_
   refine ah.p (huv) ?_ ?_;rotate_left
   ·rintro m O9 ⟨jd,h9⟩;cases F with
    | ok y=>exact h9.elim
    | error e=>
      dsimp only at h9;subst h9;repeat refine gJ @au ?_
      exact⟨UB.bt ue (br.trans (br.refl _ _) jd) (by omega),rfl⟩
   rintro m O3 ⟨cP,h9⟩;cases F with
   | error e=>exact h9.elim
   | ok y9=>
   obtain⟨s,o2⟩:=y9;dsimp only at h9;obtain⟨rfl,gX⟩:=h9;have cg:=(cP.hp _ (by omega) (by intro e;injection e;omega)).trans cA;repeat refine p6 @au @cg ?_
   exact aA.mk (⟨5,[],[],s,off⟩,o2) ⟨((hJ cP gX).set cg nO gu hB).set (VH.an _ _ _) nO gu hB,rfl,.sl 0 [] .nil,VH.an _ _ _,by simp only[wu];rfl,rfl⟩
  rw[if_neg (by simp)];repeat refine gJ @au ?_
  refine ah.rt (p7 [60,33,91,67,68,65,84,65,91] ny ho) ?_;rintro _ O2 ⟨rfl,eO⟩;rw[eO];clear eO O2
  clear hp;cases hp:dP (t.drop off) [60,33,91,67,68,65,84,65,91];rotate_left
  ·rw[if_pos rfl];have hle:=gO hp;have huv:=E7 (X:=p) [60,33,91,67,68,65,84,65,91] [93,93,62] ny ht (by decide) (by rw[RZ]at hle;omega);generalize jf t (off+List.length [60,33,91,67,68,65,84,65,91]) [93,93,62]=F at*;repeat refine gJ @au ?_
   refine ah.p (huv) ?_ ?_;rotate_left
   ·rintro m O9 ⟨jd,h9⟩;cases F with
    | ok y=>exact h9.elim
    | error e=>
      dsimp only at h9;subst h9;repeat refine gJ @au ?_
      exact⟨UB.bt ue (br.trans (br.refl _ _) jd) (by omega),rfl⟩
   rintro m O3 ⟨cP,h9⟩;cases F with
   | error e=>exact h9.elim
   | ok y9=>
   obtain⟨s,o2⟩:=y9;dsimp only at h9;obtain⟨rfl,gX⟩:=h9;have cg:=(cP.hp _ (by omega) (by intro e;injection e;omega)).trans cA;repeat refine p6 @au @cg ?_
   exact aA.mk (⟨4,[],[],s,off⟩,o2) ⟨((hJ cP gX).set cg nO gu hB).set (VH.an _ _ _) nO gu hB,rfl,.sl 0 [] .nil,VH.an _ _ _,by simp only[wu];rfl,rfl⟩
  rw[if_neg (by simp)];clear hp;by_cases h0:off=0;rotate_left
  ·rw[if_neg (fun h=>h0 h.1)];have h0i:((off:Int)==0)=false:=by simpa using h0
   repeat refine kg3 @au @dY @h0i ?_
   refine ah.rt (p7 [60,47] ny ho) ?_;rintro _ O2 ⟨rfl,eO⟩;rw[eO];clear eO O2
   cases hp:dP (t.drop off) [60,47];rotate_left
   ·rw[if_pos rfl];unfold qM;have hle:=gO hp;simp only[RZ,yP,XN]at hle;repeat refine p6 @au @dY ?_
    have fl:Rd (O1.set k (.cells [.str t,mi (off+2:Nat),p])) k t (off+2) p:=ny.set;have dm:br O1 (some k) (O1.set k (.cells [.str t,mi (off+2:Nat),p])):=br.set;have kQ:((off:Int)+2)=((off+2:Nat):Int):=by omega
    simp only[aq, <-kQ]at fl dm;generalize O1.set k (.cells [.str t,.v (.int .i64 ((off:Int)+2)),p])=O2 at*;repeat refine gJ @au ?_
    have CZ:=Au 11 fl ht;have uj:= @gE t (off+2) 11;generalize jr t (off+2) 11=F at*;refine ah.p (CZ) ?_ ?_;rotate_left
    ·rintro m O9 ⟨jd,h9⟩;cases F with
     | ok y=>exact h9.elim
     | error e=>
       dsimp only at h9;subst h9;repeat refine gJ @au ?_
       exact⟨UB.bt ue (br.trans dm jd) (by omega),rfl⟩
    rintro m O3 ⟨cP,h9⟩;cases F with
    | error e=>exact h9.elim
    | ok y9=>
    obtain⟨s,o2⟩:=y9;dsimp only at h9;obtain⟨rfl,gX⟩:=h9;have t_:=dm.trans cP;obtain⟨a1,a2,a3,a4⟩:=uj rfl;have cg:=(t_.hp _ (by omega) (by intro e;injection e;omega)).trans cA;repeat refine p6 @au @cg ?_
    refine ah.s2 ?_;rintro O4 o8;have vx:TJ O B k n t p L o2 O4:=by rw[o8];exact((hJ t_ gX).set cg nO gu hB).set (VH.an _ _ _) nO gu hB
    have cU:O4.hp O.next=some (.cells [mi 3,.str s,.sl 0 [] .nil,.str [],mi off,mi 0,mi 0]):=by rw[o8];exact VH.an _ _ _
    clear o8;have vc:=jg t o2 a2;refine ah.p (p8 vx.rd ht a2) ?_ ?_;rotate_left
    ·rintro m O9 ⟨_,h⟩;exact h.elim
    rintro m O5 ⟨oa,h9⟩;dsimp only at h9;obtain⟨rfl,qB⟩:=h9;have rA:=vx.bt oa qB jC hB;have cZ:=vx.at oa gu hB cU;repeat refine gJ @au ?_
    have BB:=s_ (X:=p) [62] qB ht (by decide);generalize iV t (o2+ky t o2) [62]=W at*;refine ah.p (BB) ?_ ?_;rotate_left
    ·rintro m O9 ⟨jd,h9⟩;cases W with
     | ok y=>exact h9.elim
     | error e=>
       dsimp only at h9;subst h9;repeat refine gJ @au ?_
       exact⟨TJ.pn rA jd hB,rfl⟩
    rintro m O6 ⟨rk,h9⟩;cases W with
    | error e=>exact h9.elim
    | ok y9=>
    obtain⟨y6,o4⟩:=y9;dsimp only at h9;obtain⟨rfl,nh⟩:=h9;have jb:=rA.at rk gu hB cZ;repeat refine gJ @au ?_
    exact aA.mk (⟨3,s,[],[],off⟩,o4) ⟨rA.bt rk nh jC hB,rfl,.sl 0 [] .nil,jb,by simp only[wu];rfl,rfl⟩
   rw[if_neg (by simp)];clear hp;repeat refine gJ @au ?_
   refine ah.rt (p7 [60] ny ho) ?_;rintro _ O2 ⟨rfl,eO⟩;rw[eO];clear eO O2
   cases hp:dP (t.drop off) [60];rotate_left
   ·rw[if_pos rfl];unfold vv;have hle:=gO hp;simp only[RZ,yP,XN]at hle;repeat refine p6 @au @dY ?_
    have fl:Rd (O1.set k (.cells [.str t,mi (off+1:Nat),p])) k t (off+1) p:=ny.set;have dm:br O1 (some k) (O1.set k (.cells [.str t,mi (off+1:Nat),p])):=br.set;have kQ:((off:Int)+1)=((off+1:Nat):Int):=by omega
    simp only[aq, <-kQ]at fl dm;generalize O1.set k (.cells [.str t,.v (.int .i64 ((off:Int)+1)),p])=O2 at*;repeat refine gJ @au ?_
    have CZ:=Au 11 fl ht;have uj:= @gE t (off+1) 11;generalize jr t (off+1) 11=F at*;refine ah.p (CZ) ?_ ?_;rotate_left
    ·rintro m O9 ⟨jd,h9⟩;cases F with
     | ok y=>exact h9.elim
     | error e=>
       dsimp only at h9;subst h9;repeat refine gJ @au ?_
       exact⟨UB.bt ue (br.trans dm jd) (by omega),rfl⟩
    rintro m O3 ⟨cP,h9⟩;cases F with
    | error e=>exact h9.elim
    | ok y9=>
    obtain⟨s,o2⟩:=y9;dsimp only at h9;obtain⟨rfl,gX⟩:=h9;have t_:=dm.trans cP;obtain⟨a1,a2,a3,a4⟩:=uj rfl;have cg:=(t_.hp _ (by omega) (by intro e;injection e;omega)).trans cA;repeat refine p6 @au @cg ?_
    refine ah.s1 ?_;rintro O4 o8;have vx:TJ O B k n t p L o2 O4:=by rw[o8];exact(hJ t_ gX).set cg nO gu hB
    have cU:O4.hp O.next=some (.cells [mi 0,.str s,.sl 0 [] .nil,.str [],mi off,mi 0,mi 0]):=by rw[o8];exact VH.an _ _ _
    clear o8;have We:=MA vx.rd ht a2;have Wf:= @vw t (t.length+1 - o2) o2 [];generalize lG t (t.length+1 - o2) o2 []=A at*;refine ah.p (We) ?_ ?_;rotate_left
    ·rintro m O9 ⟨jd,h9⟩;cases A with
     | ok y=>exact h9.elim
     | error e=>
       dsimp only at h9;subst h9;repeat refine gJ @au ?_
       exact⟨vx.pn jd hB,rfl⟩
    rintro m O5 ⟨oa,h9⟩;cases A with
    | error e=>exact h9.elim
    | ok y9=>
    obtain⟨l,o3⟩:=y9;dsimp only at h9;obtain⟨⟨tk,rfl⟩,qB⟩:=h9;obtain⟨c1,c2⟩:=Wf a2 rfl;have rA:=vx.bt oa qB jC hB;have cZ:=vx.at oa gu hB cU;simp only[aq]at cZ;repeat refine p6 @au @cZ ?_
    refine ah.s2 ?_;rintro O6 BD;have yJ:TJ O B k n t p L o3 O6:=by rw[BD];exact(rA.set cZ nO gu hB).set (VH.an _ _ _) nO gu hB
    have jb:O6.hp O.next=some (.cells [mi 1,.str s,.sl l.length (l.flatMap bh) tk,.str [],mi off,mi 0,mi 0]):=by rw[BD];exact VH.an _ _ _
    clear BD;have nM:=yJ.rd.2;simp only[aq]at jb nM;refine ah.rt (p7 [47] yJ.rd c2) ?_;rintro _ O7 ⟨rfl,eO⟩;rw[eO];clear eO O7
    cases Wd:dP (t.drop o3) [47]
    ·rw[if_neg (by simp)];repeat refine gJ @au ?_
     have BB:=s_ (X:=p) [62] yJ.rd ht (by decide);generalize iV t o3 [62]=W at*;refine ah.p (BB) ?_ ?_;rotate_left
     ·rintro m O9 ⟨jd,h9⟩;cases W with
      | ok y=>exact h9.elim
      | error e=>
        dsimp only at h9;subst h9;repeat refine gJ @au ?_
        exact⟨TJ.pn yJ jd hB,rfl⟩
     rintro m O7 ⟨CW,h9⟩;cases W with
     | error e=>exact h9.elim
     | ok y9=>
     obtain⟨y7,o4⟩:=y9;dsimp only at h9;obtain⟨rfl,Jq⟩:=h9;have yE:=yJ.at CW gu hB jb;repeat refine gJ @au ?_
     exact aA.mk (⟨1,s,l,[],off⟩,o4) ⟨yJ.bt CW Jq jC hB,rfl,.sl l.length (l.flatMap bh) tk,yE,by simp only[wu,f_],rfl⟩
    ·rw[if_pos rfl];have SI:=gO Wd;simp only[RZ,yP,XN]at SI;have aaq:=fun x:cf=>(VH.ak O6 (k:=O.next) (j:=k) x (by omega)).trans nM
     repeat refine kg4 @au @jb @nM @aaq ?_
     refine ah.s2 ?_;rintro O7 qb;have eN:((o3:Int)+1)=((o3+1:Nat):Int):=by omega
     rw[eN]at qb;have Fa:=yJ.set (x:=.cells [.v (.int .i64 2),.str s,.sl l.length (l.flatMap bh) tk,.str [],.v (.int .i64 off),.v (.int .i64 0),.v (.int .i64 0)]) jb nO gu hB;have Jr:TJ O B k n t p L (o3+1) O7:=by rw[qb];exact Fa.bt br.set (Rd.set Fa.rd) jC hB
     have yE:O7.hp O.next=some (.cells [mi 2,.str s,.sl l.length (l.flatMap bh) tk,.str [],mi off,mi 0,mi 0]):=by rw[qb];exact VH.sn (VH.an _ _ _)
     clear qb Fa;have BB:=s_ (X:=p) [62] Jr.rd ht (by decide);generalize iV t (o3+1) [62]=W at*;refine ah.p (BB) ?_ ?_;rotate_left
     ·rintro m O9 ⟨jd,h9⟩;cases W with
      | ok y=>exact h9.elim
      | error e=>
        dsimp only at h9;subst h9;repeat refine gJ @au ?_
        exact⟨TJ.pn Jr jd hB,rfl⟩
     rintro m O8 ⟨qz,h9⟩;cases W with
     | error e=>exact h9.elim
     | ok y9=>
     obtain⟨y8,o4⟩:=y9;dsimp only at h9;obtain⟨rfl,hr8⟩:=h9;have sS:=Jr.at qz gu hB yE;repeat refine gJ @au ?_
     exact aA.mk (⟨2,s,l,[],off⟩,o4) ⟨Jr.bt qz hr8 jC hB,rfl,.sl l.length (l.flatMap bh) tk,sS,by simp only[wu,f_],rfl⟩
   rw[if_neg (by simp)];clear hp;repeat refine gJ @au ?_
   have ir:=yH (X:=p) 60 ny ht ho;generalize eQ t 60 (t.length+1 - off) off []=F at*;refine ah.p (ir) ?_ ?_;rotate_left
   ·rintro m O9 ⟨jd,h9⟩;cases F with
    | ok y=>exact h9.elim
    | error e=>
      dsimp only at h9;subst h9;repeat refine gJ @au ?_
      exact⟨UB.bt ue (br.trans (br.refl _ _) jd) (by omega),rfl⟩
   rintro m O3 ⟨cP,h9⟩;cases F with
   | error e=>exact h9.elim
   | ok y9=>
   obtain⟨s,o2⟩:=y9;dsimp only at h9;obtain⟨rfl,gX⟩:=h9;have cg:=(cP.hp _ (by omega) (by intro e;injection e;omega)).trans cA;repeat refine p6 @au @cg ?_
   exact aA.mk (⟨4,[],[],s,off⟩,o2) ⟨((hJ cP gX).set cg nO gu hB).set (VH.an _ _ _) nO gu hB,rfl,.sl 0 [] .nil,VH.an _ _ _,by simp only[wu];rfl,rfl⟩
  have h0i:((off:Int)==0)=true:=by simpa using h0
  repeat refine kg3 @au @dY @h0i ?_
  refine ah.rt (V7 ny ht ho) ?_;rintro _ O2 ⟨rfl,eO⟩;rw[eO];clear eO O2
  cases hhd:rz (t.drop off)
  ·rw[if_neg (fun h=>by cases h.2)];repeat refine gJ @au ?_
   refine ah.rt (p7 [60,47] ny ho) ?_;rintro _ O2 ⟨rfl,eO⟩;rw[eO];clear eO O2
   cases hp:dP (t.drop off) [60,47];rotate_left
   ·rw[if_pos rfl];unfold qM;have hle:=gO hp;simp only[RZ,yP,XN]at hle;repeat refine p6 @au @dY ?_
    have fl:Rd (O1.set k (.cells [.str t,mi (off+2:Nat),p])) k t (off+2) p:=ny.set;have dm:br O1 (some k) (O1.set k (.cells [.str t,mi (off+2:Nat),p])):=br.set;have kQ:((off:Int)+2)=((off+2:Nat):Int):=by omega
    simp only[aq, <-kQ]at fl dm;generalize O1.set k (.cells [.str t,.v (.int .i64 ((off:Int)+2)),p])=O2 at*;repeat refine gJ @au ?_
    have CZ:=Au 11 fl ht;have uj:= @gE t (off+2) 11;generalize jr t (off+2) 11=F at*;refine ah.p (CZ) ?_ ?_;rotate_left
    ·rintro m O9 ⟨jd,h9⟩;cases F with
     | ok y=>exact h9.elim
     | error e=>
       dsimp only at h9;subst h9;repeat refine gJ @au ?_
       exact⟨UB.bt ue (br.trans dm jd) (by omega),rfl⟩
    rintro m O3 ⟨cP,h9⟩;cases F with
    | error e=>exact h9.elim
    | ok y9=>
    obtain⟨s,o2⟩:=y9;dsimp only at h9;obtain⟨rfl,gX⟩:=h9;have t_:=dm.trans cP;obtain⟨a1,a2,a3,a4⟩:=uj rfl;have cg:=(t_.hp _ (by omega) (by intro e;injection e;omega)).trans cA;repeat refine p6 @au @cg ?_
    refine ah.s2 ?_;rintro O4 o8;have vx:TJ O B k n t p L o2 O4:=by rw[o8];exact((hJ t_ gX).set cg nO gu hB).set (VH.an _ _ _) nO gu hB
    have cU:O4.hp O.next=some (.cells [mi 3,.str s,.sl 0 [] .nil,.str [],mi off,mi 0,mi 0]):=by rw[o8];exact VH.an _ _ _
    clear o8;have vc:=jg t o2 a2;refine ah.p (p8 vx.rd ht a2) ?_ ?_;rotate_left
    ·rintro m O9 ⟨_,h⟩;exact h.elim
    rintro m O5 ⟨oa,h9⟩;dsimp only at h9;obtain⟨rfl,qB⟩:=h9;have rA:=vx.bt oa qB jC hB;have cZ:=vx.at oa gu hB cU;repeat refine gJ @au ?_
    have BB:=s_ (X:=p) [62] qB ht (by decide);generalize iV t (o2+ky t o2) [62]=W at*;refine ah.p (BB) ?_ ?_;rotate_left
    ·rintro m O9 ⟨jd,h9⟩;cases W with
     | ok y=>exact h9.elim
     | error e=>
       dsimp only at h9;subst h9;repeat refine gJ @au ?_
       exact⟨TJ.pn rA jd hB,rfl⟩
    rintro m O6 ⟨rk,h9⟩;cases W with
    | error e=>exact h9.elim
    | ok y9=>
    obtain⟨y6,o4⟩:=y9;dsimp only at h9;obtain⟨rfl,nh⟩:=h9;have jb:=rA.at rk gu hB cZ;repeat refine gJ @au ?_
    exact aA.mk (⟨3,s,[],[],off⟩,o4) ⟨rA.bt rk nh jC hB,rfl,.sl 0 [] .nil,jb,by simp only[wu];rfl,rfl⟩
   rw[if_neg (by simp)];clear hp;repeat refine gJ @au ?_
   refine ah.rt (p7 [60] ny ho) ?_;rintro _ O2 ⟨rfl,eO⟩;rw[eO];clear eO O2
   cases hp:dP (t.drop off) [60];rotate_left
   ·rw[if_pos rfl];unfold vv;have hle:=gO hp;simp only[RZ,yP,XN]at hle;repeat refine p6 @au @dY ?_
    have fl:Rd (O1.set k (.cells [.str t,mi (off+1:Nat),p])) k t (off+1) p:=ny.set;have dm:br O1 (some k) (O1.set k (.cells [.str t,mi (off+1:Nat),p])):=br.set;have kQ:((off:Int)+1)=((off+1:Nat):Int):=by omega
    simp only[aq, <-kQ]at fl dm;generalize O1.set k (.cells [.str t,.v (.int .i64 ((off:Int)+1)),p])=O2 at*;repeat refine gJ @au ?_
    have CZ:=Au 11 fl ht;have uj:= @gE t (off+1) 11;generalize jr t (off+1) 11=F at*;refine ah.p (CZ) ?_ ?_;rotate_left
    ·rintro m O9 ⟨jd,h9⟩;cases F with
     | ok y=>exact h9.elim
     | error e=>
       dsimp only at h9;subst h9;repeat refine gJ @au ?_
       exact⟨UB.bt ue (br.trans dm jd) (by omega),rfl⟩
    rintro m O3 ⟨cP,h9⟩;cases F with
    | error e=>exact h9.elim
    | ok y9=>
    obtain⟨s,o2⟩:=y9;dsimp only at h9;obtain⟨rfl,gX⟩:=h9;have t_:=dm.trans cP;obtain⟨a1,a2,a3,a4⟩:=uj rfl;have cg:=(t_.hp _ (by omega) (by intro e;injection e;omega)).trans cA;repeat refine p6 @au @cg ?_
    refine ah.s1 ?_;rintro O4 o8;have vx:TJ O B k n t p L o2 O4:=by rw[o8];exact(hJ t_ gX).set cg nO gu hB
    have cU:O4.hp O.next=some (.cells [mi 0,.str s,.sl 0 [] .nil,.str [],mi off,mi 0,mi 0]):=by rw[o8];exact VH.an _ _ _
    clear o8;have We:=MA vx.rd ht a2;have Wf:= @vw t (t.length+1 - o2) o2 [];generalize lG t (t.length+1 - o2) o2 []=A at*;refine ah.p (We) ?_ ?_;rotate_left
    ·rintro m O9 ⟨jd,h9⟩;cases A with
     | ok y=>exact h9.elim
     | error e=>
       dsimp only at h9;subst h9;repeat refine gJ @au ?_
       exact⟨vx.pn jd hB,rfl⟩
    rintro m O5 ⟨oa,h9⟩;cases A with
    | error e=>exact h9.elim
    | ok y9=>
    obtain⟨l,o3⟩:=y9;dsimp only at h9;obtain⟨⟨tk,rfl⟩,qB⟩:=h9;obtain⟨c1,c2⟩:=Wf a2 rfl;have rA:=vx.bt oa qB jC hB;have cZ:=vx.at oa gu hB cU;simp only[aq]at cZ;repeat refine p6 @au @cZ ?_
    refine ah.s2 ?_;rintro O6 BD;have yJ:TJ O B k n t p L o3 O6:=by rw[BD];exact(rA.set cZ nO gu hB).set (VH.an _ _ _) nO gu hB
    have jb:O6.hp O.next=some (.cells [mi 1,.str s,.sl l.length (l.flatMap bh) tk,.str [],mi off,mi 0,mi 0]):=by rw[BD];exact VH.an _ _ _
    clear BD;have nM:=yJ.rd.2;simp only[aq]at jb nM;refine ah.rt (p7 [47] yJ.rd c2) ?_;rintro _ O7 ⟨rfl,eO⟩;rw[eO];clear eO O7
    cases Wd:dP (t.drop o3) [47]
    ·rw[if_neg (by simp)];repeat refine gJ @au ?_
     have BB:=s_ (X:=p) [62] yJ.rd ht (by decide);generalize iV t o3 [62]=W at*;refine ah.p (BB) ?_ ?_;rotate_left
     ·rintro m O9 ⟨jd,h9⟩;cases W with
      | ok y=>exact h9.elim
      | error e=>
        dsimp only at h9;subst h9;repeat refine gJ @au ?_
        exact⟨TJ.pn yJ jd hB,rfl⟩
     rintro m O7 ⟨CW,h9⟩;cases W with
     | error e=>exact h9.elim
     | ok y9=>
     obtain⟨y7,o4⟩:=y9;dsimp only at h9;obtain⟨rfl,Jq⟩:=h9;have yE:=yJ.at CW gu hB jb;repeat refine gJ @au ?_
     exact aA.mk (⟨1,s,l,[],off⟩,o4) ⟨yJ.bt CW Jq jC hB,rfl,.sl l.length (l.flatMap bh) tk,yE,by simp only[wu,f_],rfl⟩
    ·rw[if_pos rfl];have SI:=gO Wd;simp only[RZ,yP,XN]at SI;have aaq:=fun x:cf=>(VH.ak O6 (k:=O.next) (j:=k) x (by omega)).trans nM
     repeat refine kg4 @au @jb @nM @aaq ?_
     refine ah.s2 ?_;rintro O7 qb;have eN:((o3:Int)+1)=((o3+1:Nat):Int):=by omega
     rw[eN]at qb;have Fa:=yJ.set (x:=.cells [.v (.int .i64 2),.str s,.sl l.length (l.flatMap bh) tk,.str [],.v (.int .i64 off),.v (.int .i64 0),.v (.int .i64 0)]) jb nO gu hB;have Jr:TJ O B k n t p L (o3+1) O7:=by rw[qb];exact Fa.bt br.set (Rd.set Fa.rd) jC hB
     have yE:O7.hp O.next=some (.cells [mi 2,.str s,.sl l.length (l.flatMap bh) tk,.str [],mi off,mi 0,mi 0]):=by rw[qb];exact VH.sn (VH.an _ _ _)
     clear qb Fa;have BB:=s_ (X:=p) [62] Jr.rd ht (by decide);generalize iV t (o3+1) [62]=W at*;refine ah.p (BB) ?_ ?_;rotate_left
     ·rintro m O9 ⟨jd,h9⟩;cases W with
      | ok y=>exact h9.elim
      | error e=>
        dsimp only at h9;subst h9;repeat refine gJ @au ?_
        exact⟨TJ.pn Jr jd hB,rfl⟩
     rintro m O8 ⟨qz,h9⟩;cases W with
     | error e=>exact h9.elim
     | ok y9=>
     obtain⟨y8,o4⟩:=y9;dsimp only at h9;obtain⟨rfl,hr8⟩:=h9;have sS:=Jr.at qz gu hB yE;repeat refine gJ @au ?_
     exact aA.mk (⟨2,s,l,[],off⟩,o4) ⟨Jr.bt qz hr8 jC hB,rfl,.sl l.length (l.flatMap bh) tk,sS,by simp only[wu,f_],rfl⟩
   rw[if_neg (by simp)];clear hp;repeat refine gJ @au ?_
   have ir:=yH (X:=p) 60 ny ht ho;generalize eQ t 60 (t.length+1 - off) off []=F at*;refine ah.p (ir) ?_ ?_;rotate_left
   ·rintro m O9 ⟨jd,h9⟩;cases F with
    | ok y=>exact h9.elim
    | error e=>
      dsimp only at h9;subst h9;repeat refine gJ @au ?_
      exact⟨UB.bt ue (br.trans (br.refl _ _) jd) (by omega),rfl⟩
   rintro m O3 ⟨cP,h9⟩;cases F with
   | error e=>exact h9.elim
   | ok y9=>
   obtain⟨s,o2⟩:=y9;dsimp only at h9;obtain⟨rfl,gX⟩:=h9;have cg:=(cP.hp _ (by omega) (by intro e;injection e;omega)).trans cA;repeat refine p6 @au @cg ?_
   exact aA.mk (⟨4,[],[],s,off⟩,o2) ⟨((hJ cP gX).set cg nO gu hB).set (VH.an _ _ _) nO gu hB,rfl,.sl 0 [] .nil,VH.an _ _ _,by simp only[wu];rfl,rfl⟩
  ·rw[if_pos ⟨h0,rfl⟩]
   have hp:dP (t.drop off) [60,63,120,109,108]=true:=by
    unfold rz at hhd;simp only[alH]at hhd;exact hhd.1.1
   repeat refine gJ @au ?_
   have hle:=gO hp;have huv:=E7 (X:=p) [60,63,120,109,108] [63,62] ny ht (by decide) (by rw[RZ]at hle;omega);generalize jf t (off+List.length [60,63,120,109,108]) [63,62]=F at*;repeat refine gJ @au ?_
   refine ah.p (huv) ?_ ?_;rotate_left
   ·rintro m O9 ⟨jd,h9⟩;cases F with
    | ok y=>exact h9.elim
    | error e=>
      dsimp only at h9;subst h9;repeat refine gJ @au ?_
      exact⟨UB.bt ue (br.trans (br.refl _ _) jd) (by omega),rfl⟩
   rintro m O3 ⟨cP,h9⟩;cases F with
   | error e=>exact h9.elim
   | ok y9=>
   obtain⟨s,o2⟩:=y9;dsimp only at h9;obtain⟨rfl,gX⟩:=h9;have cg:=(cP.hp _ (by omega) (by intro e;injection e;omega)).trans cA;repeat refine p6 @au @cg ?_
   exact aA.mk (⟨6,[],[],s,off⟩,o2) ⟨((hJ cP gX).set cg nO gu hB).set (VH.an _ _ _) nO gu hB,rfl,.sl 0 [] .nil,VH.an _ _ _,by simp only[wu];rfl,rfl⟩
 rintro⟨x,o'⟩ O2 ⟨aX,eR,att,ct,bw,il⟩;dsimp only at aX eR ct bw il;rw[eR];have bJ:=aX.rd.2;simp only[aq]at ct bJ;refine VC.II [0,7,8,9,10] (by kernel_rfl) ?_;refine bL.mv 0 ?_;refine bL.bO [(1,.rd),(2,.rd),(3,.rd),(4,.rd),(5,.rd),(6,.one),(7,.one),(8,.one),(9,.one),(10,.one)] ?_;simp only[aj];repeat refine kg3 @au @ct @bJ ?_
 refine VL.wk (EW.top (Wk.sl (pL _))) ?_
 have ri:cS [.v (.int .i64 x.kind),.str x.name,att,.str x.text,.v (.int .i64 x.off),.v (.int .i64 0),.v (.int .i64 0)]=yI x:=by
  simp only[wu,bw,yI,aq]
 rw[ri];have ew:=aX.lt;refine VL.aha aa (by simp) (fun i hi=>by match i,hi with | 7,_=>rfl | 0,hi | 1,hi | 2,hi | 3,hi | 4,hi | 5,hi | 6,hi | 8,hi | 9,hi | 10,hi=>cases hi | _+11,hi=>cases hi) (te:=⟨_,7,88,_⟩) (dx:=.slice 153) (q:=.sl 1 (yI x) .full) (j:=1) (ds:=yI x) aX.row rfl rfl (by rw[Ew];rfl) ae2.1.1 (by rw[Ew];rfl) trivial (by dsimp only;omega) (by simp only[maxLen];omega) (by omega) rfl rfl rfl rfl ?_;intro m O3 xk mQ iy hm;have dz:O3.hp k=some (.cells [.str t,.v (.int .i64 o'),p]):=(mQ.hp k aX.rd.1 (by intro e;exact jC e)).trans bJ
 obtain⟨k2,c2,rfl⟩:∃k2 c2,m= .bq k2 0 (n+1) c2:=by
  rcases hm with⟨k2,c2,h1,_⟩ | ⟨h1,_⟩
  ·exact⟨k2,c2,h1⟩
  ·cases h1
 have ak4:B<=k2:=by
  rcases xk with⟨h1,_⟩ | ⟨k3,c3,h1,_,_,h4⟩
  ·cases h1
  ·injection h1 with h1;rw[h1];exact h4.lo
 have hpB:∀i,i<B->gid p≠some i:=fun i hi e=>by
  rcases cQ with⟨_,_,hp | hp⟩ | ⟨k3,c,hp,_,_,kK⟩
  ·rw[hp]at e;cases e
  ·rw[hp]at e;cases e
  ·rw[hp]at e;injection e with e;have:=kK.lo;omega
 clear hm iy;try refine p6 @au @dz ?_
 refine⟨⟨ags aX.ub.next mQ.next,fun i hi hk=>(VH.ak _ _ hk).trans ((mQ.hp i (by omega) (hpB i hi)).trans (aX.ub.hp i hi hk))⟩,.bq k2 0 (n+1) c2,⟨Km aX.rd.1 mQ.next,VH.an _ _ _⟩,xk.pI br.set (by intro e;injection e;omega) (fun _ _ _ e=>by rw[dz]at e;cases e)⟩
theorem Fb {O:VH} {a b c d:Nat} {K:VH->Prop} (h:K O):gy Tryz.prog 262 [.ptr a 0,.ptr b 0,.ptr c 0,.ptr d 0] none O K:=by
 refine gy.rec (d:=7) Tryz.func262 (ah7 (by decide:7<19) rfl) ?_;show WC _ _ ⟨19,0⟩ _ _ _ _ _;simp only[cx,ah0,Nat.reduceAdd,z6];refine ao @dQ @wi ?_;refine VL.pure (by simp) (fun _=>.inl rfl) rfl rfl (iG.Er (bb:=true) Tryz.underlying20 rfl (.inl ⟨rfl,rfl⟩)) ?_;refine WL.sound aa ?_;refine ao @dQ @wi ?_;exact h
theorem aar {O:VH} {a b c d off:Nat} {e:Int} {t:Bs} {K:VH->Prop} {x y:MV} {z1 z2 z3:MV} (ht:t.length<=1000000) (ho:off<=t.length) (ha:O.hp a=some (.cells [.str t])) (hb:O.hp b=some (.cells [x])) (hc:O.hp c=some (.cells [y])) (hd:O.hp d=some (.cells [z1,z2,z3]))
  (han:a<O.next) (VW:b<O.next) (EL:c<O.next) (F_:d<O.next) (hbc:b≠c) (cO:b≠d) (hcd:c≠d)
  (h:∀O',O.next<=O'.next->(∀i,i<O.next->i≠b->i≠c->i≠d->O'.hp i=O.hp i)->O'.hp b=some (.cells [.sl 0 [] .nil])->O'.hp c=some (.cells [mi e])->O'.hp d=some (.cells [mi off,mi (1+((t.take off).count 10:Nat)),mi ((off:Int) - fN (t.take off) 10 (t.take off).length)])->K O'):gy Tryz.prog 262 [.ptr a 0,.ptr b 0,.ptr c 0,.ptr d 0] (some (At e off)) O K:=by
 refine gy.rec (d:=7) Tryz.func262 (ah7 (by decide:7<19) rfl) ?_;show WC _ _ ⟨19,0⟩ _ _ _ _ _;simp only[cx,ah0,Nat.reduceAdd,z6,At];refine ao @dQ @wi ?_;refine VL.pure (by simp) (fun _=>.inl rfl) rfl rfl (iG.Su (bb:=false) Tryz.underlying20 rfl (.inl ⟨rfl,rfl⟩)) ?_;refine WL.sound aa ?_;refine ao @dQ @wi ?_;refine VL.pure (by simp) (fun _=>.inl rfl) rfl rfl (iG.asT Tryz.underlying385 (fun _ h=>by cases h) rfl) ?_;refine WL.sound aa ?_;refine ao @dQ @wi ?_;refine VC.al ?_;rintro O2 ⟨ay,jc,iq⟩;have iK:=(ay.hp _ han).trans ha;have ct:=(ay.hp _ VW).trans hb;have jB:=(ay.hp _ EL).trans hc;have kf:=(ay.hp _ F_).trans hd;have xj:∀(X:cf) {i:Nat} {y:Option cf},i<O.next->O2.hp i=y->(O2.set O.next X).hp i=y:=fun X {i y} hi h=>VH.sn h
 refine VC.pK [] (O.next) (jc) ?_;intro X;have kR:=xj (.obj X) han iK;have cU:=xj (.obj X) VW ct;have ff:=xj (.obj X) EL jB;have yK:=xj (.obj X) F_ kf;have qc:(O2.set O.next (.obj X)).hp O.next=some (.obj X):=VH.an _ _ _;have gI:(O2.set O.next (.obj X)).next=O.next+1:=iq;have aY:O.Ge (O2.set O.next (.obj X)):=ay.set (agw _) _;generalize hO4:O2.set O.next (.obj X)=O4 at*;refine ab.av 0 ?_;refine ae @dQ ?_;refine ab.sR (m:=.v (.int .i64 e)) 1 ?_ ?_
 ·exact fe @dQ
 simp only[aj];refine ab.av 3 ?_;refine ae @dQ ?_;refine ab.sR (m:=.v (.int .i64 off)) 4 ?_ ?_
 ·exact fe @dQ
 simp only[aj];refine ab.op (i:=2) ?_;refine ao @dQ @kR ?_;refine⟨qc,?_⟩;refine ab.call (i:=5) (afl t off _ ht ho) ?_;rintro _ O3 ⟨rfl,aG⟩;simp only[aj];refine⟨aG.at qc,?_⟩;have gm:=aG.next;have Wg:=aG.at qc;have cg:=aG.at cU;have eN:=aG.at ff;have Az:=aG.at yK;have bH:O.Ge O3:=aY.trans aG;unfold o5;simp only[aq]at h ⊢;refine ab.op (i:=6) ?_;refine ao @dQ @cg ?_;refine⟨Wg,?_⟩;refine ab.op (i:=7) ?_;refine ao @dQ @eN ?_;refine⟨Wg,?_⟩;refine ab.op (i:=8) ?_;refine ao @dQ @Az ?_;refine⟨Wg,?_⟩;refine ab.m4 [] ?_;refine ae @dQ ?_;refine h _ (by rw[VH.eX,VH.eX,VH.eX,VH.eX];exact bH.next) (fun i hi h1 h2 h3=>?_) ?_ ?_ ?_
 ·rw[VH.ak _ _ (by omega),VH.ak _ _ h3,VH.ak _ _ h2,VH.ak _ _ h1];exact bH.hp i hi
 ·rw[VH.ak _ _ (by omega),VH.ak _ _ cO,VH.ak _ _ hbc,VH.an]
 ·rw[VH.ak _ _ (by omega),VH.ak _ _ hcd,VH.an]
 ·rw[VH.ak _ _ (by omega),VH.an]
theorem kg8 {A1 A2 A3 A4 A5 A6 A7 A8 P Q:Prop} (a1:A1) (a2:A2) (a3:A3) (a4:A4) (a5:A5) (a6:A6) (a7:A7) (a8:A8) (q:Q) (h:A1->A2->A3->A4->A5->A6->A7->A8->Q->P:=by intro a1 a2 a3 a4 a5 a6 a7 a8 q;first | (with_reducible refine VC.ag aa ?_;refine P8 a1 a2 a3 a4 a5 a6 a7 a8 q) | (with_reducible refine WC.sound aa ?_;refine P8 a1 a2 a3 a4 a5 a6 a7 a8 q) | (first | with_reducible refine Qv ?_ | with_reducible refine Qw ?_ | with_reducible refine Qx ?_ | with_reducible refine Qy ?_);refine P8 a1 a2 a3 a4 a5 a6 a7 a8 q):P:=h a1 a2 a3 a4 a5 a6 a7 a8 q
def iW (t:Bs):Nat->Nat->List Tk->Except (Int×Nat) (List Tk)
 | 0,_,l=>.ok l
 | n+1,o,l=>if t.length<=o then .ok l else match mF t o with
   | .error e=>.error e
   | .ok (x,o')=>iW t n o' (l++[x])
def ua (t:Bs):Except (Int×Nat) (List Tk):=iW t (t.length+1) 0 []
def me (t:Bs) (o:Nat):Nat:=1+(t.take o).count 10
def Fc (t:Bs) (o:Nat):Int:=(o:Int) - fN (t.take o) 10 (t.take o).length
def uk (t:Bs) (x:Tk):List MV:=[mi x.kind,.str x.name,.sl x.attrs.length (x.attrs.flatMap bh) .ar,.str x.text,mi x.off,mi (me t x.off),mi (Fc t x.off)]
theorem wU {t:Bs} {stop:UInt8}:∀(n o:Nat) (acc:Bs) {e:Int} {p:Nat},eQ t stop n o acc= .error (e,p)->p<=t.length
 | 0,o,acc,e,p,h=>by unfold eQ at h;cases h
 | n+1,o,acc,e,p,h=>by
   unfold eQ at h;cases hg:t[o]? with
   | none=>rw[hg]at h;cases h
   | some c=>
     have Mz:o<t.length:=(TP.1 hg).1;rw[hg]at h;simp only at h;split at h
     ·cases h
     split at h
     ·split at h
      ·injection h with h;injection h with h1 h2;omega
      ·exact wU n _ _ h
     split at h
     ·injection h with h;injection h with h1 h2;omega
     ·exact wU n _ _ h
theorem yL {t:Bs} {o:Nat} {k e:Int} {p:Nat} (h:jr t o k= .error (e,p)):p=o:=by
 unfold jr at h;split at h
 ·injection h with h;injection h with h1 h2;omega
 split at h
 ·injection h with h;injection h with h1 h2;omega
 ·cases h
theorem tc {t:Bs} {o:Nat} {q:Bs} {e:Int} {p:Nat} (h:iV t o q= .error (e,p)):p=o:=by
 unfold iV at h;split at h
 ·injection h with h;injection h with h1 h2;omega
 split at h
 ·cases h
 ·injection h with h;injection h with h1 h2;omega
theorem Wh {t:Bs} {o:Nat} {e:Int} {p:Nat} (ho:o<=t.length) (h:tY t o= .error (e,p)):p<=t.length:=by
 unfold tY at h;split at h
 ·injection h with h;injection h with h1 h2;omega
 rename_i q hq;have Mz:=(TP.1 hq).1;split at h
 ·injection h with h;injection h with h1 h2;omega
 split at h
 ·rename_i e2 h2;injection h with h;subst h
  exact wU _ _ _ h2
 rename_i s2 o2 h2;have:=om _ _ _ (by omega) (by simp) h2;split at h
 ·injection h with h;injection h with h1 h2;omega
 ·cases h
theorem HW {t:Bs}:∀(n o:Nat) (l:List (Bs×Bs)) {e:Int} {p:Nat},o<=t.length->lG t n o l= .error (e,p)->p<=t.length
 | 0,o,l,e,p,ho,h=>by rw[lG]at h;cases h
 | n+1,o,l,e,p,ho,h=>by
   have vc:=jg t o ho;rw[lG]at h;split at h
   ·cases h
   split at h
   ·rename_i e2 h2;injection h with h;subst h
    have:=yL h2;omega
   rename_i nm o2 h2;have hn:=gE h2;have ct:=jg t o2 (by omega);split at h
   ·injection h with h;injection h with h1 h2;omega
   split at h
   ·rename_i e4 h4;injection h with h;subst h
    have:=tc h4;omega
   rename_i y4 o4 h4;have hw:=ly h4;have cU:=jg t o4 (by omega);split at h
   ·rename_i e6 h6;injection h with h;subst h
    exact Wh cU h6
   rename_i v o6 h6;have hv:=Ay h6;exact HW n o6 _ (by omega) h
theorem vy {t:Bs} {o:Nat} {q:Bs} {e:Int} {p:Nat} (ho:o<=t.length) (h:jf t o q= .error (e,p)):p<=t.length:=by
 unfold jf at h;split at h
 ·injection h with h;injection h with h1 h2
  have h3:=nV mw (p_ (t.drop o) q)
  have h4:(p_ (t.drop o) q).length<=t.length - o:=by
   unfold p_;split
   ·rw[ah2,RZ];omega
   ·rw[RZ];exact agw _
  omega
 split at h
 ·injection h with h;injection h with h1 h2;omega
 ·cases h
theorem Wi (s p:Bs) (h:0<=Lib.index s p):Lib.index s p+p.length<=s.length:=by
 induction s with
 | nil=>
   unfold Lib.index at h ⊢;cases p with
   | nil=>simp
   | cons c p=>simp at h
 | cons b l ih=>
   have iy:=Lib.index_ge l p;unfold Lib.index at h ⊢;split
   ·rename_i h1;have:=(List.isPrefixOf_iff_prefix.1 h1).length_le;omega
   ·rename_i h1;rw[if_neg h1]at h;split
    ·rename_i h2;rw[if_pos h2]at h;omega
    ·rename_i h2;have h3:Lib.index l p≠ -1:=by simpa using h2
     have:=ih (by omega);rw[yP];omega
theorem yM {t:Bs} {o:Nat} {q s:Bs} {p:Nat} (ho:o<=t.length) (h:jf t o q= .ok (s,p)):o+q.length<=p/\p<=t.length:=by
 unfold jf at h;split at h
 ·cases h
 split at h
 ·cases h
 ·rename_i h1;injection h with h;injection h with h2 h3
  have:=Wi (t.drop o) q (by omega);rw[RZ]at this;omega
theorem mG {α β :Type} {f: α -> β} {F:Except (Int×Nat) (α ×Nat)} {e:Int×Nat} (h:tZ f F= .error e):F= .error e:=by
 cases F with
 | error e2=>injection h with h;rw[h]
 | ok y=>cases h
theorem ju {α β :Type} {f: α -> β} {F:Except (Int×Nat) (α ×Nat)} {x: β} {o:Nat} (h:tZ f F= .ok (x,o)):∃y,F= .ok (y,o)/\x=f y:=by
 cases F with
 | error e2=>cases h
 | ok y=>obtain⟨y,o2⟩:=y;injection h with h;injection h with h1 h2;exact⟨y,by rw[h2],h1.symm⟩
theorem Wj {t:Bs} {o:Nat} {e:Int} {p:Nat} (ho:o<=t.length) (h:mF t o= .error (e,p)):p<=t.length:=by
 have hp:∀{q:Bs},dP (t.drop o) q=true->o+q.length<=t.length:=fun hq=>by
  have:=gO hq;rw[RZ]at this;omega
 unfold mF at h;split at h
 ·exact vy (hp ‹_›) (mG h)
 split at h
 ·exact vy (hp ‹_›) (mG h)
 split at h
 ·rename_i h1;refine vy (hp (q:=[60,63,120,109,108]) ?_) (mG h);have:=h1.2;unfold rz at this;simp only[alH]at this;exact this.1.1
 split at h
 ·have h0:=hp ‹_›;simp only[yP,XN]at h0;unfold qM at h;split at h
  ·rename_i h2;injection h with h;subst h
   have:=yL h2;omega
  rename_i nm o2 h2;have hn:=gE h2;have ct:=jg t o2 (by omega);have:=tc (mG h);omega
 split at h
 ·have h0:=hp ‹_›;simp only[yP,XN]at h0;unfold vv at h;split at h
  ·rename_i h2;injection h with h;subst h
   have:=yL h2;omega
  rename_i nm o2 h2;have hn:=gE h2;split at h
  ·rename_i e3 h3;injection h with h;subst h
   exact HW _ _ _ (by omega) h3
  rename_i l o3 h3;have ha:=vw _ _ _ (by omega) h3;split at h
  ·have h4:=gO ‹_›;simp only[RZ,yP,XN]at h4;have:=tc (mG h);omega
  ·have:=tc (mG h);omega
 ·exact wU _ _ _ (mG h)
theorem QI {t:Bs} {stop:UInt8} {n o:Nat} {acc s:Bs} {o':Nat} (ho:o<t.length) (ha:acc.length<=o) (hne:t[o]?≠some stop) (h:eQ t stop (n+1) o acc= .ok (s,o')):o<o':=by
 unfold eQ at h;have hg:=ahZ ho;rw[hg]at h hne;generalize t[o]=c at*;simp only at h;split at h
 ·rename_i hc;rw[hc]at hne;exact absurd rfl hne
 split at h
 ·split at h
  ·cases h
  ·rename_i h5;obtain⟨k1,k2,k3⟩:=Aw (by simpa using h5);rw[RZ]at k2;have:=om n _ _ (by omega) (by rw[Kn];omega) h;omega
 split at h
 ·cases h
 ·have:=om n _ _ (by omega) (by rw[Kn];simp only[yP,XN];omega) h;omega
theorem MB {t:Bs} {o:Nat} {x:Tk} {o':Nat} (ho:o<t.length) (h:mF t o= .ok (x,o')):x.off=o/\o<o'/\o'<=t.length:=by
 have hp:∀{q:Bs},dP (t.drop o) q=true->o+q.length<=t.length:=fun hq=>by
  have:=gO hq;rw[RZ]at this;omega
 unfold mF at h;split at h
 ·obtain⟨y,h1,rfl⟩:=ju h;have:=yM (hp ‹_›) h1;simp only[yP,XN]at this;exact⟨rfl,by omega,by omega⟩
 split at h
 ·obtain⟨y,h1,rfl⟩:=ju h;have:=yM (hp ‹_›) h1;simp only[yP,XN]at this;exact⟨rfl,by omega,by omega⟩
 split at h
 ·rename_i h1;obtain⟨y,h2,rfl⟩:=ju h
  have:=yM (hp (q:=[60,63,120,109,108]) (by
   have:=h1.2;unfold rz at this;simp only[alH]at this;exact this.1.1)) h2
  simp only[yP,XN]at this;exact⟨rfl,by omega,by omega⟩
 split at h
 ·have h0:=hp ‹_›;simp only[yP,XN]at h0;unfold qM at h;split at h
  ·cases h
  rename_i nm o2 h2;have hn:=gE h2;have ct:=jg t o2 (by omega);obtain⟨y,h3,rfl⟩:=ju h;have:=ly h3;exact⟨rfl,by omega,by omega⟩
 split at h
 ·have h0:=hp ‹_›;simp only[yP,XN]at h0;unfold vv at h;split at h
  ·cases h
  rename_i nm o2 h2;have hn:=gE h2;split at h
  ·cases h
  rename_i l o3 h3;have ha:=vw _ _ _ (by omega) h3;split at h
  ·obtain⟨y,h4,rfl⟩:=ju h;have:=ly h4;exact⟨rfl,by omega,by omega⟩
  ·obtain⟨y,h4,rfl⟩:=ju h;have:=ly h4;exact⟨rfl,by omega,by omega⟩
 ·rename_i hne;obtain⟨y,h1,rfl⟩:=ju h;have h2:=om _ _ _ (by omega) (by simp) h1;obtain⟨n,hn⟩:∃n,t.length+1 - o=n+1:=⟨t.length - o,by omega⟩
  rw[hn]at h1;refine⟨rfl,QI ho (by simp) (fun e=>hne ?_) h1,h2.2.1⟩;unfold dP;rw[ah3 ho];rw[ahZ ho]at e;injection e with e;rw[e];simp
theorem HX (s:Bs) (c:UInt8):∀n:Nat, -1<=fN s c n/\fN s c n<=n
 | 0=>by unfold fN;omega
 | n+1=>by
   have:=HX s c n;unfold fN;split<;>omega
theorem aas {A D:List MV} {n:Nat} (hA:A.length=n) {vs:List MV} {i:Nat} {v:MV} (h:vs[i]?=some v):(A++(vs++D))[n+i]?=some v:=by
 have hi:=(TP.1 h).1;rw[agx (by omega),List.getElem?_append_left (by omega),hA,agu];exact h
theorem MC {A D:List MV} {n:Nat} (hA:A.length=n) {vs:List MV} {i:Nat} {v:MV} (h:i<vs.length):(A++(vs++D)).set (n+i) v=A++(vs.set i v++D):=by
 rw[ah4 _ _ (by omega),List.set_append_left _ _ (by omega),hA,agu]
theorem ME {t:Bs} {a:Nat} (h:a<t.length):me t (a+1)=me t a+if t[a]=10 then 1 else 0:=by
 unfold me;rw[c6 _ _ h,List.count_append];split
 ·rename_i h1;rw[h1];simp;omega
 ·rename_i h1;rw[List.count_singleton,if_neg (by simpa using h1)];omega
theorem Row.to {O O':VH} {el:TypeId} {sz B k c:Nat} {L L' sp:List MV} (h:Row O el sz B k c L) (u:br O (some k) O') (hc:O'.hp k=some (.cells (L'++sp))) (hl:(L'++sp).length=c*sz):Row O' el sz B k c L':=by
 obtain⟨sp0,h1,h2⟩:=h.cells;obtain⟨j,h3,h4,h5⟩:=h.nG;refine⟨⟨sp,hc,hl⟩,⟨j,h3,Km h4 u.next,(u.hp j h4 ?_).trans h5⟩,h.lo,Km h.hi u.next⟩;intro e;injection e with e;subst e;rw[h1]at h5;cases h5
theorem Row.aat {O:VH} {el:TypeId} {sz B k c q:Nat} {L cs:List MV} {x:cf} (h:Row O el sz B k c L) (hq:q≠k) (hc:O.hp q=some (.cells cs)):Row (O.set q x) el sz B k c L:=
 h.pI br.set hq (fun _ _ e=>by rw[hc]at e;cases e)
theorem vz (t:Bs) (x:Tk):(uk t x).length=7:=rfl
set_option maxHeartbeats 800000 in
theorem ahf (t:Bs) (O:VH) (ht:t.length<=65536):VF Tryz.prog 244 [.str t] O (aE fun m O'=>O.Ge O'/\match ua t with
  | .ok l=>∃p,m= .tuple [p,mi 0,.agg [mi 0,mi 0,mi 0]]/\GR O' 153 7 O.next p l.length (l.flatMap (uk t))
  | .error e=>m= .tuple [.sl 0 [] .nil,mi e.1,o5 t e.2]):=by
 refine VF.EU (lo:=5) (k:=77) (rs:=[.cell 2 155,.cell 3 65,.cell 4 69]) Tryz.func244 (Enters.sN (by kernel_rfl)) ?_;simp only[cx,ah0,Nat.reduceAdd];refine ae @dQ ?_;refine VC.gen ?_;rintro O1 sd;obtain⟨aM,cW,cJ,cA,fW,qd⟩:=QA _ _ _ _ sd;clear sd;refine VC.ag aa (ao @dQ @cJ ?_);try refine gJ @dQ ?_
 refine⟨_,rfl,fun D=>?_⟩;refine VC.ag aa (ao @dQ @cJ ?_);refine VC.bx ?_;rintro O2 ⟨ay,bJ,iq⟩
 replace bJ:O2.hp (O.next+4)=some (.cells [.str t,mi (0:Nat),.sl 0 [] .nil]):=by rw[<-cW];exact bJ
 rw[cW];have iK:=ay.at cJ;have ct:=ay.at cA;have jB:=ay.at fW;have kf:=ay.at qd
 replace iq:O2.next=O.next+5:=by omega
 have gN:=aM.trans ay;clear aM ay cJ cA fW qd cW O1;refine VC.bC [1,2,3,4,5] (fun x:List Tk×MV=>[.ptr O.next 0,.ptr (O.next+1) 0,.ptr (O.next+2) 0,.ptr (O.next+3) 0,.ptr (O.next+4) 0]) (fun x O'=>UB (O.next+5) (O.next+4) O2 O'/\Rd O' (O.next+4) t t.length x.2/\GR O' 153 7 (O.next+5) x.2 x.1.length (x.1.flatMap yI)/\x.1.length<=t.length/\(∀y∈x.1,y.off<t.length)/\x.1.Pairwise (fun a b=>a.off<=b.off)/\ua t= .ok x.1) ?_ ?_
 ·refine VC.az ?_;refine VC.bG [] [1,2,3,4,5] (fun x:List Tk×MV×Nat=>[]) (fun x O'=>UB (O.next+5) (O.next+4) O2 O'/\Rd O' (O.next+4) t x.2.2 x.2.1/\GR O' 153 7 (O.next+5) x.2.1 x.1.length (x.1.flatMap yI)/\x.1.length<=x.2.2/\x.2.2<=t.length/\(∀y∈x.1,y.off<x.2.2)/\x.1.Pairwise (fun a b=>a.off<=b.off)/\∃n,t.length+1 - x.2.2<=n/\ua t=iW t n x.2.2 x.1) (fun x=>t.length - x.2.2) (([],.sl 0 [] .nil,0)) ?_ ?_
  ·exact⟨UB.refl _ _ _,⟨by omega,bJ⟩,.inl ⟨rfl,rfl,.inl rfl⟩,ahY _,ahY _,(fun y hy=>by cases hy),List.Pairwise.nil,_,agw _,rfl⟩
  rintro⟨l,p,o⟩ O3 ⟨AA,hr,cQ,xe,My,kS,rq,n,hn,he⟩;dsimp only at AA hr cQ xe My kS rq hn he;obtain⟨n,rfl⟩:∃i,n=i+1:=⟨n - 1,by omega⟩
  rw[iW]at he;repeat refine p6 @dQ @wd ?_
  refine ah.rt (nc hr) ?_;rintro _ O4 ⟨rfl,eO⟩;rw[eO];clear eO O4
  by_cases h1:t.length<=o
  ·rw[if_pos h1]at he;obtain rfl:o=t.length:=by omega
   rw[decide_eq_true h1];repeat refine p6 @dQ @wd ?_
   exact aA.mk (l,p) ⟨AA,hr,cQ,xe,kS,rq,he⟩
  rw[if_neg h1]at he;rw[decide_eq_false h1];repeat refine p6 @dQ @wd ?_
  have htv:=aap hr (by omega) My (by omega:O.next+4<O.next+5) (by have:=AA.next;omega) cQ (by omega);have eR:= @MB t o;have nw:= @Wj t o;generalize mF t o=F at*;refine ah.p htv ?_ ?_
  ·rintro m O4 ⟨aau,h4⟩;cases F with
   | error e=>exact h4.elim
   | ok y=>
   obtain⟨x,o2⟩:=y;dsimp only at h4 he;obtain⟨rfl,p2,Gx,ahg⟩:=h4;obtain⟨k1,k2,k3⟩:=eR (by omega) rfl;repeat refine p6 @dQ @wd ?_
   refine ax.next (l++[x],p2,o2) ⟨AA.trans aau,Gx,?_,?_,k3,?_,?_,n,?_,he⟩ (hm:=?_)
   ·dsimp only;rw[Kn,alD,List.flatMap_singleton];exact ahg
   ·dsimp only;rw[Kn,List.length_singleton];omega
   ·intro y hy;dsimp only at hy ⊢;rcases ahX.1 hy with hy | hy
    ·have:=kS y hy;omega
    ·rw[agr.1 hy];omega
   ·dsimp only;rw[List.pairwise_append];exact⟨rq,List.pairwise_singleton _ _,fun a ha b hb=>by rw[agr.1 hb];have:=kS a ha;omega⟩
   ·dsimp only;omega
   ·dsimp only;omega
  ·rintro m O4 ⟨aau,h4⟩;cases F with
   | ok y=>exact h4.elim
   | error e=>
   obtain⟨e,off⟩:=e;dsimp only at h4 he;subst h4;have vA:=nw My rfl;have yN:=AA.trans aau;have gI:=yN.next;have kR:=(yN.hp O.next (by omega) (by omega)).trans iK;have cU:=(yN.hp (O.next+1) (by omega) (by omega)).trans ct;have ff:=(yN.hp (O.next+2) (by omega) (by omega)).trans jB;have yK:=(yN.hp (O.next+3) (by omega) (by omega)).trans kf;try refine p6 @dQ @wd ?_
   refine aar (by omega) vA kR cU ff yK (by omega) (by omega) (by omega) (by omega) (by omega) (by omega) (by omega) ?_;intro O5 fS nP cZ fK Js;simp only[aq]at cZ fK Js;refine gQ @dQ @wd @cZ @fK @Js ?_;refine⟨⟨by have:=yN.next;omega,fun i hi=>?_⟩,?_⟩
   ·rw[nP i (by omega) (by omega) (by omega) (by omega),yN.hp i (by omega) (by omega)];exact gN.hp i hi
   ·rw[he];dsimp only;rfl
 rintro⟨l,p⟩ O3 ⟨AA,hr,cQ,rT,kS,rq,he⟩;dsimp only at AA hr cQ rT kS rq he;rw[he];have rB:=(AA.hp O.next (by omega) (by omega)).trans iK;have cg:=(AA.hp (O.next+1) (by omega) (by omega)).trans ct;have eN:=(AA.hp (O.next+2) (by omega) (by omega)).trans jB;have Az:=(AA.hp (O.next+3) (by omega) (by omega)).trans kf;have gm:=AA.next;have eP:∀i,i<O.next->O3.hp i=O.hp i:=fun i hi=>(AA.hp i (by omega) (by omega)).trans (gN.hp i hi)
 have dz:=hr.2;simp only[aq]at dz;rcases cQ with⟨h0,hL,hp⟩ | ⟨k2,c,rfl,zU,oE,kK⟩
 ·obtain rfl:l=[]:=agt h0;have fin:∀{p:MV} {O5:VH},(p= .sl 0 [] .nil\/p= .sl 0 [] .full)->O.next<=O5.next->(∀i,i<O.next->O5.hp i=O.hp i)->(O.Ge O5/\∃p',MV.tuple [p,mi 0,.agg [mi 0,mi 0,mi 0]]= .tuple [p',mi 0,.agg [mi 0,mi 0,mi 0]]/\GR O5 153 7 O.next p' 0 []):=fun hp hn hh=>⟨⟨hn,hh⟩,_,rfl,.inl ⟨rfl,rfl,hp⟩⟩
  have hO:∀{x y z:cf} {i:Nat},i<O.next->((((O3.set (O.next+1) x).set (O.next+2) y).set (O.next+3) z)).hp i=O.hp i:=fun hi=>by
   rw[VH.ak _ _ (by omega),VH.ak _ _ (by omega),VH.ak _ _ (by omega)];exact eP _ hi
  rcases hp with rfl | rfl
  ·refine VC.ag aa (ao @dQ @wd ?_);refine VC.bB ?_;refine VC.ag aa (aJ @dQ @wd @dz ?_);refine VC.az ?_;refine VC.bG [6,7,32] [1,2,3,4,5,31] (fun _:Unit=>[mi 1,mi 0,mi 0]) (fun _ O'=>O'=O3) (fun _=>0) (()) ?_ ?_
   ·exact rfl
   rintro⟨⟩ O4 eO;rw[eO];clear eO O4
   repeat refine kg6 @dQ @wd @dz @cg @eN @Az ?_
   refine Fb ?_;refine ao @dQ @wd ?_;exact fin (by simp) (by rw[VH.eX,VH.eX,VH.eX];omega) (fun i hi=>hO hi)
  ·refine VC.ag aa (ao @dQ @wd ?_);refine VC.bB ?_;refine VC.ag aa (aJ @dQ @wd @dz ?_);refine VC.az ?_;refine VC.bG [6,7,32] [1,2,3,4,5,31] (fun _:Unit=>[mi 1,mi 0,mi 0]) (fun _ O'=>O'=O3) (fun _=>0) (()) ?_ ?_
   ·exact rfl
   rintro⟨⟩ O4 eO;rw[eO];clear eO O4
   repeat refine kg6 @dQ @wd @dz @cg @eN @Az ?_
   refine Fb ?_;refine ao @dQ @wd ?_;exact fin (by simp) (by rw[VH.eX,VH.eX,VH.eX];omega) (fun i hi=>hO hi)
 obtain⟨sp,hsp,Hu⟩:=kK.cells;have kj:=kK.lo;have QJ:=kK.hi;refine VC.ag aa (ao @dQ @wd ?_);refine VC.bB ?_;refine VC.ag aa (aJ @dQ @wd @dz ?_);refine VC.az ?_;refine VC.bG [6,7,32] [1,2,3,4,5,31] (fun x:Nat×Nat=>[mi (me t x.2),mi x.2,mi x.1]) (fun x O'=>br O3 (some k2) O'/\O'.hp k2=some (.cells ((l.take x.1).flatMap (uk t)++(l.drop x.1).flatMap yI++sp))/\x.1<=l.length/\x.2<=t.length/\(∀y∈l.drop x.1,x.2<=y.off)) (fun x=>l.length - x.1) ((0,0)) ?_ ?_
 ·exact⟨br.refl _ _,hsp,ahY _,ahY _,fun _ _=>ahY _⟩
 rintro⟨j,a⟩ O4 ⟨fq,ff,hj,ha,yA⟩;dsimp only at fq ff hj ha yA;have jq:=(fq.hp _ (by omega) (by intro e;injection e;omega)).trans dz;have BE:=(fq.hp _ (by omega) (by intro e;injection e;omega)).trans rB;have hlj:=Nat.min_eq_left hj;by_cases Ab:j<l.length;rotate_left
 ·obtain rfl:j=l.length:=by omega
  rw[List.take_length,List.drop_length,List.flatMap_nil,ah1]at ff;have cU:=(fq.hp _ (by omega) (by intro e;injection e;omega)).trans cg;have afo:=(fq.hp _ (by omega) (by intro e;injection e;omega)).trans eN;have yK:=(fq.hp _ (by omega) (by intro e;injection e;omega)).trans Az
  have ajf:Row O4 153 7 (O.next+5) k2 c (l.flatMap (uk t)):=kK.to fq ff (by
   rw[Kn,aQ (vz t)];rw[Kn,oE]at Hu;exact Hu)
  have gI:=fq.next
  have hO:∀{x y z:cf} {i:Nat},i<O.next->((((O4.set (O.next+1) x).set (O.next+2) y).set (O.next+3) z)).hp i=O.hp i:=fun hi=>by
   rw[VH.ak _ _ (by omega),VH.ak _ _ (by omega),VH.ak _ _ (by omega)];exact(fq.hp _ (by omega) (by intro e;injection e;omega)).trans (eP _ hi)
  repeat refine kg6 @dQ @wd @jq @cU @afo @yK ?_
  refine Fb ?_;refine ao @dQ @wd ?_;refine⟨⟨by rw[VH.eX,VH.eX,VH.eX];omega,fun i hi=>hO hi⟩,_,rfl,.inr ⟨k2,c,rfl,zU,aQ (vz t) _,?_⟩⟩;exact(((ajf.aat (by omega) cU).aat (by omega) (VH.sn afo)).aat (by omega) (VH.sn (VH.sn yK))).wider (by omega)
 have QH:=ah3 Ab;have eR:(l.take (j+1))=l.take j++[l[j]]:=c6 _ _ Ab;have hxo:l[j].off<t.length:=kS _ (List.getElem_mem Ab);have hxa:a<=l[j].off:=yA _ (by rw[QH];exact List.mem_cons_self ..)
 have xf:∀y∈l.drop (j+1),l[j].off<=y.off:=by
  have:=rq.drop (i:=j);rw[QH,List.pairwise_cons]at this;exact this.1
 rw[QH,List.flatMap_cons]at ff;generalize hx:l[j]=x at*;have hA:((l.take j).flatMap (uk t)).length=j*7:=by rw[aQ (vz t),ah2,hlj]
 generalize hAe:(l.take j).flatMap (uk t)=A at*;generalize hEe:(l.drop (j+1)).flatMap yI=E at*;refine VC.ag aa (ao @dQ @wd ?_);try refine p6 @dQ @wd ?_
 refine VC.bB (VC.az ?_);refine VC.ag aa (ao @dQ @wd ?_);refine VC.ag aa (aJ @dQ @wd @jq ?_);rw[XO,XO]at ff;have Wl:(A++(yI x++(E++sp)))[j*7+4]?=some (.v (.int .i64 x.off)):=aas hA (vs:=yI x) rfl
 have hCl:j*7+7<=(A++(yI x++(E++sp))).length:=by
  rw[Kn,Kn,E_,hA];omega
 have hCs:∀(y z:MV),((A++(yI x++(E++sp))).set (j*7+5) y).set (j*7+6) z=A++([mi x.kind,.str x.name,.sl x.attrs.length (x.attrs.flatMap bh) .ar,.str x.text,mi x.off,y,z]++(E++sp)):=fun y z=>by
  rw[MC hA (by rw[E_];decide),MC hA (by rw[List.length_set,E_];decide)];rfl
 generalize A++(yI x++(E++sp))=C at*;refine VC.bB (VC.az ?_);refine VC.bG [6,7] [1,2,3,4,5,9,31,32] (fun b:Nat=>[mi (me t b),mi b]) (fun b O'=>O'=O4/\b<=x.off) (fun b=>x.off - b) (a) ?_ ?_
 ·exact⟨rfl,hxa⟩
 rintro b O5 ⟨eO,hb⟩;rw[eO];clear eO O5
 have ak5:me t b<=1+t.length:=by
  unfold me;have h1:=List.count_le_length (a:=(10:UInt8)) (l:=t.take b);rw[ah2]at h1;omega
 by_cases eI:b<x.off
 ·have MF:b<t.length:=by omega
  have hg:=ahZ MF;have Vy:=ME MF;generalize t[b]=ch at*;generalize me t b=ln at*;by_cases vB:ch=10
  ·rw[if_pos vB]at Vy;have e1:((ch.toNat:Int)==10)=true:=by rw[vB];rfl
   repeat refine kg8 @dQ @wd @ff @Wl @BE @hg @aI @e1 ?_
   exact ax.next (b+1) ⟨rfl,by omega⟩ (hl:=(by rw[Vy];rfl))
  ·rw[if_neg vB]at Vy;have e1:((ch.toNat:Int)==10)=false:=by simpa using fun e:(ch.toNat:Int)=10=>vB (UInt8.toNat_inj.1 (by simpa using(by omega:ch.toNat=10)))
   repeat refine kg8 @dQ @wd @ff @Wl @BE @hg @aI @e1 ?_
   exact ax.next (b+1) ⟨rfl,by omega⟩ (hl:=(by rw[Vy];rfl))
 obtain rfl:b=x.off:=by omega
 generalize Z5:me t x.off=ln at*;repeat refine kg5 @dQ @wd @ff @Wl @BE ?_
 have il:fN (t.take x.off) 10 (t.take x.off).length<=x.off/\ -1<=fN (t.take x.off) 10 (t.take x.off).length:=by
  have h1:=HX (t.take x.off) 10 (t.take x.off).length;rw[ah2,Nat.min_eq_left (by omega)]at h1 ⊢;omega
 have hlen:(t.take x.off).length<=1000000:=by rw[ah2];omega
 refine ah.rt (Bz (t.take x.off) 10 _ hlen) ?_;rintro _ O5 ⟨rfl,eO⟩;rw[eO];clear eO O5
 have ajg:Fc t x.off=(x.off:Int) - fN (t.take x.off) 10 (t.take x.off).length:=rfl;generalize fN (t.take x.off) 10 (t.take x.off).length=lf at*;repeat refine kg3 @dQ @wd @ff ?_
 refine ax.next (j+1,x.off) ⟨fq.trans (br.set.trans br.set),?_,Ab,Nat.le_of_lt hxo,xf⟩ (hl:=(by dsimp only;rw[Z5];rfl));rw[VH.an,eR,alD,List.flatMap_singleton];have hC:=hCs (mi ln) (mi ((x.off:Int) - lf))
 have h7:uk t x=[mi x.kind,.str x.name,.sl x.attrs.length (x.attrs.flatMap bh) .ar,.str x.text,mi x.off,mi ln,mi ((x.off:Int) - lf)]:=by
  unfold uk;rw[Z5,ajg]
 rw[hAe,hEe,h7,XO,XO, <-hC];rfl
set_option linter.defProp false in
def bV:=acv mD<|acv Bp T9
abbrev fb:List MV:=[.v (.bool false),.str [],.str [],.str [],.str [],.str [],.str [],.str [],.sl 0 [] .nil,.sl 0 [] .nil,.sl 0 [] .nil]
theorem aav {O:VH} {a b c:Nat} {K:VH->Prop} (h:K O):gy Tryz.prog 247 [.ptr a 0,.ptr b 0,.ptr c 0] none O K:=by
 refine gy.rec (d:=6) Tryz.func247 (ah7 (by decide:6<17) rfl) ?_;show WC _ _ ⟨17,0⟩ _ _ _ _ _;simp only[cx,ah0,Nat.reduceAdd,z6];refine ao @bV @wi ?_;refine VL.pure (by simp) (fun _=>.inl rfl) rfl rfl (iG.Er (bb:=true) Tryz.underlying20 rfl (.inl ⟨rfl,rfl⟩)) ?_;refine WL.sound aa ?_;refine ao @bV @wi ?_;exact h
theorem jv {O:VH} {a b c:Nat} {e:Int} {s:Bs} {K:VH->Prop} {x0 x1 x2 x3 x4 x5 x6 x7 x8 x9 x10 y z:MV} (ha:O.hp a=some (.cells [x0,x1,x2,x3,x4,x5,x6,x7,x8,x9,x10])) (hb:O.hp b=some (.cells [y])) (hc:O.hp c=some (.cells [z]))
  (han:a<O.next) (VW:b<O.next) (EL:c<O.next) (hab:a≠b) (hac:a≠c) (hbc:b≠c)
  (h:∀O',O.next<=O'.next->(∀i,i<O.next->i≠a->i≠b->i≠c->O'.hp i=O.hp i)->O'.hp a=some (.cells fb)->O'.hp b=some (.cells [mi e])->O'.hp c=some (.cells [.str s])->K O'):gy Tryz.prog 247 [.ptr a 0,.ptr b 0,.ptr c 0] (some (sY e s)) O K:=by
 refine gy.rec (d:=6) Tryz.func247 (ah7 (by decide:6<17) rfl) ?_;show WC _ _ ⟨17,0⟩ _ _ _ _ _;simp only[cx,ah0,Nat.reduceAdd,z6,sY];refine ao @bV @wi ?_;refine VL.pure (by simp) (fun _=>.inl rfl) rfl rfl (iG.Su (bb:=false) Tryz.underlying20 rfl (.inl ⟨rfl,rfl⟩)) ?_;refine WL.sound aa ?_;refine ao @bV @wi ?_;refine VL.pure (by simp) (fun _=>.inl rfl) rfl rfl (iG.asT Tryz.underlying371 (fun _ h=>by cases h) rfl) ?_;refine WL.sound aa ?_;refine ao @bV @wi ?_;refine VC.al ?_;rintro O2 ⟨ay,jc,iq⟩;have xj:∀(X:cf) {i:Nat} {y:Option cf},i<O.next->O.hp i=y->(O2.set O.next X).hp i=y:=fun X {i y} hi h=>VH.sn ((ay.hp _ hi).trans h)
 refine VC.pK [] (O.next) (jc) ?_;intro X;have kR:=xj (.obj X) han ha;have cU:=xj (.obj X) VW hb;have ff:=xj (.obj X) EL hc;have qc:(O2.set O.next (.obj X)).hp O.next=some (.obj X):=VH.an _ _ _;have gI:(O2.set O.next (.obj X)).next=O.next+1:=iq;have aY:O.Ge (O2.set O.next (.obj X)):=ay.set (agw _) _;generalize hO4:O2.set O.next (.obj X)=O4 at*;refine ab.av 0 ?_;refine ae @bV ?_;refine ab.av 1 ?_;refine ae @bV ?_;refine ab.sR (m:=.v (.int .i64 e)) 2 ?_ ?_
 ·exact fe @bV
 simp only[aj];refine ab.av 3 ?_;refine ae @bV ?_;refine ab.sR (m:=.str s) 4 ?_ ?_
 ·exact fe @bV
 simp only[aj];refine ab.op (i:=5) ?_;refine ao @bV @kR ?_;refine⟨qc,?_⟩;refine ab.op (i:=6) ?_;refine ao @bV @cU ?_;refine⟨qc,?_⟩;refine ab.op (i:=7) ?_;refine ao @bV @ff ?_;refine⟨qc,?_⟩;refine ab.m4 [] ?_;refine ae @bV ?_;refine h _ (by show O.next<=O4.next;omega) (fun i hi h1 h2 h3=>?_) ?_ ?_ ?_
 ·rw[VH.ak _ _ (by omega),VH.ak _ _ (by omega),VH.ak _ _ (by omega),VH.ak _ _ (by omega)];exact aY.hp i hi
 ·rw[VH.ak _ _ (by omega),VH.ak _ _ (by omega),VH.ak _ _ (by omega)];exact VH.an _ _ _
 ·rw[VH.ak _ _ (by omega),VH.ak _ _ (by omega)];exact VH.an _ _ _
 ·rw[VH.ak _ _ (by omega)];exact VH.an _ _ _
structure vC (O:VH) (E:List MV) (O':VH) (cs:List MV):Prop where
 o9:∀i,i<O.next->O'.hp i=O.hp i
 lt:O.next+5<=O'.next
 d:O'.hp (O.next+1)=some (.cells cs)
 e:O'.hp (O.next+2)=some (.cells [mi 0])
 w:O'.hp (O.next+3)=some (.cells [.str []])
 x:O'.hp (O.next+4)=some (.cells E)
theorem vC.ge {O O' O2:VH} {E cs:List MV} (h:vC O E O' cs) (k:O'.Ge O2):vC O E O2 cs:=by
 have h1:=h.lt;exact⟨fun i hi=>(k.hp i (by omega)).trans (h.o9 i hi),ags h1 k.next,k.at h.d,k.at h.e,k.at h.w,k.at h.x⟩
theorem vC.st {O O':VH} {E cs cs':List MV} (h:vC O E O' cs):vC O E (O'.set (O.next+1) (.cells cs')) cs':=
 ⟨fun i hi=>VH.sn (h.o9 i hi),h.lt,VH.an _ _ _,VH.sn h.e,VH.sn h.w,VH.sn h.x⟩
theorem vC.other {O O' O2:VH} {E cs:List MV} {k:Nat} {x:cf} (h:vC O E O' cs) (hk:O.next+5<=k) (bJ:k<O'.next) (g:(O'.set k x).Ge O2):vC O E O2 cs:=by
 have h1:=h.lt;have e1:(O'.set k x).next=O'.next:=rfl;have h4:=g.next
 have key:∀j,j<O.next+5->O2.hp j=O'.hp j:=fun j hj=>by
  rw[g.hp j (by omega),VH.ak _ _ (by omega)]
 exact⟨fun i hi=>(key i (by omega)).trans (h.o9 i hi),by omega,(key _ (by omega)).trans h.d,(key _ (by omega)).trans h.e,(key _ (by omega)).trans h.w,(key _ (by omega)).trans h.x⟩
theorem vC.ajh {O O':VH} {E cs:List MV} {k:Nat} {x:cf} (h:vC O E O' cs) (hk:O.next+5<=k):vC O E (O'.set k x) cs:=
 ⟨fun i hi=>VH.sn (h.o9 i hi),h.lt,VH.sn h.d,VH.sn h.e,VH.sn h.w,VH.sn h.x⟩
theorem VC.rs {P:Program} {n:Sz} {D:List Deferred} {c:Code} {e:Env} {Q:VQ} {O O':VH} {E cs cs':List MV} (h:vC O E O' cs) (k:∀O3,vC O E O3 cs'->VC P n D c e O3 Q):VC P n D c e (O'.set (O.next+1) (.cells cs')) Q:=k _ h.st
def vD (x:Nd) (w:Bs):Except (Int×Bs) (List Dp):=
 match cw x w r3 with
 | .error e=>.error e
 | .ok ((_,_),false)=>.ok []
 | .ok ((y,wy),true)=>lQ y wy true
def vE (x:Nd) (w:Bs):Except (Int×Bs) (Bool×Gv):=
 match cw x w vd with
 | .error e=>.error e
 | .ok ((_,_),false)=>.ok (false,⟨[],[],[]⟩)
 | .ok ((y,wy),true)=>match bS y wy dW true e_ with
   | .error e=>.error e
   | .ok g=>match bS y wy dM true e_ with
     | .error e=>.error e
     | .ok a=>match bS y wy fA true va with
       | .error e=>.error e
       | .ok v=>.ok (true,⟨g,a,v⟩)
def oL (x:Nd):Except (Int×Bs) Pm:=
 bif x.nm==gH then match vE x x.nm with
  | .error e=>.error e
  | .ok p=>match bS x x.nm dW false dI with
  | .error e=>.error e
  | .ok g=>match bS x x.nm dM true dI with
  | .error e=>.error e
  | .ok a=>match bS x x.nm fA false dI with
  | .error e=>.error e
  | .ok v=>match bS x x.nm xH false dI with
  | .error e=>.error e
  | .ok k=>match lu x x.nm with
  | .error e=>.error e
  | .ok P=>match vD x x.nm with
  | .error e=>.error e
  | .ok M=>match lQ x x.nm false with
  | .error e=>.error e
  | .ok D=>.ok ⟨p.1,p.2,g,a,v,k,P,M,D⟩
 else .error (20,x.nm)
def AB:Pm:=⟨false,⟨[],[],[]⟩,[],[],[],[],[],[],[]⟩
theorem adN (x:Nd) (O:VH) (hx:kJ x<=1000000):VF Tryz.prog 225 [.agg (dh x)] O (aE fun m O'=>O.Ge O'/\match oL x with
  | .ok p=>m= .tuple [.agg (gC p),mi 0,.str []]
  | .error e=>m= .tuple [.agg (gC AB),mi e.1,.str e.2]):=by
 refine VF.fg ?_;obtain⟨zn,za,cV,zt⟩:=x;have rq:=pY (.mk zn za cV zt) zn;have hfp:=r7 (.mk zn za cV zt) zn vd;have hfm:=r7 (.mk zn za cV zt) zn r3;have hpr:=aaa (.mk zn za cV zt) zn;have As:=SO (.mk zn za cV zt) zn false;obtain⟨PE,hP⟩:∃PE,oL (.mk zn za cV zt)=PE:=⟨_,rfl⟩
 rw[hP];unfold oL at hP;simp only[kI,dh,agv,acu]at rq hfp hfm hpr As ⊢;simp only[Nd.nm]at hP;refine VF.deferred (lo:=5) (k:=64) (rs:=[.cell 2 106,.cell 3 65,.cell 4 9]) Tryz.func225 (Enters.sN (by kernel_rfl)) ?_;simp only[cx,ah0,Nat.reduceAdd];refine ae @bV ?_;refine⟨_,rfl,fun D=>?_⟩;refine VC.gen ?_;rintro O1 sd;obtain⟨aM,cW,cJ,cA,fW,qd⟩:=QA _ _ _ _ sd;clear sd;refine VC.ag aa (aJ @bV @wd @cJ ?_);refine VC.al ?_;rintro O2 ⟨ay,bJ,iq⟩;rw[cW]at bJ ⊢
 have hd:vC O [.str zn,.sl za.length (za.flatMap bh) .ar,.sl cV.length (aC cV) .ar,.str zt,.str zn] O2 fb:=
  ⟨fun i hi=>ay.at (aM.hp i hi),by omega,ay.at cA,ay.at fW,ay.at qd,bJ⟩
 have sG:=ay.at cJ;clear aM ay cW iq bJ cJ cA fW qd O1;cases hb:zn==gH
 ·rw[hb,cond_false]at hP;rw[<-hP];have mM:(zn != [112,114,111,106,101,99,116])=true:=by rw[bne];simp only[gH]at hb;rw[hb];rfl
  simp only[gH]at hb;refine VC.ag aa (gQ @bV @wd @sG @hb @mM ?_);refine ah.p (lU _ _ _) ?_ ?_
  ·rintro m O9 ⟨_,h⟩;exact h.elim
  rintro m O9 ⟨rfl,rfl⟩;refine ao @bV @wd ?_;refine jv hd.d hd.e hd.w (by have:=hd.lt;omega) (by have:=hd.lt;omega) (by have:=hd.lt;omega) (by omega) (by omega) (by omega) ?_;intro O5 fS nP fz cZ fK;simp only[aq]at cZ;refine gQ @bV @wd @fz @cZ @fK ?_;exact⟨⟨by have:=hd.lt;omega,fun i hi=>by rw[nP i (by have:=hd.lt;omega) (by omega) (by omega) (by omega)];exact hd.o9 i hi⟩,rfl⟩
 rw[hb,cond_true]at hP;have hw:zn.length<=10000:=by rw[eq_of_beq hb];decide
 have hw3:zn.length<=3000:=by rw[eq_of_beq hb];decide
 have mM:(zn != [112,114,111,106,101,99,116])=false:=by rw[bne];simp only[gH]at hb;rw[hb];rfl
 simp only[gH]at hb;refine VC.ag aa (gQ @bV @wd @sG @hb @mM ?_);clear hb mM sG;refine VC.bC [1,2,3,4,5] (fun _:Bool×Gv=>[.ptr O.next 0,.ptr (O.next+1) 0,.ptr (O.next+2) 0,.ptr (O.next+3) 0,.ptr (O.next+4) 0]) (fun p O'=>vC O [.str zn,.sl za.length (za.flatMap bh) .ar,.sl cV.length (aC cV) .ar,.str zt,.str zn] O' [mb p.1,.str p.2.g,.str p.2.a,.str p.2.v,.str [],.str [],.str [],.str [],.sl 0 [] .nil,.sl 0 [] .nil,.sl 0 [] .nil]/\vE (.mk zn za cV zt) zn= .ok p) ?_ ?_
 ·have vf:= @r9 (.mk zn za cV zt) zn vd;have vg:∀e,cw (.mk zn za cV zt) zn vd= .error e->vE (.mk zn za cV zt) zn= .error e:=fun e h=>by unfold vE;rw[h]
  have nN:∀y wy,cw (.mk zn za cV zt) zn vd= .ok ((y,wy),false)->vE (.mk zn za cV zt) zn= .ok (false,⟨[],[],[]⟩):=fun y wy h=>by unfold vE;rw[h]
  have iU:∀y wy,cw (.mk zn za cV zt) zn vd= .ok ((y,wy),true)->vE (.mk zn za cV zt) zn=match bS y wy dW true e_ with
   | .error e=>.error e
   | .ok g=>match bS y wy dM true e_ with
     | .error e=>.error e
     | .ok a=>match bS y wy fA true va with
       | .error e=>.error e
       | .ok v=>.ok (true,⟨g,a,v⟩):=fun y wy h=>by unfold vE;rw[h]
  generalize vE (.mk zn za cV zt) zn=QE at*;generalize cw (.mk zn za cV zt) zn vd=F at*;have eI:=hd.x;refine VC.ag aa (aJ @bV @wd @eI ?_);refine ah.p (hfp O2 (by have:=j8 (.mk zn za cV zt);omega) (by omega) (by decide)) ?_ ?_;rotate_left
  ·rintro m O9 ⟨bo,h⟩;have bI:=hd.ge bo;cases F with
   | ok y=>exact h.elim
   | error e=>
     dsimp only at h;rw[vg e rfl]at hP;dsimp only at hP;rw[h, <-hP];refine ao @bV @wd ?_;refine jv bI.d bI.e bI.w (by have:=bI.lt;omega) (by have:=bI.lt;omega) (by have:=bI.lt;omega) (by omega) (by omega) (by omega) ?_;intro O5 fS nP fz cZ fK;simp only[aq]at cZ;refine gQ @bV @wd @fz @cZ @fK ?_;exact⟨⟨by have:=bI.lt;omega,fun i hi=>by rw[nP i (by have:=bI.lt;omega) (by omega) (by omega) (by omega)];exact bI.o9 i hi⟩,rfl⟩
  rintro m O3 ⟨aG,h⟩;cases F with
  | error e=>exact h.elim
  | ok y=>
  obtain⟨⟨y,wy⟩,b⟩:=y;dsimp only at h;subst h;obtain⟨Z9,vh⟩:=vf rfl;have oJ:wy.length<=10000:=by rw[vh];simp only[Kn,yP,XN];omega
  have hyX:kJ y<=1000000:=by omega
  clear vf vh vg
  replace iU:=fun h:b=true=>by subst h;exact iU y wy rfl
  replace nN:b=false->QE= .ok (false,⟨[],[],[]⟩):=fun h=>by subst h;exact nN y wy rfl
  have qA:=fun O'=>pY y wy dW true e_ 83 [] O' hyX oJ (by decide) (by kernel_rfl) (fun s kx _ hs=>sV s kx (by simp only[maxLen];omega))
  have Ar:=fun O'=>pY y wy dM true e_ 83 [] O' hyX oJ (by decide) (by kernel_rfl) (fun s kx _ hs=>sV s kx (by simp only[maxLen];omega))
  have oM:=fun O'=>pY y wy fA true va 84 [] O' hyX oJ (by decide) (by kernel_rfl) (fun s kx _ hs=>Qd s kx (by simp only[maxLen];omega))
  generalize bS y wy dW true e_=W1 at*;generalize bS y wy dM true e_=W2 at*;generalize bS y wy fA true va=W3 at*;obtain⟨yn,ya,yk,yt⟩:=y;simp only[kI,dh,agv,acu]at qA Ar oM ⊢;have cg:=hd.ge aG;have lW:=cg.lt;refine ao @bV @wd ?_;refine VC.al ?_;rintro O4 ⟨aY,jq,gI⟩;have cU:=cg.ge aY;clear hd cg aG aY eI;cases b
  ·rw[nN rfl]at hP ⊢;refine WC.sound aa (ao @bV @wd ?_);exact aA.mk (false,⟨[],[],[]⟩) ⟨cU,rfl⟩
  replace iU:=iU rfl
  clear nN;have cO:=cU.d;refine VC.ag aa (ao @bV @wd ?_);refine WC.sound aa (aJ @bV @wd @cO ?_);have hbs:=cU.st (cs':=[.v (.bool true),.str [],.str [],.str [],.str [],.str [],.str [],.str [],.sl 0 [] .nil,.sl 0 [] .nil,.sl 0 [] .nil]);have Gs:=(VH.ak O4 (.cells [.v (.bool true),.str [],.str [],.str [],.str [],.str [],.str [],.str [],.sl 0 [] .nil,.sl 0 [] .nil,.sl 0 [] .nil]) (by omega:O3.next≠O.next+1)).trans jq;have fS:(O4.set (O.next+1) (.cells [.v (.bool true),.str [],.str [],.str [],.str [],.str [],.str [],.str [],.sl 0 [] .nil,.sl 0 [] .nil,.sl 0 [] .nil])).next=O4.next:=rfl;clear cO cU jq;generalize O4.set (O.next+1) (.cells [.v (.bool true),.str [],.str [],.str [],.str [],.str [],.str [],.str [],.sl 0 [] .nil,.sl 0 [] .nil,.sl 0 [] .nil])=O5 at*;refine VC.pK [7,8] (O3.next) (Gs) ?_;intro X;refine ab.sR (m:=.agg [.str yn,.sl ya.length (ya.flatMap bh) .ar,.sl yk.length (aC yk) .ar,.str yt,.str wy]) 0 ?_ ?_
  ·exact fe @bV
  simp only[aj];refine ab.sR (m:=.agg [.str yn,.sl ya.length (ya.flatMap bh) .ar,.sl yk.length (aC yk) .ar,.str yt,.str wy]) 2 ?_ ?_
  ·exact fe @bV
  simp only[aj];refine ab.sR (m:=.agg [.str yn,.sl ya.length (ya.flatMap bh) .ar,.sl yk.length (aC yk) .ar,.str yt,.str wy]) 4 ?_ ?_
  ·exact fe @bV
  simp only[aj];have Gu:=fun(O9:VH) (g:(O5.set O3.next (.obj X)).Ge O9)=>hbs.other (k:=O3.next) (x:=.obj X) (by omega) (by omega) g
  have fu:∀O9,(O5.set O3.next (.obj X)).Ge O9->O9.hp O3.next=some (.obj X):=fun O9 g=>(g.hp _ (by show O3.next<O5.next;omega)).trans (VH.an _ _ _)
  generalize O5.set O3.next (.obj X)=O6 at*;have hG:=VH.Ge.refl O6;refine ab.p5 (i:=1) (qA O6) ?_ ?_;rotate_left
  ·rintro m O9 ⟨bo,h⟩;cases W1 with
   | ok s=>exact h.elim
   | error e=>
     dsimp only at h iU;rw[iU]at hP;dsimp only at hP;rw[h, <-hP];have bI:=Gu _ (hG.trans bo);refine ao @bV @wd ?_;refine jv bI.d bI.e bI.w (by have:=bI.lt;omega) (by have:=bI.lt;omega) (by have:=bI.lt;omega) (by omega) (by omega) (by omega) ?_;intro O5 fS nP fz cZ fK;simp only[aq]at cZ;refine gQ @bV @wd @fz @cZ @fK ?_;exact⟨⟨by have:=bI.lt;omega,fun i hi=>by rw[nP i (by have:=bI.lt;omega) (by omega) (by omega) (by omega)];exact bI.o9 i hi⟩,rfl⟩
  rintro m O7 ⟨bo,h⟩;cases W1 with
  | error e=>exact h.elim
  | ok sg=>
  dsimp only at h iU;subst h;simp only[aj]
  replace hG:=hG.trans bo
  clear bo;refine⟨fu _ hG,?_⟩;refine ab.p5 (i:=3) (Ar O7) ?_ ?_;rotate_left
  ·rintro m O9 ⟨bo,h⟩;cases W2 with
   | ok s=>exact h.elim
   | error e=>
     dsimp only at h iU;rw[iU]at hP;dsimp only at hP;rw[h, <-hP];have bI:=Gu _ (hG.trans bo);refine ao @bV @wd ?_;refine jv bI.d bI.e bI.w (by have:=bI.lt;omega) (by have:=bI.lt;omega) (by have:=bI.lt;omega) (by omega) (by omega) (by omega) ?_;intro O5 fS nP fz cZ fK;simp only[aq]at cZ;refine gQ @bV @wd @fz @cZ @fK ?_;exact⟨⟨by have:=bI.lt;omega,fun i hi=>by rw[nP i (by have:=bI.lt;omega) (by omega) (by omega) (by omega)];exact bI.o9 i hi⟩,rfl⟩
  rintro m O8 ⟨bo,h⟩;cases W2 with
  | error e=>exact h.elim
  | ok sa=>
  dsimp only at h iU;subst h;simp only[aj]
  replace hG:=hG.trans bo
  clear bo;refine⟨fu _ hG,?_⟩;refine ab.p5 (i:=5) (oM O8) ?_ ?_;rotate_left
  ·rintro m O9 ⟨bo,h⟩;cases W3 with
   | ok s=>exact h.elim
   | error e=>
     dsimp only at h iU;rw[iU]at hP;dsimp only at hP;rw[h, <-hP];have bI:=Gu _ (hG.trans bo);refine ao @bV @wd ?_;refine jv bI.d bI.e bI.w (by have:=bI.lt;omega) (by have:=bI.lt;omega) (by have:=bI.lt;omega) (by omega) (by omega) (by omega) ?_;intro O5 fS nP fz cZ fK;simp only[aq]at cZ;refine gQ @bV @wd @fz @cZ @fK ?_;exact⟨⟨by have:=bI.lt;omega,fun i hi=>by rw[nP i (by have:=bI.lt;omega) (by omega) (by omega) (by omega)];exact bI.o9 i hi⟩,rfl⟩
  rintro m OF ⟨bo,h⟩;cases W3 with
  | error e=>exact h.elim
  | ok sv=>
  dsimp only at h iU;subst h;simp only[aj]
  replace hG:=hG.trans bo
  clear bo;refine⟨fu _ hG,?_⟩;refine ab.av 6 ?_;refine ae @bV ?_;refine ab.m4 [(7,.av),(8,.one)] ?_;have bI:=(Gu _ hG).ajh (k:=O3.next) (x:=.cells [.str yn,.sl ya.length (ya.flatMap bh) .ar,.sl yk.length (aC yk) .ar,.str yt,.str wy]) (by omega);have cO:=(Gu _ hG).d;have afp:=bI.st (cs':=[mb true,.str sg,.str sa,.str sv,.str [],.str [],.str [],.str [],.sl 0 [] .nil,.sl 0 [] .nil,.sl 0 [] .nil]);simp only[a_]at afp;refine aJ @bV @wd @cO ?_;exact aA.mk (true,⟨sg,sa,sv⟩) ⟨afp,iU⟩
 rintro p O3 ⟨hd,hQ⟩;rw[hQ]at hP;dsimp only at hP;clear hQ hfp;have eI:=hd.x;have cO:=hd.d;refine VC.ag aa (aJ @bV @wd @eI ?_);refine ah.p (rq dW false dI 251 [] _ hx hw (by decide) (by kernel_rfl) (fun s O' _ _=>s9 s O')) ?_ ?_;rotate_left
 ·rintro m O9 ⟨bo,h⟩;have bI:=hd.ge bo;cases hF:bS (.mk zn za cV zt) zn dW false dI with
  | ok s=>rw[hF]at h;exact h.elim
  | error e=>
    rw[hF]at h hP;dsimp only at h hP;rw[h, <-hP];refine ao @bV @wd ?_;refine jv bI.d bI.e bI.w (by have:=bI.lt;omega) (by have:=bI.lt;omega) (by have:=bI.lt;omega) (by omega) (by omega) (by omega) ?_;intro O5 fS nP fz cZ fK;simp only[aq]at cZ;refine gQ @bV @wd @fz @cZ @fK ?_;exact⟨⟨by have:=bI.lt;omega,fun i hi=>by rw[nP i (by have:=bI.lt;omega) (by omega) (by omega) (by omega)];exact bI.o9 i hi⟩,rfl⟩
 rintro m O4 ⟨bo,h⟩;cases QD:bS (.mk zn za cV zt) zn dW false dI with
 | error e=>rw[QD]at h;exact h.elim
 | ok s1=>
 rw[QD]at h hP;dsimp only at h hP;subst h;have hb:=hd.ge bo;clear bo hd;have cO:=hb.d;refine aJ @bV @wd @cO ?_;refine VC.rs hb ?_;clear eI cO hb;intro _ hd;have eI:=hd.x;have cO:=hd.d;refine VC.ag aa (aJ @bV @wd @eI ?_);refine ah.p (rq dM true dI 251 [] _ hx hw (by decide) (by kernel_rfl) (fun s O' _ _=>s9 s O')) ?_ ?_;rotate_left
 ·rintro m O9 ⟨bo,h⟩;have bI:=hd.ge bo;cases hF:bS (.mk zn za cV zt) zn dM true dI with
  | ok s=>rw[hF]at h;exact h.elim
  | error e=>
    rw[hF]at h hP;dsimp only at h hP;rw[h, <-hP];refine ao @bV @wd ?_;refine jv bI.d bI.e bI.w (by have:=bI.lt;omega) (by have:=bI.lt;omega) (by have:=bI.lt;omega) (by omega) (by omega) (by omega) ?_;intro O5 fS nP fz cZ fK;simp only[aq]at cZ;refine gQ @bV @wd @fz @cZ @fK ?_;exact⟨⟨by have:=bI.lt;omega,fun i hi=>by rw[nP i (by have:=bI.lt;omega) (by omega) (by omega) (by omega)];exact bI.o9 i hi⟩,rfl⟩
 rintro m O5 ⟨bo,h⟩;cases Jo:bS (.mk zn za cV zt) zn dM true dI with
 | error e=>rw[Jo]at h;exact h.elim
 | ok s2=>
 rw[Jo]at h hP;dsimp only at h hP;subst h;have hb:=hd.ge bo;clear bo hd;have cO:=hb.d;refine aJ @bV @wd @cO ?_;refine VC.rs hb ?_;clear eI cO hb;intro _ hd;have eI:=hd.x;have cO:=hd.d;refine VC.ag aa (aJ @bV @wd @eI ?_);refine ah.p (rq fA false dI 251 [] _ hx hw (by decide) (by kernel_rfl) (fun s O' _ _=>s9 s O')) ?_ ?_;rotate_left
 ·rintro m O9 ⟨bo,h⟩;have bI:=hd.ge bo;cases hF:bS (.mk zn za cV zt) zn fA false dI with
  | ok s=>rw[hF]at h;exact h.elim
  | error e=>
    rw[hF]at h hP;dsimp only at h hP;rw[h, <-hP];refine ao @bV @wd ?_;refine jv bI.d bI.e bI.w (by have:=bI.lt;omega) (by have:=bI.lt;omega) (by have:=bI.lt;omega) (by omega) (by omega) (by omega) ?_;intro O5 fS nP fz cZ fK;simp only[aq]at cZ;refine gQ @bV @wd @fz @cZ @fK ?_;exact⟨⟨by have:=bI.lt;omega,fun i hi=>by rw[nP i (by have:=bI.lt;omega) (by omega) (by omega) (by omega)];exact bI.o9 i hi⟩,rfl⟩
 rintro m O6 ⟨bo,h⟩;cases QF:bS (.mk zn za cV zt) zn fA false dI with
 | error e=>rw[QF]at h;exact h.elim
 | ok s3=>
 rw[QF]at h hP;dsimp only at h hP;subst h;have hb:=hd.ge bo;clear bo hd;have cO:=hb.d;refine aJ @bV @wd @cO ?_;refine VC.rs hb ?_;clear eI cO hb;intro _ hd;have eI:=hd.x;have cO:=hd.d;refine VC.ag aa (aJ @bV @wd @eI ?_);refine ah.p (rq xH false dI 251 [] _ hx hw (by decide) (by kernel_rfl) (fun s O' _ _=>s9 s O')) ?_ ?_;rotate_left
 ·rintro m O9 ⟨bo,h⟩;have bI:=hd.ge bo;cases hF:bS (.mk zn za cV zt) zn xH false dI with
  | ok s=>rw[hF]at h;exact h.elim
  | error e=>
    rw[hF]at h hP;dsimp only at h hP;rw[h, <-hP];refine ao @bV @wd ?_;refine jv bI.d bI.e bI.w (by have:=bI.lt;omega) (by have:=bI.lt;omega) (by have:=bI.lt;omega) (by omega) (by omega) (by omega) ?_;intro O5 fS nP fz cZ fK;simp only[aq]at cZ;refine gQ @bV @wd @fz @cZ @fK ?_;exact⟨⟨by have:=bI.lt;omega,fun i hi=>by rw[nP i (by have:=bI.lt;omega) (by omega) (by omega) (by omega)];exact bI.o9 i hi⟩,rfl⟩
 rintro m O7 ⟨bo,h⟩;cases hF4:bS (.mk zn za cV zt) zn xH false dI with
 | error e=>rw[hF4]at h;exact h.elim
 | ok s4=>
 rw[hF4]at h hP;dsimp only at h hP;subst h;have hb:=hd.ge bo;clear bo hd;have cO:=hb.d;refine aJ @bV @wd @cO ?_;refine VC.rs hb ?_;clear eI cO hb;intro _ hd;have eI:=hd.x;have cO:=hd.d;refine VC.ag aa (aJ @bV @wd @eI ?_);refine ah.p (hpr _ hx hw) ?_ ?_;rotate_left
 ·rintro m O9 ⟨bo,h⟩;have bI:=hd.ge bo;cases hF:lu (.mk zn za cV zt) zn with
  | ok s=>rw[hF]at h;exact h.elim
  | error e=>
    rw[hF]at h hP;dsimp only at h hP;rw[h, <-hP];refine ao @bV @wd ?_;refine jv bI.d bI.e bI.w (by have:=bI.lt;omega) (by have:=bI.lt;omega) (by have:=bI.lt;omega) (by omega) (by omega) (by omega) ?_;intro O5 fS nP fz cZ fK;simp only[aq]at cZ;refine gQ @bV @wd @fz @cZ @fK ?_;exact⟨⟨by have:=bI.lt;omega,fun i hi=>by rw[nP i (by have:=bI.lt;omega) (by omega) (by omega) (by omega)];exact bI.o9 i hi⟩,rfl⟩
 rintro m O8 ⟨bo,h⟩;cases hFP:lu (.mk zn za cV zt) zn with
 | error e=>rw[hFP]at h;exact h.elim
 | ok P=>
 rw[hFP]at h hP;dsimp only at h hP;have hb:=hd.ge bo;clear bo hd;have cO:=hb.d;obtain⟨tP,rfl⟩:=h;refine aJ @bV @wd @cO ?_;refine VC.rs hb ?_;clear eI cO hb;intro O9 hd;refine VC.bC [1,2,3,4,5] (fun _:List Dp×Tok=>[.ptr O.next 0,.ptr (O.next+1) 0,.ptr (O.next+2) 0,.ptr (O.next+3) 0,.ptr (O.next+4) 0]) (fun x O'=>vC O [.str zn,.sl za.length (za.flatMap bh) .ar,.sl cV.length (aC cV) .ar,.str zt,.str zn] O' [mb p.1,.str p.2.g,.str p.2.a,.str p.2.v,.str s1,.str s2,.str s3,.str s4,.sl P.length (P.flatMap bh) tP,.sl x.1.length (x.1.flatMap aS) x.2,.sl 0 [] .nil]/\vD (.mk zn za cV zt) zn= .ok x.1) ?_ ?_
 ·have vf:= @r9 (.mk zn za cV zt) zn r3;have vg:∀e,cw (.mk zn za cV zt) zn r3= .error e->vD (.mk zn za cV zt) zn= .error e:=fun e h=>by unfold vD;rw[h]
  have nN:∀y wy,cw (.mk zn za cV zt) zn r3= .ok ((y,wy),false)->vD (.mk zn za cV zt) zn= .ok []:=fun y wy h=>by unfold vD;rw[h]
  have iU:∀y wy,cw (.mk zn za cV zt) zn r3= .ok ((y,wy),true)->vD (.mk zn za cV zt) zn=lQ y wy true:=fun y wy h=>by unfold vD;rw[h]
  generalize vD (.mk zn za cV zt) zn=QE at*;generalize cw (.mk zn za cV zt) zn r3=F at*;have eI:=hd.x;have cO:=hd.d;refine VC.ag aa (aJ @bV @wd @eI ?_);refine ah.p (hfm _ (by have:=j8 (.mk zn za cV zt);omega) (by omega) (by decide)) ?_ ?_;rotate_left
  ·rintro m O9 ⟨bo,h⟩;have bI:=hd.ge bo;cases F with
   | ok y=>exact h.elim
   | error e=>
     dsimp only at h;rw[vg e rfl]at hP;dsimp only at hP;rw[h, <-hP];refine ao @bV @wd ?_;refine jv bI.d bI.e bI.w (by have:=bI.lt;omega) (by have:=bI.lt;omega) (by have:=bI.lt;omega) (by omega) (by omega) (by omega) ?_;intro O5 fS nP fz cZ fK;simp only[aq]at cZ;refine gQ @bV @wd @fz @cZ @fK ?_;exact⟨⟨by have:=bI.lt;omega,fun i hi=>by rw[nP i (by have:=bI.lt;omega) (by omega) (by omega) (by omega)];exact bI.o9 i hi⟩,rfl⟩
  rintro m O3 ⟨aG,h⟩;cases F with
  | error e=>exact h.elim
  | ok y=>
  obtain⟨⟨y,wy⟩,b⟩:=y;dsimp only at h;subst h;obtain⟨Z9,vh⟩:=vf rfl;have oJ:wy.length<=4000:=by rw[vh];simp only[Kn,yP,XN];omega
  have hyX:kJ y<=1000000:=by omega
  clear vf vh vg
  replace iU:=fun h:b=true=>by subst h;exact iU y wy rfl
  replace nN:b=false->QE= .ok []:=fun h=>by subst h;exact nN y wy rfl
  have qA:=fun O'=>SO y wy true O' hyX oJ
  generalize lQ y wy true=W1 at*;obtain⟨yn,ya,yk,yt⟩:=y;simp only[kI,dh,agv,acu]at qA ⊢;have cg:=hd.ge aG;have lW:=cg.lt;refine ao @bV @wd ?_;refine VC.al ?_;rintro O4 ⟨aY,jq,gI⟩;have cU:=cg.ge aY;clear hd cg aG aY eI;cases b
  ·rw[nN rfl]at hP ⊢;refine WC.sound aa (ao @bV @wd ?_);exact aA.mk ([],.nil) ⟨cU,rfl⟩
  replace iU:=iU rfl
  clear nN;subst iU;refine VC.ag aa (ao @bV @wd ?_);refine WC.sound aa (aJ @bV @wd @jq ?_);refine ah.p (qA O4) ?_ ?_;rotate_left
  ·rintro m O9 ⟨bo,h⟩;have bI:=cU.ge bo;cases QE with
   | ok s=>exact h.elim
   | error e=>
     dsimp only at h hP;rw[h, <-hP];refine ao @bV @wd ?_;refine jv bI.d bI.e bI.w (by have:=bI.lt;omega) (by have:=bI.lt;omega) (by have:=bI.lt;omega) (by omega) (by omega) (by omega) ?_;intro O5 fS nP fz cZ fK;simp only[aq]at cZ;refine gQ @bV @wd @fz @cZ @fK ?_;exact⟨⟨by have:=bI.lt;omega,fun i hi=>by rw[nP i (by have:=bI.lt;omega) (by omega) (by omega) (by omega)];exact bI.o9 i hi⟩,rfl⟩
  rintro m O5 ⟨bH,h⟩;cases QE with
  | error e=>exact h.elim
  | ok M=>
  dsimp only at h;obtain⟨tM,rfl⟩:=h;have cZ:=cU.ge bH;have cO:=cZ.d;have hbs:=cZ.st (cs':=[mb p.1,.str p.2.g,.str p.2.a,.str p.2.v,.str s1,.str s2,.str s3,.str s4,.sl P.length (P.flatMap bh) tP,.sl M.length (M.flatMap aS) tM,.sl 0 [] .nil]);simp only[a_]at hbs cO;refine aJ @bV @wd @cO ?_;exact aA.mk (M,tM) ⟨hbs,rfl⟩
 rintro⟨M,tM⟩ OA ⟨hd,hM⟩;rw[hM]at hP;dsimp only at hP hd;have eI:=hd.x;refine VC.ag aa (aJ @bV @wd @eI ?_);refine ah.p (As _ hx (by omega)) ?_ ?_;rotate_left
 ·rintro m O9 ⟨bo,h⟩;have bI:=hd.ge bo;cases hF:lQ (.mk zn za cV zt) zn false with
  | ok s=>rw[hF]at h;exact h.elim
  | error e=>
    rw[hF]at h hP;dsimp only at h hP;rw[h, <-hP];refine ao @bV @wd ?_;refine jv bI.d bI.e bI.w (by have:=bI.lt;omega) (by have:=bI.lt;omega) (by have:=bI.lt;omega) (by omega) (by omega) (by omega) ?_;intro O5 fS nP fz cZ fK;simp only[aq]at cZ;refine gQ @bV @wd @fz @cZ @fK ?_;exact⟨⟨by have:=bI.lt;omega,fun i hi=>by rw[nP i (by have:=bI.lt;omega) (by omega) (by omega) (by omega)];exact bI.o9 i hi⟩,rfl⟩
 rintro m OB ⟨bo,h⟩;cases afq:lQ (.mk zn za cV zt) zn false with
 | error e=>rw[afq]at h;exact h.elim
 | ok DD=>
 rw[afq]at h hP;dsimp only at h hP;have hb:=hd.ge bo;clear bo hd;have cO:=hb.d;obtain⟨tD,rfl⟩:=h;simp only[a_]at cO;refine aJ @bV @wd @cO ?_;rw[<-hP];refine VC.rs hb ?_;clear eI cO hb;intro O9 hd;have cO:=hd.d;have hbe:=hd.e;have hbw:=hd.w;have hl9:=hd.lt;simp only[aq]at hbe;refine VC.ag aa (gQ @bV @wd @cO @hbe @hbw ?_);refine WC.sound aa (ao @bV @wd ?_);refine aav ?_;refine gQ @bV @wd @cO @hbe @hbw ?_;refine⟨⟨by show O.next<=O9.next;omega,fun i hi=>?_⟩,?_⟩
 ·rw[VH.ak _ _ (by omega),VH.ak _ _ (by omega),VH.ak _ _ (by omega)];exact hd.o9 i hi
 ·simp only[gC,wu,f_,lg,a_]
section
variable {α :Type} {c: α -> α ->Int} {a b d e l m n:List α}
def eqv (c: α -> α ->Int) (x y: α):Bool:=decide (c x y=0)
def St (c: α -> α ->Int) (l m:List α):Prop:=∀x,l.filter (eqv c x)=m.filter (eqv c x)
end
section
variable {P:Program} {n:Sz} {D:List Deferred} {e:Env} {O:VH}
theorem qe {d:Option Tmp} {t t' ty el:TypeId} {x:Operand} {ps:String} {af:Array Edge} {g:Option (Nat×Bool)} {k:Nat} {cs:List MV} {tk:Tok} (hu:P.underlying t=some (.slice el)) (hx:ev e x=some (.sl k cs tk)):
  fV P n D (.mk d (.binOp .eql t x (.const (.slice none 0 0)) t') ty ps af g) e O fun m O'=>O'=O/\∃b,m= .v (.bool b)/\(b=true->k=0/\cs=[]):=by
 intro G a w hw hf;have h1:=hf.ev hx;have hc:a.eval (.const (.slice none 0 0))= .slice none 0 0:=rfl
 have key:∀(A:Option Addr) (l c:Nat),a.eval x= .slice A l c->(A=none->k=0/\cs=[])->∃m O' u w' H,(O'=O/\∃b,m= .v (.bool b)/\(b=true->k=0/\cs=[]))/\(execOp a.eval (.mk d (.binOp .eql t x (.const (.slice none 0 0)) t') ty ps af g)).run P w= .ok (.value u) w'/\Gh.Le G H/\WR H O' w'/\VR H m u:=fun A l c ha hA=>by
  refine⟨.v (.bool A.isNone),O,.bool A.isNone,w,G,⟨rfl,_,rfl,fun h=>hA (by cases A<;>first | rfl | cases h)⟩,?_,Gh.Le.refl G,hw,.v rfl⟩;have PR:(eqGuard .eql t x (.const (.slice none 0 0)) (.slice A l c) (.slice none 0 0)).run P w= .ok () w:=by simp[eqGuard]
  simp only[execOp,ha,hc,Sem.run_bind,PR,Result.andThen_ok,run_eql_slice_nil w t el A l c hu];rfl
 generalize hv:a.eval x=v at h1;cases h1 with
 | slnil=>exact key none 0 0 hv fun _=>⟨rfl,rfl⟩
 | nX h=>exact key _ _ _ hv fun _=>⟨rfl,rfl⟩
 | jV=>exact key none 0 0 hv fun _=>⟨rfl,rfl⟩
 | sl h1 h2 h3 h4 h5 h6=>exact key _ _ _ hv fun h=>by cases h
end
theorem nQ {tab:bY} {op:BinOp} {t:TypeId} {n:Nat} {cs:List MV} {tk:Tok} {y:MV}:c5 tab op t (.sl n cs tk) y=none:=rfl
theorem Wm (x:Gv):(bW x).length=3:=rfl
theorem Wn (L:List Gv):cS (L.flatMap bW)=L.flatMap bW:=kP (fun x=>by simp only[bW,wu]) L
theorem VF.Wo {P:Program} {f:FuncId} {Uj:List MV} {O:VH} {Φ Ψ :MV->VH->Prop} (h:VF P f Uj O (aE Φ)) (hw:∀m O', Φ m O'->∃m',Wk m m'/\ Ψ m' O'):VF P f Uj O (aE Ψ):=fun G w vs qY hv=>by
 refine(h G w vs qY hv).mono ?_;rintro x w' ⟨r,O',H,h1,h2,h3,h4⟩;cases r with
 | ret m=>cases x with
   | returned v=>
     obtain⟨m',k1,k2⟩:=hw m O' h4;exact⟨.ret m',O',H,h1,h2,k1 H v h3,k2⟩
   | _=>exact h3.elim
 | panic m=>exact h4.elim
set_option linter.defProp false in
def j6:=acv bV<|acv xF Bp
theorem BF (L:List (Bs×Bs)) (tk:Tok) (O:VH) (hn:L.length<=100000):VF Tryz.prog 114 [.sl L.length (L.flatMap bh) tk] O (aE fun m O'=>∃t,m= .sl L.length (L.flatMap bh) t/\App O' O.next 2 t/\O.Ge O'):=by
 have dL:=aQ fp L;refine VF.dy 8 [.tmp 2] Tryz.func114 ?_;refine ao @j6 @nQ ?_;refine VL.pH (qe Tryz.underlying104 rfl) ?_;rintro _ O1 ⟨eO,b,rfl,hb⟩;rw[eO];clear eO O1
 refine WL.sound aa ?_;cases b
 ·refine ae @j6 ?_;by_cases h0:L.length=0
  ·have hL:L=[]:=agt h0;subst hL;refine VL.app (m:=.sl 0 [] .full) (O':=O) (by simp[iw,Ac,Cq.1.1]) ?_ (ht:=aa) (hx:=rfl) (hy:=rfl);refine ae @j6 ?_;exact⟨.full,rfl,trivial,VH.Ge.refl _⟩
  ·have il:(L.flatMap bh).all dK=true:=by
    rw[ah5,ah6];intro p _;rfl
   have kT:=bj (tk:=.full) (tk':=tk) (B:=O.next) (n:=0) (k:=L.length) (cs:=[]) (ds:=L.flatMap bh) Ac Cq.1.1 (O:=O) trivial rfl dL il (by decide) h0 (by omega) (by simp[maxLen];omega);rw[ah0,acu]at kT;refine VL.lC kT (by rw[rV,f_]) ?_;refine ae @j6 ?_;exact⟨_,rfl,App.after (agw _),cL.CU (tk:=.full) (sz:=2) trivial (cL.after (sz:=2) (B:=0) trivial)⟩
 ·obtain⟨h0,h1⟩:=hb rfl;rw[h0,h1];refine ae @j6 ?_;exact⟨.nil,rfl,trivial,VH.Ge.refl _⟩
theorem Fe (L:List (Bs×Bs)) (tk:Tok) (O:VH) (hn:L.length<=100000):VF Tryz.prog 114 [.sl L.length (L.flatMap bh) tk] O (aE fun m O'=>m= .sl L.length (L.flatMap bh) .ar/\O.Ge O'):=
 VF.Wo (BF L tk O hn) fun m O' ⟨t,h1,h2,h3⟩=>⟨_,h1▸Wk.tok,rfl,h3⟩
theorem Wp (L:List (Dp)) (tk:Tok) (O:VH) (hn:L.length<=100000):VF Tryz.prog 115 [.sl L.length (L.flatMap aS) tk] O (aE fun m O'=>∃t,m= .sl L.length (L.flatMap aS) t/\App O' O.next 8 t/\O.Ge O'):=by
 have dL:=aQ gB L;refine VF.dy 8 [.tmp 2] Tryz.func115 ?_;refine ao @j6 @nQ ?_;refine VL.pH (qe Tryz.underlying103 rfl) ?_;rintro _ O1 ⟨eO,b,rfl,hb⟩;rw[eO];clear eO O1
 refine WL.sound aa ?_;cases b
 ·refine ae @j6 ?_;by_cases h0:L.length=0
  ·have hL:L=[]:=agt h0;subst hL;refine VL.app (m:=.sl 0 [] .full) (O':=O) (by simp[iw,u_,Bo.1.1]) ?_ (ht:=aa) (hx:=rfl) (hy:=rfl);refine ae @j6 ?_;exact⟨.full,rfl,trivial,VH.Ge.refl _⟩
  ·have il:(L.flatMap aS).all dK=true:=by
    rw[ah5,ah6];intro p _;rfl
   have kT:=bj (tk:=.full) (tk':=tk) (B:=O.next) (n:=0) (k:=L.length) (cs:=[]) (ds:=L.flatMap aS) u_ Bo.1.1 (O:=O) trivial rfl dL il (by decide) h0 (by omega) (by simp[maxLen];omega);rw[ah0,acu]at kT;refine VL.lC kT (by rw[rV,lg]) ?_;refine ae @j6 ?_;exact⟨_,rfl,App.after (agw _),cL.CU (tk:=.full) (sz:=8) trivial (cL.after (sz:=8) (B:=0) trivial)⟩
 ·obtain⟨h0,h1⟩:=hb rfl;rw[h0,h1];refine ae @j6 ?_;exact⟨.nil,rfl,trivial,VH.Ge.refl _⟩
theorem QK (L:List (Dp)) (tk:Tok) (O:VH) (hn:L.length<=100000):VF Tryz.prog 115 [.sl L.length (L.flatMap aS) tk] O (aE fun m O'=>m= .sl L.length (L.flatMap aS) .ar/\O.Ge O'):=
 VF.Wo (Wp L tk O hn) fun m O' ⟨t,h1,h2,h3⟩=>⟨_,h1▸Wk.tok,rfl,h3⟩
theorem Wq (L:List (fR)) (tk:Tok) (O:VH) (hn:L.length<=100000):VF Tryz.prog 117 [.sl L.length (L.flatMap bZ) tk] O (aE fun m O'=>∃t,m= .sl L.length (L.flatMap bZ) t/\App O' O.next 2 t/\O.Ge O'):=by
 have dL:=aQ m6 L;refine VF.dy 8 [.tmp 2] Tryz.func117 ?_;refine ao @j6 @nQ ?_;refine VL.pH (qe Tryz.underlying61 rfl) ?_;rintro _ O1 ⟨eO,b,rfl,hb⟩;rw[eO];clear eO O1
 refine WL.sound aa ?_;cases b
 ·refine ae @j6 ?_;by_cases h0:L.length=0
  ·have hL:L=[]:=agt h0;subst hL;refine VL.app (m:=.sl 0 [] .full) (O':=O) (by simp[iw,Ev,Cp.1.1]) ?_ (ht:=aa) (hx:=rfl) (hy:=rfl);refine ae @j6 ?_;exact⟨.full,rfl,trivial,VH.Ge.refl _⟩
  ·have il:(L.flatMap bZ).all dK=true:=by
    rw[ah5,ah6];intro p _;rfl
   have kT:=bj (tk:=.full) (tk':=tk) (B:=O.next) (n:=0) (k:=L.length) (cs:=[]) (ds:=L.flatMap bZ) Ev Cp.1.1 (O:=O) trivial rfl dL il (by decide) h0 (by omega) (by simp[maxLen];omega);rw[ah0,acu]at kT;refine VL.lC kT (by rw[rV,m7]) ?_;refine ae @j6 ?_;exact⟨_,rfl,App.after (agw _),cL.CU (tk:=.full) (sz:=2) trivial (cL.after (sz:=2) (B:=0) trivial)⟩
 ·obtain⟨h0,h1⟩:=hb rfl;rw[h0,h1];refine ae @j6 ?_;exact⟨.nil,rfl,trivial,VH.Ge.refl _⟩
theorem td (L:List (fR)) (tk:Tok) (O:VH) (hn:L.length<=100000):VF Tryz.prog 117 [.sl L.length (L.flatMap bZ) tk] O (aE fun m O'=>m= .sl L.length (L.flatMap bZ) .ar/\O.Ge O'):=
 VF.Wo (Wq L tk O hn) fun m O' ⟨t,h1,h2,h3⟩=>⟨_,h1▸Wk.tok,rfl,h3⟩
theorem wV (L:List (Gv)) (tk:Tok) (O:VH) (hn:L.length<=100000):VF Tryz.prog 122 [.sl L.length (L.flatMap bW) tk] O (aE fun m O'=>∃t,m= .sl L.length (L.flatMap bW) t/\App O' O.next 3 t/\O.Ge O'):=by
 have dL:=aQ Wm L;refine VF.dy 8 [.tmp 2] Tryz.func122 ?_;refine ao @j6 @nQ ?_;refine VL.pH (qe Tryz.underlying222 rfl) ?_;rintro _ O1 ⟨eO,b,rfl,hb⟩;rw[eO];clear eO O1
 refine WL.sound aa ?_;cases b
 ·refine ae @j6 ?_;by_cases h0:L.length=0
  ·have hL:L=[]:=agt h0;subst hL;refine VL.app (m:=.sl 0 [] .full) (O':=O) (by simp[iw,xF,Bp.1.1]) ?_ (ht:=aa) (hx:=rfl) (hy:=rfl);refine ae @j6 ?_;exact⟨.full,rfl,trivial,VH.Ge.refl _⟩
  ·have il:(L.flatMap bW).all dK=true:=by
    rw[ah5,ah6];intro p _;rfl
   have kT:=bj (tk:=.full) (tk':=tk) (B:=O.next) (n:=0) (k:=L.length) (cs:=[]) (ds:=L.flatMap bW) xF Bp.1.1 (O:=O) trivial rfl dL il (by decide) h0 (by omega) (by simp[maxLen];omega);rw[ah0,acu]at kT;refine VL.lC kT (by rw[rV,Wn]) ?_;refine ae @j6 ?_;exact⟨_,rfl,App.after (agw _),cL.CU (tk:=.full) (sz:=3) trivial (cL.after (sz:=3) (B:=0) trivial)⟩
 ·obtain⟨h0,h1⟩:=hb rfl;rw[h0,h1];refine ae @j6 ?_;exact⟨.nil,rfl,trivial,VH.Ge.refl _⟩
theorem Ff (L:List Dp) (tk:Tok) (O:VH) (hn:L.length<=100000):VF Tryz.prog 115 [.sl L.length (L.flatMap aS) tk] O (aE fun m O'=>O.Ge O'/\GR O' 63 8 O.next m L.length (L.flatMap aS)):=by
 have dL:=aQ gB L
 have il:(L.flatMap aS).all dK=true:=by
  rw[ah5,ah6];intro p _;rfl
 refine VF.dy 8 [.tmp 2] Tryz.func115 ?_;refine ao @j6 @nQ ?_;refine VL.pH (qe Tryz.underlying103 rfl) ?_;rintro _ O1 ⟨eO,b,rfl,hb⟩;rw[eO];clear eO O1
 refine WL.sound aa ?_;cases b
 ·refine ae @j6 ?_;refine VL.grow aa (.inl rfl) (te:=⟨_,8,_,_⟩) (B:=O.next) (n':=0) (L:=[]) (dx:=.slice 63) (p:=.sl 0 [] .full) (q:=.sl L.length (L.flatMap aS) tk) (j:=L.length) (ds:=L.flatMap aS) (.inl ⟨rfl,rfl,.inr rfl⟩) (by simp[zP,dL]) il (by rw[u_];rfl) Bo.1.1 (by rw[u_];rfl) trivial (by dsimp only;omega) (by simp only[maxLen];omega) (agw _) rfl rfl rfl rfl ?_;intro m O' h1 h2 h3 h4;rw[ah0,acu]at h1;refine ae @j6 ?_;exact⟨h3 rfl,h1⟩
 ·obtain⟨h0,h1⟩:=hb rfl;rw[h0,h1];refine ae @j6 ?_;exact⟨VH.Ge.refl _,.inl ⟨rfl,rfl,.inl rfl⟩⟩
theorem BG:laidOutB Tryz.prog=true:=by kernel_rfl
theorem vF:tR Tryz.prog 67 3:=tR.sN BG (by kernel_rfl)
theorem Cy:tR Tryz.prog 140 2:=tR.sN BG (by kernel_rfl)
theorem rC:tR Tryz.prog 30 4:=tR.sN BG (by kernel_rfl)
set_option linter.defProp false in
def Cz:=acv eM<|acv SB<|acv T58<|acv T94<|acv T95<|acv SC<|acv ae1 xi
theorem ahh (x:Gv) (O:VH):VF Tryz.prog 63 [.agg (bW x)] O (aE fun m O'=>m= .agg (bZ ⟨x.g,x.a⟩)/\O.Ge O'):=by
 obtain⟨g,a,v⟩:=x;have hg:=((VH.Ge.refl O).push (.cells [.str g,.str a,.str v])).push (.cells [.str [],.str []]);unfold bW bZ;refine VF.dy 8 [.cell 2 140] Tryz.func63 ?_;refine ae @Cz ?_;exact hg.set (Nat.le_succ _) _
def eJ (x:Gv):List Bs:=[x.g,x.a,x.v]
def AD (x:fR):List Bs:=[x.g,x.a]
theorem adO (x:Gv):bW x=(eJ x).map .str:=rfl
def tf (x:Gv):Prop:=x.g.length<=maxLen/\x.a.length<=maxLen/\x.v.length<=maxLen
theorem vG {x:Gv} (h:tf x):∀s∈eJ x,s.length<=maxLen:=by
 intro s hs;simp only[eJ,acs,acw,or_false]at hs;rcases hs with rfl | rfl | rfl
 ·exact h.1
 ·exact h.2.1
 ·exact h.2.2
structure Gy (O:VH) (k ke kv:Nat) (E:fy) (ce:Nat) (V:fy) (cv:Nat) (r a:Int):Prop where
 cell:O.hp k=some (.cells [.map ke,.map kv,mi r,mi a])
 CA:O.hp ke=some (.map (cI E) ce)
 HY:O.hp kv=some (.map (cI V) cv)
 MG:n5 3 E
 vok:n5 2 V
 ptr:∀p∈E,∃q,p.2.1= .ptr q 0
 lt:k<O.next/\ke<O.next/\kv<O.next
 ne:k≠ke/\k≠kv/\ke≠kv
def BH (E:fy) (x:Gv):Bool:=(jk (eJ x) E).isSome
theorem aaw {E:fy} (h:∀p∈E,∃q,p.2.1=MV.ptr q 0) {l:List Bs} {m:MV} (hl:jk l E=some m):∃q,m= .ptr q 0:=by
 unfold jk at hl;obtain⟨p,h1,rfl⟩:=Option.map_eq_some_iff.1 hl;exact h p (List.mem_of_find?_eq_some h1)
theorem SU {O:VH} {k ke kv ce cv:Nat} {E V:fy} {r a:Int} (h:Gy O k ke kv E ce V cv r a) (x:Gv) (hx:tf x):VF Tryz.prog 62 [.ptr k 0,.agg (bW x)] O (aE fun m O'=>m=mb (BH E x)/\O.Ge O'):=by
 have hl:=vG hx;have pB:=h.cell;simp only[aq]at pB;unfold BH;rw[adO];generalize hL:eJ x=L at*;have oE:L.length=3:=by rw[<-hL];rfl
 obtain⟨g,a',v⟩:=x;have hLc:L.map MV.str=[.str g,.str a',.str v]:=by rw[<-hL];rfl
 rw[hLc];refine VF.bN 16 [.tmp 4] Tryz.func62 ?_;refine VC.ag aa (ae @Cz ?_);refine VC.bx ?_;rintro O1 ⟨aM,dY,cW⟩;have xL:=(aM.hp _ h.lt.1).trans pB;have aji:=(aM.hp _ h.lt.2.1).trans h.CA;refine VC.bB ?_;refine WC.bO (.held []) [(0,.rd),(1,.rd),(2,.rd),(3,.rd),(4,.rd),(5,.rd),(6,.rd),(7,.rd),(8,.rd),(9,.rd),(10,.rd),(11,.rd)] ?_;refine aJ @Cz @xL @dY ?_;refine VL.hold (.inr rfl) rfl rfl (fQ.lK vF aa (l:=L) (te:=⟨_,1,8,[.v (.pointer none)]⟩) Tryz.underlying94 SC rfl rfl aji h.MG (by rw[hLc];rfl) oE hl) (WL.sound aa ?_);cases ey:jk L E with
 | none=>
   refine ae @Cz ?_;refine WC.sound aa (ae @Cz ?_);exact aM
 | some m=>
   obtain⟨p,rfl⟩:=aaw h.ptr ey;refine ae @Cz ?_;refine WC.sound aa (ae @Cz ?_);exact aM
section
variable {G H:Gh} {n:Sz} {D:List Deferred} {e e':Env} {a:Act} {P:Program} {tab:bY} {O O':VH} {w:World} {m m':MV} {u v:Value} {ops:Array Oper} {Q:VQ} {md:Md}
def QL (G:Gh):List Deferred->List (FuncId×List MV)->Prop
 | [],[]=>True
 | d::D,p::ds=>(∃us:List Value,d={target:=.fn (.func p.1) #[],args:=us.toArray}/\aO G p.2 us)/\QL G D ds
 | _,_=>False
theorem QL.mono (h:G.Le H):∀{D:List Deferred} {ds:List (FuncId×List MV)},QL G D ds->QL H D ds
 | [],[],_=>trivial
 | _::_,_::_,⟨⟨us,h1,h2⟩,h3⟩=>⟨⟨us,h1,h2.mono h⟩,h3.mono h⟩
 | [],_::_,h=>h.elim
 | _::_,[],h=>h.elim
def MH (P:Program):List (FuncId×List MV)->VH->(VH->Prop)->Prop
 | [],O,K=>K O
 | p::ds,O,K=>Enters P p.1/\gy P p.1 p.2 none O fun O'=>MH P ds O' K
def QM (P:Program) (fn:Func) (G0:Gh) (K:VH->Prop):Exit->Act->World->Prop:=
 bodyPostD P fn fun x w'=>(∃v,x= .returned v/\v= .tuple #[])/\∃O' H,Gh.Le G0 H/\WR H O' w'/\K O'
def RC (P:Program) (fn:Func) (n:Sz) (ds:List (FuncId×List MV)) (c:Code) (e:Env) (O:VH) (K:VH->Prop):Prop:=
 ∀G0 G D a w,Gh.Le G0 G->QL G D ds->WR G O w->FR G n D e a->c.wp P (QM P fn G0 K) a w
theorem CC {fn:Func} {tmps:Array Value} {G0:Gh} {K:VH->Prop} (hr:fn.results= #[]):∀(D:List Deferred) (ds:List (FuncId×List MV)) (G:Gh) (O:VH) (w:World),Gh.Le G0 G->QL G D ds->WR G O w->MH P ds O K->
  Leaves P fn tmps (fun x w'=>(∃v,x= .returned v/\v= .tuple #[])/\∃O' H,Gh.Le G0 H/\WR H O' w'/\K O') D .returning w
 | [],[],G,O,w,h0,_,hw,hk=>⟨.tuple #[],by simp[results,hr],⟨_,rfl,rfl⟩,O,G,h0,hw,hk⟩
 | d::D,p::ds,G,O,w,h0,⟨⟨us,ed,iO⟩,hD⟩,hw,⟨hE,hk⟩=>by
   subst ed;refine leaves_cons (f:=p.1) (args:=us.toArray) (by simp) (by simp[invoke,hE us.toArray w]) ((hk G w us .returning hw iO trivial).mono ?_);rintro r u' F9 ⟨⟨v,rfl⟩,hs,O2,K2,q1,q2,q3⟩;dsimp only;rw[hs];exact CC hr D ds K2 O2 F9 (h0.trans q1) (hD.mono q1) q2 q3
 | [],_::_,_,_,_,_,h,_,_=>h.elim
 | _::_,[],_,_,_,_,h,_,_=>h.elim
theorem VF.defs {f:FuncId} {fn:Func} {c:Code} {args:List MV} {K:VH->Prop} {R:MV->VH->Prop} (hf:P.funcs[f]?=some fn) (hb:fn.body=some c) (hr:fn.results= #[]) (hn:args.length<=fn.ntmps)
  (h:RC P fn ⟨fn.ntmps,0⟩ [] c (cx 0 args) O K) (hR:∀O',K O'->R (.tuple []) O'):VF P f args O (aE R):=by
 intro G w vs hw hv;refine(calls_of_wp_defers hf hb (h G G [] _ w (Gh.Le.refl G) trivial hw ?_)).mono ?_
 ·have hl:=hv.1;refine⟨rfl,by simp;omega,fun t x hx=>?_⟩;rw[iA,if_pos (ahY _),Nat.sub_zero]at hx;obtain⟨u,h1,h2⟩:=hv.get hx;refine⟨u,?_,h2⟩;have ew:=(TP.1 h1).1;rw[alG (by simpa using ew)];simpa using h1
 ·rintro x w' ⟨⟨v,rfl,rfl⟩,O',H,h1,h2,h3⟩;exact⟨.ret (.tuple []),O',H,h1,h2,.tuple (us:=[]) rfl (fun i c u h=>by simp at h),hR _ h3⟩
theorem RC.ag {fn:Func} {ds:List (FuncId×List MV)} {A rest:Code} {K:VH->Prop} (h:∀D,VC P n D A e O fun x e' O'=>match x with
  | .normal=>RC P fn n ds rest e' O' K
  | _=>False):RC P fn n ds (.seq A rest) e O K:=by
 intro G0 G D a w h0 hD hw hf;refine wp_seq (wp_mono (h D G a w hw hf) ?_);rintro y a1 w1 ⟨x,e',O',H,g1,g2,g3,g4,g5⟩
 cases y<;>cases x<;>first
  | exact False.elim g4
  | exact g5.elim
  | skip
 exact g5 G0 H D a1 w1 (h0.trans g1) (hD.mono g1) g2 g3
theorem RC.fin {fn:Func} {ds:List (FuncId×List MV)} {A:Code} {K:VH->Prop} (hr:fn.results= #[]) (h:∀D,VC P n D A e O fun x e' O'=>match x with
  | .normal=>MH P ds O' K
  | .ret=>MH P ds O' K
  | _=>False):RC P fn n ds A e O K:=by
 intro G0 G D a w h0 hD hw hf;refine wp_mono (h D G a w hw hf) ?_;rintro y a1 w1 ⟨x,e',O',H,g1,g2,g3,g4,g5⟩
 have fin:FR H n D e' a1->MH P ds O' K->Leaves P fn a1.tmps (fun x w'=>(∃v,x= .returned v/\v= .tuple #[])/\∃O' H,Gh.Le G0 H/\WR H O' w'/\K O') a1.defers .returning w1:=fun aU hk=>by
  rw[aU.defers];exact CC hr D ds H O' w1 (h0.trans g1) (hD.mono g1) g2 hk
 cases y<;>cases x<;>first
  | exact False.elim g4
  | exact g5.elim
  | exact fin g3 g5
theorem RC.cond {fn:Func} {ds:List (FuncId×List MV)} {c:Operand} {x y:Code} {K:VH->Prop} {t:Bool} (hc:ev e c=some (mb t)) (h:RC P fn n ds (if t then x else y) e O K):RC P fn n ds (.cond c x y) e O K:=by
 intro G0 G D a w h0 hD hw hf;have hv:=hf.ev hc;generalize hx:a.eval c=u at hv;have:=VR.iP hv;subst this;exact wp_cond hx (h G0 G D a w h0 hD hw hf)
def RO (P:Program) (fn:Func) (n:Sz) (ds:List (FuncId×List MV)) (ops:Array Oper) (rest:Code) (l:List Nat) (e:Env) (O:VH) (K:VH->Prop):Prop:=
 ∀G0 G D a w,Gh.Le G0 G->QL G D ds->WR G O w->FR G n D e a->wpOps P ops (Exit.then (rest.wp P (QM P fn G0 K)) (QM P fn G0 K)) l a w
theorem RC.region {fn:Func} {ds:List (FuncId×List MV)} {id:Nat} {rest:Code} {K:VH->Prop} (l:List Nat) (hl:List.range ops.size=l) (h:RO P fn n ds ops rest l e O K):RC P fn n ds (.seq (.region id ops false) rest) e O K:=by
 subst hl;intro G0 G D a w h0 hD hw hf;exact wp_seq (wp_region (h G0 G D a w h0 hD hw hf))
theorem RO.step (ht:aL P tab) {fn:Func} {ds:List (FuncId×List MV)} {rest:Code} {K:VH->Prop} {i:Nat} {l:List Nat} {o:Oper} (ho:ops[i]?=some o) (hg:aN ops o e=some true) (hv:c8 tab o e O=some (m,O')) (hd:bp n o.dst=true) (h:RO P fn n ds ops rest l (aV o.dst m e) O' K):
  RO P fn n ds ops rest (i::l) e O K:=by
 intro G0 G D a w h0 hD hw aU;obtain⟨nx,w',H,u,hr,xf,h1,h2,h3,_⟩:=Dj (P:=P) ht hw aU hv;rw[wpOps_cons];simp only[wpOp,ho,bn aU hg,if_true];refine .inl ?_;unfold Oper.wp;rw[hr];have:=h G0 H D (a.put o.dst u) w' (h0.trans h1) (hD.mono h1) h2 ((aU.mono h1).aV hd h3);rcases xf with rfl | ⟨rfl,rfl⟩<;>exact this
theorem RO.o1 {fn:Func} {ds:List (FuncId×List MV)} {rest:Code} {K:VH->Prop} {i:Nat} {l:List Nat} {lo:List Oper} {o:Oper} (h:zZ (fun m O'=>RO P fn n ds ⟨lo⟩ rest l (aV o.dst m e) O' K) (c8 tab o e O)) (ht:aL P tab:=by exact aa) (ho:lo[i]?=some o:=by exact rfl) (hg:aN ⟨lo⟩ o e=some true:=by exact rfl) (hd:bp n o.dst=true:=by exact rfl):
  RO P fn n ds ⟨lo⟩ rest (i::l) e O K:=by
 generalize hv:c8 tab o e O=v at h;cases v with
 | none=>exact h.elim
 | some p=>exact RO.step ht (by simpa using ho) hg hv hd h
theorem RO.defer {fn:Func} {ds:List (FuncId×List MV)} {rest:Code} {K:VH->Prop} {i:Nat} {g:FuncId} {as_:Array Operand} {ts:Array TypeId} {ty:TypeId} {ps:String} {af:Array Edge} {ms:List MV} (ho:ops[i]?=some (.mk none (.defer {callee:=.value (.func g),args:=as_,argTypes:=ts}) ty ps af none)) (hm:fP e as_.toList=some ms)
  (h:RC P fn n ((g,ms)::ds) rest e O K):RO P fn n ds ops rest [i] e O K:=by
 intro G0 G D a w h0 hD hw aU;have iO:=aU.fP hm;have ha:as_.map a.eval=(as_.toList.map a.eval).toArray:=by apply Array.ext';simp
 have cj:(execOp a.eval (.mk none (.defer {callee:=.value (.func g),args:=as_,argTypes:=ts}) ty ps af none)).run P w= .ok (.defer {target:=.fn (.func g) #[],args:=(as_.toList.map a.eval).toArray}) w:=by
  simp only[<-ha];simp[execOp,resolve,Act.eval,Deferred.ofValue]
 rw[wpOps_cons];simp only[wpOp,ho];rw[if_pos (by simp[Region.wanted])];refine .inl ?_;unfold Oper.wp;rw[cj,Oper.upon_defer];simp only[wpOps,Exit.then];exact h G0 G ({target:=.fn (.func g) #[],args:=(as_.toList.map a.eval).toArray}::D) _ w h0 ⟨⟨_,rfl,iO⟩,hD⟩ hw ⟨by show _::a.defers=_;rw[aU.defers],aU.size,aU.get⟩
theorem gy.mono {f:FuncId} {args:List MV} {x:Option MV} {K K':VH->Prop} (h:gy P f args x O K) (hk:∀O',K O'->K' O'):gy P f args x O K':=fun G w vs u hw hv hu=>(h G w vs u hw hv hu).mono fun r u' w' ⟨h1,h2,O',H,h3,h4,h5⟩=>⟨h1,h2,O',H,h3,h4,hk _ h5⟩
theorem gy.Gn (ht:aL P tab) {f:FuncId} {fn:Func} {c:Code} {args:List MV} {K:VH->Prop} (hf:P.funcs[f]?=some fn) (hb:fn.body=some c) (hr:fn.results= #[]) (hn:args.length<=fn.ntmps) (hk:(⟨fn.ntmps,0⟩:Sz)=n) (h:VC P n [] c (cx 0 args) O (Cn tab [] (aE fun _ O'=>K O'))):gy P f args none O K:=by
 subst hk;intro G w vs u hw hv hu
 have DB:settle u= .returning:=by
  cases u<;>first
   | rfl
   | exact hu.elim
 have hl:=hv.1;refine(callsD_of_wp (R:=fun x w'=>(∃v,x= .returned v)/\∃O' H,Gh.Le G H/\WR H O' w'/\K O') hf hb (wp_mono (h G _ w hw ?_) ?_)).mono ?_
 ·refine⟨rfl,by simp;omega,fun t x hx=>?_⟩;rw[iA,if_pos (ahY _),Nat.sub_zero]at hx;obtain⟨u,h1,h2⟩:=hv.get hx;refine⟨u,?_,h2⟩;have ew:=(TP.1 h1).1;rw[alG (by simpa using ew)];simpa using h1
 ·rintro y a1 w1 ⟨x,e',O',H,g1,g2,g3,g4,g5⟩
  have fin:FR H ⟨fn.ntmps,0⟩ [] e' a1->K O'->bodyPost P fn (fun x w'=>(∃v,x= .returned v)/\∃O' H,Gh.Le G H/\WR H O' w'/\K O') .normal a1 w1:=fun aU hk=>
   ⟨aU.defers,.tuple #[],by simp[results,hr],⟨_,rfl⟩,O',H,g1,g2,hk⟩
  cases y<;>cases x<;>first
   | exact False.elim g4
   | exact fin g3 g5
   | exact g5.elim
 ·rintro r u' w' ⟨rfl,h1,h2⟩;exact⟨h1,DB,h2⟩
end
section
variable {G:Gh} {O O':VH} {w:World} {P:Program}
theorem WR.cellAt {k off:Nat} {cs:List MV} {x:Value} (h:WR G O w) (hk:O.hp k=some (.cells cs)) (hc:cs[off]?=some (.v x)):∃b,G.bR k=some b/\w.cell? ⟨b,off,none⟩=some x/\w.frozen? ⟨b,off,none⟩=false:=by
 obtain⟨b,C,T,e1,e2,e3⟩:=h.cells k cs hk;obtain⟨v,mT,CK⟩:=e3.get hc;cases CK with
 | v _=>
   refine⟨b,e1,?_,?_⟩
   ·have ew:off<cs.length:=(TP.1 hc).1;rw[List.getElem?_take_of_lt ew]at mT;simp only[World.cell?,e2,Option.isSome_none,Bool.false_eq_true,if_false];simpa using mT
   ·have hlen:off<C.size:=by
     have:=(TP.1 mT).1;simp at this;omega
    obtain⟨t',⟨lo,hi⟩,cK⟩:=T;dsimp only at e2 cK;simp only[World.frozen?,e2,Bool.and_eq_false_imp,decide_eq_true_eq,decide_eq_false_iff_not];intro;omega
theorem eH.mem {f:FuncId} {ms:List MV} {m:MV} (hr:∀G w vs,WR G O w->aO G ms vs->∃u w',(callFunc f vs.toArray).run P w= .ok (.value u) w'/\WR G O' w'/\VR G m u):eH P f ms O fun m' kx=>m'=m/\kx=O':=by
 intro G w vs hw hv;obtain⟨u,w',h1,h2,h3⟩:=hr G w vs hw hv;exact⟨m,O',u,w',G,⟨rfl,rfl⟩,h1,Gh.Le.refl G,h2,h3⟩
theorem VR.AE:VR G (.tuple []) (.tuple #[]):=.tuple (us:=[]) rfl (fun i c u h=>by simp at h)
theorem aO.one {x:MV} {vs:List Value} (h:aO G [x] vs):∃u,vs=[u]/\VR G x u:=by
 obtain⟨u,us,rfl,g1,g2⟩:=h.cD;rw[g2.fF];exact⟨u,rfl,g1⟩
theorem aO.aax {k o:Nat} {vs:List Value} (h:aO G [.ptr k o] vs):∃b,vs=[.pointer (some ⟨b,o,none⟩)]/\G.bR k=some b:=by
 obtain⟨u,rfl,g1⟩:=h.one;cases g1 with
 | ptr h4=>exact⟨_,rfl,h4⟩
theorem aO.aay {k o:Nat} {x:Value} {vs:List Value} (h:aO G [.ptr k o,.v x] vs):∃b,vs=[.pointer (some ⟨b,o,none⟩),x]/\G.bR k=some b:=by
 obtain⟨u,us,rfl,g1,g2⟩:=h.cD;obtain⟨u2,rfl,g3⟩:=g2.one;have:=g3.iP;subst this;cases g1 with
 | ptr h4=>exact⟨_,rfl,h4⟩
theorem aO.ajj {k o:Nat} {x y:Value} {vs:List Value} (h:aO G [.ptr k o,.v x,.v y] vs):∃b,vs=[.pointer (some ⟨b,o,none⟩),x,y]/\G.bR k=some b:=by
 obtain⟨u,us,rfl,g1,g2⟩:=h.cD;obtain⟨u2,Qa,rfl,g3,g4⟩:=g2.cD;obtain⟨u3,rfl,g5⟩:=g4.one;have e1:=g3.iP;have e2:=g5.iP;subst e1;subst e2
 cases g1 with
 | ptr h4=>exact⟨_,rfl,h4⟩
end
theorem vH (O:VH):eH Tryz.prog 277 [] O fun m O'=>m= .tuple []/\O'=O:=
 eH.mem fun G w vs hw hv=>by
  rw[hv.fF];exact⟨_,w,run_call_mark0 Tryz.func277 (by kernel_rfl) (by kernel_rfl) (by kernel_rfl) .disable (by kernel_rfl) w,hw,VR.AE⟩
theorem xM (O:VH):eH Tryz.prog 279 [] O fun m O'=>m= .tuple []/\O'=O:=
 eH.mem fun G w vs hw hv=>by
  rw[hv.fF];exact⟨_,w,run_call_mark0 Tryz.func279 (by kernel_rfl) (by kernel_rfl) (by kernel_rfl) .enable (by kernel_rfl) w,hw,VR.AE⟩
theorem Fg (k o:Nat) (O:VH):eH Tryz.prog 280 [.ptr k o] O fun m O'=>m= .tuple []/\O'=O:=
 eH.mem fun G w vs hw hv=>by
  obtain⟨b,rfl,hp⟩:=hv.aax;exact⟨_,w,run_call_marked Tryz.func280 (by kernel_rfl) (by kernel_rfl) (by kernel_rfl) .acquire (by kernel_rfl) _ w,hw,VR.AE⟩
theorem C3 (k o:Nat) (O:VH):eH Tryz.prog 282 [.ptr k o] O fun m O'=>m= .tuple []/\O'=O:=
 eH.mem fun G w vs hw hv=>by
  obtain⟨b,rfl,hp⟩:=hv.aax;exact⟨_,w,run_call_marked Tryz.func282 (by kernel_rfl) (by kernel_rfl) (by kernel_rfl) .releaseMerge (by kernel_rfl) _ w,hw,VR.AE⟩
section
variable {O:VH} {k off:Nat} {cs:List MV}
theorem MI {x:Int} (y:Int) (hk:O.hp k=some (.cells cs)) (hc:cs[off]?=some (.v (.int .i64 x))):eH Tryz.prog 207 [.ptr k off,.v (.int .i64 y)] O fun m O'=>m= .v (.int .i64 (IntKind.i64.wrap (x+y)))/\O'=O.set k (.cells (cs.set off (.v (.int .i64 (IntKind.i64.wrap (x+y)))))):=
 eH.mem fun G w vs hw hv=>by
  obtain⟨b',h1,h2,h3⟩:=hw.cellAt hk hc;obtain⟨b,rfl,hp⟩:=hv.aay;rw[h1]at hp;injection hp with hp;subst hp
  exact⟨_,_,run_call_add Tryz.func207 (by kernel_rfl) (by kernel_rfl) (by kernel_rfl) .i64 (by kernel_rfl) h2 h3 rfl,hw.store hk h1 (TP.1 hc).1 (.v rfl),.v rfl⟩
theorem MJ {x:Int} (y:Int) (hk:O.hp k=some (.cells cs)) (hc:cs[off]?=some (.v (.int .i32 x))):eH Tryz.prog 283 [.ptr k off,.v (.int .i32 y)] O fun m O'=>m= .v (.int .i32 (IntKind.i32.wrap (x+y)))/\O'=O.set k (.cells (cs.set off (.v (.int .i32 (IntKind.i32.wrap (x+y)))))):=
 eH.mem fun G w vs hw hv=>by
  obtain⟨b',h1,h2,h3⟩:=hw.cellAt hk hc;obtain⟨b,rfl,hp⟩:=hv.aay;rw[h1]at hp;injection hp with hp;subst hp
  exact⟨_,_,run_call_add Tryz.func283 (by kernel_rfl) (by kernel_rfl) (by kernel_rfl) .i32 (by kernel_rfl) h2 h3 rfl,hw.store hk h1 (TP.1 hc).1 (.v rfl),.v rfl⟩
theorem QN {x:Int} (hk:O.hp k=some (.cells cs)) (hc:cs[off]?=some (.v (.int .u32 x))):eH Tryz.prog 240 [.ptr k off] O fun m O'=>m= .v (.int .u32 x)/\O'=O:=
 eH.mem fun G w vs hw hv=>by
  obtain⟨b',h1,h2,h3⟩:=hw.cellAt hk hc;obtain⟨b,rfl,hp⟩:=hv.aax;rw[h1]at hp;injection hp with hp;subst hp
  exact⟨_,_,run_call_load Tryz.func240 (by kernel_rfl) (by kernel_rfl) (by kernel_rfl) .u32 (by kernel_rfl) h2,hw,.v rfl⟩
theorem MK {x:Int} (y:Int) (hk:O.hp k=some (.cells cs)) (hc:cs[off]?=some (.v (.int .u32 x))):eH Tryz.prog 260 [.ptr k off,.v (.int .u32 y)] O fun m O'=>m= .tuple []/\O'=O.set k (.cells (cs.set off (.v (.int .u32 y)))):=
 eH.mem fun G w vs hw hv=>by
  obtain⟨b',h1,h2,h3⟩:=hw.cellAt hk hc;obtain⟨b,rfl,hp⟩:=hv.aay;rw[h1]at hp;injection hp with hp;subst hp
  exact⟨_,_,run_call_store Tryz.func260 (by kernel_rfl) (by kernel_rfl) (by kernel_rfl) (by kernel_rfl) h2 h3,hw.store hk h1 (TP.1 hc).1 (.v rfl),VR.AE⟩
theorem Wr {x y:Int} (hk:O.hp k=some (.cells cs)) (hc:cs[off]?=some (.v (.int .i32 x))):eH Tryz.prog 278 [.ptr k off,.v (.int .i32 x),.v (.int .i32 y)] O fun m O'=>m= .v (.bool true)/\O'=O.set k (.cells (cs.set off (.v (.int .i32 y)))):=
 eH.mem fun G w vs hw hv=>by
  obtain⟨b',h1,h2,h3⟩:=hw.cellAt hk hc;obtain⟨b,rfl,hp⟩:=hv.ajj;rw[h1]at hp;injection hp with hp;subst hp
  exact⟨_,_,run_call_cas_hit Tryz.func278 (by kernel_rfl) (by kernel_rfl) (by kernel_rfl) .i32 (by kernel_rfl) h2 h3,hw.store hk h1 (TP.1 hc).1 (.v rfl),.v rfl⟩
end
section
variable {P:Program} {tab:bY} {n:Sz} {D:List Deferred} {md:Md} {ops:Array Oper} {Q:VQ} {e:Env} {O:VH}
theorem VL.afr (ht:aL P tab) {d:Option Tmp} {x:Operand} {src dst ty el:TypeId} {ps:String} {af:Array Edge} {g:Option (Nat×Bool)} {L:List (Fl×Oper)} {k off:Nat} {cs:List MV} {y:Value} {te:cy} (hmd:md= .plain\/md= .any)
  (hs:(tab src).map cy.under=some (.pointer el)) (Lk:(tab dst).map cy.under=some .unsafePointer) (he:tab el=some te) (hz:te.size≠0) (hk:O.hp k=some (.cells cs)) (hc:cs[off]?=some (.v y))
  (hx:ev e x=some (.ptr k off)) (hg:aN ops (.mk d (.convert src dst x) ty ps af g) e=some true) (hd:bp n d=true) (h:WL P tab n D md ops Q L (aV d (.ptr k off) e) O):
  VL P n D md ops ((.one,.mk d (.convert src dst x) ty ps af g)::L) e O Q:=by
 refine VL.pH (M:=fun m O'=>m= .ptr k off/\O'=O) (fun G a w hw hf=>?_) (by rintro m O' ⟨rfl,rfl⟩;exact WL.sound ht h) (hmd:=hmd) (hg:=hg) (hd:=hd);have mX:=hf.ev hx;generalize oF:a.eval x=u at mX;cases mX with
 | ptr hp=>
   rename_i b;obtain⟨ti,z,i1,i2,_⟩:=(ht _ te he).info;obtain⟨b2,s1,s2,_⟩:=hw.cellAt hk hc;rw[hp]at s1;injection s1 with s1;subst s1
   have hr:=run_convert_to_unsafe (P:=P) (w:=w) (bE ht hs) (bE ht Lk) (by rw[i1,Option.map_some,decide_eq_false (by rw[i2];exact hz)]) s2;exact⟨_,_,_,w,G,⟨rfl,rfl⟩,by simp[execOp,oF,hr],Gh.Le.refl G,hw,.ptr hp⟩
theorem fV.ext {o:Oper} {c:Call} {x:Operand} {id:FuncId} {ms:List MV} {M:MV->VH->Prop} (uF:o.op= .call c) (hc:c.callee= .value x) (hf:ev e x=some (.func (.func id) [] [])) (hm:fP e c.args.toList=some ms) (hx:eH P id ms O M):fV P n D o e O M:=by
 intro G a w hw aU;have uG:=aU.ev hf;generalize Bf:a.eval x=fv at uG;cases uG with
 | func h1 h2 h3 h4=>
   rename_i us vs;have iO:us=[]:=agt h1;have n4:vs=[]:=agt h3;subst iO;subst n4
   have ik:=aU.fP hm;obtain⟨m,O',u,w',H,hM,hr,g1,g2,g3⟩:=hx G w _ hw ik;refine⟨m,O',u,w',H,hM,?_,g1,g2,g3⟩;have ha: #[]++c.args.map a.eval++ #[]=(c.args.toList.map a.eval).toArray:=by apply Array.ext';simp
   simp only[execOp,uF,resolve,hc,Bf,Deferred.ofValue,Sem.run_bind,Sem.run_pure,Result.andThen_ok,invoke];rw[ha];exact hr
end
set_option linter.defProp false in
def dA:=acv aeY<|acv aiL<|acv aiq<|acv aiO<|acv ZR<|acv air<|acv aiS<|acv ZU<|acv aip<|acv P9<|acv aiW<|acv aiP<|acv aiM<|acv T2<|acv ais<|acv aiN HE
section
variable {O:VH} {k off:Nat} {cs:List MV}
theorem Fh {x:Int} (y:Int) (hk:O.hp k=some (.cells cs)) (hc:cs[off]?=some (.v (.int .i64 x))):VF Tryz.prog 179 [.ptr k off,.v (.int .i64 y)] O (aE fun m O'=>m= .v (.int .i64 (IntKind.i64.wrap (x+y)))/\O'=O.set k (.cells (cs.set off (.v (.int .i64 (IntKind.i64.wrap (x+y))))))):=by
 refine VF.dy 10 [.tmp 4] Tryz.func179 ?_;refine ae @dA ?_;refine ah.ext (MI y hk hc) rfl ?_;rintro _ O2 ⟨rfl,rfl⟩;exact fe @dA
theorem ML {x:Int} (hk:O.hp k=some (.cells cs)) (hc:cs[off]?=some (.v (.int .u32 x))):VF Tryz.prog 222 [.ptr k off] O (aE fun m O'=>m=mb (x != 0)/\O'=O):=by
 refine VF.dy 8 [.tmp 2] Tryz.func222 ?_;refine ae @dA ?_;refine ah.ext (QN hk hc) rfl ?_;rintro _ O2 ⟨rfl,rfl⟩;exact fe @dA
theorem ahi (b:Bool) (O:VH):VF Tryz.prog 261 [mb b] O (aE fun m O'=>m= .v (.int .u32 (if b then 1 else 0))/\O'=O):=by
 refine VF.dy 4 [.tmp 2] Tryz.func261 ?_;cases b
 ·exact fe @dA
 ·exact fe @dA
theorem Ws {x:Int} (b:Bool) (hk:O.hp k=some (.cells cs)) (hc:cs[off]?=some (.v (.int .u32 x))):gy Tryz.prog 243 [.ptr k off,mb b] none O (fun O'=>O'=O.set k (.cells (cs.set off (.v (.int .u32 (if b then 1 else 0)))))):=by
 refine gy.Gn aa (n:=⟨10,0⟩) Tryz.func243 rfl rfl (akF rfl) rfl ?_;simp only[cx,ah0,Nat.reduceAdd];refine VC.mZ [5] ?_;refine ab.av 0 ?_;refine ae @dA ?_;refine ab.av 1 ?_;refine ae @dA ?_;refine ab.av 2 ?_;refine ae @dA ?_;refine ab.av 3 ?_;refine ae @dA ?_;refine ab.call (i:=4) (ahi b O) ?_;rintro _ O2 ⟨rfl,eO⟩;simp only[aj];rw[eO];clear eO O2
 refine⟨VH.Ge.refl _,ab.fin (by kernel_rfl) (cn.st (i:=5) rfl (by kernel_rfl) rfl rfl (fV.ext rfl rfl rfl rfl (MK _ hk hc)) ?_)⟩;rintro m O2 ⟨rfl,rfl⟩;refine cn.done (by kernel_rfl) ?_;refine ae @dA ?_;trivial
theorem aaz (hk:O.hp k=some (.cells cs)) (hc:cs[off]?=some (.v (.int .i32 0))):VF Tryz.prog 258 [.ptr k off] O (aE fun m O'=>O'=O.set k (.cells (cs.set off (.v (.int .i32 1))))):=by
 have hl:off<cs.length:=(TP.1 hc).1;refine VF.bN 13 [] Tryz.func258 ?_;refine VC.ag aa (ae @dA ?_);refine ah.ext (vH _) rfl ?_;rintro _ O2 ⟨rfl,rfl⟩;refine ae @dA ?_;refine VC.ag aa (ae @dA ?_);refine ah.ext (Wr (y:=1) hk hc) rfl ?_;rintro _ O2 ⟨rfl,eO⟩;have bJ:O2.hp k=some (.cells (cs.set off (.v (.int .i32 1)))):=by rw[eO];exact VH.an _ _ _
 have jB:(cs.set off (.v (.int .i32 1)))[off]?=some (.v (.int .i32 1)):=by rw[List.getElem?_set_self hl]
 refine ae @dA ?_;refine ah.ext (xM _) rfl ?_;rintro _ O3 ⟨rfl,Gz⟩;rw[Gz];clear Gz O3
 refine ae @dA ?_;refine VL.afr aa (.inl rfl) (el:=132) (by rw[ZU];rfl) (by rw[HE];rfl) ZR.1.1 (by decide) bJ jB rfl rfl rfl ?_;refine ae @dA ?_;refine ah.ext (Fg _ _ _) rfl ?_;rintro _ O4 ⟨rfl,o8⟩;rw[o8];clear o8 O4
 refine ae @dA ?_;exact eO
theorem adP (hk:O.hp k=some (.cells cs)) (hc:cs[off]?=some (.v (.int .i32 0))):VF Tryz.prog 241 [.ptr k off] O (aE fun m O'=>O'=O.set k (.cells (cs.set off (.v (.int .i32 1))))):=by
 refine VF.dy 6 [] Tryz.func241 ?_;refine ae @dA ?_;refine ah.rt (aaz hk hc) ?_;rintro _ O2 e2;refine ae @dA ?_;exact e2
theorem QO (hk:O.hp k=some (.cells cs)) (hc:cs[off]?=some (.v (.int .i32 1))):VF Tryz.prog 259 [.ptr k off] O (aE fun m O'=>O'=O.set k (.cells (cs.set off (.v (.int .i32 0))))):=by
 have hl:off<cs.length:=(TP.1 hc).1;refine VF.bN 21 [] Tryz.func259 ?_;refine VC.ag aa (aJ @dA @hk @hc ?_);refine VL.afr aa (.inl rfl) (el:=132) (by rw[ZU];rfl) (by rw[HE];rfl) ZR.1.1 (by decide) hk hc rfl rfl rfl ?_;refine ae @dA ?_;refine ah.ext (C3 _ _ _) rfl ?_;rintro _ O2 ⟨rfl,GA⟩;rw[GA];clear GA O2
 refine ae @dA ?_;refine ah.ext (vH _) rfl ?_;rintro _ O2 ⟨rfl,GA⟩;rw[GA];clear GA O2
 refine ae @dA ?_;refine VC.ag aa (ae @dA ?_);refine ah.ext (MJ (-1) hk hc) rfl ?_;rintro _ O2 ⟨rfl,eO⟩;refine ao @dA (show IntKind.i32.wrap (1+ -1)=0 from rfl) ?_;refine VC.ag aa (ae @dA ?_);refine WC.sound aa (ae @dA ?_);refine ah.ext (xM _) rfl ?_;rintro _ O3 ⟨rfl,Gz⟩;rw[Gz];clear Gz O3
 refine ae @dA ?_;exact eO
theorem Wt (hk:O.hp k=some (.cells cs)) (hc:cs[off]?=some (.v (.int .i32 1))):gy Tryz.prog 242 [.ptr k off] none O (fun O'=>O'=O.set k (.cells (cs.set off (.v (.int .i32 0))))):=by
 refine gy.Gn aa (n:=⟨6,0⟩) Tryz.func242 rfl rfl (akF rfl) rfl ?_;simp only[cx,ah0,Nat.reduceAdd];refine WC.sound aa (ae @dA ?_);refine ah.rt (QO hk hc) ?_;rintro _ O2 e2;refine ae @dA ?_;exact e2
theorem Wu {g:FuncId} {xs:List MV} {Φ :VH->Prop} (hk:O.hp k=some (.cells cs)) (h0:cs[off]?=some (.v (.int .u32 0))) (h1:cs[off+1]?=some (.v (.int .i32 0))) (hg:cR Tryz.prog g=true)
  (hC:VF Tryz.prog g xs (O.set k (.cells (cs.set (off+1) (.v (.int .i32 1))))) (aE fun _ O'=> Φ O'))
  (hΦ :∀O', Φ O'->∃cs',O'.hp k=some (.cells cs')/\cs'[off]?=some (.v (.int .u32 0))/\cs'[off+1]?=some (.v (.int .i32 1))):
  VF Tryz.prog 223 [.ptr k off,.func (.func g) [] xs] O (aE fun _ O'=>∃O1 cs', Φ O1/\O1.hp k=some (.cells cs')/\O'=O1.set k (.cells ((cs'.set off (.v (.int .u32 1))).set (off+1) (.v (.int .i32 0))))):=by
 refine VF.defs (K:=fun O'=>∃O1 cs', Φ O1/\O1.hp k=some (.cells cs')/\O'=O1.set k (.cells ((cs'.set off (.v (.int .u32 1))).set (off+1) (.v (.int .i32 0))))) Tryz.func223 rfl rfl (akF rfl) ?_ (fun O' h=>h);show RC _ _ ⟨21,0⟩ _ _ _ _ _;simp only[cx,ah0,Nat.reduceAdd];refine RC.ag fun D=>?_
 refine WC.sound aa (ae @dA ?_);refine ah.rt (adP hk h1) ?_;rintro _ O2 e2;have bJ:O2.hp k=some (.cells (cs.set (off+1) (.v (.int .i32 1)))):=by rw[e2];exact VH.an _ _ _
 refine ae @dA ?_;refine RC.region [0,1,2,3] rfl ?_;refine RO.o1 ?_;refine ae @dA ?_;refine RO.o1 ?_;refine ae @dA ?_;refine RO.o1 ?_;refine ae @dA ?_;refine RO.defer rfl rfl ?_;refine RC.ag fun D=>?_
 have h02:(cs.set (off+1) (.v (.int .i32 1)))[off]?=some (.v (.int .u32 0)):=by rw[List.getElem?_set_ne (by omega)];exact h0
 refine WC.sound aa (ae @dA ?_);refine ah.rt (ML bJ h02) ?_;rintro _ O3 ⟨rfl,eO⟩;rw[eO];clear eO O3
 refine ae @dA ?_;refine RC.cond (t:=true) rfl ?_;rw[if_pos rfl];refine RC.region [0,1,2,3] rfl ?_;refine RO.o1 ?_;refine ae @dA ?_;refine RO.o1 ?_;refine ae @dA ?_;refine RO.o1 ?_;refine ae @dA ?_;refine RO.defer rfl rfl ?_;refine RC.fin rfl fun D=>?_
 rw[e2];refine WC.sound aa (ae @dA ?_);refine ah.rt hC ?_ (hb:=hg);rintro m O3 CV;obtain⟨cs',dz,h3,h4⟩:=hΦ O3 CV;have lW:off<cs'.length:=(TP.1 h3).1;refine ae @dA ?_;refine⟨Enters.sN (by kernel_rfl),(Ws true dz h3).mono fun O4 e4=>?_⟩;have jq:O4.hp k=some (.cells (cs'.set off (.v (.int .u32 1)))):=by rw[e4];exact VH.an _ _ _
 have h44:(cs'.set off (.v (.int .u32 1)))[off+1]?=some (.v (.int .i32 1)):=by rw[List.getElem?_set_ne (by omega)];exact h4
 refine⟨Enters.sN (by kernel_rfl),(Wt jq h44).mono fun O5 e5=>?_⟩;refine⟨O3,cs',CV,dz,?_⟩;rw[e5,e4];exact VH.set_set _ _ _ _
theorem ajk {g:FuncId} {xs:List MV} {Φ :VH->Prop} (hk:O.hp k=some (.cells cs)) (h0:cs[off]?=some (.v (.int .u32 0))) (h1:cs[off+1]?=some (.v (.int .i32 0))) (hg:cR Tryz.prog g=true)
  (hC:VF Tryz.prog g xs (O.set k (.cells (cs.set (off+1) (.v (.int .i32 1))))) (aE fun _ O'=> Φ O'))
  (hΦ :∀O', Φ O'->∃cs',O'.hp k=some (.cells cs')/\cs'[off]?=some (.v (.int .u32 0))/\cs'[off+1]?=some (.v (.int .i32 1))):
  VF Tryz.prog 198 [.ptr k off,.func (.func g) [] xs] O (aE fun _ O'=>∃O1 cs', Φ O1/\O1.hp k=some (.cells cs')/\O'=O1.set k (.cells ((cs'.set off (.v (.int .u32 1))).set (off+1) (.v (.int .i32 0))))):=by
 refine VF.bN 12 [] Tryz.func198 ?_;refine VC.ag aa (ae @dA ?_);refine ah.rt (ML hk h0) ?_;rintro _ O3 ⟨rfl,eO⟩;rw[eO];clear eO O3
 refine ae @dA ?_;refine WC.sound aa (ae @dA ?_);refine ah.rt (Wu hk h0 h1 hg hC hΦ) ?_;rintro m O3 h3;refine ae @dA ?_;exact h3
end
structure Rec where
 b:Nat
 off:Nat
 name:Bs
 attrs:List (Bs×Bs)
 kids:List Nd
 q:MV
def iX (r:Rec):List MV:=[.str r.name,.sl r.attrs.length (r.attrs.flatMap bh) .ar,r.q,.str []]
theorem se (r:Rec):(iX r).length=4:=rfl
def oN (O:VH) (B k:Nat):List Rec->Prop
 | []=>True
 | [r]=>r.b=k/\r.off=0
 | r::p::rest=>(∃c,p.q= .bq r.b 0 (p.kids.length+1) c/\p.kids.length+1<=c/\Row O 112 4 B r.b c (aC p.kids++iX r))/\r.off=p.kids.length*4/\p.b<r.b/\oN O B k (p::rest)
def ajl (O:VH) (B:Nat):List Rec->Prop
 | []=>True
 | r::_=>GR O 112 4 B r.q r.kids.length (aC r.kids)/\∀i,gid r.q=some i->r.b<i
def oO:List Rec->List MV->List MV
 | [],z=>z
 | [r],_=>iX r
 | _::r::R,z=>oO (r::R) z
def gR (R:List Rec):List MV:=(R.map fun r=>MV.ptr r.b r.off).reverse
theorem qN (r:Rec) (R:List Rec):(gR (r::R))=gR R++[.ptr r.b r.off]:=by unfold gR;simp
theorem kU (R:List Rec):(gR R).length=R.length:=by unfold gR;simp
theorem eU:∀(R:List Rec) (z:List MV),z.length=4->(oO R z).length=4
 | [],z,h=>h
 | [r],_,_=>rfl
 | _::r::R,z,h=>eU (r::R) z h
structure BC (O:VH) (B k:Nat) (R:List Rec) (z tl:List MV):Prop where
 lt:k<B
 le:B<=O.next
 cells:O.hp k=some (.cells (oO R z++tl))
 zl:z.length=4
 chain:oN O B k R
 top:ajl O B R
def Kp (O O':VH) (S:List Nat):Prop:=O.next<=O'.next/\∀i,i<O.next->i ∉ S->O'.hp i=O.hp i
def BI (O:VH) (S:List Nat):Prop:=∀x∈S,∀j t n,O.hp x≠some (.shape j t n)
theorem BI.ne {O:VH} {S:List Nat} (h:BI O S) {j i t n:Nat} (hj:O.hp j=some (.shape i t n)):j ∉ S:=fun hm=>h j hm _ _ _ hj
theorem Row.kp {O O':VH} {el:TypeId} {sz B k c:Nat} {L:List MV} {S:List Nat} (h:Row O el sz B k c L) (u:Kp O O' S) (hS:BI O S) (hk:k ∉ S):Row O' el sz B k c L:=by
 obtain⟨⟨sp,h1,h2⟩,⟨j,h3,h4,h5⟩,h6,h7⟩:=h;exact⟨⟨sp,(u.2 k h7 hk).trans h1,h2⟩,⟨j,h3,Km h4 u.1,(u.2 j h4 (hS.ne h5)).trans h5⟩,h6,Km h7 u.1⟩
theorem Row.own {O O':VH} {el:TypeId} {sz B k c:Nat} {L L' sp:List MV} {S:List Nat} (h:Row O el sz B k c L) (u:Kp O O' S) (hS:BI O S) (hc:O'.hp k=some (.cells (L'++sp))) (hl:(L'++sp).length=c*sz):Row O' el sz B k c L':=by
 obtain⟨_,⟨j,h3,h4,h5⟩,h6,h7⟩:=h;exact⟨⟨sp,hc,hl⟩,⟨j,h3,Km h4 u.1,(u.2 j h4 (hS.ne h5)).trans h5⟩,h6,Km h7 u.1⟩
theorem oN.lt {O:VH} {B k:Nat}:∀{R:List Rec} {r:Rec},oN O B k (r::R)->∀x∈R,x.b<r.b
 | [],_,_,x,hx=>by cases hx
 | p::R,r,h,x,hx=>by
   obtain⟨_,_,h3,h4⟩:=h;rcases acs.1 hx with rfl | hx
   ·exact h3
   ·exact Nat.lt_trans (h4.lt x hx) h3
theorem oN.kp {O O':VH} {B k:Nat} {S:List Nat} (u:Kp O O' S) (hS:BI O S):∀{R:List Rec},oN O B k R->(∀r∈R,r.b=k\/(∃cs,O.hp r.b=some (.cells cs))->r.b=k\/r.b ∉ S)->k<B->oN O' B k R
 | [],_,_,_=>trivial
 | [r],h,_,_=>h
 | r::p::rest,⟨⟨c,h1,h2,h3⟩,h4,h5,h6⟩,hn,hk=>⟨⟨c,h1,h2,h3.kp u hS (((hn r (by simp)) (.inr (by obtain⟨sp,e,_⟩:=h3.cells;exact⟨_,e⟩))).resolve_left fun e=>by have:=h3.lo;omega)⟩,h4,h5,h6.kp u hS (fun x hx=>hn x (by simp[hx])) hk⟩
theorem GR.lo {O:VH} {el:TypeId} {sz B n i:Nat} {p:MV} {L:List MV} (h:GR O el sz B p n L) (e:gid p=some i):B<=i/\i<O.next:=by
 rcases h with⟨_,_,hp | hp⟩ | ⟨k2,c,hp,_,_,kK⟩
 ·rw[hp]at e;cases e
 ·rw[hp]at e;cases e
 ·rw[hp]at e;injection e with e;subst e;exact⟨kK.lo,kK.hi⟩
theorem GR.kp {O O':VH} {el:TypeId} {sz B n:Nat} {p:MV} {L:List MV} {S:List Nat} (h:GR O el sz B p n L) (u:Kp O O' S) (hS:BI O S) (hk:∀i,gid p=some i->i ∉ S):GR O' el sz B p n L:=by
 rcases h with h | ⟨k2,c,hp,h1,h2,kK⟩
 ·exact .inl h
 ·exact .inr ⟨k2,c,hp,h1,h2,kK.kp u hS (hk k2 (by rw[hp];rfl))⟩
theorem GR.MM {O:VH} {el:TypeId} {sz B n i:Nat} {p:MV} {L:List MV} (h:GR O el sz B p n L) (e:gid p=some i):∃cs,O.hp i=some (.cells cs):=by
 rcases h with⟨_,_,hp | hp⟩ | ⟨k2,c,hp,_,_,kK⟩
 ·rw[hp]at e;cases e
 ·rw[hp]at e;cases e
 ·rw[hp]at e;injection e with e;subst e
  obtain⟨sp,h1,_⟩:=kK.cells;exact⟨_,h1⟩
theorem BC.loc {O:VH} {B k:Nat} {r:Rec} {R:List Rec} {z tl:List MV} (h:BC O B k (r::R) z tl):∃pre post,O.hp r.b=some (.cells (pre++iX r++post))/\pre.length=r.off/\r.b<O.next/\(R=[]->r.b=k/\pre=[]/\post=tl)/\∀p rest,R=p::rest->pre=aC p.kids/\B<=r.b:=by
 cases R with
 | nil=>
   obtain⟨h1,h2⟩:=h.chain;refine⟨[],tl,?_,h2.symm,?_,fun _=>⟨h1,rfl,rfl⟩,fun p rest e=>by cases e⟩
   ·rw[h1];exact h.cells
   ·rw[h1];exact Km h.lt h.le
 | cons p rest=>
   obtain⟨⟨c,_,_,kK⟩,ho,_,_⟩:=h.chain;obtain⟨sp,h1,h2⟩:=kK.cells;exact⟨aC p.kids,sp,h1,by rw[c7,ho],kK.hi,(fun e=>by cases e),fun p' akN e=>by injection e with e1 e2;subst e1;exact⟨rfl,kK.lo⟩⟩
theorem BC.part {O O':VH} {B k:Nat} {r r':Rec} {R:List Rec} {z tl pre post:List MV} {S:List Nat} (h:BC O B k (r::R) z tl) (hc:O.hp r.b=some (.cells (pre++iX r++post))) (hl:pre.length=r.off) (hR:R=[]->post=tl) (u:Kp O O' S) (hb:r'.b=r.b) (ho:r'.off=r.off)
  (hn:∀x∈S,x=r.b\/gid r.q=some x) (oA:O'.hp r.b=some (.cells (pre++iX r'++post))):O'.hp k=some (.cells (oO (r'::R) z++tl))/\oN O' B k (r'::R):=by
 have vB:=h.chain;have ew:=vB.lt;have iL:=h.top
 have hS:BI O S:=fun x hx j t n e=>by
  rcases hn x hx with e2 | e2
  ·subst e2;rw[hc]at e;cases e
  ·obtain⟨cs,e3⟩:=iL.1.MM e2;rw[e3]at e;cases e
 cases R with
 | nil=>
   obtain⟨h1,h2⟩:=vB;have hp:pre=[]:=agt (by rw[hl,h2]);subst hp;refine⟨?_,⟨by rw[hb,h1],by rw[ho,h2]⟩⟩;rw[<-h1,oA,hR rfl];rfl
 | cons p rest=>
   obtain⟨⟨c,e1,e2,kK⟩,e3,e4,e5⟩:=vB;have ajm:=kK.lo
   have hkS:k ∉ S:=fun hm=>by
    have:=h.lt;rcases hn k hm with e | e
    ·omega
    ·have:=(iL.1.lo e).1;omega
   obtain⟨sp,th,VU⟩:=kK.cells;rw[hc]at th;injection th with th;injection th with th
   have dL:pre.length=(aC p.kids).length:=by rw[hl,e3,c7]
   rw[XO,XO]at th;obtain⟨qA,Ar⟩:=alC th dL;obtain⟨_,oM⟩:=alC Ar rfl;subst qA;subst oM
   refine⟨?_,⟨⟨c,by rw[e1,hb],e2,?_⟩,by rw[ho,e3],by rw[hb];exact e4,e5.kp u hS (fun x hx _=>?_) h.lt⟩⟩
   ·rw[u.2 k (Km h.lt h.le) hkS];exact h.cells
   ·rw[hb];refine kK.own u hS oA ?_;rw[Kn,Kn,se]at VU ⊢;exact VU
   ·refine .inr fun hm=>?_
    have h6:=ew x hx;rcases hn x.b hm with e | e
    ·omega
    ·have:=iL.2 _ e;omega
theorem BC.Jt {O O':VH} {B k:Nat} {r r':Rec} {R:List Rec} {z tl pre post:List MV} {S:List Nat} (h:BC O B k (r::R) z tl) (hc:O.hp r.b=some (.cells (pre++iX r++post))) (hl:pre.length=r.off) (hR:R=[]->post=tl) (u:Kp O O' S) (hb:r'.b=r.b) (ho:r'.off=r.off)
  (hn:∀x∈S,x=r.b\/gid r.q=some x) (oA:O'.hp r.b=some (.cells (pre++iX r'++post))) (ht:GR O' 112 4 B r'.q r'.kids.length (aC r'.kids)) (OW:∀i,gid r'.q=some i->r.b<i):BC O' B k (r'::R) z tl:=by
 obtain⟨h1,h2⟩:=h.part hc hl hR u hb ho hn oA;exact⟨h.lt,ags h.le u.1,h1,h.zl,h2,⟨ht,fun i e=>by rw[hb];exact OW i e⟩⟩
theorem BC.push {O O':VH} {B k k' c:Nat} {r:Rec} {R:List Rec} {z tl pre post:List MV} {S:List Nat} {nm:Bs} {fM:List (Bs×Bs)} (h:BC O B k (r::R) z tl) (hc:O.hp r.b=some (.cells (pre++iX r++post))) (hl:pre.length=r.off) (hR:R=[]->post=tl) (u:Kp O O' S)
  (hn:∀x∈S,x=r.b\/gid r.q=some x) (oA:O'.hp r.b=some (.cells (pre++iX {r with q:=.bq k' 0 (r.kids.length+1) c}++post))) (hk:gid r.q=some k'\/O.next<=k') (hlen:r.kids.length+1<=c)
  (kK:Row O' 112 4 B k' c (aC r.kids++iX ⟨k',r.kids.length*4,nm,fM,[],.sl 0 [] .nil⟩)):BC O' B k (⟨k',r.kids.length*4,nm,fM,[],.sl 0 [] .nil⟩::{r with q:=.bq k' 0 (r.kids.length+1) c}::R) z tl:=by
 obtain⟨h1,h2⟩:=h.part (r':={r with q:=.bq k' 0 (r.kids.length+1) c}) hc hl hR u rfl rfl hn oA
 have hrb:r.b<k':=by
  rcases hk with e | e
  ·exact h.top.2 _ e
  ·obtain⟨_,_,_,_,e2,_⟩:=h.loc;omega
 exact⟨h.lt,ags h.le u.1,h1,h.zl,⟨⟨c,rfl,hlen,kK⟩,rfl,hrb,h2⟩,⟨.inl ⟨rfl,by rw[aC],.inl rfl⟩,fun i e=>by cases e⟩⟩
theorem BC.step {O O':VH} {B k:Nat} {R:List Rec} {z z' tl tl':List MV} {S:List Nat} (h:BC O B k R z tl) (u:Kp O O' S) (hS:∀x∈S,x=k\/O.hp x=some .tok) (hc:O'.hp k=some (.cells (oO R z'++tl'))) (hz:z'.length=4):BC O' B k R z' tl':=by
 have hS2:BI O S:=fun x hx j t n e=>by
  rcases hS x hx with e2 | e2
  ·subst e2;rw[h.cells]at e;cases e
  ·rw[e2]at e;cases e
 have hn:∀{i:Nat},(∃cs,O.hp i=some (.cells cs))->i≠k->i ∉ S:=fun{i} ⟨cs,e⟩ hne hm=>by
  rcases hS i hm with e2 | e2
  ·exact hne e2
  ·rw[e2]at e;cases e
 refine⟨h.lt,ags h.le u.1,hc,hz,h.chain.kp u hS2 (fun r _ hr=>?_) h.lt,?_⟩
 ·by_cases e:r.b=k
  ·exact .inl e
  ·exact .inr (hn (hr.resolve_left e) e)
 ·have ht:=h.top;cases R with
  | nil=>trivial
  | cons r R=>exact⟨ht.1.kp u hS2 (fun i e=>hn (ht.1.MM e) (by have:=(ht.1.lo e).1;have:=h.lt;omega)),ht.2⟩
theorem Kp.set {O:VH} {k:Nat} {x:cf}:Kp O (O.set k x) [k]:=⟨agw _,fun i _ hn=>VH.ak _ _ (by simpa using hn)⟩
theorem Kp.refl {O:VH} {S:List Nat}:Kp O O S:=⟨agw _,fun _ _ _=>rfl⟩
theorem Kp.trans {O O1 O2:VH} {S T:List Nat} (h:Kp O O1 S) (k:Kp O1 O2 T):Kp O O2 (S++T):=⟨ags h.1 k.1,fun i hi hn=>by
 rw[ahX,not_or]at hn;rw[k.2 i (Km hi h.1) hn.2,h.2 i hi hn.1]⟩
theorem Kp.ge {O O1:VH} (h:O.Ge O1) {S:List Nat}:Kp O O1 S:=⟨h.next,fun i hi _=>h.hp i hi⟩
theorem Kp.bt {O O1:VH} {q:Option Nat} (h:br O q O1):Kp O O1 q.toList:=⟨h.next,fun i hi hn=>h.hp i hi fun e=>hn (by rw[e];simp)⟩
theorem Kp.k {O O1:VH} {tk:Tok} (h:cL tk O O1):Kp O O1 (Tok.id tk).toList:=⟨h.next,fun i hi hn=>h.hp i hi fun e=>hn (by rw[e];simp)⟩
theorem Kp.sub {O O1:VH} {S T:List Nat} (h:Kp O O1 S) (hs:∀x∈S,x∈T\/O.next<=x):Kp O O1 T:=⟨h.1,fun i hi hn=>h.2 i hi fun hm=>by
 rcases hs i hm with e | e
 ·exact hn e
 ·omega⟩
theorem BC.ge {O O':VH} {B k:Nat} {R:List Rec} {z tl:List MV} (h:BC O B k R z tl) (g:O.Ge O'):BC O' B k R z tl:=
 h.step (S:=[]) (Kp.ge g) (fun x hx=>by cases hx) ((g.hp _ (Km h.lt h.le)).trans h.cells) h.zl
def o_ (R:List Rec) (tk:Tok) (b9:Nat) (dn tx:Bool):List MV:=[.sl R.length (gR R) tk,mi b9,mb dn,mb tx]
structure BS (O:VH) (B k:Nat) (R:List Rec) (tk:Tok) (b9:Nat) (dn tx:Bool) (z:List MV):Prop where
 c:BC O B k R z (o_ R tk b9 dn tx)
 a:App O B 1 tk
theorem BS.ge {O O':VH} {B k b9:Nat} {R:List Rec} {tk:Tok} {dn tx:Bool} {z:List MV} (h:BS O B k R tk b9 dn tx z) (g:O.Ge O'):BS O' B k R tk b9 dn tx z:=⟨h.c.ge g,h.a.ge g⟩
def dF (k:Nat) (R:List Rec) (tk:Tok):List Nat:=k::(R.map (·.b)++(R.head?.bind fun r=>gid r.q).toList++(Tok.id tk).toList)
theorem ni {k:Nat} {R:List Rec} {tk:Tok}:k∈dF k R tk:=by simp[dF]
theorem pc {k:Nat} {r:Rec} {R:List Rec} {tk:Tok}:r.b∈dF k (r::R) tk:=by simp[dF]
theorem nj {k x:Nat} {r:Rec} {R:List Rec} {tk:Tok} (h:gid r.q=some x):x∈dF k (r::R) tk:=by simp[dF,h]
theorem Dq {k x:Nat} {R:List Rec} {tk:Tok} (h:Tok.id tk=some x):x∈dF k R tk:=by simp[dF,h]
theorem AF {k:Nat} {r:Rec} {R:List Rec} {tk:Tok} (h:r∈R):r.b∈dF k R tk:=by
 have:=List.mem_map_of_mem (f:=fun r:Rec=>r.b) h;simp only[dF,acs,ahX];exact .inr (.inl (.inl this))
theorem Kp.more {O O1 O2:VH} {U S:List Nat} (h:Kp O O1 U) (k:Kp O1 O2 S) (hs:∀x∈S,x∈U\/O.next<=x):Kp O O2 U:=⟨ags h.1 k.1,fun i hi hn=>by
 rw[k.2 i (Km hi h.1) (fun hm=>(hs i hm).elim hn fun e=>by omega),h.2 i hi hn]⟩
set_option linter.defProp false in
def aD:=acv dQ<|acv aiR<|acv aiQ<|acv LW<|acv LX n7
theorem qO {l:List MV} (h:l.length=4):∃a b c d,l=[a,b,c,d]:=by
 match l,h with
 | [a,b,c,d],_=>exact⟨_,_,_,_,rfl⟩
theorem App.xN {O:VH} {B sz k:Nat} {tk:Tok} {x:cf} (h:App O B sz tk) (hk:k<B):App (O.set k x) B sz tk:=by
 cases tk with
 | own t j=>exact⟨h.1,(VH.ak _ _ (by have:=h.2.2.1;omega)).trans h.2.1,h.2.2.1,h.2.2.2⟩
 | nil=>trivial
 | full=>trivial
 | ar=>exact h.elim
theorem BS.flag {O:VH} {B k b9 cnt':Nat} {R:List Rec} {tk:Tok} {dn tx dn' tx':Bool} {z:List MV} (h:BS O B k R tk b9 dn tx z):BS (O.set k (.cells (oO R z++o_ R tk cnt' dn' tx'))) B k R tk cnt' dn' tx' z:=
 ⟨h.c.step Kp.set (fun x hx=>.inl (by simpa using hx)) (VH.an _ _ _) h.c.zl,h.a.xN h.c.lt⟩
theorem aaA {O:VH} {B k b9:Nat} {R:List Rec} {tk:Tok} {dn tx:Bool} {z:List MV} (h:BS O B k R tk b9 dn tx z) (hc:b9<=1000000):
  VF Tryz.prog 294 [.ptr k 0] O (aE fun m O'=>m=mb (decide (b9+1<=4096))/\BS O' B k R tk (b9+1) dn tx z/\Kp O O' [k]):=by
 have hk:=h.c.cells;obtain⟨a0,a1,a2,a3,hr⟩:=qO (eU R z h.c.zl);have mH:=h.flag (cnt':=b9+1) (dn':=dn) (tx':=tx);unfold o_ at hk mH;rw[hr]at hk mH;simp only[aq,a_,agv,acu]at hk mH;refine VF.dy 15 [.tmp 2] Tryz.func294 ?_;by_cases h1:b9+1<=4096
 ·rw[decide_eq_true h1];refine ao @aD @hk ?_;exact⟨mH,Kp.set⟩
 ·rw[decide_eq_false h1];refine ao @aD @hk ?_;exact⟨mH,Kp.set⟩
theorem Fi {O:VH} {B k b9:Nat} {r:Rec} {R:List Rec} {tk:Tok} {dn tx:Bool} {z:List MV} (h:BS O B k (r::R) tk b9 dn tx z) (hl:R.length<=1000):
  VF Tryz.prog 269 [.ptr k 0] O (aE fun m O'=>m= .ptr r.b r.off/\O'=O):=by
 have hk:=h.c.cells;obtain⟨a0,a1,a2,a3,hr⟩:=qO (eU (r::R) z h.c.zl);unfold o_ at hk;rw[hr]at hk
 have bw:(gR (r::R))[R.length]?=some (.ptr r.b r.off):=by
  rw[qN,agx (by rw[kU];exact agw _),kU,Nat.sub_self];rfl
 have hCl:(gR (r::R)).length=R.length+1:=by rw[kU];rfl
 generalize gR (r::R)=C at*;simp only[aq,a_,List.cons_append,List.nil_append,List.length_cons]at hk;have ry:(((R.length+1:Nat):Int) - 1)=(R.length:Int):=by omega
 refine VF.bN 15 [.tmp 2] Tryz.func269 ?_;refine VC.ag aa (ae @aD ?_);refine VC.bB ?_;refine WC.reads ?_;refine gQ @aD @hk @ry @bw @u7 ?_;refine WC.sound aa (ae @aD ?_);trivial
def rD (R:List Rec):List (Bs×List (Bs×Bs)×List Nd):=R.map fun r=>(r.name,r.attrs,r.kids)
def qP (n b9:Nat) (dn:Bool):Option Int:=if dn then some 16 else if 64<=n then some 2 else if 4096<b9+1 then some 2 else none
theorem VH.set_comm {O:VH} {a b:Nat} {x y:cf} (h:a≠b):(O.set a x).set b y=(O.set b y).set a x:=by
 have key:bt (bt O.hp a (some x)) b (some y)=bt (bt O.hp b (some y)) a (some x):=by
  funext j
  by_cases e:j=a
  ·subst e;rw[aw _ _ h,aH,aH]
  ·by_cases e2:j=b
   ·subst e2;rw[aH,aw _ _ e,aH]
   ·rw[aw _ _ e2,aw _ _ e,aw _ _ e,aw _ _ e2]
 unfold VH.set;dsimp only;rw[key]
section
variable {G H:Gh} {n:Sz} {D:List Deferred} {e:Env} {a:Act} {P:Program} {tab:bY} {O O':VH} {w:World} {m:MV} {ops:Array Oper} {Q:VQ}
theorem bL.afs {brk:List Nat} {fuel i:Nat} {listed:Array Bool} {l:List Oper} {o:Oper} (ho:l[i]?=some o) (hr:Region.ready .any ⟨l⟩ listed=[i]) (hb:brk.contains i=false) (hA:F7 o.op=true)
  (hg:aN ⟨l⟩ o e=some true) (hy:∀G a w,WR G O w->FR G n D e a->dw P o a w G m O') (hd:bp n o.dst=true) (h:bL P n D ⟨l⟩ brk fuel (listed.setIfInBounds i true) (aV o.dst m e) O' Q):bL P n D ⟨l⟩ brk (fuel+1) listed e O Q:=by
 intro G a w hw aU;refine jG hr (by simp) fun j hj=>?_
 obtain rfl:j=i:=by simpa using hj
 obtain⟨nx,w',H,u,cj,xf,h1,h2,h3,h4⟩:=hy G a w hw aU;have CY:(⟨l⟩:Array Oper)[j]?=some o:=by simpa using ho
 simp only[wpOp,CY,bn aU hg,if_true];refine .inl ?_;unfold Oper.wp;rw[cj];have hk:=h H (a.put o.dst u) w' h2 ((aU.mono h1).aV hd h3)
 have Yh:TH brk G w j w'/\je P .any ⟨l⟩ (cz G n D Q) (TH brk G w) fuel (listed.setIfInBounds j true) (a.put o.dst u) w':=by
  have pD:=h4 hA;have hs:Sx G w w':=⟨SS.le h1 h2.ss,pD⟩;refine⟨fun _=>hs,jH (fun _ _ _=>cz.le h1) _ _ _ _ (fun k _ x hT DK=>?_) hk⟩;obtain⟨g1,g2⟩:=hT DK;exact⟨SS.le h1 g1,fun k' b mM=>(g2 k' b (h1.bR mM)).trans (pD k' b mM)⟩
 rcases xf with rfl | ⟨rfl,rfl⟩<;>exact Yh
end
theorem aaB {G:Gh} {n:Sz} {D:List Deferred} {e:Env} {a:Act} {O:VH} {w:World} {d:Option Tmp} {ty:TypeId} {ps:String} {af:Array Edge} {g:Option (Nat×Bool)} (hw:WR G O w) (hf:FR G n D e a):dw Tryz.prog (.mk d (.buildSlice 110 1 #[(0,.const (.agg #[.string ⟨⟨[]⟩⟩,.slice none 0 0,.slice none 0 0,.string ⟨⟨[]⟩⟩]))]) ty ps af g) a w G (.sl 1 [.str [],.sl 0 [] .nil,.sl 0 [] .nil,.str []] .full) O:=
 dw.of (tG (t:=110) (len:=1) (m:=.sl 1 [.str [],.sl 0 [] .nil,.sl 0 [] .nil,.str []] .full) (parts:=[(0,.agg [.str [],.sl 0 [] .nil,.sl 0 [] .nil,.str []])]) (ps:= #[(0,.agg #[.string ⟨⟨[]⟩⟩,.slice none 0 0,.slice none 0 0,.string ⟨⟨[]⟩⟩])]) aa hw (by kernel_rfl) rfl
  (aO.cons (.agg (us:=[.string ⟨⟨[]⟩⟩,.slice none 0 0,.slice none 0 0,.string ⟨⟨[]⟩⟩]) rfl (aO.cons .str (aO.cons .slnil (aO.cons .slnil (aO.cons .str aO.nil)))).2) aO.nil)) (by simp[execOp,Act.eval])
theorem aft (L sp:List MV) (x y z w a b c d:MV):((((L++[x,y,z,w]++sp).set L.length a).set (L.length+1) b).set (L.length+1+1) c).set (L.length+1+1+1) d=L++[a,b,c,d]++sp:=by
 induction L with
 | nil=>rfl
 | cons e L ih=>
   simp only[agv,yP,List.set_cons_succ];rw[ih]
theorem App.MN {O O':VH} {B sz:Nat} {tk:Tok} {S:List Nat} (h:App O B sz tk) (u:Kp O O' S) (hS:∀x∈S,O.hp x≠some .tok):App O' B sz tk:=by
 cases tk with
 | own t k=>exact⟨h.1,(u.2 t h.2.2.2 (fun hm=>hS t hm h.2.1)).trans h.2.1,h.2.2.1,Km h.2.2.2 u.1⟩
 | nil=>trivial
 | full=>trivial
 | ar=>exact h.elim
theorem SV {O:VH} {B n:Nat} {p:MV} {L:List MV} (h:GR O 112 4 B p n L):gZ (eh Tryz.prog) 110 p=some (.v (.int .i64 n)):=by
 rcases h with⟨rfl,_,rfl | rfl⟩ | ⟨k,c,rfl,_⟩
 ·exact fj n7
 ·exact fj n7
 ·exact Hl n7
theorem aaC {O:VH} {B k b9:Nat} {R:List Rec} {tk:Tok} {dn tx:Bool} {z:List MV} (h:BS O B k R tk b9 dn tx z) (hc:b9<=1000000) (kd:Int) (nm tt:Bs) (fM:List (Bs×Bs)) (p1 p2 p3:Int) (HZ:fM.length<=100000) (kj:∀r∈R,r.kids.length<=1000000):
  VF Tryz.prog 267 [.ptr k 0,.agg [mi kd,.str nm,.sl fM.length (fM.flatMap bh) .ar,.str tt,mi p1,mi p2,mi p3]] O (aE fun m O'=>Kp O O' (dF k R tk)/\match qP R.length b9 dn with
   | some e=>m=mi e
   | none=>m=mi 0/\∃R' tk',BS O' B k R' tk' (b9+1) false false z/\rD R'=(nm,fM,[])::rD R/\∀x∈dF k R' tk',x∈dF k R tk\/O.next<=x):=by
 obtain⟨a0,a1,a2,a3,hr⟩:=qO (eU R z h.c.zl);have gu:=h.c.lt;have hBn:=h.c.le;simp only[aq];refine VF.bN 87 [.tmp 4] Tryz.func267 ?_;refine VC.ag aa (ae @aD ?_);refine VC.bx ?_;rintro O1 ⟨aM,C4,cW⟩;have h1:=h.ge aM;have dY:=h1.c.cells;unfold o_ at dY;rw[hr]at dY;simp only[aq,a_,agv,acu]at dY;have jw:Kp O O1 (dF k R tk):=Kp.ge aM;have vI:∀x∈[k],x∈dF k R tk\/O.next<=x:=fun x hx=>.inl (by rw[agr]at hx;rw[hx];exact ni)
 cases dn;rotate_left
 ·refine VC.ag aa (ao @aD @dY ?_);exact⟨jw,rfl⟩
 by_cases EA:64<=R.length
 ·have hE:qP R.length b9 false=some 2:=by unfold qP;rw[if_neg (by simp),if_pos EA]
  rw[hE];refine VC.ag aa (ao @aD @dY ?_);exact jw
 refine VC.ag aa (ao @aD @dY ?_);refine ah.rt (aaA h1 hc) ?_;rintro _ O2 ⟨rfl,h2,dm⟩;by_cases EL:b9+1<=4096;rotate_left
 ·have hE:qP R.length b9 false=some 2:=by unfold qP;rw[if_neg (by simp),if_neg EA,if_pos (by omega)]
  rw[hE,decide_eq_false EL];refine ae @aD ?_;exact jw.more dm vI
 have hE:qP R.length b9 false=none:=by unfold qP;rw[if_neg (by simp),if_neg EA,if_neg (by omega)]
 rw[hE,decide_eq_true EL];dsimp only;refine ae @aD ?_;have QP:Kp O O2 (dF k R tk):=jw.more dm vI;have Fj:=(dm.2 _ (by omega) (by simp;omega)).trans C4;have iq:=dm.1;refine VC.ag aa (ao @aD @Fj ?_);refine VC.al ?_;rintro O3 ⟨aG,lq,gm⟩;have h3:=h2.ge aG;have dz:=h3.c.cells;have BJ:Kp O O3 (dF k R tk):=QP.more (Kp.ge aG (S:=[])) (fun x hx=>by cases hx);have hR:R.length<64:=by omega
 cases R with
 | nil=>
   obtain rfl:z=[a0,a1,a2,a3]:=hr;unfold o_ at dz;simp only[oO,gR,List.map_nil,List.reverse_nil,XN,aq,a_,agv,acu]at dz;refine VC.ag aa (aJ @aD @dz @lq ?_);refine VC.gen ?_;intro O4 o8;have jq:O4.hp k=some (.cells [.str nm,.sl fM.length (fM.flatMap bh) .ar,.sl 0 [] .nil,.str [],.sl 0 [] tk,.v (.int .i64 (b9+1:Nat)),.v (.bool false),.v (.bool tx)]):=by rw[o8];exact VH.an _ _ _
   have kR:App O4 B 1 tk:=by rw[o8];exact h3.a.xN gu
   have gI:O4.next=O3.next:=by rw[o8];rfl
   have ahj:Kp O O4 (dF k [] tk):=BJ.more (S:=[k]) (by rw[o8];exact Kp.set) vI;clear o8;refine WC.bO (.held [12]) [(0,.rd),(1,.rd),(2,.rd),(3,.rd),(4,.rd),(5,.rd),(6,.rd),(7,.rd),(8,.one),(9,.one),(10,.one),(11,.rd),(12,.one)] ?_;refine ao @aD @jq ?_;have cC:=bj (tk':=.full) (n:=0) (k:=1) (cs:=[]) (ds:=[.ptr k 0]) LW LX kR rfl rfl rfl (by decide) (by decide) (by decide) (by decide);refine VL.app cC ?_;have gq:=VH.mu kR jq (by simp) (by omega);have fS:=VH.dU O4 tk;have fz:App (O4.after tk) B 1 (.own O4.next 1):=App.after (by omega);have tj:Kp O (O4.after tk) (dF k [] tk):=ahj.more (Kp.k (cL.after kR)) (fun x hx=>.inl (Dq (by simpa using hx)));generalize O4.after tk=O5 at*;refine ao @aD @gq ?_;refine VC.gen ?_;intro O6 BD;have nM:O6.hp k=some (.cells [.str nm,.sl fM.length (fM.flatMap bh) .ar,.sl 0 [] .nil,.str [],.sl 1 [.ptr k 0] (.own O4.next 1),.v (.int .i64 (b9+1:Nat)),.v (.bool false),.v (.bool tx)]):=by rw[BD];exact VH.an _ _ _
   have BK:App O6 B 1 (.own O4.next 1):=by rw[BD];exact fz.xN gu
   have Fk:Kp O O6 (dF k [] tk):=tj.more (S:=[k]) (by rw[BD];exact Kp.set) vI;have n9:O6.next=O5.next:=by rw[BD];rfl
   clear BD;refine VC.ag aa (ao @aD @nM ?_);refine WC.sound aa (ae @aD ?_);refine⟨Fk.more Kp.set vI,[⟨k,0,nm,fM,[],.sl 0 [] .nil⟩],.own O4.next 1,⟨⟨gu,by rw[VH.eX];omega,?_,rfl,⟨rfl,rfl⟩,⟨.inl ⟨rfl,by rw[aC],.inl rfl⟩,(fun i e=>by cases e)⟩⟩,BK.xN gu⟩,rfl,fun x hx=>?_⟩
   ·rw[VH.an];rfl
   ·have hx:x∈[k,k,O4.next]:=hx;simp only[acs,acw,or_false]at hx;rcases hx with rfl | rfl | rfl
    ·exact .inl ni
    ·exact .inl ni
    ·exact .inr (by omega)
 | cons r R=>
   unfold o_ at dz;rw[hr]at dz;simp only[aq,a_,agv,acu,yP]at dz;obtain⟨pre,post,eN,dL,CD,BL,Ju⟩:=h3.c.loc;have iL:=h3.c.top;refine VC.ag aa (ao @aD @dz ?_);refine ah.rt (Fi h3 (by rw[yP]at hR;omega)) ?_;rintro _ O9 ⟨rfl,eO⟩;rw[eO];clear eO O9
   refine ae @aD ?_;have hkr:=kj r (by simp)
   have Wv:(pre++iX r++post)[r.off+2]?=some r.q:=by
    rw[XO,agx (by omega), <-dL,agu];rfl
   have kF:∀q',(pre++iX r++post).set (r.off+2) q'=pre++iX {r with q:=q'}++post:=fun q'=>by
    rw[XO,ah4 _ _ (by omega), <-dL,agu,XO];rfl
   have hlC:(pre++iX r++post).length=pre.length+4+post.length:=by simp[se];omega
   generalize hC:pre++iX r++post=C at*;refine VC.II [7,8,9,10,11,12] (by kernel_rfl) ?_;refine bL.By 0 ?_;refine ae @aD ?_;refine bL.By 1 ?_;refine ae @aD ?_;refine bL.By 2 ?_;refine ae @aD ?_;refine bL.By 3 ?_;refine aJ @aD @eN @Wv ?_;refine bL.By 4 ?_;refine ao @aD @lq ?_;have gP:=SV iL.1;refine bL.By 5 ?_;refine ao @aD @gP ?_;refine bL.afs (i:=6) rfl (by kernel_rfl) (by kernel_rfl) rfl rfl (fun _ _ _ hw hf=>aaB hw hf) rfl ?_;simp only[aj];refine bL.fin (by kernel_rfl) ?_;refine cn.st (i:=7) rfl (by kernel_rfl) rfl rfl (Qz aa (te:=⟨_,4,80,_⟩) (dx:=.slice 112) (q:=.sl 1 [.str [],.sl 0 [] .nil,.sl 0 [] .nil,.str []] .full) (j:=1) (ds:=[.str [],.sl 0 [] .nil,.sl 0 [] .nil,.str []]) iL.1 rfl rfl (by rw[n7];rfl) tS.1.1 (by rw[n7];rfl) trivial (by dsimp only;omega) (by simp only[maxLen];omega) (by omega) rfl rfl) ?_;rintro m O4 ⟨xk,mQ,iy,hm⟩
   obtain⟨k2,c2,rfl,bJ⟩:∃k2 c2,m= .bq k2 0 (r.kids.length+1) c2/\(gid r.q=some k2\/O3.next<=k2):=by
    rcases hm with⟨k2,c2,h1,h2⟩ | ⟨h1,_⟩
    ·exact⟨k2,c2,h1,h2.imp id And.left⟩
    ·cases h1
   obtain⟨cQ,zU⟩:Row O4 112 4 B k2 c2 (aC r.kids++[.str [],.sl 0 [] .nil,.sl 0 [] .nil,.str []])/\r.kids.length+1<=c2:=by
    rcases xk with⟨h1,_⟩ | ⟨k3,c3,h1,h2,_,h4⟩
    ·omega
    ·injection h1 with h1 _ _ h3;subst h1;subst h3;exact⟨h4,h2⟩
   have aaD:r.b<k2:=by
    rcases bJ with e | e
    ·exact iL.2 _ e
    ·omega
   have ajn:=mQ.next;have ff:O4.hp r.b=some (.cells C):=(mQ.hp _ CD (fun e=>by have:=iL.2 _ e;omega)).trans eN;obtain⟨sp,tn,vu⟩:=cQ.cells;simp only[aj];have uC:=c7 r.kids
   have rE:∀a b c d:MV,((((aC r.kids++([.str [],.sl 0 [] .nil,.sl 0 [] .nil,.str []]:List MV)++sp).set (r.kids.length*4) a).set (r.kids.length*4+1) b).set (r.kids.length*4+1+1) c).set (r.kids.length*4+1+1+1) d=aC r.kids++[a,b,c,d]++sp:=fun a b c d=>by
    rw[<-uC];exact aft _ _ _ _ _ _ _ _ _ _
   generalize DI:aC r.kids++[.str [],.sl 0 [] .nil,.sl 0 [] .nil,.str []]++sp=C2 at*;refine cn.Hz 8 ?_;refine ae @aD ?_;refine cn.Hz 10 ?_;refine ae @aD ?_;refine cn.Hz 11 ?_;refine ae @aD ?_;refine cn.two (i:=9) (j:=12) (by kernel_rfl) ?_ ?_
   ·refine aK.o1 ?_;refine aJ @aD @tn @rE ?_;refine cn.SM (i:=12) ?_;refine aJ @aD @ff @kF ?_;refine cn.bO [] ?_;refine WL.gen ?_;intro O5 mf;have fS:O5.next=O4.next:=by rw[mf];rfl
    have fK:O5.hp r.b=some (.cells (pre++iX {r with q:=.bq k2 0 (r.kids.length+1) c2}++post)):=by rw[mf];exact VH.an _ _ _
    have AG:O5.hp k2=some (.cells (aC r.kids++iX ⟨k2,r.kids.length*4,nm,fM,[],.sl 0 [] .nil⟩++sp)):=by rw[mf];exact VH.sn (VH.an _ _ _)
    have u4:Kp O4 O5 [k2,r.b]:=by rw[mf];exact Kp.trans (S:=[k2]) (T:=[r.b]) Kp.set Kp.set
    clear mf
    have QQ:BI O4 [k2,r.b]:=fun x hx j t n e=>by
     simp only[acs,acw,or_false]at hx;rcases hx with rfl | rfl
     ·rw[tn]at e;cases e
     ·rw[ff]at e;cases e
    have QR:Row O5 112 4 B k2 c2 (aC r.kids++iX ⟨k2,r.kids.length*4,nm,fM,[],.sl 0 [] .nil⟩):=cQ.own u4 QQ AG (by rw[<-vu, <-DI];simp[se];omega)
    have u3:Kp O3 O5 (r.b::(gid r.q).toList):=((Kp.bt mQ).trans u4).sub (fun x hx=>by
     simp only[ahX,acs,acw,or_false]at hx ⊢;rcases hx with hx | hx | hx
     ·exact .inl (.inr hx)
     ·rcases bJ with e | e
      ·rw[e];simp[hx]
      ·exact .inr (by omega)
     ·exact .inl (.inl hx))
    have oo:∀x∈r.b::(gid r.q).toList,x=r.b\/gid r.q=some x:=fun x hx=>by
     rcases acs.1 hx with e | e
     ·exact .inl e
     ·exact .inr (by simpa using e)
    have Jv:BC O5 B k _ z (o_ (r::R) tk (b9+1) false tx):=h3.c.push (by rw[hC];exact eN) dL (fun e=>(BL e).2.2) u3 oo fK bJ zU QR
    have fz:App O5 B 1 tk:=by
     refine h3.a.MN u3 fun x hx e=>?_
     rcases oo x hx with e2 | e2
     ·subst e2;rw[eN]at e;cases e
     ·obtain⟨cs,e3⟩:=iL.1.MM e2;rw[e3]at e;cases e
    have tj:Kp O O5 (dF k (r::R) tk):=BJ.more u3 (fun x hx=>by
     rcases oo x hx with e | e
     ·rw[e];exact .inl pc
     ·exact .inl (nj e))
    obtain⟨b0,b1,b2,b3,kV⟩:=qO (eU (⟨k2,r.kids.length*4,nm,fM,[],.sl 0 [] .nil⟩::{r with q:=.bq k2 0 (r.kids.length+1) c2}::R) z h.c.zl);have gq:=Jv.cells;unfold o_ at gq;rw[kV]at gq;have hP:=kU (r::R);generalize hPG:gR (r::R)=PT at*;simp only[aq,a_,agv,acu,yP]at gq hP
    have aaE:(pre++iX {r with q:=.bq k2 0 (r.kids.length+1) c2}++post)[r.off+2]?=some (.bq k2 0 (r.kids.length+1) c2):=by
     rw[XO,agx (by omega), <-dL,agu];rfl
    generalize pre++iX {r with q:=.bq k2 0 (r.kids.length+1) c2}++post=C5 at*;have ry:(((r.kids.length+1:Nat):Int) - 1)=(r.kids.length:Int):=by omega
    refine ae @aD ?_;refine WC.bO (.held [20]) [(0,.rd),(1,.rd),(2,.rd),(3,.rd),(4,.rd),(5,.rd),(6,.rd),(7,.rd),(8,.rd),(9,.rd),(10,.rd),(11,.rd),(12,.rd),(13,.rd),(14,.rd),(15,.rd),(16,.one),(17,.one),(18,.one),(19,.rd),(20,.one)] ?_;refine Bm @aD @gq @fK @aaE @ry @u7 ?_;have cC:=bj (tk':=.full) (n:=R.length+1) (k:=1) (cs:=PT) (ds:=[.ptr k2 (r.kids.length*4)]) LW LX fz (by rw[hP,alL]) rfl rfl (by decide) (by decide) (by simp only[yP]at hR;omega) (by simp only[yP,maxLen]at hR ⊢;omega);refine VL.app cC ?_;have nM:=VH.mu fz gq (by simp) (by omega);have n9:=VH.dU O5 tk;have BK:App (O5.after tk) B 1 (.own O5.next 1):=App.after (by omega);have u6:Kp O5 (O5.after tk) (Tok.id tk).toList:=Kp.k (cL.after fz)
    have eR:∀x∈(Tok.id tk).toList,O5.hp x=some .tok/\B<=x:=fun x hx=>by
     have e:Tok.id tk=some x:=by simpa using hx
     cases tk with
     | own s j=>injection e with e;subst e;exact⟨fz.2.1,fz.2.2.1⟩
     | _=>cases e
    have Fk:Kp O (O5.after tk) (dF k (r::R) tk):=tj.more u6 (fun x hx=>.inl (Dq (by simpa using hx)));have aaF:BC (O5.after tk) B k _ z _:=Jv.step (tl':=[.sl (R.length+1) PT tk,mi (b9+1:Nat),mb false,mb tx]) u6 (fun x hx=>.inr (eR x hx).1) (by rw[kV];exact nM) h.c.zl;generalize O5.after tk=O6 at*;refine ao @aD @nM ?_;refine VC.gen ?_;intro O7 qb;have ui:O7.hp k=some (.cells [b0,b1,b2,b3,.sl (R.length+1+1) (PT++[.ptr k2 (r.kids.length*4)]) (.own O5.next 1),.v (.int .i64 (b9+1:Nat)),.v (.bool false),.v (.bool tx)]):=by rw[qb];exact VH.an _ _ _
    have Jw:App O7 B 1 (.own O5.next 1):=by rw[qb];exact BK.xN gu
    have QS:Kp O O7 (dF k (r::R) tk):=Fk.more (S:=[k]) (by rw[qb];exact Kp.set) vI;have uh:O7.next=O6.next:=by rw[qb];rfl
    have aaG:BC O7 B k _ z [.sl (R.length+1+1) (PT++[.ptr k2 (r.kids.length*4)]) (.own O5.next 1),.v (.int .i64 (b9+1:Nat)),.v (.bool false),.v (.bool tx)]:=aaF.step (S:=[k]) (by rw[qb];exact Kp.set) (fun x hx=>.inl (by simpa using hx)) (by rw[kV];exact ui) h.c.zl;clear qb;refine VC.ag aa (ao @aD @ui ?_);refine WC.sound aa (ae @aD ?_);refine⟨QS.more Kp.set vI,⟨k2,r.kids.length*4,nm,fM,[],.sl 0 [] .nil⟩::{r with q:=.bq k2 0 (r.kids.length+1) c2}::R,.own O5.next 1,⟨aaG.step (S:=[k]) Kp.set (fun x hx=>.inl (by simpa using hx)) ?_ h.c.zl,Jw.xN gu⟩,rfl,fun x hx=>?_⟩;rotate_left
    ·have hx:x∈k::((k2::r.b::R.map (·.b))++[]++[O5.next]):=hx;simp only[acs,ahX,ah1,acw,or_false,List.mem_map]at hx;rcases hx with rfl | (rfl | rfl | ⟨g,hg,rfl⟩) | rfl
     ·exact .inl ni
     ·rcases bJ with e | e
      ·exact .inl (nj e)
      ·exact .inr (by omega)
     ·exact .inl pc
     ·exact .inl (AF (List.mem_cons_of_mem _ hg))
     ·exact .inr (by omega)
    rw[VH.an,kV, <-hPG];have e:gR (⟨k2,r.kids.length*4,nm,fM,[],.sl 0 [] .nil⟩::{r with q:=.bq k2 0 (r.kids.length+1) c2}::R)=gR (r::R)++[.ptr k2 (r.kids.length*4)]:=qN _ _;unfold o_;rw[e];rfl
   ·refine aK.o1 ?_;refine aJ @aD @ff @kF ?_;refine cn.SM (i:=9) ?_;refine aJ @aD @tn @rE ?_;refine cn.bO [] ?_;refine WL.gen ?_;intro O5 mf;rw[VH.set_comm (by omega)]at mf;have fS:O5.next=O4.next:=by rw[mf];rfl
    have fK:O5.hp r.b=some (.cells (pre++iX {r with q:=.bq k2 0 (r.kids.length+1) c2}++post)):=by rw[mf];exact VH.an _ _ _
    have AG:O5.hp k2=some (.cells (aC r.kids++iX ⟨k2,r.kids.length*4,nm,fM,[],.sl 0 [] .nil⟩++sp)):=by rw[mf];exact VH.sn (VH.an _ _ _)
    have u4:Kp O4 O5 [k2,r.b]:=by rw[mf];exact Kp.trans (S:=[k2]) (T:=[r.b]) Kp.set Kp.set
    clear mf
    have QQ:BI O4 [k2,r.b]:=fun x hx j t n e=>by
     simp only[acs,acw,or_false]at hx;rcases hx with rfl | rfl
     ·rw[tn]at e;cases e
     ·rw[ff]at e;cases e
    have QR:Row O5 112 4 B k2 c2 (aC r.kids++iX ⟨k2,r.kids.length*4,nm,fM,[],.sl 0 [] .nil⟩):=cQ.own u4 QQ AG (by rw[<-vu, <-DI];simp[se];omega)
    have u3:Kp O3 O5 (r.b::(gid r.q).toList):=((Kp.bt mQ).trans u4).sub (fun x hx=>by
     simp only[ahX,acs,acw,or_false]at hx ⊢;rcases hx with hx | hx | hx
     ·exact .inl (.inr hx)
     ·rcases bJ with e | e
      ·rw[e];simp[hx]
      ·exact .inr (by omega)
     ·exact .inl (.inl hx))
    have oo:∀x∈r.b::(gid r.q).toList,x=r.b\/gid r.q=some x:=fun x hx=>by
     rcases acs.1 hx with e | e
     ·exact .inl e
     ·exact .inr (by simpa using e)
    have Jv:BC O5 B k _ z (o_ (r::R) tk (b9+1) false tx):=h3.c.push (by rw[hC];exact eN) dL (fun e=>(BL e).2.2) u3 oo fK bJ zU QR
    have fz:App O5 B 1 tk:=by
     refine h3.a.MN u3 fun x hx e=>?_
     rcases oo x hx with e2 | e2
     ·subst e2;rw[eN]at e;cases e
     ·obtain⟨cs,e3⟩:=iL.1.MM e2;rw[e3]at e;cases e
    have tj:Kp O O5 (dF k (r::R) tk):=BJ.more u3 (fun x hx=>by
     rcases oo x hx with e | e
     ·rw[e];exact .inl pc
     ·exact .inl (nj e))
    obtain⟨b0,b1,b2,b3,kV⟩:=qO (eU (⟨k2,r.kids.length*4,nm,fM,[],.sl 0 [] .nil⟩::{r with q:=.bq k2 0 (r.kids.length+1) c2}::R) z h.c.zl);have gq:=Jv.cells;unfold o_ at gq;rw[kV]at gq;have hP:=kU (r::R);generalize hPG:gR (r::R)=PT at*;simp only[aq,a_,agv,acu,yP]at gq hP
    have aaE:(pre++iX {r with q:=.bq k2 0 (r.kids.length+1) c2}++post)[r.off+2]?=some (.bq k2 0 (r.kids.length+1) c2):=by
     rw[XO,agx (by omega), <-dL,agu];rfl
    generalize pre++iX {r with q:=.bq k2 0 (r.kids.length+1) c2}++post=C5 at*;have ry:(((r.kids.length+1:Nat):Int) - 1)=(r.kids.length:Int):=by omega
    refine ae @aD ?_;refine WC.bO (.held [20]) [(0,.rd),(1,.rd),(2,.rd),(3,.rd),(4,.rd),(5,.rd),(6,.rd),(7,.rd),(8,.rd),(9,.rd),(10,.rd),(11,.rd),(12,.rd),(13,.rd),(14,.rd),(15,.rd),(16,.one),(17,.one),(18,.one),(19,.rd),(20,.one)] ?_;refine Bm @aD @gq @fK @aaE @ry @u7 ?_;have cC:=bj (tk':=.full) (n:=R.length+1) (k:=1) (cs:=PT) (ds:=[.ptr k2 (r.kids.length*4)]) LW LX fz (by rw[hP,alL]) rfl rfl (by decide) (by decide) (by simp only[yP]at hR;omega) (by simp only[yP,maxLen]at hR ⊢;omega);refine VL.app cC ?_;have nM:=VH.mu fz gq (by simp) (by omega);have n9:=VH.dU O5 tk;have BK:App (O5.after tk) B 1 (.own O5.next 1):=App.after (by omega);have u6:Kp O5 (O5.after tk) (Tok.id tk).toList:=Kp.k (cL.after fz)
    have eR:∀x∈(Tok.id tk).toList,O5.hp x=some .tok/\B<=x:=fun x hx=>by
     have e:Tok.id tk=some x:=by simpa using hx
     cases tk with
     | own s j=>injection e with e;subst e;exact⟨fz.2.1,fz.2.2.1⟩
     | _=>cases e
    have Fk:Kp O (O5.after tk) (dF k (r::R) tk):=tj.more u6 (fun x hx=>.inl (Dq (by simpa using hx)));have aaF:BC (O5.after tk) B k _ z _:=Jv.step (tl':=[.sl (R.length+1) PT tk,mi (b9+1:Nat),mb false,mb tx]) u6 (fun x hx=>.inr (eR x hx).1) (by rw[kV];exact nM) h.c.zl;generalize O5.after tk=O6 at*;refine ao @aD @nM ?_;refine VC.gen ?_;intro O7 qb;have ui:O7.hp k=some (.cells [b0,b1,b2,b3,.sl (R.length+1+1) (PT++[.ptr k2 (r.kids.length*4)]) (.own O5.next 1),.v (.int .i64 (b9+1:Nat)),.v (.bool false),.v (.bool tx)]):=by rw[qb];exact VH.an _ _ _
    have Jw:App O7 B 1 (.own O5.next 1):=by rw[qb];exact BK.xN gu
    have QS:Kp O O7 (dF k (r::R) tk):=Fk.more (S:=[k]) (by rw[qb];exact Kp.set) vI;have uh:O7.next=O6.next:=by rw[qb];rfl
    have aaG:BC O7 B k _ z [.sl (R.length+1+1) (PT++[.ptr k2 (r.kids.length*4)]) (.own O5.next 1),.v (.int .i64 (b9+1:Nat)),.v (.bool false),.v (.bool tx)]:=aaF.step (S:=[k]) (by rw[qb];exact Kp.set) (fun x hx=>.inl (by simpa using hx)) (by rw[kV];exact ui) h.c.zl;clear qb;refine VC.ag aa (ao @aD @ui ?_);refine WC.sound aa (ae @aD ?_);refine⟨QS.more Kp.set vI,⟨k2,r.kids.length*4,nm,fM,[],.sl 0 [] .nil⟩::{r with q:=.bq k2 0 (r.kids.length+1) c2}::R,.own O5.next 1,⟨aaG.step (S:=[k]) Kp.set (fun x hx=>.inl (by simpa using hx)) ?_ h.c.zl,Jw.xN gu⟩,rfl,fun x hx=>?_⟩;rotate_left
    ·have hx:x∈k::((k2::r.b::R.map (·.b))++[]++[O5.next]):=hx;simp only[acs,ahX,ah1,acw,or_false,List.mem_map]at hx;rcases hx with rfl | (rfl | rfl | ⟨g,hg,rfl⟩) | rfl
     ·exact .inl ni
     ·rcases bJ with e | e
      ·exact .inl (nj e)
      ·exact .inr (by omega)
     ·exact .inl pc
     ·exact .inl (AF (List.mem_cons_of_mem _ hg))
     ·exact .inr (by omega)
    rw[VH.an,kV, <-hPG];have e:gR (⟨k2,r.kids.length*4,nm,fM,[],.sl 0 [] .nil⟩::{r with q:=.bq k2 0 (r.kids.length+1) c2}::R)=gR (r::R)++[.ptr k2 (r.kids.length*4)]:=qN _ _;unfold o_;rw[e];rfl
def Rec.nd (r:Rec):Nd:=.mk r.name r.attrs r.kids []
theorem oN.head {O:VH} {B k:Nat} {p:Rec} {R:List Rec} {K:List Nd} (h:oN O B k (p::R)):oN O B k ({p with kids:=K}::R):=by
 cases R with
 | nil=>exact h
 | cons g R=>exact h
theorem MO {p:Rec} {R:List Rec} {z:List MV} {K:List Nd}:oO ({p with kids:=K}::R) z=oO (p::R) z:=by
 cases R with
 | nil=>rfl
 | cons g R=>rfl
def MP (r:Rec):List Rec->List Rec
 | []=>[]
 | p::R=>{p with kids:=p.kids++[r.nd]}::R
def MQ (r:Rec) (z:List MV):List Rec->List MV
 | []=>dh r.nd
 | _::_=>z
theorem BC.pop {O O':VH} {B k:Nat} {r:Rec} {R:List Rec} {z tl pre post:List MV} {S:List Nat} (h:BC O B k (r::R) z tl) (hc:O.hp r.b=some (.cells (pre++iX r++post))) (hl:pre.length=r.off) (hR:R=[]->post=tl) (u:Kp O O' S)
  (hn:∀x∈S,x=r.b\/gid r.q=some x) (oA:O'.hp r.b=some (.cells (pre++dh r.nd++post))):BC O' B k (MP r R) (MQ r z R) tl:=by
 have vB:=h.chain;have ew:=vB.lt;have iL:=h.top
 have hS:BI O S:=fun x hx j t n e=>by
  rcases hn x hx with e2 | e2
  ·subst e2;rw[hc]at e;cases e
  ·obtain⟨cs,e3⟩:=iL.1.MM e2;rw[e3]at e;cases e
 cases R with
 | nil=>
   obtain⟨h1,h2⟩:=vB;have hp:pre=[]:=agt (by rw[hl,h2]);subst hp;refine⟨h.lt,ags h.le u.1,?_,lT _,trivial,trivial⟩;rw[<-h1,oA,hR rfl];rfl
 | cons p rest=>
   obtain⟨⟨c,e1,e2,kK⟩,e3,e4,e5⟩:=vB;have ajm:=kK.lo
   have hkS:k ∉ S:=fun hm=>by
    have:=h.lt;rcases hn k hm with e | e
    ·omega
    ·have:=(iL.1.lo e).1;omega
   obtain⟨sp,th,VU⟩:=kK.cells;rw[hc]at th;injection th with th;injection th with th
   have dL:pre.length=(aC p.kids).length:=by rw[hl,e3,c7]
   rw[XO,XO]at th;obtain⟨qA,Ar⟩:=alC th dL;obtain⟨_,oM⟩:=alC Ar rfl;subst qA;subst oM
   have hlen:(p.kids++[r.nd]).length=p.kids.length+1:=by simp
   refine⟨h.lt,ags h.le u.1,?_,h.zl,(e5.kp u hS (fun x hx _=>?_) h.lt).head,⟨.inr ⟨r.b,c,?_,?_,?_,?_⟩,fun i e=>?_⟩⟩
   ·show _=some (cf.cells (oO ({p with kids:=p.kids++[r.nd]}::rest) z++tl));rw[MO,u.2 k (Km h.lt h.le) hkS];exact h.cells
   ·refine .inr fun hm=>?_
    have h6:=ew x hx;rcases hn x.b hm with e | e
    ·omega
    ·have:=iL.2 _ e;omega
   ·show p.q=_;rw[e1,hlen]
   ·rw[hlen];exact e2
   ·show(aC (p.kids++[r.nd])).length=_;rw[c7]
   ·show Row O' _ 4 B r.b c (aC (p.kids++[r.nd]));have e6:aC (p.kids++[r.nd])=aC p.kids++dh r.nd:=by rw[ee,aC,aC,ah1]
    rw[e6];refine kK.own u hS oA ?_;rw[Kn,Kn,se]at VU;rw[Kn,Kn,lT];exact VU
   ·have e:gid p.q=some i:=e;rw[e1]at e;injection e with e;subst e;exact e4
theorem eS.app {a b c d:List MV} (h:eS a b) (k:eS c d):eS (a++c) (b++d):=by
 refine⟨by rw[Kn,Kn,h.1,k.1],fun i x y hx hy=>?_⟩;rw[List.getElem?_append]at hx hy;by_cases e:i<a.length
 ·rw[if_pos e]at hx;rw[if_pos (by rw[<-h.1];exact e)]at hy;exact h.2 i x y hx hy
 ·rw[if_neg e]at hx;rw[if_neg (by rw[<-h.1];exact e)]at hy;rw[<-h.1]at hy;exact k.2 _ x y hx hy
theorem VC.close {O:VH} {B k:Nat} {r:Rec} {R:List Rec} {z tl pre post:List MV} {P:Program} {n:Sz} {D:List Deferred} {c:Code} {e:Env} {Q:VQ} (h:BC O B k (r::R) z tl) (hc:O.hp r.b=some (.cells (pre++iX r++post)))
  (hk:∀O1,Kp O O1 (r.b::(gid r.q).toList)->O1.hp r.b=some (.cells (pre++dh r.nd++post))->VC P n D c e O1 Q):VC P n D c e O Q:=by
 obtain⟨hg,ew⟩:=h.top;have TR:dh r.nd=[.str r.name,.sl r.attrs.length (r.attrs.flatMap bh) .ar,.sl r.kids.length (aC r.kids) .ar,.str []]:=by rw[Rec.nd,dh]
 rcases hg with⟨h0,h1,hp⟩ | ⟨kq,cq,hp,hn,hl,kK⟩
 ·refine VC.V2 (ds:=pre++dh r.nd++post) hc ?_ (hk _ (Kp.sub Kp.set (fun x hx=>.inl (by simp at hx ⊢;exact .inl hx))) (VH.an _ _ _));refine((eS.refl pre).app ?_).app (eS.refl post);rw[TR,iX]
  have hw:Wk r.q (.sl r.kids.length (aC r.kids) .ar):=by
   rw[h0,h1];rcases hp with e | e<;>rw[e]<;>exact Wk.tok
  exact(eS.refl [_,_]).app (eS.cons hw (eS.refl _))
 ·obtain⟨sp,h1,h2⟩:=kK.cells;have hne:r.b≠kq:=by have:=ew kq (by rw[hp];rfl);omega
  have e1:pre++iX r++post=(pre++[.str r.name,.sl r.attrs.length (r.attrs.flatMap bh) .ar])++ .bq kq 0 r.kids.length cq::(.str []::post):=by
   rw[iX,hp];simp
  rw[e1]at hc;refine VC.wR h1 hc hne (sz:=(aC r.kids).length) (by rw[Kn];omega) ?_
  have e2:pre++dh r.nd++post=(pre++[.str r.name,.sl r.attrs.length (r.attrs.flatMap bh) .ar])++ .sl r.kids.length (aC r.kids) .ar::(.str []::post):=by
   rw[TR];simp
  rw[alM,List.take_left, <-e2];refine hk _ ?_ (VH.an _ _ _);refine⟨agw _,fun i _ hi=>?_⟩;simp only[hp,gid,acs,Option.toList_some,acw,or_false,not_or]at hi;rw[VH.ak _ _ hi.1,VH.kN _ hi.2]
theorem ahk (r:Rec) (R:List Rec) (tk:Tok):rN (eh Tryz.prog) 365 (.sl (R.length+1) (gR (r::R)) tk) none (.v (.int .i64 (R.length:Int))) (.v (.int .i64 (R.length:Int)))=some (.sl R.length (gR R) .full):=by
 have hl:=kU (r::R);have hc:=qN r R;have h2:=kU R;rw[hc]at hl ⊢;simp only[rN,LW,LX,Option.map_some,c9];rw[if_pos ⟨by omega,by omega,ahY _,agw _⟩,if_pos ⟨by simp,by rw[hl,alL];rfl⟩,if_neg (by omega)];cases R with
 | nil=>rfl
 | cons p R=>
   rw[if_neg (by simp)];simp only[Int.toNat_natCast,Nat.sub_zero,alL,Nat.zero_mul,alM,if_true];rw[List.take_left' h2]
theorem adQ {O:VH} {B k b9:Nat} {r:Rec} {R:List Rec} {tk:Tok} {dn tx:Bool} {z:List MV} (h:BS O B k (r::R) tk b9 dn tx z) (QT:R.length<=1000):
  VF Tryz.prog 268 [.ptr k 0] O (aE fun _ O'=>Kp O O' (dF k (r::R) tk)/\BS O' B k (MP r R) .full b9 (R.length==0) false (MQ r z R)):=by
 obtain⟨pre,post,hc,dL,CD,BL,Ju⟩:=h.c.loc;have iL:=h.c.top;have gu:=h.c.lt;have hBn:=h.c.le;have vI:∀x∈[k],x∈dF k (r::R) tk\/O.next<=x:=fun x hx=>.inl (by rw[agr]at hx;rw[hx];exact ni)
 have hSn:∀x∈r.b::(gid r.q).toList,x=r.b\/gid r.q=some x:=fun x hx=>by
  rcases acs.1 hx with e | e
  ·exact .inl e
  ·exact .inr (by simpa using e)
 refine VF.bN 34 [] Tryz.func268 ?_;refine VC.close h.c hc fun O1 u1 fW=>?_
 have hP:=h.c.pop hc dL (fun e=>(BL e).2.2) u1 hSn fW
 have cJ:App O1 B 1 tk:=by
  refine h.a.MN u1 fun x hx e=>?_
  rcases hSn x hx with e2 | e2
  ·subst e2;rw[hc]at e;cases e
  ·obtain⟨cs,e3⟩:=iL.1.MM e2;rw[e3]at e;cases e
 have jw:Kp O O1 (dF k (r::R) tk):=(Kp.refl (S:=dF k (r::R) tk)).more u1 (fun x hx=>.inl (by
  rcases hSn x hx with e | e
  ·rw[e];exact pc
  ·exact nj e))
 obtain⟨b0,b1,b2,b3,kV⟩:=qO (eU (MP r R) (MQ r z R) hP.zl);have dY:=hP.cells;unfold o_ at dY;rw[kV]at dY;have Jx:=ahk r R tk;have hPl:=kU (r::R);generalize hPG:gR (r::R)=PT at*;simp only[aq,a_,List.cons_append,List.nil_append,List.length_cons]at dY hPl;have ry:(((R.length+1:Nat):Int) - 1)=(R.length:Int):=by omega
 refine VC.bB ?_;refine WC.bO (.held [20]) [(0,.rd),(1,.rd),(2,.rd),(3,.rd),(4,.rd),(5,.rd),(6,.rd),(7,.rd),(8,.rd),(9,.rd),(10,.rd),(11,.rd),(12,.rd),(13,.rd),(14,.rd),(15,.rd),(16,.rd),(17,.rd),(18,.one),(19,.rd),(20,.one)] ?_;refine gQ @aD @dY @ry @u7 @Jx ?_;refine VC.gen ?_;intro O2 GA;have bJ:O2.hp k=some (.cells [b0,b1,b2,b3,.sl R.length (gR R) .full,.v (.int .i64 b9),.v (.bool dn),.v (.bool tx)]):=by rw[GA];exact VH.an _ _ _
 have QP:Kp O O2 (dF k (r::R) tk):=jw.more (S:=[k]) (by rw[GA];exact Kp.set) vI;have BM:BC O2 B k _ _ [.sl R.length (gR R) .full,.v (.int .i64 b9),.v (.bool dn),.v (.bool tx)]:=hP.step (S:=[k]) (by rw[GA];exact Kp.set) (fun x hx=>.inl (by simpa using hx)) (by rw[kV];exact bJ) hP.zl;clear GA
 have mH:∀b,BS ((O2.set k (.cells [b0,b1,b2,b3,.sl R.length (gR R) .full,.v (.int .i64 b9),.v (.bool b),.v (.bool tx)])).set k (.cells [b0,b1,b2,b3,.sl R.length (gR R) .full,.v (.int .i64 b9),.v (.bool b),.v (.bool false)])) B k (MP r R) .full b9 b false (MQ r z R):=fun b=>by
  refine⟨(BM.step (S:=[k]) (z':=MQ r z R) (tl':=[.sl R.length (gR R) .full,.v (.int .i64 b9),.v (.bool b),.v (.bool tx)]) Kp.set (fun x hx=>.inl (by simpa using hx)) (by rw[kV,VH.an];rfl) hP.zl).step (S:=[k]) Kp.set (fun x hx=>.inl (by simpa using hx)) ?_ hP.zl,trivial⟩;rw[kV,VH.an];cases R with
  | nil=>rfl
  | cons p R=>rfl
 have il:∀x y,Kp O ((O2.set k x).set k y) (dF k (r::R) tk):=fun x y=>(QP.more Kp.set vI).more Kp.set vI
 cases R with
 | nil=>
   refine WC.sound aa (ao @aD @bJ ?_);exact⟨il _ _,mH _⟩
 | cons p R=>
   refine WC.sound aa (ao @aD @bJ ?_);exact⟨il _ _,mH _⟩
theorem Ww {O:VH} {B k:Nat} {r:Rec} {R:List Rec} {z tl:List MV} {tk:Tok} (h:BC O B k (r::R) z tl):∀x∈dF k (MP r R) .full,x∈dF k (r::R) tk:=by
 intro x hx;cases R with
 | nil=>
   have hx:x∈[k]:=hx;rw[agr]at hx;rw[hx];exact ni
 | cons p R=>
   obtain⟨⟨c,e1,_⟩,_⟩:=h.chain;have hx:x∈k::((p.b::R.map (·.b))++(gid p.q).toList++[]):=hx;rw[e1]at hx;simp only[gid,Option.toList_some,acs,ahX,ah1,acw,or_false,List.mem_map]at hx;rcases hx with rfl | (rfl | ⟨g,hg,rfl⟩) | rfl
   ·exact ni
   ·exact AF (by simp)
   ·exact AF (by simp[hg])
   ·exact pc
def tK (t:Bs):Nd:=.mk [] [] [] t
theorem SW (t:Bs):dh (tK t)=[.str [],.sl 0 [] .ar,.sl 0 [] .ar,.str t]:=by rw[tK,dh,aC];rfl
theorem MT {O:VH} {B k b9:Nat} {tk:Tok} {dn tx:Bool} {z:List MV} (h:BS O B k [] tk b9 dn tx z) (s:Bs) (hs:s.length<=maxLen):
  VF Tryz.prog 266 [.ptr k 0,.str s] O (aE fun m O'=>m=mi (if trimB s=[]then 0 else 16)/\O'=O):=by
 have hk:=h.c.cells;obtain⟨a0,a1,a2,a3,hr⟩:=qO (eU [] z h.c.zl);unfold o_ at hk;rw[hr]at hk;simp only[aq,a_,agv,acu,XN]at hk;refine VF.bN 61 [.tmp 4] Tryz.func266 ?_;refine VC.ag aa (ae @aD ?_);refine VC.ag aa (ao @aD @hk ?_);refine ah.rt (Jf s _ hs) ?_;rintro _ O2 ⟨rfl,eO⟩;rw[eO];clear eO O2
 cases trimB s with
 | nil=>
   refine ao @aD (show(([]:List UInt8)==[])=true from rfl) ?_;trivial
 | cons c t=>
   refine ao @aD (show((c::t)==[])=false from rfl) ?_;trivial
theorem MU {O:VH} {B k b9:Nat} {r:Rec} {R:List Rec} {tk:Tok} {dn tx:Bool} {z:List MV} (h:BS O B k (r::R) tk b9 dn tx z) (hR:R.length<=1000):
  VF Tryz.prog 266 [.ptr k 0,.str []] O (aE fun m O'=>m=mi 0/\O'=O):=by
 have hk:=h.c.cells;have gu:=h.c.lt;have hBn:=h.c.le;obtain⟨a0,a1,a2,a3,hr⟩:=qO (eU (r::R) z h.c.zl);unfold o_ at hk;rw[hr]at hk;simp only[aq,a_,agv,acu,yP]at hk;refine VF.bN 61 [.tmp 4] Tryz.func266 ?_;refine VC.ag aa (ae @aD ?_);refine VC.ag aa (ao @aD @hk ?_);refine VC.ag aa (ae @aD ?_);refine ah.rt (Fi h (by omega)) ?_;rintro _ O2 ⟨rfl,eO⟩;rw[eO];clear eO O2
 refine ae @aD ?_;refine VC.ag aa (ao @aD (show(([]:List UInt8)==[])=true from rfl) ?_);refine WC.sound aa (ae @aD ?_);trivial
theorem MW {O:VH} {B k b9:Nat} {r:Rec} {R:List Rec} {tk:Tok} {dn:Bool} {z:List MV} (h:BS O B k (r::R) tk b9 dn true z) (hR0:R.length<=1000) (s t0:Bs) (K:List Nd) (hs:s.length<=1000000000000) (pB:r.kids=K++[tK t0]) (ht0:t0.length<=1000000000000) (kj:r.kids.length<=1000000) (hne:(s==[])=false):
  VF Tryz.prog 266 [.ptr k 0,.str s] O (aE fun m O'=>m=mi 0/\Kp O O' (dF k (r::R) tk)/\BS O' B k ({r with kids:=K++[tK (t0++s)]}::R) tk b9 dn true z):=by
 have hR:R.length<=1000:=hR0;have hk:=h.c.cells;have gu:=h.c.lt;have hBn:=h.c.le;obtain⟨a0,a1,a2,a3,hr⟩:=qO (eU (r::R) z h.c.zl);unfold o_ at hk;rw[hr]at hk;simp only[aq,a_,agv,acu,yP]at hk;refine VF.bN 61 [.tmp 4] Tryz.func266 ?_;refine VC.ag aa (ae @aD ?_);refine VC.ag aa (ao @aD @hk ?_);refine VC.ag aa (ae @aD ?_);refine ah.rt (Fi h (by omega)) ?_;rintro _ O2 ⟨rfl,eO⟩;rw[eO];clear eO O2
 refine ae @aD ?_;obtain⟨pre,post,hc,dL,CD,BL,Ju⟩:=h.c.loc;have iL:=h.c.top;refine VC.ag aa (aJ @aD @hne @hk ?_);have hKl:r.kids.length=K.length+1:=by rw[pB];simp
 obtain⟨kq,cq,hq,zU,cQ⟩:∃kq cq,r.q= .bq kq 0 (K.length+1) cq/\K.length+1<=cq/\Row O 112 4 B kq cq (aC r.kids):=by
  rcases iL.1 with⟨h0,_⟩ | ⟨k2,c,hp,h1,_,h2⟩
  ·omega
  ·rw[hKl]at hp h1;exact⟨k2,c,hp,h1,h2⟩
 have hrq:r.b<kq:=iL.2 kq (by rw[hq];rfl);obtain⟨sp,tn,vu⟩:=cQ.cells;have uj:aC r.kids=aC K++[.str [],.sl 0 [] .ar,.sl 0 [] .ar,.str t0]:=by rw[pB,ee,aC,aC,SW,ah1]
 rw[uj]at tn vu;have uC:=c7 K
 have bw:(aC K++([.str [],.sl 0 [] .ar,.sl 0 [] .ar,.str t0]:List MV)++sp)[K.length*4+3]?=some (.str t0):=by
  rw[XO, <-uC,agx (by omega),agu];rfl
 have kF:∀m:MV,(aC K++([.str [],.sl 0 [] .ar,.sl 0 [] .ar,.str t0]:List MV)++sp).set (K.length*4+3) m=aC K++[.str [],.sl 0 [] .ar,.sl 0 [] .ar,m]++sp:=fun m=>by
  rw[XO, <-uC,ah4 _ _ (by omega),agu,XO];rfl
 generalize DI:aC K++[.str [],.sl 0 [] .ar,.sl 0 [] .ar,.str t0]++sp=C2 at*
 have Wv:(pre++iX r++post)[r.off+2]?=some r.q:=by
  rw[XO,agx (by omega), <-dL,agu];rfl
 rw[hq]at Wv;generalize hC:pre++iX r++post=C at*;have ry:(((K.length+1:Nat):Int) - 1)=(K.length:Int):=by omega
 refine WC.bO (.held [17]) [(0,.rd),(1,.rd),(2,.rd),(3,.rd),(4,.rd),(5,.rd),(6,.rd),(7,.rd),(8,.rd),(9,.rd),(10,.rd),(11,.rd),(12,.rd),(13,.rd),(14,.rd),(15,.one),(16,.rd),(17,.one)] ?_;refine P8 @aD @hc @Wv @ry @tn @bw @kF @u7 ?_;refine WC.sound aa (ae @aD ?_);have u:Kp O (O.set kq (.cells (aC K++[.str [],.sl 0 [] .ar,.sl 0 [] .ar,.str (t0++s)]++sp))) [kq]:=Kp.set;have BN:aC (K++[tK (t0++s)])=aC K++[.str [],.sl 0 [] .ar,.sl 0 [] .ar,.str (t0++s)]:=by rw[ee,aC,aC,SW,ah1]
 have hl9:(K++[tK (t0++s)]).length=K.length+1:=by simp
 have hB9:B<=kq:=cQ.lo;refine⟨(Kp.refl (S:=dF k (r::R) tk)).more u (fun x hx=>.inl (by rw[agr]at hx;rw[hx];exact nj (by rw[hq];rfl))),h.c.Jt (r':={r with kids:=K++[tK (t0++s)]}) (by rw[hC];exact hc) dL (fun e=>(BL e).2.2) u rfl rfl (fun x hx=>.inr (by rw[agr]at hx;rw[hx,hq];rfl)) (by rw[VH.ak _ _ (by omega)];show _=some (cf.cells (pre++iX r++post));rw[hC];exact hc) (.inr ⟨kq,cq,?_,?_,?_,?_⟩) (fun i e=>iL.2 i e),h.a.MN u (fun x hx e=>by rw[agr]at hx;subst hx;rw[tn]at e;cases e)⟩
 ·show r.q=_;rw[hq,hl9]
 ·rw[hl9];exact zU
 ·show(aC (K++[tK (t0++s)])).length=_;rw[c7]
 ·show Row _ _ 4 B kq cq (aC (K++[tK (t0++s)]));rw[BN];refine cQ.own u (fun x hx j t n e=>by rw[agr]at hx;subst hx;rw[tn]at e;cases e) (VH.an _ _ _) ?_;rw[<-vu, <-DI];simp
theorem MX {O:VH} {B k b9:Nat} {r:Rec} {R:List Rec} {tk:Tok} {dn:Bool} {z:List MV} (h:BS O B k (r::R) tk b9 dn false z) (hc0:b9<=1000000) (hR0:R.length<=1000) (s:Bs) (hs:s.length<=1000000000000) (kj:r.kids.length<=1000000) (hne:(s==[])=false):
  VF Tryz.prog 266 [.ptr k 0,.str s] O (aE fun m O'=>Kp O O' (dF k (r::R) tk)/\match decide (4096<b9+1)with
   | true=>m=mi 2
   | false=>m=mi 0/\∃q',BS O' B k ({r with kids:=r.kids++[tK s],q:=q'}::R) tk (b9+1) dn true z/\∀x,gid q'=some x->gid r.q=some x\/O.next<=x):=by
 have hR:R.length<=1000:=hR0;have hk:=h.c.cells;have gu:=h.c.lt;have hBn:=h.c.le;obtain⟨a0,a1,a2,a3,hr⟩:=qO (eU (r::R) z h.c.zl);unfold o_ at hk;rw[hr]at hk;simp only[aq,a_,agv,acu,yP]at hk;refine VF.bN 61 [.tmp 4] Tryz.func266 ?_;refine VC.ag aa (ae @aD ?_);refine VC.ag aa (ao @aD @hk ?_);refine VC.ag aa (ae @aD ?_);refine ah.rt (Fi h (by omega)) ?_;rintro _ O2 ⟨rfl,eO⟩;rw[eO];clear eO O2
 refine ae @aD ?_;obtain⟨pre,post,hc,dL,CD,BL,Ju⟩:=h.c.loc;have iL:=h.c.top;clear hc BL Ju dL CD iL;clear pre post;refine VC.ag aa (aJ @aD @hne @hk ?_);refine ah.rt (aaA h hc0) ?_;rintro _ O3 ⟨rfl,h3,cP⟩;by_cases EL:b9+1<=4096;rotate_left
 ·rw[decide_eq_true (show 4096<b9+1 by omega),decide_eq_false EL];refine ae @aD ?_;exact(Kp.refl (S:=dF k (r::R) tk)).more cP (fun x hx=>.inl (by rw[agr]at hx;rw[hx];exact ni))
 rw[decide_eq_false (show ¬4096<b9+1 by omega),decide_eq_true EL];dsimp only;have vI:∀x∈[k],x∈dF k (r::R) tk\/O.next<=x:=fun x hx=>.inl (by rw[agr]at hx;rw[hx];exact ni)
 have BJ:Kp O O3 (dF k (r::R) tk):=(Kp.refl (S:=dF k (r::R) tk)).more cP vI;have ak6:=h3.c.le;refine ae @aD ?_;obtain⟨pre,post,eN,dL,CD,BL,Ju⟩:=h3.c.loc;have iL:=h3.c.top
 have Wv:(pre++iX r++post)[r.off+2]?=some r.q:=by
  rw[XO,agx (by omega), <-dL,agu];rfl
 have kF:∀q',(pre++iX r++post).set (r.off+2) q'=pre++iX {r with q:=q'}++post:=fun q'=>by
  rw[XO,ah4 _ _ (by omega), <-dL,agu,XO];rfl
 have hlC:(pre++iX r++post).length=pre.length+4+post.length:=by simp[se];omega
 generalize hC:pre++iX r++post=C at*;refine VC.II [8,9,10,11,12,13] (by kernel_rfl) ?_;refine bL.By 0 ?_;refine ae @aD ?_;refine bL.By 1 ?_;refine ae @aD ?_;refine bL.By 2 ?_;refine ae @aD ?_;refine bL.By 3 ?_;refine aJ @aD @eN @Wv ?_;refine bL.By 4 ?_;refine ae @aD ?_;refine bL.By 5 ?_;refine ae @aD ?_;have gP:=SV iL.1;refine bL.By 6 ?_;refine ao @aD @gP ?_;refine bL.afs (i:=7) rfl (by kernel_rfl) (by kernel_rfl) rfl rfl (fun _ _ _ hw hf=>aaB hw hf) rfl ?_;simp only[aj];refine bL.fin (by kernel_rfl) ?_;refine cn.st (i:=8) rfl (by kernel_rfl) rfl rfl (Qz aa (te:=⟨_,4,80,_⟩) (dx:=.slice 112) (q:=.sl 1 [.str [],.sl 0 [] .nil,.sl 0 [] .nil,.str []] .full) (j:=1) (ds:=[.str [],.sl 0 [] .nil,.sl 0 [] .nil,.str []]) iL.1 rfl rfl (by rw[n7];rfl) tS.1.1 (by rw[n7];rfl) trivial (by dsimp only;omega) (by simp only[maxLen];omega) (by omega) rfl rfl) ?_;rintro m O4 ⟨xk,mQ,iy,hm⟩
 obtain⟨k2,c2,rfl,bJ⟩:∃k2 c2,m= .bq k2 0 (r.kids.length+1) c2/\(gid r.q=some k2\/O3.next<=k2):=by
  rcases hm with⟨k2,c2,h1,h2⟩ | ⟨h1,_⟩
  ·exact⟨k2,c2,h1,h2.imp id And.left⟩
  ·cases h1
 obtain⟨cQ,zU⟩:Row O4 112 4 B k2 c2 (aC r.kids++[.str [],.sl 0 [] .nil,.sl 0 [] .nil,.str []])/\r.kids.length+1<=c2:=by
  rcases xk with⟨h1,_⟩ | ⟨k3,c3,h1,h2,_,h4⟩
  ·omega
  ·injection h1 with h1 _ _ h3;subst h1;subst h3;exact⟨h4,h2⟩
 have aaD:r.b<k2:=by
  rcases bJ with e | e
  ·exact iL.2 _ e
  ·omega
 have ajn:=mQ.next;have ff:O4.hp r.b=some (.cells C):=(mQ.hp _ CD (fun e=>by have:=iL.2 _ e;omega)).trans eN;obtain⟨sp,tn,vu⟩:=cQ.cells;simp only[aj];have uC:=c7 r.kids
 have rE:∀a b c d:MV,((((aC r.kids++([.str [],.sl 0 [] .nil,.sl 0 [] .nil,.str []]:List MV)++sp).set (r.kids.length*4) a).set (r.kids.length*4+1) b).set (r.kids.length*4+1+1) c).set (r.kids.length*4+1+1+1) d=aC r.kids++[a,b,c,d]++sp:=fun a b c d=>by
  rw[<-uC];exact aft _ _ _ _ _ _ _ _ _ _
 generalize DI:aC r.kids++[.str [],.sl 0 [] .nil,.sl 0 [] .nil,.str []]++sp=C2 at*;refine cn.Hz 9 ?_;refine ae @aD ?_;refine cn.Hz 11 ?_;refine ae @aD ?_;refine cn.Hz 12 ?_;refine ae @aD ?_;refine cn.two (i:=10) (j:=13) (by kernel_rfl) ?_ ?_
 ·refine aK.o1 ?_;refine aJ @aD @tn @rE ?_;refine cn.SM (i:=13) ?_;refine aJ @aD @ff @kF ?_;refine cn.bO [] ?_;refine WL.gen ?_;intro O5 mf;have fS:O5.next=O4.next:=by rw[mf];rfl
  have fK:O5.hp r.b=some (.cells (pre++iX {r with q:=.bq k2 0 (r.kids.length+1) c2}++post)):=by rw[mf];exact VH.an _ _ _
  have AG:O5.hp k2=some (.cells (aC r.kids++[.str [],.sl 0 [] .nil,.sl 0 [] .nil,.str s]++sp)):=by rw[mf];exact VH.sn (VH.an _ _ _)
  have u4:Kp O4 O5 [k2,r.b]:=by rw[mf];exact Kp.trans (S:=[k2]) (T:=[r.b]) Kp.set Kp.set
  clear mf
  have QQ:BI O4 [k2,r.b]:=fun x hx j t n e=>by
   simp only[acs,acw,or_false]at hx;rcases hx with rfl | rfl
   ·rw[tn]at e;cases e
   ·rw[ff]at e;cases e
  have u3:Kp O3 O5 (r.b::(gid r.q).toList):=((Kp.bt mQ).trans u4).sub (fun x hx=>by
   simp only[ahX,acs,acw,or_false]at hx ⊢;rcases hx with hx | hx | hx
   ·exact .inl (.inr hx)
   ·rcases bJ with e | e
    ·rw[e];simp[hx]
    ·exact .inr (by omega)
   ·exact .inl (.inl hx))
  have oo:∀x∈r.b::(gid r.q).toList,x=r.b\/gid r.q=some x:=fun x hx=>by
   rcases acs.1 hx with e | e
   ·exact .inl e
   ·exact .inr (by simpa using e)
  obtain⟨gq,_⟩:=h3.c.part (r':={r with q:=.bq k2 0 (r.kids.length+1) c2}) (by rw[hC];exact eN) dL (fun e=>(BL e).2.2) u3 rfl rfl oo fK;obtain⟨b0,b1,b2,b3,kV⟩:=qO (eU ({r with q:=.bq k2 0 (r.kids.length+1) c2}::R) z h.c.zl);unfold o_ at gq;rw[kV]at gq;simp only[aq,a_,agv,acu,yP]at gq;refine ao @aD @gq ?_
  have MY:k2≠k:=by
   have:=cQ.lo;omega
  have tj:Kp O O5 (dF k (r::R) tk):=BJ.more u3 (fun x hx=>by
   rcases oo x hx with e | e
   ·rw[e];exact .inl pc
   ·exact .inl (nj e))
  have fz:App O5 B 1 tk:=by
   refine h3.a.MN u3 fun x hx e=>?_
   rcases oo x hx with e2 | e2
   ·subst e2;rw[eN]at e;cases e
   ·obtain⟨cs,e3⟩:=iL.1.MM e2;rw[e3]at e;cases e
  have BN:aC (r.kids++[tK s])=aC r.kids++[.str [],.sl 0 [] .ar,.sl 0 [] .ar,.str s]:=by rw[ee,aC,aC,SW,ah1]
  refine VC.V2 (k:=k2) (ds:=aC (r.kids++[tK s])++sp) ((VH.ak _ _ MY).trans AG) (by
   rw[BN];exact((eS.refl _).app (eS.cons (Wk.refl _) (eS.cons Wk.tok (eS.cons Wk.tok (eS.refl _))))).app (eS.refl _)) ?_
  refine WC.sound aa (ae @aD ?_);have u5:Kp O4 (O5.set k2 (.cells (aC (r.kids++[tK s])++sp))) [k2,r.b]:=(u4.trans Kp.set).sub (fun x hx=>.inl (by simp only[ahX,acs,acw,or_false]at hx ⊢;exact hx.elim id .inl))
  have u6:Kp O3 (O5.set k2 (.cells (aC (r.kids++[tK s])++sp))) (r.b::(gid r.q).toList):=(u3.trans Kp.set).sub (fun x hx=>by
   simp only[ahX,acs,acw,or_false]at hx ⊢;rcases hx with hx | hx
   ·exact .inl hx
   ·rcases bJ with e | e
    ·rw[e];simp[hx]
    ·exact .inr (by omega))
  have Jv:BC _ B k ({r with kids:=r.kids++[tK s],q:=.bq k2 0 (r.kids.length+1) c2}::R) z _:=h3.c.Jt (r':={r with kids:=r.kids++[tK s],q:=.bq k2 0 (r.kids.length+1) c2}) (by rw[hC];exact eN) dL (fun e=>(BL e).2.2) u6 rfl rfl oo (VH.sn fK) (.inr ⟨k2,c2,by show _=_;simp,by simp;exact zU,by show(aC (r.kids++[tK s])).length=_;rw[c7],by
   show Row _ _ 4 B k2 c2 (aC (r.kids++[tK s]));refine cQ.own u5 QQ (VH.an _ _ _) ?_;rw[<-vu, <-DI,BN];simp⟩) (fun i e=>by injection e with e;subst e;exact aaD)
  have e9:∀x,(O5.set k x).set k2 (.cells (aC (r.kids++[tK s])++sp))=(O5.set k2 (.cells (aC (r.kids++[tK s])++sp))).set k x:=fun x=>VH.set_comm (fun e=>MY e.symm)
  have BM:=cQ.lo;rw[e9]
  refine⟨(tj.more (S:=[k2]) Kp.set (fun x hx=>by
   rw[agr]at hx;rw[hx];rcases bJ with e | e
   ·exact .inl (nj e)
   ·exact .inr (by have:=cP.1;omega))).more Kp.set vI,_,⟨Jv.step (S:=[k]) Kp.set (fun x hx=>.inl (by simpa using hx)) ?_ h3.c.zl,(fz.MN (S:=[k2]) Kp.set (fun x hx e=>by rw[agr]at hx;subst hx;rw[AG]at e;cases e)).xN gu⟩,fun x e=>by
   injection e with e;subst e
   exact bJ.imp id (fun e=>by have:=cP.1;omega)⟩
  rw[VH.an]
  have e8:oO ({r with kids:=r.kids++[tK s],q:=.bq k2 0 (r.kids.length+1) c2}::R) z=[b0,b1,b2,b3]:=by
   rw[<-kV];cases R with
   | nil=>rfl
   | cons g R=>rfl
  rw[e8];rfl
 ·refine aK.o1 ?_;refine aJ @aD @ff @kF ?_;refine cn.SM (i:=10) ?_;refine aJ @aD @tn @rE ?_;refine cn.bO [] ?_;refine WL.gen ?_;intro O5 mf;rw[VH.set_comm (by omega)]at mf;have fS:O5.next=O4.next:=by rw[mf];rfl
  have fK:O5.hp r.b=some (.cells (pre++iX {r with q:=.bq k2 0 (r.kids.length+1) c2}++post)):=by rw[mf];exact VH.an _ _ _
  have AG:O5.hp k2=some (.cells (aC r.kids++[.str [],.sl 0 [] .nil,.sl 0 [] .nil,.str s]++sp)):=by rw[mf];exact VH.sn (VH.an _ _ _)
  have u4:Kp O4 O5 [k2,r.b]:=by rw[mf];exact Kp.trans (S:=[k2]) (T:=[r.b]) Kp.set Kp.set
  clear mf
  have QQ:BI O4 [k2,r.b]:=fun x hx j t n e=>by
   simp only[acs,acw,or_false]at hx;rcases hx with rfl | rfl
   ·rw[tn]at e;cases e
   ·rw[ff]at e;cases e
  have u3:Kp O3 O5 (r.b::(gid r.q).toList):=((Kp.bt mQ).trans u4).sub (fun x hx=>by
   simp only[ahX,acs,acw,or_false]at hx ⊢;rcases hx with hx | hx | hx
   ·exact .inl (.inr hx)
   ·rcases bJ with e | e
    ·rw[e];simp[hx]
    ·exact .inr (by omega)
   ·exact .inl (.inl hx))
  have oo:∀x∈r.b::(gid r.q).toList,x=r.b\/gid r.q=some x:=fun x hx=>by
   rcases acs.1 hx with e | e
   ·exact .inl e
   ·exact .inr (by simpa using e)
  obtain⟨gq,_⟩:=h3.c.part (r':={r with q:=.bq k2 0 (r.kids.length+1) c2}) (by rw[hC];exact eN) dL (fun e=>(BL e).2.2) u3 rfl rfl oo fK;obtain⟨b0,b1,b2,b3,kV⟩:=qO (eU ({r with q:=.bq k2 0 (r.kids.length+1) c2}::R) z h.c.zl);unfold o_ at gq;rw[kV]at gq;simp only[aq,a_,agv,acu,yP]at gq;refine ao @aD @gq ?_
  have MY:k2≠k:=by
   have:=cQ.lo;omega
  have tj:Kp O O5 (dF k (r::R) tk):=BJ.more u3 (fun x hx=>by
   rcases oo x hx with e | e
   ·rw[e];exact .inl pc
   ·exact .inl (nj e))
  have fz:App O5 B 1 tk:=by
   refine h3.a.MN u3 fun x hx e=>?_
   rcases oo x hx with e2 | e2
   ·subst e2;rw[eN]at e;cases e
   ·obtain⟨cs,e3⟩:=iL.1.MM e2;rw[e3]at e;cases e
  have BN:aC (r.kids++[tK s])=aC r.kids++[.str [],.sl 0 [] .ar,.sl 0 [] .ar,.str s]:=by rw[ee,aC,aC,SW,ah1]
  refine VC.V2 (k:=k2) (ds:=aC (r.kids++[tK s])++sp) ((VH.ak _ _ MY).trans AG) (by
   rw[BN];exact((eS.refl _).app (eS.cons (Wk.refl _) (eS.cons Wk.tok (eS.cons Wk.tok (eS.refl _))))).app (eS.refl _)) ?_
  refine WC.sound aa (ae @aD ?_);have u5:Kp O4 (O5.set k2 (.cells (aC (r.kids++[tK s])++sp))) [k2,r.b]:=(u4.trans Kp.set).sub (fun x hx=>.inl (by simp only[ahX,acs,acw,or_false]at hx ⊢;exact hx.elim id .inl))
  have u6:Kp O3 (O5.set k2 (.cells (aC (r.kids++[tK s])++sp))) (r.b::(gid r.q).toList):=(u3.trans Kp.set).sub (fun x hx=>by
   simp only[ahX,acs,acw,or_false]at hx ⊢;rcases hx with hx | hx
   ·exact .inl hx
   ·rcases bJ with e | e
    ·rw[e];simp[hx]
    ·exact .inr (by omega))
  have Jv:BC _ B k ({r with kids:=r.kids++[tK s],q:=.bq k2 0 (r.kids.length+1) c2}::R) z _:=h3.c.Jt (r':={r with kids:=r.kids++[tK s],q:=.bq k2 0 (r.kids.length+1) c2}) (by rw[hC];exact eN) dL (fun e=>(BL e).2.2) u6 rfl rfl oo (VH.sn fK) (.inr ⟨k2,c2,by show _=_;simp,by simp;exact zU,by show(aC (r.kids++[tK s])).length=_;rw[c7],by
   show Row _ _ 4 B k2 c2 (aC (r.kids++[tK s]));refine cQ.own u5 QQ (VH.an _ _ _) ?_;rw[<-vu, <-DI,BN];simp⟩) (fun i e=>by injection e with e;subst e;exact aaD)
  have e9:∀x,(O5.set k x).set k2 (.cells (aC (r.kids++[tK s])++sp))=(O5.set k2 (.cells (aC (r.kids++[tK s])++sp))).set k x:=fun x=>VH.set_comm (fun e=>MY e.symm)
  have BM:=cQ.lo;rw[e9]
  refine⟨(tj.more (S:=[k2]) Kp.set (fun x hx=>by
   rw[agr]at hx;rw[hx];rcases bJ with e | e
   ·exact .inl (nj e)
   ·exact .inr (by have:=cP.1;omega))).more Kp.set vI,_,⟨Jv.step (S:=[k]) Kp.set (fun x hx=>.inl (by simpa using hx)) ?_ h3.c.zl,(fz.MN (S:=[k2]) Kp.set (fun x hx e=>by rw[agr]at hx;subst hx;rw[AG]at e;cases e)).xN gu⟩,fun x e=>by
   injection e with e;subst e
   exact bJ.imp id (fun e=>by have:=cP.1;omega)⟩
  rw[VH.an]
  have e8:oO ({r with kids:=r.kids++[tK s],q:=.bq k2 0 (r.kids.length+1) c2}::R) z=[b0,b1,b2,b3]:=by
   rw[<-kV];cases R with
   | nil=>rfl
   | cons g R=>rfl
  rw[e8];rfl
end Go.Proofs.YtoclnkfdahmnhaaGreatDoor
