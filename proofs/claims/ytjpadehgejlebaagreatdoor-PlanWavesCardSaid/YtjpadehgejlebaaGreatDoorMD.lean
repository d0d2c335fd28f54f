import Derived.Test.YtjpadehgejlebaaGreatDoorMC
import Derived.Laws.Cover4
import Derived.Lib.LazyBuf
import Derived.Laws.LoneSync
set_option linter.unusedVariables false
set_option linter.defProp false
set_option maxHeartbeats 8000000
set_option linter.unusedSimpArgs false
namespace Go.Proofs.YtjpadehgejlebaaGreatDoor
open Go.RowKit
open _root_.Go.Proofs.Tryz
open Go.Value renaming int → Ι
open Go.IntKind renaming i64 → Κ
open _root_.List renaming length → Ζ
open _root_.Go.Proofs.Tryz renaming prog → Ε
open _root_.Option renaming some → φ, none → Β
open _root_.Bool renaming false → γ, true → Α
open _root_.List renaming length_cons → Ca, length_append → Ti, length_drop → WT, getElem?_eq_some_iff → YI, length_nil → abx, append_assoc → af_, mem_cons → aga, not_mem_nil → agc, nil_append → aka, mem_singleton → akb, eq_nil_of_length_eq_zero → akd, cons_append → akf, getElem?_append_right → alP, mem_append → alQ, getElem?_eq_getElem → alS, append_nil → alU, length_take → alV, drop_eq_getElem_cons → aoT, set_append_right → ap2, all_flatMap → ap3, all_eq_true → ap4, append_inj → ap7, flatMap_append → ap8, takeWhile_cons_of_neg → ap9, takeWhile_cons_of_pos → ap_, drop_zero → aqg
open _root_.Nat renaming lt_of_lt_of_le → Th, le_trans → akc, add_sub_cancel_left → ake, le_refl → alO, zero_le → alR, zero_add → alT, lt_of_lt_of_eq → ap5, le_of_ble_eq_true → ap6, mul_one → aqf
open _root_.And renaming intro → agb
open _root_.Bool renaming and_eq_true → aqb
open _root_.Array renaming getElem?_append_left → aqa
variable{af:Array Edge}{dn tx:Bool}{q s t:Bs}{rest:Code}{fn:Func}{f:FuncId}{e:Int}{D:List Deferred}{A E L L' args cs cs' ms post pre sp tl z:List MV}{S T l:List Nat}{vs:List Value}{X m p v y:MV}{B a b bP c i n o off sz:Nat}{g:Option (Nat×Bool)}{d:Option Tmp}{P:Program}{ps:String}{tk:Tok}{O O' O1 O2 OX OY:VH}{K Φ:VH->Prop}{Q:VQ}{x:cx}
set_option maxRecDepth 10000
section
variable{G:Gh}{O:VH}{w:World}{n:Sz}{D:List Deferred}{e:Env}{P:Program}{tab:cL}{ops:Array Oper}{Q:VQ}{u:Value}
def Lp(k:Int):Bs:=(Utf8.encode k).data.toList
def aav(ht:aR P tab)(h:WR G O w){src dst el:TypeId}{k:Int}(hs:(tab src).map c6.under=φ (.slice el))(hd:(tab dst).map c6.under=φ .string)(he:(tab el).map c6.under=φ (.int .i32))
  (hx:VR G (.l 1 [.v (.int .i32 k)] tk) u):jw P (convert src dst u) w G O (.s (Lp k)):=by
 cases hx with
 | l h1 h2 h3 h4 h5 h6=>
   rename_i us c b o
   have h7:us=[.int .i32 k]:=by
    match us,h1 with
    | [x],_=>rw[(h3 0 _ x rfl rfl).j8]
   subst h7;refine⟨_,w,G,?_,Gh.Le.refl G,h,.s,lp.refl _ _⟩;rw[run_convert_runes_string w src dst el _ _ _ (bZ ht hs) (bZ ht he) (bZ ht hd)]
   have h8:=run_loadCells_list (P:=P) w ⟨b,o,Β⟩ [Value.int .i32 k] (λj v hv=>by
    rw[Addr.add_lit];exact h.fB _ _ _ (h2 j v hv))
   rw[run_runesToString (P:=P) w ⟨b,o,Β⟩ 1 c [k] h8];congr 2
def VL.Iu(ht:aR P tab){src dst el:TypeId}{x:Operand}{ty:TypeId}{L:List (Fl×Oper)}{k:Int} 
  (hg:aQ ops (.mk d (.convert src dst x) ty ps af g) e=φ Α) (hx:ev e x=φ (.l 1 [.v (.int .i32 k)] tk)) (hs:(tab src).map c6.under=φ (.slice el)) (uB:(tab dst).map c6.under=φ .string) (he:(tab el).map c6.under=φ (.int .i32)) (hd:bL n d=Α)
  (h:WL P tab n D .plain ops Q L (bt d (.s (Lp k)) e) O):VL P n D .plain ops ((.one,.mk d (.convert src dst x) ty ps af g)::L) e O Q:=by
 refine VL.HF (M:=λm O'=>m= .s (Lp k)/\O'=O) hg hd (λG a w hw hf=>?_) ?_;exact⟨_,_,⟨rfl,rfl⟩,ez.of (aav (P:=P) ht hw hs uB he (hf.ev hx)) (by simp[execOp])⟩;rintro m O' ⟨rfl,rfl⟩;exact WL.sound ht h
end
def cf:=agb av<|agb UD Lc
def isLet(k:Nat):Bool:=decide (k=9\/k=10\/k=13\/(32<=k/\k<=1114111/\¬(55296<=k/\k<=57343)))
def FN(k:Nat):Bs:=if isLet k then Lp k else[]
def Q3{k:Nat}(h:isLet k=Α):IntKind.i32.wrap (k:Int)=k:=by
 have hk:k<=1114111:=by
  simp only[isLet,decide_eq_true_eq]at h;omega
 clear h;simp only[IntKind.wrap,IntKind.signed,IntKind.bits];simp;omega
def aaw(k:Nat)(O:VH)(hk:k<=1000000000000):VF Ε 327 [mi k] O (aH λm O'=>m= .tuple [.s (FN k),mb (isLet k)]/\O'=O):=by
 have yes:isLet k=Α->FN k=Lp k:=λh=>by unfold FN;rw[h];rfl
 have no:isLet k=γ->FN k=[]:=λh=>by unfold FN;rw[h];rfl
 have hw:= @Q3 k;refine Υ 37 [.tmp 2,.tmp 3] func327 ?_;by_cases h1:k=9;have h0:isLet k=Α:=decide_eq_true (.inl h1);subst h1;have hw:=hw h0;rw[yes h0,h0];refine ae cf ?_;refine VL.Iu aa rfl rfl (by rw[Lc];rfl) (by rw[T9];rfl) (by rw[UD];rfl) rfl ?_;refine ao cf @hw ?_;trivial;by_cases h2:k=10;have h0:isLet k=Α:=decide_eq_true (.inr (.inl h2));subst h2;have hw:=hw h0;rw[yes h0,h0];refine ae cf ?_;refine VL.Iu aa rfl rfl (by rw[Lc];rfl) (by rw[T9];rfl) (by rw[UD];rfl) rfl ?_;refine ao cf @hw ?_;trivial;by_cases h3:k=13;have h0:isLet k=Α:=decide_eq_true (.inr (.inr (.inl h3)));subst h3;have hw:=hw h0;rw[yes h0,h0];refine ae cf ?_;refine VL.Iu aa rfl rfl (by rw[Lc];rfl) (by rw[T9];rfl) (by rw[UD];rfl) rfl ?_;refine ao cf @hw ?_;trivial;by_cases h4:k<32
 ·(have h0:isLet k=γ:=by simp only[isLet,decide_eq_false_iff_not];omega);rw[no h0,h0];refine ae cf ?_;trivial
 by_cases h5:1114111<k
 ·(have h0:isLet k=γ:=by simp only[isLet,decide_eq_false_iff_not];omega);rw[no h0,h0];refine ae cf ?_;trivial
 by_cases h6:55296<=k
 ·by_cases h7:k<=57343
  ·(have h0:isLet k=γ:=by simp only[isLet,decide_eq_false_iff_not];omega);rw[no h0,h0];refine ae cf ?_;trivial
  ·(have h0:isLet k=Α:=by simp only[isLet,decide_eq_true_eq];omega);have hw:=hw h0;rw[yes h0,h0];refine ae cf ?_;refine VL.Iu aa rfl rfl (by rw[Lc];rfl) (by rw[T9];rfl) (by rw[UD];rfl) rfl ?_;refine ao cf @hw ?_;trivial
 ·(have h0:isLet k=Α:=by simp only[isLet,decide_eq_true_eq];omega);have hw:=hw h0;rw[yes h0,h0];refine ae cf ?_;refine VL.Iu aa rfl rfl (by rw[Lc];rfl) (by rw[T9];rfl) (by rw[UD];rfl) rfl ?_;refine ao cf @hw ?_;trivial
def vm(b:Nat)(c:UInt8):Int:=
 if sG c then(c.toNat:Int) - 48 else if b=16/\97<=c.toNat/\c.toNat<=102 then(c.toNat:Int) - 97+10 else if b=16/\65<=c.toNat/\c.toNat<=70 then(c.toNat:Int) - 65+10 else -1
def Q4(c:UInt8):sG c=decide (48<=c.toNat/\c.toNat<=57):=by unfold sG;rw[<-Bool.decide_and]
def Lq(b:Nat)(c:UInt8)(O:VH):VF Ε 326 [im c,mi b] O (aH λm O'=>m=mi (vm b c)/\O'=O):=by
 have hc:c.toNat<256:=c.toNat_lt;have hd:=sH c O;unfold vm;refine Υ 41 [.tmp 4] func326 ?_;refine ae cf ?_;refine Ω (hd) ?_;cases h1:sG c;rotate_left;(·rw[Q4,decide_eq_true_eq]at h1;refine ao cf @aO ?_;first | trivial | rfl | (repeat (first | rw[if_pos (by omega)] | rw[if_neg (by omega)])))
 by_cases hb:b=16
 ·subst hb;by_cases h2:97<=c.toNat;(·by_cases h3:c.toNat<=102;((·refine ao cf @aO ?_;first | trivial | rfl | (repeat (first | rw[if_pos (by omega)] | rw[if_neg (by omega)]))));(·refine ao cf @aO ?_;first | trivial | rfl | (repeat (first | rw[if_pos (by omega)] | rw[if_neg (by omega)]))))
  ·by_cases h4:65<=c.toNat;((·by_cases h5:c.toNat<=70;((·refine ao cf @aO ?_;first | trivial | rfl | (repeat (first | rw[if_pos (by omega)] | rw[if_neg (by omega)]))));(·refine ao cf @aO ?_;first | trivial | rfl | (repeat (first | rw[if_pos (by omega)] | rw[if_neg (by omega)])))));(·refine ao cf @aO ?_;first | trivial | rfl | (repeat (first | rw[if_pos (by omega)] | rw[if_neg (by omega)])))
 ·have cG:((b:Int)==16)=γ:=by simpa using(by omega:¬(b:Int)=16)
  refine aE cf @aO cG ?_;first | trivial | rfl | (repeat (first | rw[if_pos (by omega)] | rw[if_neg (by omega)]))
def Bf(b:Nat)(c:UInt8):Bool:=decide (0<=vm b c)
def aax(b k:Nat)(c:UInt8)(O:VH)(hk:O.hp k=φ (.cells [mi b])):VF Ε 325 ([im c]++[.p k 0]) O (aH λm O'=>m=mb (Bf b c)/\O'=O):=by
 show VF _ _ [im c,.p k 0] _ _;simp only[aq]at hk;unfold Bf;refine Υ 8 [.tmp 3] func325 ?_;refine ao cf hk ?_;refine Ω (Lq b c O) ?_;by_cases h:0<=vm b c;rw[decide_eq_true h];refine ae cf ?_;(first | trivial | rfl);rw[decide_eq_false h];refine ao cf @h ?_;first | trivial | rfl
def adx(f:FuncId)(cs:Η)(p:UInt8->Bool)(s:Ρ)(O:VH)(hs:Ζ s<=1000000000)(hf:∀c,VF Ε f ([im c]++cs) O (aH λm O'=>m=mb (p c)/\O'=O))(hb:dA Ε f=Α):
  VF Ε 206 [.s s,.func (.func f) [] cs] O (aH λm O'=>m=mi (s.takeWhile p).length/\O'=O):=by
 refine Υ 20 [.tmp 4] func206 ?_;refine ae ig ?_;refine WC.kh [5] [0,1] (λj:Nat=>[mi j]) (λj O'=>O'=O/\j<=(Ζ s)/\(s.takeWhile p).length=j+((s.drop j).takeWhile p).length) (λj=>(Ζ s) - j) (0) ?_ ?_;exact⟨rfl,alR _,by simp⟩;rintro j O2 ⟨eO,hj,hw⟩;rw[eO];clear eO O2;by_cases h2:j<Ζ s;have hg:=alS h2;have hd:=aoT h2;generalize s[j]=c at*;refine ao ig hg ?_;refine τ (hf c) ?_ (hb:=hb);rintro _ O3 ⟨rfl,eO⟩;rw[eO];clear eO O3;cases hp:p c;refine ao ig hg ?_;rw[hw,hd,ap9 (by simp[hp])];trivial;refine ao ig hg ?_;refine az.N (j+1) ?_;refine⟨rfl,by omega,?_⟩;rw[hw,hd,ap_ hp,Ca];omega;refine ae ig ?_;rw[hw,List.drop_of_length_le (by omega)];trivial
def k_(s:Bs)(a:Nat):Bs×Nat×Nat:=if eX s [120]then(s.drop 1,a+1,16)else(s,a,10)
def vo(b:Nat)(l:Bs):Nat:=l.foldl (λk c=>k*b+(vm b c).toNat) 0
def ady(s:Bs)(a b n:Nat):Bs×Nat×Int:=
 if 8<n then([],0,12)else if n=(Ζ s) then([],0,13)else if n=0\/s.getD n 0≠59 then([],0,12)
 else if isLet (vo b (s.take n))then(FN (vo b (s.take n)),a+n+1,0)else([],0,12)
def yH(s:Bs)(a:Nat):Bs×Nat×Int:=ady (k_ s a).1 (k_ s a).2.1 (k_ s a).2.2 ((k_ s a).1.takeWhile (Bf (k_ s a).2.2)).length
def Q5{b:Nat}(hb:b<=16):∀(l:Bs)(k:Nat),l.foldl (λk c=>k*b+(vm b c).toNat) k+1<=(k+1)*16 ^ (Ζ l)
 | [],k=>by simp
 | c::l,k=>by
   have hd:(vm b c).toNat<=15:=by
    unfold vm;split;rename_i h;rw[Q4,decide_eq_true_eq]at h;omega
    repeat' split
    all_goals omega
   rw[List.foldl_cons,Ca,Nat.pow_succ];refine akc (Q5 hb l _) ?_;have h1:k*b<=k*16:=Nat.mul_le_mul_left k hb;have h2:k*b+(vm b c).toNat+1<=(k+1)*16:=by omega
   calc _<=((k+1)*16)*16 ^ (Ζ l):=Nat.mul_le_mul_right _ h2
    _=_:=by rw[Nat.mul_assoc,Nat.mul_comm 16]
def XE(hb:b<=16){l:Bs}(hl:Ζ l<=8):vo b l<=4294967296:=by
 have h1:=Q5 hb l 0;have h2:16 ^ (Ζ l)<=16 ^ 8:=Nat.pow_le_pow_right (by decide) hl;have h3:(16:Nat) ^ 8=4294967296:=by decide
 unfold vo;omega
def U7(b:Nat)(t:Bs)(j:Nat)(h:j<Ζ t):vo b (t.take (j+1))=vo b (t.take j)*b+(vm b t[j]).toNat:=by
 unfold vo;rw[dU _ _ h,List.foldl_append];rfl
def XF{p:UInt8->Bool}:∀(t:Bs)(j:Nat)(c:UInt8),j<(t.takeWhile p).length->t[j]?=φ c->p c=Α
 | [],j,c,h,_=>by simp at h
 | d::t,j,c,h,hj=>by
   cases hd:p d;rw[ap9 (by simp[hd])]at h;simp at h
   ·rw[ap_ hd,Ca]at h;cases j with
    | zero=>simp only[List.getElem?_cons_zero,Option.some.injEq]at hj;subst hj;exact hd
    | succ j=>exact XF t j c (by omega) (by simpa using hj)
def aay(s:Bs)(a:Nat)(O:VH)(hs:Ζ s<=1000000)(ha:a<=1000000):VF Ε 321 [.s s,mi a] O (aH λm O'=>m= .tuple [.s (yH s a).1,mi (yH s a).2.1,mi (yH s a).2.2]/\O.Ge O'):=by
 unfold yH;refine ω 65 [.tmp 4,.tmp 5,.tmp 6] func321 ?_;refine κ cf ?_;refine κ cf ?_;refine VC.al ?_;rintro O1 ⟨aK,cK,dd⟩;refine Ξ [0,1,7] (λ_:Unit=>[.s (k_ s a).1,mi (k_ s a).2.1,.p O.N 0]) (λ_ O'=>O.Ge O'/\O'.hp O.N=φ (.cells [mi (k_ s a).2.2])) ?_ ?_
 ·refine κ cf ?_;refine Ω (pQ s [120] _) ?_;unfold k_;cases h1:eX s [120];refine ae cf ?_;refine ν cf ?_;exact aB.mk () ⟨aK,cK⟩
  ·have h2:1<=Ζ s:=by
    cases s with
    | nil=>cases h1
    | cons c s=>simp
   refine ao cf cK ?_;refine ο cf cK ?_;exact aB.mk () ⟨aK.set (alO _) _,υ _ _ _⟩
 rintro⟨⟩ O2 ⟨aC,bY⟩;have dD:(k_ s a).1.length<=1000000:=by unfold k_;split<;>simp<;>omega
 have Q6:(k_ s a).2.1<=1000001:=by unfold k_;split<;>simp<;>omega
 have qB:(k_ s a).2.2<=16:=by unfold k_;split<;>simp
 generalize k_ s a=p at*;obtain⟨t,a2,b⟩:=p;dsimp only at*;have htw:=qM (Bf b) t;refine κ cf ?_;refine Ω (adx 325 [.p O.N 0] (Bf b) t O2 (by omega) (λc=>aax b O.N c O2 bY) (by kernel_rfl)) ?_;have ja:= @XF (Bf b) t;generalize (t.takeWhile (Bf b)).length=n at*;unfold ady;refine ae cf ?_;refine Γ (χ ?_);by_cases h1:8<n;rw[if_pos h1];refine ν cf ?_;exact⟨rfl,aC⟩;rw[if_neg h1];by_cases h2:n=Ζ t;rw[if_pos h2];subst h2;refine ν cf ?_;exact⟨rfl,aC⟩;rw[if_neg h2];by_cases h3:n=0;rw[if_pos (.inl h3)];subst h3;refine ο cf h2 ?_;exact⟨rfl,aC⟩;have hnt:n<Ζ t:=by omega
 have hg:=alS hnt;have hd:t.getD n 0=t[n]:=by simp[List.getD,hg]
 rw[hd];generalize t[n]=c at*;by_cases h4:c=59;rotate_left;rw[if_pos (.inr h4)];(have h5:¬((c.toNat:Int)=59):=λe=>h4 (UInt8.toNat_inj.1 (by simpa using(by omega:c.toNat=59))));refine ι (cB cf hg @aO h5 ?_);exact⟨rfl,aC⟩
 rw[if_neg (λh=>h.elim h3 (λh=>h h4))];subst h4;have h5:((((59:UInt8).toNat:Nat):Int) != 59)=γ:=rfl;refine ι (cB cf hg @aO h5 ?_);clear hg h5;refine κ cf ?_;refine κ cf ?_;simp only[aq]at bY;refine Θ [9,40] [0,1,7,8,39] (λj:Nat=>[mi (vo b (t.take j)),mi j]) (λj O'=>O'=O2/\j<=n) (λj=>n - j) (0) ?_ ?_;exact⟨rfl,alR _⟩;rintro j O3 ⟨eO,hj⟩;rw[eO];clear eO O3;have h8:(t.take j).length<=8:=by rw[alV];omega
 have hv8:=XE qB h8;by_cases hjn:j<n
 ·have hjt:j<Ζ t:=by omega
  have hg:=List.getElem?_eq_getElem hjt;have hdg:=ja j _ hjn hg;have hY:=U7 b t j hjt;have h9:vo b (t.take (j+1))<=4294967296:=XE qB (by rw[List.length_take];omega);generalize t[j]=c at*;simp only[Bf,decide_eq_true_eq]at hdg;generalize hV:vo b (t.take (j+1))=V at*;generalize vo b (t.take j)=v at*;have EA:((vm b c).toNat:Int)=vm b c:=Int.toNat_of_nonneg hdg;have hdc:=Lq b c O2;generalize vm b c=d at*;obtain⟨d,rfl⟩:=Int.eq_ofNat_of_zero_le hdg;((((((have mR:(v:Int)*(b:Int)=((v*b:Nat):Int):=by rw[Int.natCast_mul]);simp only[Int.toNat_natCast]at hY;generalize v*b=vb at*;refine κ cf ?_;refine κ cf ?_;refine Γ (χ ?_);refine κ cf ?_;refine VC.pF [] ?_;refine ρ 0 cf ?_;refine ab.ld (m:=.v (Ι Κ b)) 1 ?_ ?_);exact eD cf bY);simp only[ak];refine ab.ql 2 cf mR ?_;refine ρ 3 cf ?_;refine ρ 4 cf ?_;refine ab.ql 5 cf hg ?_;refine ab.ld (m:=.v (Ι Κ b)) 6 ?_ ?_);exact eD cf bY);simp only[ak];refine ab.call (i:=7) (hdc) ?_;rintro _ O3 ⟨rfl,eO⟩;simp only[ak];rw[eO];clear eO O3);refine⟨VH.Ge.refl _,?_⟩;refine ab.ql 8 cf mR ?_;refine ab.ql 9 cf mR ?_;refine ab.bW [] ?_;refine ae cf ?_;refine ν cf ?_;exact az.N (j+1) ⟨rfl,hjn⟩ (hl:=(by rw[hV,hY];rfl))
 ·obtain rfl:j=n:=by omega
  refine κ cf ?_;refine ν cf ?_;generalize vo b (t.take j)=v at*;refine κ cf ?_;refine Ω (aaw v _ (by omega)) ?_;cases h6:isLet v;rw[if_neg (by simp)];refine ae cf ?_;refine ν cf ?_;exact⟨rfl,aC⟩;rw[if_pos rfl];refine ae cf ?_;refine ν cf ?_;exact⟨rfl,aC⟩
def r9(w:Bs):Bs:=
 if w=[108,116]then[60]else if w=[103,116]then[62]else if w=[97,109,112]then[38]else if w=[113,117,111,116]then[34]else if w=[97,112,111,115]then[39]else[]
def adz(w:Bs)(O:VH):VF Ε 323 [.s w] O (aH λm O'=>m= .s (r9 w)/\O'=O):=by
 unfold r9;refine Υ 14 [.tmp 2] func323 ?_;by_cases h1:w=[108,116];rw[if_pos h1];have e1:=beq_iff_eq.2 h1;exact eD cf e1;rw[if_neg h1];have e1:(w==[108,116])=γ:=by simpa using h1
 by_cases h2:w=[103,116];rw[if_pos h2];have e2:=beq_iff_eq.2 h2;exact kt3 cf e1 e2;rw[if_neg h2];have e2:(w==[103,116])=γ:=by simpa using h2
 by_cases h3:w=[97,109,112];rw[if_pos h3];have e3:=beq_iff_eq.2 h3;exact kt4 cf e1 e2 e3;rw[if_neg h3];have e3:(w==[97,109,112])=γ:=by simpa using h3
 by_cases h4:w=[113,117,111,116];rw[if_pos h4];have e4:=beq_iff_eq.2 h4;exact kt5 cf e1 e2 e3 e4;rw[if_neg h4];have e4:(w==[113,117,111,116])=γ:=by simpa using h4
 by_cases h5:w=[97,112,111,115];rw[if_pos h5];have e5:=beq_iff_eq.2 h5;exact kt6 cf e1 e2 e3 e4 e5;rw[if_neg h5];have e5:(w==[97,112,111,115])=γ:=by simpa using h5
 exact kt6 cf e1 e2 e3 e4 e5
def FO(c:UInt8):Bool:=decide (97<=c.toNat/\c.toNat<=122)
def am9(c:UInt8)(O:VH):VF Ε 322 [im c] O (aH λm O'=>m=mb (FO c)/\O'=O):=by
 refine Υ 9 [.tmp 2] func322 ?_;by_cases h1:97<=c.toNat;by_cases h2:c.toNat<=122;rw[show FO c=Α from decide_eq_true ⟨h1,h2⟩];exact eD cf @aO;rw[show FO c=γ from decide_eq_false (λh=>h2 h.2)];exact eD cf @aO;rw[show FO c=γ from decide_eq_false (λh=>h1 h.1)];exact eD cf @aO
def sY(s:Bs):Bs:=(s.drop 1).takeWhile FO
def so:List Bs:=[[108,116],[103,116],[97,109,112],[113,117,111,116],[97,112,111,115]]
def adA(s w:Bs):Bs×Nat×Int:=
 if 1+Ζ w=(Ζ s) then(if so.any (λx=>eX x w)then([],0,13)else([],0,12))
 else if r9 w≠[]/\s.getD (1+Ζ w) 0=59 then(r9 w,Ζ w+2,0)else([],0,12)
def pU(s:Bs):Bs×Nat×Int:=if eX s [38,35]then yH (s.drop 2) 2 else adA s (sY s)
def jc{p:Bs}(h:eX s p=Α):Ζ p<=Ζ s:=by
 unfold eX at h;have h1:s.take (Ζ p)=p:=by simpa using h
 rw[<-h1,alV];omega
def akT(s:Bs)(O:VH)(hs:Ζ s<=1000000)(h0:s[0]?=φ 38):
  VF Ε 316 [.s s] O (aH λm O'=>m= .tuple [.s (pU s).1,mi (pU s).2.1,mi (pU s).2.2]/\O.Ge O'):=by
 have hne:(s==[])=γ:=by cases s<;>simp at h0 ⊢
 have h1:1<=Ζ s:=by cases s<;>simp at h0 ⊢
 unfold pU;refine Υ 62 [.tmp 2,.tmp 3,.tmp 4] func316 ?_;refine cB cf @hne h0 @aO ?_;refine Ω (pQ s [38,35] _) ?_;cases hn:eX s [38,35];rotate_left;have ni:=jc hn;simp only[Ca,abx]at ni;rw[if_pos rfl];refine ae cf ?_;refine τ (aay (s.drop 2) 2 O (by rw[WT];omega) (by decide)) ?_;rintro _ O2 ⟨rfl,aC⟩;generalize yH (s.drop 2) 2=r at*;refine ae cf ?_;first | exact aC | exact⟨rfl,aC⟩
 rw[if_neg (by simp)];refine ae cf ?_;refine Ω (Nk 322 FO (s.drop 1) _ (akc (by rw[WT];omega:(s.drop 1).length<=1000000) (by decide)) am9) ?_;have hw:sY s=(s.drop 1).takeWhile FO:=rfl;have lZ:(sY s).length<=(Ζ s) - 1:=by unfold sY;exact akc (qM _ _) (by rw[WT];exact alO _)
 have EB:(s.drop 1).take (sY s).length=sY s:=by
  unfold sY;exact List.prefix_iff_eq_take.1 (List.takeWhile_prefix _) |>.symm
 have qX:(1+((sY s).length:Int)).toNat - 1=(sY s).length:=by omega
 have ai0:(1+((sY s).length:Int)).toNat=1+(sY s).length:=by omega
 rw[<-hw];clear hw;generalize sY s=w at*;unfold adA;by_cases h2:1+Ζ w=Ζ s
 ·rw[if_pos h2];((((have h3:(1+(Ζ w:Int)==(Ζ s:Int))=Α:=by simpa using(by omega:1+(Ζ w:Int)=(Ζ s:Int)));have hws:List.length ([.s [108,116],.s [103,116],.s [97,109,112],.s [113,117,111,116],.s [97,112,111,115]]:Η)=5:=rfl;refine iV cf t_ qX EB h3 ?_;refine WC.kh [40] [6,38,39] (λj:Nat=>[mi j]) (λj O'=>O'=O/\j<=5/\so.any (λx=>eX x w)=(so.drop j).any (λx=>eX x w)) (λj=>5 - j) (0) ?_ ?_);exact⟨rfl,alR _,rfl⟩);rintro j O2 ⟨eO,hj,hr⟩;rw[eO];clear eO O2);by_cases wE:j<5
  ·obtain⟨x,bG,Nw⟩:∃x:Bs,([.s [108,116],.s [103,116],.s [97,109,112],.s [113,117,111,116],.s [97,112,111,115]]:Η)[j]?=φ (.s x)/\so.drop j=x::so.drop (j+1):=by
    rcases(by omega:j=0\/j=1\/j=2\/j=3\/j=4)with rfl | rfl | rfl | rfl | rfl<;>exact⟨_,rfl,rfl⟩
   rw[Nw,List.any_cons]at hr;refine cB cf t_ bG hws ?_;refine Ω (pQ x w _) ?_;cases hx:eX x w;rw[hx,Bool.false_or]at hr;refine ae cf ?_;exact az.N (j+1) ⟨rfl,wE,hr⟩;rw[hx,Bool.true_or]at hr;rw[hr,if_pos rfl];refine ae cf ?_;first | exact VH.Ge.refl _ | exact⟨rfl,VH.Ge.refl _⟩
  ·obtain rfl:j=5:=by omega
   have iA:so.any (λx=>eX x w)=γ:=hr;rw[iA,if_neg (by simp)];refine ae cf ?_;first | exact VH.Ge.refl _ | exact⟨rfl,VH.Ge.refl _⟩
 rw[if_neg h2];have h3:(1+(Ζ w:Int)==(Ζ s:Int))=γ:=by simpa using(by omega:¬1+(Ζ w:Int)=(Ζ s:Int))
 have h4:1+Ζ w<Ζ s:=by omega
 have hg:=alS h4;have hd:s.getD (1+Ζ w) 0=s[1+Ζ w]:=by simp[List.getD,hg]
 rw[hd];generalize s[1+Ζ w]=c at*;refine cB cf qX EB h3 ?_;refine Ω (adz w _) ?_;by_cases h5:r9 w=[];have h6:(r9 w==[])=Α:=beq_iff_eq.2 h5;rw[if_neg (λh=>h.1 h5)];refine ao cf h6 ?_;first | exact VH.Ge.refl _ | exact⟨rfl,VH.Ge.refl _⟩
 have h6:(r9 w==[])=γ:=by simpa using h5
 by_cases h7:c=59;rw[if_pos ⟨h5,h7⟩];subst h7;have h8:((((59:UInt8).toNat:Nat):Int)==59)=Α:=rfl;refine wc cf h6 ai0 hg @aO h8 ?_;(first | exact VH.Ge.refl _ | exact⟨rfl,VH.Ge.refl _⟩);rw[if_neg (λh=>h7 h.2)];(have h8:¬((c.toNat:Int)=59):=λe=>h7 (UInt8.toNat_inj.1 (by simpa using(by omega:c.toNat=59))));refine wc cf h6 ai0 hg @aO h8 ?_;first | exact VH.Ge.refl _ | exact⟨rfl,VH.Ge.refl _⟩
def Q7(w:Bs):(r9 w).length<=1:=by unfold r9;repeat' split
                                  all_goals simp
def aaz(k:Int):(Lp k).length<=4:=encode_size_le k
def adB(h:(yH s a).2.2=0):a+2<=(yH s a).2.1/\(yH s a).2.1<=a+(Ζ s)/\(yH s a).1.length<=4:=by
 have nC:a<=(k_ s a).2.1/\(k_ s a).2.1+(k_ s a).1.length<=a+Ζ s:=by
  unfold k_;split;rename_i h;have:=jc h;simp only[Ca,abx]at this;rw[WT];dsimp only;omega;dsimp only;omega
 have htw:=qM (Bf (k_ s a).2.2) (k_ s a).1;unfold yH at h ⊢;generalize ((k_ s a).1.takeWhile (Bf (k_ s a).2.2)).length=n at*;unfold ady at h ⊢;split at h;cases h;rw[if_neg ‹_›];split at h;cases h;rw[if_neg ‹_›];split at h;cases h;rw[if_neg ‹_›];split at h
 ·rw[if_pos ‹_›]
  have hl:(FN (vo (k_ s a).2.2 ((k_ s a).1.take n))).length<=4:=by
   unfold FN;split<;>first | exact aaz _ | exact alR _
  exact⟨by dsimp only;omega,by dsimp only;omega,hl⟩
 ·cases h
def Dv{s:Bs}(h:(pU s).2.2=0):2<=(pU s).2.1/\(pU s).2.1<=(Ζ s)/\(pU s).1.length<=(pU s).2.1:=by
 have lZ:1+(sY s).length<=(Ζ s)\/s=[]:=by
  cases s with
  | nil=>exact .inr rfl
  | cons c s=>left;unfold sY;rw[List.drop_succ_cons,aqg,Ca];have:=qM FO s;omega
 unfold pU at h ⊢;split at h;rename_i h1;rw[if_pos h1];have h2:=jc h1;simp only[Ca,abx]at h2;have:=adB h;rw[WT]at this;omega;rw[if_neg ‹_›];unfold adA at h ⊢;split at h;split at h<;>cases h;rw[if_neg ‹_›];split at h;rename_i h1;rw[if_pos h1];have:=Q7 (sY s);rcases lZ with lZ | rfl;exact⟨by dsimp only;omega,by dsimp only;omega,by dsimp only;omega⟩;have:=h1.2;simp at this;cases h
def fQ(t:Bs)(stop:UInt8):Nat->Nat->Bs->Except (Int×Nat) (Bs×Nat)
 | 0,o,acc=>.ok (acc,o)
 | n+1,o,acc=>match t[o]? with
   | none=>.ok (acc,o)
   | some c=>
     if c=stop then .ok (acc,o)
     else if c=38 then
      if(pU (t.drop o)).2.2≠0 then .error ((pU (t.drop o)).2.2,o)else fQ t stop n (o+(pU (t.drop o)).2.1) (acc++(pU (t.drop o)).1)
     else if c=60\/oS c=γ then .error (10,o)
     else fQ t stop n (o+1) (acc++[c])
def B3{k:Nat}(stop:UInt8)(h:Rd O k t off X)(ht:Ζ t<=1000000)(ho:off<=Ζ t):
  VF Ε 298 [.p k 0,im stop] O (TQ O k t X (fQ t stop (Ζ t+1 - off) off []) λy m=>m= .s y):=by
 refine ω 100 [.tmp 4] func298 ?_;refine κ av ?_;refine κ av ?_;have oE:=iG.fresh O (alO O.N);have oC:O.Ge ((O.push (.cells [.v (.pointer Β),.l 0 [] .nil])).push (.shape O.N 155 2)):=((VH.Ge.refl O).push _).push _;generalize ((O.push (.cells [.v (.pointer Β),.l 0 [] .nil])).push (.shape O.N 155 2))=O1 at*;refine Ξ [5] (λx:Bs×Nat×ϑ=>[.p O.N 0]) (λx O'=>bM O (φ k) O'/\Rd O' k t x.2.1 X/\iG O' O.N O.N x.2.2 x.1/\(Ζ x.1)<=1000000/\fQ t stop (Ζ t+1 - off) off []= .ok (x.1,x.2.1)) ?_ ?_;rotate_left;rintro⟨acc,o,q⟩ O2 ⟨dB,iA,cG,kX,he⟩;dsimp only at iA cG kX he;rw[he];refine ν av ?_;refine τ (sI cG) ?_;rintro _ O3 ⟨rfl,dF⟩;refine ae av ?_;have qy:=cG.Bc;exact⟨⟨akc dB.N dF.N,λi hi hne=>(dF.hp i (Th hi dB.N) (λe=>by have:=qy i e;omega)).trans (dB.hp i hi hne)⟩,rfl,Th iA.1 dF.N,(dF.hp k iA.1 (λe=>by have:=qy k e;have:=h.1;omega)).trans iA.2⟩;refine χ ?_;refine Θ [] [0,1,5] (λx:Bs×Nat×ϑ=>[]) (λx O'=>bM O (φ k) O'/\Rd O' k t x.2.1 X/\iG O' O.N O.N x.2.2 x.1/\(Ζ x.1)<=x.2.1/\x.2.1<=(Ζ t)/\∃n,Ζ t+1 - x.2.1<=n/\fQ t stop (Ζ t+1 - off) off []=fQ t stop n x.2.1 x.1) (λx=>(Ζ t) - x.2.1) (([],off,Β)) ?_ ?_;exact⟨(bM.mJ oC).any,h.ge oC,oE,alR _,ho,_,alO _,rfl⟩;rintro⟨acc,o,q⟩ O2 ⟨dB,iA,cG,kX,Q8,n,hn,he⟩;dsimp only at iA cG kX Q8 hn he;obtain⟨n,rfl⟩:∃i,n=i+1:=⟨n - 1,by omega⟩
 have bY:=iA.2;simp only[aq]at bY;by_cases h1:Ζ t<=o;(·have dh:t[o]?=Β:=List.getElem?_eq_none h1;((have hle:fQ t stop (n+1) o acc= .ok (acc,o):=by unfold fQ;rw[dh]);rw[hle]at he;refine Γ (Γ ?_);refine VC.pF [4,5,6,7,8,9,10,11,12,13,14,15,16,17,18,19] ?_;refine ρ 0 av ?_;refine ρ 1 av ?_;refine ρ 2 av ?_;refine ab.call (i:=3) (pR iA) ?_;rintro _ O3 ⟨rfl,eO⟩;simp only[ak];rw[eO];clear eO O3);rw[decide_eq_true h1];refine⟨VH.Ge.refl _,?_⟩;refine ab.bW [(4,.bh),(5,.bh),(6,.bh),(7,.bh),(8,.bh),(9,.bh),(10,.bh),(11,.bh),(12,.bh),(13,.bh),(14,.bh),(15,.bh),(16,.bh),(17,.bh),(18,.bh),(19,.bh)] ?_;refine ae av ?_;refine ν av ?_;exact aB.mk (acc,o,q) ⟨dB,iA,cG,akc kX (akc Q8 ht),he⟩)
 have h2:o<Ζ t:=by omega
 have hg:=alS h2;generalize t[o]=c at*;refine Γ (Γ ?_);refine VC.pF [] ?_;refine ρ 0 av ?_;refine ρ 1 av ?_;refine ρ 2 av ?_;refine ab.call (i:=3) (pR iA) ?_;rintro _ O3 ⟨rfl,eO⟩;simp only[ak];rw[eO];clear eO O3;rw[decide_eq_false h1];refine⟨VH.Ge.refl _,?_⟩;refine ρ 4 av ?_;refine ρ 5 av ?_;refine ρ 6 av ?_;refine ρ 7 av ?_;refine ρ 8 av ?_;refine ρ 9 av ?_;refine ab.ld (m:=.s t) 10 ?_ ?_;exact eD av bY;simp only[ak];refine ρ 11 av ?_;refine ρ 12 av ?_;refine ρ 13 av ?_;refine ρ 14 av ?_;refine ab.ld (m:=.v (Ι Κ o)) 15 ?_ ?_;exact eD av bY;simp only[ak];refine ab.ql 16 av hg ?_;refine ρ 17 av ?_;by_cases h3:c=stop;subst h3;(have hle:fQ t c (n+1) o acc= .ok (acc,o):=by unfold fQ;rw[hg];simp);rw[hle]at he;refine ab.ql 18 av @aO ?_;refine ρ 19 av ?_;refine ab.bW [] ?_;refine ae av ?_;refine ν av ?_;exact aB.mk (acc,o,q) ⟨dB,iA,cG,akc kX (akc Q8 ht),he⟩
 have h4:¬((c.toNat:Int)=(stop.toNat:Int)):=λe=>h3 (UInt8.toNat_inj.1 (by omega))
 refine ab.bh 18 ?_;refine aE av @aO h4 ?_;refine ρ 19 av ?_;refine ab.bW [] ?_;refine ae av ?_;refine ν av ?_;refine χ ?_;refine Γ ?_;refine WC.reads ?_;refine aE av bY hg ?_;by_cases h5:c=38
 ·subst h5;((have pW:(t.drop o).length<=1000000:=by rw[WT];omega);have oC:(t.drop o)[0]?=φ 38:=by rw[List.getElem?_drop];exact hg);have Dw:=akT (t.drop o) O2 pW oC;have dw:= @Dv (t.drop o)
  have hle:fQ t stop (n+1) o acc=if(pU (t.drop o)).2.2≠0 then .error ((pU (t.drop o)).2.2,o)else fQ t stop n (o+(pU (t.drop o)).2.1) (acc++(pU (t.drop o)).1):=by
   rw[show fQ t stop (n+1) o acc=_ from by unfold fQ;rfl,hg];simp only;rw[if_neg h3,if_pos trivial]
  rw[hle]at he;rw[WT]at dw;generalize pU (t.drop o)=r at*;have h6:((((38:UInt8).toNat:Nat):Int)==38)=Α:=rfl;refine θ (aE av @aO h6 ?_);refine Ω (Ak iA Q8) ?_;refine ae av ?_;refine τ (Dw) ?_;rintro _ OR ⟨rfl,hgR⟩;refine ae av ?_;clear Dw
  replace bY:=(hgR.hp k iA.1).trans bY
  replace iA:=iA.ge hgR
  replace cG:=cG.ge hgR
  replace dB:=dB.trans (bM.mJ hgR).any
  clear hgR O2;by_cases h7:r.2.2=0;obtain⟨k1,k2,k3⟩:=dw h7;rw[if_neg (by simpa using h7)]at he;((have h8:(r.2.2 != 0)=γ:=by simpa using h7);refine ao av h8 ?_;refine τ (ct r.1 cG) ?_;rintro _ O3 ⟨rfl,q',cN,dF⟩;have qy:=cG.Bc;have en:O3.hp k=φ (.cells [.s t,.v (Ι Κ (o:Int)),X]):=(dF.hp k iA.1 (by have:=h.1;omega) (λe=>by have:=qy k e;have:=h.1;omega)).trans bY;refine ao av en ?_;have eK:bM O (φ k) O3:=⟨akc dB.N dF.N,λi hi hne=>(dF.hp i (Th hi dB.N) (by omega) (λe=>by have:=qy i e;omega)).trans (dB.hp i hi hne)⟩;have jJ:Rd O3 k t o X:=⟨Th iA.1 dF.N,en⟩;refine az.N (acc++r.1,o+r.2.1,q') ⟨eK.trans bM.set,by simpa[aq]using jJ.set (t':=t) (off':=o+r.2.1) (X':=X),cN.set en (by have:=h.1;omega) (λe=>by have:=cN.Bc k e;have:=h.1;omega),by dsimp only;rw[Ti];omega,by dsimp only;omega,n,by dsimp only;omega,he⟩);rw[if_pos h7]at he;rw[he];(((have h8:(r.2.2 != 0)=Α:=by simpa using h7);refine aE av h8 bY ?_;refine ah.p (jZ r.2.2 o _) ?_ ?_);rintro m O9 ⟨_,h⟩;exact h.elim);rintro m O9 ⟨rfl,rfl⟩;refine ae av ?_;exact⟨dB,rfl⟩
 have h6:¬((c.toNat:Int)=38):=λe=>h5 (UInt8.toNat_inj.1 (by simpa using(by omega:c.toNat=38)))
 by_cases h7:c=60\/oS c=γ
 ·(have hle:fQ t stop (n+1) o acc= .error (10,o):=by unfold fQ;rw[hg];simp only;rw[if_neg h3,if_neg h5,if_pos h7]);rw[he,hle];by_cases h8:c=60
  ·(have h9:((c.toNat:Int)==60)=Α:=by rw[h8];rfl);refine θ (iV av @aO h6 h9 bY ?_);refine ah.p (jZ 10 o _) ?_ ?_
   ·rintro m O9 ⟨_,h⟩;exact h.elim
   rintro m O9 ⟨rfl,rfl⟩;refine ae av ?_;exact⟨dB,rfl⟩
  have BH:¬((c.toNat:Int)=60):=λe=>h8 (UInt8.toNat_inj.1 (by simpa using(by omega:c.toNat=60)))
  have h9:oS c=γ:=h7.resolve_left h8;refine θ (cB av @aO h6 BH ?_);refine Ω (Af c _) ?_;rw[h9];refine ao av bY ?_;refine ah.p (jZ 10 o _) ?_ ?_;rintro m O9 ⟨_,h⟩;exact h.elim;rintro m O9 ⟨rfl,rfl⟩;refine ae av ?_;exact⟨dB,rfl⟩
 have h8:¬c=60:=λe=>h7 (.inl e)
 have h9:oS c=Α:=by simpa usingλhx:oS c=γ=>h7 (.inr hx)
 have BH:¬((c.toNat:Int)=60):=λe=>h8 (UInt8.toNat_inj.1 (by simpa using(by omega:c.toNat=60)))
 have hle:fQ t stop (n+1) o acc=fQ t stop n (o+1) (acc++[c]):=by
  rw[show fQ t stop (n+1) o acc=_ from by unfold fQ;rfl,hg];simp only;rw[if_neg h3,if_neg h5,if_neg h7]
 rw[hle]at he;refine θ (cB av @aO h6 BH ?_);refine Ω (Af c _) ?_;rw[h9];refine ae av ?_;refine ν av ?_;refine τ (we c cG) ?_;rintro _ O3 ⟨rfl,q',cN,dF⟩;have qy:=cG.Bc;have en:O3.hp k=φ (.cells [.s t,.v (Ι Κ (o:Int)),X]):=(dF.hp k iA.1 (by have:=h.1;omega) (λe=>by have:=qy k e;have:=h.1;omega)).trans bY;refine ao av en ?_;have eK:bM O (φ k) O3:=⟨akc dB.N dF.N,λi hi hne=>(dF.hp i (Th hi dB.N) (by omega) (λe=>by have:=qy i e;omega)).trans (dB.hp i hi hne)⟩;have jJ:Rd O3 k t o X:=⟨Th iA.1 dF.N,en⟩;refine az.N (acc++[c],o+1,q') ⟨eK.trans bM.set,by simpa[aq]using jJ.set (t':=t) (off':=o+1) (X':=X),cN.set en (by have:=h.1;omega) (λe=>by have:=cN.Bc k e;have:=h.1;omega),by dsimp only;rw[Ti];simp only[Ca,abx];omega,by dsimp only;omega,?_⟩;exact⟨n,by dsimp only;omega,he⟩
def qY{t:Bs}{stop:UInt8}:∀(n o:Nat)(acc:Bs) {s:Bs} {o':Nat},o<=(Ζ t)->Ζ acc<=o->fQ t stop n o acc= .ok (s,o')->o<=o'/\o'<=(Ζ t)/\(Ζ s)<=o'
 | 0,o,acc,s,o',ho,ha,h=>by
   unfold fQ at h;injection h with h;injection h with h1 h2;subst h1;subst h2;exact⟨alO _,ho,ha⟩
 | n+1,o,acc,s,o',ho,ha,h=>by
   have done:∀(h:(.ok (acc,o):Except (Int×Nat) (Bs×Nat))= .ok (s,o')),o<=o'/\o'<=(Ζ t)/\(Ζ s)<=o':=λh=>by
    injection h with h;injection h with h1 h2;subst h1;subst h2;exact⟨alO _,ho,ha⟩
   unfold fQ at h;cases hg:t[o]? with
   | none=>rw[hg]at h;exact done h
   | some c=>
     have EC:o<Ζ t:=(YI.1 hg).1;rw[hg]at h;simp only at h;split at h;((((·exact done h));split at h);rename_i h2;subst h2;split at h;cases h;rename_i h5;obtain⟨k1,k2,k3⟩:=Dv (by simpa using h5);rw[WT]at k2;have:=qY n _ _ (by omega) (by rw[Ti];omega) h;omega);split at h;cases h;have:=qY n _ _ (by omega) (by rw[Ti];simp only[Ca,abx];omega) h;omega
def xe(t:Bs)(off:Nat):Except (Int×Nat) (Bs×Nat):=match t[off]? with
 | none=>.error (13,off)
 | some q=>
   if q≠34/\q≠39 then .error (10,off)
   else match fQ t q (Ζ t+1 - (off+1)) (off+1) []with
    | .error e=>.error e
    | .ok (s,o)=>if (Ζ t)<=o then .error (13,o)else .ok (s,o+1)
def adC{k:Nat}(h:Rd O k t off X)(ht:Ζ t<=1000000):
  VF Ε 315 [.p k 0] O (TQ O k t X (xe t off) λy m=>m= .s y):=by
 have hk:=h.2;simp only[aq]at hk;unfold xe;refine Υ 70 [.tmp 2] func315 ?_;refine ae av ?_;refine Ω (pR h) ?_;by_cases h1:Ζ t<=off;rw[decide_eq_true h1,List.getElem?_eq_none h1];refine ao av hk ?_;refine ah.p (jZ _ _ _) ?_ ?_;rintro m O9 ⟨_,h⟩;exact h.elim;rintro m O9 ⟨rfl,rfl⟩;refine ae av ?_;exact⟨bM.refl _ _,rfl⟩;have h2:off<Ζ t:=by omega
 have hg:=List.getElem?_eq_getElem h2;rw[decide_eq_false h1,hg];generalize t[off]=c at*;refine ae av ?_;refine WC.reads ?_;refine cB av hk hg @aO ?_;have hr:Rd (O.set k (.cells [.s t,mi (off+1:Nat),X])) k t (off+1) X:=h.set;have hu:bM O (φ k) (O.set k (.cells [.s t,mi (off+1:Nat),X])):=bM.set;have mR:=jSx off;simp only[aq, <-mR]at hr hu;have hle:=B3 (X:=X) c hr ht (by omega:off+1<=Ζ t);have fa:= @qY t c (Ζ t+1 - (off+1)) (off+1) [];generalize fQ t c (Ζ t+1 - (off+1)) (off+1) []=LF at*;by_cases hq:c≠34/\c≠39;rw[if_pos hq];((((have e1:¬((c.toNat:Int)=34):=λe=>hq.1 (UInt8.toNat_inj.1 (by simpa using(by omega:c.toNat=34))));have e2:¬((c.toNat:Int)=39):=λe=>hq.2 (UInt8.toNat_inj.1 (by simpa using(by omega:c.toNat=39))));refine cB av hk e1 e2 ?_;refine ah.p (jZ _ _ _) ?_ ?_);rintro m O9 ⟨_,h⟩;exact h.elim);rintro m O9 ⟨rfl,rfl⟩;refine ae av ?_;exact⟨bM.refl _ _,rfl⟩
 rw[if_neg hq];by_cases hc:c=34
 ·subst hc;have e1:((((34:UInt8).toNat:Nat):Int) != 34)=γ:=rfl;refine cB av @aO e1 hk ?_;generalize O.set k (.cells [.s t,.v (Ι Κ ((off:Int)+1)),X])=O2 at*;refine ah.p (hle) ?_ ?_;rotate_left
  ·rintro m O3 ⟨dF,h⟩;cases LF with
   | ok y=>exact h.elim
   | error e=>
     dsimp only at h;subst h;refine ae av ?_;exact⟨hu.trans dF,rfl⟩
  rintro m O3 ⟨dF,h⟩;cases LF with
  | error e=>exact h.elim
  | ok y=>
  obtain⟨s,o⟩:=y;dsimp only at h;obtain⟨rfl,jJ⟩:=h;have en:=jJ.2;simp only[aq]at en;obtain⟨g1,g2,g3⟩:=fa (by omega) (alR _) rfl;refine ae av ?_;refine Ω (pR jJ) ?_;by_cases h5:Ζ t<=o;rw[decide_eq_true h5];rw[if_pos h5];refine ao av en ?_;refine ah.p (jZ _ _ _) ?_ ?_;rintro m O9 ⟨_,h⟩;exact h.elim;rintro m O9 ⟨rfl,rfl⟩;refine ae av ?_;exact⟨hu.trans dF,rfl⟩;rw[decide_eq_false h5];rw[if_neg h5];refine ao av en ?_;exact⟨(hu.trans dF).trans bM.set,rfl,by simpa[aq]using jJ.set (t':=t) (off':=o+1) (X':=X)⟩
 ·obtain rfl:c=39:=by
   by_cases h9:c=39;exact h9;exact absurd ⟨hc,h9⟩ hq
  have e1:((((39:UInt8).toNat:Nat):Int) != 34)=Α:=rfl;have e2:((((39:UInt8).toNat:Nat):Int) != 39)=γ:=rfl;refine iV av @aO e1 e2 hk ?_;generalize O.set k (.cells [.s t,.v (Ι Κ ((off:Int)+1)),X])=O2 at*;refine ah.p (hle) ?_ ?_;rotate_left
  ·rintro m O3 ⟨dF,h⟩;cases LF with
   | ok y=>exact h.elim
   | error e=>
     dsimp only at h;subst h;refine ae av ?_;exact⟨hu.trans dF,rfl⟩
  rintro m O3 ⟨dF,h⟩;cases LF with
  | error e=>exact h.elim
  | ok y=>
  obtain⟨s,o⟩:=y;dsimp only at h;obtain⟨rfl,jJ⟩:=h;have en:=jJ.2;simp only[aq]at en;obtain⟨g1,g2,g3⟩:=fa (by omega) (alR _) rfl;refine ae av ?_;refine Ω (pR jJ) ?_;by_cases h5:Ζ t<=o;rw[decide_eq_true h5];rw[if_pos h5];refine ao av en ?_;refine ah.p (jZ _ _ _) ?_ ?_;rintro m O9 ⟨_,h⟩;exact h.elim;rintro m O9 ⟨rfl,rfl⟩;refine ae av ?_;exact⟨hu.trans dF,rfl⟩;rw[decide_eq_false h5];rw[if_neg h5];refine ao av en ?_;exact⟨(hu.trans dF).trans bM.set,rfl,by simpa[aq]using jJ.set (t':=t) (off':=o+1) (X':=X)⟩
def nQ(t:Bs):Nat->Nat->List (Bs×Bs)->Except (Int×Nat) (List (Bs×Bs)×Nat)
 | 0,o,l=>.ok (l,o)
 | n+1,o,l=>
   if l0 t o=0\/(Ζ t)<=o+l0 t o\/eX (t.drop (o+l0 t o)) [47]=Α\/eX (t.drop (o+l0 t o)) [62]=Α then .ok (l,o+l0 t o)
   else match kO t (o+l0 t o) 10 with
    | .error e=>.error e
    | .ok (nm,o2)=>
      if l.any (·.1==nm)then .error (15,o+l0 t o)
      else match ku t (o2+l0 t o2) [61]with
       | .error e=>.error e
       | .ok (_,o4)=>match xe t (o4+l0 t o4)with
         | .error e=>.error e
         | .ok (v,o6)=>nQ t n o6 (l++[(nm,v)])
def kH(t:Bs)(o:Nat)(h:o<=Ζ t:=by omega):o+l0 t o<=Ζ t:=by
 unfold l0;have:=qM oa (t.drop o);rw[WT]at this;omega
def iT{t:Bs}{o:Nat}{e:Int}{s:Bs}{o':Nat}(h:kO t o e= .ok (s,o')):o<o'/\o'<=(Ζ t)/\(Ζ s)<=o' - o/\0<Ζ s:=by
 have AI:=FH (t.drop o);rw[WT]at AI;unfold kO at h;split at h;cases h;split at h;cases h;injection h with h;injection h with h1 h2;subst h1;subst h2;rw[alV,WT];omega
def nE{t:Bs}{o:Nat}{p:Bs}{y:Unit}{o':Nat}(h:ku t o p= .ok (y,o')):o'=o+(Ζ p)/\o'<=(Ζ t)/\o<Ζ t:=by
 unfold ku at h;split at h;cases h;split at h;rename_i h2;injection h with h;injection h with h1 h3;have:=jc h2;rw[WT]at this;omega;cases h
def Dx{t:Bs}{o:Nat}{s:Bs}{o':Nat}(h:xe t o= .ok (s,o')):o<o'/\o'<=(Ζ t)/\(Ζ s)<=o':=by
 unfold xe at h;split at h;cases h;rename_i q hq;have EC:=(YI.1 hq).1;split at h;cases h;split at h;cases h;rename_i s2 o2 h2;split at h;cases h;injection h with h;injection h with h1 h3;subst h1;subst h3;have:=qY _ _ _ (by omega) (by simp) h2;omega
def App.bS{k:Nat}(h:App O B sz tk)(u:bM O (φ k) O1)(hk:k<B):App O1 B sz tk:=by
 cases tk with
 | own t j=>
   obtain⟨h1,h2,h3,h4⟩:=h;exact⟨h1,(u.hp t h4 (by intro e;injection e;omega)).trans h2,h3,Th h4 u.N⟩
 | nil=>trivial
 | full=>trivial
 | au=>exact h.elim
def Q9{k:Nat}(h:Rd O k t off X)(ht:Ζ t<=1000000)(ho:off<=Ζ t):
  VF Ε 297 [.p k 0] O (TQ O k t X (nQ t (Ζ t+1 - off) off []) λy m=>∃tk,m= .l (Ζ y) (y.flatMap bH) tk):=by
 refine ω 64 [.tmp 2] func297 ?_;refine κ av ?_;refine χ ?_;refine Θ [2] [0] (λx:List (Bs×Bs)×Nat×Tok=>[.l (Ζ x.1) (x.1.flatMap bH) x.2.2]) (λx O'=>bM O (φ k) O'/\Rd O' k t x.2.1 X/\App O' O.N 2 x.2.2/\x.2.1<=(Ζ t)/\(Ζ x.1)<=x.2.1/\∃n,Ζ t+1 - x.2.1<=n/\nQ t (Ζ t+1 - off) off []=nQ t n x.2.1 x.1) (λx=>(Ζ t) - x.2.1) (([],off,.nil)) ?_ ?_;exact⟨bM.refl _ _,h,trivial,ho,alR _,_,alO _,rfl⟩;rintro⟨l,o,tk⟩ O2 ⟨dB,iA,cH,EC,AF,n,hn,he⟩;dsimp only at dB iA cH EC AF hn he ⊢;rw[he];obtain⟨n,rfl⟩:∃i,n=i+1:=⟨n - 1,by omega⟩
 have yy:=kH t o EC;have hrb:=sW iA ht EC;rw[nQ];generalize l0 t o=kb at*;refine χ ?_;refine κ av ?_;refine ah.p (hrb) ?_ ?_;rotate_left;rintro m O9 ⟨_,h⟩;exact h.elim;rintro m O3 ⟨dF,h9⟩;dsimp only at h9;obtain⟨rfl,jJ⟩:=h9;have kM:App O3 O.N 2 tk:=App.bS cH dF (by have:=h.1;omega);have Iv:=dB.trans dF;refine ae av ?_;by_cases vX:kb=0;(·subst vX;rw[if_pos (.inl rfl)];(repeat refine iX av ?_);exact⟨Iv,⟨tk,rfl⟩,jJ⟩)
 have am_:((kb:Int)==0)=γ:=by simpa using vX
 refine ξ av am_ ?_;refine Ω (pR jJ) ?_;by_cases Lr:Ζ t<=o+kb;(·rw[if_pos (.inr (.inl Lr)),decide_eq_true Lr];(repeat refine iX av ?_);exact⟨Iv,⟨tk,rfl⟩,jJ⟩)
 rw[decide_eq_false Lr];refine ae av ?_;refine Ω (sV [47] jJ) ?_;cases h47:eX (t.drop (o+kb)) [47];rotate_left;(·rw[if_pos (.inr (.inr (.inl rfl)))];(repeat refine iX av ?_);exact⟨Iv,⟨tk,rfl⟩,jJ⟩)
 refine ae av ?_;refine Ω (sV [62] jJ) ?_;cases h62:eX (t.drop (o+kb)) [62];rotate_left;(·rw[if_pos (.inr (.inr (.inr rfl)))];(repeat refine iX av ?_);exact⟨Iv,⟨tk,rfl⟩,jJ⟩)
 rw[if_neg (by simp[vX,Lr])];have en:=jJ.2;simp only[aq]at en;repeat refine sT av en ?_
 have Tx:=Du 10 jJ ht;have xt:= @iT t (o+kb) 10;generalize kO t (o+kb) 10=NF at*;refine ah.p (Tx) ?_ ?_;rotate_left
 ·rintro m O9 ⟨kE,h9⟩;cases NF with
  | ok y=>exact h9.elim
  | error e=>
    dsimp only at h9;subst h9;refine ae av ?_;exact⟨bM.trans Iv kE,rfl⟩
 rintro m O4 ⟨eK,h9⟩;cases NF with
 | error e=>exact h9.elim
 | ok y9=>
 obtain⟨nm,o2⟩:=y9;dsimp only at h9;obtain⟨rfl,J2⟩:=h9;obtain⟨a1,a2,a3,a4⟩:=xt rfl;have mP:App O4 O.N 2 tk:=App.bS kM eK (by have:=h.1;omega);have adD:=Iv.trans eK;refine ae av ?_;have pB:((l.flatMap bH).length)=(Ζ l)*2:=bk gM l;refine Ξ [0,2,4,5] (λ_:Unit=>[.p k 0,.l (Ζ l) (l.flatMap bH) tk,mi (o+kb:Nat),.s nm]) (λ_ O'=>O4.Ge O'/\l.any (·.1==nm)=γ) ?_ ?_
 ·refine κ av ?_;refine χ ?_;refine Θ [40] [0,2,4,5,38,39] (λj:Nat=>[mi j]) (λj O'=>O4.Ge O'/\j<=(Ζ l)/\l.any (·.1==nm)=(l.drop j).any (·.1==nm)) (λj=>(Ζ l) - j) (0) ?_ ?_;exact⟨VH.Ge.refl _,alR _,rfl⟩;rintro j O5 ⟨bO,hj,k8⟩;by_cases BU:j<Ζ l
  ·have bG:=c9 gM l j BU;have Nw:=aoT BU;rw[Nw,List.any_cons]at k8;generalize l[j]=y at*;obtain⟨yn,yv⟩:=y;simp only[bH]at bG;refine κ av ?_;refine κ av ?_;refine Γ (χ ?_);refine ξ av bG ?_;refine VC.al ?_;rintro O6 ⟨gN,pc,oD⟩;by_cases hy:yn=nm;have e1:(yn==nm)=Α:=beq_iff_eq.2 hy;simp only[e1,Bool.true_or]at k8;rw[k8,if_pos rfl];refine θ (aE av pc e1 ?_);refine ν av ?_;refine ah.p (jZ _ _ _) ?_ ?_;rintro m O9 ⟨_,h⟩;exact h.elim;rintro m O9 ⟨rfl,rfl⟩;refine ae av ?_;exact⟨adD.trans (bM.mJ (bO.trans gN)).any,rfl⟩
   ·have e1:(yn==nm)=γ:=by simpa using hy
    simp only[e1,Bool.false_or]at k8;refine θ (aE av pc e1 ?_);refine ν av ?_;refine ν av ?_;exact az.N (j+1) ⟨bO.trans gN,BU,k8⟩
  ·obtain rfl:j=Ζ l:=by omega
   rw[List.drop_length,List.any_nil]at k8;refine κ av ?_;refine ν av ?_;exact aB.mk () ⟨bO,k8⟩
 rintro⟨⟩ O5 ⟨bO,k8⟩;rw[k8,if_neg (by simp)];have AK:=J2.ge bO;have gx:=mP.ge bO;have Xx:=adD.trans (bM.mJ bO).any;clear bO J2 jJ iA cH kM mP dB dF eK Iv adD en hrb;have apk:=kH t o2 a2;refine κ av ?_;refine ah.p (sW AK ht a2) ?_ ?_;rotate_left;rintro m O9 ⟨_,h⟩;exact h.elim;rintro m O6 ⟨uD,h9⟩;dsimp only at h9;obtain⟨rfl,pX⟩:=h9;have oc:App O6 O.N 2 tk:=App.bS gx uD (by have:=h.1;omega);have QI:=Xx.trans uD;repeat refine iX av ?_
 have Nx:= @nE t (o2+l0 t o2) [61];have pY:=wD (X:=X) [61] pX ht (by decide);generalize ku t (o2+l0 t o2) [61]=WF at*;refine ah.p (pY) ?_ ?_;rotate_left
 ·rintro m O9 ⟨kE,h9⟩;cases WF with
  | ok y=>exact h9.elim
  | error e=>
    dsimp only at h9;subst h9;refine ae av ?_;exact⟨bM.trans QI kE,rfl⟩
 rintro m O7 ⟨Gj,h9⟩;cases WF with
 | error e=>exact h9.elim
 | ok y9=>
 obtain⟨y7,o4⟩:=y9;dsimp only at h9;obtain⟨rfl,Ny⟩:=h9;obtain⟨b1,b2,b3⟩:=Nx rfl;have lN:App O7 O.N 2 tk:=App.bS oc Gj (by have:=h.1;omega);have ana:=QI.trans Gj;have apl:=kH t o4 b2;repeat refine iX av ?_
 refine ah.p (sW Ny ht b2) ?_ ?_;rotate_left;rintro m O9 ⟨_,h⟩;exact h.elim;rintro m O8 ⟨tJ,h9⟩;dsimp only at h9;obtain⟨rfl,hr8⟩:=h9;have FP:App O8 O.N 2 tk:=App.bS lN tJ (by have:=h.1;omega);have ai1:=ana.trans tJ;repeat refine iX av ?_
 have hvk:= @Dx t (o4+l0 t o4);have hvv:=adC hr8 ht;generalize xe t (o4+l0 t o4)=VF at*;refine ah.p (hvv) ?_ ?_;rotate_left
 ·rintro m O9 ⟨kE,h9⟩;cases VF with
  | ok y=>exact h9.elim
  | error e=>
    dsimp only at h9;subst h9;refine ae av ?_;exact⟨bM.trans ai1 kE,rfl⟩
 rintro m OA ⟨huA,h9⟩;cases VF with
 | error e=>exact h9.elim
 | ok y9=>
 obtain⟨v,o6⟩:=y9;dsimp only at h9;obtain⟨rfl,hrA⟩:=h9;obtain⟨c1,c2,c3⟩:=hvk rfl;have Q_:App OA O.N 2 tk:=App.bS FP huA (by have:=h.1;omega);have XG:=ai1.trans huA;repeat refine iX av ?_
 have anb:=aP (tk':=.full) (n:=Ζ l) (k:=1) (cs:=l.flatMap bH) (ds:=[.s nm,.s v]) T90 aiK.1.1 Q_ pB;refine VL.app anb ?_;repeat refine iX av ?_
 have ir:=cy.after Q_;have hne:∀i,i<O.N->Tok.id tk≠φ i:=λi hi e=>by have:=(Q_.nZ e).1;omega
 refine az.N (l++[(nm,v)],o6,.own OA.N 2) ⟨⟨akc XG.N ir.N,λi hi hk=>(ir.hp i (Th hi XG.N) (hne i hi)).trans (XG.hp i hi hk)⟩,⟨Th hrA.1 ir.N,(ir.hp k hrA.1 (hne k h.1)).trans hrA.2⟩,App.after XG.N,c2,?_,n,?_,rfl⟩ (hl:=?_) (hm:=?_);dsimp only;rw[Ti,List.length_singleton];omega;dsimp only;omega;dsimp only;rw[ap8,Ti];rfl;dsimp only;omega
structure Tk where
 kind:Int
 name:Bs
 attrs:List (Bs×Bs)
 text:Bs
 off:Nat
def B4(x:Tk):Η:=[mi x.kind,.s x.name,.l (Ζ x.attrs) (x.attrs.flatMap bH) .au,.s x.text,mi x.off,mi 0,mi 0]
def Iw(x:Tk):(B4 x).length=7:=rfl
structure UB(B k:Nat)(O O':VH):Prop where
 N:O.N<=O'.N
 hp:∀i,i<B->i≠k->O'.hp i=O.hp i
def UB.refl(B k:Nat)(O:VH):UB B k O O:=⟨alO _,λ_ _ _=>rfl⟩
def UB.bS{k:Nat}(h:UB B k O O1)(u:bM O1 (φ k) O2)(hB:B<=O1.N:=by omega):UB B k O O2:=
 ⟨akc h.N u.N,λi hi hk=>(u.hp i (Th hi hB) (by intro e;injection e;omega)).trans (h.hp i hi hk)⟩
def UB.ge{k:Nat}(h:UB B k O O1)(u:O1.Ge O2)(hB:B<=O1.N):UB B k O O2:=
 ⟨akc h.N u.N,λi hi hk=>(u.hp i (Th hi hB)).trans (h.hp i hi hk)⟩
def UB.set{k:Nat}(h:UB B k O O1)(hb:B<=b\/b=k):UB B k O (O1.set b x):=
 ⟨h.N,λi hi hk=>Δ (h.hp i hi hk)⟩
def UB.trans{k:Nat}(h:UB B k O O1)(u:UB B k O1 O2):UB B k O O2:=⟨akc h.N u.N,λi hi hk=>(u.hp i hi hk).trans (h.hp i hi hk)⟩
def Rd.other{k:Nat}(h:Rd O k t off X)(hb:b≠k):Rd (O.set b x) k t off X:=⟨h.1,(π _ _ (λe=>hb e.symm)).trans h.2⟩
def xf{α β :Type}(f: α -> β):Except (Int×Nat) (α ×Nat)->Except (Int×Nat) (β ×Nat)
 | .error e=>.error e
 | .ok (x,o)=>.ok (f x,o)
def ud(t:Bs)(off:Nat):Except (Int×Nat) (Tk×Nat):=match kO t (off+2) 11 with
 | .error e=>.error e
 | .ok (nm,o2)=>xf (λ_=>⟨3,nm,[],[],off⟩) (ku t (o2+l0 t o2) [62])
def yI(t:Bs)(off:Nat):Except (Int×Nat) (Tk×Nat):=match kO t (off+1) 11 with
 | .error e=>.error e
 | .ok (nm,o2)=>match nQ t (Ζ t+1 - o2) o2 []with
   | .error e=>.error e
   | .ok (l,o3)=>if eX (t.drop o3) [47]then xf (λ_=>⟨2,nm,l,[],off⟩) (ku t (o3+1) [62])else xf (λ_=>⟨1,nm,l,[],off⟩) (ku t o3 [62])
def oX(t:Bs)(off:Nat):Except (Int×Nat) (Tk×Nat):=
 if eX (t.drop off) [60,33,45,45]then xf (λs=>⟨5,[],[],s,off⟩) (kG t (off+List.length [(60:UInt8),33,45,45]) [45,45,62])
 else if eX (t.drop off) [60,33,91,67,68,65,84,65,91]then xf (λs=>⟨4,[],[],s,off⟩) (kG t (off+List.length [(60:UInt8),33,91,67,68,65,84,65,91]) [93,93,62])
 else if off=0/\uG (t.drop off)=Α then xf (λs=>⟨6,[],[],s,off⟩) (kG t (off+List.length [(60:UInt8),63,120,109,108]) [63,62])
 else if eX (t.drop off) [60,47]then ud t off
 else if eX (t.drop off) [60]then yI t off
 else xf (λs=>⟨4,[],[],s,off⟩) (fQ t 60 (Ζ t+1 - off) off [])
structure TJ(O:VH)(B k n:Nat)(t:Bs)(p:MV)(L:Η)(o:Nat)(O':VH):Prop where
 ub:UB B k O O'
 rd:Rd O' k t o p
 row:GR O' 163 7 B p n L
 lt:O.N<O'.N
def TJ.set{k:Nat}(h:TJ O B k n t p L o O')(hb:O'.hp O.N=φ (.cells cs))(hp:gid p≠φ O.N)(iM:k<B)(hB:B<=O.N):TJ O B k n t p L o (O'.set O.N x):=
 ⟨h.ub.set (.inl hB),h.rd.other (by omega),h.row.qT bM.set hp (λ_ _ _ e=>by rw[hb]at e;cases e),h.lt⟩
def TJ.bS{k o2:Nat}(h:TJ O B k n t p L o OX)(u:bM OX (φ k) OY)(hr:Rd OY k t o2 p)(hp:gid p≠φ k)(hB:B<=O.N):TJ O B k n t p L o2 OY:=
 ⟨h.ub.bS u (by have:=h.lt;omega),hr,h.row.qT u hp (λ_ _ _ e=>by rw[h.rd.2]at e;cases e),Th h.lt u.N⟩
def TJ.pn{k:Nat}(h:TJ O B k n t p L o OX)(u:bM OX (φ k) OY)(hB:B<=O.N):UB B k O OY:=h.ub.bS u (by have:=h.lt;omega)
def TJ.at{k:Nat}(h:TJ O B k n t p L o OX)(u:bM OX (φ k) OY)(iM:k<B)(hB:B<=O.N)(hb:OX.hp O.N=φ (.cells cs)):OY.hp O.N=φ (.cells cs):=
 (u.hp _ h.lt (by intro e;injection e;omega)).trans hb
section
variable{P:Program}{n:Sz}{D:List Deferred}{c:Code}{e:Env}{O:VH}{Q:VQ}{md:Md}{d:Option Tmp}{K:Env->VH->Prop}{fv:ϱ}{ms:Option Η}{b k:Nat}{x y:cx}
def ah.s1(h:∀O3,O3=O.set b x->ah P n md Q d O3 K e fv ms):ah P n md Q d (O.set b x) K e fv ms:=h _ rfl
def ah.s2(h:∀O3,O3=(O.set b x).set k y->ah P n md Q d O3 K e fv ms):ah P n md Q d ((O.set b x).set k y) K e fv ms:=h _ rfl
end
def yJ{t:Bs}:∀(n o:Nat)(l:List (Bs×Bs)) {l':List (Bs×Bs)} {o':Nat},o<=(Ζ t)->nQ t n o l= .ok (l',o')->o<=o'/\o'<=Ζ t
 | 0,o,l,l',o',ho,h=>by
   rw[nQ]at h;injection h with h;injection h with h1 h2;omega
 | n+1,o,l,l',o',ho,h=>by
   have yy:=kH t o ho;rw[nQ]at h;split at h;injection h with h;injection h with h1 h2;omega;split at h;cases h;rename_i nm o2 h2;have hn:=iT h2;have cG:=kH t o2;split at h;cases h;split at h;cases h;rename_i y4 o4 h4;have hw:=nE h4;have dy:=kH t o4;split at h;cases h;rename_i v o6 h6;have hv:=Dx h6;have:=yJ n o6 _ (by omega) h;omega
def adE{k:Nat}(h:Rd O k t off p)(ht:Ζ t<=1000000)(ho:off<=Ζ t)(iM:k<B)(hB:B<=O.N)(cU:GR O 163 7 B p n L)(hn:n<=1000000):
  VF Ε 276 [.p k 0] O λr O'=>UB B k O O'/\match r,oX t off with
   | .ret m,.ok (x,o')=>m= .tuple []/\∃p',Rd O' k t o' p'/\GR O' 163 7 B p' (n+1) (L++B4 x)
   | .panic m,.error e=>m=Dt e.1 e.2
   | _,_=>False:=by
 have hk:=h.2;simp only[aq]at hk
 have mw:gid p≠φ k:=λe=>by
  rcases cU with⟨_,_,hp | hp⟩ | ⟨k2,c,hp,_,_,kx⟩;rw[hp]at e;cases e;rw[hp]at e;cases e;rw[hp]at e;injection e with e;have:=kx.lo;omega
 refine ω 116 [] func276 ?_;refine ξ av hk ?_;refine VC.al ?_;rintro O1 ⟨aK,cC,dd⟩;have lK:=h.ge aK;have akU:=cU.BO (bM.mJ aK);have cK:=lK.2;simp only[aq]at cK;have uZ:UB B k O O1:=(UB.refl B k O).ge aK hB
 have qB:gid p≠φ O.N:=λe=>by
  rcases cU with⟨_,_,hp | hp⟩ | ⟨k2,c,hp,_,_,kx⟩;rw[hp]at e;cases e;rw[hp]at e;cases e;rw[hp]at e;injection e with e;have:=kx.hi;omega
 have hJ:∀{O3:VH} {o:Nat},bM O1 (φ k) O3->Rd O3 k t o p->TJ O B k n t p L o O3:=λ{O3 o} u hr=>
  ⟨uZ.bS u (by omega),hr,akU.qT u mw (λ_ _ _ e=>by rw[lK.2]at e;cases e),by have:=u.N;omega⟩
 refine Ξ [0,2] (λx:Tk×Nat=>[.p k 0,.p O.N 0]) (λx O'=>TJ O B k n t p L x.2 O'/\oX t off= .ok x/\∃att,O'.hp O.N=φ (.cells [mi x.1.kind,.s x.1.name,att,.s x.1.text,mi x.1.off,mi 0,mi 0])/\au att= .l (Ζ x.1.attrs) (x.1.attrs.flatMap bH) .au/\eI att=Α) ?_ ?_
 ·refine χ ?_;unfold oX;refine κ av ?_;refine Ω (sV [60,33,45,45] lK ho) ?_;cases hp:eX (t.drop off) [60,33,45,45];rotate_left
  ·rw[if_pos rfl];have hle:=jc hp;have huv:=It (X:=p) [60,33,45,45] [45,45,62] lK ht (by decide) (by rw[WT]at hle;omega);generalize kG t (off+List.length [60,33,45,45]) [45,45,62]=F at*;(repeat refine iX av ?_);refine ah.p (huv) ?_ ?_;rotate_left
   ·rintro m O9 ⟨kE,h9⟩;cases F with
    | ok y=>exact h9.elim
    | error e=>
      dsimp only at h9;subst h9;(repeat refine iX av ?_);exact⟨UB.bS uZ (bM.trans (bM.refl _ _) kE),rfl⟩
   rintro m O3 ⟨dF,h9⟩;cases F with
   | error e=>exact h9.elim
   | ok y9=>
   obtain⟨s,o2⟩:=y9;dsimp only at h9;obtain⟨rfl,jJ⟩:=h9;have cN:=(dF.hp _ (by omega) (by intro e;injection e;omega)).trans cC;(repeat refine sT av cN ?_);exact aB.mk (⟨5,[],[],s,off⟩,o2) ⟨((hJ dF jJ).set cN qB iM hB).set (υ _ _ _) qB iM hB,rfl,.l 0 [] .nil,υ _ _ _,by simp only[wu];rfl,rfl⟩
  rw[if_neg (by simp)];(repeat refine iX av ?_);refine Ω (sV [60,33,91,67,68,65,84,65,91] lK ho) ?_;clear hp;cases hp:eX (t.drop off) [60,33,91,67,68,65,84,65,91];rotate_left
  ·rw[if_pos rfl];have hle:=jc hp;have huv:=It (X:=p) [60,33,91,67,68,65,84,65,91] [93,93,62] lK ht (by decide) (by rw[WT]at hle;omega);generalize kG t (off+List.length [60,33,91,67,68,65,84,65,91]) [93,93,62]=F at*;(repeat refine iX av ?_);refine ah.p (huv) ?_ ?_;rotate_left
   ·rintro m O9 ⟨kE,h9⟩;cases F with
    | ok y=>exact h9.elim
    | error e=>
      dsimp only at h9;subst h9;(repeat refine iX av ?_);exact⟨UB.bS uZ (bM.trans (bM.refl _ _) kE),rfl⟩
   rintro m O3 ⟨dF,h9⟩;cases F with
   | error e=>exact h9.elim
   | ok y9=>
   obtain⟨s,o2⟩:=y9;dsimp only at h9;obtain⟨rfl,jJ⟩:=h9;have cN:=(dF.hp _ (by omega) (by intro e;injection e;omega)).trans cC;(repeat refine sT av cN ?_);exact aB.mk (⟨4,[],[],s,off⟩,o2) ⟨((hJ dF jJ).set cN qB iM hB).set (υ _ _ _) qB iM hB,rfl,.l 0 [] .nil,υ _ _ _,by simp only[wu];rfl,rfl⟩
  rw[if_neg (by simp)];clear hp;by_cases h0:off=0;rotate_left
  ·rw[if_neg (λh=>h0 h.1)];((have h0i:((off:Int)==0)=γ:=by simpa using h0);repeat refine kg3 av cK h0i ?_);refine Ω (sV [60,47] lK ho) ?_;cases hp:eX (t.drop off) [60,47];rotate_left
   ·rw[if_pos rfl];unfold ud;have hle:=jc hp;simp only[WT,Ca,abx]at hle;(((repeat refine sT av cK ?_);have iA:Rd (O1.set k (.cells [.s t,mi (off+2:Nat),p])) k t (off+2) p:=lK.set;have dB:bM O1 (φ k) (O1.set k (.cells [.s t,mi (off+2:Nat),p])):=bM.set;have mR:((off:Int)+2)=((off+2:Nat):Int):=by omega);simp only[aq, <-mR]at iA dB;generalize O1.set k (.cells [.s t,.v (Ι Κ ((off:Int)+2)),p])=O2 at*;repeat refine iX av ?_);have Gl:=Du 11 iA ht;have xt:= @iT t (off+2) 11;generalize kO t (off+2) 11=F at*;refine ah.p (Gl) ?_ ?_;rotate_left
    ·rintro m O9 ⟨kE,h9⟩;cases F with
     | ok y=>exact h9.elim
     | error e=>
       dsimp only at h9;subst h9;(repeat refine iX av ?_);exact⟨UB.bS uZ (bM.trans dB kE),rfl⟩
    rintro m O3 ⟨dF,h9⟩;cases F with
    | error e=>exact h9.elim
    | ok y9=>
    obtain⟨s,o2⟩:=y9;dsimp only at h9;obtain⟨rfl,jJ⟩:=h9;have xg:=dB.trans dF;obtain⟨a1,a2,a3,a4⟩:=xt rfl;have cN:=(xg.hp _ (by omega) (by intro e;injection e;omega)).trans cC;((((((repeat refine sT av cN ?_);refine ah.s2 ?_;rintro O4 r_;have yK:TJ O B k n t p L o2 O4:=by rw[r_];exact((hJ xg jJ).set cN qB iM hB).set (υ _ _ _) qB iM hB);have dy:O4.hp O.N=φ (.cells [mi 3,.s s,.l 0 [] .nil,.s [],mi off,mi 0,mi 0]):=by rw[r_];exact υ _ _ _);clear r_;have yy:=kH t o2 a2;refine ah.p (sW yK.rd ht a2) ?_ ?_;rotate_left);rintro m O9 ⟨_,h⟩;exact h.elim);rintro m O5 ⟨lX,h9⟩;dsimp only at h9;obtain⟨rfl,AK⟩:=h9;have wE:=yK.bS lX AK mw hB;have dG:=yK.at lX iM hB dy;repeat refine iX av ?_);have pY:=wD (X:=p) [62] AK ht (by decide);generalize ku t (o2+l0 t o2) [62]=W at*;refine ah.p (pY) ?_ ?_;rotate_left
    ·rintro m O9 ⟨kE,h9⟩;cases W with
     | ok y=>exact h9.elim
     | error e=>
       dsimp only at h9;subst h9;(repeat refine iX av ?_);exact⟨TJ.pn wE kE hB,rfl⟩
    rintro m O6 ⟨uD,h9⟩;cases W with
    | error e=>exact h9.elim
    | ok y9=>
    obtain⟨y6,o4⟩:=y9;dsimp only at h9;obtain⟨rfl,pX⟩:=h9;have jr:=wE.at uD iM hB dG;(repeat refine iX av ?_);exact aB.mk (⟨3,s,[],[],off⟩,o4) ⟨wE.bS uD pX mw hB,rfl,.l 0 [] .nil,jr,by simp only[wu];rfl,rfl⟩
   rw[if_neg (by simp)];clear hp;(repeat refine iX av ?_);refine Ω (sV [60] lK ho) ?_;cases hp:eX (t.drop off) [60];rotate_left
   ·rw[if_pos rfl];unfold yI;have hle:=jc hp;simp only[WT,Ca,abx]at hle;(((repeat refine sT av cK ?_);have iA:Rd (O1.set k (.cells [.s t,mi (off+1:Nat),p])) k t (off+1) p:=lK.set;have dB:bM O1 (φ k) (O1.set k (.cells [.s t,mi (off+1:Nat),p])):=bM.set;have mR:=jSx off);simp only[aq, <-mR]at iA dB;generalize O1.set k (.cells [.s t,.v (Ι Κ ((off:Int)+1)),p])=O2 at*;repeat refine iX av ?_);have Gl:=Du 11 iA ht;have xt:= @iT t (off+1) 11;generalize kO t (off+1) 11=F at*;refine ah.p (Gl) ?_ ?_;rotate_left
    ·rintro m O9 ⟨kE,h9⟩;cases F with
     | ok y=>exact h9.elim
     | error e=>
       dsimp only at h9;subst h9;(repeat refine iX av ?_);exact⟨UB.bS uZ (bM.trans dB kE),rfl⟩
    rintro m O3 ⟨dF,h9⟩;cases F with
    | error e=>exact h9.elim
    | ok y9=>
    obtain⟨s,o2⟩:=y9;dsimp only at h9;obtain⟨rfl,jJ⟩:=h9;have xg:=dB.trans dF;obtain⟨a1,a2,a3,a4⟩:=xt rfl;have cN:=(xg.hp _ (by omega) (by intro e;injection e;omega)).trans cC;(((repeat refine sT av cN ?_);refine ah.s1 ?_;rintro O4 r_;have yK:TJ O B k n t p L o2 O4:=by rw[r_];exact(hJ xg jJ).set cN qB iM hB);have dy:O4.hp O.N=φ (.cells [mi 0,.s s,.l 0 [] .nil,.s [],mi off,mi 0,mi 0]):=by rw[r_];exact υ _ _ _);clear r_;have hav:=Q9 yK.rd ht a2;have hak:= @yJ t (Ζ t+1 - o2) o2 [];generalize nQ t (Ζ t+1 - o2) o2 []=A at*;refine ah.p (hav) ?_ ?_;rotate_left
    ·rintro m O9 ⟨kE,h9⟩;cases A with
     | ok y=>exact h9.elim
     | error e=>
       dsimp only at h9;subst h9;(repeat refine iX av ?_);exact⟨yK.pn kE hB,rfl⟩
    rintro m O5 ⟨lX,h9⟩;cases A with
    | error e=>exact h9.elim
    | ok y9=>
    obtain⟨l,o3⟩:=y9;dsimp only at h9;obtain⟨⟨tk,rfl⟩,AK⟩:=h9;obtain⟨c1,c2⟩:=hak a2 rfl;have wE:=yK.bS lX AK mw hB;have dG:=yK.at lX iM hB dy;simp only[aq]at dG;(((repeat refine sT av dG ?_);refine ah.s2 ?_;rintro O6 ED;have B5:TJ O B k n t p L o3 O6:=by rw[ED];exact(wE.set dG qB iM hB).set (υ _ _ _) qB iM hB);have jr:O6.hp O.N=φ (.cells [mi 1,.s s,.l (Ζ l) (l.flatMap bH) tk,.s [],mi off,mi 0,mi 0]):=by rw[ED];exact υ _ _ _);clear ED;have qg:=B5.rd.2;simp only[aq]at jr qg;refine Ω (sV [47] B5.rd c2) ?_;cases h47:eX (t.drop o3) [47]
    ·rw[if_neg (by simp)];(repeat refine iX av ?_);have pY:=wD (X:=p) [62] B5.rd ht (by decide);generalize ku t o3 [62]=W at*;refine ah.p (pY) ?_ ?_;rotate_left
     ·rintro m O9 ⟨kE,h9⟩;cases W with
      | ok y=>exact h9.elim
      | error e=>
        dsimp only at h9;subst h9;(repeat refine iX av ?_);exact⟨TJ.pn B5 kE hB,rfl⟩
     rintro m O7 ⟨Gj,h9⟩;cases W with
     | error e=>exact h9.elim
     | ok y9=>
     obtain⟨y7,o4⟩:=y9;dsimp only at h9;obtain⟨rfl,Ny⟩:=h9;have BZ:=B5.at Gj iM hB jr;(repeat refine iX av ?_);exact aB.mk (⟨1,s,l,[],off⟩,o4) ⟨B5.bS Gj Ny mw hB,rfl,.l (Ζ l) (l.flatMap bH) tk,BZ,by simp only[wu,iI],rfl⟩
    ·rw[if_pos rfl];have QL:=jc h47;simp only[WT,Ca,abx]at QL;(((((have adF:=λx:cx=>(π O6 (k:=O.N) (j:=k) x (by omega)).trans qg);repeat refine kg4 av jr qg adF ?_);refine ah.s2 ?_;rintro O7 sZ;have fw:=jSx o3);rw[fw]at sZ;have J3:=B5.set (x:=.cells [.v (Ι Κ 2),.s s,.l (Ζ l) (l.flatMap bH) tk,.s [],.v (Ι Κ off),.v (Ι Κ 0),.v (Ι Κ 0)]) jr qB iM hB;have Nz:TJ O B k n t p L (o3+1) O7:=by rw[sZ];exact J3.bS bM.set (Rd.set J3.rd) mw hB);have BZ:O7.hp O.N=φ (.cells [mi 2,.s s,.l (Ζ l) (l.flatMap bH) tk,.s [],mi off,mi 0,mi 0]):=by rw[sZ];exact Δ (υ _ _ _));clear sZ J3;have pY:=wD (X:=p) [62] Nz.rd ht (by decide);generalize ku t (o3+1) [62]=W at*;refine ah.p (pY) ?_ ?_;rotate_left
     ·rintro m O9 ⟨kE,h9⟩;cases W with
      | ok y=>exact h9.elim
      | error e=>
        dsimp only at h9;subst h9;(repeat refine iX av ?_);exact⟨TJ.pn Nz kE hB,rfl⟩
     rintro m O8 ⟨tJ,h9⟩;cases W with
     | error e=>exact h9.elim
     | ok y9=>
     obtain⟨y8,o4⟩:=y9;dsimp only at h9;obtain⟨rfl,hr8⟩:=h9;have uC:=Nz.at tJ iM hB BZ;(repeat refine iX av ?_);exact aB.mk (⟨2,s,l,[],off⟩,o4) ⟨Nz.bS tJ hr8 mw hB,rfl,.l (Ζ l) (l.flatMap bH) tk,uC,by simp only[wu,iI],rfl⟩
   rw[if_neg (by simp)];clear hp;(repeat refine iX av ?_);have ll:=B3 (X:=p) 60 lK ht ho;generalize fQ t 60 (Ζ t+1 - off) off []=F at*;refine ah.p (ll) ?_ ?_;rotate_left
   ·rintro m O9 ⟨kE,h9⟩;cases F with
    | ok y=>exact h9.elim
    | error e=>
      dsimp only at h9;subst h9;(repeat refine iX av ?_);exact⟨UB.bS uZ (bM.trans (bM.refl _ _) kE),rfl⟩
   rintro m O3 ⟨dF,h9⟩;cases F with
   | error e=>exact h9.elim
   | ok y9=>
   obtain⟨s,o2⟩:=y9;dsimp only at h9;obtain⟨rfl,jJ⟩:=h9;have cN:=(dF.hp _ (by omega) (by intro e;injection e;omega)).trans cC;(repeat refine sT av cN ?_);exact aB.mk (⟨4,[],[],s,off⟩,o2) ⟨((hJ dF jJ).set cN qB iM hB).set (υ _ _ _) qB iM hB,rfl,.l 0 [] .nil,υ _ _ _,by simp only[wu];rfl,rfl⟩
  have h0i:((off:Int)==0)=Α:=by simpa using h0
  (repeat refine kg3 av cK h0i ?_);refine Ω (aau lK ht ho) ?_;cases hhd:uG (t.drop off)
  ·rw[if_neg (λh=>by cases h.2)];(repeat refine iX av ?_);refine Ω (sV [60,47] lK ho) ?_;cases hp:eX (t.drop off) [60,47];rotate_left
   ·rw[if_pos rfl];unfold ud;have hle:=jc hp;simp only[WT,Ca,abx]at hle;(((repeat refine sT av cK ?_);have iA:Rd (O1.set k (.cells [.s t,mi (off+2:Nat),p])) k t (off+2) p:=lK.set;have dB:bM O1 (φ k) (O1.set k (.cells [.s t,mi (off+2:Nat),p])):=bM.set;have mR:((off:Int)+2)=((off+2:Nat):Int):=by omega);simp only[aq, <-mR]at iA dB;generalize O1.set k (.cells [.s t,.v (Ι Κ ((off:Int)+2)),p])=O2 at*;repeat refine iX av ?_);have Gl:=Du 11 iA ht;have xt:= @iT t (off+2) 11;generalize kO t (off+2) 11=F at*;refine ah.p (Gl) ?_ ?_;rotate_left
    ·rintro m O9 ⟨kE,h9⟩;cases F with
     | ok y=>exact h9.elim
     | error e=>
       dsimp only at h9;subst h9;(repeat refine iX av ?_);exact⟨UB.bS uZ (bM.trans dB kE),rfl⟩
    rintro m O3 ⟨dF,h9⟩;cases F with
    | error e=>exact h9.elim
    | ok y9=>
    obtain⟨s,o2⟩:=y9;dsimp only at h9;obtain⟨rfl,jJ⟩:=h9;have xg:=dB.trans dF;obtain⟨a1,a2,a3,a4⟩:=xt rfl;have cN:=(xg.hp _ (by omega) (by intro e;injection e;omega)).trans cC;((((((repeat refine sT av cN ?_);refine ah.s2 ?_;rintro O4 r_;have yK:TJ O B k n t p L o2 O4:=by rw[r_];exact((hJ xg jJ).set cN qB iM hB).set (υ _ _ _) qB iM hB);have dy:O4.hp O.N=φ (.cells [mi 3,.s s,.l 0 [] .nil,.s [],mi off,mi 0,mi 0]):=by rw[r_];exact υ _ _ _);clear r_;have yy:=kH t o2 a2;refine ah.p (sW yK.rd ht a2) ?_ ?_;rotate_left);rintro m O9 ⟨_,h⟩;exact h.elim);rintro m O5 ⟨lX,h9⟩;dsimp only at h9;obtain⟨rfl,AK⟩:=h9;have wE:=yK.bS lX AK mw hB;have dG:=yK.at lX iM hB dy;repeat refine iX av ?_);have pY:=wD (X:=p) [62] AK ht (by decide);generalize ku t (o2+l0 t o2) [62]=W at*;refine ah.p (pY) ?_ ?_;rotate_left
    ·rintro m O9 ⟨kE,h9⟩;cases W with
     | ok y=>exact h9.elim
     | error e=>
       dsimp only at h9;subst h9;(repeat refine iX av ?_);exact⟨TJ.pn wE kE hB,rfl⟩
    rintro m O6 ⟨uD,h9⟩;cases W with
    | error e=>exact h9.elim
    | ok y9=>
    obtain⟨y6,o4⟩:=y9;dsimp only at h9;obtain⟨rfl,pX⟩:=h9;have jr:=wE.at uD iM hB dG;(repeat refine iX av ?_);exact aB.mk (⟨3,s,[],[],off⟩,o4) ⟨wE.bS uD pX mw hB,rfl,.l 0 [] .nil,jr,by simp only[wu];rfl,rfl⟩
   rw[if_neg (by simp)];clear hp;(repeat refine iX av ?_);refine Ω (sV [60] lK ho) ?_;cases hp:eX (t.drop off) [60];rotate_left
   ·rw[if_pos rfl];unfold yI;have hle:=jc hp;simp only[WT,Ca,abx]at hle;(((repeat refine sT av cK ?_);have iA:Rd (O1.set k (.cells [.s t,mi (off+1:Nat),p])) k t (off+1) p:=lK.set;have dB:bM O1 (φ k) (O1.set k (.cells [.s t,mi (off+1:Nat),p])):=bM.set;have mR:=jSx off);simp only[aq, <-mR]at iA dB;generalize O1.set k (.cells [.s t,.v (Ι Κ ((off:Int)+1)),p])=O2 at*;repeat refine iX av ?_);have Gl:=Du 11 iA ht;have xt:= @iT t (off+1) 11;generalize kO t (off+1) 11=F at*;refine ah.p (Gl) ?_ ?_;rotate_left
    ·rintro m O9 ⟨kE,h9⟩;cases F with
     | ok y=>exact h9.elim
     | error e=>
       dsimp only at h9;subst h9;(repeat refine iX av ?_);exact⟨UB.bS uZ (bM.trans dB kE),rfl⟩
    rintro m O3 ⟨dF,h9⟩;cases F with
    | error e=>exact h9.elim
    | ok y9=>
    obtain⟨s,o2⟩:=y9;dsimp only at h9;obtain⟨rfl,jJ⟩:=h9;have xg:=dB.trans dF;obtain⟨a1,a2,a3,a4⟩:=xt rfl;have cN:=(xg.hp _ (by omega) (by intro e;injection e;omega)).trans cC;(((repeat refine sT av cN ?_);refine ah.s1 ?_;rintro O4 r_;have yK:TJ O B k n t p L o2 O4:=by rw[r_];exact(hJ xg jJ).set cN qB iM hB);have dy:O4.hp O.N=φ (.cells [mi 0,.s s,.l 0 [] .nil,.s [],mi off,mi 0,mi 0]):=by rw[r_];exact υ _ _ _);clear r_;have hav:=Q9 yK.rd ht a2;have hak:= @yJ t (Ζ t+1 - o2) o2 [];generalize nQ t (Ζ t+1 - o2) o2 []=A at*;refine ah.p (hav) ?_ ?_;rotate_left
    ·rintro m O9 ⟨kE,h9⟩;cases A with
     | ok y=>exact h9.elim
     | error e=>
       dsimp only at h9;subst h9;(repeat refine iX av ?_);exact⟨yK.pn kE hB,rfl⟩
    rintro m O5 ⟨lX,h9⟩;cases A with
    | error e=>exact h9.elim
    | ok y9=>
    obtain⟨l,o3⟩:=y9;dsimp only at h9;obtain⟨⟨tk,rfl⟩,AK⟩:=h9;obtain⟨c1,c2⟩:=hak a2 rfl;have wE:=yK.bS lX AK mw hB;have dG:=yK.at lX iM hB dy;simp only[aq]at dG;(((repeat refine sT av dG ?_);refine ah.s2 ?_;rintro O6 ED;have B5:TJ O B k n t p L o3 O6:=by rw[ED];exact(wE.set dG qB iM hB).set (υ _ _ _) qB iM hB);have jr:O6.hp O.N=φ (.cells [mi 1,.s s,.l (Ζ l) (l.flatMap bH) tk,.s [],mi off,mi 0,mi 0]):=by rw[ED];exact υ _ _ _);clear ED;have qg:=B5.rd.2;simp only[aq]at jr qg;refine Ω (sV [47] B5.rd c2) ?_;cases h47:eX (t.drop o3) [47]
    ·rw[if_neg (by simp)];(repeat refine iX av ?_);have pY:=wD (X:=p) [62] B5.rd ht (by decide);generalize ku t o3 [62]=W at*;refine ah.p (pY) ?_ ?_;rotate_left
     ·rintro m O9 ⟨kE,h9⟩;cases W with
      | ok y=>exact h9.elim
      | error e=>
        dsimp only at h9;subst h9;(repeat refine iX av ?_);exact⟨TJ.pn B5 kE hB,rfl⟩
     rintro m O7 ⟨Gj,h9⟩;cases W with
     | error e=>exact h9.elim
     | ok y9=>
     obtain⟨y7,o4⟩:=y9;dsimp only at h9;obtain⟨rfl,Ny⟩:=h9;have BZ:=B5.at Gj iM hB jr;(repeat refine iX av ?_);exact aB.mk (⟨1,s,l,[],off⟩,o4) ⟨B5.bS Gj Ny mw hB,rfl,.l (Ζ l) (l.flatMap bH) tk,BZ,by simp only[wu,iI],rfl⟩
    ·rw[if_pos rfl];have QL:=jc h47;simp only[WT,Ca,abx]at QL;(((((have adF:=λx:cx=>(π O6 (k:=O.N) (j:=k) x (by omega)).trans qg);repeat refine kg4 av jr qg adF ?_);refine ah.s2 ?_;rintro O7 sZ;have fw:=jSx o3);rw[fw]at sZ;have J3:=B5.set (x:=.cells [.v (Ι Κ 2),.s s,.l (Ζ l) (l.flatMap bH) tk,.s [],.v (Ι Κ off),.v (Ι Κ 0),.v (Ι Κ 0)]) jr qB iM hB;have Nz:TJ O B k n t p L (o3+1) O7:=by rw[sZ];exact J3.bS bM.set (Rd.set J3.rd) mw hB);have BZ:O7.hp O.N=φ (.cells [mi 2,.s s,.l (Ζ l) (l.flatMap bH) tk,.s [],mi off,mi 0,mi 0]):=by rw[sZ];exact Δ (υ _ _ _));clear sZ J3;have pY:=wD (X:=p) [62] Nz.rd ht (by decide);generalize ku t (o3+1) [62]=W at*;refine ah.p (pY) ?_ ?_;rotate_left
     ·rintro m O9 ⟨kE,h9⟩;cases W with
      | ok y=>exact h9.elim
      | error e=>
        dsimp only at h9;subst h9;(repeat refine iX av ?_);exact⟨TJ.pn Nz kE hB,rfl⟩
     rintro m O8 ⟨tJ,h9⟩;cases W with
     | error e=>exact h9.elim
     | ok y9=>
     obtain⟨y8,o4⟩:=y9;dsimp only at h9;obtain⟨rfl,hr8⟩:=h9;have uC:=Nz.at tJ iM hB BZ;(repeat refine iX av ?_);exact aB.mk (⟨2,s,l,[],off⟩,o4) ⟨Nz.bS tJ hr8 mw hB,rfl,.l (Ζ l) (l.flatMap bH) tk,uC,by simp only[wu,iI],rfl⟩
   rw[if_neg (by simp)];clear hp;(repeat refine iX av ?_);have ll:=B3 (X:=p) 60 lK ht ho;generalize fQ t 60 (Ζ t+1 - off) off []=F at*;refine ah.p (ll) ?_ ?_;rotate_left
   ·rintro m O9 ⟨kE,h9⟩;cases F with
    | ok y=>exact h9.elim
    | error e=>
      dsimp only at h9;subst h9;(repeat refine iX av ?_);exact⟨UB.bS uZ (bM.trans (bM.refl _ _) kE),rfl⟩
   rintro m O3 ⟨dF,h9⟩;cases F with
   | error e=>exact h9.elim
   | ok y9=>
   obtain⟨s,o2⟩:=y9;dsimp only at h9;obtain⟨rfl,jJ⟩:=h9;have cN:=(dF.hp _ (by omega) (by intro e;injection e;omega)).trans cC;(repeat refine sT av cN ?_);exact aB.mk (⟨4,[],[],s,off⟩,o2) ⟨((hJ dF jJ).set cN qB iM hB).set (υ _ _ _) qB iM hB,rfl,.l 0 [] .nil,υ _ _ _,by simp only[wu];rfl,rfl⟩
  ·rw[if_pos ⟨h0,rfl⟩]
   have hp:eX (t.drop off) [60,63,120,109,108]=Α:=by
    unfold uG at hhd;simp only[aqb]at hhd;exact hhd.1.1
   (repeat refine iX av ?_);have hle:=jc hp;have huv:=It (X:=p) [60,63,120,109,108] [63,62] lK ht (by decide) (by rw[WT]at hle;omega);generalize kG t (off+List.length [60,63,120,109,108]) [63,62]=F at*;repeat refine iX av ?_
   refine ah.p (huv) ?_ ?_;rotate_left
   ·rintro m O9 ⟨kE,h9⟩;cases F with
    | ok y=>exact h9.elim
    | error e=>
      dsimp only at h9;subst h9;(repeat refine iX av ?_);exact⟨UB.bS uZ (bM.trans (bM.refl _ _) kE),rfl⟩
   rintro m O3 ⟨dF,h9⟩;cases F with
   | error e=>exact h9.elim
   | ok y9=>
   obtain⟨s,o2⟩:=y9;dsimp only at h9;obtain⟨rfl,jJ⟩:=h9;have cN:=(dF.hp _ (by omega) (by intro e;injection e;omega)).trans cC;(repeat refine sT av cN ?_);exact aB.mk (⟨6,[],[],s,off⟩,o2) ⟨((hJ dF jJ).set cN qB iM hB).set (υ _ _ _) qB iM hB,rfl,.l 0 [] .nil,υ _ _ _,by simp only[wu];rfl,rfl⟩
 rintro⟨x,o'⟩ O2 ⟨aM,di,att,cG,bG,jy⟩;dsimp only at aM di cG bG jy;rw[di];have bY:=aM.rd.2;simp only[aq]at cG bY;refine VC.MC [0,7,8,9,10] (by kernel_rfl) ?_;refine cc.mv 0 ?_;refine cc.bW [(1,.rd),(2,.rd),(3,.rd),(4,.rd),(5,.rd),(6,.one),(7,.one),(8,.one),(9,.one),(10,.one)] ?_;simp only[ak];repeat refine kg3 av cG bY ?_
 refine VL.wk (EW.top (Wk.l (sD _))) ?_
 have uB:dz [.v (Ι Κ x.kind),.s x.name,att,.s x.text,.v (Ι Κ x.off),.v (Ι Κ 0),.v (Ι Κ 0)]=B4 x:=by
  simp only[wu,bG,B4,aq]
 rw[uB];have dm:=aM.lt;refine VL.akQ aa (by simp) (λi hi=>by match i,hi with | 7,_=>rfl | 0,hi | 1,hi | 2,hi | 3,hi | 4,hi | 5,hi | 6,hi | 8,hi | 9,hi | 10,hi=>cases hi | _+11,hi=>cases hi) (te:=⟨_,7,88,_⟩) (dx:=.slice 163) (q:=.l 1 (B4 x) .full) (j:=1) (ds:=B4 x) aM.row rfl rfl (by rw[HY];rfl) aiG.1.1 (by rw[HY];rfl) trivial (by dsimp only;omega) (by simp only[maxLen];omega) (by omega) rfl rfl rfl rfl ?_;intro m O3 mS mT jQ hm;have en:O3.hp k=φ (.cells [.s t,.v (Ι Κ o'),p]):=(mT.hp k aM.rd.1 (by intro e;exact mw e)).trans bY
 obtain⟨k2,c2,rfl⟩:∃k2 c2,m= .aS k2 0 (n+1) c2:=by
  rcases hm with⟨k2,c2,h1,_⟩ | ⟨h1,_⟩;exact⟨k2,c2,h1⟩;cases h1
 have apm:B<=k2:=by
  rcases mS with⟨h1,_⟩ | ⟨k3,c3,h1,_,_,h4⟩;cases h1;injection h1 with h1;rw[h1];exact h4.lo
 have hpB:∀i,i<B->gid p≠φ i:=λi hi e=>by
  rcases cU with⟨_,_,hp | hp⟩ | ⟨k3,c,hp,_,_,kx⟩;rw[hp]at e;cases e;rw[hp]at e;cases e;rw[hp]at e;injection e with e;have:=kx.lo;omega
 clear hm jQ;try refine sT av en ?_
 refine⟨⟨akc aM.ub.N mT.N,λi hi hk=>(π _ _ hk).trans ((mT.hp i (by omega) (hpB i hi)).trans (aM.ub.hp i hi hk))⟩,.aS k2 0 (n+1) c2,⟨Th aM.rd.1 mT.N,υ _ _ _⟩,mS.qT bM.set (by intro e;injection e;omega) (λ_ _ _ e=>by rw[en]at e;cases e)⟩
def Ix{d:Nat}(h:K O):iO Ε 274 [.p a 0,.p b 0,.p c 0,.p d 0] Β O K:=by
 refine iO.rec (d:=7) func274 (ap5 (by decide:7<19) rfl) ?_;show WC _ _ ⟨19,0⟩ _ _ _ _ _;simp only[cZ,alT,Nat.reduceAdd,C6];refine ao eY @wi ?_;refine VL.pure (by simp) (λ_=>.inl rfl) rfl rfl (jW.HR (bb:=Α) Tryz.underlying20 rfl (.inl ⟨rfl,rfl⟩)) ?_;refine WL.sound aa ?_;refine ao eY @wi ?_;exact h
def adG{d:Nat}{x:MV}{z1 z2 z3:MV}(ht:Ζ t<=1000000)(ho:off<=Ζ t)(ha:O.hp a=φ (.cells [.s t]))(hb:O.hp b=φ (.cells [x]))(hc:O.hp c=φ (.cells [y]))(hd:O.hp d=φ (.cells [z1,z2,z3]))
  (han:a<O.N) (yA:b<O.N) (Ih:c<O.N) (AD:d<O.N) (hbc:b≠c) (dE:b≠d) (hcd:c≠d)
  (h:∀O',O.N<=O'.N->(∀i,i<O.N->i≠b->i≠c->i≠d->O'.hp i=O.hp i)->O'.hp b=φ (.cells [.l 0 [] .nil])->O'.hp c=φ (.cells [mi e])->O'.hp d=φ (.cells [mi off,mi (1+((t.take off).count 10:Nat)),mi ((off:Int) - iu (t.take off) 10 (t.take off).length)])->K O'):iO Ε 274 [.p a 0,.p b 0,.p c 0,.p d 0] (φ (Dt e off)) O K:=by
 refine iO.rec (d:=7) func274 (ap5 (by decide:7<19) rfl) ?_;show WC _ _ ⟨19,0⟩ _ _ _ _ _;simp only[cZ,alT,Nat.reduceAdd,C6,Dt];refine ao eY @wi ?_;refine VL.pure (by simp) (λ_=>.inl rfl) rfl rfl (jW.Xo (bb:=γ) Tryz.underlying20 rfl (.inl ⟨rfl,rfl⟩)) ?_;refine WL.sound aa ?_;refine ao eY @wi ?_;refine VL.pure (by simp) (λ_=>.inl rfl) rfl rfl (jW.asT Tryz.underlying414 (λ_ h=>by cases h) rfl) ?_;refine WL.sound aa ?_;refine ao eY @wi ?_;refine VC.al ?_;rintro O2 ⟨aC,jY,fc⟩;have fy:=(aC.hp _ han).trans ha;have cG:=(aC.hp _ yA).trans hb;have jm:=(aC.hp _ Ih).trans hc;have kW:=(aC.hp _ AD).trans hd;have AG:∀(X:cx) {i:Nat} {y:Option cx},i<O.N->O2.hp i=y->(O2.set O.N X).hp i=y:=λX {i y} hi h=>Δ h
 refine VC.pI [] (O.N) (jY) ?_;intro X;have gd:=AG (.obj X) han fy;have dy:=AG (.obj X) yA cG;have fP:=AG (.obj X) Ih jm;have Dy:=AG (.obj X) AD kW;have s8:(O2.set O.N (.obj X)).hp O.N=φ (.obj X):=υ _ _ _;have fT:(O2.set O.N (.obj X)).N=O.N+1:=fc;have aT:O.Ge (O2.set O.N (.obj X)):=aC.set (alO _) _;generalize hO4:O2.set O.N (.obj X)=O4 at*;refine ρ 0 eY ?_;refine δ (m:=.v (Ι Κ e)) 1 ?_ ?_;exact ff eY;simp only[ak];refine ρ 3 eY ?_;refine δ (m:=.v (Ι Κ off)) 4 ?_ ?_;exact ff eY;simp only[ak];refine ab.op (i:=2) ?_;refine ao eY gd ?_;refine⟨s8,?_⟩;refine ab.call (i:=5) (aiZ t off _ ht ho) ?_;rintro _ O3 ⟨rfl,aJ⟩;simp only[ak];refine⟨aJ.at s8,?_⟩;have ij:=aJ.N;have hX3:=aJ.at s8;have cN:=aJ.at dy;have fw:=aJ.at fP;have yL:=aJ.at Dy;have bO:O.Ge O3:=aT.trans aJ;unfold r8;simp only[aq]at h ⊢;refine ab.op (i:=6) ?_;refine ao eY cN ?_;refine⟨hX3,?_⟩;refine ab.op (i:=7) ?_;refine ao eY fw ?_;refine⟨hX3,?_⟩;refine ab.op (i:=8) ?_;refine ao eY yL ?_;refine⟨hX3,?_⟩;refine aqQ [] ?_;refine ae eY ?_;refine h _ (by rw[aqO,aqO,aqO,aqO];exact bO.N) (λi hi h1 h2 h3=>?_) ?_ ?_ ?_;rw[VH.sx,π _ _ h3,π _ _ h2,π _ _ h1];exact bO.hp i hi;rw[VH.sx,π _ _ dE,π _ _ hbc,υ];rw[VH.sx,π _ _ hcd,υ];rw[VH.sx,υ]
def kg8{A1 A2 A3 A4 A5 A6 A7 A8 P Q:Prop}(a1:A1)(a2:A2)(a3:A3)(a4:A4)(a5:A5)(a6:A6)(a7:A7)(a8:A8)(q:Q)(h:A1->A2->A3->A4->A5->A6->A7->A8->Q->P:=by intro a1 a2 a3 a4 a5 a6 a7 a8 q;first | (with_reducible refine θ ?_;refine JS a1 a2 a3 a4 a5 a6 a7 a8 q) | (with_reducible refine ι ?_;refine JS a1 a2 a3 a4 a5 a6 a7 a8 q) | (first | with_reducible refine UW ?_ | with_reducible refine UX ?_ | with_reducible refine UY ?_ | with_reducible refine UZ ?_);refine JS a1 a2 a3 a4 a5 a6 a7 a8 q):P:=h a1 a2 a3 a4 a5 a6 a7 a8 q
def ky(t:Bs):Nat->Nat->List Tk->Except (Int×Nat) (List Tk)
 | 0,_,l=>.ok l
 | n+1,o,l=>if (Ζ t)<=o then .ok l else match oX t o with
   | .error e=>.error e
   | .ok (x,o')=>ky t n o' (l++[x])
def xh(t:Bs):Except (Int×Nat) (List Tk):=ky t (Ζ t+1) 0 []
def oF(t:Bs)(o:Nat):Nat:=1+(t.take o).count 10
def Iy(t:Bs)(o:Nat):Int:=(o:Int) - iu (t.take o) 10 (t.take o).length
def xw(t:Bs)(x:Tk):Η:=[mi x.kind,.s x.name,.l (Ζ x.attrs) (x.attrs.flatMap bH) .au,.s x.text,mi x.off,mi (oF t x.off),mi (Iy t x.off)]
def Al{t:Bs}{stop:UInt8}:∀(n o:Nat)(acc:Bs) {e:Int} {p:Nat},fQ t stop n o acc= .error (e,p)->p<=Ζ t
 | 0,o,acc,e,p,h=>by unfold fQ at h;cases h
 | n+1,o,acc,e,p,h=>by
   unfold fQ at h;cases hg:t[o]? with
   | none=>rw[hg]at h;cases h
   | some c=>
     have EC:o<Ζ t:=(YI.1 hg).1;rw[hg]at h;simp only at h;split at h;cases h;split at h;split at h;injection h with h;injection h with h1 h2;omega;exact Al n _ _ h;split at h;injection h with h;injection h with h1 h2;omega;exact Al n _ _ h
def B6{k:Int}{p:Nat}(h:kO t o k= .error (e,p)):p=o:=by
 unfold kO at h;split at h;injection h with h;injection h with h1 h2;omega;split at h;injection h with h;injection h with h1 h2;omega;cases h
def wF{p:Nat}(h:ku t o q= .error (e,p)):p=o:=by
 unfold ku at h;split at h;injection h with h;injection h with h1 h2;omega;split at h;cases h;injection h with h;injection h with h1 h2;omega
def aaA{p:Nat}(ho:o<=Ζ t)(h:xe t o= .error (e,p)):p<=Ζ t:=by
 unfold xe at h;split at h;injection h with h;injection h with h1 h2;omega;rename_i q hq;have EC:=(YI.1 hq).1;split at h;injection h with h;injection h with h1 h2;omega;split at h;rename_i e2 h2;injection h with h;subst h;exact Al _ _ _ h2;rename_i s2 o2 h2;have:=qY _ _ _ (by omega) (by simp) h2;split at h;injection h with h;injection h with h1 h2;omega;cases h
def Ls{t:Bs}:∀(n o:Nat)(l:List (Bs×Bs)) {e:Int} {p:Nat},o<=(Ζ t)->nQ t n o l= .error (e,p)->p<=Ζ t
 | 0,o,l,e,p,ho,h=>by rw[nQ]at h;cases h
 | n+1,o,l,e,p,ho,h=>by
   have yy:=kH t o ho;rw[nQ]at h;split at h;cases h;split at h;rename_i e2 h2;injection h with h;subst h;have:=B6 h2;omega;rename_i nm o2 h2;have hn:=iT h2;have cG:=kH t o2;split at h;injection h with h;injection h with h1 h2;omega;split at h;rename_i e4 h4;injection h with h;subst h;have:=wF h4;omega;rename_i y4 o4 h4;have hw:=nE h4;have dy:=kH t o4;split at h;rename_i e6 h6;injection h with h;subst h;exact aaA dy h6;rename_i v o6 h6;have hv:=Dx h6;exact Ls n o6 _ (by omega) h
def yM{p:Nat}(ho:o<=Ζ t)(h:kG t o q= .error (e,p)):p<=Ζ t:=by
 unfold kG at h;split at h
 ·injection h with h;injection h with h1 h2;have h3:=qM oS (sX (t.drop o) q)
  have h4:(sX (t.drop o) q).length<=(Ζ t) - o:=by
   unfold sX;split;rw[alV,WT];omega;rw[WT];exact alO _
  omega
 split at h;injection h with h;injection h with h1 h2;omega;cases h
def aaB(s p:Bs)(h:0<=Lib.index s p):Lib.index s p+Ζ p<=Ζ s:=by
 induction s with
 | nil=>
   unfold Lib.index at h ⊢;cases p with
   | nil=>simp
   | cons c p=>simp at h
 | cons b l ih=>
   have jQ:=Lib.index_ge l p;unfold Lib.index at h ⊢;split;rename_i h1;have:=(List.isPrefixOf_iff_prefix.1 h1).length_le;omega;rename_i h1;rw[if_neg h1]at h;split;rename_i h2;rw[if_pos h2]at h;omega;rename_i h2;(have h3:Lib.index l p≠ -1:=by simpa using h2);have:=ih (by omega);rw[Ca];omega
def B7{p:Nat}(ho:o<=Ζ t)(h:kG t o q= .ok (s,p)):o+Ζ q<=p/\p<=Ζ t:=by
 unfold kG at h;split at h;cases h;split at h;cases h;rename_i h1;injection h with h;injection h with h2 h3;have:=aaB (t.drop o) q (by omega);rw[WT]at this;omega
def oY{α β :Type}{f: α -> β}{F:Except (Int×Nat) (α ×Nat)}{e:Int×Nat}(h:xf f F= .error e):F= .error e:=by
 cases F with
 | error e2=>injection h with h;rw[h]
 | ok y=>cases h
def kP{α β :Type}{f: α -> β}{F:Except (Int×Nat) (α ×Nat)}{x: β}(h:xf f F= .ok (x,o)):∃y,F= .ok (y,o)/\x=f y:=by
 cases F with
 | error e2=>cases h
 | ok y=>obtain⟨y,o2⟩:=y;injection h with h;injection h with h1 h2;exact⟨y,by rw[h2],h1.symm⟩
def aaC{t:Bs}{o:Nat}{e:Int}{p:Nat}(ho:o<=Ζ t)(h:oX t o= .error (e,p)):p<=Ζ t:=by
 have hp:∀{q:Bs},eX (t.drop o) q=Α->o+Ζ q<=Ζ t:=λhq=>by
  have:=jc hq;rw[WT]at this;omega
 unfold oX at h;split at h;exact yM (hp ‹_›) (oY h);split at h;exact yM (hp ‹_›) (oY h);split at h;rename_i h1;refine yM (hp (q:=[60,63,120,109,108]) ?_) (oY h);have:=h1.2;unfold uG at this;simp only[aqb]at this;exact this.1.1;split at h;have h0:=hp ‹_›;simp only[Ca,abx]at h0;unfold ud at h;split at h;rename_i h2;injection h with h;subst h;have:=B6 h2;omega;rename_i nm o2 h2;have hn:=iT h2;have cG:=kH t o2;have:=wF (oY h);omega;split at h;have h0:=hp ‹_›;simp only[Ca,abx]at h0;unfold yI at h;split at h;rename_i h2;injection h with h;subst h;have:=B6 h2;omega;rename_i nm o2 h2;have hn:=iT h2;split at h;rename_i e3 h3;injection h with h;subst h;exact Ls _ _ _ (by omega) h3;rename_i l o3 h3;have ha:=yJ _ _ _ (by omega) h3;split at h;have h4:=jc ‹_›;simp only[WT,Ca,abx]at h4;have:=wF (oY h);omega;have:=wF (oY h);omega;exact Al _ _ _ (oY h)
def U8{stop:UInt8}{acc:Bs}{o':Nat}(ho:o<Ζ t)(ha:Ζ acc<=o)(hne:t[o]?≠φ stop)(h:fQ t stop (n+1) o acc= .ok (s,o')):o<o':=by
 unfold fQ at h;have hg:=alS ho;rw[hg]at h hne;generalize t[o]=c at*;simp only at h;split at h;rename_i hc;rw[hc]at hne;exact absurd rfl hne;split at h;split at h;cases h;rename_i h5;obtain⟨k1,k2,k3⟩:=Dv (by simpa using h5);rw[WT]at k2;have:=qY n _ _ (by omega) (by rw[Ti];omega) h;omega;split at h;cases h;have:=qY n _ _ (by omega) (by rw[Ti];simp only[Ca,abx];omega) h;omega
def Ra{t:Bs}{o:Nat}{x:Tk}{o':Nat}(ho:o<Ζ t)(h:oX t o= .ok (x,o')):x.off=o/\o<o'/\o'<=Ζ t:=by
 have hp:∀{q:Bs},eX (t.drop o) q=Α->o+Ζ q<=Ζ t:=λhq=>by
  have:=jc hq;rw[WT]at this;omega
 unfold oX at h;split at h;obtain⟨y,h1,rfl⟩:=kP h;have:=B7 (hp ‹_›) h1;simp only[Ca,abx]at this;exact⟨rfl,by omega,by omega⟩;split at h;obtain⟨y,h1,rfl⟩:=kP h;have:=B7 (hp ‹_›) h1;simp only[Ca,abx]at this;exact⟨rfl,by omega,by omega⟩;split at h
 ·rename_i h1;obtain⟨y,h2,rfl⟩:=kP h
  have:=B7 (hp (q:=[60,63,120,109,108]) (by
   have:=h1.2;unfold uG at this;simp only[aqb]at this;exact this.1.1)) h2
  simp only[Ca,abx]at this;exact⟨rfl,by omega,by omega⟩
 split at h;have h0:=hp ‹_›;simp only[Ca,abx]at h0;unfold ud at h;split at h;cases h;rename_i nm o2 h2;have hn:=iT h2;have cG:=kH t o2;obtain⟨y,h3,rfl⟩:=kP h;have:=nE h3;exact⟨rfl,by omega,by omega⟩;split at h;have h0:=hp ‹_›;simp only[Ca,abx]at h0;unfold yI at h;split at h;cases h;rename_i nm o2 h2;have hn:=iT h2;split at h;cases h;rename_i l o3 h3;have ha:=yJ _ _ _ (by omega) h3;split at h;obtain⟨y,h4,rfl⟩:=kP h;have:=nE h4;exact⟨rfl,by omega,by omega⟩;obtain⟨y,h4,rfl⟩:=kP h;have:=nE h4;exact⟨rfl,by omega,by omega⟩;rename_i hne;obtain⟨y,h1,rfl⟩:=kP h;have h2:=qY _ _ _ (by omega) (by simp) h1;(obtain⟨n,hn⟩:∃n,Ζ t+1 - o=n+1:=⟨(Ζ t) - o,by omega⟩);rw[hn]at h1;refine⟨rfl,U8 ho (by simp) (λe=>hne ?_) h1,h2.2.1⟩;unfold eX;rw[aoT ho];rw[alS ho]at e;injection e with e;rw[e];simp
def Lt(s:Bs)(c:UInt8):∀n:Nat, -1<=iu s c n/\iu s c n<=n
 | 0=>by unfold iu;omega
 | n+1=>by
   have:=Lt s c n;unfold iu;split<;>omega
def adH{D:Η}(hA:Ζ A=n){vs:Η}(h:vs[i]?=φ v):(A++(vs++D))[n+i]?=φ v:=by
 have hi:=(YI.1 h).1;rw[alP (by omega),List.getElem?_append_left (by omega),hA,ake];exact h
def Rb{D:Η}(hA:Ζ A=n){vs:Η}(h:i<Ζ vs):(A++(vs++D)).set (n+i) v=A++(vs.set i v++D):=by
 rw[ap2 _ _ (by omega),List.set_append_left _ _ (by omega),hA,ake]
def Rc(h:a<Ζ t):oF t (a+1)=oF t a+if t[a]=10 then 1 else 0:=by
 unfold oF;rw[dU _ _ h,List.count_append];split;rename_i h1;rw[h1];simp;omega;rename_i h1;rw[List.count_singleton,if_neg (by simpa using h1)];omega
def Row.to{el:TypeId}{k:Nat}(h:Row O el sz B k c L)(u:bM O (φ k) O')(hc:O'.hp k=φ (.cells (L'++sp)))(hl:(L'++sp).length=c*sz):Row O' el sz B k c L':=by
 obtain⟨sp0,h1,h2⟩:=h.cells;obtain⟨j,h3,h4,h5⟩:=h.mC;refine⟨⟨sp,hc,hl⟩,⟨j,h3,Th h4 u.N,(u.hp j h4 ?_).trans h5⟩,h.lo,Th h.hi u.N⟩;intro e;injection e with e;subst e;rw[h1]at h5;cases h5
def Row.adI{el:TypeId}{k q:Nat}(h:Row O el sz B k c L)(hq:q≠k)(hc:O.hp q=φ (.cells cs)):Row (O.set q x) el sz B k c L:=
 h.qT bM.set hq (λ_ _ e=>by rw[hc]at e;cases e)
def yN(t:Bs)(x:Tk):(xw t x).length=7:=rfl
def akV(t:Bs)(O:VH)(ht:Ζ t<=65536):VF Ε 259 [.s t] O (aH λm O'=>O.Ge O'/\match xh t with
  | .ok l=>∃p,m= .tuple [p,mi 0,.agg [mi 0,mi 0,mi 0]]/\GR O' 163 7 O.N p (Ζ l) (l.flatMap (xw t))
  | .error e=>m= .tuple [.l 0 [] .nil,mi e.1,r8 t e.2]):=by
 refine VF.Im (lo:=5) (k:=77) (rs:=[.cell 2 165,.cell 3 87,.cell 4 108]) func259 (Enters.u9) ?_;simp only[cZ,alT,Nat.reduceAdd];refine ae eY ?_;refine VC.gen ?_;rintro O1 vq;obtain⟨aK,dd,cJ,cC,fK,pZ⟩:=Io _ _ _ _ vq;clear vq;refine ξ eY cJ ?_;try refine iX eY ?_
 refine⟨_,rfl,λD=>?_⟩;refine ξ eY cJ ?_;refine VC.bx ?_;rintro O2 ⟨aC,bY,fc⟩
 replace bY:O2.hp (O.N+4)=φ (.cells [.s t,mi (0:Nat),.l 0 [] .nil]):=by rw[<-dd];exact bY
 rw[dd];have fy:=aC.at cJ;have cG:=aC.at cC;have jm:=aC.at fK;have kW:=aC.at pZ
 replace fc:O2.N=O.N+5:=by omega
 have gy:=aK.trans aC;clear aK aC cJ cC fK pZ dd O1;refine Ξ [1,2,3,4,5] (λx:List Tk×MV=>[.p O.N 0,.p (O.N+1) 0,.p (O.N+2) 0,.p (O.N+3) 0,.p (O.N+4) 0]) (λx O'=>UB (O.N+5) (O.N+4) O2 O'/\Rd O' (O.N+4) t (Ζ t) x.2/\GR O' 163 7 (O.N+5) x.2 (Ζ x.1) (x.1.flatMap B4)/\(Ζ x.1)<=(Ζ t)/\(∀y∈x.1,y.off<Ζ t)/\x.1.Pairwise (λa b=>a.off<=b.off)/\xh t= .ok x.1) ?_ ?_
 ·refine χ ?_;refine Θ [] [1,2,3,4,5] (λx:List Tk×MV×Nat=>[]) (λx O'=>UB (O.N+5) (O.N+4) O2 O'/\Rd O' (O.N+4) t x.2.2 x.2.1/\GR O' 163 7 (O.N+5) x.2.1 (Ζ x.1) (x.1.flatMap B4)/\(Ζ x.1)<=x.2.2/\x.2.2<=(Ζ t)/\(∀y∈x.1,y.off<x.2.2)/\x.1.Pairwise (λa b=>a.off<=b.off)/\∃n,Ζ t+1 - x.2.2<=n/\xh t=ky t n x.2.2 x.1) (λx=>(Ζ t) - x.2.2) (([],.l 0 [] .nil,0)) ?_ ?_;exact⟨UB.refl _ _ _,⟨by omega,bY⟩,.inl ⟨rfl,rfl,.inl rfl⟩,alR _,alR _,(λy hy=>by cases hy),List.Pairwise.nil,_,alO _,rfl⟩;rintro⟨l,p,o⟩ O3 ⟨Dz,hr,cU,jn,Q8,mU,uE,n,hn,he⟩;dsimp only at Dz hr cU jn Q8 mU uE hn he;((obtain⟨n,rfl⟩:∃i,n=i+1:=⟨n - 1,by omega⟩);rw[ky]at he;repeat refine sT eY @wd ?_);refine Ω (pR hr) ?_;by_cases h1:Ζ t<=o
  ·rw[if_pos h1]at he;((obtain rfl:o=Ζ t:=by omega);rw[decide_eq_true h1];repeat refine sT eY @wd ?_);exact aB.mk (l,p) ⟨Dz,hr,cU,jn,mU,uE,he⟩
  rw[if_neg h1]at he;rw[decide_eq_false h1];(repeat refine sT eY @wd ?_);have htv:=adE hr (by omega) Q8 (by omega:O.N+4<O.N+5) (by have:=Dz.N;omega) cU (by omega);have di:= @Ra t o;have qd:= @aaC t o;generalize oX t o=F at*;refine ah.p htv ?_ ?_
  ·rintro m O4 ⟨adJ,h4⟩;cases F with
   | error e=>exact h4.elim
   | ok y=>
   obtain⟨x,o2⟩:=y;dsimp only at h4 he;obtain⟨rfl,p2,J2,akW⟩:=h4;obtain⟨k1,k2,k3⟩:=di (by omega) rfl;(((((((repeat refine sT eY @wd ?_);refine az.N (l++[x],p2,o2) ⟨Dz.trans adJ,J2,?_,?_,k3,?_,?_,n,?_,he⟩ (hm:=?_));dsimp only;rw[Ti,ap8,List.flatMap_singleton];exact akW);dsimp only;rw[Ti,List.length_singleton];omega);intro y hy;dsimp only at hy ⊢;rcases alQ.1 hy with hy | hy;have:=mU y hy;omega;rw[akb.1 hy];omega);dsimp only;rw[List.pairwise_append];exact⟨uE,List.pairwise_singleton _ _,λa ha b hb=>by rw[akb.1 hb];have:=mU a ha;omega⟩);dsimp only;omega);dsimp only;omega
  ·rintro m O4 ⟨adJ,h4⟩;cases F with
   | ok y=>exact h4.elim
   | error e=>
   obtain⟨e,off⟩:=e;dsimp only at h4 he;subst h4;have sb:=qd Q8 rfl;have B8:=Dz.trans adJ;have fT:=B8.N;have gd:=(B8.hp O.N (by omega) (by omega)).trans fy;have dy:=(B8.hp (O.N+1) (by omega) (by omega)).trans cG;have fP:=(B8.hp (O.N+2) (by omega) (by omega)).trans jm;have Dy:=(B8.hp (O.N+3) (by omega) (by omega)).trans kW;(((try refine sT eY @wd ?_);refine adG (by omega) sb gd dy fP Dy (by omega) (by omega) (by omega) (by omega) (by omega) (by omega) (by omega) ?_;intro O5 eJ qC dG gD EE;simp only[aq]at dG gD EE;refine iV eY @wd dG gD EE ?_;refine⟨⟨by have:=B8.N;omega,λi hi=>?_⟩,?_⟩);rw[qC i (by omega) (by omega) (by omega) (by omega),B8.hp i (by omega) (by omega)];exact gy.hp i hi);rw[he];dsimp only;rfl
 rintro⟨l,p⟩ O3 ⟨Dz,hr,cU,AF,mU,uE,he⟩;dsimp only at Dz hr cU AF mU uE he;rw[he];have kY:=(Dz.hp O.N (by omega) (by omega)).trans fy;have cN:=(Dz.hp (O.N+1) (by omega) (by omega)).trans cG;have fw:=(Dz.hp (O.N+2) (by omega) (by omega)).trans jm;have yL:=(Dz.hp (O.N+3) (by omega) (by omega)).trans kW;have ij:=Dz.N;have eW:∀i,i<O.N->O3.hp i=O.hp i:=λi hi=>(Dz.hp i (by omega) (by omega)).trans (gy.hp i hi)
 have en:=hr.2;simp only[aq]at en;rcases cU with⟨h0,hL,hp⟩ | ⟨k2,c,rfl,C0,qe,kx⟩
 ·obtain rfl:l=[]:=akd h0;have fin:∀{p:MV} {O5:VH},(p= .l 0 [] .nil\/p= .l 0 [] .full)->O.N<=O5.N->(∀i,i<O.N->O5.hp i=O.hp i)->(O.Ge O5/\∃p',MV.tuple [p,mi 0,.agg [mi 0,mi 0,mi 0]]= .tuple [p',mi 0,.agg [mi 0,mi 0,mi 0]]/\GR O5 163 7 O.N p' 0 []):=λhp hn hh=>⟨⟨hn,hh⟩,_,rfl,.inl ⟨rfl,rfl,hp⟩⟩
  have hO:∀{x y z:cx} {i:Nat},i<O.N->((((O3.set (O.N+1) x).set (O.N+2) y).set (O.N+3) z)).hp i=O.hp i:=λhi=>by
   rw[VH.sx,VH.sx,VH.sx];exact eW _ hi
  rcases hp with rfl | rfl;(·refine ξ eY @wd ?_;refine Γ ?_;refine θ (aE eY @wd en ?_);refine χ ?_;refine Θ [6,7,32] [1,2,3,4,5,31] (λ_:Unit=>[mi 1,mi 0,mi 0]) (λ_ O'=>O'=O3) (λ_=>0) (()) ?_ ?_;exact rfl;rintro⟨⟩ O4 eO;rw[eO];clear eO O4;(repeat refine kg6 eY @wd en cN fw yL ?_);refine Ix ?_;refine ao eY @wd ?_;exact fin (by simp) (by rw[aqO,aqO,aqO];omega) (λi hi=>hO hi))
  ·refine ξ eY @wd ?_;refine Γ ?_;refine θ (aE eY @wd en ?_);refine χ ?_;refine Θ [6,7,32] [1,2,3,4,5,31] (λ_:Unit=>[mi 1,mi 0,mi 0]) (λ_ O'=>O'=O3) (λ_=>0) (()) ?_ ?_;exact rfl;rintro⟨⟩ O4 eO;rw[eO];clear eO O4;(repeat refine kg6 eY @wd en cN fw yL ?_);refine Ix ?_;refine ao eY @wd ?_;exact fin (by simp) (by rw[aqO,aqO,aqO];omega) (λi hi=>hO hi)
 obtain⟨sp,hsp,KU⟩:=kx.cells;have gW:=kx.lo;have U9:=kx.hi;refine ξ eY @wd ?_;refine Γ ?_;refine θ (aE eY @wd en ?_);refine χ ?_;refine Θ [6,7,32] [1,2,3,4,5,31] (λx:Nat×Nat=>[mi (oF t x.2),mi x.2,mi x.1]) (λx O'=>bM O3 (φ k2) O'/\O'.hp k2=φ (.cells ((l.take x.1).flatMap (xw t)++(l.drop x.1).flatMap B4++sp))/\x.1<=(Ζ l)/\x.2<=(Ζ t)/\(∀y∈l.drop x.1,x.2<=y.off)) (λx=>(Ζ l) - x.1) ((0,0)) ?_ ?_;exact⟨bM.refl _ _,hsp,alR _,alR _,λ_ _=>alR _⟩;rintro⟨j,a⟩ O4 ⟨eK,fP,hj,ha,BQ⟩;dsimp only at eK fP hj ha BQ;have nD:=(eK.hp _ (by omega) (by intro e;injection e;omega)).trans en;have Gm:=(eK.hp _ (by omega) (by intro e;injection e;omega)).trans kY;have NA:=Nat.min_eq_left hj;by_cases BU:j<Ζ l;rotate_left
 ·obtain rfl:j=Ζ l:=by omega
  rw[List.take_length,List.drop_length,List.flatMap_nil,alU]at fP;have dy:=(eK.hp _ (by omega) (by intro e;injection e;omega)).trans cN;have ai2:=(eK.hp _ (by omega) (by intro e;injection e;omega)).trans fw;have Dy:=(eK.hp _ (by omega) (by intro e;injection e;omega)).trans yL
  have anc:Row O4 163 7 (O.N+5) k2 c (l.flatMap (xw t)):=kx.to eK fP (by
   rw[Ti,bk (yN t)];rw[Ti,qe]at KU;exact KU)
  have fT:=eK.N
  have hO:∀{x y z:cx} {i:Nat},i<O.N->((((O4.set (O.N+1) x).set (O.N+2) y).set (O.N+3) z)).hp i=O.hp i:=λhi=>by
   rw[VH.sx,VH.sx,VH.sx];exact(eK.hp _ (by omega) (by intro e;injection e;omega)).trans (eW _ hi)
  (repeat refine kg6 eY @wd nD dy ai2 Dy ?_);refine Ix ?_;refine ao eY @wd ?_;refine⟨⟨by rw[aqO,aqO,aqO];omega,λi hi=>hO hi⟩,_,rfl,.inr ⟨k2,c,rfl,C0,bk (yN t) _,?_⟩⟩;exact(((anc.adI (by omega) dy).adI (by omega) (Δ ai2)).adI (by omega) (Δ (Δ Dy))).wider (by omega)
 have Nw:=aoT BU;have di:(l.take (j+1))=l.take j++[l[j]]:=dU _ _ BU;have hxo:l[j].off<Ζ t:=mU _ (List.getElem_mem BU);have hxa:a<=l[j].off:=BQ _ (by rw[Nw];exact List.mem_cons_self ..)
 have rA:∀y∈l.drop (j+1),l[j].off<=y.off:=by
  have:=uE.drop (i:=j);rw[Nw,List.pairwise_cons]at this;exact this.1
 rw[Nw,List.flatMap_cons]at fP;generalize hx:l[j]=x at*;have hA:((l.take j).flatMap (xw t)).length=j*7:=by rw[bk (yN t),alV,NA]
 generalize hAe:(l.take j).flatMap (xw t)=A at*;generalize hEe:(l.drop (j+1)).flatMap B4=E at*;refine ξ eY @wd ?_;try refine sT eY @wd ?_
 refine Γ (χ ?_);refine ξ eY @wd ?_;refine θ (aE eY @wd nD ?_);rw[af_,af_]at fP;have hC4:(A++(B4 x++(E++sp)))[j*7+4]?=φ (.v (Ι Κ x.off)):=adH hA (vs:=B4 x) rfl
 have hCl:j*7+7<=(A++(B4 x++(E++sp))).length:=by
  rw[Ti,Ti,Iw,hA];omega
 have hCs:∀(y z:MV),((A++(B4 x++(E++sp))).set (j*7+5) y).set (j*7+6) z=A++([mi x.kind,.s x.name,.l (Ζ x.attrs) (x.attrs.flatMap bH) .au,.s x.text,mi x.off,y,z]++(E++sp)):=λy z=>by
  rw[Rb hA (by rw[Iw];decide),Rb hA (by rw[List.length_set,Iw];decide)];rfl
 generalize A++(B4 x++(E++sp))=C at*;refine Γ (χ ?_);refine Θ [6,7] [1,2,3,4,5,9,31,32] (λb:Nat=>[mi (oF t b),mi b]) (λb O'=>O'=O4/\b<=x.off) (λb=>x.off - b) (a) ?_ ?_;exact⟨rfl,hxa⟩;rintro b O5 ⟨eO,hb⟩;rw[eO];clear eO O5
 have apn:oF t b<=1+Ζ t:=by
  unfold oF;have h1:=List.count_le_length (a:=(10:UInt8)) (l:=t.take b);rw[alV]at h1;omega
 by_cases fl:b<x.off
 ·have oh:b<Ζ t:=by omega
  have hg:=alS oh;have hls:=Rc oh;generalize t[b]=ch at*;generalize oF t b=ln at*;by_cases tQ:ch=10;(·rw[if_pos tQ]at hls;((have e1:((ch.toNat:Int)==10)=Α:=by rw[tQ];rfl);repeat refine kg8 eY @wd fP hC4 Gm hg @aO e1 ?_);exact az.N (b+1) ⟨rfl,by omega⟩ (hl:=(by rw[hls];rfl)))
  ·rw[if_neg tQ]at hls;((have e1:((ch.toNat:Int)==10)=γ:=by simpa usingλe:(ch.toNat:Int)=10=>tQ (UInt8.toNat_inj.1 (by simpa using(by omega:ch.toNat=10))));repeat refine kg8 eY @wd fP hC4 Gm hg @aO e1 ?_);exact az.N (b+1) ⟨rfl,by omega⟩ (hl:=(by rw[hls];rfl))
 obtain rfl:b=x.off:=by omega
 generalize QJ:oF t x.off=ln at*;repeat refine kg5 eY @wd fP hC4 Gm ?_
 have jy:iu (t.take x.off) 10 (t.take x.off).length<=x.off/\ -1<=iu (t.take x.off) 10 (t.take x.off).length:=by
  have h1:=Lt (t.take x.off) 10 (t.take x.off).length;rw[alV,Nat.min_eq_left (by omega)]at h1 ⊢;omega
 have hlen:(t.take x.off).length<=1000000:=by rw[alV];omega
 refine Ω (Ez (t.take x.off) 10 _ hlen) ?_;have ane:Iy t x.off=(x.off:Int) - iu (t.take x.off) 10 (t.take x.off).length:=rfl;generalize iu (t.take x.off) 10 (t.take x.off).length=lf at*;repeat refine kg3 eY @wd fP ?_
 refine az.N (j+1,x.off) ⟨eK.trans (bM.set.trans bM.set),?_,BU,Nat.le_of_lt hxo,rA⟩ (hl:=(by dsimp only;rw[QJ];rfl));rw[υ,di,ap8,List.flatMap_singleton];have hC:=hCs (mi ln) (mi ((x.off:Int) - lf))
 have h7:xw t x=[mi x.kind,.s x.name,.l (Ζ x.attrs) (x.attrs.flatMap bH) .au,.s x.text,mi x.off,mi ln,mi ((x.off:Int) - lf)]:=by
  unfold xw;rw[QJ,ane]
 rw[hAe,hEe,h7,af_,af_, <-hC];rfl
def cE:=agb oW<|agb Da T9
abbrev gB:Η:=[.v (.bool γ),.s [],.s [],.s [],.s [],.s [],.s [],.s [],.l 0 [] .nil,.l 0 [] .nil,.l 0 [] .nil]
def adK(h:K O):iO Ε 262 [.p a 0,.p b 0,.p c 0] Β O K:=by
 refine iO.rec (d:=6) func262 (ap5 (by decide:6<17) rfl) ?_;show WC _ _ ⟨17,0⟩ _ _ _ _ _;simp only[cZ,alT,Nat.reduceAdd,C6];refine ao cE @wi ?_;refine VL.pure (by simp) (λ_=>.inl rfl) rfl rfl (jW.HR (bb:=Α) Tryz.underlying20 rfl (.inl ⟨rfl,rfl⟩)) ?_;refine WL.sound aa ?_;refine ao cE @wi ?_;exact h
def kQ{x0 x1 x2 x3 x4 x5 x6 x7 x8 x9 x10 z:MV}(ha:O.hp a=φ (.cells [x0,x1,x2,x3,x4,x5,x6,x7,x8,x9,x10]))(hb:O.hp b=φ (.cells [y]))(hc:O.hp c=φ (.cells [z]))
  (han:a<O.N) (yA:b<O.N) (Ih:c<O.N) (hab:a≠b) (hac:a≠c) (hbc:b≠c)
  (h:∀O',O.N<=O'.N->(∀i,i<O.N->i≠a->i≠b->i≠c->O'.hp i=O.hp i)->O'.hp a=φ (.cells gB)->O'.hp b=φ (.cells [mi e])->O'.hp c=φ (.cells [.s s])->K O'):iO Ε 262 [.p a 0,.p b 0,.p c 0] (φ (wo e s)) O K:=by
 refine iO.rec (d:=6) func262 (ap5 (by decide:6<17) rfl) ?_;show WC _ _ ⟨17,0⟩ _ _ _ _ _;simp only[cZ,alT,Nat.reduceAdd,C6,wo];refine ao cE @wi ?_;refine VL.pure (by simp) (λ_=>.inl rfl) rfl rfl (jW.Xo (bb:=γ) Tryz.underlying20 rfl (.inl ⟨rfl,rfl⟩)) ?_;refine WL.sound aa ?_;refine ao cE @wi ?_;refine VL.pure (by simp) (λ_=>.inl rfl) rfl rfl (jW.asT Tryz.underlying401 (λ_ h=>by cases h) rfl) ?_;refine WL.sound aa ?_;refine ao cE @wi ?_;refine VC.al ?_;rintro O2 ⟨aC,jY,fc⟩;have AG:∀(X:cx) {i:Nat} {y:Option cx},i<O.N->O.hp i=y->(O2.set O.N X).hp i=y:=λX {i y} hi h=>Δ ((aC.hp _ hi).trans h)
 refine VC.pI [] (O.N) (jY) ?_;intro X;have gd:=AG (.obj X) han ha;have dy:=AG (.obj X) yA hb;have fP:=AG (.obj X) Ih hc;have s8:(O2.set O.N (.obj X)).hp O.N=φ (.obj X):=υ _ _ _;have fT:(O2.set O.N (.obj X)).N=O.N+1:=fc;have aT:O.Ge (O2.set O.N (.obj X)):=aC.set (alO _) _;generalize hO4:O2.set O.N (.obj X)=O4 at*;refine ρ 0 cE ?_;refine ρ 1 cE ?_;refine δ (m:=.v (Ι Κ e)) 2 ?_ ?_;exact ff cE;simp only[ak];refine ρ 3 cE ?_;refine δ (m:=.s s) 4 ?_ ?_;exact ff cE;simp only[ak];refine ab.op (i:=5) ?_;refine ao cE gd ?_;refine⟨s8,?_⟩;refine ab.op (i:=6) ?_;refine ao cE dy ?_;refine⟨s8,?_⟩;refine ab.op (i:=7) ?_;refine ao cE fP ?_;refine⟨s8,?_⟩;refine aqQ [] ?_;refine ae cE ?_;refine h _ (by show O.N<=O4.N;omega) (λi hi h1 h2 h3=>?_) ?_ ?_ ?_;rw[VH.sx,VH.sx,VH.sx,VH.sx];exact aT.hp i hi;rw[VH.sx,VH.sx,VH.sx];exact υ _ _ _;rw[VH.sx,VH.sx];exact υ _ _ _;rw[VH.sx];exact υ _ _ _
structure yO(O:VH)(E:Η)(O':VH)(cs:Η):Prop where
 xx:∀i,i<O.N->O'.hp i=O.hp i
 lt:O.N+5<=O'.N
 d:O'.hp (O.N+1)=φ (.cells cs)
 e:O'.hp (O.N+2)=φ (.cells [mi 0])
 w:O'.hp (O.N+3)=φ (.cells [.s []])
 x:O'.hp (O.N+4)=φ (.cells E)
def yO.ge(h:yO O E O' cs)(k:O'.Ge O2):yO O E O2 cs:=by
 have h1:=h.lt;exact⟨λi hi=>(k.hp i (by omega)).trans (h.xx i hi),akc h1 k.N,k.at h.d,k.at h.e,k.at h.w,k.at h.x⟩
def yO.st(h:yO O E O' cs):yO O E (O'.set (O.N+1) (.cells cs')) cs':=
 ⟨λi hi=>Δ (h.xx i hi),h.lt,υ _ _ _,Δ h.e,Δ h.w,Δ h.x⟩
def yO.other{k:Nat}(h:yO O E O' cs)(hk:O.N+5<=k)(bY:k<O'.N)(g:(O'.set k x).Ge O2):yO O E O2 cs:=by
 have h1:=h.lt;have e1:(O'.set k x).N=O'.N:=rfl;have h4:=g.N
 have key:∀j,j<O.N+5->O2.hp j=O'.hp j:=λj hj=>by
  rw[g.hp j (by omega),VH.sx]
 exact⟨λi hi=>(key i (by omega)).trans (h.xx i hi),by omega,(key _ (by omega)).trans h.d,(key _ (by omega)).trans h.e,(key _ (by omega)).trans h.w,(key _ (by omega)).trans h.x⟩
def yO.anf{k:Nat}(h:yO O E O' cs)(hk:O.N+5<=k):yO O E (O'.set k x) cs:=
 ⟨λi hi=>Δ (h.xx i hi),h.lt,Δ h.d,Δ h.e,Δ h.w,Δ h.x⟩
def VC.rs{n:Sz}{c:Code}{e:Env}(h:yO O E O' cs)(k:∀O3,yO O E O3 cs'->VC P n D c e O3 Q):VC P n D c e (O'.set (O.N+1) (.cells cs')) Q:=k _ h.st
def yP(x:Nd)(w:Bs):Except (Int×Bs) (List Dp):=
 match cW x w ve with
 | .error e=>.error e
 | .ok ((_,_),γ)=>.ok []
 | .ok ((y,wy),Α)=>n7 y wy Α
def yQ(x:Nd)(w:Bs):Except (Int×Bs) (Bool×Gv):=
 match cW x w yz with
 | .error e=>.error e
 | .ok ((_,_),γ)=>.ok (γ,⟨[],[],[]⟩)
 | .ok ((y,wy),Α)=>match cz y wy fb Α gk with
   | .error e=>.error e
   | .ok g=>match cz y wy eU Α gk with
     | .error e=>.error e
     | .ok a=>match cz y wy gX Α yx with
       | .error e=>.error e
       | .ok v=>.ok (Α,⟨g,a,v⟩)
def rJ(x:Nd):Except (Int×Bs) Pm:=
 bif x.nm==iW then match yQ x x.nm with
  | .error e=>.error e
  | .ok p=>match cz x x.nm fb γ eL with
  | .error e=>.error e
  | .ok g=>match cz x x.nm eU Α eL with
  | .error e=>.error e
  | .ok a=>match cz x x.nm gX γ eL with
  | .error e=>.error e
  | .ok v=>match cz x x.nm Bd γ eL with
  | .error e=>.error e
  | .ok k=>match ny x x.nm with
  | .error e=>.error e
  | .ok P=>match yP x x.nm with
  | .error e=>.error e
  | .ok M=>match n7 x x.nm γ with
  | .error e=>.error e
  | .ok D=>.ok ⟨p.1,p.2,g,a,v,k,P,M,D⟩
 else .error (20,x.nm)
def DA:Pm:=⟨γ,⟨[],[],[]⟩,[],[],[],[],[],[],[]⟩
def aht(x:Nd)(O:VH)(hx:mz x<=1000000):VF Ε 244 [.agg (eh x)] O (aH λm O'=>O.Ge O'/\match rJ x with
  | .ok p=>m= .tuple [.agg (iR p),mi 0,.s []]
  | .error e=>m= .tuple [.agg (iR DA),mi e.1,.s e.2]):=by
 refine VF.fg ?_;obtain⟨zn,za,dJ,zt⟩:=x;have uE:=sQ (.mk zn za dJ zt) zn;have hfp:=vg (.mk zn za dJ zt) zn yz;have U_:=vg (.mk zn za dJ zt) zn ve;have Va:=adr (.mk zn za dJ zt) zn;have Ds:=XD (.mk zn za dJ zt) zn γ;obtain⟨PE,hP⟩:∃PE,rJ (.mk zn za dJ zt)=PE:=⟨_,rfl⟩
 rw[hP];unfold rJ at hP;simp only[my,eh,akf,aka]at uE hfp U_ Va Ds ⊢;simp only[Nd.nm]at hP;refine VF.deferred (lo:=5) (k:=64) (rs:=[.cell 2 86,.cell 3 87,.cell 4 9]) func244 (Enters.u9) ?_;simp only[cZ,alT,Nat.reduceAdd];refine ae cE ?_;refine⟨_,rfl,λD=>?_⟩;refine VC.gen ?_;rintro O1 vq;obtain⟨aK,dd,cJ,cC,fK,pZ⟩:=Io _ _ _ _ vq;clear vq;refine θ (aE cE @wd cJ ?_);refine VC.al ?_;rintro O2 ⟨aC,bY,fc⟩;rw[dd]at bY ⊢
 have hd:yO O [.s zn,.l (Ζ za) (za.flatMap bH) .au,.l (Ζ dJ) (aG dJ) .au,.s zt,.s zn] O2 gB:=
  ⟨λi hi=>aC.at (aK.hp i hi),by omega,aC.at cC,aC.at fK,aC.at pZ,bY⟩
 have n_:=aC.at cJ;clear aK aC dd fc bY cJ cC fK pZ O1;cases hb:zn==iW;rw[hb,cond_false]at hP;rw[<-hP];(((have o_:(zn != [112,114,111,106,101,99,116])=Α:=by rw[bne];simp only[iW]at hb;rw[hb];rfl);simp only[iW]at hb;refine θ (iV cE @wd n_ hb o_ ?_);refine ah.p (oe _ _ _) ?_ ?_);rintro m O9 ⟨_,h⟩;exact h.elim);rintro m O9 ⟨rfl,rfl⟩;refine ao cE @wd ?_;refine kQ hd.d hd.e hd.w (by have:=hd.lt;omega) (by have:=hd.lt;omega) (by have:=hd.lt;omega) (by omega) (by omega) (by omega) ?_;intro O5 eJ qC dW dG gD;simp only[aq]at dG;refine iV cE @wd dW dG gD ?_;exact⟨⟨by have:=hd.lt;omega,λi hi=>by rw[qC i (by have:=hd.lt;omega) (by omega) (by omega) (by omega)];exact hd.xx i hi⟩,rfl⟩
 rw[hb,cond_true]at hP;have hw:Ζ zn<=10000:=by rw[eq_of_beq hb];decide
 have DB:Ζ zn<=3000:=by rw[eq_of_beq hb];decide
 have o_:(zn != [112,114,111,106,101,99,116])=γ:=by rw[bne];simp only[iW]at hb;rw[hb];rfl
 simp only[iW]at hb;refine θ (iV cE @wd n_ hb o_ ?_);clear hb o_ n_;refine Ξ [1,2,3,4,5] (λ_:Bool×Gv=>[.p O.N 0,.p (O.N+1) 0,.p (O.N+2) 0,.p (O.N+3) 0,.p (O.N+4) 0]) (λp O'=>yO O [.s zn,.l (Ζ za) (za.flatMap bH) .au,.l (Ζ dJ) (aG dJ) .au,.s zt,.s zn] O' [mb p.1,.s p.2.g,.s p.2.a,.s p.2.v,.s [],.s [],.s [],.s [],.l 0 [] .nil,.l 0 [] .nil,.l 0 [] .nil]/\yQ (.mk zn za dJ zt) zn= .ok p) ?_ ?_
 ·have yC:= @vi (.mk zn za dJ zt) zn yz;(have yD:∀e,cW (.mk zn za dJ zt) zn yz= .error e->yQ (.mk zn za dJ zt) zn= .error e:=λe h=>by unfold yQ;rw[h]);have qz:∀y wy,cW (.mk zn za dJ zt) zn yz= .ok ((y,wy),γ)->yQ (.mk zn za dJ zt) zn= .ok (γ,⟨[],[],[]⟩):=λy wy h=>by unfold yQ;rw[h]
  have kj:∀y wy,cW (.mk zn za dJ zt) zn yz= .ok ((y,wy),Α)->yQ (.mk zn za dJ zt) zn=match cz y wy fb Α gk with
   | .error e=>.error e
   | .ok g=>match cz y wy eU Α gk with
     | .error e=>.error e
     | .ok a=>match cz y wy gX Α yx with
       | .error e=>.error e
       | .ok v=>.ok (Α,⟨g,a,v⟩):=λy wy h=>by unfold yQ;rw[h]
  generalize yQ (.mk zn za dJ zt) zn=QE at*;generalize cW (.mk zn za dJ zt) zn yz=F at*;have fl:=hd.x;refine θ (aE cE @wd fl ?_);refine ah.p (hfp O2 (by have:=lQ (.mk zn za dJ zt);omega) (by omega) (by decide)) ?_ ?_;rotate_left
  ·rintro m O9 ⟨bI,h⟩;have b9:=hd.ge bI;cases F with
   | ok y=>exact h.elim
   | error e=>
     dsimp only at h;rw[yD e rfl]at hP;dsimp only at hP;rw[h, <-hP];refine ao cE @wd ?_;refine kQ b9.d b9.e b9.w (by have:=b9.lt;omega) (by have:=b9.lt;omega) (by have:=b9.lt;omega) (by omega) (by omega) (by omega) ?_;intro O5 eJ qC dW dG gD;simp only[aq]at dG;refine iV cE @wd dW dG gD ?_;exact⟨⟨by have:=b9.lt;omega,λi hi=>by rw[qC i (by have:=b9.lt;omega) (by omega) (by omega) (by omega)];exact b9.xx i hi⟩,rfl⟩
  rintro m O3 ⟨aJ,h⟩;cases F with
  | error e=>exact h.elim
  | ok y=>
  obtain⟨⟨y,wy⟩,b⟩:=y;dsimp only at h;subst h;obtain⟨hyW,qh⟩:=yC rfl;((have lZ:Ζ wy<=10000:=by rw[qh];simp only[Ti,Ca,abx];omega);have hyX:mz y<=1000000:=by omega);clear yC qh yD
  replace kj:=λh:b=Α=>by subst h;exact kj y wy rfl
  replace qz:b=γ->QE= .ok (γ,⟨[],[],[]⟩):=λh=>by subst h;exact qz y wy rfl
  have nC:=λO'=>sQ y wy fb Α gk 69 [] O' hyX lZ (by decide) (by kernel_rfl) (λs n5 _ hs=>wg s n5)
  have AJ:=λO'=>sQ y wy eU Α gk 69 [] O' hyX lZ (by decide) (by kernel_rfl) (λs n5 _ hs=>wg s n5)
  (have rK:=λO'=>sQ y wy gX Α yx 70 [] O' hyX lZ (by decide) (by kernel_rfl) (λs n5 _ hs=>UG s n5 (by simp only[maxLen];omega)));generalize cz y wy fb Α gk=W1 at*;generalize cz y wy eU Α gk=W2 at*;generalize cz y wy gX Α yx=W3 at*;obtain⟨yn,ya,yk,yt⟩:=y;simp only[my,eh,akf,aka]at nC AJ rK ⊢;have cN:=hd.ge aJ;have p5:=cN.lt;refine ao cE @wd ?_;refine VC.al ?_;rintro O4 ⟨aT,nD,fT⟩;have dy:=cN.ge aT;clear hd cN aJ aT fl;cases b
  ·rw[qz rfl]at hP ⊢;refine ο cE @wd ?_;exact aB.mk (γ,⟨[],[],[]⟩) ⟨dy,rfl⟩
  replace kj:=kj rfl
  clear qz;have dE:=dy.d;refine ξ cE @wd ?_;refine ι (aE cE @wd dE ?_);have NB:=dy.st (cs':=[.v (.bool Α),.s [],.s [],.s [],.s [],.s [],.s [],.s [],.l 0 [] .nil,.l 0 [] .nil,.l 0 [] .nil]);have hks:=(π O4 (.cells [.v (.bool Α),.s [],.s [],.s [],.s [],.s [],.s [],.s [],.l 0 [] .nil,.l 0 [] .nil,.l 0 [] .nil]) (by omega:O3.N≠O.N+1)).trans nD;have eJ:(O4.set (O.N+1) (.cells [.v (.bool Α),.s [],.s [],.s [],.s [],.s [],.s [],.s [],.l 0 [] .nil,.l 0 [] .nil,.l 0 [] .nil])).N=O4.N:=rfl;clear dE dy nD;generalize O4.set (O.N+1) (.cells [.v (.bool Α),.s [],.s [],.s [],.s [],.s [],.s [],.s [],.l 0 [] .nil,.l 0 [] .nil,.l 0 [] .nil])=O5 at*;refine VC.pI [7,8] (O3.N) (hks) ?_;intro X;refine δ (m:=.agg [.s yn,.l (Ζ ya) (ya.flatMap bH) .au,.l (Ζ yk) (aG yk) .au,.s yt,.s wy]) 0 ?_ ?_;exact ff cE;simp only[ak];refine δ (m:=.agg [.s yn,.l (Ζ ya) (ya.flatMap bH) .au,.l (Ζ yk) (aG yk) .au,.s yt,.s wy]) 2 ?_ ?_;exact ff cE;simp only[ak];refine δ (m:=.agg [.s yn,.l (Ζ ya) (ya.flatMap bH) .au,.l (Ζ yk) (aG yk) .au,.s yt,.s wy]) 4 ?_ ?_;exact ff cE;simp only[ak];((have JZ:=λ(O9:VH)(g:(O5.set O3.N (.obj X)).Ge O9)=>NB.other (k:=O3.N) (x:=.obj X) (by omega) (by omega) g);have ir:∀O9,(O5.set O3.N (.obj X)).Ge O9->O9.hp O3.N=φ (.obj X):=λO9 g=>(g.hp _ (by show O3.N<O5.N;omega)).trans (υ _ _ _));generalize O5.set O3.N (.obj X)=O6 at*;have hG:=VH.Ge.refl O6;refine ab.sS (i:=1) (nC O6) ?_ ?_;rotate_left
  ·rintro m O9 ⟨bI,h⟩;cases W1 with
   | ok s=>exact h.elim
   | error e=>
     dsimp only at h kj;rw[kj]at hP;dsimp only at hP;rw[h, <-hP];have b9:=JZ _ (hG.trans bI);refine ao cE @wd ?_;refine kQ b9.d b9.e b9.w (by have:=b9.lt;omega) (by have:=b9.lt;omega) (by have:=b9.lt;omega) (by omega) (by omega) (by omega) ?_;intro O5 eJ qC dW dG gD;simp only[aq]at dG;refine iV cE @wd dW dG gD ?_;exact⟨⟨by have:=b9.lt;omega,λi hi=>by rw[qC i (by have:=b9.lt;omega) (by omega) (by omega) (by omega)];exact b9.xx i hi⟩,rfl⟩
  rintro m O7 ⟨bI,h⟩;cases W1 with
  | error e=>exact h.elim
  | ok sg=>
  dsimp only at h kj;subst h;simp only[ak]
  replace hG:=hG.trans bI
  clear bI;refine⟨ir _ hG,?_⟩;refine ab.sS (i:=3) (AJ O7) ?_ ?_;rotate_left
  ·rintro m O9 ⟨bI,h⟩;cases W2 with
   | ok s=>exact h.elim
   | error e=>
     dsimp only at h kj;rw[kj]at hP;dsimp only at hP;rw[h, <-hP];have b9:=JZ _ (hG.trans bI);refine ao cE @wd ?_;refine kQ b9.d b9.e b9.w (by have:=b9.lt;omega) (by have:=b9.lt;omega) (by have:=b9.lt;omega) (by omega) (by omega) (by omega) ?_;intro O5 eJ qC dW dG gD;simp only[aq]at dG;refine iV cE @wd dW dG gD ?_;exact⟨⟨by have:=b9.lt;omega,λi hi=>by rw[qC i (by have:=b9.lt;omega) (by omega) (by omega) (by omega)];exact b9.xx i hi⟩,rfl⟩
  rintro m O8 ⟨bI,h⟩;cases W2 with
  | error e=>exact h.elim
  | ok sa=>
  dsimp only at h kj;subst h;simp only[ak]
  replace hG:=hG.trans bI
  clear bI;refine⟨ir _ hG,?_⟩;refine ab.sS (i:=5) (rK O8) ?_ ?_;rotate_left
  ·rintro m O9 ⟨bI,h⟩;cases W3 with
   | ok s=>exact h.elim
   | error e=>
     dsimp only at h kj;rw[kj]at hP;dsimp only at hP;rw[h, <-hP];have b9:=JZ _ (hG.trans bI);refine ao cE @wd ?_;refine kQ b9.d b9.e b9.w (by have:=b9.lt;omega) (by have:=b9.lt;omega) (by have:=b9.lt;omega) (by omega) (by omega) (by omega) ?_;intro O5 eJ qC dW dG gD;simp only[aq]at dG;refine iV cE @wd dW dG gD ?_;exact⟨⟨by have:=b9.lt;omega,λi hi=>by rw[qC i (by have:=b9.lt;omega) (by omega) (by omega) (by omega)];exact b9.xx i hi⟩,rfl⟩
  rintro m OF ⟨bI,h⟩;cases W3 with
  | error e=>exact h.elim
  | ok sv=>
  dsimp only at h kj;subst h;simp only[ak]
  replace hG:=hG.trans bI
  clear bI;refine⟨ir _ hG,?_⟩;refine ρ 6 cE ?_;refine aqQ [(7,.bh),(8,.one)] ?_;have b9:=(JZ _ hG).anf (k:=O3.N) (x:=.cells [.s yn,.l (Ζ ya) (ya.flatMap bH) .au,.l (Ζ yk) (aG yk) .au,.s yt,.s wy]) (by omega);have dE:=(JZ _ hG).d;have ai3:=b9.st (cs':=[mb Α,.s sg,.s sa,.s sv,.s [],.s [],.s [],.s [],.l 0 [] .nil,.l 0 [] .nil,.l 0 [] .nil]);simp only[bB]at ai3;refine aE cE @wd dE ?_;exact aB.mk (Α,⟨sg,sa,sv⟩) ⟨ai3,kj⟩
 rintro p O3 ⟨hd,hQ⟩;rw[hQ]at hP;dsimp only at hP;clear hQ hfp;have fl:=hd.x;have dE:=hd.d;refine θ (aE cE @wd fl ?_);refine ah.p (uE fb γ eL 266 [] _ hx hw (by decide) (by kernel_rfl) (λs O' _ _=>wC s O')) ?_ ?_;rotate_left
 ·rintro m O9 ⟨bI,h⟩;have b9:=hd.ge bI;cases hF:cz (.mk zn za dJ zt) zn fb γ eL with
  | ok s=>rw[hF]at h;exact h.elim
  | error e=>
    rw[hF]at h hP;dsimp only at h hP;rw[h, <-hP];refine ao cE @wd ?_;refine kQ b9.d b9.e b9.w (by have:=b9.lt;omega) (by have:=b9.lt;omega) (by have:=b9.lt;omega) (by omega) (by omega) (by omega) ?_;intro O5 eJ qC dW dG gD;simp only[aq]at dG;refine iV cE @wd dW dG gD ?_;exact⟨⟨by have:=b9.lt;omega,λi hi=>by rw[qC i (by have:=b9.lt;omega) (by omega) (by omega) (by omega)];exact b9.xx i hi⟩,rfl⟩
 rintro m O4 ⟨bI,h⟩;cases U4:cz (.mk zn za dJ zt) zn fb γ eL with
 | error e=>rw[U4]at h;exact h.elim
 | ok s1=>
 rw[U4]at h hP;dsimp only at h hP;subst h;have hb:=hd.ge bI;clear bI hd;have dE:=hb.d;refine aE cE @wd dE ?_;refine VC.rs hb ?_;clear fl dE hb;intro _ hd;have fl:=hd.x;have dE:=hd.d;refine θ (aE cE @wd fl ?_);refine ah.p (uE eU Α eL 266 [] _ hx hw (by decide) (by kernel_rfl) (λs O' _ _=>wC s O')) ?_ ?_;rotate_left
 ·rintro m O9 ⟨bI,h⟩;have b9:=hd.ge bI;cases hF:cz (.mk zn za dJ zt) zn eU Α eL with
  | ok s=>rw[hF]at h;exact h.elim
  | error e=>
    rw[hF]at h hP;dsimp only at h hP;rw[h, <-hP];refine ao cE @wd ?_;refine kQ b9.d b9.e b9.w (by have:=b9.lt;omega) (by have:=b9.lt;omega) (by have:=b9.lt;omega) (by omega) (by omega) (by omega) ?_;intro O5 eJ qC dW dG gD;simp only[aq]at dG;refine iV cE @wd dW dG gD ?_;exact⟨⟨by have:=b9.lt;omega,λi hi=>by rw[qC i (by have:=b9.lt;omega) (by omega) (by omega) (by omega)];exact b9.xx i hi⟩,rfl⟩
 rintro m O5 ⟨bI,h⟩;cases Nu:cz (.mk zn za dJ zt) zn eU Α eL with
 | error e=>rw[Nu]at h;exact h.elim
 | ok s2=>
 rw[Nu]at h hP;dsimp only at h hP;subst h;have hb:=hd.ge bI;clear bI hd;have dE:=hb.d;refine aE cE @wd dE ?_;refine VC.rs hb ?_;clear fl dE hb;intro _ hd;have fl:=hd.x;have dE:=hd.d;refine θ (aE cE @wd fl ?_);refine ah.p (uE gX γ eL 266 [] _ hx hw (by decide) (by kernel_rfl) (λs O' _ _=>wC s O')) ?_ ?_;rotate_left
 ·rintro m O9 ⟨bI,h⟩;have b9:=hd.ge bI;cases hF:cz (.mk zn za dJ zt) zn gX γ eL with
  | ok s=>rw[hF]at h;exact h.elim
  | error e=>
    rw[hF]at h hP;dsimp only at h hP;rw[h, <-hP];refine ao cE @wd ?_;refine kQ b9.d b9.e b9.w (by have:=b9.lt;omega) (by have:=b9.lt;omega) (by have:=b9.lt;omega) (by omega) (by omega) (by omega) ?_;intro O5 eJ qC dW dG gD;simp only[aq]at dG;refine iV cE @wd dW dG gD ?_;exact⟨⟨by have:=b9.lt;omega,λi hi=>by rw[qC i (by have:=b9.lt;omega) (by omega) (by omega) (by omega)];exact b9.xx i hi⟩,rfl⟩
 rintro m O6 ⟨bI,h⟩;cases U5:cz (.mk zn za dJ zt) zn gX γ eL with
 | error e=>rw[U5]at h;exact h.elim
 | ok s3=>
 rw[U5]at h hP;dsimp only at h hP;subst h;have hb:=hd.ge bI;clear bI hd;have dE:=hb.d;refine aE cE @wd dE ?_;refine VC.rs hb ?_;clear fl dE hb;intro _ hd;have fl:=hd.x;have dE:=hd.d;refine θ (aE cE @wd fl ?_);refine ah.p (uE Bd γ eL 266 [] _ hx hw (by decide) (by kernel_rfl) (λs O' _ _=>wC s O')) ?_ ?_;rotate_left
 ·rintro m O9 ⟨bI,h⟩;have b9:=hd.ge bI;cases hF:cz (.mk zn za dJ zt) zn Bd γ eL with
  | ok s=>rw[hF]at h;exact h.elim
  | error e=>
    rw[hF]at h hP;dsimp only at h hP;rw[h, <-hP];refine ao cE @wd ?_;refine kQ b9.d b9.e b9.w (by have:=b9.lt;omega) (by have:=b9.lt;omega) (by have:=b9.lt;omega) (by omega) (by omega) (by omega) ?_;intro O5 eJ qC dW dG gD;simp only[aq]at dG;refine iV cE @wd dW dG gD ?_;exact⟨⟨by have:=b9.lt;omega,λi hi=>by rw[qC i (by have:=b9.lt;omega) (by omega) (by omega) (by omega)];exact b9.xx i hi⟩,rfl⟩
 rintro m O7 ⟨bI,h⟩;cases hF4:cz (.mk zn za dJ zt) zn Bd γ eL with
 | error e=>rw[hF4]at h;exact h.elim
 | ok s4=>
 rw[hF4]at h hP;dsimp only at h hP;subst h;have hb:=hd.ge bI;clear bI hd;have dE:=hb.d;refine aE cE @wd dE ?_;refine VC.rs hb ?_;clear fl dE hb;intro _ hd;have fl:=hd.x;have dE:=hd.d;refine θ (aE cE @wd fl ?_);refine ah.p (Va _ hx hw) ?_ ?_;rotate_left
 ·rintro m O9 ⟨bI,h⟩;have b9:=hd.ge bI;cases hF:ny (.mk zn za dJ zt) zn with
  | ok s=>rw[hF]at h;exact h.elim
  | error e=>
    rw[hF]at h hP;dsimp only at h hP;rw[h, <-hP];refine ao cE @wd ?_;refine kQ b9.d b9.e b9.w (by have:=b9.lt;omega) (by have:=b9.lt;omega) (by have:=b9.lt;omega) (by omega) (by omega) (by omega) ?_;intro O5 eJ qC dW dG gD;simp only[aq]at dG;refine iV cE @wd dW dG gD ?_;exact⟨⟨by have:=b9.lt;omega,λi hi=>by rw[qC i (by have:=b9.lt;omega) (by omega) (by omega) (by omega)];exact b9.xx i hi⟩,rfl⟩
 rintro m O8 ⟨bI,h⟩;cases hFP:ny (.mk zn za dJ zt) zn with
 | error e=>rw[hFP]at h;exact h.elim
 | ok P=>
 rw[hFP]at h hP;dsimp only at h hP;have hb:=hd.ge bI;clear bI hd;have dE:=hb.d;obtain⟨tP,rfl⟩:=h;refine aE cE @wd dE ?_;refine VC.rs hb ?_;clear fl dE hb;intro O9 hd;refine Ξ [1,2,3,4,5] (λ_:List Dp×Tok=>[.p O.N 0,.p (O.N+1) 0,.p (O.N+2) 0,.p (O.N+3) 0,.p (O.N+4) 0]) (λx O'=>yO O [.s zn,.l (Ζ za) (za.flatMap bH) .au,.l (Ζ dJ) (aG dJ) .au,.s zt,.s zn] O' [mb p.1,.s p.2.g,.s p.2.a,.s p.2.v,.s s1,.s s2,.s s3,.s s4,.l (Ζ P) (P.flatMap bH) tP,.l (Ζ x.1) (x.1.flatMap aX) x.2,.l 0 [] .nil]/\yP (.mk zn za dJ zt) zn= .ok x.1) ?_ ?_
 ·have yC:= @vi (.mk zn za dJ zt) zn ve;(((have yD:∀e,cW (.mk zn za dJ zt) zn ve= .error e->yP (.mk zn za dJ zt) zn= .error e:=λe h=>by unfold yP;rw[h]);have qz:∀y wy,cW (.mk zn za dJ zt) zn ve= .ok ((y,wy),γ)->yP (.mk zn za dJ zt) zn= .ok []:=λy wy h=>by unfold yP;rw[h]);have kj:∀y wy,cW (.mk zn za dJ zt) zn ve= .ok ((y,wy),Α)->yP (.mk zn za dJ zt) zn=n7 y wy Α:=λy wy h=>by unfold yP;rw[h]);generalize yP (.mk zn za dJ zt) zn=QE at*;generalize cW (.mk zn za dJ zt) zn ve=F at*;have fl:=hd.x;have dE:=hd.d;refine θ (aE cE @wd fl ?_);refine ah.p (U_ _ (by have:=lQ (.mk zn za dJ zt);omega) (by omega) (by decide)) ?_ ?_;rotate_left
  ·rintro m O9 ⟨bI,h⟩;have b9:=hd.ge bI;cases F with
   | ok y=>exact h.elim
   | error e=>
     dsimp only at h;rw[yD e rfl]at hP;dsimp only at hP;rw[h, <-hP];refine ao cE @wd ?_;refine kQ b9.d b9.e b9.w (by have:=b9.lt;omega) (by have:=b9.lt;omega) (by have:=b9.lt;omega) (by omega) (by omega) (by omega) ?_;intro O5 eJ qC dW dG gD;simp only[aq]at dG;refine iV cE @wd dW dG gD ?_;exact⟨⟨by have:=b9.lt;omega,λi hi=>by rw[qC i (by have:=b9.lt;omega) (by omega) (by omega) (by omega)];exact b9.xx i hi⟩,rfl⟩
  rintro m O3 ⟨aJ,h⟩;cases F with
  | error e=>exact h.elim
  | ok y=>
  obtain⟨⟨y,wy⟩,b⟩:=y;dsimp only at h;subst h;obtain⟨hyW,qh⟩:=yC rfl;((have lZ:Ζ wy<=4000:=by rw[qh];simp only[Ti,Ca,abx];omega);have hyX:mz y<=1000000:=by omega);clear yC qh yD
  replace kj:=λh:b=Α=>by subst h;exact kj y wy rfl
  replace qz:b=γ->QE= .ok []:=λh=>by subst h;exact qz y wy rfl
  have nC:=λO'=>XD y wy Α O' hyX lZ
  generalize n7 y wy Α=W1 at*;obtain⟨yn,ya,yk,yt⟩:=y;simp only[my,eh,akf,aka]at nC ⊢;have cN:=hd.ge aJ;have p5:=cN.lt;refine ao cE @wd ?_;refine VC.al ?_;rintro O4 ⟨aT,nD,fT⟩;have dy:=cN.ge aT;clear hd cN aJ aT fl;cases b;rw[qz rfl]at hP ⊢;refine ο cE @wd ?_;exact aB.mk ([],.nil) ⟨dy,rfl⟩
  replace kj:=kj rfl
  clear qz;subst kj;refine ξ cE @wd ?_;refine ι (aE cE @wd nD ?_);refine ah.p (nC O4) ?_ ?_;rotate_left
  ·rintro m O9 ⟨bI,h⟩;have b9:=dy.ge bI;cases QE with
   | ok s=>exact h.elim
   | error e=>
     dsimp only at h hP;rw[h, <-hP];refine ao cE @wd ?_;refine kQ b9.d b9.e b9.w (by have:=b9.lt;omega) (by have:=b9.lt;omega) (by have:=b9.lt;omega) (by omega) (by omega) (by omega) ?_;intro O5 eJ qC dW dG gD;simp only[aq]at dG;refine iV cE @wd dW dG gD ?_;exact⟨⟨by have:=b9.lt;omega,λi hi=>by rw[qC i (by have:=b9.lt;omega) (by omega) (by omega) (by omega)];exact b9.xx i hi⟩,rfl⟩
  rintro m O5 ⟨bO,h⟩;cases QE with
  | error e=>exact h.elim
  | ok M=>
  dsimp only at h;obtain⟨tM,rfl⟩:=h;have dG:=dy.ge bO;have dE:=dG.d;have NB:=dG.st (cs':=[mb p.1,.s p.2.g,.s p.2.a,.s p.2.v,.s s1,.s s2,.s s3,.s s4,.l (Ζ P) (P.flatMap bH) tP,.l (Ζ M) (M.flatMap aX) tM,.l 0 [] .nil]);simp only[bB]at NB dE;refine aE cE @wd dE ?_;exact aB.mk (M,tM) ⟨NB,rfl⟩
 rintro⟨M,tM⟩ OA ⟨hd,hM⟩;rw[hM]at hP;dsimp only at hP hd;have fl:=hd.x;refine θ (aE cE @wd fl ?_);refine ah.p (Ds _ hx (by omega)) ?_ ?_;rotate_left
 ·rintro m O9 ⟨bI,h⟩;have b9:=hd.ge bI;cases hF:n7 (.mk zn za dJ zt) zn γ with
  | ok s=>rw[hF]at h;exact h.elim
  | error e=>
    rw[hF]at h hP;dsimp only at h hP;rw[h, <-hP];refine ao cE @wd ?_;refine kQ b9.d b9.e b9.w (by have:=b9.lt;omega) (by have:=b9.lt;omega) (by have:=b9.lt;omega) (by omega) (by omega) (by omega) ?_;intro O5 eJ qC dW dG gD;simp only[aq]at dG;refine iV cE @wd dW dG gD ?_;exact⟨⟨by have:=b9.lt;omega,λi hi=>by rw[qC i (by have:=b9.lt;omega) (by omega) (by omega) (by omega)];exact b9.xx i hi⟩,rfl⟩
 rintro m OB ⟨bI,h⟩;cases ai4:n7 (.mk zn za dJ zt) zn γ with
 | error e=>rw[ai4]at h;exact h.elim
 | ok DD=>
 rw[ai4]at h hP;dsimp only at h hP;have hb:=hd.ge bI;clear bI hd;have dE:=hb.d;obtain⟨tD,rfl⟩:=h;simp only[bB]at dE;refine aE cE @wd dE ?_;rw[<-hP];refine VC.rs hb ?_;clear fl dE hb;intro O9 hd;have dE:=hd.d;have Re:=hd.e;have hbw:=hd.w;have hl9:=hd.lt;simp only[aq]at Re;refine θ (iV cE @wd dE Re hbw ?_);refine ο cE @wd ?_;refine adK ?_;refine iV cE @wd dE Re hbw ?_;refine⟨⟨by show O.N<=O9.N;omega,λi hi=>?_⟩,?_⟩;rw[VH.sx,VH.sx,VH.sx];exact hd.xx i hi;simp only[iR,wu,iI,nq,bB]
section
variable{P:Program}{n:Sz}{D:List Deferred}{e:Env}{O:VH}
def qZ{t t' ty el:TypeId}{x:Operand}{k:Nat}(hu:P.underlying t=φ (.slice el))(hx:ev e x=φ (.l k cs tk)):
  iF P n D (.mk d (.binOp .eql t x (.const (.slice Β 0 0)) t') ty ps af g) e O λm O'=>O'=O/\∃b,m= .v (.bool b)/\(b=Α->k=0/\cs=[]):=by
 intro G a w hw hf;have h1:=hf.ev hx;have hc:a.eval (.const (.slice Β 0 0))= .slice Β 0 0:=rfl
 have key:∀(A:Option Addr)(l c:Nat),a.eval x= .slice A l c->(A=Β->k=0/\cs=[])->∃m O' u w' H,(O'=O/\∃b,m= .v (.bool b)/\(b=Α->k=0/\cs=[]))/\(execOp a.eval (.mk d (.binOp .eql t x (.const (.slice Β 0 0)) t') ty ps af g)).run P w= .ok (.value u) w'/\Gh.Le G H/\WR H O' w'/\VR H m u:=λA l c ha hA=>by
  (refine⟨.v (.bool A.isNone),O,.bool A.isNone,w,G,⟨rfl,_,rfl,λh=>hA (by cases A<;>first | rfl | cases h)⟩,?_,Gh.Le.refl G,hw,.v rfl⟩;have hgd:(eqGuard .eql t x (.const (.slice Β 0 0)) (.slice A l c) (.slice Β 0 0)).run P w= .ok () w:=by simp[eqGuard]);simp only[execOp,ha,hc,Sem.run_bind,hgd,Result.andThen_ok,run_eql_slice_nil w t el A l c hu];rfl
 generalize hv:a.eval x=v at h1;cases h1 with
 | slnil=>exact key Β 0 0 hv λ_=>⟨rfl,rfl⟩
 | rp h=>exact key _ _ _ hv λ_=>⟨rfl,rfl⟩
 | mg=>exact key Β 0 0 hv λ_=>⟨rfl,rfl⟩
 | l h1 h2 h3 h4 h5 h6=>exact key _ _ _ hv λh=>by cases h
end
def oZ{tab:cL}{op:BinOp}{t:TypeId} :dT tab op t (.l n cs tk) y=Β:=rfl
def aaD(x:Gv):(cD x).length=3:=rfl
def aaE(L:List Gv):dz (L.flatMap cD)=L.flatMap cD:=lx (λx=>by simp only[cD,wu]) L
def VF.wkR{Y4:Η}{Φ Ψ :MV->VH->Prop}(h:VF P f Y4 O (aH Φ))(hw:∀m O', Φ m O'->∃m',Wk m m'/\ Ψ m' O'):VF P f Y4 O (aH Ψ):=λG w vs lI hv=>by
 refine(h G w vs lI hv).mono ?_;rintro x w' ⟨r,O',H,h1,h2,h3,h4⟩;cases r with
 | ret m=>cases x with
   | returned v=>
     obtain⟨m',k1,k2⟩:=hw m O' h4;exact⟨.ret m',O',H,h1,h2,k1 H v h3,k2⟩
   | _=>exact h3.elim
 | panic m=>exact h4.elim
def lO:=agb cE<|agb Bb Da
def EF(L:List (Bs×Bs))(tk:Tok)(O:VH)(hn:Ζ L<=100000:=by omega):VF Ε 127 [.l (Ζ L) (L.flatMap bH) tk] O (aH λm O'=>∃t,m= .l (Ζ L) (L.flatMap bH) t/\App O' O.N 2 t/\O.Ge O'):=by
 have dD:=bk gM L;refine Υ 8 [.tmp 2] func127 ?_;refine ao lO @oZ ?_;refine VL.rB (qZ Tryz.underlying84 rfl) ?_;rintro _ O1 ⟨eO,b,rfl,hb⟩;rw[eO];clear eO O1;refine WL.sound aa ?_;cases b
 ·refine ae lO ?_;by_cases h0:Ζ L=0;have hL:L=[]:=akd h0;subst hL;refine VL.app (m:=.l 0 [] .full) (O':=O) (by simp[jx,Nh,FG.1.1]) ?_ (ht:=aa) (hx:=rfl) (hy:=rfl);refine ae lO ?_;exact⟨.full,rfl,trivial,VH.Ge.refl _⟩
  ·have jy:(L.flatMap bH).all eI=Α:=by
    rw[ap3,ap4];intro p _;rfl
   have lg:=aP (tk:=.full) (tk':=tk) (B:=O.N) (n:=0) (k:=Ζ L) (cs:=[]) (ds:=L.flatMap bH) Nh FG.1.1 (O:=O) trivial rfl dD jy (by decide) h0 (by omega) (by simp[maxLen];omega);rw[alT,aka]at lg;refine aqM lg (by rw[sE,iI]) ?_;refine ae lO ?_;exact⟨_,rfl,App.after (alO _),cy.Er (tk:=.full) (sz:=2) trivial (cy.after (sz:=2) (B:=0) trivial)⟩
 ·obtain⟨h0,h1⟩:=hb rfl;rw[h0,h1];refine ae lO ?_;exact⟨.nil,rfl,trivial,VH.Ge.refl _⟩
def Iz(L:List (Bs×Bs))(tk:Tok)(O:VH)(hn:Ζ L<=100000:=by omega):VF Ε 127 [.l (Ζ L) (L.flatMap bH) tk] O (aH λm O'=>m= .l (Ζ L) (L.flatMap bH) .au/\O.Ge O'):=
 VF.wkR (EF L tk O hn) λm O' ⟨t,h1,h2,h3⟩=>⟨_,h1▸Wk.tok,rfl,h3⟩
def aaF(L:List (Dp))(tk:Tok)(O:VH)(hn:Ζ L<=100000):VF Ε 128 [.l (Ζ L) (L.flatMap aX) tk] O (aH λm O'=>∃t,m= .l (Ζ L) (L.flatMap aX) t/\App O' O.N 8 t/\O.Ge O'):=by
 have dD:=bk iQ L;refine Υ 8 [.tmp 2] func128 ?_;refine ao lO @oZ ?_;refine VL.rB (qZ Tryz.underlying83 rfl) ?_;rintro _ O1 ⟨eO,b,rfl,hb⟩;rw[eO];clear eO O1;refine WL.sound aa ?_;cases b
 ·refine ae lO ?_;by_cases h0:Ζ L=0;have hL:L=[]:=akd h0;subst hL;refine VL.app (m:=.l 0 [] .full) (O':=O) (by simp[jx,HX,Eo.1.1]) ?_ (ht:=aa) (hx:=rfl) (hy:=rfl);refine ae lO ?_;exact⟨.full,rfl,trivial,VH.Ge.refl _⟩
  ·have jy:(L.flatMap aX).all eI=Α:=by
    rw[ap3,ap4];intro p _;rfl
   have lg:=aP (tk:=.full) (tk':=tk) (B:=O.N) (n:=0) (k:=Ζ L) (cs:=[]) (ds:=L.flatMap aX) HX Eo.1.1 (O:=O) trivial rfl dD jy (by decide) h0 (by omega) (by simp[maxLen];omega);rw[alT,aka]at lg;refine aqM lg (by rw[sE,nq]) ?_;refine ae lO ?_;exact⟨_,rfl,App.after (alO _),cy.Er (tk:=.full) (sz:=8) trivial (cy.after (sz:=8) (B:=0) trivial)⟩
 ·obtain⟨h0,h1⟩:=hb rfl;rw[h0,h1];refine ae lO ?_;exact⟨.nil,rfl,trivial,VH.Ge.refl _⟩
def Vb(L:List (Dp))(tk:Tok)(O:VH)(hn:Ζ L<=100000):VF Ε 128 [.l (Ζ L) (L.flatMap aX) tk] O (aH λm O'=>m= .l (Ζ L) (L.flatMap aX) .au/\O.Ge O'):=
 VF.wkR (aaF L tk O hn) λm O' ⟨t,h1,h2,h3⟩=>⟨_,h1▸Wk.tok,rfl,h3⟩
def aaG(L:List (iB))(tk:Tok)(O:VH)(hn:Ζ L<=100000):VF Ε 130 [.l (Ζ L) (L.flatMap cM) tk] O (aH λm O'=>∃t,m= .l (Ζ L) (L.flatMap cM) t/\App O' O.N 2 t/\O.Ge O'):=by
 have dD:=bk pN L;refine Υ 8 [.tmp 2] func130 ?_;refine ao lO @oZ ?_;refine VL.rB (qZ Tryz.underlying54 rfl) ?_;rintro _ O1 ⟨eO,b,rfl,hb⟩;rw[eO];clear eO O1;refine WL.sound aa ?_;cases b
 ·refine ae lO ?_;by_cases h0:Ζ L=0;have hL:L=[]:=akd h0;subst hL;refine VL.app (m:=.l 0 [] .full) (O':=O) (by simp[jx,HW,FE.1.1]) ?_ (ht:=aa) (hx:=rfl) (hy:=rfl);refine ae lO ?_;exact⟨.full,rfl,trivial,VH.Ge.refl _⟩
  ·have jy:(L.flatMap cM).all eI=Α:=by
    rw[ap3,ap4];intro p _;rfl
   have lg:=aP (tk:=.full) (tk':=tk) (B:=O.N) (n:=0) (k:=Ζ L) (cs:=[]) (ds:=L.flatMap cM) HW FE.1.1 (O:=O) trivial rfl dD jy (by decide) h0 (by omega) (by simp[maxLen];omega);rw[alT,aka]at lg;refine aqM lg (by rw[sE,pO]) ?_;refine ae lO ?_;exact⟨_,rfl,App.after (alO _),cy.Er (tk:=.full) (sz:=2) trivial (cy.after (sz:=2) (B:=0) trivial)⟩
 ·obtain⟨h0,h1⟩:=hb rfl;rw[h0,h1];refine ae lO ?_;exact⟨.nil,rfl,trivial,VH.Ge.refl _⟩
def wG(L:List (iB))(tk:Tok)(O:VH)(hn:Ζ L<=100000:=by omega):VF Ε 130 [.l (Ζ L) (L.flatMap cM) tk] O (aH λm O'=>m= .l (Ζ L) (L.flatMap cM) .au/\O.Ge O'):=
 VF.wkR (aaG L tk O hn) λm O' ⟨t,h1,h2,h3⟩=>⟨_,h1▸Wk.tok,rfl,h3⟩
def Am(L:List (Gv))(tk:Tok)(O:VH)(hn:Ζ L<=100000:=by decide):VF Ε 134 [.l (Ζ L) (L.flatMap cD) tk] O (aH λm O'=>∃t,m= .l (Ζ L) (L.flatMap cD) t/\App O' O.N 3 t/\O.Ge O'):=by
 have dD:=bk aaD L;refine Υ 8 [.tmp 2] func134 ?_;refine ao lO @oZ ?_;refine VL.rB (qZ Tryz.underlying258 rfl) ?_;rintro _ O1 ⟨eO,b,rfl,hb⟩;rw[eO];clear eO O1;refine WL.sound aa ?_;cases b
 ·refine ae lO ?_;by_cases h0:Ζ L=0;have hL:L=[]:=akd h0;subst hL;refine VL.app (m:=.l 0 [] .full) (O':=O) (by simp[jx,Bb,Da.1.1]) ?_ (ht:=aa) (hx:=rfl) (hy:=rfl);refine ae lO ?_;exact⟨.full,rfl,trivial,VH.Ge.refl _⟩
  ·have jy:(L.flatMap cD).all eI=Α:=by
    rw[ap3,ap4];intro p _;rfl
   have lg:=aP (tk:=.full) (tk':=tk) (B:=O.N) (n:=0) (k:=Ζ L) (cs:=[]) (ds:=L.flatMap cD) Bb Da.1.1 (O:=O) trivial rfl dD jy (by decide) h0 (by omega) (by simp[maxLen];omega);rw[alT,aka]at lg;refine aqM lg (by rw[sE,aaE]) ?_;refine ae lO ?_;exact⟨_,rfl,App.after (alO _),cy.Er (tk:=.full) (sz:=3) trivial (cy.after (sz:=3) (B:=0) trivial)⟩
 ·obtain⟨h0,h1⟩:=hb rfl;rw[h0,h1];refine ae lO ?_;exact⟨.nil,rfl,trivial,VH.Ge.refl _⟩
def IA(L:List Dp)(tk:Tok)(O:VH)(hn:Ζ L<=100000:=by omega):VF Ε 128 [.l (Ζ L) (L.flatMap aX) tk] O (aH λm O'=>O.Ge O'/\GR O' 56 8 O.N m (Ζ L) (L.flatMap aX)):=by
 have dD:=bk iQ L
 have jy:(L.flatMap aX).all eI=Α:=by
  rw[ap3,ap4];intro p _;rfl
 refine Υ 8 [.tmp 2] func128 ?_;refine ao lO @oZ ?_;refine VL.rB (qZ Tryz.underlying83 rfl) ?_;rintro _ O1 ⟨eO,b,rfl,hb⟩;rw[eO];clear eO O1;refine WL.sound aa ?_;cases b;refine ae lO ?_;refine VL.grow aa (.inl rfl) (te:=⟨_,8,_,_⟩) (B:=O.N) (n':=0) (L:=[]) (dx:=.slice 56) (p:=.l 0 [] .full) (q:=.l (Ζ L) (L.flatMap aX) tk) (j:=Ζ L) (ds:=L.flatMap aX) (.inl ⟨rfl,rfl,.inr rfl⟩) (by simp[CU,dD]) jy (by rw[HX];rfl) Eo.1.1 (by rw[HX];rfl) trivial (by dsimp only;omega) (by simp only[maxLen];omega) (alO _) rfl rfl rfl rfl ?_;intro m O' h1 h2 h3 h4;rw[alT,aka]at h1;refine ae lO ?_;exact⟨h3 rfl,h1⟩;obtain⟨h0,h1⟩:=hb rfl;rw[h0,h1];refine ae lO ?_;exact⟨VH.Ge.refl _,.inl ⟨rfl,rfl,.inl rfl⟩⟩
def EG:laidOutB Ε=Α:=by kernel_rfl
def yR:w6 Ε 60 3:=w6.u9 EG
def FT:w6 Ε 150 2:=w6.u9 EG
def qD:w6 Ε 40 4:=w6.u9 EG
def FU:=agb fO<|agb T82<|agb T50<|agb T74<|agb T75<|agb Xs<|agb aiF t_
def akX(x:Gv)(O:VH):VF Ε 53 [.agg (cD x)] O (aH λm O'=>m= .agg (cM ⟨x.g,x.a⟩)/\O.Ge O'):=by
 obtain⟨g,a,v⟩:=x;have hg:=((VH.Ge.refl O).push (.cells [.s g,.s a,.s v])).push (.cells [.s [],.s []]);unfold cD cM;refine Υ 8 [.cell 2 150] func53 ?_;refine ae FU ?_;exact hg.set (Nat.le_succ _) _
def fL(x:Gv):List Bs:=[x.g,x.a,x.v]
def DC(x:iB):List Bs:=[x.g,x.a]
def ahu(x:Gv):cD x=(fL x).map .s:=rfl
def wH(x:Gv):Prop:=Ζ x.g<=maxLen/\(Ζ x.a)<=maxLen/\(Ζ x.v)<=maxLen
def yS{x:Gv}(h:wH x):∀s∈fL x,Ζ s<=maxLen:=by
 intro s hs;simp only[fL,aga,agc,or_false]at hs;rcases hs with rfl | rfl | rfl;exact h.1;exact h.2.1;exact h.2.2
structure J4(O:VH)(k ke kv:Nat)(E:gI)(ce:Nat)(V:gI)(cv:Nat)(r a:Int):Prop where
 cell:O.hp k=φ (.cells [.map ke,.map kv,mi r,mi a])
 FV:O.hp ke=φ (.map (db E) ce)
 Lu:O.hp kv=φ (.map (db V) cv)
 Rf:pL 3 E
 vok:pL 2 V
 ptr:∀p∈E,∃q,p.2.1= .p q 0
 lt:k<O.N/\ke<O.N/\kv<O.N
 ne:k≠ke/\k≠kv/\ke≠kv
def EH(E:gI)(x:Gv):Bool:=(jC (fL x) E).isSome
def adL{E:gI}(h:∀p∈E,∃q,p.2.1=MV.p q 0){l:List Bs}(hl:jC l E=φ m):∃q,m= .p q 0:=by
 unfold jC at hl;obtain⟨p,h1,rfl⟩:=Option.map_eq_some_iff.1 hl;exact h p (List.mem_of_find?_eq_some h1)
def XH{k ke kv ce cv:Nat}{E V:gI}{r a:Int}(h:J4 O k ke kv E ce V cv r a)(x:Gv)(hx:wH x):VF Ε 52 [.p k 0,.agg (cD x)] O (aH λm O'=>m=mb (EH E x)/\O.Ge O'):=by
 have hl:=yS hx;have AB:=h.cell;simp only[aq]at AB;unfold EH;rw[ahu];generalize hL:fL x=L at*;have qe:Ζ L=3:=by rw[<-hL];rfl
 obtain⟨g,a',v⟩:=x;have hLc:L.map MV.s=[.s g,.s a',.s v]:=by rw[<-hL];rfl
 rw[hLc];refine ω 16 [.tmp 4] func52 ?_;refine κ FU ?_;refine VC.bx ?_;rintro O1 ⟨aK,cK,dd⟩;have ang:=(aK.hp _ h.lt.1).trans AB;have anh:=(aK.hp _ h.lt.2.1).trans h.FV;refine Γ ?_;refine WC.bW (.held []) [(0,.rd),(1,.rd),(2,.rd),(3,.rd),(4,.rd),(5,.rd),(6,.rd),(7,.rd),(8,.rd),(9,.rd),(10,.rd),(11,.rd)] ?_;refine aE FU ang cK ?_;refine VL.hold (.inr rfl) rfl rfl (gJ.lV yR aa (l:=L) (te:=⟨_,1,8,[.v (.pointer Β)]⟩) Tryz.underlying74 Xs rfl rfl anh h.Rf (by rw[hLc];rfl) qe hl) (WL.sound aa ?_);cases fa:jC L E with
 | none=>
   refine ae FU ?_;refine ν FU ?_;exact aK
 | some m=>
   obtain⟨p,rfl⟩:=adL h.ptr fa;refine ae FU ?_;refine ν FU ?_;exact aK
section
variable{G H:Gh}{n:Sz}{D:List Deferred}{e e':Env}{a:Act}{P:Program}{tab:cL}{O O':VH}{w:World}{m m':MV}{u v:Value}{ops:Array Oper}{Q:VQ}{md:Md}
def Vc(G:Gh):List Deferred->List (FuncId×Η)->Prop
 | [],[]=>True
 | d::D,p::ds=>(∃us:List Value,d={target:=.fn (.func p.1) #[],args:=us.toArray}/\aW G p.2 us)/\Vc G D ds
 | _,_=>False
def Vc.mono(h:G.Le H):∀{D:List Deferred} {ds:List (FuncId×Η)},Vc G D ds->Vc H D ds
 | [],[],_=>trivial
 | _::_,_::_,⟨⟨us,h1,h2⟩,h3⟩=>⟨⟨us,h1,h2.mono h⟩,h3.mono h⟩
 | [],_::_,h=>h.elim
 | _::_,[],h=>h.elim
def Rg(P:Program):List (FuncId×Η)->VH->ϰ->Prop
 | [],O,K=>K O
 | p::ds,O,K=>Enters P p.1/\iO P p.1 p.2 Β O λO'=>Rg P ds O' K
def Ve(P:Program)(fn:Func)(G0:Gh)(K:ϰ):Exit->Act->World->Prop:=
 bodyPostD P fn λx w'=>(∃v,x= .returned v/\v= .tuple #[])/\∃O' H,Gh.Le G0 H/\WR H O' w'/\K O'
def RC(P:Program)(fn:Func)(n:Sz)(ds:List (FuncId×Η))(c:Code)(e:Env)(O:VH)(K:ϰ):Prop:=
 ∀G0 G D a w,Gh.Le G0 G->Vc G D ds->WR G O w->FR G n D e a->c.wp P (Ve P fn G0 K) a w
def FW{fn:Func}{tmps:Array Value}{G0:Gh}{K:ϰ}(hr:fn.results= #[]):∀(D:List Deferred)(ds:List (FuncId×Η))(G:Gh)(O:VH)(w:World),Gh.Le G0 G->Vc G D ds->WR G O w->Rg P ds O K->
  Leaves P fn tmps (λx w'=>(∃v,x= .returned v/\v= .tuple #[])/\∃O' H,Gh.Le G0 H/\WR H O' w'/\K O') D .returning w
 | [],[],G,O,w,h0,_,hw,hk=>⟨.tuple #[],by simp[results,hr],⟨_,rfl,rfl⟩,O,G,h0,hw,hk⟩
 | d::D,p::ds,G,O,w,h0,⟨⟨us,ed,kI⟩,hD⟩,hw,⟨hE,hk⟩=>by
   subst ed;refine leaves_cons (f:=p.1) (args:=us.toArray) (by simp) (by simp[invoke,hE us.toArray w]) ((hk G w us .returning hw kI trivial).mono ?_);rintro r u' JG ⟨⟨v,rfl⟩,hs,O2,K2,q1,q2,q3⟩;dsimp only;rw[hs];exact FW hr D ds K2 O2 JG (h0.trans q1) (hD.mono q1) q2 q3
 | [],_::_,_,_,_,_,h,_,_=>h.elim
 | _::_,[],_,_,_,_,h,_,_=>h.elim
def VF.defs{c:Code}{R:MV->VH->Prop}(hf:P.funcs[f]?=φ fn)(hb:fn.body=φ c)(hr:fn.results= #[])(hn:Ζ args<=fn.ntmps)
  (h:RC P fn ⟨fn.ntmps,0⟩ [] c (cZ 0 args) O K) (hR:∀O',K O'->R (.tuple []) O'):VF P f args O (aH R):=by
 intro G w vs hw hv;refine(calls_of_wp_defers hf hb (h G G [] _ w (Gh.Le.refl G) trivial hw ?_)).mono ?_;have hl:=hv.1;refine⟨rfl,by simp;omega,λt x hx=>?_⟩;rw[jS,if_pos (alR _),Nat.sub_zero]at hx;obtain⟨u,h1,h2⟩:=hv.get hx;refine⟨u,?_,h2⟩;have dm:=(YI.1 h1).1;rw[aqa (by simpa using dm)];simpa using h1;rintro x w' ⟨⟨v,rfl,rfl⟩,O',H,h1,h2,h3⟩;exact⟨.ret (.tuple []),O',H,h1,h2,.tuple (us:=[]) rfl (λi c u h=>by simp at h),hR _ h3⟩
def RC.ag{fn:Func}{ds:List (FuncId×Η)}{A rest:Code}{K:ϰ} (h:∀D,VC P n D A e O λx e' O'=>match x with
  | .normal=>RC P fn n ds rest e' O' K
  | _=>False):RC P fn n ds (.seq A rest) e O K:=by
 intro G0 G D a w h0 hD hw hf;refine wp_seq (wp_mono (h D G a w hw hf) ?_);rintro y a1 w1 ⟨x,e',O',H,g1,g2,g3,g4,g5⟩
 cases y<;>cases x<;>first
  | exact False.elim g4
  | exact g5.elim
  | skip
 exact g5 G0 H D a1 w1 (h0.trans g1) (hD.mono g1) g2 g3
def RC.fin{fn:Func}{ds:List (FuncId×Η)}{A:Code}{K:ϰ}(hr:fn.results= #[]) (h:∀D,VC P n D A e O λx e' O'=>match x with
  | .normal=>Rg P ds O' K
  | .ret=>Rg P ds O' K
  | _=>False):RC P fn n ds A e O K:=by
 intro G0 G D a w h0 hD hw hf;refine wp_mono (h D G a w hw hf) ?_;rintro y a1 w1 ⟨x,e',O',H,g1,g2,g3,g4,g5⟩
 have fin:FR H n D e' a1->Rg P ds O' K->Leaves P fn a1.tmps (λx w'=>(∃v,x= .returned v/\v= .tuple #[])/\∃O' H,Gh.Le G0 H/\WR H O' w'/\K O') a1.defers .returning w1:=λaZ hk=>by
  rw[aZ.defers];exact FW hr D ds H O' w1 (h0.trans g1) (hD.mono g1) g2 hk
 cases y<;>cases x<;>first
  | exact False.elim g4
  | exact g5.elim
  | exact fin g3 g5
def RC.cond{ds:List (FuncId×Η)}{c:Operand}{x y:Code}{t:Bool}(hc:ev e c=φ (mb t))(h:RC P fn n ds (if t then x else y) e O K):RC P fn n ds (.cond c x y) e O K:=by
 intro G0 G D a w h0 hD hw hf;have hv:=hf.ev hc;generalize hx:a.eval c=u at hv;have:=VR.j8 hv;subst this;exact wp_cond hx (h G0 G D a w h0 hD hw hf)
def RO(P:Program)(fn:Func)(n:Sz)(ds:List (FuncId×Η))(ops:Array Oper)(rest:Code)(l:Τ)(e:Env)(O:VH)(K:ϰ):Prop:=
 ∀G0 G D a w,Gh.Le G0 G->Vc G D ds->WR G O w->FR G n D e a->wpOps P ops (Exit.then (rest.wp P (Ve P fn G0 K)) (Ve P fn G0 K)) l a w
def RC.region{ds:List (FuncId×Η)}{id:Nat}(l:Τ)(hl:List.range ops.size=l)(h:RO P fn n ds ops rest l e O K):RC P fn n ds (.seq (.region id ops γ) rest) e O K:=by
 subst hl;intro G0 G D a w h0 hD hw hf;exact wp_seq (wp_region (h G0 G D a w h0 hD hw hf))
def RO.step(ht:aR P tab){ds:List (FuncId×Η)}{o:Oper}(ho:ops[i]?=φ o)(hg:aQ ops o e=φ Α)(hv:dZ tab o e O=φ (m,O'))(hd:bL n o.dst=Α)(h:RO P fn n ds ops rest l (bt o.dst m e) O' K):
  RO P fn n ds ops rest (i::l) e O K:=by
 intro G0 G D a w h0 hD hw aZ;obtain⟨nx,w',H,u,hr,rA,h1,h2,h3,_⟩:=GK (P:=P) ht hw aZ hv;rw[wpOps_cons];simp only[wpOp,ho,bN aZ hg,if_true];refine .inl ?_;unfold Oper.wp;rw[hr];have:=h G0 H D (a.put o.dst u) w' (h0.trans h1) (hD.mono h1) h2 ((aZ.mono h1).bt hd h3);rcases rA with rfl | ⟨rfl,rfl⟩<;>exact this
def RO.o1{ds:List (FuncId×Η)}{lo:ϕ}{o:Oper}(h:yr (λm O'=>RO P fn n ds ⟨lo⟩ rest l (bt o.dst m e) O' K) (dZ tab o e O))(ht:aR P tab:=by exact aa)(ho:lo[i]?=φ o:=by exact rfl)(hg:aQ ⟨lo⟩ o e=φ Α:=by exact rfl)(hd:bL n o.dst=Α:=by exact rfl):
  RO P fn n ds ⟨lo⟩ rest (i::l) e O K:=by
 generalize hv:dZ tab o e O=v at h;cases v with
 | none=>exact h.elim
 | some p=>exact RO.step ht (by simpa using ho) hg hv hd h
def RO.defer{ds:List (FuncId×Η)}{g:FuncId}{as_:Array Operand}{ts:Array TypeId}{ty:TypeId}(ho:ops[i]?=φ (.mk Β (.defer {callee:=.value (.func g),args:=as_,argTypes:=ts}) ty ps af Β))(hm:il e as_.toList=φ ms)
  (h:RC P fn n ((g,ms)::ds) rest e O K):RO P fn n ds ops rest [i] e O K:=by
 intro G0 G D a w h0 hD hw aZ;have kI:=aZ.il hm;have ha:as_.map a.eval=(as_.toList.map a.eval).toArray:=by apply Array.ext';simp
 have cT:(execOp a.eval (.mk Β (.defer {callee:=.value (.func g),args:=as_,argTypes:=ts}) ty ps af Β)).run P w= .ok (.defer {target:=.fn (.func g) #[],args:=(as_.toList.map a.eval).toArray}) w:=by
  simp only[<-ha];simp[execOp,resolve,Act.eval,Deferred.ofValue]
 rw[wpOps_cons];simp only[wpOp,ho];rw[if_pos (by simp[Region.wanted])];refine .inl ?_;unfold Oper.wp;rw[cT,Oper.upon_defer];simp only[wpOps,Exit.then];exact h G0 G ({target:=.fn (.func g) #[],args:=(as_.toList.map a.eval).toArray}::D) _ w h0 ⟨⟨_,rfl,kI⟩,hD⟩ hw ⟨by show _::a.defers=_;rw[aZ.defers],aZ.size,aZ.get⟩
def iO.mono{x:ϱ}{K':ϰ}(h:iO P f args x O K)(hk:∀O',K O'->K' O'):iO P f args x O K':=λG w vs u hw hv hu=>(h G w vs u hw hv hu).mono λr u' w' ⟨h1,h2,O',H,h3,h4,h5⟩=>⟨h1,h2,O',H,h3,h4,hk _ h5⟩
def iO.JR(ht:aR P tab){c:Code}(hf:P.funcs[f]?=φ fn)(hb:fn.body=φ c)(hr:fn.results= #[])(hn:Ζ args<=fn.ntmps)(hk:(⟨fn.ntmps,0⟩:Sz)=n)(h:VC P n [] c (cZ 0 args) O (FC tab [] (aH λ_ O'=>K O'))):iO P f args Β O K:=by
 subst hk;intro G w vs u hw hv hu
 have G6:settle u= .returning:=by
  cases u<;>first
   | rfl
   | exact hu.elim
 have hl:=hv.1;refine(callsD_of_wp (R:=λx w'=>(∃v,x= .returned v)/\∃O' H,Gh.Le G H/\WR H O' w'/\K O') hf hb (wp_mono (h G _ w hw ?_) ?_)).mono ?_;refine⟨rfl,by simp;omega,λt x hx=>?_⟩;rw[jS,if_pos (alR _),Nat.sub_zero]at hx;obtain⟨u,h1,h2⟩:=hv.get hx;refine⟨u,?_,h2⟩;have dm:=(YI.1 h1).1;rw[aqa (by simpa using dm)];simpa using h1
 ·rintro y a1 w1 ⟨x,e',O',H,g1,g2,g3,g4,g5⟩
  have fin:FR H ⟨fn.ntmps,0⟩ [] e' a1->K O'->bodyPost P fn (λx w'=>(∃v,x= .returned v)/\∃O' H,Gh.Le G H/\WR H O' w'/\K O') .normal a1 w1:=λaZ hk=>
   ⟨aZ.defers,.tuple #[],by simp[results,hr],⟨_,rfl⟩,O',H,g1,g2,hk⟩
  cases y<;>cases x<;>first
   | exact False.elim g4
   | exact fin g3 g5
   | exact g5.elim
 ·rintro r u' w' ⟨rfl,h1,h2⟩;exact⟨h1,G6,h2⟩
end
section
variable{G:Gh}{O O':VH}{w:World}{P:Program}
def WR.cellAt{k:Nat}{x:Value}(h:WR G O w)(hk:O.hp k=φ (.cells cs))(hc:cs[off]?=φ (.v x)):∃b,G.cu k=φ b/\w.cell? ⟨b,off,Β⟩=φ x/\w.frozen? ⟨b,off,Β⟩=γ:=by
 obtain⟨b,C,T,e1,e2,e3⟩:=h.cells k cs hk;obtain⟨v,je,px⟩:=e3.get hc;cases px with
 | v _=>
   refine⟨b,e1,?_,?_⟩;have dm:off<Ζ cs:=(YI.1 hc).1;rw[List.getElem?_take_of_lt dm]at je;simp only[World.cell?,e2,Option.isSome_none,Bool.false_eq_true,if_false];simpa using je
   ·have hlen:off<C.size:=by
     have:=(YI.1 je).1;simp at this;omega
    obtain⟨t',⟨lo,hi⟩,dw⟩:=T;dsimp only at e2 dw;simp only[World.frozen?,e2,Bool.and_eq_false_imp,decide_eq_true_eq,decide_eq_false_iff_not];intro;omega
def fJ.mem(hr:∀G w vs,WR G O w->aW G ms vs->∃u w',(callFunc f vs.toArray).run P w= .ok (.value u) w'/\WR G O' w'/\VR G m u):fJ P f ms O λm' n5=>m'=m/\n5=O':=by
 intro G w vs hw hv;obtain⟨u,w',h1,h2,h3⟩:=hr G w vs hw hv;exact⟨m,O',u,w',G,⟨rfl,rfl⟩,h1,Gh.Le.refl G,h2,h3⟩
def VR.DE:VR G (.tuple []) (.tuple #[]):=.tuple (us:=[]) rfl (λi c u h=>by simp at h)
def aW.one{x:MV}(h:aW G [x] vs):∃u,vs=[u]/\VR G x u:=by
 obtain⟨u,us,rfl,g1,g2⟩:=h.fH;rw[g2.jN];exact⟨u,rfl,g1⟩
def aW.adM{k:Nat}(h:aW G [.p k o] vs):∃b,vs=[.pointer (φ ⟨b,o,Β⟩)]/\G.cu k=φ b:=by
 obtain⟨u,rfl,g1⟩:=h.one;cases g1 with
 | p h4=>exact⟨_,rfl,h4⟩
def aW.adN{k:Nat}{x:Value}(h:aW G [.p k o,.v x] vs):∃b,vs=[.pointer (φ ⟨b,o,Β⟩),x]/\G.cu k=φ b:=by
 obtain⟨u,us,rfl,g1,g2⟩:=h.fH;obtain⟨u2,rfl,g3⟩:=g2.one;have:=g3.j8;subst this;cases g1 with
 | p h4=>exact⟨_,rfl,h4⟩
def aW.ani{k:Nat}{x y:Value}(h:aW G [.p k o,.v x,.v y] vs):∃b,vs=[.pointer (φ ⟨b,o,Β⟩),x,y]/\G.cu k=φ b:=by
 obtain⟨u,us,rfl,g1,g2⟩:=h.fH;obtain⟨u2,us2,rfl,g3,g4⟩:=g2.fH;obtain⟨u3,rfl,g5⟩:=g4.one;have e1:=g3.j8;have e2:=g5.j8;subst e1;subst e2
 cases g1 with
 | p h4=>exact⟨_,rfl,h4⟩
end
def yT(O:VH):fJ Ε 153 [] O λm O'=>m= .tuple []/\O'=O:=
 fJ.mem λG w vs hw hv=>by
  rw[hv.jN];exact⟨_,w,run_call_mark0 func153 (by kernel_rfl) (by kernel_rfl) (by kernel_rfl) .disable (by kernel_rfl) w,hw,VR.DE⟩
def Bg(O:VH):fJ Ε 155 [] O λm O'=>m= .tuple []/\O'=O:=
 fJ.mem λG w vs hw hv=>by
  rw[hv.jN];exact⟨_,w,run_call_mark0 func155 (by kernel_rfl) (by kernel_rfl) (by kernel_rfl) .enable (by kernel_rfl) w,hw,VR.DE⟩
def IB(k o:Nat)(O:VH):fJ Ε 156 [.p k o] O λm O'=>m= .tuple []/\O'=O:=
 fJ.mem λG w vs hw hv=>by
  obtain⟨b,rfl,hp⟩:=hv.adM;exact⟨_,w,run_call_marked func156 (by kernel_rfl) (by kernel_rfl) (by kernel_rfl) .acquire (by kernel_rfl) _ w,hw,VR.DE⟩
def Gn(k o:Nat)(O:VH):fJ Ε 158 [.p k o] O λm O'=>m= .tuple []/\O'=O:=
 fJ.mem λG w vs hw hv=>by
  obtain⟨b,rfl,hp⟩:=hv.adM;exact⟨_,w,run_call_marked func158 (by kernel_rfl) (by kernel_rfl) (by kernel_rfl) .releaseMerge (by kernel_rfl) _ w,hw,VR.DE⟩
section
variable{O:VH}{k off:Nat}{cs:Η}
def Rh{x:Int}(y:Int)(hk:O.hp k=φ (.cells cs))(hc:cs[off]?=φ (.v (Ι Κ x))):fJ Ε 90 [.p k off,.v (Ι Κ y)] O λm O'=>m= .v (Ι Κ (IntKind.i64.wrap (x+y)))/\O'=O.set k (.cells (cs.set off (.v (Ι Κ (IntKind.i64.wrap (x+y)))))):=
 fJ.mem λG w vs hw hv=>by
  obtain⟨b',h1,h2,h3⟩:=hw.cellAt hk hc;obtain⟨b,rfl,hp⟩:=hv.adN;rw[h1]at hp;injection hp with hp;subst hp;exact⟨_,_,run_call_add func90 (by kernel_rfl) (by kernel_rfl) (by kernel_rfl) .i64 (by kernel_rfl) h2 h3 rfl,hw.store hk h1 (YI.1 hc).1 (.v rfl),.v rfl⟩
def Ri{x:Int}(y:Int)(hk:O.hp k=φ (.cells cs))(hc:cs[off]?=φ (.v (.int .i32 x))):fJ Ε 159 [.p k off,.v (.int .i32 y)] O λm O'=>m= .v (.int .i32 (IntKind.i32.wrap (x+y)))/\O'=O.set k (.cells (cs.set off (.v (.int .i32 (IntKind.i32.wrap (x+y)))))):=
 fJ.mem λG w vs hw hv=>by
  obtain⟨b',h1,h2,h3⟩:=hw.cellAt hk hc;obtain⟨b,rfl,hp⟩:=hv.adN;rw[h1]at hp;injection hp with hp;subst hp;exact⟨_,_,run_call_add func159 (by kernel_rfl) (by kernel_rfl) (by kernel_rfl) .i32 (by kernel_rfl) h2 h3 rfl,hw.store hk h1 (YI.1 hc).1 (.v rfl),.v rfl⟩
def Vf{x:Int}(hk:O.hp k=φ (.cells cs))(hc:cs[off]?=φ (.v (.int .u32 x))):fJ Ε 99 [.p k off] O λm O'=>m= .v (.int .u32 x)/\O'=O:=
 fJ.mem λG w vs hw hv=>by
  obtain⟨b',h1,h2,h3⟩:=hw.cellAt hk hc;obtain⟨b,rfl,hp⟩:=hv.adM;rw[h1]at hp;injection hp with hp;subst hp;exact⟨_,_,run_call_load func99 (by kernel_rfl) (by kernel_rfl) (by kernel_rfl) .u32 (by kernel_rfl) h2,hw,.v rfl⟩
def Rj{x:Int}(y:Int)(hk:O.hp k=φ (.cells cs))(hc:cs[off]?=φ (.v (.int .u32 x))):fJ Ε 125 [.p k off,.v (.int .u32 y)] O λm O'=>m= .tuple []/\O'=O.set k (.cells (cs.set off (.v (.int .u32 y)))):=
 fJ.mem λG w vs hw hv=>by
  obtain⟨b',h1,h2,h3⟩:=hw.cellAt hk hc;obtain⟨b,rfl,hp⟩:=hv.adN;rw[h1]at hp;injection hp with hp;subst hp;exact⟨_,_,run_call_store func125 (by kernel_rfl) (by kernel_rfl) (by kernel_rfl) (by kernel_rfl) h2 h3,hw.store hk h1 (YI.1 hc).1 (.v rfl),VR.DE⟩
def aaH{x y:Int}(hk:O.hp k=φ (.cells cs))(hc:cs[off]?=φ (.v (.int .i32 x))):fJ Ε 154 [.p k off,.v (.int .i32 x),.v (.int .i32 y)] O λm O'=>m= .v (.bool Α)/\O'=O.set k (.cells (cs.set off (.v (.int .i32 y)))):=
 fJ.mem λG w vs hw hv=>by
  obtain⟨b',h1,h2,h3⟩:=hw.cellAt hk hc;obtain⟨b,rfl,hp⟩:=hv.ani;rw[h1]at hp;injection hp with hp;subst hp;exact⟨_,_,run_call_cas_hit func154 (by kernel_rfl) (by kernel_rfl) (by kernel_rfl) .i32 (by kernel_rfl) h2 h3,hw.store hk h1 (YI.1 hc).1 (.v rfl),.v rfl⟩
end
section
variable{P:Program}{tab:cL}{n:Sz}{D:List Deferred}{md:Md}{ops:Array Oper}{Q:VQ}{e:Env}{O:VH}
def VL.ai5(ht:aR P tab){x:Operand}{src dst ty el:TypeId}{L:List (Fl×Oper)}{k:Nat}{y:Value}{te:c6}(hmd:md= .plain\/md= .any)
  (hs:(tab src).map c6.under=φ (.pointer el)) (PW:(tab dst).map c6.under=φ .unsafePointer) (he:tab el=φ te) (hz:te.size≠0) (hk:O.hp k=φ (.cells cs)) (hc:cs[off]?=φ (.v y))
  (hx:ev e x=φ (.p k off)) (hg:aQ ops (.mk d (.convert src dst x) ty ps af g) e=φ Α) (hd:bL n d=Α) (h:WL P tab n D md ops Q L (bt d (.p k off) e) O):
  VL P n D md ops ((.one,.mk d (.convert src dst x) ty ps af g)::L) e O Q:=by
 refine VL.rB (M:=λm O'=>m= .p k off/\O'=O) (λG a w hw hf=>?_) (by rintro m O' ⟨rfl,rfl⟩;exact WL.sound ht h) (hmd:=hmd) (hg:=hg) (hd:=hd);have mK:=hf.ev hx;generalize rD:a.eval x=u at mK;cases mK with
 | p hp=>
   rename_i b;obtain⟨ti,z,i1,i2,_⟩:=(ht _ te he).info;obtain⟨b2,s1,s2,_⟩:=hw.cellAt hk hc;rw[hp]at s1;injection s1 with s1;subst s1;have hr:=run_convert_to_unsafe (P:=P) (w:=w) (bZ ht hs) (bZ ht PW) (by rw[i1,Option.map_some,decide_eq_false (by rw[i2];exact hz)]) s2;exact⟨_,_,_,w,G,⟨rfl,rfl⟩,by simp[execOp,rD,hr],Gh.Le.refl G,hw,.p hp⟩
def iF.ext{o:Oper}{c:Call}{x:Operand}{id:FuncId}{M:MV->VH->Prop}(ux:o.op= .call c)(hc:c.callee= .value x)(hf:ev e x=φ (.func (.func id) [] []))(hm:il e c.args.toList=φ ms)(hx:fJ P id ms O M):iF P n D o e O M:=by
 intro G a w hw aZ;have xS:=aZ.ev hf;generalize Cy:a.eval x=fv at xS;cases xS with
 | func h1 h2 h3 h4=>
   rename_i us vs;have kI:us=[]:=akd h1;have qQ:vs=[]:=akd h3;subst kI;subst qQ;have jH:=aZ.il hm;obtain⟨m,O',u,w',H,hM,hr,g1,g2,g3⟩:=hx G w _ hw jH;refine⟨m,O',u,w',H,hM,?_,g1,g2,g3⟩;(have ha: #[]++c.args.map a.eval++ #[]=(c.args.toList.map a.eval).toArray:=by apply Array.ext';simp);simp only[execOp,ux,resolve,hc,Cy,Deferred.ofValue,Sem.run_bind,Sem.run_pure,Result.andThen_ok,invoke];rw[ha];exact hr
end
def dX:=agb T80<|agb amn<|agb amd<|agb amA<|agb ada<|agb ame<|agb amE<|agb ade<|agb T98<|agb UD<|agb amH<|agb amB<|agb amv<|agb T2<|agb amf<|agb amu K_
section
variable{O:VH}{k off:Nat}{cs:Η}
def yU{x:Int}(y:Int)(hk:O.hp k=φ (.cells cs))(hc:cs[off]?=φ (.v (Ι Κ x))):VF Ε 77 [.p k off,.v (Ι Κ y)] O (aH λm O'=>m= .v (Ι Κ (IntKind.i64.wrap (x+y)))/\O'=O.set k (.cells (cs.set off (.v (Ι Κ (IntKind.i64.wrap (x+y))))))):=by
 refine Υ 10 [.tmp 4] func77 ?_;refine ae dX ?_;refine ah.ext (Rh y hk hc) rfl ?_;rintro _ O2 ⟨rfl,rfl⟩;exact ff dX
def IC{x:Int}(hk:O.hp k=φ (.cells cs))(hc:cs[off]?=φ (.v (.int .u32 x))):VF Ε 88 [.p k off] O (aH λm O'=>m=mb (x != 0)/\O'=O):=by
 refine Υ 8 [.tmp 2] func88 ?_;refine ae dX ?_;refine ah.ext (Vf hk hc) rfl ?_;rintro _ O2 ⟨rfl,rfl⟩;exact ff dX
def akY(b:Bool)(O:VH):VF Ε 126 [mb b] O (aH λm O'=>m= .v (.int .u32 (if b then 1 else 0))/\O'=O):=by
 refine Υ 4 [.tmp 2] func126 ?_;cases b;exact ff dX;exact ff dX
def aaI{x:Int}(b:Bool)(hk:O.hp k=φ (.cells cs))(hc:cs[off]?=φ (.v (.int .u32 x))):iO Ε 102 [.p k off,mb b] Β O (λO'=>O'=O.set k (.cells (cs.set off (.v (.int .u32 (if b then 1 else 0)))))):=by
 refine iO.JR aa (n:=⟨10,0⟩) func102 rfl rfl (ap6 rfl) rfl ?_;simp only[cZ,alT,Nat.reduceAdd];refine VC.pF [5] ?_;refine ρ 0 dX ?_;refine ρ 1 dX ?_;refine ρ 2 dX ?_;refine ρ 3 dX ?_;refine ab.call (i:=4) (akY b O) ?_;rintro _ O2 ⟨rfl,eO⟩;simp only[ak];rw[eO];clear eO O2;refine⟨VH.Ge.refl _,ab.fin (by kernel_rfl) (bA.st (i:=5) rfl (by kernel_rfl) rfl rfl (iF.ext rfl rfl rfl rfl (Rj _ hk hc)) ?_)⟩;rintro m O2 ⟨rfl,rfl⟩;refine bA.done (by kernel_rfl) ?_;refine ae dX ?_;trivial
def adO(hk:O.hp k=φ (.cells cs))(hc:cs[off]?=φ (.v (.int .i32 0))):VF Ε 123 [.p k off] O (aH λm O'=>O'=O.set k (.cells (cs.set off (.v (.int .i32 1))))):=by
 have hl:off<Ζ cs:=(YI.1 hc).1;refine ω 13 [] func123 ?_;refine κ dX ?_;refine ah.ext (yT _) rfl ?_;rintro _ O2 ⟨rfl,rfl⟩;refine ae dX ?_;refine κ dX ?_;refine ah.ext (aaH (y:=1) hk hc) rfl ?_;rintro _ O2 ⟨rfl,eO⟩;have bY:O2.hp k=φ (.cells (cs.set off (.v (.int .i32 1)))):=by rw[eO];exact υ _ _ _
 have jm:(cs.set off (.v (.int .i32 1)))[off]?=φ (.v (.int .i32 1)):=by rw[List.getElem?_set_self hl]
 refine ae dX ?_;refine ah.ext (Bg _) rfl ?_;rintro _ O3 ⟨rfl,J5⟩;rw[J5];clear J5 O3;refine ae dX ?_;refine VL.ai5 aa (.inl rfl) (el:=102) (by rw[ade];rfl) (by rw[K_];rfl) ada.1.1 (by decide) bY jm rfl rfl rfl ?_;refine ae dX ?_;refine ah.ext (IB _ _ _) rfl ?_;rintro _ O4 ⟨rfl,r_⟩;rw[r_];clear r_ O4;refine ae dX ?_;exact eO
def ahv(hk:O.hp k=φ (.cells cs))(hc:cs[off]?=φ (.v (.int .i32 0))):VF Ε 100 [.p k off] O (aH λm O'=>O'=O.set k (.cells (cs.set off (.v (.int .i32 1))))):=by
 refine Υ 6 [] func100 ?_;refine ae dX ?_;refine τ (adO hk hc) ?_;rintro _ O2 e2;refine ae dX ?_;exact e2
def Vg(hk:O.hp k=φ (.cells cs))(hc:cs[off]?=φ (.v (.int .i32 1))):VF Ε 124 [.p k off] O (aH λm O'=>O'=O.set k (.cells (cs.set off (.v (.int .i32 0))))):=by
 have hl:off<Ζ cs:=(YI.1 hc).1;refine ω 21 [] func124 ?_;refine θ (aE dX hk hc ?_);refine VL.ai5 aa (.inl rfl) (el:=102) (by rw[ade];rfl) (by rw[K_];rfl) ada.1.1 (by decide) hk hc rfl rfl rfl ?_;refine ae dX ?_;refine ah.ext (Gn _ _ _) rfl ?_;rintro _ O2 ⟨rfl,s9⟩;rw[s9];clear s9 O2;refine ae dX ?_;refine ah.ext (yT _) rfl ?_;rintro _ O2 ⟨rfl,s9⟩;rw[s9];clear s9 O2;refine ae dX ?_;refine κ dX ?_;refine ah.ext (Ri (-1) hk hc) rfl ?_;rintro _ O2 ⟨rfl,eO⟩;refine ao dX (show IntKind.i32.wrap (1+ -1)=0 from rfl) ?_;refine κ dX ?_;refine ν dX ?_;refine ah.ext (Bg _) rfl ?_;rintro _ O3 ⟨rfl,J5⟩;rw[J5];clear J5 O3;refine ae dX ?_;exact eO
def aaJ(hk:O.hp k=φ (.cells cs))(hc:cs[off]?=φ (.v (.int .i32 1))):iO Ε 101 [.p k off] Β O (λO'=>O'=O.set k (.cells (cs.set off (.v (.int .i32 0))))):=by
 refine iO.JR aa (n:=⟨6,0⟩) func101 rfl rfl (ap6 rfl) rfl ?_;simp only[cZ,alT,Nat.reduceAdd];refine ν dX ?_;refine τ (Vg hk hc) ?_;rintro _ O2 e2;refine ae dX ?_;exact e2
def aaK{g:FuncId}{xs:Η}(hk:O.hp k=φ (.cells cs))(h0:cs[off]?=φ (.v (.int .u32 0)))(h1:cs[off+1]?=φ (.v (.int .i32 0)))(hg:dA Ε g=Α)
  (hC:VF Ε g xs (O.set k (.cells (cs.set (off+1) (.v (.int .i32 1))))) (aH λ_ O'=> Φ O'))
  (hΦ :∀O', Φ O'->∃cs',O'.hp k=φ (.cells cs')/\cs'[off]?=φ (.v (.int .u32 0))/\cs'[off+1]?=φ (.v (.int .i32 1))):
  VF Ε 89 [.p k off,.func (.func g) [] xs] O (aH λ_ O'=>∃O1 cs', Φ O1/\O1.hp k=φ (.cells cs')/\O'=O1.set k (.cells ((cs'.set off (.v (.int .u32 1))).set (off+1) (.v (.int .i32 0))))):=by
 refine VF.defs (K:=λO'=>∃O1 cs', Φ O1/\O1.hp k=φ (.cells cs')/\O'=O1.set k (.cells ((cs'.set off (.v (.int .u32 1))).set (off+1) (.v (.int .i32 0))))) func89 rfl rfl (ap6 rfl) ?_ (λO' h=>h);show RC _ _ ⟨21,0⟩ _ _ _ _ _;simp only[cZ,alT,Nat.reduceAdd];refine RC.ag λD=>?_
 refine ν dX ?_;refine τ (ahv hk h1) ?_;rintro _ O2 e2;have bY:O2.hp k=φ (.cells (cs.set (off+1) (.v (.int .i32 1)))):=by rw[e2];exact υ _ _ _
 refine ae dX ?_;refine RC.region [0,1,2,3] rfl ?_;refine RO.o1 ?_;refine ae dX ?_;refine RO.o1 ?_;refine ae dX ?_;refine RO.o1 ?_;refine ae dX ?_;refine RO.defer rfl rfl ?_;refine RC.ag λD=>?_
 have h02:(cs.set (off+1) (.v (.int .i32 1)))[off]?=φ (.v (.int .u32 0)):=by rw[List.getElem?_set_ne (by omega)];exact h0
 refine ν dX ?_;refine Ω (IC bY h02) ?_;refine ae dX ?_;refine RC.cond (t:=Α) rfl ?_;rw[if_pos rfl];refine RC.region [0,1,2,3] rfl ?_;refine RO.o1 ?_;refine ae dX ?_;refine RO.o1 ?_;refine ae dX ?_;refine RO.o1 ?_;refine ae dX ?_;refine RO.defer rfl rfl ?_;refine RC.fin rfl λD=>?_
 rw[e2];refine ν dX ?_;refine τ hC ?_ (hb:=hg);rintro m O3 Gi;obtain⟨cs',en,h3,h4⟩:=hΦ O3 Gi;have p5:off<Ζ cs':=(YI.1 h3).1;refine ae dX ?_;refine⟨Enters.u9,(aaI Α en h3).mono λO4 e4=>?_⟩;have nD:O4.hp k=φ (.cells (cs'.set off (.v (.int .u32 1)))):=by rw[e4];exact υ _ _ _
 have h44:(cs'.set off (.v (.int .u32 1)))[off+1]?=φ (.v (.int .i32 1)):=by rw[List.getElem?_set_ne (by omega)];exact h4
 refine⟨Enters.u9,(aaJ nD h44).mono λO5 e5=>?_⟩;refine⟨O3,cs',Gi,en,?_⟩;rw[e5,e4];exact aqR _ _ _ _
def adP{g:FuncId}{xs:Η}(hk:O.hp k=φ (.cells cs))(h0:cs[off]?=φ (.v (.int .u32 0)))(h1:cs[off+1]?=φ (.v (.int .i32 0)))(hg:dA Ε g=Α)
  (hC:VF Ε g xs (O.set k (.cells (cs.set (off+1) (.v (.int .i32 1))))) (aH λ_ O'=> Φ O'))
  (hΦ :∀O', Φ O'->∃cs',O'.hp k=φ (.cells cs')/\cs'[off]?=φ (.v (.int .u32 0))/\cs'[off+1]?=φ (.v (.int .i32 1))):
  VF Ε 75 [.p k off,.func (.func g) [] xs] O (aH λ_ O'=>∃O1 cs', Φ O1/\O1.hp k=φ (.cells cs')/\O'=O1.set k (.cells ((cs'.set off (.v (.int .u32 1))).set (off+1) (.v (.int .i32 0))))):=by
 refine ω 12 [] func75 ?_;refine κ dX ?_;refine Ω (IC hk h0) ?_;refine ae dX ?_;refine ν dX ?_;refine τ (aaK hk h0 h1 hg hC hΦ) ?_;rintro m O3 h3;refine ae dX ?_;exact h3
def adQ(g:FuncId)(xs:Η){x:Int}(hx:x≠0)(hk:O.hp k=φ (.cells cs))(h0:cs[off]?=φ (.v (.int .u32 x))):VF Ε 75 [.p k off,.func (.func g) [] xs] O (aH λ_ O'=>O'=O):=by
 refine ω 12 [] func75 ?_;refine κ dX ?_;refine Ω (IC hk h0) ?_;have hx':(x != 0)=Α:=by rw[bne_iff_ne];exact hx
 refine ao dX hx' ?_;refine ο dX hx' ?_;trivial
end
structure Rec where
 b:Nat
 off:Nat
 name:Bs
 attrs:List (Bs×Bs)
 kids:List Nd
 q:MV
def kz(r:Rec):Η:=[.s r.name,.l (Ζ r.attrs) (r.attrs.flatMap bH) .au,r.q,.s []]
def vt(r:Rec):(kz r).length=4:=rfl
def rL(O:VH)(B k:Nat):List Rec->Prop
 | []=>True
 | [r]=>r.b=k/\r.off=0
 | r::p::rest=>(∃c,p.q= .aS r.b 0 (Ζ p.kids+1) c/\(Ζ p.kids)+1<=c/\Row O 93 4 B r.b c (aG p.kids++kz r))/\r.off=(Ζ p.kids)*4/\p.b<r.b/\rL O B k (p::rest)
def anj(O:VH)(B:Nat):List Rec->Prop
 | []=>True
 | r::_=>GR O 93 4 B r.q (Ζ r.kids) (aG r.kids)/\∀i,gid r.q=φ i->r.b<i
def rM:List Rec->Η->Η
 | [],z=>z
 | [r],_=>kz r
 | _::r::R,z=>rM (r::R) z
def jf(R:List Rec):Η:=(R.map λr=>MV.p r.b r.off).reverse
def ue(r:Rec)(R:List Rec):(jf (r::R))=jf R++[.p r.b r.off]:=by unfold jf;simp
def mV(R:List Rec):(jf R).length=Ζ R:=by unfold jf;simp
def fU:∀(R:List Rec)(z:Η),Ζ z=4->(rM R z).length=4
 | [],z,h=>h
 | [r],_,_=>rfl
 | _::r::R,z,h=>fU (r::R) z h
structure BC(O:VH)(B k:Nat)(R:List Rec)(z tl:Η):Prop where
 lt:k<B
 le:B<=O.N
 cells:O.hp k=φ (.cells (rM R z++tl))
 zl:Ζ z=4
 chain:rL O B k R
 top:anj O B R
def Kp(O O':VH)(S:Τ):Prop:=O.N<=O'.N/\∀i,i<O.N->i ∉ S->O'.hp i=O.hp i
def EI(O:VH)(S:Τ):Prop:=∀x∈S,∀j t n,O.hp x≠φ (.shape j t n)
def EI.ne(h:EI O S){j t:Nat}(hj:O.hp j=φ (.shape i t n)):j ∉ S:=λhm=>h j hm _ _ _ hj
def Row.kp{el:TypeId}{k:Nat}(h:Row O el sz B k c L)(u:Kp O O' S)(hS:EI O S)(hk:k ∉ S):Row O' el sz B k c L:=by
 obtain⟨⟨sp,h1,h2⟩,⟨j,h3,h4,h5⟩,h6,h7⟩:=h;exact⟨⟨sp,(u.2 k h7 hk).trans h1,h2⟩,⟨j,h3,Th h4 u.1,(u.2 j h4 (hS.ne h5)).trans h5⟩,h6,Th h7 u.1⟩
def Row.own{el:TypeId}{k:Nat}(h:Row O el sz B k c L)(u:Kp O O' S)(hS:EI O S)(hc:O'.hp k=φ (.cells (L'++sp)))(hl:(L'++sp).length=c*sz):Row O' el sz B k c L':=by
 obtain⟨_,⟨j,h3,h4,h5⟩,h6,h7⟩:=h;exact⟨⟨sp,hc,hl⟩,⟨j,h3,Th h4 u.1,(u.2 j h4 (hS.ne h5)).trans h5⟩,h6,Th h7 u.1⟩
def rL.lt{O:VH}{B k:Nat}:∀{R:List Rec} {r:Rec},rL O B k (r::R)->∀x∈R,x.b<r.b
 | [],_,_,x,hx=>by cases hx
 | p::R,r,h,x,hx=>by
   obtain⟨_,_,h3,h4⟩:=h;rcases aga.1 hx with rfl | hx;exact h3;exact Nat.lt_trans (h4.lt x hx) h3
def rL.kp{O O':VH}{B k:Nat}{S:Τ}(u:Kp O O' S)(hS:EI O S):∀{R:List Rec},rL O B k R->(∀r∈R,r.b=k\/(∃cs,O.hp r.b=φ (.cells cs))->r.b=k\/r.b ∉ S)->k<B->rL O' B k R
 | [],_,_,_=>trivial
 | [r],h,_,_=>h
 | r::p::rest,⟨⟨c,h1,h2,h3⟩,h4,h5,h6⟩,hn,hk=>⟨⟨c,h1,h2,h3.kp u hS (((hn r (by simp)) (.inr (by obtain⟨sp,e,_⟩:=h3.cells;exact⟨_,e⟩))).resolve_left λe=>by have:=h3.lo;omega)⟩,h4,h5,h6.kp u hS (λx hx=>hn x (by simp[hx])) hk⟩
def GR.lo{el:TypeId}(h:GR O el sz B p n L)(e:gid p=φ i):B<=i/\i<O.N:=by
 rcases h with⟨_,_,hp | hp⟩ | ⟨k2,c,hp,_,_,kx⟩;rw[hp]at e;cases e;rw[hp]at e;cases e;rw[hp]at e;injection e with e;subst e;exact⟨kx.lo,kx.hi⟩
def GR.kp{el:TypeId}(h:GR O el sz B p n L)(u:Kp O O' S)(hS:EI O S)(hk:∀i,gid p=φ i->i ∉ S):GR O' el sz B p n L:=by
 rcases h with h | ⟨k2,c,hp,h1,h2,kx⟩;exact .inl h;exact .inr ⟨k2,c,hp,h1,h2,kx.kp u hS (hk k2 (by rw[hp];rfl))⟩
def GR.Rk{el:TypeId}(h:GR O el sz B p n L)(e:gid p=φ i):∃cs,O.hp i=φ (.cells cs):=by
 rcases h with⟨_,_,hp | hp⟩ | ⟨k2,c,hp,_,_,kx⟩;rw[hp]at e;cases e;rw[hp]at e;cases e;rw[hp]at e;injection e with e;subst e;obtain⟨sp,h1,_⟩:=kx.cells;exact⟨_,h1⟩
def BC.loc{k:Nat}{r:Rec}{R:List Rec}(h:BC O B k (r::R) z tl):∃pre post,O.hp r.b=φ (.cells (pre++kz r++post))/\(Ζ pre)=r.off/\r.b<O.N/\(R=[]->r.b=k/\pre=[]/\post=tl)/\∀p rest,R=p::rest->pre=aG p.kids/\B<=r.b:=by
 cases R with
 | nil=>
   obtain⟨h1,h2⟩:=h.chain;refine⟨[],tl,?_,h2.symm,?_,λ_=>⟨h1,rfl,rfl⟩,λp rest e=>by cases e⟩;rw[h1];exact h.cells;rw[h1];exact Th h.lt h.le
 | cons p rest=>
   obtain⟨⟨c,_,_,kx⟩,ho,_,_⟩:=h.chain;obtain⟨sp,h1,h2⟩:=kx.cells;exact⟨aG p.kids,sp,h1,by rw[dV,ho],kx.hi,(λe=>by cases e),λp' ao1 e=>by injection e with e1 e2;subst e1;exact⟨rfl,kx.lo⟩⟩
def BC.part{k:Nat}{r r':Rec}{R:List Rec}(h:BC O B k (r::R) z tl)(hc:O.hp r.b=φ (.cells (pre++kz r++post)))(hl:Ζ pre=r.off)(hR:R=[]->post=tl)(u:Kp O O' S)(hb:r'.b=r.b)(ho:r'.off=r.off)
  (hn:∀x∈S,x=r.b\/gid r.q=φ x) (ry:O'.hp r.b=φ (.cells (pre++kz r'++post))):O'.hp k=φ (.cells (rM (r'::R) z++tl))/\rL O' B k (r'::R):=by
 have tQ:=h.chain;have dm:=tQ.lt;have jj:=h.top
 have hS:EI O S:=λx hx j t n e=>by
  rcases hn x hx with e2 | e2;subst e2;rw[hc]at e;cases e;obtain⟨cs,e3⟩:=jj.1.Rk e2;rw[e3]at e;cases e
 cases R with
 | nil=>
   obtain⟨h1,h2⟩:=tQ;have hp:pre=[]:=akd (by rw[hl,h2]);subst hp;refine⟨?_,⟨by rw[hb,h1],by rw[ho,h2]⟩⟩;rw[<-h1,ry,hR rfl];rfl
 | cons p rest=>
   obtain⟨⟨c,e1,e2,kx⟩,e3,e4,e5⟩:=tQ;have ank:=kx.lo
   have hkS:k ∉ S:=λhm=>by
    have:=h.lt;rcases hn k hm with e | e;omega;have:=(jj.1.lo e).1;omega
   obtain⟨sp,qE,wh⟩:=kx.cells;rw[hc]at qE;injection qE with qE;injection qE with qE;((((have dD:Ζ pre=(aG p.kids).length:=by rw[hl,e3,dV]);rw[af_,af_]at qE;obtain⟨nC,AJ⟩:=ap7 qE dD;obtain⟨_,rK⟩:=ap7 AJ rfl;subst nC;subst rK);refine⟨?_,⟨⟨c,by rw[e1,hb],e2,?_⟩,by rw[ho,e3],by rw[hb];exact e4,e5.kp u hS (λx hx _=>?_) h.lt⟩⟩);rw[u.2 k (Th h.lt h.le) hkS];exact h.cells);rw[hb];refine kx.own u hS ry ?_;rw[Ti,Ti,vt]at wh ⊢;exact wh
   ·refine .inr λhm=>?_
    have h6:=dm x hx;rcases hn x.b hm with e | e;omega;have:=jj.2 _ e;omega
def BC.NC{k:Nat}{r r':Rec}{R:List Rec}(h:BC O B k (r::R) z tl)(hc:O.hp r.b=φ (.cells (pre++kz r++post)))(hl:Ζ pre=r.off)(hR:R=[]->post=tl)(u:Kp O O' S)(hb:r'.b=r.b)(ho:r'.off=r.off)
  (hn:∀x∈S,x=r.b\/gid r.q=φ x) (ry:O'.hp r.b=φ (.cells (pre++kz r'++post))) (ht:GR O' 93 4 B r'.q (Ζ r'.kids) (aG r'.kids)) (Tu:∀i,gid r'.q=φ i->r.b<i):BC O' B k (r'::R) z tl:=by
 obtain⟨h1,h2⟩:=h.part hc hl hR u hb ho hn ry;exact⟨h.lt,akc h.le u.1,h1,h.zl,h2,⟨ht,λi e=>by rw[hb];exact Tu i e⟩⟩
def BC.push{k k':Nat}{r:Rec}{R:List Rec}{nm:Bs}{iq:List (Bs×Bs)}(h:BC O B k (r::R) z tl)(hc:O.hp r.b=φ (.cells (pre++kz r++post)))(hl:Ζ pre=r.off)(hR:R=[]->post=tl)(u:Kp O O' S)
  (hn:∀x∈S,x=r.b\/gid r.q=φ x) (ry:O'.hp r.b=φ (.cells (pre++kz {r with q:=.aS k' 0 (Ζ r.kids+1) c}++post))) (hk:gid r.q=φ k'\/O.N<=k') (hlen:Ζ r.kids+1<=c)
  (kx:Row O' 93 4 B k' c (aG r.kids++kz ⟨k',(Ζ r.kids)*4,nm,iq,[],.l 0 [] .nil⟩)):BC O' B k (⟨k',(Ζ r.kids)*4,nm,iq,[],.l 0 [] .nil⟩::{r with q:=.aS k' 0 (Ζ r.kids+1) c}::R) z tl:=by
 obtain⟨h1,h2⟩:=h.part (r':={r with q:=.aS k' 0 (Ζ r.kids+1) c}) hc hl hR u rfl rfl hn ry
 have hrb:r.b<k':=by
  rcases hk with e | e;exact h.top.2 _ e;obtain⟨_,_,_,_,e2,_⟩:=h.loc;omega
 exact⟨h.lt,akc h.le u.1,h1,h.zl,⟨⟨c,rfl,hlen,kx⟩,rfl,hrb,h2⟩,⟨.inl ⟨rfl,by rw[aG],.inl rfl⟩,λi e=>by cases e⟩⟩
def BC.step{k:Nat}{R:List Rec}{z' tl':Η}(h:BC O B k R z tl)(u:Kp O O' S)(hS:∀x∈S,x=k\/O.hp x=φ .tok)(hc:O'.hp k=φ (.cells (rM R z'++tl')))(hz:Ζ z'=4):BC O' B k R z' tl':=by
 have yV:EI O S:=λx hx j t n e=>by
  rcases hS x hx with e2 | e2;subst e2;rw[h.cells]at e;cases e;rw[e2]at e;cases e
 have hn:∀{i:Nat},(∃cs,O.hp i=φ (.cells cs))->i≠k->i ∉ S:=λ{i} ⟨cs,e⟩ hne hm=>by
  rcases hS i hm with e2 | e2;exact hne e2;rw[e2]at e;cases e
 refine⟨h.lt,akc h.le u.1,hc,hz,h.chain.kp u yV (λr _ hr=>?_) h.lt,?_⟩;by_cases e:r.b=k;exact .inl e;exact .inr (hn (hr.resolve_left e) e)
 ·have ht:=h.top;cases R with
  | nil=>trivial
  | cons r R=>exact⟨ht.1.kp u yV (λi e=>hn (ht.1.Rk e) (by have:=(ht.1.lo e).1;have:=h.lt;omega)),ht.2⟩
def Kp.set{k:Nat} :Kp O (O.set k x) [k]:=⟨alO _,λi _ hn=>π _ _ (by simpa using hn)⟩
def Kp.refl :Kp O O S:=⟨alO _,λ_ _ _=>rfl⟩
def Kp.trans(h:Kp O O1 S)(k:Kp O1 O2 T):Kp O O2 (S++T):=⟨akc h.1 k.1,λi hi hn=>by
 rw[alQ,not_or]at hn;rw[k.2 i (Th hi h.1) hn.2,h.2 i hi hn.1]⟩
def Kp.ge(h:O.Ge O1) :Kp O O1 S:=⟨h.N,λi hi _=>h.hp i hi⟩
def Kp.bS{q:ϑ}(h:bM O q O1):Kp O O1 q.toList:=⟨h.N,λi hi hn=>h.hp i hi λe=>hn (by rw[e];simp)⟩
def Kp.k(h:cy tk O O1):Kp O O1 (Tok.id tk).toList:=⟨h.N,λi hi hn=>h.hp i hi λe=>hn (by rw[e];simp)⟩
def Kp.sub(h:Kp O O1 S)(hs:∀x∈S,x∈T\/O.N<=x):Kp O O1 T:=⟨h.1,λi hi hn=>h.2 i hi λhm=>by
 rcases hs i hm with e | e;exact hn e;omega⟩
def BC.ge{k:Nat}{R:List Rec}(h:BC O B k R z tl)(g:O.Ge O'):BC O' B k R z tl:=
 h.step (S:=[]) (Kp.ge g) (λx hx=>by cases hx) ((g.hp _ (Th h.lt h.le)).trans h.cells) h.zl
def sd(R:List Rec)(tk:Tok)(bP:Nat)(dn tx:Bool):Η:=[.l (Ζ R) (jf R) tk,mi bP,mb dn,mb tx]
structure BS(O:VH)(B k:Nat)(R:List Rec)(tk:Tok)(bP:Nat)(dn tx:Bool)(z:Η):Prop where
 c:BC O B k R z (sd R tk bP dn tx)
 a:App O B 1 tk
def BS.ge{k:Nat}{R:List Rec}(h:BS O B k R tk bP dn tx z)(g:O.Ge O'):BS O' B k R tk bP dn tx z:=⟨h.c.ge g,h.a.ge g⟩
def eG(k:Nat)(R:List Rec)(tk:Tok):Τ:=k::(R.map (·.b)++(R.head?.bind λr=>gid r.q).toList++(Tok.id tk).toList)
def p6{k:Nat}{R:List Rec} :k∈eG k R tk:=by simp[eG]
def se{k:Nat}{r:Rec}{R:List Rec} :r.b∈eG k (r::R) tk:=by simp[eG]
def p7{k x:Nat}{r:Rec}{R:List Rec}(h:gid r.q=φ x):x∈eG k (r::R) tk:=by simp[eG,h]
def GO{k x:Nat}{R:List Rec}(h:Tok.id tk=φ x):x∈eG k R tk:=by simp[eG,h]
def DF{k:Nat}{r:Rec}{R:List Rec}(h:r∈R):r.b∈eG k R tk:=by
 have:=List.mem_map_of_mem (f:=λr:Rec=>r.b) h;simp only[eG,aga,alQ];exact .inr (.inl (.inl this))
def Kp.more{U:Τ}(h:Kp O O1 U)(k:Kp O1 O2 S)(hs:∀x∈S,x∈U\/O.N<=x):Kp O O2 U:=⟨akc h.1 k.1,λi hi hn=>by
 rw[k.2 i (Th hi h.1) (λhm=>(hs i hm).elim hn λe=>by omega),h.2 i hi hn]⟩
def aL:=agb eY<|agb amS<|agb amR<|agb Qt<|agb Qu yu
def uf{l:Η}(h:Ζ l=4):∃a b c d,l=[a,b,c,d]:=by
 match l,h with
 | [a,b,c,d],_=>exact⟨_,_,_,_,rfl⟩
def App.Bh{k:Nat}(h:App O B sz tk)(hk:k<B):App (O.set k x) B sz tk:=by
 cases tk with
 | own t j=>exact⟨h.1,(π _ _ (by have:=h.2.2.1;omega)).trans h.2.1,h.2.2.1,h.2.2.2⟩
 | nil=>trivial
 | full=>trivial
 | au=>exact h.elim
def BS.flag{k cnt':Nat}{R:List Rec}{dn' tx':Bool}(h:BS O B k R tk bP dn tx z):BS (O.set k (.cells (rM R z++sd R tk cnt' dn' tx'))) B k R tk cnt' dn' tx' z:=
 ⟨h.c.step Kp.set (λx hx=>.inl (by simpa using hx)) (υ _ _ _) h.c.zl,h.a.Bh h.c.lt⟩
def adR{k:Nat}{R:List Rec}(h:BS O B k R tk bP dn tx z)(hc:bP<=1000000):
  VF Ε 300 [.p k 0] O (aH λm O'=>m=mb (decide (bP+1<=4096))/\BS O' B k R tk (bP+1) dn tx z/\Kp O O' [k]):=by
 have hk:=h.c.cells;obtain⟨a0,a1,a2,a3,hr⟩:=uf (fU R z h.c.zl);have q_:=h.flag (cnt':=bP+1) (dn':=dn) (tx':=tx);unfold sd at hk q_;rw[hr]at hk q_;simp only[aq,bB,akf,aka]at hk q_;refine Υ 15 [.tmp 2] func300 ?_;by_cases h1:bP+1<=4096;rw[decide_eq_true h1];refine ao aL hk ?_;exact⟨q_,Kp.set⟩;rw[decide_eq_false h1];refine ao aL hk ?_;exact⟨q_,Kp.set⟩
def ID{k:Nat}{r:Rec}{R:List Rec}(h:BS O B k (r::R) tk bP dn tx z)(hl:Ζ R<=1000:=by omega):
  VF Ε 281 [.p k 0] O (aH λm O'=>m= .p r.b r.off/\O'=O):=by
 have hk:=h.c.cells;obtain⟨a0,a1,a2,a3,hr⟩:=uf (fU (r::R) z h.c.zl);unfold sd at hk;rw[hr]at hk
 have bG:(jf (r::R))[Ζ R]?=φ (.p r.b r.off):=by
  rw[ue,alP (by rw[mV];exact alO _),mV,Nat.sub_self];rfl
 have hCl:(jf (r::R)).length=Ζ R+1:=by rw[mV];rfl
 generalize jf (r::R)=C at*;simp only[aq,bB,List.cons_append,List.nil_append,List.length_cons]at hk;have qX:(((Ζ R+1:Nat):Int) - 1)=(Ζ R:Int):=by omega
 refine ω 15 [.tmp 2] func281 ?_;refine κ aL ?_;refine Γ ?_;refine WC.reads ?_;refine iV aL hk qX bG @oB ?_;refine ν aL ?_;trivial
def uH(R:List Rec):List (Bs×List (Bs×Bs)×List Nd):=R.map λr=>(r.name,r.attrs,r.kids)
def ug(n bP:Nat)(dn:Bool):Option Int:=if dn then φ 16 else if 64<=n then φ 2 else if 4096<bP+1 then φ 2 else Β
def VH.set_comm{y:cx}(h:a≠b):(O.set a x).set b y=(O.set b y).set a x:=by
 have key:bS (bS O.hp a (φ x)) b (φ y)=bS (bS O.hp b (φ y)) a (φ x):=by
  (funext j);by_cases e:j=a
  ·subst e;rw[aA _ _ h,aN,aN]
  ·by_cases e2:j=b;subst e2;rw[aN,aA _ _ e,aN];rw[aA _ _ e2,aA _ _ e,aA _ _ e,aA _ _ e2]
 unfold VH.set;dsimp only;rw[key]
section
variable{G H:Gh}{n:Sz}{D:List Deferred}{e:Env}{a:Act}{P:Program}{tab:cL}{O O':VH}{w:World}{m:MV}{ops:Array Oper}{Q:VQ}
def cc.ai6{brk:Τ}{fuel:Nat}{listed:Array Bool}{l:ϕ}{o:Oper}(ho:l[i]?=φ o)(hr:Region.ready .any ⟨l⟩ listed=[i])(hb:brk.contains i=γ)(hA:JE o.op=Α)
  (hg:aQ ⟨l⟩ o e=φ Α) (hy:∀G a w,WR G O w->FR G n D e a->ez P o a w G m O') (hd:bL n o.dst=Α) (h:cc P n D ⟨l⟩ brk fuel (listed.setIfInBounds i Α) (bt o.dst m e) O' Q):cc P n D ⟨l⟩ brk (fuel+1) listed e O Q:=by
 intro G a w hw aZ;refine k6 hr (by simp) λj hj=>?_
 obtain rfl:j=i:=by simpa using hj
 obtain⟨nx,w',H,u,cT,rA,h1,h2,h3,h4⟩:=hy G a w hw aZ;have Nt:(⟨l⟩:Array Oper)[j]?=φ o:=by simpa using ho
 simp only[wpOp,Nt,bN aZ hg,if_true];refine .inl ?_;unfold Oper.wp;rw[cT];have hk:=h H (a.put o.dst u) w' h2 ((aZ.mono h1).bt hd h3)
 have abL:TH brk G w j w'/\kF P .any ⟨l⟩ (c7 G n D Q) (TH brk G w) fuel (listed.setIfInBounds j Α) (a.put o.dst u) w':=by
  have sA:=h4 hA;have hs:Sx G w w':=⟨SS.le h1 h2.ss,sA⟩;refine⟨λ_=>hs,k7 (λ_ _ _=>c7.le h1) _ _ _ _ (λk _ x hT sw=>?_) hk⟩;obtain⟨g1,g2⟩:=hT sw;exact⟨SS.le h1 g1,λk' b o_=>(g2 k' b (h1.cu o_)).trans (sA k' b o_)⟩
 rcases rA with rfl | ⟨rfl,rfl⟩<;>exact abL
end
def adS{G:Gh}{n:Sz}{e:Env}{a:Act}{w:World}{ty:TypeId}(hw:WR G O w)(hf:FR G n D e a):ez Ε (.mk d (.buildSlice 91 1 #[(0,.const (.agg #[.string ⟨⟨[]⟩⟩,.slice Β 0 0,.slice Β 0 0,.string ⟨⟨[]⟩⟩]))]) ty ps af g) a w G (.l 1 [.s [],.l 0 [] .nil,.l 0 [] .nil,.s []] .full) O:=
 ez.of (wU (t:=91) (len:=1) (m:=.l 1 [.s [],.l 0 [] .nil,.l 0 [] .nil,.s []] .full) (parts:=[(0,.agg [.s [],.l 0 [] .nil,.l 0 [] .nil,.s []])]) (ps:= #[(0,.agg #[.string ⟨⟨[]⟩⟩,.slice Β 0 0,.slice Β 0 0,.string ⟨⟨[]⟩⟩])]) aa hw (by kernel_rfl) rfl
  (aW.cons (.agg (us:=[.string ⟨⟨[]⟩⟩,.slice Β 0 0,.slice Β 0 0,.string ⟨⟨[]⟩⟩]) rfl (aW.cons .s (aW.cons .slnil (aW.cons .slnil (aW.cons .s aW.nil)))).2) aW.nil)) (by simp[execOp,Act.eval])
def ai7(L sp:Η)(x y z w a b c d:MV):((((L++[x,y,z,w]++sp).set (Ζ L) a).set (Ζ L+1) b).set (Ζ L+1+1) c).set (Ζ L+1+1+1) d=L++[a,b,c,d]++sp:=by
 induction L with
 | nil=>rfl
 | cons e L ih=>
   simp only[akf,Ca,List.set_cons_succ];rw[ih]
def App.Rl(h:App O B sz tk)(u:Kp O O' S)(hS:∀x∈S,O.hp x≠φ .tok):App O' B sz tk:=by
 cases tk with
 | own t k=>exact⟨h.1,(u.2 t h.2.2.2 (λhm=>hS t hm h.2.1)).trans h.2.1,h.2.2.1,Th h.2.2.2 u.1⟩
 | nil=>trivial
 | full=>trivial
 | au=>exact h.elim
def XI(h:GR O 93 4 B p n L):cS (bR Ε) 91 p=φ (.v (Ι Κ n)):=by
 rcases h with⟨rfl,_,rfl | rfl⟩ | ⟨k,c,rfl,_⟩;exact bC yu;exact bC yu;exact KL yu
def adT{k:Nat}{R:List Rec}(h:BS O B k R tk bP dn tx z)(hc:bP<=1000000)(kd:Int)(nm tt:Bs)(iq:List (Bs×Bs))(p1 p2 p3:Int)(Lv:Ζ iq<=100000)(gW:∀r∈R,Ζ r.kids<=1000000):
  VF Ε 279 [.p k 0,.agg [mi kd,.s nm,.l (Ζ iq) (iq.flatMap bH) .au,.s tt,mi p1,mi p2,mi p3]] O (aH λm O'=>Kp O O' (eG k R tk)/\match ug (Ζ R) bP dn with
   | some e=>m=mi e
   | none=>m=mi 0/\∃R' tk',BS O' B k R' tk' (bP+1) γ γ z/\uH R'=(nm,iq,[])::uH R/\∀x∈eG k R' tk',x∈eG k R tk\/O.N<=x):=by
 obtain⟨a0,a1,a2,a3,hr⟩:=uf (fU R z h.c.zl);have iM:=h.c.lt;have hBn:=h.c.le;simp only[aq];refine ω 87 [.tmp 4] func279 ?_;refine κ aL ?_;refine VC.bx ?_;rintro O1 ⟨aK,Gp,dd⟩;have h1:=h.ge aK;have cK:=h1.c.cells;unfold sd at cK;rw[hr]at cK;simp only[aq,bB,akf,aka]at cK;have kR:Kp O O1 (eG k R tk):=Kp.ge aK;have yW:∀x∈[k],x∈eG k R tk\/O.N<=x:=λx hx=>.inl (by rw[akb]at hx;rw[hx];exact p6)
 cases dn;rotate_left;refine ξ aL cK ?_;exact⟨kR,rfl⟩;by_cases H4:64<=Ζ R
 ·(have hE:ug (Ζ R) bP γ=φ 2:=by unfold ug;rw[if_neg (by simp),if_pos H4]);rw[hE];refine ξ aL cK ?_;exact kR
 refine ξ aL cK ?_;refine τ (adR h1 hc) ?_;rintro _ O2 ⟨rfl,h2,dB⟩;by_cases Ih:bP+1<=4096;rotate_left
 ·(have hE:ug (Ζ R) bP γ=φ 2:=by unfold ug;rw[if_neg (by simp),if_neg H4,if_pos (by omega)]);rw[hE,decide_eq_false Ih];refine ae aL ?_;exact kR.more dB yW
 have hE:ug (Ζ R) bP γ=Β:=by unfold ug;rw[if_neg (by simp),if_neg H4,if_neg (by omega)]
 rw[hE,decide_eq_true Ih];dsimp only;refine ae aL ?_;have Vh:Kp O O2 (eG k R tk):=kR.more dB yW;have uI:=(dB.2 _ (by omega) (by simp;omega)).trans Gp;have fc:=dB.1;refine ξ aL uI ?_;refine VC.al ?_;rintro O3 ⟨aJ,kD,ij⟩;have h3:=h2.ge aJ;have en:=h3.c.cells;have EJ:Kp O O3 (eG k R tk):=Vh.more (Kp.ge aJ (S:=[])) (λx hx=>by cases hx);have hR:Ζ R<64:=by omega
 cases R with
 | nil=>
   obtain rfl:z=[a0,a1,a2,a3]:=hr;unfold sd at en;simp only[rM,jf,List.map_nil,List.reverse_nil,abx,aq,bB,akf,aka]at en;refine θ (aE aL en kD ?_);refine VC.gen ?_;intro O4 r_;((((((((have nD:O4.hp k=φ (.cells [.s nm,.l (Ζ iq) (iq.flatMap bH) .au,.l 0 [] .nil,.s [],.l 0 [] tk,.v (Ι Κ (bP+1:Nat)),.v (.bool γ),.v (.bool tx)]):=by rw[r_];exact υ _ _ _);have gd:App O4 B 1 tk:=by rw[r_];exact h3.a.Bh iM);have fT:O4.N=O3.N:=by rw[r_];rfl);have akZ:Kp O O4 (eG k [] tk):=EJ.more (S:=[k]) (by rw[r_];exact Kp.set) yW;clear r_;refine WC.bW (.held [12]) [(0,.rd),(1,.rd),(2,.rd),(3,.rd),(4,.rd),(5,.rd),(6,.rd),(7,.rd),(8,.one),(9,.one),(10,.one),(11,.rd),(12,.one)] ?_;refine ao aL nD ?_;have cH:=aP (tk':=.full) (n:=0) (k:=1) (cs:=[]) (ds:=[.p k 0]) Qt Qu gd rfl rfl rfl (by decide) (by decide) (by decide) (by decide);refine VL.app cH ?_;have gO:=VH.jo gd nD;have eJ:=VH.dC O4 tk;have dW:App (O4.after tk) B 1 (.own O4.N 1):=App.after;have wI:Kp O (O4.after tk) (eG k [] tk):=akZ.more (Kp.k (cy.after gd)) (λx hx=>.inl (GO (by simpa using hx)));generalize O4.after tk=O5 at*;refine ao aL gO ?_;refine VC.gen ?_;intro O6 ED;have qg:O6.hp k=φ (.cells [.s nm,.l (Ζ iq) (iq.flatMap bH) .au,.l 0 [] .nil,.s [],.l 1 [.p k 0] (.own O4.N 1),.v (Ι Κ (bP+1:Nat)),.v (.bool γ),.v (.bool tx)]):=by rw[ED];exact υ _ _ _);have pe:App O6 B 1 (.own O4.N 1):=by rw[ED];exact dW.Bh iM);have IE:Kp O O6 (eG k [] tk):=wI.more (S:=[k]) (by rw[ED];exact Kp.set) yW;have oD:O6.N=O5.N:=by rw[ED];rfl);clear ED;refine ξ aL qg ?_;refine ν aL ?_;refine⟨IE.more Kp.set yW,[⟨k,0,nm,iq,[],.l 0 [] .nil⟩],.own O4.N 1,⟨⟨iM,by rw[aqO];omega,?_,rfl,⟨rfl,rfl⟩,⟨.inl ⟨rfl,by rw[aG],.inl rfl⟩,(λi e=>by cases e)⟩⟩,pe.Bh iM⟩,rfl,λx hx=>?_⟩);rw[υ];rfl);have hx:x∈[k,k,O4.N]:=hx;simp only[aga,agc,or_false]at hx;rcases hx with rfl | rfl | rfl;exact .inl p6;exact .inl p6;exact .inr (by omega)
 | cons r R=>
   unfold sd at en;rw[hr]at en;simp only[aq,bB,akf,aka,Ca]at en;obtain⟨pre,post,fw,dD,FX,EK,hR2⟩:=h3.c.loc;have jj:=h3.c.top;refine ξ aL en ?_;refine Ω (ID h3 (by rw[Ca]at hR;omega)) ?_;refine ae aL ?_;have hkr:=gW r (by simp)
   have Rn:(pre++kz r++post)[r.off+2]?=φ r.q:=by
    rw[af_,alP (by omega), <-dD,ake];rfl
   have fz:∀q',(pre++kz r++post).set (r.off+2) q'=pre++kz {r with q:=q'}++post:=λq'=>by
    rw[af_,ap2 _ _ (by omega), <-dD,ake,af_];rfl
   (have hlC:(pre++kz r++post).length=Ζ pre+4+Ζ post:=by simp[vt];omega);generalize hC:pre++kz r++post=C at*;refine VC.MC [7,8,9,10,11,12] (by kernel_rfl) ?_;refine cc.Ey 0 ?_;refine ae aL ?_;refine cc.Ey 1 ?_;refine ae aL ?_;refine cc.Ey 2 ?_;refine ae aL ?_;refine cc.Ey 3 ?_;refine aE aL fw Rn ?_;refine cc.Ey 4 ?_;refine ao aL kD ?_;have ew:=XI jj.1;refine cc.Ey 5 ?_;refine ao aL ew ?_;refine cc.ai6 (i:=6) rfl (by kernel_rfl) (by kernel_rfl) rfl rfl (λ_ _ _ hw hf=>adS hw hf) rfl ?_;simp only[ak];refine cc.fin (by kernel_rfl) ?_;refine bA.st (i:=7) rfl (by kernel_rfl) rfl rfl (wA aa (te:=⟨_,4,80,_⟩) (dx:=.slice 93) (q:=.l 1 [.s [],.l 0 [] .nil,.l 0 [] .nil,.s []] .full) (j:=1) (ds:=[.s [],.l 0 [] .nil,.l 0 [] .nil,.s []]) jj.1 rfl rfl (by rw[yu];rfl) Gf.1.1 (by rw[yu];rfl) trivial (by dsimp only;omega) (by simp only[maxLen];omega) (by omega) rfl rfl) ?_;rintro m O4 ⟨mS,mT,jQ,hm⟩
   obtain⟨k2,c2,rfl,bY⟩:∃k2 c2,m= .aS k2 0 (Ζ r.kids+1) c2/\(gid r.q=φ k2\/O3.N<=k2):=by
    rcases hm with⟨k2,c2,h1,h2⟩ | ⟨h1,_⟩;exact⟨k2,c2,h1,h2.imp id And.left⟩;cases h1
   obtain⟨cU,C0⟩:Row O4 93 4 B k2 c2 (aG r.kids++[.s [],.l 0 [] .nil,.l 0 [] .nil,.s []])/\(Ζ r.kids)+1<=c2:=by
    rcases mS with⟨h1,_⟩ | ⟨k3,c3,h1,h2,_,h4⟩;omega;injection h1 with h1 _ _ h3;subst h1;subst h3;exact⟨h4,h2⟩
   have adU:r.b<k2:=by
    rcases bY with e | e;exact jj.2 _ e;omega
   have anl:=mT.N;have fP:O4.hp r.b=φ (.cells C):=(mT.hp _ FX (λe=>by have:=jj.2 _ e;omega)).trans fw;obtain⟨sp,wJ,pW⟩:=cU.cells;simp only[ak];have vW:=dV r.kids
   have n8:∀a b c d:MV,((((aG r.kids++([.s [],.l 0 [] .nil,.l 0 [] .nil,.s []]:Η)++sp).set ((Ζ r.kids)*4) a).set ((Ζ r.kids)*4+1) b).set ((Ζ r.kids)*4+1+1) c).set ((Ζ r.kids)*4+1+1+1) d=aG r.kids++[a,b,c,d]++sp:=λa b c d=>by
    rw[<-vW];exact ai7 _ _ _ _ _ _ _ _ _ _
   generalize Hb:aG r.kids++[.s [],.l 0 [] .nil,.l 0 [] .nil,.s []]++sp=C2 at*;refine aqP 8 ?_;refine ae aL ?_;refine aqP 10 ?_;refine ae aL ?_;refine aqP 11 ?_;refine ae aL ?_;refine bA.two (i:=9) (j:=12) (by kernel_rfl) ?_ ?_
   ·refine aI.o1 ?_;refine aE aL wJ n8 ?_;refine bA.rY (i:=12) ?_;refine aE aL fP fz ?_;refine bA.bW [] ?_;refine WL.gen ?_;intro O5 oG;((((have eJ:O5.N=O4.N:=by rw[oG];rfl);have gD:O5.hp r.b=φ (.cells (pre++kz {r with q:=.aS k2 0 (Ζ r.kids+1) c2}++post)):=by rw[oG];exact υ _ _ _);have DG:O5.hp k2=φ (.cells (aG r.kids++kz ⟨k2,(Ζ r.kids)*4,nm,iq,[],.l 0 [] .nil⟩++sp)):=by rw[oG];exact Δ (υ _ _ _));have u4:Kp O4 O5 [k2,r.b]:=by rw[oG];exact Kp.trans (S:=[k2]) (T:=[r.b]) Kp.set Kp.set);clear oG
    have s_:EI O4 [k2,r.b]:=λx hx j t n e=>by
     simp only[aga,agc,or_false]at hx;rcases hx with rfl | rfl;rw[wJ]at e;cases e;rw[fP]at e;cases e
    have Vi:Row O5 93 4 B k2 c2 (aG r.kids++kz ⟨k2,(Ζ r.kids)*4,nm,iq,[],.l 0 [] .nil⟩):=cU.own u4 s_ DG (by rw[<-pW, <-Hb];simp[vt];omega)
    have u3:Kp O3 O5 (r.b::(gid r.q).toList):=((Kp.bS mT).trans u4).sub (λx hx=>by
     simp only[alQ,aga,agc,or_false]at hx ⊢;rcases hx with hx | hx | hx;exact .inl (.inr hx);rcases bY with e | e;rw[e];simp[hx];exact .inr (by omega);exact .inl (.inl hx))
    have qm:∀x∈r.b::(gid r.q).toList,x=r.b\/gid r.q=φ x:=λx hx=>by
     rcases aga.1 hx with e | e;exact .inl e;exact .inr (by simpa using e)
    have ND:BC O5 B k _ z (sd (r::R) tk (bP+1) γ tx):=h3.c.push (by rw[hC];exact fw) dD (λe=>(EK e).2.2) u3 qm gD bY C0 Vi
    have dW:App O5 B 1 tk:=by
     refine h3.a.Rl u3 λx hx e=>?_
     rcases qm x hx with e2 | e2;subst e2;rw[fw]at e;cases e;obtain⟨cs,e3⟩:=jj.1.Rk e2;rw[e3]at e;cases e
    have wI:Kp O O5 (eG k (r::R) tk):=EJ.more u3 (λx hx=>by
     rcases qm x hx with e | e;rw[e];exact .inl se;exact .inl (p7 e))
    obtain⟨b0,b1,b2,b3,lB⟩:=uf (fU (⟨k2,(Ζ r.kids)*4,nm,iq,[],.l 0 [] .nil⟩::{r with q:=.aS k2 0 (Ζ r.kids+1) c2}::R) z h.c.zl);have gO:=ND.cells;unfold sd at gO;rw[lB]at gO;have hP:=mV (r::R);generalize hPG:jf (r::R)=PT at*;simp only[aq,bB,akf,aka,Ca]at gO hP
    have adV:(pre++kz {r with q:=.aS k2 0 (Ζ r.kids+1) c2}++post)[r.off+2]?=φ (.aS k2 0 (Ζ r.kids+1) c2):=by
     rw[af_,alP (by omega), <-dD,ake];rfl
    generalize pre++kz {r with q:=.aS k2 0 (Ζ r.kids+1) c2}++post=C5 at*;(have qX:(((Ζ r.kids+1:Nat):Int) - 1)=(Ζ r.kids:Int):=by omega);refine ae aL ?_;refine WC.bW (.held [20]) [(0,.rd),(1,.rd),(2,.rd),(3,.rd),(4,.rd),(5,.rd),(6,.rd),(7,.rd),(8,.rd),(9,.rd),(10,.rd),(11,.rd),(12,.rd),(13,.rd),(14,.rd),(15,.rd),(16,.one),(17,.one),(18,.one),(19,.rd),(20,.one)] ?_;refine wc aL gO gD adV qX @oB ?_;have cH:=aP (tk':=.full) (n:=Ζ R+1) (k:=1) (cs:=PT) (ds:=[.p k2 ((Ζ r.kids)*4)]) Qt Qu dW (by rw[hP,aqf]) rfl rfl (by decide) (by decide) (by simp only[Ca]at hR;omega) (by simp only[Ca,maxLen]at hR ⊢;omega);refine VL.app cH ?_;have qg:=VH.jo dW gO;have oD:=VH.dC O5 tk;have pe:App (O5.after tk) B 1 (.own O5.N 1):=App.after;have u6:Kp O5 (O5.after tk) (Tok.id tk).toList:=Kp.k (cy.after dW)
    have di:∀x∈(Tok.id tk).toList,O5.hp x=φ .tok/\B<=x:=λx hx=>by
     have e:Tok.id tk=φ x:=by simpa using hx
     cases tk with
     | own s j=>injection e with e;subst e;exact⟨dW.2.1,dW.2.2.1⟩
     | _=>cases e
    have IE:Kp O (O5.after tk) (eG k (r::R) tk):=wI.more u6 (λx hx=>.inl (GO (by simpa using hx)));have adW:BC (O5.after tk) B k _ z _:=ND.step (tl':=[.l (Ζ R+1) PT tk,mi (bP+1:Nat),mb γ,mb tx]) u6 (λx hx=>.inr (di x hx).1) (by rw[lB];exact qg) h.c.zl;generalize O5.after tk=O6 at*;refine ao @aL @qg ?_;refine VC.gen ?_;intro O7 sZ;(((((have xq:O7.hp k=φ (.cells [b0,b1,b2,b3,.l (Ζ R+1+1) (PT++[.p k2 ((Ζ r.kids)*4)]) (.own O5.N 1),.v (Ι Κ (bP+1:Nat)),.v (.bool γ),.v (.bool tx)]):=by rw[sZ];exact υ _ _ _);have wK:App O7 B 1 (.own O5.N 1):=by rw[sZ];exact pe.Bh iM);have Vj:Kp O O7 (eG k (r::R) tk):=IE.more (S:=[k]) (by rw[sZ];exact Kp.set) yW;have xp:O7.N=O6.N:=by rw[sZ];rfl);have adX:BC O7 B k _ z [.l (Ζ R+1+1) (PT++[.p k2 ((Ζ r.kids)*4)]) (.own O5.N 1),.v (Ι Κ (bP+1:Nat)),.v (.bool γ),.v (.bool tx)]:=adW.step (S:=[k]) (by rw[sZ];exact Kp.set) (λx hx=>.inl (by simpa using hx)) (by rw[lB];exact xq) h.c.zl;clear sZ;refine ξ aL xq ?_;refine ν aL ?_;refine⟨Vj.more Kp.set yW,⟨k2,(Ζ r.kids)*4,nm,iq,[],.l 0 [] .nil⟩::{r with q:=.aS k2 0 (Ζ r.kids+1) c2}::R,.own O5.N 1,⟨adX.step (S:=[k]) Kp.set (λx hx=>.inl (by simpa using hx)) ?_ h.c.zl,wK.Bh iM⟩,rfl,λx hx=>?_⟩;rotate_left);have hx:x∈k::((k2::r.b::R.map (·.b))++[]++[O5.N]):=hx;simp only[aga,alQ,alU,agc,or_false,List.mem_map]at hx;rcases hx with rfl | (rfl | rfl | ⟨g,hg,rfl⟩) | rfl;exact .inl p6;rcases bY with e | e;exact .inl (p7 e);exact .inr (by omega);exact .inl se;exact .inl (DF (List.mem_cons_of_mem _ hg));exact .inr (by omega));rw[υ,lB, <-hPG];have e:jf (⟨k2,(Ζ r.kids)*4,nm,iq,[],.l 0 [] .nil⟩::{r with q:=.aS k2 0 (Ζ r.kids+1) c2}::R)=jf (r::R)++[.p k2 ((Ζ r.kids)*4)]:=ue _ _;unfold sd;rw[e];rfl
   ·refine aI.o1 ?_;refine aE aL fP fz ?_;refine bA.rY (i:=9) ?_;refine aE aL wJ n8 ?_;refine bA.bW [] ?_;refine WL.gen ?_;intro O5 oG;rw[VH.set_comm (by omega)]at oG;((((have eJ:O5.N=O4.N:=by rw[oG];rfl);have gD:O5.hp r.b=φ (.cells (pre++kz {r with q:=.aS k2 0 (Ζ r.kids+1) c2}++post)):=by rw[oG];exact υ _ _ _);have DG:O5.hp k2=φ (.cells (aG r.kids++kz ⟨k2,(Ζ r.kids)*4,nm,iq,[],.l 0 [] .nil⟩++sp)):=by rw[oG];exact Δ (υ _ _ _));have u4:Kp O4 O5 [k2,r.b]:=by rw[oG];exact Kp.trans (S:=[k2]) (T:=[r.b]) Kp.set Kp.set);clear oG
    have s_:EI O4 [k2,r.b]:=λx hx j t n e=>by
     simp only[aga,agc,or_false]at hx;rcases hx with rfl | rfl;rw[wJ]at e;cases e;rw[fP]at e;cases e
    have Vi:Row O5 93 4 B k2 c2 (aG r.kids++kz ⟨k2,(Ζ r.kids)*4,nm,iq,[],.l 0 [] .nil⟩):=cU.own u4 s_ DG (by rw[<-pW, <-Hb];simp[vt];omega)
    have u3:Kp O3 O5 (r.b::(gid r.q).toList):=((Kp.bS mT).trans u4).sub (λx hx=>by
     simp only[alQ,aga,agc,or_false]at hx ⊢;rcases hx with hx | hx | hx;exact .inl (.inr hx);rcases bY with e | e;rw[e];simp[hx];exact .inr (by omega);exact .inl (.inl hx))
    have qm:∀x∈r.b::(gid r.q).toList,x=r.b\/gid r.q=φ x:=λx hx=>by
     rcases aga.1 hx with e | e;exact .inl e;exact .inr (by simpa using e)
    have ND:BC O5 B k _ z (sd (r::R) tk (bP+1) γ tx):=h3.c.push (by rw[hC];exact fw) dD (λe=>(EK e).2.2) u3 qm gD bY C0 Vi
    have dW:App O5 B 1 tk:=by
     refine h3.a.Rl u3 λx hx e=>?_
     rcases qm x hx with e2 | e2;subst e2;rw[fw]at e;cases e;obtain⟨cs,e3⟩:=jj.1.Rk e2;rw[e3]at e;cases e
    have wI:Kp O O5 (eG k (r::R) tk):=EJ.more u3 (λx hx=>by
     rcases qm x hx with e | e;rw[e];exact .inl se;exact .inl (p7 e))
    obtain⟨b0,b1,b2,b3,lB⟩:=uf (fU (⟨k2,(Ζ r.kids)*4,nm,iq,[],.l 0 [] .nil⟩::{r with q:=.aS k2 0 (Ζ r.kids+1) c2}::R) z h.c.zl);have gO:=ND.cells;unfold sd at gO;rw[lB]at gO;have hP:=mV (r::R);generalize hPG:jf (r::R)=PT at*;simp only[aq,bB,akf,aka,Ca]at gO hP
    have adV:(pre++kz {r with q:=.aS k2 0 (Ζ r.kids+1) c2}++post)[r.off+2]?=φ (.aS k2 0 (Ζ r.kids+1) c2):=by
     rw[af_,alP (by omega), <-dD,ake];rfl
    generalize pre++kz {r with q:=.aS k2 0 (Ζ r.kids+1) c2}++post=C5 at*;(have qX:(((Ζ r.kids+1:Nat):Int) - 1)=(Ζ r.kids:Int):=by omega);refine ae aL ?_;refine WC.bW (.held [20]) [(0,.rd),(1,.rd),(2,.rd),(3,.rd),(4,.rd),(5,.rd),(6,.rd),(7,.rd),(8,.rd),(9,.rd),(10,.rd),(11,.rd),(12,.rd),(13,.rd),(14,.rd),(15,.rd),(16,.one),(17,.one),(18,.one),(19,.rd),(20,.one)] ?_;refine wc aL gO gD adV qX @oB ?_;have cH:=aP (tk':=.full) (n:=Ζ R+1) (k:=1) (cs:=PT) (ds:=[.p k2 ((Ζ r.kids)*4)]) Qt Qu dW (by rw[hP,aqf]) rfl rfl (by decide) (by decide) (by simp only[Ca]at hR;omega) (by simp only[Ca,maxLen]at hR ⊢;omega);refine VL.app cH ?_;have qg:=VH.jo dW gO;have oD:=VH.dC O5 tk;have pe:App (O5.after tk) B 1 (.own O5.N 1):=App.after;have u6:Kp O5 (O5.after tk) (Tok.id tk).toList:=Kp.k (cy.after dW)
    have di:∀x∈(Tok.id tk).toList,O5.hp x=φ .tok/\B<=x:=λx hx=>by
     have e:Tok.id tk=φ x:=by simpa using hx
     cases tk with
     | own s j=>injection e with e;subst e;exact⟨dW.2.1,dW.2.2.1⟩
     | _=>cases e
    have IE:Kp O (O5.after tk) (eG k (r::R) tk):=wI.more u6 (λx hx=>.inl (GO (by simpa using hx)));have adW:BC (O5.after tk) B k _ z _:=ND.step (tl':=[.l (Ζ R+1) PT tk,mi (bP+1:Nat),mb γ,mb tx]) u6 (λx hx=>.inr (di x hx).1) (by rw[lB];exact qg) h.c.zl;generalize O5.after tk=O6 at*;refine ao @aL @qg ?_;refine VC.gen ?_;intro O7 sZ;(((((have xq:O7.hp k=φ (.cells [b0,b1,b2,b3,.l (Ζ R+1+1) (PT++[.p k2 ((Ζ r.kids)*4)]) (.own O5.N 1),.v (Ι Κ (bP+1:Nat)),.v (.bool γ),.v (.bool tx)]):=by rw[sZ];exact υ _ _ _);have wK:App O7 B 1 (.own O5.N 1):=by rw[sZ];exact pe.Bh iM);have Vj:Kp O O7 (eG k (r::R) tk):=IE.more (S:=[k]) (by rw[sZ];exact Kp.set) yW;have xp:O7.N=O6.N:=by rw[sZ];rfl);have adX:BC O7 B k _ z [.l (Ζ R+1+1) (PT++[.p k2 ((Ζ r.kids)*4)]) (.own O5.N 1),.v (Ι Κ (bP+1:Nat)),.v (.bool γ),.v (.bool tx)]:=adW.step (S:=[k]) (by rw[sZ];exact Kp.set) (λx hx=>.inl (by simpa using hx)) (by rw[lB];exact xq) h.c.zl;clear sZ;refine ξ aL xq ?_;refine ν aL ?_;refine⟨Vj.more Kp.set yW,⟨k2,(Ζ r.kids)*4,nm,iq,[],.l 0 [] .nil⟩::{r with q:=.aS k2 0 (Ζ r.kids+1) c2}::R,.own O5.N 1,⟨adX.step (S:=[k]) Kp.set (λx hx=>.inl (by simpa using hx)) ?_ h.c.zl,wK.Bh iM⟩,rfl,λx hx=>?_⟩;rotate_left);have hx:x∈k::((k2::r.b::R.map (·.b))++[]++[O5.N]):=hx;simp only[aga,alQ,alU,agc,or_false,List.mem_map]at hx;rcases hx with rfl | (rfl | rfl | ⟨g,hg,rfl⟩) | rfl;exact .inl p6;rcases bY with e | e;exact .inl (p7 e);exact .inr (by omega);exact .inl se;exact .inl (DF (List.mem_cons_of_mem _ hg));exact .inr (by omega));rw[υ,lB, <-hPG];have e:jf (⟨k2,(Ζ r.kids)*4,nm,iq,[],.l 0 [] .nil⟩::{r with q:=.aS k2 0 (Ζ r.kids+1) c2}::R)=jf (r::R)++[.p k2 ((Ζ r.kids)*4)]:=ue _ _;unfold sd;rw[e];rfl
def Rec.nd(r:Rec):Nd:=.mk r.name r.attrs r.kids []
def rL.head{k:Nat}{p:Rec}{R:List Rec}{K:List Nd}(h:rL O B k (p::R)):rL O B k ({p with kids:=K}::R):=by
 cases R with
 | nil=>exact h
 | cons g R=>exact h
def Ro{p:Rec}{R:List Rec}{K:List Nd}:rM ({p with kids:=K}::R) z=rM (p::R) z:=by
 cases R with
 | nil=>rfl
 | cons g R=>rfl
def Rp(r:Rec):List Rec->List Rec
 | []=>[]
 | p::R=>{p with kids:=p.kids++[r.nd]}::R
def Rq(r:Rec)(z:Η):List Rec->Η
 | []=>eh r.nd
 | _::_=>z
def BC.pop{k:Nat}{r:Rec}{R:List Rec}(h:BC O B k (r::R) z tl)(hc:O.hp r.b=φ (.cells (pre++kz r++post)))(hl:Ζ pre=r.off)(hR:R=[]->post=tl)(u:Kp O O' S)
  (hn:∀x∈S,x=r.b\/gid r.q=φ x) (ry:O'.hp r.b=φ (.cells (pre++eh r.nd++post))):BC O' B k (Rp r R) (Rq r z R) tl:=by
 have tQ:=h.chain;have dm:=tQ.lt;have jj:=h.top
 have hS:EI O S:=λx hx j t n e=>by
  rcases hn x hx with e2 | e2;subst e2;rw[hc]at e;cases e;obtain⟨cs,e3⟩:=jj.1.Rk e2;rw[e3]at e;cases e
 cases R with
 | nil=>
   obtain⟨h1,h2⟩:=tQ;have hp:pre=[]:=akd (by rw[hl,h2]);subst hp;refine⟨h.lt,akc h.le u.1,?_,ob _,trivial,trivial⟩;rw[<-h1,ry,hR rfl];rfl
 | cons p rest=>
   obtain⟨⟨c,e1,e2,kx⟩,e3,e4,e5⟩:=tQ;have ank:=kx.lo
   have hkS:k ∉ S:=λhm=>by
    have:=h.lt;rcases hn k hm with e | e;omega;have:=(jj.1.lo e).1;omega
   obtain⟨sp,qE,wh⟩:=kx.cells;rw[hc]at qE;injection qE with qE;injection qE with qE;((((have dD:Ζ pre=(aG p.kids).length:=by rw[hl,e3,dV]);rw[af_,af_]at qE;obtain⟨nC,AJ⟩:=ap7 qE dD;obtain⟨_,rK⟩:=ap7 AJ rfl;subst nC;subst rK);have hlen:(p.kids++[r.nd]).length=Ζ p.kids+1:=by simp);refine⟨h.lt,akc h.le u.1,?_,h.zl,(e5.kp u hS (λx hx _=>?_) h.lt).head,⟨.inr ⟨r.b,c,?_,?_,?_,?_⟩,λi e=>?_⟩⟩);show _=φ (cx.cells (rM ({p with kids:=p.kids++[r.nd]}::rest) z++tl));rw[Ro,u.2 k (Th h.lt h.le) hkS];exact h.cells
   ·refine .inr λhm=>?_
    have h6:=dm x hx;rcases hn x.b hm with e | e;omega;have:=jj.2 _ e;omega
   ·show p.q=_;rw[e1,hlen]
   ·rw[hlen];exact e2
   ·show(aG (p.kids++[r.nd])).length=_;rw[dV]
   ·show Row O' _ 4 B r.b c (aG (p.kids++[r.nd]));(have e6:aG (p.kids++[r.nd])=aG p.kids++eh r.nd:=by rw[fh,aG,aG,alU]);rw[e6];refine kx.own u hS ry ?_;rw[Ti,Ti,vt]at wh;rw[Ti,Ti,ob];exact wh
   ·have e:gid p.q=φ i:=e;rw[e1]at e;injection e with e;subst e;exact e4
def fR.app{a b c d:Η}(h:fR a b)(k:fR c d):fR (a++c) (b++d):=by
 refine⟨by rw[Ti,Ti,h.1,k.1],λi x y hx hy=>?_⟩;rw[List.getElem?_append]at hx hy;by_cases e:i<Ζ a;rw[if_pos e]at hx;rw[if_pos (by rw[<-h.1];exact e)]at hy;exact h.2 i x y hx hy;rw[if_neg e]at hx;rw[if_neg (by rw[<-h.1];exact e)]at hy;rw[<-h.1]at hy;exact k.2 _ x y hx hy
def VC.close{k:Nat}{r:Rec}{R:List Rec}{n:Sz}{c:Code}{e:Env}(h:BC O B k (r::R) z tl)(hc:O.hp r.b=φ (.cells (pre++kz r++post)))
  (hk:∀O1,Kp O O1 (r.b::(gid r.q).toList)->O1.hp r.b=φ (.cells (pre++eh r.nd++post))->VC P n D c e O1 Q):VC P n D c e O Q:=by
 obtain⟨hg,dm⟩:=h.top;have eN:eh r.nd=[.s r.name,.l (Ζ r.attrs) (r.attrs.flatMap bH) .au,.l (Ζ r.kids) (aG r.kids) .au,.s []]:=by rw[Rec.nd,eh]
 rcases hg with⟨h0,h1,hp⟩ | ⟨kq,cq,hp,hn,hl,kx⟩
 ·refine VC.wkc (ds:=pre++eh r.nd++post) hc ?_ (hk _ (Kp.sub Kp.set (λx hx=>.inl (by simp at hx ⊢;exact .inl hx))) (υ _ _ _));refine((fR.refl pre).app ?_).app (fR.refl post);rw[eN,kz]
  have hw:Wk r.q (.l (Ζ r.kids) (aG r.kids) .au):=by
   rw[h0,h1];rcases hp with e | e<;>rw[e]<;>exact Wk.tok
  exact(fR.refl [_,_]).app (fR.cons hw (fR.refl _))
 ·obtain⟨sp,h1,h2⟩:=kx.cells;have hne:r.b≠kq:=by have:=dm kq (by rw[hp];rfl);omega
  have e1:pre++kz r++post=(pre++[.s r.name,.l (Ζ r.attrs) (r.attrs.flatMap bH) .au])++ .aS kq 0 (Ζ r.kids) cq::(.s []::post):=by
   rw[kz,hp];simp
  rw[e1]at hc;refine VC.Aj h1 hc hne (sz:=(aG r.kids).length) (by rw[Ti];omega) ?_
  have e2:pre++eh r.nd++post=(pre++[.s r.name,.l (Ζ r.attrs) (r.attrs.flatMap bH) .au])++ .l (Ζ r.kids) (aG r.kids) .au::(.s []::post):=by
   rw[eN];simp
  rw[aqg,List.take_left, <-e2];refine hk _ ?_ (υ _ _ _);refine⟨alO _,λi _ hi=>?_⟩;simp only[hp,gid,aga,Option.toList_some,agc,or_false,not_or]at hi;rw[π _ _ hi.1,VH.mH _ hi.2]
def ak0(r:Rec)(R:List Rec)(tk:Tok):qS (bR Ε) 395 (.l (Ζ R+1) (jf (r::R)) tk) Β (.v (Ι Κ (Ζ R:Int))) (.v (Ι Κ (Ζ R:Int)))=φ (.l (Ζ R) (jf R) .full):=by
 have hl:=mV (r::R);have hc:=ue r R;have h2:=mV R;rw[hc]at hl ⊢;simp only[qS,Qt,Qu,Option.map_some,dR];rw[if_pos ⟨by omega,by omega,alR _,alO _⟩,if_pos ⟨by simp,by rw[hl,aqf];rfl⟩,if_neg (by omega)];cases R with
 | nil=>rfl
 | cons p R=>
   rw[if_neg (by simp)];simp only[Int.toNat_natCast,Nat.sub_zero,aqf,Nat.zero_mul,aqg,if_true];rw[List.take_left' h2]
def ahw{k:Nat}{r:Rec}{R:List Rec}(h:BS O B k (r::R) tk bP dn tx z)(Rr:Ζ R<=1000):
  VF Ε 280 [.p k 0] O (aH λ_ O'=>Kp O O' (eG k (r::R) tk)/\BS O' B k (Rp r R) .full bP (Ζ R==0) γ (Rq r z R)):=by
 obtain⟨pre,post,hc,dD,FX,EK,hR2⟩:=h.c.loc;have jj:=h.c.top;have iM:=h.c.lt;have hBn:=h.c.le;have yW:∀x∈[k],x∈eG k (r::R) tk\/O.N<=x:=λx hx=>.inl (by rw[akb]at hx;rw[hx];exact p6)
 have hSn:∀x∈r.b::(gid r.q).toList,x=r.b\/gid r.q=φ x:=λx hx=>by
  rcases aga.1 hx with e | e;exact .inl e;exact .inr (by simpa using e)
 refine ω 34 [] func280 ?_;refine VC.close h.c hc λO1 u1 fK=>?_
 have hP:=h.c.pop hc dD (λe=>(EK e).2.2) u1 hSn fK
 have cJ:App O1 B 1 tk:=by
  refine h.a.Rl u1 λx hx e=>?_
  rcases hSn x hx with e2 | e2;subst e2;rw[hc]at e;cases e;obtain⟨cs,e3⟩:=jj.1.Rk e2;rw[e3]at e;cases e
 have kR:Kp O O1 (eG k (r::R) tk):=(Kp.refl (S:=eG k (r::R) tk)).more u1 (λx hx=>.inl (by
  rcases hSn x hx with e | e;rw[e];exact se;exact p7 e))
 obtain⟨b0,b1,b2,b3,lB⟩:=uf (fU (Rp r R) (Rq r z R) hP.zl);have cK:=hP.cells;unfold sd at cK;rw[lB]at cK;have EL:=ak0 r R tk;have hPl:=mV (r::R);generalize hPG:jf (r::R)=PT at*;simp only[aq,bB,List.cons_append,List.nil_append,List.length_cons]at cK hPl;have qX:(((Ζ R+1:Nat):Int) - 1)=(Ζ R:Int):=by omega
 refine Γ ?_;refine WC.bW (.held [20]) [(0,.rd),(1,.rd),(2,.rd),(3,.rd),(4,.rd),(5,.rd),(6,.rd),(7,.rd),(8,.rd),(9,.rd),(10,.rd),(11,.rd),(12,.rd),(13,.rd),(14,.rd),(15,.rd),(16,.rd),(17,.rd),(18,.one),(19,.rd),(20,.one)] ?_;refine iV aL cK qX @oB EL ?_;refine VC.gen ?_;intro O2 s9;have bY:O2.hp k=φ (.cells [b0,b1,b2,b3,.l (Ζ R) (jf R) .full,.v (Ι Κ bP),.v (.bool dn),.v (.bool tx)]):=by rw[s9];exact υ _ _ _
 have Vh:Kp O O2 (eG k (r::R) tk):=kR.more (S:=[k]) (by rw[s9];exact Kp.set) yW;have EM:BC O2 B k _ _ [.l (Ζ R) (jf R) .full,.v (Ι Κ bP),.v (.bool dn),.v (.bool tx)]:=hP.step (S:=[k]) (by rw[s9];exact Kp.set) (λx hx=>.inl (by simpa using hx)) (by rw[lB];exact bY) hP.zl;clear s9
 have q_:∀b,BS ((O2.set k (.cells [b0,b1,b2,b3,.l (Ζ R) (jf R) .full,.v (Ι Κ bP),.v (.bool b),.v (.bool tx)])).set k (.cells [b0,b1,b2,b3,.l (Ζ R) (jf R) .full,.v (Ι Κ bP),.v (.bool b),.v (.bool γ)])) B k (Rp r R) .full bP b γ (Rq r z R):=λb=>by
  refine⟨(EM.step (S:=[k]) (z':=Rq r z R) (tl':=[.l (Ζ R) (jf R) .full,.v (Ι Κ bP),.v (.bool b),.v (.bool tx)]) Kp.set (λx hx=>.inl (by simpa using hx)) (by rw[lB,υ];rfl) hP.zl).step (S:=[k]) Kp.set (λx hx=>.inl (by simpa using hx)) ?_ hP.zl,trivial⟩;rw[lB,υ];cases R with
  | nil=>rfl
  | cons p R=>rfl
 have jy:∀x y,Kp O ((O2.set k x).set k y) (eG k (r::R) tk):=λx y=>(Vh.more Kp.set yW).more Kp.set yW
 cases R with
 | nil=>
   refine ο aL bY ?_;exact⟨jy _ _,q_ _⟩
 | cons p R=>
   refine ο aL bY ?_;exact⟨jy _ _,q_ _⟩
def aaL{k:Nat}{r:Rec}{R:List Rec}(h:BC O B k (r::R) z tl):∀x∈eG k (Rp r R) .full,x∈eG k (r::R) tk:=by
 intro x hx;cases R with
 | nil=>
   have hx:x∈[k]:=hx;rw[akb]at hx;rw[hx];exact p6
 | cons p R=>
   obtain⟨⟨c,e1,_⟩,_⟩:=h.chain;have hx:x∈k::((p.b::R.map (·.b))++(gid p.q).toList++[]):=hx;rw[e1]at hx;simp only[gid,Option.toList_some,aga,alQ,alU,agc,or_false,List.mem_map]at hx;rcases hx with rfl | (rfl | ⟨g,hg,rfl⟩) | rfl;exact p6;exact DF (by simp);exact DF (by simp[hg]);exact se
def tK(t:Bs):Nd:=.mk [] [] [] t
def XJ(t:Bs):eh (tK t)=[.s [],.l 0 [] .au,.l 0 [] .au,.s t]:=by rw[tK,eh,aG];rfl
def Rs{k:Nat}(h:BS O B k [] tk bP dn tx z)(s:Bs)(hs:Ζ s<=maxLen):
  VF Ε 278 [.p k 0,.s s] O (aH λm O'=>m=mi (if trimB s=[]then 0 else 16)/\O'=O):=by
 have hk:=h.c.cells;obtain⟨a0,a1,a2,a3,hr⟩:=uf (fU [] z h.c.zl);unfold sd at hk;rw[hr]at hk;simp only[aq,bB,akf,aka,abx]at hk;refine ω 61 [.tmp 4] func278 ?_;refine κ aL ?_;refine ξ aL hk ?_;refine Ω (No s _ hs) ?_;cases trimB s with
 | nil=>
   refine ao aL (show(([]:Ρ)==[])=Α from rfl) ?_;trivial
 | cons c t=>
   refine ao aL (show((c::t)==[])=γ from rfl) ?_;trivial
def Rt{k:Nat}{r:Rec}{R:List Rec}(h:BS O B k (r::R) tk bP dn tx z)(hR:Ζ R<=1000):
  VF Ε 278 [.p k 0,.s []] O (aH λm O'=>m=mi 0/\O'=O):=by
 have hk:=h.c.cells;have iM:=h.c.lt;have hBn:=h.c.le;obtain⟨a0,a1,a2,a3,hr⟩:=uf (fU (r::R) z h.c.zl);unfold sd at hk;rw[hr]at hk;simp only[aq,bB,akf,aka,Ca]at hk;refine ω 61 [.tmp 4] func278 ?_;refine κ aL ?_;refine ξ aL hk ?_;refine κ aL ?_;refine Ω (ID h) ?_;refine ae aL ?_;refine ξ aL (show(([]:Ρ)==[])=Α from rfl) ?_;refine ν aL ?_;trivial
def Ru{k:Nat}{r:Rec}{R:List Rec}(h:BS O B k (r::R) tk bP dn Α z)(hR0:Ζ R<=1000)(s t0:Bs)(K:List Nd)(hs:Ζ s<=1000000000000)(AB:r.kids=K++[tK t0])(ht0:Ζ t0<=1000000000000)(gW:Ζ r.kids<=1000000)(hne:(s==[])=γ):
  VF Ε 278 [.p k 0,.s s] O (aH λm O'=>m=mi 0/\Kp O O' (eG k (r::R) tk)/\BS O' B k ({r with kids:=K++[tK (t0++s)]}::R) tk bP dn Α z):=by
 have hR:Ζ R<=1000:=hR0;have hk:=h.c.cells;have iM:=h.c.lt;have hBn:=h.c.le;obtain⟨a0,a1,a2,a3,hr⟩:=uf (fU (r::R) z h.c.zl);unfold sd at hk;rw[hr]at hk;simp only[aq,bB,List.cons_append,List.nil_append,List.length_cons]at hk;refine ω 61 [.tmp 4] func278 ?_;refine κ @aL ?_;refine ξ @aL @hk ?_;refine κ @aL ?_;refine Ω (ID h) ?_;refine ae @aL ?_;obtain⟨pre,post,hc,dD,FX,EK,hR2⟩:=h.c.loc;have jj:=h.c.top;refine θ (aE @aL @hne @hk ?_);have hKl:Ζ r.kids=Ζ K+1:=by rw[AB];simp
 obtain⟨kq,cq,hq,C0,cU⟩:∃kq cq,r.q= .aS kq 0 (Ζ K+1) cq/\(Ζ K)+1<=cq/\Row O 93 4 B kq cq (aG r.kids):=by
  rcases jj.1 with⟨h0,_⟩ | ⟨k2,c,hp,h1,_,h2⟩;omega;rw[hKl]at hp h1;exact⟨k2,c,hp,h1,h2⟩
 have hrq:r.b<kq:=jj.2 kq (by rw[hq];rfl);obtain⟨sp,wJ,pW⟩:=cU.cells;have xt:aG r.kids=aG K++[.s [],.l 0 [] .au,.l 0 [] .au,.s t0]:=by rw[AB,fh,aG,aG,XJ,alU]
 rw[xt]at wJ pW;have vW:=dV K
 have bG:(aG K++([.s [],.l 0 [] .au,.l 0 [] .au,.s t0]:Η)++sp)[(Ζ K)*4+3]?=φ (.s t0):=by
  rw[af_, <-vW,alP (by omega),ake];rfl
 have fz:∀m:MV,(aG K++([.s [],.l 0 [] .au,.l 0 [] .au,.s t0]:Η)++sp).set ((Ζ K)*4+3) m=aG K++[.s [],.l 0 [] .au,.l 0 [] .au,m]++sp:=λm=>by
  rw[af_, <-vW,ap2 _ _ (by omega),ake,af_];rfl
 generalize Hb:aG K++[.s [],.l 0 [] .au,.l 0 [] .au,.s t0]++sp=C2 at*
 have Rn:(pre++kz r++post)[r.off+2]?=φ r.q:=by
  rw[af_,alP (by omega), <-dD,ake];rfl
 rw[hq]at Rn;generalize hC:pre++kz r++post=C at*;have qX:(((Ζ K+1:Nat):Int) - 1)=(Ζ K:Int):=by omega
 refine WC.bW (.held [17]) [(0,.rd),(1,.rd),(2,.rd),(3,.rd),(4,.rd),(5,.rd),(6,.rd),(7,.rd),(8,.rd),(9,.rd),(10,.rd),(11,.rd),(12,.rd),(13,.rd),(14,.rd),(15,.one),(16,.rd),(17,.one)] ?_;refine JS aL hc Rn qX wJ bG fz @oB ?_;refine ν aL ?_;have u:Kp O (O.set kq (.cells (aG K++[.s [],.l 0 [] .au,.l 0 [] .au,.s (t0++s)]++sp))) [kq]:=Kp.set;have AL:aG (K++[tK (t0++s)])=aG K++[.s [],.l 0 [] .au,.l 0 [] .au,.s (t0++s)]:=by rw[fh,aG,aG,XJ,alU]
 have hl9:(K++[tK (t0++s)]).length=Ζ K+1:=by simp
 have hB9:B<=kq:=cU.lo;refine⟨(Kp.refl (S:=eG k (r::R) tk)).more u (λx hx=>.inl (by rw[akb]at hx;rw[hx];exact p7 (by rw[hq];rfl))),h.c.NC (r':={r with kids:=K++[tK (t0++s)]}) (by rw[hC];exact hc) dD (λe=>(EK e).2.2) u rfl rfl (λx hx=>.inr (by rw[akb]at hx;rw[hx,hq];rfl)) (by rw[VH.sx];show _=φ (cx.cells (pre++kz r++post));rw[hC];exact hc) (.inr ⟨kq,cq,?_,?_,?_,?_⟩) (λi e=>jj.2 i e),h.a.Rl u (λx hx e=>by rw[akb]at hx;subst hx;rw[wJ]at e;cases e)⟩;show r.q=_;rw[hq,hl9];rw[hl9];exact C0;show(aG (K++[tK (t0++s)])).length=_;rw[dV];show Row _ _ 4 B kq cq (aG (K++[tK (t0++s)]));rw[AL];refine cU.own u (λx hx j t n e=>by rw[akb]at hx;subst hx;rw[wJ]at e;cases e) (υ _ _ _) ?_;rw[<-pW, <-Hb];simp
def Rv{k:Nat}{r:Rec}{R:List Rec}(h:BS O B k (r::R) tk bP dn γ z)(hc0:bP<=1000000)(hR0:Ζ R<=1000)(s:Bs)(hs:Ζ s<=1000000000000)(gW:Ζ r.kids<=1000000)(hne:(s==[])=γ):
  VF Ε 278 [.p k 0,.s s] O (aH λm O'=>Kp O O' (eG k (r::R) tk)/\match decide (4096<bP+1)with
   | true=>m=mi 2
   | false=>m=mi 0/\∃q',BS O' B k ({r with kids:=r.kids++[tK s],q:=q'}::R) tk (bP+1) dn Α z/\∀x,gid q'=φ x->gid r.q=φ x\/O.N<=x):=by
 have hR:Ζ R<=1000:=hR0;have hk:=h.c.cells;have iM:=h.c.lt;have hBn:=h.c.le;obtain⟨a0,a1,a2,a3,hr⟩:=uf (fU (r::R) z h.c.zl);unfold sd at hk;rw[hr]at hk;simp only[aq,bB,akf,aka,Ca]at hk;refine ω 61 [.tmp 4] func278 ?_;refine κ aL ?_;refine ξ aL hk ?_;refine κ aL ?_;refine Ω (ID h) ?_;refine ae aL ?_;obtain⟨pre,post,hc,dD,FX,EK,hR2⟩:=h.c.loc;have jj:=h.c.top;clear hc EK hR2 dD FX jj;clear pre post;refine θ (aE aL @hne hk ?_);refine τ (adR h hc0) ?_;rintro _ O3 ⟨rfl,h3,dF⟩;by_cases Ih:bP+1<=4096;rotate_left;rw[decide_eq_true (show 4096<bP+1 by omega),decide_eq_false Ih];refine ae aL ?_;exact(Kp.refl (S:=eG k (r::R) tk)).more dF (λx hx=>.inl (by rw[akb]at hx;rw[hx];exact p6));rw[decide_eq_false (show ¬4096<bP+1 by omega),decide_eq_true Ih];dsimp only;have yW:∀x∈[k],x∈eG k (r::R) tk\/O.N<=x:=λx hx=>.inl (by rw[akb]at hx;rw[hx];exact p6)
 have EJ:Kp O O3 (eG k (r::R) tk):=(Kp.refl (S:=eG k (r::R) tk)).more dF yW;have apo:=h3.c.le;refine ae aL ?_;obtain⟨pre,post,fw,dD,FX,EK,hR2⟩:=h3.c.loc;have jj:=h3.c.top
 have Rn:(pre++kz r++post)[r.off+2]?=φ r.q:=by
  rw[af_,alP (by omega), <-dD,ake];rfl
 have fz:∀q',(pre++kz r++post).set (r.off+2) q'=pre++kz {r with q:=q'}++post:=λq'=>by
  rw[af_,ap2 _ _ (by omega), <-dD,ake,af_];rfl
 have hlC:(pre++kz r++post).length=Ζ pre+4+Ζ post:=by simp[vt];omega
 generalize hC:pre++kz r++post=C at*;refine VC.MC [8,9,10,11,12,13] (by kernel_rfl) ?_;refine cc.Ey 0 ?_;refine ae aL ?_;refine cc.Ey 1 ?_;refine ae aL ?_;refine cc.Ey 2 ?_;refine ae aL ?_;refine cc.Ey 3 ?_;refine aE aL fw Rn ?_;refine cc.Ey 4 ?_;refine ae aL ?_;refine cc.Ey 5 ?_;refine ae aL ?_;have ew:=XI jj.1;refine cc.Ey 6 ?_;refine ao aL ew ?_;refine cc.ai6 (i:=7) rfl (by kernel_rfl) (by kernel_rfl) rfl rfl (λ_ _ _ hw hf=>adS hw hf) rfl ?_;simp only[ak];refine cc.fin (by kernel_rfl) ?_;refine bA.st (i:=8) rfl (by kernel_rfl) rfl rfl (wA aa (te:=⟨_,4,80,_⟩) (dx:=.slice 93) (q:=.l 1 [.s [],.l 0 [] .nil,.l 0 [] .nil,.s []] .full) (j:=1) (ds:=[.s [],.l 0 [] .nil,.l 0 [] .nil,.s []]) jj.1 rfl rfl (by rw[yu];rfl) Gf.1.1 (by rw[yu];rfl) trivial (by dsimp only;omega) (by simp only[maxLen];omega) (by omega) rfl rfl) ?_;rintro m O4 ⟨mS,mT,jQ,hm⟩
 obtain⟨k2,c2,rfl,bY⟩:∃k2 c2,m= .aS k2 0 (Ζ r.kids+1) c2/\(gid r.q=φ k2\/O3.N<=k2):=by
  rcases hm with⟨k2,c2,h1,h2⟩ | ⟨h1,_⟩;exact⟨k2,c2,h1,h2.imp id And.left⟩;cases h1
 obtain⟨cU,C0⟩:Row O4 93 4 B k2 c2 (aG r.kids++[.s [],.l 0 [] .nil,.l 0 [] .nil,.s []])/\(Ζ r.kids)+1<=c2:=by
  rcases mS with⟨h1,_⟩ | ⟨k3,c3,h1,h2,_,h4⟩;omega;injection h1 with h1 _ _ h3;subst h1;subst h3;exact⟨h4,h2⟩
 have adU:r.b<k2:=by
  rcases bY with e | e;exact jj.2 _ e;omega
 have anl:=mT.N;have fP:O4.hp r.b=φ (.cells C):=(mT.hp _ FX (λe=>by have:=jj.2 _ e;omega)).trans fw;obtain⟨sp,wJ,pW⟩:=cU.cells;simp only[ak];have vW:=dV r.kids
 have n8:∀a b c d:MV,((((aG r.kids++([.s [],.l 0 [] .nil,.l 0 [] .nil,.s []]:Η)++sp).set ((Ζ r.kids)*4) a).set ((Ζ r.kids)*4+1) b).set ((Ζ r.kids)*4+1+1) c).set ((Ζ r.kids)*4+1+1+1) d=aG r.kids++[a,b,c,d]++sp:=λa b c d=>by
  rw[<-vW];exact ai7 _ _ _ _ _ _ _ _ _ _
 generalize Hb:aG r.kids++[.s [],.l 0 [] .nil,.l 0 [] .nil,.s []]++sp=C2 at*;refine aqP 9 ?_;refine ae aL ?_;refine aqP 11 ?_;refine ae aL ?_;refine aqP 12 ?_;refine ae aL ?_;refine bA.two (i:=10) (j:=13) (by kernel_rfl) ?_ ?_
 ·refine aI.o1 ?_;refine aE aL wJ n8 ?_;refine bA.rY (i:=13) ?_;refine aE aL fP fz ?_;refine bA.bW [] ?_;refine WL.gen ?_;intro O5 oG;((((have eJ:O5.N=O4.N:=by rw[oG];rfl);have gD:O5.hp r.b=φ (.cells (pre++kz {r with q:=.aS k2 0 (Ζ r.kids+1) c2}++post)):=by rw[oG];exact υ _ _ _);have DG:O5.hp k2=φ (.cells (aG r.kids++[.s [],.l 0 [] .nil,.l 0 [] .nil,.s s]++sp)):=by rw[oG];exact Δ (υ _ _ _));have u4:Kp O4 O5 [k2,r.b]:=by rw[oG];exact Kp.trans (S:=[k2]) (T:=[r.b]) Kp.set Kp.set);clear oG
  have s_:EI O4 [k2,r.b]:=λx hx j t n e=>by
   simp only[aga,agc,or_false]at hx;rcases hx with rfl | rfl;rw[wJ]at e;cases e;rw[fP]at e;cases e
  have u3:Kp O3 O5 (r.b::(gid r.q).toList):=((Kp.bS mT).trans u4).sub (λx hx=>by
   simp only[alQ,aga,agc,or_false]at hx ⊢;rcases hx with hx | hx | hx;exact .inl (.inr hx);rcases bY with e | e;rw[e];simp[hx];exact .inr (by omega);exact .inl (.inl hx))
  have qm:∀x∈r.b::(gid r.q).toList,x=r.b\/gid r.q=φ x:=λx hx=>by
   rcases aga.1 hx with e | e;exact .inl e;exact .inr (by simpa using e)
  obtain⟨gO,_⟩:=h3.c.part (r':={r with q:=.aS k2 0 (Ζ r.kids+1) c2}) (by rw[hC];exact fw) dD (λe=>(EK e).2.2) u3 rfl rfl qm gD;obtain⟨b0,b1,b2,b3,lB⟩:=uf (fU ({r with q:=.aS k2 0 (Ζ r.kids+1) c2}::R) z h.c.zl);unfold sd at gO;rw[lB]at gO;simp only[aq,bB,akf,aka,Ca]at gO;refine ao aL gO ?_
  have Rw:k2≠k:=by
   have:=cU.lo;omega
  have wI:Kp O O5 (eG k (r::R) tk):=EJ.more u3 (λx hx=>by
   rcases qm x hx with e | e;rw[e];exact .inl se;exact .inl (p7 e))
  have dW:App O5 B 1 tk:=by
   refine h3.a.Rl u3 λx hx e=>?_
   rcases qm x hx with e2 | e2;subst e2;rw[fw]at e;cases e;obtain⟨cs,e3⟩:=jj.1.Rk e2;rw[e3]at e;cases e
  have AL:aG (r.kids++[tK s])=aG r.kids++[.s [],.l 0 [] .au,.l 0 [] .au,.s s]:=by rw[fh,aG,aG,XJ,alU]
  refine VC.wkc (k:=k2) (ds:=aG (r.kids++[tK s])++sp) ((π _ _ Rw).trans DG) (by
   rw[AL];exact((fR.refl _).app (fR.cons (Wk.refl _) (fR.cons Wk.tok (fR.cons Wk.tok (fR.refl _))))).app (fR.refl _)) ?_
  refine ν aL ?_;have u5:Kp O4 (O5.set k2 (.cells (aG (r.kids++[tK s])++sp))) [k2,r.b]:=(u4.trans Kp.set).sub (λx hx=>.inl (by simp only[alQ,aga,agc,or_false]at hx ⊢;exact hx.elim id .inl))
  have u6:Kp O3 (O5.set k2 (.cells (aG (r.kids++[tK s])++sp))) (r.b::(gid r.q).toList):=(u3.trans Kp.set).sub (λx hx=>by
   simp only[alQ,aga,agc,or_false]at hx ⊢;rcases hx with hx | hx;exact .inl hx;rcases bY with e | e;rw[e];simp[hx];exact .inr (by omega))
  have ND:BC _ B k ({r with kids:=r.kids++[tK s],q:=.aS k2 0 (Ζ r.kids+1) c2}::R) z _:=h3.c.NC (r':={r with kids:=r.kids++[tK s],q:=.aS k2 0 (Ζ r.kids+1) c2}) (by rw[hC];exact fw) dD (λe=>(EK e).2.2) u6 rfl rfl qm (Δ gD) (.inr ⟨k2,c2,by show _=_;simp,by simp;exact C0,by show(aG (r.kids++[tK s])).length=_;rw[dV],by
   show Row _ _ 4 B k2 c2 (aG (r.kids++[tK s]));refine cU.own u5 s_ (υ _ _ _) ?_;rw[<-pW, <-Hb,AL];simp⟩) (λi e=>by injection e with e;subst e;exact adU)
  have e9:∀x,(O5.set k x).set k2 (.cells (aG (r.kids++[tK s])++sp))=(O5.set k2 (.cells (aG (r.kids++[tK s])++sp))).set k x:=λx=>VH.set_comm (λe=>Rw e.symm)
  have EM:=cU.lo;rw[e9]
  refine⟨(wI.more (S:=[k2]) Kp.set (λx hx=>by
   rw[akb]at hx;rw[hx];rcases bY with e | e;exact .inl (p7 e)
   ·exact .inr (by have:=dF.1;omega))).more Kp.set yW,_,⟨ND.step (S:=[k]) Kp.set (λx hx=>.inl (by simpa using hx)) ?_ h3.c.zl,(dW.Rl (S:=[k2]) Kp.set (λx hx e=>by rw[akb]at hx;subst hx;rw[DG]at e;cases e)).Bh iM⟩,λx e=>by
   injection e with e;subst e;exact bY.imp id (λe=>by have:=dF.1;omega)⟩
  rw[υ]
  have e8:rM ({r with kids:=r.kids++[tK s],q:=.aS k2 0 (Ζ r.kids+1) c2}::R) z=[b0,b1,b2,b3]:=by
   rw[<-lB];cases R with
   | nil=>rfl
   | cons g R=>rfl
  rw[e8];rfl
 ·refine aI.o1 ?_;refine aE aL fP fz ?_;refine bA.rY (i:=10) ?_;refine aE aL wJ n8 ?_;refine bA.bW [] ?_;refine WL.gen ?_;intro O5 oG;rw[VH.set_comm (by omega)]at oG;((((have eJ:O5.N=O4.N:=by rw[oG];rfl);have gD:O5.hp r.b=φ (.cells (pre++kz {r with q:=.aS k2 0 (Ζ r.kids+1) c2}++post)):=by rw[oG];exact υ _ _ _);have DG:O5.hp k2=φ (.cells (aG r.kids++[.s [],.l 0 [] .nil,.l 0 [] .nil,.s s]++sp)):=by rw[oG];exact Δ (υ _ _ _));have u4:Kp O4 O5 [k2,r.b]:=by rw[oG];exact Kp.trans (S:=[k2]) (T:=[r.b]) Kp.set Kp.set);clear oG
  have s_:EI O4 [k2,r.b]:=λx hx j t n e=>by
   simp only[aga,agc,or_false]at hx;rcases hx with rfl | rfl;rw[wJ]at e;cases e;rw[fP]at e;cases e
  have u3:Kp O3 O5 (r.b::(gid r.q).toList):=((Kp.bS mT).trans u4).sub (λx hx=>by
   simp only[alQ,aga,agc,or_false]at hx ⊢;rcases hx with hx | hx | hx;exact .inl (.inr hx);rcases bY with e | e;rw[e];simp[hx];exact .inr (by omega);exact .inl (.inl hx))
  have qm:∀x∈r.b::(gid r.q).toList,x=r.b\/gid r.q=φ x:=λx hx=>by
   rcases aga.1 hx with e | e;exact .inl e;exact .inr (by simpa using e)
  obtain⟨gO,_⟩:=h3.c.part (r':={r with q:=.aS k2 0 (Ζ r.kids+1) c2}) (by rw[hC];exact fw) dD (λe=>(EK e).2.2) u3 rfl rfl qm gD;obtain⟨b0,b1,b2,b3,lB⟩:=uf (fU ({r with q:=.aS k2 0 (Ζ r.kids+1) c2}::R) z h.c.zl);unfold sd at gO;rw[lB]at gO;simp only[aq,bB,akf,aka,Ca]at gO;refine ao aL gO ?_
  have Rw:k2≠k:=by
   have:=cU.lo;omega
  have wI:Kp O O5 (eG k (r::R) tk):=EJ.more u3 (λx hx=>by
   rcases qm x hx with e | e;rw[e];exact .inl se;exact .inl (p7 e))
  have dW:App O5 B 1 tk:=by
   refine h3.a.Rl u3 λx hx e=>?_
   rcases qm x hx with e2 | e2;subst e2;rw[fw]at e;cases e;obtain⟨cs,e3⟩:=jj.1.Rk e2;rw[e3]at e;cases e
  have AL:aG (r.kids++[tK s])=aG r.kids++[.s [],.l 0 [] .au,.l 0 [] .au,.s s]:=by rw[fh,aG,aG,XJ,alU]
  refine VC.wkc (k:=k2) (ds:=aG (r.kids++[tK s])++sp) ((π _ _ Rw).trans DG) (by
   rw[AL];exact((fR.refl _).app (fR.cons (Wk.refl _) (fR.cons Wk.tok (fR.cons Wk.tok (fR.refl _))))).app (fR.refl _)) ?_
  refine ν aL ?_;have u5:Kp O4 (O5.set k2 (.cells (aG (r.kids++[tK s])++sp))) [k2,r.b]:=(u4.trans Kp.set).sub (λx hx=>.inl (by simp only[alQ,aga,agc,or_false]at hx ⊢;exact hx.elim id .inl))
  have u6:Kp O3 (O5.set k2 (.cells (aG (r.kids++[tK s])++sp))) (r.b::(gid r.q).toList):=(u3.trans Kp.set).sub (λx hx=>by
   simp only[alQ,aga,agc,or_false]at hx ⊢;rcases hx with hx | hx;exact .inl hx;rcases bY with e | e;rw[e];simp[hx];exact .inr (by omega))
  have ND:BC _ B k ({r with kids:=r.kids++[tK s],q:=.aS k2 0 (Ζ r.kids+1) c2}::R) z _:=h3.c.NC (r':={r with kids:=r.kids++[tK s],q:=.aS k2 0 (Ζ r.kids+1) c2}) (by rw[hC];exact fw) dD (λe=>(EK e).2.2) u6 rfl rfl qm (Δ gD) (.inr ⟨k2,c2,by show _=_;simp,by simp;exact C0,by show(aG (r.kids++[tK s])).length=_;rw[dV],by
   show Row _ _ 4 B k2 c2 (aG (r.kids++[tK s]));refine cU.own u5 s_ (υ _ _ _) ?_;rw[<-pW, <-Hb,AL];simp⟩) (λi e=>by injection e with e;subst e;exact adU)
  have e9:∀x,(O5.set k x).set k2 (.cells (aG (r.kids++[tK s])++sp))=(O5.set k2 (.cells (aG (r.kids++[tK s])++sp))).set k x:=λx=>VH.set_comm (λe=>Rw e.symm)
  have EM:=cU.lo;rw[e9]
  refine⟨(wI.more (S:=[k2]) Kp.set (λx hx=>by
   rw[akb]at hx;rw[hx];rcases bY with e | e;exact .inl (p7 e)
   ·exact .inr (by have:=dF.1;omega))).more Kp.set yW,_,⟨ND.step (S:=[k]) Kp.set (λx hx=>.inl (by simpa using hx)) ?_ h3.c.zl,(dW.Rl (S:=[k2]) Kp.set (λx hx e=>by rw[akb]at hx;subst hx;rw[DG]at e;cases e)).Bh iM⟩,λx e=>by
   injection e with e;subst e;exact bY.imp id (λe=>by have:=dF.1;omega)⟩
  rw[υ]
  have e8:rM ({r with kids:=r.kids++[tK s],q:=.aS k2 0 (Ζ r.kids+1) c2}::R) z=[b0,b1,b2,b3]:=by
   rw[<-lB];cases R with
   | nil=>rfl
   | cons g R=>rfl
  rw[e8];rfl
end Go.Proofs.YtjpadehgejlebaaGreatDoor
