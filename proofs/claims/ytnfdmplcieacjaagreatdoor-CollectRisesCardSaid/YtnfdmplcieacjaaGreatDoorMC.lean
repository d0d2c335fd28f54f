import Derived.Test.YtnfdmplcieacjaaGreatDoorMB
import Derived.Lib.Bytealg
import Derived.ProofKit
import Derived.OpenShut
set_option linter.unusedVariables false
set_option linter.defProp false
set_option maxHeartbeats 8000000
set_option linter.unusedSimpArgs false
namespace Go.Proofs.YtnfdmplcieacjaaGreatDoor
open Go.RowKit
open _root_.Nat renaming reduceLT → y0, reduceAdd → y10, reduceMul → y11, reduceSub → y12, reduceBEq → y14, reduceEqDiff → y16
open _root_.Int renaming reduceToNat → y18
open _root_.Go.Proofs.Tryz
open _root_.List renaming length → Ζ
open _root_.Go.Proofs.Tryz renaming prog → Ε
open _root_.Option renaming some → φ, none → Β
open _root_.Bool renaming false → γ, true → Α
open _root_.List renaming length_append → Rn, length_nil → Ro, length_cons → TR, getElem?_eq_getElem → ai8, flatMap_cons → ai9, append_nil → aja, take_length → alp, append_assoc → an3, nil_append → an4, length_take → an5, flatMap_append → an6, cons_append → an7, getD_eq_getElem?_getD → apE, getElem_mem → apF, eq_nil_of_length_eq_zero → apG, length_map → apH, length_drop → apI, take_of_length_le → apJ, take_append_of_le_length → apK, mem_cons → asc, drop_of_length_le → asl, flatMap_nil → ats, getElem?_append_right → aug, length_filter_le → auh, drop_eq_getElem_cons → auk, all_eq_true → aul, map_append → aum, mem_cons_of_mem → auo, mem_singleton → aup, getElem?_take → auq, getElem?_cons_succ → aut, getElem?_eq_none → auv, take_append_drop → auw, drop_append_of_le_length → auy, mem_append → auz, takeWhile_cons_of_neg → auD, takeWhile_cons_of_pos → auE, getElem_append_right → auF, all_eq_false → auG, getElem?_append_left → auH, getElem?_eq_some_iff → auI, not_mem_nil → auJ, getElem?_cons_zero → auL, all_append → auO, mem_range → auT, map_cons → auY
open _root_.Nat renaming le_refl → aev, le_trans → ahB, lt_of_lt_of_le → ai_, zero_le → an2, lt_succ_self → as0, zero_add → aui, zero_lt_one → auj, eq_zero_or_pos → aur, lt_or_ge → aus, succ_mul → auA, le_of_lt → auB, add_mul → auC, zero_mul → auK, min_eq_left → auM, le_succ → auP
open _root_.And renaming intro → abT
open _root_.Bool renaming false_eq_true → atM, false_or → auZ
open _root_.Array renaming getD_eq_getD_getElem? → aun, getElem?_eq_none → auu
variable{listed:Array Bool}{af:Array Edge}{ops:Array Oper}{xs:Array Operand}{f:FuncId}{Ψ:Gh->Prop}{L:List (Fl×Oper)}{A E Qc Yl args cs ms:List MV}{Φ:List MV->Prop}{brk:List Nat}{l:List Oper}{m p:MV}{B b c fuel i j n n' sz:Nat}{X:Obj}{o:Oper}{x y:Operand}{g:Option (Nat×Bool)}{q:Option Nat}{d:Option Tmp}{P:Program}{Z:Prop}{ps:String}{t1 tk:Tok}{O O' O1 O2:VH}{J:VH->Prop}{v:Value}{w:World}{tab:cB}{te:cg}{R:gm->VH->Prop}
set_option maxRecDepth 10000
def qn:=abT gg<|abT SW SX
structure Ap(O0:VH)(k:Nat)(s:Tok)(O:VH):Prop where
 ge:O0.Ge O
 app:App O O0.N k s
def Ap.refl(O:VH){k:Nat}{s:Tok}(h:s= .nil\/s= .full):Ap O k s O:=⟨VH.Ge.refl _,by rcases h with rfl | rfl<;>trivial⟩
def Ap.N{O0:VH}{k:Nat}{s:Tok}(h:Ap O0 k s O):Ap O0 k (.own O.N k) (O.after s):=⟨h.ge.after h.app (aev _),App.after h.ge.N⟩
abbrev Piece:=Ρ×Bool×Bool
def uQ(p:Piece):Η:=[.s p.1,mb p.2.1,mb p.2.2]
def Hj(L:List Piece):(L.flatMap uQ).length=(Ζ L)*3:=by
 induction L with
 | nil=>rfl
 | cons p L ih=>rw[ai9,Rn,ih,TR];simp[uQ];omega
def fU(s:Ρ):Nat->List Piece×Nat×Bool
 | 0=>([],0,γ)
 | i+1=>
   if i<(Ζ s) then
    if AU (s.getD i 0)then((fU s i).1++[((s.drop (fU s i).2.1).take (i - (fU s i).2.1),(fU s i).2.2,γ)],i+1,s.getD i 0==45)
    else if(fU s i).2.1<i/\jF (s.getD i 0)≠jF (s.getD (i - 1) 0)then((fU s i).1++[((s.drop (fU s i).2.1).take (i - (fU s i).2.1),(fU s i).2.2,Α)],i,Α)
    else fU s i
   else((fU s i).1++[((s.drop (fU s i).2.1).take (i - (fU s i).2.1),(fU s i).2.2,γ)],i+1,γ)
def BH(s:Ρ)(i:Nat):fU s (i+1)=
  if i<(Ζ s) then
   if AU (s.getD i 0)then((fU s i).1++[((s.drop (fU s i).2.1).take (i - (fU s i).2.1),(fU s i).2.2,γ)],i+1,s.getD i 0==45)
   else if(fU s i).2.1<i/\jF (s.getD i 0)≠jF (s.getD (i - 1) 0)then((fU s i).1++[((s.drop (fU s i).2.1).take (i - (fU s i).2.1),(fU s i).2.2,Α)],i,Α)
   else fU s i
  else((fU s i).1++[((s.drop (fU s i).2.1).take (i - (fU s i).2.1),(fU s i).2.2,γ)],i+1,γ):=rfl
def aay(s:Ρ)(i:Nat):(fU s i).2.1<=i/\(fU s i).1.length<=i:=by
 induction i with
 | zero=>exact⟨aev _,aev _⟩
 | succ i ih=>
   rw[fU];split;split;simp;omega;split;simp;omega;omega;simp;omega
def s_(s:Ρ):List Piece:=(fU s (Ζ s+1)).1
def CV{s:Ρ}(h:i<Ζ s):s.getD i 0=s[i]:=by
 rw[apE,ai8 h];rfl
def aoH(s:Ρ)(O:VH)(hs:Ζ s<=100000):VF Ε 157 [.s s] O (aC λm O'=>∃tk,m= .l (s_ s).length ((s_ s).flatMap uQ) tk/\Ap O 3 tk O'):=by
 refine χ 71 [.tmp 2] func157 ?_;refine ae qn ?_;refine WC.cj [2,3,4,5] [0] (λx:Nat×Tok=>[.l (fU s x.1).1.length ((fU s x.1).1.flatMap uQ) x.2,mi (fU s x.1).2.1,mb (fU s x.1).2.2,mi x.1]) (λx O'=>x.1<=Ζ s+1/\Ap O 3 x.2 O') (λx=>Ζ s+1 - x.1) ((0,.nil)) ?_ ?_;exact⟨z10,Ap.refl _ (.inl rfl)⟩;rintro⟨i,tk⟩ O2 ⟨hi,cQ⟩;dsimp only at hi cQ ⊢;obtain⟨cS,bV⟩:=aay s i;by_cases h2:i<=Ζ s;rotate_left
 ·have hie:i=Ζ s+1:=Λ
  subst hie;generalize hc:fU s (Ζ s+1)=C;refine ae qn ?_;exact⟨tk,by unfold s_;rw[hc],cQ⟩
 have hS:=BH s i;rcases hc:fU s i with⟨L,fr,hy⟩;rw[hc]at cS bV hS;dsimp only at cS bV hS;by_cases h3:i<Ζ s
 ·rw[if_pos h3]at hS;have pq:=CV h3;have CW:s[i]?=φ s[i]:=ai8 h3;rw[pq]at hS;generalize s[i]=x at*;refine aF qn CW @sV ?_;refine π (adn x O2) ?_;rintro _ O2 ⟨rfl,rfl⟩;cases hm:AU x;rw[hm,if_neg z10]at hS;by_cases aY:fr<i;have aqH:=CV (s:=s) (i:=i - 1) Λ;have aqI:s[i - 1]?=φ s[i - 1]:=List.getElem?_eq_getElem Λ;(((have him:((i:Int) - 1)=((i - 1:Nat):Int):=Λ;rw[aqH]at hS;generalize s[i - 1]=y at*;refine ae qn ?_;refine WC.bM .any [(0,.au),(1,.au),(2,.au),(3,.au),(4,.au),(5,.au),(6,.au),(8,.au),(9,.au),(10,.au),(11,.au),(7,.one),(12,.one),(13,.au),(14,.au),(15,.au)] ?_;refine bo qn CW aqI him ?_;refine π (lI x O2) ?_;rintro _ O2 ⟨rfl,rfl⟩;refine ae qn ?_;refine π (lI y O2) ?_;rintro _ O2 ⟨rfl,rfl⟩;by_cases hd:jF x=jF y);rw[if_neg (λh=>h.2 hd)]at hS;(have hq:(!(jF x==jF y))=γ:=by simp[hd]);refine ak qn hq ?_;refine aw.N (i+1,tk) ⟨by dsimp only;omega,cQ⟩ (hl:=?_);dsimp only;rw[hS];rfl);rw[if_pos ⟨aY,hd⟩]at hS;((have hq:(!(jF x==jF y))=Α:=by simpa using hd);have MG:=bE SW SX.1.1 (tk':=.full) (cs:=L.flatMap uQ) (n:=Ζ L) (ds:=[.s ((s.drop fr).take (i - fr)),.v (.bool hy),.v (.bool Α)]) (k:=1) cQ.app (Hj L);have eD:(L++[((s.drop fr).take (i - fr),hy,Α)]).flatMap uQ=L.flatMap uQ++[.s ((s.drop fr).take (i - fr)),.v (.bool hy),.v (.bool Α)]:=by simp[uQ,bg]);refine ak qn hq ?_;refine VL.app MG ?_;refine ae qn ?_;refine aw.N (i+1,.own O2.N 3) ⟨by dsimp only;omega,cQ.N⟩ (hl:=?_);dsimp only;rw[hS];simp only[Rn,TR,Ro,eD];rfl);rw[if_neg (λh=>aY h.1)]at hS;refine ae qn ?_;refine WC.bM .any [(0,.au),(1,.au),(2,.au),(3,.au),(4,.au),(5,.au),(6,.au),(8,.au),(9,.au),(10,.au),(11,.au),(7,.one),(12,.one),(13,.au),(14,.au),(15,.au)] ?_;refine ae qn ?_;refine aw.N (i+1,tk) ⟨by dsimp only;omega,cQ⟩ (hl:=?_);dsimp only;rw[hS];rfl
  ·rw[hm,if_pos rfl]at hS;have MG:=bE SW SX.1.1 (tk':=.full) (cs:=L.flatMap uQ) (n:=Ζ L) (ds:=[.s ((s.drop fr).take (i - fr)),.v (.bool hy),.v (.bool γ)]) (k:=1) cQ.app (Hj L);(have eD:(L++[((s.drop fr).take (i - fr),hy,γ)]).flatMap uQ=L.flatMap uQ++[.s ((s.drop fr).take (i - fr)),.v (.bool hy),.v (.bool γ)]:=by simp[uQ,bg]);by_cases h45:x=45
   ·(have aqJ:x.toNat=45:=by rw[h45];rfl);have uR:(x==45)=Α:=by rw[h45];rfl
    rw[uR]at hS;refine bo qn CW @aA @ru ?_;refine VL.app MG ?_;refine bo qn CW @aA @ru ?_;refine aw.N (i+1,.own O2.N 3) ⟨by dsimp only;omega,cQ.N⟩ (hl:=?_);dsimp only;rw[hS];simp only[Rn,TR,Ro,eD];rfl
   ·have aqJ:x.toNat≠45:=λh=>h45 (UInt8.toNat_inj.1 h)
    have uR:(x==45)=γ:=by simpa using h45
    rw[uR]at hS;refine bo qn CW @aA @sV ?_;refine VL.app MG ?_;refine bo qn CW @aA @sV ?_;refine aw.N (i+1,.own O2.N 3) ⟨by dsimp only;omega,cQ.N⟩ (hl:=?_);dsimp only;rw[hS];simp only[Rn,TR,Ro,eD];rfl
 ·have hie:i=Ζ s:=Λ
  rw[if_neg h3]at hS;have MG:=bE SW SX.1.1 (tk':=.full) (cs:=L.flatMap uQ) (n:=Ζ L) (ds:=[.s ((s.drop fr).take (i - fr)),.v (.bool hy),.v (.bool γ)]) (k:=1) cQ.app (Hj L);(have eD:(L++[((s.drop fr).take (i - fr),hy,γ)]).flatMap uQ=L.flatMap uQ++[.s ((s.drop fr).take (i - fr)),.v (.bool hy),.v (.bool γ)]:=by simp[uQ,bg]);refine ak qn @ru ?_;refine VL.app MG ?_;refine ae qn ?_;refine aw.N (i+1,.own O2.N 3) ⟨by dsimp only;omega,cQ.N⟩ (hl:=?_);dsimp only;rw[hS];simp only[Rn,TR,Ro,eD];rfl
def aqK:=abT gg wL
def PN(l:Ρ)(O:VH):VF Ε 160 [.s l,.s [48]] O (aC λm O'=>m= .s (l.dropWhile (· ==48))/\O'=O):=by
 have hq:(([48]:Ρ)==[])=γ:=rfl;have h0:([48]:Ρ)[0]?=φ 48:=rfl;have hw:=GH l 48 O;refine χ 37 [.tmp 4] func160 ?_;cases h1:l==[];refine SO gg h1 hq h0 @TR.{0} @Ro.{0} @ru ?_;refine π (hw) ?_;rintro _ O2 ⟨rfl,rfl⟩;refine ae gg ?_;try trivial
 ·obtain rfl:l=[]:=by simpa using h1
  refine ak gg h1 ?_;try trivial
abbrev il:=Bool×Bool×Ρ
def dM(p:il):Η:=[mb p.1,mb p.2.1,.s p.2.2]
def ado(p:il)(O:VH):VF Ε 162 [.agg (dM p)] O (aC λm O'=>m=mb (p.2.2==[])/\O.Ge O'):=by
 obtain⟨a,b,s⟩:=p;have hb:=ζ O (.cells [.v (.bool a),.v (.bool b),.s s]);have bK:=(VH.Ge.refl O).push (.cells [.v (.bool a),.v (.bool b),.s s]);simp only[dM,bg];refine χ 6 [.tmp 2] func162 ?_;refine ak aqK hb ?_;exact bK
def kx(L:List il):(L.flatMap dM).length=(Ζ L)*3:=by
 induction L with
 | nil=>rfl
 | cons p L ih=>rw[ai9,Rn,ih,TR];simp[dM];omega
def XG:∀(L:List il)(i:Nat)(h:i<Ζ L),((L.flatMap dM).drop (i*3)).take 3=dM L[i]
 | p::L,0,_=>by simp[dM]
 | p::L,i+1,h=>by
   have:=XG L i z34;rw[ai9,auA];exact this
def tsF:=abT T9<|abT T3<|abT T4<|abT sZ wL
def alS(L:List il)(tk:Tok)(i:Nat)(O:VH)(hL:Ζ L<=maxLen:=by simp only[maxLen];omega):VF Ε 136 [.l (Ζ L) (L.flatMap dM) tk,mi i] O (aC λm O'=>m= .agg (dM (L.getD i (γ,Α,[])))/\O.Ge O'):=by
 have cz:=kx L;refine χ 14 [.cell 4 259] func136 ?_;by_cases h:i<Ζ L;have hl:=XG L i h;(have hg:L.getD i (γ,Α,[])=L[i]:=by rw[apE,ai8 h];rfl);rw[hg];simp(disch:=first | omega | (simp only[ds]<;>omega) | fail) only[wk,wu,aT,ag,aO,y0,y10,y11,y12,y14,y16,y18,reduceIte,tsF,hl,dM];exact((VH.Ge.refl O).push _).set (aev _) _
 ·(have hg:L.getD i (γ,Α,[])=(γ,Α,[]):=by rw[apE,auv Λ];rfl);rw[hg];simp(disch:=first | omega | (simp only[ds]<;>omega) | fail) only[wk,wu,aT,ag,aO,y0,y10,y11,y12,y14,y16,y18,reduceIte,tsF,dM];exact((VH.Ge.refl O).push _).set (aev _) _
def uh:=abT T9<|abT ue<|abT T3<|abT T4 wL
def adp(l:List Ρ)(tk:Tok)(v:Ρ)(O:VH)(hl:Ζ l<=maxLen):VF Ε 154 [.l (Ζ l) (l.map .s) tk,.s v] O (aC λm O'=>m=mi (match l.findIdx? (v== ·)with | some i=>(i:Int) | none=> -1)/\O'=O):=by
 have hm:(Ζ l:Int)<=9223372036854775807:=by simp[maxLen]at hl;omega
 refine χ 19 [.tmp 4] func154 ?_;refine ae uh ?_;refine WC.cj [8] [0,1,7] (λj:Nat=>[mi j]) (λj O'=>O'=O/\j<=(Ζ l)/\∀k (hk:k<Ζ l),k<j->(v==l[k])=γ) (λj=>(Ζ l) - j) (0) ?_ ?_;exact⟨rfl,Λ,λk _ h=>Λ⟩;rintro j O2 ⟨rfl,hj,cZ⟩;by_cases h2:j<Ζ l;cases he:v==l[j];refine aF uh (ai8 h2) @he ?_;refine aw.N (j+1) ?_;refine⟨rfl,Λ,λk hk hkj=>?_⟩;rcases Nat.lt_succ_iff_lt_or_eq.1 hkj with h | rfl;exact cZ k hk h;exact he;refine aF uh (ai8 h2) @he ?_;rw[List.findIdx?_eq_some_iff_getElem.2 ⟨h2,he,λk hk=>by rw[cZ k Λ hk];simp⟩]
 ·refine ae uh ?_
  rw[List.findIdx?_eq_none_iff.2 (λw hw=>by
   obtain⟨k,hk,rfl⟩:=List.mem_iff_getElem.1 hw;exact cZ k hk Λ)]
def Hk:List Ρ:=[[97,108,112,104,97],[98,101,116,97],[109,105,108,101,115,116,111,110,101],[114,99],[115,110,97,112,115,104,111,116],[],[115,112]]
def fi(p:il):Int:=if p.2.1 then(if p.2.2==[]then 5 else if p.1 then 8 else 9)else match Hk.findIdx? (p.2.2== ·)with
 | some i=>i
 | none=>7
def SZ(p:il)(O:VH):VF Ε 164 [.agg (dM p)] O (aC λm O'=>m=mi (fi p)/\O.Ge O'):=by
 obtain⟨hy,nb,t⟩:=p;have bK:=λx=>(VH.Ge.refl O).push x
 unfold fi;dsimp only;refine χ 20 [.tmp 2] func164 ?_;cases nb
 ·simp(disch:=first | omega | (simp only[ds]<;>omega) | fail) only[wk,wu,aT,ag,aO,y0,y10,y11,y12,y14,y16,y18,reduceIte,uh,dM];refine π (adp Hk .full t _ (by simp[Hk,maxLen])) ?_;rintro _ O2 ⟨rfl,rfl⟩;cases hf:Hk.findIdx? (t== ·)with
  | none=>
    refine ae uh ?_;exact bK _
  | some i=>
    refine ae uh ?_;exact bK _
 ·cases he:t==[];cases hy;((simp(disch:=first | omega | (simp only[ds]<;>omega) | fail) only[wk,wu,aT,ag,aO,y0,y10,y11,y12,y14,y16,y18,reduceIte,uh,dM,he];exact bK _);simp(disch:=first | omega | (simp only[ds]<;>omega) | fail) only[wk,wu,aT,ag,aO,y0,y10,y11,y12,y14,y16,y18,reduceIte,uh,dM,he];exact bK _);simp(disch:=first | omega | (simp only[ds]<;>omega) | fail) only[wk,wu,aT,ag,aO,y0,y10,y11,y12,y14,y16,y18,reduceIte,uh,dM,he];exact bK _
def uS(a b:Ρ):Int:=Lib.compareBytes a b
def PO(a b:Ρ)(O:VH):eY Ε 207 [.s a,.s b] O λm O'=>m=mi (uS a b)/\O'=O:=by
 refine eY.of (ex:=Extern.BytealgCompare.compare) func207 z11 z11 z11 z11 λG w vs hw hv=>?_
 obtain⟨u,us,rfl,h1,h2⟩:=hv.eX;obtain⟨u2,us2,rfl,h3,h4⟩:=h2.eX;rw[h4.jd];cases h1;cases h3;exact⟨_,Lib.run_compareString _ _ w,.v rfl⟩
def Er(a b:Ρ)(O:VH):VF Ε 188 [.s a,.s b] O (aC λm O'=>m=mi (uS a b)/\O'=O):=by
 refine χ 8 [.tmp 4] func188 ?_;refine BG ?_;refine ah.ext (PO a b O) rfl ?_;rintro _ O2 ⟨rfl,rfl⟩;exact BG trivial
def AV(a b:Ρ)(O:VH):VF Ε 166 [.s a,.s b] O (aC λm O'=>m=mi (uS a b)/\O'=O):=by
 refine χ 8 [.tmp 4] func166 ?_;refine BG ?_;refine π (Er a b O) ?_;rintro _ O2 ⟨rfl,rfl⟩;exact BG trivial
def wM(a b:il):Int:=
 if xj (fi a) (fi b)≠0 then xj (fi a) (fi b)
 else if fi a=7 then uS a.2.2 b.2.2
 else if fi a>7 then(if xj (Ζ a.2.2) (Ζ b.2.2)≠0 then xj (Ζ a.2.2) (Ζ b.2.2) else uS a.2.2 b.2.2)
 else 0
def XH(a b:il)(O:VH)(ha:Ζ a.2.2<=maxLen)(hb:Ζ b.2.2<=maxLen):VF Ε 135 [.agg (dM a),.agg (dM b)] O (aC λm O'=>m=mi (wM a b)/\O.Ge O'):=by
 have KY:(dM a).length=3:=rfl;have KZ:(dM b).length=3:=rfl;have ht:∀p:il,((dM p).drop 0).take 3=dM p:=λp=>rfl
 have BI:∀p:il,(dM p)[2]?=φ (.s p.2.2):=λp=>rfl
 have bK:=((VH.Ge.refl O).push (.cells (dM a))).push (.cells (dM b));simp only[maxLen]at ha hb;unfold wM;refine χ 43 [.tmp 4] func135 ?_;refine ak uh ht ?_;refine π (SZ a _) ?_;rintro _ O2 ⟨rfl,ax⟩;have h0:=ax.hp O.N (by simp only[ds];omega);have h1:=ax.hp (O.N+1) (by simp only[ds];omega);((simp(disch:=first | omega | (simp only[ds]<;>omega) | fail) only[ws,aO,y0,y10,y11,y12,y14,y16,y18,reduceIte]at h0 h1;have bK:=bK.trans ax;refine aF uh ht h1 ?_;refine π (SZ b _) ?_;rintro _ O3 ⟨rfl,aB⟩;have h2:=aB.hp O.N (by have:=ax.N;simp only[ds]at this;omega);have h3:=aB.hp (O.N+1) (by have:=ax.N;simp only[ds]at this;omega);rw[h0]at h2;rw[h1]at h3;have bK:=bK.trans aB;refine ae uh ?_;refine π (aax (fi a) (fi b) _) ?_;rintro _ O4 ⟨rfl,rfl⟩;by_cases c1:xj (fi a) (fi b)=0);rw[if_neg (by simpa using c1)];by_cases c2:fi a=7;rw[if_pos c2];refine bo uh h2 h3 BI ?_;refine π (AV a.2.2 b.2.2 _) ?_;rintro _ O5 ⟨rfl,rfl⟩;refine ae uh ?_;exact bK;rw[if_neg c2];by_cases c3:fi a>7;rw[if_pos c3];refine bo uh h2 h3 BI ?_;refine π (aax (Ζ a.2.2) (Ζ b.2.2) _) ?_;rintro _ O5 ⟨rfl,rfl⟩;by_cases c4:xj (Ζ a.2.2) (Ζ b.2.2)=0;rw[if_neg (by simpa using c4)];refine bo uh h2 h3 BI ?_;refine π (AV a.2.2 b.2.2 _) ?_;rintro _ O5 ⟨rfl,rfl⟩;refine ae uh ?_;exact bK;rw[if_pos c4];refine ae uh ?_;exact bK;rw[if_neg c3];refine ae uh ?_;exact bK);rw[if_pos c1];refine ae uh ?_;exact bK
def CX:=abT T9<|abT T3<|abT T4<|abT T5<|abT qm<|abT SU<|abT MC<|abT aqe ME
structure gB(O:VH)(B b:Nat)(q:ϑ)(s:Ρ):Prop where
 cell:∃p buf,O.hp b=φ (.cells [p,buf])/\(p= .v (.pointer Β)\/p= .p b 0)/\GR O 5 1 B buf (Ζ s) (s.map ef)/\gid buf=q/\buf≠ .l 0 [] .full
 ne:q≠φ b
 n4:∃j,B<=j/\j<O.N/\O.hp j=φ (.shape b 141 2)
 lo:B<=b
 hi:b<O.N
 nz:s=[]->q=Β
structure gh(O:VH)(b:Nat)(q:ϑ)(O':VH)(q':ϑ):Prop where
 N:O.N<=O'.N
 hp:∀i,i<O.N->i≠b->q≠φ i->O'.hp i=O.hp i
 new:∀i,i<O.N->q≠φ i->q'≠φ i
def gB.MH{s:Ρ}(h:gB O B b q s):∀i,O.N<=i->q≠φ i:=by
 intro i hi e;obtain⟨p,buf,_,_,hg,hq,_⟩:=h.cell;rcases hg with⟨_,_,rfl | rfl⟩ | ⟨k,c,rfl,_,_,hr⟩;rw[<-hq]at e;cases e;rw[<-hq]at e;cases e;rw[<-hq]at e;injection e with e;have:=hr.hi;omega
def gB.uT{s:Ρ}(h:gB O B b q s):∀i,q=φ i->B<=i:=by
 intro i e;obtain⟨p,buf,_,_,hg,hq,_⟩:=h.cell;rcases hg with⟨_,_,rfl | rfl⟩ | ⟨k,c,rfl,_,_,hr⟩;rw[<-hq]at e;cases e;rw[<-hq]at e;cases e;rw[<-hq]at e;injection e with e;rw[<-e];exact hr.lo
def gh.ge{O0:VH}{q':ϑ}(h:O0.Ge O)(u:gh O b q O' q')(hb:O0.N<=b)(hq:∀i,q=φ i->O0.N<=i):O0.Ge O':=
 ⟨ahB h.N u.N,λi hi=>(u.hp i (ai_ hi h.N) Λ (λe=>by have:=hq i e;omega)).trans (h.hp i hi)⟩
def gB.fc{s:Ρ}(h:gB O B b q s)(hn:O.N<=O'.N)(hb:O'.hp b=O.hp b)(hq:∀i,q=φ i->O'.hp i=O.hp i)(hs:∀j k t n,O.hp j=φ (.shape k t n)->j<O.N->O'.hp j=O.hp j):gB O' B b q s:=by
 obtain⟨p,buf,h1,h2,h3,h4,h5⟩:=h.cell;obtain⟨j,j1,j2,j3⟩:=h.n4;refine⟨⟨p,buf,hb.trans h1,h2,?_,h4,h5⟩,h.ne,⟨j,j1,Λ,(hs j _ _ _ j3 j2).trans j3⟩,h.lo,by have:=h.hi;omega,h.nz⟩;rcases h3 with h3 | ⟨k,c,rfl,g1,g2,g3⟩;exact .inl h3;refine .inr ⟨k,c,rfl,g1,g2,?_⟩;obtain⟨sp,r1,r2⟩:=g3.cells;obtain⟨i,i1,i2,i3⟩:=g3.n4;exact⟨⟨sp,(hq k h4.symm).trans r1,r2⟩,⟨i,i1,Λ,(hs i _ _ _ i3 i2).trans i3⟩,g3.lo,by have:=g3.hi;omega⟩
def gB.r7{s:Ρ}(h:gB O B b q s)(u:aL O Β O'):gB O' B b q s:=
 h.fc u.N (u.hp b h.hi z10) (λi hi=>u.hp i (by
  rcases aus i O.N with h' | h';exact h';exact absurd hi (h.MH i h')) z10) λj _ _ _ _ hl=>u.hp j hl z10
def gB.set{s:Ρ}{x:bO}(h:gB O B b q s)(hi:O.hp i=φ (.cells cs))(hb:i≠b)(hq:q≠φ i):gB (O.set i x) B b q s:=
 h.fc (aev _) (τ _ _ (Ne.symm hb)) (λk hk=>τ _ _ (λe=>hq (by rw[hk,e]))) λj _ _ _ hj _=>τ _ _ (λe=>by rw[e,hi]at hj;cases hj)
def gB.fresh(O:VH)(hB:B<=O.N):gB ((O.push (.cells [.v (.pointer Β),.l 0 [] .nil])).push (.shape O.N 141 2)) B O.N Β []:=
 ⟨⟨_,_,(VH.gY _ _ (by show O.N<O.N+1;omega)).trans (ζ _ _),.inl rfl,.inl ⟨rfl,rfl,.inl rfl⟩,rfl,z10⟩,z10,⟨O.N+1,Λ,by show O.N+1<O.N+1+1;omega,ζ _ _⟩,hB,by show O.N<O.N+1+1;omega,λ_=>rfl⟩
def S0(k o:Nat)(O:VH):eY Ε 112 [.p k o] O λm O'=>m= .p k o/\O'=O:=by
 refine eY.of (ex:=Extern.AbiNoEscape.same) func112 z11 z11 z11 z11 λG w vs hw hv=>?_
 obtain⟨u,us,rfl,h1,h2⟩:=hv.eX;rw[h2.jd];exact⟨u,Lib.run_noEscape w u,h1⟩
def CY{s:Ρ}(h:gB O B b q s):VF Ε 81 [.p b 0] O (aC λm O'=>gB O' B b q s/\gh O b q O' q):=by
 obtain⟨p,buf,h1,h2,h3,h4,h5⟩:=h.cell;obtain⟨j,j1,j2,j3⟩:=h.n4;have hb:=h.hi;refine χ 20 [] func81 ?_;rcases h2 with rfl | rfl;refine ak CX h1 ?_;refine VL.toU aa (.inl rfl) (el:=141) (by rw[SU];rfl) (by rw[ME];rfl) MC.1.1 z12 j3 z12 rfl rfl rfl ?_;refine BG ?_;refine ah.ext (S0 b 0 O) rfl ?_;rintro _ O2 ⟨rfl,rfl⟩;refine BG ?_;refine VL.aog aa (.inl rfl) (el:=141) (by rw[ME];rfl) (by rw[SU];rfl) MC.1.1 j3 z11 rfl rfl rfl ?_;refine ak CX h1 ?_;refine⟨⟨⟨_,buf,υ _ _ _,.inr rfl,h3.fc aL.set (by rw[h4];exact h.ne) (λk t n=>by rw[h1];simp),h4,h5⟩,h.ne,⟨j,j1,j2,?_⟩,h.lo,h.hi,h.nz⟩,⟨aev _,λi _ hi _=>τ _ _ hi,λ_ _ h=>h⟩⟩;rw[τ _ _ (λe=>by rw[e,h1]at j3;cases j3)];exact j3;simp(disch:=first | omega | (simp only[ds]<;>omega) | fail) only[wk,wu,aT,ag,aO,y0,y10,y11,y12,y14,y16,y18,reduceIte,CX,h1,Ss (op:=.neq) SU (s:=1) MC.1.1];exact⟨h,⟨aev _,λ_ _ _ _=>rfl,λ_ _ h=>h⟩⟩
def gB.grown{s:Ρ}{buf:MV}{z:Nat}{L:Ρ}(h:gB O B b q s)(h1:O.hp b=φ (.cells [p,buf]))(h2:p= .v (.pointer Β)\/p= .p b 0)(h4:gid buf=q)(hg:GR O' 5 1 B m n' (L.map ef))(hn:n'=Ζ L)(hu:aL O (gid buf) O')(tc:(∃k c,m= .bk k 0 n' c/\(gid buf=φ k\/(O.N<=k/\z≠0)))\/m=buf)(hf:buf≠ .l 0 [] .full)(hz:L=[]->z=0/\s=[]):
  gB (O'.set b (.cells [p,m])) B b (gid m) L/\gh O b q (O'.set b (.cells [p,m])) (gid m):=by
 subst hn;obtain⟨j,j1,j2,j3⟩:=h.n4;have hb:=h.hi
 have hm:m≠ .l 0 [] .full:=by
  rcases tc with⟨k,c,rfl,_⟩ | rfl;simp;exact hf
 have xk:∀i,i<O.N->q≠φ i->gid m≠φ i:=λi hi hq=>by
  rcases tc with⟨k,c,rfl,hk⟩ | rfl;rcases hk with hk | hk;rw[<-h4,hk]at hq;exact hq;intro e;injection e with e;have:=hk.1;omega;rw[h4];exact hq
 have hne:gid m≠φ b:=xk b hb h.ne;have hOb:O'.hp b=φ (.cells [p,buf]):=(hu.hp b hb (by rw[h4];exact h.ne)).trans h1
 have hqs:∀i k t n,O.hp i=φ (.shape k t n)->i<O.N->O'.hp i=O.hp i:=λi k t n hi hl=>hu.hp i hl λe=>by
  obtain⟨p',atv,g1,g2,g3,g4,g5⟩:=h.cell;rw[h1]at g1;injection g1 with g1;injection g1 with g1;injection g1 with e1 e2;injection e2 with e2;subst e2;rcases g3 with⟨_,_,rfl | rfl⟩ | ⟨k2,c2,rfl,_,_,hr⟩;cases e;cases e;injection e with e;subst e;obtain⟨sp,r1,_⟩:=hr.cells;rw[r1]at hi;cases hi
 refine⟨⟨⟨p,m,υ _ _ _,h2,hg.fc aL.set hne (λk t n=>by rw[hOb];simp),rfl,hm⟩,hne,⟨j,j1,ai_ j2 hu.N,?_⟩,h.lo,ai_ hb hu.N,λhL=>?_⟩,⟨hu.N,λi hi K_ hq=>(τ _ _ K_).trans (hu.hp i hi (by rw[h4];exact hq)),xk⟩⟩;rw[τ _ _ (λe=>by rw[e,h1]at j3;cases j3)];exact(hqs j _ _ _ j3 j2).trans j3;obtain⟨z0,s0⟩:=hz hL;have hq:=h.nz s0;rw[hq]at h4;rcases tc with⟨k,c,rfl,hk⟩ | rfl;rcases hk with hk | hk;rw[h4]at hk;cases hk;exact absurd z0 hk.2;exact h4
def vQ{s:Ρ}(c:UInt8)(h:gB O B b q s)(hl:Ζ s+1<=140737488355328:=by omega):VF Ε 82 [.p b 0,ef c] O (aC λm O'=>m= .v .nilIface/\∃q',gB O' B b q' (s++[c])/\gh O b q O' q'):=by
 refine χ 17 [.tmp 4] func82 ?_;refine ae CX ?_;refine π (CY h) ?_;rintro _ O1 ⟨h',u'⟩;obtain⟨p,buf,h1,h2,h3,h4,h5⟩:=h'.cell;have hb:=h'.hi;refine aF CX h1 @aA ?_;refine VL.grow aa (.inl rfl) (te:=⟨.int .u8,1,1,[.v (.int .u8 0)]⟩) (dx:=.slice 5) (q:=.l 1 [ef c] .full) (j:=1) (ds:=[ef c]) h3 rfl rfl z30 T5 z30 trivial z18 z13 (by have:=h'.lo;omega) rfl rfl rfl rfl ?_;intro m O2 hg hu _ tc;have hg':GR O2 5 1 B m (Ζ s+1) ((s++[c]).map ef):=by rw[aum];exact hg
 have hr:=h'.grown h1 h2 h4 hg' z10 hu (tc.imp_right (·.2.1)) h5 z10;have hO:O2.hp b=φ (.cells [p,buf]):=(hu.hp b hb (by rw[h4];exact h'.ne)).trans h1
 have fX:ey m=[m]/\dF m=Α:=by
  rcases tc with⟨k,cp,rfl,_⟩ | ⟨hj,_⟩;exact⟨rfl,rfl⟩;cases hj
 have eD:=r8 (O:=O2) (k:=b) (off:=1) (u:=.slice 5) (b:=24) (z:=[.l 0 [] .nil]) (cs:=[p,buf]) fX.1 fX.2 z10;refine aF CX @hO eD ?_;exact⟨_,hr.1,⟨ahB u'.N hr.2.N,λi hi K_ hq=>(hr.2.hp i (ai_ hi u'.N) K_ hq).trans (u'.hp i hi K_ hq),λi hi hq=>hr.2.new i (ai_ hi u'.N) hq⟩⟩
def bX{s:Ρ}(l:Ρ)(h:gB O B b q s)(hl:Ζ s+Ζ l<=140737488355328:=by omega):VF Ε 50 [.p b 0,.s l] O (aC λm O'=>m= .tuple [mi (Ζ l),.v .nilIface]/\∃q',gB O' B b q' (s++l)/\gh O b q O' q'):=by
 refine χ 19 [.tmp 4,.tmp 5] func50 ?_;refine ae CX ?_;refine π (CY h) ?_;rintro _ O1 ⟨h',u'⟩;obtain⟨p,buf,h1,h2,h3,h4,h5⟩:=h'.cell;have hb:=h'.hi;refine ak CX h1 ?_;refine VL.grow aa (.inl rfl) (te:=⟨.int .u8,1,1,[.v (.int .u8 0)]⟩) (dx:=.string) (q:=.s l) (j:=Ζ l) (ds:=l.map ef) h3 rfl (by rw[List.all_map];exact aul.2 λ_ _=>rfl) z30 T5 z21 trivial z18 z13 (by have:=h'.lo;omega) rfl rfl rfl rfl ?_;intro m O2 hg hu _ tc;have hg':GR O2 5 1 B m (Ζ s+Ζ l) ((s++l).map ef):=by rw[aum];exact hg
 have hr:=h'.grown h1 h2 h4 hg' z10 hu (tc.imp_right (·.2.1)) h5 (by simp[and_comm]);have hO:O2.hp b=φ (.cells [p,buf]):=(hu.hp b hb (by rw[h4];exact h'.ne)).trans h1
 have fX:ey m=[m]/\dF m=Α:=by
  rcases tc with⟨k,cp,rfl,_⟩ | ⟨_,rfl,_⟩;exact⟨rfl,rfl⟩;rcases h3 with⟨_,_,rfl | rfl⟩ | ⟨k,c,rfl,_⟩<;>exact⟨rfl,rfl⟩
 have eD:=r8 (O:=O2) (k:=b) (off:=1) (u:=.slice 5) (b:=24) (z:=[.l 0 [] .nil]) (cs:=[p,buf]) fX.1 fX.2 z10;refine aF CX @hO eD ?_;exact⟨_,hr.1,⟨ahB u'.N hr.2.N,λi hi K_ hq=>(hr.2.hp i (ai_ hi u'.N) K_ hq).trans (u'.hp i hi K_ hq),λi hi hq=>hr.2.new i (ai_ hi u'.N) hq⟩⟩
def r_{s:Ρ}(h:gB O B b q s)(hm:Ζ s<=maxLen:=by simp only[maxLen];omega):VF Ε 53 [.p b 0] O (aC λm O'=>m= .s s/\aL O q O'):=by
 obtain⟨p,buf,h1,h2,h3,h4,h5⟩:=h.cell;have hb:=h.hi;refine χ 14 [.tmp 2] func53 ?_;refine BG ?_;refine WC.bM (.held [10,11]) [(0,.rd),(1,.rd),(2,.rd),(3,.rd),(4,.rd),(5,.rd),(6,.rd),(7,.rd),(8,.rd),(9,.rd),(10,.one),(11,.rd)] ?_;have hO:O.hp b=φ (.cells [p,buf]):=h1;rcases h3 with⟨e1,e2,rfl | rfl⟩ | ⟨k,c,rfl,g1,g2,g3⟩;have hs:s=[]:=apG e1;subst hs;(simp(disch:=first | omega | (simp only[ds]<;>omega) | fail) only[wk,wu,aT,ag,aO,y0,y10,y11,y12,y14,y16,y18,reduceIte,CX,h1,zI];refine VL.aof aa z11 rfl rfl rfl rfl ?_;refine ae CX ?_;exact aL.refl _ _);exact absurd rfl h5
 ·(have hs:s≠[]:=λe=>by have:=h.nz e;rw[<-h4]at this;cases this);have hc:c≠0:=λe=>hs (apG Λ)
  have mH:Ζ s<=maxLen:=hm;simp(disch:=first | omega | (simp only[ds]<;>omega) | fail) only[wk,wu,aT,ag,aO,y0,y10,y11,y12,y14,y16,y18,reduceIte,CX,h1,zI,hc];refine VL.apV aa z11 (el:=5) (by rw[aqi];rfl) z11 g3 hs mH rfl rfl rfl rfl ?_;refine ae CX ?_;exact h4▸aL.kill
def py:=abT T9<|abT T3<|abT T4<|abT sZ<|abT wL<|abT SW SX
abbrev MI(O:VH)(B k c:Nat)(L:List il):Prop:=Row O 259 3 B k c (L.flatMap dM)
def FT(L:List il)(i:Nat):(L.flatMap dM).take (i*3)=(L.take i).flatMap dM/\(L.flatMap dM).drop (i*3)=(L.drop i).flatMap dM:=by
 induction i generalizing L with
 | zero=>simp
 | succ i ih=>
   cases L with
   | nil=>simp
   | cons p L=>
     have:=ih L;simp only[ai9,List.take_succ_cons,List.drop_succ_cons];rw[show(i+1)*3=(dM p).length+i*3 from by simp[dM];omega,List.take_append,List.drop_append];rw[apJ (by simp[dM]),asl (by simp[dM])];simp[this.1,this.2]
def MJ{k:Nat}{L:List il}(i:Nat)(h:MI O B k c L)(hi:i<Ζ L)(hc:Ζ L<=c)(hm:Ζ L<=9223372036854775807:=by omega):VF Ε 163 [.bk k 0 (Ζ L) c,mi i,mi (i+1)] O (aC λm O'=>m= .bk k 0 ((Ζ L) - 1) c/\MI O' B k c (L.take i++L.drop (i+1))/\aL O (φ k) O'):=by
 obtain⟨sp,h1,h2⟩:=h.cells;have cz:=kx L;refine χ 33 [.tmp 6] func163 ?_;simp(disch:=first | omega | (simp only[ds]<;>omega) | fail) only[wk,wu,aT,ag,aO,y0,y10,y11,y12,y14,y16,y18,reduceIte,py,aov sZ wL.1.1];refine WC.bM .any [(0,.au),(1,.au),(2,.au),(3,.au),(4,.au),(5,.au),(6,.one),(7,.au)] ?_;obtain⟨fs1,fs2⟩:=FT L i;obtain⟨fs3,fs4⟩:=FT L (i+1);have hA:((L.take i).flatMap dM).length=i*3:=by rw[kx,an5,auM Λ]
 have hD:((L.drop (i+1)).flatMap dM).length=((Ζ L) - (i+1))*3:=by rw[kx,apI]
 have ju:L.flatMap dM++sp=(L.take i).flatMap dM++((L.drop i).flatMap dM++sp):=by rw[<-an3, <-fs1, <-fs2,auw]
 have hlen:(L.flatMap dM++sp).length=(Ζ L)*3+Ζ sp:=by rw[Rn,cz]
 have oh:∀o' c',(o'=(i+1)*3\/(Ζ L) - (i+1)=0)->o'<=(i+1)*3->sW O 3 (.bk k o' ((Ζ L) - (i+1)) c')=φ ((Ζ L) - (i+1),(L.drop (i+1)).flatMap dM):=λo' c' ho La=>by
  simp only[sW,h1];rw[if_pos (by rw[hlen];omega)];(((congr 2);rcases ho with rfl | ho);rw[auy (by rw[cz];omega),fs4,apK (by rw[hD];omega),apJ (by rw[hD];omega)]);rw[ho,auK,List.take_zero];rw[ho,auK]at hD;exact(apG hD).symm
 have fX:((L.drop (i+1)).flatMap dM).all dF=Α:=by
  rw[List.all_flatMap,aul];intro p _;rfl
 have jD:db (L.flatMap dM++sp) (0+i*3) ((L.drop (i+1)).flatMap dM)=((L.take i).flatMap dM++(L.drop (i+1)).flatMap dM)++((L.drop i).flatMap dM++sp).drop ((L.drop (i+1)).flatMap dM).length:=by
  have e1:=om ((L.take i).flatMap dM) ((L.drop (i+1)).flatMap dM) ((L.drop i).flatMap dM++sp)
  rw[hA,apJ (l:=(L.drop (i+1)).flatMap dM) (by
   rw[Rn,kx,kx,apI,apI];omega)]at e1
  rw[ju,aui,e1]
 refine ae py ?_;have hn:i+((Ζ L) - (i+1))=(Ζ L) - 1:=Λ
 have eG:(Ζ L) - ((Ζ L) - 1)=1:=Λ
 have hAD:((L.take i).flatMap dM++(L.drop (i+1)).flatMap dM).length=((Ζ L) - 1)*3:=by rw[Rn,hA,hD, <-auC,hn]
 have hR:∀x:Η,x=((L.drop i).flatMap dM++sp).drop ((L.drop (i+1)).flatMap dM).length->Ζ x=c*3 - ((Ζ L) - 1)*3:=by
  rintro x rfl;have:=hlen;rw[h2]at this;rw[apI,Rn,hD,kx,apI];omega
 rw[<-an6]at hAD;generalize hx:((L.drop i).flatMap dM++sp).drop ((L.drop (i+1)).flatMap dM).length=R at jD;have PQ:=hR R hx.symm;rw[<-an6]at jD;generalize hL':L.take i++L.drop (i+1)=L' at*
 have fin:∀zs:Η,Ζ zs=3->MI ((O.set k (.cells (L'.flatMap dM++R))).set k (.cells (db (L'.flatMap dM++R) (L'.flatMap dM).length zs))) B k c L'/\aL O (φ k) ((O.set k (.cells (L'.flatMap dM++R))).set k (.cells (db (L'.flatMap dM++R) (L'.flatMap dM).length zs))):=λzs hz=>by
  rw[VH.set_set,om,an3];refine⟨h.aao ?_,aL.set⟩;rw[Rn,Rn,an5,apI,hAD,PQ,hz];have:(Ζ L)*3<=c*3:=Nat.mul_le_mul_right _ hc;omega
 rw[hAD]at fin;rw[aui]at jD;by_cases XI:c=i+1;refine ae py ?_;refine VL.room aa (.inr rfl) (te:=⟨_,3,24,_⟩) (dx:=.slice 259) h1 (oh _ _ (.inr Λ) (an2 _)) fX z39 wL.1.1 z39 trivial Λ (by rw[hD,hlen];dsimp only;omega) rfl rfl rfl rfl ?_;refine bo py jD @hn eG ?_;refine VL.clear aa (.inl rfl) z39 wL.1.1 (by rfl) z12 (υ _ _ _) (by rw[Rn,hAD,PQ];dsimp only;omega) rfl rfl rfl ?_;refine bo py jD @hn eG ?_;exact fin _ (by simp[fC]);refine ae py ?_;refine VL.room aa (.inr rfl) (te:=⟨_,3,24,_⟩) (dx:=.slice 259) h1 (oh _ _ (.inl rfl) (aev _)) fX z39 wL.1.1 z39 trivial Λ (by rw[hD,hlen];dsimp only;omega) rfl rfl rfl rfl ?_;refine bo py jD @hn eG ?_;refine VL.clear aa (.inl rfl) z39 wL.1.1 (by rfl) z12 (υ _ _ _) (by rw[Rn,hAD,PQ];dsimp only;omega) rfl rfl rfl ?_;refine bo py jD @hn eG ?_;exact fin _ (by simp[fC])
def VF.frozen{Φ Φ':MV->VH->Prop}(h:VF P f args O (aC Φ))(hf:∀m O', Φ m O'->∃k o n c sz cs,m= .bk k o n c/\O'.hp k=φ (.cells cs)/\o+sz<=(Ζ cs)/\ Φ' (.l n ((cs.drop o).take sz) (if c=n then .full else .av)) (O'.kill k)):VF P f args O (aC Φ'):=by
 intro G w vs hw hv;refine(h G w vs hw hv).mono λx w' ⟨r,O',H,h1,h2,h3,h4⟩=>?_
 cases r with
 | panic m=>exact h4.elim
 | ret m=>
   cases x with
   | panicked c=>exact h3.elim
   | outgrown=>exact h3.elim
   | returned v=>
     obtain⟨k,o,n,c,sz,cs,rfl,g1,g2,g3⟩:=hf m O' h4;obtain⟨H',e1,e2,e3⟩:=h2.freeze g1 h3 g2;exact⟨.ret _,_,H',h1.trans e1,e2,e3,g3⟩
def Row.adq{el:TypeId}{k:Nat}{L:Η}(h:Row O el sz B k c L):∃sp,O.hp k=φ (.cells (L++sp)):=by obtain⟨sp,h1,_⟩:=h.cells;exact⟨sp,h1⟩
def oW(p:Piece):il:=(p.2.1,p.1.all jF,if p.1.all jF then p.1.dropWhile (· ==48)else ug p.1 p.2.2)
def mO:List il->List il
 | []=>[]
 | p::r=>if p.2.2==[]&&(match mO r with | []=>Α | q::_=>q.1)then mO r else p::mO r
def CZ:List il->List il
 | []=>[]
 | p::r=>(γ,p.2)::r
def IJ:List il->List il
 | []=>[]
 | p::r=>p::mO r
def dD(s:Ρ):List il:=IJ (CZ ((s_ (s.map lo)).map oW))
def agb(s:Ρ):s_ s≠[]:=by
 unfold s_;rw[BH,if_neg Λ];simp
def MK(s:Ρ):(s_ s).length<=Ζ s+1:=(aay s (Ζ s+1)).2
def XJ(s:Ρ)(i:Nat):∀p∈(fU s i).1,Ζ p.1<=Ζ s:=by
 induction i with
 | zero=>intro p hp;cases hp
 | succ i ih=>
   intro p hp;rw[BH]at hp;split at hp;split at hp;rcases auz.1 hp with h | h;exact ih p h;rw[aup.1 h];simp;omega;split at hp;rcases auz.1 hp with h | h;exact ih p h;rw[aup.1 h];simp;omega;exact ih p hp;rcases auz.1 hp with h | h;exact ih p h;rw[aup.1 h];simp;omega
def IK(s:Ρ):∀p∈s_ s,Ζ p.1<=Ζ s:=XJ s _
def agc:∀(L:List Piece)(i:Nat)(h:i<Ζ L),((L.flatMap uQ).drop (i*3)).take 3=uQ L[i]
 | p::L,0,_=>by simp[uQ]
 | p::L,i+1,h=>by
   have:=agc L i z34;rw[ai9,auA];exact this
def kQ(L:List il)(i:Nat):List il:=L.take (i+1)++mO (L.drop (i+1))
def adr{L:List il}(h:i<Ζ L):kQ L i=L.take i++L[i]::mO (L.drop (i+1)):=by
 rw[kQ,bN _ _ h,an3];rfl
def S4{L:List il}(h:i+1<Ζ L):kQ L i=L.take (i+1)++(if L[i+1].2.2==[]&&(match mO (L.drop (i+2))with | []=>Α | q::_=>q.1)then mO (L.drop (i+2))else L[i+1]::mO (L.drop (i+2))):=by
 rw[kQ,auk h,mO]
def ads(L:List il):IJ L=kQ L 0:=by cases L<;>rfl
def S5(L:List il)(h:L≠[]):kQ L ((Ζ L) - 1)=L:=by
 have:0<Ζ L:=List.length_pos_iff.2 h;rw[kQ,show (Ζ L) - 1+1=(Ζ L) from by omega];simp[mO]
def IL(L:List il):(mO L).length<=Ζ L:=by
 induction L with
 | nil=>exact aev _
 | cons p r ih=>
   rw[mO];generalize (p.2.2==[]&&_)=b;cases b<;>simp<;>omega
def aaz(X:List il)(sp:Η)(i:Nat)(h:i<Ζ X):((X.flatMap dM++sp).drop (i*3)).take 3=dM X[i]:=by
 rw[auy (by rw[kx];omega),apK (by rw[apI,kx];omega)];exact XG X i h
def agd(X:List il)(sp:Η)(i j:Nat)(h:i<Ζ X)(hj:j<3):(X.flatMap dM++sp)[i*3+j]?=(dM X[i])[j]?:=by
 have:=aaz X sp i h;rw[<-this,auq,if_pos hj,List.getElem?_drop]
def age(s:Ρ)(O:VH)(hs:Ζ s<=10000):VF Ε 134 [.s s] O (aC λm O'=>∃k c,m= .bk k 0 (dD s).length c/\(dD s).length<=c/\MI O' O.N k c (dD s)/\O.Ge O'):=by
 have uU:(s.map lo).length=Ζ s:=apH _;refine χ 76 [.tmp 2] func134 ?_;refine ae py ?_;refine π (af_ s _ z13) ?_;rintro _ O1 ⟨rfl,S6⟩;refine ae py ?_;refine π (aoH (s.map lo) _ Λ) ?_;rintro _ O2 ⟨tk,rfl,cQ⟩;have bK:=S6.trans cQ.ge;have lU:=MK (s.map lo);have hct:=IK (s.map lo);have hne:=agb (s.map lo);have cz:=Hj (s_ (s.map lo));unfold dD;generalize s_ (s.map lo)=C at*;refine ae py ?_;refine WC.cj [3,14] [12,13] (λx:Nat×MV=>[x.2,mi x.1]) (λx O'=>x.1<=(Ζ C)/\O.Ge O'/\GR O' 259 3 O.N x.2 x.1 (((C.take x.1).map oW).flatMap dM)) (λx=>(Ζ C) - x.1) ((0,.l 0 [] .nil)) ?_ ?_;exact⟨an2 _,bK,.inl ⟨rfl,rfl,.inl rfl⟩⟩;rintro⟨j,m⟩ O3 ⟨hj,rf,ox⟩;dsimp only at hj rf ox;by_cases h2:j<Ζ C
 ·have GJ:=agc C j h2;have nT:=hct C[j] (apF h2);have An:oW C[j]=(C[j].2.1,C[j].1.all jF,if C[j].1.all jF then C[j].1.dropWhile (· ==48)else ug C[j].1 C[j].2.2):=rfl;rcases hpc:C[j]with⟨tx,hy,cl⟩;rw[hpc]at GJ nT An;simp only[uQ,bg]at GJ;dsimp only at nT An;refine ak py GJ ?_;refine π (SY tx _ z13) ?_;rintro _ O4 ⟨rfl,aV⟩;have h6:=aV.hp O3.N (by simp only[ds];omega);have h7:=aV.hp (O3.N+1) (by simp only[ds];omega);(simp(disch:=first | omega | (simp only[ds]<;>omega) | fail) only[ws,aO,y0,y10,y11,y12,y14,y16,y18,reduceIte]at h6 h7;have cC:aL O3 Β O4:=aL.dG ((((((VH.Ge.refl O3).push _).set (aev _) _).push _).set (auP _) _).trans aV);have fe:O3.N+2<=O4.N:=by have:=aV.N;simp only[ds]at this;omega);clear aV
  have fin:∀O5:VH,aL O3 Β O5->∀O6 m6,GR O6 259 3 O.N m6 (j+1) (((C.take j).map oW).flatMap dM++dM (oW C[j]))->aL O5 (gid m) O6->(gid m=Β->O5.Ge O6)->(j+1<=(Ζ C)/\O.Ge O6/\GR O6 259 3 O.N m6 (j+1) (((C.take (j+1)).map oW).flatMap dM)):=λO5 iJ O6 m6 dU gP ri=>by
   refine⟨Λ,?_,?_⟩;have h53:O.Ge O5:=iJ.geN rf;rcases ox with⟨_,_,rfl | rfl⟩ | ⟨k,c,rfl,_,_,hr⟩;exact h53.trans (ri rfl);exact h53.trans (ri rfl);exact gP.ge h53 hr.lo;rw[bN _ _ h2,aum,an6];simpa using dU
  rw[hpc]at fin;cases hd:tx.all jF;rw[An,hd]at fin;simp only[atM,if_false]at fin;refine aF py h6 h7 ?_;refine π (akm tx cl _) ?_;rintro _ O5 ⟨rfl,rfl⟩;refine aF py h6 h7 ?_;have iJ:=cC.new (aL.set (q:=O3.N+1) (x:=.cells [.v (.bool hy),.v (.bool γ),.s (ug tx cl)])) (auP _);have yh:O.N<=O5.N:=ahB rf.N Λ;refine VL.grow aa (.inl rfl) (te:=⟨_,3,24,_⟩) (dx:=.slice 259) (q:=.l 1 (dM (hy,γ,ug tx cl)) .full) (j:=1) (ds:=dM (hy,γ,ug tx cl)) (ox.r7 iJ) rfl rfl z39 wL.1.1 z39 trivial z18 z13 yh rfl rfl rfl rfl ?_;intro m6 O6 dU gP ri tc;refine ae py ?_;refine aw.N (j+1,m6) (fin _ iJ _ _ dU gP ri);rw[An,hd]at fin;simp only[if_true]at fin;refine aF py h6 h7 ?_;refine π (PN tx _) ?_;rintro _ O5 ⟨rfl,rfl⟩;refine aF py h6 h7 ?_;have iJ:=(cC.new (aL.set (q:=O3.N+1) (x:=.cells [.v (.bool hy),.v (.bool Α),.s []])) (auP _)).new (aL.set (q:=O3.N+1) (x:=.cells [.v (.bool hy),.v (.bool Α),.s (tx.dropWhile (· ==48))])) (auP _);have yh:O.N<=O5.N:=ahB rf.N Λ;refine VL.grow aa (.inl rfl) (te:=⟨_,3,24,_⟩) (dx:=.slice 259) (q:=.l 1 (dM (hy,Α,tx.dropWhile (· ==48))) .full) (j:=1) (ds:=dM (hy,Α,tx.dropWhile (· ==48))) (ox.r7 iJ) rfl rfl z39 wL.1.1 z39 trivial z18 z13 yh rfl rfl rfl rfl ?_;intro m6 O6 dU gP ri tc;refine ae py ?_;refine aw.N (j+1,m6) (fin _ iJ _ _ dU gP ri)
 ·have rB:j=Ζ C:=Λ
  subst rB;rcases ox with⟨e1,_⟩ | ⟨k,c,rfl,xf,nR,ca⟩;exact absurd (apG e1) hne
  obtain⟨p,C',rfl⟩:∃p C',C=p::C':=by cases C with
   | nil=>exact absurd rfl hne
   | cons p C'=>exact⟨p,C',rfl⟩
  rw[alp]at ca nR;obtain⟨sp,h1,h2⟩:=ca.cells;have PU:Row (O3.set k (.cells (((γ,(oW p).2)::C'.map oW).flatMap dM++sp))) 259 3 O.N k c (((γ,(oW p).2)::C'.map oW).flatMap dM):=ca.aao (by rw[<-h2,Rn,Rn,kx,kx];simp);simp only[auY,ai9,dM,bg,an7,an4]at h1 PU;((((((((have hC':Ζ C'<=10001:=by rw[TR]at lU;omega);refine aF py h1 @TR.{0} ?_;generalize hO:O3.set k _=O4;have Ao:O4=O3.set k (.cells (.v (.bool γ):: .v (.bool (oW p).2.1):: .s (oW p).2.2::((C'.map oW).flatMap dM++sp))):=by rw[<-hO]);rw[<-Ao]at PU;have AW:O.Ge O4:=by rw[Ao];exact rf.set ca.lo _);have vR:CZ (oW p::C'.map oW)=(γ,(oW p).2)::C'.map oW:=rfl;simp only[vR,ads];have IM:MI O4 O.N k c (((γ,(oW p).2)::C'.map oW)):=PU;have Es:((γ,(oW p).2)::C'.map oW).length=Ζ C'+1:=by simp);generalize (γ,(oW p).2)::C'.map oW=L at IM Es;have XK:kQ L (Ζ C')=L:=by have:=S5 L (by intro e;rw[e]at Es;simp at Es);rwa [Es]at this);refine WC.cj [3,8] [] (λi:Nat=>[.bk k 0 (kQ L i).length c,mi i]) (λi O'=>i<(Ζ L)/\O.Ge O'/\MI O' O.N k c (kQ L i)/\(kQ L i).length<=c) (λi=>i) (Ζ C') ?_ ?_ (h0:=(by rw[XK,Es];rfl)));exact⟨Λ,AW,by rw[XK];exact IM,by rw[XK,Es];simpa using xf⟩);clear AW IM PU hO Ao ca h1 h2;rintro i O5 ⟨hi,uV,nU,fY⟩;rcases aur i with rfl | hi0);refine ae py ?_;exact⟨k,c,rfl,fY,nU,uV⟩
  ·obtain⟨i,rfl⟩:∃i',i=i'+1:=⟨i - 1,Λ⟩
   have bh:=adr hi;have Et:=S4 hi;(((have bI:(L.take (i+1)).length=i+1:=by rw[an5];omega);obtain⟨sp,g1,g2⟩:=nU.cells;generalize hX:kQ L (i+1)=X at*;generalize hT:mO (L.drop (i+1+1))=T at*;have IN:Ζ X=i+1+1+Ζ T:=by rw[bh,Rn,bI,TR];omega);have PV:Ζ T<=10001:=by rw[<-hT];have:=IL (L.drop (i+1+1));rw[apI]at this;omega);have hiX:i+1<Ζ X:=Λ
   have hXi:X[i+1]=L[i+1]:=by
    simp only[bh];rw[auF Λ];simp[bI]
   have aaA:X.take (i+1)++X.drop (i+1+1)=L.take (i+1)++T:=by
    rw[bh,apK Λ,apJ Λ,List.drop_append,bI,asl (l:=L.take (i+1)) Λ];simp
   have hl:=aaz X sp (i+1) hiX;((have vS:(X.flatMap dM++sp).length=(Ζ X)*3+Ζ sp:=by rw[Rn,kx]);rw[hXi]at hl;generalize hp:L[i+1]=p at*;refine aF py @g1 @hl ?_;refine π (ado p _) ?_;rintro _ O6 ⟨rfl,dU⟩;have h6:=(dU.hp k nU.hi).trans g1;cases agf:p.2.2==[]);rw[agf]at Et;(have ki:kQ L i=X:=by rw[Et,bh];simp);refine ae py ?_;refine aw.N i ⟨Λ,uV.trans dU,by rw[ki];exact nU.r7 (aL.dG dU),by rw[ki];exact fY⟩ (hl:=(by rw[ki];rfl))
   ·rw[agf]at Et;cases T with
    | nil=>
      simp only[Ro,Nat.add_zero]at IN;((have hd:kQ L i=L.take (i+1)++[]:=by rw[Et];simp);have XL:(Ζ X) - 1=(kQ L i).length:=by rw[hd,aja,bI,IN];omega);rw[<-hd]at aaA;refine ak py h6 ?_;refine π (MJ (i+1) (nU.r7 (aL.dG dU)) hiX fY) ?_;rintro _ O7 ⟨rfl,PW,oy⟩;refine ae py ?_;refine aw.N i ⟨Λ,aL.ge (uV.trans dU) oy nU.lo,by rw[aaA]at PW;exact PW,Λ⟩ (hl:=z26)
    | cons q T'=>
      simp only[TR]at IN PV
      have hXq:(X.flatMap dM++sp)[(i+1+1)*3]?=φ (mb q.1):=by
       have:=agd X sp (i+1+1) 0 Λ Λ;rw[Nat.add_zero]at this;rw[this]
       have:X[i+1+1]' Λ=q:=by
        simp only[bh];rw[auF Λ];simp[bI]
       rw[this];rfl
      cases hq:q.1
      ·(have ki:kQ L i=X:=by rw[Et,bh];simp[hq]);have hg:=hXq;rw[hq]at hg;refine aF py h6 hg ?_;refine aw.N i ⟨Λ,uV.trans dU,by rw[ki];exact nU.r7 (aL.dG dU),by rw[ki];exact fY⟩ (hl:=(by rw[ki];rfl))
      ·(have hd:kQ L i=L.take (i+1)++q::T':=by rw[Et];simp[hq]);have XL:(Ζ X) - 1=(kQ L i).length:=by rw[hd,Rn,bI,IN,TR];omega
       rw[<-hd]at aaA;rw[hq]at hXq;refine aF py h6 hXq ?_;refine π (MJ (i+1) (nU.r7 (aL.dG dU)) hiX fY) ?_;rintro _ O7 ⟨rfl,PW,oy⟩;refine ae py ?_;refine aw.N i ⟨Λ,aL.ge (uV.trans dU) oy nU.lo,by rw[aaA]at PW;exact PW,Λ⟩ (hl:=z26)
def PY:=abT T9<|abT T3<|abT T4<|abT sZ<|abT wL<|abT SU MC
def S7(s:Ρ)(O:VH)(hs:Ζ s<=10000):VF Ε 134 [.s s] O (aC λm O'=>∃tk,m= .l (dD s).length ((dD s).flatMap dM) tk/\O.Ge O'):=by
 refine(age s O hs).frozen ?_;rintro m O' ⟨k,c,rfl,h1,h2,h3⟩;obtain⟨sp,h4⟩:=h2.adq;refine⟨k,0,_,c,(dD s).length*3,_,rfl,h4,by rw[Rn,kx];omega,(if c=(dD s).length then .full else .av),?_,h3.kill h2.lo⟩;rw[List.drop_zero,apK (by rw[kx];exact aev _),apJ (by rw[kx];exact aev _)]
def FU(s:Ρ):(dD s).length<=Ζ s+1:=by
 have h1:=MK (s.map lo);rw[apH]at h1;unfold dD;cases hc:(s_ (s.map lo)).map oW with
 | nil=>simp[CZ,IJ]
 | cons p r=>
   (have:(s_ (s.map lo)).length=Ζ r+1:=by rw[<-apH (f:=oW),hc];rfl);have h2:=IL r;simp only[CZ,IJ,TR];omega
def XN(s:Ρ)(b:Bool):(ug s b).length<=Ζ s+9:=by
 unfold ug;repeat' split
 all_goals simp
 all_goals omega
def XO(L:List il):∀p∈mO L,p∈L:=by
 induction L with
 | nil=>intro p h;exact h
 | cons q r ih=>
   intro p h;rw[mO]at h;generalize (q.2.2==[]&&_)=b at h;cases b;simp only[atM,if_false,asc]at h;rcases h with rfl | h;simp;exact auo _ (ih p h);simp only[if_true]at h;exact auo _ (ih p h)
def C0(s:Ρ):∀p∈dD s,Ζ p.2.2<=Ζ s+9:=by
 have key:∀p∈(s_ (s.map lo)).map oW,Ζ p.2.2<=Ζ s+9:=by
  intro p hp;obtain⟨q,hq,rfl⟩:=List.mem_map.1 hp;have h1:=IK (s.map lo) q hq;rw[apH]at h1;simp only[oW];split;have:=(List.dropWhile_sublist (l:=q.1) (· ==48)).length_le;omega;have:=XN q.1 q.2.2;omega
 unfold dD;cases hc:(s_ (s.map lo)).map oW with
 | nil=>intro p hp;cases hp
 | cons q r=>
   rw[hc]at key;intro p hp;simp only[CZ,IJ,asc]at hp;rcases hp with rfl | hp;exact key q z10;exact key p (auo _ (XO r p hp))
def iY:il:=(γ,Α,[])
def iK(l m:List il):Nat->Nat->Int
 | 0,_=>0
 | k+1,i=>if wM (l.getD i iY) (m.getD i iY)≠0 then wM (l.getD i iY) (m.getD i iY)else iK l m k (i+1)
def bt(a b:Ρ):Int:=iK (dD a) (dD b) (max (dD a).length (dD b).length) 0
def IP{L:List il}(h:∀p∈L,Ζ p.2.2<=n)(i:Nat):(L.getD i iY).2.2.length<=n:=by
 rw[apE];cases hi:L[i]? with
 | none=>simp[iY]
 | some p=>exact h p (List.mem_of_getElem? hi)
def lJ(a b:Ρ)(O:VH)(ha:Ζ a<=10000)(hb:Ζ b<=10000):VF Ε 108 [.s a,.s b] O (aC λm O'=>m=mi (bt a b)/\O.Ge O'):=by
 have la:=FU a;have lb:=FU b;have ta:=λi=>IP (C0 a) i
 have tb:=λi=>IP (C0 b) i
 unfold bt;refine χ 32 [.tmp 4] func108 ?_;refine ae @PY ?_;refine π (S7 a _ ha) ?_;rintro _ O1 ⟨tk1,rfl,aM⟩;refine ae @PY ?_;refine π (S7 b _ hb) ?_;rintro _ O2 ⟨S8,rfl,ax⟩;have bK:=aM.trans ax;generalize dD a=L at*;generalize dD b=M at*;refine ae @PY ?_;generalize hN:max (Ζ L) (Ζ M)=N;have An:max (Ζ L:Int) (Ζ M:Int)=(N:Int):=Λ
 rw[An];refine WC.cj [18] [5,6,17] (λi:Nat=>[mi i]) (λi O'=>i<=N/\O.Ge O'/\iK L M N 0=iK L M (N - i) i) (λi=>N - i) (0) ?_ ?_;exact⟨an2 _,bK,rfl⟩;rintro i O3 ⟨hi,rf,hc⟩;rw[hc];by_cases h2:i<N
 ·have hs:iK L M (N - i) i=if wM (L.getD i iY) (M.getD i iY)≠0 then wM (L.getD i iY) (M.getD i iY)else iK L M (N - (i+1)) (i+1):=by
   rw[show N - i=(N - (i+1))+1 from by omega];rfl
  rw[hs];refine ae PY ?_;refine π (alS L tk1 i _) ?_;rintro _ O4 ⟨rfl,aV⟩;refine ae PY ?_;refine π (alS M S8 i _) ?_;rintro _ O5 ⟨rfl,bB⟩;refine ae PY ?_;refine π (XH (L.getD i iY) (M.getD i iY) _ (by have:=ta i;simp only[maxLen];omega) (by have:=tb i;simp only[maxLen];omega)) ?_;rintro _ O6 ⟨rfl,dU⟩;have ri:=((rf.trans aV).trans bB).trans dU;by_cases h0:wM (L.getD i iY) (M.getD i iY)=0;rw[if_neg (by simpa using h0)];refine ae PY ?_;refine aw.N (i+1) ?_;exact⟨Λ,ri,rfl⟩;rw[if_pos h0];refine ae PY ?_;exact ri
 ·have:N - i=0:=Λ
  rw[this];simp(disch:=first | omega | (simp only[ds]<;>omega) | fail) only[wk,wu,aT,ag,aO,y0,y10,y11,y12,y14,y16,y18,reduceIte,PY,iK];exact rf
structure kG{α :Type}(c: α -> α ->Int):Prop where
 Lb:∀x y,c x y= -1\/c x y=0\/c x y=1
 td:∀x y,c y x= - c x y
 eq:∀x y z,c x y=0->c x z=c y z
 tr:∀x y z,c x y= -1->c y z= -1->c x z= -1
def kG.refl{α :Type}{c: α -> α ->Int}(h:kG c)(x: α):c x x=0:=by have:=h.td x x;omega
def kG.eqR{α :Type}{c: α -> α ->Int}(h:kG c)(x y z: α)(e:c y z=0):c x y=c x z:=by
 have:=h.eq y z x e;rw[h.td x y,h.td x z]at this;omega
def kG.PZ{α β :Type}{c: α -> α ->Int}(h:kG c)(f: β -> α):kG λx y=>c (f x) (f y):=
 ⟨λ_ _=>h.Lb _ _,λ_ _=>h.td _ _,λ_ _ _=>h.eq _ _ _,λ_ _ _=>h.tr _ _ _⟩
def wN{α :Type}(c d: α -> α ->Int)(x y: α):Int:=if c x y≠0 then c x y else d x y
def kG.lex{α :Type}{c d: α -> α ->Int}(h:kG c)(k:kG d):kG (wN c d):=by
 have P0:∀x y v,wN c d x y=v->(c x y≠0/\c x y=v)\/(c x y=0/\d x y=v):=λx y v hv=>by
  unfold wN at hv;by_cases e:c x y=0;rw[if_neg (by simpa using e)]at hv;exact .inr ⟨e,hv⟩;rw[if_pos e]at hv;exact .inl ⟨e,hv⟩
 have mk0:∀x y,c x y=0->wN c d x y=d x y:=λx y e=>if_neg (by simpa using e)
 have mk1:∀x y,c x y≠0->wN c d x y=c x y:=λx y e=>if_pos e
 refine⟨λx y=>?_,λx y=>?_,λx y z e=>?_,λx y z e1 e2=>?_⟩;by_cases e:c x y=0;rw[mk0 _ _ e];exact k.Lb x y;rw[mk1 _ _ e];exact h.Lb x y;have ha:=h.td x y;by_cases e:c x y=0;rw[mk0 _ _ e,mk0 _ _ Λ];exact k.td x y;rw[mk1 _ _ e,mk1 _ _ Λ];exact ha;rcases P0 _ _ _ e with⟨e1,e2⟩ | ⟨e1,e2⟩;exact absurd e2 e1;have h1:=h.eq x y z e1;have h2:=k.eq x y z e2;unfold wN;rw[h1,h2];rcases P0 _ _ _ e1 with⟨a1,a2⟩ | ⟨a1,a2⟩<;>rcases P0 _ _ _ e2 with⟨b1,b2⟩ | ⟨b1,b2⟩;have:=h.tr x y z a2 b2;rw[mk1 _ _ Λ];exact this;have:=h.eqR x y z b1;rw[mk1 _ _ Λ];omega;have:=h.eq x y z a1;rw[mk1 _ _ Λ];omega;have:=h.eq x y z a1;rw[mk0 _ _ Λ];exact k.tr x y z a2 b2
def S9:kG xj:=by
 refine⟨λx y=>?_,λx y=>?_,λx y z e=>?_,λx y z e1 e2=>?_⟩<;>simp only[xj]at* <;>(repeat' split at*)<;>omega
def MO:uS [] []=0:=rfl
def nq(a b:UInt8)(u v:Ρ):uS (a::u) (b::v)=if a.toNat<b.toNat then -1 else if b.toNat<a.toNat then 1 else uS u v:=by
 show(if a<b then(-1:Int)else if b<a then 1 else Lib.compareBytes u v)=_;simp only[UInt8.lt_iff_toNat_lt];rfl
def C3(b:UInt8)(v:Ρ):uS [] (b::v)= -1:=rfl
def oz(b:UInt8)(v:Ρ):uS (b::v) []=1:=rfl
def XQ:kG uS:=by
 refine⟨λx=>?_,λx=>?_,λx=>?_,λx=>?_⟩
 ·induction x with
  | nil=>intro y;cases y<;>simp[MO,C3]
  | cons a u ih=>
    intro y;cases y with
    | nil=>simp[oz]
    | cons b v=>rw[nq];have:=ih v;(repeat' split)<;>omega
 ·induction x with
  | nil=>intro y;cases y<;>simp[MO,C3,oz]
  | cons a u ih=>
    intro y;cases y with
    | nil=>simp[C3,oz]
    | cons b v=>rw[nq,nq];have:=ih v;(repeat' split)<;>omega
 ·induction x with
  | nil=>
    intro y z e;cases y with
    | nil=>rfl
    | cons b v=>rw[C3]at e;cases e
  | cons a u ih=>
    intro y z e;cases y with
    | nil=>rw[oz]at e;cases e
    | cons b v=>
      rw[nq]at e;(have h1:¬a.toNat<b.toNat:=λh=>by rw[if_pos h]at e;cases e);rw[if_neg h1]at e;have h2:¬b.toNat<a.toNat:=λh=>by rw[if_pos h]at e;cases e
      rw[if_neg h2]at e;cases z with
      | nil=>rw[oz,oz]
      | cons d ds=>
        have:=ih v ds e;rw[nq,nq];have e3:a.toNat=b.toNat:=Λ;rw[e3,this]
 ·induction x with
  | nil=>
    intro y z e1 e2;cases z with
    | nil=>cases y with
      | nil=>exact e1
      | cons b v=>rw[oz]at e2;cases e2
    | cons d ds=>rfl
  | cons a u ih=>
    intro y z e1 e2;cases y with
    | nil=>rw[oz]at e1;cases e1
    | cons b v=>
      cases z with
      | nil=>rw[oz]at e2;cases e2
      | cons d ds=>
        have:=ih v ds;rw[nq]at e1 e2 ⊢;by_cases h1:a.toNat<d.toNat;rw[if_pos h1];rw[if_neg h1];by_cases c1:a.toNat<b.toNat;rw[if_neg Λ,if_pos Λ]at e2;cases e2;rw[if_neg c1]at e1;by_cases c2:b.toNat<a.toNat;rw[if_pos c2]at e1;cases e1;rw[if_neg c2]at e1;rw[if_neg Λ]at e2;by_cases c3:d.toNat<b.toNat;rw[if_pos c3]at e2;cases e2;rw[if_neg c3]at e2;rw[if_neg Λ];exact this e1 e2
def MP(p:il):Int:=if fi p>7 then (Ζ p.2.2) else 0
def MS(p:il):Ρ:=if fi p<7 then[]else p.2.2
def agh(a b:il):wM a b=wN (λx y=>xj (fi x) (fi y)) (wN (λx y=>xj (MP x) (MP y)) λx y=>uS (MS x) (MS y)) a b:=by
 unfold wM wN;dsimp only;by_cases h0:xj (fi a) (fi b)=0
 ·have Lc:¬xj (fi a) (fi b)≠0:=by simpa using h0
  rw[if_neg Lc,if_neg Lc];(have hr:fi b=fi a:=by simp only[xj]at h0;(repeat' split at h0)<;>omega);have s0:xj 0 0=0:=rfl;unfold MP MS;simp only[hr];by_cases h7:fi a=7
  ·have e1:¬fi a>7:=Λ
   have e2:¬fi a<7:=Λ
   simp only[if_pos h7,if_neg e1,if_neg e2,s0,ne_eq,not_true_eq_false,if_false]
  ·rw[if_neg h7];by_cases h8:fi a>7
   ·have e2:¬fi a<7:=Λ
    simp only[if_pos h8,if_neg e2]
   ·have e2:fi a<7:=Λ
    simp only[if_neg h8,if_pos e2,s0,ne_eq,not_true_eq_false,if_false];rfl
 ·rw[if_pos h0,if_pos h0]
def MT:kG wM:=by
 have:wM=wN (λx y=>xj (fi x) (fi y)) (wN (λx y=>xj (MP x) (MP y)) λx y=>uS (MS x) (MS y)):=by
  funext a b;exact agh a b
 rw[this];exact(S9.PZ fi).lex ((S9.PZ MP).lex (XQ.PZ MS))
def aaB:Nat->Nat->(Nat->il)->(Nat->il)->Int
 | 0,_,_,_=>0
 | k+1,i,f,g=>wN (λf g=>wM (f i) (g i)) (aaB k (i+1)) f g
def yi:∀k i,kG (aaB k i)
 | 0,i=>⟨λ_ _=>.inr (.inl rfl),λ_ _=>rfl,λ_ _ _ _=>rfl,λ_ _ _ h=>by cases h⟩
 | k+1,i=>(MT.PZ λf:Nat->il=>f i).lex (yi k (i+1))
def C4(l m:List il):∀k i,iK l m k i=aaB k i (l.getD · iY) (m.getD · iY)
 | 0,_=>rfl
 | k+1,i=>by rw[iK,C4 l m k (i+1)];rfl
def AX(l m:List il):∀k i,Ζ l<=i->Ζ m<=i->iK l m k i=0
 | 0,_,_,_=>rfl
 | k+1,i,h1,h2=>by
   (have e1:l.getD i iY=iY:=by rw[apE,auv h1];rfl);have e2:m.getD i iY=iY:=by rw[apE,auv h2];rfl
   rw[iK,e1,e2,if_neg (by simp[MT.refl])];exact AX l m k (i+1) Λ Λ
def AY(l m:List il):∀k j i,Ζ l<=i+k->Ζ m<=i+k->iK l m (k+j) i=iK l m k i
 | 0,j,i,h1,h2=>by rw[aui];exact AX l m j i Λ Λ
 | k+1,j,i,h1,h2=>by
   rw[show k+1+j=(k+j)+1 from by omega,iK,iK,AY l m k j (i+1) Λ Λ]
def gO(a b:Ρ)(N:Nat)(ha:(dD a).length<=N)(hb:(dD b).length<=N):bt a b=aaB N 0 ((dD a).getD · iY) ((dD b).getD · iY):=by
 unfold bt;rw[<-C4];have:=AY (dD a) (dD b) (max (dD a).length (dD b).length) (N - max (dD a).length (dD b).length) 0 Λ Λ;rw[<-this];congr 1
 omega
def eT:kG bt:=by
 have key:∀a b c:Ρ,∃N,(dD a).length<=N/\(dD b).length<=N/\(dD c).length<=N:=λa b c=>⟨(dD a).length+(dD b).length+(dD c).length,Λ,Λ,Λ⟩
 refine⟨λx y=>?_,λx y=>?_,λx y z=>?_,λx y z=>?_⟩;obtain⟨N,h1,h2,_⟩:=key x y y;rw[gO x y N h1 h2];exact(yi N 0).Lb _ _;obtain⟨N,h1,h2,_⟩:=key x y y;rw[gO x y N h1 h2,gO y x N h2 h1];exact(yi N 0).td _ _;obtain⟨N,h1,h2,h3⟩:=key x y z;rw[gO x y N h1 h2,gO x z N h1 h3,gO y z N h2 h3];exact(yi N 0).eq _ _ _;obtain⟨N,h1,h2,h3⟩:=key x y z;rw[gO x y N h1 h2,gO x z N h1 h3,gO y z N h2 h3];exact(yi N 0).tr _ _ _
def qo:=abT T9<|abT T3<|abT T4<|abT T5 qm
def sb(s:Ρ)(c:UInt8):(0<=Lib.indexByte s c) ↔ c∈s:=by
 induction s with
 | nil=>simp[Lib.indexByte]
 | cons b l ih=>
   have bK:=Lib.indexByte_ge l c;unfold Lib.indexByte;by_cases hb:b=c;subst hb;simp
   ·have:(b==c)=γ:=by simpa using hb
    rw[this];simp only[atM,if_false,asc];by_cases h1:Lib.indexByte l c= -1;rw[h1]at ih ⊢;simp only[beq_self_eq_true,if_true];constructor;intro h;omega;rintro(h | h);exact absurd h.symm hb;have:=ih.2 h;omega
    ·have:(Lib.indexByte l c== -1)=γ:=by simpa using h1
     rw[this];simp only[atM,if_false];constructor;intro _;exact .inr (ih.1 Λ);rintro(h | h);exact absurd h.symm hb;have:=ih.2 h;omega
def BJ(s:Ρ)(c:UInt8)(O:VH):eY Ε 170 [.s s,ef c] O λm O'=>m=mi (Lib.indexByte s c)/\O'=O:=by
 refine eY.of (ex:=Extern.BytealgIndexByte.indexByte) func170 z11 z11 z11 z11 λG w vs hw hv=>?_
 obtain⟨u,us,rfl,h1,h2⟩:=hv.eX;obtain⟨u2,us2,rfl,h3,h4⟩:=h2.eX;rw[h4.jd];cases h1;have:=h3.jq;subst this;refine⟨_,Lib.run_indexByteString _ _ w,?_⟩;have e:((c.toNat:Int).toNat).toUInt8=c:=by simp
 rw[e];exact .v rfl
def vT(s:Ρ)(c:UInt8)(O:VH):VF Ε 141 [.s s,ef c] O (aC λm O'=>m=mi (Lib.indexByte s c)/\O'=O):=by
 refine χ 8 [.tmp 4] func141 ?_;refine BG ?_;refine ah.ext (BJ s c O) rfl ?_;rintro _ O2 ⟨rfl,rfl⟩;exact BG trivial
def adt(s:Ρ)(c:UInt8)(O:VH):VF Ε 114 [.s s,.s [c]] O (aC λm O'=>∃n:Int,m=mi n/\(0<=n ↔ c∈s)/\O'=O):=by
 refine χ 143 [.tmp 4] func114 ?_;cases h:([c]:Ρ)==s;refine bo qo @h @TR.{0} @Ro.{0} ?_;refine π (vT s c O) ?_;rintro _ O2 ⟨rfl,rfl⟩;refine ae qo ?_;exact⟨_,rfl,sb s c⟩;refine bo qo @h @TR.{0} @Ro.{0} ?_;(have:s=[c]:=by have:=beq_iff_eq.1 h;exact this.symm);exact⟨0,rfl,by rw[this];simp⟩
def P3(s:Ρ)(c:UInt8)(O:VH):VF Ε 86 [.s s,.s [c]] O (aC λm O'=>∃n:Int,m=mi n/\(0<=n ↔ c∈s)/\O'=O):=by
 refine χ 8 [.tmp 4] func86 ?_;refine BG ?_;refine π (adt s c O) ?_;rintro _ O2 ⟨n,rfl,h,rfl⟩;refine BG ?_;exact⟨n,rfl,h⟩
def vU(s:Ρ)(c:UInt8)(O:VH):VF Ε 59 [.s s,.s [c]] O (aC λm O'=>m=mb (s.contains c)/\O'=O):=by
 refine χ 9 [.tmp 4] func59 ?_;refine BG ?_;refine π (P3 s c O) ?_;rintro _ O2 ⟨n,rfl,h,rfl⟩;refine BG ?_
 have:s.contains c=decide (n>=0):=by
  rw[Bool.eq_iff_iff,List.contains_iff_mem,decide_eq_true_iff];exact h.symm
 rw[this]
def Eu(c:UInt8):Bool:=decide ((97<=c.toNat/\c.toNat<=122)\/(65<=c.toNat/\c.toNat<=90)\/(48<=c.toNat/\c.toNat<=57)\/c.toNat=46\/c.toNat=45\/c.toNat=95\/c.toNat=43)
def rj(s:Ρ):Bool:=s.all Eu&&(decide (1<=Ζ s)&&decide (Ζ s<=64))
def IQ(c:UInt8):((97<=c.toNat/\c.toNat<=122)\/(65<=c.toNat/\c.toNat<=90)\/(48<=c.toNat/\c.toNat<=57)\/c.toNat=46\/c.toNat=45\/c.toNat=95\/c.toNat=43)\/((123<=c.toNat)\/(91<=c.toNat/\c.toNat<=96/\c.toNat≠95)\/(58<=c.toNat/\c.toNat<=64)\/(c.toNat<=47/\c.toNat≠43/\c.toNat≠45/\c.toNat≠46)):=Λ
def akn(s:Ρ)(O:VH)(hs:Ζ s<=maxLen):VF Ε 33 [.s s] O (aC λm O'=>m=mb (rj s)/\O'=O):=by
 have hm:(Ζ s:Int)<=9223372036854775807:=by simp[maxLen]at hs;omega
 refine χ 61 [.tmp 2] func33 ?_;refine ae qo ?_;refine WC.cj [3] [0] (λj:Nat=>[mi j]) (λj O'=>O'=O/\j<=(Ζ s)/\(s.take j).all Eu=Α) (λj=>(Ζ s) - j) (0) ?_ ?_;exact⟨rfl,an2 _,rfl⟩;rintro j O2 ⟨rfl,hj,ia⟩;by_cases h2:j<Ζ s
 ·have hc:=IQ s[j];have pq:=ai8 h2;have bH:Eu s[j]=decide ((97<=s[j].toNat/\s[j].toNat<=122)\/(65<=s[j].toNat/\s[j].toNat<=90)\/(48<=s[j].toNat/\s[j].toNat<=57)\/s[j].toNat=46\/s[j].toNat=45\/s[j].toNat=95\/s[j].toNat=43):=rfl;(have fh:(s.take (j+1)).all Eu=Eu s[j]:=by rw[bN _ _ h2,auO,ia];simp);generalize hx:s[j]=c at*;rcases hc with hc | hc
  ·(have h1:Eu c=Α:=by rw[bH];exact decide_eq_true hc);rw[h1]at fh;rcases hc with hc | hc | hc | hc | hc | hc | hc
   all_goals
    refine aF qo pq @aA ?_;refine aw.N (j+1) ?_;exact⟨rfl,Λ,fh⟩
  ·have h1:Eu c=γ:=by rw[bH];exact decide_eq_false Λ
   have:rj s=γ:=by
    unfold rj;rw[auG.2 ⟨c,by rw[<-hx];exact apF h2,by simp[h1]⟩];rfl
   rw[this];rcases hc with hc | hc | hc | hc
   all_goals
    exact aF qo pq @aA trivial
 ·have rB:j=Ζ s:=Λ
  subst rB;rw[alp]at ia;unfold rj;rw[ia];by_cases h0:0<Ζ s;have e:decide (1<=Ζ s)=Α:=decide_eq_true h0;rw[e];by_cases BK:Ζ s<=64;exact ae qo trivial;exact ae qo trivial;have e:decide (1<=Ζ s)=γ:=decide_eq_false Λ;rw[e];exact ae qo trivial
def P4(s:Ρ)(O:VH)(hs:Ζ s<=maxLen):VF Ε 31 [.s s] O (aC λm O'=>m=mb (rj s)/\O.Ge O'):=by
 have hm:(Ζ s:Int)<=9223372036854775807:=by simp[maxLen]at hs;omega
 have P5:=ζ O (.cells (s.map ef));have oA:=(VH.Ge.refl O).push (.cells (s.map ef));refine χ 50 [.tmp 2] func31 ?_;refine ae qo ?_;refine VL.bytes aa (el:=5) (l:=s) rfl rfl z21 z30 z44 hs rfl λcap h1 h2=>WL.sound aa ?_
 refine ae qo ?_;refine WC.cj [9] [0,7,8] (λj:Nat=>[mi j]) (λj O'=>(O.push (.cells (s.map ef))).Ge O'/\j<=(Ζ s)/\(s.take j).all Eu=Α) (λj=>(Ζ s) - j) (0) ?_ ?_;exact⟨VH.Ge.refl _,an2 _,rfl⟩;rintro j O2 ⟨kZ,hj,ia⟩;have vV:=(kZ.hp O.N (as0 _)).trans P5;by_cases h2:j<Ζ s
 ·have hc:=IQ s[j];have pq:=ai8 h2;have bH:Eu s[j]=decide ((97<=s[j].toNat/\s[j].toNat<=122)\/(65<=s[j].toNat/\s[j].toNat<=90)\/(48<=s[j].toNat/\s[j].toNat<=57)\/s[j].toNat=46\/s[j].toNat=45\/s[j].toNat=95\/s[j].toNat=43):=rfl;(have fh:(s.take (j+1)).all Eu=Eu s[j]:=by rw[bN _ _ h2,auO,ia];simp);generalize hx:s[j]=c at*;have hD:jF c=decide (48<=c.toNat/\c.toNat<=57):=by unfold jF;rw[Bool.decide_and]
  have hC:([46,45,95,43]:Ρ).contains c=decide (c.toNat=46\/c.toNat=45\/c.toNat=95\/c.toNat=43):=by
   rw[Bool.eq_iff_iff,List.contains_iff_mem,decide_eq_true_iff];simp only[asc,auJ,or_false, <-UInt8.toNat_inj];rfl
  rcases hc with hc | hc
  ·(have h1:Eu c=Α:=by rw[bH];exact decide_eq_true hc);rw[h1]at fh;rcases hc with hc | hc | hc | hc | hc | hc | hc
   ·refine bo qo pq vV @aA ?_;refine aw.N (j+1) ?_;exact⟨kZ,Λ,fh⟩
   ·refine bo qo pq vV @aA ?_;refine aw.N (j+1) ?_;exact⟨kZ,Λ,fh⟩
   ·rw[decide_eq_true Λ]at hD;refine bo qo pq vV @aA ?_;refine π (lI c _) ?_;rintro _ O3 ⟨rfl,rfl⟩;rw[hD];refine ae qo ?_;refine aw.N (j+1) ?_;exact⟨kZ,Λ,fh⟩
   all_goals
    rw[decide_eq_false Λ]at hD;rw[decide_eq_true Λ]at hC;refine bo qo pq vV @aA ?_;refine π (lI c _) ?_;rintro _ O3 ⟨rfl,rfl⟩;rw[hD];refine ae qo ?_;refine VL.aeT aa (el:=5) (l:=[c]) rfl rfl z30 z21 z44 rfl rfl rfl (WL.sound aa ?_);refine ae qo ?_;refine π (vU [46,45,95,43] c _) ?_;rintro _ O4 ⟨rfl,rfl⟩;rw[hC];refine ae qo ?_;refine aw.N (j+1) ?_;exact⟨kZ,Λ,fh⟩
  ·have h1:Eu c=γ:=by rw[bH];exact decide_eq_false Λ
   have:rj s=γ:=by
    unfold rj;rw[auG.2 ⟨c,by rw[<-hx];exact apF h2,by simp[h1]⟩];rfl
   rw[this];rw[decide_eq_false Λ]at hD hC;rcases hc with hc | hc | hc | hc
   all_goals
    refine bo qo pq vV @aA ?_;refine π (lI c _) ?_;rintro _ O3 ⟨rfl,rfl⟩;rw[hD];refine ae qo ?_;refine VL.aeT aa (el:=5) (l:=[c]) rfl rfl z30 z21 z44 rfl rfl rfl (WL.sound aa ?_);refine ae qo ?_;refine π (vU [46,45,95,43] c _) ?_;rintro _ O4 ⟨rfl,rfl⟩;rw[hC];refine ae qo ?_;exact oA.trans kZ
 ·have rB:j=Ζ s:=Λ
  subst rB;rw[alp]at ia;unfold rj;rw[ia];by_cases h0:0<Ζ s;have e:decide (1<=Ζ s)=Α:=decide_eq_true h0;rw[e];by_cases BK:Ζ s<=64;refine ae qo ?_;exact oA.trans kZ;refine ae qo ?_;exact oA.trans kZ;have e:decide (1<=Ζ s)=γ:=decide_eq_false Λ;rw[e];refine ae qo ?_;exact oA.trans kZ
def wO:Bool->List UInt8->List UInt8->List Piece
 | hy,cur,[]=>[(cur,hy,γ)]
 | hy,cur,c::r=>if AU c then(cur,hy,γ)::wO (c==45) [] r
   else match cur.getLast? with
    | none=>wO hy [c] r
    | some d=>if jF c=jF d then wO hy (cur++[c]) r else(cur,hy,Α)::wO Α [c] r
def adu(hy:Bool)(cur:Ρ):wO hy cur []=[(cur,hy,γ)]:=rfl
def XS{hy:Bool}{cur r:Ρ}{c:UInt8}(h:AU c=Α):wO hy cur (c::r)=(cur,hy,γ)::wO (c==45) [] r:=by rw[wO,if_pos h]
def even(l:Ρ):Prop:=(∀c∈l,AU c=γ)/\∀c∈l,∀d∈l,jF c=jF d
def Ev:∀(l cur r:Ρ)(hy:Bool),even (cur++l)->wO hy cur (l++r)=wO hy (cur++l) r
 | [],cur,r,hy,_=>by simp
 | c::l,cur,r,hy,h=>by
   have hm:AU c=γ:=h.1 c z10;have Mz:=Ev l (cur++[c]) r hy (by rw[an3];exact h);rw[an3,List.singleton_append]at Mz;rw[<-Mz,an7,wO,if_neg (by rw[hm];simp)];cases hl:cur.getLast? with
   | none=>
     have:cur=[]:=List.getLast?_eq_none_iff.1 hl;subst this;rfl
   | some d=>
     have hd:jF c=jF d:=h.2 c z10 d (List.mem_append_left _ (List.mem_of_getLast? hl));simp only[hd,if_true]
open Go.ChangeShapes
def G0(w:World):Gh:=⟨w,λ_=>Β,λb o=>w.cell? ⟨b,o,Β⟩,λ_=>Β⟩
def O0:VH:=⟨0,λ_=>Β⟩
def wr0(w:World)(hg:Rp w):WR (G0 w) O0 w where
 base:=Below.refl _ _
 fm _ _ _ h:=h
 sJ _ _:=⟨rfl,rfl,rfl⟩
 lx _ _ h:=by cases h
 inj _ _ _ _ _ h:=by cases h
 cells _ _ h:=by cases h
 map _ _ _ h:=by cases h
 tok _ h:=by cases h
 mX _ _ _ _ _ h:=by cases h
 n4 _ _ _ _ h:=by cases h
 obj _ _ h:=by cases h
 tX:=hg
 HD _ _ h:=by cases h
def El{H:Type}(enc:TypeId×Value->H)(P:Program)(w:World)(sp:Nat->Bool)(held:Bool)(t:TypeId)(Φ :Η->Prop):Prop:=
 ∀fuel cs x,DataW.trod enc P w 0 sp held fuel t cs=φ x->∃ms,aX (G0 w) ms cs/\ Φ ms
section
variable{H:Type}{enc:TypeId×Value->H}{P:Program}{w:World}{sp:Nat->Bool}{held:Bool}{t e:TypeId}
def El.str(ht:P.underlying t=φ .string):El enc P w sp held t λms=>∃l:Ρ,ms=[.s l]/\(Ζ l)<=maxLen:=by
 intro fuel cs x h;obtain⟨s,rfl,rfl,hs⟩:=DataW.trod_string ht h;exact⟨[.s s.data.toList],aX.cons (by cases s with | mk d=>cases d with | mk l=>exact .s) aX.nil,_,rfl,hs⟩
def XT{w:World}{a:Addr}(h:w.cell? a=φ v):a=⟨a.block,a.off,Β⟩:=by
 unfold World.cell? at h;split at h
 ·split at h;cases h
  ·rename_i hs;cases a with
   | mk b o s=>cases s with
     | none=>rfl
     | some x=>exact absurd rfl hs
 ·cases h
def El.slice(ht:P.underlying t=φ (.slice e))(he:El enc P w sp held e Φ)(mH:0<P.cellsOf e):
  El enc P w sp held t λms=>∃(rows:List Η)(tk:Tok),ms=[.l (Ζ rows) rows.flatten tk]/\(∀r∈rows, Φ r)/\(Ζ rows)<=maxLen:=by
 intro fuel cs x h;rcases DataW.trod_slice ht h with⟨rfl,rfl⟩ | ⟨a,len,cap,elems,rest,n,rfl,rfl,rfl,_,hlc,hm,hlen,Ld,_,_⟩;exact⟨[.l 0 [] .nil],aX.cons .slnil aX.nil,[],.nil,rfl,z10,z10⟩;by_cases h0:len=0;subst h0;exact⟨[.l 0 [] .av],aX.cons (.qE hm) aX.nil,[],.av,rfl,z10,z10⟩
 have each:∀i,i<len->∃ms ci,w.cells? 0 (a.add (i*P.cellsOf e)) (P.cellsOf e)=φ ci/\aX (G0 w) ms ci/\ Φ ms:=λi hi=>by
  have h1:=Ld i hi;have h2:elems[i]?=φ (elems[i]' Λ):=ai8 Λ;rw[h2]at h1;obtain⟨ci,h3,h4⟩:=Option.bind_eq_some_iff.1 h1;obtain⟨ms,h5,h6⟩:=he _ _ _ h4;exact⟨ms,ci,h3,h5,h6⟩
 have aoI:a=⟨a.block,a.off,Β⟩:=by
  obtain⟨_,ci,h1,_⟩:=each 0 Λ;obtain⟨_,h2,h3⟩:=World.cells?_some h1;have h4:=h3 0 mH;rw[auK]at h4;(have h5:(a.add 0).add 0=a:=by simp[Addr.add]);rw[h5]at h4;rw[ai8 Λ]at h4;exact XT h4
 obtain⟨b,o,s⟩:=a;obtain rfl:s=Β:=congrArg Addr.spot aoI
 have build:∀m,m<=len->∃(rows:List Η)(us:List Value),Ζ rows=m/\(Ζ us)=m*P.cellsOf e/\aX (G0 w) rows.flatten us/\(∀p u,us[p]?=φ u->w.cell? ⟨b,o+p,Β⟩=φ u)/\∀r∈rows, Φ r:=λm=>by
  induction m with
  | zero=>exactλ_=>⟨[],[],rfl,z10,aX.nil,λp u hu=>by simp at hu,z10⟩
  | succ m ih=>
    intro hm;obtain⟨rows,us,h1,h2,h3,h4,h5⟩:=ih Λ;obtain⟨ms,ci,g1,g2,g3⟩:=each m Λ;obtain⟨_,g4,g5⟩:=World.cells?_some g1;refine⟨rows++[ms],us++ci,by simp[h1],by rw[Rn,h2,g4,auC,Nat.one_mul],?_,λp u hu=>?_,λr hr=>?_⟩;rw[List.flatten_append,List.flatten_cons,List.flatten_nil,aja];exact aX.append h3 g2;rcases aus p (Ζ us) with hp | hp;rw[auH hp]at hu;exact h4 p u hu;rw[aug hp]at hu;have cz:=(auI.1 hu).1;have:=g5 (p - (Ζ us)) Λ;rw[hu]at this;rw[<-this,Addr.add_lit,Addr.add_lit,h2,show o+m*P.cellsOf e+(p - m*P.cellsOf e)=o+p by omega];rcases auz.1 hr with hr | hr;exact h5 r hr;rw[aup.1 hr];exact g3
 obtain⟨rows,us,h1,h2,h3,h4,h5⟩:=build len (aev _);refine⟨[.l (Ζ rows) rows.flatten .av],aX.cons ?_ aX.nil,rows,.av,rfl,h5,Λ⟩;rw[h1];exact .l h3.1 (λp u hu=>h4 p u hu) h3.2 hlc hm trivial
def El.imp{Ψ:Η->Prop}(h:El enc P w sp held t Φ)(hi:∀ms, Φ ms-> Ψ ms):El enc P w sp held t Ψ :=λfuel cs x hx=>by
 obtain⟨ms,h1,h2⟩:=h fuel cs x hx;exact⟨ms,h1,hi _ h2⟩
def El.arg(h:El enc P w sp held t Φ){d:DataW H}{ps:List MemPlace}(hd:DataW.Trod enc P w 0 sp held t v d ps)(hc:v.cells= #[v]):∃m,VR (G0 w) m v/\ Φ [m]:=by
 obtain⟨fuel,h1⟩:=hd;rw[hc]at h1;obtain⟨ms,h2,h3⟩:=h _ _ _ h1
 match ms,h2 with
 | [m],h2=>exact⟨m,h2.2 0 m v rfl rfl,h3⟩
 | [],h2=>exact absurd h2.1 z10
 | _::_::_,h2=>exact absurd h2.1 z10
end
section
variable{H:Type}{enc:TypeId×Value->H}{P:Program}{w:World}{sp:Nat->Bool}{held:Bool}{t e:TypeId}
end
def VF.law{vs:Array Value}(hg:Rp w)(hv:aX (G0 w) ms vs.toList)(h:VF P f ms O0 (aC λm _=>m=mb Α)):
  Calls P f vs w λe w'=>e= .returned (.bool Α)/\Below w.heap.size w w':=by
 have:=h (G0 w) w vs.toList (wr0 w hg) hv;refine this.mono ?_;rintro x w' ⟨r,O',G,h1,h2,h3,h4⟩;cases r with
 | panic m=>exact h4.elim
 | ret m=>
   have h4:m=mb Α:=h4;subst h4;cases x with
   | returned v=>
     have h5:v= .bool Α:=h3.jq;refine⟨by rw[h5],?_⟩;have:=h2.base;rw[h1.w0]at this;(have hB:G.B=w.heap.size:=by unfold Gh.B;rw[h1.w0];rfl);rw[hB]at this;exact this
   | panicked c=>exact h3.elim
   | outgrown=>exact h3.elim
def adv(w:Ρ)(h:((w.all λc=> !AU c)&&(w.all λc=>w.all λd=>jF c==jF d))=Α):even w:=by
 simp only[Bool.and_eq_true,aul]at h;exact⟨λc hc=>by simpa using h.1 c hc,λc hc d hd=>by simpa using h.2 c hc d hd⟩
def okT(p:il):Prop:=even p.2.2/\(∀c∈p.2.2,lo c=c)/\(if p.2.1 then p.2.2.all jF=Α/\p.2.2.dropWhile (· ==48)=p.2.2 else p.2.2.all (λc=> !jF c)=Α/\ug p.2.2 γ=p.2.2)
def S_(p:il):Ρ:=(if p.2.1&&p.2.2==[]then[48]else[])++p.2.2
def agi(p:il):Ρ:=(if p.1 then 45 else 46)::S_ p
def adw{p:il}(h:okT p):even (S_ p):=by
 unfold S_;split;rename_i hc;((have:p.2.2=[]:=by simpa using(Bool.and_eq_true _ _▸hc:p.2.1=Α/\(p.2.2==[])=Α).2);rw[this];exact adv _ rfl);exact h.1
def chain:∀(r:List il)(_:∀p∈r,okT p)(w:Ρ)(_:even w)(hy:Bool),wO hy [] (w++r.flatMap agi)=(w,hy,γ)::r.map λp=>(S_ p,p.1,γ)
 | [],_,w,hw,hy=>by
   have:=Ev w [] [] hy (by simpa using hw);simpa[adu]using this
 | p::r,h,w,hw,hy=>by
   have ih:=chain r (λq hq=>h q (List.mem_cons_of_mem _ hq)) (S_ p) (adw (h p z10)) p.1;have h1:=Ev w [] ((p::r).flatMap agi) hy (by simpa using hw);(rw[h1,List.nil_append,List.flatMap_cons,agi,List.cons_append,XS (by cases p.1<;>rfl)];have hb:((if p.1 then 45 else 46:UInt8)==45)=p.1:=by cases p.1<;>rfl);rw[hb,ih,auY]
def agj{n:Sz}{D:List Deferred}{e:Env}(ht:aN P tab){src dst el:TypeId}{ty:TypeId}{nn:Nat}{l:Ρ}
  (hx:ev e x=φ (.l nn cs tk)) (hs:(tab src).map cg.under=φ (.slice el)) (vK:(tab dst).map cg.under=φ .string) (he:(tab el).map cg.under=φ (.int .u8)) (hn:nn=Ζ l) (ju:cs=l.map ef):
  dd P n D (.mk d (.convert src dst x) ty ps af g) e O λm O'=>m= .s l/\O'=O:=by
 subst hn ju;intro G a w hw hf;obtain⟨u,w',H,hr,h1,h2,h3,_⟩:=Mt (P:=P) ht hw hs vK he (hf.ev hx);exact⟨_,_,u,w',H,⟨rfl,rfl⟩,by simp only[execOp,Sem.run_bind,hr];rfl,h1,h2,h3⟩
def gC:=abT T9<|abT T3<|abT T4<|abT T5 qm
def ib(c:UInt8):Bool:=decide (c.toNat=32\/c.toNat=9\/c.toNat=10\/c.toNat=13)
def qp(c:UInt8):Bool:=decide ((65<=c.toNat/\c.toNat<=90)\/(97<=c.toNat/\c.toNat<=122)\/c.toNat=95)
def Ta(c:UInt8):Bool:=decide (c.toNat=46\/c.toNat=45\/c.toNat=58)
def qs(c:UInt8):Bool:=decide (32<=c.toNat\/c.toNat=9\/c.toNat=10\/c.toNat=13)
def pB(c:UInt8)(O:VH):VF Ε 128 [ef c] O (aC λm O'=>m=mb (ib c)/\O'=O):=by
 have hc:=c.toNat_lt;refine χ 17 [.tmp 2] func128 ?_;(((((rcases(show c.toNat=32\/c.toNat=9\/c.toNat=10\/c.toNat=13\/(c.toNat≠32/\c.toNat≠9/\c.toNat≠10/\c.toNat≠13)from by omega)with h | h | h | h | ⟨h1,h2,h3,h4⟩);refine ak gC @aA ?_;simp[ib,h]);refine ak gC @aA ?_;simp[ib,h]);refine ak gC @aA ?_;simp[ib,h]);refine ak gC @aA ?_;simp[ib,h]);refine ak gC @aA ?_;simp[ib,h1,h2,h3,h4]
def P6(f:FuncId)(p:UInt8->Bool)(s:Ρ)(O:VH)(hs:Ζ s<=maxLen)(hf:∀c O,VF Ε f [ef c] O (aC λm O'=>m=mb (p c)/\O'=O))(hb:cV Ε f=Α:=by kernel_rfl):
  VF Ε 127 [.s s,.func (.func f) [] []] O (aC λm O'=>m=mi (s.takeWhile p).length/\O'=O):=by
 have hm:(Ζ s:Int)<=9223372036854775807:=by simp[maxLen]at hs;omega
 refine χ 20 [.tmp 4] func127 ?_;refine ae gC ?_;refine WC.cj [5] [0,1] (λj:Nat=>[mi j]) (λj O'=>O'=O/\j<=(Ζ s)/\(s.takeWhile p).length=j+((s.drop j).takeWhile p).length) (λj=>(Ζ s) - j) (0) ?_ ?_;exact⟨rfl,an2 _,z10⟩;rintro j O2 ⟨rfl,hj,hw⟩;by_cases h2:j<Ζ s;have hg:=ai8 h2;have hd:=auk h2;generalize s[j]=c at*;refine ak gC hg ?_;refine π (hf c _) ?_ (hb:=hb);rintro _ O3 ⟨rfl,rfl⟩;cases hp:p c;refine ak gC hg ?_;rw[hw,hd,auD (by simp[hp])];trivial;refine ak gC hg ?_;refine aw.N (j+1) ?_;refine⟨rfl,Λ,?_⟩;rw[hw,hd,auE hp,TR];omega;refine ae gC ?_;rw[hw,asl Λ];trivial
def Tb(p:UInt8->Bool)(l:Ρ):Ρ:=(l.reverse.dropWhile p).reverse
def adx(p:UInt8->Bool)(l:Ρ)(a:UInt8):Tb p (l++[a])=if p a then Tb p l else l++[a]:=by
 unfold Tb;rw[List.reverse_append,List.reverse_singleton,List.singleton_append,List.dropWhile_cons];cases p a<;>simp
def trimB(s:Ρ):Ρ:=Tb ib (s.dropWhile ib)
def IS(p:UInt8->Bool):∀s:Ρ,s.drop (s.takeWhile p).length=s.dropWhile p
 | []=>rfl
 | c::s=>by
   cases h:p c;rw[auD (by simp[h]),List.dropWhile_cons_of_neg (by simp[h])];rfl;rw[auE h,List.dropWhile_cons_of_pos h,TR,List.drop_succ_cons,IS p s]
def nc(p:UInt8->Bool)(s:Ρ):(s.takeWhile p).length<=Ζ s:=(List.takeWhile_sublist p).length_le
def k9(p:UInt8->Bool)(s:Ρ):(s.dropWhile p).length<=Ζ s:=(List.dropWhile_sublist p).length_le
def agk(p:UInt8->Bool)(s:Ρ):(Tb p s).length<=Ζ s:=by
 unfold Tb;have:=k9 p s.reverse;simp only[List.length_reverse]at this ⊢;exact this
def BL(s:Ρ):(trimB s).length<=Ζ s:=ahB (agk _ _) (k9 _ _)
def P8(s:Ρ)(O:VH)(hs:Ζ s<=maxLen):VF Ε 101 [.s s] O (aC λm O'=>m= .s (trimB s)/\O'=O):=by
 have hm:(Ζ s:Int)<=9223372036854775807:=by simp[maxLen]at hs;omega
 have xG:=nc ib s;have hdw:=IS ib s;have rZ:=k9 ib s;unfold trimB;refine χ 23 [.tmp 2] func101 ?_;refine ae gC ?_;refine π (P6 128 ib s _ hs pB) ?_;rintro _ O2 ⟨rfl,rfl⟩;refine ak gC hdw ?_;generalize s.dropWhile ib=t at*;refine WC.cj [0] [] (λk:Nat=>[.s (t.take k)]) (λk O'=>O'=O2/\k<=(Ζ t)/\Tb ib t=Tb ib (t.take k)) (λk=>k) (Ζ t) ?_ ?_ (h0:=(by rw[alp];rfl));exact⟨rfl,aev _,by rw[alp]⟩;rintro k O3 ⟨rfl,hk,hr⟩;rw[hr];have hlen:(t.take k).length=k:=by rw[an5];omega
 rcases aur k with rfl | hk0;have aga:(([]:Ρ)==[])=Α:=rfl;refine ak gC aga ?_;trivial
 ·obtain⟨k,rfl⟩:∃j,k=j+1:=⟨k - 1,Λ⟩
  have h2:k<Ζ t:=Λ
  have fh:=bN t k h2;(((((have bh:(t.take (k+1))[k]?=φ t[k]:=by rw[auq,if_pos Λ,ai8 h2]);have hne:(t.take (k+1)==[])=γ:=by rw[fh];cases t.take k<;>rfl);have fR:=adx ib (t.take k) t[k];rw[<-fh]at fR;have By:(t.take (k+1)).take k=t.take k:=by rw[List.take_take];congr 1;omega);generalize t[k]=c at*;refine bo gC @hne @hlen bh ?_;refine π (pB c _) ?_;rintro _ O4 ⟨rfl,rfl⟩;cases hb:ib c);refine ae gC ?_;rw[fR,hb];trivial);rw[hb]at fR;refine aF gC @hlen By ?_;exact aw.N k ⟨rfl,Λ,by rw[fR];rfl⟩
abbrev Bs:=Ρ
def IT(c:UInt8)(O:VH):VF Ε 113 [ef c] O (aC λm O'=>m=mb (qp c)/\O'=O):=by
 have hc:=c.toNat_lt;refine χ 21 [.tmp 2] func113 ?_;((((((rcases(show c.toNat<65\/(65<=c.toNat/\c.toNat<=90)\/(90<c.toNat/\c.toNat<97/\c.toNat≠95)\/c.toNat=95\/(97<=c.toNat/\c.toNat<=122)\/122<c.toNat from by omega)with h | h | h | h | h | h);rw[show qp c=γ by simp[qp];omega];exact dT gC @aA);rw[show qp c=Α by simp[qp];omega];exact dT gC @aA);rw[show qp c=γ by simp[qp];omega];exact dT gC @aA);rw[show qp c=Α by simp[qp];omega];exact dT gC @aA);rw[show qp c=Α by simp[qp];omega];exact dT gC @aA);rw[show qp c=γ by simp[qp];omega];exact dT gC @aA
def o8(c:UInt8):Bool:=qp c||jF c||Ta c
def MU(c:UInt8)(O:VH):VF Ε 85 [ef c] O (aC λm O'=>m=mb (o8 c)/\O'=O):=by
 have hc:=c.toNat_lt;refine χ 21 [.tmp 2] func85 ?_;refine ae gC ?_;refine π (IT c _) ?_;rintro _ O2 ⟨rfl,rfl⟩;cases h1:qp c
 ·refine ae gC ?_;refine π (lI c _) ?_;rintro _ O2 ⟨rfl,rfl⟩;cases h2:jF c
  ·(rcases(show c.toNat=46\/c.toNat=45\/c.toNat=58\/(c.toNat≠46/\c.toNat≠45/\c.toNat≠58)from by omega)with h | h | h | h);rw[show o8 c=Α by simp[o8,h1,h2,Ta,h]];exact dT gC @aA
   ·rw[show o8 c=Α by simp[o8,h1,h2,Ta,h]];exact dT gC @aA
   ·rw[show o8 c=Α by simp[o8,h1,h2,Ta,h]];exact dT gC @aA
   ·rw[show o8 c=γ by simp[o8,h1,h2,Ta,h]];exact dT gC @aA
  ·rw[show o8 c=Α by simp[o8,h1,h2]];exact dT gC @aA
 ·rw[show o8 c=Α by simp[o8,h1]];exact dT gC @aA
def zQ(c:UInt8)(O:VH):VF Ε 266 [ef c] O (aC λm O'=>m=mb (qs c)/\O'=O):=by
 have hc:=c.toNat_lt;refine χ 9 [.tmp 2] func266 ?_;by_cases h:32<=c.toNat;rw[show qs c=Α by simp[qs];omega];exact dT gC @aA;refine ak gC @aA ?_;refine π (pB c _) ?_;rintro _ O2 ⟨rfl,rfl⟩;rw[show qs c=ib c by unfold qs ib;rw[decide_eq_decide];omega];exact dT gC @aA
def mZ(s:Bs):Nat:=if qp (s.headD 0)&& !s.isEmpty then(s.takeWhile o8).length else 0
def FV(s:Bs):mZ s<=Ζ s:=by
 unfold mZ;split;exact nc _ _;exact an2 _
def ako(s:Bs)(O:VH)(hs:Ζ s<=maxLen):VF Ε 268 [.s s] O (aC λm O'=>m=mi (mZ s)/\O'=O):=by
 refine χ 13 [.tmp 2] func268 ?_;cases s with
 | nil=>
   refine ak gC (show(([]:Ρ)==[])=Α from rfl) ?_;rfl
 | cons c s=>
   refine aF gC (show((c::s)==[])=γ from rfl) @alz ?_;refine π (IT c _) ?_;rintro _ O2 ⟨rfl,rfl⟩;cases h1:qp c;refine ae gC ?_;simp[mZ,h1];rw[show mZ (c::s)=((c::s).takeWhile o8).length by simp[mZ,h1]];refine ae gC ?_;refine π (P6 85 o8 (c::s) _ hs (λc O=>MU c O)) ?_;rintro _ O2 ⟨rfl,rfl⟩;exact ez gC
def pC(c:UInt8):Bool:=o8 c&&decide (c.toNat≠58)
def ady(c:UInt8)(O:VH):VF Ε 57 [ef c] O (aC λm O'=>m=mb (pC c)/\O'=O):=by
 have hc:=c.toNat_lt;refine χ 9 [.tmp 2] func57 ?_;refine ae gC ?_;refine π (MU c _) ?_;rintro _ O2 ⟨rfl,rfl⟩;cases h1:o8 c;rw[show pC c=γ by simp[pC,h1]];exact ez gC;by_cases h:c.toNat=58;rw[show pC c=γ by simp[pC,h]];exact dT gC @aA;rw[show pC c=Α by simp[pC,h1,h]];exact dT gC @aA
def iZ(s:Bs):Bool:=s.all pC&&decide (1<=Ζ s)&&decide (Ζ s<=64)
def vW(s:Bs)(O:VH)(hs:Ζ s<=maxLen:=by simp only[maxLen];omega):VF Ε 30 [.s s] O (aC λm O'=>m=mb (iZ s)/\O.Ge O'):=by
 have hm:(Ζ s:Int)<=9223372036854775807:=by simp[maxLen]at hs;omega
 have P5:=ζ O (.cells (s.map ef));have oA:=(VH.Ge.refl O).push (.cells (s.map ef));refine χ 24 [.tmp 2] func30 ?_;refine ae gC ?_;refine VL.bytes aa (el:=5) (l:=s) rfl rfl z21 z30 z44 hs rfl λcap h1 h2=>WL.sound aa ?_
 refine ae gC ?_;refine WC.cj [8] [0,6,7] (λj:Nat=>[mi j]) (λj O'=>(O.push (.cells (s.map ef))).Ge O'/\j<=(Ζ s)/\(s.take j).all pC=Α) (λj=>(Ζ s) - j) (0) ?_ ?_;exact⟨VH.Ge.refl _,an2 _,rfl⟩;rintro j O2 ⟨kZ,hj,ia⟩;have vV:=(kZ.hp O.N (as0 _)).trans P5;by_cases h2:j<Ζ s
 ·have pq:=ai8 h2;have fh:(s.take (j+1)).all pC=pC s[j]:=by rw[bN _ _ h2,auO,ia];simp
  have cZ:pC s[j]=γ->iZ s=γ:=λh=>by
   unfold iZ;rw[auG.2 ⟨s[j],apF h2,by simp[h]⟩];rfl
  generalize s[j]=c at*;refine aF gC pq vV ?_;refine π (ady c _) ?_;rintro _ O3 ⟨rfl,rfl⟩;cases hb:pC c;rw[cZ hb];refine ae gC ?_;exact oA.trans kZ;refine ae gC ?_;exact aw.N (j+1) ⟨kZ,Λ,fh.trans hb⟩
 ·obtain rfl:j=Ζ s:=Λ
  rw[alp]at ia;unfold iZ;rw[ia];by_cases h0:1<=Ζ s;by_cases BK:Ζ s<=64;rw[decide_eq_true h0,decide_eq_true BK];refine ae gC ?_;exact oA.trans kZ;rw[decide_eq_true h0,decide_eq_false BK];refine ae gC ?_;exact oA.trans kZ;rw[decide_eq_false h0];refine ae gC ?_;exact oA.trans kZ
def qt:=abT gC<|abT Eo<|abT T69 T39
structure Gv where
 g:Bs
 a:Bs
 v:Bs
 deriving DecidableEq
def aS(x:Gv):Η:=[.s x.g,.s x.a,.s x.v]
structure iR where
 g:Bs
 a:Bs
 deriving DecidableEq
def cI(x:iR):Η:=[.s x.g,.s x.a]
structure Ky where
 g:Bs
 a:Bs
 t:Bs
 c:Bs
 deriving DecidableEq
def iL(x:Ky):Η:=[.s x.g,.s x.a,.s x.t,.s x.c]
def iq(x:Gv):Bool:=iZ x.g&&iZ x.a&&rj x.v
def MW(x:Gv)(O:VH)(h1:Ζ x.g<=maxLen)(h2:Ζ x.a<=maxLen)(h3:Ζ x.v<=maxLen):VF Ε 20 [.agg (aS x)] O (aC λm O'=>m=mb (iq x)/\O.Ge O'):=by
 obtain⟨g,a,v⟩:=x;dsimp only at h1 h2 h3;unfold iq aS;dsimp only;have hk:=ζ O (.cells [.s g,.s a,.s v]);have ly:=(VH.Ge.refl O).push (.cells [.s g,.s a,.s v]);have IU:O.N<(O.push (.cells [.s g,.s a,.s v])).N:=as0 _;refine χ 16 [.tmp 2] func20 ?_;refine ak qt hk ?_;generalize O.push (.cells [.s g,.s a,.s v])=O1 at*;refine π (vW g _ h1) ?_;rintro _ O2 ⟨rfl,ax⟩;have eG:=ax.N;cases iZ g;refine ae qt ?_;exact ly.trans ax;refine aF qt hk ax.hp ?_;refine π (vW a _ h2) ?_;rintro _ O3 ⟨rfl,aB⟩;have ea:=aB.N;cases iZ a;refine ae qt ?_;exact ly.trans (ax.trans aB);refine bo qt hk ax.hp aB.hp ?_;refine π (P4 v _ h3) ?_;rintro _ O4 ⟨rfl,aV⟩;refine ae qt ?_;exact ly.trans (ax.trans (aB.trans aV))
def C6(s:Bs):Bool:=s==[42]||iZ s
def MX(s:Bs)(O:VH)(hs:Ζ s<=maxLen):VF Ε 278 [.s s] O (aC λm O'=>m=mb (C6 s)/\O.Ge O'):=by
 unfold C6;refine χ 9 [.tmp 2] func278 ?_;cases h:s==[42];refine ak qt @h ?_;refine π (vW s _ hs) ?_;rintro _ O2 ⟨rfl,ax⟩;refine ae qt ?_;exact ax;refine ak qt @h ?_;exact VH.Ge.refl _
def Hl(x:iR):Bool:=C6 x.g&&C6 x.a
def Lf(x:iR)(O:VH)(h1:Ζ x.g<=maxLen)(h2:Ζ x.a<=maxLen):VF Ε 273 [.agg (cI x)] O (aC λm O'=>m=mb (Hl x)/\O.Ge O'):=by
 obtain⟨g,a⟩:=x;dsimp only at h1 h2;unfold Hl cI;dsimp only;have hk:=ζ O (.cells [.s g,.s a]);have ly:=(VH.Ge.refl O).push (.cells [.s g,.s a]);have IU:O.N<(O.push (.cells [.s g,.s a])).N:=as0 _;refine χ 11 [.tmp 2] func273 ?_;refine ak qt hk ?_;generalize O.push (.cells [.s g,.s a])=O1 at*;refine π (MX g _ h1) ?_;rintro _ O2 ⟨rfl,ax⟩;have eG:=ax.N;cases C6 g;refine ae qt ?_;exact ly.trans ax;refine aF qt hk ax.hp ?_;refine π (MX a _ h2) ?_;rintro _ O3 ⟨rfl,aB⟩;refine ae qt ?_;exact ly.trans (ax.trans aB)
def FW(p x:iR):Bool:=(p.g==[42]||p.g==x.g)&&(p.a==[42]||p.a==x.a)
def XU(p x:iR)(O:VH):VF Ε 43 [.agg (cI p),.agg (cI x)] O (aC λm O'=>m=mb (FW p x)/\O.Ge O'):=by
 obtain⟨g,a⟩:=p;obtain⟨g',a'⟩:=x;unfold FW cI;dsimp only;have ly:=((VH.Ge.refl O).push (.cells [.s g,.s a])).push (.cells [.s g',.s a']);refine χ 27 [.tmp 4] func43 ?_;cases h1:g==[42]<;>cases h2:g==g'<;>cases h3:a==[42]<;>cases h4:a==a'
 all_goals
  refine gy qt h1 h2 h3 h4 ?_;exact ly
def ky(n:Int):Bs:=if n=1 then[99,111,109,112,105,108,101]else if n=2 then[114,117,110,116,105,109,101]else if n=3 then[112,114,111,118,105,100,101,100]else if n=4 then[115,121,115,116,101,109]else if n=5 then[116,101,115,116]else if n=6 then[105,109,112,111,114,116]else[]
def aaC(n:Int)(O:VH):VF Ε 84 [mi n] O (aC λm O'=>m= .s (ky n)/\O'=O):=by
 unfold ky;refine χ 16 [.tmp 2] func84 ?_;by_cases h1:n=1;refine ae qt ?_;simp[h1];by_cases h2:n=2;refine ae qt ?_;simp[h1,h2];by_cases h3:n=3;refine ae qt ?_;simp[h1,h2,h3];by_cases h4:n=4;refine ae qt ?_;simp[h1,h2,h3,h4];by_cases h5:n=5;refine ae qt ?_;simp[h1,h2,h3,h4,h5];by_cases h6:n=6;refine ae qt ?_;simp[h1,h2,h3,h4,h5,h6];rw[if_neg h1,if_neg h2,if_neg h3,if_neg h4,if_neg h5,if_neg h6];exact ez qt
def Tc(o i:Int):Int:=if ¬(o=1\/o=2\/o=3\/o=5)then 0 else if i≠1/\i≠2 then 0 else if o=1 then i else o
def Ew(o i:Int)(O:VH):VF Ε 75 [mi o,mi i] O (aC λm O'=>m=mi (Tc o i)/\O'=O):=by
 refine χ 23 [.tmp 4] func75 ?_;rcases(show o=1\/o=2\/o=3\/o=5\/(o≠1/\o≠2/\o≠3/\o≠5)from by omega)with h | h | h | h | h
 rotate_right
 ·rw[show Tc o i=0 by simp[Tc,h]];obtain⟨h1,h2,h3,h4⟩:=h;exact ez qt
 all_goals
  subst h;rcases(show i=1\/i=2\/(i≠1/\i≠2)from by omega)with h | h | h
 all_goals
  refine ae qt ?_;simp[Tc,h]
def zR(k:Ky):Bs:=k.g++[58]++k.a++[58]++k.t++(if k.c=[]then[]else[58]++k.c)
def Td(k:Ky)(O:VH)(h1:Ζ k.g<=1000000)(h2:Ζ k.a<=1000000)(h3:Ζ k.t<=1000000)(h4:Ζ k.c<=1000000):VF Ε 47 [.agg (iL k)] O (aC λm O'=>m= .s (zR k)/\O.Ge O'):=by
 obtain⟨g,a,t,c⟩:=k;have ly:=(VH.Ge.refl O).push (.cells [.s g,.s a,.s t,.s c]);unfold zR iL;dsimp only at h1 h2 h3 h4 ⊢;refine χ 23 [.tmp 2] func47 ?_;cases c with
 | nil=>
   refine aF qt (show(([]:Ρ)==[])=Α from rfl) @aja.{0} ?_;exact ly
 | cons b c=>
   simp only[TR]at h4;refine ak qt (show((b::c)==[])=γ from rfl) ?_;exact⟨z10,ly⟩
def Tok.id:Tok->Option Nat
 | .own t _=>φ t
 | _=>Β
structure dR(tk:Tok)(O O':VH):Prop where
 N:O.N<=O'.N
 hp:∀i,i<O.N->Tok.id tk≠φ i->O'.hp i=O.hp i
def Ex(O:VH)(tk tk':Tok):Prop:=tk'=tk\/∀i,Tok.id tk'=φ i->O.N<=i
section
variable{O O0 O1 O2:VH}{tk t1 t2 w:Tok}{B sz:Nat}
def VH.Ge.k(h:O.Ge O1):dR tk O O1:=⟨h.N,λi hi _=>h.hp i hi⟩
def dR.refl:dR tk O O:=⟨aev _,λ_ _ _=>rfl⟩
def Ex.refl:Ex O tk tk:=.inl rfl
def dR.trans(h:dR tk O O1)(hn:Ex O tk t1)(k:dR t1 O1 O2):dR tk O O2:=⟨ahB h.N k.N,λi hi hne=>by
 have:Tok.id t1≠φ i:=λe=>by
  rcases hn with rfl | hn;exact hne e;have:=hn i e;omega
 rw[k.hp i (ai_ hi h.N) this,h.hp i hi hne]⟩
def dR.ge(h:dR tk O O1)(k:O1.Ge O2):dR tk O O2:=⟨ahB h.N k.N,λi hi hne=>by rw[k.hp i (ai_ hi h.N),h.hp i hi hne]⟩
def dR.pre(h:O.Ge O1)(k:dR tk O1 O2):dR tk O O2:=⟨ahB h.N k.N,λi hi hne=>by rw[k.hp i (ai_ hi h.N) hne,h.hp i hi]⟩
def Ex.trans(h:Ex O tk t1)(hle:O.N<=O1.N)(k:Ex O1 t1 t2):Ex O tk t2:=by
 rcases k with rfl | k;exact h;exact .inr λi e=>ahB hle (k i e)
def App.iM(h:App O B sz tk)(e:Tok.id tk=φ i):B<=i/\i<O.N:=by
 cases tk with
 | own t k=>injection e with e;subst e;exact h.2.2
 | _=>cases e
def dR.app(h:dR tk O O1)(hw:App O B sz w)(hne:∀i,Tok.id tk=φ i->Tok.id w≠φ i):App O1 B sz w:=by
 cases w with
 | own t j=>
   obtain⟨h1,h2,h3,h4⟩:=hw;refine⟨h1,?_,h3,ai_ h4 h.N⟩;rw[h.hp t h4 (λe=>hne t e rfl)];exact h2
 | nil=>trivial
 | full=>trivial
 | av=>exact hw.elim
def dR.after(h:App O B sz tk):dR tk O (O.after tk):=⟨by rw[VH.fL];omega,λi hi hne=>by
 cases tk with
 | own t k=>exact(VH.gY (O.kill t) _ hi).trans (VH.lF _ (λe=>hne (by rw[e];rfl)))
 | _=>exact VH.gY _ _ hi⟩
def Ex.after:Ex O tk (.own O.N sz):=.inr λi e=>by injection e with e;omega
def dR.fS(hg:O0.Ge O)(ha:App O O0.N sz tk)(k:dR tk O O1):O0.Ge O1:=⟨ahB hg.N k.N,λi hi=>by
 rw[k.hp i (ai_ hi hg.N) (λe=>by have:=(ha.iM e).1;omega),hg.hp i hi]⟩
def dR.Te(ha:App O O.N sz tk)(k:dR tk O O1):O.Ge O1:=dR.fS (VH.Ge.refl O) ha k
def App.ge(h:App O B sz tk)(k:O.Ge O1):App O1 B sz tk:=dR.app (tk:=.nil) (k.k) h (λ_ e=>by cases e)
def App.nil:App O B sz .nil:=trivial
end
def jj{t el:TypeId}{u:TypeDesc}{a by':Nat}{z y:Η}(h:tab t=φ ⟨.slice el,a,b,z⟩)(h2:tab el=φ ⟨u,sz,by',y⟩){ds es:Η}(ha:App O B sz tk)
  (hc:Ζ cs=n*sz) (hd:Ζ ds=sz) (hl:ds.all dF=Α) (hs:0<sz) (hb:(n+1)*by'<=140737488355328) (hm:n+1<=maxLen) (ju:de cs=cs) (vK:de ds=es):
  ∃m,jO tab O t (.l n cs tk) (.l 1 ds .full)=φ (m,O.after tk)/\re m= .l (n+1) (cs++es) (.own O.N sz):=
 ⟨_,bE (tk':=.full) h h2 ha hc (by rw[hd,Nat.one_mul]) hl hs z12 hb hm,by rw[uL,ov,ju,vK]⟩
section
variable{P:Program}{n:Sz}{D:List Deferred}{c:Code}{e:Env}{O:VH}{Q:VQ}{z cs:Η}{md:Md}{d:Option Tmp}{K:Env->VH->Prop}{fv:ϱ}{ms:Option Η}
def yj(O:VH)(cs:Η)(O3:VH):Prop:=O.Ge O3/\O3.hp O.N=φ (.cells cs)/\O3.N=O.N+1
def yj.al:yj O cs ((O.push (.cells z)).set O.N (.cells cs)):=⟨((VH.Ge.refl O).push _).set (aev _) _,υ _ _ _,rfl⟩
def yj.bx:yj O cs (O.push (.cells cs)):=⟨(VH.Ge.refl O).push _,ζ _ _,rfl⟩
def VC.al(h:∀O3,yj O cs O3->VC P n D c e O3 Q):VC P n D c e ((O.push (.cells z)).set O.N (.cells cs)) Q:=h _ yj.al
def VC.bx(h:∀O3,yj O cs O3->VC P n D c e O3 Q):VC P n D c e (O.push (.cells cs)) Q:=h _ yj.bx
def ah.bx(h:∀O3,yj O cs O3->ah P n md Q d O3 K e fv ms):ah P n md Q d (O.push (.cells cs)) K e fv ms:=h _ yj.bx
end
def List.sd{α :Type}{a b:List α}{k:Nat}(h:Ζ a=k):(a++b).drop (k+n)=b.drop n:=by
 rw[<-h, <-List.drop_drop,List.drop_left]
def aP{α :Type}{f: α ->Η}{k:Nat}(hf:∀x,(f x).length=k)(L:List α):(L.flatMap f).length=(Ζ L)*k:=by
 induction L with
 | nil=>simp
 | cons x L ih=>rw[ai9,Rn,ih,hf,TR,auA,Nat.add_comm]
def bY{α :Type}{f: α ->Η}{k:Nat}(hf:∀x,(f x).length=k):∀(L:List α)(i:Nat)(h:i<Ζ L),((L.flatMap f).drop (i*k)).take k=f L[i]
 | x::L,0,_=>by rw[auK,List.drop_zero,ai9,List.take_left' (hf x)];rfl
 | x::L,i+1,h=>by
   have:=bY hf L i z34;rw[ai9,auA,Nat.add_comm,List.sd (hf x)];exact this
inductive Nd where
 | mk (name:Bs) (attrs:List (Bs×Bs)) (kids:List Nd) (text:Bs)
def bp(x:Bs×Bs):Η:=[.s x.1,.s x.2]
mutual
def eb:Nd->Η
 | .mk n a k t=>[.s n,.l (Ζ a) (a.flatMap bp) .av,.l (Ζ k) (aI k) .av,.s t]
def aI:List Nd->Η
 | []=>[]
 | x::r=>eb x++aI r
end
def eZ(L M:List Nd):aI (L++M)=aI L++aI M:=by
 induction L with
 | nil=>rw[an4,aI,an4]
 | cons x L ih=>rw[an7,aI,aI,ih,an3]
def m4(x:Nd):(eb x).length=4:=by cases x;rw[eb];rfl
def dN(L:List Nd):(aI L).length=(Ζ L)*4:=by
 induction L with
 | nil=>rw[aI];rfl
 | cons x L ih=>rw[aI,Rn,m4,ih,TR];omega
def eC(x:Bs×Bs):(bp x).length=2:=rfl
def uW(x:iR):(cI x).length=2:=rfl
def ic(L:List (Bs×Bs)):de (L.flatMap bp)=L.flatMap bp:=iI (λx=>by simp only[bp,wu]) L
mutual
def C7:∀x,de (eb x)=eb x
 | .mk n a k t=>by
   simp only[eb,wu,ic];rw[fN k]
def fN:∀L,de (aI L)=aI L
 | []=>by rw[aI,MA]
 | x::r=>by rw[aI,ov,C7 x,fN r]
end
structure Dp where
 g:Bs
 a:Bs
 v:Bs
 t:Bs
 c:Bs
 s:Int
 o:Int
 x:List iR
 deriving DecidableEq
def aG(d:Dp):Η:=[.s d.g,.s d.a,.s d.v,.s d.t,.s d.c,mi d.s,mi d.o,.l (Ζ d.x) (d.x.flatMap cI) .av]
def cW(x:Dp):(aG x).length=8:=rfl
structure Pm where
 hp:Bool
 par:Gv
 g:Bs
 a:Bs
 v:Bs
 pk:Bs
 props:List (Bs×Bs)
 bL:List Dp
 dH:List Dp
 deriving DecidableEq
def dy(p:Pm):Η:=[mb p.hp,.s p.par.g,.s p.par.a,.s p.par.v,.s p.g,.s p.a,.s p.v,.s p.pk,.l (Ζ p.props) (p.props.flatMap bp) .av,.l (Ζ p.bL) (p.bL.flatMap aG) .av,.l (Ζ p.dH) (p.dH.flatMap aG) .av]
def uX(L:List iR):de (L.flatMap cI)=L.flatMap cI:=iI (λx=>by simp only[cI,wu]) L
def iC(L:List Dp):de (L.flatMap aG)=L.flatMap aG:=iI (λx=>by simp only[aG,aq,wu,uX]) L
def MY(p:Pm):de (dy p)=dy p:=by simp only[dy,bg,wu,ic,iC]
def gU:=abT qt<|abT wK<|abT ql<|abT GF<|abT GG<|abT SQ alG
def fI(O:VH)(B sz:Nat)(tk:Tok)(O':VH)(tk':Tok):Prop:=dR tk O O'/\App O' B sz tk'/\Ex O tk tk'
def fI.refl(h:App O B sz tk):fI O B sz tk O tk:=⟨dR.refl,h,Ex.refl⟩
def fI.trans{t2:Tok}(h:fI O B sz tk O1 t1)(k:fI O1 B sz t1 O2 t2):fI O B sz tk O2 t2:=
 ⟨h.1.trans h.2.2 k.1,k.2.1,h.2.2.trans h.1.N k.2.2⟩
def fI.after(h:App O B sz tk)(hB:B<=O.N):fI O B sz tk (O.after tk) (.own O.N sz):=⟨dR.after h,App.after hB,Ex.after⟩
def fI.ge(h:fI O B sz tk O1 t1)(k:O1.Ge O2):fI O B sz tk O2 t1:=⟨h.1.ge k,h.2.1.ge k,h.2.2⟩
def fI.pre(g:O.Ge O1)(h:fI O1 B sz tk O2 t1):fI O B sz tk O2 t1:=⟨dR.pre g h.1,h.2.1,h.2.2.elim .inl λk=>.inr λi e=>ahB g.N (k i e)⟩
def fI.fS(ha:App O O.N sz tk)(h:fI O O.N sz tk O1 t1):O.Ge O1:=dR.Te ha h.1
def App.less{B':Nat}(h:App O B sz tk)(hB:B'<=B):App O B' sz tk:=by
 cases tk with
 | own t k=>exact⟨h.1,h.2.1,ahB hB h.2.2.1,h.2.2.2⟩
 | nil=>trivial
 | full=>trivial
 | av=>exact h.elim
def App.set{k:Nat}{x:bO}(h:App O B sz tk)(hk:O.hp k=φ (.cells cs)):App (O.set k x) B sz tk:=by
 cases tk with
 | own t j=>exact⟨h.1,(τ _ _ (λe=>by subst e;rw[h.2.1]at hk;cases hk)).trans h.2.1,h.2.2.1,h.2.2.2⟩
 | nil=>trivial
 | full=>trivial
 | av=>exact h.elim
def fI.fresh(g:O.Ge O1)(h:fI O1 O1.N sz .nil O2 t1):fI O O.N sz .nil O2 t1:=
 ⟨dR.pre g h.1,h.2.1.less g.N,h.2.2.elim .inl λk=>.inr λi e=>ahB g.N (k i e)⟩
def cR(L:List Nd)(n t:Bs):List Nd:=if t=[]then L else L++[.mk n [] [.mk [] [] [] t] []]
def ec(L:List Nd)(n t:Bs):(cR L n t).length<=Ζ L+1:=by unfold cR;split<;>simp
def gQ(L:List Nd)(tk:Tok)(n t:Bs)(ha:App O B 4 tk)(hB:B<=O.N)(hL:Ζ L<=100000:=by omega):VF Ε 55 [.l (Ζ L) (aI L) tk,.s n,.s t] O (aC λm O'=>∃tk',m= .l (cR L n t).length (aI (cR L n t)) tk'/\fI O B 4 tk O' tk'):=by
 refine VF.fg ?_;refine χ 18 [.tmp 6] func55 ?_;unfold cR;cases t with
 | nil=>
   refine aF gU (show(([]:Ρ)==[])=Α from rfl) @fN ?_;exact⟨tk,rfl,fI.refl ha⟩
 | cons c t=>
   refine ak gU (show((c::t)==[])=γ from rfl) ?_;have cQ:=bE (tk':=.full) (n:=Ζ L) (k:=1) (cs:=aI L) (ds:=[.s n,.l 0 [] .nil,.l 1 [.s [],.l 0 [] .nil,.l 0 [] .nil,.s (c::t)] .full,.s []]) ql wK.1.1 ha (dN L);refine VL.app cQ ?_;refine ak gU @fN ?_;rw[if_neg z10];refine⟨_,?_,fI.after ha hB⟩;rw[eZ];simp only[aI,eb,ats,aja,Rn,TR,Ro,aui]
def lK(L:List Nd)(n:Bs)(K:List Nd):List Nd:=if K=[]then L else L++[.mk n [] K []]
def se(L:List Nd)(n:Bs)(K:List Nd):(lK L n K).length<=Ζ L+1:=by unfold lK;split<;>simp
def uY(L:List Nd)(tk:Tok)(n:Bs)(K:List Nd)(tK:Tok)(ha:App O B 4 tk)(hB:B<=O.N)(hL:Ζ L<=100000)(hK:Ζ K<=100000:=by omega):VF Ε 54 [.l (Ζ L) (aI L) tk,.s n,.l (Ζ K) (aI K) tK] O (aC λm O'=>∃tk',m= .l (lK L n K).length (aI (lK L n K)) tk'/\fI O B 4 tk O' tk'):=by
 refine VF.fg ?_;refine χ 17 [.tmp 6] func54 ?_;unfold lK;by_cases h:K=[];subst h;refine aF gU @fN @Ro.{0} ?_;exact⟨tk,rfl,fI.refl ha⟩;have h0:0<Ζ K:=List.length_pos_iff.2 h;refine ae gU ?_;have cQ:=bE (tk':=.full) (n:=Ζ L) (k:=1) (cs:=aI L) (ds:=[.s n,.l 0 [] .nil,.l (Ζ K) (aI K) tK,.s []]) ql wK.1.1 ha (dN L);refine VL.app cQ ?_;refine ak gU @fN ?_;rw[if_neg h];refine⟨_,?_,fI.after ha hB⟩;rw[eZ];simp only[aI,eb,ats,aja,Rn,TR,Ro,aui]
abbrev iN:Bs:=[103,114,111,117,112,73,100]
abbrev iy:Bs:=[97,114,116,105,102,97,99,116,73,100]
abbrev k_:Bs:=[118,101,114,115,105,111,110]
abbrev IV:Bs:=[116,121,112,101]
abbrev IW:Bs:=[99,108,97,115,115,105,102,105,101,114]
abbrev FX:Bs:=[115,99,111,112,101]
abbrev sf:Bs:=[111,112,116,105,111,110,97,108]
abbrev oB:Bs:=[116,114,117,101]
abbrev lW:Bs:=[102,97,108,115,101]
abbrev C8:Bs:=[101,120,99,108,117,115,105,111,110]
abbrev qL:Bs:=[101,120,99,108,117,115,105,111,110,115]
abbrev C9:Bs:=[100,101,112,101,110,100,101,110,99,121]
abbrev vX:Bs:=[100,101,112,101,110,100,101,110,99,105,101,115]
def rk(i:iR):Nd:=.mk C8 [] (cR (cR [] iN i.g) iy i.a) []
def Ey(d:Dp):List Nd:=
 let k:=cR (cR (cR (cR (cR (cR [] iN d.g) iy d.a) k_ d.v) IV d.t) IW d.c) FX (ky d.s)
 if d.o=1 then cR k sf oB else if d.o=2 then cR k sf lW else k
def pD(d:Dp):Nd:=.mk C9 [] (lK (Ey d) qL (d.x.map rk)) []
def rC(L:List Nd)(D:List Dp):List Nd:=lK L vX (D.map pD)
def C_(L:List Nd)(tl:Tok)(D:List Dp)(tD:Tok)(ha:App O B 4 tl)(hB:B<=O.N)(hL:Ζ L<=10000)(hD:Ζ D<=10000)(hx:∀d∈D,Ζ d.x<=10000):VF Ε 56 [.l (Ζ L) (aI L) tl,.l (Ζ D) (D.flatMap aG) tD] O (aC λm O'=>∃tk',m= .l (rC L D).length (aI (rC L D)) tk'/\fI O B 4 tl O' tk'):=by
 refine VF.fg ?_;have hlen:=aP cW D;refine ω 82 [.tmp 4] func56 ?_;refine κ gU ?_;refine κ gU ?_;refine VC.join aa [0,5] (λtk:Tok=>[.l (Ζ L) (aI L) tl,.l (D.map pD).length (aI (D.map pD)) tk]) (λtk O'=>O.Ge O') ?_ ?_;rotate_left;intro tk O9 bq;refine ae gU ?_;refine π (uY L tl vX (D.map pD) tk (ha.ge bq) (ahB hB bq.N) Λ (by rw[apH];omega)) ?_;rintro _ Oz ⟨tz,rfl,gz⟩;refine ak gU @fN ?_;exact⟨tz,rfl,fI.pre bq gz⟩;refine κ gU ?_;refine Γ ?_;refine Υ [5,14] [0,12,13] (λx:Nat×Tok=>[.l ((D.take x.1).map pD).length (aI ((D.take x.1).map pD)) x.2,mi x.1]) (λx O'=>O.Ge O'/\App O' O.N 4 x.2/\x.1<=Ζ D) (λx=>(Ζ D) - x.1) ((0,.nil)) ?_ ?_;exact⟨VH.Ge.refl _,trivial,an2 _⟩;rintro⟨j,ta⟩ O2 ⟨ax,cQ,hj⟩;dsimp only at cQ hj ⊢;by_cases h2:j<Ζ D;rotate_left
 ·obtain rfl:j=Ζ D:=Λ
  rw[alp];refine ν gU ?_;exact aE.mk ta ax
 have bh:=bY cW D j h2;have fh:(D.take (j+1)).map pD=(D.take j).map pD++[pD D[j]]:=by rw[bN _ _ h2,aum];rfl
 have vS:=hx D[j] (apF h2);have Aq:((D.take j).map pD).length<=10000:=by rw[apH,an5];omega
 generalize D[j]=d at*;generalize (D.take j).map pD=A at*;obtain⟨g,a,v,t,c,s,o,X⟩:=d;dsimp only at vS;simp only[aG]at bh;refine κ gU ?_;refine κ gU ?_;refine Δ (Γ ?_);refine ξ gU bh ?_;refine VC.al ?_;rintro O3 ⟨aB,hk,ea⟩;have h0:fI O3 O3.N 4 .nil O3 .nil:=fI.refl App.nil;refine κ gU ?_;refine ξ gU hk ?_;refine π (gQ [] _ iN g h0.2.1 h0.1.N z19) ?_;rintro _ OA ⟨t1,rfl,gw⟩;have h1:=h0.trans gw;have l1:=ec [] iN g;clear gw;generalize eK1:cR [] iN g=K1 at*;have bK:=(fI.fS App.nil h1).hp;have hn:=h1.1.N;try simp only[Ro]at l1
 refine ae gU ?_;refine θ (aF gU hk bK ?_);refine π (gQ K1 _ iy a h1.2.1 h1.1.N z19) ?_;rintro _ OB ⟨t2,rfl,gw⟩;have kz:=h1.trans gw;have l2:=ec K1 iy a;clear gw;generalize eK2:cR K1 iy a=K2 at*;have bK:=(fI.fS App.nil kz).hp;have hn:=kz.1.N;try simp only[Ro]at l2
 refine ae gU ?_;refine θ (aF gU hk bK ?_);refine π (gQ K2 _ k_ v kz.2.1 kz.1.N z19) ?_;rintro _ OC ⟨t3,rfl,gw⟩;have h3:=kz.trans gw;have l3:=ec K2 k_ v;clear gw;generalize eK3:cR K2 k_ v=K3 at*;have bK:=(fI.fS App.nil h3).hp;have hn:=h3.1.N;try simp only[Ro]at l3
 refine ae gU ?_;refine θ (aF gU hk bK ?_);refine π (gQ K3 _ IV t h3.2.1 h3.1.N z19) ?_;rintro _ OD ⟨t4,rfl,gw⟩;have h4:=h3.trans gw;have l4:=ec K3 IV t;clear gw;generalize eK4:cR K3 IV t=K4 at*;have bK:=(fI.fS App.nil h4).hp;have hn:=h4.1.N;try simp only[Ro]at l4
 refine ae gU ?_;refine θ (aF gU hk bK ?_);refine π (gQ K4 _ IW c h4.2.1 h4.1.N z19) ?_;rintro _ OE ⟨t5,rfl,gw⟩;have h5:=h4.trans gw;have l5:=ec K4 IW c;clear gw;generalize eK5:cR K4 IW c=K5 at*;have bK:=(fI.fS App.nil h5).hp;have hn:=h5.1.N;try simp only[Ro]at l5
 refine ae gU ?_;refine θ (aF gU hk bK ?_);refine π (aaC s _) ?_;rintro _ OF ⟨rfl,rfl⟩;refine ae gU ?_;refine π (gQ K5 _ FX (ky s) h5.2.1 h5.1.N z19) ?_;rintro _ OG ⟨t6,rfl,gw⟩;have h6:=h5.trans gw;have l6:=ec K5 FX (ky s);clear gw;generalize eK6:cR K5 FX (ky s)=K6 at*;have bK:=(fI.fS App.nil h6).hp;have hn:=h6.1.N;try simp only[Ro]at l6
 refine ae gU ?_;have hK:Ey ⟨g,a,v,t,c,s,o,X⟩=if o=1 then cR K6 sf oB else if o=2 then cR K6 sf lW else K6:=by rw[<-eK6, <-eK5, <-eK4, <-eK3, <-eK2, <-eK1];rfl
 clear eK6 eK5 eK4 eK3 eK2 eK1;have hl7:=ec K6 sf oB;have GK:=ec K6 sf lW;refine VC.join aa [0,5,7,8,9,12,13,14] (λtk:Tok=>[.l (Ζ L) (aI L) tl,.l (Ζ A) (aI A) ta,.p O2.N 0,.l (Ey ⟨g,a,v,t,c,s,o,X⟩).length (aI (Ey ⟨g,a,v,t,c,s,o,X⟩)) tk,.l 0 [] .nil,.l (Ζ D) (D.flatMap aG) tD,mi (Ζ D),mi j]) (λtk O'=>fI O3 O3.N 4 .nil O' tk) ?_ ?_;refine θ (aF gU hk bK ?_);refine Γ ?_;by_cases XV:o=1;rw[hK,if_pos XV];refine ν gU ?_;refine π (gQ K6 _ sf oB h6.2.1 h6.1.N z19) ?_;rintro _ OH ⟨t7,rfl,gw⟩;have h7:=h6.trans gw;have l7:=ec K6 sf oB;clear gw;generalize eK7:cR K6 sf oB=K7 at*;have bK:=(fI.fS App.nil h7).hp;have hn:=h7.1.N;((try simp only[Ro]at l7);refine ae gU ?_;exact aE.mk t7 h7);rw[hK,if_neg XV];by_cases La:o=2;rw[if_pos La];refine ν gU ?_;refine π (gQ K6 _ sf lW h6.2.1 h6.1.N z19) ?_;rintro _ OH ⟨t7,rfl,gw⟩;have h7:=h6.trans gw;have l7:=ec K6 sf lW;clear gw;generalize eK7:cR K6 sf lW=K7 at*;have bK:=(fI.fS App.nil h7).hp;have hn:=h7.1.N;((try simp only[Ro]at l7);refine ae gU ?_;exact aE.mk t7 h7);rw[if_neg La];refine ν gU ?_;exact aE.mk t6 h6
 have hKl:(Ey ⟨g,a,v,t,c,s,o,X⟩).length<=7:=by rw[hK];split<;>first | omega | (split<;>omega)
 intro tk O4 h7;generalize hKd:Ey ⟨g,a,v,t,c,s,o,X⟩=K at*;clear hK hl7 GK h6 bK hn;have bK:=(fI.fS App.nil h7).hp;have hn:=h7.1.N;refine aF gU hk bK ?_;refine VC.aoB [0,5,8,9,12,13,14] (λtx:Tok=>[.l (Ζ L) (aI L) tl,.l (Ζ A) (aI A) ta,.l (Ζ K) (aI K) tk,.l (X.map rk).length (aI (X.map rk)) tx,.l (Ζ D) (D.flatMap aG) tD,mi (Ζ D),mi j]) (λtx O'=>O4.Ge O') ?_ ?_
 ·have IN:=aP uW X;refine WC.cj [9,56] [0,5,8,12,13,14,54,55] (λx:Nat×Tok=>[.l ((X.take x.1).map rk).length (aI ((X.take x.1).map rk)) x.2,mi x.1]) (λx O'=>O4.Ge O'/\App O' O4.N 4 x.2/\x.1<=Ζ X) (λx=>(Ζ X) - x.1) ((0,.nil)) ?_ ?_;exact⟨VH.Ge.refl _,trivial,an2 _⟩;rintro⟨i,tx⟩ O5 ⟨bB,oo,hi⟩;dsimp only at oo hi ⊢;by_cases fQ:i<Ζ X;rotate_left
  ·obtain rfl:i=Ζ X:=Λ
   rw[alp];refine ae gU ?_;exact aE.mk tx bB
  have hxt:=bY uW X i fQ;(((((((have hsx:(X.take (i+1)).map rk=(X.take i).map rk++[rk X[i]]:=by rw[bN _ _ fQ,aum];rfl);have Lg:((X.take i).map rk).length<=10000:=by rw[apH,an5];omega);generalize X[i]=y at*;generalize (X.take i).map rk=E at*;obtain⟨yg,ya⟩:=y;simp only[cI]at hxt;refine ak gU hxt ?_;refine VC.al ?_;rintro O6 ⟨dU,nV,mQ⟩;refine VC.ot [9,10] ?_;refine ρ 0 gU ?_;refine ρ 1 gU ?_;refine ρ 4 gU ?_;refine auU (m:=.s yg) 2 ?_ ?_);exact dT gU nV);simp only[ag];refine auU (m:=.s ya) 5 ?_ ?_);exact dT gU nV);simp only[ag];refine ab.call (i:=3) (gQ [] .nil iN yg (App.nil (B:=O6.N)) (aev _) z10) ?_;rintro _ O7 ⟨t7,rfl,g7⟩;simp only[ag];have l7:=ec [] iN yg;generalize e7:cR [] iN yg=E1 at*;simp only[Ro]at l7;refine⟨fI.fS App.nil g7,?_⟩;refine ab.call (i:=6) (gQ E1 t7 iy ya g7.2.1 g7.1.N) ?_;rintro _ O8 ⟨t8,rfl,g8⟩;simp only[ag];have l8:=ec E1 iy ya;have he:rk ⟨yg,ya⟩= .mk C8 [] (cR E1 iy ya) []:=by rw[<-e7];rfl);generalize cR E1 iy ya=E2 at*;have h8:=fI.fS App.nil (g7.trans g8);refine⟨h8,?_⟩;refine ρ 7 gU ?_;refine ab.op (i:=8) ?_;refine ae gU ?_;refine⟨h8,?_⟩;refine ab.bM [(9,.one),(10,.au)] ?_;have gR:=dU.trans h8;have agl:=oo.ge gR;refine ae gU ?_;obtain⟨mE,iT,oX⟩:=jj (n:=Ζ E) (cs:=aI E) (ds:=[.s C8,.l 0 [] .nil,.l (Ζ E2) (aI E2) t8,.s []]) (es:=eb (rk ⟨yg,ya⟩)) ql wK.1.1 agl (dN E) rfl rfl z12 Λ z13 (fN E) (by rw[he];simp only[wu,fN,eb];rfl);refine VL.o7 iT oX ?_;refine ae gU ?_;exact aw.N (i+1,.own O8.N 4) ⟨dR.fS (bB.trans gR) agl (dR.after agl),App.after (ahB bB.N gR.N),fQ⟩ (hl:=(by dsimp only;rw[hsx,eZ,Rn,aI,aI,aja];rfl))
 intro tx O5 bB;have h5:=h7.ge bB;refine ae gU ?_;refine π (uY K tk qL (X.map rk) tx h5.2.1 h5.1.N Λ (by rw[apH];omega)) ?_;rintro _ O6 ⟨tb,rfl,g6⟩;have h6:=h5.trans g6;have si:=se K qL (X.map rk);have KL:pD ⟨g,a,v,t,c,s,o,X⟩= .mk C9 [] (lK K qL (X.map rk)) []:=by rw[<-hKd];rfl
 generalize lK K qL (X.map rk)=K9 at*;have ri:=aB.trans (fI.fS App.nil h6);have iU:=cQ.ge ri;refine ae gU ?_;obtain⟨mE,iT,oX⟩:=jj (n:=Ζ A) (cs:=aI A) (ds:=[.s C9,.l 0 [] .nil,.l (Ζ K9) (aI K9) tb,.s []]) (es:=eb (pD ⟨g,a,v,t,c,s,o,X⟩)) ql wK.1.1 iU (dN A) rfl rfl z12 Λ z13 (fN A) (by rw[KL];simp only[wu,fN,eb];rfl);refine VL.o7 iT oX ?_;refine ae gU ?_;refine ν gU ?_;exact aw.N (j+1,.own O6.N 4) ⟨dR.fS (ax.trans ri) iU (dR.after iU),App.after (ahB ax.N ri.N),h2⟩ (hl:=(by dsimp only;rw[fh,eZ,Rn,aI,aI,aja];rfl))
def eI:=abT gU<|abT T95<|abT Ep AT
abbrev AZ:Bs:=[112,97,114,101,110,116]
abbrev FY:Bs:=[112,97,99,107,97,103,105,110,103]
abbrev nf:Bs:=[112,114,111,112,101,114,116,105,101,115]
abbrev wP:Bs:=[100,101,112,101,110,100,101,110,99,121,77,97,110,97,103,101,109,101,110,116]
abbrev ui:Bs:=[112,114,111,106,101,99,116]
def MZ(p:Pm):List Nd:=if p.hp then lK [] AZ (cR (cR (cR [] iN p.par.g) iy p.par.a) k_ p.par.v)else[]
def XW(p:Pm):List Nd:=cR (cR (cR (cR (MZ p) iN p.g) iy p.a) k_ p.v) FY p.pk
def iQ(x:Bs×Bs):Nd:=.mk x.1 [] (if x.2=[]then[]else[.mk [] [] [] x.2]) []
def tf(p:Pm):Nd:=.mk ui [] (rC (lK (lK (XW p) nf (p.props.map iQ)) wP (rC [] p.bL)) p.dH) []
def Tf(L:List Nd)(D:List Dp):(rC L D).length<=Ζ L+1:=se _ _ _
def agm(p:Pm)(hP:Ζ p.props<=10000)(hM:Ζ p.bL<=10000)(hD:Ζ p.dH<=10000)(hx:∀d∈p.bL++p.dH,Ζ d.x<=10000):VF Ε 29 [.agg (dy p)] O (aC λm O'=>m= .agg (eb (tf p))/\O.Ge O'):=by
 refine VF.fg ?_;obtain⟨hp,⟨pg,pa,pv⟩,g,a,v,pk,P,M,D⟩:=p;dsimp only at hP hM hD hx;have qM:=aP eC P;simp only[dy];refine ω 76 [.cell 2 121] func29 ?_;refine κ eI ?_;refine VC.bx ?_;rintro O1 ⟨aM,bC,dq⟩;have hk:O1.hp O.N=φ (.cells [mb hp,.s pg,.s pa,.s pv,.s g,.s a,.s v,.s pk,.l (Ζ P) (P.flatMap bp) .av,.l (Ζ M) (M.flatMap aG) .av,.l (Ζ D) (D.flatMap aG) .av]):=(aM.hp _ (as0 _)).trans (ζ _ _)
 replace bC:O1.hp (O.N+1)=φ (.cells [.s [],.l 0 [] .nil,.l 0 [] .nil,.s []]):=bC
 have gD:=((VH.Ge.refl O).push _).trans aM;have IU:O1.N=O.N+2:=dq;simp only[bg]at hk;clear aM dq;have h0:fI O1 O1.N 4 .nil O1 .nil:=fI.refl App.nil;refine κ eI ?_;have cz:(MZ ⟨hp,⟨pg,pa,pv⟩,g,a,v,pk,P,M,D⟩).length<=1:=by unfold MZ;split;exact se _ _ _;simp
 have hh:XW ⟨hp,⟨pg,pa,pv⟩,g,a,v,pk,P,M,D⟩=cR (cR (cR (cR (MZ ⟨hp,⟨pg,pa,pv⟩,g,a,v,pk,P,M,D⟩) iN g) iy a) k_ v) FY pk:=rfl;have hw:tf ⟨hp,⟨pg,pa,pv⟩,g,a,v,pk,P,M,D⟩= .mk ui [] (rC (lK (lK (XW ⟨hp,⟨pg,pa,pv⟩,g,a,v,pk,P,M,D⟩) nf (P.map iQ)) wP (rC [] M)) D) []:=rfl;have Tg:MZ ⟨hp,⟨pg,pa,pv⟩,g,a,v,pk,P,M,D⟩=if hp then lK [] AZ (cR (cR (cR [] iN pg) iy pa) k_ pv)else[]:=rfl
 rw[hh]at hw;clear hh;generalize tf ⟨hp,⟨pg,pa,pv⟩,g,a,v,pk,P,M,D⟩=W at*;generalize MZ ⟨hp,⟨pg,pa,pv⟩,g,a,v,pk,P,M,D⟩=K0 at*;refine Ξ [1,2,3,4] (λtk:Tok=>[.p O.N 0,.p (O.N+1) 0,.l (Ζ K0) (aI K0) tk,.l 0 [] .nil]) (λtk O'=>fI O1 O1.N 4 .nil O' tk) ?_ ?_
 ·cases hp;refine ξ eI hk ?_;rw[Tg];refine ν eI ?_;exact aE.mk .nil h0
  ·refine ξ eI hk ?_;rw[Tg];refine ν eI ?_;refine VC.ot [] ?_;refine ρ 0 eI ?_;refine ρ 1 eI ?_;refine ρ 2 eI ?_;refine auU (m:=.s pg) 3 ?_ ?_;exact dT eI hk;simp only[ag];refine ρ 5 eI ?_;refine ρ 6 eI ?_;refine auU (m:=.s pa) 7 ?_ ?_;exact dT eI hk;simp only[ag];refine ρ 9 eI ?_;refine ρ 10 eI ?_;refine auU (m:=.s pv) 11 ?_ ?_;exact dT eI hk;simp only[ag];refine ab.call (i:=4) (gQ [] .nil iN pg (App.nil (B:=O1.N)) (aev _) z10) ?_;rintro _ O2 ⟨t2,rfl,g2⟩;simp only[ag];have l2:=ec [] iN pg;generalize cR [] iN pg=E1 at*;simp only[Ro]at l2;refine⟨fI.fS App.nil g2,?_⟩;refine ab.call (i:=8) (gQ E1 t2 iy pa g2.2.1 g2.1.N) ?_;rintro _ O3 ⟨t3,rfl,g3⟩;simp only[ag];have l3:=ec E1 iy pa;generalize cR E1 iy pa=E2 at*
   replace g3:=g2.trans g3
   refine⟨fI.fS App.nil g3,?_⟩;refine ab.call (i:=12) (gQ E2 t3 k_ pv g3.2.1 g3.1.N) ?_;rintro _ O4 ⟨t4,rfl,g4⟩;simp only[ag];have l4:=ec E2 k_ pv;generalize cR E2 k_ pv=E3 at*
   replace g4:=g3.trans g4
   refine⟨fI.fS App.nil g4,?_⟩;refine ab.call (i:=13) (uY [] .nil AZ E3 t4 (App.nil (B:=O4.N)) (aev _) z10) ?_;rintro _ O5 ⟨t5,rfl,g5⟩;simp only[ag];refine⟨(fI.fS App.nil g4).trans (fI.fS App.nil g5),?_⟩;refine ρ 14 eI ?_;refine ab.bM [] ?_;refine ae eI ?_;exact aE.mk t5 (fI.fresh (fI.fS App.nil g4) g5)
 intro tk O2 h2;have bK:=(fI.fS App.nil h2).hp;have hn:=h2.1.N;clear Tg;refine θ (aF eI hk bK ?_);refine π (gQ K0 _ iN g h2.2.1 h2.1.N z19) ?_;rintro _ OA ⟨t1,rfl,gw⟩;have h3:=h2.trans gw;have l1:=ec K0 iN g;clear gw;generalize eK1:cR K0 iN g=K1 at*;have bK:=(fI.fS App.nil h3).hp;have hn:=h3.1.N;try simp only[Ro]at l1
 refine ae eI ?_;refine θ (aF eI hk bK ?_);refine π (gQ K1 _ iy a h3.2.1 h3.1.N z19) ?_;rintro _ OB ⟨t2,rfl,gw⟩;have h4:=h3.trans gw;have l2:=ec K1 iy a;clear gw;generalize eK2:cR K1 iy a=K2 at*;have bK:=(fI.fS App.nil h4).hp;have hn:=h4.1.N;try simp only[Ro]at l2
 refine ae eI ?_;refine θ (aF eI hk bK ?_);refine π (gQ K2 _ k_ v h4.2.1 h4.1.N z19) ?_;rintro _ OC ⟨t3,rfl,gw⟩;have h5:=h4.trans gw;have l3:=ec K2 k_ v;clear gw;generalize eK3:cR K2 k_ v=K3 at*;have bK:=(fI.fS App.nil h5).hp;have hn:=h5.1.N;try simp only[Ro]at l3
 refine ae eI ?_;refine θ (aF eI hk bK ?_);refine π (gQ K3 _ FY pk h5.2.1 h5.1.N z19) ?_;rintro _ OD ⟨t4,rfl,gw⟩;have h6:=h5.trans gw;have l4:=ec K3 FY pk;clear gw;generalize eK4:cR K3 FY pk=K4 at*;have bK:=(fI.fS App.nil h6).hp;have hn:=h6.1.N;try simp only[Ro]at l4
 refine ae eI ?_;clear eK1 eK2 eK3 eK4;refine Ξ [1,2,3,4] (λtp:Tok=>[.p O.N 0,.p (O.N+1) 0,.l (Ζ K4) (aI K4) t4,.l (P.map iQ).length (aI (P.map iQ)) tp]) (λtp O'=>OD.Ge O') ?_ ?_
 ·refine θ (aF eI hk bK ?_);refine Γ ?_;refine Υ [4,43] [1,2,3,41,42] (λx:Nat×Tok=>[.l ((P.take x.1).map iQ).length (aI ((P.take x.1).map iQ)) x.2,mi x.1]) (λx O'=>OD.Ge O'/\App O' OD.N 4 x.2/\x.1<=Ζ P) (λx=>(Ζ P) - x.1) ((0,.nil)) ?_ ?_;exact⟨VH.Ge.refl _,trivial,an2 _⟩;rintro⟨j,tp⟩ O3 ⟨aB,cQ,hj⟩;dsimp only at cQ hj ⊢;by_cases bu:j<Ζ P;rotate_left
  ·obtain rfl:j=Ζ P:=Λ
   rw[alp];refine ν eI ?_;exact aE.mk tp aB
  have bh:=bY eC P j bu;(have fh:(P.take (j+1)).map iQ=(P.take j).map iQ++[iQ P[j]]:=by rw[bN _ _ bu,aum];rfl);have Lg:((P.take j).map iQ).length<=10000:=by rw[apH,an5];omega
  generalize P[j]=y at*;generalize (P.take j).map iQ=E at*;obtain⟨yn,yv⟩:=y;simp only[bp]at bh;refine κ eI ?_;refine κ eI ?_;refine Δ (Γ ?_);refine ξ eI bh ?_;refine VC.al ?_;rintro O4 ⟨aV,nV,fe⟩;refine ξ eI nV ?_;refine VC.al ?_;rintro O5 ⟨bB,Bv,ie⟩;have hkz:O5.hp O3.N=φ (.cells [.s yn,.s yv]):=bB.at nV;have iz:=(cQ.ge aV).ge bB;have nC:=(aB.trans aV).trans bB;cases yv with
  | nil=>
    refine ι (bo eI hkz (show(([]:Ρ)==[])=Α from rfl) Bv ?_);obtain⟨mE,iT,oX⟩:=jj (n:=Ζ E) (cs:=aI E) (ds:=[.s yn,.l 0 [] .nil,.l 0 [] .nil,.s []]) (es:=eb (iQ (yn,[]))) ql wK.1.1 iz (dN E) rfl rfl z12 Λ z13 (fN E) (by simp only[wu,iQ,eb,if_true,Ro,ats,aI]);refine VL.o7 iT oX ?_;refine ae eI ?_;refine ν eI ?_;exact aw.N (j+1,.own O5.N 4) ⟨dR.fS nC iz (dR.after iz),App.after nC.N,bu⟩ (hl:=(by dsimp only;rw[fh,eZ,Rn,aI,aI,aja];rfl))
  | cons c yv=>
    refine ι (bo eI hkz (show((c::yv)==[])=γ from rfl) Bv ?_);have iU:=iz.set (x:=.cells [.s yn,.l 0 [] .nil,.l 1 [.s [],.l 0 [] .nil,.l 0 [] .nil,.s (c::yv)] .full,.s []]) Bv;have alT:=nC.set (k:=O4.N) (by have:=aB.N;omega) (.cells [.s yn,.l 0 [] .nil,.l 1 [.s [],.l 0 [] .nil,.l 0 [] .nil,.s (c::yv)] .full,.s []]);generalize O5.set O4.N (.cells [.s yn,.l 0 [] .nil,.l 1 [.s [],.l 0 [] .nil,.l 0 [] .nil,.s (c::yv)] .full,.s []])=O6 at*;obtain⟨mE,iT,oX⟩:=jj (n:=Ζ E) (cs:=aI E) (ds:=[.s yn,.l 0 [] .nil,.l 1 [.s [],.l 0 [] .nil,.l 0 [] .nil,.s (c::yv)] .full,.s []]) (es:=eb (iQ (yn,c::yv))) ql wK.1.1 iU (dN E) rfl rfl z12 Λ z13 (fN E) (by simp only[wu,iQ,eb,if_neg (List.cons_ne_nil c yv),Ro,TR,ats,aI,aja,aui]);refine VL.o7 iT oX ?_;refine ae eI ?_;refine ν eI ?_;exact aw.N (j+1,.own O6.N 4) ⟨dR.fS alT iU (dR.after iU),App.after alT.N,bu⟩ (hl:=(by dsimp only;rw[fh,eZ,Rn,aI,aI,aja];rfl))
 intro tp O3 aB;have h7:=h6.ge aB;clear bK hn;have bK:=(fI.fS App.nil h7).hp;have hn:=h7.1.N;refine κ eI ?_;refine π (uY K4 t4 nf (P.map iQ) tp h7.2.1 h7.1.N Λ (by rw[apH];omega)) ?_;rintro _ O4 ⟨t5,rfl,g8⟩;have h8:=h7.trans g8;have l5:=se K4 nf (P.map iQ);generalize lK K4 nf (P.map iQ)=K5 at*;have aqL:=(fI.fS App.nil h8).hp;have Ar:=h8.1.N;refine ae eI ?_;refine θ (aF eI hk aqL ?_);refine π (C_ [] .nil M .av (App.nil (B:=O4.N)) (aev _) z10 hM (λd hd=>hx d (List.mem_append_left _ hd))) ?_;rintro _ O5 ⟨t6,rfl,g9⟩;have l6:=Tf [] M;generalize rC [] M=K6 at*;simp only[Ro]at l6;have h9:=h8.ge (fI.fS App.nil g9);refine ae eI ?_;refine π (uY K5 t5 wP K6 t6 h9.2.1 h9.1.N Λ) ?_;rintro _ O6 ⟨t7,rfl,g10⟩;have Ea:=h9.trans g10;have l7:=se K5 wP K6;generalize lK K5 wP K6=K7 at*;have XY:=(fI.fS App.nil Ea).hp;have wQ:=Ea.1.N;refine ae eI ?_;refine θ (aF eI hk XY ?_);refine π (C_ K7 t7 D .av Ea.2.1 Ea.1.N Λ hD (λd hd=>hx d (List.mem_append_right _ hd))) ?_;rintro _ O7 ⟨t8,rfl,g11⟩;have h11:=Ea.trans g11;generalize rC K7 D=K8 at*;have aoJ:=(fI.fS App.nil h11).hp;have M5:=h11.1.N;have dA:=(aoJ _ Λ).trans bC;refine ak eI dA ?_;refine ο eI @fN ?_;exact⟨by rw[hw,eb];rfl,(gD.trans (fI.fS App.nil h11)).set Λ _⟩
def eh:=abT CX<|abT eI<|abT alH<|abT IH<|abT alO T32
def gh.trans{q1 q2:ϑ}(h:gh O b q O1 q1)(k:gh O1 b q1 O2 q2):gh O b q O2 q2:=
 ⟨ahB h.N k.N,λi hi hb hq=>by rw[k.hp i (ai_ hi h.N) hb (h.new i hi hq),h.hp i hi hb hq],λi hi hq=>k.new i (ai_ hi h.N) (h.new i hi hq)⟩
def gh.dG(h:O.Ge O1):gh O b q O1 q:=⟨h.N,λi hi _ _=>h.hp i hi,λ_ _ hq=>hq⟩
def gB.ge{s:Ρ}(h:gB O B b q s)(u:O.Ge O'):gB O' B b q s:=h.r7 (aL.dG u)
def gh.Te(h:O.Ge O1)(u:gh O1 b Β O2 q)(hb:O.N<=b):O.Ge O2:=u.ge h hb (λ_ e=>by cases e)
def VH.Ge.agn(h:O.Ge O1)(u:aL O1 q O2)(hq:∀i,q=φ i->O.N<=i):O.Ge O2:=⟨ahB h.N u.N,λi hi=>(u.hp i (ai_ hi h.N) (λe=>by have:=hq i e;omega)).trans (h.hp i hi)⟩
def th(attr:Bool)(c:UInt8):Bs:=
 if c=38 then[38,97,109,112,59]else if c=60 then[38,108,116,59]else if c=62 then[38,103,116,59]else if c=13 then[38,35,49,51,59]
 else if attr&&c==34 then[38,113,117,111,116,59]else if attr&&c==9 then[38,35,57,59]else if attr&&c==10 then[38,35,49,48,59]else[c]
def o9(attr:Bool)(s:Bs):Bs:=s.flatMap (th attr)
def adz(attr:Bool)(c:UInt8):(th attr c).length<=6:=by
 unfold th;repeat' split
 all_goals simp
def pE(attr:Bool)(s:Bs):(o9 attr s).length<=6*(Ζ s):=by
 induction s with
 | nil=>simp[o9]
 | cons c s ih=>
   have:=adz attr c;unfold o9 at ih ⊢;rw[ai9,Rn,TR];omega
def Ez(s:Bs)(attr:Bool)(O:VH)(hs:Ζ s<=1000000):VF Ε 51 [.s s,mb attr] O (aC λm O'=>m= .s (o9 attr s)/\O.Ge O'):=by
 have Th:Ζ s<=maxLen:=ahB hs z12;have hm:(Ζ s:Int)<=9223372036854775807:=Λ
 refine χ 56 [.tmp 4] func51 ?_;refine ae eh ?_;have uP:=gB.fresh O (aev O.N);have ly:O.Ge ((O.push (.cells [.v (.pointer Β),.l 0 [] .nil])).push (.shape O.N 141 2)):=((VH.Ge.refl O).push _).push _;generalize ((O.push (.cells [.v (.pointer Β),.l 0 [] .nil])).push (.shape O.N 141 2))=O1 at*;refine VL.bytes aa (el:=5) (l:=s) rfl rfl z21 z30 z44 Th rfl λcap h1 h2=>WL.sound aa ?_
 have P5:=ζ O1 (.cells (s.map ef));have aM:=(VH.Ge.refl O1).push (.cells (s.map ef));have dq:O1.N<(O1.push (.cells (s.map ef))).N:=as0 _;have si:=uP.hi;have cS:=uP.ge aM;have ry:gh O1 O.N Β (O1.push (.cells (s.map ef))) Β:=gh.dG aM;generalize O1.push (.cells (s.map ef))=O2 at*;refine ae eh ?_;refine WC.cj [11] [1,5,9,10] (λx:Nat×ϑ=>[mi x.1]) (λx O'=>gh O2 O.N Β O' x.2/\gB O' O.N O.N x.2 (o9 attr (s.take x.1))/\x.1<=Ζ s) (λx=>(Ζ s) - x.1) ((0,Β)) ?_ ?_;exact⟨gh.dG (VH.Ge.refl _),cS,an2 _⟩;rintro⟨j,q⟩ O3 ⟨hu,hb,hj⟩;dsimp only at hu hb hj ⊢;have GL:=(hu.hp O1.N dq Λ z10).trans P5;by_cases h3:j<Ζ s;have pq:=ai8 h3;(((((((((((((((((((have fh:o9 attr (s.take (j+1))=o9 attr (s.take j)++th attr s[j]:=by unfold o9;rw[bN _ _ h3,an6,ai9,ats,aja]);have cG:(o9 attr (s.take j)).length<=6000000:=by have:=pE attr (s.take j);rw[an5]at this;omega);generalize o9 attr (s.take j)=T at*;generalize s[j]=c at*;have hc:=c.toNat_lt;have key:∀(l:Bs)(q':ϑ)(O4:VH),th attr c=l->gB O4 O.N O.N q' (T++l)->gh O3 O.N q O4 q'->gh O2 O.N Β O4 q'/\gB O4 O.N O.N q' (o9 attr (s.take (j+1)))/\j+1<=Ζ s:=λl q' O4 e h k=>⟨hu.trans k,by rw[fh,e];exact h,h3⟩);have P9:c=38 ↔ c.toNat=38:=⟨λh=>by rw[h];rfl,λh=>UInt8.toNat_inj.1 h⟩;have Ti:c=60 ↔ c.toNat=60:=⟨λh=>by rw[h];rfl,λh=>UInt8.toNat_inj.1 h⟩;have XZ:c=62 ↔ c.toNat=62:=⟨λh=>by rw[h];rfl,λh=>UInt8.toNat_inj.1 h⟩;have IX:c=13 ↔ c.toNat=13:=⟨λh=>by rw[h];rfl,λh=>UInt8.toNat_inj.1 h⟩;have e34:c=34 ↔ c.toNat=34:=⟨λh=>by rw[h];rfl,λh=>UInt8.toNat_inj.1 h⟩;have e9:c=9 ↔ c.toNat=9:=⟨λh=>by rw[h];rfl,λh=>UInt8.toNat_inj.1 h⟩;have P_:c=10 ↔ c.toNat=10:=⟨λh=>by rw[h];rfl,λh=>UInt8.toNat_inj.1 h⟩;by_cases h38:c.toNat=38);refine bo eh pq GL @aA ?_;refine π (bX [38,97,109,112,59] hb z28) ?_;rintro _ O4 ⟨rfl,q',c8,cC⟩;refine ae eh ?_;exact aw.N (j+1,q') (key _ _ _ (by simp[th,P9,h38]) c8 cC));by_cases h60:c.toNat=60);refine bo eh pq GL @aA ?_;refine π (bX [38,108,116,59] hb z28) ?_;rintro _ O4 ⟨rfl,q',c8,cC⟩;refine ae eh ?_;exact aw.N (j+1,q') (key _ _ _ (by simp[th,P9,Ti,h60]) c8 cC));by_cases h62:c.toNat=62);refine bo eh pq GL @aA ?_;refine π (bX [38,103,116,59] hb z28) ?_;rintro _ O4 ⟨rfl,q',c8,cC⟩;refine ae eh ?_;exact aw.N (j+1,q') (key _ _ _ (by simp[th,P9,Ti,XZ,h62]) c8 cC));by_cases h13:c.toNat=13);refine bo eh pq GL @aA ?_;refine π (bX [38,35,49,51,59] hb z28) ?_;rintro _ O4 ⟨rfl,q',c8,cC⟩;refine ae eh ?_;exact aw.N (j+1,q') (key _ _ _ (by simp[th,P9,Ti,XZ,IX,h13]) c8 cC));cases attr);refine bo eh pq GL @aA ?_;refine π (vQ c hb) ?_;rintro _ O4 ⟨rfl,q',c8,cC⟩;refine ae eh ?_;exact aw.N (j+1,q') (key _ _ _ (by simp[th,P9,Ti,XZ,IX,h38,h60,h62,h13]) c8 cC));by_cases h34:c.toNat=34);refine bo eh pq GL @aA ?_;refine π (bX [38,113,117,111,116,59] hb z28) ?_;rintro _ O4 ⟨rfl,q',c8,cC⟩;refine ae eh ?_;exact aw.N (j+1,q') (key _ _ _ (by simp[th,P9,Ti,XZ,IX,e34,h34]) c8 cC));by_cases h9:c.toNat=9);refine bo eh pq GL @aA ?_;refine π (bX [38,35,57,59] hb z28) ?_;rintro _ O4 ⟨rfl,q',c8,cC⟩;refine ae eh ?_;exact aw.N (j+1,q') (key _ _ _ (by simp[th,P9,Ti,XZ,IX,e34,e9,h9]) c8 cC));by_cases Ea:c.toNat=10);refine bo eh pq GL @aA ?_;refine π (bX [38,35,49,48,59] hb z28) ?_;rintro _ O4 ⟨rfl,q',c8,cC⟩;refine ae eh ?_;exact aw.N (j+1,q') (key _ _ _ (by simp[th,P9,Ti,XZ,IX,e34,e9,P_,Ea]) c8 cC));refine bo eh pq GL @aA ?_;refine π (vQ c hb) ?_;rintro _ O4 ⟨rfl,q',c8,cC⟩;refine ae eh ?_;exact aw.N (j+1,q') (key _ _ _ (by simp[th,P9,Ti,XZ,IX,e34,e9,P_,h38,h60,h62,h13,h34,h9,Ea]) c8 cC)
 ·obtain rfl:j=Ζ s:=Λ
  rw[alp]at hb;have Ld:=pE attr s;refine ae eh ?_;refine π (r_ hb) ?_;rintro _ O4 ⟨rfl,cC⟩;refine ae eh ?_;exact(gh.Te (ly.trans aM) hu (aev _)).agn cC hb.uT
structure X5 where
 k:Int
 n:Bs
 hH:List (Bs×Bs)
 t:Bs
 off:Nat
 line:Nat
 IY:Nat
 deriving DecidableEq
def IZ(x:X5):Η:=[mi x.k,.s x.n,.l (Ζ x.hH) (x.hH.flatMap bp) .av,.s x.t,mi x.off,mi x.line,mi x.IY]
def qN(a:Bs×Bs):Bs:=[32]++a.1++[61,34]++o9 Α a.2++[34]
def M_(n:Bs)(L:List (Bs×Bs))(e:Bs):Bs:=[60]++n++L.flatMap qN++e
def I0(a:Bs×Bs)(h1:Ζ a.1<=1000000)(h2:Ζ a.2<=1000000):(qN a).length<=7000004:=by
 have:=pE Α a.2;simp only[qN,Rn,TR,Ro];omega
def tj:∀L:List (Bs×Bs),(∀a∈L,Ζ a.1<=1000000/\(Ζ a.2)<=1000000)->(L.flatMap qN).length<=(Ζ L)*7000004
 | [],_=>by simp
 | a::L,h=>by
   have h1:=I0 a (h a z10).1 (h a z10).2;(have h2:=tj L λx hx=>h x (auo _ hx));rw[ai9,Rn,TR,auA];omega
def ago{s:Bs}(x:X5)(e:Bs)(h:gB O B b q s)(hs:Ζ s<=10000000000000)(hn:Ζ x.n<=1000000)(he:Ζ e<=1000000)(hA:∀a∈x.hH,Ζ a.1<=1000000/\(Ζ a.2)<=1000000)(hl:Ζ x.hH<=1000000):
  VF Ε 83 [.p b 0,.agg (IZ x),.s e] O (aC λm O'=>∃q',gB O' B b q' (s++M_ x.n x.hH e)/\gh O b q O' q'):=by
 obtain⟨k,n,L,t,off,line,IY⟩:=x;dsimp only at hn hA hl;have nR:=aP eC L;simp only[IZ];refine ω 35 [] func83 ?_;refine κ eh ?_;refine VC.bx ?_;rintro O1 ⟨aM,hk,dq⟩;have cS:=h.ge aM;try simp only[aq]at hk
 refine ξ eh hk ?_;refine π (bX ([60]++n) cS z25) ?_;rintro _ O2 ⟨rfl,q2,bV,dZ⟩;have bC:=(dZ.hp O.N Λ (by have:=h.hi;omega) (h.MH _ (aev _))).trans hk;refine ae eh ?_;refine Ξ [0,2] (λq:ϑ=>[.p b 0,.s e]) (λq' O'=>gh O b q O' q'/\gB O' B b q' (s++([60]++n)++L.flatMap qN)) ?_ ?_
 ·refine ξ eh bC ?_;refine Γ ?_;refine Υ [16] [0,2,14,15] (λx:Nat×ϑ=>[mi x.1]) (λx O'=>gh O b q O' x.2/\gB O' B b x.2 (s++([60]++n)++(L.take x.1).flatMap qN)/\x.1<=Ζ L) (λx=>(Ζ L) - x.1) ((0,q2)) ?_ ?_;exact⟨(gh.dG aM).trans dZ,by simpa using bV,an2 _⟩;rintro⟨j,qj⟩ O3 ⟨cx,cE,hj⟩;dsimp only at cx cE hj ⊢;by_cases bu:j<Ζ L;rotate_left
  ·obtain rfl:j=Ζ L:=Λ
   rw[alp]at cE;refine ν eh ?_;exact aE.mk qj ⟨cx,cE⟩
  have bh:=bY eC L j bu;(have fh:(L.take (j+1)).flatMap qN=(L.take j).flatMap qN++qN L[j]:=by rw[bN _ _ bu,an6,ai9,ats,aja]);have m5:=hA L[j] (apF bu);have cz:=I0 L[j] m5.1 m5.2
  have PV:((L.take j).flatMap qN).length<=7000004000000:=by
   have:=tj (L.take j) λa ha=>hA a (List.mem_of_mem_take ha)
   rw[an5]at this;omega
  generalize L[j]=y at*;generalize (L.take j).flatMap qN=T at*;obtain⟨yn,yv⟩:=y;dsimp only at m5;simp only[bp]at bh;refine κ eh ?_;refine κ eh ?_;refine Δ (Γ ?_);refine ξ eh bh ?_;refine VC.al ?_;rintro O4 ⟨aV,nV,fe⟩;have c8:=cE.ge aV;refine VC.ot [10] ?_;refine ρ 0 eh ?_;refine ρ 1 eh ?_;refine auU (m:=.s yn) 2 ?_ ?_;exact dT eh nV;simp only[ag];refine ρ 3 eh ?_;refine ρ 4 eh ?_;refine ρ 5 eh ?_;refine auU (m:=.s yv) 6 ?_ ?_;exact dT eh nV;simp only[ag];refine ab.call (i:=7) (Ez yv Α _ m5.2) ?_;rintro _ O5 ⟨rfl,bB⟩;simp only[ag];refine⟨bB,?_⟩;have Ld:=pE Α yv;have hae:qN (yn,yv)=[32]++yn++[61,34]++o9 Α yv++[34]:=rfl;generalize o9 Α yv=E at*;refine ρ 8 eh ?_;refine ρ 9 eh ?_;refine ab.bM [(10,.one)] ?_;refine ae eh ?_;refine π (bX ([32]++yn++[61,34]++E++[34]) (c8.ge bB) z25) ?_;rintro _ O6 ⟨rfl,q6,kH,gP⟩;refine ae eh ?_;refine ν eh ?_;exact aw.N (j+1,q6) ⟨(cx.trans (gh.dG (aV.trans bB))).trans gP,by rw[fh,hae, <-an3];exact kH,bu⟩
 rintro q3 O3 ⟨cx,cE⟩;have PV:=tj L hA;refine ν eh ?_;refine π (bX e cE z25) ?_;rintro _ O4 ⟨rfl,q4,c8,cC⟩;refine ae eh ?_;refine⟨q4,?_,cx.trans cC⟩;simpa[M_,an3]using c8
def Da(x:X5):Bs:=
 if x.k=5 then[60,33,45,45]++x.t++[45,45,62]else if x.k=6 then[60,63,120,109,108]++x.t++[63,62]else if x.k=3 then[60,47]++x.n++[62]
 else if x.k=1 then M_ x.n x.hH [62]else if x.k=2 then M_ x.n x.hH [47,62]else if x.k=4 then o9 γ x.t else[]
structure X6(x:X5):Prop where
 n:Ζ x.n<=1000000
 t:Ζ x.t<=1000000
 a:∀a∈x.hH,Ζ a.1<=1000000/\(Ζ a.2)<=1000000
 l:Ζ x.hH<=1000000
def Na(n:Bs)(L:List (Bs×Bs))(e:Bs)(hn:Ζ n<=1000000)(he:Ζ e<=10)(hA:∀a∈L,Ζ a.1<=1000000/\(Ζ a.2)<=1000000)(hl:Ζ L<=1000000):(M_ n L e).length<=8000000000000:=by
 have:=tj L hA;simp only[M_,Rn,TR,Ro];omega
def Tj(x:X5)(h:X6 x):(Da x).length<=8000000000000:=by
 have h1:=h.n;have h2:=h.t;have h3:=Na x.n x.hH [62] h.n z10 h.a h.l;have h4:=Na x.n x.hH [47,62] h.n z10 h.a h.l;have h5:=pE γ x.t;unfold Da;repeat' split
 all_goals first | omega | (simp only[Rn,TR,Ro];omega)
def adA(x:X5)(tk:Tok)(h:X6 x):VF Ε 52 [.l 1 (IZ x) tk] O (aC λm O'=>m= .s (Da x)/\O.Ge O'):=by
 have cz:=Tj x h;have hn:=h.n;have ht:=h.t;have GN:∀l:Bs,Ζ l<=3000000->Ζ l<=140737488355328:=λl h=>Λ
 have bh:(IZ x++[]).length=7:=rfl;obtain⟨k,n,L,t,off,line,IY⟩:=x;dsimp only at hn ht;refine ω 51 [.tmp 2] func52 ?_;simp only[IZ];refine κ eh ?_;refine κ eh ?_;have uP:=gB.fresh O (aev O.N);have ly:O.Ge ((O.push (.cells [.v (.pointer Β),.l 0 [] .nil])).push (.shape O.N 141 2)):=((VH.Ge.refl O).push _).push _;generalize ((O.push (.cells [.v (.pointer Β),.l 0 [] .nil])).push (.shape O.N 141 2))=O1 at*;refine Ξ [3] (λq:ϑ=>[.p O.N 0]) (λq O'=>O.Ge O'/\gB O' O.N O.N q (Da ⟨k,n,L,t,off,line,IY⟩)) ?_ ?_;rotate_left;rintro q O2 ⟨ax,bV⟩;refine ν eh ?_;refine π (r_ bV) ?_;rintro _ O3 ⟨rfl,cx⟩;refine ae eh ?_;exact ax.agn cx bV.uT;refine κ eh ?_;refine Γ ?_;refine Υ [8] [3,6,7] (λx:Bool×ϑ=>[mi (if x.1 then 1 else 0)]) (λx O'=>O.Ge O'/\gB O' O.N O.N x.2 (if x.1 then Da ⟨k,n,L,t,off,line,IY⟩else[])) (λx=>if x.1 then 0 else 1) ((γ,Β)) ?_ ?_;exact⟨ly,uP⟩;rintro⟨j,q⟩ O2 ⟨ax,bV⟩;dsimp only at bV ⊢;cases j;rotate_left;rw[if_pos rfl]at bV ⊢;refine ν eh ?_;exact aE.mk q ⟨ax,bV⟩;rw[if_neg z12]at bV ⊢;refine κ eh ?_;refine κ eh ?_;refine Δ (Γ ?_);refine κ eh ?_;refine VC.al ?_;rintro O3 ⟨aB,hk,ea⟩;have cE:=bV.ge aB;have fin:∀(l:Bs)(q':ϑ)(O4:VH),Da ⟨k,n,L,t,off,line,IY⟩=l->gB O4 O.N O.N q' ([]++l)->gh O3 O.N q O4 q'->O.Ge O4/\gB O4 O.N O.N q' (Da ⟨k,n,L,t,off,line,IY⟩):=λl q' O4 e h k=>⟨k.ge (ax.trans aB) (aev _) cE.uT,by rw[e];exact h⟩
 by_cases h5:k=5;subst h5;refine ο eh hk ?_;refine π (bX ([60,33,45,45]++t++[45,45,62]) cE z25) ?_;rintro _ O4 ⟨rfl,q',c8,cC⟩;refine ae eh ?_;refine ν eh ?_;exact aw.N (Α,q') (fin _ _ _ rfl c8 cC) (hm:=auj);by_cases h6:k=6;subst h6;refine ο eh hk ?_;refine π (bX ([60,63,120,109,108]++t++[63,62]) cE z25) ?_;rintro _ O4 ⟨rfl,q',c8,cC⟩;refine ae eh ?_;refine ν eh ?_;exact aw.N (Α,q') (fin _ _ _ rfl c8 cC) (hm:=auj);by_cases h3:k=3;subst h3;refine ο eh hk ?_;refine π (bX ([60,47]++n++[62]) cE z25) ?_;rintro _ O4 ⟨rfl,q',c8,cC⟩;refine ae eh ?_;refine ν eh ?_;exact aw.N (Α,q') (fin _ _ _ rfl c8 cC) (hm:=auj);by_cases h1:k=1;subst h1;refine ο eh hk ?_;refine π (ago ⟨1,n,L,t,off,line,IY⟩ [62] cE z10 hn z10 h.a h.l) ?_;rintro _ O4 ⟨q',c8,cC⟩;refine ae eh ?_;refine ν eh ?_;exact aw.N (Α,q') (fin _ _ _ rfl c8 cC) (hm:=auj);by_cases h2:k=2;subst h2;refine ο eh hk ?_;refine π (ago ⟨2,n,L,t,off,line,IY⟩ [47,62] cE z10 hn z10 h.a h.l) ?_;rintro _ O4 ⟨q',c8,cC⟩;refine ae eh ?_;refine ν eh ?_;exact aw.N (Α,q') (fin _ _ _ rfl c8 cC) (hm:=auj);by_cases h4:k=4;subst h4;have Ld:=pE γ t;refine ο eh hk ?_;refine π (Ez t γ _ ht) ?_;rintro _ O4 ⟨rfl,aV⟩;refine ae eh ?_;refine π (bX (o9 γ t) (cE.ge aV) (by simp only[Ro];omega)) ?_;rintro _ O5 ⟨rfl,q',dX,iJ⟩;refine ae eh ?_;refine ν eh ?_;exact aw.N (Α,q') (fin _ _ _ rfl dX ((gh.dG aV).trans iJ)) (hm:=auj)
 ·have cZ:Da ⟨k,n,L,t,off,line,IY⟩=[]:=by simp[Da,h1,h2,h3,h4,h5,h6]
  refine ο eh hk ?_;refine ν eh ?_;exact aw.N (Α,q) (fin _ _ _ cZ (by simpa using cE) (gh.dG (VH.Ge.refl _))) (hm:=auj)
def aqM:fA Tryz.t142.desc=γ:=by kernel_rfl
def fE:=abT eh<|abT aqd aqM
mutual
def vY:Nd->Nat
 | .mk _ _ k _=>1+yl k
def yl:List Nd->Nat
 | []=>0
 | x::r=>vY x+yl r
end
def I1(n:Bs)(a:List (Bs×Bs))(k:List Nd)(t:Bs):vY (.mk n a k t)=1+yl k:=by rw[vY]
mutual
def I2:Nd->Prop
 | .mk n a k t=>Ζ n<=1000000/\(Ζ t)<=1000000/\(∀x∈a,Ζ x.1<=1000000/\(Ζ x.2)<=1000000)/\(Ζ a)<=1000000/\(Ζ k)<=1000000/\BN k
def BN:List Nd->Prop
 | []=>True
 | x::r=>I2 x/\BN r
end
mutual
def oC:Nd->Bs
 | .mk n a k t=>if n=[]then o9 γ t else Da ⟨if (Ζ k)=0 then 2 else 1,n,a,[],0,0,0⟩++fO k++(if (Ζ k)=0 then[]else[60,47]++n++[62])
def fO:List Nd->Bs
 | []=>[]
 | x::r=>oC x++fO r
end
def Db:∀{k:List Nd} {x:Nd},x∈k->vY x<=yl k
 | y::r,x,h=>by
   rw[yl];rcases asc.1 h with rfl | h;omega;have:=Db h;omega
def I3:∀{k:List Nd} {x:Nd},BN k->x∈k->I2 x
 | y::r,x,h,hx=>by
   rw[BN]at h;rcases asc.1 hx with rfl | hx;exact h.1;exact I3 h.2 hx
def wR(L M:List Nd):fO (L++M)=fO L++fO M:=by
 induction L with
 | nil=>rw[an4,fO,an4]
 | cons x L ih=>rw[an7,fO,fO,ih,an3]
def sj(L:List Nd):aI L=L.flatMap eb:=by
 induction L with
 | nil=>rw[aI];rfl
 | cons x L ih=>rw[aI,ih,ai9]
def agp:∀(N:Nat)(x:Nd)(O:VH)(B b lk:Nat)(q:ϑ)(s:Bs),vY x<=N->gB O B b q s->O.hp lk=φ (.cells [.func (.func 49) [] [.p b 0,.p lk 0]])->lk<O.N->lk≠b->q≠φ lk->Ζ s+(oC x).length<=10000000000000->I2 x->
  VF Ε 49 [.agg (eb x),.p b 0,.p lk 0] O (aC λm O'=>∃q',gB O' B b q' (s++oC x)/\gh O b q O' q')
 | 0,.mk n a k t=>λO B b lk q s h=>by rw[I1]at h;omega
 | N+1,.mk n a k t=>λO B b lk q s hN h eU gT KZ xl hs bH=>by
   rw[I1]at hN;rw[I2]at bH;obtain⟨hn,ht,hA,Aq,j6,hks⟩:=bH;rw[oC]at hs ⊢;rw[eb];refine ω 48 [] func49 ?_;refine κ fE ?_;refine VC.bx ?_;rintro O1 ⟨aM,hk,dq⟩;have cS:=h.ge aM;have atw:=(aM.hp _ gT).trans eU;cases n with
   | nil=>
     rw[if_pos rfl]at hs ⊢;refine θ (aF fE hk (show(([]:Ρ)==[])=Α from rfl) ?_);refine π (Ez t γ _ ht) ?_;rintro _ O2 ⟨rfl,ax⟩;have Ld:=pE γ t;refine ae fE ?_;refine π (bX (o9 γ t) (cS.ge ax)) ?_;rintro _ O3 ⟨rfl,q',cE,cx⟩;refine ae fE ?_;exact⟨q',cE,(gh.dG (aM.trans ax)).trans cx⟩
   | cons c n=>
     rw[if_neg z10]at hs ⊢;have hnb:((c::n)==[])=γ:=rfl;generalize GI:c::n=nm at*;have xC:X6 ⟨if (Ζ k)=0 then 2 else 1,nm,a,[],0,0,0⟩:=⟨hn,z10,hA,Aq⟩;refine θ (aF fE hk hnb ?_);refine θ (aF fE hk hnb ?_);refine VC.al ?_;rintro O2 ⟨ax,hkt,eG⟩;have bC:=(ax.hp O.N Λ).trans hk;refine Ξ [1,2,3,4] (λ_:Unit=>[.p b 0,.p lk 0,.p O.N 0,.p O1.N 0]) (λ_ O'=>O.Ge O'/\O'.N=O2.N/\O'.hp O.N=φ (.cells (eb (.mk nm a k t)))/\O'.hp O1.N=φ (.cells (IZ ⟨if (Ζ k)=0 then 2 else 1,nm,a,[],0,0,0⟩))) ?_ ?_
     ·have gD:=aM.trans ax;by_cases h0:Ζ k=0;refine ξ fE bC ?_;refine ο fE h0 ?_;exact aE.mk () ⟨gD,rfl,by rw[bC,eb],by rw[hkt];rfl⟩
      ·have h1:0<Ζ k:=Λ
       refine ξ fE bC ?_;refine ο fE hkt ?_;refine aE.mk () ⟨gD.set Λ _,rfl,?_,?_⟩;rw[VH.sx,bC,eb];rw[υ,if_neg h0];rfl
     rintro⟨⟩ O3 ⟨aB,ea,dA,alU⟩;have cE:=h.ge aB;simp only[eb]at dA;generalize hX:(⟨if (Ζ k)=0 then 2 else 1,nm,a,[],0,0,0⟩:X5)=X at*;have nT:=Tj X xC;simp only[Rn]at hs;have hXc:IZ X=[mi X.k,.s X.n,.l (Ζ X.hH) (X.hH.flatMap bp) .av,.s X.t,mi X.off,mi X.line,mi X.IY]:=rfl;rw[hXc,aq,aq,aq,aq]at alU;refine ξ fE alU ?_;refine π (adA X .full xC) ?_;rintro _ O4 ⟨rfl,aV⟩;refine ae fE ?_;refine π (bX (Da X) (cE.ge aV)) ?_;rintro _ O5 ⟨rfl,q5,dX,iJ⟩;have aaD:gh O b q O5 q5:=(gh.dG (aB.trans aV)).trans iJ;have i_:=(iJ.hp O.N (by have:=aV.N;omega) (by have:=h.hi;omega) (h.MH _ (aev _))).trans (aV.at dA);refine ae fE ?_;have As:q5≠φ O.N:=iJ.new O.N (by have:=aV.N;omega) (h.MH _ (aev _));(have ie:O.N<O5.N:=by have:=iJ.N;have:=aV.N;omega);refine Ξ [1,2,3] (λq':ϑ=>[.p b 0,.p lk 0,.p O.N 0]) (λq' O'=>gh O5 b q5 O' q'/\gB O' B b q' (s++Da X++fO k)) ?_ ?_
     ·refine ξ fE i_ ?_;refine Γ ?_;refine Υ [31] [1,2,3,29,30] (λx:Nat×ϑ=>[mi x.1]) (λx O'=>gh O5 b q5 O' x.2/\gB O' B b x.2 (s++Da X++fO (k.take x.1))/\x.1<=Ζ k) (λx=>(Ζ k) - x.1) ((0,q5)) ?_ ?_;exact⟨gh.dG (VH.Ge.refl _),by simpa[fO]using dX,an2 _⟩;rintro⟨j,qj⟩ O6 ⟨gP,kH,hj⟩;dsimp only at gP kH hj ⊢;by_cases bu:j<Ζ k;rotate_left
      ·obtain rfl:j=Ζ k:=Λ
       rw[alp]at kH;refine ν fE ?_;exact aE.mk qj ⟨gP,kH⟩
      have bh:=bY m4 k j bu;rw[<-sj]at bh;have aaE:=dN k;have fh:fO (k.take (j+1))=fO (k.take j)++oC k[j]:=by rw[bN _ _ bu,wR,fO,fO,aja]
      have qO:(fO k).length=(fO (k.take j)).length+(oC k[j]).length+(fO (k.drop (j+1))).length:=by
       rw[<-Rn, <-fh, <-Rn, <-wR,auw]
      (have mH:vY k[j]<=N:=by have:=Db (apF bu);omega);have ym:=I3 hks (apF bu);generalize k[j]=y at*;have ua:=aaD.trans gP;have aqN:=(ua.hp lk gT KZ xl).trans eU;have aqO:=ua.new lk gT xl;have ih:=λOO h1 h2 h3=>agp N y OO B b lk qj (s++Da X++fO (k.take j)) mH h1 h2 h3 KZ aqO (by simp only[Rn];omega) ym
      generalize fO (k.take j)=T at*;cases y with
      | mk yn ya yk yt=>
        simp only[eb]at bh ih;refine κ fE ?_;refine κ fE ?_;refine Δ (Γ ?_);refine ξ fE bh ?_;refine VC.al ?_;rintro O7 ⟨dB,nV,sk⟩;have alV:=(dB.hp lk (by have:=ua.N;omega)).trans aqN;refine ι (aF fE nV alV ?_);refine π (ih O7 (kH.ge dB) alV (by have:=ua.N;omega)) ?_;rintro _ O8 ⟨q8,yf,Lh⟩;refine ae fE ?_;refine ν fE ?_;exact aw.N (j+1,q8) ⟨(gP.trans (gh.dG dB)).trans Lh,by rw[fh, <-an3];exact yf,bu⟩
     rintro q6 O6 ⟨gP,kH⟩;have qP:=(gP.hp O.N ie (by have:=h.hi;omega) As).trans i_;have Tl:=aaD.trans gP;by_cases h0:Ζ k=0;rw[if_pos h0];refine ο fE qP ?_;exact⟨q6,by simpa[an3]using kH,Tl⟩;rw[if_neg h0]at hs ⊢;simp only[Rn,TR,Ro]at hs;refine ο fE qP ?_;refine π (bX ([60,47]++nm++[62]) kH z25) ?_;rintro _ O7 ⟨rfl,q7,yp,oy⟩;refine ae fE ?_;exact⟨q7,by simpa[an3]using yp,Tl.trans oy⟩
def adB(x:Nd)(O:VH)(hs:(oC x).length<=10000000000000)(bH:I2 x):VF Ε 28 [.agg (eb x)] O (aC λm O'=>m= .s (oC x)/\O.Ge O'):=by
 have lay:=agp (vY x) x;generalize oC x=T at*;cases x with
 | mk n a k t=>
   simp only[eb]at lay ⊢;refine ω 10 [.tmp 2] func28 ?_;refine κ fE ?_;refine VC.bx ?_;rintro O1 ⟨aM,hk,dq⟩;refine κ fE ?_;have uP:=gB.fresh O1 (aev O1.N);have ly:O1.Ge ((O1.push (.cells [.v (.pointer Β),.l 0 [] .nil])).push (.shape O1.N 141 2)):=((VH.Ge.refl O1).push _).push _;have xm:=uP.hi;generalize ((O1.push (.cells [.v (.pointer Β),.l 0 [] .nil])).push (.shape O1.N 141 2))=O2 at*;refine κ fE ?_;refine κ fE ?_;refine VC.al ?_;rintro O3 ⟨aB,dA,ea⟩;have du:=(aB.hp O.N (by have:=ly.N;omega)).trans ((ly.hp O.N Λ).trans hk);refine θ (aF fE dA du ?_);refine π (lay O3 O1.N O1.N O2.N Β [] (aev _) (uP.ge aB) dA Λ Λ z10 (by simpa using hs) bH) ?_;rintro _ O4 ⟨q,c8,cC⟩;rw[an4]at c8;refine ae fE ?_;refine ν fE ?_;refine π (r_ c8) ?_;rintro _ O5 ⟨rfl,iJ⟩;refine ae fE ?_;exact(cC.Te (aM.trans (ly.trans aB)) Λ).agn iJ (λi e=>by have:=c8.uT i e;omega)
def Nd.nm:Nd->Bs
 | .mk n _ _ _=>n
def Nd.kids:Nd->List Nd
 | .mk _ _ k _=>k
def Nd.tx:Nd->Bs
 | .mk _ _ _ t=>t
def mR(name:Bs)(y:Nd):Bool:=y.nm != []&&(name==[]||y.nm==name)
def ir(x:Nd)(name:Bs):List Nd:=x.kids.filter (mR name)
def Hm(x:Nd)(name:Bs)(O:VH)(hk:Ζ x.kids<=1000000):VF Ε 223 [.agg (eb x),.s name] O (aC λm O'=>∃tk,m= .l (ir x name).length (aI (ir x name)) tk/\O.Ge O'):=by
 obtain⟨n,a,k,t⟩:=x;simp only[Nd.kids]at hk;unfold ir;simp only[Nd.kids,eb];refine ω 33 [.tmp 4] func223 ?_;refine κ fE ?_;refine VC.bx ?_;rintro O1 ⟨aM,du,dq⟩;refine VC.join aa [4] (λtk:Tok=>[.l (k.filter (mR name)).length (aI (k.filter (mR name))) tk]) (λtk O'=>O.Ge O') ?_ ?_;rotate_left;intro tk O9 bq;refine ae fE ?_;exact⟨tk,rfl,bq⟩;refine ξ fE du ?_;refine Γ ?_;refine Υ [4,10] [1,8,9] (λx:Nat×Tok=>[.l ((k.take x.1).filter (mR name)).length (aI ((k.take x.1).filter (mR name))) x.2,mi x.1]) (λx O'=>O.Ge O'/\App O' O.N 4 x.2/\x.1<=Ζ k) (λx=>(Ζ k) - x.1) ((0,.nil)) ?_ ?_;exact⟨aM,trivial,an2 _⟩;rintro⟨j,tk⟩ O2 ⟨ax,cQ,hj⟩;dsimp only at cQ hj ⊢;by_cases bu:j<Ζ k;rotate_left
 ·obtain rfl:j=Ζ k:=Λ
  rw[alp];refine ν fE ?_;exact aE.mk tk ax
 have bh:=bY m4 k j bu;rw[<-sj]at bh;have aaE:=dN k
 have fh:(k.take (j+1)).filter (mR name)=(k.take j).filter (mR name)++if mR name k[j]then[k[j]]else[]:=by
  rw[bN _ _ bu,List.filter_append];(congr 1);cases h:mR name k[j]<;>simp[h]
 have Lg:((k.take j).filter (mR name)).length<=1000000:=ahB (auh _ _) (by rw[an5];omega);generalize k[j]=y at*;generalize (k.take j).filter (mR name)=E at*;obtain⟨yn,ya,yk,yt⟩:=y;have fB:=C7 (.mk yn ya yk yt);have hln:=m4 (.mk yn ya yk yt);have agq:aI [.mk yn ya yk yt]=eb (.mk yn ya yk yt):=by rw[aI,aI,aja]
 simp only[eb]at bh fB hln agq;refine κ fE ?_;refine κ fE ?_;refine Δ (Γ ?_);refine ξ fE bh ?_;refine VC.al ?_;rintro O3 ⟨aB,nV,ea⟩;have nD:=cQ.ge aB;have Dc:=ax.trans aB;have yes:mR name (.mk yn ya yk yt)=Α->(k.take (j+1)).filter (mR name)=E++[.mk yn ya yk yt]:=λh=>by rw[fh,h,if_pos rfl]
 have nay:mR name (.mk yn ya yk yt)=γ->(k.take (j+1)).filter (mR name)=E:=λh=>by rw[fh,h,if_neg z10,aja]
 have hik:mR name (.mk yn ya yk yt)=(yn != []&&(name==[]||yn==name)):=rfl;rw[hik]at yes nay;cases h1:yn==[];cases h2:name==[];cases h3:yn==name;have hn:=nay (by simp[bne,h1,h2,h3]);refine ι (gy fE nV h1 h2 h3 ?_);refine ν fE ?_;exact aw.N (j+1,tk) ⟨Dc,nD,bu⟩ (hl:=(by dsimp only;rw[hn];rfl));have hn:=yes (by simp[bne,h1,h2,h3]);refine ι (gy fE nV h1 h2 h3 ?_);obtain⟨mE,iT,oX⟩:=jj (n:=Ζ E) (cs:=aI E) (ds:=[.s yn,.l (Ζ ya) (ya.flatMap bp) .av,.l (Ζ yk) (aI yk) .av,.s yt]) ql wK.1.1 nD (dN E) rfl rfl z12 Λ z13 (fN E) fB;refine VL.o7 iT oX ?_;refine ae fE ?_;refine ν fE ?_;exact aw.N (j+1,.own O3.N 4) ⟨dR.fS Dc nD (dR.after nD),App.after Dc.N,bu⟩ (hl:=(by dsimp only;rw[hn,eZ,Rn,agq];rfl));have hn:=yes (by simp[bne,h1,h2]);refine ι (bo fE nV h1 h2 ?_);obtain⟨mE,iT,oX⟩:=jj (n:=Ζ E) (cs:=aI E) (ds:=[.s yn,.l (Ζ ya) (ya.flatMap bp) .av,.l (Ζ yk) (aI yk) .av,.s yt]) ql wK.1.1 nD (dN E) rfl rfl z12 Λ z13 (fN E) fB;refine VL.o7 iT oX ?_;refine ae fE ?_;refine ν fE ?_;exact aw.N (j+1,.own O3.N 4) ⟨dR.fS Dc nD (dR.after nD),App.after Dc.N,bu⟩ (hl:=(by dsimp only;rw[hn,eZ,Rn,agq];rfl));have hn:=nay (by simp[bne,h1]);refine ι (aF fE nV h1 ?_);refine ν fE ?_;exact aw.N (j+1,tk) ⟨Dc,nD,bu⟩ (hl:=(by dsimp only;rw[hn];rfl))
def kB(k:List Nd):Bs:=k.flatMap λy=>bif y.nm==[]then y.tx else[]
def BO(x:Nd):Bs:=trimB (kB x.kids)
def Tm{k:List Nd}(h:j<Ζ k):kB (k.take (j+1))=kB (k.take j)++bif k[j].nm==[]then k[j].tx else[]:=by
 unfold kB;rw[bN _ _ h,an6,ai9,ats,aja]
def Nb{k:List Nd}:∀j,(kB (k.take j)).length<=(kB k).length:=λj=>by
 have:kB k=kB (k.take j)++kB (k.drop j):=by unfold kB;rw[<-an6,auw]
 rw[this,Rn];omega
def agr(x:Nd)(O:VH)(hk:Ζ x.kids<=1000000)(ht:(kB x.kids).length<=1000000000):VF Ε 251 [.agg (eb x)] O (aC λm O'=>m= .s (BO x)/\O.Ge O'):=by
 obtain⟨n,a,k,t⟩:=x;simp only[Nd.kids]at hk ht;unfold BO;simp only[Nd.kids,eb];refine ω 23 [.tmp 2] func251 ?_;refine κ fE ?_;refine VC.bx ?_;rintro O1 ⟨aM,du,dq⟩;refine κ fE ?_;refine VC.join aa [3] (λ_:Unit=>[.s (kB k)]) (λ_ O'=>O.Ge O') ?_ ?_;rotate_left;intro _ O9 bq;refine ae fE ?_;refine π (P8 (kB k) _ (ahB ht z12)) ?_;rintro _ O8 ⟨rfl,rfl⟩;refine ae fE ?_;exact bq;refine ξ fE du ?_;refine Γ ?_;refine Υ [3,9] [7,8] (λj:Nat=>[.s (kB (k.take j)),mi j]) (λj O'=>O.Ge O'/\j<=Ζ k) (λj=>(Ζ k) - j) (0) ?_ ?_;exact⟨aM,an2 _⟩;rintro j O2 ⟨ax,hj⟩;by_cases bu:j<Ζ k;rotate_left
 ·obtain rfl:j=Ζ k:=Λ
  rw[alp];refine ν fE ?_;exact aE.mk () ax
 have bh:=bY m4 k j bu;rw[<-sj]at bh;have aaE:=dN k;have fh:=Tm bu;have hle:=Nb (k:=k) (j+1);have alW:=Nb (k:=k) j;generalize k[j]=y at*;generalize kB (k.take j)=E at*;obtain⟨yn,ya,yk,yt⟩:=y;simp only[eb]at bh;simp only[Nd.nm,Nd.tx]at fh;refine κ fE ?_;refine κ fE ?_;refine Δ (Γ ?_);refine ξ fE bh ?_;refine VC.al ?_;rintro O3 ⟨aB,nV,ea⟩;cases h1:yn==[];rw[h1,cond_false,aja]at fh;refine ι (aF fE nV h1 ?_);refine ν fE ?_;exact aw.N (j+1) ⟨ax.trans aB,bu⟩ (hl:=(by rw[fh];rfl));rw[h1,cond_true]at fh;rw[fh,Rn]at hle;refine ι (aF fE nV h1 ?_);refine ν fE ?_;exact aw.N (j+1) ⟨ax.trans aB,bu⟩ (hl:=(by rw[fh];rfl))
def bG:=abT fE<|abT alQ<|abT af6<|abT af7 IF
def tu(e:Int)(w:Bs):MV:=.iface 322 (.agg [mi e,.s w])
def aqP :BF 322 (iv Ε 322) (φ p)=φ (.iface 322 p):=by rw[alQ.1.1];rfl
def m7(e:Int)(w:Bs)(O:VH):VF Ε 198 [mi e,.s w] O λr O'=>O'=O/\match r with
  | .ret _=>False
  | .panic m=>m=tu e w:=by
 refine χ 8 [] func198 ?_;refine bo bG @wi @wd @aqP ?_;refine VL.panic rfl rfl rfl ?_;refine ae @wd ?_;rfl
def akp(s:Bs)(O:VH):VF Ε 201 [.s s] O (aC λm O'=>m=mb Α/\O.Ge O'):=by
 refine χ 3 [.tmp 2] func201 ?_;refine ae bG ?_;exact VH.Ge.refl _
def rO(s:Bs):Bool:=s==oB||s==lW
def X7(s:Bs)(O:VH):VF Ε 255 [.s s] O (aC λm O'=>m=mb (rO s)/\O.Ge O'):=by
 unfold rO;refine χ 9 [.tmp 2] func255 ?_;cases h1:s==oB<;>cases h2:s==lW
 all_goals
  simp only[oB,lW]at h1 h2;refine aF bG h1 h2 ?_;exact VH.Ge.refl _
def adC(s:Bs)(O:VH)(hs:Ζ s<=maxLen):VF Ε 256 [.s s] O (aC λm O'=>m=mb (Hl ⟨s,s⟩)/\O.Ge O'):=by
 refine χ 7 [.tmp 2] func256 ?_;refine ae bG ?_;refine π (Lf ⟨s,s⟩ _ hs hs) ?_;rintro _ O2 ⟨rfl,hg⟩;refine ae bG ?_;exact hg
def Tn(n:Nat):Bs:=[UInt8.ofNat (48+n % 10)]
def FZ:Nat->Nat->Bs
 | 0,_=>[]
 | k+1,n=>if n=0 then[]else FZ k (n / 10)++Tn n
def lg(n:Nat):Bs:=FZ (n+1) n
def BQ:∀(k n:Nat),n<k->FZ k n=FZ (n+1) n
 | 0,n,h=>Λ
 | k+1,n,h=>by
   rw[FZ,FZ];split;rfl;rw[BQ k (n / 10) Λ,BQ n (n / 10) Λ]
def EA(h:0<n):lg n=lg (n / 10)++Tn n:=by
 unfold lg;rw[FZ,if_neg Λ,BQ n (n / 10) Λ]
def rQ(n:Nat):(lg n).length<=n:=by
 induction n using Nat.strongRecOn with
 | _ n ih=>
   rcases aur n with rfl | h;simp[lg,FZ];rw[EA h,Rn];have:=ih (n / 10) Λ;simp only[Tn,TR,Ro];omega
def To(d:Nat)(h:d<10:=by omega):(([48,49,50,51,52,53,54,55,56,57]:Bs).drop d).take (d+1 - d)=[UInt8.ofNat (48+d)]:=by
 rw[show d+1 - d=1 by omega];rcases(show d=0\/d=1\/d=2\/d=3\/d=4\/d=5\/d=6\/d=7\/d=8\/d=9 by omega)with rfl | rfl | rfl | rfl | rfl | rfl | rfl | rfl | rfl | rfl<;>rfl
def I4(n:Nat)(O:VH)(hn:n<=1000000000:=by omega):VF Ε 252 [mi n] O (aC λm O'=>m= .s (lg n)/\O'=O):=by
 have Dd:=rQ n;refine χ 17 [.tmp 2] func252 ?_;refine ae bG ?_;refine WC.cj [0,3] [] (λx:Nat×Bs=>[mi x.1,.s x.2]) (λx O'=>O'=O/\lg n=lg x.1++x.2/\x.1<=n) (λx=>x.1) ((n,[])) ?_ ?_;exact⟨rfl,z10,aev _⟩;rintro⟨k,s⟩ O2 ⟨eO,hk,Bv⟩;dsimp only at hk Bv ⊢;rw[eO];clear eO O2;rcases aur k with rfl | hp;have h0:lg 0=[]:=rfl;rw[h0,an4]at hk;refine ae bG ?_;exact congrArg MV.s hk.symm;have hd:=To (k % 10);(((have hl:(lg n).length=(lg k).length+Ζ s:=by rw[hk,Rn]);have hr:(k:Int).tmod 10=((k % 10:Nat):Int):=by rw[Int.tmod_eq_emod_of_nonneg Λ];rfl);have hq:(k:Int).tdiv 10=((k / 10:Nat):Int):=by rw[Int.tdiv_eq_ediv_of_nonneg Λ];rfl);refine bo bG hr hq hd ?_;refine aw.N (k / 10,Tn k++s) ⟨rfl,?_,by dsimp only;omega⟩;rw[hk,EA hp,an3]
def akq{e:Int}{w:Bs}:av (tu e w)=tu e w:=by simp only[tu,wu,aq]
def lz(x:Nd)(w:Bs):Η:=eb x++[.s w]
def X8:Nd:=.mk [] [] [] []
def di(x:Nd)(w name:Bs):Except (Int×Bs) ((Nd×Bs)×Bool):=
 match ir x name with
 | []=>.ok ((X8,w++[47]++name),γ)
 | [y]=>.ok ((y,w++[47]++name),Α)
 | _=>.error (20,w++[47]++name++[91,50,93])
def FQ{α :Type}(O:VH)(f:Except (Int×Bs) α)(R: α ->MV->Prop):gm->VH->Prop:=λr O'=>O.Ge O'/\match r,f with
 | .ret m,.ok x=>R x m
 | .panic m,.error e=>m=tu e.1 e.2
 | _,_=>False
def uZ(x:Nd)(w name:Bs)(O:VH)(hk:Ζ x.kids<=1000000)(hw:Ζ w<=1000000)(hn:Ζ name<=1000000):VF Ε 199 [.agg (lz x w),.s name] O (FQ O (di x w name) λy m=>m= .tuple [.agg (lz y.1.1 y.1.2),mb y.2]):=by
 refine VF.fgR ?_;have sm:=Hm x name;have j6:(ir x name).length<=1000000:=ahB (auh _ _) hk
 have X9:di x w name=match ir x name with
  | []=>.ok ((X8,w++[47]++name),γ)
  | [y]=>.ok ((y,w++[47]++name),Α)
  | _=>.error (20,w++[47]++name++[91,50,93]):=rfl
 generalize di x w name=F at*;generalize ir x name=K at*;obtain⟨n,a,k,t⟩:=x;simp only[lz,eb,an7,an4]at sm ⊢;refine ω 34 [.cell 4 324,.tmp 5] func199 ?_;refine κ bG ?_;refine VC.bx ?_;rintro O1 ⟨aM,Gu,dq⟩;have dz:O1.hp O.N=φ (.cells [.s n,.l (Ζ a) (a.flatMap bp) .av,.l (Ζ k) (aI k) .av,.s t,.s w]):=(aM.hp _ (as0 _)).trans (ζ _ _)
 replace Gu:O1.hp (O.N+1)=φ (.cells [.s [],.l 0 [] .nil,.l 0 [] .nil,.s [],.s []]):=Gu
 have aqQ:O.Ge O1:=((VH.Ge.refl O).push _).trans aM
 replace dq:O1.N=O.N+2:=dq
 clear aM;refine ξ bG dz ?_;refine π (sm O1 hk) ?_;rintro _ O2 ⟨tk,rfl,ax⟩;have dQ:=ax.at dz;have Bu:=ax.at Gu;have ei:=aqQ.trans ax;refine ae bG ?_;refine ξ bG dQ ?_
 match K,X9 with
 | [],X9=>
   subst X9;refine ι (aF bG Bu @Ro.{0} ?_);refine⟨ei.set Λ _,?_⟩;simp only[lz,X8,eb,wu,bg];rfl
 | [.mk yn ya yk yt],X9=>
   subst X9;have fB:=C7 (.mk yn ya yk yt);simp only[eb]at fB;(have ca:aI [.mk yn ya yk yt]=[.s yn,.l (Ζ ya) (ya.flatMap bp) .av,.l (Ζ yk) (aI yk) .av,.s yt]:=by rw[aI,aI,aja,eb]);rw[ca];refine ι (bo bG Bu @TR.{0} @Ro.{0} ?_);refine⟨ei.set Λ _,?_⟩;show _=_;rw[eb,ic,fN];rfl
 | y::z::r,X9=>
   subst X9;simp only[TR]at j6;refine ο bG @TR.{0} ?_;refine η (m7 _ _ _) ?_;refine ae bG ?_;exact⟨ei,akq⟩
def pF(x:Nd)(w:Bs)(empty:Bool):Except (Int×Bs) Bs:=
 if 0<(ir x []).length\/1024<(BO x).length\/(BO x=[]/\empty=γ)then .error (20,w)else .ok (BO x)
def Tp(x:Nd)(w:Bs)(empty:Bool)(O:VH)(hk:Ζ x.kids<=1000000)(ht:(kB x.kids).length<=1000000000):VF Ε 224 [.agg (lz x w),mb empty] O (FQ O (pF x w empty) λy m=>m= .s y):=by
 have sm:=Hm x [];have ags:=agr x;have j6:(ir x []).length<=1000000:=ahB (auh _ _) hk;have xG:(BO x).length<=1000000000:=ahB (BL _) ht;unfold pF;generalize ir x []=K at*;generalize BO x=T at*;obtain⟨n,a,k,t⟩:=x;simp only[lz,eb,an7,an4]at sm ags ⊢;refine ω 31 [.tmp 4] func224 ?_;refine κ bG ?_;refine VC.bx ?_;rintro O1 ⟨aM,dz,dq⟩;refine ξ bG dz ?_;refine π (ags O1 hk ht) ?_;rintro _ O2 ⟨rfl,ax⟩;have dQ:=ax.at dz;have eG:=ax.N;refine ae bG ?_;refine ξ bG dQ ?_;refine π (sm O2 hk) ?_;rintro _ O3 ⟨tk,rfl,aB⟩;have eH:=aB.at dQ;have dk:=(aM.trans ax).trans aB;by_cases h1:0<Ζ K;rw[if_pos (.inl h1)];refine ak bG eH ?_;refine η (m7 _ _ _) ?_;refine ae bG ?_;exact⟨dk,rfl⟩;by_cases h2:1024<Ζ T;rw[if_pos (.inr (.inl h2))];refine ak bG eH ?_;refine η (m7 _ _ _) ?_;refine ae bG ?_;exact⟨dk,rfl⟩
 cases T with
 | nil=>
   cases empty;rw[if_pos (.inr (.inr ⟨rfl,rfl⟩))];refine bo bG eH (show(([]:Ρ)==[])=Α from rfl) @Ro.{0} ?_;refine η (m7 _ _ _) ?_;refine ae bG ?_;exact⟨dk,rfl⟩;rw[if_neg (λh=>by rcases h with h | h | ⟨_,h⟩;exact h1 h;exact h2 h;cases h)];refine bo bG eH (show(([]:Ρ)==[])=Α from rfl) @Ro.{0} ?_;refine ν bG ?_;exact⟨dk,rfl⟩
 | cons c T=>
   rw[if_neg (λh=>by rcases h with h | h | ⟨h,_⟩;exact h1 h;exact h2 h;cases h)];refine aF bG eH (show((c::T)==[])=γ from rfl) ?_;refine ν bG ?_;exact⟨dk,rfl⟩
def jR:List (Bs×Bs)->Nat
 | []=>0
 | x::r=>1+Ζ x.1+Ζ x.2+jR r
mutual
def j7:Nd->Nat
 | .mk n a k t=>1+Ζ n+Ζ t+jR a+kI k
def kI:List Nd->Nat
 | []=>0
 | x::r=>j7 x+kI r
end
def zS(n:Bs)(a:List (Bs×Bs))(k:List Nd)(t:Bs):j7 (.mk n a k t)=1+Ζ n+Ζ t+jR a+kI k:=by rw[j7]
def Tq(x:Nd):1<=j7 x:=by cases x;rw[j7];omega
def EB:∀k:List Nd,Ζ k<=kI k
 | []=>by simp
 | x::r=>by rw[kI,TR];have:=EB r;have:=Tq x;omega
def Nc:∀{k:List Nd} {x:Nd},x∈k->j7 x<=kI k
 | y::r,x,h=>by
   rw[kI];rcases asc.1 h with rfl | h;omega;have:=Nc h;omega
def zT(x:Nd):kI x.kids<j7 x:=by cases x;rw[j7,Nd.kids];omega
def kL(x:Nd):Ζ x.kids<=j7 x:=ahB (EB _) (auB (zT x))
def I5:∀k:List Nd,(kB k).length<=kI k
 | []=>by simp[kB]
 | x::r=>by
   have ih:=I5 r;unfold kB at ih ⊢;rw[ai9,Rn,kI]
   have:(bif x.nm==[]then x.tx else[]).length<=j7 x:=by
    cases x with
    | mk n a k t=>
      rw[j7];cases(Nd.mk n a k t).nm==[];simp;show (Ζ t)<=_;omega
   omega
def Qa{x y:Nd}{name:Bs}(h:y∈ir x name):j7 y<j7 x:=Nat.lt_of_le_of_lt (Nc ((List.mem_filter.1 h).1)) (zT x)
def I6(yq:Bool)(right:Bs->Bool)(wy:Bs)(b:Bool)(T:Except (Int×Bs) Bs):Except (Int×Bs) Bs:=
 match b,T with
 | false,_=>if yq then .error (20,wy)else .ok []
 | true,.error e=>.error e
 | true,.ok s=>if right s then .ok s else .error (20,wy)
def c_(x:Nd)(w name:Bs)(yq:Bool)(right:Bs->Bool):Except (Int×Bs) Bs:=
 match di x w name with
 | .error e=>.error e
 | .ok y=>I6 yq right y.1.2 y.2 (pF y.1.1 y.1.2 γ)
def so{x:Nd}{w name:Bs}{y:Nd}{wy:Bs}{b:Bool}(h:di x w name= .ok ((y,wy),b)):j7 y<=j7 x/\wy=w++[47]++name:=by
 unfold di at h;split at h;injection h with h;injection h with h _;injection h with h1 h2;subst h1;subst h2;exact⟨by simp only[X8,zS,jR,kI,Ro];exact Tq x,rfl⟩;rename_i z hz;injection h with h;injection h with h _;injection h with h1 h2;subst h1;subst h2;exact⟨auB (Qa (by rw[hz];simp)),rfl⟩;cases h
def X_{y:Nd}{w:Bs}{e:Bool}{s:Bs}(h:pF y w e= .ok s):Ζ s<=1024:=by
 unfold pF at h;split at h;cases h;rename_i hn;injection h with h;subst h;exact Nat.le_of_not_lt λhh=>hn (.inr (.inl hh))
def sq(x:Nd)(w name:Bs)(yq:Bool)(right:Bs->Bool)(id:FuncId)(cs:Η)(O:VH)(hx:j7 x<=1000000)(hw:Ζ w<=10000)(hn:Ζ name<=10000)(hid:cV Ε id=Α)
  (hr:∀s O',O.Ge O'->Ζ s<=1024->VF Ε id ([.s s]++cs) O' (aC λm mS=>m=mb (right s)/\O'.Ge mS)):
  VF Ε 200 [.agg (lz x w),.s name,mb yq,.func (.func id) [] cs] O (FQ O (c_ x w name yq right) λy m=>m= .s y):=by
 have yr:=uZ x w name;have j6:=kL x;have yu:= @so x w name;have yx:∀e,di x w name= .error e->c_ x w name yq right= .error e:=λe h=>by unfold c_;rw[h]
 have pH:∀y wy b,di x w name= .ok ((y,wy),b)->c_ x w name yq right=I6 yq right wy b (pF y wy γ):=λy wy b h=>by unfold c_;rw[h]
 generalize c_ x w name yq right=WE at*;generalize di x w name=F at*;obtain⟨n,a,k,t⟩:=x;generalize hW:j7 (.mk n a k t)=W at*;simp only[lz,eb,an7,an4]at yr ⊢;refine ω 34 [.tmp 8] func200 ?_;refine κ bG ?_;refine VC.bx ?_;rintro O1 ⟨aM,dz,dq⟩;refine θ ?_;refine ak bG dz ?_;refine ah.ex F (yr O1 Λ Λ Λ) ?_ ?_;rintro e m O2 rfl ⟨ax,h⟩;dsimp only at h;rw[yx e rfl];refine ae bG ?_;exact⟨aM.trans ax,h⟩;rintro y m O2 rfl ⟨ax,h⟩;obtain⟨⟨y,wy⟩,b⟩:=y;dsimp only at h;subst h;obtain⟨hyW,yy⟩:=yu rfl;rw[pH _ _ _ rfl];clear yx pH;have qu:Ζ wy<=30000:=by rw[yy];simp only[Rn,TR,Ro];omega
 clear yu yy;have aqR:=kL y;have rz:=ahB (I5 y.kids) (auB (zT y));have Ld:=Tp y wy γ;have xG:= @X_ y wy γ;generalize pF y wy γ=T at*;obtain⟨yn,ya,yk,yt⟩:=y;simp only[lz,eb,an7,an4]at Ld ⊢;refine ae bG ?_;refine VC.al ?_;rintro O3 ⟨aB,Tr,ea⟩;have dk:=(aM.trans ax).trans aB;cases b;cases yq;refine ν bG ?_;exact⟨dk,rfl⟩;refine ο bG Tr ?_;refine η (m7 _ _ _) ?_;refine ae bG ?_;exact⟨dk,rfl⟩;refine ο bG Tr ?_;refine ah.ex T (Ld O3 Λ Λ) ?_ ?_;rintro e m O4 rfl ⟨aV,h⟩;dsimp only at h;refine ae bG ?_;exact⟨dk.trans aV,h⟩;rintro s m O4 rfl ⟨aV,h⟩;dsimp only at h;subst h;have Ya:=aV.at Tr;have jk:=dk.trans aV;have fe:=aV.N;refine ae bG ?_;refine π (hr s O4 jk (xG rfl)) ?_ (hb:=hid);rintro _ O5 ⟨rfl,bB⟩;have Yb:=bB.at Ya;unfold I6;dsimp only;cases right s;refine ak bG Yb ?_;refine η (m7 _ _ _) ?_;refine ae bG ?_;exact⟨jk.trans bB,rfl⟩;refine ak bG Yb ?_;exact⟨jk.trans bB,rfl⟩
section
variable{G H:Gh}{n:Sz}{D:List Deferred}{e e':Env}{a:Act}{P:Program}{tab:cB}{O O':VH}{w:World}{m m':MV}{u v:Value}{ops:Array Oper}{Q:VQ}{md:Md}
def auS 
  (h1:aQ P n D ops i e O Q λe' O'=>J O'/\ab P n D ops brk J Ψ Z fuel (listed.setIfInBounds i Α) e' O' Q) (h2:aQ P n D ops j e O Q λe' O'=>J O'/\ab P n D ops brk J Ψ Z fuel (listed.setIfInBounds j Α) e' O' Q) (hr:Region.ready .any ops listed=[i,j]:=by kernel_rfl):ab P n D ops brk J Ψ Z (fuel+1) listed e O Q:=by
 intro hΨ hZ hJ G a w hψ hw aY
 have key:∀x,(aQ P n D ops x e O Q λe' O'=>J O'/\ab P n D ops brk J Ψ Z fuel (listed.setIfInBounds x Α) e' O' Q)->wpOp P ops (cU G n D Q) x (λa' w'=>TE brk G J x w'/\jI P .any ops (cU G n D Q) (TE brk G J) fuel (listed.setIfInBounds x Α) a' w') a w:=λx h=>
  wpOp_mono (λa' w' ⟨e',O',H,h1,h2,h3,h4,h5⟩=>⟨TE.mk ⟨H,O',h1,h2,h4⟩,jf (λ_ _ _=>cU.le h1) _ _ _ _ (λk _ x hT=>hT.le h1) (h5 hΨ hZ h4 H a' w' (hΨ _ _ h1 hψ) h2 h3)⟩) (h G a w hw aY)
 refine kc hr z10 λx hx=>?_
 simp only[asc,auJ,or_false]at hx;rcases hx with rfl | rfl;exact key _ h1;exact key _ h2
def aQ.iH{f:Operand}{ts:Array TypeId}{ty:TypeId}{id:FuncId}{Φ :MV->VH->Prop}{K:Env->VH->Prop}(hR:VF P id ms O (aC Φ))
  (h:∀m O', Φ m O'->K (aU d m e) O') (ho:l[i]?=φ (.mk d (.call {callee:=.value f,args:=xs,argTypes:=ts}) ty ps af g):=by exact rfl) (hg:aK ⟨l⟩ (.mk d (.call {callee:=.value f,args:=xs,argTypes:=ts}) ty ps af g) e=φ Α:=by exact rfl) (hf:ev e f=φ (.func (.func id) [] []):=by exact rfl) (hm:g_ e xs.toList=φ ms:=by exact rfl) (hb:cV P id=Α:=by kernel_rfl) (hd:bj n d=Α:=by exact rfl):aQ P n D ⟨l⟩ i e O Q K:=
 aQ.call (o:=.mk d (.call {callee:=.value f,args:=xs,argTypes:=ts}) ty ps af g) z20 hg rfl rfl hf hm (Enters.w_ hb) hd (by simpa using hR) λr O' hr=>by
  cases r with
  | ret m=>exact h m O' hr
  | panic m=>exact hr.elim
end
def Hn(w name:Bs)(i:Nat):Bs:=w++[47]++name++[91]++lg (i+1)++[93]
def u7(w name:Bs)(K:List Nd):List (Nd×Bs):=K.mapIdx λi y=>(y,Hn w name i)
def u9(L:List (Nd×Bs)):Η:=L.flatMap λp=>lz p.1 p.2
def oD(x:Nd)(w name:Bs):Except (Int×Bs) (List (Nd×Bs)):=if 1024<(ir x name).length then .error (2,w)else .ok (u7 w name (ir x name))
def I7(p:Nd×Bs):(lz p.1 p.2).length=5:=by rw[lz,List.length_append,m4];rfl
def zU(L:List (Nd×Bs)):(u9 L).length=(Ζ L)*5:=aP I7 L
def Ts(x:Nd)(w:Bs):de (lz x w)=lz x w:=by simp only[lz,wu,C7]
def Nf(L:List (Nd×Bs)):de (u9 L)=u9 L:=iI (λp=>Ts p.1 p.2) L
def Yc{w name:Bs}{K:List Nd}(h:j<Ζ K):u7 w name (K.take (j+1))=u7 w name (K.take j)++[(K[j],Hn w name j)]:=by
 unfold u7;rw[bN _ _ h,List.mapIdx_append];simp[an5,auM (auB h)]
def Ng(w name:Bs)(K:List Nd):(u7 w name K).length=Ζ K:=by simp[u7]
def aaF(x:Nd)(w name:Bs)(O:VH)(hx:j7 x<=1000000)(hw:Ζ w<=10000)(hn:Ζ name<=10000):
  VF Ε 227 [.agg (lz x w),.s name] O (FQ O (oD x w name) λy m=>∃tk,m= .l (Ζ y) (u9 y) tk):=by
 have sm:=Hm x name;have j6:=kL x;have hKl:(ir x name).length<=1000000:=ahB (auh _ _) Λ;unfold oD;generalize ir x name=K at*;obtain⟨n,a,k,t⟩:=x;generalize hW:j7 (.mk n a k t)=W at*;simp only[lz,eb,an7,an4]at sm ⊢;refine ω 43 [.tmp 4] func227 ?_;refine κ bG ?_;refine VC.bx ?_;rintro O1 ⟨aM,dz,dq⟩;refine ξ bG dz ?_;refine π (sm O1 Λ) ?_;rintro _ O2 ⟨tk,rfl,ax⟩;have dQ:=ax.at dz;have eG:=ax.N;have ei:=aM.trans ax;refine ae bG ?_;by_cases F2:1024<Ζ K;rw[if_pos F2];refine ξ bG dQ ?_;refine η (m7 _ _ _) ?_;refine ae bG ?_;exact⟨ei,rfl⟩;rw[if_neg F2];refine ξ bG dQ ?_;refine VC.join aa [4] (λtl:Tok=>[.l (u7 w name K).length (u9 (u7 w name K)) tl]) (λtl O'=>O.Ge O') ?_ ?_;rotate_left;intro tl O9 bq;refine ae bG ?_;exact⟨bq,tl,rfl⟩;refine κ bG ?_;refine Γ ?_;refine Υ [4,20] [1,2,18,19] (λx:Nat×Tok=>[.l (u7 w name (K.take x.1)).length (u9 (u7 w name (K.take x.1))) x.2,mi x.1]) (λx O'=>O2.Ge O'/\App O' O2.N 5 x.2/\x.1<=Ζ K) (λx=>(Ζ K) - x.1) ((0,.nil)) ?_ ?_;exact⟨VH.Ge.refl _,trivial,an2 _⟩;rintro⟨j,tl⟩ O3 ⟨aB,cQ,hj⟩;dsimp only at cQ hj ⊢;by_cases bu:j<Ζ K;rotate_left
 ·obtain rfl:j=Ζ K:=Λ
  rw[alp];refine ν bG ?_;exact aE.mk tl (ei.trans aB)
 have bh:=bY m4 K j bu;rw[<-sj]at bh;have aaE:=dN K;have fh:=Yc (w:=w) (name:=name) bu;have Lg:(u7 w name (K.take j)).length<=1000000:=by rw[Ng,an5];omega
 generalize K[j]=y at*;generalize u7 w name (K.take j)=E at*;have Dd:=rQ (j+1);have fB:=Ts y (Hn w name j);obtain⟨yn,ya,yk,yt⟩:=y;simp only[lz,eb,List.cons_append,List.nil_append]at bh fB;have eH:=aB.at dQ;have ea:=aB.N;refine κ bG ?_;refine κ bG ?_;refine Δ (Γ ?_);refine ξ bG bh ?_;refine VC.al ?_;rintro O4 ⟨aV,nV,fe⟩;have iD:=aV.at eH;have lh:=cQ.ge aV;have aaG:=aB.trans aV;have ew:=jSx j;refine VC.ot [15,16] ?_;refine ρ 0 bG ?_;refine ρ 2 bG ?_;refine auU (m:=.s w) 3 ?_ ?_;exact dT bG iD;simp only[ag];refine ρ 4 bG ?_;refine ρ 5 bG ?_;refine ρ 6 bG ?_;refine ρ 7 bG ?_;refine ρ 8 bG ?_;refine auW 9 bG ew ?_;refine auS (i:=1) (j:=10) ?_ ?_;refine aQ.o1 ?_;refine ak bG nV ?_;refine⟨VH.Ge.refl _,?_⟩;refine ab.call (i:=10) (I4 (j+1) O4) ?_;rintro _ O5 ⟨rfl,eO⟩;simp only[ag];rw[eO];clear eO O5;refine⟨VH.Ge.refl _,?_⟩;refine ρ 11 bG ?_;refine ρ 12 bG ?_;refine ρ 13 bG ?_;refine ab.op (i:=14) ?_;refine ae bG ?_;refine⟨VH.Ge.refl _,?_⟩;refine ab.bM [(15,.one),(16,.au)] ?_;refine ae bG ?_;obtain⟨mE,iT,oX⟩:=jj (n:=Ζ E) (cs:=u9 E) (ds:=[.s yn,.l (Ζ ya) (ya.flatMap bp) .av,.l (Ζ yk) (aI yk) .av,.s yt,.s (w++[47]++name++[91]++lg (j+1)++[93])]) af7 af6.1.1 lh (zU E) rfl rfl z12 Λ z13 (Nf E) fB;refine VL.o7 iT oX ?_;refine ae bG ?_;refine ν bG ?_;exact aw.N (j+1,.own O4.N 5) ⟨dR.fS aaG lh (dR.after lh),App.after aaG.N,bu⟩ (hl:=(by dsimp only;rw[fh,Rn];unfold u9;rw[an6];rfl));refine aQ.iH (I4 (j+1) O4) ?_;rintro _ O5 ⟨rfl,eO⟩;rw[eO];clear eO O5;simp only[ag];refine⟨VH.Ge.refl _,?_⟩;refine ρ 11 bG ?_;refine ρ 12 bG ?_;refine ab.op (i:=1) ?_;refine ak bG nV ?_;refine⟨VH.Ge.refl _,?_⟩;refine ρ 13 bG ?_;refine ab.op (i:=14) ?_;refine ae bG ?_;refine⟨VH.Ge.refl _,?_⟩;refine ab.bM [(15,.one),(16,.au)] ?_;refine ae bG ?_;obtain⟨mE,iT,oX⟩:=jj (n:=Ζ E) (cs:=u9 E) (ds:=[.s yn,.l (Ζ ya) (ya.flatMap bp) .av,.l (Ζ yk) (aI yk) .av,.s yt,.s (w++[47]++name++[91]++lg (j+1)++[93])]) af7 af6.1.1 lh (zU E) rfl rfl z12 Λ z13 (Nf E) fB;refine VL.o7 iT oX ?_;refine ae bG ?_;refine ν bG ?_;exact aw.N (j+1,.own O4.N 5) ⟨dR.fS aaG lh (dR.after lh),App.after aaG.N,bu⟩ (hl:=(by dsimp only;rw[fh,Rn];unfold u9;rw[an6];rfl))
def lZ(w:Bs):Nat×Bool:=
 if w=ky 1 then(1,Α)else if w=ky 2 then(2,Α)else if w=ky 3 then(3,Α)else if w=ky 4 then(4,Α)else if w=ky 5 then(5,Α)else if w=ky 6 then(6,Α)else(0,γ)
def gi(w:Bs):Nat->Nat->Nat×Bool
 | 0,_=>(0,γ)
 | k+1,j=>if j≠0/\ky j=w then(j,Α)else gi w k (j+1)
def Yd(w:Bs):lZ w=gi w 7 0:=by
 unfold lZ gi gi gi gi gi gi gi gi;simp only[eq_comm (a:=w)];simp
def Tt(w:Bs)(O:VH):VF Ε 253 [.s w] O (aC λm O'=>m= .tuple [mi (lZ w).1,mb (lZ w).2]/\O'=O):=by
 rw[Yd];refine χ 18 [.tmp 2,.tmp 3] func253 ?_;refine ae bG ?_;refine WC.cj [5] [0] (λj:Nat=>[mi j]) (λj O'=>O'=O/\j<=7/\gi w 7 0=gi w (7 - j) j) (λj=>7 - j) (0) ?_ ?_;exact⟨rfl,an2 _,rfl⟩;rintro j O2 ⟨eO,hj,hs⟩;rw[eO];clear eO O2;by_cases h7:j<7
 ·have eD:gi w (7 - j) j=if j≠0/\ky j=w then(j,Α)else gi w (7 - (j+1)) (j+1):=by
   obtain⟨d,hd⟩:∃d,7 - j=d+1:=⟨6 - j,Λ⟩
   rw[hd,show 7 - (j+1)=d by omega];rfl
  rw[eD]at hs;by_cases h0:j=0;rw[if_neg (λh=>h.1 h0)]at hs;refine ae bG ?_;exact aw.N (j+1) ⟨rfl,h7,hs⟩;refine ae bG ?_;refine Ω (aaC j _) ?_;cases hw:ky j==w;rw[if_neg (λh=>by rw[h.2]at hw;simp at hw)]at hs;refine ak bG @hw ?_;exact aw.N (j+1) ⟨rfl,h7,hs⟩;rw[if_pos ⟨h0,eq_of_beq hw⟩]at hs;rw[hs];exact dT bG @hw
 ·obtain rfl:j=7:=Λ
  rw[hs];refine ae bG ?_;rfl
def fV(s p:Bs):Bool:=s.take (Ζ p)==p
def adD{s p:Bs}(h:¬(Ζ p)<=Ζ s):fV s p=γ:=by
 unfold fV;rw[beq_eq_false_iff_ne];intro e;have:=congrArg List.length e;rw[an5]at this;omega
def Li(s p:Bs)(O:VH):VF Ε 274 [.s s,.s p] O (aC λm O'=>m=mb (fV s p)/\O'=O):=by
 refine χ 18 [.tmp 4] func274 ?_;by_cases h:Ζ p<=Ζ s;have e:(s.take (Ζ p)==p)=fV s p:=rfl;generalize fV s p=b at*;cases b;exact dT bG @e;exact dT bG @e;rw[adD h];exact ez bG
def oE(s p:Bs)(O:VH):VF Ε 264 [.s s,.s p] O (aC λm O'=>m=mb (fV s p)/\O'=O):=by
 refine χ 8 [.tmp 4] func264 ?_;refine ae bG ?_;refine π (Li s p _) ?_;rintro _ O2 ⟨rfl,rfl⟩;exact ez bG
def ek:=abT bG<|abT eI<|abT alP aqb
section
variable{P:Program}{n:Sz}{D:List Deferred}{e:Env}{O:VH}{Q:VQ}
def ab.qQ{f:Operand}{ts:Array TypeId}{ty:TypeId}{id:FuncId}(hR:VF P id (ms++cs) O R)
  (h:∀m O',R (.ret m) O'->J O'/\ab P n D ⟨l⟩ brk J Ψ Z fuel (listed.setIfInBounds i Α) (aU d m e) O' Q) (h2:∀m O',R (.panic m) O'->Q (.panic m) (jM n e) O') (hr:Region.ready .any ⟨l⟩ listed=[i]:=by kernel_rfl) (ho:l[i]?=φ (.mk d (.call {callee:=.value f,args:=xs,argTypes:=ts}) ty ps af g):=by exact rfl) (hg:aK ⟨l⟩ (.mk d (.call {callee:=.value f,args:=xs,argTypes:=ts}) ty ps af g) e=φ Α:=by exact rfl) (hf:ev e f=φ (.func (.func id) [] cs):=by exact rfl) (hm:g_ e xs.toList=φ ms:=by exact rfl) (hb:cV P id=Α:=by kernel_rfl) (hd:bj n d=Α:=by exact rfl):ab P n D ⟨l⟩ brk J Ψ Z (fuel+1) listed e O Q:=
 ab.one (aQ.call (o:=.mk d (.call {callee:=.value f,args:=xs,argTypes:=ts}) ty ps af g) z20 hg rfl rfl hf hm (Enters.w_ hb) hd (by simpa using hR) λr O' hr=>by
  cases r with
  | ret m=>exact h m O' hr
  | panic m=>exact h2 m O' hr) (hr:=hr)
end
def idxFrom{α :Type}(p: α ->Bool):Nat->List α ->Int
 | _,[]=> -1
 | i,x::r=>if p x then i else idxFrom p (i+1) r
def I8{α :Type}(p: α ->Bool):∀(L:List α)(i:Nat),decide (idxFrom p i L>=0)=L.any p
 | [],i=>rfl
 | x::r,i=>by
   rw[idxFrom,List.any_cons];cases h:p x;simp[I8 p r];simp
def aaH(L:List (Bs×Bs))(tk:Tok)(id:FuncId)(cs:Η)(p:Bs×Bs->Bool)(O:VH)(hid:cV Ε id=Α)(hc:∀x∈L,∀O',O.Ge O'->VF Ε id ([.agg (bp x)]++cs) O' (aC λm mS=>m=mb (p x)/\O'.Ge mS))(hn:Ζ L<=1000000):
  VF Ε 177 [.l (Ζ L) (L.flatMap bp) tk,.func (.func id) [] cs] O (aC λm O'=>m=mi (idxFrom p 0 L)/\O.Ge O'):=by
 have cz:=aP eC L;refine χ 19 [.tmp 4] func177 ?_;refine ae ek ?_;refine WC.cj [8] [0,1,7] (λj:Nat=>[mi j]) (λj O'=>O.Ge O'/\j<=(Ζ L)/\idxFrom p 0 L=idxFrom p j (L.drop j)) (λj=>(Ζ L) - j) (0) ?_ ?_;exact⟨VH.Ge.refl _,an2 _,rfl⟩;rintro j O2 ⟨ax,hj,bH⟩;by_cases h2:j<Ζ L;have bh:=bY eC L j h2;have Ye:=hc L[j] (apF h2) O2 ax;rw[auk h2,idxFrom]at bH;generalize L[j]=y at*;refine ak ek bh ?_;refine π Ye ?_ (hb:=hid);rintro _ O3 ⟨rfl,aB⟩;cases hi:p y;rw[hi]at bH;refine ae ek ?_;exact aw.N (j+1) ⟨ax.trans aB,Λ,bH⟩;rw[hi,if_pos rfl]at bH;rw[bH];refine ae ek ?_;exact ax.trans aB
 ·obtain rfl:j=Ζ L:=Λ
  rw[asl Λ]at bH;rw[bH];refine ae ek ?_;exact⟨rfl,ax⟩
def akr(L:List (Bs×Bs))(tk:Tok)(id:FuncId)(cs:Η)(p:Bs×Bs->Bool)(O:VH)(hid:cV Ε id=Α)(hc:∀x∈L,∀O',O.Ge O'->VF Ε id ([.agg (bp x)]++cs) O' (aC λm mS=>m=mb (p x)/\O'.Ge mS))(hn:Ζ L<=1000000):
  VF Ε 225 [.l (Ζ L) (L.flatMap bp) tk,.func (.func id) [] cs] O (aC λm O'=>m=mb (L.any p)/\O.Ge O'):=by
 rw[<-I8 p L 0];refine χ 9 [.tmp 4] func225 ?_;refine ae ek ?_;refine π (aaH L tk id cs p O hid hc hn) ?_;rintro _ O2 ⟨rfl,ax⟩;refine ae ek ?_;exact ax
def adE(x:Bs×Bs)(k:Nat)(yn:Bs)(a b c:MV)(O:VH)(hk:O.hp k=φ (.cells [.s yn,a,b,c]))(Bv:k<O.N):VF Ε 226 [.agg (bp x),.p k 0] O (aC λm O'=>m=mb (x.1==yn)/\O.Ge O'):=by
 obtain⟨x1,x2⟩:=x;unfold bp;refine ω 9 [.tmp 3] func226 ?_;refine κ ek ?_;refine VC.bx ?_;rintro O1 ⟨aM,dz,dq⟩;have du:=(aM.hp k Bv).trans hk;refine ι (aF ek dz du ?_);exact aM
def ng(wy:Bs):List Nd->List (Bs×Bs)->Except (Int×Bs) (List (Bs×Bs))
 | [],L=>.ok L
 | k::r,L=>bif L.any (·.1==k.nm)then .error (20,wy++[47]++k.nm++[91,50,93])else match pF k (wy++[47]++k.nm) Α with
   | .error e=>.error e
   | .ok s=>ng wy r (L++[(k.nm,s)])
def ll(x:Nd)(w:Bs):Except (Int×Bs) (List (Bs×Bs)):=
 match di x w nf with
 | .error e=>.error e
 | .ok ((_,_),γ)=>.ok []
 | .ok ((y,wy),Α)=>if 1024<(ir y []).length then .error (2,wy)else ng wy (ir y []) []
def agt(x:Nd)(w:Bs)(O:VH)(hx:j7 x<=1000000)(hw:Ζ w<=10000):
  VF Ε 202 [.agg (lz x w)] O (FQ O (ll x w) λy m=>∃tk,m= .l (Ζ y) (y.flatMap bp) tk):=by
 have yr:=uZ x w nf;have j6:=kL x;have yu:= @so x w nf;have yx:∀e,di x w nf= .error e->ll x w= .error e:=λe h=>by unfold ll;rw[h]
 have pH:∀y wy,di x w nf= .ok ((y,wy),γ)->ll x w= .ok []:=λy wy h=>by unfold ll;rw[h]
 have jw:∀y wy,di x w nf= .ok ((y,wy),Α)->ll x w=if 1024<(ir y []).length then .error (2,wy)else ng wy (ir y []) []:=λy wy h=>by unfold ll;rw[h]
 generalize ll x w=PE at*;generalize di x w nf=F at*;obtain⟨n,a,k,t⟩:=x;generalize hW:j7 (.mk n a k t)=W at*;simp only[lz,eb,an7,an4]at yr ⊢;refine ω 55 [.tmp 2] func202 ?_;refine κ ek ?_;refine VC.bx ?_;rintro O1 ⟨aM,dz,dq⟩;refine ξ ek dz ?_;refine ah.ex F (yr O1 Λ Λ z12) ?_ ?_;rintro e m O2 rfl ⟨ax,h⟩;dsimp only at h;rw[yx e rfl];refine ae ek ?_;exact⟨aM.trans ax,h⟩;rintro y m O2 rfl ⟨ax,h⟩;obtain⟨⟨y,wy⟩,b⟩:=y;dsimp only at h;subst h;obtain⟨hyW,yy⟩:=yu rfl;have qu:Ζ wy<=30000:=by rw[yy];simp only[Rn,TR,Ro];omega
 clear yu yy yx;have sm:=Hm y [];have aqR:=kL y;have hKm:∀z∈ir y [],j7 z<=1000000:=λz hz=>by have:=Qa hz;omega
 have hKl:(ir y []).length<=1000000:=ahB (auh _ _) Λ
 replace jw:b=Α->PE=if 1024<(ir y []).length then .error (2,wy)else ng wy (ir y []) []:=λh=>by subst h;exact jw y wy rfl
 replace pH:b=γ->PE= .ok []:=λh=>by subst h;exact pH y wy rfl
 generalize ir y []=K at*;obtain⟨yn,ya,yk,yt⟩:=y;simp only[lz,eb,an7,an4]at sm ⊢;have ei:=aM.trans ax;refine ae ek ?_;refine VC.al ?_;rintro O3 ⟨aB,Tr,ea⟩;have dk:=ei.trans aB;cases b;rw[pH rfl];refine ν ek ?_;exact⟨dk,.nil,rfl⟩
 replace jw:=jw rfl
 clear pH;refine κ ek ?_;refine ξ ek Tr ?_;refine π (sm O3 Λ) ?_;rintro _ O4 ⟨tk,rfl,aV⟩;have Ya:=aV.at Tr;have jk:=dk.trans aV;have fe:=aV.N;refine ae ek ?_;by_cases F2:1024<Ζ K;rw[if_pos F2]at jw;rw[jw];refine ξ ek Ya ?_;refine η (m7 _ _ _) ?_;refine ae ek ?_;exact⟨jk,rfl⟩;rw[if_neg F2]at jw;refine ξ ek Ya ?_;refine VC.join aa [2] (λx:List (Bs×Bs)×Tok=>[.l (Ζ x.1) (x.1.flatMap bp) x.2]) (λx O'=>O.Ge O'/\PE= .ok x.1) ?_ ?_;rotate_left;rintro⟨L,tl⟩ O9 ⟨bq,hP⟩;rw[hP];refine ae ek ?_;exact⟨bq,tl,rfl⟩;refine κ ek ?_;refine Γ ?_;refine Υ [2,27] [3,25,26] (λx:Nat×List (Bs×Bs)×Tok=>[.l (Ζ x.2.1) (x.2.1.flatMap bp) x.2.2,mi x.1]) (λx O'=>O4.Ge O'/\App O' O4.N 2 x.2.2/\x.1<=(Ζ K)/\(Ζ x.2.1)=x.1/\PE=ng wy (K.drop x.1) x.2.1) (λx=>(Ζ K) - x.1) ((0,[],.nil)) ?_ ?_;exact⟨VH.Ge.refl _,trivial,an2 _,rfl,jw⟩;rintro⟨j,L,tl⟩ O5 ⟨bB,cQ,hj,nR,hP⟩;dsimp only at cQ hj nR hP ⊢;by_cases bu:j<Ζ K;rotate_left
 ·obtain rfl:j=Ζ K:=Λ
  rw[asl (aev _),ng]at hP;refine ν ek ?_;exact aE.mk (L,tl) ⟨jk.trans bB,hP⟩
 have bh:=bY m4 K j bu;rw[<-sj]at bh;have aaE:=dN K;rw[auk bu,ng]at hP;have hzW:=hKm K[j] (apF bu);generalize K[j]=z at*;have rz:=Tp z (wy++[47]++z.nm) Α;have hkz:=kL z;have htz:=ahB (I5 z.kids) (auB (zT z))
 have aqS:Ζ z.nm<=1000000:=by cases z with
  | mk n a k t=>rw[zS]at hzW;show (Ζ n)<=_;omega
 generalize pF z (wy++[47]++z.nm) Α=T at*;obtain⟨zn,za,gJ,zt⟩:=z;simp only[lz,eb,Nd.nm,List.cons_append,List.nil_append]at bh rz hP aqS;have Yb:=bB.at Ya;have ie:=bB.N;refine κ ek ?_;refine κ ek ?_;refine Δ (Γ ?_);refine ξ ek bh ?_;refine VC.al ?_;rintro O6 ⟨dU,nV,mQ⟩;have hy6:=dU.at Yb;have iU:=cQ.ge dU;have yz:=bB.trans dU;have ew:=jSx j;refine θ (aF ek hy6 nV ?_);refine κ ek ?_;refine π (akr L tl 226 [.p O5.N 0] (λq=>q.1==zn) O6 z11 (λq _ O' Ao=>adE q _ zn _ _ _ O' (Ao.at nV) (by have:=Ao.N;omega)) Λ) ?_;rintro _ O7 ⟨rfl,dB⟩;have wS:=(jk.trans yz).trans dB;have hy7:=dB.at hy6;have At:=dB.at nV;have sk:=dB.N;have jl:=iU.ge dB;refine ae ek ?_;cases iw:L.any λq=>q.1==zn
 rotate_left;rw[iw,cond_true]at hP;rw[hP];refine ae ek ?_;refine η (m7 _ _ _) ?_;refine ae ek ?_;exact⟨wS,rfl⟩;rw[iw,cond_false]at hP;refine ae ek ?_;refine VC.ot [9,10] ?_;refine ρ 0 ek ?_;refine ρ 1 ek ?_;refine auU (m:=.s zn) 2 ?_ ?_;exact dT ek At;simp only[ag];refine ρ 4 ek ?_;refine ab.op (i:=3) ?_;refine ak ek At ?_;refine⟨VH.Ge.refl _,?_⟩;refine ρ 5 ek ?_;refine ab.qQ (i:=6) (rz O7 Λ Λ) ?_ ?_;rotate_left
 ·rintro m O8 ⟨gR,h⟩;cases T with
  | ok s=>exact h.elim
  | error e=>
    dsimp only at h hP;rw[hP];refine ae ek ?_;exact⟨wS.trans gR,h⟩
 rintro m O8 ⟨gR,h⟩;cases T with
 | error e=>exact h.elim
 | ok s=>
 dsimp only at h hP;subst h;simp only[ag];refine⟨gR,?_⟩;refine ρ 7 ek ?_;refine ab.op (i:=8) ?_;refine ae ek ?_;refine⟨gR,?_⟩;refine ab.bM [(9,.one),(10,.au)] ?_;refine ae ek ?_;obtain⟨mE,iT,oX⟩:=jj (n:=Ζ L) (cs:=L.flatMap bp) (ds:=[.s zn,.s s]) (es:=bp (zn,s)) Ep AT.1.1 (jl.ge gR) (aP eC L) rfl rfl z12 Λ z13 (ic L) (by simp only[bp,wu]);refine VL.o7 iT oX ?_;refine ae ek ?_;refine ν ek ?_;exact aw.N (j+1,L++[(zn,s)],.own O8.N 2) ⟨dR.fS ((yz.trans dB).trans gR) (jl.ge gR) (dR.after (jl.ge gR)),App.after (by have:=gR.N;omega),bu,by dsimp only;rw[Rn,nR];rfl,hP⟩ (hl:=(by dsimp only;rw[Rn,an6,ew];rfl))
section
variable{P:Program}{tab:cB}{n:Sz}{D:List Deferred}{md:Md}{ops:Array Oper}{Q:VQ}{f:Fl}{o:Oper}{L:List (Fl×Oper)}{e:Env}{O:VH}{r:Option (MV×VH)}{b:Bool}{c:Code}
def Yf(h:WL P tab n D md ops Q L e O):WL P tab n D md ops Q L e O:=h
def Yg(h:W2 P tab n D md ops Q f o L e O r):W2 P tab n D md ops Q f o L e O r:=h
def Yh(h:W3 P tab n D md ops Q L e O b):W3 P tab n D md ops Q L e O b:=h
def Yi(h:WC P tab n D c e O Q):WC P tab n D c e O Q:=h
end
section
variable{A1 A2 A3 A4 A5 A6 A7 P Q:Prop}
def lL(a1:A1)(q:Q)(h:A1->Q->P:=by intro a1 q;first | (with_reducible refine θ ?_;refine ae a1 q) | (with_reducible refine ι ?_;refine ae a1 q) | (first | with_reducible refine Yf ?_ | with_reducible refine Yg ?_ | with_reducible refine Yh ?_ | with_reducible refine Yi ?_);refine ae a1 q):P:=h a1 q
def yA(a1:A1)(a2:A2)(q:Q)(h:A1->A2->Q->P:=by intro a1 a2 q;first | (with_reducible refine θ ?_;refine ak a1 a2 q) | (with_reducible refine ι ?_;refine ak a1 a2 q) | (first | with_reducible refine Yf ?_ | with_reducible refine Yg ?_ | with_reducible refine Yh ?_ | with_reducible refine Yi ?_);refine ak a1 a2 q):P:=h a1 a2 q
def kg3(a1:A1)(a2:A2)(a3:A3)(q:Q)(h:A1->A2->A3->Q->P:=by intro a1 a2 a3 q;first | (with_reducible refine θ ?_;refine aF a1 a2 a3 q) | (with_reducible refine ι ?_;refine aF a1 a2 a3 q) | (first | with_reducible refine Yf ?_ | with_reducible refine Yg ?_ | with_reducible refine Yh ?_ | with_reducible refine Yi ?_);refine aF a1 a2 a3 q):P:=h a1 a2 a3 q
def kg4(a1:A1)(a2:A2)(a3:A3)(a4:A4)(q:Q)(h:A1->A2->A3->A4->Q->P:=by intro a1 a2 a3 a4 q;first | (with_reducible refine θ ?_;refine bo a1 a2 a3 a4 q) | (with_reducible refine ι ?_;refine bo a1 a2 a3 a4 q) | (first | with_reducible refine Yf ?_ | with_reducible refine Yg ?_ | with_reducible refine Yh ?_ | with_reducible refine Yi ?_);refine bo a1 a2 a3 a4 q):P:=h a1 a2 a3 a4 q
def kg5(a1:A1)(a2:A2)(a3:A3)(a4:A4)(a5:A5)(q:Q)(h:A1->A2->A3->A4->A5->Q->P:=by intro a1 a2 a3 a4 a5 q;first | (with_reducible refine θ ?_;refine gy a1 a2 a3 a4 a5 q) | (with_reducible refine ι ?_;refine gy a1 a2 a3 a4 a5 q) | (first | with_reducible refine Yf ?_ | with_reducible refine Yg ?_ | with_reducible refine Yh ?_ | with_reducible refine Yi ?_);refine gy a1 a2 a3 a4 a5 q):P:=h a1 a2 a3 a4 a5 q
def kg6(a1:A1)(a2:A2)(a3:A3)(a4:A4)(a5:A5)(a6:A6)(q:Q)(h:A1->A2->A3->A4->A5->A6->Q->P:=by intro a1 a2 a3 a4 a5 a6 q;first | (with_reducible refine θ ?_;refine Em a1 a2 a3 a4 a5 a6 q) | (with_reducible refine ι ?_;refine Em a1 a2 a3 a4 a5 a6 q) | (first | with_reducible refine Yf ?_ | with_reducible refine Yg ?_ | with_reducible refine Yh ?_ | with_reducible refine Yi ?_);refine Em a1 a2 a3 a4 a5 a6 q):P:=h a1 a2 a3 a4 a5 a6 q
end
section
variable{G H:Gh}{n:Sz}{D:List Deferred}{e e':Env}{a:Act}{P:Program}{tab:cB}{O O':VH}{w:World}{m m':MV}{u v:Value}{ops:Array Oper}{Q:VQ}{md:Md}
def agu(P:Program)(tab:cB)(rs:List ResultVar)(g:FuncId)(cap:List Operand)(t:Tmp)(k lo:Nat)(rest:Code)(R:gm->VH->Prop):VQ:=λx e O=>match x with
 | .normal=>∃ms,g_ e cap=φ ms/\∀D,VC P ⟨k,lo⟩ D rest ((t,.func (.func g) [] ms)::e) O (SG P tab rs g ms R)
 | .ret=>kf R O (jQ tab e O rs)
 | _=>False
def Yj(ht:aN P tab){el:TypeId}{L ds:Η}{q:MV}{dx:TypeDesc}{t tx ty:TypeId} 
  (hr:GR O el te.size B p n' L) (hs:sW O te.size q=φ (j,ds)) (fX:ds.all dF=Α) (hu:(tab t).map cg.under=φ (.slice el)) (he:tab el=φ te) (rz:(tab tx).map cg.under=φ dx) (Eh:AR q dx) (hb:(n'+j)*te.bytes<=140737488355328) (hm:n'+j<=maxLen) (hB:B<=O.N)
  (hx:ev e x=φ p) (hy:ev e y=φ q):
  dd P n D (.mk d (.call {callee:=.builtin .append,args:= #[x,y],argTypes:= #[t,tx]}) ty ps af g) e O (λm O'=>GR O' el te.size B m (n'+j) (L++ds)/\aL O (gid p) O'/\(gid p=Β->O.Ge O')/\((∃k c,m= .bk k 0 (n'+j) c/\(gid p=φ k\/(O.N<=k/\j≠0)))\/(j=0/\m=p/\O'=O))):=by
 intro G a w hw hf;have lH:=hf.ev hx;have xd:=hf.ev hy;have gk:=bm ht rz
 have fin:∀{m O' u w' H},(GR O' el te.size B m (n'+j) (L++ds)/\aL O (gid p) O'/\(gid p=Β->O.Ge O')/\((∃k c,m= .bk k 0 (n'+j) c/\(gid p=φ k\/(O.N<=k/\j≠0)))\/(j=0/\m=p/\O'=O)))->(Builtin.append_ #[t,tx] ty #[a.eval x,a.eval y]).run P w= .ok u w'->Gh.Le G H->WR H O' w'->VR H m u->
   ∃m O' u w' H,(GR O' el te.size B m (n'+j) (L++ds)/\aL O (gid p) O'/\(gid p=Β->O.Ge O')/\((∃k c,m= .bk k 0 (n'+j) c/\(gid p=φ k\/(O.N<=k/\j≠0)))\/(j=0/\m=p/\O'=O)))/\(execOp a.eval (.mk d (.call {callee:=.builtin .append,args:= #[x,y],argTypes:= #[t,tx]}) ty ps af g)).run P w= .ok (.value u) w'/\Gh.Le G H/\WR H O' w'/\VR H m u:=λhM cD h1 h2 h3=>
  ⟨_,_,_,_,_,hM,by simp only[execOp,resolve,invoke,builtin,List.map_toArray,auY,List.map_nil,Sem.run_bind,Sem.run_pure,Result.andThen_ok]<;>simp[cD],h1,h2,h3⟩
 obtain⟨vs,oh,hv⟩:=CK (P:=P) hw hs xd gk Eh fX;have rZ:Ζ ds=j*te.size:=by rw[<-hv.1];exact oh.newsLen
 rcases hr with⟨rfl,rfl,hp⟩ | ⟨k,c,rfl,xf,nR,ca⟩
 ·have hA:∃A,a.eval x= .slice A 0 0/\(∀w',(Builtin.firstCells te.size 0 (.slice A 0 0)).run P w'= .ok #[] w'):=by
   generalize a.eval x=u at lH
   have key:∀A:Option Addr,∀w',(Builtin.firstCells te.size 0 (.slice A 0 0)).run P w'= .ok #[] w':=λA w'=>by
    cases A<;>simp[Builtin.firstCells,loadCells,loadCellsFrom]
   rcases hp with rfl | rfl
   ·cases lH with
    | slnil=>exact⟨_,rfl,key _⟩
    | l h1 h2 h3 h4 h5 h6=>exact h6.elim
   ·cases lH with
    | l h1 h2 h3 h4 h5 h6=>
      have h6:_=0:=h6;subst h6;exact⟨_,rfl,key _⟩
  obtain⟨A,hA,hfc⟩:=hA;(((have ae9:gid p=Β:=by rcases hp with rfl | rfl<;>rfl);by_cases hj:j=0);subst hj;have vK:ds=[]:=apG (by simpa using rZ);subst vK;refine fin (m:=p) (O':=O) (u:=a.eval x) (w':=w) (H:=G) ⟨.inl ⟨rfl,rfl,hp⟩,aL.refl _ _,λ_=>VH.Ge.refl _,.inr ⟨rfl,rfl,rfl⟩⟩ ?_ (Gh.Le.refl G) hw lH;(have kO:vs=[]:=by have:=hv.1;simpa using this);subst kO;rw[hA];have fB:=bm ht hu;obtain⟨ti,z,i1,i2,_⟩:=(ht _ te he).info;rcases oh.kind with⟨e',hk⟩ | hk<;>cases A<;>simp[Builtin.append_,run_underlying fB,run_underlying hk,f_ (ht _ te he),oh.len,oh.cells,storeCells]);rw[hA]at fin;obtain⟨c',w',H,zs,g1,g2,g3,g4,g5,g6,g7⟩:=CL (P:=P) ht hw (n':=0) (c:=0) (A:=A) (L:=[]) (us:=[]) (ty:=ty) hu he gk hs Eh fX aX.nil z10 (hfc _) Λ hb hm xd;refine fin ⟨.inr ⟨O.N,c',rfl,g1,by rw[Rn,rZ];simp,?_⟩,?_,λ_=>?_,.inl ⟨_,_,rfl,.inr ⟨aev _,hj⟩⟩⟩ g4 g5 g6 g7;refine Row.BD (cs:=[]) (t:=el) ?_ hB;rw[Rn,g3,Rn,rZ,Ro,aui, <-auC];((congr 1;omega);rw[ae9];exact aL.push.trans aL.push);exact((VH.Ge.refl O).push _).push _
 ·obtain⟨sp,ju,lU⟩:=ca.cells;generalize oo:a.eval x=u at lH;have ae_:=lH;cases ae_ with
  | bk hp hn An=>
    rename_i b;rw[oo]at fin;have hmul:(n'+j)*te.size=n'*te.size+j*te.size:=auC _ _ _;by_cases oe:n'+j<=c
    ·have hle:(n'+j)*te.size<=c*te.size:=Nat.mul_le_mul_right _ oe;obtain⟨w',A,g1,g2,g3⟩:=Iq (P:=P) (ty:=ty) ht hw hu he gk ju hs Eh fX oe (by rw[lU,rZ];omega) lH xd;rw[aui, <-nR,om]at g2
     have Mu:Ζ ds<=Ζ sp:=by
      rw[Rn]at lU;omega
     rw[apJ Mu]at g2;refine fin ⟨.inr ⟨k,c,rfl,oe,by rw[Rn,nR,rZ,hmul],ca.aao ?_⟩,aL.set,(λh=>by cases h),.inl ⟨_,_,rfl,.inl rfl⟩⟩ g1 (Gh.Le.refl G) g2 g3;rw[Rn,Rn,apI];rw[Rn]at lU;omega
    ·obtain⟨b',C,T,d1,d2,d3⟩:=hw.cells k _ ju;rw[hp]at d1;injection d1 with d1;subst d1;have hL:=d3.take (Ζ L);rw[List.take_left,List.take_take,auM (by rw[Rn];omega)]at hL
     have hold:(Builtin.firstCells te.size n' (.slice (φ ⟨b,0,Β⟩) n' c)).run P w.drew= .ok (C.toList.take (Ζ L)).toArray w.drew:=by
      refine run_firstCells_some (P:=P) w.drew te.size n' ⟨b,0,Β⟩ n' c _ (by rw[hL.1,nR]) λi u hu=>?_
      rw[Addr.add_lit,aui];rw[auq]at hu;split at hu;have nS:w.drew.heap[b]?=φ (.cells C T.t T.fr):=d2;simp only[World.cell?,nS,Option.isSome_none,atM,if_false];simpa using hu;cases hu
     obtain⟨c',w',H,zs,g1,g2,g3,g4,g5,g6,g7⟩:=CL (P:=P) (ty:=ty) ht hw (n':=n') (c:=c) (A:=φ ⟨b,0,Β⟩) (L:=L) hu he gk hs Eh fX hL nR hold Λ hb hm xd;refine fin ⟨.inr ⟨O.N,c',rfl,g1,by rw[Rn,nR,rZ,hmul],?_⟩,(aL.push.trans aL.push).any,(λh=>by cases h),.inl ⟨_,_,rfl,.inr ⟨aev _,Λ⟩⟩⟩ g4 g5 g6 g7;refine Row.BD (cs:=[]) (t:=el) ?_ hB;rw[Rn,g3,Rn,nR,rZ, <-hmul, <-auC];congr 1;omega
def VF.I9{g:FuncId}{fn:Func}{A B rest:Code}{id k lo:Nat}{t:Tmp}{cap:Array Operand}{ty ty':TypeId}{ps':String}{af':Array Edge}{rs:List ResultVar}(hf:P.funcs[f]?=φ fn)(hE:Enters P g)
  (h:WC P tab ⟨k,0⟩ [] A (cX 0 args) O (wH (PB P ⟨k,0⟩ [] B (agu P tab rs g cap.toList t k lo rest R)) (agu P tab rs g cap.toList t k lo rest R))) (ht:aN P tab:=by exact aa) (hb:fn.body=φ (.seq A (.seq B (.seq (.region id ⟨[.mk (φ t) (.makeFunc (.func g) #[] cap) ty ps af Β,.mk Β (.defer {callee:=.value (.tmp t),args:= #[],argTypes:= #[]}) ty' ps' af' Β]⟩ γ) rest))):=by exact rfl) (hk:fn.ntmps=k:=by exact rfl) (hr:fn.results.toList=rs:=by exact rfl) (hn:Ζ args<=k:=by exact Nat.le_of_ble_eq_true rfl) (fP:t<k:=by decide):VF P f args O R:=by
 subst hk;intro G w vs hw hv;refine calls_of_wp_defers hf hb ?_
 have aY:FR G ⟨fn.ntmps,0⟩ [] (cX 0 args) {tmps:=vs.toArray++Array.replicate (fn.ntmps - vs.toArray.size) undef,defers:=[]}:=by
  have hl:=hv.1;refine⟨rfl,by simp;omega,λt x hx=>?_⟩;rw[kj,if_pos (an2 _),Nat.sub_zero]at hx;obtain⟨u,h1,h2⟩:=hv.get hx;refine⟨u,?_,h2⟩;have bI:=(auI.1 h1).1;rw[Array.getElem?_append_left (by simpa using bI)];simpa using h1
 refine wp_seq (wp_mono (WC.sound ht h G _ w hw aY) ?_)
 have early:∀{e:Env} {a':Act} {w':World} {O':VH} {K:Gh},Gh.Le G K->WR K O' w'->FR K ⟨fn.ntmps,0⟩ [] e a'->kf R O' (jQ tab e O' rs)->
   Leaves P fn a'.tmps (λx w'=>∃r O' H,Gh.Le G H/\WR H O' w'/\ER H r x/\R r O') a'.defers .returning w':=by
  intro e a' w' O' K k1 k2 k3 q3;rw[k3.defers]
  have key:∃m,gX tab fn e O'=φ m/\R (.ret m) O':=by
   unfold gX;rw[hr, <-yb];generalize jQ tab e O' rs=z at q3;unfold kf at q3;split at q3;exact q3.elim;exact⟨_,rfl,q3⟩
   ·rename_i l hl;refine⟨.tuple l,?_,q3⟩
    match l,hl with
    | [],_=>rfl
    | [m],hl=>exact absurd rfl (hl m)
    | _::_::_,_=>rfl
  obtain⟨m,h6,h7⟩:=key;obtain⟨u2,h8,h9⟩:=ob (P:=P) ht k2 k3 h6;exact⟨u2,h8,.ret m,O',K,k1,k2,h9,h7⟩
 rintro y a1 w1 ⟨x,e,O1,H,g1,g2,g3,g4,g5⟩
 cases y<;>cases x<;>first
  | exact False.elim g4
  | exact g5.elim
  | exact early g1 g2 g3 g5
  | skip
 refine wp_seq (wp_mono (g5 H a1 w1 g2 g3) ?_);rintro y a1 w1 ⟨x,e,O1,H2,g1',g2,g3,g4,g5⟩
 replace g1:=g1.trans g1'
 clear g1'
 cases y<;>cases x<;>first
  | exact False.elim g4
  | exact g5.elim
  | exact early g1 g2 g3 g5
  | skip
 obtain⟨ms,hm,Xn⟩:=g5;have g3:FR H2 ⟨fn.ntmps,0⟩ [] e a1:=g3;have kO:=g3.g_ hm;have uE:cap.map a1.eval=(cap.toList.map a1.eval).toArray:=by apply Array.ext';simp
 generalize cap.toList.map a1.eval=us at kO uE
 have Xo:(execOp a1.eval (.mk (φ t) (.makeFunc (.func g) #[] cap) ty ps af Β)).run P w1= .ok (.value (.func (.func g) #[] us.toArray)) w1:=by
  simp[execOp,Instr.makeFunc,uE]
 have hz:=g3.size;dsimp only at hz
 have hev:(a1.put (φ t) (.func (.func g) #[] us.toArray)).eval (.tmp t)= .func (.func g) #[] us.toArray:=by
  simp[Act.eval,Act.put,hz,fP]
 have Xp:(execOp (a1.put (φ t) (.func (.func g) #[] us.toArray)).eval (.mk Β (.defer {callee:=.value (.tmp t),args:= #[],argTypes:= #[]}) ty' ps' af' Β)).run P w1= .ok (.defer {target:=.fn (.func g) us.toArray,args:= #[]}) w1:=by
  simp[execOp,resolve,hev,Deferred.ofValue]
 refine wp_seq (wp_region ?_);have SF:∀o1 o2:Oper,List.range (Array.mk [o1,o2]).size=[0,1]:=λ_ _=>rfl
 rw[SF];have GB:∀(o1 o2:Oper)(tm:Array Value),o1.guard=Β->Region.wanted o1 (yielded ⟨[o1,o2]⟩ tm)=Α:=λo1 o2 tm h=>by simp[Region.wanted,h]
 have xc:∀(o1 o2:Oper)(tm:Array Value),o2.guard=Β->Region.wanted o2 (yielded ⟨[o1,o2]⟩ tm)=Α:=λo1 o2 tm h=>by simp[Region.wanted,h]
 simp only[wpOps,List.getElem?_toArray,auL,aut];rw[if_pos (GB _ _ _ rfl)];refine .inl ?_;unfold Oper.wp;rw[Xo,Oper.upon_value];simp only[wpOps,List.getElem?_toArray,auL,aut];rw[if_pos (xc _ _ _ rfl)];refine .inl ?_;first | unfold Oper.wp | skip
 rw[Xp,Oper.upon_defer];have jh:FR H2 ⟨fn.ntmps,0⟩ [] ((t,.func (.func g) [] ms)::e) (a1.put (φ t) (.func (.func g) #[] us.toArray)):=FR.put g3 fP (.func (fs:=[]) (us:=[]) rfl (λi c u h=>by simp at h) kO.1 kO.2);generalize a1.put (φ t) (.func (.func g) #[] us.toArray)=a2 at jh;have ku:FR H2 ⟨fn.ntmps,lo⟩ [{target:=.fn (.func g) us.toArray,args:= #[]}] ((t,.func (.func g) [] ms)::e) {a2 with defers:={target:=.fn (.func g) us.toArray,args:= #[]}::a2.defers}:=⟨by rw[jh.defers],jh.size,jh.get⟩;show rest.wp P _ _ _;refine wp_mono (Xn _ H2 _ w1 g2 ku) ?_;rintro y a' w' ⟨x,e',O',K,k1,k2,k3,k4,k5⟩
 have hinv:∀w:World,(invoke (.fn (.func g) us.toArray) #[]).run P w= .ok (.enter g us.toArray) w:=λw=>by
  simp[invoke,hE us.toArray w]
 have fin:∀(u:FrameMode)(z:ϱ),u≠ .run->MR K z u->FR K ⟨fn.ntmps,lo⟩ [{target:=.fn (.func g) us.toArray,args:= #[]}] e' a'->fM P g ms z O' (λO'=>kf R O' (jQ tab e' O' rs))->
   Leaves P fn a'.tmps (λx w'=>∃r O' H,Gh.Le G H/\WR H O' w'/\ER H r x/\R r O') a'.defers u w':=by
  intro u z hu hmr KW hd;rw[KW.defers];refine leaves_cons hu (hinv _) ((hd K w' us u k2 (kO.mono k1) hmr).mono ?_);rintro r u' WJ ⟨⟨v,rfl⟩,hs,O2,K2,q1,q2,q3⟩;dsimp only;rw[hs]
  have key:∃m,gX tab fn e' O2=φ m/\R (.ret m) O2:=by
   unfold gX;rw[hr, <-yb];generalize jQ tab e' O2 rs=z at q3;unfold kf at q3;split at q3;exact q3.elim;exact⟨_,rfl,q3⟩
   ·rename_i l hl;refine⟨.tuple l,?_,q3⟩
    match l,hl with
    | [],_=>rfl
    | [m],hl=>exact absurd rfl (hl m)
    | _::_::_,_=>rfl
  obtain⟨m,h6,h7⟩:=key;obtain⟨u2,h8,h9⟩:=ob (P:=P) ht q2 (KW.mono q1) h6;exact⟨u2,h8,.ret m,O2,K2,(g1.trans k1).trans q1,q2,h9,h7⟩
 cases y with
 | normal=>cases x<;>first | exact False.elim k4 | exact fin .returning Β z10 trivial k3 k5
 | ret=>cases x<;>first | exact False.elim k4 | exact fin .returning Β z10 trivial k3 k5
 | panic c=>
   cases x with
   | panic m=>
     obtain⟨u,rfl,hvu⟩:=k4;exact fin (.panicking [⟨u,γ,γ⟩]) (φ m) z10 hvu k3.2 k5
   | _=>exact False.elim k4
 | exit i=>cases x<;>first | exact False.elim k4 | exact k5.elim
 | goto i=>cases x<;>first | exact False.elim k4 | exact k5.elim
 | outgrown=>cases x<;>exact False.elim k4
def VL.aoK(ht:aN P tab){el:TypeId}{L ds:Η}{q:MV}{dx:TypeDesc}{t tx ty:TypeId}{LL:List (Fl×Oper)}(hne:brk≠[])
  (r4:∀i,ops[i]?=φ (.mk d (.call {callee:=.builtin .append,args:= #[x,y],argTypes:= #[t,tx]}) ty ps af g)->brk.contains i=Α)
  (hr:GR O el te.size B p n' L) (hs:sW O te.size q=φ (j,ds)) (fX:ds.all dF=Α) (hu:(tab t).map cg.under=φ (.slice el)) (he:tab el=φ te) (rz:(tab tx).map cg.under=φ dx) (Eh:AR q dx) (hb:(n'+j)*te.bytes<=140737488355328) (hm:n'+j<=maxLen) (hB:B<=O.N)
  (hx:ev e x=φ p) (hy:ev e y=φ q) (hg:aK ops (.mk d (.call {callee:=.builtin .append,args:= #[x,y],argTypes:= #[t,tx]}) ty ps af g) e=φ Α) (hd:bj n d=Α)
  (h:∀m O',GR O' el te.size B m (n'+j) (L++ds)->aL O (gid p) O'->(gid p=Β->O.Ge O')->((∃k c,m= .bk k 0 (n'+j) c/\(gid p=φ k\/(O.N<=k/\j≠0)))\/(j=0/\m=p/\O'=O))->WL P tab n D (.held brk) ops Q LL (aU d m e) O'):
  VL P n D (.held brk) ops ((.one,.mk d (.call {callee:=.builtin .append,args:= #[x,y],argTypes:= #[t,tx]}) ty ps af g)::LL) e O Q:=by
 refine VL.qJ hg hd (λ_ alX h=>by injection h with h;subst h;exact hne) (λalX h=>by injection h with h;subst h;exact .inr hne) (Yj ht hr hs fX hu he rz Eh hb hm hB hx hy) (λalX h i hi=>by injection h with h;subst h;exact r4 i hi) ?_;rintro m O' ⟨h1,h2,h3,h4⟩;exact WL.sound ht (h m O' h1 h2 h3 h4)
def bR.mv(i:Nat){ty:TypeId}(h:bR P n D ⟨l⟩ brk fuel (listed.setIfInBounds i Α) (aU d m e) O Q)(ho:l[i]?=φ (.mk d (.move x) ty ps af g):=by exact rfl)(hs:Region.noSelect ⟨l⟩=Α:=by kernel_rfl)(hf:Region.free .any ⟨l⟩ listed i=Α:=by kernel_rfl)(hr:(Region.ready .any ⟨l⟩ listed).contains i=Α:=by kernel_rfl)(Tu:brk.contains i=Α:=by kernel_rfl)(hg:aK ⟨l⟩ (.mk d (.move x) ty ps af g) e=φ Α:=by exact rfl)(hd:bj n d=Α:=by exact rfl)(hx:ev e x=φ m:=by exact rfl):bR P n D ⟨l⟩ brk (fuel+1) listed e O Q:=by
 intro G a w hw aY;have hu:=aY.ev hx;have cD:∀w:World,(execOp a.eval (.mk d (.move x) ty ps af g)).run P w= .ok (.value (a.eval x)) w:=λw=>by simp[execOp]
 have Lj:(⟨l⟩:Array Oper)[i]?=φ (.mk d (.move x) ty ps af g):=by simpa using ho
 refine pY (S:=λ_=>True) (W:=λ_=>False) (brk:=λ_=>γ) Lj (Region.noSelect_spec hs) (iE hd) (λ_ _ _ _=>trivial) (λx _ hh=>by rw[Tu]at hh;cases hh) fuel listed a w (Region.free_spec Lj hf) (λ_ _ _ h=>h.elim) (λ_ h=>h.elim) (λ_ _ _ h=>by cases h) (by simpa using hr) (.inl ⟨bz aY hg,λx _=>cD x⟩) trivial (h G _ w hw (aY.aU hd hu))
def bR.bM(ix:List (Nat×Fl))(h:WL P tab n D (.held brk) ⟨l⟩ Q L e O)(ht:aN P tab:=by exact aa)(hs:Region.noSelect ⟨l⟩=Α:=by kernel_rfl)(hp:cP (.held brk) ⟨l⟩ fuel listed ix=Α:=by kernel_rfl)(hL:pw l ix=φ L:=by exact rfl):bR P n D ⟨l⟩ brk fuel listed e O Q:=
 (WL.sound ht h) fuel listed ix (vJ hL) (λ_=>⟨hs,hp⟩)
def VC.gen{c:Code}(h:∀O3,O3=O->VC P n D c e O3 Q):VC P n D c e O Q:=h _ rfl
def WL.gen(h:∀O3,O3=O->WL P tab n D md ops Q L e O3):WL P tab n D md ops Q L e O:=h _ rfl
def jS(a b:bO)(h:O1=(O.push a).push b):O.Ge O1/\O1.N=O.N+2/\O1.hp O.N=φ a/\O1.hp (O.N+1)=φ b:=by
 subst h;exact⟨((VH.Ge.refl O).push _).push _,rfl,(VH.jg _ _ (show O.N≠O.N+1 by omega)).trans (ζ _ _),ζ _ _⟩
def yB(a b c:bO)(h:O1=((O.push a).push b).push c):O.Ge O1/\O1.N=O.N+3/\O1.hp O.N=φ a/\O1.hp (O.N+1)=φ b/\O1.hp (O.N+2)=φ c:=by
 subst h;obtain⟨h1,h2,h3,h4⟩:=jS (O:=O) a b rfl;exact⟨h1.push _,rfl,(VH.jg _ _ (show O.N≠O.N+2 by omega)).trans h3,(VH.jg _ _ (show O.N+1≠O.N+2 by omega)).trans h4,ζ _ _⟩
def Yk(a b c d:bO)(h:O1=(((O.push a).push b).push c).push d):O.Ge O1/\O1.N=O.N+4/\O1.hp O.N=φ a/\O1.hp (O.N+1)=φ b/\O1.hp (O.N+2)=φ c/\O1.hp (O.N+3)=φ d:=by
 subst h;obtain⟨h1,h2,h3,h4,h5⟩:=yB (O:=O) a b c rfl;exact⟨h1.push _,rfl,(VH.jg _ _ (show O.N≠O.N+3 by omega)).trans h3,(VH.jg _ _ (show O.N+1≠O.N+3 by omega)).trans h4,(VH.jg _ _ (show O.N+2≠O.N+3 by omega)).trans h5,ζ _ _⟩
def bR.EC(i:Nat)(h:yd (λm O'=>bR P n D ⟨l⟩ brk fuel (listed.setIfInBounds i Α) (aU o.dst m e) O' Q) (iF tab .rd o e O))(ht:aN P tab:=by exact aa)(ho:l[i]?=φ o:=by exact rfl)(hs:Region.noSelect ⟨l⟩=Α:=by kernel_rfl)(hf:Region.free .any ⟨l⟩ listed i=Α:=by kernel_rfl)(hr:(Region.ready .any ⟨l⟩ listed).contains i=Α:=by kernel_rfl)(hb:mI ⟨l⟩ brk listed i=Α:=by kernel_rfl)(hg:aK ⟨l⟩ o e=φ Α:=by exact rfl)(hd:bj n o.dst=Α:=by exact rfl):bR P n D ⟨l⟩ brk (fuel+1) listed e O Q:=by
 generalize hv:iF tab .rd o e O=v at h;cases v with
 | none=>exact h.elim
 | some p=>
   obtain⟨m,O'⟩:=p
   exact bR.take z20 hs hf hr hb hd (λG a w hw aY=>by
    obtain⟨_,u,hu,cD⟩:=zL (P:=P) ht hw aY z10 hv;exact⟨u,hu,.inl ⟨bz aY hg,cD⟩⟩) (by
    obtain rfl:=xQ z10 hv;exact h)
def bR.fin(hb:((List.range listed.size).all λj=>listed.getD j Α||brk.contains j)=Α)(h:cf P n D ops fuel listed e O Q):bR P n D ops brk fuel listed e O Q:=by
 intro G a w hw aY;refine ou _ _ _ _ (λj hj x hs hh=>?_) (h G a w hw aY);rcases aus j listed.size with hl | hl;have:=aul.1 hb j (auT.2 hl);rw[hj,auZ]at this;rw[this]at hh;cases hh;rw[aun,auu z37]at hj;cases hj
def cf.aaI(h:yd (λm O'=>cf P n D ⟨l⟩ fuel (listed.setIfInBounds i Α) (aU o.dst m e) O' Q) (dE tab o e O))(ht:aN P tab:=by exact aa)(ho:l[i]?=φ o:=by exact rfl)(hr:Region.ready .any ⟨l⟩ listed=[i]:=by kernel_rfl)(hg:aK ⟨l⟩ o e=φ Α:=by exact rfl)(hd:bj n o.dst=Α:=by exact rfl):cf P n D ⟨l⟩ (fuel+1) listed e O Q:=
 cf.all hr z10 λj hj=>by
  obtain rfl:j=i:=by simpa using hj
  exact aQ.o1 h (ht:=ht) (ho:=ho) (hg:=hg) (hd:=hd)
def cf.st{M:MV->VH->Prop}(ho:l[i]?=φ o)(hr:Region.ready .any ⟨l⟩ listed=[i])(hg:aK ⟨l⟩ o e=φ Α)(hd:bj n o.dst=Α)(hy:dd P n D o e O M)
  (h:∀m O',M m O'->cf P n D ⟨l⟩ fuel (listed.setIfInBounds i Α) (aU o.dst m e) O' Q):cf P n D ⟨l⟩ (fuel+1) listed e O Q:=
 cf.all hr z10 λj hj=>by
  obtain rfl:j=i:=by simpa using hj
  exact aQ.st hy h (ho:=ho) (hg:=hg) (hd:=hd)
def cf.two(hr:Region.ready .any ops listed=[i,j])
  (h1:aQ P n D ops i e O Q λe' O'=>cf P n D ops fuel (listed.setIfInBounds i Α) e' O' Q) (h2:aQ P n D ops j e O Q λe' O'=>cf P n D ops fuel (listed.setIfInBounds j Α) e' O' Q):cf P n D ops (fuel+1) listed e O Q:=
 cf.all hr z10 λx hx=>by
  simp only[asc,auJ,or_false]at hx;rcases hx with rfl | rfl;exact h1;exact h2
def WR.wkc(h:WR G O w){k:Nat}{ds:Η}(hk:O.hp k=φ (.cells cs))(hw:fw cs ds):WR G (O.set k (.cells ds)) w:=
 h.swap z22 (λcs' e=>by
  injection e with e;subst e;obtain⟨b,C,T,h1,h2,h3⟩:=h.cells k cs hk;exact⟨b,C,T,h1,h2,by rw[<-hw.1];exact hw.vrs h3⟩) (λX e=>by cases e) (λ_ _ e=>by cases e) (λe=>by cases e) (λ_ _ _ e=>by cases e)
def VC.wkc{c:Code}{k:Nat}{ds:Η}(hk:O.hp k=φ (.cells cs))(hw:fw cs ds)(h:VC P n D c e (O.set k (.cells ds)) Q):VC P n D c e O Q:=λG a w hwr hf=>h G a w (hwr.wkc hk hw) hf
def WR.zV(h:WR G O w){k p o n:Nat}(hk:O.hp k=φ (.cells cs))(hp:O.hp p=φ (.cells (A++ .bk k o n c::E)))(qO:p≠k)(hl:o+sz<=Ζ cs):∃H,Gh.Le G H/\WR H ((O.kill k).set p (.cells (A++ .l n ((cs.drop o).take sz) .av::E))) w:=by
 obtain⟨b,C,T,h1,h2,h3⟩:=h.cells p _ hp;obtain⟨u,hu,hv⟩:=h3.get (i:=Ζ A) (c:=.bk k o n c) (by rw[aug (aev _),Nat.sub_self];rfl);obtain⟨H,h4,h5,h6⟩:=h.freeze hk hv hl;refine⟨H,h4,?_⟩;have Qb:(O.kill k).hp p=φ (.cells (A++ .bk k o n c::E)):=(VH.lF _ qO).trans hp;refine h5.swap (by rw[Qb];simp) (λcs' e=>?_) (λX e=>by cases e) (λ_ _ e=>by cases e) (λe=>by cases e) (λ_ _ _ e=>by cases e);injection e with e;subst e;refine⟨b,C,T,h4.cJ h1,h2,?_⟩;have h7:=h3.mono h4;refine⟨?_,λi c' u' hc HE=>?_⟩;rw[Rn,TR]at h7 ⊢;have:=h7.1;rw[Rn,TR]at this;exact this
 ·have hlen:(A++MV.l n ((cs.drop o).take sz) .av::E).length=(A++MV.bk k o n c::E).length:=by simp
  rw[hlen]at HE;by_cases hi:i=Ζ A;subst hi;rw[aug (aev _),Nat.sub_self]at hc;injection hc with hc;subst hc;rw[hu]at HE;injection HE with HE;subst HE;exact Wk.tok _ _ h6;refine h7.2 i c' u' ?_ HE;rcases aus i (Ζ A) with bI | bK;rw[auH bI]at hc ⊢;exact hc;rw[aug bK]at hc ⊢;(obtain⟨j,hj⟩:∃j,i - (Ζ A)=j+1:=⟨i - (Ζ A) - 1,Λ⟩);rw[hj,aut]at hc ⊢;exact hc
def VC.zV{c0:Code}{k p o:Nat}(hk:O.hp k=φ (.cells cs))(hp:O.hp p=φ (.cells (A++ .bk k o n' c::E)))(qO:p≠k)(hl:o+sz<=Ζ cs)(h:VC P n D c0 e ((O.kill k).set p (.cells (A++ .l n' ((cs.drop o).take sz) .av::E))) Q):VC P n D c0 e O Q:=λG a w hw hf=>by
 obtain⟨H,h1,h2⟩:=hw.zV hk hp qO hl;exact wp_mono (h H a w h2 (hf.mono h1)) λ_ _ _=>cU.le h1
end
section
variable{G H:Gh}{n:Sz}{D:List Deferred}{e e':Env}{a:Act}{P:Program}{tab:cB}{O O':VH}{w:World}{m m':MV}{u v:Value}{ops:Array Oper}{Q:VQ}{md:Md}
def ab.aqT(i:Nat)(h:yd (λm O'=>ab P n D ⟨l⟩ brk J Ψ Z fuel (listed.setIfInBounds i Α) (aU o.dst m e) O' Q) (iF tab .au o e O))(ht:aN P tab:=by exact aa)(ho:l[i]?=φ o:=by exact rfl)(hs:Region.noSelect ⟨l⟩=Α:=by kernel_rfl)(hf:Region.free .any ⟨l⟩ listed i=Α:=by kernel_rfl)(hr:(Region.ready .any ⟨l⟩ listed).contains i=Α:=by kernel_rfl)(Tu:brk.contains i=Α:=by kernel_rfl)(hg:aK ⟨l⟩ o e=φ Α:=by exact rfl)(hd:bj n o.dst=Α:=by exact rfl):ab P n D ⟨l⟩ brk J Ψ Z (fuel+1) listed e O Q:=by
 generalize hv:iF tab .au o e O=v at h;cases v with
 | none=>exact h.elim
 | some p=>
   obtain⟨m,O'⟩:=p;obtain⟨h1,rfl⟩:=po hv;intro hΨ hZ hJ G a w hψ hw aY;obtain⟨u,hu,cD⟩:=xH (P:=P) ht aY h1;(have Lj:(⟨l⟩:Array Oper)[i]?=φ o:=by simpa using ho);exact pY (S:=λx=>SS G x) (W:=λ_=>False) (brk:=λ_=>γ) Lj (Region.noSelect_spec hs) (iE hd) (λ_ _ _ hT=>hT.1) (λx hx=>⟨hx,λhh=>by rw[Tu]at hh;cases hh⟩) fuel listed a w (Region.free_spec Lj hf) (λ_ _ _ h=>h.elim) (λ_ h=>h.elim) (λ_ _ _ h=>by cases h) (by simpa using hr) (.inl ⟨bz aY hg,λx hx=>cD x hx⟩) hw.ss (h hΨ hZ hJ G _ w hψ hw (aY.aU hd hu))
def VC.vZ{id:Nat}(brk:Τ)(J:ϰ)(hJ:J O)(h:ab P n D ops brk J (λ_=>True) True ops.size (Array.replicate ops.size γ) e O Q)(hm:P.follows .mixedOrders=Α:=by kernel_rfl):VC P n D (.region id ops Α) e O Q:=
 λG a w hw hf=>wp_region_any hm (lE _ _ _ _ (h (λ_ _ _ _=>trivial) trivial hJ G a _ trivial (hw.drawn _) hf))
def exP:MV->Bool
 | .p _ _=>Α
 | .map _=>Α
 | m=>exM m
def agv(hm:exP m=Α)(h1:VR G m u)(hl:Gh.Le G H)(h2:VR H m v):v=u:=by
 cases m with
 | p k o=>
   cases h1 with
   | p a=>cases h2 with
     | p b=>rw[hl.cJ a]at b;injection b with b;rw[b]
 | map k=>
   cases h1 with
   | map a=>cases h2 with
     | map b=>rw[hl.cJ a]at b;injection b with b;rw[b]
 | _=>refine aaq ?_ h1 h2;exact hm
def δ(i:Nat){t:TypeId}{ty:TypeId}(hv:∀O2,J O2->fq tab O2 t p=φ m)(h:ab P n D ⟨l⟩ brk J Ψ Z fuel (listed.setIfInBounds i Α) (aU d m e) O Q)(ht:aN P tab:=by exact aa)(ho:l[i]?=φ (.mk d (.load t x) ty ps af g):=by exact rfl)(hs:Region.noSelect ⟨l⟩=Α:=by kernel_rfl)(hf:Region.free .any ⟨l⟩ listed i=Α:=by kernel_rfl)(hr:(Region.ready .any ⟨l⟩ listed).contains i=Α:=by kernel_rfl)(hb:mI ⟨l⟩ brk listed i=Α:=by kernel_rfl)(hg:aK ⟨l⟩ (.mk d (.load t x) ty ps af g) e=φ Α:=by exact rfl)(hd:bj n d=Α:=by exact rfl)(hx:ev e x=φ p:=by exact rfl)(hm:exP m=Α:=by exact rfl):ab P n D ⟨l⟩ brk J Ψ Z (fuel+1) listed e O Q:=by
 refine ab.take (o:=.mk d (.load t x) ty ps af g) z20 hs hf hr hb hd (λG a w _ hJ _ hw aY=>?_) h;obtain⟨u0,PC,_⟩:=qh (P:=P) ht hw (hv O hJ) (aY.ev hx);refine⟨u0,PC,.inl ⟨bz aY hg,λy hy=>?_⟩⟩;obtain⟨H,O2,g1,g2,g3⟩:=hy;obtain⟨r,g4,g5⟩:=qh (P:=P) ht g2 (hv O2 g3) ((aY.ev hx).mono g1);have:=g5 y g2.sx;have er:=agv hm PC g1 g4;subst er;simp only[execOp,Sem.run_bind,this];rfl
def GO(k1 k2:Nat)(X1 X2:Obj)(O':VH):Prop:=O'.hp k1=φ (.obj X1)/\O'.hp k2=φ (.obj X2)
def ΨFF(Yl Qc:Η)(X1 X2:Obj)(G:Gh):Prop:=kX Yl X1 G/\kX Qc X2 G
def VC.tA{id:Nat}(brk:Τ)(k1 k2:Nat)(du:O.hp k1=φ (.cells Yl))(bC:O.hp k2=φ (.cells Qc))
  (h:∀X1 X2,ab P n D ops brk (GO k1 k2 X1 X2) (ΨFF Yl Qc X1 X2) True ops.size (Array.replicate ops.size γ) e ((O.set k1 (.obj X1)).set k2 (.obj X2)) Q) (hne:k2≠k1:=by omega) (hm:P.follows .mixedOrders=Α:=by kernel_rfl):VC P n D (.region id ops Α) e O Q:=
 λG a w hw hf=>by
  obtain⟨X1,dz,GB⟩:=(hw.drawn _).fix du;obtain⟨X2,dQ,xc⟩:=GB.fix (k:=k2) (cs:=Qc) ((τ _ _ hne).trans bC);exact wp_region_any hm (lE _ _ _ _ (h X1 X2 (λ_ _ hl hx=>⟨kX.mono hl hx.1,kX.mono hl hx.2⟩) trivial ⟨(τ _ _ (Ne.symm hne)).trans (υ _ _ _),υ _ _ _⟩ G a _ ⟨dz,dQ⟩ xc hf))
def ε(i:Nat){t:TypeId}{ty:TypeId}{k off:Nat}(hJ:∀O',J O'->O'.hp k=φ (.obj X))(hΨ :∀G, Ψ G->kX cs X G)(hv:fq tab (O.set k (.cells cs)) t (.p k off)=φ m)(h:ab P n D ⟨l⟩ brk J Ψ Z fuel (listed.setIfInBounds i Α) (aU d m e) O Q)(ht:aN P tab:=by exact aa)(ho:l[i]?=φ (.mk d (.load t x) ty ps af g):=by exact rfl)(hs:Region.noSelect ⟨l⟩=Α:=by kernel_rfl)(hf:Region.free .any ⟨l⟩ listed i=Α:=by kernel_rfl)(hr:(Region.ready .any ⟨l⟩ listed).contains i=Α:=by kernel_rfl)(hb:mI ⟨l⟩ brk listed i=Α:=by kernel_rfl)(hg:aK ⟨l⟩ (.mk d (.load t x) ty ps af g) e=φ Α:=by exact rfl)(hd:bj n d=Α:=by exact rfl)(hx:ev e x=φ (.p k off):=by exact rfl):ab P n D ⟨l⟩ brk J Ψ Z (fuel+1) listed e O Q:=by
 refine ab.take (o:=.mk d (.load t x) ty ps af g) z20 hs hf hr hb hd (λG a w _ hJO hψ hw aY=>?_) h;obtain⟨C,T,rfl,h3⟩:=hΨ G hψ;unfold fq at hv;simp only[cellsOf,υ]at hv;split at hv
 ·rename_i ti cs' off' hti hc;injection hc with hc;injection hc with e1 e2;subst e1;subst e2
  obtain⟨r,sL,fR⟩:=ID (P:=P) ht hti hv h3;have hxr:=aY.ev hx;generalize hxe:a.eval x=xu at hxr;cases hxr with
  | p hp=>
    rename_i b;refine⟨r,sL,.inl ⟨bz aY hg,λy hy=>?_⟩⟩;obtain⟨H,O2,g1,g2,g3⟩:=hy;obtain⟨b',cS,bV⟩:=g2.obj k _ (hJ _ g3);rw[g1.cJ hp]at cS;injection cS with cS;subst cS
    have:=fR y b λj v hj=>by
     rw[auq]at hj;split at hj;simp only[World.cell?,bV,Option.isSome_none,atM,if_false];simpa using hj;cases hj
    simp only[execOp,Sem.run_bind,hxe,this];rfl
 ·cases hv
def ab.pZ(ix:List (Nat×Fl)){k1 k2:Nat}{X1 X2:Obj} 
  (h:WL P tab n D .any ⟨l⟩ Q L e ((O.set k1 (.cells Yl)).set k2 (.cells Qc))) (ht:aN P tab:=by exact aa) (hb:((List.range listed.size).all λj=>listed.getD j Α||brk.contains j)=Α:=by kernel_rfl) (hs:Region.noSelect ⟨l⟩=Α:=by kernel_rfl) (hp:cP .any ⟨l⟩ fuel listed ix=Α:=by kernel_rfl) (hL:pw l ix=φ L:=by exact rfl) (hne:k2≠k1:=by omega):ab P n D ⟨l⟩ brk (GO k1 k2 X1 X2) (ΨFF Yl Qc X1 X2) True fuel listed e O Q:=by
 have h':=cf.bM ix h (ht:=ht) (hs:=hs) (hp:=hp) (hL:=hL);intro hΨ hZ hJ G a w hψ hw aY;refine ou _ _ _ _ (λj hj x hs=>⟨hs,λhh=>?_⟩) (h' G a w ((hw.ye hJ.1 hψ.1).ye (k:=k2) ((τ _ _ hne).trans hJ.2) hψ.2) aY);rcases aus j listed.size with hl | hl;have:=aul.1 hb j (auT.2 hl);rw[hj,auZ]at this;rw[this]at hh;cases hh;rw[aun,auu z37]at hj;cases hj
def VC.tB{id:Nat}(brk:Τ)(k:Nat)(J0:ϰ)(hk:O.hp k=φ (.cells cs))(h0:∀X,J0 (O.set k (.obj X)))
  (h:∀X,ab P n D ops brk (λO'=>O'.hp k=φ (.obj X)/\J0 O') (kX cs X) True ops.size (Array.replicate ops.size γ) e (O.set k (.obj X)) Q) (hm:P.follows .mixedOrders=Α:=by kernel_rfl):VC P n D (.region id ops Α) e O Q:=
 λG a w hw hf=>by
  obtain⟨X,hx,xc⟩:=(hw.drawn _).fix hk;exact wp_region_any hm (lE _ _ _ _ (h X (λ_ _=>kX.mono) trivial ⟨υ _ _ _,h0 X⟩ G a _ hx xc hf))
def ab.tC(ix:List (Nat×Fl)){k:Nat}{J0:ϰ} 
  (h:WL P tab n D .any ⟨l⟩ Q L e (O.set k (.cells cs))) (ht:aN P tab:=by exact aa) (hb:((List.range listed.size).all λj=>listed.getD j Α||brk.contains j)=Α:=by kernel_rfl) (hs:Region.noSelect ⟨l⟩=Α:=by kernel_rfl) (hp:cP .any ⟨l⟩ fuel listed ix=Α:=by kernel_rfl) (hL:pw l ix=φ L:=by exact rfl):ab P n D ⟨l⟩ brk (λO'=>O'.hp k=φ (.obj X)/\J0 O') (kX cs X) True fuel listed e O Q:=by
 have h':=cf.bM ix h (ht:=ht) (hs:=hs) (hp:=hp) (hL:=hL);intro hΨ hZ hJ G a w hψ hw aY;refine ou _ _ _ _ (λj hj x hs=>⟨hs,λhh=>?_⟩) (h' G a w (hw.ye hJ.1 hψ) aY);rcases aus j listed.size with hl | hl;have:=aul.1 hb j (auT.2 hl);rw[hj,auZ]at this;rw[this]at hh;cases hh;rw[aun,auu z37]at hj;cases hj
end
section
variable{P:Program}{tab:cB}{n:Sz}{D:List Deferred}{e:Env}{O:VH}{Q:VQ}
def d_.ud(ht:aN P tab){op:BinOp}{t t' ty:TypeId}{xs ys:Η}{b bb:Bool}
  (xL:(op= .eql/\bb=b)\/(op= .neq/\bb= !b)) (hq:Ir P tab 9 t (.agg xs) (.agg ys)=φ b) (It:P.eqGuardType P.depth t=γ) (hx:ev e x=φ (.agg xs)) (hy:ev e y=φ (.agg ys)):d_ P n D (.mk d (.binOp op t x y t') ty ps af g) e (.v (.bool bb)):=by
 intro G a hf;have h1:=hf.ev hx;have h2:=hf.ev hy;have hr:=λw=>Is (P:=P) ht 9 hq h1 h2 9991 w
 generalize hu:a.eval x=u at h1 hr;generalize hv:a.eval y=v at h2 hr;cases h1 with
 | agg a1 a2=>
   cases h2 with
   | agg b1 b2=>
     rename_i us vs;refine dL.of (s:=do eqGuard op t x y (.agg us.toArray) (.agg vs.toArray);binOp op t (.agg us.toArray) (.agg vs.toArray)) (a_.of (u:=.bool bb) (λw _=>?_) (.v rfl)) (by simp[execOp,hu,hv]);rw[Sem.run_bind,run_eqGuard_agg w op t x y _ _ It,Result.andThen_ok];rcases xL with⟨rfl,rfl⟩ | ⟨rfl,rfl⟩;rw[run_eql_struct,hr w];rfl;rw[run_neq_struct,hr w];rfl
def ab.pure(i:Nat)(hp:d_ P n D o e m)(h:ab P n D ⟨l⟩ brk J Ψ Z fuel (listed.setIfInBounds i Α) (aU o.dst m e) O Q)(ho:l[i]?=φ o:=by exact rfl)(hs:Region.noSelect ⟨l⟩=Α:=by kernel_rfl)(hf:Region.free .any ⟨l⟩ listed i=Α:=by kernel_rfl)(hr:(Region.ready .any ⟨l⟩ listed).contains i=Α:=by kernel_rfl)(hb:mI ⟨l⟩ brk listed i=Α:=by kernel_rfl)(hg:aK ⟨l⟩ o e=φ Α:=by exact rfl)(hd:bj n o.dst=Α:=by exact rfl):ab P n D ⟨l⟩ brk J Ψ Z (fuel+1) listed e O Q:=
 ab.take z20 hs hf hr hb hd (λG a w _ _ _ hw aY=>by
  obtain⟨u,hu,cD⟩:=hp G a aY;exact⟨u,hu,.inl ⟨bz aY hg,λx hx=>cD x hx.ss⟩⟩) h
def ab.less{e':Env}(h:ab P n D ops brk J Ψ Z fuel listed e' O Q)(hl:∀t x,look e' t=φ x->look e t=φ x):ab P n D ops brk J Ψ Z fuel listed e O Q:=λh1 h2 h3 G a w h4 h5 h6=>h h1 h2 h3 G a w h4 h5 (h6.less hl)
def mark(l:Array Bool)(T:Τ):Array Bool:=T.foldl (λa i=>a.setIfInBounds i Α) l
def ab.meet{α :Type}(T S:Τ)(ms: α ->Η)(R: α ->VH->Prop)(f2:Nat) 
  (h:(∀x l' e' O',R x O'->l'=mark listed T->looks e' S=φ (ms x)->ab P n D ops brk J Ψ Z f2 l' e' O' Q)->ab P n D ops brk J Ψ Z fuel listed e O Q)
  (k:∀x O',R x O'->ab P n D ops brk J Ψ Z f2 (mark listed T) (ko S (ms x) []) O' Q):ab P n D ops brk J Ψ Z fuel listed e O Q:=
 h λx _ _ O' hr hl hs=>hl▸(k x O' hr).less (ji (e0:=[]) (λt x h=>by simp[look]at h) hs)
def cf.meet{α :Type}(T S:Τ)(ms: α ->Η)(R: α ->VH->Prop)(f2:Nat) 
  (h:(∀x l' e' O',R x O'->l'=mark listed T->looks e' S=φ (ms x)->cf P n D ops f2 l' e' O' Q)->cf P n D ops fuel listed e O Q)
  (k:∀x O',R x O'->cf P n D ops f2 (mark listed T) (ko S (ms x) []) O' Q):cf P n D ops fuel listed e O Q:=
 h λx _ _ O' hr hl hs G a w h1 h2=>hl▸k x O' hr G a w h1 (h2.less (ji (e0:=[]) (λt x h=>by simp[look]at h) hs))
end
end Go.Proofs.YtnfdmplcieacjaaGreatDoor
