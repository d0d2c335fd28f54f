import Derived.Test.YtoclnkfdahmnhaaGreatDoorMD
set_option linter.unusedVariables false
set_option linter.unusedSimpArgs false
namespace Go.Proofs.YtoclnkfdahmnhaaGreatDoor
open Go.RowKit
set_option maxRecDepth 10000
theorem CF {t:Bs} {stop:UInt8}:∀(n o:Nat) (acc:Bs) {s:Bs} {o':Nat},eu t stop n o acc= .ok (s,o')->s.length+o<=acc.length+o'
 | 0,o,acc,s,o',h=>by
   unfold eu at h;injection h with h;injection h with h1 h2
   subst h1;subst h2;omega
 | n+1,o,acc,s,o',h=>by
   have done:∀(h:(.ok (acc,o):Except (Int×Nat) (Bs×Nat))= .ok (s,o')),s.length+o<=acc.length+o':=fun h=>by
    injection h with h;injection h with h1 h2
    subst h1;subst h2;omega
   unfold eu at h;cases hg:t[o]? with
   | none=>rw[hg]at h;exact done h
   | some c=>
     rw[hg]at h;simp only at h;split at h
     ·exact done h
     split at h
     ·split at h
      ·cases h
      ·rename_i h5;obtain⟨k1,k2,k3⟩:=zP (by simpa using h5);have:=CF n _ _ h;rw[List.length_append]at this;omega
     split at h
     ·cases h
     ·have:=CF n _ _ h;rw[List.length_append]at this;simp only[List.length_cons,List.length_nil]at this;omega
theorem ado {t:Bs} {o:Nat} {s:Bs} {o':Nat} (h:tA t o= .ok (s,o')):s.length+o+2<=o':=by
 unfold tA at h;split at h
 ·cases h
 split at h
 ·cases h
 split at h
 ·cases h
 rename_i s2 o2 h2;have:=CF _ _ _ h2;split at h
 ·cases h
 ·injection h with h;injection h with h1 h3
  subst h1;subst h3
  simp only[List.length_nil]at this;omega
theorem VO (a b:List (Bs×Bs)):iN (a++b)=iN a+iN b:=by
 induction a with
 | nil=>rw[List.nil_append,iN,Nat.zero_add]
 | cons x a ih=>rw[List.cons_append,iN,iN,ih];omega
theorem Se {t:Bs}:∀(n o:Nat) (l:List (Bs×Bs)) {l':List (Bs×Bs)} {o':Nat},o<=t.length->k_ t n o l= .ok (l',o')->iN l'+o<=iN l+o'
 | 0,o,l,l',o',ho,h=>by
   rw[k_]at h;injection h with h;injection h with h1 h2
   subst h1;subst h2;omega
 | n+1,o,l,l',o',ho,h=>by
   have tI:=iG t o ho;rw[k_]at h;split at h
   ·injection h with h;injection h with h1 h2
    subst h1;subst h2;omega
   rename_i hc;have cy:1<=jO t o:=Nat.one_le_iff_ne_zero.2 fun e=>hc (.inl e)
   split at h
   ·cases h
   rename_i nm o2 h2;have hn:=fQ h2;have b9:=iG t o2 (by omega);split at h
   ·cases h
   split at h
   ·cases h
   rename_i y4 o4 h4;have hw:=kV h4;have cL:=iG t o4 (by omega);split at h
   ·cases h
   rename_i v o6 h6;have hv:=ado h6;have Fm:=zR h6;have:=Se n o6 _ (by omega) h;rw[VO,iN,iN]at this;dsimp only at this;omega
theorem AW {t:Bs} {o:Nat} {q s:Bs} {p:Nat} (h:iF t o q= .ok (s,p)):s.length+o<=p:=by
 unfold iF at h;split at h
 ·cases h
 split at h
 ·cases h
 ·rename_i h1;injection h with h;injection h with h2 h3
  have hi:0<=Lib.index (t.drop o) q:=by omega
  unfold pM at h2;rw[if_pos hi]at h2;rw[<-h2,List.length_take];omega
theorem adp {t:Bs} {o:Nat} {x:Tk} {o':Nat} (ho:o<=t.length) (h:mj t o= .ok (x,o')):zZ x+o<=o'/\1<=x.kind/\x.kind<=6:=by
 unfold mj at h;unfold zZ;split at h
 ·obtain⟨y,h1,rfl⟩:=iP h;have:=AW h1;simp only[List.length_cons,List.length_nil,iN]at this ⊢;exact⟨by omega,by decide,by decide⟩
 split at h
 ·obtain⟨y,h1,rfl⟩:=iP h;have:=AW h1;simp only[List.length_cons,List.length_nil,iN]at this ⊢;exact⟨by omega,by decide,by decide⟩
 split at h
 ·obtain⟨y,h1,rfl⟩:=iP h;have:=AW h1;simp only[List.length_cons,List.length_nil,iN]at this ⊢;exact⟨by omega,by decide,by decide⟩
 split at h
 ·unfold qv at h;split at h
  ·cases h
  rename_i nm o2 h2;have hn:=fQ h2;obtain⟨y,h1,rfl⟩:=iP h;have:=kV h1;simp only[List.length_cons,List.length_nil,iN]at this ⊢;exact⟨by omega,by decide,by decide⟩
 split at h
 ·unfold uW at h;split at h
  ·cases h
  rename_i nm o2 h2;have hn:=fQ h2;split at h
  ·cases h
  rename_i l o3 h3;have ha:=Se _ _ _ (by omega) h3;rw[iN]at ha;split at h
  all_goals
   obtain⟨y,h1,rfl⟩:=iP h;have:=kV h1;simp only[List.length_cons,List.length_nil]at this ⊢;exact⟨by omega,by decide,by decide⟩
 ·obtain⟨y,h1,rfl⟩:=iP h;have:=CF _ _ _ h1;simp only[List.length_nil,iN]at this ⊢;exact⟨by omega,by decide,by decide⟩
def lI (l:List Tk):Nat:=(l.map zZ).sum
theorem EF (l:List Tk) (x:Tk):lI (l++[x])=lI l+zZ x:=by simp[lI]
theorem Mk {t:Bs}:∀(n o:Nat) (l:List Tk) {l':List Tk},o<=t.length->lI l<=o->(∀x∈l,1<=x.kind/\x.kind<=6/\x.off<=t.length)->ir t n o l= .ok l'->lI l'<=t.length/\∀x∈l',1<=x.kind/\x.kind<=6/\x.off<=t.length
 | 0,o,l,l',ho,hl,hk,h=>by
   rw[ir]at h;injection h with h;subst h;exact⟨by omega,hk⟩
 | n+1,o,l,l',ho,hl,hk,h=>by
   rw[ir]at h;split at h
   ·injection h with h;subst h;exact⟨by omega,hk⟩
   rename_i dJ;split at h
   ·cases h
   rename_i x o' hx;have h1:=adp ho hx;have h2:=LV (by omega) hx;refine Mk n o' _ h2.2.2 ?_ (fun y hy=>?_) h
   ·rw[EF];omega
   ·rcases List.mem_append.1 hy with hy | hy
    ·exact hk y hy
    ·rw[List.mem_singleton]at hy;subst hy;exact⟨h1.2.1,h1.2.2,by omega⟩
theorem Sf {t:Bs} {l:List Tk} (h:tE t= .ok l):lI l<=t.length/\∀x∈l,1<=x.kind/\x.kind<=6/\x.off<=t.length:=
 Mk _ 0 [] (Nat.zero_le _) (Nat.zero_le _) (fun x hx=>by cases hx) h
theorem Qj (l:List Tk) (x:Tk) (p:PS):iS (l++[x]) p=match iS l p with
  | .error e=>.error e
  | .ok q=>match jP x q with
    | .error e=>.error (e,x.off)
    | .ok q=>.ok q:=by
 induction l generalizing p with
 | nil=>rfl
 | cons y l ih=>
   rw[List.cons_append,iS,iS];cases jP y p with
   | error e=>rfl
   | ok q=>exact ih q
theorem Qk {l m:List Tk} {p:PS} {e:Int×Nat} (h:iS l p= .error e):iS (l++m) p= .error e:=by
 induction l generalizing p with
 | nil=>cases h
 | cons y l ih=>
   rw[iS]at h;rw[List.cons_append,iS];split at h
   ·rename_i h1;injection h with h;subst h;rfl
   ·exact ih h
theorem aab:kC p0 0:=⟨by decide,by decide,(fun e=>by cases e),by simp[F4,p0,ED]⟩
def EG {α :Type} (F:Except (Int×Nat) α):Prop:=∀e,F= .error e->e.1≠0
theorem z7 {t:Bs} {stop:UInt8}:∀(n o:Nat) (acc:Bs),EG (eu t stop n o acc)
 | 0,o,acc=>fun e h=>by unfold eu at h;cases h
 | n+1,o,acc=>fun e h=>by
   unfold eu at h;split at h
   ·cases h
   split at h
   ·cases h
   split at h
   ·split at h
    ·rename_i h5;injection h with h;subst h;exact h5
    ·exact z7 n _ _ e h
   split at h
   ·injection h with h;subst h;simp
   ·exact z7 n _ _ e h
theorem AX (t:Bs) (o:Nat) {k:Int} (hk:k≠0):EG (iO t o k):=fun e h=>by
 unfold iO at h;split at h
 ·injection h with h;subst h;simp
 split at h
 ·injection h with h;subst h;exact hk
 ·cases h
theorem wq (t:Bs) (o:Nat) (p:Bs):EG (iq t o p):=fun e h=>by
 unfold iq at h;split at h
 ·injection h with h;subst h;simp
 split at h
 ·cases h
 ·injection h with h;subst h;simp
theorem aac (t:Bs) (o:Nat):EG (tA t o):=fun e h=>by
 unfold tA at h;split at h
 ·injection h with h;subst h;simp
 split at h
 ·injection h with h;subst h;simp
 split at h
 ·rename_i h2;injection h with h;subst h;exact z7 _ _ _ _ h2
 split at h
 ·injection h with h;subst h;simp
 ·cases h
theorem Ml {t:Bs}:∀(n o:Nat) (l:List (Bs×Bs)),EG (k_ t n o l)
 | 0,o,l=>fun e h=>by rw[k_]at h;cases h
 | n+1,o,l=>fun e h=>by
   rw[k_]at h;split at h
   ·cases h
   split at h
   ·rename_i h2;injection h with h;subst h;exact AX _ _ (by decide) _ h2
   split at h
   ·injection h with h;subst h;simp
   split at h
   ·rename_i h2;injection h with h;subst h;exact wq _ _ _ _ h2
   split at h
   ·rename_i h2;injection h with h;subst h;exact aac _ _ _ h2
   ·exact Ml n _ _ e h
theorem x_ (t:Bs) (o:Nat) (q:Bs):EG (iF t o q):=fun e h=>by
 unfold iF at h;split at h
 ·injection h with h;subst h;simp
 split at h
 ·injection h with h;subst h;simp
 ·cases h
theorem pS {α β :Type} {f: α -> β} {F:Except (Int×Nat) (α ×Nat)} (hF:EG F):EG (tB f F):=fun e h=>hF e (mn h)
theorem aad (t:Bs) (o:Nat):EG (mj t o):=fun e h=>by
 unfold mj at h;split at h
 ·exact pS (x_ _ _ _) e h
 split at h
 ·exact pS (x_ _ _ _) e h
 split at h
 ·exact pS (x_ _ _ _) e h
 split at h
 ·unfold qv at h;split at h
  ·rename_i h2;injection h with h;subst h;exact AX _ _ (by decide) _ h2
  ·exact pS (wq _ _ _) e h
 split at h
 ·unfold uW at h;split at h
  ·rename_i h2;injection h with h;subst h;exact AX _ _ (by decide) _ h2
  split at h
  ·rename_i h2;injection h with h;subst h;exact Ml _ _ _ _ h2
  split at h
  ·exact pS (wq _ _ _) e h
  ·exact pS (wq _ _ _) e h
 ·exact pS (z7 _ _ _) e h
theorem Hv {t:Bs}:∀(n o:Nat) (l:List Tk),EG (ir t n o l)
 | 0,o,l=>fun e h=>by rw[ir]at h;cases h
 | n+1,o,l=>fun e h=>by
   rw[ir]at h;split at h
   ·cases h
   split at h
   ·rename_i h2;injection h with h;subst h;exact aad _ _ _ h2
   ·exact Hv n _ _ e h
theorem aae (t:Bs):EG (tE t):=Hv _ _ _
theorem EH {t:Bs}:∀(n o:Nat) (l:List Tk) {l':List Tk},ir t n o l= .ok l'->l'.length<=l.length+n
 | 0,o,l,l',h=>by rw[ir]at h;injection h with h;subst h;omega
 | n+1,o,l,l',h=>by
   rw[ir]at h;split at h
   ·injection h with h;subst h;omega
   split at h
   ·cases h
   ·have:=EH n _ _ h;rw[List.length_append]at this;simp only[List.length_cons,List.length_nil]at this;omega
theorem VP {t:Bs} {l:List Tk} (h:tE t= .ok l):l.length<=t.length+1:=by
 have:=EH _ _ _ h;simpa using this
theorem Ql (l:List Tk) (i:Nat):lI (l.take i)<=lI l:=by
 have:lI l=lI (l.take i)+lI (l.drop i):=by
  unfold lI;rw[<-List.sum_append, <-List.map_append,List.take_append_drop]
 omega
theorem VS (t:Bs) (x:Tk):oN t x.off= .agg [mi x.off,mi (lS t x.off),mi (Et t x.off)]:=by
 unfold oN lS Et;rw[Int.natCast_add];rfl
def zNd:MV:=.agg [.str [],.sl 0 [] .nil,.sl 0 [] .nil,.str []]
theorem Hw {O:VH} {B k:Nat} (hk:k<O.next):∀{R:List Rec},ow O B k R->∀r∈R,r.b<O.next
 | [],_,r,h=>by simp at h
 | [x],h,r,hr=>by rw[List.mem_singleton.1 hr,h.1];exact hk
 | x::p::rest,h,r,hr=>by
   obtain⟨⟨c,_,_,h1⟩,_,_,h2⟩:=h;rcases List.mem_cons.1 hr with rfl | hr
   ·exact h1.hi
   ·exact Hw hk h2 r hr
theorem aaf {O:VH} {B k bP:Nat} {R:List Rec} {tk:Tok} {dn tx:Bool} {z:List MV} (h:BS O B k R tk bP dn tx z):∀x∈dk k R tk,x<O.next:=by
 have hk:k<O.next:=Nat.lt_of_lt_of_le h.c.lt h.c.le;intro x hx;simp only[dk,List.mem_cons,List.mem_append,List.mem_map,Option.mem_toList]at hx;rcases hx with rfl | ((⟨r,hr,rfl⟩ | hx) | hx)
 ·exact hk
 ·exact Hw hk h.c.chain r hr
 ·obtain⟨r,hr,hq⟩:=Option.bind_eq_some_iff.1 hx;have ht:=h.c.top
  match R,hr,ht with
  | y::R,hr,ht=>
    simp only[List.head?_cons,Option.some.injEq]at hr;subst hr;rcases ht.1 with⟨_,_,e | e⟩ | ⟨j,c,e,_,_,hw⟩
    ·rw[e]at hq;cases hq
    ·rw[e]at hq;cases hq
    ·rw[e]at hq;injection hq with hq;subst hq;exact hw.hi
 ·exact(App.qe h.a hx).2
theorem aag (t:Bs) (O:VH) (ht:t.length<=65536):VF Tryz.prog 224 [.str t] O (aI fun m O'=>O.Ge O'/\match gD t with
  | .ok n=>m= .tuple [.agg (cY n),mi 0,.agg [mi 0,mi 0,mi 0]]
  | .error e=>m= .tuple [zNd,mi e.1,oN t e.2]):=by
 have jU:=agE t;have nh:∀e,tE t= .error e->gD t= .error e:=fun e h=>by unfold gD;rw[h]
 have AV:∀l,tE t= .ok l->gD t=(match iS l p0 with
  | .error e=>.error e
  | .ok p=>if p.st≠[]then .error (13,t.length)else if p.dn then .ok p.z else .error (16,t.length)):=fun l h=>by unfold gD;rw[h];try rfl
 have hW:= @Sf t;have hLn:= @VP t;have hNE:=aae t;generalize tE t=F at*;generalize gD t=G at*;refine VF.bU 68 [.cell 2 112,.tmp 3,.cell 4 69] Tryz.func224 ?_;refine VC.ag aa (ae @aB ?_);refine VC.gen ?_;intro O1 rK;obtain⟨aU,du,B4,qh⟩:=gh _ _ rK;clear rK;refine VC.ag aa (ae @aB ?_);refine ah.rt (jU O1 ht) ?_;rintro m O2 ⟨ay,hm⟩;have r6:=ay.at B4;have zK:=ay.at qh;have fZ:=aU.trans ay;have jk:=ay.next;cases F with
 | error e=>
   dsimp only at hm;subst hm;rw[nh e rfl];unfold oN;simp only[au];refine ae @aB ?_;refine VC.al ?_;rintro O3 ⟨aO,kQ,gZ⟩;have Fo:=aO.at r6;have ov:=aO.at zK;have eo:=fZ.trans aO;have he0:e.1≠0:=hNE e rfl;refine VC.ag aa (ao @aB @he0 ?_);refine VC.pe [] (O2.next) (kQ) ?_;intro X;have H6:(O3.set O2.next (.obj X)).hp O.next=_:=VH.sn Fo;have I3:(O3.set O2.next (.obj X)).hp (O.next+1)=_:=VH.sn ov;have pP:(O3.set O2.next (.obj X)).hp O2.next=some (.obj X):=VH.an _ _ _;have gE:O.Ge (O3.set O2.next (.obj X)):=eo.set (by omega) _;generalize O3.set O2.next (.obj X)=O4 at*;refine ab.av 0 ?_;refine ae @aB ?_;refine ab.av 1 ?_;refine ae @aB ?_;refine ab.sk (m:=.agg [.v (.int .i64 e.2),.v (.int .i64 (1+((t.take e.2).count 10:Nat))),.v (.int .i64 ((e.2:Int) - ft (t.take e.2) 10 (t.take e.2).length))]) 2 ?_ ?_
   ·exact fe @aB
   simp only[aj];refine ab.op (i:=3) ?_;refine ao @aB @H6 ?_;refine⟨pP,?_⟩;refine ab.av 4 ?_;refine ae @aB ?_;refine ab.op (i:=5) ?_;refine ao @aB @I3 ?_;refine⟨pP,?_⟩;refine ab.mO [] ?_;refine ae @aB ?_;exact⟨((gE.set (Nat.le_refl _) _).set (Nat.le_succ _) _).set (by omega:O.next<=O2.next) _,rfl⟩
 | ok l=>
   obtain⟨pl,rfl,cC⟩:=hm;obtain⟨hWl,adq⟩:=hW rfl;have hG:=AV l rfl;clear nh AV;refine ao @aB @au ?_;refine VC.al ?_;rintro O3 ⟨aO,kQ,gZ⟩;have Fo:=aO.at r6;have ov:=aO.at zK;have eo:=fZ.trans aO;refine VC.ag aa (ae @aB ?_);refine VC.ag aa (ae @aB ?_);refine VC.bx ?_;rintro O4 ⟨bh,kU,g_⟩;refine VC.U9 (k:=O3.next) (ds:=cY PK++oQ [] .nil 0 false false) kU (ew.cons (Wk.refl _) (ew.cons Wk.tok (ew.cons Wk.tok (ew.refl _)))) ?_;refine VC.gen ?_;intro O5 lT;have gd:O5.hp O3.next=some (.cells (cY PK++oQ [] .nil 0 false false)):=by rw[lT];exact VH.an _ _ _
   have gu:O5.next=O3.next+1:=by rw[lT];exact g_
   have h5:∀i,i<O3.next->O5.hp i=O3.hp i:=fun i hi=>by rw[lT];exact VH.sn (bh.hp i hi)
   have np:O.Ge O5:=by rw[lT];exact(eo.trans bh).set (by omega) _
   clear lT;have hz5:=(h5 _ (by omega)).trans Fo;have LG:=(h5 _ (by omega)).trans ov;generalize hk:O3.next=k at*;have hBP:BP O5 (k+1) k [k] p0:=⟨[],.nil,⟨⟨Nat.lt_succ_self _,by omega,gd,rfl,trivial,trivial⟩,trivial⟩,rfl,fun x hx=>hx⟩
   have hlen:kZ (fL Tryz.prog) 155 pl=some (.v (.int .i64 l.length)):=by
    rcases cC with⟨h0,_,rfl | rfl⟩ | ⟨k,c,rfl,_⟩
    ·rw[h0];exact lB DL
    ·rw[h0];exact lB DL
    ·exact GK DL
   rw[uI,DL]at hlen;have yX:l.length<=1000000:=by have:=hLn rfl;omega
   refine VC.bE [0,2,4,8] (fun _:PS=>[.str t,.ptr O.next 0,.ptr (O.next+1) 0,.ptr k 0]) (fun p O'=>iS l p0= .ok p/\kC p (lI l)/\Kp O5 O' [k]/\∃U,BP O' (k+1) k U p) ?_ ?_;rotate_left
   ·rintro p O6 ⟨bW,b_,hkp,U,Qi⟩;rw[bW]at hG;dsimp only at hG;have hO6:∀j,j<k->O6.hp j=O5.hp j:=fun j hj=>hkp.2 j (by omega) (by simp;omega)
    have hz6:=(hO6 _ (by omega)).trans hz5;have hp6:=(hO6 _ (by omega)).trans LG;have ny:=hkp.1;have Sg:O.Ge O6:=⟨by omega,fun j hj=>(hO6 j (by omega)).trans (np.hp j hj)⟩;obtain⟨R,tk,hb,hR,hUo⟩:=Qi;have oL:=hb.c.cells;refine VC.ag aa (ae @aB ?_);refine ah.rt (aeJ t t.length _ (by omega) (Nat.le_refl _)) ?_;rintro _ O7 ⟨rfl,en⟩;have tO:=(en.hp k (by omega)).trans oL;have hz7:=en.at hz6;have hp7:=en.at hp6;have BO:=Sg.trans en;have sw:=en.next;have Sh:oN t t.length= .agg [mi t.length,mi (1+((t.take t.length).count 10:Nat)),mi ((t.length:Int) - ft (t.take t.length) 10 (t.take t.length).length)]:=rfl;simp only[au]at Sh;generalize (1+((t.take t.length).count 10:Nat):Int)=y1 at*;generalize ((t.length:Int) - ft (t.take t.length) 10 (t.take t.length).length)=y2 at*;rw[Sh];refine ae @aB ?_;refine VC.al ?_;rintro O8 ⟨gq,VT,DU⟩;have sN:=(gq.hp k (by omega)).trans tO;have hz8:=gq.at hz7;have z8:=gq.at hp7;have Mm:=BO.trans gq;obtain⟨b0,b1,b2,b3,kB⟩:=qx (ez R (cY p.z) hb.c.zl);unfold oQ at sN;rw[kB]at sN;simp only[au,aY,List.cons_append,List.nil_append]at sN;cases R with
    | cons r R=>
      have cP:p.st≠[]:=by rw[<-hR];simp[qR]
      rw[if_pos cP]at hG;subst hG;dsimp only;rw[Sh]
      have hRl:R.length<=64:=by
       have:=b_.len;rw[<-hR]at this;unfold qR at this;rw[List.length_map,List.length_cons]at this;omega
      simp only[List.length_cons]at sN;refine VC.ag aa (ao @aB @sN ?_);refine VC.pe [] (O7.next) (VT) ?_;intro X;have H6:((O8).set (O7.next) (.obj X)).hp O.next=_:=VH.sn hz8;have I3:((O8).set (O7.next) (.obj X)).hp (O.next+1)=_:=VH.sn z8;have pP:((O8).set (O7.next) (.obj X)).hp (O7.next)=some (.obj X):=VH.an _ _ _;have gE:O.Ge ((O8).set (O7.next) (.obj X)):=Mm.set (by omega) _;generalize (O8).set (O7.next) (.obj X)=Ox at*;refine ab.av 0 ?_;refine ae @aB ?_;refine ab.sk (m:=.agg [.v (.int .i64 t.length),.v (.int .i64 y1),.v (.int .i64 y2)]) 1 ?_ ?_
      ·exact fe @aB
      simp only[aj];refine ab.op (i:=2) ?_;refine ao @aB @H6 ?_;refine⟨pP,?_⟩;refine ab.av 3 ?_;refine ae @aB ?_;refine ab.op (i:=4) ?_;refine ao @aB @I3 ?_;refine⟨pP,?_⟩;refine ab.mO [] ?_;refine ae @aB ?_;exact⟨((gE.set (Nat.le_refl _) _).set (Nat.le_succ _) _).set (by omega:O.next<=O7.next) _,rfl⟩
    | nil=>
      have cP:p.st=[]:=hR.symm;rw[if_neg (by rw[cP];simp)]at hG;simp only[List.length_nil]at sN;cases Fv:p.dn with
      | false=>
        rw[Fv]at hG sN;rw[if_neg (by simp)]at hG;subst hG;dsimp only;rw[Sh];refine VC.ag aa (ao @aB @sN ?_);refine VC.pe [] (O7.next) (VT) ?_;intro X;have H6:((O8).set (O7.next) (.obj X)).hp O.next=_:=VH.sn hz8;have I3:((O8).set (O7.next) (.obj X)).hp (O.next+1)=_:=VH.sn z8;have pP:((O8).set (O7.next) (.obj X)).hp (O7.next)=some (.obj X):=VH.an _ _ _;have gE:O.Ge ((O8).set (O7.next) (.obj X)):=Mm.set (by omega) _;generalize (O8).set (O7.next) (.obj X)=Ox at*;refine ab.av 0 ?_;refine ae @aB ?_;refine ab.sk (m:=.agg [.v (.int .i64 t.length),.v (.int .i64 y1),.v (.int .i64 y2)]) 1 ?_ ?_
        ·exact fe @aB
        simp only[aj];refine ab.op (i:=2) ?_;refine ao @aB @H6 ?_;refine⟨pP,?_⟩;refine ab.av 3 ?_;refine ae @aB ?_;refine ab.op (i:=4) ?_;refine ao @aB @I3 ?_;refine⟨pP,?_⟩;refine ab.mO [] ?_;refine ae @aB ?_;exact⟨((gE.set (Nat.le_refl _) _).set (Nat.le_succ _) _).set (by omega:O.next<=O7.next) _,rfl⟩
      | true=>
        rw[Fv]at hG sN;rw[if_pos rfl]at hG;subst hG;dsimp only;have kB:cY p.z=[b0,b1,b2,b3]:=kB;refine VC.ag aa (ao @aB @sN ?_);generalize p.z=pz at*;obtain⟨zn,za,cH,zt⟩:=pz;rw[cY]at kB;injection kB with e1 kB;injection kB with e2 kB;injection kB with e3 kB;injection kB with e4 kB
        subst e1;subst e2;subst e3;subst e4
        refine WC.sound aa (c8 @aB @sN @hz8 @z8 ?_);rw[cY];exact⟨(Mm.set (Nat.le_refl _) _).set (Nat.le_succ _) _,rfl⟩
   refine VC.ag aa (ao @aB @hlen ?_);refine VC.aD ?_;refine VC.bH [28] [0,2,4,8,26,27] (fun i:Nat=>[mi i]) (fun i O'=>i<=l.length/\Kp O5 O' [k]/\∃p U,iS (l.take i) p0= .ok p/\kC p (lI (l.take i))/\BP O' (k+1) k U p/\(∀x∈U,(x=k\/O5.next<=x)/\x<O'.next)) (fun i=>l.length - i) (0) ?_ ?_
   ·exact⟨Nat.zero_le _,Kp.refl,p0,[k],rfl,aab,hBP,fun x hx=>by rw[List.mem_singleton]at hx;subst hx;exact⟨.inl rfl,by omega⟩⟩
   rintro i O6 ⟨hi,Hy,p,U,bW,b_,Qi,hU⟩;dsimp only at hi ⊢;by_cases jx:i<l.length;rotate_left
   ·obtain rfl:i=l.length:=by omega
    rw[List.take_length]at bW b_;refine WC.sound aa (ao @aB @au ?_);exact aA.mk p ⟨bW,b_,Hy,U,Qi⟩
   obtain⟨kr,cr,rfl,j8⟩:∃kr cr,pl= .bk kr 0 l.length cr/\Row O2 153 7 O1.next kr cr (l.flatMap (tR t)):=by
    rcases cC with⟨h0,_⟩ | ⟨kr,cr,hp,_,_,h⟩
    ·omega
    ·exact⟨kr,cr,hp,h⟩
   obtain⟨sp,wR,Em⟩:=j8.cells;have aiL:=j8.hi;have aiM:O6.hp kr=some (.cells (l.flatMap (tR t)++sp)):=(Hy.2 kr (by omega) (by simp;omega)).trans ((h5 kr (by omega)).trans ((aO.hp kr aiL).trans wR));have jF:(l.flatMap (tR t)).length=l.length*7:=aQ (u7 t) l
   have bu:((l.flatMap (tR t)++sp).drop (i*7)).take 7=tR t l[i]:=by
    rw[List.drop_append_of_le_length (by omega),List.take_append_of_le_length (by rw[List.length_drop];omega)];exact cj (u7 t) l i jx
   have hCl:i*7+7<=(l.flatMap (tR t)++sp).length:=by rw[List.length_append];omega
   have eG:=cN l i jx
   have VU:iS (l.take (i+1)) p0=(match jP l[i] p with
     | .error e=>.error (e,l[i].off)
     | .ok q=>.ok q):=by rw[eG,Qj,bW];try rfl
   have hws:lI (l.take (i+1))=lI (l.take i)+zZ l[i]:=by rw[eG,EF]
   have oM:=Ql l (i+1);have uf:=adq l[i] (List.getElem_mem jx)
   have agK:∀e,iS (l.take (i+1)) p0= .error e->G= .error e:=fun e h=>by
    have:=Qk (m:=l.drop (i+1)) h;rw[List.take_append_drop]at this;rw[this]at hG;exact hG
   have dF:=VS t l[i];clear bW eG;have aiN:tR t l[i]=[mi l[i].kind,.str l[i].name,.sl l[i].attrs.length (l[i].attrs.flatMap aZ) .aq,.str l[i].text,mi l[i].off,mi (lS t l[i].off),mi (Et t l[i].off)]:=rfl;generalize hxg:l[i]=x at*;generalize l.flatMap (tR t)++sp=C at*;refine VC.ag aa (ao @aB @au ?_);refine VC.ag aa (ae @aB ?_);refine VC.bA (VC.aD ?_);rw[aiN]at bu;simp only[au]at bu;refine VC.ag aa (aM @aB @aiM @bu ?_);refine VC.al ?_;rintro O7 ⟨en,Qm,sw⟩;refine VC.ag aa (ao @aB @Qm ?_);refine ah.rt (VN (Qi.ge en) b_ (fun y hy=>by have:=(hU y hy).2;omega) t x (by omega) ⟨uf.1,uf.2.1⟩) ?_;rintro m O8 ⟨IS,hm⟩;have VT:=(IS.2 _ (by omega) (fun hm=>by have:=(hU _ hm).2;omega)).trans Qm;have akj:k<O5.next:=by omega
   have VV:∀j,j<k->O8.hp j=O5.hp j:=fun j hj=>by
    have hjU:j ∉ U:=fun hm=>by have:=(hU _ hm).1;omega
    have h65:=Hy.1;rw[IS.2 j (by omega) hjU,en.hp j (by omega),Hy.2 j (by omega) (by simp;omega)]
   have hz8:=(VV _ (by omega)).trans hz5;have z8:=(VV _ (by omega)).trans LG;have DU:=IS.1;have h65:=Hy.1;have Mm:O.Ge O8:=⟨by omega,fun j hj=>(VV j (by omega)).trans (np.hp j hj)⟩;cases cP:jP x p with
   | error e=>
     rw[cP]at hm VU;dsimp only at hm VU;subst hm;have hGe:=agK _ VU;subst hGe;dsimp only;rw[dF];simp only[au];have he:e≠0:=by rcases Qh cP with rfl | rfl | rfl<;>decide
     refine ae @aB ?_;refine VC.ag aa (ao @aB @he ?_);refine WC.sound aa (ae @aB ?_);refine VC.pe [] (O6.next) (VT) ?_;intro X;have H6:((O8).set (O6.next) (.obj X)).hp O.next=_:=VH.sn hz8;have I3:((O8).set (O6.next) (.obj X)).hp (O.next+1)=_:=VH.sn z8;have pP:((O8).set (O6.next) (.obj X)).hp (O6.next)=some (.obj X):=VH.an _ _ _;have gE:O.Ge ((O8).set (O6.next) (.obj X)):=Mm.set (by omega) _;generalize (O8).set (O6.next) (.obj X)=Ox at*;refine ab.av 0 ?_;refine ae @aB ?_;refine ab.av 1 ?_;refine ae @aB ?_;refine ab.av 2 ?_;refine ae @aB ?_;refine ab.sk (m:=.agg [.v (.int .i64 x.off),.v (.int .i64 (lS t x.off:Nat)),.v (.int .i64 (Et t x.off))]) 3 ?_ ?_
     ·exact fe @aB
     simp only[aj];refine ab.op (i:=4) ?_;refine ao @aB @H6 ?_;refine⟨pP,?_⟩;refine ab.av 5 ?_;refine ae @aB ?_;refine ab.op (i:=6) ?_;refine ao @aB @I3 ?_;refine⟨pP,?_⟩;refine ab.mO [] ?_;refine ae @aB ?_;exact⟨((gE.set (Nat.le_refl _) _).set (Nat.le_succ _) _).set (by omega:O.next<=O6.next) _,rfl⟩
   | ok q=>
     rw[cP]at hm VU;dsimp only at VU;obtain⟨rfl,U2,hU2,hq⟩:=hm;obtain⟨R2,tk2,b9,aiO,Zh⟩:=hq;have z_:BP O8 (k+1) k (dk k R2 tk2) q:=⟨R2,tk2,b9,aiO,fun _ h=>h⟩;have Qn:((i:Int)+1)=((i+1:Nat):Int):=by omega
     refine ao @aB @au ?_;refine WC.sound aa (ao @aB @Qn ?_);refine WC.sound aa (ao @aB @Qn ?_);refine aC.next (i+1) ⟨by omega,?_,q,dk k R2 tk2,VU,?_,z_,fun y hy=>?_⟩
     ·refine(Hy.more (Kp.ge en (S:=[])) (fun y hy=>by cases hy)).more IS fun y hy=>?_
      rcases(hU y hy).1 with e | e
      ·exact .inl (by simp[e])
      ·exact .inr e
     ·rw[hws];exact Hu b_ cP
     ·refine⟨?_,aaf b9 y hy⟩;rcases hU2 y (Zh y hy)with e | e
      ·exact(hU y e).1
      ·exact .inr (by omega)
set_option linter.defProp false in
def gm:=And.intro jE<|And.intro DK<|And.intro Lc zm
theorem jo {α :Type} {f: α ->List MV} {k:Nat} (hf:∀x,(f x).length=k) {L:List α} {sp:List MV} {j i:Nat} {x: α} {m:MV} (hj:L[j]?=some x) (hi:(f x)[i]?=some m):(L.flatMap f++sp)[j*k+i]?=some m:=by
 induction L generalizing j with
 | nil=>simp at hj
 | cons y L ih=>
   rw[List.flatMap_cons,List.append_assoc];cases j with
   | zero=>
     simp only[List.getElem?_cons_zero,Option.some.injEq]at hj;subst hj;have:=(List.getElem?_eq_some_iff.1 hi).1;rw[Nat.zero_mul,Nat.zero_add,List.getElem?_append_left this];exact hi
   | succ j=>
     simp only[List.getElem?_cons_succ]at hj;have e:(j+1)*k+i=(f y).length+(j*k+i):=by rw[hf,Nat.succ_mul];omega
     rw[e,List.getElem?_append_right (by omega),show(f y).length+(j*k+i) - (f y).length=j*k+i by omega];exact ih hj
theorem wv {L:List MV} {i:Nat} {m:MV} (h:L[i]?=some m):L.set i m=L:=by
 refine List.ext_getElem? fun j=>?_
 by_cases e:i=j
 ·subst e;rw[List.getElem?_set_self (List.getElem?_eq_some_iff.1 h).1,h]
 ·rw[List.getElem?_set_ne e]
theorem Mn (L:List Dp) (tk:Tok) (O:VH) (hn:L.length<=10000) (hx:∀d∈L,d.x.length<=10000):VF Tryz.prog 226 [.sl L.length (L.flatMap aP) tk] O (aI fun m O'=>∃t,m= .sl L.length (L.flatMap aP) t/\O.Ge O'):=by
 have dF:=aQ fN L;refine VF.bU 24 [.tmp 2] Tryz.func226 ?_;refine VC.ag aa (ae @gm ?_);refine VC.ag aa (ae @gm ?_);refine ah.rt (Ev L tk O (by omega)) ?_;rintro _ O2 ⟨ay,wQ⟩;rcases wQ with⟨h0,_,hp⟩ | ⟨k,c,rfl,yW,_,cC⟩
 ·obtain rfl:L=[]:=List.eq_nil_of_length_eq_zero h0;rcases hp with rfl | rfl
  ·refine ae @gm ?_;refine VC.bE [3] (fun _:Unit=>[.sl 0 [] .nil]) (fun _ O'=>O'=O2) ?_ ?_
   ·refine VC.ag aa (ae @gm ?_);refine VC.aD ?_;refine VC.bH [9] [3,8] (fun j:Nat=>[mi 0]) (fun j O'=>O'=O2) (fun j=>0) (0) ?_ ?_
    ·rfl
    rintro j O3 eO;rw[eO];clear eO O3
    refine WC.sound aa (ae @gm ?_);exact aA.mk () rfl
   intro _ O9 eO;rw[eO];clear eO O9
   refine WC.sound aa (ae @gm ?_);exact⟨_,rfl,ay⟩
  ·refine ae @gm ?_;refine VC.bE [3] (fun _:Unit=>[.sl 0 [] .full]) (fun _ O'=>O'=O2) ?_ ?_
   ·refine VC.ag aa (ae @gm ?_);refine VC.aD ?_;refine VC.bH [9] [3,8] (fun j:Nat=>[mi 0]) (fun j O'=>O'=O2) (fun j=>0) (0) ?_ ?_
    ·rfl
    rintro j O3 eO;rw[eO];clear eO O3
    refine WC.sound aa (ae @gm ?_);exact aA.mk () rfl
   intro _ O9 eO;rw[eO];clear eO O9
   refine WC.sound aa (ae @gm ?_);exact⟨_,rfl,ay⟩
 obtain⟨sp,hc,kG⟩:=cC.cells;have kP:=cC.lo;have P7:=cC.hi;refine ae @gm ?_;refine VC.bE [3] (fun _:Unit=>[.bk k 0 L.length c]) (fun _ O'=>O2.Ge O') ?_ ?_
 ·refine VC.ag aa (ae @gm ?_);refine VC.aD ?_;refine VC.bH [9] [3,8] (fun j:Nat=>[mi j]) (fun j O'=>O2.Ge O'/\j<=L.length) (fun j=>L.length - j) (0) ?_ ?_
  ·exact⟨VH.Ge.refl _,Nat.zero_le _⟩
  rintro j O3 ⟨aO,hj⟩;by_cases bd:j<L.length;rotate_left
  ·obtain rfl:j=L.length:=by omega
   refine WC.sound aa (ae @gm ?_);exact aA.mk () aO
  have eJ:=(aO.hp k P7).trans hc;have bu:(L.flatMap aP++sp)[j*8+7]?=some (.sl L[j].x.length (L[j].x.flatMap bO) .aq):=jo fN (List.getElem?_eq_getElem bd) rfl;have hxj:=hx L[j] (List.getElem_mem bd);generalize L[j].x=X at*;generalize L.flatMap aP++sp=C at*;have mq:=wv bu;have IS:=(List.getElem?_eq_some_iff.1 bu).1;have dU:((j:Int)+1)=((j+1:Nat):Int):=by omega
  refine VC.ag aa (ae @gm ?_);refine VC.ag aa (ae @gm ?_);refine VC.bA (VC.aD ?_);refine VC.ag aa (ae @gm ?_);refine WC.sound aa (aM @gm @eJ @bu ?_);refine ah.rt (sI X .aq O3 (by omega)) ?_;rintro _ O4 ⟨rfl,bh⟩;have eX:=(bh.hp k (by have:=aO.next;omega)).trans eJ;refine c8 @gm @eX @bu @mq ?_;rw[VH.vJ eX];refine WC.sound aa (ao @gm @dU ?_);exact aC.next (j+1) ⟨aO.trans bh,bd⟩
 intro _ O9 bg;have I4:=(bg.hp k P7).trans hc;refine VC.freeze 3 (sz:=L.length*8) rfl I4 (by rw[List.length_append,dF];omega) ?_;have eG:((L.flatMap aP++sp).drop 0).take (L.length*8)=L.flatMap aP:=by rw[List.drop_zero,List.take_append_of_le_length (by rw[dF];exact Nat.le_refl _), <-dF,List.take_length]
 rw[eG];have rN:=ay.trans bg;have jD:O.Ge (O9.kill k):=⟨rN.next,fun i hi=>(VH.kh _ (by omega)).trans (rN.hp i hi)⟩;refine WC.sound aa (ae @gm ?_);exact⟨_,rfl,jD⟩
theorem EI (L:List Dp) (tk:Tok) (O:VH) (hn:L.length<=10000) (hx:∀d∈L,d.x.length<=10000):VF Tryz.prog 226 [.sl L.length (L.flatMap aP) tk] O (aI fun m O'=>m= .sl L.length (L.flatMap aP) .aq/\O.Ge O'):=
 VF.Vy (Mn L tk O hn hx) fun m O' ⟨t,h1,h3⟩=>⟨_,h1▸Wk.tok,rfl,h3⟩
def aah (p:Pm):Prop:=p.props.length<=10000/\p.dY.length<=10000/\p.dQ.length<=10000/\(∀d∈p.dY,d.x.length<=10000)/\∀d∈p.dQ,d.x.length<=10000
theorem agL (p:Pm) (O:VH) (hp:aah p):VF Tryz.prog 201 [.agg (fO p)] O (aI fun m O'=>m= .agg (fO p)/\O.Ge O'):=by
 obtain⟨b,⟨pg,pa,pv⟩,g,a,v,pk,P,M,D⟩:=p;obtain⟨h1,h2,h3,h4,h5⟩:=hp;dsimp only at h1 h2 h3 h4 h5;simp only[fO];refine VF.bU 16 [.cell 2 106] Tryz.func201 ?_;refine VC.ag aa (ae @gm ?_);refine VC.gen ?_;rintro O1 rK;obtain⟨aU,du,cV,cy⟩:=gh _ _ rK;clear rK;refine VC.ag aa (ao @gm @cV ?_);refine ah.rt (Eu P .aq O1 (by omega)) ?_;rintro _ O2 ⟨rfl,ay⟩;have jn:=ay.at cV;have b9:=ay.at cy;have jk:=ay.next;refine ao @gm @jn ?_;have hs:(([mb b,.str pg,.str pa,.str pv,.str g,.str a,.str v,.str pk,.sl P.length (P.flatMap aZ) .aq,.sl M.length (M.flatMap aP) .aq,.sl D.length (D.flatMap aP) .aq]:List MV)).set 8 (.sl P.length (P.flatMap aZ) .aq)=[mb b,.str pg,.str pa,.str pv,.str g,.str a,.str v,.str pk,.sl P.length (P.flatMap aZ) .aq,.sl M.length (M.flatMap aP) .aq,.sl D.length (D.flatMap aP) .aq]:=rfl;rw[VH.vJ jn];refine VC.bA ?_;refine VC.pe [7,8,9] (O.next) (jn) ?_;intro X;refine ab.av 0 ?_;refine ae @gm ?_;refine ab.sk (m:=.sl M.length (M.flatMap aP) .aq) 1 ?_ ?_
 ·exact fe @gm
 simp only[aj];refine ab.av 3 ?_;refine ae @gm ?_;refine ab.sk (m:=.sl D.length (D.flatMap aP) .aq) 4 ?_ ?_
 ·exact fe @gm
 simp only[aj];have hX:=VH.an O2 O.next (.obj X);have gZ:(O2.set O.next (.obj X)).next=O2.next:=rfl;have hbX:=(VH.ak O2 (.obj X) (by omega:O.next+1≠O.next)).trans b9;have I5:O.Ge (O2.set O.next (.obj X)):=(aU.trans ay).set (Nat.le_refl _) _;generalize O2.set O.next (.obj X)=O3 at*;refine ab.call (i:=2) (EI M .aq O3 h2 h4) ?_;rintro _ O4 ⟨rfl,bh⟩;simp only[aj];refine⟨bh.at hX,?_⟩;refine ab.av 6 ?_;refine ae @gm ?_;refine ab.call (i:=5) (EI D .aq O4 h3 h5) ?_;rintro _ O5 ⟨rfl,bK⟩;simp only[aj];have DT:=bh.trans bK;refine⟨DT.at hX,?_⟩;have cR:=DT.at hbX;have np:=I5.trans DT;refine ab.mO [(7,.one),(8,.av),(9,.one)] ?_;refine ae @gm ?_;refine WC.sound aa (ao @gm @cR ?_);exact(((np.set (Nat.le_refl _) _).set (Nat.le_refl _) _).set (Nat.le_refl _) _).set (Nat.le_succ _) _
set_option linter.defProp false in
def rO:=And.intro gm<|And.intro BV<|And.intro T71<|And.intro T69 aeo
theorem Mo:∀{l:List Tk} {p q:PS} {L:Nat},kC p L->iS l p= .ok q->kC q (L+lI l)
 | [],p,q,L,h,e=>by
   rw[iS]at e;injection e with e;subst e;simpa[lI]using h
 | x::l,p,q,L,h,e=>by
   rw[iS]at e;split at e
   ·cases e
   ·rename_i p' hp';have h2:=Mo (Hu h hp') e;have:lI (x::l)=zZ x+lI l:=by simp[lI]
    rw[this, <-Nat.add_assoc];exact h2
theorem VW {t:Bs} {n:Nd} (ht:t.length<=65536) (h:gD t= .ok n):j7 n<=1000000:=by
 unfold gD at h;split at h
 ·cases h
 ·rename_i l hl;have hw:=(Sf hl).1;split at h
  ·cases h
  ·rename_i p hp;have hk:=Mo aab hp;have h1:=hk.wt;have h2:=hk.bP;split at h
   ·cases h
   ·split at h
    ·rename_i hd;injection h with h;subst h;unfold F4 at h1;rw[if_pos hd]at h1;omega
    ·cases h
structure Prb where
 e:Int
 g:Gv
 p1:Int
 p2:Int
 p3:Int
 w:Bs
 deriving DecidableEq
def oS (x:Prb):List MV:=[mi x.e,.str x.g.g,.str x.g.a,.str x.g.v,mi x.p1,mi x.p2,mi x.p3,.str x.w]
def iw:Prb:=⟨0,⟨[],[],[]⟩,0,0,0,[]⟩
def iz (t:Bs) (u:Int) (s:Int) (p:Pm) (x:Prb):List MV:=[.str t,.v (.int .u32 u),.v (.int .i32 s),.v (.int .u32 0)]++fO p++oS x
theorem adr {O:VH} {q:Nat} {t:Bs} {u s:Int} {n:Nd} {p:Pm} (g:Gv) (hq:O.hp q=some (.cells (iz t u s zT iw))) (pB:q<O.next) (ht:t.length<=65536) (hb:gD t= .ok n) (hr:ou n= .ok p):
  VF Tryz.prog 200 [.ptr q 0,.agg (bL g)] O (aI fun m O'=>O'.hp q=some (.cells (iz t u s p iw))/\bj O (some q) O'):=by
 have AY:=fun O'=>aag t O' ht
 have zQ:=fun O'=>adk n O' (VW ht hb)
 rw[hb]at AY;rw[hr]at zQ;dsimp only at AY zQ;obtain⟨g1,g2,g3⟩:=g;obtain⟨nn,na,nk,nt⟩:=n;obtain⟨b,⟨pg,pa,pv⟩,pG,pA,pV,pk,P,M,DD⟩:=p;simp only[cY]at AY zQ;simp only[iz,fO,zT,oS,iw,au,aY,List.cons_append,List.nil_append,List.length_nil,List.flatMap_nil]at hq zQ ⊢;unfold bL;refine VF.bU 46 [] Tryz.func200 ?_;refine VC.ag aa (ae @rO ?_);refine VC.bx ?_;rintro O1 ⟨aU,dL,du⟩;have hq1:=(aU.hp _ pB).trans hq;refine VC.ag aa (ao @rO @hq1 ?_);refine ah.rt (AY O1) ?_;rintro _ O2 ⟨ay,rfl⟩;have z_:=ay.at hq1;have jk:=ay.next;refine ae @rO ?_;refine VC.gen ?_;intro O3 F2;have aO:O2.Ge O3:=by rw[F2];exact((((VH.Ge.refl O2).push _).push _).set (Nat.le_refl _) _).set (Nat.le_succ _) _
 have dG:O3.hp O2.next=some (.cells [.str nn,.sl na.length (na.flatMap aZ) .aq,.sl nk.length (ax nk) .aq,.str nt]):=by rw[F2,VH.ak _ _ (by omega)];exact VH.an _ _ _
 have gZ:O3.next=O2.next+2:=by rw[F2];rfl
 clear F2;have eo:=(aU.trans ay).trans aO;have vk:=aO.at z_;refine VC.ag aa (ae @rO ?_);refine VC.ag aa (ao @rO @dG ?_);refine ah.rt (zQ O3) ?_;rintro _ O4 ⟨bh,rfl⟩;have I6:=bh.at vk;have g_:=bh.next;have gE:=eo.trans bh;refine ae @rO ?_;refine VC.al ?_;rintro O5 ⟨bK,gd,gu⟩;have D3:=bK.at I6;have np:=gE.trans bK;refine VC.ag aa (ae @rO ?_);refine WC.sound aa (aM @rO @gd @D3 ?_);exact(bj.lC np).any.trans bj.set
structure cW (O:VH) (k q:Nat) (O':VH):Prop where
 next:O.next<=O'.next
 hp:∀i,i<O.next->i≠k->i≠q->O'.hp i=O.hp i
theorem cW.ge {O O1 O2:VH} {k q:Nat} (h:cW O k q O1) (g:O1.Ge O2):cW O k q O2:=⟨Nat.le_trans h.next g.next,fun i hi a b=>(g.hp i (Nat.lt_of_lt_of_le hi h.next)).trans (h.hp i hi a b)⟩
theorem cW.of {O O1:VH} {k q:Nat} (g:O.Ge O1):cW O k q O1:=⟨g.next,fun i hi _ _=>g.hp i hi⟩
theorem cW.trans {O O1 O2:VH} {k q:Nat} (h:cW O k q O1) (g:cW O1 k q O2):cW O k q O2:=⟨Nat.le_trans h.next g.next,fun i hi a b=>(g.hp i (Nat.lt_of_lt_of_le hi h.next) a b).trans (h.hp i hi a b)⟩
theorem cW.aeV {O O1:VH} {k q:Nat} {x:bV} (h:cW O k q O1):cW O k q (O1.set k x):=⟨h.next,fun i hi a b=>(VH.ak _ _ a).trans (h.hp i hi a b)⟩
theorem cW.aeW {O O1:VH} {k q:Nat} {x:bV} (h:cW O k q O1):cW O k q (O1.set q x):=⟨h.next,fun i hi a b=>(VH.ak _ _ b).trans (h.hp i hi a b)⟩
theorem bj.two {O O1:VH} {k q:Nat} (h:bj O (some q) O1):cW O k q O1:=⟨h.next,fun i hi _ b=>h.hp i hi (fun e=>b (by injection e with e;exact e.symm))⟩
theorem ads {O:VH} {k q ba bb bc:Nat} {t:Bs} {u s r r2:Int} {n:Nd} {p:Pm} {g:Gv} {m1 m2:MV} (ha:O.hp ba=some (.cells [.ptr k 0])) (wI:O.hp bb=some (.cells [.ptr q 0])) (S8:O.hp bc=some (.cells (bL g))) (hk:O.hp k=some (.cells [m1,m2,mi r,mi r2])) (hq:O.hp q=some (.cells (iz t u s zT iw)))
  (kP:k<O.next) (pB:q<O.next) (iB:ba<O.next) (tI:bb<O.next) (kG:bc<O.next) (hkq:k≠q) (ht:t.length<=65536) (hb:gD t= .ok n) (hr:ou n= .ok p):
  VF Tryz.prog 199 [.ptr ba 0,.ptr bb 0,.ptr bc 0] O (aI fun m O'=>(∃r',O'.hp k=some (.cells [m1,m2,mi r',mi r2]))/\O'.hp q=some (.cells (iz t u s p iw))/\cW O k q O'):=by
 have zQ:=fun O' h1 h2=>adr (O:=O') (q:=q) (u:=u) (s:=s) g h1 h2 ht hb hr
 have hka:ba≠k:=fun e=>by subst e;rw[ha]at hk;cases hk
 have ug:bb≠k:=fun e=>by subst e;rw[wI]at hk;cases hk
 have hkc:bc≠k:=fun e=>by subst e;rw[S8]at hk;unfold bL at hk;cases hk
 obtain⟨g1,g2,g3⟩:=g;unfold bL at S8 zQ;simp only[au]at hk;refine VF.bU 10 [] Tryz.func199 ?_;refine VC.ag aa (aM @rO @db @ha ?_);refine ah.rt (Ex 1 hk rfl) ?_;rintro m O1 ⟨rfl,e1⟩;have dL:O1.hp k=some (.cells [m1,m2,mi (IntKind.i64.wrap (r+1)),mi r2]):=by rw[e1];exact VH.an _ _ _
 have tH:cW O k q O1:=by rw[e1];exact(cW.of (VH.Ge.refl _)).aeV
 have cy:=(by rw[e1];exact VH.ak _ _ ug:O1.hp bb=O.hp bb).trans wI;have fx:=(by rw[e1];exact VH.ak _ _ hkc:O1.hp bc=O.hp bc).trans S8;have hq1:=(by rw[e1];exact VH.ak _ _ (Ne.symm hkq):O1.hp q=O.hp q).trans hq;have du:O1.next=O.next:=by rw[e1];rfl
 clear e1;refine ao @rO @db ?_;refine WC.sound aa (aM @rO @cy @fx ?_);refine ah.rt (zQ O1 hq1 (by omega)) ?_;rintro m O2 ⟨z_,c7⟩;have bN:=(c7.hp k (by omega) (fun e=>hkq (by injection e with e;exact e.symm))).trans dL;refine ae @rO ?_;exact⟨⟨_,bN⟩,z_,tH.trans c7.two⟩
set_option linter.defProp false in
def jY:=And.intro rO<|And.intro db<|And.intro T58<|And.intro RP T94
theorem F1.pc {O O':VH} {k ke kv ce cv:Nat} {E V:eW} {r a r' a':Int} (h:F1 O k ke kv E ce V cv r a) (hc:O'.hp k=some (.cells [.map ke,.map kv,mi r',mi a'])) (he:O'.hp ke=O.hp ke) (hv:O'.hp kv=O.hp kv) (hn:O.next<=O'.next):F1 O' k ke kv E ce V cv r' a':=
 ⟨hc,he.trans h.BW,hv.trans h.Hs,h.LY,h.vok,h.ptr,⟨Nat.lt_of_lt_of_le h.lt.1 hn,Nat.lt_of_lt_of_le h.lt.2.1 hn,Nat.lt_of_lt_of_le h.lt.2.2 hn⟩,h.ne⟩
theorem F1.ge {O O':VH} {k ke kv ce cv:Nat} {E V:eW} {r a:Int} (h:F1 O k ke kv E ce V cv r a) (g:O.Ge O'):F1 O' k ke kv E ce V cv r a:=
 h.pc ((g.hp _ h.lt.1).trans h.cell) (g.hp _ h.lt.2.1) (g.hp _ h.lt.2.2) g.next
theorem agM {O:VH} {k ke kv ce cv q:Nat} {E V:eW} {r a:Int} {t:Bs} {n:Nd} {p:Pm} (h:F1 O k ke kv E ce V cv r a) (g:Gv) (hg:sJ g) (fR:iK (ef g) E=some (.ptr q 0)) (hq:O.hp q=some (.cells (iz t 0 0 zT iw))) (pB:q<O.next) (ht:t.length<=65536) (hb:gD t= .ok n) (hr:ou n= .ok p) (hp:aah p):
  VF Tryz.prog 172 [.ptr k 0,.agg (bL g)] O (aI fun m O'=>m= .tuple [.agg (fO p),.agg (oS iw)]/\(∃r' a',O'.hp k=some (.cells [.map ke,.map kv,mi r',mi a']))/\O'.hp q=some (.cells (iz t 1 0 p iw))/\cW O k q O'):=by
 have II:q≠k:=fun e=>by subst e;rw[h.cell]at hq;simp[iz]at hq
 have hqe:q≠ke:=fun e=>by subst e;rw[h.BW]at hq;cases hq
 have hqv:q≠kv:=fun e=>by subst e;rw[h.Hs]at hq;cases hq
 have hL3:(ef g).length=3:=rfl;have hLs:=vg hg;have hLm:bL g=(ef g).map .str:=rfl;have hpc:=fun(O':VH) (ba bb bc:Nat) (m1 m2:MV) (r r2:Int) h1 h2 h3 h4 h5 h6 h7 h8 h9 xF=>ads (O:=O') (k:=k) (q:=q) (ba:=ba) (bb:=bb) (bc:=bc) (u:=0) (s:=1) (r:=r) (r2:=r2) (g:=g) (m1:=m1) (m2:=m2) h1 h2 h3 h4 h5 h6 h7 h8 h9 xF (Ne.symm II) ht hb hr
 obtain⟨g1,g2,g3⟩:=g;have hkc:=h.cell;simp only[au]at hkc;simp only[bL];refine VF.bU 40 [.cell 4 106,.cell 5 71] Tryz.func172 ?_;refine VC.ag aa (ae @jY ?_);refine VC.gen ?_;rintro O1 rK;obtain⟨aU,du,cV,cy,fx,pQ⟩:=PX _ _ _ _ rK;clear rK;have dL:=(aU.hp _ h.lt.1).trans hkc;refine VC.bE [2,3,4,5] (fun _:Unit=>[.ptr O.next 0,.ptr (O.next+1) 0,.ptr (O.next+2) 0,.ptr (O.next+3) 0]) (fun _ O'=>O'=O1.set k (.cells [.map ke,.map kv,mi r,mi (IntKind.i64.wrap (a+1))])) ?_ ?_
 ·refine VC.ag aa (ao @jY @cV ?_);refine WC.sound aa (aM @jY @cV @dL ?_);refine ah.rt (Ex 1 dL rfl) ?_;rintro m O2 ⟨rfl,e2⟩;refine ae @jY ?_;exact aA.mk () e2
 intro _ O2 e2;have dJ:=h.lt;have bN:O2.hp k=some (.cells [.map ke,.map kv,mi r,mi (IntKind.i64.wrap (a+1))]):=by rw[e2];exact VH.an _ _ _
 have jx:∀i,i≠k->O2.hp i=O1.hp i:=fun i hi=>by rw[e2];exact VH.ak _ _ hi
 have jk:O2.next=O.next+4:=by rw[e2];exact du
 have c7:cW O k q O2:=by rw[e2];exact(cW.of aU).aeV
 have h2:F1 O2 k ke kv E ce V cv r (IntKind.i64.wrap (a+1)):=h.pc bN ((jx _ (Ne.symm h.ne.1)).trans (aU.hp _ h.lt.2.1)) ((jx _ (Ne.symm h.ne.2.1)).trans (aU.hp _ h.lt.2.2)) c7.next;have jn:=(jx _ (by omega)).trans cV;have b9:=(jx _ (by omega)).trans cy;have iY:=(jx _ (by omega)).trans fx;have j4:=(jx _ (by omega)).trans pQ;have z_:=(jx _ II).trans ((aU.hp _ pB).trans hq);clear e2 cV cy fx pQ dL bN jx;generalize IntKind.i64.wrap (a+1)=a2 at*;refine VC.ag aa (aM @jY @jn @b9 ?_);refine ah.rt (R8 h2 ⟨g1,g2,g3⟩ hg) ?_;rintro _ O3 ⟨rfl,aO⟩;have hh:AS E ⟨g1,g2,g3⟩=true:=by unfold AS;rw[fR];rfl
 rw[hh];have h3:=h2.ge aO;have gZ:=aO.next;have qi:=aO.at jn;have ct:=aO.at b9;have eJ:=aO.at iY;have zS:=aO.at j4;have vk:=aO.at z_;have cG:=c7.ge aO;clear jn b9 iY j4 z_ c7 h2;have dG:=h3.cell;have Qo:=h3.BW;simp only[au]at dG;refine ae @jY ?_;refine VC.bA ?_;refine WC.bI (.held [7]) [(0,.rd),(1,.rd),(2,.rd),(3,.rd),(4,.rd),(5,.rd),(6,.one),(7,.one)] ?_;refine c8 @jY @qi @ct @dG ?_;refine VL.hold (.inr rfl) rfl rfl (fy.lq vf aa (l:=ef ⟨g1,g2,g3⟩) (te:=⟨_,1,8,[.v (.pointer none)]⟩) Tryz.underlying94 RP rfl rfl Qo h3.LY rfl hL3 hLs) (WL.sound aa ?_);rw[fR];refine ae @jY ?_;refine VC.al ?_;rintro O4 ⟨bh,jC,g_⟩;have h4:=h3.ge bh;have kx:=bh.at qi;have cL:=bh.at ct;have eX:=bh.at eJ;have Es:=bh.at zS;have I6:=bh.at vk;have eS:=cG.ge bh;have kU:=h4.cell;clear qi ct eJ zS vk cG h3 dG Qo hh bh aO;refine VC.ag aa (ao @jY @jC ?_);have mq:(iz t 0 0 zT iw).set (1+1) (.v (.int .i32 1))=iz t 0 1 zT iw:=rfl;have Mp:∀{i:Nat} {y:Option bV},i≠q->O4.hp i=y->(O4.set q (.cells (iz t 0 1 zT iw))).hp i=y:=fun hi hy=>(VH.ak _ _ hi).trans hy
 refine ah.rt (aiH (off:=1) (Φ :=fun O'=>(∃r',O'.hp k=some (.cells [.map ke,.map kv,mi r',mi a2]))/\O'.hp q=some (.cells (iz t 0 1 p iw))/\cW (O4.set q (.cells (iz t 0 1 zT iw))) k q O') (g:=199) (xs:=[.ptr O.next 0,.ptr O3.next 0,.ptr (O.next+1) 0]) I6 rfl rfl (by kernel_rfl) (by rw[mq];exact hpc (O4.set q (.cells (iz t 0 1 zT iw))) O.next O3.next (O.next+1) _ _ _ _ (Mp (by omega) kx) (Mp (by omega) jC) (Mp (by omega) cL) (Mp (Ne.symm II) kU) (VH.an _ _ _) (by show k<O4.next;omega) (by show q<O4.next;omega) (by show O.next<O4.next;omega) (by show O3.next<O4.next;omega) (by show O.next+1<O4.next;omega)) (fun O' IW=>⟨_,IW.2.1,rfl,rfl⟩)) ?_;rintro m O5 ⟨OX,cs',⟨⟨r',hkX⟩,hqX,huX⟩,iA,e5⟩;rw[hqX]at iA;injection iA with iA;injection iA with iA
 subst iA;have qS:((iz t 0 1 p iw).set 1 (.v (.int .u32 1))).set (1+1) (.v (.int .i32 0))=iz t 1 0 p iw:=rfl;rw[qS]at e5;have D3:O5.hp q=some (.cells (iz t 1 0 p iw)):=by rw[e5];exact VH.an _ _ _
 have gd:O5.hp k=some (.cells [.map ke,.map kv,mi r',mi a2]):=by rw[e5];exact(VH.ak _ _ (Ne.symm II)).trans hkX
 have ZN:cW O4 k q (O4.set q (.cells (iz t 0 1 zT iw))):=(cW.of (VH.Ge.refl _)).aeW;have Hz:cW O4 k q O5:=by rw[e5];exact(ZN.trans huX).aeW
 have gu:=Hz.next;have qf:=eS.trans ⟨gu,fun i hi=>Hz.hp i hi⟩;have fm:=(Hz.hp _ (by omega) (by omega) (by omega)).trans eX;have I0:=(Hz.hp _ (by omega) (by omega) (by omega)).trans Es;have m6:=(Hz.hp _ (by omega) (by omega) (by omega)).trans jC;clear e5 Hz ZN huX hqX hkX qS mq Mp kx cL eX Es I6 eS kU jC h4;refine ae @jY ?_;have hov:=fun O'=>agL p O' hp
 obtain⟨pb,⟨pg,pa,pv⟩,pG,pA,pV,pk,P,M,DD⟩:=p;simp only[iz,fO,oS,iw,au,aY,List.cons_append,List.nil_append]at D3 hov ⊢;refine VC.bA ?_;have jq:∀{O':VH},O5.Ge O'->O'.hp O3.next=some (.cells [.ptr q 0])/\O'.hp q=O5.hp q:=fun g=>⟨g.at m6,g.hp _ (by omega)⟩
 refine VC.sC [] (fun O'=>O'.hp O3.next=some (.cells [.ptr q 0])/\O'.hp q=O5.hp q) (⟨m6,rfl⟩) ?_;refine ab.mC (m:=.ptr q 0) 0 ?_ ?_
 ·rintro O2 ⟨j1,j2⟩;exact dH @jY @j1
 simp only[aj];refine ab.av 1 ?_;refine ae @jY ?_;refine ab.av 2 ?_;refine ae @jY ?_;refine ab.mC (m:=.ptr q 0) 5 ?_ ?_
 ·rintro O2 ⟨j1,j2⟩;exact dH @jY @j1
 simp only[aj];refine ab.av 6 ?_;refine ae @jY ?_;refine ab.av 7 ?_;refine ae @jY ?_;rw[D3];refine ab.mC (m:=.agg [.v (.int .i64 0),.str [],.str [],.str [],.v (.int .i64 0),.v (.int .i64 0),.v (.int .i64 0),.str []]) 8 ?_ ?_
 ·rintro O2 ⟨j1,j2⟩;exact dH @jY @j2
 simp only[aj];refine ab.op (i:=3) ?_;refine ao @jY @D3 ?_;refine⟨m6,?_⟩;refine ab.call (i:=4) (hov O5) ?_;rintro _ O6 ⟨rfl,fS⟩;simp only[aj];have mD:=fS.at m6;have hq6:=fS.at D3;have oL:=fS.at gd;have AZ:=fS.at fm;have hd6:=fS.at I0;have ny:=fS.next;have qL:=qf.ge fS;refine⟨⟨mD,hq6⟩,?_⟩;refine ab.op (i:=9) ?_;refine ao @jY @AZ ?_;refine⟨⟨mD,hq6⟩,?_⟩;refine ab.op (i:=10) ?_;refine ao @jY @hd6 ?_;refine⟨⟨mD,hq6⟩,?_⟩;refine ab.bI [] ?_;refine ae @jY ?_;refine VC.gen ?_;intro O7 e7;have qT:∀i,i≠O.next+2->i≠O.next+3->O7.hp i=O6.hp i:=fun i h1 h2=>by rw[e7,VH.ak _ _ h2,VH.ak _ _ h1]
 have sw:O7.next=O6.next:=by rw[e7];rfl
 have hd7:O7.hp (O.next+3)=some (.cells [.v (.int .i64 0),.str [],.str [],.str [],.v (.int .i64 0),.v (.int .i64 0),.v (.int .i64 0),.str []]):=by rw[e7];exact VH.an _ _ _
 have hc7:O7.hp (O.next+2)=some (.cells [.v (.bool pb),.str pg,.str pa,.str pv,.str pG,.str pA,.str pV,.str pk,.sl P.length (P.flatMap aZ) .aq,.sl M.length (M.flatMap aP) .aq,.sl DD.length (DD.flatMap aP) .aq]):=by rw[e7,VH.ak _ _ (by omega)];exact VH.an _ _ _
 have hq7:=(qT q (by omega) (by omega)).trans hq6;have tO:=(qT k (by omega) (by omega)).trans oL;have Cf:cW O k q O7:=⟨by have:=qL.next;omega,fun i hi h1 h2=>(qT i (by omega) (by omega)).trans (qL.hp i hi h1 h2)⟩;clear e7 qT;refine WC.sound aa (aM @jY @hc7 @hd7 ?_);exact⟨⟨_,_,tO⟩,hq7,Cf⟩
set_option linter.defProp false in
def dK:=And.intro jY<|And.intro RN<|And.intro T95 zj
structure vm (O:VH) (V:eW) (N:Nat):Prop where
 row:∀p∈V,∃n cs tk,p.2.1= .sl n cs tk/\cs.length=n/\n<=N/\App O 0 1 tk/\cD cs=cs
 one:∀(i j:Nat) (p r:List Bs×MV×Nat) (n:Nat) (cs:List MV) (tk:Tok) (n':Nat) (cs':List MV) (tk':Tok),V[i]?=some p->V[j]?=some r->i≠j->p.2.1= .sl n cs tk->r.2.1= .sl n' cs' tk'->∀x,Tok.id tk=some x->Tok.id tk'≠some x
theorem aH.qU {P:Program} {n:Sz} {D:List Deferred} {ops:Array Oper} {e:Env} {O:VH} {Q:VQ} {m:MV} {i d:Nat} {op:Op} {ty:TypeId} {ps:String} {af:Array Edge} {g:Option (Nat×Bool)} {K:Env->VH->Prop} (hy:fy P n D (.mk (some d) op ty ps af g) e O m) (h:K ((d,m)::e) O) (ho:ops[i]?=some (.mk (some d) op ty ps af g):=by exact rfl) (hg:aK ops (.mk (some d) op ty ps af g) e=some true:=by exact rfl) (hd:bf n (some d)=true:=by exact rfl):aH P n D ops i e O Q K:=
 aH.hold ho hg hd hy h
def aai (t:Bs):Option Pm->List MV
 | none=>iz t 0 0 zT iw
 | some p=>iz t 1 0 p iw
theorem App.mv {O O':VH} {B sz:Nat} {tk:Tok} (h:App O B sz tk) (hn:O.next<=O'.next) (hi:∀i,i<O.next->O.hp i=some .tok->O'.hp i=some .tok):App O' B sz tk:=by
 cases tk with
 | own t j=>exact⟨h.1,hi _ h.2.2.2 h.2.1,h.2.2.1,Nat.lt_of_lt_of_le h.2.2.2 hn⟩
 | nil=>trivial
 | full=>trivial
 | aq=>exact h.elim
theorem vm.mv {O O':VH} {V:eW} {N:Nat} (h:vm O V N) (hn:O.next<=O'.next) (hi:∀i,i<O.next->O.hp i=some .tok->O'.hp i=some .tok):vm O' V N:=
 ⟨fun p hp=>by obtain⟨n,cs,tk,h1,h2,h3,h4,h5⟩:=h.row p hp;exact⟨n,cs,tk,h1,h2,h3,h4.mv hn hi,h5⟩,h.one⟩
theorem vm.ge {O O':VH} {V:eW} {N:Nat} (h:vm O V N) (g:O.Ge O'):vm O' V N:=h.mv g.next fun i hi e=>(g.hp i hi).trans e
theorem App.off {O:VH} {B sz i:Nat} {tk:Tok} (h:App O B sz tk) (hi:i<O.next) (hn:O.hp i≠some .tok):(O.after tk).hp i=O.hp i:=by
 refine(cK.after h).hp i hi fun e=>hn ?_
 cases tk with
 | own t j=>injection e with e;subst e;exact h.2.1
 | _=>cases e
theorem WR.VZ {G:Gh} {O:VH} {w:World} {k:Nat} {cs cs':List MV} (h:WR G O w) (hk:O.hp k=some (.cells cs)) (hw:ew cs cs'):WR G (O.set k (.cells cs')) w:=by
 obtain⟨b,C,T,h1,h2,h3⟩:=h.cells k cs hk;refine h.swap (by rw[hk];simp) (fun ds e=>?_) (fun X e=>by cases e) (fun _ _ e=>by cases e) (fun e=>by cases e) (fun _ _ _ e=>by cases e);injection e with e;subst e
 exact⟨b,C,T,h1,h2,hw.1▸hw.vrs h3⟩
theorem VC.VZ {P:Program} {n:Sz} {D:List Deferred} {c:Code} {e:Env} {Q:VQ} {O:VH} {k:Nat} {cs cs':List MV} (hk:O.hp k=some (.cells cs)) (hw:ew cs cs') (h:VC P n D c e (O.set k (.cells cs')) Q):VC P n D c e O Q:=fun G a w h1 h2=>h G a w (h1.VZ hk hw) h2
theorem ew.aiP (a1 a2 a3 a4 a5 a6 a7 a8 a9 a10 a11 a12 b1 b2 b3 b4 b5 b6 b7 b8:MV):ew [a1,a2,a3,a4,a5,a6,a7,a8,a9,a10,a11,a12,.sl 0 [] .nil,.sl 0 [] .nil,.sl 0 [] .nil,b1,b2,b3,b4,b5,b6,b7,b8] [a1,a2,a3,a4,a5,a6,a7,a8,a9,a10,a11,a12,.sl 0 [] .aq,.sl 0 [] .aq,.sl 0 [] .aq,b1,b2,b3,b4,b5,b6,b7,b8]:=
 by repeat' first
  | exact ew.refl _
  | exact Wk.refl _
  | exact Wk.tok
  | refine ew.cons ?_ ?_
theorem adt {O:VH} {B sz:Nat} {tk:Tok} (h:App O B sz tk) {x:Nat} (e:Tok.id tk=some x):x<O.next:=(App.qe h e).2
theorem vm.app {O:VH} {V:eW} {N:Nat} (h:vm O V N) {tk:Tok} {p:List Bs×MV×Nat} (ha:App O 0 1 tk) (hp:p∈V) (hne:∀n' cs' tk',p.2.1= .sl n' cs' tk'->∀x,Tok.id tk=some x->Tok.id tk'≠some x):∃n cs t,p.2.1= .sl n cs t/\cs.length=n/\n<=N+1/\App (O.after tk) 0 1 t/\cD cs=cs:=by
 obtain⟨n',cs',t,h1,h2,h3,h4,h5⟩:=h.row p hp;exact⟨n',cs',t,h1,h2,Nat.le_succ_of_le h3,cK.app (cK.after ha) h4 (hne _ _ _ h1),h5⟩
theorem vm.put {O:VH} {V:eW} {N:Nat} (h:vm O V N) (hV:nQ 2 V) {l:List Bs} {n ck:Nat} {cs:List MV} {tk:Tok} {v:Bs} (fR:xO false (.sl 0 [] .nil) (iK l V)= .sl n cs tk) (hc:cs.length=n) (hn:n<=N) (ha:App O 0 1 tk) (hu:cD cs=cs):
  vm (O.after tk) (je l (.sl (n+1) (cs++[.str v]) (.own O.next 1)) ck V) (N+1):=by
 have qs:∃n' cs' t,(MV.sl (n+1) (cs++[.str v]) (.own O.next 1))= .sl n' cs' t/\cs'.length=n'/\n'<=N+1/\App (O.after tk) 0 1 t/\cD cs'=cs':=⟨_,_,_,rfl,by rw[List.length_append,hc];rfl,by omega,App.after (Nat.zero_le _),by rw[mP,hu];simp only[wu]⟩
 have dJ:∀p∈V,∀n' cs' t',p.2.1= .sl n' cs' t'->∀x,Tok.id t'=some x->x<O.next:=fun p hp n' cs' t' e x hx=>by
  obtain⟨a,b,c,h1,_,_,h4,_⟩:=h.row p hp;rw[h1]at e;injection e with _ _ e;subst e
  exact adt h4 hx
 unfold je;cases jW:V.any (·.1==l)
 ·rw[if_neg (by simp)]
  have CY:∀p∈V,p.1≠l:=fun p hp e=>by
   rw[List.any_eq_false]at jW;exact jW p hp (by simp[e])
  rw[vZ CY]at fR;simp only[xO]at fR;injection fR with e1 e2 e3;subst e1;subst e2;subst e3
  refine⟨fun p hp=>?_,fun i j p r n' cs' tk' n'' aiQ aiR hi hj Fw hp hr x hx=>?_⟩
  ·rcases List.mem_append.1 hp with hp | hp
   ·exact h.app ha hp (fun _ _ _ _ x hx=>by cases hx)
   ·rw[List.mem_singleton.1 hp];exact qs
  ·rw[List.getElem?_append]at hi hj;split at hi<;>split at hj
   ·exact h.one i j p r _ _ _ _ _ _ hi hj Fw hp hr x hx
   ·have OK:=List.mem_of_getElem? hj;rw[List.mem_singleton]at OK;subst OK;dsimp only at hr;injection hr with _ _ e;subst e
    intro e2;injection e2 with e2
    have:=dJ p (List.mem_of_getElem? hi) _ _ _ hp x hx;omega
   ·have wS:=List.mem_of_getElem? hi;rw[List.mem_singleton]at wS;subst wS;dsimp only at hp;injection hp with _ _ e;subst e
    injection hx with hx;intro e2;have:=dJ r (List.mem_of_getElem? hj) _ _ _ hr x e2;omega
   ·have h1:=(List.getElem?_eq_some_iff.1 hi).1;have h2:=(List.getElem?_eq_some_iff.1 hj).1;simp only[List.length_cons,List.length_nil]at h1 h2;omega
 ·rw[if_pos rfl];obtain⟨p0,hp0,FD⟩:=List.any_eq_true.1 jW;have FD:=eq_of_beq FD;obtain⟨i0,hi0,e0⟩:=List.mem_iff_getElem.1 hp0;have lO:V[i0]?=some p0:=by rw[List.getElem?_eq_getElem hi0,e0]
  have oH:=IF hV.one lO;rw[FD]at oH;rw[oH]at fR;simp only[xO]at fR;have fR:p0.2.1= .sl n cs tk:=fR
  have sZ:∀{i:Nat} {p:List Bs×MV×Nat},V[i]?=some p->p.1=l->i=i0:=fun{i p} hi dF=>by
   have h1:(V.map (·.1))[i]?=some l:=by rw[List.getElem?_map,hi];exact congrArg some dF
   have h2:(V.map (·.1))[i0]?=some l:=by rw[List.getElem?_map,lO];exact congrArg some FD
   exact(List.getElem?_inj (by rw[List.length_map];exact(List.getElem?_eq_some_iff.1 hi).1) hV.one).1 (h1.trans h2.symm)
  refine⟨fun p' hp'=>?_,fun i j p' r' n' cs' tk' n'' aiQ aiR hi hj Fw hp hr x hx=>?_⟩
  ·obtain⟨p,hp,rfl⟩:=List.mem_map.1 hp';by_cases e:p.1=l
   ·rw[if_pos e];exact qs
   ·rw[if_neg e];obtain⟨j,hj,ej⟩:=List.mem_iff_getElem.1 hp;have Cm:V[j]?=some p:=by rw[List.getElem?_eq_getElem hj,ej]
    exact h.app ha hp (fun n' cs' tk' e2 x hx=>h.one i0 j p0 p _ _ _ _ _ _ lO Cm (fun e3=>by subst e3;rw[lO]at Cm;injection Cm with Cm;exact e (Cm▸FD)) fR e2 x hx)
  ·rw[List.getElem?_map]at hi hj;obtain⟨p,hpi,rfl⟩:=Option.map_eq_some_iff.1 hi;obtain⟨r,hrj,rfl⟩:=Option.map_eq_some_iff.1 hj;by_cases e:p.1=l
   ·by_cases e2:r.1=l
    ·exact absurd ((sZ hpi e).trans (sZ hrj e2).symm) Fw
    ·rw[if_pos e]at hp;rw[if_neg e2]at hr;dsimp only at hp;injection hp with _ _ e3;subst e3
     injection hx with hx;intro e4;have:=dJ r (List.mem_of_getElem? hrj) _ _ _ hr x e4;omega
   ·rw[if_neg e]at hp;by_cases e2:r.1=l
    ·rw[if_pos e2]at hr;dsimp only at hr;injection hr with _ _ e3;subst e3
     intro e4;injection e4 with e4
     have:=dJ p (List.mem_of_getElem? hpi) _ _ _ hp x hx;omega
    ·rw[if_neg e2]at hr;exact h.one i j p r _ _ _ _ _ _ hpi hrj Fw hp hr x hx
structure m7 (O:VH) (k:Nat) (L:List (Gv×Bs×Option Pm)) (E V:eW) (ke kv ce cv:Nat) (r a:Int):Prop where
 st:F1 O k ke kv E ce V cv r a
 len:E.length=L.length
 I7:∀(i:Nat) (g:Gv) (t:Bs) (o:Option Pm),L[i]?=some (g,t,o)->∃(q c:Nat),E[i]?=some (ef g,MV.ptr q 0,c)/\(q:Nat)<O.next/\O.hp q=some (.cells (aai t o))
 dis:∀(i j:Nat) (p r:List Bs×MV×Nat) (q:Nat),E[i]?=some p->E[j]?=some r->p.2.1=MV.ptr q 0->r.2.1=MV.ptr q 0->i=j
 ver:vm O V L.length
theorem adu (O:VH):VF Tryz.prog 27 [] O (aI fun m O'=>m= .ptr (O.next+2) 0/\m7 O' (O.next+2) [] [] [] O.next (O.next+1) 0 0 0 0/\O.Ge O'):=by
 refine VF.bU 5 [.tmp 0] Tryz.func27 ?_;have jF:FG (kK [(0,1),(1,1),(2,1),(3,1)]) [.v (.map none),.v (.map none),.v (.int .i64 0),.v (.int .i64 0)] (.map O.next) [(1,.map (O.next+1))] (some (0,1))=some [.map O.next,.map (O.next+1),.v (.int .i64 0),.v (.int .i64 0)]:=rfl;refine VC.ag aa (ae @dK ?_);refine VC.ag aa (ao @dK @jF ?_);refine WC.sound aa (ae @dK ?_);obtain⟨hg,hn,h1,h2,h3⟩:=lQ (O:=O) (.map [] 0) (.map [] 0) (.cells [.map O.next,.map (O.next+1),.v (.int .i64 0),.v (.int .i64 0)]) rfl;refine⟨⟨⟨h3,h1,h2,⟨by simp,by simp⟩,⟨by simp,by simp⟩,by simp,by omega,by omega⟩,rfl,by simp,by simp,⟨by simp,by simp⟩⟩,hg⟩
theorem Mq {tab:bS} {O:VH} {t kd te:TypeId} {k a b ck:Nat} {z:List MV} {es:wL} (h:tab t=some ⟨.map kd te,a,b,z⟩) (hb:O.hp k=some (.map es ck)):o0 tab O t (.map k)=some (.v (.int .i64 es.length)):=by simp[o0,h,hb]
theorem EJ {M:eW} {l:List Bs} (h:iK l M=none):∀p∈M,p.1≠l:=by
 unfold iK at h;rw[Option.map_eq_none_iff,List.find?_eq_none]at h;intro p hp e;exact h p hp (by simp[e])
theorem HA {x y:Gv} (h:ef x=ef y):x=y:=by
 obtain⟨a,b,c⟩:=x;obtain⟨d,e,f⟩:=y;simp only[ef,List.cons.injEq,and_true]at h;obtain⟨rfl,rfl,rfl⟩:=h;rfl
section
variable {O O':VH} {k ke kv ce cv:Nat} {L:List (Gv×Bs×Option Pm)} {E V:eW} {r a:Int}
theorem m7.none (h:m7 O k L E V ke kv ce cv r a) {g:Gv} (fw:∀x∈L,x.1≠g):iK (ef g) E=none:=by
 refine vZ fun p hp e=>?_
 obtain⟨i,hi,rfl⟩:=List.mem_iff_getElem.1 hp;have hiL:i<L.length:=by rw[<-h.len];exact hi
 obtain⟨q,c,h1,_⟩:=h.I7 i L[i].1 L[i].2.1 L[i].2.2 (List.getElem?_eq_getElem hiL);rw[List.getElem?_eq_getElem hi]at h1;injection h1 with h1;rw[h1]at e;exact fw _ (List.getElem_mem hiL) (HA e)
theorem m7.some (h:m7 O k L E V ke kv ce cv r a) {i:Nat} {g:Gv} {t:Bs} {o:Option Pm} (hi:L[i]?=some (g,t,o)):∃q c,iK (ef g) E=some (.ptr q 0)/\q<O.next/\O.hp q=some (.cells (aai t o))/\E[i]?=some (ef g,.ptr q 0,c):=by
 obtain⟨q,c,h1,h2,h3⟩:=h.I7 i g t o hi;exact⟨q,c,IF h.st.LY.one h1,h2,h3,h1⟩
end
theorem agN {O:VH} {k ke kv ce cv:Nat} {L:List (Gv×Bs×Option Pm)} {E V:eW} {r a:Int} (h:m7 O k L E V ke kv ce cv r a) (g:Gv) (t:Bs) (hm:zA g=true) (lF:sJ g) (fw:∀x∈L,x.1≠g) (hL:L.length<1024):
  VF Tryz.prog 47 [.ptr k 0,.agg (bL g),.str t] O (aI fun m O'=>m=mi 0/\(∃E' V' Qp Qq,m7 O' k (L++[(g,t,none)]) E' V' ke kv Qp Qq r a)/\O.next<=O'.next/\∀i cs,i<O.next->O.hp i=some (.cells cs)->O'.hp i=some (.cells cs)):=by
 have D6:=h.none fw;have FU:=h.len;have cP:=h.st;have hh:AS E g=false:=by unfold AS;rw[D6];rfl
 have dJ:=cP.lt;have hL3:(ef g).length=3:=rfl;have hLs:=vg lF;have hmg:=fun O'=>UT g O' lF.1 lF.2.1 lF.2.2
 have aaj:=fun(O':VH) (g':O.Ge O')=>R8 (cP.ge g') g lF
 rw[hm]at hmg;rw[hh]at aaj;obtain⟨g1,g2,g3⟩:=g;simp only[bL]at hmg aaj ⊢;refine VF.bU 50 [.tmp 6] Tryz.func47 ?_;refine VC.ag aa (ae @dK ?_);refine VC.bx ?_;rintro O1 ⟨aU,fJ,du⟩;refine VC.ag aa (ao @dK @fJ ?_);refine ah.rt (hmg O1) ?_;rintro _ O2 ⟨rfl,ay⟩;have j6:=ay.at fJ;have fZ:=aU.trans ay;refine ao @dK @j6 ?_;refine ah.rt (aaj O2 fZ) ?_;rintro _ O3 ⟨rfl,aO⟩;have eo:=fZ.trans aO;have kQ:=(aO.hp _ (by have:=ay.next;omega)).trans j6;have gZ:=eo.next;have h3:=cP.ge eo;have dG:=h3.cell;have Qo:=h3.BW;simp only[au]at dG;have hEn:(cx E).length<1024:=by unfold cx;rw[List.length_map];omega
 have Au:=Mq T94 Qo;have FO:(cx E).length=L.length:=by unfold cx;rw[List.length_map];exact FU
 rw[FO]at Au;refine aM @dK @dG @Au ?_;refine VC.bA ?_;refine WC.bI (.held [8]) [(0,.rd),(1,.rd),(2,.rd),(3,.rd),(4,.rd),(5,.rd),(6,.rd),(7,.one),(8,.one)] ?_;refine aM @dK @dG @kQ ?_;have heP:∀{x:bV},(O3.push x).hp ke=some (.map (cx E) ce):=(VH.bn _ _ h3.lt.2.1).trans Qo
 refine VL.om rfl rfl (oh.je vf (l:=ef ⟨g1,g2,g3⟩) (b:=ke) (ck:=ce) (M:=E) Tryz.underlying94 rfl heP h3.LY rfl hL3 hLs rfl) (fun brk hb i hi=>?_) (WL.sound aa ?_)
 ·cases hb
  rcases i with _ | _ | _ | _ | _ | _ | _ | _ | _ | i<;>first
   | rfl
   | (exfalso;revert hi;simp)
 have tQ:E.any (·.1==ef ⟨g1,g2,g3⟩)=false:=by
  rw[List.any_eq_false];intro p hp hpe;have:=EJ D6 p hp;exact this (eq_of_beq hpe)
 unfold je La;rw[tQ];refine ae @dK ?_;refine VC.gen ?_;intro O4 e4;have g_:O4.next=O3.next+1:=by rw[e4];rfl
 have aeX:=h3.lt;have Mr:O.next+1<=O3.next:=by have:=ay.next;have:=aO.next;omega
 have qV:∀i,i<O3.next->i≠ke->O4.hp i=O3.hp i:=fun i h1 h2=>by rw[e4,VH.ak _ _ h2];exact VH.bn _ _ h1
 have he4:O4.hp ke=some (.map (cx (E++[(ef ⟨g1,g2,g3⟩,MV.ptr O3.next 0,ce)])) (ce+1)):=by rw[e4];exact VH.an _ _ _
 have I6:O4.hp O3.next=some (.cells [.str t,.v (.int .u32 0),.v (.int .i32 0),.v (.int .u32 0),.v (.bool false),.str [],.str [],.str [],.str [],.str [],.str [],.str [],.sl 0 [] .nil,.sl 0 [] .nil,.sl 0 [] .nil,.v (.int .i64 0),.str [],.str [],.str [],.v (.int .i64 0),.v (.int .i64 0),.v (.int .i64 0),.str []]):=by
  rw[e4,VH.ak _ _ (by omega)];exact VH.aW _ _
 clear e4 heP;refine VC.VZ I6 (cs':=iz t 0 0 zT iw) (ew.aiP _ _ _ _ _ _ _ _ _ _ _ _ _ _ _ _ _ _ _ _) ?_;refine VC.gen ?_;intro O5 e5;have gu:O5.next=O3.next+1:=by rw[e5];exact g_
 have jq:∀i,i<O3.next->i≠ke->O5.hp i=O3.hp i:=fun i h1 h2=>by rw[e5,VH.ak _ _ (by omega)];exact qV i h1 h2
 have he5:O5.hp ke=some (.map (cx (E++[(ef ⟨g1,g2,g3⟩,MV.ptr O3.next 0,ce)])) (ce+1)):=by rw[e5,VH.ak _ _ (by omega)];exact he4
 have D3:O5.hp O3.next=some (.cells (iz t 0 0 zT iw)):=by rw[e5];exact VH.an _ _ _
 clear e5 qV he4 I6 g_ O4;have gd:=(jq k (by omega) cP.ne.1).trans dG;have oy:=(jq kv (by omega) (Ne.symm cP.ne.2.2)).trans h3.Hs;have m6:=(jq O.next (by omega) (by omega)).trans kQ;have aak:vm O5 V L.length:=(h.ver.ge eo).mv (by omega) fun i hi e=>(jq i hi (fun e2=>by subst e2;rw[Qo]at e;cases e)).trans e
 obtain⟨n,cs,tk,gN,iA,hnn,tF,eE⟩:∃n cs tk,xO false (.sl 0 [] .nil) (iK (zU ⟨g1,g2⟩) V)= .sl n cs tk/\cs.length=n/\n<=L.length/\App O5 0 1 tk/\cD cs=cs:=by
  cases fR:iK (zU ⟨g1,g2⟩) V with
  | none=>exact⟨0,[],.nil,rfl,rfl,Nat.zero_le _,trivial,rfl⟩
  | some m=>
    unfold iK at fR;obtain⟨p,qh,rfl⟩:=Option.map_eq_some_iff.1 fR;obtain⟨n,cs,tk,k1,k2,k3,k4,k5⟩:=aak.row p (List.mem_of_find?_eq_some qh);exact⟨n,cs,tk,k1,k2,k3,k4,k5⟩
 have F5:=cP.vok;have HB:=agG ⟨g1,g2,g3⟩
 have A_:∀s∈zU ⟨g1,g2⟩,s.length<=maxLen:=by
  intro s hs;simp only[zU,List.mem_cons,List.not_mem_nil,or_false]at hs;rcases hs with rfl | rfl
  ·exact lF.1
  ·exact lF.2.1
 simp only[bL]at HB;refine VC.bA ?_;refine VC.sC [17] (fun O'=>O'.hp k=O5.hp k/\O'.hp O.next=O5.hp O.next) (⟨rfl,rfl⟩) ?_;refine ab.av 0 ?_;refine ae @dK ?_;refine ab.av 1 ?_;refine ae @dK ?_;refine ab.av 2 ?_;refine ae @dK ?_;refine ab.mC (m:=.map kv) 3 ?_ ?_
 ·rintro O2 ⟨j1,j2⟩;exact dH @dK (j1.trans gd)
 simp only[aj];refine ab.mC (m:=.agg [.str g1,.str g2,.str g3]) 4 ?_ ?_
 ·rintro O2 ⟨j1,j2⟩;exact dH @dK (j2.trans m6)
 simp only[aj];refine ab.av 6 ?_;refine ae @dK ?_;refine ab.av 7 ?_;refine ae @dK ?_;refine ab.av 8 ?_;refine ae @dK ?_;refine ab.mC (m:=.map kv) 9 ?_ ?_
 ·rintro O2 ⟨j1,j2⟩;exact dH @dK (j1.trans gd)
 simp only[aj];refine ab.mC (m:=.agg [.str g1,.str g2,.str g3]) 10 ?_ ?_
 ·rintro O2 ⟨j1,j2⟩;exact dH @dK (j2.trans m6)
 simp only[aj];refine ab.av 13 ?_;refine ae @dK ?_;refine ab.mC (m:=.str g3) 14 ?_ ?_
 ·rintro O2 ⟨j1,j2⟩;exact dH @dK (j2.trans m6)
 simp only[aj];have hJ:∀O',O5.Ge O'->O'.hp k=O5.hp k/\O'.hp O.next=O5.hp O.next:=fun O' g=>⟨g.hp _ (by omega),g.hp _ (by omega)⟩
 have mo:∀OO,O5.Ge OO->∀OF,OF=(OO.after tk).set kv (.map (cx (je (zU ⟨g1,g2⟩) (.sl (n+1) (cs++[.str g3]) (.own OO.next 1)) cv V)) (La (zU ⟨g1,g2⟩) cv V))->(∃E' V' Qp Qq,m7 OF k (L++[((⟨g1,g2,g3⟩:Gv),t,none)]) E' V' ke kv Qp Qq r a)/\O.next<=OF.next/\∀i cs,i<O.next->O.hp i=some (.cells cs)->OF.hp i=some (.cells cs):=by
  intro OO hG OF eF;have hoO:=hG.next
  have hF:∀i,i<O5.next->O5.hp i≠some .tok->i≠kv->OF.hp i=O5.hp i:=fun i hi hne hv=>by
   rw[eF,VH.ak _ _ hv];have e1:=hG.hp i hi;rw[App.off (tF.ge hG) (Nat.lt_of_lt_of_le hi hG.next) (by rw[e1];exact hne)];exact e1
  have Qr:O5.next<=OF.next:=by
   have:OF.next=(OO.after tk).next:=by rw[eF];rfl
   have:=(cK.after (tF.ge hG)).next;omega
  have hold:∀i cs,i<O.next->O.hp i=some (.cells cs)->OF.hp i=some (.cells cs):=fun i cs hi e=>by
   have e3:=(eo.hp i hi).trans e;have e5:=(jq i (by omega) (fun e2=>by subst e2;rw[Qo]at e3;cases e3)).trans e3;exact(hF i (by omega) (by rw[e5];simp) (fun e2=>by subst e2;rw[oy]at e5;cases e5)).trans e5
  have aal:=rz (y:=MV.ptr O3.next 0) (ck:=ce) h3.LY hL3 hLs;unfold je at aal;rw[tQ]at aal;refine⟨⟨_,_,_,_,⟨⟨(hF _ (by omega) (by rw[gd];simp) cP.ne.2.1).trans gd,(hF _ (by omega) (by rw[he5];simp) cP.ne.2.2).trans he5,by rw[eF];exact VH.an _ _ _,aal,rz F5 rfl A_,fun p hp=>?_,⟨by omega,by omega,by omega⟩,cP.ne⟩,by rw[List.length_append,List.length_append,FU];rfl,fun i g' t' o' hi=>?_,fun i j p r' q hi hj hp hr=>?_,?_⟩⟩,by omega,hold⟩
  ·rcases List.mem_append.1 hp with hp | hp
   ·exact cP.ptr p hp
   ·rw[List.mem_singleton.1 hp];exact⟨_,rfl⟩
  ·rw[List.getElem?_append]at hi;split at hi
   ·rename_i hil;obtain⟨q,c,k1,k2,k3⟩:=h.I7 i g' t' o' hi;exact⟨q,c,by rw[List.getElem?_append_left (by omega)];exact k1,by omega,hold q _ k2 k3⟩
   ·rename_i hil;have wS:=List.mem_of_getElem? hi;rw[List.mem_singleton]at wS;injection wS with e1 e2;injection e2 with e2 e3
    subst e1;subst e2;subst e3
    have hlen:=(List.getElem?_eq_some_iff.1 hi).1;simp only[List.length_cons,List.length_nil]at hlen;refine⟨O3.next,ce,?_,by omega,(hF _ (by omega) (by rw[D3];simp) (by omega)).trans D3⟩;rw[List.getElem?_append_right (by omega),FU,show i - L.length=0 by omega];rfl
  ·have hq:∀(i:Nat) (p:List Bs×MV×Nat) (q:Nat),E[i]?=some p->p.2.1=MV.ptr q 0->q<O.next:=fun i p q hi hp=>by
    have hil:i<L.length:=by rw[<-FU];exact(List.getElem?_eq_some_iff.1 hi).1
    obtain⟨q',c,k1,k2,_⟩:=h.I7 i _ _ _ (List.getElem?_eq_getElem hil);rw[hi]at k1;injection k1 with k1
    rw[k1]at hp;dsimp only at hp;injection hp with hp;omega
   rw[List.getElem?_append]at hi hj;split at hi<;>split at hj
   ·exact h.dis i j p r' q hi hj hp hr
   ·have OK:=List.mem_of_getElem? hj;rw[List.mem_singleton]at OK;subst OK;dsimp only at hr;injection hr with hr;have:=hq i p q hi hp;omega
   ·have wS:=List.mem_of_getElem? hi;rw[List.mem_singleton]at wS;subst wS;dsimp only at hp;injection hp with hp;have:=hq j r' q hj hr;omega
   ·have h1:=(List.getElem?_eq_some_iff.1 hi).1;have h2:=(List.getElem?_eq_some_iff.1 hj).1;simp only[List.length_cons,List.length_nil]at h1 h2;omega
  ·rw[List.length_append];have hvO:=vm.put (ck:=cv) (v:=g3) (aak.ge hG) F5 gN iA hnn (tF.ge hG) eE;rw[eF];refine hvO.mv (Nat.le_refl _) fun i hi e=>?_
   by_cases e2:i=kv
   ·subst e2;rw[App.off (tF.ge hG) (by omega) (by rw[hG.hp _ (by omega),oy];simp),hG.hp _ (by omega),oy]at e;cases e
   ·exact(VH.ak _ _ e2).trans e
 have hG:=VH.Ge.refl O5;refine ab.pair (i:=5) (j:=15) ?_ ?_
 ·refine aH.jj (HB _) ?_;rintro _ O6 ⟨rfl,so⟩
  replace hG:=hG.trans so
  clear so;simp only[aj];refine⟨hJ _ hG,?_⟩;refine ab.pair (i:=11) (j:=15) ?_ ?_
  ·refine aH.jj (HB _) ?_;rintro _ O7 ⟨rfl,so⟩
   replace hG:=hG.trans so
   clear so;simp only[aj];refine⟨hJ _ hG,?_⟩;refine ab.pair (i:=12) (j:=15) ?_ ?_
   ·refine aH.qU (fy.lq BU aa (l:=zU ⟨g1,g2⟩) (te:=⟨_,1,24,[.sl 0 [] .nil]⟩) Tryz.underlying95 zj rfl rfl (hG.at oy) F5 rfl rfl A_) ?_;rw[gN];refine⟨hJ _ hG,?_⟩;refine ab.op (i:=15) ?_;refine ae @dK ?_;refine⟨hJ _ hG,?_⟩;have cT:=bo (tk:=tk) (tk':=.full) (B:=0) (n:=n) (k:=1) (cs:=cs) (ds:=[.str g3]) zj T9 (O:=O7) (tF.ge hG) (by rw[Nat.mul_one];exact iA) rfl rfl (by decide) (by decide) (by omega) (by simp only[maxLen];omega)
    have u_:∀i,i<O5.next->O5.hp i≠some .tok->((O7).after tk).hp i=O5.hp i:=fun i hi hne=>by
     have e1:=(hG).hp i hi;rw[App.off (tF.ge hG) (Nat.lt_of_lt_of_le hi (hG).next) (by rw[e1];exact hne)];exact e1
    refine ab.op (i:=16) ?_;rw[cI];refine ao @dK @cT ?_;refine⟨⟨u_ _ (by omega) (by rw[gd];simp),u_ _ (by omega) (by rw[m6];simp)⟩,?_⟩;refine ab.bI [(17,.one)] ?_;refine ae @dK ?_;refine VL.om rfl rfl (oh.je BU (l:=zU ⟨g1,g2⟩) (b:=kv) (ck:=cv) (M:=V) Tryz.underlying95 rfl ((u_ _ (by omega) (by rw[oy];simp)).trans oy) F5 rfl rfl A_ rfl) (fun brk hb=>by cases hb) (WL.sound aa ?_);refine ae @dK ?_;refine VC.gen ?_;intro OF eF;refine VC.ag aa (ae @dK ?_);refine WC.sound aa (ae @dK ?_);exact mo O7 hG OF eF
   ·refine aH.o1 ?_;refine ae @dK ?_;refine⟨hJ _ hG,?_⟩;refine ab.one (i:=12) (aH.qU (fy.lq BU aa (l:=zU ⟨g1,g2⟩) (te:=⟨_,1,24,[.sl 0 [] .nil]⟩) Tryz.underlying95 zj rfl rfl (hG.at oy) F5 rfl rfl A_) ?_);rw[gN];refine⟨hJ _ hG,?_⟩;have cT:=bo (tk:=tk) (tk':=.full) (B:=0) (n:=n) (k:=1) (cs:=cs) (ds:=[.str g3]) zj T9 (O:=O7) (tF.ge hG) (by rw[Nat.mul_one];exact iA) rfl rfl (by decide) (by decide) (by omega) (by simp only[maxLen];omega)
    have u_:∀i,i<O5.next->O5.hp i≠some .tok->((O7).after tk).hp i=O5.hp i:=fun i hi hne=>by
     have e1:=(hG).hp i hi;rw[App.off (tF.ge hG) (Nat.lt_of_lt_of_le hi (hG).next) (by rw[e1];exact hne)];exact e1
    refine ab.op (i:=16) ?_;rw[cI];refine ao @dK @cT ?_;refine⟨⟨u_ _ (by omega) (by rw[gd];simp),u_ _ (by omega) (by rw[m6];simp)⟩,?_⟩;refine ab.bI [(17,.one)] ?_;refine ae @dK ?_;refine VL.om rfl rfl (oh.je BU (l:=zU ⟨g1,g2⟩) (b:=kv) (ck:=cv) (M:=V) Tryz.underlying95 rfl ((u_ _ (by omega) (by rw[oy];simp)).trans oy) F5 rfl rfl A_ rfl) (fun brk hb=>by cases hb) (WL.sound aa ?_);refine ae @dK ?_;refine VC.gen ?_;intro OF eF;refine VC.ag aa (ae @dK ?_);refine WC.sound aa (ae @dK ?_);exact mo O7 hG OF eF
  ·refine aH.o1 ?_;refine ae @dK ?_;refine⟨hJ _ hG,?_⟩;refine ab.one (i:=11) (aH.jj (HB _) ?_);rintro _ O7 ⟨rfl,so⟩
   replace hG:=hG.trans so
   clear so;simp only[aj];refine⟨hJ _ hG,?_⟩;refine ab.one (i:=12) (aH.qU (fy.lq BU aa (l:=zU ⟨g1,g2⟩) (te:=⟨_,1,24,[.sl 0 [] .nil]⟩) Tryz.underlying95 zj rfl rfl (hG.at oy) F5 rfl rfl A_) ?_);rw[gN];refine⟨hJ _ hG,?_⟩;have cT:=bo (tk:=tk) (tk':=.full) (B:=0) (n:=n) (k:=1) (cs:=cs) (ds:=[.str g3]) zj T9 (O:=O7) (tF.ge hG) (by rw[Nat.mul_one];exact iA) rfl rfl (by decide) (by decide) (by omega) (by simp only[maxLen];omega)
   have u_:∀i,i<O5.next->O5.hp i≠some .tok->((O7).after tk).hp i=O5.hp i:=fun i hi hne=>by
    have e1:=(hG).hp i hi;rw[App.off (tF.ge hG) (Nat.lt_of_lt_of_le hi (hG).next) (by rw[e1];exact hne)];exact e1
   refine ab.op (i:=16) ?_;rw[cI];refine ao @dK @cT ?_;refine⟨⟨u_ _ (by omega) (by rw[gd];simp),u_ _ (by omega) (by rw[m6];simp)⟩,?_⟩;refine ab.bI [(17,.one)] ?_;refine ae @dK ?_;refine VL.om rfl rfl (oh.je BU (l:=zU ⟨g1,g2⟩) (b:=kv) (ck:=cv) (M:=V) Tryz.underlying95 rfl ((u_ _ (by omega) (by rw[oy];simp)).trans oy) F5 rfl rfl A_ rfl) (fun brk hb=>by cases hb) (WL.sound aa ?_);refine ae @dK ?_;refine VC.gen ?_;intro OF eF;refine VC.ag aa (ae @dK ?_);refine WC.sound aa (ae @dK ?_);exact mo O7 hG OF eF
 ·refine aH.o1 ?_;refine ae @dK ?_;refine ab.one (i:=5) (aH.jj (HB _) ?_);rintro _ O6 ⟨rfl,so⟩
  replace hG:=hG.trans so
  clear so;simp only[aj];refine⟨hJ _ hG,?_⟩;refine ab.one (i:=11) (aH.jj (HB _) ?_);rintro _ O7 ⟨rfl,so⟩
  replace hG:=hG.trans so
  clear so;simp only[aj];refine⟨hJ _ hG,?_⟩;refine ab.one (i:=12) (aH.qU (fy.lq BU aa (l:=zU ⟨g1,g2⟩) (te:=⟨_,1,24,[.sl 0 [] .nil]⟩) Tryz.underlying95 zj rfl rfl (hG.at oy) F5 rfl rfl A_) ?_);rw[gN];refine⟨hJ _ hG,?_⟩;have cT:=bo (tk:=tk) (tk':=.full) (B:=0) (n:=n) (k:=1) (cs:=cs) (ds:=[.str g3]) zj T9 (O:=O7) (tF.ge hG) (by rw[Nat.mul_one];exact iA) rfl rfl (by decide) (by decide) (by omega) (by simp only[maxLen];omega)
  have u_:∀i,i<O5.next->O5.hp i≠some .tok->((O7).after tk).hp i=O5.hp i:=fun i hi hne=>by
   have e1:=(hG).hp i hi;rw[App.off (tF.ge hG) (Nat.lt_of_lt_of_le hi (hG).next) (by rw[e1];exact hne)];exact e1
  refine ab.op (i:=16) ?_;rw[cI];refine ao @dK @cT ?_;refine⟨⟨u_ _ (by omega) (by rw[gd];simp),u_ _ (by omega) (by rw[m6];simp)⟩,?_⟩;refine ab.bI [(17,.one)] ?_;refine ae @dK ?_;refine VL.om rfl rfl (oh.je BU (l:=zU ⟨g1,g2⟩) (b:=kv) (ck:=cv) (M:=V) Tryz.underlying95 rfl ((u_ _ (by omega) (by rw[oy];simp)).trans oy) F5 rfl rfl A_ rfl) (fun brk hb=>by cases hb) (WL.sound aa ?_);refine ae @dK ?_;refine VC.gen ?_;intro OF eF;refine VC.ag aa (ae @dK ?_);refine WC.sound aa (ae @dK ?_);exact mo O7 hG OF eF
open Go.MapKept (run_setObj_map)
set_option linter.defProp false in
def dm:=And.intro dK<|And.intro Y8<|And.intro T75<|And.intro T3<|And.intro ahT AE
def ib (d:Dp):Ky:=⟨d.g,d.a,if d.t=[]then[106,97,114]else d.t,d.c⟩
theorem I8 (d:Dp) (O:VH):VF Tryz.prog 74 [.agg (aP d)] O (aI fun m O'=>m= .agg (fX (ib d))/\O.Ge O'):=by
 obtain⟨g,a,v,t,c,s,o,x⟩:=d;simp only[aP,ib,fX];refine VF.bU 18 [.cell 2 30] Tryz.func74 ?_;refine VC.ag aa (ae @dm ?_);refine VC.gen ?_;intro O1 e1;obtain⟨aU,du,cV,cy⟩:=gh _ _ e1;clear e1;refine VC.ag aa (ao @dm @cV ?_);refine VC.al ?_;rintro O2 ⟨ay,j6,jk⟩;have b9:=ay.at cy;cases t with
 | nil=>
   rw[if_pos rfl];refine VC.ag aa (aM @dm @j6 (show(([]:List UInt8)==[])=true from rfl) ?_);refine WC.sound aa (aM @dm @j6 @b9 ?_);exact(((aU.trans ay).set (by omega) _).set (by omega) _)
 | cons y t=>
   rw[if_neg (by simp)];refine VC.ag aa (aM @dm @j6 (show((y::t)==[])=false from rfl) ?_);refine WC.sound aa (aM @dm @j6 @b9 ?_);exact(aU.trans ay).set (by omega) _
section
variable {G H:Gh} {n:Sz} {D:List Deferred} {e e':Env} {a:Act} {P:Program} {tab:bS} {O O':VH} {w:World} {m m':MV} {u v:Value} {ops:Array Oper} {Q:VQ} {md:Md}
structure Cnt (N:Nat) (M:eW) (j:Int):Prop where
 ok:nQ N M
 int:∀p∈M,∃x:Int,p.2.1=mi x/\0<=x/\x<=j
theorem fC.Si {kt et:TypeId} {N:Nat} (K:tc P kt N) (ht:aJ P tab) {d:Option Tmp} {t ty:TypeId} {x y:Operand} {ps:String} {af:Array Edge} {g:Option (Nat×Bool)} {b ck:Nat} {M:eW} {l:List (List UInt8)} {te:cn} {z:MV} (hU:P.underlying t=some (.map kt et)) (nf:tab et=some te) (hz:yz te=some z)
  (hx:ev e x=some (.map b)) (hb:O.hp b=some (.map (cx M) ck)) (hM:nQ N M) (hy:ev e y=some (.agg (l.map .str))) (hl:l.length=N) (hs:∀s∈l,s.length<=maxLen):
  fC P n D (.mk d (.mapEntry t x y) ty ps af g) e O fun m O'=>∃(M':eW) (ck':Nat) (v:MV) (st:Nat),m= .tuple [v,.v (.int .i64 st)]/\O'=O.set b (.map (cx M') ck')/\nQ N M'/\(∀p∈M',p∈M\/p.2.1=z)/\(∃p∈M',p.2.2=st):=by
 intro G a w hw hf;have h1:=hf.ev hx;have h2:=hf.ev hy;generalize oc:a.eval x=u at h1;generalize xN:a.eval y=v at h2;have hv:=zf h2;subst hv;cases h1 with
 | map dW=>
   rename_i b';obtain⟨b2,E,e1,e2,e3,e4,e5⟩:=hw.map _ _ _ hb;rw[dW]at e1;injection e1 with e1;subst e1
   have hE:fW G (cx M) E.toList:=⟨e3,e4,e5⟩;obtain⟨lit,xc⟩:=K.of l hl hs;have IH:=K.law.check w false xc;obtain⟨zv,z1,z2⟩:=xH (ht et te nf) hz;rcases zg K hM hE hl hs w with⟨g1,g2⟩ | ⟨j,p,q,g1,g2,g3,g4,g5⟩
   ·have jW:M.any (·.1==l)=false:=by rw[List.any_eq_false];intro p hp;simpa using g2 p hp
    have hr:fW G (cx (M++[(l,z,ck)])) (E.push {key:=fc l,val:=zv,born:=ck}).toList:=by
     rw[Array.toList_push];unfold cx;rw[List.map_append];exact hE.append (fW.cons rfl h2 (z2 G) fW.nil)
    have b_:=rz (y:=z) (ck:=ck) hM hl hs;unfold je at b_;rw[jW]at b_;refine⟨.tuple [z,.v (.int .i64 ck)],O.set b (.map (cx (M++[(l,z,ck)])) (ck+1)),.tuple #[zv,.int .i64 ck],?wx,G,⟨M++[(l,z,ck)],ck+1,z,ck,rfl,rfl,b_,fun p hp=>?_,⟨_,List.mem_append_right _ (List.mem_singleton.2 rfl),rfl⟩⟩,?rn,Gh.Le.refl G,?wr,?vr⟩
    case wr=>exact hw.r7 (ck':=ck+1) hb dW e2 hr
    case rn=>
     simp only[execOp,oc,xN,Instr.mapEntry,Sem.run_bind,run_underlying hU,Result.andThen_ok,MapKept.run_getObj_map e2,IH,g1,z1,run_setObj_map _ e2];rfl
    case vr=>exact VR.tuple (us:=[zv,.int .i64 ck]) rfl (aL.cons (z2 G) (aL.cons (.v rfl) aL.nil)).2
    rcases List.mem_append.1 hp with hp | hp
    ·exact .inl hp
    ·rw[List.mem_singleton.1 hp];exact .inr rfl
   ·obtain⟨k1,k2,k3⟩:=hE.keys.2 j p q g2 g4;have cP:=K.law.stays w xc;have II:q.key=fc l:=by rw[k1,g3]
    have Cm:E[j]?=some q:=by simpa using g4
    have wK:((E[j]?).map (·.key)).getD (fc l)=fc l:=by rw[Cm];exact II
    have wI:((E[j]?).map (fun x=>((x.born:Nat):Int))).getD 0=(p.2.2:Int):=by rw[Cm];exact congrArg (fun n:Nat=>(n:Int)) k3
    have aiS:E.modify j (fun x=>{x with key:=fc l})=E:=by
     have hj:=(Array.getElem?_eq_some_iff.1 Cm);obtain⟨dU,bd⟩:=hj;apply Array.ext
     ·simp
     ·intro i Qn jx;rw[Array.getElem_modify];split
      ·rename_i e;subst e
       rw[bd, <-II]
      ·rfl
    refine⟨.tuple [p.2.1,.v (.int .i64 p.2.2)],O.set b (.map (cx M) ck),.tuple #[q.val,.int .i64 p.2.2],?wy,G,⟨M,ck,p.2.1,p.2.2,rfl,rfl,hM,fun p hp=>.inl hp,⟨p,List.mem_of_getElem? g2,rfl⟩⟩,?rm,Gh.Le.refl G,?ws,?vs⟩
    case ws=>exact hw.r7 (E':=E) (ck':=ck) hb dW e2 hE
    case rm=>
     simp only[execOp,oc,xN,Instr.mapEntry,Sem.run_bind,run_underlying hU,Result.andThen_ok,MapKept.run_getObj_map e2,IH,g1,wK,cP,aiS,wI,run_setObj_map _ e2];rfl
    case vs=>exact VR.tuple (us:=[q.val,.int .i64 p.2.2]) rfl (aL.cons g5 (aL.cons (.v rfl) aL.nil)).2
def Ba (P:Program) (n:Sz) (D:List Deferred) (o:Oper) (e:Env) (O:VH) (Φ :VH->Prop):Prop:=∀G a w,WR G O w->FR G n D e a->∃w' H O', Φ O'/\(execOp a.eval o).run P w= .ok .skip w'/\Gh.Le G H/\WR H O' w'
theorem aH.adv {i:Nat} {o:Oper} {K:Env->VH->Prop} {Φ :VH->Prop} (ho:ops[i]?=some o) (hg:aK ops o e=some true) (hd:bf n o.dst=true) (hy:Ba P n D o e O Φ) (h:∀O', Φ O'->K (aV o.dst cw e) O'):aH P n D ops i e O Q K:=by
 intro G a w hw aT;obtain⟨w',H,O',hΦ,hr,h1,h2⟩:=hy G a w hw aT;simp only[wpOp,ho,a_ aT hg,if_true];refine .inl ?_;unfold Oper.wp;rw[hr];exact⟨_,_,H,h1,h2,(aT.mono h1).aV hd kI,h _ hΦ⟩
theorem rP {α β :Type} {f: α -> α} {g: α -> β} (h:∀x,g (f x)=g x) (L:List α) (i:Nat):(L.modify i f).map g=L.map g:=by
 refine List.ext_getElem? fun j=>?_
 rw[List.getElem?_map,List.getElem?_map,List.getElem?_modify];cases L[j]? with
 | none=>rfl
 | some x=>
   simp only[Option.map_some];split
   ·exact congrArg some (h x)
   ·rfl
theorem Ms {α β :Type} {f: α -> α} {g: α -> β} {y: β} (h:∀x,g (f x)=y) (L:List α) (i:Nat):(L.modify i f).map g=(L.map g).set i y:=by
 refine List.ext_getElem? fun j=>?_
 rw[List.getElem?_map,List.getElem?_modify,List.getElem?_set,List.getElem?_map,List.length_map];by_cases e:i=j
 ·subst e;rw[if_pos rfl];by_cases hl:i<L.length
  ·rw[if_pos hl,List.getElem?_eq_getElem hl];simp[h]
  ·rw[if_neg hl,List.getElem?_eq_none (by omega)];rfl
 ·rw[if_neg e];cases L[j]? with
  | none=>rfl
  | some x=>simp[e]
theorem Ba.HC {d:Option Tmp} {t ty:TypeId} {x y z:Operand} {ps:String} {af:Array Edge} {g:Option (Nat×Bool)} {b ck st N:Nat} {M:eW} (hx:ev e x=some (.map b)) (hb:O.hp b=some (.map (cx M) ck)) (hM:nQ N M) (hy:ev e y=some (.v (.int .i64 st))) (hz:ev e z=some m) (hin:∃p∈M,p.2.2=st):
  Ba P n D (.mk d (.entryStore t x y z) ty ps af g) e O fun O'=>∃M',O'=O.set b (.map (cx M') ck)/\nQ N M'/\∀p∈M',p∈M\/p.2.1=m:=by
 intro G a w hw hf;have h1:=hf.ev hx;have h2:=hf.ev hy;have h3:=hf.ev hz;generalize oc:a.eval x=u at h1;generalize xN:a.eval y=v at h2;generalize haz:a.eval z=r at h3;have hv:=h2.ie;subst hv;cases h1 with
 | map dW=>
   rename_i b';obtain⟨b2,E,e1,e2,e3,e4,e5⟩:=hw.map _ _ _ hb;rw[dW]at e1;injection e1 with e1;subst e1
   have hE:fW G (cx M) E.toList:=⟨e3,e4,e5⟩;have hlen:=hE.keys.1;obtain⟨p,hp,hps⟩:=hin;obtain⟨j,hj,ej⟩:=List.mem_iff_getElem.1 hp;have Y5:j<E.toList.length:=by omega
   have agO:=(hE.keys.2 j p E.toList[j] (by rw[List.getElem?_eq_getElem hj,ej]) (List.getElem?_eq_getElem Y5)).2.2;have agP:E.toList[j]∈E:=by simp
   obtain⟨i,hi⟩:∃i,E.findIdx? (fun e=>(e.born:Int)==(st:Int))=some i:=by
    have:(E.findIdx? (fun e=>(e.born:Int)==(st:Int))).isSome=true:=by
     rw[Array.findIdx?_isSome];rw[Array.any_eq_true'];exact⟨_,agP,by rw[agO,hps];simp⟩
    exact Option.isSome_iff_exists.1 this
   have hr:fW G (cx (M.modify i fun p=>(p.1,m,p.2.2))) (E.modify i fun e=>{e with val:=r}).toList:=by
    rw[Array.toList_modify];refine⟨?_,?_,?_⟩
    ·rw[rP (f:=fun e:MapEntry=>{e with val:=r}) (g:=fun x=>x.born) (fun _=>rfl) E.toList i,e3];unfold cx;rw[List.map_map,List.map_map];exact(rP (f:=fun p:List Bs×MV×Nat=>(p.1,m,p.2.2)) (fun _=>rfl) M i).symm
    ·rw[rP (f:=fun e:MapEntry=>{e with val:=r}) (g:=fun x=>x.key) (fun _=>rfl) E.toList i]
     have:(cx (M.modify i fun p=>(p.1,m,p.2.2))).map (·.1)=(cx M).map (·.1):=by
      unfold cx;rw[List.map_map,List.map_map];exact rP (f:=fun p:List Bs×MV×Nat=>(p.1,m,p.2.2)) (fun _=>rfl) M i
     rw[this];exact e4
    ·rw[Ms (f:=fun e:MapEntry=>{e with val:=r}) (g:=fun x=>x.val) (y:=r) (fun _=>rfl) E.toList i]
     have:(cx (M.modify i fun p=>(p.1,m,p.2.2))).map (·.2.1)=((cx M).map (·.2.1)).set i m:=by
      unfold cx;rw[List.map_map,List.map_map];exact Ms (f:=fun p:List Bs×MV×Nat=>(p.1,m,p.2.2)) (fun _=>rfl) M i
     rw[this];exact e5.set h3
   have aam:∀p∈M.modify i (fun p=>(p.1,m,p.2.2)),(∃p0∈M,p.1=p0.1/\p.2.2=p0.2.2)/\(p∈M\/p.2.1=m):=fun p hp=>by
    obtain⟨j,hj,ej⟩:=List.mem_iff_getElem.1 hp;have hg:(M.modify i (fun p=>(p.1,m,p.2.2)))[j]?=some p:=by rw[List.getElem?_eq_getElem hj,ej]
    rw[List.getElem?_modify]at hg;cases hm:M[j]? with
    | none=>rw[hm]at hg;cases hg
    | some p0=>
      rw[hm]at hg
      change some _=some p at hg
      injection hg with hg;have aan:=List.mem_of_getElem? hm;split at hg
      ·subst hg;exact⟨⟨p0,aan,rfl,rfl⟩,.inr rfl⟩
      ·subst hg;exact⟨⟨_,aan,rfl,rfl⟩,.inl aan⟩
   refine⟨?wx,G,O.set b (.map (cx (M.modify i fun p=>(p.1,m,p.2.2))) ck),⟨_,rfl,⟨fun p hp=>?_,?_⟩,fun p hp=>(aam p hp).2⟩,?rn,Gh.Le.refl G,?wr⟩
   case wr=>exact hw.r7 (ck':=ck) hb dW e2 hr
   case rn=>
    simp only[execOp,oc,xN,haz,Instr.entryStore,Sem.run_bind,Result.andThen_ok,MapKept.run_getObj_map e2,asInt,asIntOf,Sem.run_pure,hi,run_setObj_map _ e2]
   ·obtain⟨p0,h1,h2,_⟩:=(aam p hp).1;rw[h2];exact hM.len p0 h1
   ·have:(M.modify i (fun p=>(p.1,m,p.2.2))).map (·.1)=M.map (·.1):=rP (f:=fun p:List Bs×MV×Nat=>(p.1,m,p.2.2)) (fun _=>rfl) M i;rw[this];exact hM.one
end
theorem aH.Mt {P:Program} {n:Sz} {D:List Deferred} {ops:Array Oper} {e:Env} {O:VH} {Q:VQ} {i:Nat} {op:Op} {ty:TypeId} {ps:String} {af:Array Edge} {g:Option (Nat×Bool)} {K:Env->VH->Prop} {Φ :VH->Prop} (ho:ops[i]?=some (.mk none op ty ps af g)) (hg:aK ops (.mk none op ty ps af g) e=some true) (hy:Ba P n D (.mk none op ty ps af g) e O Φ) (h:∀O', Φ O'->K e O'):aH P n D ops i e O Q K:=
 aH.adv ho hg rfl hy h
theorem ab.st1 {P:Program} {n:Sz} {D:List Deferred} {e:Env} {O:VH} {Q:VQ} {brk:List Nat} {Ψ :Gh->Prop} {J:VH->Prop} {Z:Prop} {fuel i d:Nat} {listed:Array Bool} {l:List Oper} {op:Op} {ty:TypeId} {ps:String} {af:Array Edge} {g:Option (Nat×Bool)} {M:MV->VH->Prop} (hy:fC P n D (.mk (some d) op ty ps af g) e O M)
  (h:∀m O',M m O'->J O'/\ab P n D ⟨l⟩ brk J Ψ Z fuel (listed.setIfInBounds i true) ((d,m)::e) O' Q) (hr:Region.ready .any ⟨l⟩ listed=[i]:=by kernel_rfl) (ho:l[i]?=some (.mk (some d) op ty ps af g):=by exact rfl) (hg:aK ⟨l⟩ (.mk (some d) op ty ps af g) e=some true:=by exact rfl) (hd:bf n (some d)=true:=by exact rfl):ab P n D ⟨l⟩ brk J Ψ Z (fuel+1) listed e O Q:=ab.st hy h (hr:=hr) (ho:=ho) (hg:=hg) (hd:=hd)
theorem aH.st1 {P:Program} {n:Sz} {D:List Deferred} {e:Env} {O:VH} {Q:VQ} {i d:Nat} {l:List Oper} {op:Op} {ty:TypeId} {ps:String} {af:Array Edge} {g:Option (Nat×Bool)} {M:MV->VH->Prop} {K:Env->VH->Prop} (hy:fC P n D (.mk (some d) op ty ps af g) e O M)
  (h:∀m O',M m O'->K ((d,m)::e) O') (ho:l[i]?=some (.mk (some d) op ty ps af g):=by exact rfl) (hg:aK ⟨l⟩ (.mk (some d) op ty ps af g) e=some true:=by exact rfl) (hd:bf n (some d)=true:=by exact rfl):aH P n D ⟨l⟩ i e O Q K:=aH.st hy h (ho:=ho) (hg:=hg) (hd:=hd)
theorem GR.less {O:VH} {el:TypeId} {sz B B':Nat} {p:MV} {n:Nat} {L:List MV} (h:GR O el sz B p n L) (hB:B'<=B):GR O el sz B' p n L:=by
 rcases h with h | ⟨k,c,h1,h2,h3,h4⟩
 ·exact .inl h
 ·obtain⟨j,k1,k2,k3⟩:=h4.nL;exact .inr ⟨k,c,h1,h2,h3,⟨h4.cells,⟨j,Nat.le_trans hB k1,k2,k3⟩,Nat.le_trans hB h4.lo,h4.hi⟩⟩
def dd (x:Ky):List Bs:=[x.g,x.a,x.t,x.c]
def BZ (d:Dp):Prop:=d.g.length<=100000/\d.a.length<=100000/\d.v.length<=100000/\d.t.length<=100000/\d.c.length<=100000/\d.x.length<=10000
theorem Mu {d:Dp} (h:BZ d):∀s∈dd (ib d),s.length<=maxLen:=by
 obtain⟨h1,h2,h3,h4,h5,h6⟩:=h;intro s hs;simp only[dd,ib,List.mem_cons,List.not_mem_nil,or_false]at hs;have hm:100000<=maxLen:=by simp[maxLen]
 rcases hs with rfl | rfl | rfl | rfl
 ·omega
 ·omega
 ·split
  ·exact Nat.le_trans (by decide) hm
  ·omega
 ·omega
theorem aao (L:List Dp) (tk t2:Tok) (O:VH) (hn:L.length<=10000) (hL:∀d∈L,BZ d):
  VF Tryz.prog 202 [.sl L.length (L.flatMap aP) tk,.sl 0 [] t2,.func (.func 74) [] []] O (aI fun m O'=>O.Ge O'/\GR O' 63 8 O.next m L.length (L.flatMap aP)):=by
 have dF:=aQ fN L;refine VF.bU 49 [.tmp 6] Tryz.func202 ?_;refine VC.ag aa (ae @dm ?_);refine VC.ag aa (ae @dm ?_);refine VC.gen ?_;intro O1 e1;have aU:O.Ge O1:=by rw[e1];exact(VH.Ge.refl O).push _
 have du:O1.next=O.next+1:=by rw[e1];rfl
 have Qs:O1.hp O.next=some (.map (cx []) 0):=by rw[e1];exact VH.aW _ _
 clear e1;refine VC.bE [0,1,2,7] (fun _:Unit=>[.sl L.length (L.flatMap aP) tk,.sl 0 [] t2,.func (.func 74) [] [],.map O.next]) (fun _ O'=>O.Ge O'/\O.next+1<=O'.next) ?_ ?_
 ·refine VC.ag aa (ae @dm ?_);refine VC.aD ?_;refine VC.bH [16] [0,1,2,7,14,15] (fun j:Nat=>[mi j]) (fun j O'=>O.Ge O'/\O.next+1<=O'.next/\j<=L.length/\∃M ck,O'.hp O.next=some (.map (cx M) ck)/\Cnt 4 M j) (fun j=>L.length - j) (0) ?_ ?_
  ·exact⟨aU,by omega,Nat.zero_le _,[],0,Qs,⟨by simp,by simp⟩,by simp⟩
  rintro j O3 ⟨aO,gZ,hj,M,ck,hm3,hM⟩;by_cases bd:j<L.length;rotate_left
  ·obtain rfl:j=L.length:=by omega
   refine WC.sound aa (ae @dm ?_);exact aA.mk () ⟨aO,gZ⟩
  have bu:=cj fN L j bd;have kP:=Mu (hL L[j] (List.getElem_mem bd));have Cn:=I8 L[j];generalize L[j]=d at*;have hkm:fX (ib d)=(dd (ib d)).map .str:=rfl;have kU:(dd (ib d)).length=4:=rfl;generalize dd (ib d)=kl at*;rw[hkm]at Cn;obtain⟨dg,da,dv,dt,dc,ki,dO,dx⟩:=d;simp only[aP,au]at bu Cn;have dU:((j:Int)+1)=((j+1:Nat):Int):=by omega
  refine VC.ag aa (ae @dm ?_);refine VC.ag aa (ae @dm ?_);refine VC.bA (VC.aD ?_);refine VC.ag aa (ao @dm @bu ?_);refine VC.al ?_;rintro O4 ⟨bh,jC,g_⟩;have Qt:=bh.at hm3;refine VC.sC [] (fun O'=>True) (trivial) ?_;refine ab.av 0 ?_;refine ae @dm ?_;refine ab.av 1 ?_;refine ae @dm ?_;refine ab.op (i:=2) ?_;refine ao @dm @jC ?_;refine ab.pH (i:=3) (Cn O4) ?_ ?_;rotate_left
  ·rintro m O5 h;exact h.elim
  rintro _ O5 ⟨rfl,bK⟩;simp only[aj];refine⟨trivial,?_⟩;have Co:=bK.at Qt
  obtain⟨x,hx,hx0,hxj⟩:∃x:Int,xO false (mi 0) (iK kl M)=mi x/\0<=x/\x<=j:=by
   cases fR:iK kl M with
   | none=>exact⟨0,rfl,by omega,by omega⟩
   | some m=>
     unfold iK at fR;obtain⟨p,qh,rfl⟩:=Option.map_eq_some_iff.1 fR;obtain⟨x,k1,k2,k3⟩:=hM.int p (List.mem_of_find?_eq_some qh);exact⟨x,k1,k2,k3⟩
  simp only[au]at hx;refine ab.pair (i:=4) (j:=6) ?_ ?_
  ·refine aH.qU (fy.lq qQ aa (l:=kl) (te:=⟨_,1,8,[.v (.int .i64 0)]⟩) Tryz.underlying75 T3 rfl rfl Co hM.ok rfl kU kP) ?_;rw[hx];refine⟨trivial,?_⟩;refine ab.av 5 ?_;refine ae @dm ?_;refine ab.st1 (i:=6) (fC.Si qQ aa (l:=kl) (te:=⟨_,1,8,[.v (.int .i64 0)]⟩) Tryz.underlying75 T3 rfl rfl Co hM.ok rfl kU kP) ?_;rintro m O6 ⟨M1,ck1,v1,st,rfl,e6,Sj,aap,aaq⟩;refine⟨trivial,?_⟩;have V0:O6.hp O.next=some (.map (cx M1) ck1):=by rw[e6];exact VH.an _ _ _
   have Mv:O.Ge O6:=by rw[e6];exact((aO.trans bh).trans bK).set (Nat.le_refl _) _
   have ny:O.next+1<=O6.next:=by rw[e6];show O.next+1<=O5.next;have:=bK.next;omega
   have Qu:∀p∈M1,∃y:Int,p.2.1=mi y/\0<=y/\y<=j:=fun p hp=>by
    rcases aap p hp with hp | hp
    ·exact hM.int p hp
    ·exact⟨0,hp,by omega,by omega⟩
   refine ab.av 7 ?_;refine ae @dm ?_;refine ab.one (i:=8) (aH.Mt rfl rfl (Ba.HC rfl V0 Sj rfl rfl aaq) ?_);rintro O7 ⟨M2,e7,aar,aas⟩;refine⟨trivial,?_⟩;refine ab.bI [] ?_;refine ae @dm ?_;refine WC.sound aa (ao @dm @dU ?_);refine aC.next (j+1) ⟨?_,?_,bd,M2,_,by rw[e7];exact VH.an _ _ _,aar,fun p hp=>?_⟩
   ·rw[e7];exact Mv.set (Nat.le_refl _) _
   ·rw[e7];show O.next+1<=(O6).next;omega
   ·rcases aas p hp with hp | hp
    ·obtain⟨y,k1,k2,k3⟩:=Qu p hp;exact⟨y,k1,k2,by push_cast;omega⟩
    ·exact⟨_,hp,by omega,by push_cast;omega⟩
  ·refine aH.st1 (fC.Si qQ aa (l:=kl) (te:=⟨_,1,8,[.v (.int .i64 0)]⟩) Tryz.underlying75 T3 rfl rfl Co hM.ok rfl kU kP) ?_;rintro m O6 ⟨M1,ck1,v1,st,rfl,e6,Sj,aap,aaq⟩;refine⟨trivial,?_⟩;have V0:O6.hp O.next=some (.map (cx M1) ck1):=by rw[e6];exact VH.an _ _ _
   have Mv:O.Ge O6:=by rw[e6];exact((aO.trans bh).trans bK).set (Nat.le_refl _) _
   have ny:O.next+1<=O6.next:=by rw[e6];show O.next+1<=O5.next;have:=bK.next;omega
   have Qu:∀p∈M1,∃y:Int,p.2.1=mi y/\0<=y/\y<=j:=fun p hp=>by
    rcases aap p hp with hp | hp
    ·exact hM.int p hp
    ·exact⟨0,hp,by omega,by omega⟩
   refine ab.av 7 ?_;refine ae @dm ?_;clear hx hx0 hxj
   obtain⟨x,hx,hx0,hxj⟩:∃x:Int,xO false (mi 0) (iK kl M1)=mi x/\0<=x/\x<=j:=by
    cases fR:iK kl M1 with
    | none=>exact⟨0,rfl,by omega,by omega⟩
    | some m=>
      unfold iK at fR;obtain⟨p,qh,rfl⟩:=Option.map_eq_some_iff.1 fR;obtain⟨x,k1,k2,k3⟩:=Qu p (List.mem_of_find?_eq_some qh);exact⟨x,k1,k2,k3⟩
   simp only[au]at hx;refine ab.one (i:=4) (aH.qU (fy.lq qQ aa (l:=kl) (te:=⟨_,1,8,[.v (.int .i64 0)]⟩) Tryz.underlying75 T3 rfl rfl V0 Sj rfl kU kP) ?_);rw[hx];refine⟨trivial,?_⟩;refine ab.av 5 ?_;refine ae @dm ?_;refine ab.one (i:=8) (aH.Mt rfl rfl (Ba.HC rfl V0 Sj rfl rfl aaq) ?_);rintro O7 ⟨M2,e7,aar,aas⟩;refine⟨trivial,?_⟩;refine ab.bI [] ?_;refine ae @dm ?_;refine WC.sound aa (ao @dm @dU ?_);refine aC.next (j+1) ⟨?_,?_,bd,M2,_,by rw[e7];exact VH.an _ _ _,aar,fun p hp=>?_⟩
   ·rw[e7];exact Mv.set (Nat.le_refl _) _
   ·rw[e7];show O.next+1<=(O6).next;omega
   ·rcases aas p hp with hp | hp
    ·obtain⟨y,k1,k2,k3⟩:=Qu p hp;exact⟨y,k1,k2,by push_cast;omega⟩
    ·exact⟨_,hp,by omega,by push_cast;omega⟩
 intro _ O3 ⟨aO,gZ⟩;refine VC.ag aa (ae @dm ?_);refine ah.rt (Ev L tk O3 (by omega)) ?_;rintro mL O4 ⟨bh,wQ⟩;refine ae @dm ?_;refine VC.bE [10] (fun _:Unit=>[mL]) (fun _ O'=>O'=O4) ?_ ?_
 ·refine VC.ag aa (ae @dm ?_);refine VC.aD ?_;refine VC.bH [10,33] [2,7,31,32] (fun _:Unit=>[mL,mi 0]) (fun _ O'=>O'=O4) (fun _=>0) (()) ?_ ?_
  ·rfl
  rintro _ O5 e5;rw[e5];clear e5 O5
  refine WC.sound aa (ae @dm ?_);exact aA.mk () rfl
 rintro _ O5 e5;rw[e5];clear e5 O5
 refine WC.sound aa (ae @dm ?_);exact⟨aO.trans bh,GR.less wQ (by omega)⟩
theorem aat (L:List Dp) (tk t2:Tok) (O:VH) (hn:L.length<=10000) (hL:∀d∈L,BZ d):
  VF Tryz.prog 173 [.sl L.length (L.flatMap aP) tk,.sl 0 [] t2] O (aI fun m O'=>∃t,m= .sl L.length (L.flatMap aP) t/\O.Ge O'):=by
 have dF:=aQ fN L;refine VF.bU 27 [.tmp 4] Tryz.func173 ?_;refine VC.ag aa (ae @dm ?_);refine VC.ag aa (ae @dm ?_);refine ah.rt (aao L tk t2 O hn hL) ?_;rintro mL O2 ⟨ay,wQ⟩;rcases wQ with⟨h0,_,hp⟩ | ⟨k,c,rfl,yW,_,cC⟩
 ·obtain rfl:L=[]:=List.eq_nil_of_length_eq_zero h0;rcases hp with rfl | rfl
  ·refine ae @dm ?_;refine VC.bE [5] (fun _:Unit=>[.sl 0 [] .nil]) (fun _ O'=>O'=O2) ?_ ?_
   ·refine VC.ag aa (ae @dm ?_);refine VC.aD ?_;refine VC.bH [12] [5,11] (fun j:Nat=>[mi 0]) (fun j O'=>O'=O2) (fun j=>0) (0) ?_ ?_
    ·rfl
    rintro j O3 eO;rw[eO];clear eO O3
    refine WC.sound aa (ae @dm ?_);exact aA.mk () rfl
   intro _ O9 eO;rw[eO];clear eO O9
   refine WC.sound aa (ae @dm ?_);exact⟨_,rfl,ay⟩
  ·refine ae @dm ?_;refine VC.bE [5] (fun _:Unit=>[.sl 0 [] .full]) (fun _ O'=>O'=O2) ?_ ?_
   ·refine VC.ag aa (ae @dm ?_);refine VC.aD ?_;refine VC.bH [12] [5,11] (fun j:Nat=>[mi 0]) (fun j O'=>O'=O2) (fun j=>0) (0) ?_ ?_
    ·rfl
    rintro j O3 eO;rw[eO];clear eO O3
    refine WC.sound aa (ae @dm ?_);exact aA.mk () rfl
   intro _ O9 eO;rw[eO];clear eO O9
   refine WC.sound aa (ae @dm ?_);exact⟨_,rfl,ay⟩
 obtain⟨sp,hc,kG⟩:=cC.cells;have kP:=cC.lo;have P7:=cC.hi;refine ae @dm ?_;refine VC.bE [5] (fun _:Unit=>[.bk k 0 L.length c]) (fun _ O'=>O2.Ge O') ?_ ?_
 ·refine VC.ag aa (ae @dm ?_);refine VC.aD ?_;refine VC.bH [12] [5,11] (fun j:Nat=>[mi j]) (fun j O'=>O2.Ge O'/\j<=L.length) (fun j=>L.length - j) (0) ?_ ?_
  ·exact⟨VH.Ge.refl _,Nat.zero_le _⟩
  rintro j O3 ⟨aO,hj⟩;by_cases bd:j<L.length;rotate_left
  ·obtain rfl:j=L.length:=by omega
   refine WC.sound aa (ae @dm ?_);exact aA.mk () aO
  have eJ:=(aO.hp k P7).trans hc;have bu:(L.flatMap aP++sp)[j*8+7]?=some (.sl L[j].x.length (L[j].x.flatMap bO) .aq):=jo fN (List.getElem?_eq_getElem bd) rfl;have hxj:=(hL L[j] (List.getElem_mem bd)).2.2.2.2.2;generalize L[j].x=X at*;generalize L.flatMap aP++sp=C at*;have mq:=wv bu;have IS:=(List.getElem?_eq_some_iff.1 bu).1;have dU:((j:Int)+1)=((j+1:Nat):Int):=by omega
  refine VC.ag aa (ae @dm ?_);refine VC.ag aa (ae @dm ?_);refine VC.bA (VC.aD ?_);refine VC.ag aa (ae @dm ?_);refine WC.sound aa (aM @dm @eJ @bu ?_);refine ah.rt (sI X .aq O3 (by omega)) ?_;rintro _ O4 ⟨rfl,bh⟩;have eX:=(bh.hp k (by have:=aO.next;omega)).trans eJ;refine c8 @dm @eX @bu @mq ?_;rw[VH.vJ eX];refine WC.sound aa (ao @dm @dU ?_);exact aC.next (j+1) ⟨aO.trans bh,bd⟩
 intro _ O9 bg;have I4:=(bg.hp k P7).trans hc;refine VC.freeze 5 (sz:=L.length*8) rfl I4 (by rw[List.length_append,dF];omega) ?_;have eG:((L.flatMap aP++sp).drop 0).take (L.length*8)=L.flatMap aP:=by rw[List.drop_zero,List.take_append_of_le_length (by rw[dF];exact Nat.le_refl _), <-dF,List.take_length]
 rw[eG];have rN:=ay.trans bg;have jD:O.Ge (O9.kill k):=⟨rN.next,fun i hi=>(VH.kh _ (by omega)).trans (rN.hp i hi)⟩;refine WC.sound aa (ae @dm ?_);exact⟨_,rfl,jD⟩
theorem HD (L:List Dp) (tk t2:Tok) (O:VH) (hn:L.length<=10000) (hL:∀d∈L,BZ d):
  VF Tryz.prog 173 [.sl L.length (L.flatMap aP) tk,.sl 0 [] t2] O (aI fun m O'=>m= .sl L.length (L.flatMap aP) .aq/\O.Ge O'):=
 VF.Vy (aat L tk t2 O hn hL) fun m O' ⟨t,h1,h3⟩=>⟨_,h1▸Wk.tok,rfl,h3⟩
set_option linter.defProp false in
def iT:=And.intro dm<|And.intro zm<|And.intro BK<|And.intro aez T9
theorem agQ (x:Bs×Bs) (k:Nat) (nm:Bs) (O:VH) (hk:O.hp k=some (.cells [.str nm])) (wJ:k<O.next):VF Tryz.prog 228 ([.agg (aZ x)]++[.ptr k 0]) O (aI fun m O'=>m=mb (x.1==nm)/\O.Ge O'):=by
 obtain⟨x1,x2⟩:=x;unfold aZ;simp only[List.cons_append,List.nil_append];refine VF.bU 8 [.tmp 3] Tryz.func228 ?_;refine VC.ag aa (ae @iT ?_);refine VC.bx ?_;rintro O1 ⟨aU,fJ,du⟩;have dL:=(aU.hp k wJ).trans hk;refine WC.sound aa (aM @iT @fJ @dL ?_);exact aU
theorem agR (L:List (Bs×Bs)) (tk:Tok) (nm:Bs) (O:VH) (hn:L.length<=1000000):VF Tryz.prog 203 [.sl L.length (L.flatMap aZ) tk,.str nm] O (aI fun m O'=>m=mi (idxFrom (fun x=>x.1==nm) 0 L)/\O.Ge O'):=by
 refine VF.bU 8 [.tmp 4] Tryz.func203 ?_;refine VC.ag aa (ae @iT ?_);refine VC.bx ?_;rintro O1 ⟨aU,fJ,du⟩;refine VC.ag aa (ae @iT ?_);refine ah.rt (RZ L tk 228 [.ptr O.next 0] (fun x=>x.1==nm) O1 (by kernel_rfl) (fun q _ O' IW=>agQ q _ nm O' (IW.at fJ) (by have:=IW.next;omega)) hn) ?_;rintro _ O2 ⟨rfl,ay⟩;refine ae @iT ?_;refine WC.sound aa (ae @iT ?_);exact aU.trans ay
theorem HE {α :Type} (p: α ->Bool):∀(L:List α) (i:Nat),(∀x∈L,p x=false)->idxFrom p i L= -1
 | [],i,_=>rfl
 | x::r,i,h=>by
   rw[idxFrom,h x (by simp)];exact HE p r (i+1) fun y hy=>h y (List.mem_cons_of_mem _ hy)
theorem adw (L:List (Bs×Bs)) (tk:Tok) (nm vl:Bs) (O:VH) (hn:L.length<=10000) (fw:∀x∈L,x.1≠nm):VF Tryz.prog 174 [.sl L.length (L.flatMap aZ) tk,.str nm,.str vl] O (aI fun m O'=>(∃t,m= .sl (L++[(nm,vl)]).length ((L++[(nm,vl)]).flatMap aZ) t)/\O.Ge O'):=by
 have aiT:idxFrom (fun x:Bs×Bs=>x.1==nm) 0 L= -1:=HE _ L 0 fun x hx=>by rw[beq_eq_false_iff_ne];exact fw x hx
 refine VF.bU 28 [.tmp 6] Tryz.func174 ?_;refine VC.ag aa (ae @iT ?_);refine VC.ag aa (ae @iT ?_);refine ah.rt (AQ L tk O (by omega)) ?_;rintro _ O2 ⟨t2,rfl,cT,ay⟩;refine ae @iT ?_;refine VC.ag aa (ae @iT ?_);refine ah.rt (agR L t2 nm O2 (by omega)) ?_;rintro _ O3 ⟨rfl,aO⟩;rw[aiT];have mf:=cT.ge aO;refine ae @iT ?_;obtain⟨mE,fP,kN⟩:=fF (n:=L.length) (cs:=L.flatMap aZ) (ds:=[.str nm,.str vl]) (es:=aZ (nm,vl)) zm BK.1.1 mf (aQ eR L) rfl rfl (by decide) (by omega) (by simp only[maxLen];omega) (fG L) (by simp only[aZ,wu]);refine VC.ag aa (ae @iT ?_);refine VL.k6 fP kN ?_;refine ae @iT ?_;refine WC.sound aa (ae @iT ?_);refine⟨⟨.own O3.next 2,by rw[List.length_append,List.flatMap_append];rfl⟩,cK.ec (ay.trans aO) mf (cK.after mf)⟩
theorem Sk (L M:List (Bs×Bs)) (tk tM:Tok) (O:VH) (hn:L.length+M.length<=10000) (fw:∀x∈L,∀y∈M,x.1≠y.1) (hM:M.Pairwise fun x y=>x.1≠y.1):VF Tryz.prog 146 [.sl L.length (L.flatMap aZ) tk,.sl M.length (M.flatMap aZ) tM] O (aI fun m O'=>(∃t,m= .sl (L++M).length ((L++M).flatMap aZ) t)/\O.Ge O'):=by
 have hpm:=aQ eR M;refine VF.bU 24 [.tmp 4] Tryz.func146 ?_;refine VC.ag aa (ae @iT ?_);refine VC.ag aa (ae @iT ?_);refine ah.rt (AQ L tk O (by omega)) ?_;rintro _ O2 ⟨t2,rfl,cT,ay⟩;refine ae @iT ?_;refine VC.join aa [5] (fun t:Tok=>[.sl (L++M).length ((L++M).flatMap aZ) t]) (fun t O'=>O.Ge O') ?_ ?_;rotate_left
 ·intro t O9 bg;refine ae @iT ?_;exact⟨⟨t,rfl⟩,bg⟩
 refine VC.ag aa (ae @iT ?_);refine VC.aD ?_;refine VC.bH [5,12] [10,11] (fun x:Nat×List (Bs×Bs)×Tok=>[.sl x.2.1.length (x.2.1.flatMap aZ) x.2.2,mi x.1]) (fun x O'=>O.Ge O'/\x.1<=M.length/\x.2.1=L++M.take x.1) (fun x=>M.length - x.1) ((0,L,t2)) ?_ ?_
 ·exact⟨ay,Nat.zero_le _,by simp⟩
 rintro⟨j,LM,t⟩ O3 ⟨aO,hj,I9⟩;dsimp only at hj I9 ⊢;by_cases bd:j<M.length;rotate_left
 ·obtain rfl:j=M.length:=by omega
  rw[List.take_length]at I9;subst I9;refine WC.sound aa (ae @iT ?_);exact aA.mk t aO
 have bu:=cj eR M j bd;have iM:L++M.take (j+1)=(L++M.take j)++[M[j]]:=by rw[cN _ _ bd,List.append_assoc]
 have hnw:∀x∈L++M.take j,x.1≠M[j].1:=fun x hx=>by
  rcases List.mem_append.1 hx with hx | hx
  ·exact fw x hx _ (List.getElem_mem bd)
  ·obtain⟨i,hi,rfl⟩:=List.mem_iff_getElem.1 hx;rw[List.length_take]at hi;rw[List.getElem_take];exact(List.pairwise_iff_getElem.1 hM) i j (by omega) bd (by omega)
 have hlen:(L++M.take j).length<=10000:=by rw[List.length_append,List.length_take];omega
 rw[<-I9]at iM hnw hlen;generalize M[j]=y at*;obtain⟨yn,yv⟩:=y;simp only[aZ]at bu;have dU:((j:Int)+1)=((j+1:Nat):Int):=by omega
 refine VC.ag aa (ae @iT ?_);refine VC.ag aa (ae @iT ?_);refine VC.bA (VC.aD ?_);refine VC.ag aa (ao @iT @bu ?_);refine VC.al ?_;rintro O4 ⟨bh,kU,g_⟩;refine WC.sound aa (ao @iT @kU ?_);refine ah.rt (adw LM t yn yv O4 (by omega) hnw) ?_;rintro _ O5 ⟨⟨t5,rfl⟩,bK⟩;refine ae @iT ?_;refine WC.sound aa (ao @iT @dU ?_);exact aC.next (j+1,LM++[(yn,yv)],t5) ⟨(aO.trans bh).trans bK,bd,iM.symm⟩
set_option linter.defProp false in
def bQ:=And.intro iT<|And.intro jY<|And.intro Lc<|And.intro aex<|And.intro xd<|And.intro AF<|And.intro uK<|And.intro T71 T4
theorem m7.ge {O O':VH} {k ke kv ce cv:Nat} {L:List (Gv×Bs×Option Pm)} {E V:eW} {r a:Int} (h:m7 O k L E V ke kv ce cv r a) (g:O.Ge O'):m7 O' k L E V ke kv ce cv r a:=
 ⟨h.st.ge g,h.len,fun i x t o hi=>by obtain⟨q,c,h1,h2,h3⟩:=h.I7 i x t o hi;exact⟨q,c,h1,Nat.lt_of_lt_of_le h2 g.next,(g.hp _ h2).trans h3⟩,h.dis,h.ver.ge g⟩
structure PmC (p:Pm):Prop where
 ok:aah p
 hp:p.hp=false
 dY:∀d∈p.dY,BZ d
 dQ:∀d∈p.dQ,BZ d
 props:p.props.Pairwise fun x y=>x.1≠y.1
theorem aau (p:Pm) (O:VH) (hc:PmC p):VF Tryz.prog 145 [.agg (fO p),.agg eK] O (aI fun m O'=>m= .agg (fO p)/\O.Ge O'):=by
 refine VF.fg ?_;obtain⟨b_,ns,aeY,aav,Sl⟩:=hc;obtain⟨k1,k2,k3,k4,k5⟩:=b_;obtain⟨b,⟨pg,pa,pv⟩,g,a,v,pk,P,M,D⟩:=p;dsimp only at ns k1 k2 k3 k4 k5 aeY aav Sl;subst ns;simp only[fO,aY];refine VF.bU 48 [.cell 4 106] Tryz.func145 ?_;refine VC.ag aa (ae @bQ ?_);refine VC.gen ?_;intro O1 e1;obtain⟨aU,du,cV,cy,fx⟩:=lQ _ _ _ e1;clear e1;refine VC.ag aa (ao @bQ @cV ?_);refine VC.al ?_;rintro O2 ⟨ay,bN,jk⟩;have jn:=ay.at cV;have b9:=ay.at cy;have iY:=ay.at fx;have fZ:=aU.trans ay;clear aU ay cV cy fx;refine VC.ag aa (ao @bQ @bN ?_);refine VC.ag aa (ao @bQ @bN ?_);refine VC.ag aa (aM @bQ @jn @b9 ?_);refine ah.rt (Sk [] P .nil .aq O2 (by simp;omega) (by simp) Sl) ?_;rintro _ O3 ⟨⟨t3,rfl⟩,aO⟩;rw[List.nil_append];have qi:=aO.at jn;have ct:=aO.at b9;have eJ:=aO.at iY;have dG:=aO.at bN;have gZ:=aO.next;refine ao @bQ @dG ?_;refine VC.gen ?_;intro O4 e4;have qV:∀i,i≠O1.next->O4.hp i=O3.hp i:=fun i hi=>by rw[e4];exact VH.ak _ _ hi
 have kx:=(qV _ (by omega)).trans qi;have cL:=(qV _ (by omega)).trans ct;have eX:=(qV _ (by omega)).trans eJ;have kU:O4.hp O1.next=some (.cells [.v (.bool false),.str pg,.str pa,.str pv,.str g,.str a,.str v,.str pk,.sl P.length (P.flatMap aZ) t3,.sl M.length (M.flatMap aP) .aq,.sl D.length (D.flatMap aP) .aq]):=by rw[e4];exact VH.an _ _ _
 have g_:O4.next=O3.next:=by rw[e4];rfl
 have gE:O.Ge O4:=by rw[e4];exact(fZ.trans aO).set (by omega) _
 clear e4 qV qi ct eJ dG jn b9 iY bN;refine VC.bA ?_;refine VC.CD [11,12,13] (O.next) (O.next+1) (kx) (cL) ?_ (hne:=(by omega));intro X1 X2;refine ab.av 0 ?_;refine ae @bQ ?_;refine ab.pJ (m:=.sl M.length (M.flatMap aP) .aq) 1 (fun _ h=>h.1) (fun _ h=>h.1) ?_ ?_
 ·exact fe @bQ
 simp only[aj];refine ab.av 2 ?_;refine ae @bQ ?_;refine ab.pJ (m:=.sl 0 [] .nil) 3 (fun _ h=>h.2) (fun _ h=>h.2) ?_ ?_
 ·exact fe @bQ
 simp only[aj];refine ab.av 5 ?_;refine ae @bQ ?_;refine ab.pJ (m:=.sl D.length (D.flatMap aP) .aq) 6 (fun _ h=>h.1) (fun _ h=>h.1) ?_ ?_
 ·exact fe @bQ
 simp only[aj];refine ab.av 7 ?_;refine ae @bQ ?_;refine ab.pJ (m:=.sl 0 [] .nil) 8 (fun _ h=>h.2) (fun _ h=>h.2) ?_ ?_
 ·exact fe @bQ
 simp only[aj];have hJ:LH O.next (O.next+1) X1 X2 ((O4.set O.next (.obj X1)).set (O.next+1) (.obj X2)):=⟨VH.sn (VH.an _ _ _),VH.an _ _ _⟩;have gd:=(VH.ak (O4.set O.next (.obj X1)) (.obj X2) (by omega:O1.next≠O.next+1)).trans ((VH.ak O4 (.obj X1) (by omega:O1.next≠O.next)).trans kU);have fm:=(VH.ak (O4.set O.next (.obj X1)) (.obj X2) (by omega:O.next+2≠O.next+1)).trans ((VH.ak O4 (.obj X1) (by omega:O.next+2≠O.next)).trans eX);have gu:((O4.set O.next (.obj X1)).set (O.next+1) (.obj X2)).next=O4.next:=rfl;have bK:O.Ge ((O4.set O.next (.obj X1)).set (O.next+1) (.obj X2)):=(gE.set (by omega) _).set (by omega) _;generalize (O4.set O.next (.obj X1)).set (O.next+1) (.obj X2)=O5 at*;refine ab.call (i:=4) (HD M .aq .nil O5 k2 aeY) ?_;rintro _ O6 ⟨rfl,fS⟩;simp only[aj];refine⟨⟨fS.at hJ.1,fS.at hJ.2⟩,?_⟩;refine ab.av 10 ?_;refine ae @bQ ?_;refine ab.call (i:=9) (HD D .aq .nil O6 k3 aav) ?_;rintro _ O7 ⟨rfl,en⟩;simp only[aj];have qz:=fS.trans en;refine⟨⟨qz.at hJ.1,qz.at hJ.2⟩,?_⟩;have tO:=qz.at gd;have hc7:=qz.at fm;refine ab.we [(11,.one),(12,.av),(13,.one)] ?_ (hne:=(by omega));have sN:=(VH.ak (O7.set O.next (.cells [.v (.bool false),.str pg,.str pa,.str pv,.str g,.str a,.str v,.str pk,.sl P.length (P.flatMap aZ) .aq,.sl M.length (M.flatMap aP) .aq,.sl D.length (D.flatMap aP) .aq])) (.cells eK) (by omega:O1.next≠O.next+1)).trans ((VH.ak O7 (.cells [.v (.bool false),.str pg,.str pa,.str pv,.str g,.str a,.str v,.str pk,.sl P.length (P.flatMap aZ) .aq,.sl M.length (M.flatMap aP) .aq,.sl D.length (D.flatMap aP) .aq]) (by omega:O1.next≠O.next)).trans tO);refine ao @bQ @tO ?_;refine VC.gen ?_;intro O8 e8;have gq:O.Ge O8:=by rw[e8];exact((((bK.trans qz).set (by omega) _).set (by omega) _).set (by omega) _).set (by omega) _
 have hk9:O8.hp O1.next=some (.cells [.v (.bool false),.str pg,.str pa,.str pv,.str g,.str a,.str v,.str pk,.sl P.length (P.flatMap aZ) t3,.sl M.length (M.flatMap aP) .aq,.sl D.length (D.flatMap aP) .aq]):=by rw[e8];exact VH.an _ _ _
 have I4:O8.hp (O.next+2)=some (.cells eK):=by rw[e8,VH.ak _ _ (by omega),VH.ak _ _ (by omega),VH.ak _ _ (by omega),VH.ak _ _ (by omega)];exact hc7
 clear e8;have Mw:O.next+1+1=O.next+2:=by omega
 rw[Mw];refine VC.ag aa (aM @bQ @hk9 @I4 ?_);refine WC.sound aa (ae @bQ ?_)
 first
  | exact gq.set (by omega) _
  | exact⟨by simp only[wu,fG,kL],gq.set (by omega) _⟩
theorem adx {O:VH} {k ke kv ce cv:Nat} {L:List (Gv×Bs×Option Pm)} {E V:eW} {r a:Int} (h:m7 O k L E V ke kv ce cv r a) {i:Nat} {g:Gv} {t:Bs} {n:Nd} {p:Pm} (hi:L[i]?=some (g,t,none)) (hg:sJ g) (ht:t.length<=65536) (hb:gD t= .ok n) (hr:ou n= .ok p) (hc:PmC p):
  VF Tryz.prog 144 [.ptr k 0,.agg (bL g)] O (aI fun m O'=>(∃t1 t2,m= .tuple [.sl 1 (fO p) t1,.sl 1 (bL g) t2,.agg (oS iw)])/\∃q,iK (ef g) E=some (.ptr q 0)/\q<O.next/\(∃r' a',O'.hp k=some (.cells [.map ke,.map kv,mi r',mi a']))/\O'.hp q=some (.cells (iz t 1 0 p iw))/\cW O k q O'):=by
 obtain⟨q,c,fR,pB,hq,_⟩:=h.some hi;have Cp:=fun(O':VH) (g':O.Ge O')=>agM (h.st.ge g') g hg fR ((g'.hp q pB).trans hq) (Nat.lt_of_lt_of_le pB g'.next) ht hb hr hc.ok
 have kP:=h.st.lt.1;have ns:=hc.hp;have akk:=hc.ok;clear hi hq h hc hb hr;have hpu:=UW p;obtain⟨g1,g2,g3⟩:=g;obtain⟨b,⟨pg,pa,pv⟩,pG,pA,pV,pk,P,M,D⟩:=p;dsimp only at ns;subst ns;simp only[bL,fO,oS,iw,aY,au]at Cp hpu ⊢;refine VF.bU 51 [.tmp 4,.tmp 5,.cell 6 71] Tryz.func144 ?_;refine VC.ag aa (ae @bQ ?_);refine VC.gen ?_;intro O1 e1;obtain⟨aU,du,cV,cy⟩:=gh _ _ e1;clear e1;refine VC.ag aa (ae @bQ ?_);refine VC.ag aa (ae @bQ ?_);refine VC.aD ?_;refine VC.bH [7,8] [0,3,6] (fun _:Unit=>[.sl 0 [] .nil,.sl 0 [] .nil]) (fun _ O'=>O'=O1) (fun _=>0) (()) ?_ ?_
 ·rfl
 rintro _ O2 e2;rw[e2];clear e2 O2
 refine VC.aD ?_;refine VC.ag aa (ao @bQ @cV ?_);refine ah.rt (Cp O1 aU) ?_;rintro _ O2 ⟨rfl,⟨r',a',bN⟩,z_,c7⟩;have jk:=c7.next;have jn:=(c7.hp _ (by omega) (by omega) (by omega)).trans cV;have b9:=(c7.hp _ (by omega) (by omega) (by omega)).trans cy;have Mx:=(cW.of (k:=k) (q:=q) aU).trans c7;refine ae @bQ ?_;refine VC.gen ?_;intro O3 e3;have aO:O2.Ge O3:=by rw[e3];exact((((VH.Ge.refl O2).push _).push _).set (Nat.le_refl _) _).set (Nat.le_succ _) _
 have ov:O3.hp O2.next=some (.cells [.v (.bool false),.str pg,.str pa,.str pv,.str pG,.str pA,.str pV,.str pk,.sl P.length (P.flatMap aZ) .aq,.sl M.length (M.flatMap aP) .aq,.sl D.length (D.flatMap aP) .aq]):=by rw[e3,VH.ak _ _ (by omega)];exact VH.an _ _ _
 have kQ:O3.hp (O2.next+1)=some (.cells [.v (.int .i64 0),.str [],.str [],.str [],.v (.int .i64 0),.v (.int .i64 0),.v (.int .i64 0),.str []]):=by rw[e3];exact VH.an _ _ _
 have gZ:O3.next=O2.next+2:=by rw[e3];rfl
 clear e3;have qi:=aO.at jn;have ct:=aO.at b9;have dG:=aO.at bN;have vk:=aO.at z_;have cG:=Mx.ge aO;clear jn b9 bN z_ Mx c7 cV cy;refine VC.ag aa (ao @bQ @kQ ?_);refine VL.B6 aa (bb:=false) (b:=true) (by simp) (by simp[iJ]) (.inr ⟨rfl,rfl⟩) (by kernel_rfl) (by kernel_rfl) rfl rfl rfl rfl ?_;refine ae @bQ ?_;refine VC.bA ?_;refine VC.CD [] (O2.next) (O.next) (ov) (qi) ?_ (hne:=(by omega));intro X1 X2;refine ab.av 0 ?_;refine ae @bQ ?_;refine ab.pJ (m:=.agg [.v (.bool false),.str pg,.str pa,.str pv,.str pG,.str pA,.str pV,.str pk,.sl P.length (P.flatMap aZ) .aq,.sl M.length (M.flatMap aP) .aq,.sl D.length (D.flatMap aP) .aq]) 1 (fun _ h=>h.1) (fun _ h=>h.1) ?_ ?_
 ·exact fe @bQ
 simp only[aj];refine ab.av 4 ?_;refine ae @bQ ?_;refine ab.pJ (m:=.agg [.str g1,.str g2,.str g3]) 5 (fun _ h=>h.2) (fun _ h=>h.2) ?_ ?_
 ·exact fe @bQ
 simp only[aj];have mo:True:=trivial;have hJ:LH O2.next O.next X1 X2 ((O3.set O2.next (.obj X1)).set O.next (.obj X2)):=⟨VH.sn (VH.an _ _ _),VH.an _ _ _⟩;have gu:((O3.set O2.next (.obj X1)).set O.next (.obj X2)).next=O3.next:=rfl;have jq:∀i,i≠O2.next->i≠O.next->((O3.set O2.next (.obj X1)).set O.next (.obj X2)).hp i=O3.hp i:=fun i h1 h2=>by rw[VH.ak _ _ h2,VH.ak _ _ h1]
 generalize (O3.set O2.next (.obj X1)).set O.next (.obj X2)=O5 at*;have mf:=bo (tk:=.nil) (tk':=.full) (B:=0) (n:=0) (k:=1) (cs:=[]) (ds:=[.v (.bool false),.str pg,.str pa,.str pv,.str pG,.str pA,.str pV,.str pk,.sl P.length (P.flatMap aZ) .aq,.sl M.length (M.flatMap aP) .aq,.sl D.length (D.flatMap aP) .aq]) aex Lc.1.1 (O:=O5) trivial rfl rfl rfl (by decide) (by decide) (by decide) (by decide);have aaw:O5.Ge (O5.after .nil):=cK.Cc (tk:=.nil) (sz:=11) trivial (cK.after (sz:=11) (B:=0) trivial);have I_:LH O2.next O.next X1 X2 (O5.after .nil):=⟨aaw.at hJ.1,aaw.at hJ.2⟩;have hY:=bo (tk:=.nil) (tk':=.full) (B:=0) (n:=0) (k:=1) (cs:=[]) (ds:=[.str g1,.str g2,.str g3]) xd AF.1.1 (O:=O5.after .nil) trivial rfl rfl rfl (by decide) (by decide) (by decide) (by decide);have aiU:(O5.after .nil).Ge ((O5.after .nil).after .nil):=cK.Cc (tk:=.nil) (sz:=3) trivial (cK.after (sz:=3) (B:=0) trivial);have qz:=aaw.trans aiU;have Cq:LH O2.next O.next X1 X2 ((O5.after .nil).after .nil):=⟨qz.at hJ.1,qz.at hJ.2⟩;rw[Nat.zero_add,List.nil_append]at mf hY;refine ab.pair (i:=2) (j:=6) ?_ ?_
 ·refine aH.o1 ?_;refine ae @bQ ?_;refine⟨hJ,?_⟩;refine ab.pair (i:=3) (j:=6) ?_ ?_
  ·refine aH.o1 ?_;rw[cI];refine ao @bQ @mf ?_;refine⟨I_,?_⟩;refine ab.op (i:=6) ?_;refine ae @bQ ?_;refine⟨I_,?_⟩;refine ab.op (i:=7) ?_;rw[cI];refine ao @bQ @hY ?_;refine⟨Cq,?_⟩;refine ab.op (i:=8) ?_;refine ae @bQ ?_;refine⟨Cq,?_⟩;refine ab.op (i:=9) ?_;refine ae @bQ ?_;refine⟨Cq,?_⟩;refine ab.we [] ?_ (hne:=(by omega));refine ae @bQ ?_;refine VC.gen ?_;intro O8 e8
   have yc:∀i,i<O5.next->i≠O2.next->i≠O.next->O8.hp i=O5.hp i:=fun i h1 h2 h3=>by
    rw[e8,VH.ak _ _ h3,VH.ak _ _ h2];exact qz.hp i h1
   have z8:O8.hp O2.next=some (.cells [.v (.bool false),.str pg,.str pa,.str pv,.str pG,.str pA,.str pV,.str pk,.sl P.length (P.flatMap aZ) .aq,.sl M.length (M.flatMap aP) .aq,.sl D.length (D.flatMap aP) .aq]):=by rw[e8,VH.ak _ _ (by omega)];exact VH.an _ _ _
   have DU:O3.next<=O8.next:=by
    have h1:=qz.next;have h2:O8.next=((O5.after .nil).after .nil).next:=by rw[e8];rfl
    omega
   clear e8;have oI:∀i,i<O3.next->i≠O2.next->i≠O.next->O8.hp i=O3.hp i:=fun i h1 h2 h3=>(yc i (by omega) h2 h3).trans (jq i h2 h3)
   have sm:=(oI (O.next+1) (by omega) (by omega) (by omega)).trans ct;have sN:=(oI k (by omega) (by omega) (by omega)).trans dG;have My:=(oI q (by omega) (by omega) (by omega)).trans vk;have qg:cW O k q O8:=⟨by omega,fun i h1 h2 h3=>(oI i (by omega) (by omega) (by omega)).trans (cG.hp i h1 h2 h3)⟩;refine VC.ag aa (aM @bQ @z8 @sm ?_);exact⟨⟨_,_,rfl⟩,q,fR,pB,⟨r',a',sN⟩,(by first | exact My | exact VH.sn My),⟨qg.next,fun i h1 h2 h3=>VH.sn (qg.hp i h1 h2 h3)⟩⟩
  ·refine aH.o1 ?_;refine ae @bQ ?_;refine⟨hJ,?_⟩;refine ab.op (i:=3) ?_;rw[cI];refine ao @bQ @mf ?_;refine⟨I_,?_⟩;refine ab.op (i:=7) ?_;rw[cI];refine ao @bQ @hY ?_;refine⟨Cq,?_⟩;refine ab.op (i:=8) ?_;refine ae @bQ ?_;refine⟨Cq,?_⟩;refine ab.op (i:=9) ?_;refine ae @bQ ?_;refine⟨Cq,?_⟩;refine ab.we [] ?_ (hne:=(by omega));refine ae @bQ ?_;refine VC.gen ?_;intro O8 e8
   have yc:∀i,i<O5.next->i≠O2.next->i≠O.next->O8.hp i=O5.hp i:=fun i h1 h2 h3=>by
    rw[e8,VH.ak _ _ h3,VH.ak _ _ h2];exact qz.hp i h1
   have z8:O8.hp O2.next=some (.cells [.v (.bool false),.str pg,.str pa,.str pv,.str pG,.str pA,.str pV,.str pk,.sl P.length (P.flatMap aZ) .aq,.sl M.length (M.flatMap aP) .aq,.sl D.length (D.flatMap aP) .aq]):=by rw[e8,VH.ak _ _ (by omega)];exact VH.an _ _ _
   have DU:O3.next<=O8.next:=by
    have h1:=qz.next;have h2:O8.next=((O5.after .nil).after .nil).next:=by rw[e8];rfl
    omega
   clear e8;have oI:∀i,i<O3.next->i≠O2.next->i≠O.next->O8.hp i=O3.hp i:=fun i h1 h2 h3=>(yc i (by omega) h2 h3).trans (jq i h2 h3)
   have sm:=(oI (O.next+1) (by omega) (by omega) (by omega)).trans ct;have sN:=(oI k (by omega) (by omega) (by omega)).trans dG;have My:=(oI q (by omega) (by omega) (by omega)).trans vk;have qg:cW O k q O8:=⟨by omega,fun i h1 h2 h3=>(oI i (by omega) (by omega) (by omega)).trans (cG.hp i h1 h2 h3)⟩;refine VC.ag aa (aM @bQ @z8 @sm ?_);exact⟨⟨_,_,rfl⟩,q,fR,pB,⟨r',a',sN⟩,(by first | exact My | exact VH.sn My),⟨qg.next,fun i h1 h2 h3=>VH.sn (qg.hp i h1 h2 h3)⟩⟩
 ·refine aH.o1 ?_;refine ae @bQ ?_;refine⟨hJ,?_⟩;refine ab.op (i:=2) ?_;refine ae @bQ ?_;refine⟨hJ,?_⟩;refine ab.op (i:=3) ?_;rw[cI];refine ao @bQ @mf ?_;refine⟨I_,?_⟩;refine ab.op (i:=7) ?_;rw[cI];refine ao @bQ @hY ?_;refine⟨Cq,?_⟩;refine ab.op (i:=8) ?_;refine ae @bQ ?_;refine⟨Cq,?_⟩;refine ab.op (i:=9) ?_;refine ae @bQ ?_;refine⟨Cq,?_⟩;refine ab.we [] ?_ (hne:=(by omega));refine ae @bQ ?_;refine VC.gen ?_;intro O8 e8
  have yc:∀i,i<O5.next->i≠O2.next->i≠O.next->O8.hp i=O5.hp i:=fun i h1 h2 h3=>by
   rw[e8,VH.ak _ _ h3,VH.ak _ _ h2];exact qz.hp i h1
  have z8:O8.hp O2.next=some (.cells [.v (.bool false),.str pg,.str pa,.str pv,.str pG,.str pA,.str pV,.str pk,.sl P.length (P.flatMap aZ) .aq,.sl M.length (M.flatMap aP) .aq,.sl D.length (D.flatMap aP) .aq]):=by rw[e8,VH.ak _ _ (by omega)];exact VH.an _ _ _
  have DU:O3.next<=O8.next:=by
   have h1:=qz.next;have h2:O8.next=((O5.after .nil).after .nil).next:=by rw[e8];rfl
   omega
  clear e8;have oI:∀i,i<O3.next->i≠O2.next->i≠O.next->O8.hp i=O3.hp i:=fun i h1 h2 h3=>(yc i (by omega) h2 h3).trans (jq i h2 h3)
  have sm:=(oI (O.next+1) (by omega) (by omega) (by omega)).trans ct;have sN:=(oI k (by omega) (by omega) (by omega)).trans dG;have My:=(oI q (by omega) (by omega) (by omega)).trans vk;have qg:cW O k q O8:=⟨by omega,fun i h1 h2 h3=>(oI i (by omega) (by omega) (by omega)).trans (cG.hp i h1 h2 h3)⟩;refine VC.ag aa (aM @bQ @z8 @sm ?_);exact⟨⟨_,_,rfl⟩,q,fR,pB,⟨r',a',sN⟩,(by first | exact My | exact VH.sn My),⟨qg.next,fun i h1 h2 h3=>VH.sn (qg.hp i h1 h2 h3)⟩⟩
theorem V1 {O:VH} {k ke kv ce cv:Nat} {L:List (Gv×Bs×Option Pm)} {E V:eW} {r a:Int} (h:m7 O k L E V ke kv ce cv r a) {i:Nat} {g:Gv} {t:Bs} {n:Nd} {p:Pm} (hi:L[i]?=some (g,t,none)) (hg:sJ g) (ht:t.length<=65536) (hb:gD t= .ok n) (hr:ou n= .ok p) (hc:PmC p):
  VF Tryz.prog 119 [.ptr k 0,.agg (bL g)] O (aI fun m O'=>m= .tuple [.agg (fO p),.agg (oS iw)]/\∃q,iK (ef g) E=some (.ptr q 0)/\q<O.next/\(∃r' a',O'.hp k=some (.cells [.map ke,.map kv,mi r',mi a']))/\O'.hp q=some (.cells (iz t 1 0 p iw))/\cW O k q O'):=by
 have hsq:=h.some hi;obtain⟨q0,c,oH,aeZ,Mz,hE0⟩:=hsq;have hw:=fun(O':VH) (g':O.Ge O')=>adx (O:=O') (k:=k) (L:=L) (E:=E) (V:=V) (h.ge g') hi hg ht hb hr hc
 have Cr:=fun O'=>aau p O' hc
 have kP:=h.st.lt.1;have ns:=hc.hp;clear hc hr hb hi h Mz hE0;obtain⟨g1,g2,g3⟩:=g;obtain⟨b,⟨pg,pa,pv⟩,pG,pA,pV,pk,P,M,D⟩:=p;dsimp only at ns;subst ns;simp only[bL,fO,oS,iw,au,aY]at hw Cr ⊢;refine VF.bU 38 [.cell 4 106,.cell 5 71] Tryz.func119 ?_;refine VC.ag aa (ae @bQ ?_);refine VC.gen ?_;intro O1 e1;obtain⟨aU,du,cV,cy,fx⟩:=lQ _ _ _ e1;clear e1;refine VC.ag aa (ao @bQ @cV ?_);refine ah.rt (hw O1 aU) ?_;rintro _ O2 ⟨⟨t1,t2,rfl⟩,q,fR,akl,⟨r',a',bN⟩,z_,c7⟩;obtain rfl:q=q0:=by rw[fR]at oH;injection oH with e;injection e
 have jk:=c7.next;have jn:=(c7.hp _ (by omega) (by omega) (by omega)).trans cV;have b9:=(c7.hp _ (by omega) (by omega) (by omega)).trans cy;have iY:=(c7.hp _ (by omega) (by omega) (by omega)).trans fx;have Mx:=(cW.of (k:=k) (q:=q) aU).trans c7;refine ae @bQ ?_;refine VC.al ?_;rintro O3 ⟨aO,kQ,gZ⟩;have ct:=aO.at b9;have eJ:=aO.at iY;have dG:=aO.at bN;have vk:=aO.at z_;have cG:=Mx.ge aO;clear jn b9 iY bN z_ Mx c7 cV cy fx hw;refine VC.ag aa (ao @bQ @kQ ?_);refine VL.B6 aa (bb:=false) (b:=true) (by simp) (by simp[iJ]) (.inr ⟨rfl,rfl⟩) (by kernel_rfl) (by kernel_rfl) rfl rfl rfl rfl ?_;refine ae @bQ ?_;refine VC.ag aa (ae @bQ ?_);refine VC.bx ?_;rintro O4 ⟨bh,jC,g_⟩;have cL:=bh.at ct;have eX:=bh.at eJ;have kU:=bh.at dG;have I6:=bh.at vk;have eS:=cG.ge bh;clear ct eJ dG vk cG;refine VC.bE [4,5,9] (fun _:Unit=>[.ptr (O.next+1) 0,.ptr (O.next+2) 0,.ptr O3.next 0]) (fun _ O'=>∃O5,O4.Ge O5/\O'=O5.set O3.next (.cells [.v (.bool false),.str pg,.str pa,.str pv,.str pG,.str pA,.str pV,.str pk,.sl P.length (P.flatMap aZ) .aq,.sl M.length (M.flatMap aP) .aq,.sl D.length (D.flatMap aP) .aq])) ?_ ?_
 ·refine VC.ag aa (ae @bQ ?_);refine VC.aD ?_;refine VC.bH [10] [4,5,6,9] (fun x:Bool=>[mi (bif x then -1 else 0)]) (fun x O'=>(x=false->O'=O4)/\(x=true->∃O5,O4.Ge O5/\O'=O5.set O3.next (.cells [.v (.bool false),.str pg,.str pa,.str pv,.str pG,.str pA,.str pV,.str pk,.sl P.length (P.flatMap aZ) .aq,.sl M.length (M.flatMap aP) .aq,.sl D.length (D.flatMap aP) .aq]))) (fun x=>bif x then 0 else 1) (false) ?_ ?_
  ·exact⟨fun _=>rfl,fun e=>by cases e⟩
  rintro x O5 ⟨hf,ht'⟩;cases x with
  | true=>
    obtain⟨O6,fS,e6⟩:=ht' rfl;simp only[cond_true];refine WC.sound aa (ae @bQ ?_);exact aA.mk () ⟨O6,fS,e6⟩
  | false=>
    have e5:=hf rfl;rw[e5];clear e5 hf ht' O5
    simp only[cond_false];refine VC.ag aa (ae @bQ ?_);refine VC.bA (VC.aD ?_);refine VC.sC [] (fun _=>True) (trivial) ?_;refine ab.av 0 ?_;refine ae @bQ ?_;refine ab.av 1 ?_;refine ae @bQ ?_;refine ab.av 2 ?_;refine ae @bQ ?_;refine ab.av 3 ?_;refine ae @bQ ?_;refine ab.op (i:=4) ?_;refine ao @bQ @jC ?_;refine ab.call (i:=5) (Cr O4) ?_;rintro _ O5 ⟨rfl,bK⟩;simp only[aj];refine⟨trivial,?_⟩;have m6:=bK.at jC;refine ab.op (i:=6) ?_;refine ao @bQ @m6 ?_;refine ab.bI [] ?_;refine ae @bQ ?_;refine WC.sound aa (ae @bQ ?_);exact aC.next true ⟨(fun e=>by cases e),fun _=>⟨O5,bK,rfl⟩⟩ (hm:=(by decide))
 rintro _ O9 ⟨O5,bK,e9⟩;have gu:=bK.next;have Bb:∀i,i≠O3.next->O9.hp i=O5.hp i:=fun i h1=>by rw[e9];exact VH.ak _ _ h1
 have hx9:O9.hp O3.next=some (.cells [.v (.bool false),.str pg,.str pa,.str pv,.str pG,.str pA,.str pV,.str pk,.sl P.length (P.flatMap aZ) .aq,.sl M.length (M.flatMap aP) .aq,.sl D.length (D.flatMap aP) .aq]):=by rw[e9];exact VH.an _ _ _
 have br:=(Bb _ (by omega)).trans (bK.at cL);have I4:=(Bb _ (by omega)).trans (bK.at eX);have hk9:=(Bb k (by omega)).trans (bK.at kU);have hq9:=(Bb q (by omega)).trans (bK.at I6);have EC:O9.next=O5.next:=by rw[e9];rfl
 have gK:cW O k q O9:=⟨by omega,fun i h1 h2 h3=>(Bb i (by omega)).trans (bK.at (eS.hp i h1 h2 h3))⟩;clear e9 Bb;have Mw:O.next+1+1=O.next+2:=by omega
 refine VC.ag aa (c8 @bQ @hx9 @br @I4 ?_);refine WC.sound aa (ae @bQ ?_);exact⟨q,fR,aeZ,⟨r',a',hk9⟩,(by first | exact hq9 | exact VH.sn (VH.sn hq9)),⟨gK.next,fun i h1 h2 h3=>VH.sn (VH.sn (gK.hp i h1 h2 h3))⟩⟩
set_option linter.defProp false in
def eL:=And.intro bQ<|And.intro dj<|And.intro Ld<|And.intro th<|And.intro ahY<|And.intro aew<|And.intro ahZ<|And.intro aey<|And.intro G_<|And.intro zj ah6
def qW (s:Bs):Prop:=Lib.index s [36,123]<0
theorem ady (s:Bs) (O:VH) (h:qW s) (hs:s.length<=1000000):VF Tryz.prog 205 [.str s] O (aI fun m O'=>m= .tuple [.str s,.str [],.str [],mb false]/\O'=O):=by
 have h':Lib.index s [36,123]<0:=h;refine VF.bU 36 [.tmp 2,.tmp 3,.tmp 4,.tmp 5] Tryz.func205 ?_;refine VC.ag aa (ae @eL ?_);refine VC.ag aa (ae @eL ?_);refine ah.rt (LN s [36,123] O (by omega)) ?_;rintro _ O2 ⟨rfl,eO⟩;rw[eO];clear eO O2
 generalize Lib.index s [36,123]=x at*;have hd:decide (x<0)=true:=decide_eq_true h';refine ae @eL ?_;refine VC.ag aa (ao @eL @hd ?_);trivial
theorem agS {O:VH} {B b:Nat} {q:Option Nat} {s:Bs} (h:fE O B b q s):VF Tryz.prog 104 [.ptr b 0] O (aI fun m O'=>m=mi s.length/\O'=O):=by
 obtain⟨p,buf,h1,_,wQ,_,_⟩:=h.cell;refine VF.bU 8 [.tmp 2] Tryz.func104 ?_;rcases wQ with⟨h0,_,rfl | rfl⟩ | ⟨k,c,rfl,_⟩
 ·rw[h0];refine VC.ag aa (ae @eL ?_);refine WC.sound aa (ao @eL @h1 ?_);trivial
 ·rw[h0];refine VC.ag aa (ae @eL ?_);refine WC.sound aa (ao @eL @h1 ?_);trivial
 ·refine VC.ag aa (ae @eL ?_);refine WC.sound aa (ao @eL @h1 ?_);trivial
theorem aax {O:VH} {B b nb:Nat} {q:Option Nat} {s:Bs} (h:fE O B b q s) (l:Bs) (hl:s.length+l.length<=4096):VF Tryz.prog 204 ([.str l]++[.ptr b 0,.ptr nb 0]) O (aI fun m O'=>∃q',fE O' B b q' (s++l)/\eP O b q O' q'):=by
 simp only[List.cons_append,List.nil_append];refine VF.bU 11 [] Tryz.func204 ?_;refine VC.ag aa (ae @eL ?_);refine ah.rt (bC l h (by omega)) ?_;rintro _ O2 ⟨rfl,q2,b9,c7⟩;refine ae @eL ?_;refine VC.ag aa (ae @eL ?_);refine ah.rt (agS b9) ?_;rintro _ O3 ⟨rfl,eO⟩;rw[eO];clear eO O3
 have Zo:(s++l).length<=4096:=by rw[List.length_append];exact hl
 refine ae @eL ?_;refine WC.sound aa (ae @eL ?_);exact⟨q2,b9,c7⟩
theorem MA (wb:Nat) (s nm:Bs) (O:VH) (h:qW s) (hs:s.length<=4096):VF Tryz.prog 176 [.ptr wb 0,.str s,.str nm] O (aI fun m O'=>m= .str s/\O.Ge O'):=by
 refine VF.bU 53 [.tmp 6] Tryz.func176 ?_;refine VC.ag aa (ae @eL ?_);refine VC.bx ?_;rintro O1 ⟨aU,fJ,du⟩;refine VC.ag aa (ae @eL ?_);have uN:=fE.fresh O1 (Nat.le_refl O1.next);have lO:O1.Ge ((O1.push (.cells [.v (.pointer none),.sl 0 [] .nil])).push (.shape O1.next 145 2)):=((VH.Ge.refl O1).push _).push _;generalize ((O1.push (.cells [.v (.pointer none),.sl 0 [] .nil])).push (.shape O1.next 145 2))=O2 at*;refine VC.ag aa (ae @eL ?_);refine VC.aD ?_;refine VC.bH [1] [0,7,8] (fun _:Unit=>[.str s]) (fun _ O'=>O'=O2) (fun _=>0) (()) ?_ ?_
 ·rfl
 rintro _ O3 e3;rw[e3];clear e3 O3
 refine VC.aD ?_;refine VC.ag aa (ae @eL ?_);refine ah.rt (ady s O2 h (by omega)) ?_;rintro _ O3 ⟨rfl,eO⟩;rw[eO];clear eO O3
 refine ae @eL ?_;refine VC.ag aa (ae @eL ?_);refine ah.rt (aax (nb:=O.next) uN s (by simp;omega)) ?_;rintro _ O3 ⟨q3,ct,cG⟩;rw[List.nil_append]at ct;have aO:O1.Ge O3:=eP.Cc lO cG (Nat.le_refl _);refine ae @eL ?_;refine VC.ag aa (ae @eL ?_);refine ah.rt (po ct (by simp only[maxLen];omega)) ?_;rintro _ O4 ⟨rfl,eS⟩;refine ae @eL ?_;exact aU.trans (aO.RT eS ct.xe)
abbrev tU:=List (Bs×Bs×Nat)
def tG (M:tU):wL:=M.map fun p=>(.str p.1,.str p.2.1,p.2.2)
def wT (k:Bs) (M:tU):Option Bs:=(M.find? (·.1==k)).map (·.2.1)
def MB (k:Bs):tU->Nat->Option (Nat×MV)
 | [],_=>none
 | p::M,i=>if k==p.1 then some (i,.str p.2.1)else MB k M (i+1)
theorem Ja (k:Bs):∀(M:tU) (i:Nat),ue .string (.str k) (tG M) i=some (MB k M i)
 | [],i=>rfl
 | p::M,i=>by
   show ue .string (.str k) ((.str p.1,.str p.2.1,p.2.2)::tG M) i=_;rw[ue,MB];simp only[H_];cases h:k==p.1
   ·simp[Ja k M (i+1)]
   ·simp
theorem Sm (k:Bs):∀(M:tU) (i:Nat),(MB k M i).map (·.2)=(wT k M).map .str
 | [],i=>rfl
 | p::M,i=>by
   rw[MB];unfold wT;rw[List.find?_cons];cases h:k==p.1
   ·have h':(p.1==k)=false:=by rw[beq_eq_false_iff_ne]at h ⊢;exact Ne.symm h
    rw[h'];simpa[wT]using Sm k M (i+1)
   ·have h':(p.1==k)=true:=by rw[beq_iff_eq]at h ⊢;exact h.symm
    rw[h'];rfl
theorem Jb {tab:bS} {O:VH} {t kt et:TypeId} {a b' c d c' d':Nat} {z y:List MV} {b ck:Nat} {M:tU} {k:Bs} {ok:Bool} (h:tab t=some ⟨.map kt et,a,b',z⟩) (hk:tab kt=some ⟨.string,c,d,y⟩) (he:tab et=some ⟨.string,c',d',[.str []]⟩) (hb:O.hp b=some (.map (tG M) ck)):
  jy tab O t (.map b) (.str k) ok=some (xO ok (.str []) ((wT k M).map .str)):=by
 unfold jy;simp only[h,hk,he,Option.map_some,mapOf,hb,Option.bind_some,Ja,Bo];have:=Sm k M 0;cases hf:MB k M 0 with
 | none=>
   rw[hf]at this;rw[<-this];cases ok<;>rfl
 | some p=>
   rw[hf]at this;rw[<-this];cases ok<;>rfl
theorem HF {k:Bs}:∀{M:tU} {i:Nat},(∀p∈M,p.1≠k)->MB k M i=none
 | [],i,_=>rfl
 | p::M,i,h=>by
   have h':(k==p.1)=false:=by rw[beq_eq_false_iff_ne];exact Ne.symm (h p (by simp))
   rw[MB,h',if_neg (by simp)];exact HF fun q hq=>h q (List.mem_cons_of_mem _ hq)
theorem aay {tab:bS} {O:VH} {t kt et:TypeId} {a b' c d:Nat} {z y:List MV} {b ck:Nat} {M:tU} {k v:Bs} (h:tab t=some ⟨.map kt et,a,b',z⟩) (hk:tab kt=some ⟨.string,c,d,y⟩) (hb:O.hp b=some (.map (tG M) ck)) (fw:∀p∈M,p.1≠k):
  eZ tab O t (.map b) (.str k) (.str v)=some (O.set b (.map (tG (M++[(k,v,ck)])) (ck+1))):=by
 unfold eZ;simp only[h,hk,Option.map_some,hb,Ja,Bo,HF fw];simp[tG]
theorem HG {k:Bs} {M:tU} (h:∀p∈M,p.1≠k):wT k M=none:=by
 unfold wT;rw[List.find?_eq_none.2 (fun p hp=>by simpa using h p hp)];rfl
theorem MC:∀{L:List (Bs×Bs)} {R:tU} {x:Bs×Bs},L.Pairwise (fun x y=>x.1≠y.1)->R.map (fun p=>(p.1,p.2.1))=L->x∈L->wT x.1 R=some x.2
 | [],R,x,_,_,hx=>by simp at hx
 | y::L,[],x,_,e,_=>by simp at e
 | y::L,p::R,x,h,e,hx=>by
   rw[List.map_cons]at e;injection e with e1 e2;obtain⟨h1,h2⟩:=List.pairwise_cons.1 h;unfold wT;rw[List.find?_cons];rcases List.mem_cons.1 hx with rfl | hx
   ·have:(p.1==x.1)=true:=by rw[<-e1];simp
    rw[this];simp only[Option.map_some];rw[<-e1]
   ·have hne:=h1 x hx;have:(p.1==x.1)=false:=by rw[beq_eq_false_iff_ne];rw[<-e1]at hne;exact hne
    rw[this];exact MC h2 e2 hx
structure oz (O:VH) (tb kr kd:Nat) (L:List (Bs×Bs)) (R D:tU) (cr cd:Nat) (tk:Tok) (kn:Int):Prop where
 cell:O.hp tb=some (.cells [.sl L.length (L.flatMap aZ) tk,.map kr,.map kd,mi kn])
 raw:O.hp kr=some (.map (tG R) cr)
 done:O.hp kd=some (.map (tG D) cd)
 lt:tb<O.next/\kr<O.next/\kd<O.next
 ne:tb≠kr/\tb≠kd/\kr≠kd
theorem oz.ge {O O':VH} {tb kr kd:Nat} {L:List (Bs×Bs)} {R D:tU} {cr cd:Nat} {tk:Tok} {kn:Int} (h:oz O tb kr kd L R D cr cd tk kn) (g:O.Ge O'):oz O' tb kr kd L R D cr cd tk kn:=
 ⟨(g.hp _ h.lt.1).trans h.cell,(g.hp _ h.lt.2.1).trans h.raw,(g.hp _ h.lt.2.2).trans h.done,⟨Nat.lt_of_lt_of_le h.lt.1 g.next,Nat.lt_of_lt_of_le h.lt.2.1 g.next,Nat.lt_of_lt_of_le h.lt.2.2 g.next⟩,h.ne⟩
theorem Jc (L:List (Bs×Bs)) (tk:Tok) (O:VH) (hn:L.length<=10000) (hL:L.Pairwise fun x y=>x.1≠y.1):VF Tryz.prog 120 [.sl L.length (L.flatMap aZ) tk] O (aI fun m O'=>m= .ptr (O.next+2) 0/\O.Ge O'/\∃R cr t,oz O' (O.next+2) O.next (O.next+1) L R [] cr 0 t 0/\∀x∈L,wT x.1 R=some x.2):=by
 have dF:=aQ eR L;refine VF.bU 50 [.tmp 2] Tryz.func120 ?_;have jF:FG (kK [(0,1),(1,1),(2,1),(3,1)]) [.sl 0 [] .nil,.v (.map none),.v (.map none),.v (.int .i64 0)] (.map O.next) [(2,.map (O.next+1))] (some (1,1))=some [.sl 0 [] .nil,.map O.next,.map (O.next+1),.v (.int .i64 0)]:=rfl;refine VC.ag aa (ae @eL ?_);refine VC.ag aa (ao @eL @jF ?_);refine VC.gen ?_;intro O1 e1;obtain⟨aU,du,cV,cy,fx⟩:=lQ _ _ _ e1;clear e1;have Mw:O.next+1+1=O.next+2:=by omega
 refine VC.bE [3] (fun _:Unit=>[.ptr (O.next+2) 0]) (fun _ O'=>O.Ge O'/\∃R cr t,oz O' (O.next+2) O.next (O.next+1) L R [] cr 0 t 0/\R.map (fun p=>(p.1,p.2.1))=L) ?_ ?_
 ·refine VC.ag aa (ae @eL ?_);refine VC.aD ?_;refine VC.bH [14] [3,12,13] (fun j:Nat=>[mi j]) (fun j O'=>O.Ge O'/\j<=L.length/\∃R cr t,oz O' (O.next+2) O.next (O.next+1) (L.take j) R [] cr 0 t 0/\R.map (fun p=>(p.1,p.2.1))=L.take j/\App O' (O.next+3) 2 t) (fun j=>L.length - j) (0) ?_ ?_
  ·refine⟨aU,Nat.zero_le _,[],0,.nil,⟨?_,cV,cy,⟨by omega,by omega,by omega⟩,by omega,by omega,by omega⟩,?_,trivial⟩
   ·rw[List.take_zero];exact fx
   ·rw[List.take_zero];rfl
  rintro j O3 ⟨aO,hj,R,cr,t,hT,hR,cT⟩;by_cases bd:j<L.length;rotate_left
  ·obtain rfl:j=L.length:=by omega
   rw[List.take_length]at hT hR;refine WC.sound aa (ae @eL ?_);exact aA.mk () ⟨aO,R,cr,t,hT,hR⟩
  have bu:=cj eR L j bd;have eG:=cN L j bd
  have fw:∀p∈R,p.1≠L[j].1:=fun p hp=>by
   have hm:(p.1,p.2.1)∈L.take j:=by rw[<-hR];exact List.mem_map_of_mem (f:=fun p:Bs×Bs×Nat=>(p.1,p.2.1)) hp
   obtain⟨i,hi,e⟩:=List.mem_iff_getElem.1 hm;rw[List.length_take]at hi;rw[List.getElem_take]at e;have:=(List.pairwise_iff_getElem.1 hL) i j (by omega) bd (by omega);rw[e]at this;exact this
  have yX:(L.take j).length=j:=by rw[List.length_take];omega
  generalize L[j]=y at*;generalize L.take j=LT at*;obtain⟨yn,yv⟩:=y;dsimp only at fw;simp only[aZ]at bu;have dU:((j:Int)+1)=((j+1:Nat):Int):=by omega
  have dJ:=hT.lt;have hne:=hT.ne;refine VC.ag aa (ae @eL ?_);refine VC.ag aa (ae @eL ?_);refine VC.bA (VC.aD ?_);refine VC.ag aa (ao @eL @bu ?_);refine VC.al ?_;rintro O4 ⟨bh,jC,g_⟩;have vo:=hT.ge bh;have jX:=cT.ge bh;have eX:=vo.cell;have FZ:=vo.raw;simp only[au]at eX;have fR:jy (fL Tryz.prog) O4 260 (.map O.next) (.str yn) true=some (xO true (.str []) ((wT yn R).map .str)):=Jb G_ T9 T9 FZ;rw[HG fw]at fR;simp only[Option.map_none,IG]at fR;refine VC.bA ?_;refine WC.bI (.held []) [(0,.rd),(1,.rd),(2,.rd),(3,.rd),(4,.rd),(5,.rd),(6,.rd),(7,.rd),(8,.rd),(9,.rd),(10,.rd),(11,.rd)] ?_;refine c8 @eL @eX @jC @fR ?_;refine VC.ag aa (ae @eL ?_);refine WC.sound aa (ae @eL ?_);refine WC.bI (.held [8]) [(0,.rd),(1,.rd),(2,.rd),(3,.rd),(4,.rd),(5,.rd),(6,.rd),(7,.rd),(8,.one)] ?_;have lR:eZ (fL Tryz.prog) O4 260 (.map O.next) (.str yn) (.str yv)=some (O4.set O.next (.map (tG (R++[(yn,yv,cr)])) (cr+1))):=aay G_ T9 FZ fw;refine c8 @eL @eX @jC @lR ?_;refine VC.gen ?_;intro O5 e5;have jq:∀i,i≠O.next->O5.hp i=O4.hp i:=fun i hi=>by rw[e5];exact VH.ak _ _ hi
  have gu:O5.next=O4.next:=by rw[e5];rfl
  have wP:O5.hp O.next=some (.map (tG (R++[(yn,yv,cr)])) (cr+1)):=by rw[e5];exact VH.an _ _ _
  have bK:O.Ge O5:=by rw[e5];exact(aO.trans bh).set (Nat.le_refl _) _
  have mc:App O5 (O.next+3) 2 t:=jX.mv (by omega) fun i hi e=>(jq i (fun e2=>by subst e2;rw[FZ]at e;cases e)).trans e
  clear e5;have fm:=(jq _ (by omega)).trans eX;have m6:=(jq _ (by omega)).trans jC;have I0:=(jq (O.next+1) (by omega)).trans vo.done;obtain⟨mE,fP,kN⟩:=fF (n:=LT.length) (cs:=LT.flatMap aZ) (ds:=[.str yn,.str yv]) (es:=aZ (yn,yv)) zm BK.1.1 mc (aQ eR LT) rfl rfl (by decide) (by omega) (by simp only[maxLen];omega) (fG LT) (by simp only[aZ,wu]);refine WC.bI (.held [10]) [(0,.rd),(1,.rd),(2,.rd),(3,.rd),(4,.rd),(5,.rd),(6,.one),(7,.one),(8,.one),(9,.rd),(10,.one)] ?_;refine aM @eL @fm @m6 ?_;refine VL.k6 fP kN ?_;have hca:(O5.after t).hp (O.next+2)=_:=(App.off mc (by omega) (by rw[fm];simp)).trans fm;have hra:(O5.after t).hp O.next=_:=(App.off mc (by omega) (by rw[wP];simp)).trans wP;have hda:(O5.after t).hp (O.next+1)=_:=(App.off mc (by omega) (by rw[I0];simp)).trans I0;refine ao @eL @hca ?_;refine VC.gen ?_;intro O6 e6;have pU:=cK.after mc;have ni:∀i,i≠O.next+2->O6.hp i=(O5.after t).hp i:=fun i hi=>by rw[e6];exact VH.ak _ _ hi
  have ny:O6.next=(O5.after t).next:=by rw[e6];rfl
  have AZ:O6.hp (O.next+2)=some (.cells [.sl (LT.length+1) (LT.flatMap aZ++aZ (yn,yv)) (.own O5.next 2),.map O.next,.map (O.next+1),.v (.int .i64 0)]):=by rw[e6];exact VH.an _ _ _
  have ma:App O6 (O.next+3) 2 (.own O5.next 2):=(App.after (tk:=t) (B:=O.next+3) (sz:=2) (by omega:O.next+3<=O5.next)).mv (by omega) fun i hi e=>(ni i (fun e2=>by subst e2;rw[hca]at e;cases e)).trans e
  have Mv:O.Ge O6:=⟨by have:=pU.next;have:=bK.next;omega,fun i hi=>by
   rw[ni i (by omega),pU.hp i (by have:=bK.next;omega) (fun e=>by have:=(App.qe mc e).1;omega)];exact bK.hp i hi⟩
  have hnA:=pU.next;refine WC.sound aa (ao @eL @dU ?_);refine aC.next (j+1) ⟨Mv,bd,R++[(yn,yv,cr)],cr+1,.own O5.next 2,⟨?_,(ni _ (by omega)).trans hra,(ni _ (by omega)).trans hda,⟨by omega,by omega,by omega⟩,hne⟩,?_,ma⟩
  ·rw[eG,List.flatMap_append,List.length_append];simpa[au]using AZ
  ·rw[eG,List.map_append,hR];rfl
 rintro _ O9 ⟨bg,R,cr,t,hT,hR⟩;refine WC.sound aa (ae @eL ?_);exact⟨bg,R,cr,t,hT,fun x hx=>MC hL hR hx⟩
set_option linter.defProp false in
def cA:=And.intro eL<|And.intro ah5<|And.intro aem aey
theorem adz (x:Bs) (O:VH) (t:Tok):VF Tryz.prog 178 [.sl 0 [] t,.str x] O (aI fun m O'=>m=mb false/\O'=O):=by
 have h1:VF Tryz.prog 206 [.sl 0 [] t,.str x] O (aI fun m O'=>m=mi (-1)/\O'=O):=by
  refine VF.dh 19 [.tmp 4] Tryz.func206 ?_;refine ae @cA ?_;refine WC.ik [8] [0,1,7] (fun j:Unit=>[mi 0]) (fun j O'=>O'=O) (fun j=>0) (()) ?_ ?_
  ·rfl
  rintro _ O2 e2;rw[e2];clear e2 O2
  refine ae @cA ?_;trivial
 refine VF.dh 9 [.tmp 4] Tryz.func178 ?_;refine ae @cA ?_;refine ah.rt (h1) ?_;rintro _ O2 ⟨rfl,e2⟩;rw[e2];clear e2 O2
 refine ae @cA ?_;trivial
theorem V2 {O:VH} {wb tb kr kd:Nat} {L:List (Bs×Bs)} {R D:tU} {cr cd:Nat} {tk:Tok} {kn:Int} (nm v:Bs) (h:oz O tb kr kd L R D cr cd tk kn) (hw:O.hp wb=some (.cells [.ptr tb 0,.sl 0 [] .nil])) (oM:wb<O.next) (hR:wT nm R=some v) (hD:∀p∈D,p.1≠nm) (hv:qW v) (kH:v.length<=4096):
  VF Tryz.prog 150 [.ptr wb 0,.str nm] O (aI fun m O'=>m= .str v/\(∃kn',oz O' tb kr kd L R (D++[(nm,v,cd)]) cr (cd+1) tk kn')/\O.next<=O'.next/\∀i,i<O.next->i≠tb->i≠kd->i≠wb->O'.hp i=O.hp i):=by
 have hc:=h.cell;have dJ:=h.lt;have hne:=h.ne;have AN:wb≠tb:=fun e=>by subst e;rw[hw]at hc;simp at hc
 have hwr:wb≠kr:=fun e=>by subst e;have:=h.raw;cases(hw.symm.trans this)
 have hwd:wb≠kd:=fun e=>by subst e;have:=h.done;cases(hw.symm.trans this)
 simp only[au]at hc;have fR:jy (fL Tryz.prog) O 260 (.map kd) (.str nm) true=some (xO true (.str []) ((wT nm D).map .str)):=Jb G_ T9 T9 h.done;rw[HG hD]at fR;simp only[Option.map_none,IG]at fR;refine VF.bU 95 [.tmp 4] Tryz.func150 ?_;refine VC.ag aa (ae @cA ?_);refine VC.ag aa (c8 @cA @hw @hc @fR ?_);refine VC.bA (VC.aD ?_);refine VC.ag aa (ao @cA @hw ?_);refine ah.rt (adz nm O .nil) ?_;rintro _ O2 ⟨rfl,e2⟩;rw[e2];clear e2 O2
 refine ao @cA @hw ?_;refine WC.sound aa (ao @cA @hw ?_);refine VC.ag aa (ao @cA @hw ?_);have cT:=bo (tk:=.nil) (tk':=.full) (B:=0) (n:=0) (k:=1) (cs:=[]) (ds:=[.str nm]) zj T9 (O:=O) trivial rfl rfl rfl (by decide) (by decide) (by decide) (by decide);rw[Nat.zero_add,List.nil_append]at cT;refine VL.k6 cT rfl ?_;have pU:O.Ge (O.after .nil):=cK.Cc (tk:=.nil) (sz:=1) trivial (cK.after (sz:=1) (B:=0) trivial);have hwA:=(pU.hp _ oM).trans hw;refine ao @cA @hwA ?_;refine VC.gen ?_;intro O2 e2;have jx:∀i,i<O.next->i≠wb->O2.hp i=O.hp i:=fun i h1 h2=>by rw[e2,VH.ak _ _ h2];exact pU.hp i h1
 have jk:O.next<=O2.next:=by rw[e2];exact pU.next
 have ru:∃t,O2.hp wb=some (.cells [.ptr tb 0,.sl 1 [.str nm] t]):=⟨_,by rw[e2];exact VH.an _ _ _⟩
 obtain⟨t2,ru⟩:=ru;clear e2;have hT2:oz O2 tb kr kd L R D cr cd tk kn:=⟨(jx _ dJ.1 (Ne.symm AN)).trans h.cell,(jx _ dJ.2.1 (Ne.symm hwr)).trans h.raw,(jx _ dJ.2.2 (Ne.symm hwd)).trans h.done,⟨by omega,by omega,by omega⟩,hne⟩;have iY:=hT2.cell;simp only[au]at iY;have aaz:jy (fL Tryz.prog) O2 260 (.map kr) (.str nm) false=some (xO false (.str []) ((wT nm R).map .str)):=Jb G_ T9 T9 hT2.raw;rw[hR]at aaz;simp only[Option.map_some,RJ]at aaz;refine VC.ag aa (c8 @cA @ru @iY @aaz ?_);refine ah.rt (MA wb v nm O2 hv kH) ?_;rintro _ O3 ⟨rfl,aO⟩;have hT3:=hT2.ge aO;have hw3:=aO.at ru;have Aa:∀i,i<O.next->i≠wb->O3.hp i=O.hp i:=fun i h1 h2=>(aO.hp i (by omega)).trans (jx i h1 h2)
 have gZ:=aO.next;refine ae @cA ?_;refine VC.bA ?_;refine WC.bI (.held [14]) [(0,.rd),(1,.rd),(2,.rd),(3,.rd),(4,.rd),(5,.rd),(6,.rd),(7,.rd),(8,.rd),(9,.rd),(10,.rd),(11,.rd),(12,.one),(13,.rd),(14,.one)] ?_;refine aM @cA @hw3 @uI ?_;refine VC.gen ?_;intro O4 e4;have qV:∀i,i≠wb->O4.hp i=O3.hp i:=fun i h2=>by rw[e4];exact VH.ak _ _ h2
 have g_:O4.next=O3.next:=by rw[e4];rfl
 have ME:∃t,O4.hp wb=some (.cells [.ptr tb 0,t]):=⟨_,by rw[e4];exact VH.an _ _ _⟩
 obtain⟨t4,ME⟩:=ME;clear e4;have aeX:=hT3.lt;have vo:oz O4 tb kr kd L R D cr cd tk kn:=⟨(qV _ (Ne.symm AN)).trans hT3.cell,(qV _ (Ne.symm hwr)).trans hT3.raw,(qV _ (Ne.symm hwd)).trans hT3.done,⟨by omega,by omega,by omega⟩,hne⟩;have eX:=vo.cell;simp only[au]at eX;have lR:eZ (fL Tryz.prog) O4 260 (.map kd) (.str nm) (.str v)=some (O4.set kd (.map (tG (D++[(nm,v,cd)])) (cd+1))):=aay G_ T9 vo.done hD;refine VC.ag aa (c8 @cA @ME @eX @lR ?_);refine VC.gen ?_;intro O5 e5;have jq:∀i,i≠kd->O5.hp i=O4.hp i:=fun i h2=>by rw[e5];exact VH.ak _ _ h2
 have gu:O5.next=O4.next:=by rw[e5];rfl
 have I0:O5.hp kd=some (.map (tG (D++[(nm,v,cd)])) (cd+1)):=by rw[e5];exact VH.an _ _ _
 clear e5;have hw5:=(jq wb hwd).trans ME;have fm:=(jq tb hne.2.1).trans eX;refine VC.ag aa (c8 @cA @db @hw5 @fm ?_);refine ah.rt (Ex 1 fm rfl) ?_;rintro m O6 ⟨rfl,e6⟩;have ni:∀i,i≠tb->O6.hp i=O5.hp i:=fun i h2=>by rw[e6];exact VH.ak _ _ h2
 have AZ:O6.hp tb=some (.cells [.sl L.length (L.flatMap aZ) tk,.map kr,.map kd,mi (IntKind.i64.wrap (kn+1))]):=by rw[e6];exact VH.an _ _ _
 have ny:O6.next=O5.next:=by rw[e6];rfl
 refine ae @cA ?_;refine WC.sound aa (ae @cA ?_);refine⟨⟨_,⟨AZ,(ni _ (Ne.symm hne.1)).trans ((jq _ hne.2.2).trans vo.raw),(ni _ (Ne.symm hne.2.1)).trans I0,⟨by omega,by omega,by omega⟩,hne⟩⟩,by omega,fun i h1 h2 h3 h4=>?_⟩;exact(ni i h2).trans ((jq i h3).trans ((qV i h4).trans (Aa i h1 h4)))
theorem aaA {O:VH} {a b:Nat} {K:VH->Prop} (h:K O):fM Tryz.prog 177 [.ptr a 0,.ptr b 0] none O K:=by
 refine fM.rec (d:=5) Tryz.func177 (Nat.lt_of_lt_of_eq (by decide:5<15) rfl) ?_;show WC _ _ ⟨15,0⟩ _ _ _ _ _;simp only[cc,Nat.zero_add,Nat.reduceAdd,zc];refine ao @cA @wi ?_;refine VL.pure (by simp) (fun _=>.inl rfl) rfl rfl (gY.DH (bb:=true) Tryz.underlying20 rfl (.inl ⟨rfl,rfl⟩)) ?_;refine WL.sound aa ?_;refine ao @cA @wi ?_;exact h
theorem MF {O:VH} {g:FuncId} {xs:List MV} {Φ :VH->VH->Prop} (hg:di Tryz.prog g=true) (hC:∀O1,O.Ge O1->VF Tryz.prog g xs O1 (aI fun _ O'=> Φ O1 O')) (hΦ :∀O1 O2,O.Ge O1-> Φ O1 O2->O1.next<=O2.next/\∀i,O.next<=i->i<O1.next->O2.hp i=O1.hp i):
  VF Tryz.prog 148 [.func (.func g) [] xs] O (aI fun m O'=>m= .tuple [mi 0,.str []]/\∃O1 O2,O.Ge O1/\ Φ O1 O2/\O2.next<=O'.next/\∀i,i<O.next->O'.hp i=O2.hp i):=by
 refine VF.deferred (lo:=4) (k:=7) (rs:=[.cell 2 65,.cell 3 9]) Tryz.func148 (Enters.sf (by kernel_rfl)) ?_;simp only[cc,Nat.zero_add,Nat.reduceAdd];refine ae @cA ?_;refine⟨_,rfl,fun D=>?_⟩;refine VC.gen ?_;rintro O1 rK;obtain⟨aU,du,cV,cy⟩:=gh _ _ rK;clear rK;refine VC.ag aa (ao @cA @wd ?_);refine ah.rt (hC O1 aU) ?_ (hb:=hg);rintro m O2 h2;obtain⟨jk,jx⟩:=hΦ O1 O2 aU h2;have jn:=(jx _ (Nat.le_refl _) (by omega)).trans cV;have b9:=(jx (O.next+1) (by omega) (by omega)).trans cy;refine ao @cA @wd ?_;refine VC.ag aa (c8 @cA @wd @jn @b9 ?_);refine WC.sound aa (ao @cA @wd ?_);refine aaA ?_;refine c8 @cA @wd @jn @b9 ?_;exact⟨O1,O2,aU,h2,Nat.le_refl _,fun i hi=>by rw[VH.ak _ _ (by omega),VH.ak _ _ (by omega)]⟩
theorem adA {O:VH} {ba bb bc tb:Nat} {s:Bs} {z:MV} (ha:O.hp ba=some (.cells [.ptr tb 0])) (hb:O.hp bb=some (.cells [.str s])) (hc:O.hp bc=some (.cells [z])) (iB:ba<O.next) (tI:bb<O.next) (kG:bc<O.next) (h:qW s) (hs:s.length<=4096):
  VF Tryz.prog 175 [.ptr ba 0,.ptr bb 0,.ptr bc 0] O (aI fun m O'=>O'.hp bc=some (.cells [.str s])/\bj O (some bc) O'):=by
 refine VF.bU 8 [] Tryz.func175 ?_;have Qi:∀x,(O.push x).hp bb=some (.cells [.str s]):=fun x=>(VH.bn _ _ tI).trans hb
 refine WC.sound aa (aM @cA @ha @hb ?_);refine ah.bx ?_;rintro O1 ⟨aU,fJ,du⟩;refine ah.rt (MA O.next s [] O1 h hs) ?_;rintro _ O2 ⟨rfl,ay⟩;have fZ:=aU.trans ay;have iY:=(fZ.hp _ kG).trans hc;refine ao @cA @iY ?_;exact(bj.lC fZ).any.trans bj.set
theorem V3 (tb:Nat) (s:Bs) (O:VH) (h:qW s) (hs:s.length<=4096):VF Tryz.prog 147 [.ptr tb 0,.str s] O (aI fun m O'=>m= .tuple [.str s,mi 0,.str []]/\O.Ge O'):=by
 refine VF.bU 20 [.cell 4 9,.tmp 5,.tmp 6] Tryz.func147 ?_;refine VC.ag aa (ae @cA ?_);refine VC.gen ?_;intro O1 e1;obtain⟨aU,du,cV,cy,fx⟩:=lQ _ _ _ e1;clear e1;refine VC.ag aa (ao @cA @cV ?_);refine VC.ag aa (ae @cA ?_);refine ah.rt (MF (O:=O1) (g:=175) (xs:=[.ptr O.next 0,.ptr (O.next+1) 0,.ptr (O.next+2) 0]) (Φ :=fun A B=>B.hp (O.next+2)=some (.cells [.str s])/\bj A (some (O.next+2)) B) (by kernel_rfl) (fun O2 ay=>adA (ay.at cV) (ay.at cy) (ay.at fx) (by have:=ay.next;omega) (by have:=ay.next;omega) (by have:=ay.next;omega) h hs) (fun A B hA hB=>⟨hB.2.next,fun i h1 h2=>hB.2.hp i h2 (fun e=>by injection e with e;omega)⟩)) ?_;rintro _ O3 ⟨rfl,A,B,pU,⟨nh,AV⟩,gZ,Aa⟩;have eJ:=(Aa _ (by omega)).trans nh;refine ae @cA ?_;refine VC.ag aa (ae @cA ?_);refine VC.ag aa (ao @cA @eJ ?_);refine WC.sound aa (ae @cA ?_);have aO:O.Ge O3:=⟨by have:=pU.next;have:=AV.next;omega,fun i hi=>(Aa i (by omega)).trans ((AV.hp i (by have:=pU.next;omega) (fun e=>by injection e with e;omega)).trans ((pU.hp i (by omega)).trans (aU.hp i hi)))⟩;exact aO.set (by omega) _
theorem adB {O:VH} {ba bb tb kr kd:Nat} {L:List (Bs×Bs)} {R:tU} {cr:Nat} {tk:Tok} (ha:O.hp ba=some (.cells [.ptr tb 0])) (hb:O.hp bb=some (.cells [.sl 0 [] .nil])) (iB:ba<O.next) (tI:bb<O.next) (h:oz O tb kr kd L R [] cr 0 tk 0) (hn:L.length<=10000) (hR:∀x∈L,wT x.1 R=some x.2) (hL:L.Pairwise fun x y=>x.1≠y.1) (hv:∀x∈L,qW x.2/\x.2.length<=4096):
  VF Tryz.prog 149 [.ptr ba 0,.ptr bb 0] O (aI fun m O'=>(∃t,O'.hp bb=some (.cells [.sl L.length (L.flatMap aZ) t]))/\O.next<=O'.next/\∀i,i<O.next->i≠tb->i≠kd->i≠bb->O'.hp i=O.hp i):=by
 have dF:=aQ eR L;have dJ:=h.lt;have hne:=h.ne;have hc:=h.cell;simp only[au]at hc;have ae0:ba≠tb:=fun e=>by subst e;rw[ha]at hc;simp at hc
 have Vv:bb≠tb:=fun e=>by subst e;rw[hb]at hc;simp at hc
 have Vo:ba≠kd:=fun e=>by subst e;have:=h.done;cases(ha.symm.trans this)
 have wN:bb≠kd:=fun e=>by subst e;have:=h.done;cases(hb.symm.trans this)
 have hbr:bb≠kr:=fun e=>by subst e;have:=h.raw;cases(hb.symm.trans this)
 have hab:ba≠bb:=fun e=>by subst e;rw[hb]at ha;simp at ha
 refine VF.bU 26 [] Tryz.func149 ?_;refine VC.ag aa (aM @cA @ha @hc ?_);refine VC.aD ?_;refine VC.bH [9] [0,1,7,8] (fun j:Nat=>[mi j]) (fun j O'=>j<=L.length/\O.next<=O'.next/\(∀i,i<O.next->i≠tb->i≠kd->i≠bb->O'.hp i=O.hp i)/\∃D cd kn t,oz O' tb kr kd L R D cr cd tk kn/\(∀p∈D,∃x∈L.take j,p.1=x.1)/\O'.hp bb=some (.cells [.sl (L.take j).length ((L.take j).flatMap aZ) t])/\App O' O.next 2 t) (fun j=>L.length - j) (0) ?_ ?_
 ·exact⟨Nat.zero_le _,Nat.le_refl _,fun _ _ _ _ _=>rfl,[],0,0,.nil,h,by simp,hb,trivial⟩
 rintro j O3 ⟨hj,gZ,Aa,D,cd,kn,t,hT,hD,ct,cT⟩;by_cases bd:j<L.length;rotate_left
 ·obtain rfl:j=L.length:=by omega
  rw[List.take_length]at ct;refine WC.sound aa (ae @cA ?_);exact⟨⟨t,ct⟩,gZ,Aa⟩
 have bu:=cj eR L j bd;have eG:=cN L j bd
 have fw:∀p∈D,p.1≠L[j].1:=fun p hp=>by
  obtain⟨x,hx,e⟩:=hD p hp;obtain⟨i,hi,e2⟩:=List.mem_iff_getElem.1 hx;rw[List.length_take]at hi;rw[List.getElem_take]at e2;have:=(List.pairwise_iff_getElem.1 hL) i j (by omega) bd (by omega);rw[e, <-e2];exact this
 have hRj:=hR L[j] (List.getElem_mem bd);obtain⟨hvj,kH⟩:=hv L[j] (List.getElem_mem bd);have yX:(L.take j).length=j:=by rw[List.length_take];omega
 generalize L[j]=y at*;obtain⟨yn,yv⟩:=y;dsimp only at fw hRj hvj kH;simp only[aZ]at bu;have dU:((j:Int)+1)=((j+1:Nat):Int):=by omega
 refine VC.ag aa (ae @cA ?_);refine VC.ag aa (ae @cA ?_);refine VC.bA (VC.aD ?_);refine VC.ag aa (ao @cA @bu ?_);refine VC.al ?_;rintro O4 ⟨bh,jC,g_⟩;have vo:=hT.ge bh;have kx:=bh.at ((Aa ba iB ae0 Vo hab).trans ha);have cL:=bh.at ct;have jX:=cT.ge bh;refine VC.zJ [12] (bb) (fun O'=>O'.hp ba=some (.cells [.ptr tb 0])/\O'.hp O3.next=some (.cells [.str yn,.str yv])) (cL) (fun X=>⟨(VH.ak _ _ hab).trans kx,VH.sn jC⟩) ?_;intro X;refine ab.pJ (m:=.sl (L.take j).length ((L.take j).flatMap aZ) t) 0 (fun _ h=>h.1) (fun _ h=>h) ?_ ?_
 ·exact fe @cA
 simp only[aj];refine ab.av 1 ?_;refine ae @cA ?_;refine ab.mC (m:=.str yn) 2 ?_ ?_
 ·rintro O2 ⟨j0,j1,j2⟩;exact dH @cA @j2
 simp only[aj];refine ab.mC (m:=.ptr tb 0) 3 ?_ ?_
 ·rintro O2 ⟨j0,j1,j2⟩;exact dH @cA @j1
 simp only[aj];refine ab.av 4 ?_;refine ae @cA ?_;refine ab.av 6 ?_;refine ae @cA ?_;refine ab.mC (m:=.str yn) 7 ?_ ?_
 ·rintro O2 ⟨j0,j1,j2⟩;exact dH @cA @j2
 simp only[aj];have lr:(O4.set bb (.obj X)).hp bb=some (.obj X)/\(O4.set bb (.obj X)).hp ba=some (.cells [.ptr tb 0])/\(O4.set bb (.obj X)).hp O3.next=some (.cells [.str yn,.str yv]):=⟨VH.an _ _ _,(VH.ak _ _ hab).trans kx,VH.sn jC⟩;have gu:(O4.set bb (.obj X)).next=O4.next:=rfl;have jq:∀i,i≠bb->(O4.set bb (.obj X)).hp i=O4.hp i:=fun i h1=>VH.ak _ _ h1
 have mc:=jX.nT (k:=bb) (x:=.obj X) (by rw[cL];simp);have aiV:=vo.lt;have hT5:oz (O4.set bb (.obj X)) tb kr kd L R D cr cd tk kn:=⟨(jq _ (Ne.symm Vv)).trans vo.cell,(jq _ (Ne.symm hbr)).trans vo.raw,(jq _ (Ne.symm wN)).trans vo.done,⟨by omega,by omega,by omega⟩,hne⟩;generalize O4.set bb (.obj X)=O5 at*;refine ab.op (i:=5) ?_;refine ae @cA ?_;refine⟨lr,?_⟩;have fS:O5.Ge (O5.push (.cells [.ptr tb 0,.sl 0 [] .nil])):=(VH.Ge.refl _).push _;have hw6:(O5.push (.cells [.ptr tb 0,.sl 0 [] .nil])).hp O5.next=some (.cells [.ptr tb 0,.sl 0 [] .nil]):=VH.aW _ _;have ny:(O5.push (.cells [.ptr tb 0,.sl 0 [] .nil])).next=O5.next+1:=rfl;generalize O5.push (.cells [.ptr tb 0,.sl 0 [] .nil])=O6 at*;have wU:=hT5.ge fS;have ma:=mc.ge fS;have akm:=wU.lt;refine ab.call (i:=8) (V2 yn yv wU hw6 (by omega) hRj fw hvj kH) ?_;rintro _ O7 ⟨rfl,⟨kn',F6⟩,sw,qT⟩;simp only[aj];have Sn:∀i,i<O5.next->i≠tb->i≠kd->O7.hp i=O5.hp i:=fun i h1 h2 h3=>(qT i (by omega) h2 h3 (by omega)).trans (fS.hp i h1)
 have xk:O7.hp bb=some (.obj X)/\O7.hp ba=some (.cells [.ptr tb 0])/\O7.hp O3.next=some (.cells [.str yn,.str yv]):=⟨(Sn _ (by omega) Vv wN).trans lr.1,(Sn _ (by omega) ae0 Vo).trans lr.2.1,(Sn _ (by omega) (by omega) (by omega)).trans lr.2.2⟩;refine⟨xk,?_⟩;have hY:App O7 O.next 2 t:=ma.mv sw fun i h1 e=>(qT i h1 (fun e2=>by subst e2;rw[wU.cell]at e;cases e) (fun e2=>by subst e2;rw[wU.done]at e;cases e) (fun e2=>by subst e2;rw[hw6]at e;cases e)).trans e
 refine ab.av 9 ?_;refine ae @cA ?_;refine ab.op (i:=10) ?_;refine ae @cA ?_;refine⟨xk,?_⟩;have cT:=bo (tk:=t) (tk':=.full) (B:=O.next) (n:=(L.take j).length) (k:=1) (cs:=(L.take j).flatMap aZ) (ds:=[.str yn,.str yv]) zm BK.1.1 (O:=O7) hY (aQ eR _) rfl rfl (by decide) (by decide) (by omega) (by simp only[maxLen];omega);refine ab.op (i:=11) ?_;rw[cI];refine ao @cA @cT ?_;have ky:∀i,i<O7.next->O7.hp i≠some .tok->(O7.after t).hp i=O7.hp i:=fun i h1 h2=>App.off hY h1 h2
 refine⟨⟨(ky _ (by omega) (by rw[xk.1];simp)).trans xk.1,(ky _ (by omega) (by rw[xk.2.1];simp)).trans xk.2.1,(ky _ (by omega) (by rw[xk.2.2];simp)).trans xk.2.2⟩,?_⟩;refine ab.jm [(12,.one)] ?_;refine ae @cA ?_;refine VC.gen ?_;intro O8 e8;have pU:=cK.after hY;have hnA:=pU.next;have yc:∀i,i≠bb->O8.hp i=(O7.after t).hp i:=fun i h1=>by rw[e8,VH.ak _ _ h1,VH.ak _ _ h1]
 have sm:O8.hp bb=some (.cells [.sl ((L.take j).length+1) ((L.take j).flatMap aZ++[.str yn,.str yv]) (.own O7.next 2)]):=by rw[e8];exact VH.an _ _ _
 have DU:O8.next=(O7.after t).next:=by rw[e8];rfl
 clear e8;have aaB:=F6.lt;have hT8:oz O8 tb kr kd L R (D++[(yn,yv,cd)]) cr (cd+1) tk kn':=⟨(yc _ (Ne.symm Vv)).trans ((ky _ aaB.1 (by rw[F6.cell];simp)).trans F6.cell),(yc _ (Ne.symm hbr)).trans ((ky _ aaB.2.1 (by rw[F6.raw];simp)).trans F6.raw),(yc _ (Ne.symm wN)).trans ((ky _ aaB.2.2 (by rw[F6.done];simp)).trans F6.done),⟨by omega,by omega,by omega⟩,hne⟩;have BT:App O8 O.next 2 (.own O7.next 2):=(App.after (tk:=t) (B:=O.next) (sz:=2) (by omega:O.next<=O7.next)).mv (by omega) fun i hi e=>(yc i (fun e2=>by subst e2;have e3:=ky i (by omega) (by rw[xk.1];simp);rw[e3,xk.1]at e;cases e)).trans e
 have oI:∀i,i<O.next->i≠tb->i≠kd->i≠bb->O8.hp i=O.hp i:=fun i h1 h2 h3 h4=>by
  rw[yc i h4,pU.hp i (by omega) (fun e=>by have:=(App.qe hY e).1;omega),Sn i (by omega) h2 h3,jq i h4,bh.hp i (by omega)];exact Aa i h1 h2 h3 h4
 refine WC.sound aa (ao @cA @dU ?_);refine aC.next (j+1) ⟨bd,by omega,oI,D++[(yn,yv,cd)],cd+1,kn',.own O7.next 2,hT8,fun p hp=>?_,?_,BT⟩
 ·rw[eG];rcases List.mem_append.1 hp with hp | hp
  ·obtain⟨x,hx,e⟩:=hD p hp;exact⟨x,List.mem_append_left _ hx,e⟩
  ·rw[List.mem_singleton.1 hp];exact⟨(yn,yv),List.mem_append_right _ (List.mem_singleton.2 rfl),rfl⟩
 ·rw[eG,List.flatMap_append,List.length_append];simpa[aZ]using sm
theorem adC {O:VH} {tb kr kd:Nat} {L:List (Bs×Bs)} {R:tU} {cr:Nat} {tk:Tok} (h:oz O tb kr kd L R [] cr 0 tk 0) (hn:L.length<=10000) (hR:∀x∈L,wT x.1 R=some x.2) (hL:L.Pairwise fun x y=>x.1≠y.1) (hv:∀x∈L,qW x.2/\x.2.length<=4096):
  VF Tryz.prog 126 [.ptr tb 0] O (aI fun m O'=>(∃t,m= .tuple [.sl L.length (L.flatMap aZ) t,mi 0,.str []])/\O.next<=O'.next/\∀i,i<O.next->i≠tb->i≠kd->O'.hp i=O.hp i):=by
 have dJ:=h.lt;refine VF.bU 17 [.cell 2 104,.tmp 3,.tmp 4] Tryz.func126 ?_;refine VC.ag aa (ae @cA ?_);refine VC.gen ?_;intro O1 e1;obtain⟨aU,du,cV,cy⟩:=gh _ _ e1;clear e1;refine VC.ag aa (ao @cA @cV ?_);refine VC.ag aa (ae @cA ?_);refine ah.rt (MF (O:=O1) (g:=149) (xs:=[.ptr O.next 0,.ptr (O.next+1) 0]) (Φ :=fun A B=>(∃t,B.hp (O.next+1)=some (.cells [.sl L.length (L.flatMap aZ) t]))/\A.next<=B.next/\∀i,i<A.next->i≠tb->i≠kd->i≠O.next+1->B.hp i=A.hp i) (by kernel_rfl) (fun O2 ay=>adB (ay.at cV) (ay.at cy) (by have:=ay.next;omega) (by have:=ay.next;omega) (h.ge (aU.trans ay)) hn hR hL hv) (fun A B hA hB=>⟨hB.2.1,fun i h1 h2=>hB.2.2 i h2 (by omega) (by omega) (by omega)⟩)) ?_;rintro _ O3 ⟨rfl,A,B,pU,⟨⟨t,nh⟩,AV,hB3⟩,gZ,Aa⟩;have ct:=(Aa _ (by omega)).trans nh;refine ae @cA ?_;refine VC.ag aa (ae @cA ?_);refine VC.ag aa (ao @cA @ct ?_);refine WC.sound aa (ae @cA ?_);have hnA:=pU.next;refine⟨⟨t,rfl⟩,by show O.next<=O3.next;omega,fun i h1 h2 h3=>?_⟩;rw[VH.ak _ _ (by omega),Aa i (by omega),hB3 i (by omega) h2 h3 (by omega),pU.hp i (by omega),aU.hp i h1]
set_option linter.defProp false in
def nW:=And.intro oo<|And.intro ah4<|And.intro ah3<|And.intro T33<|And.intro T31 T65
def vq (r:Bool×Bs×List Bs) (tk:Tok):List MV:=[mb r.1,.str r.2.1,.sl r.2.2.length (r.2.2.flatMap fun _=>[]) tk]
def Jd (s:Bs):Bool:=trimB s==s&&(s.headD 0 != 91&&(s.headD 0 != 40&&uL s))
def qA (s:Bs):(Bool×Bs×List Bs)×Int:=if Jd s then((false,s,[]),0)else((true,[],[]),21)
theorem aaC {s:Bs} (h:qA s=((false,s,[]),0)):Jd s=true:=by
 unfold qA at h;cases e:Jd s
 ·rw[e]at h;simp at h
 ·rfl
theorem adD (v:Bs) (tk:Tok) (O:VH) (hv:v.length<=maxLen):VF Tryz.prog 163 [.agg [.v (.bool false),.str v,.sl 0 [] tk]] O (aI fun m O'=>m=mb (uL v)/\O.Ge O'):=by
 refine VF.bU 76 [.tmp 2] Tryz.func163 ?_;refine VC.ag aa (ae @nW ?_);refine VC.bx ?_;rintro O1 ⟨aU,fJ,du⟩;refine VC.ag aa (ao @nW @fJ ?_);refine ah.rt (Py v O1 hv) ?_;rintro _ O2 ⟨rfl,ay⟩;refine ae @nW ?_;exact aU.trans ay
theorem adE {O:VH} {a b:Nat} {K:VH->Prop} (h:K O):fM Tryz.prog 157 [.ptr a 0,.ptr b 0] none O K:=by
 refine fM.rec (d:=5) Tryz.func157 (Nat.lt_of_lt_of_eq (by decide:5<12) rfl) ?_;show WC _ _ ⟨12,0⟩ _ _ _ _ _;simp only[cc,Nat.zero_add,Nat.reduceAdd,zc];refine ao @nW @wi ?_;refine VL.pure (by simp) (fun _=>.inl rfl) rfl rfl (gY.DH (bb:=true) Tryz.underlying20 rfl (.inl ⟨rfl,rfl⟩)) ?_;refine WL.sound aa ?_;refine ao @nW @wi ?_;exact h
theorem aaD {O:VH} {b:Nat} {s:Bs} (hk:O.hp b=some (.cells [.str s])):VF Tryz.prog 159 [.ptr b 0] O (aI fun m O'=>m=fp (s.headD 0)/\O'=O):=by
 refine VF.dh 13 [.tmp 2] Tryz.func159 ?_;cases s with
 | nil=>
   refine aM @nW @hk (show(([]:List UInt8)==[])=true from rfl) ?_;rfl
 | cons c s=>
   refine aM @nW @hk (show((c::s)==[])=false from rfl) ?_;rfl
theorem aaE (s:Bs) (O:VH) (hs:s.length<=10000) (hp:qA s=((false,s,[]),0)):VF Tryz.prog 131 [.str s] O (aI fun m O'=>∃tk,m= .tuple [.agg (vq (qA s).1 tk),mi (qA s).2]/\O.Ge O'):=by
 have hsf:=aaC hp;rw[hp];unfold Jd at hsf;simp only[Bool.and_eq_true,beq_iff_eq,bne_iff_ne,ne_eq]at hsf;obtain⟨h1,h2,h3,h4⟩:=hsf;have MG:=IQ s;rw[h1]at MG;have Au:s.length<=maxLen:=Nat.le_trans hs (by decide);have hm:=fun O' tk=>adD s tk O' Au
 rw[h4]at hm;have hc:=(s.headD 0).toNat_lt;have b1:((s.headD 0).toNat:Int)≠91:=fun e=>h2 (by rw[<-UInt8.toNat_inj];show _=91;omega)
 have b2:((s.headD 0).toNat:Int)≠40:=fun e=>h3 (by rw[<-UInt8.toNat_inj];show _=40;omega)
 have c1:((((s.headD 0).toNat:Int)) != 91)=true:=by rw[bne_iff_ne];exact b1
 have c2:((((s.headD 0).toNat:Int)) != 40)=true:=by rw[bne_iff_ne];exact b2
 simp only[vq,au,aY,List.length_nil,List.flatMap_nil];refine VF.deferred (lo:=4) (k:=54) (rs:=[.cell 2 33,.cell 3 65]) Tryz.func131 (Enters.sf (by kernel_rfl)) ?_;simp only[cc,Nat.zero_add,Nat.reduceAdd];refine ae @nW ?_;refine⟨_,rfl,fun D=>?_⟩;refine VC.gen ?_;intro O1 e1;obtain⟨aU,du,cV,cy⟩:=gh _ _ e1;clear e1;refine VC.ag aa (ao @nW @wd ?_);refine ah.rt (MG O1 Au) ?_;rintro _ O2 ⟨rfl,e2⟩;rw[e2];clear e2 O2;refine ao @nW @wd ?_;refine VC.bx ?_;rintro O2 ⟨ay,j6,jk⟩;have jn:=ay.at cV;have b9:=ay.at cy;refine VC.ag aa (ao @nW @wd ?_);refine ah.rt (aaD j6) ?_;rintro _ O3 ⟨rfl,e3⟩;rw[e3];clear e3 O3;refine Y7 @nW @wd @aG @c1 @c2 @j6 @jn ?_;refine VC.gen ?_;intro O4 e4;have kx:O4.hp O.next=some (.cells [.v (.bool false),.str s,.sl 0 [] .nil]):=by rw[e4];exact VH.an _ _ _
 have cL:O4.hp (O.next+1)=some (.cells [.v (.int .i64 0)]):=by rw[e4,VH.ak _ _ (by omega)];exact b9
 have bh:O.Ge O4:=by rw[e4];exact(aU.trans ay).set (Nat.le_refl _) _
 have g_:O.next+1<O4.next:=by rw[e4];show _<O2.next;omega
 clear e4;refine VC.ag aa (aM @nW @wd @kx ?_);refine ah.rt (hm O4 .nil) ?_;rintro _ O5 ⟨rfl,bK⟩;have eY:=bK.at kx;have cR:=bK.at cL;refine aM @nW @wd @eY ?_;refine VC.ag aa (c8 @nW @wd @eY @cR ?_);refine WC.sound aa (ao @nW @wd ?_);refine adE ?_;refine ao @nW @wd ?_;exact⟨.nil,rfl,((bh.trans bK).set (Nat.le_refl _) _).set (Nat.le_succ _) _⟩
set_option linter.defProp false in
def dS:=And.intro cA<|And.intro aet<|And.intro ahK<|And.intro ahX<|And.intro ahW<|And.intro aes<|And.intro T33<|And.intro T31<|And.intro AE T65
def nmG:Bs:=[112,114,111,106,101,99,116,46,103,114,111,117,112,73,100]
def nmA:Bs:=[112,114,111,106,101,99,116,46,97,114,116,105,102,97,99,116,73,100]
def nmV:Bs:=[112,114,111,106,101,99,116,46,118,101,114,115,105,111,110]
def gG (p:Pm):List (Bs×Bs):=[(nmG,p.g),(nmA,p.a),(nmV,p.v)]
theorem vt (p:Pm):(gG p).Pairwise fun x y=>x.1≠y.1:=by
 simp only[gG,List.pairwise_cons,List.mem_cons,List.not_mem_nil,or_false,forall_eq_or_imp,forall_eq];exact⟨⟨by decide,by decide⟩,by decide,by simp,by simp⟩
theorem MH (p:Pm) (O:VH) (hh:p.hp=false) (hp:p.props=[]):VF Tryz.prog 121 [.agg (fO p)] O (aI fun m O'=>(∃t,m= .sl 3 ((gG p).flatMap aZ) t)/\O.Ge O'):=by
 have hne:=vt p;have hov:=fun(O':VH) (tk tM:Tok)=>Sk [] (gG p) tk tM O' (by simp[gG]) (by simp) hne
 obtain⟨b,⟨pg,pa,pv⟩,pG,pA,pV,pk,P,M,D⟩:=p;dsimp only at hh hp;subst hh;subst hp;simp only[gG,nmG,nmA,nmV,List.length_nil,List.flatMap_nil,List.nil_append,List.length_cons,Nat.zero_add,List.flatMap_cons,List.append_nil,aZ,List.cons_append]at hov ⊢;simp only[fO,List.length_nil,List.flatMap_nil,aY];refine VF.bU 35 [.tmp 2] Tryz.func121 ?_;refine VC.ag aa (ae @dS ?_);refine VC.bx ?_;rintro O1 ⟨aU,fJ,du⟩;refine VC.ag aa (ao @dS @fJ ?_);refine ah.rt (hov _ _ _) ?_;rintro _ O2 ⟨⟨t,rfl⟩,ay⟩;have j6:=ay.at fJ;refine ae @dS ?_;refine WC.sound aa (ao @dS @j6 ?_);exact⟨⟨t,rfl⟩,aU.trans ay⟩
theorem adF (k:Nat) (O:VH):VF Tryz.prog 51 [.ptr k 0] O (aI fun m O'=>m= .ptr (O.next+1) 0/\O.Ge O'/\O'.hp O.next=some (.map [] 0)/\O'.hp (O.next+1)=some (.cells [.ptr k 0,.map O.next])/\O'.next=O.next+2):=by
 refine VF.bU 7 [.tmp 2] Tryz.func51 ?_;have jF:FG (kK [(0,1),(1,1)]) [.v (.pointer none),.v (.map none)] (.ptr k 0) [(1,.map O.next)] (some (0,1))=some [.ptr k 0,.map O.next]:=rfl;refine VC.ag aa (ae @dS ?_);refine WC.sound aa (ao @dS @jF ?_);obtain⟨hg,hn,h1,h2⟩:=gh (O:=O) (.map [] 0) (.cells [.ptr k 0,.map O.next]) rfl;exact hg
def gk (s:Bs):Prop:=qW s/\s.length<=4096
def rQ (tb bb:Nat) (g:Gv) (p:Pm) (tw:Tok):List MV:=[.ptr tb 0,.ptr bb 0]++bL g++fO p++[.sl 1 (bL g) tw]
theorem Je {O:VH} {wb tb bb:Nat} {g:Gv} {p:Pm} {tw:Tok} (hw:O.hp wb=some (.cells (rQ tb bb g p tw))) (s w:Bs) (hs:gk s):VF Tryz.prog 124 [.ptr wb 0,.str s,.str w] O (aI fun m O'=>m= .str s/\O.Ge O'):=by
 obtain⟨g1,g2,g3⟩:=g;obtain⟨b,⟨pg,pa,pv⟩,pG,pA,pV,pk,P,M,D⟩:=p;simp only[rQ,bL,fO,List.cons_append,List.nil_append]at hw;refine VF.bU 27 [.tmp 6] Tryz.func124 ?_;refine VC.ag aa (ae @dS ?_);refine VC.ag aa (ao @dS @hw ?_);refine ah.rt (V3 tb s O hs.1 hs.2) ?_;rintro _ O2 ⟨rfl,hg⟩;refine WC.sound aa (ae @dS ?_);exact hg
theorem Bc {O:VH} {wb tb bb:Nat} {g:Gv} {p:Pm} {tw:Tok} (hw:O.hp wb=some (.cells (rQ tb bb g p tw))) (s w:Bs) (hs:gk s):VF Tryz.prog 123 [.ptr wb 0,.str w,.str s,.str s] O (aI fun _ O'=>O.Ge O'):=by
 refine VF.bU 17 [] Tryz.func123 ?_;refine VC.ag aa (ae @dS ?_);refine ah.rt (Je hw s w hs) ?_;rintro _ O2 ⟨rfl,hg⟩;have hb:(!s==s)=false:=by simp
 refine WC.sound aa (ao @dS @hb ?_);exact hg
theorem So {O:VH} {wb tb bb:Nat} {g:Gv} {p:Pm} {tw:Tok} (hw:O.hp wb=some (.cells (rQ tb bb g p tw))) (s w:Bs) (e:Bool) (hs:gk s) (hi:eH s=true\/e=true/\s=[]):VF Tryz.prog 180 [.ptr wb 0,.str s,.str w,mb e] O (aI fun m O'=>m= .str s/\O.Ge O'):=by
 have Au:s.length<=maxLen:=Nat.le_trans hs.2 (by decide);refine VF.bU 29 [.tmp 8] Tryz.func180 ?_;refine VC.ag aa (ae @dS ?_);refine VC.ag aa (ae @dS ?_);refine ah.rt (Je hw s w hs) ?_;rintro _ O2 ⟨rfl,hg⟩;refine ae @dS ?_;refine VC.ag aa (ae @dS ?_);refine ah.rt (sr s O2 Au) ?_;rintro _ O3 ⟨rfl,aO⟩;have V5:=hg.trans aO;rcases hi with hi | ⟨rfl,rfl⟩
 ·refine ao @dS @hi ?_;refine WC.sound aa (ae @dS ?_);exact V5
 ·rcases hb:eH []with _ | _
  ·refine ao @dS @hb ?_;refine WC.sound aa (ae @dS ?_);exact V5
  ·refine ao @dS @hb ?_;refine WC.sound aa (ae @dS ?_);exact V5
theorem MI (wb:Nat) (O:VH) (v w:Bs) (hv:v.length<=10000) (hp:qA v=((false,v,[]),0)):VF Tryz.prog 156 [.ptr wb 0,.str v,.str w] O (aI fun m O'=>m= .agg (vq (false,v,[]) .aq)/\O.Ge O'):=by
 refine VF.fg ?_;have Cp:=fun O'=>aaE v O' hv hp
 rw[hp]at Cp;simp only[vq,List.length_nil,List.flatMap_nil,aY,au]at Cp ⊢;refine VF.bU 22 [.cell 6 33] Tryz.func156 ?_;refine VC.ag aa (ae @dS ?_);refine VC.bx ?_;rintro O1 ⟨aU,fJ,du⟩;refine VC.ag aa (ae @dS ?_);refine ah.rt (Cp _) ?_;rintro _ O2 ⟨tk,rfl,ay⟩;have j6:=ay.at fJ;refine ae @dS ?_;refine VC.al ?_;rintro O3 ⟨aO,kQ,gZ⟩;have aaF:=(aO.hp _ (by have:=ay.next;omega)).trans j6;refine WC.sound aa (aM @dS @kQ @aaF ?_);exact((aU.trans ay).trans aO).set (by omega) _
theorem Qv (n:Nat) (O:VH) (hn:n<=1000000000):VF Tryz.prog 151 [mi n] O (aI fun m O'=>m= .str (k9 n)/\O'=O):=by
 have D6:=rE n;refine VF.dh 17 [.tmp 2] Tryz.func151 ?_;refine ae @dS ?_;refine WC.ik [0,3] [] (fun x:Nat×Bs=>[mi x.1,.str x.2]) (fun x O'=>O'=O/\k9 n=k9 x.1++x.2/\x.1<=n) (fun x=>x.1) ((n,[])) ?_ ?_
 ·exact⟨rfl,by simp,Nat.le_refl _⟩
 rintro⟨k,s⟩ O2 ⟨eO,hk,wJ⟩;dsimp only at hk wJ ⊢;rw[eO];clear eO O2
 rcases Nat.eq_zero_or_pos k with rfl | hp
 ·have h0:k9 0=[]:=rfl;rw[h0,List.nil_append]at hk;refine ae @dS ?_;exact congrArg MV.str hk.symm
 ·have hd:=Lu (k % 10) (by omega);have hl:(k9 n).length=(k9 k).length+s.length:=by rw[hk,List.length_append]
  have hr:(k:Int).tmod 10=((k % 10:Nat):Int):=by rw[Int.tmod_eq_emod_of_nonneg (by omega)];rfl
  have hq:(k:Int).tdiv 10=((k / 10:Nat):Int):=by rw[Int.tdiv_eq_ediv_of_nonneg (by omega)];rfl
  refine c8 @dS @hr @hq @hd ?_;refine aC.next (k / 10,Lt k++s) ⟨rfl,?_,by dsimp only;omega⟩;rw[hk,AJ hp,List.append_assoc]
structure Qw (d:Dp):Prop where
 g:gk d.g
 gi:eH d.g=true
 a:gk d.a
 ai:eH d.a=true
 v:gk d.v
 vn:d.v≠[]
 vp:qA d.v=((false,d.v,[]),0)
 t:gk d.t
 ti:eH d.t=true\/d.t=[]
 c:gk d.c
 ci:eH d.c=true\/d.c=[]
 x:d.x.length<=10000
def lg:Bs:=[106,97,114]
def vu (t:Bs):Bs:=if t=[]then lg else t
def c5 (d:Dp):Dp:=⟨d.g,d.a,d.v,vu d.t,d.c,d.s,d.o,d.x⟩
theorem aaG {O:VH} {wb tb bb:Nat} {g:Gv} {p:Pm} {tw:Tok} (hw:O.hp wb=some (.cells (rQ tb bb g p tw))) (oM:wb<O.next) (d:Dp) (w:Bs) (hd:Qw d) (ri:w.length<=1000):VF Tryz.prog 152 [.ptr wb 0,.agg (aP d),.str w] O (aI fun m O'=>m= .agg (aP (c5 d))/\O.Ge O'):=by
 obtain⟨Vk,nS,hda,hai,hdv,hvn,hvp,KA,NY,hdc,F7,hdx⟩:=hd
 have Ft:gk (vu d.t)/\eH (vu d.t)=true:=by
  unfold vu;by_cases e:d.t=[]
  ·rw[if_pos e];exact⟨⟨by show Lib.index lg [36,123]<0;decide,by decide⟩,by decide⟩
  ·rw[if_neg e];exact⟨KA,NY.resolve_right e⟩
 have htf:vu d.t=if d.t=[]then[106,97,114]else d.t:=rfl
 unfold c5;generalize vu d.t=T at*;obtain⟨dg,da,dv,dt,dc,ki,dO,dx⟩:=d;dsimp only at Vk nS hda hai hdv hvn hvp KA NY hdc F7 hdx Ft htf ⊢;simp only[aP,au];have Ab:=fun(O':VH) (g':O.Ge O')=>(g'.hp _ oM).trans hw
 clear hw;have IA:(dv==[])=false:=by simpa using hvn
 have kH:dv.length<=10000:=Nat.le_trans hdv.2 (by decide);refine VF.bU 55 [.cell 6 63] Tryz.func152 ?_;refine VC.ag aa (ae @dS ?_);refine VC.gen ?_;intro O1 e1;obtain⟨aU,akn,cV,cy⟩:=gh _ _ e1;have du:O.next+2<=O1.next:=by omega
 clear e1;refine VC.ag aa (ao @dS @cV ?_);refine ah.rt (So (Ab _ aU) dg _ false Vk (.inl nS)) ?_;rintro _ O2' ⟨rfl,hH⟩;have ae1:=hH.at cV;have ae2:=hH.at cy;have Xn:=aU.trans hH;have hL2:=hH.next;refine ao @dS @ae1 ?_;refine VC.gen ?_;intro O2 e2;have ay:O.Ge O2:=by rw[e2];exact Xn.set (by omega) _
 have jn:O2.hp O.next=some (.cells [.str dg,.str da,.str dv,.str dt,.str dc,.v (.int .i64 ki),.v (.int .i64 dO),.sl dx.length (List.flatMap bO dx) .aq]):=by rw[e2];exact VH.an _ _ _
 have b9:O2.hp (O.next+1)=some (.cells [.str [],.str [],.str [],.str [],.str [],.v (.int .i64 0),.v (.int .i64 0),.sl 0 [] .nil]):=by rw[e2];exact VH.sn ae2
 have jk:O.next+2<=O2.next:=by rw[e2];show _<=O2'.next;omega
 clear e2 ae1 ae2;refine VC.ag aa (ao @dS @jn ?_);refine ah.rt (So (Ab _ ay) da _ false hda (.inl hai)) ?_;rintro _ O3' ⟨rfl,hH⟩;have ae3:=hH.at jn;have ae4:=hH.at b9;have hK3:=ay.trans hH;have hL3:=hH.next;refine ao @dS @ae3 ?_;refine VC.gen ?_;intro O3 e3;have aO:O.Ge O3:=by rw[e3];exact hK3.set (by omega) _
 have qi:O3.hp O.next=some (.cells [.str dg,.str da,.str dv,.str dt,.str dc,.v (.int .i64 ki),.v (.int .i64 dO),.sl dx.length (List.flatMap bO dx) .aq]):=by rw[e3];exact VH.an _ _ _
 have ct:O3.hp (O.next+1)=some (.cells [.str [],.str [],.str [],.str [],.str [],.v (.int .i64 0),.v (.int .i64 0),.sl 0 [] .nil]):=by rw[e3];exact VH.sn ae4
 have gZ:O.next+2<=O3.next:=by rw[e3];show _<=O3'.next;omega
 clear e3 ae3 ae4;refine VC.ag aa (ao @dS @qi ?_);refine ah.rt (Je (Ab _ aO) dv _ hdv) ?_;rintro _ O4' ⟨rfl,hH⟩;have ae5:=hH.at qi;have ae6:=hH.at ct;have hK4:=aO.trans hH;have hL4:=hH.next;refine ao @dS @ae5 ?_;refine VC.gen ?_;intro O4 e4;have bh:O.Ge O4:=by rw[e4];exact hK4.set (by omega) _
 have kx:O4.hp O.next=some (.cells [.str dg,.str da,.str dv,.str dt,.str dc,.v (.int .i64 ki),.v (.int .i64 dO),.sl dx.length (List.flatMap bO dx) .aq]):=by rw[e4];exact VH.an _ _ _
 have cL:O4.hp (O.next+1)=some (.cells [.str [],.str [],.str [],.str [],.str [],.v (.int .i64 0),.v (.int .i64 0),.sl 0 [] .nil]):=by rw[e4];exact VH.sn ae6
 have g_:O.next+2<=O4.next:=by rw[e4];show _<=O4'.next;omega
 clear e4 ae5 ae6;refine VC.bE [0,2,4,6] (fun _:Unit=>[.ptr wb 0,.str w,.ptr O.next 0,.ptr (O.next+1) 0]) (fun _ O'=>O4.Ge O') ?_ ?_
 ·refine WC.sound aa (aM @dS @kx @IA ?_);refine ah.rt (MI wb _ dv _ kH hvp) ?_;rintro _ O5 ⟨rfl,bK⟩;refine ae @dS ?_;exact aA.mk () bK
 rintro _ O5 bK;have eY:=bK.at kx;have cR:=bK.at cL;have ae7:=bh.trans bK;have gu:=bK.next;refine VC.bE [0,2,4,6] (fun _:Unit=>[.ptr wb 0,.str w,.ptr O.next 0,.ptr (O.next+1) 0]) (fun _ O'=>O.Ge O'/\O.next+2<=O'.next/\O'.hp O.next=some (.cells [.str dg,.str da,.str dv,.str T,.str dc,.v (.int .i64 ki),.v (.int .i64 dO),.sl dx.length (List.flatMap bO dx) .aq])/\O'.hp (O.next+1)=some (.cells [.str [],.str [],.str [],.str [],.str [],.v (.int .i64 0),.v (.int .i64 0),.sl 0 [] .nil])) ?_ ?_
 ·by_cases e:dt=[]
  ·subst e;rw[if_pos rfl]at htf;subst htf;have he0:(([]:Bs)==[])=true:=rfl;refine WC.sound aa (aM @dS @eY @he0 ?_);exact aA.mk () ⟨ae7.set (by omega) _,by show _<=O5.next;omega,VH.an _ _ _,VH.sn cR⟩
  ·rw[if_neg e]at htf;have he0:(dt==[])=false:=by simpa using e
   subst htf;refine WC.sound aa (aM @dS @eY @he0 ?_);exact aA.mk () ⟨ae7,by omega,eY,cR⟩
 rintro _ O6 ⟨fS,ny,tT,iC⟩;refine VC.ag aa (ao @dS @tT ?_);refine ah.rt (So (Ab _ fS) T _ false Ft.1 (.inl Ft.2)) ?_;rintro _ O7' ⟨rfl,hH⟩;have ae8:=hH.at tT;have ae9:=hH.at iC;have hK7:=fS.trans hH;have hL7:=hH.next;refine ao @dS @ae8 ?_;refine VC.gen ?_;intro O7 e7;have en:O.Ge O7:=by rw[e7];exact hK7.set (by omega) _
 have EB:O7.hp O.next=some (.cells [.str dg,.str da,.str dv,.str T,.str dc,.v (.int .i64 ki),.v (.int .i64 dO),.sl dx.length (List.flatMap bO dx) .aq]):=by rw[e7];exact VH.an _ _ _
 have xS:O7.hp (O.next+1)=some (.cells [.str [],.str [],.str [],.str [],.str [],.v (.int .i64 0),.v (.int .i64 0),.sl 0 [] .nil]):=by rw[e7];exact VH.sn ae9
 have sw:O.next+2<=O7.next:=by rw[e7];show _<=O7'.next;omega
 clear e7 ae8 ae9;refine VC.ag aa (ao @dS @EB ?_);refine ah.rt (So (Ab _ en) dc _ true hdc (F7.imp id fun e=>⟨rfl,e⟩)) ?_;rintro _ O8' ⟨rfl,hH⟩;have ae_:=hH.at EB;have afa:=hH.at xS;have hK8:=en.trans hH;have hL8:=hH.next;refine ao @dS @ae_ ?_;refine VC.gen ?_;intro O8 e8;have gq:O.Ge O8:=by rw[e8];exact hK8.set (by omega) _
 have ha8:O8.hp O.next=some (.cells [.str dg,.str da,.str dv,.str T,.str dc,.v (.int .i64 ki),.v (.int .i64 dO),.sl dx.length (List.flatMap bO dx) .aq]):=by rw[e8];exact VH.an _ _ _
 have sm:O8.hp (O.next+1)=some (.cells [.str [],.str [],.str [],.str [],.str [],.v (.int .i64 0),.v (.int .i64 0),.sl 0 [] .nil]):=by rw[e8];exact VH.sn afa
 have DU:O.next+2<=O8.next:=by rw[e8];show _<=O8'.next;omega
 clear e8 ae_ afa;refine WC.sound aa (aM @dS @ha8 @sm ?_);exact gq.set (by omega) _
set_option linter.defProp false in
def lh:=And.intro dS<|And.intro uK<|And.intro Y8<|And.intro ah1<|And.intro ah2<|And.intro ah0<|And.intro Lf<|And.intro G8 DK
theorem aaH (f:MV) (t:Tok) (O:VH):VF Tryz.prog 182 [.sl 0 [] t,f] O (aI fun m O'=>m=mi (-1)/\O'=O):=by
 refine VF.dh 19 [.tmp 4] Tryz.func182 ?_;refine ae @lh ?_;refine WC.ik [8] [0,1,7] (fun x:Nat=>[mi 0]) (fun x O'=>O'=O) (fun x=>x) (0) ?_ ?_
 ·rfl
 rintro k O2 eO;rw[eO];refine ae @lh ?_;trivial
theorem V7 (d:Dp) (t:Tok) (O:VH) (hx:d.x.length<=10000):VF Tryz.prog 155 [.agg (aP d),.sl 0 [] t] O (aI fun m O'=>m= .agg (aP d)/\O.Ge O'):=by
 have hk:=fun O'=>I8 d O'
 obtain⟨dg,da,dv,dt,dc,ki,dO,dx⟩:=d;dsimp only at hx;simp only[aP,au]at hk ⊢;generalize ib ⟨dg,da,dv,dt,dc,ki,dO,dx⟩=K at hk;obtain⟨k1,k2,k3,k4⟩:=K;simp only[fX]at hk;refine VF.bU 49 [.cell 4 63] Tryz.func155 ?_;refine VC.ag aa (ae @lh ?_);refine VC.gen ?_;intro O1 e1;obtain⟨aU,du,cV,cy⟩:=gh _ _ e1;clear e1;refine VC.ag aa (ao @lh @cV ?_);refine ah.rt (hk _) ?_;rintro _ O2 ⟨rfl,ay⟩;have aiW:=aU.trans ay;have jn:=ay.at cV;have b9:=ay.at cy;have jk:=ay.next;clear cV cy hk aU ay;refine ae @lh ?_;refine VC.al ?_;rintro O3 ⟨aO,kQ,gZ⟩;have aiX:=aiW.trans aO;have qi:=aO.at jn;have ct:=aO.at b9;clear jn b9;refine VC.ag aa (ae @lh ?_);refine ah.rt (aaH _ t _) ?_;rintro _ O4 ⟨rfl,rfl⟩;refine ae @lh ?_;refine VC.bA ?_;refine WC.sound aa (ae @lh ?_);refine VC.ag aa (ao @lh @qi ?_);refine ah.rt (sI dx .aq _ (by omega)) ?_;rintro _ O4 ⟨rfl,bh⟩;have kx:=bh.at qi;have cL:=bh.at ct;refine ao @lh @kx ?_;refine WC.sound aa (ao @lh @cL ?_);exact((aiX.trans bh).set (Nat.le_refl _) _).set (Nat.le_succ _) _
structure Qx (O:VH) (gb mb B:Nat) (L:List Dp) (M:eW) (cm:Nat) (tk:Tok):Prop where
 cell:O.hp gb=some (.cells [.sl L.length (L.flatMap aP) tk,.map mb])
 map:O.hp mb=some (.map (cx M) cm)
 ok:nQ 4 M
 app:App O B 8 tk
 lt:gb<O.next/\mb<O.next
 ne:gb≠mb
theorem Qx.ge {O O':VH} {gb mb B:Nat} {L:List Dp} {M:eW} {cm:Nat} {tk:Tok} (h:Qx O gb mb B L M cm tk) (g:O.Ge O'):Qx O' gb mb B L M cm tk:=
 ⟨(g.hp _ h.lt.1).trans h.cell,(g.hp _ h.lt.2).trans h.map,h.ok,h.app.ge g,⟨Nat.lt_of_lt_of_le h.lt.1 g.next,Nat.lt_of_lt_of_le h.lt.2 g.next⟩,h.ne⟩
theorem agT {O:VH} {gb mb B:Nat} {L:List Dp} {M:eW} {cm:Nat} {tk:Tok} (h:Qx O gb mb B L M cm tk) (d:Dp) (hd:BZ d) (hL:L.length<=10000) (hB:B<=O.next) (fw:∀p∈M,p.1≠dd (ib d)):
  VF Tryz.prog 153 [.ptr gb 0,.agg (aP d)] O (aI fun _ O'=>(∃tk',Qx O' gb mb B (L++[d]) (M++[(dd (ib d),.v (.bool true),cm)]) (cm+1) tk'/\(∀i,Tok.id tk'=some i->O.next<=i))/\O.next<=O'.next/\∀i,i<O.next->i≠gb->i≠mb->Tok.id tk≠some i->O'.hp i=O.hp i):=by
 have Cn:=fun O'=>I8 d O'
 have D4:=Mu hd;have hkm:(fX (ib d))=(dd (ib d)).map .str:=rfl;have hud:cD (aP d)=aP d:=by simpa using kL [d]
 have hla:=vZ fw
 have tQ:M.any (·.1==dd (ib d))=false:=by
  rw[List.any_eq_false];intro p hp hpe;exact fw p hp (eq_of_beq hpe)
 have hgm:∃es:Dp,es=d:=⟨_,rfl⟩
 generalize hK:ib d=K at*;obtain⟨k1,k2,k3,k4⟩:=K;obtain⟨dg,da,dv,dt,dc,ki,dO,dx⟩:=d;simp only[aP,au,fX]at Cn hud ⊢;refine VF.bU 29 [] Tryz.func153 ?_;refine VC.ag aa (ae @lh ?_);refine VC.bx ?_;rintro O1 ⟨aU,fJ,du⟩;refine VC.ag aa (ao @lh @fJ ?_);refine ah.rt (Cn _) ?_;rintro _ O2 ⟨rfl,ay⟩;refine ae @lh ?_;refine VC.al ?_;rintro O3 ⟨aO,kQ,gZ⟩;have eo:=(aU.trans ay).trans aO;have aiY:=(ay.trans aO).at fJ;have h3:=h.ge eo;have eJ:=h3.cell;refine VC.bA ?_;refine WC.bI (.held []) [(0,.rd),(1,.rd),(2,.rd),(3,.rd),(4,.rd),(5,.rd),(6,.rd)] ?_;refine aM @lh @eJ @kQ ?_;refine VL.hold (.inr rfl) rfl rfl (fy.lq qQ aa (l:=dd ⟨k1,k2,k3,k4⟩) (te:=⟨_,1,1,[.v (.bool false)]⟩) Tryz.underlying273 T4 rfl rfl h3.map h3.ok rfl rfl D4) (WL.sound aa ?_);rw[hla];refine ae @lh ?_;refine VC.Ih rfl ?_;refine VC.bA ?_;refine WC.bI (.held [5]) [(0,.rd),(1,.rd),(2,.rd),(3,.rd),(4,.rd),(5,.one)] ?_;refine aM @lh @eJ @kQ ?_;refine VL.om rfl rfl (oh.je qQ (l:=dd ⟨k1,k2,k3,k4⟩) (b:=mb) (ck:=cm) (M:=M) Tryz.underlying273 rfl h3.map h3.ok rfl rfl D4 rfl) (fun brk hb i hi=>?_) (WL.sound aa ?_)
 ·cases hb
  rcases i with _ | _ | _ | _ | _ | _ | i<;>first
   | rfl
   | (exfalso;revert hi;simp)
 have lG:=rz (y:=.v (.bool true)) (ck:=cm) h3.ok (l:=dd ⟨k1,k2,k3,k4⟩) rfl D4;unfold je at lG;unfold je La;rw[tQ]at lG ⊢;have hgb:=h3.ne;have mY:=h3.lt;refine ae @lh ?_;refine VC.gen ?_;intro O4 e4;have g_:O4.next=O3.next:=by rw[e4];rfl
 have qV:∀i,i≠mb->O4.hp i=O3.hp i:=fun i h1=>by rw[e4,VH.ak _ _ h1]
 have Qt:O4.hp mb=some (.map (cx (M++[(dd ⟨k1,k2,k3,k4⟩,MV.v (.bool true),cm)])) (cm+1)):=by rw[e4];exact VH.an _ _ _
 clear e4;have eX:=(qV gb hgb).trans eJ;have Es:=(qV O.next (fun e=>by subst e;have:=h.lt;omega)).trans aiY;have jX:App O4 B 8 tk:=h3.app.mv (by omega) fun i hi e=>(qV i (fun e2=>by subst e2;rw[h3.map]at e;cases e)).trans e
 have aiZ:=bo (tk:=tk) (tk':=.full) (n:=L.length) (k:=1) (cs:=L.flatMap aP) (ds:=[.str dg,.str da,.str dv,.str dt,.str dc,.v (.int .i64 ki),.v (.int .i64 dO),.sl dx.length (dx.flatMap bO) .aq]) uK AE.1.1 jX (aQ fN L) rfl rfl (by decide) (by decide) (by omega) (by simp only[maxLen];omega);have ky:∀i,i<O4.next->O4.hp i≠some .tok->(O4.after tk).hp i=O4.hp i:=fun i h1 h2=>App.off jX h1 h2
 have Jf:=(ky gb (by omega) (by rw[eX];simp)).trans eX;have hmA:=(ky mb (by omega) (by rw[Qt];simp)).trans Qt;refine WC.bI (.held [10]) [(0,.rd),(1,.rd),(2,.rd),(3,.rd),(4,.rd),(5,.rd),(6,.one),(7,.one),(8,.one),(9,.rd),(10,.one)] ?_;refine aM @lh @eX @Es ?_;refine VL.app aiZ ?_;refine ao @lh @Jf ?_;have Jg:=cK.after jX;refine⟨⟨.own O4.next 8,⟨?_,?_,lG,?_,?_,hgb⟩,fun i hi=>by injection hi with hi;have:=eo.next;omega⟩,?_,?_⟩
 ·rw[List.length_append,List.flatMap_append];exact VH.an _ _ _
 ·exact(VH.ak _ _ (Ne.symm hgb)).trans hmA
 ·exact(App.after (by have:=eo.next;omega)).nT (by rw[Jf];simp)
 ·have:=Jg.next;exact⟨by show _<(O4.after tk).next;omega,by show _<(O4.after tk).next;omega⟩
 ·have:=Jg.next;have:=eo.next;show _<=(O4.after tk).next;omega
 ·intro i h1 h2 h3 h4;have:=eo.next;rw[VH.ak _ _ h2,Jg.hp i (by omega) h4,qV i h3,eo.hp i h1]
set_option linter.defProp false in
def de:=And.intro lh<|And.intro T3<|And.intro xd T9
theorem Qy {O:VH} {wb tb bb:Nat} {g:Gv} {p:Pm} {tw:Tok} (hw:O.hp wb=some (.cells (rQ tb bb g p tw))) (oM:wb<O.next) (hp:p.dY=[]):VF Tryz.prog 127 [.ptr wb 0] O (aI fun m O'=>m= .sl 0 [] .nil/\O.Ge O'):=by
 obtain⟨g1,g2,g3⟩:=g;obtain⟨b,⟨pg,pa,pv⟩,pG,pA,pV,pk,P,M,D⟩:=p;dsimp only at hp;subst hp;simp only[rQ,bL,fO,List.cons_append,List.nil_append,List.length_nil,List.flatMap_nil]at hw;have jF:FG (kK [(0,1),(1,1)]) [.sl 0 [] .nil,.v (.map none)] (.map O.next) [] (some (1,1))=some [.sl 0 [] .nil,.map O.next]:=rfl;refine VF.bU 145 [.tmp 2] Tryz.func127 ?_;refine VC.ag aa (ae @de ?_);refine VC.ag aa (ao @de @jF ?_);refine VC.gen ?_;intro O1 e1;obtain⟨aU,du,Qs,fx⟩:=gh _ _ e1;clear e1;have IB:=(aU.hp _ oM).trans hw;refine VC.ag aa (ae @de ?_);refine VC.bE [3,4] (fun _:Unit=>[.ptr (O.next+1) 0,.sl 0 [] .nil]) (fun _ O'=>O'=O1) ?_ ?_
 ·refine VC.ag aa (ao @de @IB ?_);refine VC.aD ?_;refine VC.bH [4,23] [0,3,21,22] (fun _:Nat=>[.sl 0 [] .nil,mi 0]) (fun _ O'=>O'=O1) (fun x=>x) (0) ?_ ?_
  ·rfl
  rintro j O3 e3;rw[e3];refine WC.sound aa (ae @de ?_);exact aA.mk () rfl
 rintro _ O3 e3;rw[e3];refine VC.bE [3] (fun _:Unit=>[.ptr (O.next+1) 0]) (fun _ O'=>O'=O1) ?_ ?_
 ·refine VC.ag aa (ae @de ?_);refine VC.aD ?_;refine VC.bH [84] [3,83] (fun _:Nat=>[mi 0]) (fun _ O'=>O'=O1) (fun x=>x) (0) ?_ ?_
  ·rfl
  rintro j O3 e3;rw[e3];refine WC.sound aa (ae @de ?_);exact aA.mk () rfl
 rintro _ O3 e3;rw[e3];refine WC.sound aa (ao @de @fx ?_);exact aU
theorem App.at {O O':VH} {B sz:Nat} {tk:Tok} (h:App O B sz tk) (hn:O.next<=O'.next) (hi:∀i,Tok.id tk=some i->O'.hp i=O.hp i):App O' B sz tk:=by
 cases tk with
 | own t k=>exact⟨h.1,(hi t rfl).trans h.2.1,h.2.2.1,Nat.lt_of_lt_of_le h.2.2.2 hn⟩
 | nil=>trivial
 | full=>trivial
 | aq=>exact h.elim
theorem App.tok {O:VH} {B sz i:Nat} {tk:Tok} (h:App O B sz tk) (e:Tok.id tk=some i):O.hp i=some .tok:=by
 cases tk with
 | own t k=>injection e with e;subst e;exact h.2.1
 | nil=>cases e
 | full=>cases e
 | aq=>cases e
structure oA where
 k:Ky
 v:Bs
 s:Int
 o:Bool
 x:List fz
def dE (n:oA):List MV:=fX n.k++vq (false,n.v,[]) .aq++[mi n.s,mb n.o,.sl n.x.length (n.x.flatMap bO) .aq]
theorem nG (x:oA):(dE x).length=10:=rfl
theorem wA (L:List oA):cD (L.flatMap dE)=L.flatMap dE:=ko (fun x=>by simp only[dE,fX,vq,List.cons_append,List.nil_append,au,aY,wu,mR,List.length_nil,List.flatMap_nil]) L
theorem Qz (F:oA):cD (dE F)=dE F:=by simpa using wA [F]
def eU (d:Dp):oA:=⟨ib (c5 d),d.v,max d.s 1,d.o==1,d.x⟩
theorem Qw.ok {d:Dp} (h:Qw d):BZ (c5 d):=by
 have h1:=h.g.2;have h2:=h.a.2;have h3:=h.v.2;have h4:=h.t.2;have h5:=h.c.2;refine⟨?_,?_,?_,?_,?_,h.x⟩<;>(simp only[c5];first | omega | skip)
 unfold vu;split
 ·decide
 ·omega
set_option maxHeartbeats 1000000 in
theorem aaI {O:VH} {wb tb bb:Nat} {g:Gv} {p:Pm} {tw:Tok} (hw:O.hp wb=some (.cells (rQ tb bb g p tw))) (oM:wb<O.next) (hq:∀d∈p.dQ,Qw d) (hL:p.dQ.length<=900) (hne:p.dQ.Pairwise fun x y=>ib (c5 x)≠ib (c5 y)) (t:Tok):
  VF Tryz.prog 128 [.ptr wb 0,.sl 0 [] t] O (aI fun m O'=>(∃t',m= .sl p.dQ.length ((p.dQ.map eU).flatMap dE) t')/\O.Ge O'):=by
 have zQ:=fun(O':VH) (g':O.Ge O') (d:Dp) (w:Bs) (hd:Qw d) (ri:w.length<=1000)=>aaG (O:=O') (wb:=wb) (tb:=tb) (bb:=bb) (g:=g) (p:=p) (tw:=tw) ((g'.hp _ oM).trans hw) (Nat.lt_of_lt_of_le oM g'.next) d w hd ri
 obtain⟨g1,g2,g3⟩:=g;obtain⟨b,⟨pg,pa,pv⟩,pG,pA,pV,pk,P,M,L⟩:=p;dsimp only at hq hL hne ⊢;simp only[rQ,bL,fO,List.cons_append,List.nil_append]at hw;have dF:=aQ fN L;have jF:FG (kK [(0,1),(1,1)]) [.sl 0 [] .nil,.v (.map none)] (.map O.next) [] (some (1,1))=some [.sl 0 [] .nil,.map O.next]:=rfl;refine VF.bU 76 [.tmp 4] Tryz.func128 ?_;refine VC.ag aa (ae @de ?_);refine VC.ag aa (ao @de @jF ?_);refine VC.gen ?_;intro O1 e1;obtain⟨aU,du,Qs,fx⟩:=gh _ _ e1;clear e1;have IB:=(aU.hp _ oM).trans hw;refine VC.ag aa (ae @de ?_);refine VC.bE [6] (fun x:List oA×Tok=>[.sl x.1.length (x.1.flatMap dE) x.2]) (fun x O'=>O.Ge O'/\x.1=L.map eU) ?_ ?_;rotate_left
 ·rintro⟨R,t'⟩ O9 ⟨bg,rfl⟩;dsimp only;refine WC.sound aa (ae @de ?_);rw[List.length_map];exact⟨⟨t',rfl⟩,bg⟩
 refine VC.ag aa (ao @de @IB ?_);refine VC.aD ?_;refine VC.bH [6,20] [0,1,5,18,19] (fun x:Nat×List oA×Tok=>[.sl x.2.1.length (x.2.1.flatMap dE) x.2.2,mi x.1]) (fun x O'=>x.1<=L.length/\x.2.1=(L.take x.1).map eU/\O.Ge O'/\O.next+2<=O'.next/\App O' O.next 10 x.2.2/\∃Mj cm tk,Qx O' (O.next+1) O.next O.next ((L.take x.1).map c5) Mj cm tk/\(∀q∈Mj,∃d∈L.take x.1,q.1=dd (ib (c5 d)))/\∀i,Tok.id tk=some i->Tok.id x.2.2≠some i) (fun x=>L.length - x.1) ((0,[],.nil)) ?_ ?_
 ·exact⟨Nat.zero_le _,rfl,aU,by omega,trivial,[],0,.nil,⟨fx,Qs,⟨by simp,by simp⟩,trivial,⟨by omega,by omega⟩,by omega⟩,by simp,fun i h=>by cases h⟩
 rintro⟨j,R,tl⟩ O2 ⟨hj,hR,ay,jk,Sq,Mj,cm,tk,hG2,hMj,Ft⟩;dsimp only at hj hR Sq Ft ⊢;by_cases bd:j<L.length;rotate_left
 ·obtain rfl:j=L.length:=by omega
  rw[List.take_length]at hR;refine WC.sound aa (ae @de ?_);exact aA.mk (R,tl) ⟨ay,hR⟩
 have hRl:R.length=j:=by rw[hR,List.length_map,List.length_take];omega
 have bu:=cj fN L j bd;have eG:=cN L j bd;have MJ:=hq L[j] (List.getElem_mem bd)
 have fw:∀q∈Mj,q.1≠dd (ib (c5 L[j])):=fun q hq'=>by
  obtain⟨x,hx,e⟩:=hMj q hq';obtain⟨i,hi,e2⟩:=List.mem_iff_getElem.1 hx;rw[List.length_take]at hi;rw[List.getElem_take]at e2;have:=(List.pairwise_iff_getElem.1 hne) i j (by omega) bd (by omega);rw[e2]at this;intro e3;rw[e]at e3;apply this;revert e3;generalize ib (c5 x)=K1;generalize ib (c5 L[j])=K2;obtain⟨a1,a2,a3,a4⟩:=K1;obtain⟨b1,b2,b3,b4⟩:=K2;simp[dd]
 have hRn:(L.take (j+1)).map eU=(L.take j).map eU++[eU L[j]]:=by rw[eG,List.map_append];rfl
 have qs:∃x∈L.take (j+1),dd (ib (c5 L[j]))=dd (ib (c5 x)):=⟨L[j],by rw[eG];exact List.mem_append_right _ (List.mem_singleton.2 rfl),rfl⟩
 have hold:∀q∈Mj,∃x∈L.take (j+1),q.1=dd (ib (c5 x)):=fun q h=>by
  obtain⟨x,hx,e⟩:=hMj q h;exact⟨x,by rw[eG];exact List.mem_append_left _ hx,e⟩
 generalize L[j]=d at*;have ai0:=MJ.ok;have Cn:=fun O'=>I8 (c5 d) O'
 have Cr:=fun(O':VH) (tx:Tok)=>V7 (c5 d) tx O' MJ.x
 have Cp:=fun(O':VH) (w:Bs)=>MI wb O' d.v w (Nat.le_trans MJ.v.2 (by decide)) MJ.vp
 have IA:(d.v==[])=false:=by simpa using MJ.vn
 have ai1:=fun O'=>Qv (j+1) O' (by omega)
 have D6:=rE (j+1);have dU:((j:Int)+1)=((j+1:Nat):Int):=by omega
 have hud:cD (aP d)=aP d:=by simpa using kL [d]
 have afb:=fun(O':VH) (g':O.Ge O') (w:Bs) (ri:w.length<=1000)=>zQ O' g' d w MJ ri
 clear zQ;have ai2:=MJ.x;clear MJ hq;have Qr:eU d=⟨ib (c5 d),d.v,max d.s 1,d.o==1,d.x⟩:=rfl;generalize eU d=F at Qr hRn;have hrF:c5 d=⟨d.g,d.a,d.v,vu d.t,d.c,d.s,d.o,d.x⟩:=rfl;have ako:cD (aP (c5 d))=aP (c5 d):=by simpa using kL [c5 d]
 have MG:(L.take (j+1)).map c5=(L.take j).map c5++[c5 d]:=by rw[eG,List.map_append];rfl
 have Vn:=fun(O':VH) (hG:Qx O' (O.next+1) O.next O.next ((L.take j).map c5) Mj cm tk) (h2:O.next<=O'.next)=>agT hG (c5 d) ai0 (by rw[List.length_map,List.length_take];omega) h2 fw
 generalize c5 d=D at*;obtain⟨dg,da,dv,dt,dc,ki,dO,dx⟩:=d;dsimp only at hrF Qr Cp IA ai2;generalize vu dt=T at hrF;subst hrF;generalize ib ⟨dg,da,dv,T,dc,ki,dO,dx⟩=K at*;obtain⟨k1,k2,k3,k4⟩:=K;simp only[aP,au,fX,vq,aY,List.length_nil,List.flatMap_nil]at bu Cn Cr afb Cp Vn;refine VC.ag aa (ae @de ?_);refine VC.ag aa (ae @de ?_);refine VC.bA (VC.aD ?_);refine VC.ag aa (ao @de @bu ?_);refine VC.al ?_;rintro O3 ⟨aO,kQ,gZ⟩;refine VC.ag aa (ao @de @dU ?_);refine ah.rt (ai1 _) ?_;rintro _ O4 ⟨rfl,e4⟩;rw[e4];clear e4 O4;refine ae @de ?_
 have hWl:(100::101::112::101::110::100::101::110::99::121::91::(k9 (j+1)++[93])).length<=1000:=by
  simp only[List.length_cons,List.length_append,List.length_nil];omega
 generalize (100::101::112::101::110::100::101::110::99::121::91::(k9 (j+1)++[93]))=W at*;refine VC.ag aa (ao @de @kQ ?_);refine ah.rt (afb O3 (ay.trans aO) W hWl) ?_;rintro _ O4 ⟨rfl,bh⟩;refine ae @de ?_;refine ah.rt (Cr _ _) ?_;rintro _ O5 ⟨rfl,bK⟩;have m6:=(bh.trans bK).at kQ;have gu:=(bh.trans bK).next;refine ao @de @m6 ?_;refine VC.gen ?_;intro O6 e6;have ai3:O2.Ge O6:=by rw[e6];exact((aO.trans bh).trans bK).set (Nat.le_refl _) _
 have mD:O6.hp O2.next=some (.cells [.str dg,.str da,.str dv,.str T,.str dc,.v (.int .i64 ki),.v (.int .i64 dO),.sl dx.length (dx.flatMap bO) .aq]):=by rw[e6];exact VH.an _ _ _
 have ny:O2.next+1<=O6.next:=by rw[e6];show _<=O5.next;omega
 clear e6 m6;refine VC.ag aa (aM @de @mD @IA ?_);refine VC.bE [0,1,5,6,8,10,18,19,20] (fun nb:Nat=>[.ptr wb 0,.sl 0 [] t,.ptr (O.next+1) 0,.sl R.length (R.flatMap dE) tl,.ptr O2.next 0,.ptr nb 0,.sl L.length (L.flatMap aP) .aq,.v (.int .i64 L.length),.v (.int .i64 j)]) (fun nb O'=>O6.Ge O'/\O6.next<=nb/\nb<O'.next/\O'.hp nb=some (.cells (dE F))) ?_ ?_
 ·subst Qr;refine VC.zJ [17] (O2.next) (fun O'=>O6.next<=O'.next/\∀i,i<O6.next->i≠O2.next->O'.hp i=O6.hp i) (mD) (fun X=>⟨Nat.le_refl _,fun i _ h=>VH.ak _ _ h⟩) ?_;intro X;refine ab.pJ (m:=.agg [.str dg,.str da,.str dv,.str T,.str dc,.v (.int .i64 ki),.v (.int .i64 dO),.sl dx.length (dx.flatMap bO) .aq]) 0 (fun _ h=>h.1) (fun _ h=>h) ?_ ?_
  ·exact fe @de
  simp only[aj];refine ab.av 2 ?_;refine ae @de ?_;refine ab.av 3 ?_;refine ae @de ?_;refine ab.pJ (m:=.str dv) 4 (fun _ h=>h.1) (fun _ h=>h) ?_ ?_
  ·exact fe @de
  simp only[aj];refine ab.av 5 ?_;refine ae @de ?_;refine ab.av 7 ?_;refine ae @de ?_;refine ab.pJ (m:=.v (.int .i64 ki)) 8 (fun _ h=>h.1) (fun _ h=>h) ?_ ?_
  ·exact fe @de
  simp only[aj];refine ab.av 9 ?_;refine ae @de ?_;refine ab.av 10 ?_;refine ae @de ?_;refine ab.pJ (m:=.v (.int .i64 dO)) 11 (fun _ h=>h.1) (fun _ h=>h) ?_ ?_
  ·exact fe @de
  simp only[aj];refine ab.av 12 ?_;refine ae @de ?_;refine ab.av 13 ?_;refine ae @de ?_;refine ab.pJ (m:=.sl dx.length (dx.flatMap bO) .aq) 14 (fun _ h=>h.1) (fun _ h=>h) ?_ ?_
  ·exact fe @de
  simp only[aj];have kD:∀A B:VH,A.Ge B->(A.hp O2.next=some (.obj X)/\O6.next<=A.next/\∀i,i<O6.next->i≠O2.next->A.hp i=O6.hp i)->(B.hp O2.next=some (.obj X)/\O6.next<=B.next/\∀i,i<O6.next->i≠O2.next->B.hp i=O6.hp i):=fun A B g h=>⟨g.at h.1,Nat.le_trans h.2.1 g.next,fun i h1 h2=>(g.hp i (by omega)).trans (h.2.2 i h1 h2)⟩
  have hJ8:(O6.set O2.next (.obj X)).hp O2.next=some (.obj X)/\O6.next<=(O6.set O2.next (.obj X)).next/\∀i,i<O6.next->i≠O2.next->(O6.set O2.next (.obj X)).hp i=O6.hp i:=⟨VH.an _ _ _,Nat.le_refl _,fun i _ h=>VH.ak _ _ h⟩
  generalize O6.set O2.next (.obj X)=O8 at*;have tJ:∀A:VH,A.Ge (A.push (.cells [.str [],.str [],.str [],.str [],.v (.bool false),.str [],.sl 0 [] .nil,.v (.int .i64 0),.v (.bool false),.sl 0 [] .nil])):=fun A=>(VH.Ge.refl A).push _
  have hpn:∀A:VH,(A.push (.cells [.str [],.str [],.str [],.str [],.v (.bool false),.str [],.sl 0 [] .nil,.v (.int .i64 0),.v (.bool false),.sl 0 [] .nil])).hp A.next=some (.cells [.str [],.str [],.str [],.str [],.v (.bool false),.str [],.sl 0 [] .nil,.v (.int .i64 0),.v (.bool false),.sl 0 [] .nil]):=fun A=>VH.aW _ _
  refine ab.pair (i:=1) (j:=16) ?_ ?_
  ·refine aH.jj (Cn O8) ?_;rintro _ O9 ⟨rfl,bg⟩;simp only[aj];have MK:=kD _ _ bg hJ8;refine⟨MK,?_⟩;refine ab.pair (i:=6) (j:=16) ?_ ?_
   ·refine aH.jj (Cp O9 W) ?_;rintro _ fA ⟨rfl,ML⟩;simp only[aj];have xm:=kD _ _ ML MK;refine⟨xm,?_⟩;refine ab.av 15 ?_;refine ae @de ?_;refine ab.op (i:=16) ?_;refine ae @de ?_;have B0:=kD _ _ (tJ fA) xm;refine⟨⟨xm.1,B0.2⟩,?_⟩;have hz:=hpn fA;have hl:=Nat.lt_succ_self fA.next;have h6:=xm.2.1;have lr:=B0;refine ab.jm [(17,.one)] ?_;have r6:=(VH.ak (k:=O2.next) _ (.cells [.str dg,.str da,.str dv,.str T,.str dc,.v (.int .i64 ki),.v (.int .i64 dO),.sl dx.length (dx.flatMap bO) .aq]) (show fA.next≠O2.next by omega)).trans hz;refine aM @de @hz @r6 ?_;refine aA.mk fA.next ⟨⟨lr.2.1,fun i h1=>?_⟩,h6,hl,VH.an _ _ _⟩;rw[VH.ak _ _ (by omega)];by_cases e:i=O2.next
    ·subst e;rw[VH.an];exact mD.symm
    ·rw[VH.ak _ _ e];exact lr.2.2 i h1 e
   ·refine aH.o1 ?_;refine ae @de ?_;have xm:=kD _ _ (tJ O9) MK;refine⟨⟨MK.1,xm.2⟩,?_⟩;refine ab.call (i:=6) (Cp _ W) ?_;rintro _ tV ⟨rfl,oJ⟩;simp only[aj];have B0:=kD _ _ oJ xm;refine⟨B0,?_⟩;refine ab.av 15 ?_;refine ae @de ?_;have hz:=(oJ.hp _ (Nat.lt_succ_self _)).trans (hpn O9);have hl:=Nat.lt_of_lt_of_le (Nat.lt_succ_self O9.next) oJ.next;have h6:=MK.2.1;have lr:=B0;refine ab.jm [(17,.one)] ?_;have r6:=(VH.ak (k:=O2.next) _ (.cells [.str dg,.str da,.str dv,.str T,.str dc,.v (.int .i64 ki),.v (.int .i64 dO),.sl dx.length (dx.flatMap bO) .aq]) (show O9.next≠O2.next by omega)).trans hz;refine aM @de @hz @r6 ?_;refine aA.mk O9.next ⟨⟨lr.2.1,fun i h1=>?_⟩,h6,hl,VH.an _ _ _⟩;rw[VH.ak _ _ (by omega)];by_cases e:i=O2.next
    ·subst e;rw[VH.an];exact mD.symm
    ·rw[VH.ak _ _ e];exact lr.2.2 i h1 e
  ·refine aH.o1 ?_;refine ae @de ?_;have MK:=kD _ _ (tJ O8) hJ8;refine⟨⟨hJ8.1,MK.2⟩,?_⟩;refine ab.call (i:=1) (Cn _) ?_;rintro _ fA ⟨rfl,ML⟩;simp only[aj];have xm:=kD _ _ ML MK;refine⟨xm,?_⟩;refine ab.call (i:=6) (Cp _ W) ?_;rintro _ tV ⟨rfl,oJ⟩;simp only[aj];have B0:=kD _ _ oJ xm;refine⟨B0,?_⟩;refine ab.av 15 ?_;refine ae @de ?_;have hz:=((ML.trans oJ).hp _ (Nat.lt_succ_self _)).trans (hpn O8);have hl:=Nat.lt_of_lt_of_le (Nat.lt_succ_self O8.next) (ML.trans oJ).next;have h6:=hJ8.2.1;have lr:=B0;refine ab.jm [(17,.one)] ?_;have r6:=(VH.ak (k:=O2.next) _ (.cells [.str dg,.str da,.str dv,.str T,.str dc,.v (.int .i64 ki),.v (.int .i64 dO),.sl dx.length (dx.flatMap bO) .aq]) (show O8.next≠O2.next by omega)).trans hz;refine aM @de @hz @r6 ?_;refine aA.mk O8.next ⟨⟨lr.2.1,fun i h1=>?_⟩,h6,hl,VH.an _ _ _⟩;rw[VH.ak _ _ (by omega)];by_cases e:i=O2.next
   ·subst e;rw[VH.an];exact mD.symm
   ·rw[VH.ak _ _ e];exact lr.2.2 i h1 e
 rintro nb O7 ⟨en,akp,hnb,Qm⟩;have ai4:=en.at mD;have Sr:=ai3.trans en;have ai5:=ay.trans Sr;have sw:=en.next;simp only[dE,fX,vq,aY,au,List.length_nil,List.flatMap_nil,List.cons_append,List.nil_append]at Qm;refine VC.ag aa (ao @de @ai4 ?_);refine ah.rt (Vn O7 (hG2.ge Sr) (by omega)) ?_;rintro _ O8 ⟨⟨tk8,Cs,ai6⟩,DU,yc⟩;have hc8:=Cs.cell;have agU:((L.take j).map c5++[({g:=dg,a:=da,v:=dv,t:=T,c:=dc,s:=ki,o:=dO,x:=dx}:Dp)]).length=j+1:=by rw[List.length_append,List.length_map,List.length_take];simp;omega
 rw[agU,hRl.symm]at hc8;have VT:=(yc nb hnb (by omega) (by omega) (fun e=>by have:=(App.qe hG2.app e).2;omega)).trans Qm;refine ae @de ?_;have dJ:decide ((R.length:Int)<((R.length+1:Nat):Int))=true:=by rw[decide_eq_true_iff];omega
 have hY:=Sq.ge Sr;have hG7:=hG2.ge Sr;have BT:App O8 O.next 10 tl:=hY.at DU fun i e=>yc i (hY.qe e).2 (fun e2=>by have:=hY.tok e;rw[e2,hG7.cell]at this;cases this) (fun e2=>by have:=hY.tok e;rw[e2,hG7.map]at this;cases this) (fun e2=>Ft i e2 e)
 obtain⟨mE,fP,kN⟩:=fF (n:=R.length) (cs:=R.flatMap dE) (ds:=[.str k1,.str k2,.str k3,.str k4,.v (.bool false),.str F.v,.sl 0 [] .aq,.v (.int .i64 F.s),.v (.bool F.o),.sl F.x.length (F.x.flatMap bO) .aq]) (es:=dE F) G8 Lf.1.1 BT (aQ nG R) rfl rfl (by decide) (by omega) (by simp only[maxLen];omega) (wA R) (by subst Qr;exact Qz ⟨⟨k1,k2,k3,k4⟩,dv,max ki 1,dO==1,dx⟩);subst Qr;refine WC.sound aa (c8 @de @hc8 @VT @dJ ?_);refine VL.k6 fP kN ?_;refine ae @de ?_;refine WC.sound aa (ao @de @dU ?_);have MM:=cK.after BT
 have lF:O.Ge O8:=⟨by omega,fun i h1=>by
  rw[yc i (by omega) (by omega) (by omega) (fun e=>by have:=(App.qe hG7.app e).1;omega)];exact ai5.hp i h1⟩
 have hfm:(R++[(⟨⟨k1,k2,k3,k4⟩,dv,max ki 1,dO==1,dx⟩:oA)]).flatMap dE=R.flatMap dE++dE ⟨⟨k1,k2,k3,k4⟩,dv,max ki 1,dO==1,dx⟩:=by simp only[List.flatMap_append,List.flatMap_cons,List.flatMap_nil,List.append_nil]
 have hfn:(R++[(⟨⟨k1,k2,k3,k4⟩,dv,max ki 1,dO==1,dx⟩:oA)]).length=R.length+1:=List.length_append;refine aC.next (j+1,R++[⟨⟨k1,k2,k3,k4⟩,dv,max ki 1,dO==1,dx⟩],.own O8.next 10) ⟨bd,?_,cK.ec lF BT MM,by have:=MM.next;omega,App.after (by omega),Mj++[(dd ⟨k1,k2,k3,k4⟩,.v (.bool true),cm)],cm+1,tk8,?_,?_,?_⟩ (hl:=(by dsimp only;rw[hfm,hfn];rfl))
 ·rw[hRn,hR]
 ·dsimp only;rw[MG];have afc:∀i,Tok.id tl=some i->O8.hp i=some .tok:=fun i e=>BT.tok e
  refine⟨(MM.hp _ (by omega) (fun e=>by have:=afc _ e;rw[Cs.cell]at this;cases this)).trans Cs.cell,(MM.hp _ (by omega) (fun e=>by have:=afc _ e;rw[Cs.map]at this;cases this)).trans Cs.map,Cs.ok,Cs.app.at MM.next fun i e=>MM.hp i (Cs.app.qe e).2 (fun e2=>by have h1:=ai6 i e;have h2:=(hY.qe e2).2;omega),⟨by have:=MM.next;have:=Cs.lt;omega,by have:=MM.next;have:=Cs.lt;omega⟩,Cs.ne⟩
 ·intro q hq';rcases List.mem_append.1 hq' with h | h
  ·exact hold q h
  ·rw[List.mem_singleton]at h;subst h;exact qs
 ·intro i e e2;injection e2 with e2;have:=(Cs.app.qe e).2;omega
set_option linter.defProp false in
def cB:=And.intro de<|And.intro gm<|And.intro DM<|And.intro G8<|And.intro Lf<|And.intro T31 aev
theorem QA (L:List oA) (tk:Tok) (O:VH) (hn:L.length<=100000):VF Tryz.prog 116 [.sl L.length (L.flatMap dE) tk] O (aI fun m O'=>O.Ge O'/\GR O' 175 10 O.next m L.length (L.flatMap dE)):=by
 have dF:=aQ nG L
 have gJ:(L.flatMap dE).all dz=true:=by
  rw[List.all_flatMap,List.all_eq_true];intro p _;rfl
 refine VF.dh 8 [.tmp 2] Tryz.func116 ?_;refine ao @cB @nE ?_;refine VL.o_ (pR Tryz.underlying167 rfl) ?_;rintro _ O1 ⟨eO,b,rfl,hb⟩;rw[eO];clear eO O1
 refine WL.sound aa ?_;cases b
 ·refine ae @cB ?_;refine VL.grow aa (.inl rfl) (te:=⟨_,10,_,_⟩) (B:=O.next) (n':=0) (L:=[]) (dx:=.slice 175) (p:=.sl 0 [] .full) (q:=.sl L.length (L.flatMap dE) tk) (j:=L.length) (ds:=L.flatMap dE) (.inl ⟨rfl,rfl,.inr rfl⟩) (by simp[yR,dF]) gJ (by rw[G8];rfl) Lf.1.1 (by rw[G8];rfl) trivial (by dsimp only;omega) (by simp only[maxLen];omega) (Nat.le_refl _) rfl rfl rfl rfl ?_;intro m O' h1 h2 h3 h4;rw[Nat.zero_add,List.nil_append]at h1;refine ae @cB ?_;exact⟨h3 rfl,h1⟩
 ·obtain⟨h0,h1⟩:=hb rfl;rw[h0,h1];refine ae @cB ?_;exact⟨VH.Ge.refl _,.inl ⟨rfl,rfl,.inl rfl⟩⟩
theorem QB (tk:Tok) (O:VH):VF Tryz.prog 118 [.sl 0 [] tk] O (aI fun m O'=>m= .sl 0 [] .aq/\O'=O):=by
 refine VF.Vy (Φ :=fun m O'=>(m= .sl 0 [] .full\/m= .sl 0 [] .nil)/\O'=O) ?_ fun m O' h=>⟨_,(by rcases h.1 with e | e<;>rw[e]<;>exact Wk.tok),rfl,h.2⟩
 refine VF.dh 8 [.tmp 2] Tryz.func118 ?_;refine ao @cB @nE ?_;refine VL.o_ (pR Tryz.underlying31 rfl) ?_;rintro _ O1 ⟨eO,b,rfl,hb⟩;rw[eO];clear eO O1
 refine WL.sound aa ?_;cases b
 ·refine ae @cB ?_;refine VL.app (m:=.sl 0 [] .full) (O':=O) (by simp[gP,T31,aev.1.1]) ?_ (ht:=aa) (hx:=rfl) (hy:=rfl);refine ae @cB ?_;exact .inl trivial
 ·refine ae @cB ?_;exact .inr trivial
structure Mdl where
 g:Gv
 pk:Bs
 props:List (Bs×Bs)
 Jh:List oA
def ll (m:Mdl):List MV:=bL m.g++[.str m.pk,.sl m.props.length (m.props.flatMap aZ) .aq,.sl 0 [] .aq,.sl m.Jh.length (m.Jh.flatMap dE) .aq]
theorem adG (m:Mdl) (O:VH) (hp:m.props.length<=10000) (hn:m.Jh.length<=10000) (hx:∀n∈m.Jh,n.x.length<=10000):VF Tryz.prog 89 [.agg (ll m)] O (aI fun r O'=>r= .agg (ll m)/\O.Ge O'):=by
 refine VF.fg ?_;obtain⟨⟨g1,g2,g3⟩,pk,P,L⟩:=m;dsimp only at hp hn hx;simp only[ll,bL,List.cons_append,List.nil_append];have dF:=aQ nG L;refine VF.bU 70 [.cell 2 169] Tryz.func89 ?_;refine VC.ag aa (ae @cB ?_);refine VC.gen ?_;intro O1 e1;obtain⟨aU,du,cV,cy⟩:=gh _ _ e1;clear e1;refine VC.bA ?_;refine VC.pe [10,11,12,13,14] (O.next) (cV) ?_;intro X;refine ab.av 0 ?_;refine ae @cB ?_;refine ab.sk (m:=.sl P.length (P.flatMap aZ) .aq) 1 ?_ ?_
 ·exact fe @cB
 simp only[aj];refine ab.av 3 ?_;refine ae @cB ?_;refine ab.sk (m:=.sl 0 [] .aq) 4 ?_ ?_
 ·exact fe @cB
 simp only[aj];refine ab.av 6 ?_;refine ae @cB ?_;refine ab.sk (m:=.sl L.length (L.flatMap dE) .aq) 7 ?_ ?_
 ·exact fe @cB
 simp only[aj];have I_:(O1.set O.next (.obj X)).hp O.next=some (.obj X):=VH.an _ _ _;have jx:∀i,i≠O.next->(O1.set O.next (.obj X)).hp i=O1.hp i:=fun i h=>VH.ak _ _ h
 have jk:(O1.set O.next (.obj X)).next=O1.next:=rfl;generalize O1.set O.next (.obj X)=O2 at*;refine ab.call (i:=2) (Eu P .aq O2 (by omega)) ?_;rintro _ O3 ⟨rfl,aO⟩;simp only[aj];refine⟨aO.at I_,?_⟩;refine ab.av 9 ?_;refine ae @cB ?_;refine ab.call (i:=5) (P8 [] .aq O3 (by decide)) ?_;rintro _ O4 ⟨rfl,bh⟩;simp only[aj];refine⟨(aO.trans bh).at I_,?_⟩;refine ab.call (i:=8) (QA L .aq O4 (by omega)) ?_;rintro mN O5 ⟨bK,wQ⟩;simp only[aj];have MN:=(aO.trans bh).trans bK;refine⟨MN.at I_,?_⟩;refine ab.mO [(10,.one),(11,.av),(12,.one),(13,.av),(14,.one)] ?_;simp only[List.length_nil,List.flatMap_nil];have eY:=MN.at I_;have cR:=MN.at ((jx _ (by omega)).trans cy);have gu:=MN.next;have jq:∀i,i<O.next->O5.hp i=O.hp i:=fun i h=>(MN.hp i (by omega)).trans ((jx i (by omega)).trans (aU.hp i h))
 rcases wQ with⟨h0,_,hp⟩ | ⟨k,c,rfl,yW,_,cC⟩
 ·obtain rfl:L=[]:=List.eq_nil_of_length_eq_zero h0;rcases hp with rfl | rfl
  ·refine ae @cB ?_;refine VC.gen ?_;intro O6 e6;have mD:O6.hp O.next=some (.cells [.str g1,.str g2,.str g3,.str pk,.sl P.length (P.flatMap aZ) .aq,.sl 0 [] .aq,.sl 0 [] .nil]):=by rw[e6];exact VH.an _ _ _
   have ni:∀i,i<O5.next->i≠O.next->O6.hp i=O5.hp i:=fun i h1 h2=>by rw[e6,VH.ak _ _ h2,VH.ak _ _ h2,VH.ak _ _ h2,VH.ak _ _ h2]
   have ny:O6.next=O5.next:=by rw[e6];rfl
   clear e6;have iC:=(ni (O.next+1) (by omega) (by omega)).trans cR;refine VC.bE [1,2] (fun _:Unit=>[.ptr O.next 0,.ptr (O.next+1) 0]) (fun _ O'=>O'=O6) ?_ ?_
   ·refine VC.ag aa (ao @cB @mD ?_);refine VC.aD ?_;refine VC.bH [20] [1,2,19] (fun _:Nat=>[mi 0]) (fun _ O'=>O'=O6) (fun x=>x) (0) ?_ ?_
    ·rfl
    rintro _ O7 e7;rw[e7];refine WC.sound aa (ae @cB ?_);exact aA.mk () rfl
   rintro _ O7 e7;rw[e7];clear e7 O7;refine VC.bE [1,2] (fun _:Unit=>[.ptr O.next 0,.ptr (O.next+1) 0]) (fun _ O'=>O'=O6) ?_ ?_
   ·refine VC.ag aa (ao @cB @mD ?_);refine VC.aD ?_;refine VC.bH [39] [1,2,38] (fun _:Nat=>[mi 0]) (fun _ O'=>O'=O6) (fun x=>x) (0) ?_ ?_
    ·rfl
    rintro _ O7 e7;rw[e7];refine WC.sound aa (ae @cB ?_);exact aA.mk () rfl
   rintro _ O7 e7;rw[e7];clear e7 O7;refine WC.sound aa (aM @cB @mD @iC ?_);rw[fG];exact⟨rfl,by show _<=O6.next;omega,fun i h=>VH.sn ((ni i (by omega) (by omega)).trans (jq i h))⟩
  ·refine ae @cB ?_;refine VC.gen ?_;intro O6 e6;have mD:O6.hp O.next=some (.cells [.str g1,.str g2,.str g3,.str pk,.sl P.length (P.flatMap aZ) .aq,.sl 0 [] .aq,.sl 0 [] .full]):=by rw[e6];exact VH.an _ _ _
   have ni:∀i,i<O5.next->i≠O.next->O6.hp i=O5.hp i:=fun i h1 h2=>by rw[e6,VH.ak _ _ h2,VH.ak _ _ h2,VH.ak _ _ h2,VH.ak _ _ h2]
   have ny:O6.next=O5.next:=by rw[e6];rfl
   clear e6;have iC:=(ni (O.next+1) (by omega) (by omega)).trans cR;refine VC.bE [1,2] (fun _:Unit=>[.ptr O.next 0,.ptr (O.next+1) 0]) (fun _ O'=>O'=O6) ?_ ?_
   ·refine VC.ag aa (ao @cB @mD ?_);refine VC.aD ?_;refine VC.bH [20] [1,2,19] (fun _:Nat=>[mi 0]) (fun _ O'=>O'=O6) (fun x=>x) (0) ?_ ?_
    ·rfl
    rintro _ O7 e7;rw[e7];refine WC.sound aa (ae @cB ?_);exact aA.mk () rfl
   rintro _ O7 e7;rw[e7];clear e7 O7;refine VC.bE [1,2] (fun _:Unit=>[.ptr O.next 0,.ptr (O.next+1) 0]) (fun _ O'=>O'=O6) ?_ ?_
   ·refine VC.ag aa (ao @cB @mD ?_);refine VC.aD ?_;refine VC.bH [39] [1,2,38] (fun _:Nat=>[mi 0]) (fun _ O'=>O'=O6) (fun x=>x) (0) ?_ ?_
    ·rfl
    rintro _ O7 e7;rw[e7];refine WC.sound aa (ae @cB ?_);exact aA.mk () rfl
   rintro _ O7 e7;rw[e7];clear e7 O7;refine WC.sound aa (aM @cB @mD @iC ?_);rw[fG];exact⟨rfl,by show _<=O6.next;omega,fun i h=>VH.sn ((ni i (by omega) (by omega)).trans (jq i h))⟩
 obtain⟨sp,hc,kG⟩:=cC.cells;have kP:=cC.lo;have P7:=cC.hi;have g_:=(aO.trans bh).next;refine ae @cB ?_;refine VC.gen ?_;intro O6 e6;have mD:O6.hp O.next=some (.cells [.str g1,.str g2,.str g3,.str pk,.sl P.length (P.flatMap aZ) .aq,.sl 0 [] .aq,.bk k 0 L.length c]):=by rw[e6];exact VH.an _ _ _
 have ni:∀i,i<O5.next->i≠O.next->O6.hp i=O5.hp i:=fun i h1 h2=>by rw[e6,VH.ak _ _ h2,VH.ak _ _ h2,VH.ak _ _ h2,VH.ak _ _ h2]
 have ny:O6.next=O5.next:=by rw[e6];rfl
 clear e6;have iC:=(ni (O.next+1) (by omega) (by omega)).trans cR;refine VC.bE [1,2] (fun _:Unit=>[.ptr O.next 0,.ptr (O.next+1) 0]) (fun _ O'=>O'=O6) ?_ ?_
 ·refine VC.ag aa (ao @cB @mD ?_);refine VC.aD ?_;refine VC.bH [20] [1,2,19] (fun _:Nat=>[mi 0]) (fun _ O'=>O'=O6) (fun x=>x) (0) ?_ ?_
  ·rfl
  rintro _ O7 e7;rw[e7];refine WC.sound aa (ae @cB ?_);exact aA.mk () rfl
 rintro _ O7 e7;rw[e7];clear e7 O7;have AZ:=(ni k (by omega) (by omega)).trans hc;refine VC.bE [1,2] (fun _:Unit=>[.ptr O.next 0,.ptr (O.next+1) 0]) (fun _ O'=>O6.Ge O') ?_ ?_
 ·refine VC.ag aa (ao @cB @mD ?_);refine VC.aD ?_;refine VC.bH [39] [1,2,38] (fun j:Nat=>[mi j]) (fun j O'=>O6.Ge O'/\j<=L.length) (fun j=>L.length - j) (0) ?_ ?_
  ·exact⟨VH.Ge.refl _,Nat.zero_le _⟩
  rintro j O7 ⟨en,hj⟩;by_cases bd:j<L.length;rotate_left
  ·obtain rfl:j=L.length:=by omega
   refine WC.sound aa (ae @cB ?_);exact aA.mk () en
  have Ss:=en.at mD;have St:=(en.hp k (by omega)).trans AZ;have bu:(L.flatMap dE++sp)[j*10+9]?=some (.sl L[j].x.length (L[j].x.flatMap bO) .aq):=jo nG (List.getElem?_eq_getElem bd) rfl;have aaJ:(L.flatMap dE++sp)[j*10+6]?=some (.sl 0 [] .aq):=jo nG (List.getElem?_eq_getElem bd) rfl;have hxj:=hx L[j] (List.getElem_mem bd);generalize L[j].x=X at*;generalize L.flatMap dE++sp=C at*;have mq:=wv bu;have qS:=wv aaJ;have IS:=(List.getElem?_eq_some_iff.1 bu).1;have dU:((j:Int)+1)=((j+1:Nat):Int):=by omega
  have sw:=en.next;refine VC.ag aa (ae @cB ?_);refine VC.ag aa (ae @cB ?_);refine VC.bA (VC.aD ?_);refine VC.ag aa (ae @cB ?_);refine VC.bA ?_;refine VC.CD [10,11,12] (O.next) (k) (Ss) (St) ?_ (hne:=(by omega));intro X1 X2;refine ab.av 0 ?_;refine ae @cB ?_;refine ab.pJ (m:=.bk k 0 L.length c) 1 (fun _ h=>h.1) (fun _ h=>h.1) ?_ ?_
  ·exact fe @cB
  simp only[aj];refine ab.av 2 ?_;refine ae @cB ?_;refine ab.av 3 ?_;refine ae @cB ?_;refine ab.pJ (m:=.bk k 0 L.length c) 4 (fun _ h=>h.1) (fun _ h=>h.1) ?_ ?_
  ·exact fe @cB
  simp only[aj];refine ab.av 5 ?_;refine ae @cB ?_;refine ab.av 6 ?_;refine ae @cB ?_;refine ab.av 7 ?_;refine ae @cB ?_;refine ab.pJ (m:=.sl X.length (X.flatMap bO) .aq) 8 (fun _ h=>h.2) (fun _ h=>h.2) ?_ ?_
  ·exact dH @cB @bu
  simp only[aj];have afd:LH O.next k X1 X2 ((O7.set O.next (.obj X1)).set k (.obj X2)):=⟨VH.sn (VH.an _ _ _),VH.an _ _ _⟩;have akq:((O7.set O.next (.obj X1)).set k (.obj X2)).next=O7.next:=rfl;have ai7:∀i,i≠O.next->i≠k->((O7.set O.next (.obj X1)).set k (.obj X2)).hp i=O7.hp i:=fun i h1 h2=>by rw[VH.ak _ _ h2,VH.ak _ _ h1]
  generalize (O7.set O.next (.obj X1)).set k (.obj X2)=O8 at*;refine ab.call (i:=9) (sI X .aq O8 (by omega)) ?_;rintro _ O9 ⟨rfl,I5⟩;have Su:VH.Ge O8 O9:=by first | exact I5 | (rw[I5];exact VH.Ge.refl _)
  clear I5;simp only[aj];refine⟨⟨Su.at afd.1,Su.at afd.2⟩,?_⟩;refine ab.we [(10,.av),(11,.av),(12,.one)] ?_ (hne:=(by omega));refine aM @cB @bu @mq ?_;refine VC.gen ?_;intro fA aaK
  have Ji:VH.Ge O7 fA:=by
   refine⟨by rw[aaK];show _<=VH.next O9;have:=Su.next;omega,fun i h=>?_⟩;rw[aaK];by_cases e1:i=k
   ·subst e1;first | (rw[VH.an];exact St.symm) | (rw[VH.an];exact St.symm)
   ·by_cases e2:i=O.next
    ·subst e2;first | (rw[VH.ak _ _ e1,VH.ak _ _ e1,VH.an];exact Ss.symm) | (rw[VH.ak _ _ e1,VH.an];exact Ss.symm)
    ·first | rw[VH.ak _ _ e1,VH.ak _ _ e1,VH.ak _ _ e2] | rw[VH.ak _ _ e1,VH.ak _ _ e2]
     exact(Su.hp i (by omega)).trans (ai7 i e2 e1)
  clear aaK;have QC:=Ji.at Ss;have QD:=(Ji.hp k (by omega)).trans St;have aj2:=Ji.next;refine VC.CD [11,12,13,14] (O.next) (k) (QC) (QD) ?_ (hne:=(by omega));intro X3 X4;refine ab.av 0 ?_;refine ae @cB ?_;refine ab.pJ (m:=.bk k 0 L.length c) 1 (fun _ h=>h.1) (fun _ h=>h.1) ?_ ?_
  ·exact fe @cB
  simp only[aj];refine ab.av 2 ?_;refine ae @cB ?_;refine ab.av 3 ?_;refine ae @cB ?_;refine ab.pJ (m:=.bk k 0 L.length c) 4 (fun _ h=>h.1) (fun _ h=>h.1) ?_ ?_
  ·exact fe @cB
  simp only[aj];refine ab.av 5 ?_;refine ae @cB ?_;refine ab.av 6 ?_;refine ae @cB ?_;refine ab.av 7 ?_;refine ae @cB ?_;refine ab.av 8 ?_;refine ae @cB ?_;refine ab.pJ (m:=.sl 0 [] .aq) 9 (fun _ h=>h.2) (fun _ h=>h.2) ?_ ?_
  ·exact dH @cB @aaJ
  simp only[aj];have aaL:LH O.next k X3 X4 ((fA.set O.next (.obj X3)).set k (.obj X4)):=⟨VH.sn (VH.an _ _ _),VH.an _ _ _⟩;have aj3:((fA.set O.next (.obj X3)).set k (.obj X4)).next=fA.next:=rfl;have agV:∀i,i≠O.next->i≠k->((fA.set O.next (.obj X3)).set k (.obj X4)).hp i=fA.hp i:=fun i h1 h2=>by rw[VH.ak _ _ h2,VH.ak _ _ h1]
  generalize (fA.set O.next (.obj X3)).set k (.obj X4)=tV at*;refine ab.call (i:=10) (QB .aq tV) ?_;rintro _ V_ ⟨rfl,I5⟩;have Jj:VH.Ge tV V_:=by first | exact I5 | (rw[I5];exact VH.Ge.refl _)
  clear I5;simp only[aj];refine⟨⟨Jj.at aaL.1,Jj.at aaL.2⟩,?_⟩;refine ab.we [(11,.av),(12,.av),(13,.av),(14,.one)] ?_ (hne:=(by omega));refine aM @cB @aaJ @qS ?_;refine VC.gen ?_;intro O13 aaM
  have agW:VH.Ge fA O13:=by
   refine⟨by rw[aaM];show _<=VH.next V_;have:=Jj.next;omega,fun i h=>?_⟩;rw[aaM];by_cases e1:i=k
   ·subst e1;first | (rw[VH.an];exact QD.symm) | (rw[VH.an];exact QD.symm)
   ·by_cases e2:i=O.next
    ·subst e2;first | (rw[VH.ak _ _ e1,VH.ak _ _ e1,VH.an];exact QC.symm) | (rw[VH.ak _ _ e1,VH.an];exact QC.symm)
    ·first | rw[VH.ak _ _ e1,VH.ak _ _ e1,VH.ak _ _ e2] | rw[VH.ak _ _ e1,VH.ak _ _ e2]
     exact(Jj.hp i (by omega)).trans (agV i e2 e1)
  clear aaM;refine WC.sound aa (ao @cB @dU ?_);exact aC.next (j+1) ⟨(en.trans Ji).trans agW,bd⟩
 rintro _ O9 bg;have hx9:=bg.at mD;have br:=bg.at iC;have I4:=(bg.hp k (by omega)).trans AZ;have EC:=bg.next;have Bb:∀i,i<O.next->O9.hp i=O.hp i:=fun i h=>(bg.hp i (by omega)).trans ((ni i (by omega) (by omega)).trans (jq i h))
 refine VC.wc (A:=[.str g1,.str g2,.str g3,.str pk,.sl P.length (P.flatMap aZ) .aq,.sl 0 [] .aq]) (E:=[]) (sz:=L.length*10) I4 hx9 (by omega) (by rw[List.length_append,dF];omega) ?_;have eG:((L.flatMap dE++sp).drop 0).take (L.length*10)=L.flatMap dE:=by rw[List.drop_zero,List.take_append_of_le_length (by rw[dF];exact Nat.le_refl _), <-dF,List.take_length]
 rw[eG];refine VC.gen ?_;intro fA rD;have ai8:fA.hp O.next=some (.cells [.str g1,.str g2,.str g3,.str pk,.sl P.length (P.flatMap aZ) .aq,.sl 0 [] .aq,.sl L.length (L.flatMap dE) .aq]):=by rw[rD];exact VH.an _ _ _
 have HH:fA.hp (O.next+1)=_:=(by rw[rD,VH.ak _ _ (by omega),VH.kh _ (by omega)]:fA.hp (O.next+1)=O9.hp (O.next+1)).trans br;have Ac:∀i,i<O.next->fA.hp i=O.hp i:=fun i h=>(by rw[rD,VH.ak _ _ (by omega),VH.kh _ (by omega)]:fA.hp i=O9.hp i).trans (Bb i h)
 have He:fA.next=O9.next:=by rw[rD];rfl
 clear rD;refine WC.sound aa (aM @cB @ai8 @HH ?_);rw[fG,wA];exact⟨rfl,by show _<=fA.next;omega,fun i h=>VH.sn (Ac i h)⟩
structure QF (O:VH) (bb md k:Nat) (MD:eW) (cm:Nat):Prop where
 cell:O.hp bb=some (.cells [.ptr k 0,.map md])
 map:O.hp md=some (.map (cx MD) cm)
 ok:nQ 3 MD
 lt:bb<O.next/\md<O.next
theorem QF.ge {O O':VH} {bb md k:Nat} {MD:eW} {cm:Nat} (h:QF O bb md k MD cm) (g:O.Ge O'):QF O' bb md k MD cm:=
 ⟨(g.hp _ h.lt.1).trans h.cell,(g.hp _ h.lt.2).trans h.map,h.ok,Nat.lt_of_lt_of_le h.lt.1 g.next,Nat.lt_of_lt_of_le h.lt.2 g.next⟩
def Ct (s:Bs):Bs:=if s=[]then lg else s
def ic (g:Gv) (p:Pm):Mdl:=⟨g,Ct p.pk,gG p,p.dQ.map eU⟩
structure PmQ (p:Pm) (g:Gv):Prop where
 c:PmC p
 gg:p.g=g.g
 ga:p.a=g.a
 gv:p.v=g.v
 tg:gk g.g
 ta:gk g.a
 tv:gk g.v
 tp:gk p.pk
 pi:eH (Ct p.pk)=true
 props:p.props=[]
 dY:p.dY=[]
 dQ:∀d∈p.dQ,Qw d
 len:p.dQ.length<=900
 keys:p.dQ.Pairwise fun x y=>ib (c5 x)≠ib (c5 y)
end Go.Proofs.YtoclnkfdahmnhaaGreatDoor
