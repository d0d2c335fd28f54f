import Derived.Test.YtoclnkfdahmnhaaGreatDoorMD
set_option linter.unusedVariables false
set_option linter.unusedSimpArgs false
namespace Go.Proofs.YtoclnkfdahmnhaaGreatDoor
open Go.RowKit
set_option maxRecDepth 10000
theorem C4 {t:Bs} {stop:UInt8}:∀(n o:Nat) (acc:Bs) {s:Bs} {o':Nat},eC t stop n o acc= .ok (s,o')->s.length+o<=acc.length+o'
 | 0,o,acc,s,o',h=>by
   unfold eC at h;injection h with h;injection h with h1 h2
   subst h1;subst h2;omega
 | n+1,o,acc,s,o',h=>by
   have done:∀(h:(.ok (acc,o):Except (Int×Nat) (Bs×Nat))= .ok (s,o')),s.length+o<=acc.length+o':=fun h=>by
    injection h with h;injection h with h1 h2
    subst h1;subst h2;omega
   unfold eC at h;cases hg:t[o]? with
   | none=>rw[hg]at h;exact done h
   | some c=>
     rw[hg]at h;simp only at h;split at h
     ·exact done h
     split at h
     ·split at h
      ·cases h
      ·rename_i h5;obtain⟨k1,k2,k3⟩:=Ae (by simpa using h5);have:=C4 n _ _ h;rw[List.length_append]at this;omega
     split at h
     ·cases h
     ·have:=C4 n _ _ h;rw[List.length_append]at this;simp only[List.length_cons,List.length_nil]at this;omega
theorem adK {t:Bs} {o:Nat} {s:Bs} {o':Nat} (h:tF t o= .ok (s,o')):s.length+o+2<=o':=by
 unfold tF at h;split at h
 ·cases h
 split at h
 ·cases h
 split at h
 ·cases h
 rename_i s2 o2 h2;have:=C4 _ _ _ h2;split at h
 ·cases h
 ·injection h with h;injection h with h1 h3
  subst h1;subst h3
  simp only[List.length_nil]at this;omega
theorem Wz (a b:List (Bs×Bs)):ja (a++b)=ja a+ja b:=by
 induction a with
 | nil=>rw[List.nil_append,ja,Nat.zero_add]
 | cons x a ih=>rw[List.cons_append,ja,ja,ih];omega
theorem S1 {t:Bs}:∀(n o:Nat) (l:List (Bs×Bs)) {l':List (Bs×Bs)} {o':Nat},o<=t.length->lp t n o l= .ok (l',o')->ja l'+o<=ja l+o'
 | 0,o,l,l',o',ho,h=>by
   rw[lp]at h;injection h with h;injection h with h1 h2
   subst h1;subst h2;omega
 | n+1,o,l,l',o',ho,h=>by
   have uQ:=iV t o ho;rw[lp]at h;split at h
   ·injection h with h;injection h with h1 h2
    subst h1;subst h2;omega
   rename_i hc;have ct:1<=j4 t o:=Nat.one_le_iff_ne_zero.2 fun e=>hc (.inl e)
   split at h
   ·cases h
   rename_i nm o2 h2;have hn:=gk h2;have bZ:=iV t o2 (by omega);split at h
   ·cases h
   split at h
   ·cases h
   rename_i y4 o4 h4;have hw:=kZ h4;have cL:=iV t o4 (by omega);split at h
   ·cases h
   rename_i v o6 h6;have hv:=adK h6;have Cq:=Ag h6;have:=S1 n o6 _ (by omega) h;rw[Wz,ja,ja]at this;dsimp only at this;omega
theorem Bq {t:Bs} {o:Nat} {q s:Bs} {p:Nat} (h:iU t o q= .ok (s,p)):s.length+o<=p:=by
 unfold iU at h;split at h
 ·cases h
 split at h
 ·cases h
 ·rename_i h1;injection h with h;injection h with h2 h3
  have hi:0<=Lib.index (t.drop o) q:=by omega
  unfold pS at h2;rw[if_pos hi]at h2;rw[<-h2,List.length_take];omega
theorem adL {t:Bs} {o:Nat} {x:Tk} {o':Nat} (ho:o<=t.length) (h:mn t o= .ok (x,o')):Ao x+o<=o'/\1<=x.kind/\x.kind<=6:=by
 unfold mn at h;unfold Ao;split at h
 ·obtain⟨y,h1,rfl⟩:=jc h;have:=Bq h1;simp only[List.length_cons,List.length_nil,ja]at this ⊢;exact⟨by omega,by decide,by decide⟩
 split at h
 ·obtain⟨y,h1,rfl⟩:=jc h;have:=Bq h1;simp only[List.length_cons,List.length_nil,ja]at this ⊢;exact⟨by omega,by decide,by decide⟩
 split at h
 ·obtain⟨y,h1,rfl⟩:=jc h;have:=Bq h1;simp only[List.length_cons,List.length_nil,ja]at this ⊢;exact⟨by omega,by decide,by decide⟩
 split at h
 ·unfold qw at h;split at h
  ·cases h
  rename_i nm o2 h2;have hn:=gk h2;obtain⟨y,h1,rfl⟩:=jc h;have:=kZ h1;simp only[List.length_cons,List.length_nil,ja]at this ⊢;exact⟨by omega,by decide,by decide⟩
 split at h
 ·unfold u9 at h;split at h
  ·cases h
  rename_i nm o2 h2;have hn:=gk h2;split at h
  ·cases h
  rename_i l o3 h3;have ha:=S1 _ _ _ (by omega) h3;rw[ja]at ha;split at h
  all_goals
   obtain⟨y,h1,rfl⟩:=jc h;have:=kZ h1;simp only[List.length_cons,List.length_nil]at this ⊢;exact⟨by omega,by decide,by decide⟩
 ·obtain⟨y,h1,rfl⟩:=jc h;have:=C4 _ _ _ h1;simp only[List.length_nil,ja]at this ⊢;exact⟨by omega,by decide,by decide⟩
def lL (l:List Tk):Nat:=(l.map Ao).sum
theorem Fi (l:List Tk) (x:Tk):lL (l++[x])=lL l+Ao x:=by simp[lL]
theorem M_ {t:Bs}:∀(n o:Nat) (l:List Tk) {l':List Tk},o<=t.length->lL l<=o->(∀x∈l,1<=x.kind/\x.kind<=6/\x.off<=t.length)->iL t n o l= .ok l'->lL l'<=t.length/\∀x∈l',1<=x.kind/\x.kind<=6/\x.off<=t.length
 | 0,o,l,l',ho,hl,hk,h=>by
   rw[iL]at h;injection h with h;subst h;exact⟨by omega,hk⟩
 | n+1,o,l,l',ho,hl,hk,h=>by
   rw[iL]at h;split at h
   ·injection h with h;subst h;exact⟨by omega,hk⟩
   rename_i eb;split at h
   ·cases h
   rename_i x o' hx;have h1:=adL ho hx;have h2:=MF (by omega) hx;refine M_ n o' _ h2.2.2 ?_ (fun y hy=>?_) h
   ·rw[Fi];omega
   ·rcases List.mem_append.1 hy with hy | hy
    ·exact hk y hy
    ·rw[List.mem_singleton]at hy;subst hy;exact⟨h1.2.1,h1.2.2,by omega⟩
theorem S4 {t:Bs} {l:List Tk} (h:tI t= .ok l):lL l<=t.length/\∀x∈l,1<=x.kind/\x.kind<=6/\x.off<=t.length:=
 M_ _ 0 [] (Nat.zero_le _) (Nat.zero_le _) (fun x hx=>by cases hx) h
theorem Q4 (l:List Tk) (x:Tk) (p:PS):jf (l++[x]) p=match jf l p with
  | .error e=>.error e
  | .ok q=>match j5 x q with
    | .error e=>.error (e,x.off)
    | .ok q=>.ok q:=by
 induction l generalizing p with
 | nil=>rfl
 | cons y l ih=>
   rw[List.cons_append,jf,jf];cases j5 y p with
   | error e=>rfl
   | ok q=>exact ih q
theorem Q5 {l m:List Tk} {p:PS} {e:Int×Nat} (h:jf l p= .error e):jf (l++m) p= .error e:=by
 induction l generalizing p with
 | nil=>cases h
 | cons y l ih=>
   rw[jf]at h;rw[List.cons_append,jf];split at h
   ·rename_i h1;injection h with h;subst h;rfl
   ·exact ih h
theorem aaE:kJ p0 0:=⟨by decide,by decide,(fun e=>by cases e),by simp[Gz,p0,Fg]⟩
def Fj {α :Type} (F:Except (Int×Nat) α):Prop:=∀e,F= .error e->e.1≠0
theorem Aq {t:Bs} {stop:UInt8}:∀(n o:Nat) (acc:Bs),Fj (eC t stop n o acc)
 | 0,o,acc=>fun e h=>by unfold eC at h;cases h
 | n+1,o,acc=>fun e h=>by
   unfold eC at h;split at h
   ·cases h
   split at h
   ·cases h
   split at h
   ·split at h
    ·rename_i h5;injection h with h;subst h;exact h5
    ·exact Aq n _ _ e h
   split at h
   ·injection h with h;subst h;simp
   ·exact Aq n _ _ e h
theorem Bt (t:Bs) (o:Nat) {k:Int} (hk:k≠0):Fj (jb t o k):=fun e h=>by
 unfold jb at h;split at h
 ·injection h with h;subst h;simp
 split at h
 ·injection h with h;subst h;exact hk
 ·cases h
theorem wC (t:Bs) (o:Nat) (p:Bs):Fj (iK t o p):=fun e h=>by
 unfold iK at h;split at h
 ·injection h with h;subst h;simp
 split at h
 ·cases h
 ·injection h with h;subst h;simp
theorem aaF (t:Bs) (o:Nat):Fj (tF t o):=fun e h=>by
 unfold tF at h;split at h
 ·injection h with h;subst h;simp
 split at h
 ·injection h with h;subst h;simp
 split at h
 ·rename_i h2;injection h with h;subst h;exact Aq _ _ _ _ h2
 split at h
 ·injection h with h;subst h;simp
 ·cases h
theorem Na {t:Bs}:∀(n o:Nat) (l:List (Bs×Bs)),Fj (lp t n o l)
 | 0,o,l=>fun e h=>by rw[lp]at h;cases h
 | n+1,o,l=>fun e h=>by
   rw[lp]at h;split at h
   ·cases h
   split at h
   ·rename_i h2;injection h with h;subst h;exact Bt _ _ (by decide) _ h2
   split at h
   ·injection h with h;subst h;simp
   split at h
   ·rename_i h2;injection h with h;subst h;exact wC _ _ _ _ h2
   split at h
   ·rename_i h2;injection h with h;subst h;exact aaF _ _ _ h2
   ·exact Na n _ _ e h
theorem yf (t:Bs) (o:Nat) (q:Bs):Fj (iU t o q):=fun e h=>by
 unfold iU at h;split at h
 ·injection h with h;subst h;simp
 split at h
 ·injection h with h;subst h;simp
 ·cases h
theorem p5 {α β :Type} {f: α -> β} {F:Except (Int×Nat) (α ×Nat)} (hF:Fj F):Fj (tG f F):=fun e h=>hF e (mo h)
theorem aaG (t:Bs) (o:Nat):Fj (mn t o):=fun e h=>by
 unfold mn at h;split at h
 ·exact p5 (yf _ _ _) e h
 split at h
 ·exact p5 (yf _ _ _) e h
 split at h
 ·exact p5 (yf _ _ _) e h
 split at h
 ·unfold qw at h;split at h
  ·rename_i h2;injection h with h;subst h;exact Bt _ _ (by decide) _ h2
  ·exact p5 (wC _ _ _) e h
 split at h
 ·unfold u9 at h;split at h
  ·rename_i h2;injection h with h;subst h;exact Bt _ _ (by decide) _ h2
  split at h
  ·rename_i h2;injection h with h;subst h;exact Na _ _ _ _ h2
  split at h
  ·exact p5 (wC _ _ _) e h
  ·exact p5 (wC _ _ _) e h
 ·exact p5 (Aq _ _ _) e h
theorem HZ {t:Bs}:∀(n o:Nat) (l:List Tk),Fj (iL t n o l)
 | 0,o,l=>fun e h=>by rw[iL]at h;cases h
 | n+1,o,l=>fun e h=>by
   rw[iL]at h;split at h
   ·cases h
   split at h
   ·rename_i h2;injection h with h;subst h;exact aaG _ _ _ h2
   ·exact HZ n _ _ e h
theorem aaH (t:Bs):Fj (tI t):=HZ _ _ _
theorem Fk {t:Bs}:∀(n o:Nat) (l:List Tk) {l':List Tk},iL t n o l= .ok l'->l'.length<=l.length+n
 | 0,o,l,l',h=>by rw[iL]at h;injection h with h;subst h;omega
 | n+1,o,l,l',h=>by
   rw[iL]at h;split at h
   ·injection h with h;subst h;omega
   split at h
   ·cases h
   ·have:=Fk n _ _ h;rw[List.length_append]at this;simp only[List.length_cons,List.length_nil]at this;omega
theorem WA {t:Bs} {l:List Tk} (h:tI t= .ok l):l.length<=t.length+1:=by
 have:=Fk _ _ _ h;simpa using this
theorem Q6 (l:List Tk) (i:Nat):lL (l.take i)<=lL l:=by
 have:lL l=lL (l.take i)+lL (l.drop i):=by
  unfold lL;rw[<-List.sum_append, <-List.map_append,List.take_append_drop]
 omega
theorem WB (t:Bs) (x:Tk):oR t x.off= .agg [mi x.off,mi (lV t x.off),mi (E0 t x.off)]:=by
 unfold oR lV E0;rw[Int.natCast_add];rfl
def zNd:MV:=.agg [.str [],.sl 0 [] .nil,.sl 0 [] .nil,.str []]
theorem H0 {O:VH} {B k:Nat} (hk:k<O.next):∀{R:List Rec},oz O B k R->∀r∈R,r.b<O.next
 | [],_,r,h=>by simp at h
 | [x],h,r,hr=>by rw[List.mem_singleton.1 hr,h.1];exact hk
 | x::p::rest,h,r,hr=>by
   obtain⟨⟨c,_,_,h1⟩,_,_,h2⟩:=h;rcases List.mem_cons.1 hr with rfl | hr
   ·exact h1.hi
   ·exact H0 hk h2 r hr
theorem aaI {O:VH} {B k bQ:Nat} {R:List Rec} {tk:Tok} {dn tx:Bool} {z:List MV} (h:BS O B k R tk bQ dn tx z):∀x∈dy k R tk,x<O.next:=by
 have hk:k<O.next:=Nat.lt_of_lt_of_le h.c.lt h.c.le;intro x hx;simp only[dy,List.mem_cons,List.mem_append,List.mem_map,Option.mem_toList]at hx;rcases hx with rfl | ((⟨r,hr,rfl⟩ | hx) | hx)
 ·exact hk
 ·exact H0 hk h.c.chain r hr
 ·obtain⟨r,hr,hq⟩:=Option.bind_eq_some_iff.1 hx;have ht:=h.c.top
  match R,hr,ht with
  | y::R,hr,ht=>
    simp only[List.head?_cons,Option.some.injEq]at hr;subst hr;rcases ht.1 with⟨_,_,e | e⟩ | ⟨j,c,e,_,_,hw⟩
    ·rw[e]at hq;cases hq
    ·rw[e]at hq;cases hq
    ·rw[e]at hq;injection hq with hq;subst hq;exact hw.hi
 ·exact(App.pB h.a hx).2
theorem aaJ (t:Bs) (O:VH) (ht:t.length<=65536):VF Tryz.prog 224 [.str t] O (aH fun m O'=>O.Ge O'/\match gX t with
  | .ok n=>m= .tuple [.agg (c_ n),mi 0,.agg [mi 0,mi 0,mi 0]]
  | .error e=>m= .tuple [zNd,mi e.1,oR t e.2]):=by
 have j8:=agQ t;have np:∀e,tI t= .error e->gX t= .error e:=fun e h=>by unfold gX;rw[h]
 have Bp:∀l,tI t= .ok l->gX t=(match jf l p0 with
  | .error e=>.error e
  | .ok p=>if p.st≠[]then .error (13,t.length)else if p.dn then .ok p.z else .error (16,t.length)):=fun l h=>by unfold gX;rw[h];try rfl
 have hW:= @S4 t;have hLn:= @WA t;have hNE:=aaH t;generalize tI t=F at*;generalize gX t=G at*;refine VF.bL 68 [.cell 2 112,.tmp 3,.cell 4 69] Tryz.func224 ?_;refine VC.ag aa (ae @aD ?_);refine VC.gen ?_;intro O1 rT;obtain⟨aU,du,Cr,nv⟩:=gJ _ _ rT;clear rT;refine VC.ag aa (ae @aD ?_);refine ah.rt (j8 O1 ht) ?_;rintro m O2 ⟨aC,hm⟩;have se:=aC.at Cr;have qI:=aC.at nv;have gE:=aU.trans aC;have jB:=aC.next;cases F with
 | error e=>
   dsimp only at hm;subst hm;rw[np e rfl];unfold oR;simp only[ar];refine ae @aD ?_;refine VC.al ?_;rintro O3 ⟨aL,kV,iH⟩;have FY:=aL.at se;have oy:=aL.at qI;have eB:=gE.trans aL;have he0:e.1≠0:=hNE e rfl;refine VC.ag aa (ao @aD @he0 ?_);refine VC.po [] (O2.next) (kV) ?_;intro X;have Iy:(O3.set O2.next (.obj X)).hp O.next=_:=VH.sn FY;have Ju:(O3.set O2.next (.obj X)).hp (O.next+1)=_:=VH.sn oy;have pX:(O3.set O2.next (.obj X)).hp O2.next=some (.obj X):=VH.an _ _ _;have gZ:O.Ge (O3.set O2.next (.obj X)):=eB.set (by omega) _;generalize O3.set O2.next (.obj X)=O4 at*;refine ab.aw 0 ?_;refine ae @aD ?_;refine ab.aw 1 ?_;refine ae @aD ?_;refine ab.sB (m:=.agg [.v (.int .i64 e.2),.v (.int .i64 (1+((t.take e.2).count 10:Nat))),.v (.int .i64 ((e.2:Int) - fD (t.take e.2) 10 (t.take e.2).length))]) 2 ?_ ?_
   ·exact fp @aD
   simp only[aj];refine ab.op (i:=3) ?_;refine ao @aD @Iy ?_;refine⟨pX,?_⟩;refine ab.aw 4 ?_;refine ae @aD ?_;refine ab.op (i:=5) ?_;refine ao @aD @Ju ?_;refine⟨pX,?_⟩;refine ab.mO [] ?_;refine ae @aD ?_;exact⟨((gZ.set (Nat.le_refl _) _).set (Nat.le_succ _) _).set (by omega:O.next<=O2.next) _,rfl⟩
 | ok l=>
   obtain⟨pl,rfl,cH⟩:=hm;obtain⟨hWl,adM⟩:=hW rfl;have hG:=Bp l rfl;clear np Bp;refine ao @aD @ar ?_;refine VC.al ?_;rintro O3 ⟨aL,kV,iH⟩;have FY:=aL.at se;have oy:=aL.at qI;have eB:=gE.trans aL;refine VC.ag aa (ae @aD ?_);refine VC.ag aa (ae @aD ?_);refine VC.bx ?_;rintro O4 ⟨aZ,jl,ib⟩;refine VC.VU (k:=O3.next) (ds:=c_ Qy++oU [] .nil 0 false false) jl (eD.cons (Wk.refl _) (eD.cons Wk.tok (eD.cons Wk.tok (eD.refl _)))) ?_;refine VC.gen ?_;intro O5 lW;have fJ:O5.hp O3.next=some (.cells (c_ Qy++oU [] .nil 0 false false)):=by rw[lW];exact VH.an _ _ _
   have gD:O5.next=O3.next+1:=by rw[lW];exact ib
   have h5:∀i,i<O3.next->O5.hp i=O3.hp i:=fun i hi=>by rw[lW];exact VH.sn (aZ.hp i hi)
   have ns:O.Ge O5:=by rw[lW];exact(eB.trans aZ).set (by omega) _
   clear lW;have hz5:=(h5 _ (by omega)).trans FY;have Mr:=(h5 _ (by omega)).trans oy;generalize hk:O3.next=k at*;have hBP:BP O5 (k+1) k [k] p0:=⟨[],.nil,⟨⟨Nat.lt_succ_self _,by omega,fJ,rfl,trivial,trivial⟩,trivial⟩,rfl,fun x hx=>hx⟩
   have hlen:iW (eA Tryz.prog) 155 pl=some (.v (.int .i64 l.length)):=by
    rcases cH with⟨h0,_,rfl | rfl⟩ | ⟨k,c,rfl,_⟩
    ·rw[h0];exact gR En
    ·rw[h0];exact gR En
    ·exact Hk En
   rw[uM,En]at hlen;have zG:l.length<=1000000:=by have:=hLn rfl;omega
   refine VC.bu [0,2,4,8] (fun _:PS=>[.str t,.ptr O.next 0,.ptr (O.next+1) 0,.ptr k 0]) (fun p O'=>jf l p0= .ok p/\kJ p (lL l)/\Kp O5 O' [k]/\∃U,BP O' (k+1) k U p) ?_ ?_;rotate_left
   ·rintro p O6 ⟨bU,cu,hkp,U,Q3⟩;rw[bU]at hG;dsimp only at hG;have hO6:∀j,j<k->O6.hp j=O5.hp j:=fun j hj=>hkp.2 j (by omega) (by simp;omega)
    have hz6:=(hO6 _ (by omega)).trans hz5;have hp6:=(hO6 _ (by omega)).trans Mr;have lS:=hkp.1;have S5:O.Ge O6:=⟨by omega,fun j hj=>(hO6 j (by omega)).trans (ns.hp j hj)⟩;obtain⟨R,tk,hb,hR,hUo⟩:=Q3;have nj:=hb.c.cells;refine VC.ag aa (ae @aD ?_);refine ah.rt (ae5 t t.length _ (by omega) (Nat.le_refl _)) ?_;rintro _ O7 ⟨rfl,dM⟩;have tT:=(dM.hp k (by omega)).trans nj;have hz7:=dM.at hz6;have hp7:=dM.at hp6;have Ca:=S5.trans dM;have rM:=dM.next;have S6:oR t t.length= .agg [mi t.length,mi (1+((t.take t.length).count 10:Nat)),mi ((t.length:Int) - fD (t.take t.length) 10 (t.take t.length).length)]:=rfl;simp only[ar]at S6;generalize (1+((t.take t.length).count 10:Nat):Int)=y1 at*;generalize ((t.length:Int) - fD (t.take t.length) 10 (t.take t.length).length)=y2 at*;rw[S6];refine ae @aD ?_;refine VC.al ?_;rintro O8 ⟨gY,WD,CC⟩;have tZ:=(gY.hp k (by omega)).trans tT;have hz8:=gY.at hz7;have Ar:=gY.at hp7;have Nb:=Ca.trans gY;obtain⟨b0,b1,b2,b3,kI⟩:=qz (eG R (c_ p.z) hb.c.zl);unfold oU at tZ;rw[kI]at tZ;simp only[ar,aY,List.cons_append,List.nil_append]at tZ;cases R with
    | cons r R=>
      have c5:p.st≠[]:=by rw[<-hR];simp[qY]
      rw[if_pos c5]at hG;subst hG;dsimp only;rw[S6]
      have hRl:R.length<=64:=by
       have:=cu.len;rw[<-hR]at this;unfold qY at this;rw[List.length_map,List.length_cons]at this;omega
      simp only[List.length_cons]at tZ;refine VC.ag aa (ao @aD @tZ ?_);refine VC.po [] (O7.next) (WD) ?_;intro X;have Iy:((O8).set (O7.next) (.obj X)).hp O.next=_:=VH.sn hz8;have Ju:((O8).set (O7.next) (.obj X)).hp (O.next+1)=_:=VH.sn Ar;have pX:((O8).set (O7.next) (.obj X)).hp (O7.next)=some (.obj X):=VH.an _ _ _;have gZ:O.Ge ((O8).set (O7.next) (.obj X)):=Nb.set (by omega) _;generalize (O8).set (O7.next) (.obj X)=Ox at*;refine ab.aw 0 ?_;refine ae @aD ?_;refine ab.sB (m:=.agg [.v (.int .i64 t.length),.v (.int .i64 y1),.v (.int .i64 y2)]) 1 ?_ ?_
      ·exact fp @aD
      simp only[aj];refine ab.op (i:=2) ?_;refine ao @aD @Iy ?_;refine⟨pX,?_⟩;refine ab.aw 3 ?_;refine ae @aD ?_;refine ab.op (i:=4) ?_;refine ao @aD @Ju ?_;refine⟨pX,?_⟩;refine ab.mO [] ?_;refine ae @aD ?_;exact⟨((gZ.set (Nat.le_refl _) _).set (Nat.le_succ _) _).set (by omega:O.next<=O7.next) _,rfl⟩
    | nil=>
      have c5:p.st=[]:=hR.symm;rw[if_neg (by rw[c5];simp)]at hG;simp only[List.length_nil]at tZ;cases F4:p.dn with
      | false=>
        rw[F4]at hG tZ;rw[if_neg (by simp)]at hG;subst hG;dsimp only;rw[S6];refine VC.ag aa (ao @aD @tZ ?_);refine VC.po [] (O7.next) (WD) ?_;intro X;have Iy:((O8).set (O7.next) (.obj X)).hp O.next=_:=VH.sn hz8;have Ju:((O8).set (O7.next) (.obj X)).hp (O.next+1)=_:=VH.sn Ar;have pX:((O8).set (O7.next) (.obj X)).hp (O7.next)=some (.obj X):=VH.an _ _ _;have gZ:O.Ge ((O8).set (O7.next) (.obj X)):=Nb.set (by omega) _;generalize (O8).set (O7.next) (.obj X)=Ox at*;refine ab.aw 0 ?_;refine ae @aD ?_;refine ab.sB (m:=.agg [.v (.int .i64 t.length),.v (.int .i64 y1),.v (.int .i64 y2)]) 1 ?_ ?_
        ·exact fp @aD
        simp only[aj];refine ab.op (i:=2) ?_;refine ao @aD @Iy ?_;refine⟨pX,?_⟩;refine ab.aw 3 ?_;refine ae @aD ?_;refine ab.op (i:=4) ?_;refine ao @aD @Ju ?_;refine⟨pX,?_⟩;refine ab.mO [] ?_;refine ae @aD ?_;exact⟨((gZ.set (Nat.le_refl _) _).set (Nat.le_succ _) _).set (by omega:O.next<=O7.next) _,rfl⟩
      | true=>
        rw[F4]at hG tZ;rw[if_pos rfl]at hG;subst hG;dsimp only;have kI:c_ p.z=[b0,b1,b2,b3]:=kI;refine VC.ag aa (ao @aD @tZ ?_);generalize p.z=pz at*;obtain⟨zn,za,cM,zt⟩:=pz;rw[c_]at kI;injection kI with e1 kI;injection kI with e2 kI;injection kI with e3 kI;injection kI with e4 kI
        subst e1;subst e2;subst e3;subst e4
        refine WC.sound aa (cU @aD @tZ @hz8 @Ar ?_);rw[c_];exact⟨(Nb.set (Nat.le_refl _) _).set (Nat.le_succ _) _,rfl⟩
   refine VC.ag aa (ao @aD @hlen ?_);refine VC.az ?_;refine VC.bq [28] [0,2,4,8,26,27] (fun i:Nat=>[mi i]) (fun i O'=>i<=l.length/\Kp O5 O' [k]/\∃p U,jf (l.take i) p0= .ok p/\kJ p (lL (l.take i))/\BP O' (k+1) k U p/\(∀x∈U,(x=k\/O5.next<=x)/\x<O'.next)) (fun i=>l.length - i) (0) ?_ ?_
   ·exact⟨Nat.zero_le _,Kp.refl,p0,[k],rfl,aaE,hBP,fun x hx=>by rw[List.mem_singleton]at hx;subst hx;exact⟨.inl rfl,by omega⟩⟩
   rintro i O6 ⟨hi,H3,p,U,bU,cu,Q3,hU⟩;dsimp only at hi ⊢;by_cases jJ:i<l.length;rotate_left
   ·obtain rfl:i=l.length:=by omega
    rw[List.take_length]at bU cu;refine WC.sound aa (ao @aD @ar ?_);exact aA.mk p ⟨bU,cu,H3,U,Q3⟩
   obtain⟨kr,cr,rfl,ko⟩:∃kr cr,pl= .bm kr 0 l.length cr/\Row O2 153 7 O1.next kr cr (l.flatMap (tW t)):=by
    rcases cH with⟨h0,_⟩ | ⟨kr,cr,hp,_,_,h⟩
    ·omega
    ·exact⟨kr,cr,hp,h⟩
   obtain⟨sp,sS,EU⟩:=ko.cells;have aiM:=ko.hi;have aiN:O6.hp kr=some (.cells (l.flatMap (tW t)++sp)):=(H3.2 kr (by omega) (by simp;omega)).trans ((h5 kr (by omega)).trans ((aL.hp kr aiM).trans sS));have nq:(l.flatMap (tW t)).length=l.length*7:=aJ (vd t) l
   have br:((l.flatMap (tW t)++sp).drop (i*7)).take 7=tW t l[i]:=by
    rw[List.drop_append_of_le_length (by omega),List.take_append_of_le_length (by rw[List.length_drop];omega)];exact bB (vd t) l i jJ
   have hCl:i*7+7<=(l.flatMap (tW t)++sp).length:=by rw[List.length_append];omega
   have fl:=cQ l i jJ
   have GA:jf (l.take (i+1)) p0=(match j5 l[i] p with
     | .error e=>.error (e,l[i].off)
     | .ok q=>.ok q):=by rw[fl,Q4,bU];try rfl
   have hws:lL (l.take (i+1))=lL (l.take i)+Ao l[i]:=by rw[fl,Fi]
   have nW:=Q6 l (i+1);have rz:=adM l[i] (List.getElem_mem jJ)
   have agW:∀e,jf (l.take (i+1)) p0= .error e->G= .error e:=fun e h=>by
    have:=Q5 (m:=l.drop (i+1)) h;rw[List.take_append_drop]at this;rw[this]at hG;exact hG
   have dK:=WB t l[i];clear bU fl;have aiO:tW t l[i]=[mi l[i].kind,.str l[i].name,.sl l[i].attrs.length (l[i].attrs.flatMap a_) .au,.str l[i].text,mi l[i].off,mi (lV t l[i].off),mi (E0 t l[i].off)]:=rfl;generalize hxg:l[i]=x at*;generalize l.flatMap (tW t)++sp=C at*;refine VC.ag aa (ao @aD @ar ?_);refine VC.ag aa (ae @aD ?_);refine VC.bj (VC.az ?_);rw[aiO]at br;simp only[ar]at br;refine VC.ag aa (aN @aD @aiN @br ?_);refine VC.al ?_;rintro O7 ⟨dM,Bu,rM⟩;refine VC.ag aa (ao @aD @Bu ?_);refine ah.rt (Wx (Q3.ge dM) cu (fun y hy=>by have:=(hU y hy).2;omega) t x (by omega) ⟨rz.1,rz.2.1⟩) ?_;rintro m O8 ⟨Jf,hm⟩;have WD:=(Jf.2 _ (by omega) (fun hm=>by have:=(hU _ hm).2;omega)).trans Bu;have akj:k<O5.next:=by omega
   have WG:∀j,j<k->O8.hp j=O5.hp j:=fun j hj=>by
    have hjU:j ∉ U:=fun hm=>by have:=(hU _ hm).1;omega
    have h65:=H3.1;rw[Jf.2 j (by omega) hjU,dM.hp j (by omega),H3.2 j (by omega) (by simp;omega)]
   have hz8:=(WG _ (by omega)).trans hz5;have Ar:=(WG _ (by omega)).trans Mr;have CC:=Jf.1;have h65:=H3.1;have Nb:O.Ge O8:=⟨by omega,fun j hj=>(WG j (by omega)).trans (ns.hp j hj)⟩;cases c5:j5 x p with
   | error e=>
     rw[c5]at hm GA;dsimp only at hm GA;subst hm;have hGe:=agW _ GA;subst hGe;dsimp only;rw[dK];simp only[ar];have he:e≠0:=by rcases Q2 c5 with rfl | rfl | rfl<;>decide
     refine ae @aD ?_;refine VC.ag aa (ao @aD @he ?_);refine WC.sound aa (ae @aD ?_);refine VC.po [] (O6.next) (WD) ?_;intro X;have Iy:((O8).set (O6.next) (.obj X)).hp O.next=_:=VH.sn hz8;have Ju:((O8).set (O6.next) (.obj X)).hp (O.next+1)=_:=VH.sn Ar;have pX:((O8).set (O6.next) (.obj X)).hp (O6.next)=some (.obj X):=VH.an _ _ _;have gZ:O.Ge ((O8).set (O6.next) (.obj X)):=Nb.set (by omega) _;generalize (O8).set (O6.next) (.obj X)=Ox at*;refine ab.aw 0 ?_;refine ae @aD ?_;refine ab.aw 1 ?_;refine ae @aD ?_;refine ab.aw 2 ?_;refine ae @aD ?_;refine ab.sB (m:=.agg [.v (.int .i64 x.off),.v (.int .i64 (lV t x.off:Nat)),.v (.int .i64 (E0 t x.off))]) 3 ?_ ?_
     ·exact fp @aD
     simp only[aj];refine ab.op (i:=4) ?_;refine ao @aD @Iy ?_;refine⟨pX,?_⟩;refine ab.aw 5 ?_;refine ae @aD ?_;refine ab.op (i:=6) ?_;refine ao @aD @Ju ?_;refine⟨pX,?_⟩;refine ab.mO [] ?_;refine ae @aD ?_;exact⟨((gZ.set (Nat.le_refl _) _).set (Nat.le_succ _) _).set (by omega:O.next<=O6.next) _,rfl⟩
   | ok q=>
     rw[c5]at hm GA;dsimp only at GA;obtain⟨rfl,U2,hU2,hq⟩:=hm;obtain⟨R2,tk2,bZ,aiP,ZQ⟩:=hq;have yj:BP O8 (k+1) k (dy k R2 tk2) q:=⟨R2,tk2,bZ,aiP,fun _ h=>h⟩;have Q7:((i:Int)+1)=((i+1:Nat):Int):=by omega
     refine ao @aD @ar ?_;refine WC.sound aa (ao @aD @Q7 ?_);refine WC.sound aa (ao @aD @Q7 ?_);refine ay.next (i+1) ⟨by omega,?_,q,dy k R2 tk2,GA,?_,yj,fun y hy=>?_⟩
     ·refine(H3.more (Kp.ge dM (S:=[])) (fun y hy=>by cases hy)).more Jf fun y hy=>?_
      rcases(hU y hy).1 with e | e
      ·exact .inl (by simp[e])
      ·exact .inr e
     ·rw[hws];exact HY cu c5
     ·refine⟨?_,aaI bZ y hy⟩;rcases hU2 y (ZQ y hy)with e | e
      ·exact(hU y e).1
      ·exact .inr (by omega)
set_option linter.defProp false in
def gM:=And.intro jQ<|And.intro Em<|And.intro LX zQ
theorem gy {α :Type} {f: α ->List MV} {k:Nat} (hf:∀x,(f x).length=k) {L:List α} {sp:List MV} {j i:Nat} {x: α} {m:MV} (hj:L[j]?=some x) (hi:(f x)[i]?=some m):(L.flatMap f++sp)[j*k+i]?=some m:=by
 induction L generalizing j with
 | nil=>simp at hj
 | cons y L ih=>
   rw[List.flatMap_cons,List.append_assoc];cases j with
   | zero=>
     simp only[List.getElem?_cons_zero,Option.some.injEq]at hj;subst hj;have:=(List.getElem?_eq_some_iff.1 hi).1;rw[Nat.zero_mul,Nat.zero_add,List.getElem?_append_left this];exact hi
   | succ j=>
     simp only[List.getElem?_cons_succ]at hj;have e:(j+1)*k+i=(f y).length+(j*k+i):=by rw[hf,Nat.succ_mul];omega
     rw[e,List.getElem?_append_right (by omega),show(f y).length+(j*k+i) - (f y).length=j*k+i by omega];exact ih hj
theorem wD {L:List MV} {i:Nat} {m:MV} (h:L[i]?=some m):L.set i m=L:=by
 refine List.ext_getElem? fun j=>?_
 by_cases e:i=j
 ·subst e;rw[List.getElem?_set_self (List.getElem?_eq_some_iff.1 h).1,h]
 ·rw[List.getElem?_set_ne e]
theorem Nc (L:List Dp) (tk:Tok) (O:VH) (hn:L.length<=10000) (hx:∀d∈L,d.x.length<=10000):VF Tryz.prog 226 [.sl L.length (L.flatMap aQ) tk] O (aH fun m O'=>∃t,m= .sl L.length (L.flatMap aQ) t/\O.Ge O'):=by
 have dK:=aJ gd L;refine VF.bL 24 [.tmp 2] Tryz.func226 ?_;refine VC.ag aa (ae @gM ?_);refine VC.ag aa (ae @gM ?_);refine ah.rt (E7 L tk O (by omega)) ?_;rintro _ O2 ⟨aC,wS⟩;rcases wS with⟨h0,_,hp⟩ | ⟨k,c,rfl,zF,_,cH⟩
 ·obtain rfl:L=[]:=List.eq_nil_of_length_eq_zero h0;rcases hp with rfl | rfl
  ·refine ae @gM ?_;refine VC.bu [3] (fun _:Unit=>[.sl 0 [] .nil]) (fun _ O'=>O'=O2) ?_ ?_
   ·refine VC.ag aa (ae @gM ?_);refine VC.az ?_;refine VC.bq [9] [3,8] (fun j:Nat=>[mi 0]) (fun j O'=>O'=O2) (fun j=>0) (0) ?_ ?_
    ·rfl
    rintro j O3 eO;rw[eO];clear eO O3
    refine WC.sound aa (ae @gM ?_);exact aA.mk () rfl
   intro _ O9 eO;rw[eO];clear eO O9
   refine WC.sound aa (ae @gM ?_);exact⟨_,rfl,aC⟩
  ·refine ae @gM ?_;refine VC.bu [3] (fun _:Unit=>[.sl 0 [] .full]) (fun _ O'=>O'=O2) ?_ ?_
   ·refine VC.ag aa (ae @gM ?_);refine VC.az ?_;refine VC.bq [9] [3,8] (fun j:Nat=>[mi 0]) (fun j O'=>O'=O2) (fun j=>0) (0) ?_ ?_
    ·rfl
    rintro j O3 eO;rw[eO];clear eO O3
    refine WC.sound aa (ae @gM ?_);exact aA.mk () rfl
   intro _ O9 eO;rw[eO];clear eO O9
   refine WC.sound aa (ae @gM ?_);exact⟨_,rfl,aC⟩
 obtain⟨sp,hc,gN⟩:=cH.cells;have kU:=cH.lo;have QR:=cH.hi;refine ae @gM ?_;refine VC.bu [3] (fun _:Unit=>[.bm k 0 L.length c]) (fun _ O'=>O2.Ge O') ?_ ?_
 ·refine VC.ag aa (ae @gM ?_);refine VC.az ?_;refine VC.bq [9] [3,8] (fun j:Nat=>[mi j]) (fun j O'=>O2.Ge O'/\j<=L.length) (fun j=>L.length - j) (0) ?_ ?_
  ·exact⟨VH.Ge.refl _,Nat.zero_le _⟩
  rintro j O3 ⟨aL,hj⟩;by_cases bf:j<L.length;rotate_left
  ·obtain rfl:j=L.length:=by omega
   refine WC.sound aa (ae @gM ?_);exact aA.mk () aL
  have eR:=(aL.hp k QR).trans hc;have br:(L.flatMap aQ++sp)[j*8+7]?=some (.sl L[j].x.length (L[j].x.flatMap bP) .au):=gy gd (List.getElem?_eq_getElem bf) rfl;have hxj:=hx L[j] (List.getElem_mem bf);generalize L[j].x=X at*;generalize L.flatMap aQ++sp=C at*;have mr:=wD br;have Jf:=(List.getElem?_eq_some_iff.1 br).1;have cY:((j:Int)+1)=((j+1:Nat):Int):=by omega
  refine VC.ag aa (ae @gM ?_);refine VC.ag aa (ae @gM ?_);refine VC.bj (VC.az ?_);refine VC.ag aa (ae @gM ?_);refine WC.sound aa (aN @gM @eR @br ?_);refine ah.rt (sN X .au O3 (by omega)) ?_;rintro _ O4 ⟨rfl,aZ⟩;have ff:=(aZ.hp k (by have:=aL.next;omega)).trans eR;refine cU @gM @ff @br @mr ?_;rw[VH.vN ff];refine WC.sound aa (ao @gM @cY ?_);exact ay.next (j+1) ⟨aL.trans aZ,bf⟩
 intro _ O9 bk;have Jv:=(bk.hp k QR).trans hc;refine VC.freeze 3 (sz:=L.length*8) rfl Jv (by rw[List.length_append,dK];omega) ?_;have fl:((L.flatMap aQ++sp).drop 0).take (L.length*8)=L.flatMap aQ:=by rw[List.drop_zero,List.take_append_of_le_length (by rw[dK];exact Nat.le_refl _), <-dK,List.take_length]
 rw[fl];have rW:=aC.trans bk;have fq:O.Ge (O9.kill k):=⟨rW.next,fun i hi=>(VH.kA _ (by omega)).trans (rW.hp i hi)⟩;refine WC.sound aa (ae @gM ?_);exact⟨_,rfl,fq⟩
theorem Fm (L:List Dp) (tk:Tok) (O:VH) (hn:L.length<=10000) (hx:∀d∈L,d.x.length<=10000):VF Tryz.prog 226 [.sl L.length (L.flatMap aQ) tk] O (aH fun m O'=>m= .sl L.length (L.flatMap aQ) .au/\O.Ge O'):=
 VF.Wn (Nc L tk O hn hx) fun m O' ⟨t,h1,h3⟩=>⟨_,h1▸Wk.tok,rfl,h3⟩
def aaK (p:Pm):Prop:=p.props.length<=10000/\p.eg.length<=10000/\p.dX.length<=10000/\(∀d∈p.eg,d.x.length<=10000)/\∀d∈p.dX,d.x.length<=10000
theorem agX (p:Pm) (O:VH) (hp:aaK p):VF Tryz.prog 201 [.agg (gh p)] O (aH fun m O'=>m= .agg (gh p)/\O.Ge O'):=by
 obtain⟨b,⟨pg,pa,pv⟩,g,a,v,pk,P,M,D⟩:=p;obtain⟨h1,h2,h3,h4,h5⟩:=hp;dsimp only at h1 h2 h3 h4 h5;simp only[gh];refine VF.bL 16 [.cell 2 106] Tryz.func201 ?_;refine VC.ag aa (ae @gM ?_);refine VC.gen ?_;rintro O1 rT;obtain⟨aU,du,cC,ct⟩:=gJ _ _ rT;clear rT;refine VC.ag aa (ao @gM @cC ?_);refine ah.rt (E5 P .au O1 (by omega)) ?_;rintro _ O2 ⟨rfl,aC⟩;have iS:=aC.at cC;have bZ:=aC.at ct;have jB:=aC.next;refine ao @gM @iS ?_;have hs:(([mb b,.str pg,.str pa,.str pv,.str g,.str a,.str v,.str pk,.sl P.length (P.flatMap a_) .au,.sl M.length (M.flatMap aQ) .au,.sl D.length (D.flatMap aQ) .au]:List MV)).set 8 (.sl P.length (P.flatMap a_) .au)=[mb b,.str pg,.str pa,.str pv,.str g,.str a,.str v,.str pk,.sl P.length (P.flatMap a_) .au,.sl M.length (M.flatMap aQ) .au,.sl D.length (D.flatMap aQ) .au]:=rfl;rw[VH.vN iS];refine VC.bj ?_;refine VC.po [7,8,9] (O.next) (iS) ?_;intro X;refine ab.aw 0 ?_;refine ae @gM ?_;refine ab.sB (m:=.sl M.length (M.flatMap aQ) .au) 1 ?_ ?_
 ·exact fp @gM
 simp only[aj];refine ab.aw 3 ?_;refine ae @gM ?_;refine ab.sB (m:=.sl D.length (D.flatMap aQ) .au) 4 ?_ ?_
 ·exact fp @gM
 simp only[aj];have hX:=VH.an O2 O.next (.obj X);have iH:(O2.set O.next (.obj X)).next=O2.next:=rfl;have hbX:=(VH.ak O2 (.obj X) (by omega:O.next+1≠O.next)).trans bZ;have Jw:O.Ge (O2.set O.next (.obj X)):=(aU.trans aC).set (Nat.le_refl _) _;generalize O2.set O.next (.obj X)=O3 at*;refine ab.call (i:=2) (Fm M .au O3 h2 h4) ?_;rintro _ O4 ⟨rfl,aZ⟩;simp only[aj];refine⟨aZ.at hX,?_⟩;refine ab.aw 6 ?_;refine ae @gM ?_;refine ab.call (i:=5) (Fm D .au O4 h3 h5) ?_;rintro _ O5 ⟨rfl,bz⟩;simp only[aj];have tB:=aZ.trans bz;refine⟨tB.at hX,?_⟩;have cV:=tB.at hbX;have ns:=Jw.trans tB;refine ab.mO [(7,.one),(8,.aw),(9,.one)] ?_;refine ae @gM ?_;refine WC.sound aa (ao @gM @cV ?_);exact(((ns.set (Nat.le_refl _) _).set (Nat.le_refl _) _).set (Nat.le_refl _) _).set (Nat.le_succ _) _
set_option linter.defProp false in
def rX:=And.intro gM<|And.intro Cf<|And.intro T71<|And.intro T69 aeK
theorem Nf:∀{l:List Tk} {p q:PS} {L:Nat},kJ p L->jf l p= .ok q->kJ q (L+lL l)
 | [],p,q,L,h,e=>by
   rw[jf]at e;injection e with e;subst e;simpa[lL]using h
 | x::l,p,q,L,h,e=>by
   rw[jf]at e;split at e
   ·cases e
   ·rename_i p' hp';have h2:=Nf (HY h hp') e;have:lL (x::l)=Ao x+lL l:=by simp[lL]
    rw[this, <-Nat.add_assoc];exact h2
theorem WH {t:Bs} {n:Nd} (ht:t.length<=65536) (h:gX t= .ok n):kj n<=1000000:=by
 unfold gX at h;split at h
 ·cases h
 ·rename_i l hl;have hw:=(S4 hl).1;split at h
  ·cases h
  ·rename_i p hp;have hk:=Nf aaE hp;have h1:=hk.wt;have h2:=hk.bQ;split at h
   ·cases h
   ·split at h
    ·rename_i hd;injection h with h;subst h;unfold Gz at h1;rw[if_pos hd]at h1;omega
    ·cases h
structure Prb where
 e:Int
 g:Gv
 p1:Int
 p2:Int
 p3:Int
 w:Bs
 deriving DecidableEq
def oW (x:Prb):List MV:=[mi x.e,.str x.g.g,.str x.g.a,.str x.g.v,mi x.p1,mi x.p2,mi x.p3,.str x.w]
def iN:Prb:=⟨0,⟨[],[],[]⟩,0,0,0,[]⟩
def iP (t:Bs) (u:Int) (s:Int) (p:Pm) (x:Prb):List MV:=[.str t,.v (.int .u32 u),.v (.int .i32 s),.v (.int .u32 0)]++gh p++oW x
theorem adN {O:VH} {q:Nat} {t:Bs} {u s:Int} {n:Nd} {p:Pm} (g:Gv) (hq:O.hp q=some (.cells (iP t u s Aj iN))) (pH:q<O.next) (ht:t.length<=65536) (hb:gX t= .ok n) (hr:ox n= .ok p):
  VF Tryz.prog 200 [.ptr q 0,.agg (bN g)] O (aH fun m O'=>O'.hp q=some (.cells (iP t u s p iN))/\bl O (some q) O'):=by
 have Bv:=fun O'=>aaJ t O' ht
 have Af:=fun O'=>adG n O' (WH ht hb)
 rw[hb]at Bv;rw[hr]at Af;dsimp only at Bv Af;obtain⟨g1,g2,g3⟩:=g;obtain⟨nn,na,nk,nt⟩:=n;obtain⟨b,⟨pg,pa,pv⟩,pG,pA,pV,pk,P,M,DD⟩:=p;simp only[c_]at Bv Af;simp only[iP,gh,Aj,oW,iN,ar,aY,List.cons_append,List.nil_append,List.length_nil,List.flatMap_nil]at hq Af ⊢;unfold bN;refine VF.bL 46 [] Tryz.func200 ?_;refine VC.ag aa (ae @rX ?_);refine VC.bx ?_;rintro O1 ⟨aU,dN,du⟩;have WI:=(aU.hp _ pH).trans hq;refine VC.ag aa (ao @rX @WI ?_);refine ah.rt (Bv O1) ?_;rintro _ O2 ⟨aC,rfl⟩;have yj:=aC.at WI;have jB:=aC.next;refine ae @rX ?_;refine VC.gen ?_;intro O3 Gx;have aL:O2.Ge O3:=by rw[Gx];exact((((VH.Ge.refl O2).push _).push _).set (Nat.le_refl _) _).set (Nat.le_succ _) _
 have dB:O3.hp O2.next=some (.cells [.str nn,.sl na.length (na.flatMap a_) .au,.sl nk.length (aB nk) .au,.str nt]):=by rw[Gx,VH.ak _ _ (by omega)];exact VH.an _ _ _
 have iH:O3.next=O2.next+2:=by rw[Gx];rfl
 clear Gx;have eB:=(aU.trans aC).trans aL;have vt:=aL.at yj;refine VC.ag aa (ae @rX ?_);refine VC.ag aa (ao @rX @dB ?_);refine ah.rt (Af O3) ?_;rintro _ O4 ⟨aZ,rfl⟩;have Jx:=aZ.at vt;have ib:=aZ.next;have gZ:=eB.trans aZ;refine ae @rX ?_;refine VC.al ?_;rintro O5 ⟨bz,fJ,gD⟩;have EC:=bz.at Jx;have ns:=gZ.trans bz;refine VC.ag aa (ae @rX ?_);refine WC.sound aa (aN @rX @fJ @EC ?_);exact(bl.lF ns).any.trans bl.set
structure c7 (O:VH) (k q:Nat) (O':VH):Prop where
 next:O.next<=O'.next
 hp:∀i,i<O.next->i≠k->i≠q->O'.hp i=O.hp i
theorem c7.ge {O O1 O2:VH} {k q:Nat} (h:c7 O k q O1) (g:O1.Ge O2):c7 O k q O2:=⟨Nat.le_trans h.next g.next,fun i hi a b=>(g.hp i (Nat.lt_of_lt_of_le hi h.next)).trans (h.hp i hi a b)⟩
theorem c7.of {O O1:VH} {k q:Nat} (g:O.Ge O1):c7 O k q O1:=⟨g.next,fun i hi _ _=>g.hp i hi⟩
theorem c7.trans {O O1 O2:VH} {k q:Nat} (h:c7 O k q O1) (g:c7 O1 k q O2):c7 O k q O2:=⟨Nat.le_trans h.next g.next,fun i hi a b=>(g.hp i (Nat.lt_of_lt_of_le hi h.next) a b).trans (h.hp i hi a b)⟩
theorem c7.aff {O O1:VH} {k q:Nat} {x:bW} (h:c7 O k q O1):c7 O k q (O1.set k x):=⟨h.next,fun i hi a b=>(VH.ak _ _ a).trans (h.hp i hi a b)⟩
theorem c7.afg {O O1:VH} {k q:Nat} {x:bW} (h:c7 O k q O1):c7 O k q (O1.set q x):=⟨h.next,fun i hi a b=>(VH.ak _ _ b).trans (h.hp i hi a b)⟩
theorem bl.two {O O1:VH} {k q:Nat} (h:bl O (some q) O1):c7 O k q O1:=⟨h.next,fun i hi _ b=>h.hp i hi (fun e=>b (by injection e with e;exact e.symm))⟩
theorem adO {O:VH} {k q ba bb bc:Nat} {t:Bs} {u s r r2:Int} {n:Nd} {p:Pm} {g:Gv} {m1 m2:MV} (ha:O.hp ba=some (.cells [.ptr k 0])) (tQ:O.hp bb=some (.cells [.ptr q 0])) (TT:O.hp bc=some (.cells (bN g))) (hk:O.hp k=some (.cells [m1,m2,mi r,mi r2])) (hq:O.hp q=some (.cells (iP t u s Aj iN)))
  (kU:k<O.next) (pH:q<O.next) (fV:ba<O.next) (uQ:bb<O.next) (gN:bc<O.next) (hkq:k≠q) (ht:t.length<=65536) (hb:gX t= .ok n) (hr:ox n= .ok p):
  VF Tryz.prog 199 [.ptr ba 0,.ptr bb 0,.ptr bc 0] O (aH fun m O'=>(∃r',O'.hp k=some (.cells [m1,m2,mi r',mi r2]))/\O'.hp q=some (.cells (iP t u s p iN))/\c7 O k q O'):=by
 have Af:=fun O' h1 h2=>adN (O:=O') (q:=q) (u:=u) (s:=s) g h1 h2 ht hb hr
 have hka:ba≠k:=fun e=>by subst e;rw[ha]at hk;cases hk
 have um:bb≠k:=fun e=>by subst e;rw[tQ]at hk;cases hk
 have hkc:bc≠k:=fun e=>by subst e;rw[TT]at hk;unfold bN at hk;cases hk
 obtain⟨g1,g2,g3⟩:=g;unfold bN at TT Af;simp only[ar]at hk;refine VF.bL 10 [] Tryz.func199 ?_;refine VC.ag aa (aN @rX @di @ha ?_);refine ah.rt (Fa 1 hk rfl) ?_;rintro m O1 ⟨rfl,e1⟩;have dN:O1.hp k=some (.cells [m1,m2,mi (IntKind.i64.wrap (r+1)),mi r2]):=by rw[e1];exact VH.an _ _ _
 have rE:c7 O k q O1:=by rw[e1];exact(c7.of (VH.Ge.refl _)).aff
 have ct:=(by rw[e1];exact VH.ak _ _ um:O1.hp bb=O.hp bb).trans tQ;have gm:=(by rw[e1];exact VH.ak _ _ hkc:O1.hp bc=O.hp bc).trans TT;have WI:=(by rw[e1];exact VH.ak _ _ (Ne.symm hkq):O1.hp q=O.hp q).trans hq;have du:O1.next=O.next:=by rw[e1];rfl
 clear e1;refine ao @rX @di ?_;refine WC.sound aa (aN @rX @ct @gm ?_);refine ah.rt (Af O1 WI (by omega)) ?_;rintro m O2 ⟨yj,cZ⟩;have bt:=(cZ.hp k (by omega) (fun e=>hkq (by injection e with e;exact e.symm))).trans dN;refine ae @rX ?_;exact⟨⟨_,bt⟩,yj,rE.trans cZ.two⟩
set_option linter.defProp false in
def kc:=And.intro rX<|And.intro di<|And.intro T58<|And.intro SB T94
theorem Gw.ph {O O':VH} {k ke kv ce cv:Nat} {E V:fe} {r a r' a':Int} (h:Gw O k ke kv E ce V cv r a) (hc:O'.hp k=some (.cells [.map ke,.map kv,mi r',mi a'])) (he:O'.hp ke=O.hp ke) (hv:O'.hp kv=O.hp kv) (hn:O.next<=O'.next):Gw O' k ke kv E ce V cv r' a':=
 ⟨hc,he.trans h.Cg,hv.trans h.HW,h.MI,h.vok,h.ptr,⟨Nat.lt_of_lt_of_le h.lt.1 hn,Nat.lt_of_lt_of_le h.lt.2.1 hn,Nat.lt_of_lt_of_le h.lt.2.2 hn⟩,h.ne⟩
theorem Gw.ge {O O':VH} {k ke kv ce cv:Nat} {E V:fe} {r a:Int} (h:Gw O k ke kv E ce V cv r a) (g:O.Ge O'):Gw O' k ke kv E ce V cv r a:=
 h.ph ((g.hp _ h.lt.1).trans h.cell) (g.hp _ h.lt.2.1) (g.hp _ h.lt.2.2) g.next
theorem agY {O:VH} {k ke kv ce cv q:Nat} {E V:fe} {r a:Int} {t:Bs} {n:Nd} {p:Pm} (h:Gw O k ke kv E ce V cv r a) (g:Gv) (hg:sO g) (gn:iZ (eu g) E=some (.ptr q 0)) (hq:O.hp q=some (.cells (iP t 0 0 Aj iN))) (pH:q<O.next) (ht:t.length<=65536) (hb:gX t= .ok n) (hr:ox n= .ok p) (hp:aaK p):
  VF Tryz.prog 172 [.ptr k 0,.agg (bN g)] O (aH fun m O'=>m= .tuple [.agg (gh p),.agg (oW iN)]/\(∃r' a',O'.hp k=some (.cells [.map ke,.map kv,mi r',mi a']))/\O'.hp q=some (.cells (iP t 1 0 p iN))/\c7 O k q O'):=by
 have I7:q≠k:=fun e=>by subst e;rw[h.cell]at hq;simp[iP]at hq
 have hqe:q≠ke:=fun e=>by subst e;rw[h.Cg]at hq;cases hq
 have hqv:q≠kv:=fun e=>by subst e;rw[h.HW]at hq;cases hq
 have hL3:(eu g).length=3:=rfl;have hLs:=vm hg;have hLm:bN g=(eu g).map .str:=rfl;have hpc:=fun(O':VH) (ba bb bc:Nat) (m1 m2:MV) (r r2:Int) h1 h2 h3 h4 h5 h6 h7 h8 h9 xH=>adO (O:=O') (k:=k) (q:=q) (ba:=ba) (bb:=bb) (bc:=bc) (u:=0) (s:=1) (r:=r) (r2:=r2) (g:=g) (m1:=m1) (m2:=m2) h1 h2 h3 h4 h5 h6 h7 h8 h9 xH (Ne.symm I7) ht hb hr
 obtain⟨g1,g2,g3⟩:=g;have hkc:=h.cell;simp only[ar]at hkc;simp only[bN];refine VF.bL 40 [.cell 4 106,.cell 5 71] Tryz.func172 ?_;refine VC.ag aa (ae @kc ?_);refine VC.gen ?_;rintro O1 rT;obtain⟨aU,du,cC,ct,gm,pY⟩:=QJ _ _ _ _ rT;clear rT;have dN:=(aU.hp _ h.lt.1).trans hkc;refine VC.bu [2,3,4,5] (fun _:Unit=>[.ptr O.next 0,.ptr (O.next+1) 0,.ptr (O.next+2) 0,.ptr (O.next+3) 0]) (fun _ O'=>O'=O1.set k (.cells [.map ke,.map kv,mi r,mi (IntKind.i64.wrap (a+1))])) ?_ ?_
 ·refine VC.ag aa (ao @kc @cC ?_);refine WC.sound aa (aN @kc @cC @dN ?_);refine ah.rt (Fa 1 dN rfl) ?_;rintro m O2 ⟨rfl,e2⟩;refine ae @kc ?_;exact aA.mk () e2
 intro _ O2 e2;have eb:=h.lt;have bt:O2.hp k=some (.cells [.map ke,.map kv,mi r,mi (IntKind.i64.wrap (a+1))]):=by rw[e2];exact VH.an _ _ _
 have jJ:∀i,i≠k->O2.hp i=O1.hp i:=fun i hi=>by rw[e2];exact VH.ak _ _ hi
 have jB:O2.next=O.next+4:=by rw[e2];exact du
 have cZ:c7 O k q O2:=by rw[e2];exact(c7.of aU).aff
 have h2:Gw O2 k ke kv E ce V cv r (IntKind.i64.wrap (a+1)):=h.ph bt ((jJ _ (Ne.symm h.ne.1)).trans (aU.hp _ h.lt.2.1)) ((jJ _ (Ne.symm h.ne.2.1)).trans (aU.hp _ h.lt.2.2)) cZ.next;have iS:=(jJ _ (by omega)).trans cC;have bZ:=(jJ _ (by omega)).trans ct;have jj:=(jJ _ (by omega)).trans gm;have jz:=(jJ _ (by omega)).trans pY;have yj:=(jJ _ I7).trans ((aU.hp _ pH).trans hq);clear e2 cC ct gm pY dN bt jJ;generalize IntKind.i64.wrap (a+1)=a2 at*;refine VC.ag aa (aN @kc @iS @bZ ?_);refine ah.rt (SU h2 ⟨g1,g2,g3⟩ hg) ?_;rintro _ O3 ⟨rfl,aL⟩;have hh:Bk E ⟨g1,g2,g3⟩=true:=by unfold Bk;rw[gn];rfl
 rw[hh];have h3:=h2.ge aL;have iH:=aL.next;have tX:=aL.at iS;have cc:=aL.at bZ;have eR:=aL.at jj;have Ah:=aL.at jz;have vt:=aL.at yj;have cK:=cZ.ge aL;clear iS bZ jj jz yj cZ h2;have dB:=h3.cell;have Q8:=h3.Cg;simp only[ar]at dB;refine ae @kc ?_;refine VC.bj ?_;refine WC.bH (.held [7]) [(0,.rd),(1,.rd),(2,.rd),(3,.rd),(4,.rd),(5,.rd),(6,.one),(7,.one)] ?_;refine cU @kc @tX @cc @dB ?_;refine VL.hold (.inr rfl) rfl rfl (fH.ly vi aa (l:=eu ⟨g1,g2,g3⟩) (te:=⟨_,1,8,[.v (.pointer none)]⟩) Tryz.underlying94 SB rfl rfl Q8 h3.MI rfl hL3 hLs) (WL.sound aa ?_);rw[gn];refine ae @kc ?_;refine VC.al ?_;rintro O4 ⟨aZ,iy,ib⟩;have h4:=h3.ge aZ;have lU:=aZ.at tX;have cL:=aZ.at cc;have ff:=aZ.at eR;have EZ:=aZ.at Ah;have Jx:=aZ.at vt;have e_:=cK.ge aZ;have jl:=h4.cell;clear tX cc eR Ah vt cK h3 dB Q8 hh aZ aL;refine VC.ag aa (ao @kc @iy ?_);have mr:(iP t 0 0 Aj iN).set (1+1) (.v (.int .i32 1))=iP t 0 1 Aj iN:=rfl;have Ng:∀{i:Nat} {y:Option bW},i≠q->O4.hp i=y->(O4.set q (.cells (iP t 0 1 Aj iN))).hp i=y:=fun hi hy=>(VH.ak _ _ hi).trans hy
 refine ah.rt (aiH (off:=1) (Φ :=fun O'=>(∃r',O'.hp k=some (.cells [.map ke,.map kv,mi r',mi a2]))/\O'.hp q=some (.cells (iP t 0 1 p iN))/\c7 (O4.set q (.cells (iP t 0 1 Aj iN))) k q O') (g:=199) (xs:=[.ptr O.next 0,.ptr O3.next 0,.ptr (O.next+1) 0]) Jx rfl rfl (by kernel_rfl) (by rw[mr];exact hpc (O4.set q (.cells (iP t 0 1 Aj iN))) O.next O3.next (O.next+1) _ _ _ _ (Ng (by omega) lU) (Ng (by omega) iy) (Ng (by omega) cL) (Ng (Ne.symm I7) jl) (VH.an _ _ _) (by show k<O4.next;omega) (by show q<O4.next;omega) (by show O.next<O4.next;omega) (by show O3.next<O4.next;omega) (by show O.next+1<O4.next;omega)) (fun O' Jk=>⟨_,Jk.2.1,rfl,rfl⟩)) ?_;rintro m O5 ⟨OX,cs',⟨⟨r',hkX⟩,hqX,huX⟩,dP,e5⟩;rw[hqX]at dP;injection dP with dP;injection dP with dP
 subst dP;have qZ:((iP t 0 1 p iN).set 1 (.v (.int .u32 1))).set (1+1) (.v (.int .i32 0))=iP t 1 0 p iN:=rfl;rw[qZ]at e5;have EC:O5.hp q=some (.cells (iP t 1 0 p iN)):=by rw[e5];exact VH.an _ _ _
 have fJ:O5.hp k=some (.cells [.map ke,.map kv,mi r',mi a2]):=by rw[e5];exact(VH.ak _ _ (Ne.symm I7)).trans hkX
 have huA:c7 O4 k q (O4.set q (.cells (iP t 0 1 Aj iN))):=(c7.of (VH.Ge.refl _)).afg;have H4:c7 O4 k q O5:=by rw[e5];exact(huA.trans huX).afg
 have gD:=H4.next;have qk:=e_.trans ⟨gD,fun i hi=>H4.hp i hi⟩;have fA:=(H4.hp _ (by omega) (by omega) (by omega)).trans ff;have Jq:=(H4.hp _ (by omega) (by omega) (by omega)).trans EZ;have jE:=(H4.hp _ (by omega) (by omega) (by omega)).trans iy;clear e5 H4 huA huX hqX hkX qZ mr Ng lU cL ff EZ Jx e_ jl iy h4;refine ae @kc ?_;have hov:=fun O'=>agX p O' hp
 obtain⟨pb,⟨pg,pa,pv⟩,pG,pA,pV,pk,P,M,DD⟩:=p;simp only[iP,gh,oW,iN,ar,aY,List.cons_append,List.nil_append]at EC hov ⊢;refine VC.bj ?_;have jF:∀{O':VH},O5.Ge O'->O'.hp O3.next=some (.cells [.ptr q 0])/\O'.hp q=O5.hp q:=fun g=>⟨g.at jE,g.hp _ (by omega)⟩
 refine VC.sJ [] (fun O'=>O'.hp O3.next=some (.cells [.ptr q 0])/\O'.hp q=O5.hp q) (⟨jE,rfl⟩) ?_;refine ab.mC (m:=.ptr q 0) 0 ?_ ?_
 ·rintro O2 ⟨j1,j2⟩;exact dq @kc @j1
 simp only[aj];refine ab.aw 1 ?_;refine ae @kc ?_;refine ab.aw 2 ?_;refine ae @kc ?_;refine ab.mC (m:=.ptr q 0) 5 ?_ ?_
 ·rintro O2 ⟨j1,j2⟩;exact dq @kc @j1
 simp only[aj];refine ab.aw 6 ?_;refine ae @kc ?_;refine ab.aw 7 ?_;refine ae @kc ?_;rw[EC];refine ab.mC (m:=.agg [.v (.int .i64 0),.str [],.str [],.str [],.v (.int .i64 0),.v (.int .i64 0),.v (.int .i64 0),.str []]) 8 ?_ ?_
 ·rintro O2 ⟨j1,j2⟩;exact dq @kc @j2
 simp only[aj];refine ab.op (i:=3) ?_;refine ao @kc @EC ?_;refine⟨jE,?_⟩;refine ab.call (i:=4) (hov O5) ?_;rintro _ O6 ⟨rfl,dL⟩;simp only[aj];have ku:=dL.at jE;have hq6:=dL.at EC;have nj:=dL.at fJ;have Bw:=dL.at fA;have hd6:=dL.at Jq;have lS:=dL.next;have qQ:=qk.ge dL;refine⟨⟨ku,hq6⟩,?_⟩;refine ab.op (i:=9) ?_;refine ao @kc @Bw ?_;refine⟨⟨ku,hq6⟩,?_⟩;refine ab.op (i:=10) ?_;refine ao @kc @hd6 ?_;refine⟨⟨ku,hq6⟩,?_⟩;refine ab.bH [] ?_;refine ae @kc ?_;refine VC.gen ?_;intro O7 e7;have vu:∀i,i≠O.next+2->i≠O.next+3->O7.hp i=O6.hp i:=fun i h1 h2=>by rw[e7,VH.ak _ _ h2,VH.ak _ _ h1]
 have rM:O7.next=O6.next:=by rw[e7];rfl
 have hd7:O7.hp (O.next+3)=some (.cells [.v (.int .i64 0),.str [],.str [],.str [],.v (.int .i64 0),.v (.int .i64 0),.v (.int .i64 0),.str []]):=by rw[e7];exact VH.an _ _ _
 have hc7:O7.hp (O.next+2)=some (.cells [.v (.bool pb),.str pg,.str pa,.str pv,.str pG,.str pA,.str pV,.str pk,.sl P.length (P.flatMap a_) .au,.sl M.length (M.flatMap aQ) .au,.sl DD.length (DD.flatMap aQ) .au]):=by rw[e7,VH.ak _ _ (by omega)];exact VH.an _ _ _
 have hq7:=(vu q (by omega) (by omega)).trans hq6;have tT:=(vu k (by omega) (by omega)).trans nj;have CE:c7 O k q O7:=⟨by have:=qQ.next;omega,fun i hi h1 h2=>(vu i (by omega) (by omega)).trans (qQ.hp i hi h1 h2)⟩;clear e7 vu;refine WC.sound aa (aN @kc @hc7 @hd7 ?_);exact⟨⟨_,_,tT⟩,hq7,CE⟩
set_option linter.defProp false in
def dT:=And.intro kc<|And.intro SA<|And.intro T95 zP
structure vv (O:VH) (V:fe) (N:Nat):Prop where
 row:∀p∈V,∃n cs tk,p.2.1= .sl n cs tk/\cs.length=n/\n<=N/\App O 0 1 tk/\cI cs=cs
 one:∀(i j:Nat) (p r:List Bs×MV×Nat) (n:Nat) (cs:List MV) (tk:Tok) (n':Nat) (cs':List MV) (tk':Tok),V[i]?=some p->V[j]?=some r->i≠j->p.2.1= .sl n cs tk->r.2.1= .sl n' cs' tk'->∀x,Tok.id tk=some x->Tok.id tk'≠some x
theorem aI.q_ {P:Program} {n:Sz} {D:List Deferred} {ops:Array Oper} {e:Env} {O:VH} {Q:VQ} {m:MV} {i d:Nat} {op:Op} {ty:TypeId} {ps:String} {af:Array Edge} {g:Option (Nat×Bool)} {K:Env->VH->Prop} (hy:fH P n D (.mk (some d) op ty ps af g) e O m) (h:K ((d,m)::e) O) (ho:ops[i]?=some (.mk (some d) op ty ps af g):=by exact rfl) (hg:aK ops (.mk (some d) op ty ps af g) e=some true:=by exact rfl) (hd:bh n (some d)=true:=by exact rfl):aI P n D ops i e O Q K:=
 aI.hold ho hg hd hy h
def aaL (t:Bs):Option Pm->List MV
 | none=>iP t 0 0 Aj iN
 | some p=>iP t 1 0 p iN
theorem App.mv {O O':VH} {B sz:Nat} {tk:Tok} (h:App O B sz tk) (hn:O.next<=O'.next) (hi:∀i,i<O.next->O.hp i=some .tok->O'.hp i=some .tok):App O' B sz tk:=by
 cases tk with
 | own t j=>exact⟨h.1,hi _ h.2.2.2 h.2.1,h.2.2.1,Nat.lt_of_lt_of_le h.2.2.2 hn⟩
 | nil=>trivial
 | full=>trivial
 | au=>exact h.elim
theorem vv.mv {O O':VH} {V:fe} {N:Nat} (h:vv O V N) (hn:O.next<=O'.next) (hi:∀i,i<O.next->O.hp i=some .tok->O'.hp i=some .tok):vv O' V N:=
 ⟨fun p hp=>by obtain⟨n,cs,tk,h1,h2,h3,h4,h5⟩:=h.row p hp;exact⟨n,cs,tk,h1,h2,h3,h4.mv hn hi,h5⟩,h.one⟩
theorem vv.ge {O O':VH} {V:fe} {N:Nat} (h:vv O V N) (g:O.Ge O'):vv O' V N:=h.mv g.next fun i hi e=>(g.hp i hi).trans e
theorem App.off {O:VH} {B sz i:Nat} {tk:Tok} (h:App O B sz tk) (hi:i<O.next) (hn:O.hp i≠some .tok):(O.after tk).hp i=O.hp i:=by
 refine(cA.after h).hp i hi fun e=>hn ?_
 cases tk with
 | own t j=>injection e with e;subst e;exact h.2.1
 | _=>cases e
theorem WR.WJ {G:Gh} {O:VH} {w:World} {k:Nat} {cs cs':List MV} (h:WR G O w) (hk:O.hp k=some (.cells cs)) (hw:eD cs cs'):WR G (O.set k (.cells cs')) w:=by
 obtain⟨b,C,T,h1,h2,h3⟩:=h.cells k cs hk;refine h.swap (by rw[hk];simp) (fun ds e=>?_) (fun X e=>by cases e) (fun _ _ e=>by cases e) (fun e=>by cases e) (fun _ _ _ e=>by cases e);injection e with e;subst e
 exact⟨b,C,T,h1,h2,hw.1▸hw.vrs h3⟩
theorem VC.WJ {P:Program} {n:Sz} {D:List Deferred} {c:Code} {e:Env} {Q:VQ} {O:VH} {k:Nat} {cs cs':List MV} (hk:O.hp k=some (.cells cs)) (hw:eD cs cs') (h:VC P n D c e (O.set k (.cells cs')) Q):VC P n D c e O Q:=fun G a w h1 h2=>h G a w (h1.WJ hk hw) h2
theorem eD.aiQ (a1 a2 a3 a4 a5 a6 a7 a8 a9 a10 a11 a12 b1 b2 b3 b4 b5 b6 b7 b8:MV):eD [a1,a2,a3,a4,a5,a6,a7,a8,a9,a10,a11,a12,.sl 0 [] .nil,.sl 0 [] .nil,.sl 0 [] .nil,b1,b2,b3,b4,b5,b6,b7,b8] [a1,a2,a3,a4,a5,a6,a7,a8,a9,a10,a11,a12,.sl 0 [] .au,.sl 0 [] .au,.sl 0 [] .au,b1,b2,b3,b4,b5,b6,b7,b8]:=
 by repeat' first
  | exact eD.refl _
  | exact Wk.refl _
  | exact Wk.tok
  | refine eD.cons ?_ ?_
theorem adP {O:VH} {B sz:Nat} {tk:Tok} (h:App O B sz tk) {x:Nat} (e:Tok.id tk=some x):x<O.next:=(App.pB h e).2
theorem vv.app {O:VH} {V:fe} {N:Nat} (h:vv O V N) {tk:Tok} {p:List Bs×MV×Nat} (ha:App O 0 1 tk) (hp:p∈V) (hne:∀n' cs' tk',p.2.1= .sl n' cs' tk'->∀x,Tok.id tk=some x->Tok.id tk'≠some x):∃n cs t,p.2.1= .sl n cs t/\cs.length=n/\n<=N+1/\App (O.after tk) 0 1 t/\cI cs=cs:=by
 obtain⟨n',cs',t,h1,h2,h3,h4,h5⟩:=h.row p hp;exact⟨n',cs',t,h1,h2,Nat.le_succ_of_le h3,cA.app (cA.after ha) h4 (hne _ _ _ h1),h5⟩
theorem vv.put {O:VH} {V:fe} {N:Nat} (h:vv O V N) (hV:nT 2 V) {l:List Bs} {n ck:Nat} {cs:List MV} {tk:Tok} {v:Bs} (gn:xR false (.sl 0 [] .nil) (iZ l V)= .sl n cs tk) (hc:cs.length=n) (hn:n<=N) (ha:App O 0 1 tk) (hu:cI cs=cs):
  vv (O.after tk) (jq l (.sl (n+1) (cs++[.str v]) (.own O.next 1)) ck V) (N+1):=by
 have qt:∃n' cs' t,(MV.sl (n+1) (cs++[.str v]) (.own O.next 1))= .sl n' cs' t/\cs'.length=n'/\n'<=N+1/\App (O.after tk) 0 1 t/\cI cs'=cs':=⟨_,_,_,rfl,by rw[List.length_append,hc];rfl,by omega,App.after (Nat.zero_le _),by rw[mP,hu];simp only[wu]⟩
 have eb:∀p∈V,∀n' cs' t',p.2.1= .sl n' cs' t'->∀x,Tok.id t'=some x->x<O.next:=fun p hp n' cs' t' e x hx=>by
  obtain⟨a,b,c,h1,_,_,h4,_⟩:=h.row p hp;rw[h1]at e;injection e with _ _ e;subst e
  exact adP h4 hx
 unfold jq;cases jr:V.any (·.1==l)
 ·rw[if_neg (by simp)]
  have Dw:∀p∈V,p.1≠l:=fun p hp e=>by
   rw[List.any_eq_false]at jr;exact jr p hp (by simp[e])
  rw[wa Dw]at gn;simp only[xR]at gn;injection gn with e1 e2 e3;subst e1;subst e2;subst e3
  refine⟨fun p hp=>?_,fun i j p r n' cs' tk' n'' aiR aiS hi hj F5 hp hr x hx=>?_⟩
  ·rcases List.mem_append.1 hp with hp | hp
   ·exact h.app ha hp (fun _ _ _ _ x hx=>by cases hx)
   ·rw[List.mem_singleton.1 hp];exact qt
  ·rw[List.getElem?_append]at hi hj;split at hi<;>split at hj
   ·exact h.one i j p r _ _ _ _ _ _ hi hj F5 hp hr x hx
   ·have PM:=List.mem_of_getElem? hj;rw[List.mem_singleton]at PM;subst PM;dsimp only at hr;injection hr with _ _ e;subst e
    intro e2;injection e2 with e2
    have:=eb p (List.mem_of_getElem? hi) _ _ _ hp x hx;omega
   ·have wT:=List.mem_of_getElem? hi;rw[List.mem_singleton]at wT;subst wT;dsimp only at hp;injection hp with _ _ e;subst e
    injection hx with hx;intro e2;have:=eb r (List.mem_of_getElem? hj) _ _ _ hr x e2;omega
   ·have h1:=(List.getElem?_eq_some_iff.1 hi).1;have h2:=(List.getElem?_eq_some_iff.1 hj).1;simp only[List.length_cons,List.length_nil]at h1 h2;omega
 ·rw[if_pos rfl];obtain⟨p0,OU,F_⟩:=List.any_eq_true.1 jr;have F_:=eq_of_beq F_;obtain⟨i0,hi0,e0⟩:=List.mem_iff_getElem.1 OU;have kP:V[i0]?=some p0:=by rw[List.getElem?_eq_getElem hi0,e0]
  have oK:=I5 hV.one kP;rw[F_]at oK;rw[oK]at gn;simp only[xR]at gn;have gn:p0.2.1= .sl n cs tk:=gn
  have td:∀{i:Nat} {p:List Bs×MV×Nat},V[i]?=some p->p.1=l->i=i0:=fun{i p} hi dK=>by
   have h1:(V.map (·.1))[i]?=some l:=by rw[List.getElem?_map,hi];exact congrArg some dK
   have h2:(V.map (·.1))[i0]?=some l:=by rw[List.getElem?_map,kP];exact congrArg some F_
   exact(List.getElem?_inj (by rw[List.length_map];exact(List.getElem?_eq_some_iff.1 hi).1) hV.one).1 (h1.trans h2.symm)
  refine⟨fun p' hp'=>?_,fun i j p' r' n' cs' tk' n'' aiR aiS hi hj F5 hp hr x hx=>?_⟩
  ·obtain⟨p,hp,rfl⟩:=List.mem_map.1 hp';by_cases e:p.1=l
   ·rw[if_pos e];exact qt
   ·rw[if_neg e];obtain⟨j,hj,ej⟩:=List.mem_iff_getElem.1 hp;have CK:V[j]?=some p:=by rw[List.getElem?_eq_getElem hj,ej]
    exact h.app ha hp (fun n' cs' tk' e2 x hx=>h.one i0 j p0 p _ _ _ _ _ _ kP CK (fun e3=>by subst e3;rw[kP]at CK;injection CK with CK;exact e (CK▸F_)) gn e2 x hx)
  ·rw[List.getElem?_map]at hi hj;obtain⟨p,hpi,rfl⟩:=Option.map_eq_some_iff.1 hi;obtain⟨r,hrj,rfl⟩:=Option.map_eq_some_iff.1 hj;by_cases e:p.1=l
   ·by_cases e2:r.1=l
    ·exact absurd ((td hpi e).trans (td hrj e2).symm) F5
    ·rw[if_pos e]at hp;rw[if_neg e2]at hr;dsimp only at hp;injection hp with _ _ e3;subst e3
     injection hx with hx;intro e4;have:=eb r (List.mem_of_getElem? hrj) _ _ _ hr x e4;omega
   ·rw[if_neg e]at hp;by_cases e2:r.1=l
    ·rw[if_pos e2]at hr;dsimp only at hr;injection hr with _ _ e3;subst e3
     intro e4;injection e4 with e4
     have:=eb p (List.mem_of_getElem? hpi) _ _ _ hp x hx;omega
    ·rw[if_neg e2]at hr;exact h.one i j p r _ _ _ _ _ _ hpi hrj F5 hp hr x hx
structure m7 (O:VH) (k:Nat) (L:List (Gv×Bs×Option Pm)) (E V:fe) (ke kv ce cv:Nat) (r a:Int):Prop where
 st:Gw O k ke kv E ce V cv r a
 len:E.length=L.length
 Jy:∀(i:Nat) (g:Gv) (t:Bs) (o:Option Pm),L[i]?=some (g,t,o)->∃(q c:Nat),E[i]?=some (eu g,MV.ptr q 0,c)/\(q:Nat)<O.next/\O.hp q=some (.cells (aaL t o))
 dis:∀(i j:Nat) (p r:List Bs×MV×Nat) (q:Nat),E[i]?=some p->E[j]?=some r->p.2.1=MV.ptr q 0->r.2.1=MV.ptr q 0->i=j
 ver:vv O V L.length
theorem adQ (O:VH):VF Tryz.prog 27 [] O (aH fun m O'=>m= .ptr (O.next+2) 0/\m7 O' (O.next+2) [] [] [] O.next (O.next+1) 0 0 0 0/\O.Ge O'):=by
 refine VF.bL 5 [.tmp 0] Tryz.func27 ?_;have nq:Gc (kO [(0,1),(1,1),(2,1),(3,1)]) [.v (.map none),.v (.map none),.v (.int .i64 0),.v (.int .i64 0)] (.map O.next) [(1,.map (O.next+1))] (some (0,1))=some [.map O.next,.map (O.next+1),.v (.int .i64 0),.v (.int .i64 0)]:=rfl;refine VC.ag aa (ae @dT ?_);refine VC.ag aa (ao @dT @nq ?_);refine WC.sound aa (ae @dT ?_);obtain⟨hg,hn,h1,h2,h3⟩:=lT (O:=O) (.map [] 0) (.map [] 0) (.cells [.map O.next,.map (O.next+1),.v (.int .i64 0),.v (.int .i64 0)]) rfl;refine⟨⟨⟨h3,h1,h2,⟨by simp,by simp⟩,⟨by simp,by simp⟩,by simp,by omega,by omega⟩,rfl,by simp,by simp,⟨by simp,by simp⟩⟩,hg⟩
theorem Nh {tab:bV} {O:VH} {t kd te:TypeId} {k a b ck:Nat} {z:List MV} {es:wN} (h:tab t=some ⟨.map kd te,a,b,z⟩) (hb:O.hp k=some (.map es ck)):o_ tab O t (.map k)=some (.v (.int .i64 es.length)):=by simp[o_,h,hb]
theorem Fo {M:fe} {l:List Bs} (h:iZ l M=none):∀p∈M,p.1≠l:=by
 unfold iZ at h;rw[Option.map_eq_none_iff,List.find?_eq_none]at h;intro p hp e;exact h p hp (by simp[e])
theorem H5 {x y:Gv} (h:eu x=eu y):x=y:=by
 obtain⟨a,b,c⟩:=x;obtain⟨d,e,f⟩:=y;simp only[eu,List.cons.injEq,and_true]at h;obtain⟨rfl,rfl,rfl⟩:=h;rfl
section
variable {O O':VH} {k ke kv ce cv:Nat} {L:List (Gv×Bs×Option Pm)} {E V:fe} {r a:Int}
theorem m7.none (h:m7 O k L E V ke kv ce cv r a) {g:Gv} (fF:∀x∈L,x.1≠g):iZ (eu g) E=none:=by
 refine wa fun p hp e=>?_
 obtain⟨i,hi,rfl⟩:=List.mem_iff_getElem.1 hp;have hiL:i<L.length:=by rw[<-h.len];exact hi
 obtain⟨q,c,h1,_⟩:=h.Jy i L[i].1 L[i].2.1 L[i].2.2 (List.getElem?_eq_getElem hiL);rw[List.getElem?_eq_getElem hi]at h1;injection h1 with h1;rw[h1]at e;exact fF _ (List.getElem_mem hiL) (H5 e)
theorem m7.some (h:m7 O k L E V ke kv ce cv r a) {i:Nat} {g:Gv} {t:Bs} {o:Option Pm} (hi:L[i]?=some (g,t,o)):∃q c,iZ (eu g) E=some (.ptr q 0)/\q<O.next/\O.hp q=some (.cells (aaL t o))/\E[i]?=some (eu g,.ptr q 0,c):=by
 obtain⟨q,c,h1,h2,h3⟩:=h.Jy i g t o hi;exact⟨q,c,I5 h.st.MI.one h1,h2,h3,h1⟩
end
theorem agZ {O:VH} {k ke kv ce cv:Nat} {L:List (Gv×Bs×Option Pm)} {E V:fe} {r a:Int} (h:m7 O k L E V ke kv ce cv r a) (g:Gv) (t:Bs) (hm:zV g=true) (lI:sO g) (fF:∀x∈L,x.1≠g) (hL:L.length<1024):
  VF Tryz.prog 47 [.ptr k 0,.agg (bN g),.str t] O (aH fun m O'=>m=mi 0/\(∃E' V' Q9 Q_,m7 O' k (L++[(g,t,none)]) E' V' ke kv Q9 Q_ r a)/\O.next<=O'.next/\∀i cs,i<O.next->O.hp i=some (.cells cs)->O'.hp i=some (.cells cs)):=by
 have EF:=h.none fF;have Gm:=h.len;have c5:=h.st;have hh:Bk E g=false:=by unfold Bk;rw[EF];rfl
 have eb:=c5.lt;have hL3:(eu g).length=3:=rfl;have hLs:=vm lI;have hmg:=fun O'=>VD g O' lI.1 lI.2.1 lI.2.2
 have aaM:=fun(O':VH) (g':O.Ge O')=>SU (c5.ge g') g lI
 rw[hm]at hmg;rw[hh]at aaM;obtain⟨g1,g2,g3⟩:=g;simp only[bN]at hmg aaM ⊢;refine VF.bL 50 [.tmp 6] Tryz.func47 ?_;refine VC.ag aa (ae @dT ?_);refine VC.bx ?_;rintro O1 ⟨aU,fK,du⟩;refine VC.ag aa (ao @dT @fK ?_);refine ah.rt (hmg O1) ?_;rintro _ O2 ⟨rfl,aC⟩;have ki:=aC.at fK;have gE:=aU.trans aC;refine ao @dT @ki ?_;refine ah.rt (aaM O2 gE) ?_;rintro _ O3 ⟨rfl,aL⟩;have eB:=gE.trans aL;have kV:=(aL.hp _ (by have:=aC.next;omega)).trans ki;have iH:=eB.next;have h3:=c5.ge eB;have dB:=h3.cell;have Q8:=h3.Cg;simp only[ar]at dB;have hEn:(cy E).length<1024:=by unfold cy;rw[List.length_map];omega
 have AL:=Nh T94 Q8;have Gk:(cy E).length=L.length:=by unfold cy;rw[List.length_map];exact Gm
 rw[Gk]at AL;refine aN @dT @dB @AL ?_;refine VC.bj ?_;refine WC.bH (.held [8]) [(0,.rd),(1,.rd),(2,.rd),(3,.rd),(4,.rd),(5,.rd),(6,.rd),(7,.one),(8,.one)] ?_;refine aN @dT @dB @kV ?_;have heP:∀{x:bW},(O3.push x).hp ke=some (.map (cy E) ce):=(VH.bp _ _ h3.lt.2.1).trans Q8
 refine VL.ot rfl rfl (oq.jq vi (l:=eu ⟨g1,g2,g3⟩) (b:=ke) (ck:=ce) (M:=E) Tryz.underlying94 rfl heP h3.MI rfl hL3 hLs rfl) (fun brk hb i hi=>?_) (WL.sound aa ?_)
 ·cases hb
  rcases i with _ | _ | _ | _ | _ | _ | _ | _ | _ | i<;>first
   | rfl
   | (exfalso;revert hi;simp)
 have tV:E.any (·.1==eu ⟨g1,g2,g3⟩)=false:=by
  rw[List.any_eq_false];intro p hp hpe;have:=Fo EF p hp;exact this (eq_of_beq hpe)
 unfold jq LV;rw[tV];refine ae @dT ?_;refine VC.gen ?_;intro O4 e4;have ib:O4.next=O3.next+1:=by rw[e4];rfl
 have afh:=h3.lt;have Ni:O.next+1<=O3.next:=by have:=aC.next;have:=aL.next;omega
 have ra:∀i,i<O3.next->i≠ke->O4.hp i=O3.hp i:=fun i h1 h2=>by rw[e4,VH.ak _ _ h2];exact VH.bp _ _ h1
 have he4:O4.hp ke=some (.map (cy (E++[(eu ⟨g1,g2,g3⟩,MV.ptr O3.next 0,ce)])) (ce+1)):=by rw[e4];exact VH.an _ _ _
 have Jx:O4.hp O3.next=some (.cells [.str t,.v (.int .u32 0),.v (.int .i32 0),.v (.int .u32 0),.v (.bool false),.str [],.str [],.str [],.str [],.str [],.str [],.str [],.sl 0 [] .nil,.sl 0 [] .nil,.sl 0 [] .nil,.v (.int .i64 0),.str [],.str [],.str [],.v (.int .i64 0),.v (.int .i64 0),.v (.int .i64 0),.str []]):=by
  rw[e4,VH.ak _ _ (by omega)];exact VH.aX _ _
 clear e4 heP;refine VC.WJ Jx (cs':=iP t 0 0 Aj iN) (eD.aiQ _ _ _ _ _ _ _ _ _ _ _ _ _ _ _ _ _ _ _ _) ?_;refine VC.gen ?_;intro O5 e5;have gD:O5.next=O3.next+1:=by rw[e5];exact ib
 have jF:∀i,i<O3.next->i≠ke->O5.hp i=O3.hp i:=fun i h1 h2=>by rw[e5,VH.ak _ _ (by omega)];exact ra i h1 h2
 have he5:O5.hp ke=some (.map (cy (E++[(eu ⟨g1,g2,g3⟩,MV.ptr O3.next 0,ce)])) (ce+1)):=by rw[e5,VH.ak _ _ (by omega)];exact he4
 have EC:O5.hp O3.next=some (.cells (iP t 0 0 Aj iN)):=by rw[e5];exact VH.an _ _ _
 clear e5 ra he4 Jx ib O4;have fJ:=(jF k (by omega) c5.ne.1).trans dB;have oB:=(jF kv (by omega) (Ne.symm c5.ne.2.2)).trans h3.HW;have jE:=(jF O.next (by omega) (by omega)).trans kV;have aaN:vv O5 V L.length:=(h.ver.ge eB).mv (by omega) fun i hi e=>(jF i hi (fun e2=>by subst e2;rw[Q8]at e;cases e)).trans e
 obtain⟨n,cs,tk,gI,dP,hnn,tJ,eN⟩:∃n cs tk,xR false (.sl 0 [] .nil) (iZ (Ak ⟨g1,g2⟩) V)= .sl n cs tk/\cs.length=n/\n<=L.length/\App O5 0 1 tk/\cI cs=cs:=by
  cases gn:iZ (Ak ⟨g1,g2⟩) V with
  | none=>exact⟨0,[],.nil,rfl,rfl,Nat.zero_le _,trivial,rfl⟩
  | some m=>
    unfold iZ at gn;obtain⟨p,nv,rfl⟩:=Option.map_eq_some_iff.1 gn;obtain⟨n,cs,tk,k1,k2,k3,k4,k5⟩:=aaN.row p (List.mem_of_find?_eq_some nv);exact⟨n,cs,tk,k1,k2,k3,k4,k5⟩
 have GB:=c5.vok;have H6:=agS ⟨g1,g2,g3⟩
 have yl:∀s∈Ak ⟨g1,g2⟩,s.length<=maxLen:=by
  intro s hs;simp only[Ak,List.mem_cons,List.not_mem_nil,or_false]at hs;rcases hs with rfl | rfl
  ·exact lI.1
  ·exact lI.2.1
 simp only[bN]at H6;refine VC.bj ?_;refine VC.sJ [17] (fun O'=>O'.hp k=O5.hp k/\O'.hp O.next=O5.hp O.next) (⟨rfl,rfl⟩) ?_;refine ab.aw 0 ?_;refine ae @dT ?_;refine ab.aw 1 ?_;refine ae @dT ?_;refine ab.aw 2 ?_;refine ae @dT ?_;refine ab.mC (m:=.map kv) 3 ?_ ?_
 ·rintro O2 ⟨j1,j2⟩;exact dq @dT (j1.trans fJ)
 simp only[aj];refine ab.mC (m:=.agg [.str g1,.str g2,.str g3]) 4 ?_ ?_
 ·rintro O2 ⟨j1,j2⟩;exact dq @dT (j2.trans jE)
 simp only[aj];refine ab.aw 6 ?_;refine ae @dT ?_;refine ab.aw 7 ?_;refine ae @dT ?_;refine ab.aw 8 ?_;refine ae @dT ?_;refine ab.mC (m:=.map kv) 9 ?_ ?_
 ·rintro O2 ⟨j1,j2⟩;exact dq @dT (j1.trans fJ)
 simp only[aj];refine ab.mC (m:=.agg [.str g1,.str g2,.str g3]) 10 ?_ ?_
 ·rintro O2 ⟨j1,j2⟩;exact dq @dT (j2.trans jE)
 simp only[aj];refine ab.aw 13 ?_;refine ae @dT ?_;refine ab.mC (m:=.str g3) 14 ?_ ?_
 ·rintro O2 ⟨j1,j2⟩;exact dq @dT (j2.trans jE)
 simp only[aj];have hJ:∀O',O5.Ge O'->O'.hp k=O5.hp k/\O'.hp O.next=O5.hp O.next:=fun O' g=>⟨g.hp _ (by omega),g.hp _ (by omega)⟩
 have mq:∀OO,O5.Ge OO->∀OF,OF=(OO.after tk).set kv (.map (cy (jq (Ak ⟨g1,g2⟩) (.sl (n+1) (cs++[.str g3]) (.own OO.next 1)) cv V)) (LV (Ak ⟨g1,g2⟩) cv V))->(∃E' V' Q9 Q_,m7 OF k (L++[((⟨g1,g2,g3⟩:Gv),t,none)]) E' V' ke kv Q9 Q_ r a)/\O.next<=OF.next/\∀i cs,i<O.next->O.hp i=some (.cells cs)->OF.hp i=some (.cells cs):=by
  intro OO hG OF eF;have hoO:=hG.next
  have hF:∀i,i<O5.next->O5.hp i≠some .tok->i≠kv->OF.hp i=O5.hp i:=fun i hi hne hv=>by
   rw[eF,VH.ak _ _ hv];have e1:=hG.hp i hi;rw[App.off (tJ.ge hG) (Nat.lt_of_lt_of_le hi hG.next) (by rw[e1];exact hne)];exact e1
  have Ra:O5.next<=OF.next:=by
   have:OF.next=(OO.after tk).next:=by rw[eF];rfl
   have:=(cA.after (tJ.ge hG)).next;omega
  have hold:∀i cs,i<O.next->O.hp i=some (.cells cs)->OF.hp i=some (.cells cs):=fun i cs hi e=>by
   have e3:=(eB.hp i hi).trans e;have e5:=(jF i (by omega) (fun e2=>by subst e2;rw[Q8]at e3;cases e3)).trans e3;exact(hF i (by omega) (by rw[e5];simp) (fun e2=>by subst e2;rw[oB]at e5;cases e5)).trans e5
  have aaO:=rH (y:=MV.ptr O3.next 0) (ck:=ce) h3.MI hL3 hLs;unfold jq at aaO;rw[tV]at aaO;refine⟨⟨_,_,_,_,⟨⟨(hF _ (by omega) (by rw[fJ];simp) c5.ne.2.1).trans fJ,(hF _ (by omega) (by rw[he5];simp) c5.ne.2.2).trans he5,by rw[eF];exact VH.an _ _ _,aaO,rH GB rfl yl,fun p hp=>?_,⟨by omega,by omega,by omega⟩,c5.ne⟩,by rw[List.length_append,List.length_append,Gm];rfl,fun i g' t' o' hi=>?_,fun i j p r' q hi hj hp hr=>?_,?_⟩⟩,by omega,hold⟩
  ·rcases List.mem_append.1 hp with hp | hp
   ·exact c5.ptr p hp
   ·rw[List.mem_singleton.1 hp];exact⟨_,rfl⟩
  ·rw[List.getElem?_append]at hi;split at hi
   ·rename_i hil;obtain⟨q,c,k1,k2,k3⟩:=h.Jy i g' t' o' hi;exact⟨q,c,by rw[List.getElem?_append_left (by omega)];exact k1,by omega,hold q _ k2 k3⟩
   ·rename_i hil;have wT:=List.mem_of_getElem? hi;rw[List.mem_singleton]at wT;injection wT with e1 e2;injection e2 with e2 e3
    subst e1;subst e2;subst e3
    have hlen:=(List.getElem?_eq_some_iff.1 hi).1;simp only[List.length_cons,List.length_nil]at hlen;refine⟨O3.next,ce,?_,by omega,(hF _ (by omega) (by rw[EC];simp) (by omega)).trans EC⟩;rw[List.getElem?_append_right (by omega),Gm,show i - L.length=0 by omega];rfl
  ·have hq:∀(i:Nat) (p:List Bs×MV×Nat) (q:Nat),E[i]?=some p->p.2.1=MV.ptr q 0->q<O.next:=fun i p q hi hp=>by
    have hil:i<L.length:=by rw[<-Gm];exact(List.getElem?_eq_some_iff.1 hi).1
    obtain⟨q',c,k1,k2,_⟩:=h.Jy i _ _ _ (List.getElem?_eq_getElem hil);rw[hi]at k1;injection k1 with k1
    rw[k1]at hp;dsimp only at hp;injection hp with hp;omega
   rw[List.getElem?_append]at hi hj;split at hi<;>split at hj
   ·exact h.dis i j p r' q hi hj hp hr
   ·have PM:=List.mem_of_getElem? hj;rw[List.mem_singleton]at PM;subst PM;dsimp only at hr;injection hr with hr;have:=hq i p q hi hp;omega
   ·have wT:=List.mem_of_getElem? hi;rw[List.mem_singleton]at wT;subst wT;dsimp only at hp;injection hp with hp;have:=hq j r' q hj hr;omega
   ·have h1:=(List.getElem?_eq_some_iff.1 hi).1;have h2:=(List.getElem?_eq_some_iff.1 hj).1;simp only[List.length_cons,List.length_nil]at h1 h2;omega
  ·rw[List.length_append];have hvO:=vv.put (ck:=cv) (v:=g3) (aaN.ge hG) GB gI dP hnn (tJ.ge hG) eN;rw[eF];refine hvO.mv (Nat.le_refl _) fun i hi e=>?_
   by_cases e2:i=kv
   ·subst e2;rw[App.off (tJ.ge hG) (by omega) (by rw[hG.hp _ (by omega),oB];simp),hG.hp _ (by omega),oB]at e;cases e
   ·exact(VH.ak _ _ e2).trans e
 have hG:=VH.Ge.refl O5;refine ab.pair (i:=5) (j:=15) ?_ ?_
 ·refine aI.jA (H6 _) ?_;rintro _ O6 ⟨rfl,qP⟩
  replace hG:=hG.trans qP
  clear qP;simp only[aj];refine⟨hJ _ hG,?_⟩;refine ab.pair (i:=11) (j:=15) ?_ ?_
  ·refine aI.jA (H6 _) ?_;rintro _ O7 ⟨rfl,qP⟩
   replace hG:=hG.trans qP
   clear qP;simp only[aj];refine⟨hJ _ hG,?_⟩;refine ab.pair (i:=12) (j:=15) ?_ ?_
   ·refine aI.q_ (fH.ly Ce aa (l:=Ak ⟨g1,g2⟩) (te:=⟨_,1,24,[.sl 0 [] .nil]⟩) Tryz.underlying95 zP rfl rfl (hG.at oB) GB rfl rfl yl) ?_;rw[gI];refine⟨hJ _ hG,?_⟩;refine ab.op (i:=15) ?_;refine ae @dT ?_;refine⟨hJ _ hG,?_⟩;have cB:=bg (tk:=tk) (tk':=.full) (B:=0) (n:=n) (k:=1) (cs:=cs) (ds:=[.str g3]) zP T9 (O:=O7) (tJ.ge hG) (by rw[Nat.mul_one];exact dP) rfl rfl (by decide) (by decide) (by omega) (by simp only[maxLen];omega)
    have ve:∀i,i<O5.next->O5.hp i≠some .tok->((O7).after tk).hp i=O5.hp i:=fun i hi hne=>by
     have e1:=(hG).hp i hi;rw[App.off (tJ.ge hG) (Nat.lt_of_lt_of_le hi (hG).next) (by rw[e1];exact hne)];exact e1
    refine ab.op (i:=16) ?_;rw[cN];refine ao @dT @cB ?_;refine⟨⟨ve _ (by omega) (by rw[fJ];simp),ve _ (by omega) (by rw[jE];simp)⟩,?_⟩;refine ab.bH [(17,.one)] ?_;refine ae @dT ?_;refine VL.ot rfl rfl (oq.jq Ce (l:=Ak ⟨g1,g2⟩) (b:=kv) (ck:=cv) (M:=V) Tryz.underlying95 rfl ((ve _ (by omega) (by rw[oB];simp)).trans oB) GB rfl rfl yl rfl) (fun brk hb=>by cases hb) (WL.sound aa ?_);refine ae @dT ?_;refine VC.gen ?_;intro OF eF;refine VC.ag aa (ae @dT ?_);refine WC.sound aa (ae @dT ?_);exact mq O7 hG OF eF
   ·refine aI.o1 ?_;refine ae @dT ?_;refine⟨hJ _ hG,?_⟩;refine ab.one (i:=12) (aI.q_ (fH.ly Ce aa (l:=Ak ⟨g1,g2⟩) (te:=⟨_,1,24,[.sl 0 [] .nil]⟩) Tryz.underlying95 zP rfl rfl (hG.at oB) GB rfl rfl yl) ?_);rw[gI];refine⟨hJ _ hG,?_⟩;have cB:=bg (tk:=tk) (tk':=.full) (B:=0) (n:=n) (k:=1) (cs:=cs) (ds:=[.str g3]) zP T9 (O:=O7) (tJ.ge hG) (by rw[Nat.mul_one];exact dP) rfl rfl (by decide) (by decide) (by omega) (by simp only[maxLen];omega)
    have ve:∀i,i<O5.next->O5.hp i≠some .tok->((O7).after tk).hp i=O5.hp i:=fun i hi hne=>by
     have e1:=(hG).hp i hi;rw[App.off (tJ.ge hG) (Nat.lt_of_lt_of_le hi (hG).next) (by rw[e1];exact hne)];exact e1
    refine ab.op (i:=16) ?_;rw[cN];refine ao @dT @cB ?_;refine⟨⟨ve _ (by omega) (by rw[fJ];simp),ve _ (by omega) (by rw[jE];simp)⟩,?_⟩;refine ab.bH [(17,.one)] ?_;refine ae @dT ?_;refine VL.ot rfl rfl (oq.jq Ce (l:=Ak ⟨g1,g2⟩) (b:=kv) (ck:=cv) (M:=V) Tryz.underlying95 rfl ((ve _ (by omega) (by rw[oB];simp)).trans oB) GB rfl rfl yl rfl) (fun brk hb=>by cases hb) (WL.sound aa ?_);refine ae @dT ?_;refine VC.gen ?_;intro OF eF;refine VC.ag aa (ae @dT ?_);refine WC.sound aa (ae @dT ?_);exact mq O7 hG OF eF
  ·refine aI.o1 ?_;refine ae @dT ?_;refine⟨hJ _ hG,?_⟩;refine ab.one (i:=11) (aI.jA (H6 _) ?_);rintro _ O7 ⟨rfl,qP⟩
   replace hG:=hG.trans qP
   clear qP;simp only[aj];refine⟨hJ _ hG,?_⟩;refine ab.one (i:=12) (aI.q_ (fH.ly Ce aa (l:=Ak ⟨g1,g2⟩) (te:=⟨_,1,24,[.sl 0 [] .nil]⟩) Tryz.underlying95 zP rfl rfl (hG.at oB) GB rfl rfl yl) ?_);rw[gI];refine⟨hJ _ hG,?_⟩;have cB:=bg (tk:=tk) (tk':=.full) (B:=0) (n:=n) (k:=1) (cs:=cs) (ds:=[.str g3]) zP T9 (O:=O7) (tJ.ge hG) (by rw[Nat.mul_one];exact dP) rfl rfl (by decide) (by decide) (by omega) (by simp only[maxLen];omega)
   have ve:∀i,i<O5.next->O5.hp i≠some .tok->((O7).after tk).hp i=O5.hp i:=fun i hi hne=>by
    have e1:=(hG).hp i hi;rw[App.off (tJ.ge hG) (Nat.lt_of_lt_of_le hi (hG).next) (by rw[e1];exact hne)];exact e1
   refine ab.op (i:=16) ?_;rw[cN];refine ao @dT @cB ?_;refine⟨⟨ve _ (by omega) (by rw[fJ];simp),ve _ (by omega) (by rw[jE];simp)⟩,?_⟩;refine ab.bH [(17,.one)] ?_;refine ae @dT ?_;refine VL.ot rfl rfl (oq.jq Ce (l:=Ak ⟨g1,g2⟩) (b:=kv) (ck:=cv) (M:=V) Tryz.underlying95 rfl ((ve _ (by omega) (by rw[oB];simp)).trans oB) GB rfl rfl yl rfl) (fun brk hb=>by cases hb) (WL.sound aa ?_);refine ae @dT ?_;refine VC.gen ?_;intro OF eF;refine VC.ag aa (ae @dT ?_);refine WC.sound aa (ae @dT ?_);exact mq O7 hG OF eF
 ·refine aI.o1 ?_;refine ae @dT ?_;refine ab.one (i:=5) (aI.jA (H6 _) ?_);rintro _ O6 ⟨rfl,qP⟩
  replace hG:=hG.trans qP
  clear qP;simp only[aj];refine⟨hJ _ hG,?_⟩;refine ab.one (i:=11) (aI.jA (H6 _) ?_);rintro _ O7 ⟨rfl,qP⟩
  replace hG:=hG.trans qP
  clear qP;simp only[aj];refine⟨hJ _ hG,?_⟩;refine ab.one (i:=12) (aI.q_ (fH.ly Ce aa (l:=Ak ⟨g1,g2⟩) (te:=⟨_,1,24,[.sl 0 [] .nil]⟩) Tryz.underlying95 zP rfl rfl (hG.at oB) GB rfl rfl yl) ?_);rw[gI];refine⟨hJ _ hG,?_⟩;have cB:=bg (tk:=tk) (tk':=.full) (B:=0) (n:=n) (k:=1) (cs:=cs) (ds:=[.str g3]) zP T9 (O:=O7) (tJ.ge hG) (by rw[Nat.mul_one];exact dP) rfl rfl (by decide) (by decide) (by omega) (by simp only[maxLen];omega)
  have ve:∀i,i<O5.next->O5.hp i≠some .tok->((O7).after tk).hp i=O5.hp i:=fun i hi hne=>by
   have e1:=(hG).hp i hi;rw[App.off (tJ.ge hG) (Nat.lt_of_lt_of_le hi (hG).next) (by rw[e1];exact hne)];exact e1
  refine ab.op (i:=16) ?_;rw[cN];refine ao @dT @cB ?_;refine⟨⟨ve _ (by omega) (by rw[fJ];simp),ve _ (by omega) (by rw[jE];simp)⟩,?_⟩;refine ab.bH [(17,.one)] ?_;refine ae @dT ?_;refine VL.ot rfl rfl (oq.jq Ce (l:=Ak ⟨g1,g2⟩) (b:=kv) (ck:=cv) (M:=V) Tryz.underlying95 rfl ((ve _ (by omega) (by rw[oB];simp)).trans oB) GB rfl rfl yl rfl) (fun brk hb=>by cases hb) (WL.sound aa ?_);refine ae @dT ?_;refine VC.gen ?_;intro OF eF;refine VC.ag aa (ae @dT ?_);refine WC.sound aa (ae @dT ?_);exact mq O7 hG OF eF
open Go.MapKept (run_setObj_map)
set_option linter.defProp false in
def dz:=And.intro dT<|And.intro ZG<|And.intro T75<|And.intro T3<|And.intro ahU AX
def iB (d:Dp):Ky:=⟨d.g,d.a,if d.t=[]then[106,97,114]else d.t,d.c⟩
theorem Jz (d:Dp) (O:VH):VF Tryz.prog 74 [.agg (aQ d)] O (aH fun m O'=>m= .agg (f_ (iB d))/\O.Ge O'):=by
 obtain⟨g,a,v,t,c,s,o,x⟩:=d;simp only[aQ,iB,f_];refine VF.bL 18 [.cell 2 30] Tryz.func74 ?_;refine VC.ag aa (ae @dz ?_);refine VC.gen ?_;intro O1 e1;obtain⟨aU,du,cC,ct⟩:=gJ _ _ e1;clear e1;refine VC.ag aa (ao @dz @cC ?_);refine VC.al ?_;rintro O2 ⟨aC,ki,jB⟩;have bZ:=aC.at ct;cases t with
 | nil=>
   rw[if_pos rfl];refine VC.ag aa (aN @dz @ki (show(([]:List UInt8)==[])=true from rfl) ?_);refine WC.sound aa (aN @dz @ki @bZ ?_);exact(((aU.trans aC).set (by omega) _).set (by omega) _)
 | cons y t=>
   rw[if_neg (by simp)];refine VC.ag aa (aN @dz @ki (show((y::t)==[])=false from rfl) ?_);refine WC.sound aa (aN @dz @ki @bZ ?_);exact(aU.trans aC).set (by omega) _
section
variable {G H:Gh} {n:Sz} {D:List Deferred} {e e':Env} {a:Act} {P:Program} {tab:bV} {O O':VH} {w:World} {m m':MV} {u v:Value} {ops:Array Oper} {Q:VQ} {md:Md}
structure Cnt (N:Nat) (M:fe) (j:Int):Prop where
 ok:nT N M
 int:∀p∈M,∃x:Int,p.2.1=mi x/\0<=x/\x<=j
theorem fQ.S7 {kt et:TypeId} {N:Nat} (K:tn P kt N) (ht:aM P tab) {d:Option Tmp} {t ty:TypeId} {x y:Operand} {ps:String} {af:Array Edge} {g:Option (Nat×Bool)} {b ck:Nat} {M:fe} {l:List (List UInt8)} {te:cn} {z:MV} (hU:P.underlying t=some (.map kt et)) (nh:tab et=some te) (hz:yU te=some z)
  (hx:ev e x=some (.map b)) (hb:O.hp b=some (.map (cy M) ck)) (hM:nT N M) (hy:ev e y=some (.agg (l.map .str))) (hl:l.length=N) (hs:∀s∈l,s.length<=maxLen):
  fQ P n D (.mk d (.mapEntry t x y) ty ps af g) e O fun m O'=>∃(M':fe) (ck':Nat) (v:MV) (st:Nat),m= .tuple [v,.v (.int .i64 st)]/\O'=O.set b (.map (cy M') ck')/\nT N M'/\(∀p∈M',p∈M\/p.2.1=z)/\(∃p∈M',p.2.2=st):=by
 intro G a w hw hf;have h1:=hf.ev hx;have h2:=hf.ev hy;generalize oo:a.eval x=u at h1;generalize xQ:a.eval y=v at h2;have hv:=zN h2;subst hv;cases h1 with
 | map ee=>
   rename_i b';obtain⟨b2,E,e1,e2,e3,e4,e5⟩:=hw.map _ _ _ hb;rw[ee]at e1;injection e1 with e1;subst e1
   have hE:gB G (cy M) E.toList:=⟨e3,e4,e5⟩;obtain⟨lit,xc⟩:=K.of l hl hs;have Cx:=K.law.check w false xc;obtain⟨zv,z1,z2⟩:=xK (ht et te nh) hz;rcases zO K hM hE hl hs w with⟨g1,g2⟩ | ⟨j,p,q,g1,g2,g3,g4,g5⟩
   ·have jr:M.any (·.1==l)=false:=by rw[List.any_eq_false];intro p hp;simpa using g2 p hp
    have hr:gB G (cy (M++[(l,z,ck)])) (E.push {key:=fm l,val:=zv,born:=ck}).toList:=by
     rw[Array.toList_push];unfold cy;rw[List.map_append];exact hE.append (gB.cons rfl h2 (z2 G) gB.nil)
    have cu:=rH (y:=z) (ck:=ck) hM hl hs;unfold jq at cu;rw[jr]at cu;refine⟨.tuple [z,.v (.int .i64 ck)],O.set b (.map (cy (M++[(l,z,ck)])) (ck+1)),.tuple #[zv,.int .i64 ck],?wx,G,⟨M++[(l,z,ck)],ck+1,z,ck,rfl,rfl,cu,fun p hp=>?_,⟨_,List.mem_append_right _ (List.mem_singleton.2 rfl),rfl⟩⟩,?rn,Gh.Le.refl G,?wr,?vr⟩
    case wr=>exact hw.sf (ck':=ck+1) hb ee e2 hr
    case rn=>
     simp only[execOp,oo,xQ,Instr.mapEntry,Sem.run_bind,run_underlying hU,Result.andThen_ok,MapKept.run_getObj_map e2,Cx,g1,z1,run_setObj_map _ e2];rfl
    case vr=>exact VR.tuple (us:=[zv,.int .i64 ck]) rfl (aO.cons (z2 G) (aO.cons (.v rfl) aO.nil)).2
    rcases List.mem_append.1 hp with hp | hp
    ·exact .inl hp
    ·rw[List.mem_singleton.1 hp];exact .inr rfl
   ·obtain⟨k1,k2,k3⟩:=hE.keys.2 j p q g2 g4;have c5:=K.law.stays w xc;have I7:q.key=fm l:=by rw[k1,g3]
    have CK:E[j]?=some q:=by simpa using g4
    have qg:((E[j]?).map (·.key)).getD (fm l)=fm l:=by rw[CK];exact I7
    have tQ:((E[j]?).map (fun x=>((x.born:Nat):Int))).getD 0=(p.2.2:Int):=by rw[CK];exact congrArg (fun n:Nat=>(n:Int)) k3
    have aiT:E.modify j (fun x=>{x with key:=fm l})=E:=by
     have hj:=(Array.getElem?_eq_some_iff.1 CK);obtain⟨cY,bf⟩:=hj;apply Array.ext
     ·simp
     ·intro i Q7 jJ;rw[Array.getElem_modify];split
      ·rename_i e;subst e
       rw[bf, <-I7]
      ·rfl
    refine⟨.tuple [p.2.1,.v (.int .i64 p.2.2)],O.set b (.map (cy M) ck),.tuple #[q.val,.int .i64 p.2.2],?wy,G,⟨M,ck,p.2.1,p.2.2,rfl,rfl,hM,fun p hp=>.inl hp,⟨p,List.mem_of_getElem? g2,rfl⟩⟩,?rm,Gh.Le.refl G,?ws,?vs⟩
    case ws=>exact hw.sf (E':=E) (ck':=ck) hb ee e2 hE
    case rm=>
     simp only[execOp,oo,xQ,Instr.mapEntry,Sem.run_bind,run_underlying hU,Result.andThen_ok,MapKept.run_getObj_map e2,Cx,g1,qg,c5,aiT,tQ,run_setObj_map _ e2];rfl
    case vs=>exact VR.tuple (us:=[q.val,.int .i64 p.2.2]) rfl (aO.cons g5 (aO.cons (.v rfl) aO.nil)).2
def Bx (P:Program) (n:Sz) (D:List Deferred) (o:Oper) (e:Env) (O:VH) (Φ :VH->Prop):Prop:=∀G a w,WR G O w->FR G n D e a->∃w' H O', Φ O'/\(execOp a.eval o).run P w= .ok .skip w'/\Gh.Le G H/\WR H O' w'
theorem aI.adR {i:Nat} {o:Oper} {K:Env->VH->Prop} {Φ :VH->Prop} (ho:ops[i]?=some o) (hg:aK ops o e=some true) (hd:bh n o.dst=true) (hy:Bx P n D o e O Φ) (h:∀O', Φ O'->K (aV o.dst cw e) O'):aI P n D ops i e O Q K:=by
 intro G a w hw aS;obtain⟨w',H,O',hΦ,hr,h1,h2⟩:=hy G a w hw aS;simp only[wpOp,ho,bd aS hg,if_true];refine .inl ?_;unfold Oper.wp;rw[hr];exact⟨_,_,H,h1,h2,(aS.mono h1).aV hd jT,h _ hΦ⟩
theorem rY {α β :Type} {f: α -> α} {g: α -> β} (h:∀x,g (f x)=g x) (L:List α) (i:Nat):(L.modify i f).map g=L.map g:=by
 refine List.ext_getElem? fun j=>?_
 rw[List.getElem?_map,List.getElem?_map,List.getElem?_modify];cases L[j]? with
 | none=>rfl
 | some x=>
   simp only[Option.map_some];split
   ·exact congrArg some (h x)
   ·rfl
theorem Nj {α β :Type} {f: α -> α} {g: α -> β} {y: β} (h:∀x,g (f x)=y) (L:List α) (i:Nat):(L.modify i f).map g=(L.map g).set i y:=by
 refine List.ext_getElem? fun j=>?_
 rw[List.getElem?_map,List.getElem?_modify,List.getElem?_set,List.getElem?_map,List.length_map];by_cases e:i=j
 ·subst e;rw[if_pos rfl];by_cases hl:i<L.length
  ·rw[if_pos hl,List.getElem?_eq_getElem hl];simp[h]
  ·rw[if_neg hl,List.getElem?_eq_none (by omega)];rfl
 ·rw[if_neg e];cases L[j]? with
  | none=>rfl
  | some x=>simp[e]
theorem Bx.H7 {d:Option Tmp} {t ty:TypeId} {x y z:Operand} {ps:String} {af:Array Edge} {g:Option (Nat×Bool)} {b ck st N:Nat} {M:fe} (hx:ev e x=some (.map b)) (hb:O.hp b=some (.map (cy M) ck)) (hM:nT N M) (hy:ev e y=some (.v (.int .i64 st))) (hz:ev e z=some m) (hin:∃p∈M,p.2.2=st):
  Bx P n D (.mk d (.entryStore t x y z) ty ps af g) e O fun O'=>∃M',O'=O.set b (.map (cy M') ck)/\nT N M'/\∀p∈M',p∈M\/p.2.1=m:=by
 intro G a w hw hf;have h1:=hf.ev hx;have h2:=hf.ev hy;have h3:=hf.ev hz;generalize oo:a.eval x=u at h1;generalize xQ:a.eval y=v at h2;generalize haz:a.eval z=r at h3;have hv:=h2.iD;subst hv;cases h1 with
 | map ee=>
   rename_i b';obtain⟨b2,E,e1,e2,e3,e4,e5⟩:=hw.map _ _ _ hb;rw[ee]at e1;injection e1 with e1;subst e1
   have hE:gB G (cy M) E.toList:=⟨e3,e4,e5⟩;have hlen:=hE.keys.1;obtain⟨p,hp,hps⟩:=hin;obtain⟨j,hj,ej⟩:=List.mem_iff_getElem.1 hp;have ZD:j<E.toList.length:=by omega
   have ag0:=(hE.keys.2 j p E.toList[j] (by rw[List.getElem?_eq_getElem hj,ej]) (List.getElem?_eq_getElem ZD)).2.2;have ag1:E.toList[j]∈E:=by simp
   obtain⟨i,hi⟩:∃i,E.findIdx? (fun e=>(e.born:Int)==(st:Int))=some i:=by
    have:(E.findIdx? (fun e=>(e.born:Int)==(st:Int))).isSome=true:=by
     rw[Array.findIdx?_isSome];rw[Array.any_eq_true'];exact⟨_,ag1,by rw[ag0,hps];simp⟩
    exact Option.isSome_iff_exists.1 this
   have hr:gB G (cy (M.modify i fun p=>(p.1,m,p.2.2))) (E.modify i fun e=>{e with val:=r}).toList:=by
    rw[Array.toList_modify];refine⟨?_,?_,?_⟩
    ·rw[rY (f:=fun e:MapEntry=>{e with val:=r}) (g:=fun x=>x.born) (fun _=>rfl) E.toList i,e3];unfold cy;rw[List.map_map,List.map_map];exact(rY (f:=fun p:List Bs×MV×Nat=>(p.1,m,p.2.2)) (fun _=>rfl) M i).symm
    ·rw[rY (f:=fun e:MapEntry=>{e with val:=r}) (g:=fun x=>x.key) (fun _=>rfl) E.toList i]
     have:(cy (M.modify i fun p=>(p.1,m,p.2.2))).map (·.1)=(cy M).map (·.1):=by
      unfold cy;rw[List.map_map,List.map_map];exact rY (f:=fun p:List Bs×MV×Nat=>(p.1,m,p.2.2)) (fun _=>rfl) M i
     rw[this];exact e4
    ·rw[Nj (f:=fun e:MapEntry=>{e with val:=r}) (g:=fun x=>x.val) (y:=r) (fun _=>rfl) E.toList i]
     have:(cy (M.modify i fun p=>(p.1,m,p.2.2))).map (·.2.1)=((cy M).map (·.2.1)).set i m:=by
      unfold cy;rw[List.map_map,List.map_map];exact Nj (f:=fun p:List Bs×MV×Nat=>(p.1,m,p.2.2)) (fun _=>rfl) M i
     rw[this];exact e5.set h3
   have aaP:∀p∈M.modify i (fun p=>(p.1,m,p.2.2)),(∃p0∈M,p.1=p0.1/\p.2.2=p0.2.2)/\(p∈M\/p.2.1=m):=fun p hp=>by
    obtain⟨j,hj,ej⟩:=List.mem_iff_getElem.1 hp;have hg:(M.modify i (fun p=>(p.1,m,p.2.2)))[j]?=some p:=by rw[List.getElem?_eq_getElem hj,ej]
    rw[List.getElem?_modify]at hg;cases hm:M[j]? with
    | none=>rw[hm]at hg;cases hg
    | some p0=>
      rw[hm]at hg
      change some _=some p at hg
      injection hg with hg;have H8:=List.mem_of_getElem? hm;split at hg
      ·subst hg;exact⟨⟨p0,H8,rfl,rfl⟩,.inr rfl⟩
      ·subst hg;exact⟨⟨_,H8,rfl,rfl⟩,.inl H8⟩
   refine⟨?wx,G,O.set b (.map (cy (M.modify i fun p=>(p.1,m,p.2.2))) ck),⟨_,rfl,⟨fun p hp=>?_,?_⟩,fun p hp=>(aaP p hp).2⟩,?rn,Gh.Le.refl G,?wr⟩
   case wr=>exact hw.sf (ck':=ck) hb ee e2 hr
   case rn=>
    simp only[execOp,oo,xQ,haz,Instr.entryStore,Sem.run_bind,Result.andThen_ok,MapKept.run_getObj_map e2,asInt,asIntOf,Sem.run_pure,hi,run_setObj_map _ e2]
   ·obtain⟨p0,h1,h2,_⟩:=(aaP p hp).1;rw[h2];exact hM.len p0 h1
   ·have:(M.modify i (fun p=>(p.1,m,p.2.2))).map (·.1)=M.map (·.1):=rY (f:=fun p:List Bs×MV×Nat=>(p.1,m,p.2.2)) (fun _=>rfl) M i;rw[this];exact hM.one
end
theorem aI.Nk {P:Program} {n:Sz} {D:List Deferred} {ops:Array Oper} {e:Env} {O:VH} {Q:VQ} {i:Nat} {op:Op} {ty:TypeId} {ps:String} {af:Array Edge} {g:Option (Nat×Bool)} {K:Env->VH->Prop} {Φ :VH->Prop} (ho:ops[i]?=some (.mk none op ty ps af g)) (hg:aK ops (.mk none op ty ps af g) e=some true) (hy:Bx P n D (.mk none op ty ps af g) e O Φ) (h:∀O', Φ O'->K e O'):aI P n D ops i e O Q K:=
 aI.adR ho hg rfl hy h
theorem ab.st1 {P:Program} {n:Sz} {D:List Deferred} {e:Env} {O:VH} {Q:VQ} {brk:List Nat} {Ψ :Gh->Prop} {J:VH->Prop} {Z:Prop} {fuel i d:Nat} {listed:Array Bool} {l:List Oper} {op:Op} {ty:TypeId} {ps:String} {af:Array Edge} {g:Option (Nat×Bool)} {M:MV->VH->Prop} (hy:fQ P n D (.mk (some d) op ty ps af g) e O M)
  (h:∀m O',M m O'->J O'/\ab P n D ⟨l⟩ brk J Ψ Z fuel (listed.setIfInBounds i true) ((d,m)::e) O' Q) (hr:Region.ready .any ⟨l⟩ listed=[i]:=by kernel_rfl) (ho:l[i]?=some (.mk (some d) op ty ps af g):=by exact rfl) (hg:aK ⟨l⟩ (.mk (some d) op ty ps af g) e=some true:=by exact rfl) (hd:bh n (some d)=true:=by exact rfl):ab P n D ⟨l⟩ brk J Ψ Z (fuel+1) listed e O Q:=ab.st hy h (hr:=hr) (ho:=ho) (hg:=hg) (hd:=hd)
theorem aI.st1 {P:Program} {n:Sz} {D:List Deferred} {e:Env} {O:VH} {Q:VQ} {i d:Nat} {l:List Oper} {op:Op} {ty:TypeId} {ps:String} {af:Array Edge} {g:Option (Nat×Bool)} {M:MV->VH->Prop} {K:Env->VH->Prop} (hy:fQ P n D (.mk (some d) op ty ps af g) e O M)
  (h:∀m O',M m O'->K ((d,m)::e) O') (ho:l[i]?=some (.mk (some d) op ty ps af g):=by exact rfl) (hg:aK ⟨l⟩ (.mk (some d) op ty ps af g) e=some true:=by exact rfl) (hd:bh n (some d)=true:=by exact rfl):aI P n D ⟨l⟩ i e O Q K:=aI.st hy h (ho:=ho) (hg:=hg) (hd:=hd)
theorem GR.less {O:VH} {el:TypeId} {sz B B':Nat} {p:MV} {n:Nat} {L:List MV} (h:GR O el sz B p n L) (hB:B'<=B):GR O el sz B' p n L:=by
 rcases h with h | ⟨k,c,h1,h2,h3,h4⟩
 ·exact .inl h
 ·obtain⟨j,k1,k2,k3⟩:=h4.nP;exact .inr ⟨k,c,h1,h2,h3,⟨h4.cells,⟨j,Nat.le_trans hB k1,k2,k3⟩,Nat.le_trans hB h4.lo,h4.hi⟩⟩
def dj (x:Ky):List Bs:=[x.g,x.a,x.t,x.c]
def Ck (d:Dp):Prop:=d.g.length<=100000/\d.a.length<=100000/\d.v.length<=100000/\d.t.length<=100000/\d.c.length<=100000/\d.x.length<=10000
theorem Nl {d:Dp} (h:Ck d):∀s∈dj (iB d),s.length<=maxLen:=by
 obtain⟨h1,h2,h3,h4,h5,h6⟩:=h;intro s hs;simp only[dj,iB,List.mem_cons,List.not_mem_nil,or_false]at hs;have hm:100000<=maxLen:=by simp[maxLen]
 rcases hs with rfl | rfl | rfl | rfl
 ·omega
 ·omega
 ·split
  ·exact Nat.le_trans (by decide) hm
  ·omega
 ·omega
theorem aaQ (L:List Dp) (tk t2:Tok) (O:VH) (hn:L.length<=10000) (hL:∀d∈L,Ck d):
  VF Tryz.prog 202 [.sl L.length (L.flatMap aQ) tk,.sl 0 [] t2,.func (.func 74) [] []] O (aH fun m O'=>O.Ge O'/\GR O' 63 8 O.next m L.length (L.flatMap aQ)):=by
 have dK:=aJ gd L;refine VF.bL 49 [.tmp 6] Tryz.func202 ?_;refine VC.ag aa (ae @dz ?_);refine VC.ag aa (ae @dz ?_);refine VC.gen ?_;intro O1 e1;have aU:O.Ge O1:=by rw[e1];exact(VH.Ge.refl O).push _
 have du:O1.next=O.next+1:=by rw[e1];rfl
 have Rb:O1.hp O.next=some (.map (cy []) 0):=by rw[e1];exact VH.aX _ _
 clear e1;refine VC.bu [0,1,2,7] (fun _:Unit=>[.sl L.length (L.flatMap aQ) tk,.sl 0 [] t2,.func (.func 74) [] [],.map O.next]) (fun _ O'=>O.Ge O'/\O.next+1<=O'.next) ?_ ?_
 ·refine VC.ag aa (ae @dz ?_);refine VC.az ?_;refine VC.bq [16] [0,1,2,7,14,15] (fun j:Nat=>[mi j]) (fun j O'=>O.Ge O'/\O.next+1<=O'.next/\j<=L.length/\∃M ck,O'.hp O.next=some (.map (cy M) ck)/\Cnt 4 M j) (fun j=>L.length - j) (0) ?_ ?_
  ·exact⟨aU,by omega,Nat.zero_le _,[],0,Rb,⟨by simp,by simp⟩,by simp⟩
  rintro j O3 ⟨aL,iH,hj,M,ck,hm3,hM⟩;by_cases bf:j<L.length;rotate_left
  ·obtain rfl:j=L.length:=by omega
   refine WC.sound aa (ae @dz ?_);exact aA.mk () ⟨aL,iH⟩
  have br:=bB gd L j bf;have kU:=Nl (hL L[j] (List.getElem_mem bf));have CL:=Jz L[j];generalize L[j]=d at*;have hkm:f_ (iB d)=(dj (iB d)).map .str:=rfl;have jl:(dj (iB d)).length=4:=rfl;generalize dj (iB d)=kl at*;rw[hkm]at CL;obtain⟨dg,da,dv,dt,dc,kB,dO,dx⟩:=d;simp only[aQ,ar]at br CL;have cY:((j:Int)+1)=((j+1:Nat):Int):=by omega
  refine VC.ag aa (ae @dz ?_);refine VC.ag aa (ae @dz ?_);refine VC.bj (VC.az ?_);refine VC.ag aa (ao @dz @br ?_);refine VC.al ?_;rintro O4 ⟨aZ,iy,ib⟩;have Rc:=aZ.at hm3;refine VC.sJ [] (fun O'=>True) (trivial) ?_;refine ab.aw 0 ?_;refine ae @dz ?_;refine ab.aw 1 ?_;refine ae @dz ?_;refine ab.op (i:=2) ?_;refine ao @dz @iy ?_;refine ab.pM (i:=3) (CL O4) ?_ ?_;rotate_left
  ·rintro m O5 h;exact h.elim
  rintro _ O5 ⟨rfl,bz⟩;simp only[aj];refine⟨trivial,?_⟩;have CM:=bz.at Rc
  obtain⟨x,hx,hx0,hxj⟩:∃x:Int,xR false (mi 0) (iZ kl M)=mi x/\0<=x/\x<=j:=by
   cases gn:iZ kl M with
   | none=>exact⟨0,rfl,by omega,by omega⟩
   | some m=>
     unfold iZ at gn;obtain⟨p,nv,rfl⟩:=Option.map_eq_some_iff.1 gn;obtain⟨x,k1,k2,k3⟩:=hM.int p (List.mem_of_find?_eq_some nv);exact⟨x,k1,k2,k3⟩
  simp only[ar]at hx;refine ab.pair (i:=4) (j:=6) ?_ ?_
  ·refine aI.q_ (fH.ly qX aa (l:=kl) (te:=⟨_,1,8,[.v (.int .i64 0)]⟩) Tryz.underlying75 T3 rfl rfl CM hM.ok rfl jl kU) ?_;rw[hx];refine⟨trivial,?_⟩;refine ab.aw 5 ?_;refine ae @dz ?_;refine ab.st1 (i:=6) (fQ.S7 qX aa (l:=kl) (te:=⟨_,1,8,[.v (.int .i64 0)]⟩) Tryz.underlying75 T3 rfl rfl CM hM.ok rfl jl kU) ?_;rintro m O6 ⟨M1,ck1,v1,st,rfl,e6,S8,aaR,aaS⟩;refine⟨trivial,?_⟩;have WK:O6.hp O.next=some (.map (cy M1) ck1):=by rw[e6];exact VH.an _ _ _
   have Nn:O.Ge O6:=by rw[e6];exact((aL.trans aZ).trans bz).set (Nat.le_refl _) _
   have lS:O.next+1<=O6.next:=by rw[e6];show O.next+1<=O5.next;have:=bz.next;omega
   have Re:∀p∈M1,∃y:Int,p.2.1=mi y/\0<=y/\y<=j:=fun p hp=>by
    rcases aaR p hp with hp | hp
    ·exact hM.int p hp
    ·exact⟨0,hp,by omega,by omega⟩
   refine ab.aw 7 ?_;refine ae @dz ?_;refine ab.one (i:=8) (aI.Nk rfl rfl (Bx.H7 rfl WK S8 rfl rfl aaS) ?_);rintro O7 ⟨M2,e7,aaT,aaU⟩;refine⟨trivial,?_⟩;refine ab.bH [] ?_;refine ae @dz ?_;refine WC.sound aa (ao @dz @cY ?_);refine ay.next (j+1) ⟨?_,?_,bf,M2,_,by rw[e7];exact VH.an _ _ _,aaT,fun p hp=>?_⟩
   ·rw[e7];exact Nn.set (Nat.le_refl _) _
   ·rw[e7];show O.next+1<=(O6).next;omega
   ·rcases aaU p hp with hp | hp
    ·obtain⟨y,k1,k2,k3⟩:=Re p hp;exact⟨y,k1,k2,by push_cast;omega⟩
    ·exact⟨_,hp,by omega,by push_cast;omega⟩
  ·refine aI.st1 (fQ.S7 qX aa (l:=kl) (te:=⟨_,1,8,[.v (.int .i64 0)]⟩) Tryz.underlying75 T3 rfl rfl CM hM.ok rfl jl kU) ?_;rintro m O6 ⟨M1,ck1,v1,st,rfl,e6,S8,aaR,aaS⟩;refine⟨trivial,?_⟩;have WK:O6.hp O.next=some (.map (cy M1) ck1):=by rw[e6];exact VH.an _ _ _
   have Nn:O.Ge O6:=by rw[e6];exact((aL.trans aZ).trans bz).set (Nat.le_refl _) _
   have lS:O.next+1<=O6.next:=by rw[e6];show O.next+1<=O5.next;have:=bz.next;omega
   have Re:∀p∈M1,∃y:Int,p.2.1=mi y/\0<=y/\y<=j:=fun p hp=>by
    rcases aaR p hp with hp | hp
    ·exact hM.int p hp
    ·exact⟨0,hp,by omega,by omega⟩
   refine ab.aw 7 ?_;refine ae @dz ?_;clear hx hx0 hxj
   obtain⟨x,hx,hx0,hxj⟩:∃x:Int,xR false (mi 0) (iZ kl M1)=mi x/\0<=x/\x<=j:=by
    cases gn:iZ kl M1 with
    | none=>exact⟨0,rfl,by omega,by omega⟩
    | some m=>
      unfold iZ at gn;obtain⟨p,nv,rfl⟩:=Option.map_eq_some_iff.1 gn;obtain⟨x,k1,k2,k3⟩:=Re p (List.mem_of_find?_eq_some nv);exact⟨x,k1,k2,k3⟩
   simp only[ar]at hx;refine ab.one (i:=4) (aI.q_ (fH.ly qX aa (l:=kl) (te:=⟨_,1,8,[.v (.int .i64 0)]⟩) Tryz.underlying75 T3 rfl rfl WK S8 rfl jl kU) ?_);rw[hx];refine⟨trivial,?_⟩;refine ab.aw 5 ?_;refine ae @dz ?_;refine ab.one (i:=8) (aI.Nk rfl rfl (Bx.H7 rfl WK S8 rfl rfl aaS) ?_);rintro O7 ⟨M2,e7,aaT,aaU⟩;refine⟨trivial,?_⟩;refine ab.bH [] ?_;refine ae @dz ?_;refine WC.sound aa (ao @dz @cY ?_);refine ay.next (j+1) ⟨?_,?_,bf,M2,_,by rw[e7];exact VH.an _ _ _,aaT,fun p hp=>?_⟩
   ·rw[e7];exact Nn.set (Nat.le_refl _) _
   ·rw[e7];show O.next+1<=(O6).next;omega
   ·rcases aaU p hp with hp | hp
    ·obtain⟨y,k1,k2,k3⟩:=Re p hp;exact⟨y,k1,k2,by push_cast;omega⟩
    ·exact⟨_,hp,by omega,by push_cast;omega⟩
 intro _ O3 ⟨aL,iH⟩;refine VC.ag aa (ae @dz ?_);refine ah.rt (E7 L tk O3 (by omega)) ?_;rintro mL O4 ⟨aZ,wS⟩;refine ae @dz ?_;refine VC.bu [10] (fun _:Unit=>[mL]) (fun _ O'=>O'=O4) ?_ ?_
 ·refine VC.ag aa (ae @dz ?_);refine VC.az ?_;refine VC.bq [10,33] [2,7,31,32] (fun _:Unit=>[mL,mi 0]) (fun _ O'=>O'=O4) (fun _=>0) (()) ?_ ?_
  ·rfl
  rintro _ O5 e5;rw[e5];clear e5 O5
  refine WC.sound aa (ae @dz ?_);exact aA.mk () rfl
 rintro _ O5 e5;rw[e5];clear e5 O5
 refine WC.sound aa (ae @dz ?_);exact⟨aL.trans aZ,GR.less wS (by omega)⟩
theorem aaV (L:List Dp) (tk t2:Tok) (O:VH) (hn:L.length<=10000) (hL:∀d∈L,Ck d):
  VF Tryz.prog 173 [.sl L.length (L.flatMap aQ) tk,.sl 0 [] t2] O (aH fun m O'=>∃t,m= .sl L.length (L.flatMap aQ) t/\O.Ge O'):=by
 have dK:=aJ gd L;refine VF.bL 27 [.tmp 4] Tryz.func173 ?_;refine VC.ag aa (ae @dz ?_);refine VC.ag aa (ae @dz ?_);refine ah.rt (aaQ L tk t2 O hn hL) ?_;rintro mL O2 ⟨aC,wS⟩;rcases wS with⟨h0,_,hp⟩ | ⟨k,c,rfl,zF,_,cH⟩
 ·obtain rfl:L=[]:=List.eq_nil_of_length_eq_zero h0;rcases hp with rfl | rfl
  ·refine ae @dz ?_;refine VC.bu [5] (fun _:Unit=>[.sl 0 [] .nil]) (fun _ O'=>O'=O2) ?_ ?_
   ·refine VC.ag aa (ae @dz ?_);refine VC.az ?_;refine VC.bq [12] [5,11] (fun j:Nat=>[mi 0]) (fun j O'=>O'=O2) (fun j=>0) (0) ?_ ?_
    ·rfl
    rintro j O3 eO;rw[eO];clear eO O3
    refine WC.sound aa (ae @dz ?_);exact aA.mk () rfl
   intro _ O9 eO;rw[eO];clear eO O9
   refine WC.sound aa (ae @dz ?_);exact⟨_,rfl,aC⟩
  ·refine ae @dz ?_;refine VC.bu [5] (fun _:Unit=>[.sl 0 [] .full]) (fun _ O'=>O'=O2) ?_ ?_
   ·refine VC.ag aa (ae @dz ?_);refine VC.az ?_;refine VC.bq [12] [5,11] (fun j:Nat=>[mi 0]) (fun j O'=>O'=O2) (fun j=>0) (0) ?_ ?_
    ·rfl
    rintro j O3 eO;rw[eO];clear eO O3
    refine WC.sound aa (ae @dz ?_);exact aA.mk () rfl
   intro _ O9 eO;rw[eO];clear eO O9
   refine WC.sound aa (ae @dz ?_);exact⟨_,rfl,aC⟩
 obtain⟨sp,hc,gN⟩:=cH.cells;have kU:=cH.lo;have QR:=cH.hi;refine ae @dz ?_;refine VC.bu [5] (fun _:Unit=>[.bm k 0 L.length c]) (fun _ O'=>O2.Ge O') ?_ ?_
 ·refine VC.ag aa (ae @dz ?_);refine VC.az ?_;refine VC.bq [12] [5,11] (fun j:Nat=>[mi j]) (fun j O'=>O2.Ge O'/\j<=L.length) (fun j=>L.length - j) (0) ?_ ?_
  ·exact⟨VH.Ge.refl _,Nat.zero_le _⟩
  rintro j O3 ⟨aL,hj⟩;by_cases bf:j<L.length;rotate_left
  ·obtain rfl:j=L.length:=by omega
   refine WC.sound aa (ae @dz ?_);exact aA.mk () aL
  have eR:=(aL.hp k QR).trans hc;have br:(L.flatMap aQ++sp)[j*8+7]?=some (.sl L[j].x.length (L[j].x.flatMap bP) .au):=gy gd (List.getElem?_eq_getElem bf) rfl;have hxj:=(hL L[j] (List.getElem_mem bf)).2.2.2.2.2;generalize L[j].x=X at*;generalize L.flatMap aQ++sp=C at*;have mr:=wD br;have Jf:=(List.getElem?_eq_some_iff.1 br).1;have cY:((j:Int)+1)=((j+1:Nat):Int):=by omega
  refine VC.ag aa (ae @dz ?_);refine VC.ag aa (ae @dz ?_);refine VC.bj (VC.az ?_);refine VC.ag aa (ae @dz ?_);refine WC.sound aa (aN @dz @eR @br ?_);refine ah.rt (sN X .au O3 (by omega)) ?_;rintro _ O4 ⟨rfl,aZ⟩;have ff:=(aZ.hp k (by have:=aL.next;omega)).trans eR;refine cU @dz @ff @br @mr ?_;rw[VH.vN ff];refine WC.sound aa (ao @dz @cY ?_);exact ay.next (j+1) ⟨aL.trans aZ,bf⟩
 intro _ O9 bk;have Jv:=(bk.hp k QR).trans hc;refine VC.freeze 5 (sz:=L.length*8) rfl Jv (by rw[List.length_append,dK];omega) ?_;have fl:((L.flatMap aQ++sp).drop 0).take (L.length*8)=L.flatMap aQ:=by rw[List.drop_zero,List.take_append_of_le_length (by rw[dK];exact Nat.le_refl _), <-dK,List.take_length]
 rw[fl];have rW:=aC.trans bk;have fq:O.Ge (O9.kill k):=⟨rW.next,fun i hi=>(VH.kA _ (by omega)).trans (rW.hp i hi)⟩;refine WC.sound aa (ae @dz ?_);exact⟨_,rfl,fq⟩
theorem H9 (L:List Dp) (tk t2:Tok) (O:VH) (hn:L.length<=10000) (hL:∀d∈L,Ck d):
  VF Tryz.prog 173 [.sl L.length (L.flatMap aQ) tk,.sl 0 [] t2] O (aH fun m O'=>m= .sl L.length (L.flatMap aQ) .au/\O.Ge O'):=
 VF.Wn (aaV L tk t2 O hn hL) fun m O' ⟨t,h1,h3⟩=>⟨_,h1▸Wk.tok,rfl,h3⟩
set_option linter.defProp false in
def jg:=And.intro dz<|And.intro zQ<|And.intro B7<|And.intro aeV T9
theorem ag2 (x:Bs×Bs) (k:Nat) (nm:Bs) (O:VH) (hk:O.hp k=some (.cells [.str nm])) (xJ:k<O.next):VF Tryz.prog 228 ([.agg (a_ x)]++[.ptr k 0]) O (aH fun m O'=>m=mb (x.1==nm)/\O.Ge O'):=by
 obtain⟨x1,x2⟩:=x;unfold a_;simp only[List.cons_append,List.nil_append];refine VF.bL 8 [.tmp 3] Tryz.func228 ?_;refine VC.ag aa (ae @jg ?_);refine VC.bx ?_;rintro O1 ⟨aU,fK,du⟩;have dN:=(aU.hp k xJ).trans hk;refine WC.sound aa (aN @jg @fK @dN ?_);exact aU
theorem ag3 (L:List (Bs×Bs)) (tk:Tok) (nm:Bs) (O:VH) (hn:L.length<=1000000):VF Tryz.prog 203 [.sl L.length (L.flatMap a_) tk,.str nm] O (aH fun m O'=>m=mi (idxFrom (fun x=>x.1==nm) 0 L)/\O.Ge O'):=by
 refine VF.bL 8 [.tmp 4] Tryz.func203 ?_;refine VC.ag aa (ae @jg ?_);refine VC.bx ?_;rintro O1 ⟨aU,fK,du⟩;refine VC.ag aa (ae @jg ?_);refine ah.rt (SL L tk 228 [.ptr O.next 0] (fun x=>x.1==nm) O1 (by kernel_rfl) (fun q _ O' Jk=>ag2 q _ nm O' (Jk.at fK) (by have:=Jk.next;omega)) hn) ?_;rintro _ O2 ⟨rfl,aC⟩;refine ae @jg ?_;refine WC.sound aa (ae @jg ?_);exact aU.trans aC
theorem H_ {α :Type} (p: α ->Bool):∀(L:List α) (i:Nat),(∀x∈L,p x=false)->idxFrom p i L= -1
 | [],i,_=>rfl
 | x::r,i,h=>by
   rw[idxFrom,h x (by simp)];exact H_ p r (i+1) fun y hy=>h y (List.mem_cons_of_mem _ hy)
theorem adS (L:List (Bs×Bs)) (tk:Tok) (nm vl:Bs) (O:VH) (hn:L.length<=10000) (fF:∀x∈L,x.1≠nm):VF Tryz.prog 174 [.sl L.length (L.flatMap a_) tk,.str nm,.str vl] O (aH fun m O'=>(∃t,m= .sl (L++[(nm,vl)]).length ((L++[(nm,vl)]).flatMap a_) t)/\O.Ge O'):=by
 have aiU:idxFrom (fun x:Bs×Bs=>x.1==nm) 0 L= -1:=H_ _ L 0 fun x hx=>by rw[beq_eq_false_iff_ne];exact fF x hx
 refine VF.bL 28 [.tmp 6] Tryz.func174 ?_;refine VC.ag aa (ae @jg ?_);refine VC.ag aa (ae @jg ?_);refine ah.rt (Bi L tk O (by omega)) ?_;rintro _ O2 ⟨t2,rfl,cB,aC⟩;refine ae @jg ?_;refine VC.ag aa (ae @jg ?_);refine ah.rt (ag3 L t2 nm O2 (by omega)) ?_;rintro _ O3 ⟨rfl,aL⟩;rw[aiU];have mg:=cB.ge aL;refine ae @jg ?_;obtain⟨mE,gj,kS⟩:=fS (n:=L.length) (cs:=L.flatMap a_) (ds:=[.str nm,.str vl]) (es:=a_ (nm,vl)) zQ B7.1.1 mg (aJ eZ L) rfl rfl (by decide) (by omega) (by simp only[maxLen];omega) (fT L) (by simp only[a_,wu]);refine VC.ag aa (ae @jg ?_);refine VL.k_ gj kS ?_;refine ae @jg ?_;refine WC.sound aa (ae @jg ?_);refine⟨⟨.own O3.next 2,by rw[List.length_append,List.flatMap_append];rfl⟩,cA.dS (aC.trans aL) mg (cA.after mg)⟩
theorem S9 (L M:List (Bs×Bs)) (tk tM:Tok) (O:VH) (hn:L.length+M.length<=10000) (fF:∀x∈L,∀y∈M,x.1≠y.1) (hM:M.Pairwise fun x y=>x.1≠y.1):VF Tryz.prog 146 [.sl L.length (L.flatMap a_) tk,.sl M.length (M.flatMap a_) tM] O (aH fun m O'=>(∃t,m= .sl (L++M).length ((L++M).flatMap a_) t)/\O.Ge O'):=by
 have hpm:=aJ eZ M;refine VF.bL 24 [.tmp 4] Tryz.func146 ?_;refine VC.ag aa (ae @jg ?_);refine VC.ag aa (ae @jg ?_);refine ah.rt (Bi L tk O (by omega)) ?_;rintro _ O2 ⟨t2,rfl,cB,aC⟩;refine ae @jg ?_;refine VC.join aa [5] (fun t:Tok=>[.sl (L++M).length ((L++M).flatMap a_) t]) (fun t O'=>O.Ge O') ?_ ?_;rotate_left
 ·intro t O9 bk;refine ae @jg ?_;exact⟨⟨t,rfl⟩,bk⟩
 refine VC.ag aa (ae @jg ?_);refine VC.az ?_;refine VC.bq [5,12] [10,11] (fun x:Nat×List (Bs×Bs)×Tok=>[.sl x.2.1.length (x.2.1.flatMap a_) x.2.2,mi x.1]) (fun x O'=>O.Ge O'/\x.1<=M.length/\x.2.1=L++M.take x.1) (fun x=>M.length - x.1) ((0,L,t2)) ?_ ?_
 ·exact⟨aC,Nat.zero_le _,by simp⟩
 rintro⟨j,LM,t⟩ O3 ⟨aL,hj,JA⟩;dsimp only at hj JA ⊢;by_cases bf:j<M.length;rotate_left
 ·obtain rfl:j=M.length:=by omega
  rw[List.take_length]at JA;subst JA;refine WC.sound aa (ae @jg ?_);exact aA.mk t aL
 have br:=bB eZ M j bf;have i_:L++M.take (j+1)=(L++M.take j)++[M[j]]:=by rw[cQ _ _ bf,List.append_assoc]
 have hnw:∀x∈L++M.take j,x.1≠M[j].1:=fun x hx=>by
  rcases List.mem_append.1 hx with hx | hx
  ·exact fF x hx _ (List.getElem_mem bf)
  ·obtain⟨i,hi,rfl⟩:=List.mem_iff_getElem.1 hx;rw[List.length_take]at hi;rw[List.getElem_take];exact(List.pairwise_iff_getElem.1 hM) i j (by omega) bf (by omega)
 have hlen:(L++M.take j).length<=10000:=by rw[List.length_append,List.length_take];omega
 rw[<-JA]at i_ hnw hlen;generalize M[j]=y at*;obtain⟨yn,yv⟩:=y;simp only[a_]at br;have cY:((j:Int)+1)=((j+1:Nat):Int):=by omega
 refine VC.ag aa (ae @jg ?_);refine VC.ag aa (ae @jg ?_);refine VC.bj (VC.az ?_);refine VC.ag aa (ao @jg @br ?_);refine VC.al ?_;rintro O4 ⟨aZ,jl,ib⟩;refine WC.sound aa (ao @jg @jl ?_);refine ah.rt (adS LM t yn yv O4 (by omega) hnw) ?_;rintro _ O5 ⟨⟨t5,rfl⟩,bz⟩;refine ae @jg ?_;refine WC.sound aa (ao @jg @cY ?_);exact ay.next (j+1,LM++[(yn,yv)],t5) ⟨(aL.trans aZ).trans bz,bf,i_.symm⟩
set_option linter.defProp false in
def bR:=And.intro jg<|And.intro kc<|And.intro LX<|And.intro aeT<|And.intro xe<|And.intro AY<|And.intro uO<|And.intro T71 T4
theorem m7.ge {O O':VH} {k ke kv ce cv:Nat} {L:List (Gv×Bs×Option Pm)} {E V:fe} {r a:Int} (h:m7 O k L E V ke kv ce cv r a) (g:O.Ge O'):m7 O' k L E V ke kv ce cv r a:=
 ⟨h.st.ge g,h.len,fun i x t o hi=>by obtain⟨q,c,h1,h2,h3⟩:=h.Jy i x t o hi;exact⟨q,c,h1,Nat.lt_of_lt_of_le h2 g.next,(g.hp _ h2).trans h3⟩,h.dis,h.ver.ge g⟩
structure PmC (p:Pm):Prop where
 ok:aaK p
 hp:p.hp=false
 eg:∀d∈p.eg,Ck d
 dX:∀d∈p.dX,Ck d
 props:p.props.Pairwise fun x y=>x.1≠y.1
theorem aaW (p:Pm) (O:VH) (hc:PmC p):VF Tryz.prog 145 [.agg (gh p),.agg eS] O (aH fun m O'=>m= .agg (gh p)/\O.Ge O'):=by
 refine VF.fg ?_;obtain⟨cu,nw,afi,aaX,S_⟩:=hc;obtain⟨k1,k2,k3,k4,k5⟩:=cu;obtain⟨b,⟨pg,pa,pv⟩,g,a,v,pk,P,M,D⟩:=p;dsimp only at nw k1 k2 k3 k4 k5 afi aaX S_;subst nw;simp only[gh,aY];refine VF.bL 48 [.cell 4 106] Tryz.func145 ?_;refine VC.ag aa (ae @bR ?_);refine VC.gen ?_;intro O1 e1;obtain⟨aU,du,cC,ct,gm⟩:=lT _ _ _ e1;clear e1;refine VC.ag aa (ao @bR @cC ?_);refine VC.al ?_;rintro O2 ⟨aC,bt,jB⟩;have iS:=aC.at cC;have bZ:=aC.at ct;have jj:=aC.at gm;have gE:=aU.trans aC;clear aU aC cC ct gm;refine VC.ag aa (ao @bR @bt ?_);refine VC.ag aa (ao @bR @bt ?_);refine VC.ag aa (aN @bR @iS @bZ ?_);refine ah.rt (S9 [] P .nil .au O2 (by simp;omega) (by simp) S_) ?_;rintro _ O3 ⟨⟨t3,rfl⟩,aL⟩;rw[List.nil_append];have tX:=aL.at iS;have cc:=aL.at bZ;have eR:=aL.at jj;have dB:=aL.at bt;have iH:=aL.next;refine ao @bR @dB ?_;refine VC.gen ?_;intro O4 e4;have ra:∀i,i≠O1.next->O4.hp i=O3.hp i:=fun i hi=>by rw[e4];exact VH.ak _ _ hi
 have lU:=(ra _ (by omega)).trans tX;have cL:=(ra _ (by omega)).trans cc;have ff:=(ra _ (by omega)).trans eR;have jl:O4.hp O1.next=some (.cells [.v (.bool false),.str pg,.str pa,.str pv,.str g,.str a,.str v,.str pk,.sl P.length (P.flatMap a_) t3,.sl M.length (M.flatMap aQ) .au,.sl D.length (D.flatMap aQ) .au]):=by rw[e4];exact VH.an _ _ _
 have ib:O4.next=O3.next:=by rw[e4];rfl
 have gZ:O.Ge O4:=by rw[e4];exact(gE.trans aL).set (by omega) _
 clear e4 ra tX cc eR dB iS bZ jj bt;refine VC.bj ?_;refine VC.C0 [11,12,13] (O.next) (O.next+1) (lU) (cL) ?_ (hne:=(by omega));intro X1 X2;refine ab.aw 0 ?_;refine ae @bR ?_;refine ab.pP (m:=.sl M.length (M.flatMap aQ) .au) 1 (fun _ h=>h.1) (fun _ h=>h.1) ?_ ?_
 ·exact fp @bR
 simp only[aj];refine ab.aw 2 ?_;refine ae @bR ?_;refine ab.pP (m:=.sl 0 [] .nil) 3 (fun _ h=>h.2) (fun _ h=>h.2) ?_ ?_
 ·exact fp @bR
 simp only[aj];refine ab.aw 5 ?_;refine ae @bR ?_;refine ab.pP (m:=.sl D.length (D.flatMap aQ) .au) 6 (fun _ h=>h.1) (fun _ h=>h.1) ?_ ?_
 ·exact fp @bR
 simp only[aj];refine ab.aw 7 ?_;refine ae @bR ?_;refine ab.pP (m:=.sl 0 [] .nil) 8 (fun _ h=>h.2) (fun _ h=>h.2) ?_ ?_
 ·exact fp @bR
 simp only[aj];have hJ:Ms O.next (O.next+1) X1 X2 ((O4.set O.next (.obj X1)).set (O.next+1) (.obj X2)):=⟨VH.sn (VH.an _ _ _),VH.an _ _ _⟩;have fJ:=(VH.ak (O4.set O.next (.obj X1)) (.obj X2) (by omega:O1.next≠O.next+1)).trans ((VH.ak O4 (.obj X1) (by omega:O1.next≠O.next)).trans jl);have fA:=(VH.ak (O4.set O.next (.obj X1)) (.obj X2) (by omega:O.next+2≠O.next+1)).trans ((VH.ak O4 (.obj X1) (by omega:O.next+2≠O.next)).trans ff);have gD:((O4.set O.next (.obj X1)).set (O.next+1) (.obj X2)).next=O4.next:=rfl;have bz:O.Ge ((O4.set O.next (.obj X1)).set (O.next+1) (.obj X2)):=(gZ.set (by omega) _).set (by omega) _;generalize (O4.set O.next (.obj X1)).set (O.next+1) (.obj X2)=O5 at*;refine ab.call (i:=4) (H9 M .au .nil O5 k2 afi) ?_;rintro _ O6 ⟨rfl,dL⟩;simp only[aj];refine⟨⟨dL.at hJ.1,dL.at hJ.2⟩,?_⟩;refine ab.aw 10 ?_;refine ae @bR ?_;refine ab.call (i:=9) (H9 D .au .nil O6 k3 aaX) ?_;rintro _ O7 ⟨rfl,dM⟩;simp only[aj];have qB:=dL.trans dM;refine⟨⟨qB.at hJ.1,qB.at hJ.2⟩,?_⟩;have tT:=qB.at fJ;have hc7:=qB.at fA;refine ab.wm [(11,.one),(12,.aw),(13,.one)] ?_ (hne:=(by omega));have tZ:=(VH.ak (O7.set O.next (.cells [.v (.bool false),.str pg,.str pa,.str pv,.str g,.str a,.str v,.str pk,.sl P.length (P.flatMap a_) .au,.sl M.length (M.flatMap aQ) .au,.sl D.length (D.flatMap aQ) .au])) (.cells eS) (by omega:O1.next≠O.next+1)).trans ((VH.ak O7 (.cells [.v (.bool false),.str pg,.str pa,.str pv,.str g,.str a,.str v,.str pk,.sl P.length (P.flatMap a_) .au,.sl M.length (M.flatMap aQ) .au,.sl D.length (D.flatMap aQ) .au]) (by omega:O1.next≠O.next)).trans tT);refine ao @bR @tT ?_;refine VC.gen ?_;intro O8 e8;have gY:O.Ge O8:=by rw[e8];exact((((bz.trans qB).set (by omega) _).set (by omega) _).set (by omega) _).set (by omega) _
 have hk9:O8.hp O1.next=some (.cells [.v (.bool false),.str pg,.str pa,.str pv,.str g,.str a,.str v,.str pk,.sl P.length (P.flatMap a_) t3,.sl M.length (M.flatMap aQ) .au,.sl D.length (D.flatMap aQ) .au]):=by rw[e8];exact VH.an _ _ _
 have Jv:O8.hp (O.next+2)=some (.cells eS):=by rw[e8,VH.ak _ _ (by omega),VH.ak _ _ (by omega),VH.ak _ _ (by omega),VH.ak _ _ (by omega)];exact hc7
 clear e8;have No:O.next+1+1=O.next+2:=by omega
 rw[No];refine VC.ag aa (aN @bR @hk9 @Jv ?_);refine WC.sound aa (ae @bR ?_)
 first
  | exact gY.set (by omega) _
  | exact⟨by simp only[wu,fT,kQ],gY.set (by omega) _⟩
theorem adT {O:VH} {k ke kv ce cv:Nat} {L:List (Gv×Bs×Option Pm)} {E V:fe} {r a:Int} (h:m7 O k L E V ke kv ce cv r a) {i:Nat} {g:Gv} {t:Bs} {n:Nd} {p:Pm} (hi:L[i]?=some (g,t,none)) (hg:sO g) (ht:t.length<=65536) (hb:gX t= .ok n) (hr:ox n= .ok p) (hc:PmC p):
  VF Tryz.prog 144 [.ptr k 0,.agg (bN g)] O (aH fun m O'=>(∃t1 t2,m= .tuple [.sl 1 (gh p) t1,.sl 1 (bN g) t2,.agg (oW iN)])/\∃q,iZ (eu g) E=some (.ptr q 0)/\q<O.next/\(∃r' a',O'.hp k=some (.cells [.map ke,.map kv,mi r',mi a']))/\O'.hp q=some (.cells (iP t 1 0 p iN))/\c7 O k q O'):=by
 obtain⟨q,c,gn,pH,hq,_⟩:=h.some hi;have CN:=fun(O':VH) (g':O.Ge O')=>agY (h.st.ge g') g hg gn ((g'.hp q pH).trans hq) (Nat.lt_of_lt_of_le pH g'.next) ht hb hr hc.ok
 have kU:=h.st.lt.1;have nw:=hc.hp;have akk:=hc.ok;clear hi hq h hc hb hr;have hpu:=VG p;obtain⟨g1,g2,g3⟩:=g;obtain⟨b,⟨pg,pa,pv⟩,pG,pA,pV,pk,P,M,D⟩:=p;dsimp only at nw;subst nw;simp only[bN,gh,oW,iN,aY,ar]at CN hpu ⊢;refine VF.bL 51 [.tmp 4,.tmp 5,.cell 6 71] Tryz.func144 ?_;refine VC.ag aa (ae @bR ?_);refine VC.gen ?_;intro O1 e1;obtain⟨aU,du,cC,ct⟩:=gJ _ _ e1;clear e1;refine VC.ag aa (ae @bR ?_);refine VC.ag aa (ae @bR ?_);refine VC.az ?_;refine VC.bq [7,8] [0,3,6] (fun _:Unit=>[.sl 0 [] .nil,.sl 0 [] .nil]) (fun _ O'=>O'=O1) (fun _=>0) (()) ?_ ?_
 ·rfl
 rintro _ O2 e2;rw[e2];clear e2 O2
 refine VC.az ?_;refine VC.ag aa (ao @bR @cC ?_);refine ah.rt (CN O1 aU) ?_;rintro _ O2 ⟨rfl,⟨r',a',bt⟩,yj,cZ⟩;have jB:=cZ.next;have iS:=(cZ.hp _ (by omega) (by omega) (by omega)).trans cC;have bZ:=(cZ.hp _ (by omega) (by omega) (by omega)).trans ct;have Np:=(c7.of (k:=k) (q:=q) aU).trans cZ;refine ae @bR ?_;refine VC.gen ?_;intro O3 e3;have aL:O2.Ge O3:=by rw[e3];exact((((VH.Ge.refl O2).push _).push _).set (Nat.le_refl _) _).set (Nat.le_succ _) _
 have oy:O3.hp O2.next=some (.cells [.v (.bool false),.str pg,.str pa,.str pv,.str pG,.str pA,.str pV,.str pk,.sl P.length (P.flatMap a_) .au,.sl M.length (M.flatMap aQ) .au,.sl D.length (D.flatMap aQ) .au]):=by rw[e3,VH.ak _ _ (by omega)];exact VH.an _ _ _
 have kV:O3.hp (O2.next+1)=some (.cells [.v (.int .i64 0),.str [],.str [],.str [],.v (.int .i64 0),.v (.int .i64 0),.v (.int .i64 0),.str []]):=by rw[e3];exact VH.an _ _ _
 have iH:O3.next=O2.next+2:=by rw[e3];rfl
 clear e3;have tX:=aL.at iS;have cc:=aL.at bZ;have dB:=aL.at bt;have vt:=aL.at yj;have cK:=Np.ge aL;clear iS bZ bt yj Np cZ cC ct;refine VC.ag aa (ao @bR @kV ?_);refine VL.su aa (bb:=false) (b:=true) (by simp) (by simp[gT]) (.inr ⟨rfl,rfl⟩) (by kernel_rfl) (by kernel_rfl) rfl rfl rfl rfl ?_;refine ae @bR ?_;refine VC.bj ?_;refine VC.C0 [] (O2.next) (O.next) (oy) (tX) ?_ (hne:=(by omega));intro X1 X2;refine ab.aw 0 ?_;refine ae @bR ?_;refine ab.pP (m:=.agg [.v (.bool false),.str pg,.str pa,.str pv,.str pG,.str pA,.str pV,.str pk,.sl P.length (P.flatMap a_) .au,.sl M.length (M.flatMap aQ) .au,.sl D.length (D.flatMap aQ) .au]) 1 (fun _ h=>h.1) (fun _ h=>h.1) ?_ ?_
 ·exact fp @bR
 simp only[aj];refine ab.aw 4 ?_;refine ae @bR ?_;refine ab.pP (m:=.agg [.str g1,.str g2,.str g3]) 5 (fun _ h=>h.2) (fun _ h=>h.2) ?_ ?_
 ·exact fp @bR
 simp only[aj];have mq:True:=trivial;have hJ:Ms O2.next O.next X1 X2 ((O3.set O2.next (.obj X1)).set O.next (.obj X2)):=⟨VH.sn (VH.an _ _ _),VH.an _ _ _⟩;have gD:((O3.set O2.next (.obj X1)).set O.next (.obj X2)).next=O3.next:=rfl;have jF:∀i,i≠O2.next->i≠O.next->((O3.set O2.next (.obj X1)).set O.next (.obj X2)).hp i=O3.hp i:=fun i h1 h2=>by rw[VH.ak _ _ h2,VH.ak _ _ h1]
 generalize (O3.set O2.next (.obj X1)).set O.next (.obj X2)=O5 at*;have mg:=bg (tk:=.nil) (tk':=.full) (B:=0) (n:=0) (k:=1) (cs:=[]) (ds:=[.v (.bool false),.str pg,.str pa,.str pv,.str pG,.str pA,.str pV,.str pk,.sl P.length (P.flatMap a_) .au,.sl M.length (M.flatMap aQ) .au,.sl D.length (D.flatMap aQ) .au]) aeT LX.1.1 (O:=O5) trivial rfl rfl rfl (by decide) (by decide) (by decide) (by decide);have aaY:O5.Ge (O5.after .nil):=cA.Cz (tk:=.nil) (sz:=11) trivial (cA.after (sz:=11) (B:=0) trivial);have JB:Ms O2.next O.next X1 X2 (O5.after .nil):=⟨aaY.at hJ.1,aaY.at hJ.2⟩;have jP:=bg (tk:=.nil) (tk':=.full) (B:=0) (n:=0) (k:=1) (cs:=[]) (ds:=[.str g1,.str g2,.str g3]) xe AY.1.1 (O:=O5.after .nil) trivial rfl rfl rfl (by decide) (by decide) (by decide) (by decide);have aiV:(O5.after .nil).Ge ((O5.after .nil).after .nil):=cA.Cz (tk:=.nil) (sz:=3) trivial (cA.after (sz:=3) (B:=0) trivial);have qB:=aaY.trans aiV;have CO:Ms O2.next O.next X1 X2 ((O5.after .nil).after .nil):=⟨qB.at hJ.1,qB.at hJ.2⟩;rw[Nat.zero_add,List.nil_append]at mg jP;refine ab.pair (i:=2) (j:=6) ?_ ?_
 ·refine aI.o1 ?_;refine ae @bR ?_;refine⟨hJ,?_⟩;refine ab.pair (i:=3) (j:=6) ?_ ?_
  ·refine aI.o1 ?_;rw[cN];refine ao @bR @mg ?_;refine⟨JB,?_⟩;refine ab.op (i:=6) ?_;refine ae @bR ?_;refine⟨JB,?_⟩;refine ab.op (i:=7) ?_;rw[cN];refine ao @bR @jP ?_;refine⟨CO,?_⟩;refine ab.op (i:=8) ?_;refine ae @bR ?_;refine⟨CO,?_⟩;refine ab.op (i:=9) ?_;refine ae @bR ?_;refine⟨CO,?_⟩;refine ab.wm [] ?_ (hne:=(by omega));refine ae @bR ?_;refine VC.gen ?_;intro O8 e8
   have yp:∀i,i<O5.next->i≠O2.next->i≠O.next->O8.hp i=O5.hp i:=fun i h1 h2 h3=>by
    rw[e8,VH.ak _ _ h3,VH.ak _ _ h2];exact qB.hp i h1
   have Ar:O8.hp O2.next=some (.cells [.v (.bool false),.str pg,.str pa,.str pv,.str pG,.str pA,.str pV,.str pk,.sl P.length (P.flatMap a_) .au,.sl M.length (M.flatMap aQ) .au,.sl D.length (D.flatMap aQ) .au]):=by rw[e8,VH.ak _ _ (by omega)];exact VH.an _ _ _
   have CC:O3.next<=O8.next:=by
    have h1:=qB.next;have h2:O8.next=((O5.after .nil).after .nil).next:=by rw[e8];rfl
    omega
   clear e8;have oL:∀i,i<O3.next->i≠O2.next->i≠O.next->O8.hp i=O3.hp i:=fun i h1 h2 h3=>(yp i (by omega) h2 h3).trans (jF i h2 h3)
   have sC:=(oL (O.next+1) (by omega) (by omega) (by omega)).trans cc;have tZ:=(oL k (by omega) (by omega) (by omega)).trans dB;have Nq:=(oL q (by omega) (by omega) (by omega)).trans vt;have ql:c7 O k q O8:=⟨by omega,fun i h1 h2 h3=>(oL i (by omega) (by omega) (by omega)).trans (cK.hp i h1 h2 h3)⟩;refine VC.ag aa (aN @bR @Ar @sC ?_);exact⟨⟨_,_,rfl⟩,q,gn,pH,⟨r',a',tZ⟩,(by first | exact Nq | exact VH.sn Nq),⟨ql.next,fun i h1 h2 h3=>VH.sn (ql.hp i h1 h2 h3)⟩⟩
  ·refine aI.o1 ?_;refine ae @bR ?_;refine⟨hJ,?_⟩;refine ab.op (i:=3) ?_;rw[cN];refine ao @bR @mg ?_;refine⟨JB,?_⟩;refine ab.op (i:=7) ?_;rw[cN];refine ao @bR @jP ?_;refine⟨CO,?_⟩;refine ab.op (i:=8) ?_;refine ae @bR ?_;refine⟨CO,?_⟩;refine ab.op (i:=9) ?_;refine ae @bR ?_;refine⟨CO,?_⟩;refine ab.wm [] ?_ (hne:=(by omega));refine ae @bR ?_;refine VC.gen ?_;intro O8 e8
   have yp:∀i,i<O5.next->i≠O2.next->i≠O.next->O8.hp i=O5.hp i:=fun i h1 h2 h3=>by
    rw[e8,VH.ak _ _ h3,VH.ak _ _ h2];exact qB.hp i h1
   have Ar:O8.hp O2.next=some (.cells [.v (.bool false),.str pg,.str pa,.str pv,.str pG,.str pA,.str pV,.str pk,.sl P.length (P.flatMap a_) .au,.sl M.length (M.flatMap aQ) .au,.sl D.length (D.flatMap aQ) .au]):=by rw[e8,VH.ak _ _ (by omega)];exact VH.an _ _ _
   have CC:O3.next<=O8.next:=by
    have h1:=qB.next;have h2:O8.next=((O5.after .nil).after .nil).next:=by rw[e8];rfl
    omega
   clear e8;have oL:∀i,i<O3.next->i≠O2.next->i≠O.next->O8.hp i=O3.hp i:=fun i h1 h2 h3=>(yp i (by omega) h2 h3).trans (jF i h2 h3)
   have sC:=(oL (O.next+1) (by omega) (by omega) (by omega)).trans cc;have tZ:=(oL k (by omega) (by omega) (by omega)).trans dB;have Nq:=(oL q (by omega) (by omega) (by omega)).trans vt;have ql:c7 O k q O8:=⟨by omega,fun i h1 h2 h3=>(oL i (by omega) (by omega) (by omega)).trans (cK.hp i h1 h2 h3)⟩;refine VC.ag aa (aN @bR @Ar @sC ?_);exact⟨⟨_,_,rfl⟩,q,gn,pH,⟨r',a',tZ⟩,(by first | exact Nq | exact VH.sn Nq),⟨ql.next,fun i h1 h2 h3=>VH.sn (ql.hp i h1 h2 h3)⟩⟩
 ·refine aI.o1 ?_;refine ae @bR ?_;refine⟨hJ,?_⟩;refine ab.op (i:=2) ?_;refine ae @bR ?_;refine⟨hJ,?_⟩;refine ab.op (i:=3) ?_;rw[cN];refine ao @bR @mg ?_;refine⟨JB,?_⟩;refine ab.op (i:=7) ?_;rw[cN];refine ao @bR @jP ?_;refine⟨CO,?_⟩;refine ab.op (i:=8) ?_;refine ae @bR ?_;refine⟨CO,?_⟩;refine ab.op (i:=9) ?_;refine ae @bR ?_;refine⟨CO,?_⟩;refine ab.wm [] ?_ (hne:=(by omega));refine ae @bR ?_;refine VC.gen ?_;intro O8 e8
  have yp:∀i,i<O5.next->i≠O2.next->i≠O.next->O8.hp i=O5.hp i:=fun i h1 h2 h3=>by
   rw[e8,VH.ak _ _ h3,VH.ak _ _ h2];exact qB.hp i h1
  have Ar:O8.hp O2.next=some (.cells [.v (.bool false),.str pg,.str pa,.str pv,.str pG,.str pA,.str pV,.str pk,.sl P.length (P.flatMap a_) .au,.sl M.length (M.flatMap aQ) .au,.sl D.length (D.flatMap aQ) .au]):=by rw[e8,VH.ak _ _ (by omega)];exact VH.an _ _ _
  have CC:O3.next<=O8.next:=by
   have h1:=qB.next;have h2:O8.next=((O5.after .nil).after .nil).next:=by rw[e8];rfl
   omega
  clear e8;have oL:∀i,i<O3.next->i≠O2.next->i≠O.next->O8.hp i=O3.hp i:=fun i h1 h2 h3=>(yp i (by omega) h2 h3).trans (jF i h2 h3)
  have sC:=(oL (O.next+1) (by omega) (by omega) (by omega)).trans cc;have tZ:=(oL k (by omega) (by omega) (by omega)).trans dB;have Nq:=(oL q (by omega) (by omega) (by omega)).trans vt;have ql:c7 O k q O8:=⟨by omega,fun i h1 h2 h3=>(oL i (by omega) (by omega) (by omega)).trans (cK.hp i h1 h2 h3)⟩;refine VC.ag aa (aN @bR @Ar @sC ?_);exact⟨⟨_,_,rfl⟩,q,gn,pH,⟨r',a',tZ⟩,(by first | exact Nq | exact VH.sn Nq),⟨ql.next,fun i h1 h2 h3=>VH.sn (ql.hp i h1 h2 h3)⟩⟩
theorem WM {O:VH} {k ke kv ce cv:Nat} {L:List (Gv×Bs×Option Pm)} {E V:fe} {r a:Int} (h:m7 O k L E V ke kv ce cv r a) {i:Nat} {g:Gv} {t:Bs} {n:Nd} {p:Pm} (hi:L[i]?=some (g,t,none)) (hg:sO g) (ht:t.length<=65536) (hb:gX t= .ok n) (hr:ox n= .ok p) (hc:PmC p):
  VF Tryz.prog 119 [.ptr k 0,.agg (bN g)] O (aH fun m O'=>m= .tuple [.agg (gh p),.agg (oW iN)]/\∃q,iZ (eu g) E=some (.ptr q 0)/\q<O.next/\(∃r' a',O'.hp k=some (.cells [.map ke,.map kv,mi r',mi a']))/\O'.hp q=some (.cells (iP t 1 0 p iN))/\c7 O k q O'):=by
 have hsq:=h.some hi;obtain⟨q0,c,oK,afj,Nr,hE0⟩:=hsq;have hw:=fun(O':VH) (g':O.Ge O')=>adT (O:=O') (k:=k) (L:=L) (E:=E) (V:=V) (h.ge g') hi hg ht hb hr hc
 have CP:=fun O'=>aaW p O' hc
 have kU:=h.st.lt.1;have nw:=hc.hp;clear hc hr hb hi h Nr hE0;obtain⟨g1,g2,g3⟩:=g;obtain⟨b,⟨pg,pa,pv⟩,pG,pA,pV,pk,P,M,D⟩:=p;dsimp only at nw;subst nw;simp only[bN,gh,oW,iN,ar,aY]at hw CP ⊢;refine VF.bL 38 [.cell 4 106,.cell 5 71] Tryz.func119 ?_;refine VC.ag aa (ae @bR ?_);refine VC.gen ?_;intro O1 e1;obtain⟨aU,du,cC,ct,gm⟩:=lT _ _ _ e1;clear e1;refine VC.ag aa (ao @bR @cC ?_);refine ah.rt (hw O1 aU) ?_;rintro _ O2 ⟨⟨t1,t2,rfl⟩,q,gn,akl,⟨r',a',bt⟩,yj,cZ⟩;obtain rfl:q=q0:=by rw[gn]at oK;injection oK with e;injection e
 have jB:=cZ.next;have iS:=(cZ.hp _ (by omega) (by omega) (by omega)).trans cC;have bZ:=(cZ.hp _ (by omega) (by omega) (by omega)).trans ct;have jj:=(cZ.hp _ (by omega) (by omega) (by omega)).trans gm;have Np:=(c7.of (k:=k) (q:=q) aU).trans cZ;refine ae @bR ?_;refine VC.al ?_;rintro O3 ⟨aL,kV,iH⟩;have cc:=aL.at bZ;have eR:=aL.at jj;have dB:=aL.at bt;have vt:=aL.at yj;have cK:=Np.ge aL;clear iS bZ jj bt yj Np cZ cC ct gm hw;refine VC.ag aa (ao @bR @kV ?_);refine VL.su aa (bb:=false) (b:=true) (by simp) (by simp[gT]) (.inr ⟨rfl,rfl⟩) (by kernel_rfl) (by kernel_rfl) rfl rfl rfl rfl ?_;refine ae @bR ?_;refine VC.ag aa (ae @bR ?_);refine VC.bx ?_;rintro O4 ⟨aZ,iy,ib⟩;have cL:=aZ.at cc;have ff:=aZ.at eR;have jl:=aZ.at dB;have Jx:=aZ.at vt;have e_:=cK.ge aZ;clear cc eR dB vt cK;refine VC.bu [4,5,9] (fun _:Unit=>[.ptr (O.next+1) 0,.ptr (O.next+2) 0,.ptr O3.next 0]) (fun _ O'=>∃O5,O4.Ge O5/\O'=O5.set O3.next (.cells [.v (.bool false),.str pg,.str pa,.str pv,.str pG,.str pA,.str pV,.str pk,.sl P.length (P.flatMap a_) .au,.sl M.length (M.flatMap aQ) .au,.sl D.length (D.flatMap aQ) .au])) ?_ ?_
 ·refine VC.ag aa (ae @bR ?_);refine VC.az ?_;refine VC.bq [10] [4,5,6,9] (fun x:Bool=>[mi (bif x then -1 else 0)]) (fun x O'=>(x=false->O'=O4)/\(x=true->∃O5,O4.Ge O5/\O'=O5.set O3.next (.cells [.v (.bool false),.str pg,.str pa,.str pv,.str pG,.str pA,.str pV,.str pk,.sl P.length (P.flatMap a_) .au,.sl M.length (M.flatMap aQ) .au,.sl D.length (D.flatMap aQ) .au]))) (fun x=>bif x then 0 else 1) (false) ?_ ?_
  ·exact⟨fun _=>rfl,fun e=>by cases e⟩
  rintro x O5 ⟨hf,ht'⟩;cases x with
  | true=>
    obtain⟨O6,dL,e6⟩:=ht' rfl;simp only[cond_true];refine WC.sound aa (ae @bR ?_);exact aA.mk () ⟨O6,dL,e6⟩
  | false=>
    have e5:=hf rfl;rw[e5];clear e5 hf ht' O5
    simp only[cond_false];refine VC.ag aa (ae @bR ?_);refine VC.bj (VC.az ?_);refine VC.sJ [] (fun _=>True) (trivial) ?_;refine ab.aw 0 ?_;refine ae @bR ?_;refine ab.aw 1 ?_;refine ae @bR ?_;refine ab.aw 2 ?_;refine ae @bR ?_;refine ab.aw 3 ?_;refine ae @bR ?_;refine ab.op (i:=4) ?_;refine ao @bR @iy ?_;refine ab.call (i:=5) (CP O4) ?_;rintro _ O5 ⟨rfl,bz⟩;simp only[aj];refine⟨trivial,?_⟩;have jE:=bz.at iy;refine ab.op (i:=6) ?_;refine ao @bR @jE ?_;refine ab.bH [] ?_;refine ae @bR ?_;refine WC.sound aa (ae @bR ?_);exact ay.next true ⟨(fun e=>by cases e),fun _=>⟨O5,bz,rfl⟩⟩ (hm:=(by decide))
 rintro _ O9 ⟨O5,bz,e9⟩;have gD:=bz.next;have By:∀i,i≠O3.next->O9.hp i=O5.hp i:=fun i h1=>by rw[e9];exact VH.ak _ _ h1
 have hx9:O9.hp O3.next=some (.cells [.v (.bool false),.str pg,.str pa,.str pv,.str pG,.str pA,.str pV,.str pk,.sl P.length (P.flatMap a_) .au,.sl M.length (M.flatMap aQ) .au,.sl D.length (D.flatMap aQ) .au]):=by rw[e9];exact VH.an _ _ _
 have bC:=(By _ (by omega)).trans (bz.at cL);have Jv:=(By _ (by omega)).trans (bz.at ff);have hk9:=(By k (by omega)).trans (bz.at jl);have hq9:=(By q (by omega)).trans (bz.at Jx);have Ff:O9.next=O5.next:=by rw[e9];rfl
 have iR:c7 O k q O9:=⟨by omega,fun i h1 h2 h3=>(By i (by omega)).trans (bz.at (e_.hp i h1 h2 h3))⟩;clear e9 By;have No:O.next+1+1=O.next+2:=by omega
 refine VC.ag aa (cU @bR @hx9 @bC @Jv ?_);refine WC.sound aa (ae @bR ?_);exact⟨q,gn,afj,⟨r',a',hk9⟩,(by first | exact hq9 | exact VH.sn (VH.sn hq9)),⟨iR.next,fun i h1 h2 h3=>VH.sn (VH.sn (iR.hp i h1 h2 h3))⟩⟩
set_option linter.defProp false in
def eT:=And.intro bR<|And.intro dw<|And.intro LY<|And.intro tr<|And.intro ahZ<|And.intro aeS<|And.intro ah0<|And.intro aeU<|And.intro HD<|And.intro zP ah7
def rb (s:Bs):Prop:=Lib.index s [36,123]<0
theorem adU (s:Bs) (O:VH) (h:rb s) (hs:s.length<=1000000):VF Tryz.prog 205 [.str s] O (aH fun m O'=>m= .tuple [.str s,.str [],.str [],mb false]/\O'=O):=by
 have h':Lib.index s [36,123]<0:=h;refine VF.bL 36 [.tmp 2,.tmp 3,.tmp 4,.tmp 5] Tryz.func205 ?_;refine VC.ag aa (ae @eT ?_);refine VC.ag aa (ae @eT ?_);refine ah.rt (Mx s [36,123] O (by omega)) ?_;rintro _ O2 ⟨rfl,eO⟩;rw[eO];clear eO O2
 generalize Lib.index s [36,123]=x at*;have hd:decide (x<0)=true:=decide_eq_true h';refine ae @eT ?_;refine VC.ag aa (ao @eT @hd ?_);trivial
theorem ag4 {O:VH} {B b:Nat} {q:Option Nat} {s:Bs} (h:fR O B b q s):VF Tryz.prog 104 [.ptr b 0] O (aH fun m O'=>m=mi s.length/\O'=O):=by
 obtain⟨p,buf,h1,_,wS,_,_⟩:=h.cell;refine VF.bL 8 [.tmp 2] Tryz.func104 ?_;rcases wS with⟨h0,_,rfl | rfl⟩ | ⟨k,c,rfl,_⟩
 ·rw[h0];refine VC.ag aa (ae @eT ?_);refine WC.sound aa (ao @eT @h1 ?_);trivial
 ·rw[h0];refine VC.ag aa (ae @eT ?_);refine WC.sound aa (ao @eT @h1 ?_);trivial
 ·refine VC.ag aa (ae @eT ?_);refine WC.sound aa (ao @eT @h1 ?_);trivial
theorem aaZ {O:VH} {B b nb:Nat} {q:Option Nat} {s:Bs} (h:fR O B b q s) (l:Bs) (hl:s.length+l.length<=4096):VF Tryz.prog 204 ([.str l]++[.ptr b 0,.ptr nb 0]) O (aH fun m O'=>∃q',fR O' B b q' (s++l)/\eW O b q O' q'):=by
 simp only[List.cons_append,List.nil_append];refine VF.bL 11 [] Tryz.func204 ?_;refine VC.ag aa (ae @eT ?_);refine ah.rt (bI l h (by omega)) ?_;rintro _ O2 ⟨rfl,q2,bZ,cZ⟩;refine ae @eT ?_;refine VC.ag aa (ae @eT ?_);refine ah.rt (ag4 bZ) ?_;rintro _ O3 ⟨rfl,eO⟩;rw[eO];clear eO O3
 have ZX:(s++l).length<=4096:=by rw[List.length_append];exact hl
 refine ae @eT ?_;refine WC.sound aa (ae @eT ?_);exact⟨q2,bZ,cZ⟩
theorem Ns (wb:Nat) (s nm:Bs) (O:VH) (h:rb s) (hs:s.length<=4096):VF Tryz.prog 176 [.ptr wb 0,.str s,.str nm] O (aH fun m O'=>m= .str s/\O.Ge O'):=by
 refine VF.bL 53 [.tmp 6] Tryz.func176 ?_;refine VC.ag aa (ae @eT ?_);refine VC.bx ?_;rintro O1 ⟨aU,fK,du⟩;refine VC.ag aa (ae @eT ?_);have uS:=fR.fresh O1 (Nat.le_refl O1.next);have kP:O1.Ge ((O1.push (.cells [.v (.pointer none),.sl 0 [] .nil])).push (.shape O1.next 145 2)):=((VH.Ge.refl O1).push _).push _;generalize ((O1.push (.cells [.v (.pointer none),.sl 0 [] .nil])).push (.shape O1.next 145 2))=O2 at*;refine VC.ag aa (ae @eT ?_);refine VC.az ?_;refine VC.bq [1] [0,7,8] (fun _:Unit=>[.str s]) (fun _ O'=>O'=O2) (fun _=>0) (()) ?_ ?_
 ·rfl
 rintro _ O3 e3;rw[e3];clear e3 O3
 refine VC.az ?_;refine VC.ag aa (ae @eT ?_);refine ah.rt (adU s O2 h (by omega)) ?_;rintro _ O3 ⟨rfl,eO⟩;rw[eO];clear eO O3
 refine ae @eT ?_;refine VC.ag aa (ae @eT ?_);refine ah.rt (aaZ (nb:=O.next) uS s (by simp;omega)) ?_;rintro _ O3 ⟨q3,cc,cK⟩;rw[List.nil_append]at cc;have aL:O1.Ge O3:=eW.Cz kP cK (Nat.le_refl _);refine ae @eT ?_;refine VC.ag aa (ae @eT ?_);refine ah.rt (px cc (by simp only[maxLen];omega)) ?_;rintro _ O4 ⟨rfl,e_⟩;refine ae @eT ?_;exact aU.trans (aL.SF e_ cc.xf)
abbrev t_:=List (Bs×Bs×Nat)
def tO (M:t_):wN:=M.map fun p=>(.str p.1,.str p.2.1,p.2.2)
def wU (k:Bs) (M:t_):Option Bs:=(M.find? (·.1==k)).map (·.2.1)
def Nt (k:Bs):t_->Nat->Option (Nat×MV)
 | [],_=>none
 | p::M,i=>if k==p.1 then some (i,.str p.2.1)else Nt k M (i+1)
theorem JC (k:Bs):∀(M:t_) (i:Nat),uk .string (.str k) (tO M) i=some (Nt k M i)
 | [],i=>rfl
 | p::M,i=>by
   show uk .string (.str k) ((.str p.1,.str p.2.1,p.2.2)::tO M) i=_;rw[uk,Nt];simp only[IC];cases h:k==p.1
   ·simp[JC k M (i+1)]
   ·simp
theorem Ta (k:Bs):∀(M:t_) (i:Nat),(Nt k M i).map (·.2)=(wU k M).map .str
 | [],i=>rfl
 | p::M,i=>by
   rw[Nt];unfold wU;rw[List.find?_cons];cases h:k==p.1
   ·have h':(p.1==k)=false:=by rw[beq_eq_false_iff_ne]at h ⊢;exact Ne.symm h
    rw[h'];simpa[wU]using Ta k M (i+1)
   ·have h':(p.1==k)=true:=by rw[beq_iff_eq]at h ⊢;exact h.symm
    rw[h'];rfl
theorem JD {tab:bV} {O:VH} {t kt et:TypeId} {a b' c d c' d':Nat} {z y:List MV} {b ck:Nat} {M:t_} {k:Bs} {ok:Bool} (h:tab t=some ⟨.map kt et,a,b',z⟩) (hk:tab kt=some ⟨.string,c,d,y⟩) (he:tab et=some ⟨.string,c',d',[.str []]⟩) (hb:O.hp b=some (.map (tO M) ck)):
  jL tab O t (.map b) (.str k) ok=some (xR ok (.str []) ((wU k M).map .str)):=by
 unfold jL;simp only[h,hk,he,Option.map_some,mapOf,hb,Option.bind_some,JC,BL];have:=Ta k M 0;cases hf:Nt k M 0 with
 | none=>
   rw[hf]at this;rw[<-this];cases ok<;>rfl
 | some p=>
   rw[hf]at this;rw[<-this];cases ok<;>rfl
theorem Ia {k:Bs}:∀{M:t_} {i:Nat},(∀p∈M,p.1≠k)->Nt k M i=none
 | [],i,_=>rfl
 | p::M,i,h=>by
   have h':(k==p.1)=false:=by rw[beq_eq_false_iff_ne];exact Ne.symm (h p (by simp))
   rw[Nt,h',if_neg (by simp)];exact Ia fun q hq=>h q (List.mem_cons_of_mem _ hq)
theorem aa0 {tab:bV} {O:VH} {t kt et:TypeId} {a b' c d:Nat} {z y:List MV} {b ck:Nat} {M:t_} {k v:Bs} (h:tab t=some ⟨.map kt et,a,b',z⟩) (hk:tab kt=some ⟨.string,c,d,y⟩) (hb:O.hp b=some (.map (tO M) ck)) (fF:∀p∈M,p.1≠k):
  fh tab O t (.map b) (.str k) (.str v)=some (O.set b (.map (tO (M++[(k,v,ck)])) (ck+1))):=by
 unfold fh;simp only[h,hk,Option.map_some,hb,JC,BL,Ia fF];simp[tO]
theorem Ib {k:Bs} {M:t_} (h:∀p∈M,p.1≠k):wU k M=none:=by
 unfold wU;rw[List.find?_eq_none.2 (fun p hp=>by simpa using h p hp)];rfl
theorem Nu:∀{L:List (Bs×Bs)} {R:t_} {x:Bs×Bs},L.Pairwise (fun x y=>x.1≠y.1)->R.map (fun p=>(p.1,p.2.1))=L->x∈L->wU x.1 R=some x.2
 | [],R,x,_,_,hx=>by simp at hx
 | y::L,[],x,_,e,_=>by simp at e
 | y::L,p::R,x,h,e,hx=>by
   rw[List.map_cons]at e;injection e with e1 e2;obtain⟨h1,h2⟩:=List.pairwise_cons.1 h;unfold wU;rw[List.find?_cons];rcases List.mem_cons.1 hx with rfl | hx
   ·have:(p.1==x.1)=true:=by rw[<-e1];simp
    rw[this];simp only[Option.map_some];rw[<-e1]
   ·have hne:=h1 x hx;have:(p.1==x.1)=false:=by rw[beq_eq_false_iff_ne];rw[<-e1]at hne;exact hne
    rw[this];exact Nu h2 e2 hx
structure oC (O:VH) (tb kr kd:Nat) (L:List (Bs×Bs)) (R D:t_) (cr cd:Nat) (tk:Tok) (kn:Int):Prop where
 cell:O.hp tb=some (.cells [.sl L.length (L.flatMap a_) tk,.map kr,.map kd,mi kn])
 raw:O.hp kr=some (.map (tO R) cr)
 done:O.hp kd=some (.map (tO D) cd)
 lt:tb<O.next/\kr<O.next/\kd<O.next
 ne:tb≠kr/\tb≠kd/\kr≠kd
theorem oC.ge {O O':VH} {tb kr kd:Nat} {L:List (Bs×Bs)} {R D:t_} {cr cd:Nat} {tk:Tok} {kn:Int} (h:oC O tb kr kd L R D cr cd tk kn) (g:O.Ge O'):oC O' tb kr kd L R D cr cd tk kn:=
 ⟨(g.hp _ h.lt.1).trans h.cell,(g.hp _ h.lt.2.1).trans h.raw,(g.hp _ h.lt.2.2).trans h.done,⟨Nat.lt_of_lt_of_le h.lt.1 g.next,Nat.lt_of_lt_of_le h.lt.2.1 g.next,Nat.lt_of_lt_of_le h.lt.2.2 g.next⟩,h.ne⟩
theorem JE (L:List (Bs×Bs)) (tk:Tok) (O:VH) (hn:L.length<=10000) (hL:L.Pairwise fun x y=>x.1≠y.1):VF Tryz.prog 120 [.sl L.length (L.flatMap a_) tk] O (aH fun m O'=>m= .ptr (O.next+2) 0/\O.Ge O'/\∃R cr t,oC O' (O.next+2) O.next (O.next+1) L R [] cr 0 t 0/\∀x∈L,wU x.1 R=some x.2):=by
 have dK:=aJ eZ L;refine VF.bL 50 [.tmp 2] Tryz.func120 ?_;have nq:Gc (kO [(0,1),(1,1),(2,1),(3,1)]) [.sl 0 [] .nil,.v (.map none),.v (.map none),.v (.int .i64 0)] (.map O.next) [(2,.map (O.next+1))] (some (1,1))=some [.sl 0 [] .nil,.map O.next,.map (O.next+1),.v (.int .i64 0)]:=rfl;refine VC.ag aa (ae @eT ?_);refine VC.ag aa (ao @eT @nq ?_);refine VC.gen ?_;intro O1 e1;obtain⟨aU,du,cC,ct,gm⟩:=lT _ _ _ e1;clear e1;have No:O.next+1+1=O.next+2:=by omega
 refine VC.bu [3] (fun _:Unit=>[.ptr (O.next+2) 0]) (fun _ O'=>O.Ge O'/\∃R cr t,oC O' (O.next+2) O.next (O.next+1) L R [] cr 0 t 0/\R.map (fun p=>(p.1,p.2.1))=L) ?_ ?_
 ·refine VC.ag aa (ae @eT ?_);refine VC.az ?_;refine VC.bq [14] [3,12,13] (fun j:Nat=>[mi j]) (fun j O'=>O.Ge O'/\j<=L.length/\∃R cr t,oC O' (O.next+2) O.next (O.next+1) (L.take j) R [] cr 0 t 0/\R.map (fun p=>(p.1,p.2.1))=L.take j/\App O' (O.next+3) 2 t) (fun j=>L.length - j) (0) ?_ ?_
  ·refine⟨aU,Nat.zero_le _,[],0,.nil,⟨?_,cC,ct,⟨by omega,by omega,by omega⟩,by omega,by omega,by omega⟩,?_,trivial⟩
   ·rw[List.take_zero];exact gm
   ·rw[List.take_zero];rfl
  rintro j O3 ⟨aL,hj,R,cr,t,hT,hR,cB⟩;by_cases bf:j<L.length;rotate_left
  ·obtain rfl:j=L.length:=by omega
   rw[List.take_length]at hT hR;refine WC.sound aa (ae @eT ?_);exact aA.mk () ⟨aL,R,cr,t,hT,hR⟩
  have br:=bB eZ L j bf;have fl:=cQ L j bf
  have fF:∀p∈R,p.1≠L[j].1:=fun p hp=>by
   have hm:(p.1,p.2.1)∈L.take j:=by rw[<-hR];exact List.mem_map_of_mem (f:=fun p:Bs×Bs×Nat=>(p.1,p.2.1)) hp
   obtain⟨i,hi,e⟩:=List.mem_iff_getElem.1 hm;rw[List.length_take]at hi;rw[List.getElem_take]at e;have:=(List.pairwise_iff_getElem.1 hL) i j (by omega) bf (by omega);rw[e]at this;exact this
  have zG:(L.take j).length=j:=by rw[List.length_take];omega
  generalize L[j]=y at*;generalize L.take j=LT at*;obtain⟨yn,yv⟩:=y;dsimp only at fF;simp only[a_]at br;have cY:((j:Int)+1)=((j+1:Nat):Int):=by omega
  have eb:=hT.lt;have hne:=hT.ne;refine VC.ag aa (ae @eT ?_);refine VC.ag aa (ae @eT ?_);refine VC.bj (VC.az ?_);refine VC.ag aa (ao @eT @br ?_);refine VC.al ?_;rintro O4 ⟨aZ,iy,ib⟩;have vw:=hT.ge aZ;have mT:=cB.ge aZ;have ff:=vw.cell;have Gt:=vw.raw;simp only[ar]at ff;have gn:jL (eA Tryz.prog) O4 260 (.map O.next) (.str yn) true=some (xR true (.str []) ((wU yn R).map .str)):=JD HD T9 T9 Gt;rw[Ib fF]at gn;simp only[Option.map_none,I6]at gn;refine VC.bj ?_;refine WC.bH (.held []) [(0,.rd),(1,.rd),(2,.rd),(3,.rd),(4,.rd),(5,.rd),(6,.rd),(7,.rd),(8,.rd),(9,.rd),(10,.rd),(11,.rd)] ?_;refine cU @eT @ff @iy @gn ?_;refine VC.ag aa (ae @eT ?_);refine WC.sound aa (ae @eT ?_);refine WC.bH (.held [8]) [(0,.rd),(1,.rd),(2,.rd),(3,.rd),(4,.rd),(5,.rd),(6,.rd),(7,.rd),(8,.one)] ?_;have nG:fh (eA Tryz.prog) O4 260 (.map O.next) (.str yn) (.str yv)=some (O4.set O.next (.map (tO (R++[(yn,yv,cr)])) (cr+1))):=aa0 HD T9 Gt fF;refine cU @eT @ff @iy @nG ?_;refine VC.gen ?_;intro O5 e5;have jF:∀i,i≠O.next->O5.hp i=O4.hp i:=fun i hi=>by rw[e5];exact VH.ak _ _ hi
  have gD:O5.next=O4.next:=by rw[e5];rfl
  have wR:O5.hp O.next=some (.map (tO (R++[(yn,yv,cr)])) (cr+1)):=by rw[e5];exact VH.an _ _ _
  have bz:O.Ge O5:=by rw[e5];exact(aL.trans aZ).set (Nat.le_refl _) _
  have j_:App O5 (O.next+3) 2 t:=mT.mv (by omega) fun i hi e=>(jF i (fun e2=>by subst e2;rw[Gt]at e;cases e)).trans e
  clear e5;have fA:=(jF _ (by omega)).trans ff;have jE:=(jF _ (by omega)).trans iy;have Jq:=(jF (O.next+1) (by omega)).trans vw.done;obtain⟨mE,gj,kS⟩:=fS (n:=LT.length) (cs:=LT.flatMap a_) (ds:=[.str yn,.str yv]) (es:=a_ (yn,yv)) zQ B7.1.1 j_ (aJ eZ LT) rfl rfl (by decide) (by omega) (by simp only[maxLen];omega) (fT LT) (by simp only[a_,wu]);refine WC.bH (.held [10]) [(0,.rd),(1,.rd),(2,.rd),(3,.rd),(4,.rd),(5,.rd),(6,.one),(7,.one),(8,.one),(9,.rd),(10,.one)] ?_;refine aN @eT @fA @jE ?_;refine VL.k_ gj kS ?_;have hca:(O5.after t).hp (O.next+2)=_:=(App.off j_ (by omega) (by rw[fA];simp)).trans fA;have hra:(O5.after t).hp O.next=_:=(App.off j_ (by omega) (by rw[wR];simp)).trans wR;have hda:(O5.after t).hp (O.next+1)=_:=(App.off j_ (by omega) (by rw[Jq];simp)).trans Jq;refine ao @eT @hca ?_;refine VC.gen ?_;intro O6 e6;have re:=cA.after j_;have oX:∀i,i≠O.next+2->O6.hp i=(O5.after t).hp i:=fun i hi=>by rw[e6];exact VH.ak _ _ hi
  have lS:O6.next=(O5.after t).next:=by rw[e6];rfl
  have Bw:O6.hp (O.next+2)=some (.cells [.sl (LT.length+1) (LT.flatMap a_++a_ (yn,yv)) (.own O5.next 2),.map O.next,.map (O.next+1),.v (.int .i64 0)]):=by rw[e6];exact VH.an _ _ _
  have nV:App O6 (O.next+3) 2 (.own O5.next 2):=(App.after (tk:=t) (B:=O.next+3) (sz:=2) (by omega:O.next+3<=O5.next)).mv (by omega) fun i hi e=>(oX i (fun e2=>by subst e2;rw[hca]at e;cases e)).trans e
  have Nn:O.Ge O6:=⟨by have:=re.next;have:=bz.next;omega,fun i hi=>by
   rw[oX i (by omega),re.hp i (by have:=bz.next;omega) (fun e=>by have:=(App.pB j_ e).1;omega)];exact bz.hp i hi⟩
  have hnA:=re.next;refine WC.sound aa (ao @eT @cY ?_);refine ay.next (j+1) ⟨Nn,bf,R++[(yn,yv,cr)],cr+1,.own O5.next 2,⟨?_,(oX _ (by omega)).trans hra,(oX _ (by omega)).trans hda,⟨by omega,by omega,by omega⟩,hne⟩,?_,nV⟩
  ·rw[fl,List.flatMap_append,List.length_append];simpa[ar]using Bw
  ·rw[fl,List.map_append,hR];rfl
 rintro _ O9 ⟨bk,R,cr,t,hT,hR⟩;refine WC.sound aa (ae @eT ?_);exact⟨bk,R,cr,t,hT,fun x hx=>Nu hL hR hx⟩
set_option linter.defProp false in
def cD:=And.intro eT<|And.intro ah6<|And.intro aeI aeU
theorem adV (x:Bs) (O:VH) (t:Tok):VF Tryz.prog 178 [.sl 0 [] t,.str x] O (aH fun m O'=>m=mb false/\O'=O):=by
 have h1:VF Tryz.prog 206 [.sl 0 [] t,.str x] O (aH fun m O'=>m=mi (-1)/\O'=O):=by
  refine VF.dh 19 [.tmp 4] Tryz.func206 ?_;refine ae @cD ?_;refine WC.iG [8] [0,1,7] (fun j:Unit=>[mi 0]) (fun j O'=>O'=O) (fun j=>0) (()) ?_ ?_
  ·rfl
  rintro _ O2 e2;rw[e2];clear e2 O2
  refine ae @cD ?_;trivial
 refine VF.dh 9 [.tmp 4] Tryz.func178 ?_;refine ae @cD ?_;refine ah.rt (h1) ?_;rintro _ O2 ⟨rfl,e2⟩;rw[e2];clear e2 O2
 refine ae @cD ?_;trivial
theorem WN {O:VH} {wb tb kr kd:Nat} {L:List (Bs×Bs)} {R D:t_} {cr cd:Nat} {tk:Tok} {kn:Int} (nm v:Bs) (h:oC O tb kr kd L R D cr cd tk kn) (hw:O.hp wb=some (.cells [.ptr tb 0,.sl 0 [] .nil])) (nW:wb<O.next) (hR:wU nm R=some v) (hD:∀p∈D,p.1≠nm) (hv:rb v) (jy:v.length<=4096):
  VF Tryz.prog 150 [.ptr wb 0,.str nm] O (aH fun m O'=>m= .str v/\(∃kn',oC O' tb kr kd L R (D++[(nm,v,cd)]) cr (cd+1) tk kn')/\O.next<=O'.next/\∀i,i<O.next->i≠tb->i≠kd->i≠wb->O'.hp i=O.hp i):=by
 have hc:=h.cell;have eb:=h.lt;have hne:=h.ne;have Bf:wb≠tb:=fun e=>by subst e;rw[hw]at hc;simp at hc
 have hwr:wb≠kr:=fun e=>by subst e;have:=h.raw;cases(hw.symm.trans this)
 have hwd:wb≠kd:=fun e=>by subst e;have:=h.done;cases(hw.symm.trans this)
 simp only[ar]at hc;have gn:jL (eA Tryz.prog) O 260 (.map kd) (.str nm) true=some (xR true (.str []) ((wU nm D).map .str)):=JD HD T9 T9 h.done;rw[Ib hD]at gn;simp only[Option.map_none,I6]at gn;refine VF.bL 95 [.tmp 4] Tryz.func150 ?_;refine VC.ag aa (ae @cD ?_);refine VC.ag aa (cU @cD @hw @hc @gn ?_);refine VC.bj (VC.az ?_);refine VC.ag aa (ao @cD @hw ?_);refine ah.rt (adV nm O .nil) ?_;rintro _ O2 ⟨rfl,e2⟩;rw[e2];clear e2 O2
 refine ao @cD @hw ?_;refine WC.sound aa (ao @cD @hw ?_);refine VC.ag aa (ao @cD @hw ?_);have cB:=bg (tk:=.nil) (tk':=.full) (B:=0) (n:=0) (k:=1) (cs:=[]) (ds:=[.str nm]) zP T9 (O:=O) trivial rfl rfl rfl (by decide) (by decide) (by decide) (by decide);rw[Nat.zero_add,List.nil_append]at cB;refine VL.k_ cB rfl ?_;have re:O.Ge (O.after .nil):=cA.Cz (tk:=.nil) (sz:=1) trivial (cA.after (sz:=1) (B:=0) trivial);have hwA:=(re.hp _ nW).trans hw;refine ao @cD @hwA ?_;refine VC.gen ?_;intro O2 e2;have jJ:∀i,i<O.next->i≠wb->O2.hp i=O.hp i:=fun i h1 h2=>by rw[e2,VH.ak _ _ h2];exact re.hp i h1
 have jB:O.next<=O2.next:=by rw[e2];exact re.next
 have oP:∃t,O2.hp wb=some (.cells [.ptr tb 0,.sl 1 [.str nm] t]):=⟨_,by rw[e2];exact VH.an _ _ _⟩
 obtain⟨t2,oP⟩:=oP;clear e2;have hT2:oC O2 tb kr kd L R D cr cd tk kn:=⟨(jJ _ eb.1 (Ne.symm Bf)).trans h.cell,(jJ _ eb.2.1 (Ne.symm hwr)).trans h.raw,(jJ _ eb.2.2 (Ne.symm hwd)).trans h.done,⟨by omega,by omega,by omega⟩,hne⟩;have jj:=hT2.cell;simp only[ar]at jj;have aa1:jL (eA Tryz.prog) O2 260 (.map kr) (.str nm) false=some (xR false (.str []) ((wU nm R).map .str)):=JD HD T9 T9 hT2.raw;rw[hR]at aa1;simp only[Option.map_some,Sw]at aa1;refine VC.ag aa (cU @cD @oP @jj @aa1 ?_);refine ah.rt (Ns wb v nm O2 hv jy) ?_;rintro _ O3 ⟨rfl,aL⟩;have hT3:=hT2.ge aL;have hw3:=aL.at oP;have As:∀i,i<O.next->i≠wb->O3.hp i=O.hp i:=fun i h1 h2=>(aL.hp i (by omega)).trans (jJ i h1 h2)
 have iH:=aL.next;refine ae @cD ?_;refine VC.bj ?_;refine WC.bH (.held [14]) [(0,.rd),(1,.rd),(2,.rd),(3,.rd),(4,.rd),(5,.rd),(6,.rd),(7,.rd),(8,.rd),(9,.rd),(10,.rd),(11,.rd),(12,.one),(13,.rd),(14,.one)] ?_;refine aN @cD @hw3 @uM ?_;refine VC.gen ?_;intro O4 e4;have ra:∀i,i≠wb->O4.hp i=O3.hp i:=fun i h2=>by rw[e4];exact VH.ak _ _ h2
 have ib:O4.next=O3.next:=by rw[e4];rfl
 have Nv:∃t,O4.hp wb=some (.cells [.ptr tb 0,t]):=⟨_,by rw[e4];exact VH.an _ _ _⟩
 obtain⟨t4,Nv⟩:=Nv;clear e4;have afh:=hT3.lt;have vw:oC O4 tb kr kd L R D cr cd tk kn:=⟨(ra _ (Ne.symm Bf)).trans hT3.cell,(ra _ (Ne.symm hwr)).trans hT3.raw,(ra _ (Ne.symm hwd)).trans hT3.done,⟨by omega,by omega,by omega⟩,hne⟩;have ff:=vw.cell;simp only[ar]at ff;have nG:fh (eA Tryz.prog) O4 260 (.map kd) (.str nm) (.str v)=some (O4.set kd (.map (tO (D++[(nm,v,cd)])) (cd+1))):=aa0 HD T9 vw.done hD;refine VC.ag aa (cU @cD @Nv @ff @nG ?_);refine VC.gen ?_;intro O5 e5;have jF:∀i,i≠kd->O5.hp i=O4.hp i:=fun i h2=>by rw[e5];exact VH.ak _ _ h2
 have gD:O5.next=O4.next:=by rw[e5];rfl
 have Jq:O5.hp kd=some (.map (tO (D++[(nm,v,cd)])) (cd+1)):=by rw[e5];exact VH.an _ _ _
 clear e5;have hw5:=(jF wb hwd).trans Nv;have fA:=(jF tb hne.2.1).trans ff;refine VC.ag aa (cU @cD @di @hw5 @fA ?_);refine ah.rt (Fa 1 fA rfl) ?_;rintro m O6 ⟨rfl,e6⟩;have oX:∀i,i≠tb->O6.hp i=O5.hp i:=fun i h2=>by rw[e6];exact VH.ak _ _ h2
 have Bw:O6.hp tb=some (.cells [.sl L.length (L.flatMap a_) tk,.map kr,.map kd,mi (IntKind.i64.wrap (kn+1))]):=by rw[e6];exact VH.an _ _ _
 have lS:O6.next=O5.next:=by rw[e6];rfl
 refine ae @cD ?_;refine WC.sound aa (ae @cD ?_);refine⟨⟨_,⟨Bw,(oX _ (Ne.symm hne.1)).trans ((jF _ hne.2.2).trans vw.raw),(oX _ (Ne.symm hne.2.1)).trans Jq,⟨by omega,by omega,by omega⟩,hne⟩⟩,by omega,fun i h1 h2 h3 h4=>?_⟩;exact(oX i h2).trans ((jF i h3).trans ((ra i h4).trans (As i h1 h4)))
theorem aa2 {O:VH} {a b:Nat} {K:VH->Prop} (h:K O):fZ Tryz.prog 177 [.ptr a 0,.ptr b 0] none O K:=by
 refine fZ.rec (d:=5) Tryz.func177 (Nat.lt_of_lt_of_eq (by decide:5<15) rfl) ?_;show WC _ _ ⟨15,0⟩ _ _ _ _ _;simp only[cf,Nat.zero_add,Nat.reduceAdd,zL];refine ao @cD @wi ?_;refine VL.pure (by simp) (fun _=>.inl rfl) rfl rfl (fG.Eh (bb:=true) Tryz.underlying20 rfl (.inl ⟨rfl,rfl⟩)) ?_;refine WL.sound aa ?_;refine ao @cD @wi ?_;exact h
theorem Nw {O:VH} {g:FuncId} {xs:List MV} {Φ :VH->VH->Prop} (hg:c9 Tryz.prog g=true) (hC:∀O1,O.Ge O1->VF Tryz.prog g xs O1 (aH fun _ O'=> Φ O1 O')) (hΦ :∀O1 O2,O.Ge O1-> Φ O1 O2->O1.next<=O2.next/\∀i,O.next<=i->i<O1.next->O2.hp i=O1.hp i):
  VF Tryz.prog 148 [.func (.func g) [] xs] O (aH fun m O'=>m= .tuple [mi 0,.str []]/\∃O1 O2,O.Ge O1/\ Φ O1 O2/\O2.next<=O'.next/\∀i,i<O.next->O'.hp i=O2.hp i):=by
 refine VF.deferred (lo:=4) (k:=7) (rs:=[.cell 2 65,.cell 3 9]) Tryz.func148 (Enters.sr (by kernel_rfl)) ?_;simp only[cf,Nat.zero_add,Nat.reduceAdd];refine ae @cD ?_;refine⟨_,rfl,fun D=>?_⟩;refine VC.gen ?_;rintro O1 rT;obtain⟨aU,du,cC,ct⟩:=gJ _ _ rT;clear rT;refine VC.ag aa (ao @cD @wd ?_);refine ah.rt (hC O1 aU) ?_ (hb:=hg);rintro m O2 h2;obtain⟨jB,jJ⟩:=hΦ O1 O2 aU h2;have iS:=(jJ _ (Nat.le_refl _) (by omega)).trans cC;have bZ:=(jJ (O.next+1) (by omega) (by omega)).trans ct;refine ao @cD @wd ?_;refine VC.ag aa (cU @cD @wd @iS @bZ ?_);refine WC.sound aa (ao @cD @wd ?_);refine aa2 ?_;refine cU @cD @wd @iS @bZ ?_;exact⟨O1,O2,aU,h2,Nat.le_refl _,fun i hi=>by rw[VH.ak _ _ (by omega),VH.ak _ _ (by omega)]⟩
theorem adW {O:VH} {ba bb bc tb:Nat} {s:Bs} {z:MV} (ha:O.hp ba=some (.cells [.ptr tb 0])) (hb:O.hp bb=some (.cells [.str s])) (hc:O.hp bc=some (.cells [z])) (fV:ba<O.next) (uQ:bb<O.next) (gN:bc<O.next) (h:rb s) (hs:s.length<=4096):
  VF Tryz.prog 175 [.ptr ba 0,.ptr bb 0,.ptr bc 0] O (aH fun m O'=>O'.hp bc=some (.cells [.str s])/\bl O (some bc) O'):=by
 refine VF.bL 8 [] Tryz.func175 ?_;have Q3:∀x,(O.push x).hp bb=some (.cells [.str s]):=fun x=>(VH.bp _ _ uQ).trans hb
 refine WC.sound aa (aN @cD @ha @hb ?_);refine ah.bx ?_;rintro O1 ⟨aU,fK,du⟩;refine ah.rt (Ns O.next s [] O1 h hs) ?_;rintro _ O2 ⟨rfl,aC⟩;have gE:=aU.trans aC;have jj:=(gE.hp _ gN).trans hc;refine ao @cD @jj ?_;exact(bl.lF gE).any.trans bl.set
theorem WO (tb:Nat) (s:Bs) (O:VH) (h:rb s) (hs:s.length<=4096):VF Tryz.prog 147 [.ptr tb 0,.str s] O (aH fun m O'=>m= .tuple [.str s,mi 0,.str []]/\O.Ge O'):=by
 refine VF.bL 20 [.cell 4 9,.tmp 5,.tmp 6] Tryz.func147 ?_;refine VC.ag aa (ae @cD ?_);refine VC.gen ?_;intro O1 e1;obtain⟨aU,du,cC,ct,gm⟩:=lT _ _ _ e1;clear e1;refine VC.ag aa (ao @cD @cC ?_);refine VC.ag aa (ae @cD ?_);refine ah.rt (Nw (O:=O1) (g:=175) (xs:=[.ptr O.next 0,.ptr (O.next+1) 0,.ptr (O.next+2) 0]) (Φ :=fun A B=>B.hp (O.next+2)=some (.cells [.str s])/\bl A (some (O.next+2)) B) (by kernel_rfl) (fun O2 aC=>adW (aC.at cC) (aC.at ct) (aC.at gm) (by have:=aC.next;omega) (by have:=aC.next;omega) (by have:=aC.next;omega) h hs) (fun A B hA hB=>⟨hB.2.next,fun i h1 h2=>hB.2.hp i h2 (fun e=>by injection e with e;omega)⟩)) ?_;rintro _ O3 ⟨rfl,A,B,re,⟨np,Bp⟩,iH,As⟩;have eR:=(As _ (by omega)).trans np;refine ae @cD ?_;refine VC.ag aa (ae @cD ?_);refine VC.ag aa (ao @cD @eR ?_);refine WC.sound aa (ae @cD ?_);have aL:O.Ge O3:=⟨by have:=re.next;have:=Bp.next;omega,fun i hi=>(As i (by omega)).trans ((Bp.hp i (by have:=re.next;omega) (fun e=>by injection e with e;omega)).trans ((re.hp i (by omega)).trans (aU.hp i hi)))⟩;exact aL.set (by omega) _
theorem adX {O:VH} {ba bb tb kr kd:Nat} {L:List (Bs×Bs)} {R:t_} {cr:Nat} {tk:Tok} (ha:O.hp ba=some (.cells [.ptr tb 0])) (hb:O.hp bb=some (.cells [.sl 0 [] .nil])) (fV:ba<O.next) (uQ:bb<O.next) (h:oC O tb kr kd L R [] cr 0 tk 0) (hn:L.length<=10000) (hR:∀x∈L,wU x.1 R=some x.2) (hL:L.Pairwise fun x y=>x.1≠y.1) (hv:∀x∈L,rb x.2/\x.2.length<=4096):
  VF Tryz.prog 149 [.ptr ba 0,.ptr bb 0] O (aH fun m O'=>(∃t,O'.hp bb=some (.cells [.sl L.length (L.flatMap a_) t]))/\O.next<=O'.next/\∀i,i<O.next->i≠tb->i≠kd->i≠bb->O'.hp i=O.hp i):=by
 have dK:=aJ eZ L;have eb:=h.lt;have hne:=h.ne;have hc:=h.cell;simp only[ar]at hc;have afk:ba≠tb:=fun e=>by subst e;rw[ha]at hc;simp at hc
 have Wj:bb≠tb:=fun e=>by subst e;rw[hb]at hc;simp at hc
 have Wc:ba≠kd:=fun e=>by subst e;have:=h.done;cases(ha.symm.trans this)
 have wP:bb≠kd:=fun e=>by subst e;have:=h.done;cases(hb.symm.trans this)
 have hbr:bb≠kr:=fun e=>by subst e;have:=h.raw;cases(hb.symm.trans this)
 have hab:ba≠bb:=fun e=>by subst e;rw[hb]at ha;simp at ha
 refine VF.bL 26 [] Tryz.func149 ?_;refine VC.ag aa (aN @cD @ha @hc ?_);refine VC.az ?_;refine VC.bq [9] [0,1,7,8] (fun j:Nat=>[mi j]) (fun j O'=>j<=L.length/\O.next<=O'.next/\(∀i,i<O.next->i≠tb->i≠kd->i≠bb->O'.hp i=O.hp i)/\∃D cd kn t,oC O' tb kr kd L R D cr cd tk kn/\(∀p∈D,∃x∈L.take j,p.1=x.1)/\O'.hp bb=some (.cells [.sl (L.take j).length ((L.take j).flatMap a_) t])/\App O' O.next 2 t) (fun j=>L.length - j) (0) ?_ ?_
 ·exact⟨Nat.zero_le _,Nat.le_refl _,fun _ _ _ _ _=>rfl,[],0,0,.nil,h,by simp,hb,trivial⟩
 rintro j O3 ⟨hj,iH,As,D,cd,kn,t,hT,hD,cc,cB⟩;by_cases bf:j<L.length;rotate_left
 ·obtain rfl:j=L.length:=by omega
  rw[List.take_length]at cc;refine WC.sound aa (ae @cD ?_);exact⟨⟨t,cc⟩,iH,As⟩
 have br:=bB eZ L j bf;have fl:=cQ L j bf
 have fF:∀p∈D,p.1≠L[j].1:=fun p hp=>by
  obtain⟨x,hx,e⟩:=hD p hp;obtain⟨i,hi,e2⟩:=List.mem_iff_getElem.1 hx;rw[List.length_take]at hi;rw[List.getElem_take]at e2;have:=(List.pairwise_iff_getElem.1 hL) i j (by omega) bf (by omega);rw[e, <-e2];exact this
 have hRj:=hR L[j] (List.getElem_mem bf);obtain⟨hvj,jy⟩:=hv L[j] (List.getElem_mem bf);have zG:(L.take j).length=j:=by rw[List.length_take];omega
 generalize L[j]=y at*;obtain⟨yn,yv⟩:=y;dsimp only at fF hRj hvj jy;simp only[a_]at br;have cY:((j:Int)+1)=((j+1:Nat):Int):=by omega
 refine VC.ag aa (ae @cD ?_);refine VC.ag aa (ae @cD ?_);refine VC.bj (VC.az ?_);refine VC.ag aa (ao @cD @br ?_);refine VC.al ?_;rintro O4 ⟨aZ,iy,ib⟩;have vw:=hT.ge aZ;have lU:=aZ.at ((As ba fV afk Wc hab).trans ha);have cL:=aZ.at cc;have mT:=cB.ge aZ;refine VC.Ab [12] (bb) (fun O'=>O'.hp ba=some (.cells [.ptr tb 0])/\O'.hp O3.next=some (.cells [.str yn,.str yv])) (cL) (fun X=>⟨(VH.ak _ _ hab).trans lU,VH.sn iy⟩) ?_;intro X;refine ab.pP (m:=.sl (L.take j).length ((L.take j).flatMap a_) t) 0 (fun _ h=>h.1) (fun _ h=>h) ?_ ?_
 ·exact fp @cD
 simp only[aj];refine ab.aw 1 ?_;refine ae @cD ?_;refine ab.mC (m:=.str yn) 2 ?_ ?_
 ·rintro O2 ⟨j0,j1,j2⟩;exact dq @cD @j2
 simp only[aj];refine ab.mC (m:=.ptr tb 0) 3 ?_ ?_
 ·rintro O2 ⟨j0,j1,j2⟩;exact dq @cD @j1
 simp only[aj];refine ab.aw 4 ?_;refine ae @cD ?_;refine ab.aw 6 ?_;refine ae @cD ?_;refine ab.mC (m:=.str yn) 7 ?_ ?_
 ·rintro O2 ⟨j0,j1,j2⟩;exact dq @cD @j2
 simp only[aj];have lz:(O4.set bb (.obj X)).hp bb=some (.obj X)/\(O4.set bb (.obj X)).hp ba=some (.cells [.ptr tb 0])/\(O4.set bb (.obj X)).hp O3.next=some (.cells [.str yn,.str yv]):=⟨VH.an _ _ _,(VH.ak _ _ hab).trans lU,VH.sn iy⟩;have gD:(O4.set bb (.obj X)).next=O4.next:=rfl;have jF:∀i,i≠bb->(O4.set bb (.obj X)).hp i=O4.hp i:=fun i h1=>VH.ak _ _ h1
 have j_:=mT.nX (k:=bb) (x:=.obj X) (by rw[cL];simp);have aiW:=vw.lt;have hT5:oC (O4.set bb (.obj X)) tb kr kd L R D cr cd tk kn:=⟨(jF _ (Ne.symm Wj)).trans vw.cell,(jF _ (Ne.symm hbr)).trans vw.raw,(jF _ (Ne.symm wP)).trans vw.done,⟨by omega,by omega,by omega⟩,hne⟩;generalize O4.set bb (.obj X)=O5 at*;refine ab.op (i:=5) ?_;refine ae @cD ?_;refine⟨lz,?_⟩;have dL:O5.Ge (O5.push (.cells [.ptr tb 0,.sl 0 [] .nil])):=(VH.Ge.refl _).push _;have Gq:(O5.push (.cells [.ptr tb 0,.sl 0 [] .nil])).hp O5.next=some (.cells [.ptr tb 0,.sl 0 [] .nil]):=VH.aX _ _;have lS:(O5.push (.cells [.ptr tb 0,.sl 0 [] .nil])).next=O5.next+1:=rfl;generalize O5.push (.cells [.ptr tb 0,.sl 0 [] .nil])=O6 at*;have wV:=hT5.ge dL;have nV:=j_.ge dL;have akm:=wV.lt;refine ab.call (i:=8) (WN yn yv wV Gq (by omega) hRj fF hvj jy) ?_;rintro _ O7 ⟨rfl,⟨kn',GC⟩,rM,vu⟩;simp only[aj];have Tb:∀i,i<O5.next->i≠tb->i≠kd->O7.hp i=O5.hp i:=fun i h1 h2 h3=>(vu i (by omega) h2 h3 (by omega)).trans (dL.hp i h1)
 have xm:O7.hp bb=some (.obj X)/\O7.hp ba=some (.cells [.ptr tb 0])/\O7.hp O3.next=some (.cells [.str yn,.str yv]):=⟨(Tb _ (by omega) Wj wP).trans lz.1,(Tb _ (by omega) afk Wc).trans lz.2.1,(Tb _ (by omega) (by omega) (by omega)).trans lz.2.2⟩;refine⟨xm,?_⟩;have jP:App O7 O.next 2 t:=nV.mv rM fun i h1 e=>(vu i h1 (fun e2=>by subst e2;rw[wV.cell]at e;cases e) (fun e2=>by subst e2;rw[wV.done]at e;cases e) (fun e2=>by subst e2;rw[Gq]at e;cases e)).trans e
 refine ab.aw 9 ?_;refine ae @cD ?_;refine ab.op (i:=10) ?_;refine ae @cD ?_;refine⟨xm,?_⟩;have cB:=bg (tk:=t) (tk':=.full) (B:=O.next) (n:=(L.take j).length) (k:=1) (cs:=(L.take j).flatMap a_) (ds:=[.str yn,.str yv]) zQ B7.1.1 (O:=O7) jP (aJ eZ _) rfl rfl (by decide) (by decide) (by omega) (by simp only[maxLen];omega);refine ab.op (i:=11) ?_;rw[cN];refine ao @cD @cB ?_;have kF:∀i,i<O7.next->O7.hp i≠some .tok->(O7.after t).hp i=O7.hp i:=fun i h1 h2=>App.off jP h1 h2
 refine⟨⟨(kF _ (by omega) (by rw[xm.1];simp)).trans xm.1,(kF _ (by omega) (by rw[xm.2.1];simp)).trans xm.2.1,(kF _ (by omega) (by rw[xm.2.2];simp)).trans xm.2.2⟩,?_⟩;refine ab.jD [(12,.one)] ?_;refine ae @cD ?_;refine VC.gen ?_;intro O8 e8;have re:=cA.after jP;have hnA:=re.next;have yp:∀i,i≠bb->O8.hp i=(O7.after t).hp i:=fun i h1=>by rw[e8,VH.ak _ _ h1,VH.ak _ _ h1]
 have sC:O8.hp bb=some (.cells [.sl ((L.take j).length+1) ((L.take j).flatMap a_++[.str yn,.str yv]) (.own O7.next 2)]):=by rw[e8];exact VH.an _ _ _
 have CC:O8.next=(O7.after t).next:=by rw[e8];rfl
 clear e8;have aa3:=GC.lt;have hT8:oC O8 tb kr kd L R (D++[(yn,yv,cd)]) cr (cd+1) tk kn':=⟨(yp _ (Ne.symm Wj)).trans ((kF _ aa3.1 (by rw[GC.cell];simp)).trans GC.cell),(yp _ (Ne.symm hbr)).trans ((kF _ aa3.2.1 (by rw[GC.raw];simp)).trans GC.raw),(yp _ (Ne.symm wP)).trans ((kF _ aa3.2.2 (by rw[GC.done];simp)).trans GC.done),⟨by omega,by omega,by omega⟩,hne⟩;have Cd:App O8 O.next 2 (.own O7.next 2):=(App.after (tk:=t) (B:=O.next) (sz:=2) (by omega:O.next<=O7.next)).mv (by omega) fun i hi e=>(yp i (fun e2=>by subst e2;have e3:=kF i (by omega) (by rw[xm.1];simp);rw[e3,xm.1]at e;cases e)).trans e
 have oL:∀i,i<O.next->i≠tb->i≠kd->i≠bb->O8.hp i=O.hp i:=fun i h1 h2 h3 h4=>by
  rw[yp i h4,re.hp i (by omega) (fun e=>by have:=(App.pB jP e).1;omega),Tb i (by omega) h2 h3,jF i h4,aZ.hp i (by omega)];exact As i h1 h2 h3 h4
 refine WC.sound aa (ao @cD @cY ?_);refine ay.next (j+1) ⟨bf,by omega,oL,D++[(yn,yv,cd)],cd+1,kn',.own O7.next 2,hT8,fun p hp=>?_,?_,Cd⟩
 ·rw[fl];rcases List.mem_append.1 hp with hp | hp
  ·obtain⟨x,hx,e⟩:=hD p hp;exact⟨x,List.mem_append_left _ hx,e⟩
  ·rw[List.mem_singleton.1 hp];exact⟨(yn,yv),List.mem_append_right _ (List.mem_singleton.2 rfl),rfl⟩
 ·rw[fl,List.flatMap_append,List.length_append];simpa[a_]using sC
theorem adY {O:VH} {tb kr kd:Nat} {L:List (Bs×Bs)} {R:t_} {cr:Nat} {tk:Tok} (h:oC O tb kr kd L R [] cr 0 tk 0) (hn:L.length<=10000) (hR:∀x∈L,wU x.1 R=some x.2) (hL:L.Pairwise fun x y=>x.1≠y.1) (hv:∀x∈L,rb x.2/\x.2.length<=4096):
  VF Tryz.prog 126 [.ptr tb 0] O (aH fun m O'=>(∃t,m= .tuple [.sl L.length (L.flatMap a_) t,mi 0,.str []])/\O.next<=O'.next/\∀i,i<O.next->i≠tb->i≠kd->O'.hp i=O.hp i):=by
 have eb:=h.lt;refine VF.bL 17 [.cell 2 104,.tmp 3,.tmp 4] Tryz.func126 ?_;refine VC.ag aa (ae @cD ?_);refine VC.gen ?_;intro O1 e1;obtain⟨aU,du,cC,ct⟩:=gJ _ _ e1;clear e1;refine VC.ag aa (ao @cD @cC ?_);refine VC.ag aa (ae @cD ?_);refine ah.rt (Nw (O:=O1) (g:=149) (xs:=[.ptr O.next 0,.ptr (O.next+1) 0]) (Φ :=fun A B=>(∃t,B.hp (O.next+1)=some (.cells [.sl L.length (L.flatMap a_) t]))/\A.next<=B.next/\∀i,i<A.next->i≠tb->i≠kd->i≠O.next+1->B.hp i=A.hp i) (by kernel_rfl) (fun O2 aC=>adX (aC.at cC) (aC.at ct) (by have:=aC.next;omega) (by have:=aC.next;omega) (h.ge (aU.trans aC)) hn hR hL hv) (fun A B hA hB=>⟨hB.2.1,fun i h1 h2=>hB.2.2 i h2 (by omega) (by omega) (by omega)⟩)) ?_;rintro _ O3 ⟨rfl,A,B,re,⟨⟨t,np⟩,Bp,hB3⟩,iH,As⟩;have cc:=(As _ (by omega)).trans np;refine ae @cD ?_;refine VC.ag aa (ae @cD ?_);refine VC.ag aa (ao @cD @cc ?_);refine WC.sound aa (ae @cD ?_);have hnA:=re.next;refine⟨⟨t,rfl⟩,by show O.next<=O3.next;omega,fun i h1 h2 h3=>?_⟩;rw[VH.ak _ _ (by omega),As i (by omega),hB3 i (by omega) h2 h3 (by omega),re.hp i (by omega),aU.hp i h1]
set_option linter.defProp false in
def n0:=And.intro ou<|And.intro ah5<|And.intro ah4<|And.intro T33<|And.intro T31 T65
def vx (r:Bool×Bs×List Bs) (tk:Tok):List MV:=[mb r.1,.str r.2.1,.sl r.2.2.length (r.2.2.flatMap fun _=>[]) tk]
def JF (s:Bs):Bool:=trimB s==s&&(s.headD 0 != 91&&(s.headD 0 != 40&&uP s))
def qC (s:Bs):(Bool×Bs×List Bs)×Int:=if JF s then((false,s,[]),0)else((true,[],[]),21)
theorem aa4 {s:Bs} (h:qC s=((false,s,[]),0)):JF s=true:=by
 unfold qC at h;cases e:JF s
 ·rw[e]at h;simp at h
 ·rfl
theorem adZ (v:Bs) (tk:Tok) (O:VH) (hv:v.length<=maxLen):VF Tryz.prog 163 [.agg [.v (.bool false),.str v,.sl 0 [] tk]] O (aH fun m O'=>m=mb (uP v)/\O.Ge O'):=by
 refine VF.bL 76 [.tmp 2] Tryz.func163 ?_;refine VC.ag aa (ae @n0 ?_);refine VC.bx ?_;rintro O1 ⟨aU,fK,du⟩;refine VC.ag aa (ao @n0 @fK ?_);refine ah.rt (Qo v O1 hv) ?_;rintro _ O2 ⟨rfl,aC⟩;refine ae @n0 ?_;exact aU.trans aC
theorem ad0 {O:VH} {a b:Nat} {K:VH->Prop} (h:K O):fZ Tryz.prog 157 [.ptr a 0,.ptr b 0] none O K:=by
 refine fZ.rec (d:=5) Tryz.func157 (Nat.lt_of_lt_of_eq (by decide:5<12) rfl) ?_;show WC _ _ ⟨12,0⟩ _ _ _ _ _;simp only[cf,Nat.zero_add,Nat.reduceAdd,zL];refine ao @n0 @wi ?_;refine VL.pure (by simp) (fun _=>.inl rfl) rfl rfl (fG.Eh (bb:=true) Tryz.underlying20 rfl (.inl ⟨rfl,rfl⟩)) ?_;refine WL.sound aa ?_;refine ao @n0 @wi ?_;exact h
theorem aa5 {O:VH} {b:Nat} {s:Bs} (hk:O.hp b=some (.cells [.str s])):VF Tryz.prog 159 [.ptr b 0] O (aH fun m O'=>m=fB (s.headD 0)/\O'=O):=by
 refine VF.dh 13 [.tmp 2] Tryz.func159 ?_;cases s with
 | nil=>
   refine aN @n0 @hk (show(([]:List UInt8)==[])=true from rfl) ?_;rfl
 | cons c s=>
   refine aN @n0 @hk (show((c::s)==[])=false from rfl) ?_;rfl
theorem aa6 (s:Bs) (O:VH) (hs:s.length<=10000) (hp:qC s=((false,s,[]),0)):VF Tryz.prog 131 [.str s] O (aH fun m O'=>∃tk,m= .tuple [.agg (vx (qC s).1 tk),mi (qC s).2]/\O.Ge O'):=by
 have hsf:=aa4 hp;rw[hp];unfold JF at hsf;simp only[Bool.and_eq_true,beq_iff_eq,bne_iff_ne,ne_eq]at hsf;obtain⟨h1,h2,h3,h4⟩:=hsf;have Nx:=Je s;rw[h1]at Nx;have AL:s.length<=maxLen:=Nat.le_trans hs (by decide);have hm:=fun O' tk=>adZ s tk O' AL
 rw[h4]at hm;have hc:=(s.headD 0).toNat_lt;have b1:((s.headD 0).toNat:Int)≠91:=fun e=>h2 (by rw[<-UInt8.toNat_inj];show _=91;omega)
 have b2:((s.headD 0).toNat:Int)≠40:=fun e=>h3 (by rw[<-UInt8.toNat_inj];show _=40;omega)
 have c1:((((s.headD 0).toNat:Int)) != 91)=true:=by rw[bne_iff_ne];exact b1
 have c2:((((s.headD 0).toNat:Int)) != 40)=true:=by rw[bne_iff_ne];exact b2
 simp only[vx,ar,aY,List.length_nil,List.flatMap_nil];refine VF.deferred (lo:=4) (k:=54) (rs:=[.cell 2 33,.cell 3 65]) Tryz.func131 (Enters.sr (by kernel_rfl)) ?_;simp only[cf,Nat.zero_add,Nat.reduceAdd];refine ae @n0 ?_;refine⟨_,rfl,fun D=>?_⟩;refine VC.gen ?_;intro O1 e1;obtain⟨aU,du,cC,ct⟩:=gJ _ _ e1;clear e1;refine VC.ag aa (ao @n0 @wd ?_);refine ah.rt (Nx O1 AL) ?_;rintro _ O2 ⟨rfl,e2⟩;rw[e2];clear e2 O2;refine ao @n0 @wd ?_;refine VC.bx ?_;rintro O2 ⟨aC,ki,jB⟩;have iS:=aC.at cC;have bZ:=aC.at ct;refine VC.ag aa (ao @n0 @wd ?_);refine ah.rt (aa5 ki) ?_;rintro _ O3 ⟨rfl,e3⟩;rw[e3];clear e3 O3;refine ZF @n0 @wd @aG @c1 @c2 @ki @iS ?_;refine VC.gen ?_;intro O4 e4;have lU:O4.hp O.next=some (.cells [.v (.bool false),.str s,.sl 0 [] .nil]):=by rw[e4];exact VH.an _ _ _
 have cL:O4.hp (O.next+1)=some (.cells [.v (.int .i64 0)]):=by rw[e4,VH.ak _ _ (by omega)];exact bZ
 have aZ:O.Ge O4:=by rw[e4];exact(aU.trans aC).set (Nat.le_refl _) _
 have ib:O.next+1<O4.next:=by rw[e4];show _<O2.next;omega
 clear e4;refine VC.ag aa (aN @n0 @wd @lU ?_);refine ah.rt (hm O4 .nil) ?_;rintro _ O5 ⟨rfl,bz⟩;have ft:=bz.at lU;have cV:=bz.at cL;refine aN @n0 @wd @ft ?_;refine VC.ag aa (cU @n0 @wd @ft @cV ?_);refine WC.sound aa (ao @n0 @wd ?_);refine ad0 ?_;refine ao @n0 @wd ?_;exact⟨.nil,rfl,((aZ.trans bz).set (Nat.le_refl _) _).set (Nat.le_succ _) _⟩
set_option linter.defProp false in
def dZ:=And.intro cD<|And.intro aeP<|And.intro ahL<|And.intro ahY<|And.intro ahX<|And.intro aeO<|And.intro T33<|And.intro T31<|And.intro AX T65
def nmG:Bs:=[112,114,111,106,101,99,116,46,103,114,111,117,112,73,100]
def nmA:Bs:=[112,114,111,106,101,99,116,46,97,114,116,105,102,97,99,116,73,100]
def nmV:Bs:=[112,114,111,106,101,99,116,46,118,101,114,115,105,111,110]
def g_ (p:Pm):List (Bs×Bs):=[(nmG,p.g),(nmA,p.a),(nmV,p.v)]
theorem vy (p:Pm):(g_ p).Pairwise fun x y=>x.1≠y.1:=by
 simp only[g_,List.pairwise_cons,List.mem_cons,List.not_mem_nil,or_false,forall_eq_or_imp,forall_eq];exact⟨⟨by decide,by decide⟩,by decide,by simp,by simp⟩
theorem Ny (p:Pm) (O:VH) (hh:p.hp=false) (hp:p.props=[]):VF Tryz.prog 121 [.agg (gh p)] O (aH fun m O'=>(∃t,m= .sl 3 ((g_ p).flatMap a_) t)/\O.Ge O'):=by
 have hne:=vy p;have hov:=fun(O':VH) (tk tM:Tok)=>S9 [] (g_ p) tk tM O' (by simp[g_]) (by simp) hne
 obtain⟨b,⟨pg,pa,pv⟩,pG,pA,pV,pk,P,M,D⟩:=p;dsimp only at hh hp;subst hh;subst hp;simp only[g_,nmG,nmA,nmV,List.length_nil,List.flatMap_nil,List.nil_append,List.length_cons,Nat.zero_add,List.flatMap_cons,List.append_nil,a_,List.cons_append]at hov ⊢;simp only[gh,List.length_nil,List.flatMap_nil,aY];refine VF.bL 35 [.tmp 2] Tryz.func121 ?_;refine VC.ag aa (ae @dZ ?_);refine VC.bx ?_;rintro O1 ⟨aU,fK,du⟩;refine VC.ag aa (ao @dZ @fK ?_);refine ah.rt (hov _ _ _) ?_;rintro _ O2 ⟨⟨t,rfl⟩,aC⟩;have ki:=aC.at fK;refine ae @dZ ?_;refine WC.sound aa (ao @dZ @ki ?_);exact⟨⟨t,rfl⟩,aU.trans aC⟩
theorem ad1 (k:Nat) (O:VH):VF Tryz.prog 51 [.ptr k 0] O (aH fun m O'=>m= .ptr (O.next+1) 0/\O.Ge O'/\O'.hp O.next=some (.map [] 0)/\O'.hp (O.next+1)=some (.cells [.ptr k 0,.map O.next])/\O'.next=O.next+2):=by
 refine VF.bL 7 [.tmp 2] Tryz.func51 ?_;have nq:Gc (kO [(0,1),(1,1)]) [.v (.pointer none),.v (.map none)] (.ptr k 0) [(1,.map O.next)] (some (0,1))=some [.ptr k 0,.map O.next]:=rfl;refine VC.ag aa (ae @dZ ?_);refine WC.sound aa (ao @dZ @nq ?_);obtain⟨hg,hn,h1,h2⟩:=gJ (O:=O) (.map [] 0) (.cells [.ptr k 0,.map O.next]) rfl;exact hg
def gL (s:Bs):Prop:=rb s/\s.length<=4096
def rZ (tb bb:Nat) (g:Gv) (p:Pm) (tw:Tok):List MV:=[.ptr tb 0,.ptr bb 0]++bN g++gh p++[.sl 1 (bN g) tw]
theorem JG {O:VH} {wb tb bb:Nat} {g:Gv} {p:Pm} {tw:Tok} (hw:O.hp wb=some (.cells (rZ tb bb g p tw))) (s w:Bs) (hs:gL s):VF Tryz.prog 124 [.ptr wb 0,.str s,.str w] O (aH fun m O'=>m= .str s/\O.Ge O'):=by
 obtain⟨g1,g2,g3⟩:=g;obtain⟨b,⟨pg,pa,pv⟩,pG,pA,pV,pk,P,M,D⟩:=p;simp only[rZ,bN,gh,List.cons_append,List.nil_append]at hw;refine VF.bL 27 [.tmp 6] Tryz.func124 ?_;refine VC.ag aa (ae @dZ ?_);refine VC.ag aa (ao @dZ @hw ?_);refine ah.rt (WO tb s O hs.1 hs.2) ?_;rintro _ O2 ⟨rfl,hg⟩;refine WC.sound aa (ae @dZ ?_);exact hg
theorem Bz {O:VH} {wb tb bb:Nat} {g:Gv} {p:Pm} {tw:Tok} (hw:O.hp wb=some (.cells (rZ tb bb g p tw))) (s w:Bs) (hs:gL s):VF Tryz.prog 123 [.ptr wb 0,.str w,.str s,.str s] O (aH fun _ O'=>O.Ge O'):=by
 refine VF.bL 17 [] Tryz.func123 ?_;refine VC.ag aa (ae @dZ ?_);refine ah.rt (JG hw s w hs) ?_;rintro _ O2 ⟨rfl,hg⟩;have hb:(!s==s)=false:=by simp
 refine WC.sound aa (ao @dZ @hb ?_);exact hg
theorem Tc {O:VH} {wb tb bb:Nat} {g:Gv} {p:Pm} {tw:Tok} (hw:O.hp wb=some (.cells (rZ tb bb g p tw))) (s w:Bs) (e:Bool) (hs:gL s) (hi:eP s=true\/e=true/\s=[]):VF Tryz.prog 180 [.ptr wb 0,.str s,.str w,mb e] O (aH fun m O'=>m= .str s/\O.Ge O'):=by
 have AL:s.length<=maxLen:=Nat.le_trans hs.2 (by decide);refine VF.bL 29 [.tmp 8] Tryz.func180 ?_;refine VC.ag aa (ae @dZ ?_);refine VC.ag aa (ae @dZ ?_);refine ah.rt (JG hw s w hs) ?_;rintro _ O2 ⟨rfl,hg⟩;refine ae @dZ ?_;refine VC.ag aa (ae @dZ ?_);refine ah.rt (sE s O2 AL) ?_;rintro _ O3 ⟨rfl,aL⟩;have WQ:=hg.trans aL;rcases hi with hi | ⟨rfl,rfl⟩
 ·refine ao @dZ @hi ?_;refine WC.sound aa (ae @dZ ?_);exact WQ
 ·rcases hb:eP []with _ | _
  ·refine ao @dZ @hb ?_;refine WC.sound aa (ae @dZ ?_);exact WQ
  ·refine ao @dZ @hb ?_;refine WC.sound aa (ae @dZ ?_);exact WQ
theorem Nz (wb:Nat) (O:VH) (v w:Bs) (hv:v.length<=10000) (hp:qC v=((false,v,[]),0)):VF Tryz.prog 156 [.ptr wb 0,.str v,.str w] O (aH fun m O'=>m= .agg (vx (false,v,[]) .au)/\O.Ge O'):=by
 refine VF.fg ?_;have CN:=fun O'=>aa6 v O' hv hp
 rw[hp]at CN;simp only[vx,List.length_nil,List.flatMap_nil,aY,ar]at CN ⊢;refine VF.bL 22 [.cell 6 33] Tryz.func156 ?_;refine VC.ag aa (ae @dZ ?_);refine VC.bx ?_;rintro O1 ⟨aU,fK,du⟩;refine VC.ag aa (ae @dZ ?_);refine ah.rt (CN _) ?_;rintro _ O2 ⟨tk,rfl,aC⟩;have ki:=aC.at fK;refine ae @dZ ?_;refine VC.al ?_;rintro O3 ⟨aL,kV,iH⟩;have aa7:=(aL.hp _ (by have:=aC.next;omega)).trans ki;refine WC.sound aa (aN @dZ @kV @aa7 ?_);exact((aU.trans aC).trans aL).set (by omega) _
theorem Rf (n:Nat) (O:VH) (hn:n<=1000000000):VF Tryz.prog 151 [mi n] O (aH fun m O'=>m= .str (ll n)/\O'=O):=by
 have EF:=rN n;refine VF.dh 17 [.tmp 2] Tryz.func151 ?_;refine ae @dZ ?_;refine WC.iG [0,3] [] (fun x:Nat×Bs=>[mi x.1,.str x.2]) (fun x O'=>O'=O/\ll n=ll x.1++x.2/\x.1<=n) (fun x=>x.1) ((n,[])) ?_ ?_
 ·exact⟨rfl,by simp,Nat.le_refl _⟩
 rintro⟨k,s⟩ O2 ⟨eO,hk,xJ⟩;dsimp only at hk xJ ⊢;rw[eO];clear eO O2
 rcases Nat.eq_zero_or_pos k with rfl | hp
 ·have h0:ll 0=[]:=rfl;rw[h0,List.nil_append]at hk;refine ae @dZ ?_;exact congrArg MV.str hk.symm
 ·have hd:=Mi (k % 10) (by omega);have hl:(ll n).length=(ll k).length+s.length:=by rw[hk,List.length_append]
  have hr:(k:Int).tmod 10=((k % 10:Nat):Int):=by rw[Int.tmod_eq_emod_of_nonneg (by omega)];rfl
  have hq:(k:Int).tdiv 10=((k / 10:Nat):Int):=by rw[Int.tdiv_eq_ediv_of_nonneg (by omega)];rfl
  refine cU @dZ @hr @hq @hd ?_;refine ay.next (k / 10,Mh k++s) ⟨rfl,?_,by dsimp only;omega⟩;rw[hk,Bb hp,List.append_assoc]
structure Rg (d:Dp):Prop where
 g:gL d.g
 gi:eP d.g=true
 a:gL d.a
 ai:eP d.a=true
 v:gL d.v
 vn:d.v≠[]
 vp:qC d.v=((false,d.v,[]),0)
 t:gL d.t
 ti:eP d.t=true\/d.t=[]
 c:gL d.c
 ci:eP d.c=true\/d.c=[]
 x:d.x.length<=10000
def lq:Bs:=[106,97,114]
def vz (t:Bs):Bs:=if t=[]then lq else t
def dd (d:Dp):Dp:=⟨d.g,d.a,d.v,vz d.t,d.c,d.s,d.o,d.x⟩
theorem aa8 {O:VH} {wb tb bb:Nat} {g:Gv} {p:Pm} {tw:Tok} (hw:O.hp wb=some (.cells (rZ tb bb g p tw))) (nW:wb<O.next) (d:Dp) (w:Bs) (hd:Rg d) (rA:w.length<=1000):VF Tryz.prog 152 [.ptr wb 0,.agg (aQ d),.str w] O (aH fun m O'=>m= .agg (aQ (dd d))/\O.Ge O'):=by
 obtain⟨V7,oQ,hda,hai,hdv,hvn,hvp,Lq,Pk,hdc,GD,hdx⟩:=hd
 have F2:gL (vz d.t)/\eP (vz d.t)=true:=by
  unfold vz;by_cases e:d.t=[]
  ·rw[if_pos e];exact⟨⟨by show Lib.index lq [36,123]<0;decide,by decide⟩,by decide⟩
  ·rw[if_neg e];exact⟨Lq,Pk.resolve_right e⟩
 have htf:vz d.t=if d.t=[]then[106,97,114]else d.t:=rfl
 unfold dd;generalize vz d.t=T at*;obtain⟨dg,da,dv,dt,dc,kB,dO,dx⟩:=d;dsimp only at V7 oQ hda hai hdv hvn hvp Lq Pk hdc GD hdx F2 htf ⊢;simp only[aQ,ar];have At:=fun(O':VH) (g':O.Ge O')=>(g'.hp _ nW).trans hw
 clear hw;have I0:(dv==[])=false:=by simpa using hvn
 have jy:dv.length<=10000:=Nat.le_trans hdv.2 (by decide);refine VF.bL 55 [.cell 6 63] Tryz.func152 ?_;refine VC.ag aa (ae @dZ ?_);refine VC.gen ?_;intro O1 e1;obtain⟨aU,akn,cC,ct⟩:=gJ _ _ e1;have du:O.next+2<=O1.next:=by omega
 clear e1;refine VC.ag aa (ao @dZ @cC ?_);refine ah.rt (Tc (At _ aU) dg _ false V7 (.inl oQ)) ?_;rintro _ O2' ⟨rfl,hH⟩;have afl:=hH.at cC;have afm:=hH.at ct;have XW:=aU.trans hH;have hL2:=hH.next;refine ao @dZ @afl ?_;refine VC.gen ?_;intro O2 e2;have aC:O.Ge O2:=by rw[e2];exact XW.set (by omega) _
 have iS:O2.hp O.next=some (.cells [.str dg,.str da,.str dv,.str dt,.str dc,.v (.int .i64 kB),.v (.int .i64 dO),.sl dx.length (List.flatMap bP dx) .au]):=by rw[e2];exact VH.an _ _ _
 have bZ:O2.hp (O.next+1)=some (.cells [.str [],.str [],.str [],.str [],.str [],.v (.int .i64 0),.v (.int .i64 0),.sl 0 [] .nil]):=by rw[e2];exact VH.sn afm
 have jB:O.next+2<=O2.next:=by rw[e2];show _<=O2'.next;omega
 clear e2 afl afm;refine VC.ag aa (ao @dZ @iS ?_);refine ah.rt (Tc (At _ aC) da _ false hda (.inl hai)) ?_;rintro _ O3' ⟨rfl,hH⟩;have afn:=hH.at iS;have afo:=hH.at bZ;have hK3:=aC.trans hH;have hL3:=hH.next;refine ao @dZ @afn ?_;refine VC.gen ?_;intro O3 e3;have aL:O.Ge O3:=by rw[e3];exact hK3.set (by omega) _
 have tX:O3.hp O.next=some (.cells [.str dg,.str da,.str dv,.str dt,.str dc,.v (.int .i64 kB),.v (.int .i64 dO),.sl dx.length (List.flatMap bP dx) .au]):=by rw[e3];exact VH.an _ _ _
 have cc:O3.hp (O.next+1)=some (.cells [.str [],.str [],.str [],.str [],.str [],.v (.int .i64 0),.v (.int .i64 0),.sl 0 [] .nil]):=by rw[e3];exact VH.sn afo
 have iH:O.next+2<=O3.next:=by rw[e3];show _<=O3'.next;omega
 clear e3 afn afo;refine VC.ag aa (ao @dZ @tX ?_);refine ah.rt (JG (At _ aL) dv _ hdv) ?_;rintro _ O4' ⟨rfl,hH⟩;have afp:=hH.at tX;have afq:=hH.at cc;have hK4:=aL.trans hH;have hL4:=hH.next;refine ao @dZ @afp ?_;refine VC.gen ?_;intro O4 e4;have aZ:O.Ge O4:=by rw[e4];exact hK4.set (by omega) _
 have lU:O4.hp O.next=some (.cells [.str dg,.str da,.str dv,.str dt,.str dc,.v (.int .i64 kB),.v (.int .i64 dO),.sl dx.length (List.flatMap bP dx) .au]):=by rw[e4];exact VH.an _ _ _
 have cL:O4.hp (O.next+1)=some (.cells [.str [],.str [],.str [],.str [],.str [],.v (.int .i64 0),.v (.int .i64 0),.sl 0 [] .nil]):=by rw[e4];exact VH.sn afq
 have ib:O.next+2<=O4.next:=by rw[e4];show _<=O4'.next;omega
 clear e4 afp afq;refine VC.bu [0,2,4,6] (fun _:Unit=>[.ptr wb 0,.str w,.ptr O.next 0,.ptr (O.next+1) 0]) (fun _ O'=>O4.Ge O') ?_ ?_
 ·refine WC.sound aa (aN @dZ @lU @I0 ?_);refine ah.rt (Nz wb _ dv _ jy hvp) ?_;rintro _ O5 ⟨rfl,bz⟩;refine ae @dZ ?_;exact aA.mk () bz
 rintro _ O5 bz;have ft:=bz.at lU;have cV:=bz.at cL;have afr:=aZ.trans bz;have gD:=bz.next;refine VC.bu [0,2,4,6] (fun _:Unit=>[.ptr wb 0,.str w,.ptr O.next 0,.ptr (O.next+1) 0]) (fun _ O'=>O.Ge O'/\O.next+2<=O'.next/\O'.hp O.next=some (.cells [.str dg,.str da,.str dv,.str T,.str dc,.v (.int .i64 kB),.v (.int .i64 dO),.sl dx.length (List.flatMap bP dx) .au])/\O'.hp (O.next+1)=some (.cells [.str [],.str [],.str [],.str [],.str [],.v (.int .i64 0),.v (.int .i64 0),.sl 0 [] .nil])) ?_ ?_
 ·by_cases e:dt=[]
  ·subst e;rw[if_pos rfl]at htf;subst htf;have he0:(([]:Bs)==[])=true:=rfl;refine WC.sound aa (aN @dZ @ft @he0 ?_);exact aA.mk () ⟨afr.set (by omega) _,by show _<=O5.next;omega,VH.an _ _ _,VH.sn cV⟩
  ·rw[if_neg e]at htf;have he0:(dt==[])=false:=by simpa using e
   subst htf;refine WC.sound aa (aN @dZ @ft @he0 ?_);exact aA.mk () ⟨afr,by omega,ft,cV⟩
 rintro _ O6 ⟨dL,lS,sR,iQ⟩;refine VC.ag aa (ao @dZ @sR ?_);refine ah.rt (Tc (At _ dL) T _ false F2.1 (.inl F2.2)) ?_;rintro _ O7' ⟨rfl,hH⟩;have afs:=hH.at sR;have aft:=hH.at iQ;have hK7:=dL.trans hH;have hL7:=hH.next;refine ao @dZ @afs ?_;refine VC.gen ?_;intro O7 e7;have dM:O.Ge O7:=by rw[e7];exact hK7.set (by omega) _
 have Jt:O7.hp O.next=some (.cells [.str dg,.str da,.str dv,.str T,.str dc,.v (.int .i64 kB),.v (.int .i64 dO),.sl dx.length (List.flatMap bP dx) .au]):=by rw[e7];exact VH.an _ _ _
 have xW:O7.hp (O.next+1)=some (.cells [.str [],.str [],.str [],.str [],.str [],.v (.int .i64 0),.v (.int .i64 0),.sl 0 [] .nil]):=by rw[e7];exact VH.sn aft
 have rM:O.next+2<=O7.next:=by rw[e7];show _<=O7'.next;omega
 clear e7 afs aft;refine VC.ag aa (ao @dZ @Jt ?_);refine ah.rt (Tc (At _ dM) dc _ true hdc (GD.imp id fun e=>⟨rfl,e⟩)) ?_;rintro _ O8' ⟨rfl,hH⟩;have afu:=hH.at Jt;have afv:=hH.at xW;have hK8:=dM.trans hH;have hL8:=hH.next;refine ao @dZ @afu ?_;refine VC.gen ?_;intro O8 e8;have gY:O.Ge O8:=by rw[e8];exact hK8.set (by omega) _
 have ha8:O8.hp O.next=some (.cells [.str dg,.str da,.str dv,.str T,.str dc,.v (.int .i64 kB),.v (.int .i64 dO),.sl dx.length (List.flatMap bP dx) .au]):=by rw[e8];exact VH.an _ _ _
 have sC:O8.hp (O.next+1)=some (.cells [.str [],.str [],.str [],.str [],.str [],.v (.int .i64 0),.v (.int .i64 0),.sl 0 [] .nil]):=by rw[e8];exact VH.sn afv
 have CC:O.next+2<=O8.next:=by rw[e8];show _<=O8'.next;omega
 clear e8 afu afv;refine WC.sound aa (aN @dZ @ha8 @sC ?_);exact gY.set (by omega) _
set_option linter.defProp false in
def lr:=And.intro dZ<|And.intro uO<|And.intro ZG<|And.intro ah2<|And.intro ah3<|And.intro ah1<|And.intro LZ<|And.intro HB Em
theorem aa9 (f:MV) (t:Tok) (O:VH):VF Tryz.prog 182 [.sl 0 [] t,f] O (aH fun m O'=>m=mi (-1)/\O'=O):=by
 refine VF.dh 19 [.tmp 4] Tryz.func182 ?_;refine ae @lr ?_;refine WC.iG [8] [0,1,7] (fun x:Nat=>[mi 0]) (fun x O'=>O'=O) (fun x=>x) (0) ?_ ?_
 ·rfl
 rintro k O2 eO;rw[eO];refine ae @lr ?_;trivial
theorem WS (d:Dp) (t:Tok) (O:VH) (hx:d.x.length<=10000):VF Tryz.prog 155 [.agg (aQ d),.sl 0 [] t] O (aH fun m O'=>m= .agg (aQ d)/\O.Ge O'):=by
 have hk:=fun O'=>Jz d O'
 obtain⟨dg,da,dv,dt,dc,kB,dO,dx⟩:=d;dsimp only at hx;simp only[aQ,ar]at hk ⊢;generalize iB ⟨dg,da,dv,dt,dc,kB,dO,dx⟩=K at hk;obtain⟨k1,k2,k3,k4⟩:=K;simp only[f_]at hk;refine VF.bL 49 [.cell 4 63] Tryz.func155 ?_;refine VC.ag aa (ae @lr ?_);refine VC.gen ?_;intro O1 e1;obtain⟨aU,du,cC,ct⟩:=gJ _ _ e1;clear e1;refine VC.ag aa (ao @lr @cC ?_);refine ah.rt (hk _) ?_;rintro _ O2 ⟨rfl,aC⟩;have aiX:=aU.trans aC;have iS:=aC.at cC;have bZ:=aC.at ct;have jB:=aC.next;clear cC ct hk aU aC;refine ae @lr ?_;refine VC.al ?_;rintro O3 ⟨aL,kV,iH⟩;have aiY:=aiX.trans aL;have tX:=aL.at iS;have cc:=aL.at bZ;clear iS bZ;refine VC.ag aa (ae @lr ?_);refine ah.rt (aa9 _ t _) ?_;rintro _ O4 ⟨rfl,rfl⟩;refine ae @lr ?_;refine VC.bj ?_;refine WC.sound aa (ae @lr ?_);refine VC.ag aa (ao @lr @tX ?_);refine ah.rt (sN dx .au _ (by omega)) ?_;rintro _ O4 ⟨rfl,aZ⟩;have lU:=aZ.at tX;have cL:=aZ.at cc;refine ao @lr @lU ?_;refine WC.sound aa (ao @lr @cL ?_);exact((aiY.trans aZ).set (Nat.le_refl _) _).set (Nat.le_succ _) _
structure Rh (O:VH) (gb mb B:Nat) (L:List Dp) (M:fe) (cm:Nat) (tk:Tok):Prop where
 cell:O.hp gb=some (.cells [.sl L.length (L.flatMap aQ) tk,.map mb])
 map:O.hp mb=some (.map (cy M) cm)
 ok:nT 4 M
 app:App O B 8 tk
 lt:gb<O.next/\mb<O.next
 ne:gb≠mb
theorem Rh.ge {O O':VH} {gb mb B:Nat} {L:List Dp} {M:fe} {cm:Nat} {tk:Tok} (h:Rh O gb mb B L M cm tk) (g:O.Ge O'):Rh O' gb mb B L M cm tk:=
 ⟨(g.hp _ h.lt.1).trans h.cell,(g.hp _ h.lt.2).trans h.map,h.ok,h.app.ge g,⟨Nat.lt_of_lt_of_le h.lt.1 g.next,Nat.lt_of_lt_of_le h.lt.2 g.next⟩,h.ne⟩
theorem ag5 {O:VH} {gb mb B:Nat} {L:List Dp} {M:fe} {cm:Nat} {tk:Tok} (h:Rh O gb mb B L M cm tk) (d:Dp) (hd:Ck d) (hL:L.length<=10000) (hB:B<=O.next) (fF:∀p∈M,p.1≠dj (iB d)):
  VF Tryz.prog 153 [.ptr gb 0,.agg (aQ d)] O (aH fun _ O'=>(∃tk',Rh O' gb mb B (L++[d]) (M++[(dj (iB d),.v (.bool true),cm)]) (cm+1) tk'/\(∀i,Tok.id tk'=some i->O.next<=i))/\O.next<=O'.next/\∀i,i<O.next->i≠gb->i≠mb->Tok.id tk≠some i->O'.hp i=O.hp i):=by
 have CL:=fun O'=>Jz d O'
 have ED:=Nl hd;have hkm:(f_ (iB d))=(dj (iB d)).map .str:=rfl;have hud:cI (aQ d)=aQ d:=by simpa using kQ [d]
 have hla:=wa fF
 have tV:M.any (·.1==dj (iB d))=false:=by
  rw[List.any_eq_false];intro p hp hpe;exact fF p hp (eq_of_beq hpe)
 have hgm:∃es:Dp,es=d:=⟨_,rfl⟩
 generalize hK:iB d=K at*;obtain⟨k1,k2,k3,k4⟩:=K;obtain⟨dg,da,dv,dt,dc,kB,dO,dx⟩:=d;simp only[aQ,ar,f_]at CL hud ⊢;refine VF.bL 29 [] Tryz.func153 ?_;refine VC.ag aa (ae @lr ?_);refine VC.bx ?_;rintro O1 ⟨aU,fK,du⟩;refine VC.ag aa (ao @lr @fK ?_);refine ah.rt (CL _) ?_;rintro _ O2 ⟨rfl,aC⟩;refine ae @lr ?_;refine VC.al ?_;rintro O3 ⟨aL,kV,iH⟩;have eB:=(aU.trans aC).trans aL;have aiZ:=(aC.trans aL).at fK;have h3:=h.ge eB;have eR:=h3.cell;refine VC.bj ?_;refine WC.bH (.held []) [(0,.rd),(1,.rd),(2,.rd),(3,.rd),(4,.rd),(5,.rd),(6,.rd)] ?_;refine aN @lr @eR @kV ?_;refine VL.hold (.inr rfl) rfl rfl (fH.ly qX aa (l:=dj ⟨k1,k2,k3,k4⟩) (te:=⟨_,1,1,[.v (.bool false)]⟩) Tryz.underlying273 T4 rfl rfl h3.map h3.ok rfl rfl ED) (WL.sound aa ?_);rw[hla];refine ae @lr ?_;refine VC.DO rfl ?_;refine VC.bj ?_;refine WC.bH (.held [5]) [(0,.rd),(1,.rd),(2,.rd),(3,.rd),(4,.rd),(5,.one)] ?_;refine aN @lr @eR @kV ?_;refine VL.ot rfl rfl (oq.jq qX (l:=dj ⟨k1,k2,k3,k4⟩) (b:=mb) (ck:=cm) (M:=M) Tryz.underlying273 rfl h3.map h3.ok rfl rfl ED rfl) (fun brk hb i hi=>?_) (WL.sound aa ?_)
 ·cases hb
  rcases i with _ | _ | _ | _ | _ | _ | i<;>first
   | rfl
   | (exfalso;revert hi;simp)
 have lJ:=rH (y:=.v (.bool true)) (ck:=cm) h3.ok (l:=dj ⟨k1,k2,k3,k4⟩) rfl ED;unfold jq at lJ;unfold jq LV;rw[tV]at lJ ⊢;have hgb:=h3.ne;have mZ:=h3.lt;refine ae @lr ?_;refine VC.gen ?_;intro O4 e4;have ib:O4.next=O3.next:=by rw[e4];rfl
 have ra:∀i,i≠mb->O4.hp i=O3.hp i:=fun i h1=>by rw[e4,VH.ak _ _ h1]
 have Rc:O4.hp mb=some (.map (cy (M++[(dj ⟨k1,k2,k3,k4⟩,MV.v (.bool true),cm)])) (cm+1)):=by rw[e4];exact VH.an _ _ _
 clear e4;have ff:=(ra gb hgb).trans eR;have EZ:=(ra O.next (fun e=>by subst e;have:=h.lt;omega)).trans aiZ;have mT:App O4 B 8 tk:=h3.app.mv (by omega) fun i hi e=>(ra i (fun e2=>by subst e2;rw[h3.map]at e;cases e)).trans e
 have ai0:=bg (tk:=tk) (tk':=.full) (n:=L.length) (k:=1) (cs:=L.flatMap aQ) (ds:=[.str dg,.str da,.str dv,.str dt,.str dc,.v (.int .i64 kB),.v (.int .i64 dO),.sl dx.length (dx.flatMap bP) .au]) uO AX.1.1 mT (aJ gd L) rfl rfl (by decide) (by decide) (by omega) (by simp only[maxLen];omega);have kF:∀i,i<O4.next->O4.hp i≠some .tok->(O4.after tk).hp i=O4.hp i:=fun i h1 h2=>App.off mT h1 h2
 have JH:=(kF gb (by omega) (by rw[ff];simp)).trans ff;have hmA:=(kF mb (by omega) (by rw[Rc];simp)).trans Rc;refine WC.bH (.held [10]) [(0,.rd),(1,.rd),(2,.rd),(3,.rd),(4,.rd),(5,.rd),(6,.one),(7,.one),(8,.one),(9,.rd),(10,.one)] ?_;refine aN @lr @ff @EZ ?_;refine VL.app ai0 ?_;refine ao @lr @JH ?_;have JI:=cA.after mT;refine⟨⟨.own O4.next 8,⟨?_,?_,lJ,?_,?_,hgb⟩,fun i hi=>by injection hi with hi;have:=eB.next;omega⟩,?_,?_⟩
 ·rw[List.length_append,List.flatMap_append];exact VH.an _ _ _
 ·exact(VH.ak _ _ (Ne.symm hgb)).trans hmA
 ·exact(App.after (by have:=eB.next;omega)).nX (by rw[JH];simp)
 ·have:=JI.next;exact⟨by show _<(O4.after tk).next;omega,by show _<(O4.after tk).next;omega⟩
 ·have:=JI.next;have:=eB.next;show _<=(O4.after tk).next;omega
 ·intro i h1 h2 h3 h4;have:=eB.next;rw[VH.ak _ _ h2,JI.hp i (by omega) h4,ra i h3,eB.hp i h1]
set_option linter.defProp false in
def dk:=And.intro lr<|And.intro T3<|And.intro xe T9
theorem Ri {O:VH} {wb tb bb:Nat} {g:Gv} {p:Pm} {tw:Tok} (hw:O.hp wb=some (.cells (rZ tb bb g p tw))) (nW:wb<O.next) (hp:p.eg=[]):VF Tryz.prog 127 [.ptr wb 0] O (aH fun m O'=>m= .sl 0 [] .nil/\O.Ge O'):=by
 obtain⟨g1,g2,g3⟩:=g;obtain⟨b,⟨pg,pa,pv⟩,pG,pA,pV,pk,P,M,D⟩:=p;dsimp only at hp;subst hp;simp only[rZ,bN,gh,List.cons_append,List.nil_append,List.length_nil,List.flatMap_nil]at hw;have nq:Gc (kO [(0,1),(1,1)]) [.sl 0 [] .nil,.v (.map none)] (.map O.next) [] (some (1,1))=some [.sl 0 [] .nil,.map O.next]:=rfl;refine VF.bL 145 [.tmp 2] Tryz.func127 ?_;refine VC.ag aa (ae @dk ?_);refine VC.ag aa (ao @dk @nq ?_);refine VC.gen ?_;intro O1 e1;obtain⟨aU,du,Rb,gm⟩:=gJ _ _ e1;clear e1;have I1:=(aU.hp _ nW).trans hw;refine VC.ag aa (ae @dk ?_);refine VC.bu [3,4] (fun _:Unit=>[.ptr (O.next+1) 0,.sl 0 [] .nil]) (fun _ O'=>O'=O1) ?_ ?_
 ·refine VC.ag aa (ao @dk @I1 ?_);refine VC.az ?_;refine VC.bq [4,23] [0,3,21,22] (fun _:Nat=>[.sl 0 [] .nil,mi 0]) (fun _ O'=>O'=O1) (fun x=>x) (0) ?_ ?_
  ·rfl
  rintro j O3 e3;rw[e3];refine WC.sound aa (ae @dk ?_);exact aA.mk () rfl
 rintro _ O3 e3;rw[e3];refine VC.bu [3] (fun _:Unit=>[.ptr (O.next+1) 0]) (fun _ O'=>O'=O1) ?_ ?_
 ·refine VC.ag aa (ae @dk ?_);refine VC.az ?_;refine VC.bq [84] [3,83] (fun _:Nat=>[mi 0]) (fun _ O'=>O'=O1) (fun x=>x) (0) ?_ ?_
  ·rfl
  rintro j O3 e3;rw[e3];refine WC.sound aa (ae @dk ?_);exact aA.mk () rfl
 rintro _ O3 e3;rw[e3];refine WC.sound aa (ao @dk @gm ?_);exact aU
theorem App.at {O O':VH} {B sz:Nat} {tk:Tok} (h:App O B sz tk) (hn:O.next<=O'.next) (hi:∀i,Tok.id tk=some i->O'.hp i=O.hp i):App O' B sz tk:=by
 cases tk with
 | own t k=>exact⟨h.1,(hi t rfl).trans h.2.1,h.2.2.1,Nat.lt_of_lt_of_le h.2.2.2 hn⟩
 | nil=>trivial
 | full=>trivial
 | au=>exact h.elim
theorem App.tok {O:VH} {B sz i:Nat} {tk:Tok} (h:App O B sz tk) (e:Tok.id tk=some i):O.hp i=some .tok:=by
 cases tk with
 | own t k=>injection e with e;subst e;exact h.2.1
 | nil=>cases e
 | full=>cases e
 | au=>cases e
structure oD where
 k:Ky
 v:Bs
 s:Int
 o:Bool
 x:List fI
def dJ (n:oD):List MV:=f_ n.k++vx (false,n.v,[]) .au++[mi n.s,mb n.o,.sl n.x.length (n.x.flatMap bP) .au]
theorem nJ (x:oD):(dJ x).length=10:=rfl
theorem wE (L:List oD):cI (L.flatMap dJ)=L.flatMap dJ:=kD (fun x=>by simp only[dJ,f_,vx,List.cons_append,List.nil_append,ar,aY,wu,mR,List.length_nil,List.flatMap_nil]) L
theorem Rj (F:oD):cI (dJ F)=dJ F:=by simpa using wE [F]
def fb (d:Dp):oD:=⟨iB (dd d),d.v,max d.s 1,d.o==1,d.x⟩
theorem Rg.ok {d:Dp} (h:Rg d):Ck (dd d):=by
 have h1:=h.g.2;have h2:=h.a.2;have h3:=h.v.2;have h4:=h.t.2;have h5:=h.c.2;refine⟨?_,?_,?_,?_,?_,h.x⟩<;>(simp only[dd];first | omega | skip)
 unfold vz;split
 ·decide
 ·omega
set_option maxHeartbeats 1000000 in
theorem aa_ {O:VH} {wb tb bb:Nat} {g:Gv} {p:Pm} {tw:Tok} (hw:O.hp wb=some (.cells (rZ tb bb g p tw))) (nW:wb<O.next) (hq:∀d∈p.dX,Rg d) (hL:p.dX.length<=900) (hne:p.dX.Pairwise fun x y=>iB (dd x)≠iB (dd y)) (t:Tok):
  VF Tryz.prog 128 [.ptr wb 0,.sl 0 [] t] O (aH fun m O'=>(∃t',m= .sl p.dX.length ((p.dX.map fb).flatMap dJ) t')/\O.Ge O'):=by
 have Af:=fun(O':VH) (g':O.Ge O') (d:Dp) (w:Bs) (hd:Rg d) (rA:w.length<=1000)=>aa8 (O:=O') (wb:=wb) (tb:=tb) (bb:=bb) (g:=g) (p:=p) (tw:=tw) ((g'.hp _ nW).trans hw) (Nat.lt_of_lt_of_le nW g'.next) d w hd rA
 obtain⟨g1,g2,g3⟩:=g;obtain⟨b,⟨pg,pa,pv⟩,pG,pA,pV,pk,P,M,L⟩:=p;dsimp only at hq hL hne ⊢;simp only[rZ,bN,gh,List.cons_append,List.nil_append]at hw;have dK:=aJ gd L;have nq:Gc (kO [(0,1),(1,1)]) [.sl 0 [] .nil,.v (.map none)] (.map O.next) [] (some (1,1))=some [.sl 0 [] .nil,.map O.next]:=rfl;refine VF.bL 76 [.tmp 4] Tryz.func128 ?_;refine VC.ag aa (ae @dk ?_);refine VC.ag aa (ao @dk @nq ?_);refine VC.gen ?_;intro O1 e1;obtain⟨aU,du,Rb,gm⟩:=gJ _ _ e1;clear e1;have I1:=(aU.hp _ nW).trans hw;refine VC.ag aa (ae @dk ?_);refine VC.bu [6] (fun x:List oD×Tok=>[.sl x.1.length (x.1.flatMap dJ) x.2]) (fun x O'=>O.Ge O'/\x.1=L.map fb) ?_ ?_;rotate_left
 ·rintro⟨R,t'⟩ O9 ⟨bk,rfl⟩;dsimp only;refine WC.sound aa (ae @dk ?_);rw[List.length_map];exact⟨⟨t',rfl⟩,bk⟩
 refine VC.ag aa (ao @dk @I1 ?_);refine VC.az ?_;refine VC.bq [6,20] [0,1,5,18,19] (fun x:Nat×List oD×Tok=>[.sl x.2.1.length (x.2.1.flatMap dJ) x.2.2,mi x.1]) (fun x O'=>x.1<=L.length/\x.2.1=(L.take x.1).map fb/\O.Ge O'/\O.next+2<=O'.next/\App O' O.next 10 x.2.2/\∃Mj cm tk,Rh O' (O.next+1) O.next O.next ((L.take x.1).map dd) Mj cm tk/\(∀q∈Mj,∃d∈L.take x.1,q.1=dj (iB (dd d)))/\∀i,Tok.id tk=some i->Tok.id x.2.2≠some i) (fun x=>L.length - x.1) ((0,[],.nil)) ?_ ?_
 ·exact⟨Nat.zero_le _,rfl,aU,by omega,trivial,[],0,.nil,⟨gm,Rb,⟨by simp,by simp⟩,trivial,⟨by omega,by omega⟩,by omega⟩,by simp,fun i h=>by cases h⟩
 rintro⟨j,R,tl⟩ O2 ⟨hj,hR,aC,jB,Fp,Mj,cm,tk,hG2,hMj,F2⟩;dsimp only at hj hR Fp F2 ⊢;by_cases bf:j<L.length;rotate_left
 ·obtain rfl:j=L.length:=by omega
  rw[List.take_length]at hR;refine WC.sound aa (ae @dk ?_);exact aA.mk (R,tl) ⟨aC,hR⟩
 have hRl:R.length=j:=by rw[hR,List.length_map,List.length_take];omega
 have br:=bB gd L j bf;have fl:=cQ L j bf;have NA:=hq L[j] (List.getElem_mem bf)
 have fF:∀q∈Mj,q.1≠dj (iB (dd L[j])):=fun q hq'=>by
  obtain⟨x,hx,e⟩:=hMj q hq';obtain⟨i,hi,e2⟩:=List.mem_iff_getElem.1 hx;rw[List.length_take]at hi;rw[List.getElem_take]at e2;have:=(List.pairwise_iff_getElem.1 hne) i j (by omega) bf (by omega);rw[e2]at this;intro e3;rw[e]at e3;apply this;revert e3;generalize iB (dd x)=K1;generalize iB (dd L[j])=K2;obtain⟨a1,a2,a3,a4⟩:=K1;obtain⟨b1,b2,b3,b4⟩:=K2;simp[dj]
 have hRn:(L.take (j+1)).map fb=(L.take j).map fb++[fb L[j]]:=by rw[fl,List.map_append];rfl
 have qt:∃x∈L.take (j+1),dj (iB (dd L[j]))=dj (iB (dd x)):=⟨L[j],by rw[fl];exact List.mem_append_right _ (List.mem_singleton.2 rfl),rfl⟩
 have hold:∀q∈Mj,∃x∈L.take (j+1),q.1=dj (iB (dd x)):=fun q h=>by
  obtain⟨x,hx,e⟩:=hMj q h;exact⟨x,by rw[fl];exact List.mem_append_left _ hx,e⟩
 generalize L[j]=d at*;have ai1:=NA.ok;have CL:=fun O'=>Jz (dd d) O'
 have CP:=fun(O':VH) (tx:Tok)=>WS (dd d) tx O' NA.x
 have CN:=fun(O':VH) (w:Bs)=>Nz wb O' d.v w (Nat.le_trans NA.v.2 (by decide)) NA.vp
 have I0:(d.v==[])=false:=by simpa using NA.vn
 have ai2:=fun O'=>Rf (j+1) O' (by omega)
 have EF:=rN (j+1);have cY:((j:Int)+1)=((j+1:Nat):Int):=by omega
 have hud:cI (aQ d)=aQ d:=by simpa using kQ [d]
 have afw:=fun(O':VH) (g':O.Ge O') (w:Bs) (rA:w.length<=1000)=>Af O' g' d w NA rA
 clear Af;have ai3:=NA.x;clear NA hq;have Ra:fb d=⟨iB (dd d),d.v,max d.s 1,d.o==1,d.x⟩:=rfl;generalize fb d=F at Ra hRn;have hrF:dd d=⟨d.g,d.a,d.v,vz d.t,d.c,d.s,d.o,d.x⟩:=rfl;have ako:cI (aQ (dd d))=aQ (dd d):=by simpa using kQ [dd d]
 have Nx:(L.take (j+1)).map dd=(L.take j).map dd++[dd d]:=by rw[fl,List.map_append];rfl
 have Wb:=fun(O':VH) (hG:Rh O' (O.next+1) O.next O.next ((L.take j).map dd) Mj cm tk) (h2:O.next<=O'.next)=>ag5 hG (dd d) ai1 (by rw[List.length_map,List.length_take];omega) h2 fF
 generalize dd d=D at*;obtain⟨dg,da,dv,dt,dc,kB,dO,dx⟩:=d;dsimp only at hrF Ra CN I0 ai3;generalize vz dt=T at hrF;subst hrF;generalize iB ⟨dg,da,dv,T,dc,kB,dO,dx⟩=K at*;obtain⟨k1,k2,k3,k4⟩:=K;simp only[aQ,ar,f_,vx,aY,List.length_nil,List.flatMap_nil]at br CL CP afw CN Wb;refine VC.ag aa (ae @dk ?_);refine VC.ag aa (ae @dk ?_);refine VC.bj (VC.az ?_);refine VC.ag aa (ao @dk @br ?_);refine VC.al ?_;rintro O3 ⟨aL,kV,iH⟩;refine VC.ag aa (ao @dk @cY ?_);refine ah.rt (ai2 _) ?_;rintro _ O4 ⟨rfl,e4⟩;rw[e4];clear e4 O4;refine ae @dk ?_
 have hWl:(100::101::112::101::110::100::101::110::99::121::91::(ll (j+1)++[93])).length<=1000:=by
  simp only[List.length_cons,List.length_append,List.length_nil];omega
 generalize (100::101::112::101::110::100::101::110::99::121::91::(ll (j+1)++[93]))=W at*;refine VC.ag aa (ao @dk @kV ?_);refine ah.rt (afw O3 (aC.trans aL) W hWl) ?_;rintro _ O4 ⟨rfl,aZ⟩;refine ae @dk ?_;refine ah.rt (CP _ _) ?_;rintro _ O5 ⟨rfl,bz⟩;have jE:=(aZ.trans bz).at kV;have gD:=(aZ.trans bz).next;refine ao @dk @jE ?_;refine VC.gen ?_;intro O6 e6;have ai4:O2.Ge O6:=by rw[e6];exact((aL.trans aZ).trans bz).set (Nat.le_refl _) _
 have ku:O6.hp O2.next=some (.cells [.str dg,.str da,.str dv,.str T,.str dc,.v (.int .i64 kB),.v (.int .i64 dO),.sl dx.length (dx.flatMap bP) .au]):=by rw[e6];exact VH.an _ _ _
 have lS:O2.next+1<=O6.next:=by rw[e6];show _<=O5.next;omega
 clear e6 jE;refine VC.ag aa (aN @dk @ku @I0 ?_);refine VC.bu [0,1,5,6,8,10,18,19,20] (fun nb:Nat=>[.ptr wb 0,.sl 0 [] t,.ptr (O.next+1) 0,.sl R.length (R.flatMap dJ) tl,.ptr O2.next 0,.ptr nb 0,.sl L.length (L.flatMap aQ) .au,.v (.int .i64 L.length),.v (.int .i64 j)]) (fun nb O'=>O6.Ge O'/\O6.next<=nb/\nb<O'.next/\O'.hp nb=some (.cells (dJ F))) ?_ ?_
 ·subst Ra;refine VC.Ab [17] (O2.next) (fun O'=>O6.next<=O'.next/\∀i,i<O6.next->i≠O2.next->O'.hp i=O6.hp i) (ku) (fun X=>⟨Nat.le_refl _,fun i _ h=>VH.ak _ _ h⟩) ?_;intro X;refine ab.pP (m:=.agg [.str dg,.str da,.str dv,.str T,.str dc,.v (.int .i64 kB),.v (.int .i64 dO),.sl dx.length (dx.flatMap bP) .au]) 0 (fun _ h=>h.1) (fun _ h=>h) ?_ ?_
  ·exact fp @dk
  simp only[aj];refine ab.aw 2 ?_;refine ae @dk ?_;refine ab.aw 3 ?_;refine ae @dk ?_;refine ab.pP (m:=.str dv) 4 (fun _ h=>h.1) (fun _ h=>h) ?_ ?_
  ·exact fp @dk
  simp only[aj];refine ab.aw 5 ?_;refine ae @dk ?_;refine ab.aw 7 ?_;refine ae @dk ?_;refine ab.pP (m:=.v (.int .i64 kB)) 8 (fun _ h=>h.1) (fun _ h=>h) ?_ ?_
  ·exact fp @dk
  simp only[aj];refine ab.aw 9 ?_;refine ae @dk ?_;refine ab.aw 10 ?_;refine ae @dk ?_;refine ab.pP (m:=.v (.int .i64 dO)) 11 (fun _ h=>h.1) (fun _ h=>h) ?_ ?_
  ·exact fp @dk
  simp only[aj];refine ab.aw 12 ?_;refine ae @dk ?_;refine ab.aw 13 ?_;refine ae @dk ?_;refine ab.pP (m:=.sl dx.length (dx.flatMap bP) .au) 14 (fun _ h=>h.1) (fun _ h=>h) ?_ ?_
  ·exact fp @dk
  simp only[aj];have kK:∀A B:VH,A.Ge B->(A.hp O2.next=some (.obj X)/\O6.next<=A.next/\∀i,i<O6.next->i≠O2.next->A.hp i=O6.hp i)->(B.hp O2.next=some (.obj X)/\O6.next<=B.next/\∀i,i<O6.next->i≠O2.next->B.hp i=O6.hp i):=fun A B g h=>⟨g.at h.1,Nat.le_trans h.2.1 g.next,fun i h1 h2=>(g.hp i (by omega)).trans (h.2.2 i h1 h2)⟩
  have hJ8:(O6.set O2.next (.obj X)).hp O2.next=some (.obj X)/\O6.next<=(O6.set O2.next (.obj X)).next/\∀i,i<O6.next->i≠O2.next->(O6.set O2.next (.obj X)).hp i=O6.hp i:=⟨VH.an _ _ _,Nat.le_refl _,fun i _ h=>VH.ak _ _ h⟩
  generalize O6.set O2.next (.obj X)=O8 at*;have tS:∀A:VH,A.Ge (A.push (.cells [.str [],.str [],.str [],.str [],.v (.bool false),.str [],.sl 0 [] .nil,.v (.int .i64 0),.v (.bool false),.sl 0 [] .nil])):=fun A=>(VH.Ge.refl A).push _
  have hpn:∀A:VH,(A.push (.cells [.str [],.str [],.str [],.str [],.v (.bool false),.str [],.sl 0 [] .nil,.v (.int .i64 0),.v (.bool false),.sl 0 [] .nil])).hp A.next=some (.cells [.str [],.str [],.str [],.str [],.v (.bool false),.str [],.sl 0 [] .nil,.v (.int .i64 0),.v (.bool false),.sl 0 [] .nil]):=fun A=>VH.aX _ _
  refine ab.pair (i:=1) (j:=16) ?_ ?_
  ·refine aI.jA (CL O8) ?_;rintro _ O9 ⟨rfl,bk⟩;simp only[aj];have NB:=kK _ _ bk hJ8;refine⟨NB,?_⟩;refine ab.pair (i:=6) (j:=16) ?_ ?_
   ·refine aI.jA (CN O9 W) ?_;rintro _ fL ⟨rfl,NC⟩;simp only[aj];have xn:=kK _ _ NC NB;refine⟨xn,?_⟩;refine ab.aw 15 ?_;refine ae @dk ?_;refine ab.op (i:=16) ?_;refine ae @dk ?_;have Cl:=kK _ _ (tS fL) xn;refine⟨⟨xn.1,Cl.2⟩,?_⟩;have hz:=hpn fL;have hl:=Nat.lt_succ_self fL.next;have h6:=xn.2.1;have lz:=Cl;refine ab.jD [(17,.one)] ?_;have se:=(VH.ak (k:=O2.next) _ (.cells [.str dg,.str da,.str dv,.str T,.str dc,.v (.int .i64 kB),.v (.int .i64 dO),.sl dx.length (dx.flatMap bP) .au]) (show fL.next≠O2.next by omega)).trans hz;refine aN @dk @hz @se ?_;refine aA.mk fL.next ⟨⟨lz.2.1,fun i h1=>?_⟩,h6,hl,VH.an _ _ _⟩;rw[VH.ak _ _ (by omega)];by_cases e:i=O2.next
    ·subst e;rw[VH.an];exact ku.symm
    ·rw[VH.ak _ _ e];exact lz.2.2 i h1 e
   ·refine aI.o1 ?_;refine ae @dk ?_;have xn:=kK _ _ (tS O9) NB;refine⟨⟨NB.1,xn.2⟩,?_⟩;refine ab.call (i:=6) (CN _ W) ?_;rintro _ ua ⟨rfl,oM⟩;simp only[aj];have Cl:=kK _ _ oM xn;refine⟨Cl,?_⟩;refine ab.aw 15 ?_;refine ae @dk ?_;have hz:=(oM.hp _ (Nat.lt_succ_self _)).trans (hpn O9);have hl:=Nat.lt_of_lt_of_le (Nat.lt_succ_self O9.next) oM.next;have h6:=NB.2.1;have lz:=Cl;refine ab.jD [(17,.one)] ?_;have se:=(VH.ak (k:=O2.next) _ (.cells [.str dg,.str da,.str dv,.str T,.str dc,.v (.int .i64 kB),.v (.int .i64 dO),.sl dx.length (dx.flatMap bP) .au]) (show O9.next≠O2.next by omega)).trans hz;refine aN @dk @hz @se ?_;refine aA.mk O9.next ⟨⟨lz.2.1,fun i h1=>?_⟩,h6,hl,VH.an _ _ _⟩;rw[VH.ak _ _ (by omega)];by_cases e:i=O2.next
    ·subst e;rw[VH.an];exact ku.symm
    ·rw[VH.ak _ _ e];exact lz.2.2 i h1 e
  ·refine aI.o1 ?_;refine ae @dk ?_;have NB:=kK _ _ (tS O8) hJ8;refine⟨⟨hJ8.1,NB.2⟩,?_⟩;refine ab.call (i:=1) (CL _) ?_;rintro _ fL ⟨rfl,NC⟩;simp only[aj];have xn:=kK _ _ NC NB;refine⟨xn,?_⟩;refine ab.call (i:=6) (CN _ W) ?_;rintro _ ua ⟨rfl,oM⟩;simp only[aj];have Cl:=kK _ _ oM xn;refine⟨Cl,?_⟩;refine ab.aw 15 ?_;refine ae @dk ?_;have hz:=((NC.trans oM).hp _ (Nat.lt_succ_self _)).trans (hpn O8);have hl:=Nat.lt_of_lt_of_le (Nat.lt_succ_self O8.next) (NC.trans oM).next;have h6:=hJ8.2.1;have lz:=Cl;refine ab.jD [(17,.one)] ?_;have se:=(VH.ak (k:=O2.next) _ (.cells [.str dg,.str da,.str dv,.str T,.str dc,.v (.int .i64 kB),.v (.int .i64 dO),.sl dx.length (dx.flatMap bP) .au]) (show O8.next≠O2.next by omega)).trans hz;refine aN @dk @hz @se ?_;refine aA.mk O8.next ⟨⟨lz.2.1,fun i h1=>?_⟩,h6,hl,VH.an _ _ _⟩;rw[VH.ak _ _ (by omega)];by_cases e:i=O2.next
   ·subst e;rw[VH.an];exact ku.symm
   ·rw[VH.ak _ _ e];exact lz.2.2 i h1 e
 rintro nb O7 ⟨dM,akp,hnb,Bu⟩;have ai5:=dM.at ku;have Td:=ai4.trans dM;have ai6:=aC.trans Td;have rM:=dM.next;simp only[dJ,f_,vx,aY,ar,List.length_nil,List.flatMap_nil,List.cons_append,List.nil_append]at Bu;refine VC.ag aa (ao @dk @ai5 ?_);refine ah.rt (Wb O7 (hG2.ge Td) (by omega)) ?_;rintro _ O8 ⟨⟨tk8,CQ,ai7⟩,CC,yp⟩;have hc8:=CQ.cell;have ag6:((L.take j).map dd++[({g:=dg,a:=da,v:=dv,t:=T,c:=dc,s:=kB,o:=dO,x:=dx}:Dp)]).length=j+1:=by rw[List.length_append,List.length_map,List.length_take];simp;omega
 rw[ag6,hRl.symm]at hc8;have WD:=(yp nb hnb (by omega) (by omega) (fun e=>by have:=(App.pB hG2.app e).2;omega)).trans Bu;refine ae @dk ?_;have eb:decide ((R.length:Int)<((R.length+1:Nat):Int))=true:=by rw[decide_eq_true_iff];omega
 have jP:=Fp.ge Td;have hG7:=hG2.ge Td;have Cd:App O8 O.next 10 tl:=jP.at CC fun i e=>yp i (jP.pB e).2 (fun e2=>by have:=jP.tok e;rw[e2,hG7.cell]at this;cases this) (fun e2=>by have:=jP.tok e;rw[e2,hG7.map]at this;cases this) (fun e2=>F2 i e2 e)
 obtain⟨mE,gj,kS⟩:=fS (n:=R.length) (cs:=R.flatMap dJ) (ds:=[.str k1,.str k2,.str k3,.str k4,.v (.bool false),.str F.v,.sl 0 [] .au,.v (.int .i64 F.s),.v (.bool F.o),.sl F.x.length (F.x.flatMap bP) .au]) (es:=dJ F) HB LZ.1.1 Cd (aJ nJ R) rfl rfl (by decide) (by omega) (by simp only[maxLen];omega) (wE R) (by subst Ra;exact Rj ⟨⟨k1,k2,k3,k4⟩,dv,max kB 1,dO==1,dx⟩);subst Ra;refine WC.sound aa (cU @dk @hc8 @WD @eb ?_);refine VL.k_ gj kS ?_;refine ae @dk ?_;refine WC.sound aa (ao @dk @cY ?_);have ND:=cA.after Cd
 have lI:O.Ge O8:=⟨by omega,fun i h1=>by
  rw[yp i (by omega) (by omega) (by omega) (fun e=>by have:=(App.pB hG7.app e).1;omega)];exact ai6.hp i h1⟩
 have hfm:(R++[(⟨⟨k1,k2,k3,k4⟩,dv,max kB 1,dO==1,dx⟩:oD)]).flatMap dJ=R.flatMap dJ++dJ ⟨⟨k1,k2,k3,k4⟩,dv,max kB 1,dO==1,dx⟩:=by simp only[List.flatMap_append,List.flatMap_cons,List.flatMap_nil,List.append_nil]
 have OV:(R++[(⟨⟨k1,k2,k3,k4⟩,dv,max kB 1,dO==1,dx⟩:oD)]).length=R.length+1:=List.length_append;refine ay.next (j+1,R++[⟨⟨k1,k2,k3,k4⟩,dv,max kB 1,dO==1,dx⟩],.own O8.next 10) ⟨bf,?_,cA.dS lI Cd ND,by have:=ND.next;omega,App.after (by omega),Mj++[(dj ⟨k1,k2,k3,k4⟩,.v (.bool true),cm)],cm+1,tk8,?_,?_,?_⟩ (hl:=(by dsimp only;rw[hfm,OV];rfl))
 ·rw[hRn,hR]
 ·dsimp only;rw[Nx];have afx:∀i,Tok.id tl=some i->O8.hp i=some .tok:=fun i e=>Cd.tok e
  refine⟨(ND.hp _ (by omega) (fun e=>by have:=afx _ e;rw[CQ.cell]at this;cases this)).trans CQ.cell,(ND.hp _ (by omega) (fun e=>by have:=afx _ e;rw[CQ.map]at this;cases this)).trans CQ.map,CQ.ok,CQ.app.at ND.next fun i e=>ND.hp i (CQ.app.pB e).2 (fun e2=>by have h1:=ai7 i e;have h2:=(jP.pB e2).2;omega),⟨by have:=ND.next;have:=CQ.lt;omega,by have:=ND.next;have:=CQ.lt;omega⟩,CQ.ne⟩
 ·intro q hq';rcases List.mem_append.1 hq' with h | h
  ·exact hold q h
  ·rw[List.mem_singleton]at h;subst h;exact qt
 ·intro i e e2;injection e2 with e2;have:=(CQ.app.pB e).2;omega
set_option linter.defProp false in
def cE:=And.intro dk<|And.intro gM<|And.intro Eo<|And.intro HB<|And.intro LZ<|And.intro T31 aeR
theorem Rk (L:List oD) (tk:Tok) (O:VH) (hn:L.length<=100000):VF Tryz.prog 116 [.sl L.length (L.flatMap dJ) tk] O (aH fun m O'=>O.Ge O'/\GR O' 175 10 O.next m L.length (L.flatMap dJ)):=by
 have dK:=aJ nJ L
 have hY:(L.flatMap dJ).all dE=true:=by
  rw[List.all_flatMap,List.all_eq_true];intro p _;rfl
 refine VF.dh 8 [.tmp 2] Tryz.func116 ?_;refine ao @cE @nI ?_;refine VL.pf (pZ Tryz.underlying167 rfl) ?_;rintro _ O1 ⟨eO,b,rfl,hb⟩;rw[eO];clear eO O1
 refine WL.sound aa ?_;cases b
 ·refine ae @cE ?_;refine VL.grow aa (.inl rfl) (te:=⟨_,10,_,_⟩) (B:=O.next) (n':=0) (L:=[]) (dx:=.slice 175) (p:=.sl 0 [] .full) (q:=.sl L.length (L.flatMap dJ) tk) (j:=L.length) (ds:=L.flatMap dJ) (.inl ⟨rfl,rfl,.inr rfl⟩) (by simp[zA,dK]) hY (by rw[HB];rfl) LZ.1.1 (by rw[HB];rfl) trivial (by dsimp only;omega) (by simp only[maxLen];omega) (Nat.le_refl _) rfl rfl rfl rfl ?_;intro m O' h1 h2 h3 h4;rw[Nat.zero_add,List.nil_append]at h1;refine ae @cE ?_;exact⟨h3 rfl,h1⟩
 ·obtain⟨h0,h1⟩:=hb rfl;rw[h0,h1];refine ae @cE ?_;exact⟨VH.Ge.refl _,.inl ⟨rfl,rfl,.inl rfl⟩⟩
theorem Rl (tk:Tok) (O:VH):VF Tryz.prog 118 [.sl 0 [] tk] O (aH fun m O'=>m= .sl 0 [] .au/\O'=O):=by
 refine VF.Wn (Φ :=fun m O'=>(m= .sl 0 [] .full\/m= .sl 0 [] .nil)/\O'=O) ?_ fun m O' h=>⟨_,(by rcases h.1 with e | e<;>rw[e]<;>exact Wk.tok),rfl,h.2⟩
 refine VF.dh 8 [.tmp 2] Tryz.func118 ?_;refine ao @cE @nI ?_;refine VL.pf (pZ Tryz.underlying31 rfl) ?_;rintro _ O1 ⟨eO,b,rfl,hb⟩;rw[eO];clear eO O1
 refine WL.sound aa ?_;cases b
 ·refine ae @cE ?_;refine VL.app (m:=.sl 0 [] .full) (O':=O) (by simp[ij,T31,aeR.1.1]) ?_ (ht:=aa) (hx:=rfl) (hy:=rfl);refine ae @cE ?_;exact .inl trivial
 ·refine ae @cE ?_;exact .inr trivial
structure Mdl where
 g:Gv
 pk:Bs
 props:List (Bs×Bs)
 JJ:List oD
def lu (m:Mdl):List MV:=bN m.g++[.str m.pk,.sl m.props.length (m.props.flatMap a_) .au,.sl 0 [] .au,.sl m.JJ.length (m.JJ.flatMap dJ) .au]
theorem ad2 (m:Mdl) (O:VH) (hp:m.props.length<=10000) (hn:m.JJ.length<=10000) (hx:∀n∈m.JJ,n.x.length<=10000):VF Tryz.prog 89 [.agg (lu m)] O (aH fun r O'=>r= .agg (lu m)/\O.Ge O'):=by
 refine VF.fg ?_;obtain⟨⟨g1,g2,g3⟩,pk,P,L⟩:=m;dsimp only at hp hn hx;simp only[lu,bN,List.cons_append,List.nil_append];have dK:=aJ nJ L;refine VF.bL 70 [.cell 2 169] Tryz.func89 ?_;refine VC.ag aa (ae @cE ?_);refine VC.gen ?_;intro O1 e1;obtain⟨aU,du,cC,ct⟩:=gJ _ _ e1;clear e1;refine VC.bj ?_;refine VC.po [10,11,12,13,14] (O.next) (cC) ?_;intro X;refine ab.aw 0 ?_;refine ae @cE ?_;refine ab.sB (m:=.sl P.length (P.flatMap a_) .au) 1 ?_ ?_
 ·exact fp @cE
 simp only[aj];refine ab.aw 3 ?_;refine ae @cE ?_;refine ab.sB (m:=.sl 0 [] .au) 4 ?_ ?_
 ·exact fp @cE
 simp only[aj];refine ab.aw 6 ?_;refine ae @cE ?_;refine ab.sB (m:=.sl L.length (L.flatMap dJ) .au) 7 ?_ ?_
 ·exact fp @cE
 simp only[aj];have JB:(O1.set O.next (.obj X)).hp O.next=some (.obj X):=VH.an _ _ _;have jJ:∀i,i≠O.next->(O1.set O.next (.obj X)).hp i=O1.hp i:=fun i h=>VH.ak _ _ h
 have jB:(O1.set O.next (.obj X)).next=O1.next:=rfl;generalize O1.set O.next (.obj X)=O2 at*;refine ab.call (i:=2) (E5 P .au O2 (by omega)) ?_;rintro _ O3 ⟨rfl,aL⟩;simp only[aj];refine⟨aL.at JB,?_⟩;refine ab.aw 9 ?_;refine ae @cE ?_;refine ab.call (i:=5) (QS [] .au O3 (by decide)) ?_;rintro _ O4 ⟨rfl,aZ⟩;simp only[aj];refine⟨(aL.trans aZ).at JB,?_⟩;refine ab.call (i:=8) (Rk L .au O4 (by omega)) ?_;rintro mN O5 ⟨bz,wS⟩;simp only[aj];have NG:=(aL.trans aZ).trans bz;refine⟨NG.at JB,?_⟩;refine ab.mO [(10,.one),(11,.aw),(12,.one),(13,.aw),(14,.one)] ?_;simp only[List.length_nil,List.flatMap_nil];have ft:=NG.at JB;have cV:=NG.at ((jJ _ (by omega)).trans ct);have gD:=NG.next;have jF:∀i,i<O.next->O5.hp i=O.hp i:=fun i h=>(NG.hp i (by omega)).trans ((jJ i (by omega)).trans (aU.hp i h))
 rcases wS with⟨h0,_,hp⟩ | ⟨k,c,rfl,zF,_,cH⟩
 ·obtain rfl:L=[]:=List.eq_nil_of_length_eq_zero h0;rcases hp with rfl | rfl
  ·refine ae @cE ?_;refine VC.gen ?_;intro O6 e6;have ku:O6.hp O.next=some (.cells [.str g1,.str g2,.str g3,.str pk,.sl P.length (P.flatMap a_) .au,.sl 0 [] .au,.sl 0 [] .nil]):=by rw[e6];exact VH.an _ _ _
   have oX:∀i,i<O5.next->i≠O.next->O6.hp i=O5.hp i:=fun i h1 h2=>by rw[e6,VH.ak _ _ h2,VH.ak _ _ h2,VH.ak _ _ h2,VH.ak _ _ h2]
   have lS:O6.next=O5.next:=by rw[e6];rfl
   clear e6;have iQ:=(oX (O.next+1) (by omega) (by omega)).trans cV;refine VC.bu [1,2] (fun _:Unit=>[.ptr O.next 0,.ptr (O.next+1) 0]) (fun _ O'=>O'=O6) ?_ ?_
   ·refine VC.ag aa (ao @cE @ku ?_);refine VC.az ?_;refine VC.bq [20] [1,2,19] (fun _:Nat=>[mi 0]) (fun _ O'=>O'=O6) (fun x=>x) (0) ?_ ?_
    ·rfl
    rintro _ O7 e7;rw[e7];refine WC.sound aa (ae @cE ?_);exact aA.mk () rfl
   rintro _ O7 e7;rw[e7];clear e7 O7;refine VC.bu [1,2] (fun _:Unit=>[.ptr O.next 0,.ptr (O.next+1) 0]) (fun _ O'=>O'=O6) ?_ ?_
   ·refine VC.ag aa (ao @cE @ku ?_);refine VC.az ?_;refine VC.bq [39] [1,2,38] (fun _:Nat=>[mi 0]) (fun _ O'=>O'=O6) (fun x=>x) (0) ?_ ?_
    ·rfl
    rintro _ O7 e7;rw[e7];refine WC.sound aa (ae @cE ?_);exact aA.mk () rfl
   rintro _ O7 e7;rw[e7];clear e7 O7;refine WC.sound aa (aN @cE @ku @iQ ?_);rw[fT];exact⟨rfl,by show _<=O6.next;omega,fun i h=>VH.sn ((oX i (by omega) (by omega)).trans (jF i h))⟩
  ·refine ae @cE ?_;refine VC.gen ?_;intro O6 e6;have ku:O6.hp O.next=some (.cells [.str g1,.str g2,.str g3,.str pk,.sl P.length (P.flatMap a_) .au,.sl 0 [] .au,.sl 0 [] .full]):=by rw[e6];exact VH.an _ _ _
   have oX:∀i,i<O5.next->i≠O.next->O6.hp i=O5.hp i:=fun i h1 h2=>by rw[e6,VH.ak _ _ h2,VH.ak _ _ h2,VH.ak _ _ h2,VH.ak _ _ h2]
   have lS:O6.next=O5.next:=by rw[e6];rfl
   clear e6;have iQ:=(oX (O.next+1) (by omega) (by omega)).trans cV;refine VC.bu [1,2] (fun _:Unit=>[.ptr O.next 0,.ptr (O.next+1) 0]) (fun _ O'=>O'=O6) ?_ ?_
   ·refine VC.ag aa (ao @cE @ku ?_);refine VC.az ?_;refine VC.bq [20] [1,2,19] (fun _:Nat=>[mi 0]) (fun _ O'=>O'=O6) (fun x=>x) (0) ?_ ?_
    ·rfl
    rintro _ O7 e7;rw[e7];refine WC.sound aa (ae @cE ?_);exact aA.mk () rfl
   rintro _ O7 e7;rw[e7];clear e7 O7;refine VC.bu [1,2] (fun _:Unit=>[.ptr O.next 0,.ptr (O.next+1) 0]) (fun _ O'=>O'=O6) ?_ ?_
   ·refine VC.ag aa (ao @cE @ku ?_);refine VC.az ?_;refine VC.bq [39] [1,2,38] (fun _:Nat=>[mi 0]) (fun _ O'=>O'=O6) (fun x=>x) (0) ?_ ?_
    ·rfl
    rintro _ O7 e7;rw[e7];refine WC.sound aa (ae @cE ?_);exact aA.mk () rfl
   rintro _ O7 e7;rw[e7];clear e7 O7;refine WC.sound aa (aN @cE @ku @iQ ?_);rw[fT];exact⟨rfl,by show _<=O6.next;omega,fun i h=>VH.sn ((oX i (by omega) (by omega)).trans (jF i h))⟩
 obtain⟨sp,hc,gN⟩:=cH.cells;have kU:=cH.lo;have QR:=cH.hi;have ib:=(aL.trans aZ).next;refine ae @cE ?_;refine VC.gen ?_;intro O6 e6;have ku:O6.hp O.next=some (.cells [.str g1,.str g2,.str g3,.str pk,.sl P.length (P.flatMap a_) .au,.sl 0 [] .au,.bm k 0 L.length c]):=by rw[e6];exact VH.an _ _ _
 have oX:∀i,i<O5.next->i≠O.next->O6.hp i=O5.hp i:=fun i h1 h2=>by rw[e6,VH.ak _ _ h2,VH.ak _ _ h2,VH.ak _ _ h2,VH.ak _ _ h2]
 have lS:O6.next=O5.next:=by rw[e6];rfl
 clear e6;have iQ:=(oX (O.next+1) (by omega) (by omega)).trans cV;refine VC.bu [1,2] (fun _:Unit=>[.ptr O.next 0,.ptr (O.next+1) 0]) (fun _ O'=>O'=O6) ?_ ?_
 ·refine VC.ag aa (ao @cE @ku ?_);refine VC.az ?_;refine VC.bq [20] [1,2,19] (fun _:Nat=>[mi 0]) (fun _ O'=>O'=O6) (fun x=>x) (0) ?_ ?_
  ·rfl
  rintro _ O7 e7;rw[e7];refine WC.sound aa (ae @cE ?_);exact aA.mk () rfl
 rintro _ O7 e7;rw[e7];clear e7 O7;have Bw:=(oX k (by omega) (by omega)).trans hc;refine VC.bu [1,2] (fun _:Unit=>[.ptr O.next 0,.ptr (O.next+1) 0]) (fun _ O'=>O6.Ge O') ?_ ?_
 ·refine VC.ag aa (ao @cE @ku ?_);refine VC.az ?_;refine VC.bq [39] [1,2,38] (fun j:Nat=>[mi j]) (fun j O'=>O6.Ge O'/\j<=L.length) (fun j=>L.length - j) (0) ?_ ?_
  ·exact⟨VH.Ge.refl _,Nat.zero_le _⟩
  rintro j O7 ⟨dM,hj⟩;by_cases bf:j<L.length;rotate_left
  ·obtain rfl:j=L.length:=by omega
   refine WC.sound aa (ae @cE ?_);exact aA.mk () dM
  have Te:=dM.at ku;have Tf:=(dM.hp k (by omega)).trans Bw;have br:(L.flatMap dJ++sp)[j*10+9]?=some (.sl L[j].x.length (L[j].x.flatMap bP) .au):=gy nJ (List.getElem?_eq_getElem bf) rfl;have aba:(L.flatMap dJ++sp)[j*10+6]?=some (.sl 0 [] .au):=gy nJ (List.getElem?_eq_getElem bf) rfl;have hxj:=hx L[j] (List.getElem_mem bf);generalize L[j].x=X at*;generalize L.flatMap dJ++sp=C at*;have mr:=wD br;have qZ:=wD aba;have Jf:=(List.getElem?_eq_some_iff.1 br).1;have cY:((j:Int)+1)=((j+1:Nat):Int):=by omega
  have rM:=dM.next;refine VC.ag aa (ae @cE ?_);refine VC.ag aa (ae @cE ?_);refine VC.bj (VC.az ?_);refine VC.ag aa (ae @cE ?_);refine VC.bj ?_;refine VC.C0 [10,11,12] (O.next) (k) (Te) (Tf) ?_ (hne:=(by omega));intro X1 X2;refine ab.aw 0 ?_;refine ae @cE ?_;refine ab.pP (m:=.bm k 0 L.length c) 1 (fun _ h=>h.1) (fun _ h=>h.1) ?_ ?_
  ·exact fp @cE
  simp only[aj];refine ab.aw 2 ?_;refine ae @cE ?_;refine ab.aw 3 ?_;refine ae @cE ?_;refine ab.pP (m:=.bm k 0 L.length c) 4 (fun _ h=>h.1) (fun _ h=>h.1) ?_ ?_
  ·exact fp @cE
  simp only[aj];refine ab.aw 5 ?_;refine ae @cE ?_;refine ab.aw 6 ?_;refine ae @cE ?_;refine ab.aw 7 ?_;refine ae @cE ?_;refine ab.pP (m:=.sl X.length (X.flatMap bP) .au) 8 (fun _ h=>h.2) (fun _ h=>h.2) ?_ ?_
  ·exact dq @cE @br
  simp only[aj];have afy:Ms O.next k X1 X2 ((O7.set O.next (.obj X1)).set k (.obj X2)):=⟨VH.sn (VH.an _ _ _),VH.an _ _ _⟩;have akq:((O7.set O.next (.obj X1)).set k (.obj X2)).next=O7.next:=rfl;have ai8:∀i,i≠O.next->i≠k->((O7.set O.next (.obj X1)).set k (.obj X2)).hp i=O7.hp i:=fun i h1 h2=>by rw[VH.ak _ _ h2,VH.ak _ _ h1]
  generalize (O7.set O.next (.obj X1)).set k (.obj X2)=O8 at*;refine ab.call (i:=9) (sN X .au O8 (by omega)) ?_;rintro _ O9 ⟨rfl,Jw⟩;have Tg:VH.Ge O8 O9:=by first | exact Jw | (rw[Jw];exact VH.Ge.refl _)
  clear Jw;simp only[aj];refine⟨⟨Tg.at afy.1,Tg.at afy.2⟩,?_⟩;refine ab.wm [(10,.aw),(11,.aw),(12,.one)] ?_ (hne:=(by omega));refine aN @cE @br @mr ?_;refine VC.gen ?_;intro fL abb
  have JK:VH.Ge O7 fL:=by
   refine⟨by rw[abb];show _<=VH.next O9;have:=Tg.next;omega,fun i h=>?_⟩;rw[abb];by_cases e1:i=k
   ·subst e1;first | (rw[VH.an];exact Tf.symm) | (rw[VH.an];exact Tf.symm)
   ·by_cases e2:i=O.next
    ·subst e2;first | (rw[VH.ak _ _ e1,VH.ak _ _ e1,VH.an];exact Te.symm) | (rw[VH.ak _ _ e1,VH.an];exact Te.symm)
    ·first | rw[VH.ak _ _ e1,VH.ak _ _ e1,VH.ak _ _ e2] | rw[VH.ak _ _ e1,VH.ak _ _ e2]
     exact(Tg.hp i (by omega)).trans (ai8 i e2 e1)
  clear abb;have Rm:=JK.at Te;have Rn:=(JK.hp k (by omega)).trans Tf;have aj1:=JK.next;refine VC.C0 [11,12,13,14] (O.next) (k) (Rm) (Rn) ?_ (hne:=(by omega));intro X3 X4;refine ab.aw 0 ?_;refine ae @cE ?_;refine ab.pP (m:=.bm k 0 L.length c) 1 (fun _ h=>h.1) (fun _ h=>h.1) ?_ ?_
  ·exact fp @cE
  simp only[aj];refine ab.aw 2 ?_;refine ae @cE ?_;refine ab.aw 3 ?_;refine ae @cE ?_;refine ab.pP (m:=.bm k 0 L.length c) 4 (fun _ h=>h.1) (fun _ h=>h.1) ?_ ?_
  ·exact fp @cE
  simp only[aj];refine ab.aw 5 ?_;refine ae @cE ?_;refine ab.aw 6 ?_;refine ae @cE ?_;refine ab.aw 7 ?_;refine ae @cE ?_;refine ab.aw 8 ?_;refine ae @cE ?_;refine ab.pP (m:=.sl 0 [] .au) 9 (fun _ h=>h.2) (fun _ h=>h.2) ?_ ?_
  ·exact dq @cE @aba
  simp only[aj];have abc:Ms O.next k X3 X4 ((fL.set O.next (.obj X3)).set k (.obj X4)):=⟨VH.sn (VH.an _ _ _),VH.an _ _ _⟩;have aj2:((fL.set O.next (.obj X3)).set k (.obj X4)).next=fL.next:=rfl;have ag7:∀i,i≠O.next->i≠k->((fL.set O.next (.obj X3)).set k (.obj X4)).hp i=fL.hp i:=fun i h1 h2=>by rw[VH.ak _ _ h2,VH.ak _ _ h1]
  generalize (fL.set O.next (.obj X3)).set k (.obj X4)=ua at*;refine ab.call (i:=10) (Rl .au ua) ?_;rintro _ WT ⟨rfl,Jw⟩;have JL:VH.Ge ua WT:=by first | exact Jw | (rw[Jw];exact VH.Ge.refl _)
  clear Jw;simp only[aj];refine⟨⟨JL.at abc.1,JL.at abc.2⟩,?_⟩;refine ab.wm [(11,.aw),(12,.aw),(13,.aw),(14,.one)] ?_ (hne:=(by omega));refine aN @cE @aba @qZ ?_;refine VC.gen ?_;intro O13 abd
  have ag8:VH.Ge fL O13:=by
   refine⟨by rw[abd];show _<=VH.next WT;have:=JL.next;omega,fun i h=>?_⟩;rw[abd];by_cases e1:i=k
   ·subst e1;first | (rw[VH.an];exact Rn.symm) | (rw[VH.an];exact Rn.symm)
   ·by_cases e2:i=O.next
    ·subst e2;first | (rw[VH.ak _ _ e1,VH.ak _ _ e1,VH.an];exact Rm.symm) | (rw[VH.ak _ _ e1,VH.an];exact Rm.symm)
    ·first | rw[VH.ak _ _ e1,VH.ak _ _ e1,VH.ak _ _ e2] | rw[VH.ak _ _ e1,VH.ak _ _ e2]
     exact(JL.hp i (by omega)).trans (ag7 i e2 e1)
  clear abd;refine WC.sound aa (ao @cE @cY ?_);exact ay.next (j+1) ⟨(dM.trans JK).trans ag8,bf⟩
 rintro _ O9 bk;have hx9:=bk.at ku;have bC:=bk.at iQ;have Jv:=(bk.hp k (by omega)).trans Bw;have Ff:=bk.next;have By:∀i,i<O.next->O9.hp i=O.hp i:=fun i h=>(bk.hp i (by omega)).trans ((oX i (by omega) (by omega)).trans (jF i h))
 refine VC.wj (A:=[.str g1,.str g2,.str g3,.str pk,.sl P.length (P.flatMap a_) .au,.sl 0 [] .au]) (E:=[]) (sz:=L.length*10) Jv hx9 (by omega) (by rw[List.length_append,dK];omega) ?_;have fl:((L.flatMap dJ++sp).drop 0).take (L.length*10)=L.flatMap dJ:=by rw[List.drop_zero,List.take_append_of_le_length (by rw[dK];exact Nat.le_refl _), <-dK,List.take_length]
 rw[fl];refine VC.gen ?_;intro fL rL;have ai9:fL.hp O.next=some (.cells [.str g1,.str g2,.str g3,.str pk,.sl P.length (P.flatMap a_) .au,.sl 0 [] .au,.sl L.length (L.flatMap dJ) .au]):=by rw[rL];exact VH.an _ _ _
 have Ic:fL.hp (O.next+1)=_:=(by rw[rL,VH.ak _ _ (by omega),VH.kA _ (by omega)]:fL.hp (O.next+1)=O9.hp (O.next+1)).trans bC;have Au:∀i,i<O.next->fL.hp i=O.hp i:=fun i h=>(by rw[rL,VH.ak _ _ (by omega),VH.kA _ (by omega)]:fL.hp i=O9.hp i).trans (By i h)
 have HI:fL.next=O9.next:=by rw[rL];rfl
 clear rL;refine WC.sound aa (aN @cE @ai9 @Ic ?_);rw[fT,wE];exact⟨rfl,by show _<=fL.next;omega,fun i h=>VH.sn (Au i h)⟩
structure Ro (O:VH) (bb md k:Nat) (MD:fe) (cm:Nat):Prop where
 cell:O.hp bb=some (.cells [.ptr k 0,.map md])
 map:O.hp md=some (.map (cy MD) cm)
 ok:nT 3 MD
 lt:bb<O.next/\md<O.next
theorem Ro.ge {O O':VH} {bb md k:Nat} {MD:fe} {cm:Nat} (h:Ro O bb md k MD cm) (g:O.Ge O'):Ro O' bb md k MD cm:=
 ⟨(g.hp _ h.lt.1).trans h.cell,(g.hp _ h.lt.2).trans h.map,h.ok,Nat.lt_of_lt_of_le h.lt.1 g.next,Nat.lt_of_lt_of_le h.lt.2 g.next⟩
def CR (s:Bs):Bs:=if s=[]then lq else s
def iC (g:Gv) (p:Pm):Mdl:=⟨g,CR p.pk,g_ p,p.dX.map fb⟩
structure PmQ (p:Pm) (g:Gv):Prop where
 c:PmC p
 gg:p.g=g.g
 ga:p.a=g.a
 gv:p.v=g.v
 tg:gL g.g
 ta:gL g.a
 tv:gL g.v
 tp:gL p.pk
 pi:eP (CR p.pk)=true
 props:p.props=[]
 eg:p.eg=[]
 dX:∀d∈p.dX,Rg d
 len:p.dX.length<=900
 keys:p.dX.Pairwise fun x y=>iB (dd x)≠iB (dd y)
end Go.Proofs.YtoclnkfdahmnhaaGreatDoor
