import Derived.Test.YtjpadehgejlebaaGreatDoorMD
set_option linter.unusedVariables false
set_option linter.unusedSimpArgs false
namespace Go.Proofs.YtjpadehgejlebaaGreatDoor
open Go.RowKit
open _root_.List renaming length_append → Mm, length_nil → Mn, mem_singleton → ZA, nil_append → aeb, cons_append → aec, getElem?_eq_some_iff → aed, length_cons → aee, mem_of_getElem? → agu, getElem?_eq_getElem → ahV, mem_iff_getElem → ahW, length_take → ahX, flatMap_nil → ahY, length_map → ah0, take_length → ajv, mem_append → ajw, take_append_of_le_length → ajx, getElem?_map → ajy, pairwise_iff_getElem → am_, getElem_mem → anb, flatMap_append → anc, eq_nil_of_length_eq_zero → ane, mem_cons → anf, mem_of_find?_eq_some → ang, map_append → anh, map_map → anj, any_eq_false → ank, getElem_take → anl, mem_append_right → anm, getElem?_append → ann, getElem?_modify → ano, getElem?_append_right → anp, flatMap_cons → anq, append_assoc → anr, getElem?_append_left → ans, ext_getElem? → ant, not_mem_nil → anu, drop_zero → anx
open _root_.Nat renaming lt_of_lt_of_le → Ml, le_refl → VI, zero_le → ahZ, zero_add → ajz, le_trans → ajA, le_succ → ame, lt_succ_self → ana, mul_one → anw
open _root_.And renaming intro → zW
open _root_.Option renaming map_eq_some_iff → ajB, map_some → ani
set_option maxRecDepth 10000
theorem Es {t:Bs} {stop:UInt8}:∀(n o:Nat) (acc:Bs) {s:Bs} {o':Nat},fi t stop n o acc= .ok (s,o')->s.length+o<=acc.length+o'
 | 0,o,acc,s,o',h=>by
   unfold fi at h;injection h with h;injection h with h1 h2
   subst h1;subst h2;omega
 | n+1,o,acc,s,o',h=>by
   have done:∀(h:(.ok (acc,o):Except (Int×Nat) (Bs×Nat))= .ok (s,o')),s.length+o<=acc.length+o':=fun h=>by
    injection h with h;injection h with h1 h2
    subst h1;subst h2;omega
   unfold fi at h;cases hg:t[o]? with
   | none=>rw[hg]at h;exact done h
   | some c=>
     rw[hg]at h;simp only at h;split at h
     ·exact done h
     split at h
     ·split at h
      ·cases h
      ·rename_i h5;obtain⟨k1,k2,k3⟩:=Bj (by simpa using h5);have:=Es n _ _ h;rw[Mm]at this;omega
     split at h
     ·cases h
     ·have:=Es n _ _ h;rw[Mm]at this;simp only[aee,Mn]at this;omega
theorem afy {t:Bs} {o:Nat} {s:Bs} {o':Nat} (h:u7 t o= .ok (s,o')):s.length+o+2<=o':=by
 unfold u7 at h;split at h
 ·cases h
 split at h
 ·cases h
 split at h
 ·cases h
 rename_i s2 o2 h2;have:=Es _ _ _ h2;split at h
 ·cases h
 ·injection h with h;injection h with h1 h3
  subst h1;subst h3
  simp only[Mn]at this;omega
theorem Yx (a b:List (Bs×Bs)):jH (a++b)=jH a+jH b:=by
 induction a with
 | nil=>rw[aeb,jH,ajz]
 | cons x a ih=>rw[aec,jH,jH,ih];omega
theorem UU {t:Bs}:∀(n o:Nat) (l:List (Bs×Bs)) {l':List (Bs×Bs)} {o':Nat},o<=t.length->mj t n o l= .ok (l',o')->jH l'+o<=jH l+o'
 | 0,o,l,l',o',ho,h=>by
   rw[mj]at h;injection h with h;injection h with h1 h2
   subst h1;subst h2;omega
 | n+1,o,l,l',o',ho,h=>by
   have o5:=jA t o ho;rw[mj]at h;split at h
   ·injection h with h;injection h with h1 h2
    subst h1;subst h2;omega
   rename_i hc;have cE:1<=kM t o:=Nat.one_le_iff_ne_zero.2 fun e=>hc (.inl e)
   split at h
   ·cases h
   rename_i nm o2 h2;have hn:=g_ h2;have cK:=jA t o2 (by omega);split at h
   ·cases h
   split at h
   ·cases h
   rename_i y4 o4 h4;have hw:=lY h4;have di:=jA t o4 (by omega);split at h
   ·cases h
   rename_i v o6 h6;have hv:=afy h6;have DL:=Bl h6;have:=UU n o6 _ (by omega) h;rw[Yx,jH,jH]at this;dsimp only at this;omega
theorem Cy {t:Bs} {o:Nat} {q s:Bs} {p:Nat} (h:jz t o q= .ok (s,p)):s.length+o<=p:=by
 unfold jz at h;split at h
 ·cases h
 split at h
 ·cases h
 ·rename_i h1;injection h with h;injection h with h2 h3
  have hi:0<=Lib.index (t.drop o) q:=by omega
  unfold qV at h2;rw[if_pos hi]at h2;rw[<-h2,ahX];omega
theorem afz {t:Bs} {o:Nat} {x:Tk} {o':Nat} (ho:o<=t.length) (h:nw t o= .ok (x,o')):Bx x+o<=o'/\1<=x.kind/\x.kind<=6:=by
 unfold nw at h;unfold Bx;split at h
 ·obtain⟨y,h1,rfl⟩:=jJ h;have:=Cy h1;simp only[aee,Mn,jH]at this ⊢;exact⟨by omega,by decide,by decide⟩
 split at h
 ·obtain⟨y,h1,rfl⟩:=jJ h;have:=Cy h1;simp only[aee,Mn,jH]at this ⊢;exact⟨by omega,by decide,by decide⟩
 split at h
 ·obtain⟨y,h1,rfl⟩:=jJ h;have:=Cy h1;simp only[aee,Mn,jH]at this ⊢;exact⟨by omega,by decide,by decide⟩
 split at h
 ·unfold rP at h;split at h
  ·cases h
  rename_i nm o2 h2;have hn:=g_ h2;obtain⟨y,h1,rfl⟩:=jJ h;have:=lY h1;simp only[aee,Mn,jH]at this ⊢;exact⟨by omega,by decide,by decide⟩
 split at h
 ·unfold wF at h;split at h
  ·cases h
  rename_i nm o2 h2;have hn:=g_ h2;split at h
  ·cases h
  rename_i l o3 h3;have ha:=UU _ _ _ (by omega) h3;rw[jH]at ha;split at h
  all_goals
   obtain⟨y,h1,rfl⟩:=jJ h;have:=lY h1;simp only[aee,Mn]at this ⊢;exact⟨by omega,by decide,by decide⟩
 ·obtain⟨y,h1,rfl⟩:=jJ h;have:=Es _ _ _ h1;simp only[Mn,jH]at this ⊢;exact⟨by omega,by decide,by decide⟩
def mR (l:List Tk):Nat:=(l.map Bx).sum
theorem Gz (l:List Tk) (x:Tk):mR (l++[x])=mR l+Bx x:=by simp[mR]
theorem Pf {t:Bs}:∀(n o:Nat) (l:List Tk) {l':List Tk},o<=t.length->mR l<=o->(∀x∈l,1<=x.kind/\x.kind<=6/\x.off<=t.length)->jl t n o l= .ok l'->mR l'<=t.length/\∀x∈l',1<=x.kind/\x.kind<=6/\x.off<=t.length
 | 0,o,l,l',ho,hl,hk,h=>by
   rw[jl]at h;injection h with h;subst h;exact⟨by omega,hk⟩
 | n+1,o,l,l',ho,hl,hk,h=>by
   rw[jl]at h;split at h
   ·injection h with h;subst h;exact⟨by omega,hk⟩
   rename_i ei;split at h
   ·cases h
   rename_i x o' hx;have h1:=afz ho hx;have h2:=Ow (by omega) hx;refine Pf n o' _ h2.2.2 ?_ (fun y hy=>?_) h
   ·rw[Gz];omega
   ·rcases ajw.1 hy with hy | hy
    ·exact hk y hy
    ·rw[ZA]at hy;subst hy;exact⟨h1.2.1,h1.2.2,by omega⟩
theorem UW {t:Bs} {l:List Tk} (h:va t= .ok l):mR l<=t.length/\∀x∈l,1<=x.kind/\x.kind<=6/\x.off<=t.length:=
 Pf _ 0 [] (ahZ _) (ahZ _) (fun x hx=>by cases hx) h
theorem SE (l:List Tk) (x:Tk) (p:PS):jN (l++[x]) p=match jN l p with
  | .error e=>.error e
  | .ok q=>match kN x q with
    | .error e=>.error (e,x.off)
    | .ok q=>.ok q:=by
 induction l generalizing p with
 | nil=>rfl
 | cons y l ih=>
   rw[aec,jN,jN];cases kN y p with
   | error e=>rfl
   | ok q=>exact ih q
theorem SF {l m:List Tk} {p:PS} {e:Int×Nat} (h:jN l p= .error e):jN (l++m) p= .error e:=by
 induction l generalizing p with
 | nil=>cases h
 | cons y l ih=>
   rw[jN]at h;rw[aec,jN];split at h
   ·rename_i h1;injection h with h;subst h;rfl
   ·exact ih h
theorem ab_:lA p0 0:=⟨by decide,by decide,(fun e=>by cases e),by simp[H5,p0,Gx]⟩
def GA {α :Type} (F:Except (Int×Nat) α):Prop:=∀e,F= .error e->e.1≠0
theorem Bz {t:Bs} {stop:UInt8}:∀(n o:Nat) (acc:Bs),GA (fi t stop n o acc)
 | 0,o,acc=>fun e h=>by unfold fi at h;cases h
 | n+1,o,acc=>fun e h=>by
   unfold fi at h;split at h
   ·cases h
   split at h
   ·cases h
   split at h
   ·split at h
    ·rename_i h5;injection h with h;subst h;exact h5
    ·exact Bz n _ _ e h
   split at h
   ·injection h with h;subst h;simp
   ·exact Bz n _ _ e h
theorem Cz (t:Bs) (o:Nat) {k:Int} (hk:k≠0):GA (jI t o k):=fun e h=>by
 unfold jI at h;split at h
 ·injection h with h;subst h;simp
 split at h
 ·injection h with h;subst h;exact hk
 ·cases h
theorem xT (t:Bs) (o:Nat) (p:Bs):GA (jk t o p):=fun e h=>by
 unfold jk at h;split at h
 ·injection h with h;subst h;simp
 split at h
 ·cases h
 ·injection h with h;subst h;simp
theorem aca (t:Bs) (o:Nat):GA (u7 t o):=fun e h=>by
 unfold u7 at h;split at h
 ·injection h with h;subst h;simp
 split at h
 ·injection h with h;subst h;simp
 split at h
 ·rename_i h2;injection h with h;subst h;exact Bz _ _ _ _ h2
 split at h
 ·injection h with h;subst h;simp
 ·cases h
theorem Pg {t:Bs}:∀(n o:Nat) (l:List (Bs×Bs)),GA (mj t n o l)
 | 0,o,l=>fun e h=>by rw[mj]at h;cases h
 | n+1,o,l=>fun e h=>by
   rw[mj]at h;split at h
   ·cases h
   split at h
   ·rename_i h2;injection h with h;subst h;exact Cz _ _ (by decide) _ h2
   split at h
   ·injection h with h;subst h;simp
   split at h
   ·rename_i h2;injection h with h;subst h;exact xT _ _ _ _ h2
   split at h
   ·rename_i h2;injection h with h;subst h;exact aca _ _ _ h2
   ·exact Pg n _ _ e h
theorem zU (t:Bs) (o:Nat) (q:Bs):GA (jz t o q):=fun e h=>by
 unfold jz at h;split at h
 ·injection h with h;subst h;simp
 split at h
 ·injection h with h;subst h;simp
 ·cases h
theorem q_ {α β :Type} {f: α -> β} {F:Except (Int×Nat) (α ×Nat)} (hF:GA F):GA (u9 f F):=fun e h=>hF e (ny h)
theorem acb (t:Bs) (o:Nat):GA (nw t o):=fun e h=>by
 unfold nw at h;split at h
 ·exact q_ (zU _ _ _) e h
 split at h
 ·exact q_ (zU _ _ _) e h
 split at h
 ·exact q_ (zU _ _ _) e h
 split at h
 ·unfold rP at h;split at h
  ·rename_i h2;injection h with h;subst h;exact Cz _ _ (by decide) _ h2
  ·exact q_ (xT _ _ _) e h
 split at h
 ·unfold wF at h;split at h
  ·rename_i h2;injection h with h;subst h;exact Cz _ _ (by decide) _ h2
  split at h
  ·rename_i h2;injection h with h;subst h;exact Pg _ _ _ _ h2
  split at h
  ·exact q_ (xT _ _ _) e h
  ·exact q_ (xT _ _ _) e h
 ·exact q_ (Bz _ _ _) e h
theorem Jt {t:Bs}:∀(n o:Nat) (l:List Tk),GA (jl t n o l)
 | 0,o,l=>fun e h=>by rw[jl]at h;cases h
 | n+1,o,l=>fun e h=>by
   rw[jl]at h;split at h
   ·cases h
   split at h
   ·rename_i h2;injection h with h;subst h;exact acb _ _ _ h2
   ·exact Jt n _ _ e h
theorem acd (t:Bs):GA (va t):=Jt _ _ _
theorem GB {t:Bs}:∀(n o:Nat) (l:List Tk) {l':List Tk},jl t n o l= .ok l'->l'.length<=l.length+n
 | 0,o,l,l',h=>by rw[jl]at h;injection h with h;subst h;omega
 | n+1,o,l,l',h=>by
   rw[jl]at h;split at h
   ·injection h with h;subst h;omega
   split at h
   ·cases h
   ·have:=GB n _ _ h;rw[Mm]at this;simp only[aee,Mn]at this;omega
theorem Yy {t:Bs} {l:List Tk} (h:va t= .ok l):l.length<=t.length+1:=by
 have:=GB _ _ _ h;simpa using this
theorem SG (l:List Tk) (i:Nat):mR (l.take i)<=mR l:=by
 have:mR l=mR (l.take i)+mR (l.drop i):=by
  unfold mR;rw[<-List.sum_append, <-anh,List.take_append_drop]
 omega
theorem Yz (t:Bs) (x:Tk):p9 t x.off= .agg [mi x.off,mi (mZ t x.off),mi (Gp t x.off)]:=by
 unfold p9 mZ Gp;rw[Int.natCast_add];rfl
def zNd:MV:=.agg [.str [],.sl 0 [] .nil,.sl 0 [] .nil,.str []]
theorem Ju {O:VH} {B k:Nat} (hk:k<O.N):∀{R:List Rec},pN O B k R->∀r∈R,r.b<O.N
 | [],_,r,h=>by simp at h
 | [x],h,r,hr=>by rw[ZA.1 hr,h.1];exact hk
 | x::p::rest,h,r,hr=>by
   obtain⟨⟨c,_,_,h1⟩,_,_,h2⟩:=h;rcases anf.1 hr with rfl | hr
   ·exact h1.hi
   ·exact Ju hk h2 r hr
theorem ace {O:VH} {B k cn:Nat} {R:List Rec} {tk:Tok} {dn tx:Bool} {z:List MV} (h:BS O B k R tk cn dn tx z):∀x∈dZ k R tk,x<O.N:=by
 have hk:k<O.N:=Ml h.c.lt h.c.le;intro x hx;simp only[dZ,anf,ajw,List.mem_map,Option.mem_toList]at hx;rcases hx with rfl | ((⟨r,hr,rfl⟩ | hx) | hx)
 ·exact hk
 ·exact Ju hk h.c.chain r hr
 ·obtain⟨r,hr,hq⟩:=Option.bind_eq_some_iff.1 hx;have ht:=h.c.top
  match R,hr,ht with
  | y::R,hr,ht=>
    simp only[List.head?_cons,Option.some.injEq]at hr;subst hr;rcases ht.1 with⟨_,_,e | e⟩ | ⟨j,c,e,_,_,hw⟩
    ·rw[e]at hq;cases hq
    ·rw[e]at hq;cases hq
    ·rw[e]at hq;injection hq with hq;subst hq;exact hw.hi
 ·exact(App.nE h.a hx).2
theorem acf (t:Bs) (O:VH) (ht:t.length<=65536):VF Tryz.prog 243 [.str t] O (aE fun m O'=>O.Ge O'/\match iK t with
  | .ok n=>m= .tuple [.agg (dL n),mi 0,.agg [mi 0,mi 0,mi 0]]
  | .error e=>m= .tuple [zNd,mi e.1,p9 t e.2]):=by
 have kR:=aiH t;have oq:∀e,va t= .error e->iK t= .error e:=fun e h=>by unfold iK;rw[h]
 have Cx:∀l,va t= .ok l->iK t=(match jN l p0 with
  | .error e=>.error e
  | .ok p=>if p.st≠[]then .error (13,t.length)else if p.dn then .ok p.z else .error (16,t.length)):=fun l h=>by unfold iK;rw[h];try rfl
 have hW:= @UW t;have hLn:= @Yy t;have hNE:=acd t;generalize va t=F at*;generalize iK t=G at*;refine χ 68 [.cell 2 93,.tmp 3,.cell 4 108] Tryz.func243 ?_;refine κ @aI ?_;refine VC.gen ?_;intro O1 sU;obtain⟨aJ,cW,DN,lJ⟩:=ib _ _ sU;clear sU;refine κ @aI ?_;refine π (kR O1 ht) ?_;rintro m O2 ⟨aC,hm⟩;have tO:=aC.at DN;have Bg:=aC.at lJ;have fC:=aJ.trans aC;have eJ:=aC.N;cases F with
 | error e=>
   dsimp only at hm;subst hm;rw[oq e rfl];unfold p9;simp only[aq];refine ab @aI ?_;refine VC.al ?_;rintro O3 ⟨aG,lS,gE⟩;have Hz:=aG.at tO;have pM:=aG.at Bg;have eu:=fC.trans aG;have he0:e.1≠0:=hNE e rfl;refine ξ @aI @he0 ?_;refine VC.qy [] (O2.N) (lS) ?_;intro X;have J_:(O3.set O2.N (.obj X)).hp O.N=_:=Γ Hz;have Lh:(O3.set O2.N (.obj X)).hp (O.N+1)=_:=Γ pM;have qY:(O3.set O2.N (.obj X)).hp O2.N=some (.obj X):=τ _ _ _;have gZ:O.Ge (O3.set O2.N (.obj X)):=eu.set (by omega) _;generalize O3.set O2.N (.obj X)=O4 at*;refine ae.au 0 ?_;refine ab @aI ?_;refine ae.au 1 ?_;refine ab @aI ?_;refine anM (m:=.agg [.v (.int .i64 e.2),.v (.int .i64 (1+((t.take e.2).count 10:Nat))),.v (.int .i64 ((e.2:Int) - gm (t.take e.2) 10 (t.take e.2).length))]) 2 ?_ ?_
   ·exact fU @aI
   simp only[ak];refine ae.op (i:=3) ?_;refine ao @aI @J_ ?_;refine⟨qY,?_⟩;refine ae.au 4 ?_;refine ab @aI ?_;refine ae.op (i:=5) ?_;refine ao @aI @Lh ?_;refine⟨qY,?_⟩;refine ae.nR [] ?_;refine ab @aI ?_;exact⟨((gZ.set (VI _) _).set (ame _) _).set (by omega:O.N<=O2.N) _,rfl⟩
 | ok l=>
   obtain⟨pl,rfl,c7⟩:=hm;obtain⟨hWl,afA⟩:=hW rfl;have hG:=Cx l rfl;clear oq Cx;refine ao @aI @aq ?_;refine VC.al ?_;rintro O3 ⟨aG,lS,gE⟩;have Hz:=aG.at tO;have pM:=aG.at Bg;have eu:=fC.trans aG;refine κ @aI ?_;refine κ @aI ?_;refine VC.bx ?_;rintro O4 ⟨aY,lX,h_⟩;refine VC.XW (k:=O3.N) (ds:=dL R5++qc [] .nil 0 false false) lX (fl.cons (Wk.refl _) (fl.cons Wk.tok (fl.cons Wk.tok (fl.refl _)))) ?_;refine VC.gen ?_;intro O5 m4;have gK:O5.hp O3.N=some (.cells (dL R5++qc [] .nil 0 false false)):=by rw[m4];exact τ _ _ _
   have e_:O5.N=O3.N+1:=by rw[m4];exact h_
   have h5:∀i,i<O3.N->O5.hp i=O3.hp i:=fun i hi=>by rw[m4];exact Γ (aY.hp i hi)
   have ov:O.Ge O5:=by rw[m4];exact(eu.trans aY).set (by omega) _
   clear m4;have hz5:=(h5 _ (by omega)).trans Hz;have Oh:=(h5 _ (by omega)).trans pM;generalize hk:O3.N=k at*;have hBP:BP O5 (k+1) k [k] p0:=⟨[],.nil,⟨⟨ana _,by omega,gK,rfl,trivial,trivial⟩,trivial⟩,rfl,fun x hx=>hx⟩
   have hlen:de (bX Tryz.prog) 165 pl=some (.v (.int .i64 l.length)):=by
    rcases c7 with⟨h0,_,rfl | rfl⟩ | ⟨k,c,rfl,_⟩
    ·rw[h0];exact bL FO
    ·rw[h0];exact bL FO
    ·exact IN FO
   rw[v_,FO]at hlen;have AJ:l.length<=1000000:=by have:=hLn rfl;omega
   refine Ξ [0,2,4,8] (fun _:PS=>[.str t,.ptr O.N 0,.ptr (O.N+1) 0,.ptr k 0]) (fun p O'=>jN l p0= .ok p/\lA p (mR l)/\Kp O5 O' [k]/\∃U,BP O' (k+1) k U p) ?_ ?_;rotate_left
   ·rintro p O6 ⟨cD,dh,hkp,U,SD⟩;rw[cD]at hG;dsimp only at hG;have hO6:∀j,j<k->O6.hp j=O5.hp j:=fun j hj=>hkp.2 j (by omega) (by simp;omega)
    have hz6:=(hO6 _ (by omega)).trans hz5;have hp6:=(hO6 _ (by omega)).trans Oh;have nH:=hkp.1;have Jv:O.Ge O6:=⟨by omega,fun j hj=>(hO6 j (by omega)).trans (ov.hp j hj)⟩;obtain⟨R,tk,hb,hR,hUo⟩:=SD;have p8:=hb.c.cells;refine κ @aI ?_;refine π (agY t t.length _ (by omega) (VI _)) ?_;rintro _ O7 ⟨rfl,eV⟩;have vh:=(eV.hp k (by omega)).trans p8;have hz7:=eV.at hz6;have hp7:=eV.at hp6;have Dl:=Jv.trans eV;have vg:=eV.N;have UX:p9 t t.length= .agg [mi t.length,mi (1+((t.take t.length).count 10:Nat)),mi ((t.length:Int) - gm (t.take t.length) 10 (t.take t.length).length)]:=rfl;simp only[aq]at UX;generalize (1+((t.take t.length).count 10:Nat):Int)=y1 at*;generalize ((t.length:Int) - gm (t.take t.length) 10 (t.take t.length).length)=y2 at*;rw[UX];refine ab @aI ?_;refine VC.al ?_;rintro O8 ⟨gQ,YA,DY⟩;have vo:=(gQ.hp k (by omega)).trans vh;have hz8:=gQ.at hz7;have BA:=gQ.at hp7;have Ph:=Dl.trans gQ;obtain⟨b0,b1,b2,b3,jx⟩:=rR (fp R (dL p.z) hb.c.zl);unfold qc at vo;rw[jx]at vo;simp only[aq,bu,aec,aeb]at vo;cases R with
    | cons r R=>
      have cY:p.st≠[]:=by rw[<-hR];simp[sf]
      rw[if_pos cY]at hG;subst hG;dsimp only;rw[UX]
      have Yt:R.length<=64:=by
       have:=dh.len;rw[<-hR]at this;unfold sf at this;rw[ah0,aee]at this;omega
      simp only[aee]at vo;refine ξ @aI @vo ?_;refine VC.qy [] (O7.N) (YA) ?_;intro X;have J_:((O8).set (O7.N) (.obj X)).hp O.N=_:=Γ hz8;have Lh:((O8).set (O7.N) (.obj X)).hp (O.N+1)=_:=Γ BA;have qY:((O8).set (O7.N) (.obj X)).hp (O7.N)=some (.obj X):=τ _ _ _;have gZ:O.Ge ((O8).set (O7.N) (.obj X)):=Ph.set (by omega) _;generalize (O8).set (O7.N) (.obj X)=Ox at*;refine ae.au 0 ?_;refine ab @aI ?_;refine anM (m:=.agg [.v (.int .i64 t.length),.v (.int .i64 y1),.v (.int .i64 y2)]) 1 ?_ ?_
      ·exact fU @aI
      simp only[ak];refine ae.op (i:=2) ?_;refine ao @aI @J_ ?_;refine⟨qY,?_⟩;refine ae.au 3 ?_;refine ab @aI ?_;refine ae.op (i:=4) ?_;refine ao @aI @Lh ?_;refine⟨qY,?_⟩;refine ae.nR [] ?_;refine ab @aI ?_;exact⟨((gZ.set (VI _) _).set (ame _) _).set (by omega:O.N<=O7.N) _,rfl⟩
    | nil=>
      have cY:p.st=[]:=hR.symm;rw[if_neg (by rw[cY];simp)]at hG;simp only[Mn]at vo;cases tY:p.dn with
      | false=>
        rw[tY]at hG vo;rw[if_neg (by simp)]at hG;subst hG;dsimp only;rw[UX];refine ξ @aI @vo ?_;refine VC.qy [] (O7.N) (YA) ?_;intro X;have J_:((O8).set (O7.N) (.obj X)).hp O.N=_:=Γ hz8;have Lh:((O8).set (O7.N) (.obj X)).hp (O.N+1)=_:=Γ BA;have qY:((O8).set (O7.N) (.obj X)).hp (O7.N)=some (.obj X):=τ _ _ _;have gZ:O.Ge ((O8).set (O7.N) (.obj X)):=Ph.set (by omega) _;generalize (O8).set (O7.N) (.obj X)=Ox at*;refine ae.au 0 ?_;refine ab @aI ?_;refine anM (m:=.agg [.v (.int .i64 t.length),.v (.int .i64 y1),.v (.int .i64 y2)]) 1 ?_ ?_
        ·exact fU @aI
        simp only[ak];refine ae.op (i:=2) ?_;refine ao @aI @J_ ?_;refine⟨qY,?_⟩;refine ae.au 3 ?_;refine ab @aI ?_;refine ae.op (i:=4) ?_;refine ao @aI @Lh ?_;refine⟨qY,?_⟩;refine ae.nR [] ?_;refine ab @aI ?_;exact⟨((gZ.set (VI _) _).set (ame _) _).set (by omega:O.N<=O7.N) _,rfl⟩
      | true=>
        rw[tY]at hG vo;rw[if_pos rfl]at hG;subst hG;dsimp only;have jx:dL p.z=[b0,b1,b2,b3]:=jx;refine ξ @aI @vo ?_;generalize p.z=pz at*;obtain⟨zn,za,dj,zt⟩:=pz;rw[dL]at jx;injection jx with e1 jx;injection jx with e2 jx;injection jx with e3 jx;injection jx with e4 jx
        subst e1;subst e2;subst e3;subst e4
        refine ι (cJ @aI @vo @hz8 @BA ?_);rw[dL];exact⟨(Ph.set (VI _) _).set (ame _) _,rfl⟩
   refine ξ @aI @hlen ?_;refine υ ?_;refine Δ [28] [0,2,4,8,26,27] (fun i:Nat=>[mi i]) (fun i O'=>i<=l.length/\Kp O5 O' [k]/\∃p U,jN (l.take i) p0= .ok p/\lA p (mR (l.take i))/\BP O' (k+1) k U p/\(∀x∈U,(x=k\/O5.N<=x)/\x<O'.N)) (fun i=>l.length - i) (0) ?_ ?_
   ·exact⟨ahZ _,Kp.refl,p0,[k],rfl,ab_,hBP,fun x hx=>by rw[ZA]at hx;subst hx;exact⟨.inl rfl,by omega⟩⟩
   rintro i O6 ⟨hi,Jw,p,U,cD,dh,SD,hU⟩;dsimp only at hi ⊢;by_cases dA:i<l.length;rotate_left
   ·obtain rfl:i=l.length:=by omega
    rw[ajv]at cD dh;refine ο @aI @aq ?_;exact aB.mk p ⟨cD,dh,Jw,U,SD⟩
   obtain⟨kr,cr,rfl,jT⟩:∃kr cr,pl= .bz kr 0 l.length cr/\Row O2 163 7 O1.N kr cr (l.flatMap (vk t)):=by
    rcases c7 with⟨h0,_⟩ | ⟨kr,cr,hp,_,_,h⟩
    ·omega
    ·exact⟨kr,cr,hp,h⟩
   obtain⟨sp,uB,uv⟩:=jT.cells;have ak2:=jT.hi;have ak3:O6.hp kr=some (.cells (l.flatMap (vk t)++sp)):=(Jw.2 kr (by omega) (by simp;omega)).trans ((h5 kr (by omega)).trans ((aG.hp kr ak2).trans uB));have k7:(l.flatMap (vk t)).length=l.length*7:=aX (wK t) l
   have bE:((l.flatMap (vk t)++sp).drop (i*7)).take 7=vk t l[i]:=by
    rw[List.drop_append_of_le_length (by omega),ajx (by rw[List.length_drop];omega)];exact cP (wK t) l i dA
   have hCl:i*7+7<=(l.flatMap (vk t)++sp).length:=by rw[Mm];omega
   have cT:=dB l i dA
   have YB:jN (l.take (i+1)) p0=(match kN l[i] p with
     | .error e=>.error (e,l[i].off)
     | .ok q=>.ok q):=by rw[cT,SE,cD];try rfl
   have hws:mR (l.take (i+1))=mR (l.take i)+Bx l[i]:=by rw[cT,Gz]
   have oJ:=SG l (i+1);have vF:=afA l[i] (anb dA)
   have aiN:∀e,jN (l.take (i+1)) p0= .error e->G= .error e:=fun e h=>by
    have:=SF (m:=l.drop (i+1)) h;rw[List.take_append_drop]at this;rw[this]at hG;exact hG
   have dI:=Yz t l[i];clear cD cT;have ak4:vk t l[i]=[mi l[i].kind,.str l[i].name,.sl l[i].attrs.length (l[i].attrs.flatMap bm) .ar,.str l[i].text,mi l[i].off,mi (mZ t l[i].off),mi (Gp t l[i].off)]:=rfl;generalize hxg:l[i]=x at*;generalize l.flatMap (vk t)++sp=C at*;refine ξ @aI @aq ?_;refine κ @aI ?_;refine ω (υ ?_);rw[ak4]at bE;simp only[aq]at bE;refine θ (aH @aI @ak3 @bE ?_);refine VC.al ?_;rintro O7 ⟨eV,hx7,vg⟩;refine ξ @aI @hx7 ?_;refine π (Yw (SD.ge eV) dh (fun y hy=>by have:=(hU y hy).2;omega) t x (by omega) ⟨vF.1,vF.2.1⟩) ?_;rintro m O8 ⟨KV,hm⟩;have YA:=(KV.2 _ (by omega) (fun hm=>by have:=(hU _ hm).2;omega)).trans hx7;have amI:k<O5.N:=by omega
   have YC:∀j,j<k->O8.hp j=O5.hp j:=fun j hj=>by
    have hjU:j ∉ U:=fun hm=>by have:=(hU _ hm).1;omega
    have h65:=Jw.1;rw[KV.2 j (by omega) hjU,eV.hp j (by omega),Jw.2 j (by omega) (by simp;omega)]
   have hz8:=(YC _ (by omega)).trans hz5;have BA:=(YC _ (by omega)).trans Oh;have DY:=KV.1;have h65:=Jw.1;have Ph:O.Ge O8:=⟨by omega,fun j hj=>(YC j (by omega)).trans (ov.hp j hj)⟩;cases cY:kN x p with
   | error e=>
     rw[cY]at hm YB;dsimp only at hm YB;subst hm;have hGe:=aiN _ YB;subst hGe;dsimp only;rw[dI];simp only[aq];have he:e≠0:=by rcases SC cY with rfl | rfl | rfl<;>decide
     refine ab @aI ?_;refine ξ @aI @he ?_;refine ν @aI ?_;refine VC.qy [] (O6.N) (YA) ?_;intro X;have J_:((O8).set (O6.N) (.obj X)).hp O.N=_:=Γ hz8;have Lh:((O8).set (O6.N) (.obj X)).hp (O.N+1)=_:=Γ BA;have qY:((O8).set (O6.N) (.obj X)).hp (O6.N)=some (.obj X):=τ _ _ _;have gZ:O.Ge ((O8).set (O6.N) (.obj X)):=Ph.set (by omega) _;generalize (O8).set (O6.N) (.obj X)=Ox at*;refine ae.au 0 ?_;refine ab @aI ?_;refine ae.au 1 ?_;refine ab @aI ?_;refine ae.au 2 ?_;refine ab @aI ?_;refine anM (m:=.agg [.v (.int .i64 x.off),.v (.int .i64 (mZ t x.off:Nat)),.v (.int .i64 (Gp t x.off))]) 3 ?_ ?_
     ·exact fU @aI
     simp only[ak];refine ae.op (i:=4) ?_;refine ao @aI @J_ ?_;refine⟨qY,?_⟩;refine ae.au 5 ?_;refine ab @aI ?_;refine ae.op (i:=6) ?_;refine ao @aI @Lh ?_;refine⟨qY,?_⟩;refine ae.nR [] ?_;refine ab @aI ?_;exact⟨((gZ.set (VI _) _).set (ame _) _).set (by omega:O.N<=O6.N) _,rfl⟩
   | ok q=>
     rw[cY]at hm YB;dsimp only at YB;obtain⟨rfl,U2,hU2,hq⟩:=hm;obtain⟨R2,tk2,cK,ak5,ho2⟩:=hq;have si:BP O8 (k+1) k (dZ k R2 tk2) q:=⟨R2,tk2,cK,ak5,fun _ h=>h⟩;have mH:((i:Int)+1)=((i+1:Nat):Int):=by omega
     refine ao @aI @aq ?_;refine ο @aI @mH ?_;refine ο @aI @mH ?_;refine az.N (i+1) ⟨by omega,?_,q,dZ k R2 tk2,YB,?_,si,fun y hy=>?_⟩
     ·refine(Jw.more (Kp.ge eV (S:=[])) (fun y hy=>by cases hy)).more KV fun y hy=>?_
      rcases(hU y hy).1 with e | e
      ·exact .inl (by simp[e])
      ·exact .inr e
     ·rw[hws];exact Jr dh cY
     ·refine⟨?_,ace cK y hy⟩;rcases hU2 y (ho2 y hy)with e | e
      ·exact(hU y e).1
      ·exact .inr (by omega)
set_option linter.defProp false in
def iu:=zW kD<|zW FK<|zW T86 KO
theorem kh {α :Type} {f: α ->List MV} {k:Nat} (hf:∀x,(f x).length=k) {L:List α} {sp:List MV} {j i:Nat} {x: α} {m:MV} (hj:L[j]?=some x) (hi:(f x)[i]?=some m):(L.flatMap f++sp)[j*k+i]?=some m:=by
 induction L generalizing j with
 | nil=>simp at hj
 | cons y L ih=>
   rw[anq,anr];cases j with
   | zero=>
     simp only[List.getElem?_cons_zero,Option.some.injEq]at hj;subst hj;have:=(aed.1 hi).1;rw[Nat.zero_mul,ajz,ans this];exact hi
   | succ j=>
     simp only[List.getElem?_cons_succ]at hj;have e:(j+1)*k+i=(f y).length+(j*k+i):=by rw[hf,Nat.succ_mul];omega
     rw[e,anp (by omega),show(f y).length+(j*k+i) - (f y).length=j*k+i by omega];exact ih hj
theorem xU {L:List MV} {i:Nat} {m:MV} (h:L[i]?=some m):L.set i m=L:=by
 refine ant fun j=>?_
 by_cases e:i=j
 ·subst e;rw[List.getElem?_set_self (aed.1 h).1,h]
 ·rw[List.getElem?_set_ne e]
theorem Pj (L:List Dp) (tk:Tok) (O:VH) (hn:L.length<=10000) (hx:∀d∈L,d.x.length<=10000):VF Tryz.prog 245 [.sl L.length (L.flatMap aU) tk] O (aE fun m O'=>∃t,m= .sl L.length (L.flatMap aU) t/\O.Ge O'):=by
 have dI:=aX gW L;refine χ 24 [.tmp 2] Tryz.func245 ?_;refine κ @iu ?_;refine κ @iu ?_;refine π (Gr L tk O (by omega)) ?_;rintro _ O2 ⟨aC,ym⟩;rcases ym with⟨h0,_,hp⟩ | ⟨k,c,rfl,AI,_,c7⟩
 ·obtain rfl:L=[]:=ane h0;rcases hp with rfl | rfl
  ·refine ab @iu ?_;refine Ξ [3] (fun _:Unit=>[.sl 0 [] .nil]) (fun _ O'=>O'=O2) ?_ ?_
   ·refine κ @iu ?_;refine υ ?_;refine Δ [9] [3,8] (fun j:Nat=>[mi 0]) (fun j O'=>O'=O2) (fun j=>0) (0) ?_ ?_
    ·rfl
    rintro j O3 eO;rw[eO];clear eO O3
    refine ν @iu ?_;exact aB.mk () rfl
   intro _ O9 eO;rw[eO];clear eO O9
   refine ν @iu ?_;exact⟨_,rfl,aC⟩
  ·refine ab @iu ?_;refine Ξ [3] (fun _:Unit=>[.sl 0 [] .full]) (fun _ O'=>O'=O2) ?_ ?_
   ·refine κ @iu ?_;refine υ ?_;refine Δ [9] [3,8] (fun j:Nat=>[mi 0]) (fun j O'=>O'=O2) (fun j=>0) (0) ?_ ?_
    ·rfl
    rintro j O3 eO;rw[eO];clear eO O3
    refine ν @iu ?_;exact aB.mk () rfl
   intro _ O9 eO;rw[eO];clear eO O9
   refine ν @iu ?_;exact⟨_,rfl,aC⟩
 obtain⟨sp,hc,fY⟩:=c7.cells;have fF:=c7.lo;have Sm:=c7.hi;refine ab @iu ?_;refine Ξ [3] (fun _:Unit=>[.bz k 0 L.length c]) (fun _ O'=>O2.Ge O') ?_ ?_
 ·refine κ @iu ?_;refine υ ?_;refine Δ [9] [3,8] (fun j:Nat=>[mi j]) (fun j O'=>O2.Ge O'/\j<=L.length) (fun j=>L.length - j) (0) ?_ ?_
  ·exact⟨VH.Ge.refl _,ahZ _⟩
  rintro j O3 ⟨aG,hj⟩;by_cases aM:j<L.length;rotate_left
  ·obtain rfl:j=L.length:=by omega
   refine ν @iu ?_;exact aB.mk () aG
  have fA:=(aG.hp k Sm).trans hc;have bE:(L.flatMap aU++sp)[j*8+7]?=some (.sl L[j].x.length (L[j].x.flatMap cj) .ar):=kh gW (List.getElem?_eq_getElem aM) rfl;have hxj:=hx L[j] (List.getElem_mem aM);generalize L[j].x=X at*;generalize L.flatMap aU++sp=C at*;have gL:=xU bE;have KV:=(List.getElem?_eq_some_iff.1 bE).1;have cB:((j:Int)+1)=((j+1:Nat):Int):=by omega
  refine κ @iu ?_;refine κ @iu ?_;refine ω (υ ?_);refine κ @iu ?_;refine ι (aH @iu @fA @bE ?_);refine π (ux X .ar O3 (by omega)) ?_;rintro _ O4 ⟨rfl,aY⟩;have fR:=(aY.hp k (by have:=aG.N;omega)).trans fA;refine cJ @iu @fR @bE @gL ?_;rw[VH.xm fR];refine ο @iu @cB ?_;exact az.N (j+1) ⟨aG.trans aY,aM⟩
 intro _ O9 bh;have Li:=(bh.hp k Sm).trans hc;refine VC.freeze 3 (sz:=L.length*8) rfl Li (by rw[Mm,dI];omega) ?_;have cT:((L.flatMap aU++sp).drop 0).take (L.length*8)=L.flatMap aU:=by rw[anx,ajx (by rw[dI];exact VI _), <-dI,ajv]
 rw[cT];have sX:=aC.trans bh;have gR:O.Ge (O9.kill k):=⟨sX.N,fun i hi=>(VH.lg _ (by omega)).trans (sX.hp i hi)⟩;refine ν @iu ?_;exact⟨_,rfl,gR⟩
theorem GC (L:List Dp) (tk:Tok) (O:VH) (hn:L.length<=10000) (hx:∀d∈L,d.x.length<=10000):VF Tryz.prog 245 [.sl L.length (L.flatMap aU) tk] O (aE fun m O'=>m= .sl L.length (L.flatMap aU) .ar/\O.Ge O'):=
 VF.Ym (Pj L tk O hn hx) fun m O' ⟨t,h1,h3⟩=>⟨_,h1▸Wk.tok,rfl,h3⟩
def acg (p:Pm):Prop:=p.props.length<=10000/\p.eU.length<=10000/\p.eK.length<=10000/\(∀d∈p.eU,d.x.length<=10000)/\∀d∈p.eK,d.x.length<=10000
theorem aiO (p:Pm) (O:VH) (hp:acg p):VF Tryz.prog 222 [.agg (gX p)] O (aE fun m O'=>m= .agg (gX p)/\O.Ge O'):=by
 obtain⟨b,⟨pg,pa,pv⟩,g,a,v,pk,P,M,D⟩:=p;obtain⟨h1,h2,h3,h4,h5⟩:=hp;dsimp only at h1 h2 h3 h4 h5;simp only[gX];refine χ 16 [.cell 2 86] Tryz.func222 ?_;refine κ @iu ?_;refine VC.gen ?_;rintro O1 sU;obtain⟨aJ,cW,cz,cE⟩:=ib _ _ sU;clear sU;refine ξ @iu @cz ?_;refine π (Gq P .ar O1 (by omega)) ?_;rintro _ O2 ⟨rfl,aC⟩;have eA:=aC.at cz;have cK:=aC.at cE;have eJ:=aC.N;refine ao @iu @eA ?_;have hs:(([mb b,.str pg,.str pa,.str pv,.str g,.str a,.str v,.str pk,.sl P.length (P.flatMap bm) .ar,.sl M.length (M.flatMap aU) .ar,.sl D.length (D.flatMap aU) .ar]:List MV)).set 8 (.sl P.length (P.flatMap bm) .ar)=[mb b,.str pg,.str pa,.str pv,.str g,.str a,.str v,.str pk,.sl P.length (P.flatMap bm) .ar,.sl M.length (M.flatMap aU) .ar,.sl D.length (D.flatMap aU) .ar]:=rfl;rw[VH.xm eA];refine ω ?_;refine VC.qy [7,8,9] (O.N) (eA) ?_;intro X;refine ae.au 0 ?_;refine ab @iu ?_;refine anM (m:=.sl M.length (M.flatMap aU) .ar) 1 ?_ ?_
 ·exact fU @iu
 simp only[ak];refine ae.au 3 ?_;refine ab @iu ?_;refine anM (m:=.sl D.length (D.flatMap aU) .ar) 4 ?_ ?_
 ·exact fU @iu
 simp only[ak];have hX:=τ O2 O.N (.obj X);have gE:(O2.set O.N (.obj X)).N=O2.N:=rfl;have hbX:=(ρ O2 (.obj X) (by omega:O.N+1≠O.N)).trans cK;have Lj:O.Ge (O2.set O.N (.obj X)):=(aJ.trans aC).set (VI _) _;generalize O2.set O.N (.obj X)=O3 at*;refine ae.call (i:=2) (GC M .ar O3 h2 h4) ?_;rintro _ O4 ⟨rfl,aY⟩;simp only[ak];refine⟨aY.at hX,?_⟩;refine ae.au 6 ?_;refine ab @iu ?_;refine ae.call (i:=5) (GC D .ar O4 h3 h5) ?_;rintro _ O5 ⟨rfl,bG⟩;simp only[ak];have FY:=aY.trans bG;refine⟨FY.at hX,?_⟩;have dy:=FY.at hbX;have ov:=Lj.trans FY;refine ae.nR [(7,.one),(8,.au),(9,.one)] ?_;refine ab @iu ?_;refine ο @iu @dy ?_;exact(((ov.set (VI _) _).set (VI _) _).set (VI _) _).set (ame _) _
set_option linter.defProp false in
def sY:=zW iu<|zW Ds<|zW NO<|zW abl agE
theorem Pk:∀{l:List Tk} {p q:PS} {L:Nat},lA p L->jN l p= .ok q->lA q (L+mR l)
 | [],p,q,L,h,e=>by
   rw[jN]at e;injection e with e;subst e;simpa[mR]using h
 | x::l,p,q,L,h,e=>by
   rw[jN]at e;split at e
   ·cases e
   ·rename_i p' hp';have h2:=Pk (Jr h hp') e;have:mR (x::l)=Bx x+mR l:=by simp[mR]
    rw[this, <-Nat.add_assoc];exact h2
theorem YD {t:Bs} {n:Nd} (ht:t.length<=65536) (h:iK t= .ok n):k6 n<=1000000:=by
 unfold iK at h;split at h
 ·cases h
 ·rename_i l hl;have hw:=(UW hl).1;split at h
  ·cases h
  ·rename_i p hp;have hk:=Pk ab_ hp;have h1:=hk.wt;have h2:=hk.cn;split at h
   ·cases h
   ·split at h
    ·rename_i hd;injection h with h;subst h;unfold H5 at h1;rw[if_pos hd]at h1;omega
    ·cases h
structure Prb where
 e:Int
 g:Gv
 p1:Int
 p2:Int
 p3:Int
 w:Bs
 deriving DecidableEq
def nI (x:Prb):List MV:=[mi x.e,.str x.g.g,.str x.g.a,.str x.g.v,mi x.p1,mi x.p2,mi x.p3,.str x.w]
def il:Prb:=⟨0,⟨[],[],[]⟩,0,0,0,[]⟩
def jq (t:Bs) (u:Int) (s:Int) (p:Pm) (x:Prb):List MV:=[.str t,.v (.int .u32 u),.v (.int .i32 s),.v (.int .u32 0)]++gX p++nI x
theorem afB {O:VH} {q:Nat} {t:Bs} {u s:Int} {n:Nd} {p:Pm} (g:Gv) (hq:O.hp q=some (.cells (jq t u s Bq il))) (oH:q<O.N) (ht:t.length<=65536) (hb:iK t= .ok n) (hr:pL n= .ok p):
  VF Tryz.prog 221 [.ptr q 0,.agg (bZ g)] O (aE fun m O'=>O'.hp q=some (.cells (jq t u s p il))/\bB O (some q) O'):=by
 have CA:=fun O'=>acf t O' ht
 have Bk:=fun O'=>afu n O' (YD ht hb)
 rw[hb]at CA;rw[hr]at Bk;dsimp only at CA Bk;obtain⟨g1,g2,g3⟩:=g;obtain⟨nn,na,nk,nt⟩:=n;obtain⟨b,⟨pg,pa,pv⟩,pG,pA,pV,pk,P,M,DD⟩:=p;simp only[dL]at CA Bk;simp only[jq,gX,Bq,nI,il,aq,bu,aec,aeb,Mn,ahY]at hq Bk ⊢;unfold bZ;refine χ 46 [] Tryz.func221 ?_;refine κ @sY ?_;refine VC.bx ?_;rintro O1 ⟨aJ,cA,cW⟩;have hq1:=(aJ.hp _ oH).trans hq;refine ξ @sY @hq1 ?_;refine π (CA O1) ?_;rintro _ O2 ⟨aC,rfl⟩;have si:=aC.at hq1;have eJ:=aC.N;refine ab @sY ?_;refine VC.gen ?_;intro O3 H3;have aG:O2.Ge O3:=by rw[H3];exact((((VH.Ge.refl O2).push _).push _).set (VI _) _).set (ame _) _
 have dR:O3.hp O2.N=some (.cells [.str nn,.sl na.length (na.flatMap bm) .ar,.sl nk.length (aD nk) .ar,.str nt]):=by rw[H3,ρ _ _ (by omega)];exact τ _ _ _
 have gE:O3.N=O2.N+2:=by rw[H3];rfl
 clear H3;have eu:=(aJ.trans aC).trans aG;have qZ:=aG.at si;refine κ @sY ?_;refine ξ @sY @dR ?_;refine π (Bk O3) ?_;rintro _ O4 ⟨aY,rfl⟩;have GD:=aY.at qZ;have h_:=aY.N;have gZ:=eu.trans aY;refine ab @sY ?_;refine VC.al ?_;rintro O5 ⟨bG,gK,e_⟩;have wm:=bG.at GD;have ov:=gZ.trans bG;refine κ @sY ?_;refine ι (aH @sY @gK @wm ?_);exact(bB.ll ov).any.trans bB.set
structure dJ (O:VH) (k q:Nat) (O':VH):Prop where
 N:O.N<=O'.N
 hp:∀i,i<O.N->i≠k->i≠q->O'.hp i=O.hp i
theorem dJ.ge {O O1 O2:VH} {k q:Nat} (h:dJ O k q O1) (g:O1.Ge O2):dJ O k q O2:=⟨ajA h.N g.N,fun i hi a b=>(g.hp i (Ml hi h.N)).trans (h.hp i hi a b)⟩
theorem dJ.of {O O1:VH} {k q:Nat} (g:O.Ge O1):dJ O k q O1:=⟨g.N,fun i hi _ _=>g.hp i hi⟩
theorem dJ.trans {O O1 O2:VH} {k q:Nat} (h:dJ O k q O1) (g:dJ O1 k q O2):dJ O k q O2:=⟨ajA h.N g.N,fun i hi a b=>(g.hp i (Ml hi h.N) a b).trans (h.hp i hi a b)⟩
theorem dJ.ag8 {O O1:VH} {k q:Nat} {x:cf} (h:dJ O k q O1):dJ O k q (O1.set k x):=⟨h.N,fun i hi a b=>(ρ _ _ a).trans (h.hp i hi a b)⟩
theorem dJ.ag9 {O O1:VH} {k q:Nat} {x:cf} (h:dJ O k q O1):dJ O k q (O1.set q x):=⟨h.N,fun i hi a b=>(ρ _ _ b).trans (h.hp i hi a b)⟩
theorem bB.two {O O1:VH} {k q:Nat} (h:bB O (some q) O1):dJ O k q O1:=⟨h.N,fun i hi _ b=>h.hp i hi (fun e=>b (by injection e with e;exact e.symm))⟩
theorem afC {O:VH} {k q ba bb bc:Nat} {t:Bs} {u s r r2:Int} {n:Nd} {p:Pm} {g:Gv} {m1 m2:MV} (ha:O.hp ba=some (.cells [.ptr k 0])) (yZ:O.hp bb=some (.cells [.ptr q 0])) (Kb:O.hp bc=some (.cells (bZ g))) (hk:O.hp k=some (.cells [m1,m2,mi r,mi r2])) (hq:O.hp q=some (.cells (jq t u s Bq il)))
  (fF:k<O.N) (oH:q<O.N) (kK:ba<O.N) (o5:bb<O.N) (fY:bc<O.N) (hkq:k≠q) (ht:t.length<=65536) (hb:iK t= .ok n) (hr:pL n= .ok p):
  VF Tryz.prog 220 [.ptr ba 0,.ptr bb 0,.ptr bc 0] O (aE fun m O'=>(∃r',O'.hp k=some (.cells [m1,m2,mi r',mi r2]))/\O'.hp q=some (.cells (jq t u s p il))/\dJ O k q O'):=by
 have Bk:=fun O' h1 h2=>afB (O:=O') (q:=q) (u:=u) (s:=s) g h1 h2 ht hb hr
 have hka:ba≠k:=fun e=>by subst e;rw[ha]at hk;cases hk
 have tT:bb≠k:=fun e=>by subst e;rw[yZ]at hk;cases hk
 have Pl:bc≠k:=fun e=>by subst e;rw[Kb]at hk;unfold bZ at hk;cases hk
 obtain⟨g1,g2,g3⟩:=g;unfold bZ at Kb Bk;simp only[aq]at hk;refine χ 10 [] Tryz.func220 ?_;refine θ (aH @sY @dD @ha ?_);refine π (wR 1 hk rfl) ?_;rintro m O1 ⟨rfl,e1⟩;have cA:O1.hp k=some (.cells [m1,m2,mi (IntKind.i64.wrap (r+1)),mi r2]):=by rw[e1];exact τ _ _ _
 have sG:dJ O k q O1:=by rw[e1];exact(dJ.of (VH.Ge.refl _)).ag8
 have cE:=(by rw[e1];exact ρ _ _ tT:O1.hp bb=O.hp bb).trans yZ;have fj:=(by rw[e1];exact ρ _ _ Pl:O1.hp bc=O.hp bc).trans Kb;have hq1:=(by rw[e1];exact ρ _ _ (Ne.symm hkq):O1.hp q=O.hp q).trans hq;have cW:O1.N=O.N:=by rw[e1];rfl
 clear e1;refine ao @sY @dD ?_;refine ι (aH @sY @cE @fj ?_);refine π (Bk O1 hq1 (by omega)) ?_;rintro m O2 ⟨si,c9⟩;have bN:=(c9.hp k (by omega) (fun e=>hkq (by injection e with e;exact e.symm))).trans cA;refine ab @sY ?_;exact⟨⟨_,bN⟩,si,sG.trans c9.two⟩
set_option linter.defProp false in
def kU:=zW sY<|zW dD<|zW T50<|zW Uv T74
theorem H0.qw {O O':VH} {k ke kv ce cv:Nat} {E V:fI} {r a r' a':Int} (h:H0 O k ke kv E ce V cv r a) (hc:O'.hp k=some (.cells [.map ke,.map kv,mi r',mi a'])) (he:O'.hp ke=O.hp ke) (hv:O'.hp kv=O.hp kv) (hn:O.N<=O'.N):H0 O' k ke kv E ce V cv r' a':=
 ⟨hc,he.trans h.Dt,hv.trans h.Jp,h.OJ,h.vok,h.ptr,⟨Ml h.lt.1 hn,Ml h.lt.2.1 hn,Ml h.lt.2.2 hn⟩,h.ne⟩
theorem H0.ge {O O':VH} {k ke kv ce cv:Nat} {E V:fI} {r a:Int} (h:H0 O k ke kv E ce V cv r a) (g:O.Ge O'):H0 O' k ke kv E ce V cv r a:=
 h.qw ((g.hp _ h.lt.1).trans h.cell) (g.hp _ h.lt.2.1) (g.hp _ h.lt.2.2) g.N
theorem aiP {O:VH} {k ke kv ce cv q:Nat} {E V:fI} {r a:Int} {t:Bs} {n:Nd} {p:Pm} (h:H0 O k ke kv E ce V cv r a) (g:Gv) (hg:uy g) (eC:iD (fc g) E=some (.ptr q 0)) (hq:O.hp q=some (.cells (jq t 0 0 Bq il))) (oH:q<O.N) (ht:t.length<=65536) (hb:iK t= .ok n) (hr:pL n= .ok p) (hp:acg p):
  VF Tryz.prog 195 [.ptr k 0,.agg (bZ g)] O (aE fun m O'=>m= .tuple [.agg (gX p),.agg (nI il)]/\(∃r' a',O'.hp k=some (.cells [.map ke,.map kv,mi r',mi a']))/\O'.hp q=some (.cells (jq t 1 0 p il))/\dJ O k q O'):=by
 have KL:q≠k:=fun e=>by subst e;rw[h.cell]at hq;simp[jq]at hq
 have hqe:q≠ke:=fun e=>by subst e;rw[h.Dt]at hq;cases hq
 have hqv:q≠kv:=fun e=>by subst e;rw[h.Jp]at hq;cases hq
 have hL3:(fc g).length=3:=rfl;have hLs:=wP hg;have hLm:bZ g=(fc g).map .str:=rfl;have hpc:=fun(O':VH) (ba bb bc:Nat) (m1 m2:MV) (r r2:Int) h1 h2 h3 h4 h5 h6 h7 h8 h9 zm=>afC (O:=O') (k:=k) (q:=q) (ba:=ba) (bb:=bb) (bc:=bc) (u:=0) (s:=1) (r:=r) (r2:=r2) (g:=g) (m1:=m1) (m2:=m2) h1 h2 h3 h4 h5 h6 h7 h8 h9 zm (Ne.symm KL) ht hb hr
 obtain⟨g1,g2,g3⟩:=g;have Pl:=h.cell;simp only[aq]at Pl;simp only[bZ];refine χ 40 [.cell 4 86,.cell 5 110] Tryz.func195 ?_;refine κ @kU ?_;refine VC.gen ?_;rintro O1 sU;obtain⟨aJ,cW,cz,cE,fj,oL⟩:=Gb _ _ _ _ sU;clear sU;have cA:=(aJ.hp _ h.lt.1).trans Pl;refine Ξ [2,3,4,5] (fun _:Unit=>[.ptr O.N 0,.ptr (O.N+1) 0,.ptr (O.N+2) 0,.ptr (O.N+3) 0]) (fun _ O'=>O'=O1.set k (.cells [.map ke,.map kv,mi r,mi (IntKind.i64.wrap (a+1))])) ?_ ?_
 ·refine ξ @kU @cz ?_;refine ι (aH @kU @cz @cA ?_);refine π (wR 1 cA rfl) ?_;rintro m O2 ⟨rfl,e2⟩;refine ab @kU ?_;exact aB.mk () e2
 intro _ O2 e2;have ei:=h.lt;have bN:O2.hp k=some (.cells [.map ke,.map kv,mi r,mi (IntKind.i64.wrap (a+1))]):=by rw[e2];exact τ _ _ _
 have dA:∀i,i≠k->O2.hp i=O1.hp i:=fun i hi=>by rw[e2];exact ρ _ _ hi
 have eJ:O2.N=O.N+4:=by rw[e2];exact cW
 have c9:dJ O k q O2:=by rw[e2];exact(dJ.of aJ).ag8
 have h2:H0 O2 k ke kv E ce V cv r (IntKind.i64.wrap (a+1)):=h.qw bN ((dA _ (Ne.symm h.ne.1)).trans (aJ.hp _ h.lt.2.1)) ((dA _ (Ne.symm h.ne.2.1)).trans (aJ.hp _ h.lt.2.2)) c9.N;have eA:=(dA _ (by omega)).trans cz;have cK:=(dA _ (by omega)).trans cE;have iL:=(dA _ (by omega)).trans fj;have jS:=(dA _ (by omega)).trans oL;have si:=(dA _ KL).trans ((aJ.hp _ oH).trans hq);clear e2 cz cE fj oL cA bN dA;generalize IntKind.i64.wrap (a+1)=a2 at*;refine θ (aH @kU @eA @cK ?_);refine π (UN h2 ⟨g1,g2,g3⟩ hg) ?_;rintro _ O3 ⟨rfl,aG⟩;have hh:Ct E ⟨g1,g2,g3⟩=true:=by unfold Ct;rw[eC];rfl
 rw[hh];have h3:=h2.ge aG;have gE:=aG.N;have iH:=aG.at eA;have cC:=aG.at cK;have fA:=aG.at iL;have wI:=aG.at jS;have qZ:=aG.at si;have c_:=c9.ge aG;clear eA cK iL jS si c9 h2;have dR:=h3.cell;have SH:=h3.Dt;simp only[aq]at dR;refine ab @kU ?_;refine ω ?_;refine WC.bQ (.held [7]) [(0,.rd),(1,.rd),(2,.rd),(3,.rd),(4,.rd),(5,.rd),(6,.one),(7,.one)] ?_;refine cJ @kU @iH @cC @dR ?_;refine VL.hold (.inr rfl) rfl rfl (fJ.kI wO aa (l:=fc ⟨g1,g2,g3⟩) (te:=⟨_,1,8,[.v (.pointer none)]⟩) Tryz.underlying74 Uv rfl rfl SH h3.OJ rfl hL3 hLs) (WL.sound aa ?_);rw[eC];refine ab @kU ?_;refine VC.al ?_;rintro O4 ⟨aY,kc,h_⟩;have h4:=h3.ge aY;have fb:=aY.at iH;have di:=aY.at cC;have fR:=aY.at fA;have Bo:=aY.at wI;have GD:=aY.at qZ;have ff:=c_.ge aY;have lX:=h4.cell;clear iH cC fA wI qZ c_ h3 dR SH hh aY aG;refine ξ @kU @kc ?_;have gL:(jq t 0 0 Bq il).set (1+1) (.v (.int .i32 1))=jq t 0 1 Bq il:=rfl;have vq:∀{i:Nat} {y:Option cf},i≠q->O4.hp i=y->(O4.set q (.cells (jq t 0 1 Bq il))).hp i=y:=fun hi hy=>(ρ _ _ hi).trans hy
 refine π (ab0 (off:=1) (Φ :=fun O'=>(∃r',O'.hp k=some (.cells [.map ke,.map kv,mi r',mi a2]))/\O'.hp q=some (.cells (jq t 0 1 p il))/\dJ (O4.set q (.cells (jq t 0 1 Bq il))) k q O') (g:=220) (xs:=[.ptr O.N 0,.ptr O3.N 0,.ptr (O.N+1) 0]) GD rfl rfl (by kernel_rfl) (by rw[gL];exact hpc (O4.set q (.cells (jq t 0 1 Bq il))) O.N O3.N (O.N+1) _ _ _ _ (vq (by omega) fb) (vq (by omega) kc) (vq (by omega) di) (vq (Ne.symm KL) lX) (τ _ _ _) (by show k<O4.N;omega) (by show q<O4.N;omega) (by show O.N<O4.N;omega) (by show O3.N<O4.N;omega) (by show O.N+1<O4.N;omega)) (fun O' Ci=>⟨_,Ci.2.1,rfl,rfl⟩)) ?_;rintro m O5 ⟨OX,cs',⟨⟨r',BB⟩,hqX,huX⟩,gN,e5⟩;rw[hqX]at gN;injection gN with gN;injection gN with gN
 subst gN;have mG:((jq t 0 1 p il).set 1 (.v (.int .u32 1))).set (1+1) (.v (.int .i32 0))=jq t 1 0 p il:=rfl;rw[mG]at e5;have wm:O5.hp q=some (.cells (jq t 1 0 p il)):=by rw[e5];exact τ _ _ _
 have gK:O5.hp k=some (.cells [.map ke,.map kv,mi r',mi a2]):=by rw[e5];exact(ρ _ _ (Ne.symm KL)).trans BB
 have huA:dJ O4 k q (O4.set q (.cells (jq t 0 1 Bq il))):=(dJ.of (VH.Ge.refl _)).ag9;have Jx:dJ O4 k q O5:=by rw[e5];exact(huA.trans huX).ag9
 have e_:=Jx.N;have rB:=ff.trans ⟨e_,fun i hi=>Jx.hp i hi⟩;have gd:=(Jx.hp _ (by omega) (by omega) (by omega)).trans fR;have Cq:=(Jx.hp _ (by omega) (by omega) (by omega)).trans Bo;have mI:=(Jx.hp _ (by omega) (by omega) (by omega)).trans kc;clear e5 Jx huA huX hqX BB mG gL vq fb di fR Bo GD ff lX kc h4;refine ab @kU ?_;have hov:=fun O'=>aiO p O' hp
 obtain⟨pb,⟨pg,pa,pv⟩,pG,pA,pV,pk,P,M,DD⟩:=p;simp only[jq,gX,nI,il,aq,bu,aec,aeb]at wm hov ⊢;refine ω ?_;have gM:∀{O':VH},O5.Ge O'->O'.hp O3.N=some (.cells [.ptr q 0])/\O'.hp q=O5.hp q:=fun g=>⟨g.at mI,g.hp _ (by omega)⟩
 refine VC.qR [] (fun O'=>O'.hp O3.N=some (.cells [.ptr q 0])/\O'.hp q=O5.hp q) (⟨mI,rfl⟩) ?_;refine ζ (m:=.ptr q 0) 0 ?_ ?_
 ·rintro O2 ⟨j1,j2⟩;exact dW @kU @j1
 simp only[ak];refine ae.au 1 ?_;refine ab @kU ?_;refine ae.au 2 ?_;refine ab @kU ?_;refine ζ (m:=.ptr q 0) 5 ?_ ?_
 ·rintro O2 ⟨j1,j2⟩;exact dW @kU @j1
 simp only[ak];refine ae.au 6 ?_;refine ab @kU ?_;refine ae.au 7 ?_;refine ab @kU ?_;rw[wm];refine ζ (m:=.agg [.v (.int .i64 0),.str [],.str [],.str [],.v (.int .i64 0),.v (.int .i64 0),.v (.int .i64 0),.str []]) 8 ?_ ?_
 ·rintro O2 ⟨j1,j2⟩;exact dW @kU @j2
 simp only[ak];refine ae.op (i:=3) ?_;refine ao @kU @wm ?_;refine⟨mI,?_⟩;refine ae.call (i:=4) (hov O5) ?_;rintro _ O6 ⟨rfl,eZ⟩;simp only[ak];have oO:=eZ.at mI;have hq6:=eZ.at wm;have p8:=eZ.at gK;have CD:=eZ.at gd;have hd6:=eZ.at Cq;have nH:=eZ.N;have r_:=rB.ge eZ;refine⟨⟨oO,hq6⟩,?_⟩;refine ae.op (i:=9) ?_;refine ao @kU @CD ?_;refine⟨⟨oO,hq6⟩,?_⟩;refine ae.op (i:=10) ?_;refine ao @kU @hd6 ?_;refine⟨⟨oO,hq6⟩,?_⟩;refine ae.bQ [] ?_;refine ab @kU ?_;refine VC.gen ?_;intro O7 e7;have wT:∀i,i≠O.N+2->i≠O.N+3->O7.hp i=O6.hp i:=fun i h1 h2=>by rw[e7,ρ _ _ h2,ρ _ _ h1]
 have vg:O7.N=O6.N:=by rw[e7];rfl
 have hd7:O7.hp (O.N+3)=some (.cells [.v (.int .i64 0),.str [],.str [],.str [],.v (.int .i64 0),.v (.int .i64 0),.v (.int .i64 0),.str []]):=by rw[e7];exact τ _ _ _
 have hc7:O7.hp (O.N+2)=some (.cells [.v (.bool pb),.str pg,.str pa,.str pv,.str pG,.str pA,.str pV,.str pk,.sl P.length (P.flatMap bm) .ar,.sl M.length (M.flatMap aU) .ar,.sl DD.length (DD.flatMap aU) .ar]):=by rw[e7,ρ _ _ (by omega)];exact τ _ _ _
 have hq7:=(wT q (by omega) (by omega)).trans hq6;have vh:=(wT k (by omega) (by omega)).trans p8;have D2:dJ O k q O7:=⟨by have:=r_.N;omega,fun i hi h1 h2=>(wT i (by omega) (by omega)).trans (r_.hp i hi h1 h2)⟩;clear e7 wT;refine ι (aH @kU @hc7 @hd7 ?_);exact⟨⟨_,_,vh⟩,hq7,D2⟩
set_option linter.defProp false in
def eE:=zW kU<|zW T82<|zW T75 rM
structure wU (O:VH) (V:fI) (N:Nat):Prop where
 row:∀p∈V,∃n cs tk,p.2.1= .sl n cs tk/\cs.length=n/\n<=N/\App O 0 1 tk/\c8 cs=cs
 one:∀(i j:Nat) (p r:List Bs×MV×Nat) (n:Nat) (cs:List MV) (tk:Tok) (n':Nat) (cs':List MV) (tk':Tok),V[i]?=some p->V[j]?=some r->i≠j->p.2.1= .sl n cs tk->r.2.1= .sl n' cs' tk'->∀x,Tok.id tk=some x->Tok.id tk'≠some x
theorem aN.sj {P:Program} {n:Sz} {D:List Deferred} {ops:Array Oper} {e:Env} {O:VH} {Q:VQ} {m:MV} {i d:Nat} {op:Op} {ty:TypeId} {ps:String} {af:Array Edge} {g:Option (Nat×Bool)} {K:Env->VH->Prop} (hy:fJ P n D (.mk (some d) op ty ps af g) e O m) (h:K ((d,m)::e) O) (ho:ops[i]?=some (.mk (some d) op ty ps af g):=by exact rfl) (hg:aO ops (.mk (some d) op ty ps af g) e=some true:=by exact rfl) (hd:bD n (some d)=true:=by exact rfl):aN P n D ops i e O Q K:=
 aN.hold ho hg hd hy h
def ach (t:Bs):Option Pm->List MV
 | none=>jq t 0 0 Bq il
 | some p=>jq t 1 0 p il
theorem App.mv {O O':VH} {B sz:Nat} {tk:Tok} (h:App O B sz tk) (hn:O.N<=O'.N) (hi:∀i,i<O.N->O.hp i=some .tok->O'.hp i=some .tok):App O' B sz tk:=by
 cases tk with
 | own t j=>exact⟨h.1,hi _ h.2.2.2 h.2.1,h.2.2.1,Ml h.2.2.2 hn⟩
 | nil=>trivial
 | full=>trivial
 | ar=>exact h.elim
theorem wU.mv {O O':VH} {V:fI} {N:Nat} (h:wU O V N) (hn:O.N<=O'.N) (hi:∀i,i<O.N->O.hp i=some .tok->O'.hp i=some .tok):wU O' V N:=
 ⟨fun p hp=>by obtain⟨n,cs,tk,h1,h2,h3,h4,h5⟩:=h.row p hp;exact⟨n,cs,tk,h1,h2,h3,h4.mv hn hi,h5⟩,h.one⟩
theorem wU.ge {O O':VH} {V:fI} {N:Nat} (h:wU O V N) (g:O.Ge O'):wU O' V N:=h.mv g.N fun i hi e=>(g.hp i hi).trans e
theorem App.off {O:VH} {B sz i:Nat} {tk:Tok} (h:App O B sz tk) (hi:i<O.N) (hn:O.hp i≠some .tok):(O.after tk).hp i=O.hp i:=by
 refine(cc.after h).hp i hi fun e=>hn ?_
 cases tk with
 | own t j=>injection e with e;subst e;exact h.2.1
 | _=>cases e
theorem WR.YE {G:Gh} {O:VH} {w:World} {k:Nat} {cs cs':List MV} (h:WR G O w) (hk:O.hp k=some (.cells cs)) (hw:fl cs cs'):WR G (O.set k (.cells cs')) w:=by
 obtain⟨b,C,T,h1,h2,h3⟩:=h.cells k cs hk;refine h.swap (by rw[hk];simp) (fun ds e=>?_) (fun X e=>by cases e) (fun _ _ e=>by cases e) (fun e=>by cases e) (fun _ _ _ e=>by cases e);injection e with e;subst e
 exact⟨b,C,T,h1,h2,hw.1▸hw.vrs h3⟩
theorem VC.YE {P:Program} {n:Sz} {D:List Deferred} {c:Code} {e:Env} {Q:VQ} {O:VH} {k:Nat} {cs cs':List MV} (hk:O.hp k=some (.cells cs)) (hw:fl cs cs') (h:VC P n D c e (O.set k (.cells cs')) Q):VC P n D c e O Q:=fun G a w h1 h2=>h G a w (h1.YE hk hw) h2
theorem fl.ak6 (a1 a2 a3 a4 a5 a6 a7 a8 a9 a10 a11 a12 b1 b2 b3 b4 b5 b6 b7 b8:MV):fl [a1,a2,a3,a4,a5,a6,a7,a8,a9,a10,a11,a12,.sl 0 [] .nil,.sl 0 [] .nil,.sl 0 [] .nil,b1,b2,b3,b4,b5,b6,b7,b8] [a1,a2,a3,a4,a5,a6,a7,a8,a9,a10,a11,a12,.sl 0 [] .ar,.sl 0 [] .ar,.sl 0 [] .ar,b1,b2,b3,b4,b5,b6,b7,b8]:=
 by repeat' first
  | exact fl.refl _
  | exact Wk.refl _
  | exact Wk.tok
  | refine fl.cons ?_ ?_
theorem afD {O:VH} {B sz:Nat} {tk:Tok} (h:App O B sz tk) {x:Nat} (e:Tok.id tk=some x):x<O.N:=(App.nE h e).2
theorem wU.app {O:VH} {V:fI} {N:Nat} (h:wU O V N) {tk:Tok} {p:List Bs×MV×Nat} (ha:App O 0 1 tk) (hp:p∈V) (hne:∀n' cs' tk',p.2.1= .sl n' cs' tk'->∀x,Tok.id tk=some x->Tok.id tk'≠some x):∃n cs t,p.2.1= .sl n cs t/\cs.length=n/\n<=N+1/\App (O.after tk) 0 1 t/\c8 cs=cs:=by
 obtain⟨n',cs',t,h1,h2,h3,h4,h5⟩:=h.row p hp;exact⟨n',cs',t,h1,h2,Nat.le_succ_of_le h3,cc.app (cc.after ha) h4 (hne _ _ _ h1),h5⟩
theorem wU.put {O:VH} {V:fI} {N:Nat} (h:wU O V N) (hV:nT 2 V) {l:List Bs} {n ck:Nat} {cs:List MV} {tk:Tok} {v:Bs} (eC:zF false (.sl 0 [] .nil) (iD l V)= .sl n cs tk) (hc:cs.length=n) (hn:n<=N) (ha:App O 0 1 tk) (hu:c8 cs=cs):
  wU (O.after tk) (i_ l (.sl (n+1) (cs++[.str v]) (.own O.N 1)) ck V) (N+1):=by
 have np:∃n' cs' t,(MV.sl (n+1) (cs++[.str v]) (.own O.N 1))= .sl n' cs' t/\cs'.length=n'/\n'<=N+1/\App (O.after tk) 0 1 t/\c8 cs'=cs':=⟨_,_,_,rfl,by rw[Mm,hc];rfl,by omega,App.after (ahZ _),by rw[nS,hu];simp only[wu]⟩
 have ei:∀p∈V,∀n' cs' t',p.2.1= .sl n' cs' t'->∀x,Tok.id t'=some x->x<O.N:=fun p hp n' cs' t' e x hx=>by
  obtain⟨a,b,c,h1,_,_,h4,_⟩:=h.row p hp;rw[h1]at e;injection e with _ _ e;subst e
  exact afD h4 hx
 unfold i_;cases jX:V.any (·.1==l)
 ·rw[if_neg (by simp)]
  have EK:∀p∈V,p.1≠l:=fun p hp e=>by
   rw[ank]at jX;exact jX p hp (by simp[e])
  rw[xH EK]at eC;simp only[zF]at eC;injection eC with e1 e2 e3;subst e1;subst e2;subst e3
  refine⟨fun p hp=>?_,fun i j p r n' cs' tk' n'' ak7 ak8 hi hj HF hp hr x hx=>?_⟩
  ·rcases ajw.1 hp with hp | hp
   ·exact h.app ha hp (fun _ _ _ _ x hx=>by cases hx)
   ·rw[ZA.1 hp];exact np
  ·rw[ann]at hi hj;split at hi<;>split at hj
   ·exact h.one i j p r _ _ _ _ _ _ hi hj HF hp hr x hx
   ·have Rc:=agu hj;rw[ZA]at Rc;subst Rc;dsimp only at hr;injection hr with _ _ e;subst e
    intro e2;injection e2 with e2
    have:=ei p (agu hi) _ _ _ hp x hx;omega
   ·have rF:=agu hi;rw[ZA]at rF;subst rF;dsimp only at hp;injection hp with _ _ e;subst e
    injection hx with hx;intro e2;have:=ei r (agu hj) _ _ _ hr x e2;omega
   ·have h1:=(aed.1 hi).1;have h2:=(aed.1 hj).1;simp only[aee,Mn]at h1 h2;omega
 ·rw[if_pos rfl];obtain⟨p0,hp0,HK⟩:=List.any_eq_true.1 jX;have HK:=eq_of_beq HK;obtain⟨i0,hi0,e0⟩:=ahW.1 hp0;have mY:V[i0]?=some p0:=by rw[ahV hi0,e0]
  have pY:=KJ hV.one mY;rw[HK]at pY;rw[pY]at eC;simp only[zF]at eC;have eC:p0.2.1= .sl n cs tk:=eC
  have uQ:∀{i:Nat} {p:List Bs×MV×Nat},V[i]?=some p->p.1=l->i=i0:=fun{i p} hi dI=>by
   have h1:(V.map (·.1))[i]?=some l:=by rw[ajy,hi];exact congrArg some dI
   have h2:(V.map (·.1))[i0]?=some l:=by rw[ajy,mY];exact congrArg some HK
   exact(List.getElem?_inj (by rw[ah0];exact(aed.1 hi).1) hV.one).1 (h1.trans h2.symm)
  refine⟨fun p' hp'=>?_,fun i j p' r' n' cs' tk' n'' ak7 ak8 hi hj HF hp hr x hx=>?_⟩
  ·obtain⟨p,hp,rfl⟩:=List.mem_map.1 hp';by_cases e:p.1=l
   ·rw[if_pos e];exact np
   ·rw[if_neg e];obtain⟨j,hj,ej⟩:=ahW.1 hp;have Lk:V[j]?=some p:=by rw[ahV hj,ej]
    exact h.app ha hp (fun n' cs' tk' e2 x hx=>h.one i0 j p0 p _ _ _ _ _ _ mY Lk (fun e3=>by subst e3;rw[mY]at Lk;injection Lk with Lk;exact e (Lk▸HK)) eC e2 x hx)
  ·rw[ajy]at hi hj;obtain⟨p,hpi,rfl⟩:=ajB.1 hi;obtain⟨r,hrj,rfl⟩:=ajB.1 hj;by_cases e:p.1=l
   ·by_cases e2:r.1=l
    ·exact absurd ((uQ hpi e).trans (uQ hrj e2).symm) HF
    ·rw[if_pos e]at hp;rw[if_neg e2]at hr;dsimp only at hp;injection hp with _ _ e3;subst e3
     injection hx with hx;intro e4;have:=ei r (agu hrj) _ _ _ hr x e4;omega
   ·rw[if_neg e]at hp;by_cases e2:r.1=l
    ·rw[if_pos e2]at hr;dsimp only at hr;injection hr with _ _ e3;subst e3
     intro e4;injection e4 with e4
     have:=ei p (agu hpi) _ _ _ hp x hx;omega
    ·rw[if_neg e2]at hr;exact h.one i j p r _ _ _ _ _ _ hpi hrj HF hp hr x hx
structure ob (O:VH) (k:Nat) (L:List (Gv×Bs×Option Pm)) (E V:fI) (ke kv ce cv:Nat) (r a:Int):Prop where
 st:H0 O k ke kv E ce V cv r a
 len:E.length=L.length
 Ll:∀(i:Nat) (g:Gv) (t:Bs) (o:Option Pm),L[i]?=some (g,t,o)->∃(q c:Nat),E[i]?=some (fc g,MV.ptr q 0,c)/\(q:Nat)<O.N/\O.hp q=some (.cells (ach t o))
 dis:∀(i j:Nat) (p r:List Bs×MV×Nat) (q:Nat),E[i]?=some p->E[j]?=some r->p.2.1=MV.ptr q 0->r.2.1=MV.ptr q 0->i=j
 ver:wU O V L.length
theorem afE (O:VH):VF Tryz.prog 19 [] O (aE fun m O'=>m= .ptr (O.N+2) 0/\ob O' (O.N+2) [] [] [] O.N (O.N+1) 0 0 0 0/\O.Ge O'):=by
 refine χ 5 [.tmp 0] Tryz.func19 ?_;have k7:Fv (kT [(0,1),(1,1),(2,1),(3,1)]) [.v (.map none),.v (.map none),.v (.int .i64 0),.v (.int .i64 0)] (.map O.N) [(1,.map (O.N+1))] (some (0,1))=some [.map O.N,.map (O.N+1),.v (.int .i64 0),.v (.int .i64 0)]:=rfl;refine κ @eE ?_;refine ξ @eE @k7 ?_;refine ν @eE ?_;obtain⟨hg,hn,h1,h2,h3⟩:=lu (O:=O) (.map [] 0) (.map [] 0) (.cells [.map O.N,.map (O.N+1),.v (.int .i64 0),.v (.int .i64 0)]) rfl;refine⟨⟨⟨h3,h1,h2,⟨by simp,by simp⟩,⟨by simp,by simp⟩,by simp,by omega,by omega⟩,rfl,by simp,by simp,⟨by simp,by simp⟩⟩,hg⟩
theorem Pn {tab:cg} {O:VH} {t kd te:TypeId} {k a b ck:Nat} {z:List MV} {es:vE} (h:tab t=some ⟨.map kd te,a,b,z⟩) (hb:O.hp k=some (.map es ck)):qo tab O t (.map k)=some (.v (.int .i64 es.length)):=by simp[qo,h,hb]
theorem GF {M:fI} {l:List Bs} (h:iD l M=none):∀p∈M,p.1≠l:=by
 unfold iD at h;rw[Option.map_eq_none_iff,List.find?_eq_none]at h;intro p hp e;exact h p hp (by simp[e])
theorem Jy {x y:Gv} (h:fc x=fc y):x=y:=by
 obtain⟨a,b,c⟩:=x;obtain⟨d,e,f⟩:=y;simp only[fc,List.cons.injEq,and_true]at h;obtain⟨rfl,rfl,rfl⟩:=h;rfl
section
variable {O O':VH} {k ke kv ce cv:Nat} {L:List (Gv×Bs×Option Pm)} {E V:fI} {r a:Int}
theorem ob.none (h:ob O k L E V ke kv ce cv r a) {g:Gv} (ec:∀x∈L,x.1≠g):iD (fc g) E=none:=by
 refine xH fun p hp e=>?_
 obtain⟨i,hi,rfl⟩:=ahW.1 hp;have hiL:i<L.length:=by rw[<-h.len];exact hi
 obtain⟨q,c,h1,_⟩:=h.Ll i L[i].1 L[i].2.1 L[i].2.2 (ahV hiL);rw[ahV hi]at h1;injection h1 with h1;rw[h1]at e;exact ec _ (anb hiL) (Jy e)
theorem ob.some (h:ob O k L E V ke kv ce cv r a) {i:Nat} {g:Gv} {t:Bs} {o:Option Pm} (hi:L[i]?=some (g,t,o)):∃q c,iD (fc g) E=some (.ptr q 0)/\q<O.N/\O.hp q=some (.cells (ach t o))/\E[i]?=some (fc g,.ptr q 0,c):=by
 obtain⟨q,c,h1,h2,h3⟩:=h.Ll i g t o hi;exact⟨q,c,KJ h.st.OJ.one h1,h2,h3,h1⟩
end
theorem aiQ {O:VH} {k ke kv ce cv:Nat} {L:List (Gv×Bs×Option Pm)} {E V:fI} {r a:Int} (h:ob O k L E V ke kv ce cv r a) (g:Gv) (t:Bs) (hm:AX g=true) (o7:uy g) (ec:∀x∈L,x.1≠g) (hL:L.length<1024):
  VF Tryz.prog 35 [.ptr k 0,.agg (bZ g),.str t] O (aE fun m O'=>m=mi 0/\(∃E' V' SI SJ,ob O' k (L++[(g,t,none)]) E' V' ke kv SI SJ r a)/\O.N<=O'.N/\∀i cs,i<O.N->O.hp i=some (.cells cs)->O'.hp i=some (.cells cs)):=by
 have yi:=h.none ec;have HU:=h.len;have cY:=h.st;have hh:Ct E g=false:=by unfold Ct;rw[yi];rfl
 have ei:=cY.lt;have hL3:(fc g).length=3:=rfl;have hLs:=wP o7;have ra:=fun O'=>XK g O' o7.1 o7.2.1 o7.2.2
 have aci:=fun(O':VH) (g':O.Ge O')=>UN (cY.ge g') g o7
 rw[hm]at ra;rw[hh]at aci;obtain⟨g1,g2,g3⟩:=g;simp only[bZ]at ra aci ⊢;refine χ 50 [.tmp 6] Tryz.func35 ?_;refine κ @eE ?_;refine VC.bx ?_;rintro O1 ⟨aJ,eQ,cW⟩;refine ξ @eE @eQ ?_;refine π (ra O1) ?_;rintro _ O2 ⟨rfl,aC⟩;have jv:=aC.at eQ;have fC:=aJ.trans aC;refine ao @eE @jv ?_;refine π (aci O2 fC) ?_;rintro _ O3 ⟨rfl,aG⟩;have eu:=fC.trans aG;have lS:=(aG.hp _ (by have:=aC.N;omega)).trans jv;have gE:=eu.N;have h3:=cY.ge eu;have dR:=h3.cell;have SH:=h3.Dt;simp only[aq]at dR;have hEn:(cS E).length<1024:=by unfold cS;rw[ah0];omega
 have qq:=Pn T74 SH;have HR:(cS E).length=L.length:=by unfold cS;rw[ah0];exact HU
 rw[HR]at qq;refine aH @eE @dR @qq ?_;refine ω ?_;refine WC.bQ (.held [8]) [(0,.rd),(1,.rd),(2,.rd),(3,.rd),(4,.rd),(5,.rd),(6,.rd),(7,.one),(8,.one)] ?_;refine aH @eE @dR @lS ?_;have heP:∀{x:cf},(O3.push x).hp ke=some (.map (cS E) ce):=(Ω _ _ h3.lt.2.1).trans SH
 refine VL.oF rfl rfl (oE.i_ wO (l:=fc ⟨g1,g2,g3⟩) (b:=ke) (ck:=ce) (M:=E) Tryz.underlying74 rfl heP h3.OJ rfl hL3 hLs rfl) (fun brk hb i hi=>?_) (WL.sound aa ?_)
 ·cases hb
  rcases i with _ | _ | _ | _ | _ | _ | _ | _ | _ | i<;>first
   | rfl
   | (exfalso;revert hi;simp)
 have vi:E.any (·.1==fc ⟨g1,g2,g3⟩)=false:=by
  rw[ank];intro p hp hpe;have:=GF yi p hp;exact this (eq_of_beq hpe)
 unfold i_ KI;rw[vi];refine ab @eE ?_;refine VC.gen ?_;intro O4 e4;have h_:O4.N=O3.N+1:=by rw[e4];rfl
 have ag_:=h3.lt;have Po:O.N+1<=O3.N:=by have:=aC.N;have:=aG.N;omega
 have sk:∀i,i<O3.N->i≠ke->O4.hp i=O3.hp i:=fun i h1 h2=>by rw[e4,ρ _ _ h2];exact Ω _ _ h1
 have he4:O4.hp ke=some (.map (cS (E++[(fc ⟨g1,g2,g3⟩,MV.ptr O3.N 0,ce)])) (ce+1)):=by rw[e4];exact τ _ _ _
 have GD:O4.hp O3.N=some (.cells [.str t,.v (.int .u32 0),.v (.int .i32 0),.v (.int .u32 0),.v (.bool false),.str [],.str [],.str [],.str [],.str [],.str [],.str [],.sl 0 [] .nil,.sl 0 [] .nil,.sl 0 [] .nil,.v (.int .i64 0),.str [],.str [],.str [],.v (.int .i64 0),.v (.int .i64 0),.v (.int .i64 0),.str []]):=by
  rw[e4,ρ _ _ (by omega)];exact Υ _ _
 clear e4 heP;refine VC.YE GD (cs':=jq t 0 0 Bq il) (fl.ak6 _ _ _ _ _ _ _ _ _ _ _ _ _ _ _ _ _ _ _ _) ?_;refine VC.gen ?_;intro O5 e5;have e_:O5.N=O3.N+1:=by rw[e5];exact h_
 have gM:∀i,i<O3.N->i≠ke->O5.hp i=O3.hp i:=fun i h1 h2=>by rw[e5,ρ _ _ (by omega)];exact sk i h1 h2
 have he5:O5.hp ke=some (.map (cS (E++[(fc ⟨g1,g2,g3⟩,MV.ptr O3.N 0,ce)])) (ce+1)):=by rw[e5,ρ _ _ (by omega)];exact he4
 have wm:O5.hp O3.N=some (.cells (jq t 0 0 Bq il)):=by rw[e5];exact τ _ _ _
 clear e5 sk he4 GD h_ O4;have gK:=(gM k (by omega) cY.ne.1).trans dR;have pP:=(gM kv (by omega) (Ne.symm cY.ne.2.2)).trans h3.Jp;have mI:=(gM O.N (by omega) (by omega)).trans lS;have acj:wU O5 V L.length:=(h.ver.ge eu).mv (by omega) fun i hi e=>(gM i hi (fun e2=>by subst e2;rw[SH]at e;cases e)).trans e
 obtain⟨n,cs,tk,j6,gN,hnn,vc,fx⟩:∃n cs tk,zF false (.sl 0 [] .nil) (iD (Bt ⟨g1,g2⟩) V)= .sl n cs tk/\cs.length=n/\n<=L.length/\App O5 0 1 tk/\c8 cs=cs:=by
  cases eC:iD (Bt ⟨g1,g2⟩) V with
  | none=>exact⟨0,[],.nil,rfl,rfl,ahZ _,trivial,rfl⟩
  | some m=>
    unfold iD at eC;obtain⟨p,lJ,rfl⟩:=ajB.1 eC;obtain⟨n,cs,tk,k1,k2,k3,k4,k5⟩:=acj.row p (ang lJ);exact⟨n,cs,tk,k1,k2,k3,k4,k5⟩
 have H6:=cY.vok;have Jz:=aiJ ⟨g1,g2,g3⟩
 have D8:∀s∈Bt ⟨g1,g2⟩,s.length<=maxLen:=by
  intro s hs;simp only[Bt,anf,anu,or_false]at hs;rcases hs with rfl | rfl
  ·exact o7.1
  ·exact o7.2.1
 simp only[bZ]at Jz;refine ω ?_;refine VC.qR [17] (fun O'=>O'.hp k=O5.hp k/\O'.hp O.N=O5.hp O.N) (⟨rfl,rfl⟩) ?_;refine ae.au 0 ?_;refine ab @eE ?_;refine ae.au 1 ?_;refine ab @eE ?_;refine ae.au 2 ?_;refine ab @eE ?_;refine ζ (m:=.map kv) 3 ?_ ?_
 ·rintro O2 ⟨j1,j2⟩;exact dW @eE (j1.trans gK)
 simp only[ak];refine ζ (m:=.agg [.str g1,.str g2,.str g3]) 4 ?_ ?_
 ·rintro O2 ⟨j1,j2⟩;exact dW @eE (j2.trans mI)
 simp only[ak];refine ae.au 6 ?_;refine ab @eE ?_;refine ae.au 7 ?_;refine ab @eE ?_;refine ae.au 8 ?_;refine ab @eE ?_;refine ζ (m:=.map kv) 9 ?_ ?_
 ·rintro O2 ⟨j1,j2⟩;exact dW @eE (j1.trans gK)
 simp only[ak];refine ζ (m:=.agg [.str g1,.str g2,.str g3]) 10 ?_ ?_
 ·rintro O2 ⟨j1,j2⟩;exact dW @eE (j2.trans mI)
 simp only[ak];refine ae.au 13 ?_;refine ab @eE ?_;refine ζ (m:=.str g3) 14 ?_ ?_
 ·rintro O2 ⟨j1,j2⟩;exact dW @eE (j2.trans mI)
 simp only[ak];have hJ:∀O',O5.Ge O'->O'.hp k=O5.hp k/\O'.hp O.N=O5.hp O.N:=fun O' g=>⟨g.hp _ (by omega),g.hp _ (by omega)⟩
 have pd:∀OO,O5.Ge OO->∀OF,OF=(OO.after tk).set kv (.map (cS (i_ (Bt ⟨g1,g2⟩) (.sl (n+1) (cs++[.str g3]) (.own OO.N 1)) cv V)) (KI (Bt ⟨g1,g2⟩) cv V))->(∃E' V' SI SJ,ob OF k (L++[((⟨g1,g2,g3⟩:Gv),t,none)]) E' V' ke kv SI SJ r a)/\O.N<=OF.N/\∀i cs,i<O.N->O.hp i=some (.cells cs)->OF.hp i=some (.cells cs):=by
  intro OO hG OF eF;have hoO:=hG.N
  have hF:∀i,i<O5.N->O5.hp i≠some .tok->i≠kv->OF.hp i=O5.hp i:=fun i hi hne hv=>by
   rw[eF,ρ _ _ hv];have e1:=hG.hp i hi;rw[App.off (vc.ge hG) (Ml hi hG.N) (by rw[e1];exact hne)];exact e1
  have SK:O5.N<=OF.N:=by
   have:OF.N=(OO.after tk).N:=by rw[eF];rfl
   have:=(cc.after (vc.ge hG)).N;omega
  have hold:∀i cs,i<O.N->O.hp i=some (.cells cs)->OF.hp i=some (.cells cs):=fun i cs hi e=>by
   have e3:=(eu.hp i hi).trans e;have e5:=(gM i (by omega) (fun e2=>by subst e2;rw[SH]at e3;cases e3)).trans e3;exact(hF i (by omega) (by rw[e5];simp) (fun e2=>by subst e2;rw[pP]at e5;cases e5)).trans e5
  have ack:=qB (y:=MV.ptr O3.N 0) (ck:=ce) h3.OJ hL3 hLs;unfold i_ at ack;rw[vi]at ack;refine⟨⟨_,_,_,_,⟨⟨(hF _ (by omega) (by rw[gK];simp) cY.ne.2.1).trans gK,(hF _ (by omega) (by rw[he5];simp) cY.ne.2.2).trans he5,by rw[eF];exact τ _ _ _,ack,qB H6 rfl D8,fun p hp=>?_,⟨by omega,by omega,by omega⟩,cY.ne⟩,by rw[Mm,Mm,HU];rfl,fun i g' t' o' hi=>?_,fun i j p r' q hi hj hp hr=>?_,?_⟩⟩,by omega,hold⟩
  ·rcases ajw.1 hp with hp | hp
   ·exact cY.ptr p hp
   ·rw[ZA.1 hp];exact⟨_,rfl⟩
  ·rw[ann]at hi;split at hi
   ·rename_i Pp;obtain⟨q,c,k1,k2,k3⟩:=h.Ll i g' t' o' hi;exact⟨q,c,by rw[ans (by omega)];exact k1,by omega,hold q _ k2 k3⟩
   ·rename_i Pp;have rF:=agu hi;rw[ZA]at rF;injection rF with e1 e2;injection e2 with e2 e3
    subst e1;subst e2;subst e3
    have hlen:=(aed.1 hi).1;simp only[aee,Mn]at hlen;refine⟨O3.N,ce,?_,by omega,(hF _ (by omega) (by rw[wm];simp) (by omega)).trans wm⟩;rw[anp (by omega),HU,show i - L.length=0 by omega];rfl
  ·have hq:∀(i:Nat) (p:List Bs×MV×Nat) (q:Nat),E[i]?=some p->p.2.1=MV.ptr q 0->q<O.N:=fun i p q hi hp=>by
    have Pp:i<L.length:=by rw[<-HU];exact(aed.1 hi).1
    obtain⟨q',c,k1,k2,_⟩:=h.Ll i _ _ _ (ahV Pp);rw[hi]at k1;injection k1 with k1
    rw[k1]at hp;dsimp only at hp;injection hp with hp;omega
   rw[ann]at hi hj;split at hi<;>split at hj
   ·exact h.dis i j p r' q hi hj hp hr
   ·have Rc:=agu hj;rw[ZA]at Rc;subst Rc;dsimp only at hr;injection hr with hr;have:=hq i p q hi hp;omega
   ·have rF:=agu hi;rw[ZA]at rF;subst rF;dsimp only at hp;injection hp with hp;have:=hq j r' q hj hr;omega
   ·have h1:=(aed.1 hi).1;have h2:=(aed.1 hj).1;simp only[aee,Mn]at h1 h2;omega
  ·rw[Mm];have hvO:=wU.put (ck:=cv) (v:=g3) (acj.ge hG) H6 j6 gN hnn (vc.ge hG) fx;rw[eF];refine hvO.mv (VI _) fun i hi e=>?_
   by_cases e2:i=kv
   ·subst e2;rw[App.off (vc.ge hG) (by omega) (by rw[hG.hp _ (by omega),pP];simp),hG.hp _ (by omega),pP]at e;cases e
   ·exact(ρ _ _ e2).trans e
 have hG:=VH.Ge.refl O5;refine η (i:=5) (j:=15) ?_ ?_
 ·refine aN.j8 (Jz _) ?_;rintro _ O6 ⟨rfl,qE⟩
  replace hG:=hG.trans qE
  clear qE;simp only[ak];refine⟨hJ _ hG,?_⟩;refine η (i:=11) (j:=15) ?_ ?_
  ·refine aN.j8 (Jz _) ?_;rintro _ O7 ⟨rfl,qE⟩
   replace hG:=hG.trans qE
   clear qE;simp only[ak];refine⟨hJ _ hG,?_⟩;refine η (i:=12) (j:=15) ?_ ?_
   ·refine aN.sj (fJ.kI Dr aa (l:=Bt ⟨g1,g2⟩) (te:=⟨_,1,24,[.sl 0 [] .nil]⟩) Tryz.underlying75 rM rfl rfl (hG.at pP) H6 rfl rfl D8) ?_;rw[j6];refine⟨hJ _ hG,?_⟩;refine ae.op (i:=15) ?_;refine ab @eE ?_;refine⟨hJ _ hG,?_⟩;have cy:=aT (tk:=tk) (tk':=.full) (B:=0) (n:=n) (k:=1) (cs:=cs) (ds:=[.str g3]) rM T9 (O:=O7) (vc.ge hG) (by rw[anw];exact gN) rfl rfl (by decide) (by decide) (by omega) (by simp only[maxLen];omega)
    have qb:∀i,i<O5.N->O5.hp i≠some .tok->((O7).after tk).hp i=O5.hp i:=fun i hi hne=>by
     have e1:=(hG).hp i hi;rw[App.off (vc.ge hG) (Ml hi (hG).N) (by rw[e1];exact hne)];exact e1
    refine ae.op (i:=16) ?_;rw[dq];refine ao @eE @cy ?_;refine⟨⟨qb _ (by omega) (by rw[gK];simp),qb _ (by omega) (by rw[mI];simp)⟩,?_⟩;refine ae.bQ [(17,.one)] ?_;refine ab @eE ?_;refine VL.oF rfl rfl (oE.i_ Dr (l:=Bt ⟨g1,g2⟩) (b:=kv) (ck:=cv) (M:=V) Tryz.underlying75 rfl ((qb _ (by omega) (by rw[pP];simp)).trans pP) H6 rfl rfl D8 rfl) (fun brk hb=>by cases hb) (WL.sound aa ?_);refine ab @eE ?_;refine VC.gen ?_;intro OF eF;refine κ @eE ?_;refine ν @eE ?_;exact pd O7 hG OF eF
   ·refine aN.o1 ?_;refine ab @eE ?_;refine⟨hJ _ hG,?_⟩;refine ae.one (i:=12) (aN.sj (fJ.kI Dr aa (l:=Bt ⟨g1,g2⟩) (te:=⟨_,1,24,[.sl 0 [] .nil]⟩) Tryz.underlying75 rM rfl rfl (hG.at pP) H6 rfl rfl D8) ?_);rw[j6];refine⟨hJ _ hG,?_⟩;have cy:=aT (tk:=tk) (tk':=.full) (B:=0) (n:=n) (k:=1) (cs:=cs) (ds:=[.str g3]) rM T9 (O:=O7) (vc.ge hG) (by rw[anw];exact gN) rfl rfl (by decide) (by decide) (by omega) (by simp only[maxLen];omega)
    have qb:∀i,i<O5.N->O5.hp i≠some .tok->((O7).after tk).hp i=O5.hp i:=fun i hi hne=>by
     have e1:=(hG).hp i hi;rw[App.off (vc.ge hG) (Ml hi (hG).N) (by rw[e1];exact hne)];exact e1
    refine ae.op (i:=16) ?_;rw[dq];refine ao @eE @cy ?_;refine⟨⟨qb _ (by omega) (by rw[gK];simp),qb _ (by omega) (by rw[mI];simp)⟩,?_⟩;refine ae.bQ [(17,.one)] ?_;refine ab @eE ?_;refine VL.oF rfl rfl (oE.i_ Dr (l:=Bt ⟨g1,g2⟩) (b:=kv) (ck:=cv) (M:=V) Tryz.underlying75 rfl ((qb _ (by omega) (by rw[pP];simp)).trans pP) H6 rfl rfl D8 rfl) (fun brk hb=>by cases hb) (WL.sound aa ?_);refine ab @eE ?_;refine VC.gen ?_;intro OF eF;refine κ @eE ?_;refine ν @eE ?_;exact pd O7 hG OF eF
  ·refine aN.o1 ?_;refine ab @eE ?_;refine⟨hJ _ hG,?_⟩;refine ae.one (i:=11) (aN.j8 (Jz _) ?_);rintro _ O7 ⟨rfl,qE⟩
   replace hG:=hG.trans qE
   clear qE;simp only[ak];refine⟨hJ _ hG,?_⟩;refine ae.one (i:=12) (aN.sj (fJ.kI Dr aa (l:=Bt ⟨g1,g2⟩) (te:=⟨_,1,24,[.sl 0 [] .nil]⟩) Tryz.underlying75 rM rfl rfl (hG.at pP) H6 rfl rfl D8) ?_);rw[j6];refine⟨hJ _ hG,?_⟩;have cy:=aT (tk:=tk) (tk':=.full) (B:=0) (n:=n) (k:=1) (cs:=cs) (ds:=[.str g3]) rM T9 (O:=O7) (vc.ge hG) (by rw[anw];exact gN) rfl rfl (by decide) (by decide) (by omega) (by simp only[maxLen];omega)
   have qb:∀i,i<O5.N->O5.hp i≠some .tok->((O7).after tk).hp i=O5.hp i:=fun i hi hne=>by
    have e1:=(hG).hp i hi;rw[App.off (vc.ge hG) (Ml hi (hG).N) (by rw[e1];exact hne)];exact e1
   refine ae.op (i:=16) ?_;rw[dq];refine ao @eE @cy ?_;refine⟨⟨qb _ (by omega) (by rw[gK];simp),qb _ (by omega) (by rw[mI];simp)⟩,?_⟩;refine ae.bQ [(17,.one)] ?_;refine ab @eE ?_;refine VL.oF rfl rfl (oE.i_ Dr (l:=Bt ⟨g1,g2⟩) (b:=kv) (ck:=cv) (M:=V) Tryz.underlying75 rfl ((qb _ (by omega) (by rw[pP];simp)).trans pP) H6 rfl rfl D8 rfl) (fun brk hb=>by cases hb) (WL.sound aa ?_);refine ab @eE ?_;refine VC.gen ?_;intro OF eF;refine κ @eE ?_;refine ν @eE ?_;exact pd O7 hG OF eF
 ·refine aN.o1 ?_;refine ab @eE ?_;refine ae.one (i:=5) (aN.j8 (Jz _) ?_);rintro _ O6 ⟨rfl,qE⟩
  replace hG:=hG.trans qE
  clear qE;simp only[ak];refine⟨hJ _ hG,?_⟩;refine ae.one (i:=11) (aN.j8 (Jz _) ?_);rintro _ O7 ⟨rfl,qE⟩
  replace hG:=hG.trans qE
  clear qE;simp only[ak];refine⟨hJ _ hG,?_⟩;refine ae.one (i:=12) (aN.sj (fJ.kI Dr aa (l:=Bt ⟨g1,g2⟩) (te:=⟨_,1,24,[.sl 0 [] .nil]⟩) Tryz.underlying75 rM rfl rfl (hG.at pP) H6 rfl rfl D8) ?_);rw[j6];refine⟨hJ _ hG,?_⟩;have cy:=aT (tk:=tk) (tk':=.full) (B:=0) (n:=n) (k:=1) (cs:=cs) (ds:=[.str g3]) rM T9 (O:=O7) (vc.ge hG) (by rw[anw];exact gN) rfl rfl (by decide) (by decide) (by omega) (by simp only[maxLen];omega)
  have qb:∀i,i<O5.N->O5.hp i≠some .tok->((O7).after tk).hp i=O5.hp i:=fun i hi hne=>by
   have e1:=(hG).hp i hi;rw[App.off (vc.ge hG) (Ml hi (hG).N) (by rw[e1];exact hne)];exact e1
  refine ae.op (i:=16) ?_;rw[dq];refine ao @eE @cy ?_;refine⟨⟨qb _ (by omega) (by rw[gK];simp),qb _ (by omega) (by rw[mI];simp)⟩,?_⟩;refine ae.bQ [(17,.one)] ?_;refine ab @eE ?_;refine VL.oF rfl rfl (oE.i_ Dr (l:=Bt ⟨g1,g2⟩) (b:=kv) (ck:=cv) (M:=V) Tryz.underlying75 rfl ((qb _ (by omega) (by rw[pP];simp)).trans pP) H6 rfl rfl D8 rfl) (fun brk hb=>by cases hb) (WL.sound aa ?_);refine ab @eE ?_;refine VC.gen ?_;intro OF eF;refine κ @eE ?_;refine ν @eE ?_;exact pd O7 hG OF eF
open Go.MapKept (run_setObj_map)
set_option linter.defProp false in
def d_:=zW eE<|zW XB<|zW T37<|zW T3<|zW akc Ca
def jc (d:Dp):Ky:=⟨d.g,d.a,if d.t=[]then[106,97,114]else d.t,d.c⟩
theorem Lm (d:Dp) (O:VH):VF Tryz.prog 93 [.agg (aU d)] O (aE fun m O'=>m= .agg (gV (jc d))/\O.Ge O'):=by
 obtain⟨g,a,v,t,c,s,o,x⟩:=d;simp only[aU,jc,gV];refine χ 18 [.cell 2 40] Tryz.func93 ?_;refine κ @d_ ?_;refine VC.gen ?_;intro O1 e1;obtain⟨aJ,cW,cz,cE⟩:=ib _ _ e1;clear e1;refine ξ @d_ @cz ?_;refine VC.al ?_;rintro O2 ⟨aC,jv,eJ⟩;have cK:=aC.at cE;cases t with
 | nil=>
   rw[if_pos rfl];refine θ (aH @d_ @jv (show(([]:List UInt8)==[])=true from rfl) ?_);refine ι (aH @d_ @jv @cK ?_);exact(((aJ.trans aC).set (by omega) _).set (by omega) _)
 | cons y t=>
   rw[if_neg (by simp)];refine θ (aH @d_ @jv (show((y::t)==[])=false from rfl) ?_);refine ι (aH @d_ @jv @cK ?_);exact(aJ.trans aC).set (by omega) _
section
variable {G H:Gh} {n:Sz} {D:List Deferred} {e e':Env} {a:Act} {P:Program} {tab:cg} {O O':VH} {w:World} {m m':MV} {u v:Value} {ops:Array Oper} {Q:VQ} {md:Md}
structure Cnt (N:Nat) (M:fI) (j:Int):Prop where
 ok:nT N M
 int:∀p∈M,∃x:Int,p.2.1=mi x/\0<=x/\x<=j
theorem gC.UY {kt et:TypeId} {N:Nat} (K:uU P kt N) (ht:aP P tab) {d:Option Tmp} {t ty:TypeId} {x y:Operand} {ps:String} {af:Array Edge} {g:Option (Nat×Bool)} {b ck:Nat} {M:fI} {l:List (List UInt8)} {te:cM} {z:MV} (hU:P.underlying t=some (.map kt et)) (oo:tab et=some te) (hz:xA te=some z)
  (hx:ev e x=some (.map b)) (hb:O.hp b=some (.map (cS M) ck)) (hM:nT N M) (hy:ev e y=some (.agg (l.map .str))) (hl:l.length=N) (hs:∀s∈l,s.length<=maxLen):
  gC P n D (.mk d (.mapEntry t x y) ty ps af g) e O fun m O'=>∃(M':fI) (ck':Nat) (v:MV) (st:Nat),m= .tuple [v,.v (.int .i64 st)]/\O'=O.set b (.map (cS M') ck')/\nT N M'/\(∀p∈M',p∈M\/p.2.1=z)/\(∃p∈M',p.2.2=st):=by
 intro G a w hw hf;have h1:=hf.ev hx;have h2:=hf.ev hy;generalize pH:a.eval x=u at h1;generalize zE:a.eval y=v at h2;have hv:=AQ h2;subst hv;cases h1 with
 | map eS=>
   rename_i b';obtain⟨b2,E,e1,e2,e3,e4,e5⟩:=hw.map _ _ _ hb;rw[eS]at e1;injection e1 with e1;subst e1
   have hE:ie G (cS M) E.toList:=⟨e3,e4,e5⟩;obtain⟨lit,yH⟩:=K.of l hl hs;have FH:=K.law.check w false yH;obtain⟨zv,z1,z2⟩:=zy (ht et te oo) hz;rcases AR K hM hE hl hs w with⟨g1,g2⟩ | ⟨j,p,q,g1,g2,g3,g4,g5⟩
   ·have jX:M.any (·.1==l)=false:=by rw[ank];intro p hp;simpa using g2 p hp
    have hr:ie G (cS (M++[(l,z,ck)])) (E.push {key:=fT l,val:=zv,born:=ck}).toList:=by
     rw[Array.toList_push];unfold cS;rw[anh];exact hE.append (ie.cons rfl h2 (z2 G) ie.nil)
    have dh:=qB (y:=z) (ck:=ck) hM hl hs;unfold i_ at dh;rw[jX]at dh;refine⟨.tuple [z,.v (.int .i64 ck)],O.set b (.map (cS (M++[(l,z,ck)])) (ck+1)),.tuple #[zv,.int .i64 ck],?wx,G,⟨M++[(l,z,ck)],ck+1,z,ck,rfl,rfl,dh,fun p hp=>?_,⟨_,anm _ (ZA.2 rfl),rfl⟩⟩,?rn,Gh.Le.refl G,?wr,?vr⟩
    case wr=>exact hw.tR (ck':=ck+1) hb eS e2 hr
    case rn=>
     simp only[execOp,pH,zE,Instr.mapEntry,Sem.run_bind,run_underlying hU,Result.andThen_ok,MapKept.run_getObj_map e2,FH,g1,z1,run_setObj_map _ e2];rfl
    case vr=>exact VR.tuple (us:=[zv,.int .i64 ck]) rfl (aS.cons (z2 G) (aS.cons (.v rfl) aS.nil)).2
    rcases ajw.1 hp with hp | hp
    ·exact .inl hp
    ·rw[ZA.1 hp];exact .inr rfl
   ·obtain⟨k1,k2,k3⟩:=hE.keys.2 j p q g2 g4;have cY:=K.law.stays w yH;have KL:q.key=fT l:=by rw[k1,g3]
    have Lk:E[j]?=some q:=by simpa using g4
    have yd:((E[j]?).map (·.key)).getD (fT l)=fT l:=by rw[Lk];exact KL
    have yZ:((E[j]?).map (fun x=>((x.born:Nat):Int))).getD 0=(p.2.2:Int):=by rw[Lk];exact congrArg (fun n:Nat=>(n:Int)) k3
    have ak9:E.modify j (fun x=>{x with key:=fT l})=E:=by
     have hj:=(Array.getElem?_eq_some_iff.1 Lk);obtain⟨cB,aM⟩:=hj;apply Array.ext
     ·simp
     ·intro i mH dA;rw[Array.getElem_modify];split
      ·rename_i e;subst e
       rw[aM, <-KL]
      ·rfl
    refine⟨.tuple [p.2.1,.v (.int .i64 p.2.2)],O.set b (.map (cS M) ck),.tuple #[q.val,.int .i64 p.2.2],?wy,G,⟨M,ck,p.2.1,p.2.2,rfl,rfl,hM,fun p hp=>.inl hp,⟨p,agu g2,rfl⟩⟩,?rm,Gh.Le.refl G,?ws,?vs⟩
    case ws=>exact hw.tR (E':=E) (ck':=ck) hb eS e2 hE
    case rm=>
     simp only[execOp,pH,zE,Instr.mapEntry,Sem.run_bind,run_underlying hU,Result.andThen_ok,MapKept.run_getObj_map e2,FH,g1,yd,cY,ak9,yZ,run_setObj_map _ e2];rfl
    case vs=>exact VR.tuple (us:=[q.val,.int .i64 p.2.2]) rfl (aS.cons g5 (aS.cons (.v rfl) aS.nil)).2
def CE (P:Program) (n:Sz) (D:List Deferred) (o:Oper) (e:Env) (O:VH) (Φ :VH->Prop):Prop:=∀G a w,WR G O w->FR G n D e a->∃w' H O', Φ O'/\(execOp a.eval o).run P w= .ok .skip w'/\Gh.Le G H/\WR H O' w'
theorem aN.afF {i:Nat} {o:Oper} {K:Env->VH->Prop} {Φ :VH->Prop} (ho:ops[i]?=some o) (hg:aO ops o e=some true) (hd:bD n o.dst=true) (hy:CE P n D o e O Φ) (h:∀O', Φ O'->K (aZ o.dst cV e) O'):aN P n D ops i e O Q K:=by
 intro G a w hw aV;obtain⟨w',H,O',hΦ,hr,h1,h2⟩:=hy G a w hw aV;simp only[wpOp,ho,bC aV hg,if_true];refine .inl ?_;unfold Oper.wp;rw[hr];exact⟨_,_,H,h1,h2,(aV.mono h1).aZ hd lM,h _ hΦ⟩
theorem sZ {α β :Type} {f: α -> α} {g: α -> β} (h:∀x,g (f x)=g x) (L:List α) (i:Nat):(L.modify i f).map g=L.map g:=by
 refine ant fun j=>?_
 rw[ajy,ajy,ano];cases L[j]? with
 | none=>rfl
 | some x=>
   simp only[ani];split
   ·exact congrArg some (h x)
   ·rfl
theorem Pq {α β :Type} {f: α -> α} {g: α -> β} {y: β} (h:∀x,g (f x)=y) (L:List α) (i:Nat):(L.modify i f).map g=(L.map g).set i y:=by
 refine ant fun j=>?_
 rw[ajy,ano,List.getElem?_set,ajy,ah0];by_cases e:i=j
 ·subst e;rw[if_pos rfl];by_cases hl:i<L.length
  ·rw[if_pos hl,ahV hl];simp[h]
  ·rw[if_neg hl,List.getElem?_eq_none (by omega)];rfl
 ·rw[if_neg e];cases L[j]? with
  | none=>rfl
  | some x=>simp[e]
theorem CE.JA {d:Option Tmp} {t ty:TypeId} {x y z:Operand} {ps:String} {af:Array Edge} {g:Option (Nat×Bool)} {b ck st N:Nat} {M:fI} (hx:ev e x=some (.map b)) (hb:O.hp b=some (.map (cS M) ck)) (hM:nT N M) (hy:ev e y=some (.v (.int .i64 st))) (hz:ev e z=some m) (hin:∃p∈M,p.2.2=st):
  CE P n D (.mk d (.entryStore t x y z) ty ps af g) e O fun O'=>∃M',O'=O.set b (.map (cS M') ck)/\nT N M'/\∀p∈M',p∈M\/p.2.1=m:=by
 intro G a w hw hf;have h1:=hf.ev hx;have h2:=hf.ev hy;have h3:=hf.ev hz;generalize pH:a.eval x=u at h1;generalize zE:a.eval y=v at h2;generalize haz:a.eval z=r at h3;have hv:=h2.je;subst hv;cases h1 with
 | map eS=>
   rename_i b';obtain⟨b2,E,e1,e2,e3,e4,e5⟩:=hw.map _ _ _ hb;rw[eS]at e1;injection e1 with e1;subst e1
   have hE:ie G (cS M) E.toList:=⟨e3,e4,e5⟩;have hlen:=hE.keys.1;obtain⟨p,hp,hps⟩:=hin;obtain⟨j,hj,ej⟩:=ahW.1 hp;have hjE:j<E.toList.length:=by omega
   have aiR:=(hE.keys.2 j p E.toList[j] (by rw[ahV hj,ej]) (ahV hjE)).2.2;have aiS:E.toList[j]∈E:=by simp
   obtain⟨i,hi⟩:∃i,E.findIdx? (fun e=>(e.born:Int)==(st:Int))=some i:=by
    have:(E.findIdx? (fun e=>(e.born:Int)==(st:Int))).isSome=true:=by
     rw[Array.findIdx?_isSome];rw[Array.any_eq_true'];exact⟨_,aiS,by rw[aiR,hps];simp⟩
    exact Option.isSome_iff_exists.1 this
   have hr:ie G (cS (M.modify i fun p=>(p.1,m,p.2.2))) (E.modify i fun e=>{e with val:=r}).toList:=by
    rw[Array.toList_modify];refine⟨?_,?_,?_⟩
    ·rw[sZ (f:=fun e:MapEntry=>{e with val:=r}) (g:=fun x=>x.born) (fun _=>rfl) E.toList i,e3];unfold cS;rw[anj,anj];exact(sZ (f:=fun p:List Bs×MV×Nat=>(p.1,m,p.2.2)) (fun _=>rfl) M i).symm
    ·rw[sZ (f:=fun e:MapEntry=>{e with val:=r}) (g:=fun x=>x.key) (fun _=>rfl) E.toList i]
     have:(cS (M.modify i fun p=>(p.1,m,p.2.2))).map (·.1)=(cS M).map (·.1):=by
      unfold cS;rw[anj,anj];exact sZ (f:=fun p:List Bs×MV×Nat=>(p.1,m,p.2.2)) (fun _=>rfl) M i
     rw[this];exact e4
    ·rw[Pq (f:=fun e:MapEntry=>{e with val:=r}) (g:=fun x=>x.val) (y:=r) (fun _=>rfl) E.toList i]
     have:(cS (M.modify i fun p=>(p.1,m,p.2.2))).map (·.2.1)=((cS M).map (·.2.1)).set i m:=by
      unfold cS;rw[anj,anj];exact Pq (f:=fun p:List Bs×MV×Nat=>(p.1,m,p.2.2)) (fun _=>rfl) M i
     rw[this];exact e5.set h3
   have acm:∀p∈M.modify i (fun p=>(p.1,m,p.2.2)),(∃p0∈M,p.1=p0.1/\p.2.2=p0.2.2)/\(p∈M\/p.2.1=m):=fun p hp=>by
    obtain⟨j,hj,ej⟩:=ahW.1 hp;have hg:(M.modify i (fun p=>(p.1,m,p.2.2)))[j]?=some p:=by rw[ahV hj,ej]
    rw[ano]at hg;cases hm:M[j]? with
    | none=>rw[hm]at hg;cases hg
    | some p0=>
      rw[hm]at hg
      change some _=some p at hg
      injection hg with hg;have Dw:=agu hm;split at hg
      ·subst hg;exact⟨⟨p0,Dw,rfl,rfl⟩,.inr rfl⟩
      ·subst hg;exact⟨⟨_,Dw,rfl,rfl⟩,.inl Dw⟩
   refine⟨?wx,G,O.set b (.map (cS (M.modify i fun p=>(p.1,m,p.2.2))) ck),⟨_,rfl,⟨fun p hp=>?_,?_⟩,fun p hp=>(acm p hp).2⟩,?rn,Gh.Le.refl G,?wr⟩
   case wr=>exact hw.tR (ck':=ck) hb eS e2 hr
   case rn=>
    simp only[execOp,pH,zE,haz,Instr.entryStore,Sem.run_bind,Result.andThen_ok,MapKept.run_getObj_map e2,asInt,asIntOf,Sem.run_pure,hi,run_setObj_map _ e2]
   ·obtain⟨p0,h1,h2,_⟩:=(acm p hp).1;rw[h2];exact hM.len p0 h1
   ·have:(M.modify i (fun p=>(p.1,m,p.2.2))).map (·.1)=M.map (·.1):=sZ (f:=fun p:List Bs×MV×Nat=>(p.1,m,p.2.2)) (fun _=>rfl) M i;rw[this];exact hM.one
end
theorem aN.Pr {P:Program} {n:Sz} {D:List Deferred} {ops:Array Oper} {e:Env} {O:VH} {Q:VQ} {i:Nat} {op:Op} {ty:TypeId} {ps:String} {af:Array Edge} {g:Option (Nat×Bool)} {K:Env->VH->Prop} {Φ :VH->Prop} (ho:ops[i]?=some (.mk none op ty ps af g)) (hg:aO ops (.mk none op ty ps af g) e=some true) (hy:CE P n D (.mk none op ty ps af g) e O Φ) (h:∀O', Φ O'->K e O'):aN P n D ops i e O Q K:=
 aN.afF ho hg rfl hy h
theorem ae.GH {P:Program} {n:Sz} {D:List Deferred} {e:Env} {O:VH} {Q:VQ} {brk:List Nat} {Ψ :Gh->Prop} {J:VH->Prop} {Z:Prop} {fuel i d:Nat} {listed:Array Bool} {l:List Oper} {op:Op} {ty:TypeId} {ps:String} {af:Array Edge} {g:Option (Nat×Bool)} {M:MV->VH->Prop} (hy:gC P n D (.mk (some d) op ty ps af g) e O M)
  (h:∀m O',M m O'->J O'/\ae P n D ⟨l⟩ brk J Ψ Z fuel (listed.setIfInBounds i true) ((d,m)::e) O' Q) (hr:Region.ready .any ⟨l⟩ listed=[i]:=by kernel_rfl) (ho:l[i]?=some (.mk (some d) op ty ps af g):=by exact rfl) (hg:aO ⟨l⟩ (.mk (some d) op ty ps af g) e=some true:=by exact rfl) (hd:bD n (some d)=true:=by exact rfl):ae P n D ⟨l⟩ brk J Ψ Z (fuel+1) listed e O Q:=ae.st hy h (hr:=hr) (ho:=ho) (hg:=hg) (hd:=hd)
theorem aN.GH {P:Program} {n:Sz} {D:List Deferred} {e:Env} {O:VH} {Q:VQ} {i d:Nat} {l:List Oper} {op:Op} {ty:TypeId} {ps:String} {af:Array Edge} {g:Option (Nat×Bool)} {M:MV->VH->Prop} {K:Env->VH->Prop} (hy:gC P n D (.mk (some d) op ty ps af g) e O M)
  (h:∀m O',M m O'->K ((d,m)::e) O') (ho:l[i]?=some (.mk (some d) op ty ps af g):=by exact rfl) (hg:aO ⟨l⟩ (.mk (some d) op ty ps af g) e=some true:=by exact rfl) (hd:bD n (some d)=true:=by exact rfl):aN P n D ⟨l⟩ i e O Q K:=aN.st hy h (ho:=ho) (hg:=hg) (hd:=hd)
theorem GR.less {O:VH} {el:TypeId} {sz B B':Nat} {p:MV} {n:Nat} {L:List MV} (h:GR O el sz B p n L) (hB:B'<=B):GR O el sz B' p n L:=by
 rcases h with h | ⟨k,c,h1,h2,h3,h4⟩
 ·exact .inl h
 ·obtain⟨j,k1,k2,k3⟩:=h4.oV;exact .inr ⟨k,c,h1,h2,h3,⟨h4.cells,⟨j,ajA hB k1,k2,k3⟩,ajA hB h4.lo,h4.hi⟩⟩
def dk (x:Ky):List Bs:=[x.g,x.a,x.t,x.c]
def Dx (d:Dp):Prop:=d.g.length<=100000/\d.a.length<=100000/\d.v.length<=100000/\d.t.length<=100000/\d.c.length<=100000/\d.x.length<=10000
theorem Ps {d:Dp} (h:Dx d):∀s∈dk (jc d),s.length<=maxLen:=by
 obtain⟨h1,h2,h3,h4,h5,h6⟩:=h;intro s hs;simp only[dk,jc,anf,anu,or_false]at hs;have hm:100000<=maxLen:=by simp[maxLen]
 rcases hs with rfl | rfl | rfl | rfl
 ·omega
 ·omega
 ·split
  ·exact ajA (by decide) hm
  ·omega
 ·omega
theorem acn (L:List Dp) (tk t2:Tok) (O:VH) (hn:L.length<=10000) (hL:∀d∈L,Dx d):
  VF Tryz.prog 223 [.sl L.length (L.flatMap aU) tk,.sl 0 [] t2,.func (.func 93) [] []] O (aE fun m O'=>O.Ge O'/\GR O' 56 8 O.N m L.length (L.flatMap aU)):=by
 have dI:=aX gW L;refine χ 49 [.tmp 6] Tryz.func223 ?_;refine κ @d_ ?_;refine κ @d_ ?_;refine VC.gen ?_;intro O1 e1;have aJ:O.Ge O1:=by rw[e1];exact(VH.Ge.refl O).push _
 have cW:O1.N=O.N+1:=by rw[e1];rfl
 have H7:O1.hp O.N=some (.map (cS []) 0):=by rw[e1];exact Υ _ _
 clear e1;refine Ξ [0,1,2,7] (fun _:Unit=>[.sl L.length (L.flatMap aU) tk,.sl 0 [] t2,.func (.func 93) [] [],.map O.N]) (fun _ O'=>O.Ge O'/\O.N+1<=O'.N) ?_ ?_
 ·refine κ @d_ ?_;refine υ ?_;refine Δ [16] [0,1,2,7,14,15] (fun j:Nat=>[mi j]) (fun j O'=>O.Ge O'/\O.N+1<=O'.N/\j<=L.length/\∃M ck,O'.hp O.N=some (.map (cS M) ck)/\Cnt 4 M j) (fun j=>L.length - j) (0) ?_ ?_
  ·exact⟨aJ,by omega,ahZ _,[],0,H7,⟨by simp,by simp⟩,by simp⟩
  rintro j O3 ⟨aG,gE,hj,M,ck,hm3,hM⟩;by_cases aM:j<L.length;rotate_left
  ·obtain rfl:j=L.length:=by omega
   refine ν @d_ ?_;exact aB.mk () ⟨aG,gE⟩
  have bE:=cP gW L j aM;have fF:=Ps (hL L[j] (List.getElem_mem aM));have D9:=Lm L[j];generalize L[j]=d at*;have hkm:gV (jc d)=(dk (jc d)).map .str:=rfl;have lX:(dk (jc d)).length=4:=rfl;generalize dk (jc d)=kl at*;rw[hkm]at D9;obtain⟨dg,da,dv,dt,dc,lh,dO,dx⟩:=d;simp only[aU,aq]at bE D9;have cB:((j:Int)+1)=((j+1:Nat):Int):=by omega
  refine κ @d_ ?_;refine κ @d_ ?_;refine ω (υ ?_);refine ξ @d_ @bE ?_;refine VC.al ?_;rintro O4 ⟨aY,kc,h_⟩;have Ln:=aY.at hm3;refine VC.qR [] (fun O'=>True) (trivial) ?_;refine ae.au 0 ?_;refine ab @d_ ?_;refine ae.au 1 ?_;refine ab @d_ ?_;refine ae.op (i:=2) ?_;refine ao @d_ @kc ?_;refine ae.qP (i:=3) (D9 O4) ?_ ?_;rotate_left
  ·rintro m O5 h;exact h.elim
  rintro _ O5 ⟨rfl,bG⟩;simp only[ak];refine⟨trivial,?_⟩;have zV:=bG.at Ln
  obtain⟨x,hx,hx0,hxj⟩:∃x:Int,zF false (mi 0) (iD kl M)=mi x/\0<=x/\x<=j:=by
   cases eC:iD kl M with
   | none=>exact⟨0,rfl,by omega,by omega⟩
   | some m=>
     unfold iD at eC;obtain⟨p,lJ,rfl⟩:=ajB.1 eC;obtain⟨x,k1,k2,k3⟩:=hM.int p (ang lJ);exact⟨x,k1,k2,k3⟩
  simp only[aq]at hx;refine η (i:=4) (j:=6) ?_ ?_
  ·refine aN.sj (fJ.kI oN aa (l:=kl) (te:=⟨_,1,8,[.v (.int .i64 0)]⟩) Tryz.underlying37 T3 rfl rfl zV hM.ok rfl lX fF) ?_;rw[hx];refine⟨trivial,?_⟩;refine ae.au 5 ?_;refine ab @d_ ?_;refine ae.GH (i:=6) (gC.UY oN aa (l:=kl) (te:=⟨_,1,8,[.v (.int .i64 0)]⟩) Tryz.underlying37 T3 rfl rfl zV hM.ok rfl lX fF) ?_;rintro m O6 ⟨M1,ck1,v1,st,rfl,e6,UZ,aco,acp⟩;refine⟨trivial,?_⟩;have YF:O6.hp O.N=some (.map (cS M1) ck1):=by rw[e6];exact τ _ _ _
   have Pt:O.Ge O6:=by rw[e6];exact((aG.trans aY).trans bG).set (VI _) _
   have nH:O.N+1<=O6.N:=by rw[e6];show O.N+1<=O5.N;have:=bG.N;omega
   have GI:∀p∈M1,∃y:Int,p.2.1=mi y/\0<=y/\y<=j:=fun p hp=>by
    rcases aco p hp with hp | hp
    ·exact hM.int p hp
    ·exact⟨0,hp,by omega,by omega⟩
   refine ae.au 7 ?_;refine ab @d_ ?_;refine ae.one (i:=8) (aN.Pr rfl rfl (CE.JA rfl YF UZ rfl rfl acp) ?_);rintro O7 ⟨M2,e7,acq,acr⟩;refine⟨trivial,?_⟩;refine ae.bQ [] ?_;refine ab @d_ ?_;refine ο @d_ @cB ?_;refine az.N (j+1) ⟨?_,?_,aM,M2,_,by rw[e7];exact τ _ _ _,acq,fun p hp=>?_⟩
   ·rw[e7];exact Pt.set (VI _) _
   ·rw[e7];show O.N+1<=(O6).N;omega
   ·rcases acr p hp with hp | hp
    ·obtain⟨y,k1,k2,k3⟩:=GI p hp;exact⟨y,k1,k2,by push_cast;omega⟩
    ·exact⟨_,hp,by omega,by push_cast;omega⟩
  ·refine aN.GH (gC.UY oN aa (l:=kl) (te:=⟨_,1,8,[.v (.int .i64 0)]⟩) Tryz.underlying37 T3 rfl rfl zV hM.ok rfl lX fF) ?_;rintro m O6 ⟨M1,ck1,v1,st,rfl,e6,UZ,aco,acp⟩;refine⟨trivial,?_⟩;have YF:O6.hp O.N=some (.map (cS M1) ck1):=by rw[e6];exact τ _ _ _
   have Pt:O.Ge O6:=by rw[e6];exact((aG.trans aY).trans bG).set (VI _) _
   have nH:O.N+1<=O6.N:=by rw[e6];show O.N+1<=O5.N;have:=bG.N;omega
   have GI:∀p∈M1,∃y:Int,p.2.1=mi y/\0<=y/\y<=j:=fun p hp=>by
    rcases aco p hp with hp | hp
    ·exact hM.int p hp
    ·exact⟨0,hp,by omega,by omega⟩
   refine ae.au 7 ?_;refine ab @d_ ?_;clear hx hx0 hxj
   obtain⟨x,hx,hx0,hxj⟩:∃x:Int,zF false (mi 0) (iD kl M1)=mi x/\0<=x/\x<=j:=by
    cases eC:iD kl M1 with
    | none=>exact⟨0,rfl,by omega,by omega⟩
    | some m=>
      unfold iD at eC;obtain⟨p,lJ,rfl⟩:=ajB.1 eC;obtain⟨x,k1,k2,k3⟩:=GI p (ang lJ);exact⟨x,k1,k2,k3⟩
   simp only[aq]at hx;refine ae.one (i:=4) (aN.sj (fJ.kI oN aa (l:=kl) (te:=⟨_,1,8,[.v (.int .i64 0)]⟩) Tryz.underlying37 T3 rfl rfl YF UZ rfl lX fF) ?_);rw[hx];refine⟨trivial,?_⟩;refine ae.au 5 ?_;refine ab @d_ ?_;refine ae.one (i:=8) (aN.Pr rfl rfl (CE.JA rfl YF UZ rfl rfl acp) ?_);rintro O7 ⟨M2,e7,acq,acr⟩;refine⟨trivial,?_⟩;refine ae.bQ [] ?_;refine ab @d_ ?_;refine ο @d_ @cB ?_;refine az.N (j+1) ⟨?_,?_,aM,M2,_,by rw[e7];exact τ _ _ _,acq,fun p hp=>?_⟩
   ·rw[e7];exact Pt.set (VI _) _
   ·rw[e7];show O.N+1<=(O6).N;omega
   ·rcases acr p hp with hp | hp
    ·obtain⟨y,k1,k2,k3⟩:=GI p hp;exact⟨y,k1,k2,by push_cast;omega⟩
    ·exact⟨_,hp,by omega,by push_cast;omega⟩
 intro _ O3 ⟨aG,gE⟩;refine κ @d_ ?_;refine π (Gr L tk O3 (by omega)) ?_;rintro mL O4 ⟨aY,ym⟩;refine ab @d_ ?_;refine Ξ [10] (fun _:Unit=>[mL]) (fun _ O'=>O'=O4) ?_ ?_
 ·refine κ @d_ ?_;refine υ ?_;refine Δ [10,33] [2,7,31,32] (fun _:Unit=>[mL,mi 0]) (fun _ O'=>O'=O4) (fun _=>0) (()) ?_ ?_
  ·rfl
  rintro _ O5 e5;rw[e5];clear e5 O5
  refine ν @d_ ?_;exact aB.mk () rfl
 rintro _ O5 e5;rw[e5];clear e5 O5
 refine ν @d_ ?_;exact⟨aG.trans aY,GR.less ym (by omega)⟩
theorem acs (L:List Dp) (tk t2:Tok) (O:VH) (hn:L.length<=10000) (hL:∀d∈L,Dx d):
  VF Tryz.prog 196 [.sl L.length (L.flatMap aU) tk,.sl 0 [] t2] O (aE fun m O'=>∃t,m= .sl L.length (L.flatMap aU) t/\O.Ge O'):=by
 have dI:=aX gW L;refine χ 27 [.tmp 4] Tryz.func196 ?_;refine κ @d_ ?_;refine κ @d_ ?_;refine π (acn L tk t2 O hn hL) ?_;rintro mL O2 ⟨aC,ym⟩;rcases ym with⟨h0,_,hp⟩ | ⟨k,c,rfl,AI,_,c7⟩
 ·obtain rfl:L=[]:=ane h0;rcases hp with rfl | rfl
  ·refine ab @d_ ?_;refine Ξ [5] (fun _:Unit=>[.sl 0 [] .nil]) (fun _ O'=>O'=O2) ?_ ?_
   ·refine κ @d_ ?_;refine υ ?_;refine Δ [12] [5,11] (fun j:Nat=>[mi 0]) (fun j O'=>O'=O2) (fun j=>0) (0) ?_ ?_
    ·rfl
    rintro j O3 eO;rw[eO];clear eO O3
    refine ν @d_ ?_;exact aB.mk () rfl
   intro _ O9 eO;rw[eO];clear eO O9
   refine ν @d_ ?_;exact⟨_,rfl,aC⟩
  ·refine ab @d_ ?_;refine Ξ [5] (fun _:Unit=>[.sl 0 [] .full]) (fun _ O'=>O'=O2) ?_ ?_
   ·refine κ @d_ ?_;refine υ ?_;refine Δ [12] [5,11] (fun j:Nat=>[mi 0]) (fun j O'=>O'=O2) (fun j=>0) (0) ?_ ?_
    ·rfl
    rintro j O3 eO;rw[eO];clear eO O3
    refine ν @d_ ?_;exact aB.mk () rfl
   intro _ O9 eO;rw[eO];clear eO O9
   refine ν @d_ ?_;exact⟨_,rfl,aC⟩
 obtain⟨sp,hc,fY⟩:=c7.cells;have fF:=c7.lo;have Sm:=c7.hi;refine ab @d_ ?_;refine Ξ [5] (fun _:Unit=>[.bz k 0 L.length c]) (fun _ O'=>O2.Ge O') ?_ ?_
 ·refine κ @d_ ?_;refine υ ?_;refine Δ [12] [5,11] (fun j:Nat=>[mi j]) (fun j O'=>O2.Ge O'/\j<=L.length) (fun j=>L.length - j) (0) ?_ ?_
  ·exact⟨VH.Ge.refl _,ahZ _⟩
  rintro j O3 ⟨aG,hj⟩;by_cases aM:j<L.length;rotate_left
  ·obtain rfl:j=L.length:=by omega
   refine ν @d_ ?_;exact aB.mk () aG
  have fA:=(aG.hp k Sm).trans hc;have bE:(L.flatMap aU++sp)[j*8+7]?=some (.sl L[j].x.length (L[j].x.flatMap cj) .ar):=kh gW (List.getElem?_eq_getElem aM) rfl;have hxj:=(hL L[j] (List.getElem_mem aM)).2.2.2.2.2;generalize L[j].x=X at*;generalize L.flatMap aU++sp=C at*;have gL:=xU bE;have KV:=(List.getElem?_eq_some_iff.1 bE).1;have cB:((j:Int)+1)=((j+1:Nat):Int):=by omega
  refine κ @d_ ?_;refine κ @d_ ?_;refine ω (υ ?_);refine κ @d_ ?_;refine ι (aH @d_ @fA @bE ?_);refine π (ux X .ar O3 (by omega)) ?_;rintro _ O4 ⟨rfl,aY⟩;have fR:=(aY.hp k (by have:=aG.N;omega)).trans fA;refine cJ @d_ @fR @bE @gL ?_;rw[VH.xm fR];refine ο @d_ @cB ?_;exact az.N (j+1) ⟨aG.trans aY,aM⟩
 intro _ O9 bh;have Li:=(bh.hp k Sm).trans hc;refine VC.freeze 5 (sz:=L.length*8) rfl Li (by rw[Mm,dI];omega) ?_;have cT:((L.flatMap aU++sp).drop 0).take (L.length*8)=L.flatMap aU:=by rw[anx,ajx (by rw[dI];exact VI _), <-dI,ajv]
 rw[cT];have sX:=aC.trans bh;have gR:O.Ge (O9.kill k):=⟨sX.N,fun i hi=>(VH.lg _ (by omega)).trans (sX.hp i hi)⟩;refine ν @d_ ?_;exact⟨_,rfl,gR⟩
theorem JB (L:List Dp) (tk t2:Tok) (O:VH) (hn:L.length<=10000) (hL:∀d∈L,Dx d):
  VF Tryz.prog 196 [.sl L.length (L.flatMap aU) tk,.sl 0 [] t2] O (aE fun m O'=>m= .sl L.length (L.flatMap aU) .ar/\O.Ge O'):=
 VF.Ym (acs L tk t2 O hn hL) fun m O' ⟨t,h1,h3⟩=>⟨_,h1▸Wk.tok,rfl,h3⟩
set_option linter.defProp false in
def jO:=zW d_<|zW KO<|zW Dh<|zW agP T9
theorem aiT (x:Bs×Bs) (k:Nat) (nm:Bs) (O:VH) (hk:O.hp k=some (.cells [.str nm])) (zx:k<O.N):VF Tryz.prog 247 ([.agg (bm x)]++[.ptr k 0]) O (aE fun m O'=>m=mb (x.1==nm)/\O.Ge O'):=by
 obtain⟨x1,x2⟩:=x;unfold bm;simp only[aec,aeb];refine χ 8 [.tmp 3] Tryz.func247 ?_;refine κ @jO ?_;refine VC.bx ?_;rintro O1 ⟨aJ,eQ,cW⟩;have cA:=(aJ.hp k zx).trans hk;refine ι (aH @jO @eQ @cA ?_);exact aJ
theorem aiU (L:List (Bs×Bs)) (tk:Tok) (nm:Bs) (O:VH) (hn:L.length<=1000000):VF Tryz.prog 224 [.sl L.length (L.flatMap bm) tk,.str nm] O (aE fun m O'=>m=mi (idxFrom (fun x=>x.1==nm) 0 L)/\O.Ge O'):=by
 refine χ 8 [.tmp 4] Tryz.func224 ?_;refine κ @jO ?_;refine VC.bx ?_;rintro O1 ⟨aJ,eQ,cW⟩;refine κ @jO ?_;refine π (UG L tk 247 [.ptr O.N 0] (fun x=>x.1==nm) O1 (by kernel_rfl) (fun q _ O' Ci=>aiT q _ nm O' (Ci.at eQ) (by have:=Ci.N;omega)) hn) ?_;rintro _ O2 ⟨rfl,aC⟩;refine ab @jO ?_;refine ν @jO ?_;exact aJ.trans aC
theorem JC {α :Type} (p: α ->Bool):∀(L:List α) (i:Nat),(∀x∈L,p x=false)->idxFrom p i L= -1
 | [],i,_=>rfl
 | x::r,i,h=>by
   rw[idxFrom,h x (by simp)];exact JC p r (i+1) fun y hy=>h y (List.mem_cons_of_mem _ hy)
theorem afG (L:List (Bs×Bs)) (tk:Tok) (nm vl:Bs) (O:VH) (hn:L.length<=10000) (ec:∀x∈L,x.1≠nm):VF Tryz.prog 197 [.sl L.length (L.flatMap bm) tk,.str nm,.str vl] O (aE fun m O'=>(∃t,m= .sl (L++[(nm,vl)]).length ((L++[(nm,vl)]).flatMap bm) t)/\O.Ge O'):=by
 have ak_:idxFrom (fun x:Bs×Bs=>x.1==nm) 0 L= -1:=JC _ L 0 fun x hx=>by rw[beq_eq_false_iff_ne];exact ec x hx
 refine χ 28 [.tmp 6] Tryz.func197 ?_;refine κ @jO ?_;refine κ @jO ?_;refine π (Cr L tk O (by omega)) ?_;rintro _ O2 ⟨t2,rfl,cy,aC⟩;refine ab @jO ?_;refine κ @jO ?_;refine π (aiU L t2 nm O2 (by omega)) ?_;rintro _ O3 ⟨rfl,aG⟩;rw[ak_];have lr:=cy.ge aG;refine ab @jO ?_;obtain⟨mE,gY,lQ⟩:=gG (n:=L.length) (cs:=L.flatMap bm) (ds:=[.str nm,.str vl]) (es:=bm (nm,vl)) KO Dh.1.1 lr (aX fM L) rfl rfl (by decide) (by omega) (by simp only[maxLen];omega) (gH L) (by simp only[bm,wu]);refine κ @jO ?_;refine δ gY lQ ?_;refine ab @jO ?_;refine ν @jO ?_;refine⟨⟨.own O3.N 2,by rw[Mm,anc];rfl⟩,cc.ee (aC.trans aG) lr (cc.after lr)⟩
theorem U0 (L M:List (Bs×Bs)) (tk tM:Tok) (O:VH) (hn:L.length+M.length<=10000) (ec:∀x∈L,∀y∈M,x.1≠y.1) (hM:M.Pairwise fun x y=>x.1≠y.1):VF Tryz.prog 163 [.sl L.length (L.flatMap bm) tk,.sl M.length (M.flatMap bm) tM] O (aE fun m O'=>(∃t,m= .sl (L++M).length ((L++M).flatMap bm) t)/\O.Ge O'):=by
 have hpm:=aX fM M;refine χ 24 [.tmp 4] Tryz.func163 ?_;refine κ @jO ?_;refine κ @jO ?_;refine π (Cr L tk O (by omega)) ?_;rintro _ O2 ⟨t2,rfl,cy,aC⟩;refine ab @jO ?_;refine VC.join aa [5] (fun t:Tok=>[.sl (L++M).length ((L++M).flatMap bm) t]) (fun t O'=>O.Ge O') ?_ ?_;rotate_left
 ·intro t O9 bh;refine ab @jO ?_;exact⟨⟨t,rfl⟩,bh⟩
 refine κ @jO ?_;refine υ ?_;refine Δ [5,12] [10,11] (fun x:Nat×List (Bs×Bs)×Tok=>[.sl x.2.1.length (x.2.1.flatMap bm) x.2.2,mi x.1]) (fun x O'=>O.Ge O'/\x.1<=M.length/\x.2.1=L++M.take x.1) (fun x=>M.length - x.1) ((0,L,t2)) ?_ ?_
 ·exact⟨aC,ahZ _,by simp⟩
 rintro⟨j,LM,t⟩ O3 ⟨aG,hj,Lo⟩;dsimp only at hj Lo ⊢;by_cases aM:j<M.length;rotate_left
 ·obtain rfl:j=M.length:=by omega
  rw[ajv]at Lo;subst Lo;refine ν @jO ?_;exact aB.mk t aG
 have bE:=cP fM M j aM;have iF:L++M.take (j+1)=(L++M.take j)++[M[j]]:=by rw[dB _ _ aM,anr]
 have hnw:∀x∈L++M.take j,x.1≠M[j].1:=fun x hx=>by
  rcases ajw.1 hx with hx | hx
  ·exact ec x hx _ (anb aM)
  ·obtain⟨i,hi,rfl⟩:=ahW.1 hx;rw[ahX]at hi;rw[anl];exact(am_.1 hM) i j (by omega) aM (by omega)
 have hlen:(L++M.take j).length<=10000:=by rw[Mm,ahX];omega
 rw[<-Lo]at iF hnw hlen;generalize M[j]=y at*;obtain⟨yn,yv⟩:=y;simp only[bm]at bE;have cB:((j:Int)+1)=((j+1:Nat):Int):=by omega
 refine κ @jO ?_;refine κ @jO ?_;refine ω (υ ?_);refine ξ @jO @bE ?_;refine VC.al ?_;rintro O4 ⟨aY,lX,h_⟩;refine ο @jO @lX ?_;refine π (afG LM t yn yv O4 (by omega) hnw) ?_;rintro _ O5 ⟨⟨t5,rfl⟩,bG⟩;refine ab @jO ?_;refine ο @jO @cB ?_;exact az.N (j+1,LM++[(yn,yv)],t5) ⟨(aG.trans aY).trans bG,aM,iF.symm⟩
set_option linter.defProp false in
def ct:=zW jO<|zW kU<|zW T86<|zW agN<|zW yI<|zW AS<|zW FN<|zW NO T4
theorem ob.ge {O O':VH} {k ke kv ce cv:Nat} {L:List (Gv×Bs×Option Pm)} {E V:fI} {r a:Int} (h:ob O k L E V ke kv ce cv r a) (g:O.Ge O'):ob O' k L E V ke kv ce cv r a:=
 ⟨h.st.ge g,h.len,fun i x t o hi=>by obtain⟨q,c,h1,h2,h3⟩:=h.Ll i x t o hi;exact⟨q,c,h1,Ml h2 g.N,(g.hp _ h2).trans h3⟩,h.dis,h.ver.ge g⟩
structure PmC (p:Pm):Prop where
 ok:acg p
 hp:p.hp=false
 eU:∀d∈p.eU,Dx d
 eK:∀d∈p.eK,Dx d
 props:p.props.Pairwise fun x y=>x.1≠y.1
theorem acu (p:Pm) (O:VH) (hc:PmC p):VF Tryz.prog 162 [.agg (gX p),.agg fD] O (aE fun m O'=>m= .agg (gX p)/\O.Ge O'):=by
 refine VF.fg ?_;obtain⟨dh,oy,aha,acv,U3⟩:=hc;obtain⟨k1,k2,k3,k4,k5⟩:=dh;obtain⟨b,⟨pg,pa,pv⟩,g,a,v,pk,P,M,D⟩:=p;dsimp only at oy k1 k2 k3 k4 k5 aha acv U3;subst oy;simp only[gX,bu];refine χ 48 [.cell 4 86] Tryz.func162 ?_;refine κ @ct ?_;refine VC.gen ?_;intro O1 e1;obtain⟨aJ,cW,cz,cE,fj⟩:=lu _ _ _ e1;clear e1;refine ξ @ct @cz ?_;refine VC.al ?_;rintro O2 ⟨aC,bN,eJ⟩;have eA:=aC.at cz;have cK:=aC.at cE;have iL:=aC.at fj;have fC:=aJ.trans aC;clear aJ aC cz cE fj;refine ξ @ct @bN ?_;refine ξ @ct @bN ?_;refine θ (aH @ct @eA @cK ?_);refine π (U0 [] P .nil .ar O2 (by simp;omega) (by simp) U3) ?_;rintro _ O3 ⟨⟨t3,rfl⟩,aG⟩;rw[aeb];have iH:=aG.at eA;have cC:=aG.at cK;have fA:=aG.at iL;have dR:=aG.at bN;have gE:=aG.N;refine ao @ct @dR ?_;refine VC.gen ?_;intro O4 e4;have sk:∀i,i≠O1.N->O4.hp i=O3.hp i:=fun i hi=>by rw[e4];exact ρ _ _ hi
 have fb:=(sk _ (by omega)).trans iH;have di:=(sk _ (by omega)).trans cC;have fR:=(sk _ (by omega)).trans fA;have lX:O4.hp O1.N=some (.cells [.v (.bool false),.str pg,.str pa,.str pv,.str g,.str a,.str v,.str pk,.sl P.length (P.flatMap bm) t3,.sl M.length (M.flatMap aU) .ar,.sl D.length (D.flatMap aU) .ar]):=by rw[e4];exact τ _ _ _
 have h_:O4.N=O3.N:=by rw[e4];rfl
 have gZ:O.Ge O4:=by rw[e4];exact(fC.trans aG).set (by omega) _
 clear e4 sk iH cC fA dR eA cK iL bN;refine ω ?_;refine VC.Ep [11,12,13] (O.N) (O.N+1) (fb) (di) ?_ (hne:=(by omega));intro X1 X2;refine ae.au 0 ?_;refine ab @ct ?_;refine ε (m:=.sl M.length (M.flatMap aU) .ar) 1 (fun _ h=>h.1) (fun _ h=>h.1) ?_ ?_
 ·exact fU @ct
 simp only[ak];refine ae.au 2 ?_;refine ab @ct ?_;refine ε (m:=.sl 0 [] .nil) 3 (fun _ h=>h.2) (fun _ h=>h.2) ?_ ?_
 ·exact fU @ct
 simp only[ak];refine ae.au 5 ?_;refine ab @ct ?_;refine ε (m:=.sl D.length (D.flatMap aU) .ar) 6 (fun _ h=>h.1) (fun _ h=>h.1) ?_ ?_
 ·exact fU @ct
 simp only[ak];refine ae.au 7 ?_;refine ab @ct ?_;refine ε (m:=.sl 0 [] .nil) 8 (fun _ h=>h.2) (fun _ h=>h.2) ?_ ?_
 ·exact fU @ct
 simp only[ak];have hJ:Oi O.N (O.N+1) X1 X2 ((O4.set O.N (.obj X1)).set (O.N+1) (.obj X2)):=⟨Γ (τ _ _ _),τ _ _ _⟩;have gK:=(ρ (O4.set O.N (.obj X1)) (.obj X2) (by omega:O1.N≠O.N+1)).trans ((ρ O4 (.obj X1) (by omega:O1.N≠O.N)).trans lX);have gd:=(ρ (O4.set O.N (.obj X1)) (.obj X2) (by omega:O.N+2≠O.N+1)).trans ((ρ O4 (.obj X1) (by omega:O.N+2≠O.N)).trans fR);have e_:((O4.set O.N (.obj X1)).set (O.N+1) (.obj X2)).N=O4.N:=rfl;have bG:O.Ge ((O4.set O.N (.obj X1)).set (O.N+1) (.obj X2)):=(gZ.set (by omega) _).set (by omega) _;generalize (O4.set O.N (.obj X1)).set (O.N+1) (.obj X2)=O5 at*;refine ae.call (i:=4) (JB M .ar .nil O5 k2 aha) ?_;rintro _ O6 ⟨rfl,eZ⟩;simp only[ak];refine⟨⟨eZ.at hJ.1,eZ.at hJ.2⟩,?_⟩;refine ae.au 10 ?_;refine ab @ct ?_;refine ae.call (i:=9) (JB D .ar .nil O6 k3 acv) ?_;rintro _ O7 ⟨rfl,eV⟩;simp only[ak];have pf:=eZ.trans eV;refine⟨⟨pf.at hJ.1,pf.at hJ.2⟩,?_⟩;have vh:=pf.at gK;have hc7:=pf.at gd;refine ae.xN [(11,.one),(12,.au),(13,.one)] ?_ (hne:=(by omega));have vo:=(ρ (O7.set O.N (.cells [.v (.bool false),.str pg,.str pa,.str pv,.str g,.str a,.str v,.str pk,.sl P.length (P.flatMap bm) .ar,.sl M.length (M.flatMap aU) .ar,.sl D.length (D.flatMap aU) .ar])) (.cells fD) (by omega:O1.N≠O.N+1)).trans ((ρ O7 (.cells [.v (.bool false),.str pg,.str pa,.str pv,.str g,.str a,.str v,.str pk,.sl P.length (P.flatMap bm) .ar,.sl M.length (M.flatMap aU) .ar,.sl D.length (D.flatMap aU) .ar]) (by omega:O1.N≠O.N)).trans vh);refine ao @ct @vh ?_;refine VC.gen ?_;intro O8 e8;have gQ:O.Ge O8:=by rw[e8];exact((((bG.trans pf).set (by omega) _).set (by omega) _).set (by omega) _).set (by omega) _
 have hk9:O8.hp O1.N=some (.cells [.v (.bool false),.str pg,.str pa,.str pv,.str g,.str a,.str v,.str pk,.sl P.length (P.flatMap bm) t3,.sl M.length (M.flatMap aU) .ar,.sl D.length (D.flatMap aU) .ar]):=by rw[e8];exact τ _ _ _
 have Li:O8.hp (O.N+2)=some (.cells fD):=by rw[e8,ρ _ _ (by omega),ρ _ _ (by omega),ρ _ _ (by omega),ρ _ _ (by omega)];exact hc7
 clear e8;have Pu:O.N+1+1=O.N+2:=by omega
 rw[Pu];refine θ (aH @ct @hk9 @Li ?_);refine ν @ct ?_
 first
  | exact gQ.set (by omega) _
  | exact⟨by simp only[wu,gH,lO],gQ.set (by omega) _⟩
theorem afH {O:VH} {k ke kv ce cv:Nat} {L:List (Gv×Bs×Option Pm)} {E V:fI} {r a:Int} (h:ob O k L E V ke kv ce cv r a) {i:Nat} {g:Gv} {t:Bs} {n:Nd} {p:Pm} (hi:L[i]?=some (g,t,none)) (hg:uy g) (ht:t.length<=65536) (hb:iK t= .ok n) (hr:pL n= .ok p) (hc:PmC p):
  VF Tryz.prog 161 [.ptr k 0,.agg (bZ g)] O (aE fun m O'=>(∃t1 t2,m= .tuple [.sl 1 (gX p) t1,.sl 1 (bZ g) t2,.agg (nI il)])/\∃q,iD (fc g) E=some (.ptr q 0)/\q<O.N/\(∃r' a',O'.hp k=some (.cells [.map ke,.map kv,mi r',mi a']))/\O'.hp q=some (.cells (jq t 1 0 p il))/\dJ O k q O'):=by
 obtain⟨q,c,eC,oH,hq,_⟩:=h.some hi;have D_:=fun(O':VH) (g':O.Ge O')=>aiP (h.st.ge g') g hg eC ((g'.hp q oH).trans hq) (Ml oH g'.N) ht hb hr hc.ok
 have fF:=h.st.lt.1;have oy:=hc.hp;have amJ:=hc.ok;clear hi hq h hc hb hr;have hpu:=XM p;obtain⟨g1,g2,g3⟩:=g;obtain⟨b,⟨pg,pa,pv⟩,pG,pA,pV,pk,P,M,D⟩:=p;dsimp only at oy;subst oy;simp only[bZ,gX,nI,il,bu,aq]at D_ hpu ⊢;refine χ 51 [.tmp 4,.tmp 5,.cell 6 110] Tryz.func161 ?_;refine κ @ct ?_;refine VC.gen ?_;intro O1 e1;obtain⟨aJ,cW,cz,cE⟩:=ib _ _ e1;clear e1;refine κ @ct ?_;refine κ @ct ?_;refine υ ?_;refine Δ [7,8] [0,3,6] (fun _:Unit=>[.sl 0 [] .nil,.sl 0 [] .nil]) (fun _ O'=>O'=O1) (fun _=>0) (()) ?_ ?_
 ·rfl
 rintro _ O2 e2;rw[e2];clear e2 O2
 refine υ ?_;refine ξ @ct @cz ?_;refine π (D_ O1 aJ) ?_;rintro _ O2 ⟨rfl,⟨r',a',bN⟩,si,c9⟩;have eJ:=c9.N;have eA:=(c9.hp _ (by omega) (by omega) (by omega)).trans cz;have cK:=(c9.hp _ (by omega) (by omega) (by omega)).trans cE;have Pv:=(dJ.of (k:=k) (q:=q) aJ).trans c9;refine ab @ct ?_;refine VC.gen ?_;intro O3 e3;have aG:O2.Ge O3:=by rw[e3];exact((((VH.Ge.refl O2).push _).push _).set (VI _) _).set (ame _) _
 have pM:O3.hp O2.N=some (.cells [.v (.bool false),.str pg,.str pa,.str pv,.str pG,.str pA,.str pV,.str pk,.sl P.length (P.flatMap bm) .ar,.sl M.length (M.flatMap aU) .ar,.sl D.length (D.flatMap aU) .ar]):=by rw[e3,ρ _ _ (by omega)];exact τ _ _ _
 have lS:O3.hp (O2.N+1)=some (.cells [.v (.int .i64 0),.str [],.str [],.str [],.v (.int .i64 0),.v (.int .i64 0),.v (.int .i64 0),.str []]):=by rw[e3];exact τ _ _ _
 have gE:O3.N=O2.N+2:=by rw[e3];rfl
 clear e3;have iH:=aG.at eA;have cC:=aG.at cK;have dR:=aG.at bN;have qZ:=aG.at si;have c_:=Pv.ge aG;clear eA cK bN si Pv c9 cz cE;refine ξ @ct @lS ?_;refine VL.Ft aa (bb:=false) (b:=true) (by simp) (by simp[jF]) (.inr ⟨rfl,rfl⟩) (by kernel_rfl) (by kernel_rfl) rfl rfl rfl rfl ?_;refine ab @ct ?_;refine ω ?_;refine VC.Ep [] (O2.N) (O.N) (pM) (iH) ?_ (hne:=(by omega));intro X1 X2;refine ae.au 0 ?_;refine ab @ct ?_;refine ε (m:=.agg [.v (.bool false),.str pg,.str pa,.str pv,.str pG,.str pA,.str pV,.str pk,.sl P.length (P.flatMap bm) .ar,.sl M.length (M.flatMap aU) .ar,.sl D.length (D.flatMap aU) .ar]) 1 (fun _ h=>h.1) (fun _ h=>h.1) ?_ ?_
 ·exact fU @ct
 simp only[ak];refine ae.au 4 ?_;refine ab @ct ?_;refine ε (m:=.agg [.str g1,.str g2,.str g3]) 5 (fun _ h=>h.2) (fun _ h=>h.2) ?_ ?_
 ·exact fU @ct
 simp only[ak];have pd:True:=trivial;have hJ:Oi O2.N O.N X1 X2 ((O3.set O2.N (.obj X1)).set O.N (.obj X2)):=⟨Γ (τ _ _ _),τ _ _ _⟩;have e_:((O3.set O2.N (.obj X1)).set O.N (.obj X2)).N=O3.N:=rfl;have gM:∀i,i≠O2.N->i≠O.N->((O3.set O2.N (.obj X1)).set O.N (.obj X2)).hp i=O3.hp i:=fun i h1 h2=>by rw[ρ _ _ h2,ρ _ _ h1]
 generalize (O3.set O2.N (.obj X1)).set O.N (.obj X2)=O5 at*;have lr:=aT (tk:=.nil) (tk':=.full) (B:=0) (n:=0) (k:=1) (cs:=[]) (ds:=[.v (.bool false),.str pg,.str pa,.str pv,.str pG,.str pA,.str pV,.str pk,.sl P.length (P.flatMap bm) .ar,.sl M.length (M.flatMap aU) .ar,.sl D.length (D.flatMap aU) .ar]) agN T86.1.1 (O:=O5) trivial rfl rfl rfl (by decide) (by decide) (by decide) (by decide);have acw:O5.Ge (O5.after .nil):=cc.Cc (tk:=.nil) (sz:=11) trivial (cc.after (sz:=11) (B:=0) trivial);have Lp:Oi O2.N O.N X1 X2 (O5.after .nil):=⟨acw.at hJ.1,acw.at hJ.2⟩;have kC:=aT (tk:=.nil) (tk':=.full) (B:=0) (n:=0) (k:=1) (cs:=[]) (ds:=[.str g1,.str g2,.str g3]) yI AS.1.1 (O:=O5.after .nil) trivial rfl rfl rfl (by decide) (by decide) (by decide) (by decide);have ala:(O5.after .nil).Ge ((O5.after .nil).after .nil):=cc.Cc (tk:=.nil) (sz:=3) trivial (cc.after (sz:=3) (B:=0) trivial);have pf:=acw.trans ala;have Ea:Oi O2.N O.N X1 X2 ((O5.after .nil).after .nil):=⟨pf.at hJ.1,pf.at hJ.2⟩;rw[ajz,aeb]at lr kC;refine η (i:=2) (j:=6) ?_ ?_
 ·refine aN.o1 ?_;refine ab @ct ?_;refine⟨hJ,?_⟩;refine η (i:=3) (j:=6) ?_ ?_
  ·refine aN.o1 ?_;rw[dq];refine ao @ct @lr ?_;refine⟨Lp,?_⟩;refine ae.op (i:=6) ?_;refine ab @ct ?_;refine⟨Lp,?_⟩;refine ae.op (i:=7) ?_;rw[dq];refine ao @ct @kC ?_;refine⟨Ea,?_⟩;refine ae.op (i:=8) ?_;refine ab @ct ?_;refine⟨Ea,?_⟩;refine ae.op (i:=9) ?_;refine ab @ct ?_;refine⟨Ea,?_⟩;refine ae.xN [] ?_ (hne:=(by omega));refine ab @ct ?_;refine VC.gen ?_;intro O8 e8
   have wV:∀i,i<O5.N->i≠O2.N->i≠O.N->O8.hp i=O5.hp i:=fun i h1 h2 h3=>by
    rw[e8,ρ _ _ h3,ρ _ _ h2];exact pf.hp i h1
   have BA:O8.hp O2.N=some (.cells [.v (.bool false),.str pg,.str pa,.str pv,.str pG,.str pA,.str pV,.str pk,.sl P.length (P.flatMap bm) .ar,.sl M.length (M.flatMap aU) .ar,.sl D.length (D.flatMap aU) .ar]):=by rw[e8,ρ _ _ (by omega)];exact τ _ _ _
   have DY:O3.N<=O8.N:=by
    have h1:=pf.N;have h2:O8.N=((O5.after .nil).after .nil).N:=by rw[e8];rfl
    omega
   clear e8;have pZ:∀i,i<O3.N->i≠O2.N->i≠O.N->O8.hp i=O3.hp i:=fun i h1 h2 h3=>(wV i (by omega) h2 h3).trans (gM i h2 h3)
   have uf:=(pZ (O.N+1) (by omega) (by omega) (by omega)).trans cC;have vo:=(pZ k (by omega) (by omega) (by omega)).trans dR;have Pw:=(pZ q (by omega) (by omega) (by omega)).trans qZ;have rC:dJ O k q O8:=⟨by omega,fun i h1 h2 h3=>(pZ i (by omega) (by omega) (by omega)).trans (c_.hp i h1 h2 h3)⟩;refine θ (aH @ct @BA @uf ?_);exact⟨⟨_,_,rfl⟩,q,eC,oH,⟨r',a',vo⟩,(by first | exact Pw | exact Γ Pw),⟨rC.N,fun i h1 h2 h3=>Γ (rC.hp i h1 h2 h3)⟩⟩
  ·refine aN.o1 ?_;refine ab @ct ?_;refine⟨hJ,?_⟩;refine ae.op (i:=3) ?_;rw[dq];refine ao @ct @lr ?_;refine⟨Lp,?_⟩;refine ae.op (i:=7) ?_;rw[dq];refine ao @ct @kC ?_;refine⟨Ea,?_⟩;refine ae.op (i:=8) ?_;refine ab @ct ?_;refine⟨Ea,?_⟩;refine ae.op (i:=9) ?_;refine ab @ct ?_;refine⟨Ea,?_⟩;refine ae.xN [] ?_ (hne:=(by omega));refine ab @ct ?_;refine VC.gen ?_;intro O8 e8
   have wV:∀i,i<O5.N->i≠O2.N->i≠O.N->O8.hp i=O5.hp i:=fun i h1 h2 h3=>by
    rw[e8,ρ _ _ h3,ρ _ _ h2];exact pf.hp i h1
   have BA:O8.hp O2.N=some (.cells [.v (.bool false),.str pg,.str pa,.str pv,.str pG,.str pA,.str pV,.str pk,.sl P.length (P.flatMap bm) .ar,.sl M.length (M.flatMap aU) .ar,.sl D.length (D.flatMap aU) .ar]):=by rw[e8,ρ _ _ (by omega)];exact τ _ _ _
   have DY:O3.N<=O8.N:=by
    have h1:=pf.N;have h2:O8.N=((O5.after .nil).after .nil).N:=by rw[e8];rfl
    omega
   clear e8;have pZ:∀i,i<O3.N->i≠O2.N->i≠O.N->O8.hp i=O3.hp i:=fun i h1 h2 h3=>(wV i (by omega) h2 h3).trans (gM i h2 h3)
   have uf:=(pZ (O.N+1) (by omega) (by omega) (by omega)).trans cC;have vo:=(pZ k (by omega) (by omega) (by omega)).trans dR;have Pw:=(pZ q (by omega) (by omega) (by omega)).trans qZ;have rC:dJ O k q O8:=⟨by omega,fun i h1 h2 h3=>(pZ i (by omega) (by omega) (by omega)).trans (c_.hp i h1 h2 h3)⟩;refine θ (aH @ct @BA @uf ?_);exact⟨⟨_,_,rfl⟩,q,eC,oH,⟨r',a',vo⟩,(by first | exact Pw | exact Γ Pw),⟨rC.N,fun i h1 h2 h3=>Γ (rC.hp i h1 h2 h3)⟩⟩
 ·refine aN.o1 ?_;refine ab @ct ?_;refine⟨hJ,?_⟩;refine ae.op (i:=2) ?_;refine ab @ct ?_;refine⟨hJ,?_⟩;refine ae.op (i:=3) ?_;rw[dq];refine ao @ct @lr ?_;refine⟨Lp,?_⟩;refine ae.op (i:=7) ?_;rw[dq];refine ao @ct @kC ?_;refine⟨Ea,?_⟩;refine ae.op (i:=8) ?_;refine ab @ct ?_;refine⟨Ea,?_⟩;refine ae.op (i:=9) ?_;refine ab @ct ?_;refine⟨Ea,?_⟩;refine ae.xN [] ?_ (hne:=(by omega));refine ab @ct ?_;refine VC.gen ?_;intro O8 e8
  have wV:∀i,i<O5.N->i≠O2.N->i≠O.N->O8.hp i=O5.hp i:=fun i h1 h2 h3=>by
   rw[e8,ρ _ _ h3,ρ _ _ h2];exact pf.hp i h1
  have BA:O8.hp O2.N=some (.cells [.v (.bool false),.str pg,.str pa,.str pv,.str pG,.str pA,.str pV,.str pk,.sl P.length (P.flatMap bm) .ar,.sl M.length (M.flatMap aU) .ar,.sl D.length (D.flatMap aU) .ar]):=by rw[e8,ρ _ _ (by omega)];exact τ _ _ _
  have DY:O3.N<=O8.N:=by
   have h1:=pf.N;have h2:O8.N=((O5.after .nil).after .nil).N:=by rw[e8];rfl
   omega
  clear e8;have pZ:∀i,i<O3.N->i≠O2.N->i≠O.N->O8.hp i=O3.hp i:=fun i h1 h2 h3=>(wV i (by omega) h2 h3).trans (gM i h2 h3)
  have uf:=(pZ (O.N+1) (by omega) (by omega) (by omega)).trans cC;have vo:=(pZ k (by omega) (by omega) (by omega)).trans dR;have Pw:=(pZ q (by omega) (by omega) (by omega)).trans qZ;have rC:dJ O k q O8:=⟨by omega,fun i h1 h2 h3=>(pZ i (by omega) (by omega) (by omega)).trans (c_.hp i h1 h2 h3)⟩;refine θ (aH @ct @BA @uf ?_);exact⟨⟨_,_,rfl⟩,q,eC,oH,⟨r',a',vo⟩,(by first | exact Pw | exact Γ Pw),⟨rC.N,fun i h1 h2 h3=>Γ (rC.hp i h1 h2 h3)⟩⟩
theorem YG {O:VH} {k ke kv ce cv:Nat} {L:List (Gv×Bs×Option Pm)} {E V:fI} {r a:Int} (h:ob O k L E V ke kv ce cv r a) {i:Nat} {g:Gv} {t:Bs} {n:Nd} {p:Pm} (hi:L[i]?=some (g,t,none)) (hg:uy g) (ht:t.length<=65536) (hb:iK t= .ok n) (hr:pL n= .ok p) (hc:PmC p):
  VF Tryz.prog 131 [.ptr k 0,.agg (bZ g)] O (aE fun m O'=>m= .tuple [.agg (gX p),.agg (nI il)]/\∃q,iD (fc g) E=some (.ptr q 0)/\q<O.N/\(∃r' a',O'.hp k=some (.cells [.map ke,.map kv,mi r',mi a']))/\O'.hp q=some (.cells (jq t 1 0 p il))/\dJ O k q O'):=by
 have hsq:=h.some hi;obtain⟨q0,c,pY,ahb,Eb,hE0⟩:=hsq;have hw:=fun(O':VH) (g':O.Ge O')=>afH (O:=O') (k:=k) (L:=L) (E:=E) (V:=V) (h.ge g') hi hg ht hb hr hc
 have Ec:=fun O'=>acu p O' hc
 have fF:=h.st.lt.1;have oy:=hc.hp;clear hc hr hb hi h Eb hE0;obtain⟨g1,g2,g3⟩:=g;obtain⟨b,⟨pg,pa,pv⟩,pG,pA,pV,pk,P,M,D⟩:=p;dsimp only at oy;subst oy;simp only[bZ,gX,nI,il,aq,bu]at hw Ec ⊢;refine χ 38 [.cell 4 86,.cell 5 110] Tryz.func131 ?_;refine κ @ct ?_;refine VC.gen ?_;intro O1 e1;obtain⟨aJ,cW,cz,cE,fj⟩:=lu _ _ _ e1;clear e1;refine ξ @ct @cz ?_;refine π (hw O1 aJ) ?_;rintro _ O2 ⟨⟨t1,t2,rfl⟩,q,eC,amK,⟨r',a',bN⟩,si,c9⟩;obtain rfl:q=q0:=by rw[eC]at pY;injection pY with e;injection e
 have eJ:=c9.N;have eA:=(c9.hp _ (by omega) (by omega) (by omega)).trans cz;have cK:=(c9.hp _ (by omega) (by omega) (by omega)).trans cE;have iL:=(c9.hp _ (by omega) (by omega) (by omega)).trans fj;have Pv:=(dJ.of (k:=k) (q:=q) aJ).trans c9;refine ab @ct ?_;refine VC.al ?_;rintro O3 ⟨aG,lS,gE⟩;have cC:=aG.at cK;have fA:=aG.at iL;have dR:=aG.at bN;have qZ:=aG.at si;have c_:=Pv.ge aG;clear eA cK iL bN si Pv c9 cz cE fj hw;refine ξ @ct @lS ?_;refine VL.Ft aa (bb:=false) (b:=true) (by simp) (by simp[jF]) (.inr ⟨rfl,rfl⟩) (by kernel_rfl) (by kernel_rfl) rfl rfl rfl rfl ?_;refine ab @ct ?_;refine κ @ct ?_;refine VC.bx ?_;rintro O4 ⟨aY,kc,h_⟩;have di:=aY.at cC;have fR:=aY.at fA;have lX:=aY.at dR;have GD:=aY.at qZ;have ff:=c_.ge aY;clear cC fA dR qZ c_;refine Ξ [4,5,9] (fun _:Unit=>[.ptr (O.N+1) 0,.ptr (O.N+2) 0,.ptr O3.N 0]) (fun _ O'=>∃O5,O4.Ge O5/\O'=O5.set O3.N (.cells [.v (.bool false),.str pg,.str pa,.str pv,.str pG,.str pA,.str pV,.str pk,.sl P.length (P.flatMap bm) .ar,.sl M.length (M.flatMap aU) .ar,.sl D.length (D.flatMap aU) .ar])) ?_ ?_
 ·refine κ @ct ?_;refine υ ?_;refine Δ [10] [4,5,6,9] (fun x:Bool=>[mi (bif x then -1 else 0)]) (fun x O'=>(x=false->O'=O4)/\(x=true->∃O5,O4.Ge O5/\O'=O5.set O3.N (.cells [.v (.bool false),.str pg,.str pa,.str pv,.str pG,.str pA,.str pV,.str pk,.sl P.length (P.flatMap bm) .ar,.sl M.length (M.flatMap aU) .ar,.sl D.length (D.flatMap aU) .ar]))) (fun x=>bif x then 0 else 1) (false) ?_ ?_
  ·exact⟨fun _=>rfl,fun e=>by cases e⟩
  rintro x O5 ⟨hf,ht'⟩;cases x with
  | true=>
    obtain⟨O6,eZ,e6⟩:=ht' rfl;simp only[cond_true];refine ν @ct ?_;exact aB.mk () ⟨O6,eZ,e6⟩
  | false=>
    have e5:=hf rfl;rw[e5];clear e5 hf ht' O5
    simp only[cond_false];refine κ @ct ?_;refine ω (υ ?_);refine VC.qR [] (fun _=>True) (trivial) ?_;refine ae.au 0 ?_;refine ab @ct ?_;refine ae.au 1 ?_;refine ab @ct ?_;refine ae.au 2 ?_;refine ab @ct ?_;refine ae.au 3 ?_;refine ab @ct ?_;refine ae.op (i:=4) ?_;refine ao @ct @kc ?_;refine ae.call (i:=5) (Ec O4) ?_;rintro _ O5 ⟨rfl,bG⟩;simp only[ak];refine⟨trivial,?_⟩;have mI:=bG.at kc;refine ae.op (i:=6) ?_;refine ao @ct @mI ?_;refine ae.bQ [] ?_;refine ab @ct ?_;refine ν @ct ?_;exact az.N true ⟨(fun e=>by cases e),fun _=>⟨O5,bG,rfl⟩⟩ (hm:=(by decide))
 rintro _ O9 ⟨O5,bG,e9⟩;have e_:=bG.N;have CF:∀i,i≠O3.N->O9.hp i=O5.hp i:=fun i h1=>by rw[e9];exact ρ _ _ h1
 have hx9:O9.hp O3.N=some (.cells [.v (.bool false),.str pg,.str pa,.str pv,.str pG,.str pA,.str pV,.str pk,.sl P.length (P.flatMap bm) .ar,.sl M.length (M.flatMap aU) .ar,.sl D.length (D.flatMap aU) .ar]):=by rw[e9];exact τ _ _ _
 have bO:=(CF _ (by omega)).trans (bG.at di);have Li:=(CF _ (by omega)).trans (bG.at fR);have hk9:=(CF k (by omega)).trans (bG.at lX);have hq9:=(CF q (by omega)).trans (bG.at GD);have zT:O9.N=O5.N:=by rw[e9];rfl
 have jw:dJ O k q O9:=⟨by omega,fun i h1 h2 h3=>(CF i (by omega)).trans (bG.at (ff.hp i h1 h2 h3))⟩;clear e9 CF;have Pu:O.N+1+1=O.N+2:=by omega
 refine θ (cJ @ct @hx9 @bO @Li ?_);refine ν @ct ?_;exact⟨q,eC,ahb,⟨r',a',hk9⟩,(by first | exact hq9 | exact Γ (Γ hq9)),⟨jw.N,fun i h1 h2 h3=>Γ (Γ (jw.hp i h1 h2 h3))⟩⟩
set_option linter.defProp false in
def fE:=zW ct<|zW dX<|zW NP<|zW uV<|zW akm<|zW agM<|zW akn<|zW agO<|zW I7<|zW rM akt
def sm (s:Bs):Prop:=Lib.index s [36,123]<0
theorem afI (s:Bs) (O:VH) (h:sm s) (hs:s.length<=1000000):VF Tryz.prog 227 [.str s] O (aE fun m O'=>m= .tuple [.str s,.str [],.str [],mb false]/\O'=O):=by
 have h':Lib.index s [36,123]<0:=h;refine χ 36 [.tmp 2,.tmp 3,.tmp 4,.tmp 5] Tryz.func227 ?_;refine κ @fE ?_;refine κ @fE ?_;refine π (Om s [36,123] O (by omega)) ?_;rintro _ O2 ⟨rfl,eO⟩;rw[eO];clear eO O2
 generalize Lib.index s [36,123]=x at*;have hd:decide (x<0)=true:=decide_eq_true h';refine ab @fE ?_;refine ξ @fE @hd ?_;trivial
theorem aiV {O:VH} {B b:Nat} {q:Option Nat} {s:Bs} (h:gD O B b q s):VF Tryz.prog 226 [.ptr b 0] O (aE fun m O'=>m=mi s.length/\O'=O):=by
 obtain⟨p,buf,h1,_,ym,_,_⟩:=h.cell;refine χ 8 [.tmp 2] Tryz.func226 ?_;rcases ym with⟨h0,_,rfl | rfl⟩ | ⟨k,c,rfl,_⟩
 ·rw[h0];refine κ @fE ?_;refine ο @fE @h1 ?_;trivial
 ·rw[h0];refine κ @fE ?_;refine ο @fE @h1 ?_;trivial
 ·refine κ @fE ?_;refine ο @fE @h1 ?_;trivial
theorem acx {O:VH} {B b nb:Nat} {q:Option Nat} {s:Bs} (h:gD O B b q s) (l:Bs) (hl:s.length+l.length<=4096):VF Tryz.prog 225 ([.str l]++[.ptr b 0,.ptr nb 0]) O (aE fun m O'=>∃q',gD O' B b q' (s++l)/\fK O b q O' q'):=by
 simp only[aec,aeb];refine χ 11 [] Tryz.func225 ?_;refine κ @fE ?_;refine π (bU l h (by omega)) ?_;rintro _ O2 ⟨rfl,q2,cK,c9⟩;refine ab @fE ?_;refine κ @fE ?_;refine π (aiV cK) ?_;rintro _ O3 ⟨rfl,eO⟩;rw[eO];clear eO O3
 have hln:(s++l).length<=4096:=by rw[Mm];exact hl
 refine ab @fE ?_;refine ν @fE ?_;exact⟨q2,cK,c9⟩
theorem Px (wb:Nat) (s nm:Bs) (O:VH) (h:sm s) (hs:s.length<=4096):VF Tryz.prog 199 [.ptr wb 0,.str s,.str nm] O (aE fun m O'=>m= .str s/\O.Ge O'):=by
 refine χ 53 [.tmp 6] Tryz.func199 ?_;refine κ @fE ?_;refine VC.bx ?_;rintro O1 ⟨aJ,eQ,cW⟩;refine κ @fE ?_;have wj:=gD.fresh O1 (VI O1.N);have mY:O1.Ge ((O1.push (.cells [.v (.pointer none),.sl 0 [] .nil])).push (.shape O1.N 155 2)):=((VH.Ge.refl O1).push _).push _;generalize ((O1.push (.cells [.v (.pointer none),.sl 0 [] .nil])).push (.shape O1.N 155 2))=O2 at*;refine κ @fE ?_;refine υ ?_;refine Δ [1] [0,7,8] (fun _:Unit=>[.str s]) (fun _ O'=>O'=O2) (fun _=>0) (()) ?_ ?_
 ·rfl
 rintro _ O3 e3;rw[e3];clear e3 O3
 refine υ ?_;refine κ @fE ?_;refine π (afI s O2 h (by omega)) ?_;rintro _ O3 ⟨rfl,eO⟩;rw[eO];clear eO O3
 refine ab @fE ?_;refine κ @fE ?_;refine π (acx (nb:=O.N) wj s (by simp;omega)) ?_;rintro _ O3 ⟨q3,cC,c_⟩;rw[aeb]at cC;have aG:O1.Ge O3:=fK.Cc mY c_ (VI _);refine ab @fE ?_;refine κ @fE ?_;refine π (qF cC (by simp only[maxLen];omega)) ?_;rintro _ O4 ⟨rfl,ff⟩;refine ab @fE ?_;exact aJ.trans (aG.Uz ff cC.yJ)
abbrev vt:=List (Bs×Bs×Nat)
def vd (M:vt):vE:=M.map fun p=>(.str p.1,.str p.2.1,p.2.2)
def yp (k:Bs) (M:vt):Option Bs:=(M.find? (·.1==k)).map (·.2.1)
def Py (k:Bs):vt->Nat->Option (Nat×MV)
 | [],_=>none
 | p::M,i=>if k==p.1 then some (i,.str p.2.1)else Py k M (i+1)
theorem Lq (k:Bs):∀(M:vt) (i:Nat),qt .string (.str k) (vd M) i=some (Py k M i)
 | [],i=>rfl
 | p::M,i=>by
   show qt .string (.str k) ((.str p.1,.str p.2.1,p.2.2)::vd M) i=_;rw[qt,Py];simp only[Ke];cases h:k==p.1
   ·simp[Lq k M (i+1)]
   ·simp
theorem U4 (k:Bs):∀(M:vt) (i:Nat),(Py k M i).map (·.2)=(yp k M).map .str
 | [],i=>rfl
 | p::M,i=>by
   rw[Py];unfold yp;rw[List.find?_cons];cases h:k==p.1
   ·have h':(p.1==k)=false:=by rw[beq_eq_false_iff_ne]at h ⊢;exact Ne.symm h
    rw[h'];simpa[yp]using U4 k M (i+1)
   ·have h':(p.1==k)=true:=by rw[beq_iff_eq]at h ⊢;exact h.symm
    rw[h'];rfl
theorem Lr {tab:cg} {O:VH} {t kt et:TypeId} {a b' c d c' d':Nat} {z y:List MV} {b ck:Nat} {M:vt} {k:Bs} {ok:Bool} (h:tab t=some ⟨.map kt et,a,b',z⟩) (hk:tab kt=some ⟨.string,c,d,y⟩) (he:tab et=some ⟨.string,c',d',[.str []]⟩) (hb:O.hp b=some (.map (vd M) ck)):
  ig tab O t (.map b) (.str k) ok=some (zF ok (.str []) ((yp k M).map .str)):=by
 unfold ig;simp only[h,hk,he,ani,mapOf,hb,Option.bind_some,Lq,yy];have:=U4 k M 0;cases hf:Py k M 0 with
 | none=>
   rw[hf]at this;rw[<-this];cases ok<;>rfl
 | some p=>
   rw[hf]at this;rw[<-this];cases ok<;>rfl
theorem JD {k:Bs}:∀{M:vt} {i:Nat},(∀p∈M,p.1≠k)->Py k M i=none
 | [],i,_=>rfl
 | p::M,i,h=>by
   have h':(k==p.1)=false:=by rw[beq_eq_false_iff_ne];exact Ne.symm (h p (by simp))
   rw[Py,h',if_neg (by simp)];exact JD fun q hq=>h q (List.mem_cons_of_mem _ hq)
theorem acy {tab:cg} {O:VH} {t kt et:TypeId} {a b' c d:Nat} {z y:List MV} {b ck:Nat} {M:vt} {k v:Bs} (h:tab t=some ⟨.map kt et,a,b',z⟩) (hk:tab kt=some ⟨.string,c,d,y⟩) (hb:O.hp b=some (.map (vd M) ck)) (ec:∀p∈M,p.1≠k):
  eB tab O t (.map b) (.str k) (.str v)=some (O.set b (.map (vd (M++[(k,v,ck)])) (ck+1))):=by
 unfold eB;simp only[h,hk,ani,hb,Lq,yy,JD ec];simp[vd]
theorem JE {k:Bs} {M:vt} (h:∀p∈M,p.1≠k):yp k M=none:=by
 unfold yp;rw[List.find?_eq_none.2 (fun p hp=>by simpa using h p hp)];rfl
theorem Pz:∀{L:List (Bs×Bs)} {R:vt} {x:Bs×Bs},L.Pairwise (fun x y=>x.1≠y.1)->R.map (fun p=>(p.1,p.2.1))=L->x∈L->yp x.1 R=some x.2
 | [],R,x,_,_,hx=>by simp at hx
 | y::L,[],x,_,e,_=>by simp at e
 | y::L,p::R,x,h,e,hx=>by
   rw[List.map_cons]at e;injection e with e1 e2;obtain⟨h1,h2⟩:=List.pairwise_cons.1 h;unfold yp;rw[List.find?_cons];rcases anf.1 hx with rfl | hx
   ·have:(p.1==x.1)=true:=by rw[<-e1];simp
    rw[this];simp only[ani];rw[<-e1]
   ·have hne:=h1 x hx;have:(p.1==x.1)=false:=by rw[beq_eq_false_iff_ne];rw[<-e1]at hne;exact hne
    rw[this];exact Pz h2 e2 hx
structure pQ (O:VH) (tb kr kd:Nat) (L:List (Bs×Bs)) (R D:vt) (cr cd:Nat) (tk:Tok) (kn:Int):Prop where
 cell:O.hp tb=some (.cells [.sl L.length (L.flatMap bm) tk,.map kr,.map kd,mi kn])
 raw:O.hp kr=some (.map (vd R) cr)
 done:O.hp kd=some (.map (vd D) cd)
 lt:tb<O.N/\kr<O.N/\kd<O.N
 ne:tb≠kr/\tb≠kd/\kr≠kd
theorem pQ.ge {O O':VH} {tb kr kd:Nat} {L:List (Bs×Bs)} {R D:vt} {cr cd:Nat} {tk:Tok} {kn:Int} (h:pQ O tb kr kd L R D cr cd tk kn) (g:O.Ge O'):pQ O' tb kr kd L R D cr cd tk kn:=
 ⟨(g.hp _ h.lt.1).trans h.cell,(g.hp _ h.lt.2.1).trans h.raw,(g.hp _ h.lt.2.2).trans h.done,⟨Ml h.lt.1 g.N,Ml h.lt.2.1 g.N,Ml h.lt.2.2 g.N⟩,h.ne⟩
theorem Ls (L:List (Bs×Bs)) (tk:Tok) (O:VH) (hn:L.length<=10000) (hL:L.Pairwise fun x y=>x.1≠y.1):VF Tryz.prog 132 [.sl L.length (L.flatMap bm) tk] O (aE fun m O'=>m= .ptr (O.N+2) 0/\O.Ge O'/\∃R cr t,pQ O' (O.N+2) O.N (O.N+1) L R [] cr 0 t 0/\∀x∈L,yp x.1 R=some x.2):=by
 have dI:=aX fM L;refine χ 50 [.tmp 2] Tryz.func132 ?_;have k7:Fv (kT [(0,1),(1,1),(2,1),(3,1)]) [.sl 0 [] .nil,.v (.map none),.v (.map none),.v (.int .i64 0)] (.map O.N) [(2,.map (O.N+1))] (some (1,1))=some [.sl 0 [] .nil,.map O.N,.map (O.N+1),.v (.int .i64 0)]:=rfl;refine κ @fE ?_;refine ξ @fE @k7 ?_;refine VC.gen ?_;intro O1 e1;obtain⟨aJ,cW,cz,cE,fj⟩:=lu _ _ _ e1;clear e1;have Pu:O.N+1+1=O.N+2:=by omega
 refine Ξ [3] (fun _:Unit=>[.ptr (O.N+2) 0]) (fun _ O'=>O.Ge O'/\∃R cr t,pQ O' (O.N+2) O.N (O.N+1) L R [] cr 0 t 0/\R.map (fun p=>(p.1,p.2.1))=L) ?_ ?_
 ·refine κ @fE ?_;refine υ ?_;refine Δ [14] [3,12,13] (fun j:Nat=>[mi j]) (fun j O'=>O.Ge O'/\j<=L.length/\∃R cr t,pQ O' (O.N+2) O.N (O.N+1) (L.take j) R [] cr 0 t 0/\R.map (fun p=>(p.1,p.2.1))=L.take j/\App O' (O.N+3) 2 t) (fun j=>L.length - j) (0) ?_ ?_
  ·refine⟨aJ,ahZ _,[],0,.nil,⟨?_,cz,cE,⟨by omega,by omega,by omega⟩,by omega,by omega,by omega⟩,?_,trivial⟩
   ·rw[List.take_zero];exact fj
   ·rw[List.take_zero];rfl
  rintro j O3 ⟨aG,hj,R,cr,t,hT,hR,cy⟩;by_cases aM:j<L.length;rotate_left
  ·obtain rfl:j=L.length:=by omega
   rw[ajv]at hT hR;refine ν @fE ?_;exact aB.mk () ⟨aG,R,cr,t,hT,hR⟩
  have bE:=cP fM L j aM;have cT:=dB L j aM
  have ec:∀p∈R,p.1≠L[j].1:=fun p hp=>by
   have hm:(p.1,p.2.1)∈L.take j:=by rw[<-hR];exact List.mem_map_of_mem (f:=fun p:Bs×Bs×Nat=>(p.1,p.2.1)) hp
   obtain⟨i,hi,e⟩:=ahW.1 hm;rw[ahX]at hi;rw[anl]at e;have:=(am_.1 hL) i j (by omega) aM (by omega);rw[e]at this;exact this
  have AJ:(L.take j).length=j:=by rw[ahX];omega
  generalize L[j]=y at*;generalize L.take j=LT at*;obtain⟨yn,yv⟩:=y;dsimp only at ec;simp only[bm]at bE;have cB:((j:Int)+1)=((j+1:Nat):Int):=by omega
  have ei:=hT.lt;have hne:=hT.ne;refine κ @fE ?_;refine κ @fE ?_;refine ω (υ ?_);refine ξ @fE @bE ?_;refine VC.al ?_;rintro O4 ⟨aY,kc,h_⟩;have wW:=hT.ge aY;have mP:=cy.ge aY;have fR:=wW.cell;have Bm:=wW.raw;simp only[aq]at fR;have eC:ig (bX Tryz.prog) O4 296 (.map O.N) (.str yn) true=some (zF true (.str []) ((yp yn R).map .str)):=Lr I7 T9 T9 Bm;rw[JE ec]at eC;simp only[Option.map_none,KK]at eC;refine ω ?_;refine WC.bQ (.held []) [(0,.rd),(1,.rd),(2,.rd),(3,.rd),(4,.rd),(5,.rd),(6,.rd),(7,.rd),(8,.rd),(9,.rd),(10,.rd),(11,.rd)] ?_;refine cJ @fE @fR @kc @eC ?_;refine κ @fE ?_;refine ν @fE ?_;refine WC.bQ (.held [8]) [(0,.rd),(1,.rd),(2,.rd),(3,.rd),(4,.rd),(5,.rd),(6,.rd),(7,.rd),(8,.one)] ?_;have lZ:eB (bX Tryz.prog) O4 296 (.map O.N) (.str yn) (.str yv)=some (O4.set O.N (.map (vd (R++[(yn,yv,cr)])) (cr+1))):=acy I7 T9 Bm ec;refine cJ @fE @fR @kc @lZ ?_;refine VC.gen ?_;intro O5 e5;have gM:∀i,i≠O.N->O5.hp i=O4.hp i:=fun i hi=>by rw[e5];exact ρ _ _ hi
  have e_:O5.N=O4.N:=by rw[e5];rfl
  have yl:O5.hp O.N=some (.map (vd (R++[(yn,yv,cr)])) (cr+1)):=by rw[e5];exact τ _ _ _
  have bG:O.Ge O5:=by rw[e5];exact(aG.trans aY).set (VI _) _
  have gJ:App O5 (O.N+3) 2 t:=mP.mv (by omega) fun i hi e=>(gM i (fun e2=>by subst e2;rw[Bm]at e;cases e)).trans e
  clear e5;have gd:=(gM _ (by omega)).trans fR;have mI:=(gM _ (by omega)).trans kc;have Cq:=(gM (O.N+1) (by omega)).trans wW.done;obtain⟨mE,gY,lQ⟩:=gG (n:=LT.length) (cs:=LT.flatMap bm) (ds:=[.str yn,.str yv]) (es:=bm (yn,yv)) KO Dh.1.1 gJ (aX fM LT) rfl rfl (by decide) (by omega) (by simp only[maxLen];omega) (gH LT) (by simp only[bm,wu]);refine WC.bQ (.held [10]) [(0,.rd),(1,.rd),(2,.rd),(3,.rd),(4,.rd),(5,.rd),(6,.one),(7,.one),(8,.one),(9,.rd),(10,.one)] ?_;refine aH @fE @gd @mI ?_;refine δ gY lQ ?_;have hca:(O5.after t).hp (O.N+2)=_:=(App.off gJ (by omega) (by rw[gd];simp)).trans gd;have hra:(O5.after t).hp O.N=_:=(App.off gJ (by omega) (by rw[yl];simp)).trans yl;have hda:(O5.after t).hp (O.N+1)=_:=(App.off gJ (by omega) (by rw[Cq];simp)).trans Cq;refine ao @fE @hca ?_;refine VC.gen ?_;intro O6 e6;have so:=cc.after gJ;have ot:∀i,i≠O.N+2->O6.hp i=(O5.after t).hp i:=fun i hi=>by rw[e6];exact ρ _ _ hi
  have nH:O6.N=(O5.after t).N:=by rw[e6];rfl
  have CD:O6.hp (O.N+2)=some (.cells [.sl (LT.length+1) (LT.flatMap bm++bm (yn,yv)) (.own O5.N 2),.map O.N,.map (O.N+1),.v (.int .i64 0)]):=by rw[e6];exact τ _ _ _
  have mM:App O6 (O.N+3) 2 (.own O5.N 2):=(App.after (tk:=t) (B:=O.N+3) (sz:=2) (by omega:O.N+3<=O5.N)).mv (by omega) fun i hi e=>(ot i (fun e2=>by subst e2;rw[hca]at e;cases e)).trans e
  have Pt:O.Ge O6:=⟨by have:=so.N;have:=bG.N;omega,fun i hi=>by
   rw[ot i (by omega),so.hp i (by have:=bG.N;omega) (fun e=>by have:=(App.nE gJ e).1;omega)];exact bG.hp i hi⟩
  have GJ:=so.N;refine ο @fE @cB ?_;refine az.N (j+1) ⟨Pt,aM,R++[(yn,yv,cr)],cr+1,.own O5.N 2,⟨?_,(ot _ (by omega)).trans hra,(ot _ (by omega)).trans hda,⟨by omega,by omega,by omega⟩,hne⟩,?_,mM⟩
  ·rw[cT,anc,Mm];simpa[aq]using CD
  ·rw[cT,anh,hR];rfl
 rintro _ O9 ⟨bh,R,cr,t,hT,hR⟩;refine ν @fE ?_;exact⟨bh,R,cr,t,hT,fun x hx=>Pz hL hR hx⟩
set_option linter.defProp false in
def c5:=zW fE<|zW aku<|zW T80 agO
theorem afJ (x:Bs) (O:VH) (t:Tok):VF Tryz.prog 201 [.sl 0 [] t,.str x] O (aE fun m O'=>m=mb false/\O'=O):=by
 have h1:VF Tryz.prog 228 [.sl 0 [] t,.str x] O (aE fun m O'=>m=mi (-1)/\O'=O):=by
  refine Θ 19 [.tmp 4] Tryz.func228 ?_;refine ab @c5 ?_;refine WC.jh [8] [0,1,7] (fun j:Unit=>[mi 0]) (fun j O'=>O'=O) (fun j=>0) (()) ?_ ?_
  ·rfl
  rintro _ O2 e2;rw[e2];clear e2 O2
  refine ab @c5 ?_;trivial
 refine Θ 9 [.tmp 4] Tryz.func201 ?_;refine ab @c5 ?_;refine π (h1) ?_;rintro _ O2 ⟨rfl,e2⟩;rw[e2];clear e2 O2
 refine ab @c5 ?_;trivial
theorem YH {O:VH} {wb tb kr kd:Nat} {L:List (Bs×Bs)} {R D:vt} {cr cd:Nat} {tk:Tok} {kn:Int} (nm v:Bs) (h:pQ O tb kr kd L R D cr cd tk kn) (hw:O.hp wb=some (.cells [.ptr tb 0,.sl 0 [] .nil])) (oJ:wb<O.N) (hR:yp nm R=some v) (hD:∀p∈D,p.1≠nm) (hv:sm v) (eP:v.length<=4096):
  VF Tryz.prog 167 [.ptr wb 0,.str nm] O (aE fun m O'=>m= .str v/\(∃kn',pQ O' tb kr kd L R (D++[(nm,v,cd)]) cr (cd+1) tk kn')/\O.N<=O'.N/\∀i,i<O.N->i≠tb->i≠kd->i≠wb->O'.hp i=O.hp i):=by
 have hc:=h.cell;have ei:=h.lt;have hne:=h.ne;have Co:wb≠tb:=fun e=>by subst e;rw[hw]at hc;simp at hc
 have hwr:wb≠kr:=fun e=>by subst e;have:=h.raw;cases(hw.symm.trans this)
 have hwd:wb≠kd:=fun e=>by subst e;have:=h.done;cases(hw.symm.trans this)
 simp only[aq]at hc;have eC:ig (bX Tryz.prog) O 296 (.map kd) (.str nm) true=some (zF true (.str []) ((yp nm D).map .str)):=Lr I7 T9 T9 h.done;rw[JE hD]at eC;simp only[Option.map_none,KK]at eC;refine χ 95 [.tmp 4] Tryz.func167 ?_;refine κ @c5 ?_;refine θ (cJ @c5 @hw @hc @eC ?_);refine ω (υ ?_);refine ξ @c5 @hw ?_;refine π (afJ nm O .nil) ?_;rintro _ O2 ⟨rfl,e2⟩;rw[e2];clear e2 O2
 refine ao @c5 @hw ?_;refine ο @c5 @hw ?_;refine ξ @c5 @hw ?_;have cy:=aT (tk:=.nil) (tk':=.full) (B:=0) (n:=0) (k:=1) (cs:=[]) (ds:=[.str nm]) rM T9 (O:=O) trivial rfl rfl rfl (by decide) (by decide) (by decide) (by decide);rw[ajz,aeb]at cy;refine δ cy rfl ?_;have so:O.Ge (O.after .nil):=cc.Cc (tk:=.nil) (sz:=1) trivial (cc.after (sz:=1) (B:=0) trivial);have hwA:=(so.hp _ oJ).trans hw;refine ao @c5 @hwA ?_;refine VC.gen ?_;intro O2 e2;have dA:∀i,i<O.N->i≠wb->O2.hp i=O.hp i:=fun i h1 h2=>by rw[e2,ρ _ _ h2];exact so.hp i h1
 have eJ:O.N<=O2.N:=by rw[e2];exact so.N
 have sJ:∃t,O2.hp wb=some (.cells [.ptr tb 0,.sl 1 [.str nm] t]):=⟨_,by rw[e2];exact τ _ _ _⟩
 obtain⟨t2,sJ⟩:=sJ;clear e2;have hT2:pQ O2 tb kr kd L R D cr cd tk kn:=⟨(dA _ ei.1 (Ne.symm Co)).trans h.cell,(dA _ ei.2.1 (Ne.symm hwr)).trans h.raw,(dA _ ei.2.2 (Ne.symm hwd)).trans h.done,⟨by omega,by omega,by omega⟩,hne⟩;have iL:=hT2.cell;simp only[aq]at iL;have JF:ig (bX Tryz.prog) O2 296 (.map kr) (.str nm) false=some (zF false (.str []) ((yp nm R).map .str)):=Lr I7 T9 T9 hT2.raw;rw[hR]at JF;simp only[ani,Ut]at JF;refine θ (cJ @c5 @sJ @iL @JF ?_);refine π (Px wb v nm O2 hv eP) ?_;rintro _ O3 ⟨rfl,aG⟩;have hT3:=hT2.ge aG;have hw3:=aG.at sJ;have BD:∀i,i<O.N->i≠wb->O3.hp i=O.hp i:=fun i h1 h2=>(aG.hp i (by omega)).trans (dA i h1 h2)
 have gE:=aG.N;refine ab @c5 ?_;refine ω ?_;refine WC.bQ (.held [14]) [(0,.rd),(1,.rd),(2,.rd),(3,.rd),(4,.rd),(5,.rd),(6,.rd),(7,.rd),(8,.rd),(9,.rd),(10,.rd),(11,.rd),(12,.one),(13,.rd),(14,.one)] ?_;refine aH @c5 @hw3 @v_ ?_;refine VC.gen ?_;intro O4 e4;have sk:∀i,i≠wb->O4.hp i=O3.hp i:=fun i h2=>by rw[e4];exact ρ _ _ h2
 have h_:O4.N=O3.N:=by rw[e4];rfl
 have PA:∃t,O4.hp wb=some (.cells [.ptr tb 0,t]):=⟨_,by rw[e4];exact τ _ _ _⟩
 obtain⟨t4,PA⟩:=PA;clear e4;have ag_:=hT3.lt;have wW:pQ O4 tb kr kd L R D cr cd tk kn:=⟨(sk _ (Ne.symm Co)).trans hT3.cell,(sk _ (Ne.symm hwr)).trans hT3.raw,(sk _ (Ne.symm hwd)).trans hT3.done,⟨by omega,by omega,by omega⟩,hne⟩;have fR:=wW.cell;simp only[aq]at fR;have lZ:eB (bX Tryz.prog) O4 296 (.map kd) (.str nm) (.str v)=some (O4.set kd (.map (vd (D++[(nm,v,cd)])) (cd+1))):=acy I7 T9 wW.done hD;refine θ (cJ @c5 @PA @fR @lZ ?_);refine VC.gen ?_;intro O5 e5;have gM:∀i,i≠kd->O5.hp i=O4.hp i:=fun i h2=>by rw[e5];exact ρ _ _ h2
 have e_:O5.N=O4.N:=by rw[e5];rfl
 have Cq:O5.hp kd=some (.map (vd (D++[(nm,v,cd)])) (cd+1)):=by rw[e5];exact τ _ _ _
 clear e5;have hw5:=(gM wb hwd).trans PA;have gd:=(gM tb hne.2.1).trans fR;refine θ (cJ @c5 @dD @hw5 @gd ?_);refine π (wR 1 gd rfl) ?_;rintro m O6 ⟨rfl,e6⟩;have ot:∀i,i≠tb->O6.hp i=O5.hp i:=fun i h2=>by rw[e6];exact ρ _ _ h2
 have CD:O6.hp tb=some (.cells [.sl L.length (L.flatMap bm) tk,.map kr,.map kd,mi (IntKind.i64.wrap (kn+1))]):=by rw[e6];exact τ _ _ _
 have nH:O6.N=O5.N:=by rw[e6];rfl
 refine ab @c5 ?_;refine ν @c5 ?_;refine⟨⟨_,⟨CD,(ot _ (Ne.symm hne.1)).trans ((gM _ hne.2.2).trans wW.raw),(ot _ (Ne.symm hne.2.1)).trans Cq,⟨by omega,by omega,by omega⟩,hne⟩⟩,by omega,fun i h1 h2 h3 h4=>?_⟩;exact(ot i h2).trans ((gM i h3).trans ((sk i h4).trans (BD i h1 h4)))
theorem acz {O:VH} {a b:Nat} {K:VH->Prop} (h:K O):gU Tryz.prog 200 [.ptr a 0,.ptr b 0] none O K:=by
 refine gU.rec (d:=5) Tryz.func200 (Nat.lt_of_lt_of_eq (by decide:5<15) rfl) ?_;show WC _ _ ⟨15,0⟩ _ _ _ _ _;simp only[cL,ajz,Nat.reduceAdd,AO];refine ao @c5 @wi ?_;refine VL.pure (by simp) (fun _=>.inl rfl) rfl rfl (iZ.FD (bb:=true) Tryz.underlying20 rfl (.inl ⟨rfl,rfl⟩)) ?_;refine WL.sound aa ?_;refine ao @c5 @wi ?_;exact h
theorem PB {O:VH} {g:FuncId} {xs:List MV} {Φ :VH->VH->Prop} (hg:df Tryz.prog g=true) (hC:∀O1,O.Ge O1->VF Tryz.prog g xs O1 (aE fun _ O'=> Φ O1 O')) (hΦ :∀O1 O2,O.Ge O1-> Φ O1 O2->O1.N<=O2.N/\∀i,O.N<=i->i<O1.N->O2.hp i=O1.hp i):
  VF Tryz.prog 165 [.func (.func g) [] xs] O (aE fun m O'=>m= .tuple [mi 0,.str []]/\∃O1 O2,O.Ge O1/\ Φ O1 O2/\O2.N<=O'.N/\∀i,i<O.N->O'.hp i=O2.hp i):=by
 refine VF.deferred (lo:=4) (k:=7) (rs:=[.cell 2 87,.cell 3 9]) Tryz.func165 (Enters.sI (by kernel_rfl)) ?_;simp only[cL,ajz,Nat.reduceAdd];refine ab @c5 ?_;refine⟨_,rfl,fun D=>?_⟩;refine VC.gen ?_;rintro O1 sU;obtain⟨aJ,cW,cz,cE⟩:=ib _ _ sU;clear sU;refine ξ @c5 @wd ?_;refine π (hC O1 aJ) ?_ (hb:=hg);rintro m O2 h2;obtain⟨eJ,dA⟩:=hΦ O1 O2 aJ h2;have eA:=(dA _ (VI _) (by omega)).trans cz;have cK:=(dA (O.N+1) (by omega) (by omega)).trans cE;refine ao @c5 @wd ?_;refine θ (cJ @c5 @wd @eA @cK ?_);refine ο @c5 @wd ?_;refine acz ?_;refine cJ @c5 @wd @eA @cK ?_;exact⟨O1,O2,aJ,h2,VI _,fun i hi=>by rw[ρ _ _ (by omega),ρ _ _ (by omega)]⟩
theorem afK {O:VH} {ba bb bc tb:Nat} {s:Bs} {z:MV} (ha:O.hp ba=some (.cells [.ptr tb 0])) (hb:O.hp bb=some (.cells [.str s])) (hc:O.hp bc=some (.cells [z])) (kK:ba<O.N) (o5:bb<O.N) (fY:bc<O.N) (h:sm s) (hs:s.length<=4096):
  VF Tryz.prog 198 [.ptr ba 0,.ptr bb 0,.ptr bc 0] O (aE fun m O'=>O'.hp bc=some (.cells [.str s])/\bB O (some bc) O'):=by
 refine χ 8 [] Tryz.func198 ?_;have SD:∀x,(O.push x).hp bb=some (.cells [.str s]):=fun x=>(Ω _ _ o5).trans hb
 refine ι (aH @c5 @ha @hb ?_);refine ah.bx ?_;rintro O1 ⟨aJ,eQ,cW⟩;refine π (Px O.N s [] O1 h hs) ?_;rintro _ O2 ⟨rfl,aC⟩;have fC:=aJ.trans aC;have iL:=(fC.hp _ fY).trans hc;refine ao @c5 @iL ?_;exact(bB.ll fC).any.trans bB.set
theorem YI (tb:Nat) (s:Bs) (O:VH) (h:sm s) (hs:s.length<=4096):VF Tryz.prog 164 [.ptr tb 0,.str s] O (aE fun m O'=>m= .tuple [.str s,mi 0,.str []]/\O.Ge O'):=by
 refine χ 20 [.cell 4 9,.tmp 5,.tmp 6] Tryz.func164 ?_;refine κ @c5 ?_;refine VC.gen ?_;intro O1 e1;obtain⟨aJ,cW,cz,cE,fj⟩:=lu _ _ _ e1;clear e1;refine ξ @c5 @cz ?_;refine κ @c5 ?_;refine π (PB (O:=O1) (g:=198) (xs:=[.ptr O.N 0,.ptr (O.N+1) 0,.ptr (O.N+2) 0]) (Φ :=fun A B=>B.hp (O.N+2)=some (.cells [.str s])/\bB A (some (O.N+2)) B) (by kernel_rfl) (fun O2 aC=>afK (aC.at cz) (aC.at cE) (aC.at fj) (by have:=aC.N;omega) (by have:=aC.N;omega) (by have:=aC.N;omega) h hs) (fun A B hA hB=>⟨hB.2.N,fun i h1 h2=>hB.2.hp i h2 (fun e=>by injection e with e;omega)⟩)) ?_;rintro _ O3 ⟨rfl,A,B,so,⟨oq,Cx⟩,gE,BD⟩;have fA:=(BD _ (by omega)).trans oq;refine ab @c5 ?_;refine κ @c5 ?_;refine ξ @c5 @fA ?_;refine ν @c5 ?_;have aG:O.Ge O3:=⟨by have:=so.N;have:=Cx.N;omega,fun i hi=>(BD i (by omega)).trans ((Cx.hp i (by have:=so.N;omega) (fun e=>by injection e with e;omega)).trans ((so.hp i (by omega)).trans (aJ.hp i hi)))⟩;exact aG.set (by omega) _
theorem afL {O:VH} {ba bb tb kr kd:Nat} {L:List (Bs×Bs)} {R:vt} {cr:Nat} {tk:Tok} (ha:O.hp ba=some (.cells [.ptr tb 0])) (hb:O.hp bb=some (.cells [.sl 0 [] .nil])) (kK:ba<O.N) (o5:bb<O.N) (h:pQ O tb kr kd L R [] cr 0 tk 0) (hn:L.length<=10000) (hR:∀x∈L,yp x.1 R=some x.2) (hL:L.Pairwise fun x y=>x.1≠y.1) (hv:∀x∈L,sm x.2/\x.2.length<=4096):
  VF Tryz.prog 166 [.ptr ba 0,.ptr bb 0] O (aE fun m O'=>(∃t,O'.hp bb=some (.cells [.sl L.length (L.flatMap bm) t]))/\O.N<=O'.N/\∀i,i<O.N->i≠tb->i≠kd->i≠bb->O'.hp i=O.hp i):=by
 have dI:=aX fM L;have ei:=h.lt;have hne:=h.ne;have hc:=h.cell;simp only[aq]at hc;have ahc:ba≠tb:=fun e=>by subst e;rw[ha]at hc;simp at hc
 have o_:bb≠tb:=fun e=>by subst e;rw[hb]at hc;simp at hc
 have Yd:ba≠kd:=fun e=>by subst e;have:=h.done;cases(ha.symm.trans this)
 have yf:bb≠kd:=fun e=>by subst e;have:=h.done;cases(hb.symm.trans this)
 have hbr:bb≠kr:=fun e=>by subst e;have:=h.raw;cases(hb.symm.trans this)
 have Yj:ba≠bb:=fun e=>by subst e;rw[hb]at ha;simp at ha
 refine χ 26 [] Tryz.func166 ?_;refine θ (aH @c5 @ha @hc ?_);refine υ ?_;refine Δ [9] [0,1,7,8] (fun j:Nat=>[mi j]) (fun j O'=>j<=L.length/\O.N<=O'.N/\(∀i,i<O.N->i≠tb->i≠kd->i≠bb->O'.hp i=O.hp i)/\∃D cd kn t,pQ O' tb kr kd L R D cr cd tk kn/\(∀p∈D,∃x∈L.take j,p.1=x.1)/\O'.hp bb=some (.cells [.sl (L.take j).length ((L.take j).flatMap bm) t])/\App O' O.N 2 t) (fun j=>L.length - j) (0) ?_ ?_
 ·exact⟨ahZ _,VI _,fun _ _ _ _ _=>rfl,[],0,0,.nil,h,by simp,hb,trivial⟩
 rintro j O3 ⟨hj,gE,BD,D,cd,kn,t,hT,hD,cC,cy⟩;by_cases aM:j<L.length;rotate_left
 ·obtain rfl:j=L.length:=by omega
  rw[ajv]at cC;refine ν @c5 ?_;exact⟨⟨t,cC⟩,gE,BD⟩
 have bE:=cP fM L j aM;have cT:=dB L j aM
 have ec:∀p∈D,p.1≠L[j].1:=fun p hp=>by
  obtain⟨x,hx,e⟩:=hD p hp;obtain⟨i,hi,e2⟩:=ahW.1 hx;rw[ahX]at hi;rw[anl]at e2;have:=(am_.1 hL) i j (by omega) aM (by omega);rw[e, <-e2];exact this
 have hRj:=hR L[j] (anb aM);obtain⟨hvj,eP⟩:=hv L[j] (anb aM);have AJ:(L.take j).length=j:=by rw[ahX];omega
 generalize L[j]=y at*;obtain⟨yn,yv⟩:=y;dsimp only at ec hRj hvj eP;simp only[bm]at bE;have cB:((j:Int)+1)=((j+1:Nat):Int):=by omega
 refine κ @c5 ?_;refine κ @c5 ?_;refine ω (υ ?_);refine ξ @c5 @bE ?_;refine VC.al ?_;rintro O4 ⟨aY,kc,h_⟩;have wW:=hT.ge aY;have fb:=aY.at ((BD ba kK ahc Yd Yj).trans ha);have di:=aY.at cC;have mP:=cy.ge aY;refine VC.Bf [12] (bb) (fun O'=>O'.hp ba=some (.cells [.ptr tb 0])/\O'.hp O3.N=some (.cells [.str yn,.str yv])) (di) (fun X=>⟨(ρ _ _ Yj).trans fb,Γ kc⟩) ?_;intro X;refine ε (m:=.sl (L.take j).length ((L.take j).flatMap bm) t) 0 (fun _ h=>h.1) (fun _ h=>h) ?_ ?_
 ·exact fU @c5
 simp only[ak];refine ae.au 1 ?_;refine ab @c5 ?_;refine ζ (m:=.str yn) 2 ?_ ?_
 ·rintro O2 ⟨j0,j1,j2⟩;exact dW @c5 @j2
 simp only[ak];refine ζ (m:=.ptr tb 0) 3 ?_ ?_
 ·rintro O2 ⟨j0,j1,j2⟩;exact dW @c5 @j1
 simp only[ak];refine ae.au 4 ?_;refine ab @c5 ?_;refine ae.au 6 ?_;refine ab @c5 ?_;refine ζ (m:=.str yn) 7 ?_ ?_
 ·rintro O2 ⟨j0,j1,j2⟩;exact dW @c5 @j2
 simp only[ak];have my:(O4.set bb (.obj X)).hp bb=some (.obj X)/\(O4.set bb (.obj X)).hp ba=some (.cells [.ptr tb 0])/\(O4.set bb (.obj X)).hp O3.N=some (.cells [.str yn,.str yv]):=⟨τ _ _ _,(ρ _ _ Yj).trans fb,Γ kc⟩;have e_:(O4.set bb (.obj X)).N=O4.N:=rfl;have gM:∀i,i≠bb->(O4.set bb (.obj X)).hp i=O4.hp i:=fun i h1=>ρ _ _ h1
 have gJ:=mP.o8 (k:=bb) (x:=.obj X) (by rw[di];simp);have alb:=wW.lt;have SL:pQ (O4.set bb (.obj X)) tb kr kd L R D cr cd tk kn:=⟨(gM _ (Ne.symm o_)).trans wW.cell,(gM _ (Ne.symm hbr)).trans wW.raw,(gM _ (Ne.symm yf)).trans wW.done,⟨by omega,by omega,by omega⟩,hne⟩;generalize O4.set bb (.obj X)=O5 at*;refine ae.op (i:=5) ?_;refine ab @c5 ?_;refine⟨my,?_⟩;have eZ:O5.Ge (O5.push (.cells [.ptr tb 0,.sl 0 [] .nil])):=(VH.Ge.refl _).push _;have hw6:(O5.push (.cells [.ptr tb 0,.sl 0 [] .nil])).hp O5.N=some (.cells [.ptr tb 0,.sl 0 [] .nil]):=Υ _ _;have nH:(O5.push (.cells [.ptr tb 0,.sl 0 [] .nil])).N=O5.N+1:=rfl;generalize O5.push (.cells [.ptr tb 0,.sl 0 [] .nil])=O6 at*;have yq:=SL.ge eZ;have mM:=gJ.ge eZ;have amL:=yq.lt;refine ae.call (i:=8) (YH yn yv yq hw6 (by omega) hRj ec hvj eP) ?_;rintro _ O7 ⟨rfl,⟨kn',H8⟩,vg,wT⟩;simp only[ak];have U5:∀i,i<O5.N->i≠tb->i≠kd->O7.hp i=O5.hp i:=fun i h1 h2 h3=>(wT i (by omega) h2 h3 (by omega)).trans (eZ.hp i h1)
 have yP:O7.hp bb=some (.obj X)/\O7.hp ba=some (.cells [.ptr tb 0])/\O7.hp O3.N=some (.cells [.str yn,.str yv]):=⟨(U5 _ (by omega) o_ yf).trans my.1,(U5 _ (by omega) ahc Yd).trans my.2.1,(U5 _ (by omega) (by omega) (by omega)).trans my.2.2⟩;refine⟨yP,?_⟩;have kC:App O7 O.N 2 t:=mM.mv vg fun i h1 e=>(wT i h1 (fun e2=>by subst e2;rw[yq.cell]at e;cases e) (fun e2=>by subst e2;rw[yq.done]at e;cases e) (fun e2=>by subst e2;rw[hw6]at e;cases e)).trans e
 refine ae.au 9 ?_;refine ab @c5 ?_;refine ae.op (i:=10) ?_;refine ab @c5 ?_;refine⟨yP,?_⟩;have cy:=aT (tk:=t) (tk':=.full) (B:=O.N) (n:=(L.take j).length) (k:=1) (cs:=(L.take j).flatMap bm) (ds:=[.str yn,.str yv]) KO Dh.1.1 (O:=O7) kC (aX fM _) rfl rfl (by decide) (by decide) (by omega) (by simp only[maxLen];omega);refine ae.op (i:=11) ?_;rw[dq];refine ao @c5 @cy ?_;have ly:∀i,i<O7.N->O7.hp i≠some .tok->(O7.after t).hp i=O7.hp i:=fun i h1 h2=>App.off kC h1 h2
 refine⟨⟨(ly _ (by omega) (by rw[yP.1];simp)).trans yP.1,(ly _ (by omega) (by rw[yP.2.1];simp)).trans yP.2.1,(ly _ (by omega) (by rw[yP.2.2];simp)).trans yP.2.2⟩,?_⟩;refine ae.kf [(12,.one)] ?_;refine ab @c5 ?_;refine VC.gen ?_;intro O8 e8;have so:=cc.after kC;have GJ:=so.N;have wV:∀i,i≠bb->O8.hp i=(O7.after t).hp i:=fun i h1=>by rw[e8,ρ _ _ h1,ρ _ _ h1]
 have uf:O8.hp bb=some (.cells [.sl ((L.take j).length+1) ((L.take j).flatMap bm++[.str yn,.str yv]) (.own O7.N 2)]):=by rw[e8];exact τ _ _ _
 have DY:O8.N=(O7.after t).N:=by rw[e8];rfl
 clear e8;have acA:=H8.lt;have hT8:pQ O8 tb kr kd L R (D++[(yn,yv,cd)]) cr (cd+1) tk kn':=⟨(wV _ (Ne.symm o_)).trans ((ly _ acA.1 (by rw[H8.cell];simp)).trans H8.cell),(wV _ (Ne.symm hbr)).trans ((ly _ acA.2.1 (by rw[H8.raw];simp)).trans H8.raw),(wV _ (Ne.symm yf)).trans ((ly _ acA.2.2 (by rw[H8.done];simp)).trans H8.done),⟨by omega,by omega,by omega⟩,hne⟩;have Dq:App O8 O.N 2 (.own O7.N 2):=(App.after (tk:=t) (B:=O.N) (sz:=2) (by omega:O.N<=O7.N)).mv (by omega) fun i hi e=>(wV i (fun e2=>by subst e2;have e3:=ly i (by omega) (by rw[yP.1];simp);rw[e3,yP.1]at e;cases e)).trans e
 have pZ:∀i,i<O.N->i≠tb->i≠kd->i≠bb->O8.hp i=O.hp i:=fun i h1 h2 h3 h4=>by
  rw[wV i h4,so.hp i (by omega) (fun e=>by have:=(App.nE kC e).1;omega),U5 i (by omega) h2 h3,gM i h4,aY.hp i (by omega)];exact BD i h1 h2 h3 h4
 refine ο @c5 @cB ?_;refine az.N (j+1) ⟨aM,by omega,pZ,D++[(yn,yv,cd)],cd+1,kn',.own O7.N 2,hT8,fun p hp=>?_,?_,Dq⟩
 ·rw[cT];rcases ajw.1 hp with hp | hp
  ·obtain⟨x,hx,e⟩:=hD p hp;exact⟨x,List.mem_append_left _ hx,e⟩
  ·rw[ZA.1 hp];exact⟨(yn,yv),anm _ (ZA.2 rfl),rfl⟩
 ·rw[cT,anc,Mm];simpa[bm]using uf
theorem afM {O:VH} {tb kr kd:Nat} {L:List (Bs×Bs)} {R:vt} {cr:Nat} {tk:Tok} (h:pQ O tb kr kd L R [] cr 0 tk 0) (hn:L.length<=10000) (hR:∀x∈L,yp x.1 R=some x.2) (hL:L.Pairwise fun x y=>x.1≠y.1) (hv:∀x∈L,sm x.2/\x.2.length<=4096):
  VF Tryz.prog 138 [.ptr tb 0] O (aE fun m O'=>(∃t,m= .tuple [.sl L.length (L.flatMap bm) t,mi 0,.str []])/\O.N<=O'.N/\∀i,i<O.N->i≠tb->i≠kd->O'.hp i=O.hp i):=by
 have ei:=h.lt;refine χ 17 [.cell 2 84,.tmp 3,.tmp 4] Tryz.func138 ?_;refine κ @c5 ?_;refine VC.gen ?_;intro O1 e1;obtain⟨aJ,cW,cz,cE⟩:=ib _ _ e1;clear e1;refine ξ @c5 @cz ?_;refine κ @c5 ?_;refine π (PB (O:=O1) (g:=166) (xs:=[.ptr O.N 0,.ptr (O.N+1) 0]) (Φ :=fun A B=>(∃t,B.hp (O.N+1)=some (.cells [.sl L.length (L.flatMap bm) t]))/\A.N<=B.N/\∀i,i<A.N->i≠tb->i≠kd->i≠O.N+1->B.hp i=A.hp i) (by kernel_rfl) (fun O2 aC=>afL (aC.at cz) (aC.at cE) (by have:=aC.N;omega) (by have:=aC.N;omega) (h.ge (aJ.trans aC)) hn hR hL hv) (fun A B hA hB=>⟨hB.2.1,fun i h1 h2=>hB.2.2 i h2 (by omega) (by omega) (by omega)⟩)) ?_;rintro _ O3 ⟨rfl,A,B,so,⟨⟨t,oq⟩,Cx,hB3⟩,gE,BD⟩;have cC:=(BD _ (by omega)).trans oq;refine ab @c5 ?_;refine κ @c5 ?_;refine ξ @c5 @cC ?_;refine ν @c5 ?_;have GJ:=so.N;refine⟨⟨t,rfl⟩,by show O.N<=O3.N;omega,fun i h1 h2 h3=>?_⟩;rw[ρ _ _ (by omega),BD i (by omega),hB3 i (by omega) h2 h3 (by omega),so.hp i (by omega),aJ.hp i h1]
set_option linter.defProp false in
def ph:=zW pI<|zW aks<|zW akr<|zW T46<|zW T44 T87
def wX (r:Bool×Bs×List Bs) (tk:Tok):List MV:=[mb r.1,.str r.2.1,.sl r.2.2.length (r.2.2.flatMap fun _=>[]) tk]
def Lt (s:Bs):Bool:=trimB s==s&&(s.headD 0 != 91&&(s.headD 0 != 40&&wg s))
def rT (s:Bs):(Bool×Bs×List Bs)×Int:=if Lt s then((false,s,[]),0)else((true,[],[]),21)
theorem acB {s:Bs} (h:rT s=((false,s,[]),0)):Lt s=true:=by
 unfold rT at h;cases e:Lt s
 ·rw[e]at h;simp at h
 ·rfl
theorem afN (v:Bs) (tk:Tok) (O:VH) (hv:v.length<=maxLen):VF Tryz.prog 180 [.agg [.v (.bool false),.str v,.sl 0 [] tk]] O (aE fun m O'=>m=mb (wg v)/\O.Ge O'):=by
 refine χ 76 [.tmp 2] Tryz.func180 ?_;refine κ @ph ?_;refine VC.bx ?_;rintro O1 ⟨aJ,eQ,cW⟩;refine ξ @ph @eQ ?_;refine π (RP v O1 hv) ?_;rintro _ O2 ⟨rfl,aC⟩;refine ab @ph ?_;exact aJ.trans aC
theorem afO {O:VH} {a b:Nat} {K:VH->Prop} (h:K O):gU Tryz.prog 174 [.ptr a 0,.ptr b 0] none O K:=by
 refine gU.rec (d:=5) Tryz.func174 (Nat.lt_of_lt_of_eq (by decide:5<12) rfl) ?_;show WC _ _ ⟨12,0⟩ _ _ _ _ _;simp only[cL,ajz,Nat.reduceAdd,AO];refine ao @ph @wi ?_;refine VL.pure (by simp) (fun _=>.inl rfl) rfl rfl (iZ.FD (bb:=true) Tryz.underlying20 rfl (.inl ⟨rfl,rfl⟩)) ?_;refine WL.sound aa ?_;refine ao @ph @wi ?_;exact h
theorem acC {O:VH} {b:Nat} {s:Bs} (hk:O.hp b=some (.cells [.str s])):VF Tryz.prog 176 [.ptr b 0] O (aE fun m O'=>m=gj (s.headD 0)/\O'=O):=by
 refine Θ 13 [.tmp 2] Tryz.func176 ?_;cases s with
 | nil=>
   refine aH @ph @hk (show(([]:List UInt8)==[])=true from rfl) ?_;rfl
 | cons c s=>
   refine aH @ph @hk (show((c::s)==[])=false from rfl) ?_;rfl
theorem acD (s:Bs) (O:VH) (hs:s.length<=10000) (hp:rT s=((false,s,[]),0)):VF Tryz.prog 143 [.str s] O (aE fun m O'=>∃tk,m= .tuple [.agg (wX (rT s).1 tk),mi (rT s).2]/\O.Ge O'):=by
 have hsf:=acB hp;rw[hp];unfold Lt at hsf;simp only[Bool.and_eq_true,beq_iff_eq,bne_iff_ne,ne_eq]at hsf;obtain⟨h1,h2,h3,h4⟩:=hsf;have Lu:=KU s;rw[h1]at Lu;have qq:s.length<=maxLen:=ajA hs (by decide);have hm:=fun O' tk=>afN s tk O' qq
 rw[h4]at hm;have hc:=(s.headD 0).toNat_lt;have b1:((s.headD 0).toNat:Int)≠91:=fun e=>h2 (by rw[<-UInt8.toNat_inj];show _=91;omega)
 have b2:((s.headD 0).toNat:Int)≠40:=fun e=>h3 (by rw[<-UInt8.toNat_inj];show _=40;omega)
 have c1:((((s.headD 0).toNat:Int)) != 91)=true:=by rw[bne_iff_ne];exact b1
 have c2:((((s.headD 0).toNat:Int)) != 40)=true:=by rw[bne_iff_ne];exact b2
 simp only[wX,aq,bu,Mn,ahY];refine VF.deferred (lo:=4) (k:=54) (rs:=[.cell 2 46,.cell 3 87]) Tryz.func143 (Enters.sI (by kernel_rfl)) ?_;simp only[cL,ajz,Nat.reduceAdd];refine ab @ph ?_;refine⟨_,rfl,fun D=>?_⟩;refine VC.gen ?_;intro O1 e1;obtain⟨aJ,cW,cz,cE⟩:=ib _ _ e1;clear e1;refine ξ @ph @wd ?_;refine π (Lu O1 qq) ?_;rintro _ O2 ⟨rfl,e2⟩;rw[e2];clear e2 O2;refine ao @ph @wd ?_;refine VC.bx ?_;rintro O2 ⟨aC,jv,eJ⟩;have eA:=aC.at cz;have cK:=aC.at cE;refine ξ @ph @wd ?_;refine π (acC jv) ?_;rintro _ O3 ⟨rfl,e3⟩;rw[e3];clear e3 O3;refine Xz @ph @wd @aL @c1 @c2 @jv @eA ?_;refine VC.gen ?_;intro O4 e4;have fb:O4.hp O.N=some (.cells [.v (.bool false),.str s,.sl 0 [] .nil]):=by rw[e4];exact τ _ _ _
 have di:O4.hp (O.N+1)=some (.cells [.v (.int .i64 0)]):=by rw[e4,ρ _ _ (by omega)];exact cK
 have aY:O.Ge O4:=by rw[e4];exact(aJ.trans aC).set (VI _) _
 have h_:O.N+1<O4.N:=by rw[e4];show _<O2.N;omega
 clear e4;refine θ (aH @ph @wd @fb ?_);refine π (hm O4 .nil) ?_;rintro _ O5 ⟨rfl,bG⟩;have db:=bG.at fb;have dy:=bG.at di;refine aH @ph @wd @db ?_;refine θ (cJ @ph @wd @db @dy ?_);refine ο @ph @wd ?_;refine afO ?_;refine ao @ph @wd ?_;exact⟨.nil,rfl,((aY.trans bG).set (VI _) _).set (ame _) _⟩
set_option linter.defProp false in
def eM:=zW c5<|zW agH<|zW T95<|zW akk<|zW akj<|zW agG<|zW T46<|zW T44<|zW Ca T87
def nmG:Bs:=[112,114,111,106,101,99,116,46,103,114,111,117,112,73,100]
def nmA:Bs:=[112,114,111,106,101,99,116,46,97,114,116,105,102,97,99,116,73,100]
def nmV:Bs:=[112,114,111,106,101,99,116,46,118,101,114,115,105,111,110]
def iM (p:Pm):List (Bs×Bs):=[(nmG,p.g),(nmA,p.a),(nmV,p.v)]
theorem wY (p:Pm):(iM p).Pairwise fun x y=>x.1≠y.1:=by
 simp only[iM,List.pairwise_cons,anf,anu,or_false,forall_eq_or_imp,forall_eq];exact⟨⟨by decide,by decide⟩,by decide,by simp,by simp⟩
theorem PC (p:Pm) (O:VH) (hh:p.hp=false) (hp:p.props=[]):VF Tryz.prog 133 [.agg (gX p)] O (aE fun m O'=>(∃t,m= .sl 3 ((iM p).flatMap bm) t)/\O.Ge O'):=by
 have hne:=wY p;have hov:=fun(O':VH) (tk tM:Tok)=>U0 [] (iM p) tk tM O' (by simp[iM]) (by simp) hne
 obtain⟨b,⟨pg,pa,pv⟩,pG,pA,pV,pk,P,M,D⟩:=p;dsimp only at hh hp;subst hh;subst hp;simp only[iM,nmG,nmA,nmV,Mn,ahY,aeb,aee,ajz,anq,List.append_nil,bm,aec]at hov ⊢;simp only[gX,Mn,ahY,bu];refine χ 35 [.tmp 2] Tryz.func133 ?_;refine κ @eM ?_;refine VC.bx ?_;rintro O1 ⟨aJ,eQ,cW⟩;refine ξ @eM @eQ ?_;refine π (hov _ _ _) ?_;rintro _ O2 ⟨⟨t,rfl⟩,aC⟩;have jv:=aC.at eQ;refine ab @eM ?_;refine ο @eM @jv ?_;exact⟨⟨t,rfl⟩,aJ.trans aC⟩
theorem afP (k:Nat) (O:VH):VF Tryz.prog 38 [.ptr k 0] O (aE fun m O'=>m= .ptr (O.N+1) 0/\O.Ge O'/\O'.hp O.N=some (.map [] 0)/\O'.hp (O.N+1)=some (.cells [.ptr k 0,.map O.N])/\O'.N=O.N+2):=by
 refine χ 7 [.tmp 2] Tryz.func38 ?_;have k7:Fv (kT [(0,1),(1,1)]) [.v (.pointer none),.v (.map none)] (.ptr k 0) [(1,.map O.N)] (some (0,1))=some [.ptr k 0,.map O.N]:=rfl;refine κ @eM ?_;refine ο @eM @k7 ?_;obtain⟨hg,hn,h1,h2⟩:=ib (O:=O) (.map [] 0) (.cells [.ptr k 0,.map O.N]) rfl;exact hg
def iq (s:Bs):Prop:=sm s/\s.length<=4096
def s8 (tb bb:Nat) (g:Gv) (p:Pm) (tw:Tok):List MV:=[.ptr tb 0,.ptr bb 0]++bZ g++gX p++[.sl 1 (bZ g) tw]
theorem Lv {O:VH} {wb tb bb:Nat} {g:Gv} {p:Pm} {tw:Tok} (hw:O.hp wb=some (.cells (s8 tb bb g p tw))) (s w:Bs) (hs:iq s):VF Tryz.prog 136 [.ptr wb 0,.str s,.str w] O (aE fun m O'=>m= .str s/\O.Ge O'):=by
 obtain⟨g1,g2,g3⟩:=g;obtain⟨b,⟨pg,pa,pv⟩,pG,pA,pV,pk,P,M,D⟩:=p;simp only[s8,bZ,gX,aec,aeb]at hw;refine χ 27 [.tmp 6] Tryz.func136 ?_;refine κ @eM ?_;refine ξ @eM @hw ?_;refine π (YI tb s O hs.1 hs.2) ?_;rintro _ O2 ⟨rfl,hg⟩;refine ν @eM ?_;exact hg
theorem CG {O:VH} {wb tb bb:Nat} {g:Gv} {p:Pm} {tw:Tok} (hw:O.hp wb=some (.cells (s8 tb bb g p tw))) (s w:Bs) (hs:iq s):VF Tryz.prog 135 [.ptr wb 0,.str w,.str s,.str s] O (aE fun _ O'=>O.Ge O'):=by
 refine χ 17 [] Tryz.func135 ?_;refine κ @eM ?_;refine π (Lv hw s w hs) ?_;rintro _ O2 ⟨rfl,hg⟩;have hb:(!s==s)=false:=by simp
 refine ο @eM @hb ?_;exact hg
theorem U6 {O:VH} {wb tb bb:Nat} {g:Gv} {p:Pm} {tw:Tok} (hw:O.hp wb=some (.cells (s8 tb bb g p tw))) (s w:Bs) (e:Bool) (hs:iq s) (hi:fy s=true\/e=true/\s=[]):VF Tryz.prog 202 [.ptr wb 0,.str s,.str w,mb e] O (aE fun m O'=>m= .str s/\O.Ge O'):=by
 have qq:s.length<=maxLen:=ajA hs.2 (by decide);refine χ 29 [.tmp 8] Tryz.func202 ?_;refine κ @eM ?_;refine κ @eM ?_;refine π (Lv hw s w hs) ?_;rintro _ O2 ⟨rfl,hg⟩;refine ab @eM ?_;refine κ @eM ?_;refine π (uh s O2 qq) ?_;rintro _ O3 ⟨rfl,aG⟩;have hgg:=hg.trans aG;rcases hi with hi | ⟨rfl,rfl⟩
 ·refine ao @eM @hi ?_;refine ν @eM ?_;exact hgg
 ·rcases hb:fy []with _ | _
  ·refine ao @eM @hb ?_;refine ν @eM ?_;exact hgg
  ·refine ao @eM @hb ?_;refine ν @eM ?_;exact hgg
theorem PD (wb:Nat) (O:VH) (v w:Bs) (hv:v.length<=10000) (hp:rT v=((false,v,[]),0)):VF Tryz.prog 173 [.ptr wb 0,.str v,.str w] O (aE fun m O'=>m= .agg (wX (false,v,[]) .ar)/\O.Ge O'):=by
 refine VF.fg ?_;have D_:=fun O'=>acD v O' hv hp
 rw[hp]at D_;simp only[wX,Mn,ahY,bu,aq]at D_ ⊢;refine χ 22 [.cell 6 46] Tryz.func173 ?_;refine κ @eM ?_;refine VC.bx ?_;rintro O1 ⟨aJ,eQ,cW⟩;refine κ @eM ?_;refine π (D_ _) ?_;rintro _ O2 ⟨tk,rfl,aC⟩;have jv:=aC.at eQ;refine ab @eM ?_;refine VC.al ?_;rintro O3 ⟨aG,lS,gE⟩;have acE:=(aG.hp _ (by have:=aC.N;omega)).trans jv;refine ι (aH @eM @lS @acE ?_);exact((aJ.trans aC).trans aG).set (by omega) _
theorem SM (n:Nat) (O:VH) (hn:n<=1000000000):VF Tryz.prog 168 [mi n] O (aE fun m O'=>m= .str (mh n)/\O'=O):=by
 have yi:=sO n;refine Θ 17 [.tmp 2] Tryz.func168 ?_;refine ab @eM ?_;refine WC.jh [0,3] [] (fun x:Nat×Bs=>[mi x.1,.str x.2]) (fun x O'=>O'=O/\mh n=mh x.1++x.2/\x.1<=n) (fun x=>x.1) ((n,[])) ?_ ?_
 ·exact⟨rfl,by simp,VI _⟩
 rintro⟨k,s⟩ O2 ⟨eO,hk,zx⟩;dsimp only at hk zx ⊢;rw[eO];clear eO O2
 rcases Nat.eq_zero_or_pos k with rfl | hp
 ·have h0:mh 0=[]:=rfl;rw[h0,aeb]at hk;refine ab @eM ?_;exact congrArg MV.str hk.symm
 ·have hd:=N7 (k % 10) (by omega);have hl:(mh n).length=(mh k).length+s.length:=by rw[hk,Mm]
  have hr:(k:Int).tmod 10=((k % 10:Nat):Int):=by rw[Int.tmod_eq_emod_of_nonneg (by omega)];rfl
  have hq:(k:Int).tdiv 10=((k / 10:Nat):Int):=by rw[Int.tdiv_eq_ediv_of_nonneg (by omega)];rfl
  refine cJ @eM @hr @hq @hd ?_;refine az.N (k / 10,N6 k++s) ⟨rfl,?_,by dsimp only;omega⟩;rw[hk,Cf hp,anr]
structure SN (d:Dp):Prop where
 g:iq d.g
 gi:fy d.g=true
 a:iq d.a
 ai:fy d.a=true
 v:iq d.v
 vn:d.v≠[]
 vp:rT d.v=((false,d.v,[]),0)
 t:iq d.t
 ti:fy d.t=true\/d.t=[]
 c:iq d.c
 ci:fy d.c=true\/d.c=[]
 x:d.x.length<=10000
def lB:Bs:=[106,97,114]
def wZ (t:Bs):Bs:=if t=[]then lB else t
def dN (d:Dp):Dp:=⟨d.g,d.a,d.v,wZ d.t,d.c,d.s,d.o,d.x⟩
theorem acF {O:VH} {wb tb bb:Nat} {g:Gv} {p:Pm} {tw:Tok} (hw:O.hp wb=some (.cells (s8 tb bb g p tw))) (oJ:wb<O.N) (d:Dp) (w:Bs) (hd:SN d) (sD:w.length<=1000):VF Tryz.prog 169 [.ptr wb 0,.agg (aU d),.str w] O (aE fun m O'=>m= .agg (aU (dN d))/\O.Ge O'):=by
 obtain⟨X_,qG,hda,hai,hdv,hvn,hvp,Nj,QN,hdc,GK,hdx⟩:=hd
 have HD:iq (wZ d.t)/\fy (wZ d.t)=true:=by
  unfold wZ;by_cases e:d.t=[]
  ·rw[if_pos e];exact⟨⟨by show Lib.index lB [36,123]<0;decide,by decide⟩,by decide⟩
  ·rw[if_neg e];exact⟨Nj,QN.resolve_right e⟩
 have htf:wZ d.t=if d.t=[]then[106,97,114]else d.t:=rfl
 unfold dN;generalize wZ d.t=T at*;obtain⟨dg,da,dv,dt,dc,lh,dO,dx⟩:=d;dsimp only at X_ qG hda hai hdv hvn hvp Nj QN hdc GK hdx HD htf ⊢;simp only[aU,aq];have BE:=fun(O':VH) (g':O.Ge O')=>(g'.hp _ oJ).trans hw
 clear hw;have DQ:(dv==[])=false:=by simpa using hvn
 have eP:dv.length<=10000:=ajA hdv.2 (by decide);refine χ 55 [.cell 6 56] Tryz.func169 ?_;refine κ @eM ?_;refine VC.gen ?_;intro O1 e1;obtain⟨aJ,amM,cz,cE⟩:=ib _ _ e1;have cW:O.N+2<=O1.N:=by omega
 clear e1;refine ξ @eM @cz ?_;refine π (U6 (BE _ aJ) dg _ false X_ (.inl qG)) ?_;rintro _ O2' ⟨rfl,hH⟩;have ahd:=hH.at cz;have ahe:=hH.at cE;have ZR:=aJ.trans hH;have hL2:=hH.N;refine ao @eM @ahd ?_;refine VC.gen ?_;intro O2 e2;have aC:O.Ge O2:=by rw[e2];exact ZR.set (by omega) _
 have eA:O2.hp O.N=some (.cells [.str dg,.str da,.str dv,.str dt,.str dc,.v (.int .i64 lh),.v (.int .i64 dO),.sl dx.length (List.flatMap cj dx) .ar]):=by rw[e2];exact τ _ _ _
 have cK:O2.hp (O.N+1)=some (.cells [.str [],.str [],.str [],.str [],.str [],.v (.int .i64 0),.v (.int .i64 0),.sl 0 [] .nil]):=by rw[e2];exact Γ ahe
 have eJ:O.N+2<=O2.N:=by rw[e2];show _<=O2'.N;omega
 clear e2 ahd ahe;refine ξ @eM @eA ?_;refine π (U6 (BE _ aC) da _ false hda (.inl hai)) ?_;rintro _ O3' ⟨rfl,hH⟩;have ahf:=hH.at eA;have U7:=hH.at cK;have hK3:=aC.trans hH;have hL3:=hH.N;refine ao @eM @ahf ?_;refine VC.gen ?_;intro O3 e3;have aG:O.Ge O3:=by rw[e3];exact hK3.set (by omega) _
 have iH:O3.hp O.N=some (.cells [.str dg,.str da,.str dv,.str dt,.str dc,.v (.int .i64 lh),.v (.int .i64 dO),.sl dx.length (List.flatMap cj dx) .ar]):=by rw[e3];exact τ _ _ _
 have cC:O3.hp (O.N+1)=some (.cells [.str [],.str [],.str [],.str [],.str [],.v (.int .i64 0),.v (.int .i64 0),.sl 0 [] .nil]):=by rw[e3];exact Γ U7
 have gE:O.N+2<=O3.N:=by rw[e3];show _<=O3'.N;omega
 clear e3 ahf U7;refine ξ @eM @iH ?_;refine π (Lv (BE _ aG) dv _ hdv) ?_;rintro _ O4' ⟨rfl,hH⟩;have ahg:=hH.at iH;have ahh:=hH.at cC;have hK4:=aG.trans hH;have hL4:=hH.N;refine ao @eM @ahg ?_;refine VC.gen ?_;intro O4 e4;have aY:O.Ge O4:=by rw[e4];exact hK4.set (by omega) _
 have fb:O4.hp O.N=some (.cells [.str dg,.str da,.str dv,.str dt,.str dc,.v (.int .i64 lh),.v (.int .i64 dO),.sl dx.length (List.flatMap cj dx) .ar]):=by rw[e4];exact τ _ _ _
 have di:O4.hp (O.N+1)=some (.cells [.str [],.str [],.str [],.str [],.str [],.v (.int .i64 0),.v (.int .i64 0),.sl 0 [] .nil]):=by rw[e4];exact Γ ahh
 have h_:O.N+2<=O4.N:=by rw[e4];show _<=O4'.N;omega
 clear e4 ahg ahh;refine Ξ [0,2,4,6] (fun _:Unit=>[.ptr wb 0,.str w,.ptr O.N 0,.ptr (O.N+1) 0]) (fun _ O'=>O4.Ge O') ?_ ?_
 ·refine ι (aH @eM @fb @DQ ?_);refine π (PD wb _ dv _ eP hvp) ?_;rintro _ O5 ⟨rfl,bG⟩;refine ab @eM ?_;exact aB.mk () bG
 rintro _ O5 bG;have db:=bG.at fb;have dy:=bG.at di;have ahi:=aY.trans bG;have e_:=bG.N;refine Ξ [0,2,4,6] (fun _:Unit=>[.ptr wb 0,.str w,.ptr O.N 0,.ptr (O.N+1) 0]) (fun _ O'=>O.Ge O'/\O.N+2<=O'.N/\O'.hp O.N=some (.cells [.str dg,.str da,.str dv,.str T,.str dc,.v (.int .i64 lh),.v (.int .i64 dO),.sl dx.length (List.flatMap cj dx) .ar])/\O'.hp (O.N+1)=some (.cells [.str [],.str [],.str [],.str [],.str [],.v (.int .i64 0),.v (.int .i64 0),.sl 0 [] .nil])) ?_ ?_
 ·by_cases e:dt=[]
  ·subst e;rw[if_pos rfl]at htf;subst htf;have he0:(([]:Bs)==[])=true:=rfl;refine ι (aH @eM @db @he0 ?_);exact aB.mk () ⟨ahi.set (by omega) _,by show _<=O5.N;omega,τ _ _ _,Γ dy⟩
  ·rw[if_neg e]at htf;have he0:(dt==[])=false:=by simpa using e
   subst htf;refine ι (aH @eM @db @he0 ?_);exact aB.mk () ⟨ahi,by omega,db,dy⟩
 rintro _ O6 ⟨eZ,nH,mQ,ju⟩;refine ξ @eM @mQ ?_;refine π (U6 (BE _ eZ) T _ false HD.1 (.inl HD.2)) ?_;rintro _ O7' ⟨rfl,hH⟩;have ahj:=hH.at mQ;have ahk:=hH.at ju;have hK7:=eZ.trans hH;have hL7:=hH.N;refine ao @eM @ahj ?_;refine VC.gen ?_;intro O7 e7;have eV:O.Ge O7:=by rw[e7];exact hK7.set (by omega) _
 have uC:O7.hp O.N=some (.cells [.str dg,.str da,.str dv,.str T,.str dc,.v (.int .i64 lh),.v (.int .i64 dO),.sl dx.length (List.flatMap cj dx) .ar]):=by rw[e7];exact τ _ _ _
 have zL:O7.hp (O.N+1)=some (.cells [.str [],.str [],.str [],.str [],.str [],.v (.int .i64 0),.v (.int .i64 0),.sl 0 [] .nil]):=by rw[e7];exact Γ ahk
 have vg:O.N+2<=O7.N:=by rw[e7];show _<=O7'.N;omega
 clear e7 ahj ahk;refine ξ @eM @uC ?_;refine π (U6 (BE _ eV) dc _ true hdc (GK.imp id fun e=>⟨rfl,e⟩)) ?_;rintro _ O8' ⟨rfl,hH⟩;have ahl:=hH.at uC;have ahm:=hH.at zL;have hK8:=eV.trans hH;have hL8:=hH.N;refine ao @eM @ahl ?_;refine VC.gen ?_;intro O8 e8;have gQ:O.Ge O8:=by rw[e8];exact hK8.set (by omega) _
 have GL:O8.hp O.N=some (.cells [.str dg,.str da,.str dv,.str T,.str dc,.v (.int .i64 lh),.v (.int .i64 dO),.sl dx.length (List.flatMap cj dx) .ar]):=by rw[e8];exact τ _ _ _
 have uf:O8.hp (O.N+1)=some (.cells [.str [],.str [],.str [],.str [],.str [],.v (.int .i64 0),.v (.int .i64 0),.sl 0 [] .nil]):=by rw[e8];exact Γ ahm
 have DY:O.N+2<=O8.N:=by rw[e8];show _<=O8'.N;omega
 clear e8 ahl ahm;refine ι (aH @eM @GL @uf ?_);exact gQ.set (by omega) _
set_option linter.defProp false in
def mn:=zW eM<|zW FN<|zW XB<|zW akp<|zW akq<|zW ako<|zW NQ<|zW I6 FK
theorem acG (f:MV) (t:Tok) (O:VH):VF Tryz.prog 204 [.sl 0 [] t,f] O (aE fun m O'=>m=mi (-1)/\O'=O):=by
 refine Θ 19 [.tmp 4] Tryz.func204 ?_;refine ab @mn ?_;refine WC.jh [8] [0,1,7] (fun x:Nat=>[mi 0]) (fun x O'=>O'=O) (fun x=>x) (0) ?_ ?_
 ·rfl
 rintro k O2 eO;rw[eO];refine ab @mn ?_;trivial
theorem YJ (d:Dp) (t:Tok) (O:VH) (hx:d.x.length<=10000):VF Tryz.prog 172 [.agg (aU d),.sl 0 [] t] O (aE fun m O'=>m= .agg (aU d)/\O.Ge O'):=by
 have hk:=fun O'=>Lm d O'
 obtain⟨dg,da,dv,dt,dc,lh,dO,dx⟩:=d;dsimp only at hx;simp only[aU,aq]at hk ⊢;generalize jc ⟨dg,da,dv,dt,dc,lh,dO,dx⟩=K at hk;obtain⟨k1,k2,k3,k4⟩:=K;simp only[gV]at hk;refine χ 49 [.cell 4 56] Tryz.func172 ?_;refine κ @mn ?_;refine VC.gen ?_;intro O1 e1;obtain⟨aJ,cW,cz,cE⟩:=ib _ _ e1;clear e1;refine ξ @mn @cz ?_;refine π (hk _) ?_;rintro _ O2 ⟨rfl,aC⟩;have alc:=aJ.trans aC;have eA:=aC.at cz;have cK:=aC.at cE;have eJ:=aC.N;clear cz cE hk aJ aC;refine ab @mn ?_;refine VC.al ?_;rintro O3 ⟨aG,lS,gE⟩;have ald:=alc.trans aG;have iH:=aG.at eA;have cC:=aG.at cK;clear eA cK;refine κ @mn ?_;refine π (acG _ t _) ?_;rintro _ O4 ⟨rfl,rfl⟩;refine ab @mn ?_;refine ω ?_;refine ν @mn ?_;refine ξ @mn @iH ?_;refine π (ux dx .ar _ (by omega)) ?_;rintro _ O4 ⟨rfl,aY⟩;have fb:=aY.at iH;have di:=aY.at cC;refine ao @mn @fb ?_;refine ο @mn @di ?_;exact((ald.trans aY).set (VI _) _).set (ame _) _
structure SO (O:VH) (gb mb B:Nat) (L:List Dp) (M:fI) (cm:Nat) (tk:Tok):Prop where
 cell:O.hp gb=some (.cells [.sl L.length (L.flatMap aU) tk,.map mb])
 map:O.hp mb=some (.map (cS M) cm)
 ok:nT 4 M
 app:App O B 8 tk
 lt:gb<O.N/\mb<O.N
 ne:gb≠mb
theorem SO.ge {O O':VH} {gb mb B:Nat} {L:List Dp} {M:fI} {cm:Nat} {tk:Tok} (h:SO O gb mb B L M cm tk) (g:O.Ge O'):SO O' gb mb B L M cm tk:=
 ⟨(g.hp _ h.lt.1).trans h.cell,(g.hp _ h.lt.2).trans h.map,h.ok,h.app.ge g,⟨Ml h.lt.1 g.N,Ml h.lt.2 g.N⟩,h.ne⟩
theorem aiW {O:VH} {gb mb B:Nat} {L:List Dp} {M:fI} {cm:Nat} {tk:Tok} (h:SO O gb mb B L M cm tk) (d:Dp) (hd:Dx d) (hL:L.length<=10000) (hB:B<=O.N) (ec:∀p∈M,p.1≠dk (jc d)):
  VF Tryz.prog 170 [.ptr gb 0,.agg (aU d)] O (aE fun _ O'=>(∃tk',SO O' gb mb B (L++[d]) (M++[(dk (jc d),.v (.bool true),cm)]) (cm+1) tk'/\(∀i,Tok.id tk'=some i->O.N<=i))/\O.N<=O'.N/\∀i,i<O.N->i≠gb->i≠mb->Tok.id tk≠some i->O'.hp i=O.hp i):=by
 have D9:=fun O'=>Lm d O'
 have F6:=Ps hd;have hkm:(gV (jc d))=(dk (jc d)).map .str:=rfl;have hud:c8 (aU d)=aU d:=by simpa using lO [d]
 have hla:=xH ec
 have vi:M.any (·.1==dk (jc d))=false:=by
  rw[ank];intro p hp hpe;exact ec p hp (eq_of_beq hpe)
 have hgm:∃es:Dp,es=d:=⟨_,rfl⟩
 generalize hK:jc d=K at*;obtain⟨k1,k2,k3,k4⟩:=K;obtain⟨dg,da,dv,dt,dc,lh,dO,dx⟩:=d;simp only[aU,aq,gV]at D9 hud ⊢;refine χ 29 [] Tryz.func170 ?_;refine κ @mn ?_;refine VC.bx ?_;rintro O1 ⟨aJ,eQ,cW⟩;refine ξ @mn @eQ ?_;refine π (D9 _) ?_;rintro _ O2 ⟨rfl,aC⟩;refine ab @mn ?_;refine VC.al ?_;rintro O3 ⟨aG,lS,gE⟩;have eu:=(aJ.trans aC).trans aG;have ale:=(aC.trans aG).at eQ;have h3:=h.ge eu;have fA:=h3.cell;refine ω ?_;refine WC.bQ (.held []) [(0,.rd),(1,.rd),(2,.rd),(3,.rd),(4,.rd),(5,.rd),(6,.rd)] ?_;refine aH @mn @fA @lS ?_;refine VL.hold (.inr rfl) rfl rfl (fJ.kI oN aa (l:=dk ⟨k1,k2,k3,k4⟩) (te:=⟨_,1,1,[.v (.bool false)]⟩) Tryz.underlying309 T4 rfl rfl h3.map h3.ok rfl rfl F6) (WL.sound aa ?_);rw[hla];refine ab @mn ?_;refine VC.Kk rfl ?_;refine ω ?_;refine WC.bQ (.held [5]) [(0,.rd),(1,.rd),(2,.rd),(3,.rd),(4,.rd),(5,.one)] ?_;refine aH @mn @fA @lS ?_;refine VL.oF rfl rfl (oE.i_ oN (l:=dk ⟨k1,k2,k3,k4⟩) (b:=mb) (ck:=cm) (M:=M) Tryz.underlying309 rfl h3.map h3.ok rfl rfl F6 rfl) (fun brk hb i hi=>?_) (WL.sound aa ?_)
 ·cases hb
  rcases i with _ | _ | _ | _ | _ | _ | i<;>first
   | rfl
   | (exfalso;revert hi;simp)
 have kY:=qB (y:=.v (.bool true)) (ck:=cm) h3.ok (l:=dk ⟨k1,k2,k3,k4⟩) rfl F6;unfold i_ at kY;unfold i_ KI;rw[vi]at kY ⊢;have hgb:=h3.ne;have n8:=h3.lt;refine ab @mn ?_;refine VC.gen ?_;intro O4 e4;have h_:O4.N=O3.N:=by rw[e4];rfl
 have sk:∀i,i≠mb->O4.hp i=O3.hp i:=fun i h1=>by rw[e4,ρ _ _ h1]
 have Ln:O4.hp mb=some (.map (cS (M++[(dk ⟨k1,k2,k3,k4⟩,MV.v (.bool true),cm)])) (cm+1)):=by rw[e4];exact τ _ _ _
 clear e4;have fR:=(sk gb hgb).trans fA;have Bo:=(sk O.N (fun e=>by subst e;have:=h.lt;omega)).trans ale;have mP:App O4 B 8 tk:=h3.app.mv (by omega) fun i hi e=>(sk i (fun e2=>by subst e2;rw[h3.map]at e;cases e)).trans e
 have alf:=aT (tk:=tk) (tk':=.full) (n:=L.length) (k:=1) (cs:=L.flatMap aU) (ds:=[.str dg,.str da,.str dv,.str dt,.str dc,.v (.int .i64 lh),.v (.int .i64 dO),.sl dx.length (dx.flatMap cj) .ar]) FN Ca.1.1 mP (aX gW L) rfl rfl (by decide) (by decide) (by omega) (by simp only[maxLen];omega);have ly:∀i,i<O4.N->O4.hp i≠some .tok->(O4.after tk).hp i=O4.hp i:=fun i h1 h2=>App.off mP h1 h2
 have Lw:=(ly gb (by omega) (by rw[fR];simp)).trans fR;have hmA:=(ly mb (by omega) (by rw[Ln];simp)).trans Ln;refine WC.bQ (.held [10]) [(0,.rd),(1,.rd),(2,.rd),(3,.rd),(4,.rd),(5,.rd),(6,.one),(7,.one),(8,.one),(9,.rd),(10,.one)] ?_;refine aH @mn @fR @Bo ?_;refine VL.app alf ?_;refine ao @mn @Lw ?_;have Lx:=cc.after mP;refine⟨⟨.own O4.N 8,⟨?_,?_,kY,?_,?_,hgb⟩,fun i hi=>by injection hi with hi;have:=eu.N;omega⟩,?_,?_⟩
 ·rw[Mm,anc];exact τ _ _ _
 ·exact(ρ _ _ (Ne.symm hgb)).trans hmA
 ·exact(App.after (by have:=eu.N;omega)).o8 (by rw[Lw];simp)
 ·have:=Lx.N;exact⟨by show _<(O4.after tk).N;omega,by show _<(O4.after tk).N;omega⟩
 ·have:=Lx.N;have:=eu.N;show _<=(O4.after tk).N;omega
 ·intro i h1 h2 h3 h4;have:=eu.N;rw[ρ _ _ h2,Lx.hp i (by omega) h4,sk i h3,eu.hp i h1]
set_option linter.defProp false in
def dU:=zW mn<|zW T3<|zW yI T9
theorem SP {O:VH} {wb tb bb:Nat} {g:Gv} {p:Pm} {tw:Tok} (hw:O.hp wb=some (.cells (s8 tb bb g p tw))) (oJ:wb<O.N) (hp:p.eU=[]):VF Tryz.prog 139 [.ptr wb 0] O (aE fun m O'=>m= .sl 0 [] .nil/\O.Ge O'):=by
 obtain⟨g1,g2,g3⟩:=g;obtain⟨b,⟨pg,pa,pv⟩,pG,pA,pV,pk,P,M,D⟩:=p;dsimp only at hp;subst hp;simp only[s8,bZ,gX,aec,aeb,Mn,ahY]at hw;have k7:Fv (kT [(0,1),(1,1)]) [.sl 0 [] .nil,.v (.map none)] (.map O.N) [] (some (1,1))=some [.sl 0 [] .nil,.map O.N]:=rfl;refine χ 145 [.tmp 2] Tryz.func139 ?_;refine κ @dU ?_;refine ξ @dU @k7 ?_;refine VC.gen ?_;intro O1 e1;obtain⟨aJ,cW,H7,fj⟩:=ib _ _ e1;clear e1;have KE:=(aJ.hp _ oJ).trans hw;refine κ @dU ?_;refine Ξ [3,4] (fun _:Unit=>[.ptr (O.N+1) 0,.sl 0 [] .nil]) (fun _ O'=>O'=O1) ?_ ?_
 ·refine ξ @dU @KE ?_;refine υ ?_;refine Δ [4,23] [0,3,21,22] (fun _:Nat=>[.sl 0 [] .nil,mi 0]) (fun _ O'=>O'=O1) (fun x=>x) (0) ?_ ?_
  ·rfl
  rintro j O3 e3;rw[e3];refine ν @dU ?_;exact aB.mk () rfl
 rintro _ O3 e3;rw[e3];refine Ξ [3] (fun _:Unit=>[.ptr (O.N+1) 0]) (fun _ O'=>O'=O1) ?_ ?_
 ·refine κ @dU ?_;refine υ ?_;refine Δ [84] [3,83] (fun _:Nat=>[mi 0]) (fun _ O'=>O'=O1) (fun x=>x) (0) ?_ ?_
  ·rfl
  rintro j O3 e3;rw[e3];refine ν @dU ?_;exact aB.mk () rfl
 rintro _ O3 e3;rw[e3];refine ο @dU @fj ?_;exact aJ
theorem App.at {O O':VH} {B sz:Nat} {tk:Tok} (h:App O B sz tk) (hn:O.N<=O'.N) (hi:∀i,Tok.id tk=some i->O'.hp i=O.hp i):App O' B sz tk:=by
 cases tk with
 | own t k=>exact⟨h.1,(hi t rfl).trans h.2.1,h.2.2.1,Ml h.2.2.2 hn⟩
 | nil=>trivial
 | full=>trivial
 | ar=>exact h.elim
theorem App.tok {O:VH} {B sz i:Nat} {tk:Tok} (h:App O B sz tk) (e:Tok.id tk=some i):O.hp i=some .tok:=by
 cases tk with
 | own t k=>injection e with e;subst e;exact h.2.1
 | nil=>cases e
 | full=>cases e
 | ar=>cases e
structure pR where
 k:Ky
 v:Bs
 s:Int
 o:Bool
 x:List gx
def ez (n:pR):List MV:=gV n.k++wX (false,n.v,[]) .ar++[mi n.s,mb n.o,.sl n.x.length (n.x.flatMap cj) .ar]
theorem oP (x:pR):(ez x).length=10:=rfl
theorem xV (L:List pR):c8 (L.flatMap ez)=L.flatMap ez:=j9 (fun x=>by simp only[ez,gV,wX,aec,aeb,aq,bu,wu,nW,Mn,ahY]) L
theorem SQ (F:pR):c8 (ez F)=ez F:=by simpa using xV [F]
def fO (d:Dp):pR:=⟨jc (dN d),d.v,max d.s 1,d.o==1,d.x⟩
theorem SN.ok {d:Dp} (h:SN d):Dx (dN d):=by
 have h1:=h.g.2;have h2:=h.a.2;have h3:=h.v.2;have h4:=h.t.2;have h5:=h.c.2;refine⟨?_,?_,?_,?_,?_,h.x⟩<;>(simp only[dN];first | omega | skip)
 unfold wZ;split
 ·decide
 ·omega
set_option maxHeartbeats 1000000 in
theorem acH {O:VH} {wb tb bb:Nat} {g:Gv} {p:Pm} {tw:Tok} (hw:O.hp wb=some (.cells (s8 tb bb g p tw))) (oJ:wb<O.N) (hq:∀d∈p.eK,SN d) (hL:p.eK.length<=900) (hne:p.eK.Pairwise fun x y=>jc (dN x)≠jc (dN y)) (t:Tok):
  VF Tryz.prog 140 [.ptr wb 0,.sl 0 [] t] O (aE fun m O'=>(∃t',m= .sl p.eK.length ((p.eK.map fO).flatMap ez) t')/\O.Ge O'):=by
 have Bk:=fun(O':VH) (g':O.Ge O') (d:Dp) (w:Bs) (hd:SN d) (sD:w.length<=1000)=>acF (O:=O') (wb:=wb) (tb:=tb) (bb:=bb) (g:=g) (p:=p) (tw:=tw) ((g'.hp _ oJ).trans hw) (Ml oJ g'.N) d w hd sD
 obtain⟨g1,g2,g3⟩:=g;obtain⟨b,⟨pg,pa,pv⟩,pG,pA,pV,pk,P,M,L⟩:=p;dsimp only at hq hL hne ⊢;simp only[s8,bZ,gX,aec,aeb]at hw;have dI:=aX gW L;have k7:Fv (kT [(0,1),(1,1)]) [.sl 0 [] .nil,.v (.map none)] (.map O.N) [] (some (1,1))=some [.sl 0 [] .nil,.map O.N]:=rfl;refine χ 76 [.tmp 4] Tryz.func140 ?_;refine κ @dU ?_;refine ξ @dU @k7 ?_;refine VC.gen ?_;intro O1 e1;obtain⟨aJ,cW,H7,fj⟩:=ib _ _ e1;clear e1;have KE:=(aJ.hp _ oJ).trans hw;refine κ @dU ?_;refine Ξ [6] (fun x:List pR×Tok=>[.sl x.1.length (x.1.flatMap ez) x.2]) (fun x O'=>O.Ge O'/\x.1=L.map fO) ?_ ?_;rotate_left
 ·rintro⟨R,t'⟩ O9 ⟨bh,rfl⟩;dsimp only;refine ν @dU ?_;rw[ah0];exact⟨⟨t',rfl⟩,bh⟩
 refine ξ @dU @KE ?_;refine υ ?_;refine Δ [6,20] [0,1,5,18,19] (fun x:Nat×List pR×Tok=>[.sl x.2.1.length (x.2.1.flatMap ez) x.2.2,mi x.1]) (fun x O'=>x.1<=L.length/\x.2.1=(L.take x.1).map fO/\O.Ge O'/\O.N+2<=O'.N/\App O' O.N 10 x.2.2/\∃Mj cm tk,SO O' (O.N+1) O.N O.N ((L.take x.1).map dN) Mj cm tk/\(∀q∈Mj,∃d∈L.take x.1,q.1=dk (jc (dN d)))/\∀i,Tok.id tk=some i->Tok.id x.2.2≠some i) (fun x=>L.length - x.1) ((0,[],.nil)) ?_ ?_
 ·exact⟨ahZ _,rfl,aJ,by omega,trivial,[],0,.nil,⟨fj,H7,⟨by simp,by simp⟩,trivial,⟨by omega,by omega⟩,by omega⟩,by simp,fun i h=>by cases h⟩
 rintro⟨j,R,tl⟩ O2 ⟨hj,hR,aC,eJ,U8,Mj,cm,tk,hG2,hMj,HD⟩;dsimp only at hj hR U8 HD ⊢;by_cases aM:j<L.length;rotate_left
 ·obtain rfl:j=L.length:=by omega
  rw[ajv]at hR;refine ν @dU ?_;exact aB.mk (R,tl) ⟨aC,hR⟩
 have Yt:R.length=j:=by rw[hR,ah0,ahX];omega
 have bE:=cP gW L j aM;have cT:=dB L j aM;have PF:=hq L[j] (anb aM)
 have ec:∀q∈Mj,q.1≠dk (jc (dN L[j])):=fun q SR=>by
  obtain⟨x,hx,e⟩:=hMj q SR;obtain⟨i,hi,e2⟩:=ahW.1 hx;rw[ahX]at hi;rw[anl]at e2;have:=(am_.1 hne) i j (by omega) aM (by omega);rw[e2]at this;intro e3;rw[e]at e3;apply this;revert e3;generalize jc (dN x)=K1;generalize jc (dN L[j])=K2;obtain⟨a1,a2,a3,a4⟩:=K1;obtain⟨b1,b2,b3,b4⟩:=K2;simp[dk]
 have hRn:(L.take (j+1)).map fO=(L.take j).map fO++[fO L[j]]:=by rw[cT,anh];rfl
 have np:∃x∈L.take (j+1),dk (jc (dN L[j]))=dk (jc (dN x)):=⟨L[j],by rw[cT];exact anm _ (ZA.2 rfl),rfl⟩
 have hold:∀q∈Mj,∃x∈L.take (j+1),q.1=dk (jc (dN x)):=fun q h=>by
  obtain⟨x,hx,e⟩:=hMj q h;exact⟨x,by rw[cT];exact List.mem_append_left _ hx,e⟩
 generalize L[j]=d at*;have alg:=PF.ok;have D9:=fun O'=>Lm (dN d) O'
 have Ec:=fun(O':VH) (tx:Tok)=>YJ (dN d) tx O' PF.x
 have D_:=fun(O':VH) (w:Bs)=>PD wb O' d.v w (ajA PF.v.2 (by decide)) PF.vp
 have DQ:(d.v==[])=false:=by simpa using PF.vn
 have alh:=fun O'=>SM (j+1) O' (by omega)
 have yi:=sO (j+1);have cB:((j:Int)+1)=((j+1:Nat):Int):=by omega
 have hud:c8 (aU d)=aU d:=by simpa using lO [d]
 have ahn:=fun(O':VH) (g':O.Ge O') (w:Bs) (sD:w.length<=1000)=>Bk O' g' d w PF sD
 clear Bk;have ali:=PF.x;clear PF hq;have SK:fO d=⟨jc (dN d),d.v,max d.s 1,d.o==1,d.x⟩:=rfl;generalize fO d=F at SK hRn;have hrF:dN d=⟨d.g,d.a,d.v,wZ d.t,d.c,d.s,d.o,d.x⟩:=rfl;have amN:c8 (aU (dN d))=aU (dN d):=by simpa using lO [dN d]
 have Lu:(L.take (j+1)).map dN=(L.take j).map dN++[dN d]:=by rw[cT,anh];rfl
 have Yc:=fun(O':VH) (hG:SO O' (O.N+1) O.N O.N ((L.take j).map dN) Mj cm tk) (h2:O.N<=O'.N)=>aiW hG (dN d) alg (by rw[ah0,ahX];omega) h2 ec
 generalize dN d=D at*;obtain⟨dg,da,dv,dt,dc,lh,dO,dx⟩:=d;dsimp only at hrF SK D_ DQ ali;generalize wZ dt=T at hrF;subst hrF;generalize jc ⟨dg,da,dv,T,dc,lh,dO,dx⟩=K at*;obtain⟨k1,k2,k3,k4⟩:=K;simp only[aU,aq,gV,wX,bu,Mn,ahY]at bE D9 Ec ahn D_ Yc;refine κ @dU ?_;refine κ @dU ?_;refine ω (υ ?_);refine ξ @dU @bE ?_;refine VC.al ?_;rintro O3 ⟨aG,lS,gE⟩;refine ξ @dU @cB ?_;refine π (alh _) ?_;rintro _ O4 ⟨rfl,e4⟩;rw[e4];clear e4 O4;refine ab @dU ?_
 have hWl:(100::101::112::101::110::100::101::110::99::121::91::(mh (j+1)++[93])).length<=1000:=by
  simp only[aee,Mm,Mn];omega
 generalize (100::101::112::101::110::100::101::110::99::121::91::(mh (j+1)++[93]))=W at*;refine ξ @dU @lS ?_;refine π (ahn O3 (aC.trans aG) W hWl) ?_;rintro _ O4 ⟨rfl,aY⟩;refine ab @dU ?_;refine π (Ec _ _) ?_;rintro _ O5 ⟨rfl,bG⟩;have mI:=(aY.trans bG).at lS;have e_:=(aY.trans bG).N;refine ao @dU @mI ?_;refine VC.gen ?_;intro O6 e6;have alj:O2.Ge O6:=by rw[e6];exact((aG.trans aY).trans bG).set (Nat.le_refl _) _
 have oO:O6.hp O2.N=some (.cells [.str dg,.str da,.str dv,.str T,.str dc,.v (.int .i64 lh),.v (.int .i64 dO),.sl dx.length (dx.flatMap cj) .ar]):=by rw[e6];exact τ _ _ _
 have nH:O2.N+1<=O6.N:=by rw[e6];show _<=O5.N;omega
 clear e6 mI;refine θ (aH @dU @oO @DQ ?_);refine Ξ [0,1,5,6,8,10,18,19,20] (fun nb:Nat=>[.ptr wb 0,.sl 0 [] t,.ptr (O.N+1) 0,.sl R.length (R.flatMap ez) tl,.ptr O2.N 0,.ptr nb 0,.sl L.length (L.flatMap aU) .ar,.v (.int .i64 L.length),.v (.int .i64 j)]) (fun nb O'=>O6.Ge O'/\O6.N<=nb/\nb<O'.N/\O'.hp nb=some (.cells (ez F))) ?_ ?_
 ·subst SK;refine VC.Bf [17] (O2.N) (fun O'=>O6.N<=O'.N/\∀i,i<O6.N->i≠O2.N->O'.hp i=O6.hp i) (oO) (fun X=>⟨VI _,fun i _ h=>ρ _ _ h⟩) ?_;intro X;refine ε (m:=.agg [.str dg,.str da,.str dv,.str T,.str dc,.v (.int .i64 lh),.v (.int .i64 dO),.sl dx.length (dx.flatMap cj) .ar]) 0 (fun _ h=>h.1) (fun _ h=>h) ?_ ?_
  ·exact fU @dU
  simp only[ak];refine ae.au 2 ?_;refine ab @dU ?_;refine ae.au 3 ?_;refine ab @dU ?_;refine ε (m:=.str dv) 4 (fun _ h=>h.1) (fun _ h=>h) ?_ ?_
  ·exact fU @dU
  simp only[ak];refine ae.au 5 ?_;refine ab @dU ?_;refine ae.au 7 ?_;refine ab @dU ?_;refine ε (m:=.v (.int .i64 lh)) 8 (fun _ h=>h.1) (fun _ h=>h) ?_ ?_
  ·exact fU @dU
  simp only[ak];refine ae.au 9 ?_;refine ab @dU ?_;refine ae.au 10 ?_;refine ab @dU ?_;refine ε (m:=.v (.int .i64 dO)) 11 (fun _ h=>h.1) (fun _ h=>h) ?_ ?_
  ·exact fU @dU
  simp only[ak];refine ae.au 12 ?_;refine ab @dU ?_;refine ae.au 13 ?_;refine ab @dU ?_;refine ε (m:=.sl dx.length (dx.flatMap cj) .ar) 14 (fun _ h=>h.1) (fun _ h=>h) ?_ ?_
  ·exact fU @dU
  simp only[ak];have lC:∀A B:VH,A.Ge B->(A.hp O2.N=some (.obj X)/\O6.N<=A.N/\∀i,i<O6.N->i≠O2.N->A.hp i=O6.hp i)->(B.hp O2.N=some (.obj X)/\O6.N<=B.N/\∀i,i<O6.N->i≠O2.N->B.hp i=O6.hp i):=fun A B g h=>⟨g.at h.1,ajA h.2.1 g.N,fun i h1 h2=>(g.hp i (by omega)).trans (h.2.2 i h1 h2)⟩
  have hJ8:(O6.set O2.N (.obj X)).hp O2.N=some (.obj X)/\O6.N<=(O6.set O2.N (.obj X)).N/\∀i,i<O6.N->i≠O2.N->(O6.set O2.N (.obj X)).hp i=O6.hp i:=⟨τ _ _ _,VI _,fun i _ h=>ρ _ _ h⟩
  generalize O6.set O2.N (.obj X)=O8 at*;have vf:∀A:VH,A.Ge (A.push (.cells [.str [],.str [],.str [],.str [],.v (.bool false),.str [],.sl 0 [] .nil,.v (.int .i64 0),.v (.bool false),.sl 0 [] .nil])):=fun A=>(VH.Ge.refl A).push _
  have hpn:∀A:VH,(A.push (.cells [.str [],.str [],.str [],.str [],.v (.bool false),.str [],.sl 0 [] .nil,.v (.int .i64 0),.v (.bool false),.sl 0 [] .nil])).hp A.N=some (.cells [.str [],.str [],.str [],.str [],.v (.bool false),.str [],.sl 0 [] .nil,.v (.int .i64 0),.v (.bool false),.sl 0 [] .nil]):=fun A=>Υ _ _
  refine η (i:=1) (j:=16) ?_ ?_
  ·refine aN.j8 (D9 O8) ?_;rintro _ O9 ⟨rfl,bh⟩;simp only[ak];have PG:=lC _ _ bh hJ8;refine⟨PG,?_⟩;refine η (i:=6) (j:=16) ?_ ?_
   ·refine aN.j8 (D_ O9 W) ?_;rintro _ gy ⟨rfl,PH⟩;simp only[ak];have yQ:=lC _ _ PH PG;refine⟨yQ,?_⟩;refine ae.au 15 ?_;refine ab @dU ?_;refine ae.op (i:=16) ?_;refine ab @dU ?_;have Dy:=lC _ _ (vf gy) yQ;refine⟨⟨yQ.1,Dy.2⟩,?_⟩;have hz:=hpn gy;have hl:=ana gy.N;have h6:=yQ.2.1;have my:=Dy;refine ae.kf [(17,.one)] ?_;have tO:=(ρ (k:=O2.N) _ (.cells [.str dg,.str da,.str dv,.str T,.str dc,.v (.int .i64 lh),.v (.int .i64 dO),.sl dx.length (dx.flatMap cj) .ar]) (show gy.N≠O2.N by omega)).trans hz;refine aH @dU @hz @tO ?_;refine aB.mk gy.N ⟨⟨my.2.1,fun i h1=>?_⟩,h6,hl,τ _ _ _⟩;rw[ρ _ _ (by omega)];by_cases e:i=O2.N
    ·subst e;rw[τ];exact oO.symm
    ·rw[ρ _ _ e];exact my.2.2 i h1 e
   ·refine aN.o1 ?_;refine ab @dU ?_;have yQ:=lC _ _ (vf O9) PG;refine⟨⟨PG.1,yQ.2⟩,?_⟩;refine ae.call (i:=6) (D_ _ W) ?_;rintro _ vu ⟨rfl,p5⟩;simp only[ak];have Dy:=lC _ _ p5 yQ;refine⟨Dy,?_⟩;refine ae.au 15 ?_;refine ab @dU ?_;have hz:=(p5.hp _ (ana _)).trans (hpn O9);have hl:=Ml (ana O9.N) p5.N;have h6:=PG.2.1;have my:=Dy;refine ae.kf [(17,.one)] ?_;have tO:=(ρ (k:=O2.N) _ (.cells [.str dg,.str da,.str dv,.str T,.str dc,.v (.int .i64 lh),.v (.int .i64 dO),.sl dx.length (dx.flatMap cj) .ar]) (show O9.N≠O2.N by omega)).trans hz;refine aH @dU @hz @tO ?_;refine aB.mk O9.N ⟨⟨my.2.1,fun i h1=>?_⟩,h6,hl,τ _ _ _⟩;rw[ρ _ _ (by omega)];by_cases e:i=O2.N
    ·subst e;rw[τ];exact oO.symm
    ·rw[ρ _ _ e];exact my.2.2 i h1 e
  ·refine aN.o1 ?_;refine ab @dU ?_;have PG:=lC _ _ (vf O8) hJ8;refine⟨⟨hJ8.1,PG.2⟩,?_⟩;refine ae.call (i:=1) (D9 _) ?_;rintro _ gy ⟨rfl,PH⟩;simp only[ak];have yQ:=lC _ _ PH PG;refine⟨yQ,?_⟩;refine ae.call (i:=6) (D_ _ W) ?_;rintro _ vu ⟨rfl,p5⟩;simp only[ak];have Dy:=lC _ _ p5 yQ;refine⟨Dy,?_⟩;refine ae.au 15 ?_;refine ab @dU ?_;have hz:=((PH.trans p5).hp _ (ana _)).trans (hpn O8);have hl:=Ml (ana O8.N) (PH.trans p5).N;have h6:=hJ8.2.1;have my:=Dy;refine ae.kf [(17,.one)] ?_;have tO:=(ρ (k:=O2.N) _ (.cells [.str dg,.str da,.str dv,.str T,.str dc,.v (.int .i64 lh),.v (.int .i64 dO),.sl dx.length (dx.flatMap cj) .ar]) (show O8.N≠O2.N by omega)).trans hz;refine aH @dU @hz @tO ?_;refine aB.mk O8.N ⟨⟨my.2.1,fun i h1=>?_⟩,h6,hl,τ _ _ _⟩;rw[ρ _ _ (by omega)];by_cases e:i=O2.N
   ·subst e;rw[τ];exact oO.symm
   ·rw[ρ _ _ e];exact my.2.2 i h1 e
 rintro nb O7 ⟨eV,amO,hnb,hx7⟩;have alk:=eV.at oO;have U9:=alj.trans eV;have alm:=aC.trans U9;have vg:=eV.N;simp only[ez,gV,wX,bu,aq,Mn,ahY,aec,aeb]at hx7;refine ξ @dU @alk ?_;refine π (Yc O7 (hG2.ge U9) (by omega)) ?_;rintro _ O8 ⟨⟨tk8,Ed,aln⟩,DY,wV⟩;have hc8:=Ed.cell;have aiX:((L.take j).map dN++[({g:=dg,a:=da,v:=dv,t:=T,c:=dc,s:=lh,o:=dO,x:=dx}:Dp)]).length=j+1:=by rw[Mm,ah0,ahX];simp;omega
 rw[aiX,Yt.symm]at hc8;have YA:=(wV nb hnb (by omega) (by omega) (fun e=>by have:=(App.nE hG2.app e).2;omega)).trans hx7;refine ab @dU ?_;have ei:decide ((R.length:Int)<((R.length+1:Nat):Int))=true:=by rw[decide_eq_true_iff];omega
 have kC:=U8.ge U9;have hG7:=hG2.ge U9;have Dq:App O8 O.N 10 tl:=kC.at DY fun i e=>wV i (kC.nE e).2 (fun e2=>by have:=kC.tok e;rw[e2,hG7.cell]at this;cases this) (fun e2=>by have:=kC.tok e;rw[e2,hG7.map]at this;cases this) (fun e2=>HD i e2 e)
 obtain⟨mE,gY,lQ⟩:=gG (n:=R.length) (cs:=R.flatMap ez) (ds:=[.str k1,.str k2,.str k3,.str k4,.v (.bool false),.str F.v,.sl 0 [] .ar,.v (.int .i64 F.s),.v (.bool F.o),.sl F.x.length (F.x.flatMap cj) .ar]) (es:=ez F) I6 NQ.1.1 Dq (aX oP R) rfl rfl (by decide) (by omega) (by simp only[maxLen];omega) (xV R) (by subst SK;exact SQ ⟨⟨k1,k2,k3,k4⟩,dv,max lh 1,dO==1,dx⟩);subst SK;refine ι (cJ @dU @hc8 @YA @ei ?_);refine δ gY lQ ?_;refine ab @dU ?_;refine ο @dU @cB ?_;have PI:=cc.after Dq
 have o7:O.Ge O8:=⟨by omega,fun i h1=>by
  rw[wV i (by omega) (by omega) (by omega) (fun e=>by have:=(App.nE hG7.app e).1;omega)];exact alm.hp i h1⟩
 have hfm:(R++[(⟨⟨k1,k2,k3,k4⟩,dv,max lh 1,dO==1,dx⟩:pR)]).flatMap ez=R.flatMap ez++ez ⟨⟨k1,k2,k3,k4⟩,dv,max lh 1,dO==1,dx⟩:=by simp only[anc,anq,ahY,List.append_nil]
 have J6:(R++[(⟨⟨k1,k2,k3,k4⟩,dv,max lh 1,dO==1,dx⟩:pR)]).length=R.length+1:=Mm;refine az.N (j+1,R++[⟨⟨k1,k2,k3,k4⟩,dv,max lh 1,dO==1,dx⟩],.own O8.N 10) ⟨aM,?_,cc.ee o7 Dq PI,by have:=PI.N;omega,App.after (by omega),Mj++[(dk ⟨k1,k2,k3,k4⟩,.v (.bool true),cm)],cm+1,tk8,?_,?_,?_⟩ (hl:=(by dsimp only;rw[hfm,J6];rfl))
 ·rw[hRn,hR]
 ·dsimp only;rw[Lu];have aho:∀i,Tok.id tl=some i->O8.hp i=some .tok:=fun i e=>Dq.tok e
  refine⟨(PI.hp _ (by omega) (fun e=>by have:=aho _ e;rw[Ed.cell]at this;cases this)).trans Ed.cell,(PI.hp _ (by omega) (fun e=>by have:=aho _ e;rw[Ed.map]at this;cases this)).trans Ed.map,Ed.ok,Ed.app.at PI.N fun i e=>PI.hp i (Ed.app.nE e).2 (fun e2=>by have h1:=aln i e;have h2:=(kC.nE e2).2;omega),⟨by have:=PI.N;have:=Ed.lt;omega,by have:=PI.N;have:=Ed.lt;omega⟩,Ed.ne⟩
 ·intro q SR;rcases ajw.1 SR with h | h
  ·exact hold q h
  ·rw[ZA]at h;subst h;exact np
 ·intro i e e2;injection e2 with e2;have:=(Ed.app.nE e).2;omega
set_option linter.defProp false in
def c6:=zW dU<|zW iu<|zW FP<|zW I6<|zW NQ<|zW T44 agI
theorem SU (L:List pR) (tk:Tok) (O:VH) (hn:L.length<=100000):VF Tryz.prog 129 [.sl L.length (L.flatMap ez) tk] O (aE fun m O'=>O.Ge O'/\GR O' 221 10 O.N m L.length (L.flatMap ez)):=by
 have dI:=aX oP L
 have iB:(L.flatMap ez).all eb=true:=by
  rw[List.all_flatMap,List.all_eq_true];intro p _;rfl
 refine Θ 8 [.tmp 2] Tryz.func129 ?_;refine ao @c6 @nA ?_;refine VL.pD (pc Tryz.underlying213 rfl) ?_;rintro _ O1 ⟨eO,b,rfl,hb⟩;rw[eO];clear eO O1
 refine WL.sound aa ?_;cases b
 ·refine ab @c6 ?_;refine VL.grow aa (.inl rfl) (te:=⟨_,10,_,_⟩) (B:=O.N) (n':=0) (L:=[]) (dx:=.slice 221) (p:=.sl 0 [] .full) (q:=.sl L.length (L.flatMap ez) tk) (j:=L.length) (ds:=L.flatMap ez) (.inl ⟨rfl,rfl,.inr rfl⟩) (by simp[AD,dI]) iB (by rw[I6];rfl) NQ.1.1 (by rw[I6];rfl) trivial (by dsimp only;omega) (by simp only[maxLen];omega) (VI _) rfl rfl rfl rfl ?_;intro m O' h1 h2 h3 h4;rw[ajz,aeb]at h1;refine ab @c6 ?_;exact⟨h3 rfl,h1⟩
 ·obtain⟨h0,h1⟩:=hb rfl;rw[h0,h1];refine ab @c6 ?_;exact⟨VH.Ge.refl _,.inl ⟨rfl,rfl,.inl rfl⟩⟩
theorem GM (tk:Tok) (O:VH):VF Tryz.prog 81 [.sl 0 [] tk] O (aE fun m O'=>m= .sl 0 [] .ar/\O'=O):=by
 refine VF.Ym (Φ :=fun m O'=>(m= .sl 0 [] .full\/m= .sl 0 [] .nil)/\O'=O) ?_ fun m O' h=>⟨_,(by rcases h.1 with e | e<;>rw[e]<;>exact Wk.tok),rfl,h.2⟩
 refine Θ 8 [.tmp 2] Tryz.func81 ?_;refine ao @c6 @nA ?_;refine VL.pD (pc Tryz.underlying44 rfl) ?_;rintro _ O1 ⟨eO,b,rfl,hb⟩;rw[eO];clear eO O1
 refine WL.sound aa ?_;cases b
 ·refine ab @c6 ?_;refine VL.app (m:=.sl 0 [] .full) (O':=O) (by simp[iA,T44,agI.1.1]) ?_ (ht:=aa) (hx:=rfl) (hy:=rfl);refine ab @c6 ?_;exact .inl trivial
 ·refine ab @c6 ?_;exact .inr trivial
structure Mdl where
 g:Gv
 pk:Bs
 props:List (Bs×Bs)
 Ly:List pR
def mr (m:Mdl):List MV:=bZ m.g++[.str m.pk,.sl m.props.length (m.props.flatMap bm) .ar,.sl 0 [] .ar,.sl m.Ly.length (m.Ly.flatMap ez) .ar]
theorem afQ (m:Mdl) (O:VH) (hp:m.props.length<=10000) (hn:m.Ly.length<=10000) (hx:∀n∈m.Ly,n.x.length<=10000):VF Tryz.prog 104 [.agg (mr m)] O (aE fun r O'=>r= .agg (mr m)/\O.Ge O'):=by
 refine VF.fg ?_;obtain⟨⟨g1,g2,g3⟩,pk,P,L⟩:=m;dsimp only at hp hn hx;simp only[mr,bZ,aec,aeb];have dI:=aX oP L;refine χ 70 [.cell 2 215] Tryz.func104 ?_;refine κ @c6 ?_;refine VC.gen ?_;intro O1 e1;obtain⟨aJ,cW,cz,cE⟩:=ib _ _ e1;clear e1;refine ω ?_;refine VC.qy [10,11,12,13,14] (O.N) (cz) ?_;intro X;refine ae.au 0 ?_;refine ab @c6 ?_;refine anM (m:=.sl P.length (P.flatMap bm) .ar) 1 ?_ ?_
 ·exact fU @c6
 simp only[ak];refine ae.au 3 ?_;refine ab @c6 ?_;refine anM (m:=.sl 0 [] .ar) 4 ?_ ?_
 ·exact fU @c6
 simp only[ak];refine ae.au 6 ?_;refine ab @c6 ?_;refine anM (m:=.sl L.length (L.flatMap ez) .ar) 7 ?_ ?_
 ·exact fU @c6
 simp only[ak];have Lp:(O1.set O.N (.obj X)).hp O.N=some (.obj X):=τ _ _ _;have dA:∀i,i≠O.N->(O1.set O.N (.obj X)).hp i=O1.hp i:=fun i h=>ρ _ _ h
 have eJ:(O1.set O.N (.obj X)).N=O1.N:=rfl;generalize O1.set O.N (.obj X)=O2 at*;refine ae.call (i:=2) (Gq P .ar O2 (by omega)) ?_;rintro _ O3 ⟨rfl,aG⟩;simp only[ak];refine⟨aG.at Lp,?_⟩;refine ae.au 9 ?_;refine ab @c6 ?_;refine ae.call (i:=5) (So [] .ar O3 (by decide)) ?_;rintro _ O4 ⟨rfl,aY⟩;simp only[ak];refine⟨(aG.trans aY).at Lp,?_⟩;refine ae.call (i:=8) (SU L .ar O4 (by omega)) ?_;rintro mN O5 ⟨bG,ym⟩;simp only[ak];have Dz:=(aG.trans aY).trans bG;refine⟨Dz.at Lp,?_⟩;refine ae.nR [(10,.one),(11,.au),(12,.one),(13,.au),(14,.one)] ?_;simp only[Mn,ahY];have db:=Dz.at Lp;have dy:=Dz.at ((dA _ (by omega)).trans cE);have e_:=Dz.N;have gM:∀i,i<O.N->O5.hp i=O.hp i:=fun i h=>(Dz.hp i (by omega)).trans ((dA i (by omega)).trans (aJ.hp i h))
 rcases ym with⟨h0,_,hp⟩ | ⟨k,c,rfl,AI,_,c7⟩
 ·obtain rfl:L=[]:=ane h0;rcases hp with rfl | rfl
  ·refine ab @c6 ?_;refine VC.gen ?_;intro O6 e6;have oO:O6.hp O.N=some (.cells [.str g1,.str g2,.str g3,.str pk,.sl P.length (P.flatMap bm) .ar,.sl 0 [] .ar,.sl 0 [] .nil]):=by rw[e6];exact τ _ _ _
   have ot:∀i,i<O5.N->i≠O.N->O6.hp i=O5.hp i:=fun i h1 h2=>by rw[e6,ρ _ _ h2,ρ _ _ h2,ρ _ _ h2,ρ _ _ h2]
   have nH:O6.N=O5.N:=by rw[e6];rfl
   clear e6;have ju:=(ot (O.N+1) (by omega) (by omega)).trans dy;refine Ξ [1,2] (fun _:Unit=>[.ptr O.N 0,.ptr (O.N+1) 0]) (fun _ O'=>O'=O6) ?_ ?_
   ·refine ξ @c6 @oO ?_;refine υ ?_;refine Δ [20] [1,2,19] (fun _:Nat=>[mi 0]) (fun _ O'=>O'=O6) (fun x=>x) (0) ?_ ?_
    ·rfl
    rintro _ O7 e7;rw[e7];refine ν @c6 ?_;exact aB.mk () rfl
   rintro _ O7 e7;rw[e7];clear e7 O7;refine Ξ [1,2] (fun _:Unit=>[.ptr O.N 0,.ptr (O.N+1) 0]) (fun _ O'=>O'=O6) ?_ ?_
   ·refine ξ @c6 @oO ?_;refine υ ?_;refine Δ [39] [1,2,38] (fun _:Nat=>[mi 0]) (fun _ O'=>O'=O6) (fun x=>x) (0) ?_ ?_
    ·rfl
    rintro _ O7 e7;rw[e7];refine ν @c6 ?_;exact aB.mk () rfl
   rintro _ O7 e7;rw[e7];clear e7 O7;refine ι (aH @c6 @oO @ju ?_);rw[gH];exact⟨rfl,by show _<=O6.N;omega,fun i h=>Γ ((ot i (by omega) (by omega)).trans (gM i h))⟩
  ·refine ab @c6 ?_;refine VC.gen ?_;intro O6 e6;have oO:O6.hp O.N=some (.cells [.str g1,.str g2,.str g3,.str pk,.sl P.length (P.flatMap bm) .ar,.sl 0 [] .ar,.sl 0 [] .full]):=by rw[e6];exact τ _ _ _
   have ot:∀i,i<O5.N->i≠O.N->O6.hp i=O5.hp i:=fun i h1 h2=>by rw[e6,ρ _ _ h2,ρ _ _ h2,ρ _ _ h2,ρ _ _ h2]
   have nH:O6.N=O5.N:=by rw[e6];rfl
   clear e6;have ju:=(ot (O.N+1) (by omega) (by omega)).trans dy;refine Ξ [1,2] (fun _:Unit=>[.ptr O.N 0,.ptr (O.N+1) 0]) (fun _ O'=>O'=O6) ?_ ?_
   ·refine ξ @c6 @oO ?_;refine υ ?_;refine Δ [20] [1,2,19] (fun _:Nat=>[mi 0]) (fun _ O'=>O'=O6) (fun x=>x) (0) ?_ ?_
    ·rfl
    rintro _ O7 e7;rw[e7];refine ν @c6 ?_;exact aB.mk () rfl
   rintro _ O7 e7;rw[e7];clear e7 O7;refine Ξ [1,2] (fun _:Unit=>[.ptr O.N 0,.ptr (O.N+1) 0]) (fun _ O'=>O'=O6) ?_ ?_
   ·refine ξ @c6 @oO ?_;refine υ ?_;refine Δ [39] [1,2,38] (fun _:Nat=>[mi 0]) (fun _ O'=>O'=O6) (fun x=>x) (0) ?_ ?_
    ·rfl
    rintro _ O7 e7;rw[e7];refine ν @c6 ?_;exact aB.mk () rfl
   rintro _ O7 e7;rw[e7];clear e7 O7;refine ι (aH @c6 @oO @ju ?_);rw[gH];exact⟨rfl,by show _<=O6.N;omega,fun i h=>Γ ((ot i (by omega) (by omega)).trans (gM i h))⟩
 obtain⟨sp,hc,fY⟩:=c7.cells;have fF:=c7.lo;have Sm:=c7.hi;have h_:=(aG.trans aY).N;refine ab @c6 ?_;refine VC.gen ?_;intro O6 e6;have oO:O6.hp O.N=some (.cells [.str g1,.str g2,.str g3,.str pk,.sl P.length (P.flatMap bm) .ar,.sl 0 [] .ar,.bz k 0 L.length c]):=by rw[e6];exact τ _ _ _
 have ot:∀i,i<O5.N->i≠O.N->O6.hp i=O5.hp i:=fun i h1 h2=>by rw[e6,ρ _ _ h2,ρ _ _ h2,ρ _ _ h2,ρ _ _ h2]
 have nH:O6.N=O5.N:=by rw[e6];rfl
 clear e6;have ju:=(ot (O.N+1) (by omega) (by omega)).trans dy;refine Ξ [1,2] (fun _:Unit=>[.ptr O.N 0,.ptr (O.N+1) 0]) (fun _ O'=>O'=O6) ?_ ?_
 ·refine ξ @c6 @oO ?_;refine υ ?_;refine Δ [20] [1,2,19] (fun _:Nat=>[mi 0]) (fun _ O'=>O'=O6) (fun x=>x) (0) ?_ ?_
  ·rfl
  rintro _ O7 e7;rw[e7];refine ν @c6 ?_;exact aB.mk () rfl
 rintro _ O7 e7;rw[e7];clear e7 O7;have CD:=(ot k (by omega) (by omega)).trans hc;refine Ξ [1,2] (fun _:Unit=>[.ptr O.N 0,.ptr (O.N+1) 0]) (fun _ O'=>O6.Ge O') ?_ ?_
 ·refine ξ @c6 @oO ?_;refine υ ?_;refine Δ [39] [1,2,38] (fun j:Nat=>[mi j]) (fun j O'=>O6.Ge O'/\j<=L.length) (fun j=>L.length - j) (0) ?_ ?_
  ·exact⟨VH.Ge.refl _,ahZ _⟩
  rintro j O7 ⟨eV,hj⟩;by_cases aM:j<L.length;rotate_left
  ·obtain rfl:j=L.length:=by omega
   refine ν @c6 ?_;exact aB.mk () eV
  have U_:=eV.at oO;have Va:=(eV.hp k (by omega)).trans CD;have bE:(L.flatMap ez++sp)[j*10+9]?=some (.sl L[j].x.length (L[j].x.flatMap cj) .ar):=kh oP (List.getElem?_eq_getElem aM) rfl;have acI:(L.flatMap ez++sp)[j*10+6]?=some (.sl 0 [] .ar):=kh oP (List.getElem?_eq_getElem aM) rfl;have hxj:=hx L[j] (List.getElem_mem aM);generalize L[j].x=X at*;generalize L.flatMap ez++sp=C at*;have gL:=xU bE;have mG:=xU acI;have KV:=(List.getElem?_eq_some_iff.1 bE).1;have cB:((j:Int)+1)=((j+1:Nat):Int):=by omega
  have vg:=eV.N;refine κ @c6 ?_;refine κ @c6 ?_;refine ω (υ ?_);refine κ @c6 ?_;refine ω ?_;refine VC.Ep [10,11,12] (O.N) (k) (U_) (Va) ?_ (hne:=(by omega));intro X1 X2;refine ae.au 0 ?_;refine ab @c6 ?_;refine ε (m:=.bz k 0 L.length c) 1 (fun _ h=>h.1) (fun _ h=>h.1) ?_ ?_
  ·exact fU @c6
  simp only[ak];refine ae.au 2 ?_;refine ab @c6 ?_;refine ae.au 3 ?_;refine ab @c6 ?_;refine ε (m:=.bz k 0 L.length c) 4 (fun _ h=>h.1) (fun _ h=>h.1) ?_ ?_
  ·exact fU @c6
  simp only[ak];refine ae.au 5 ?_;refine ab @c6 ?_;refine ae.au 6 ?_;refine ab @c6 ?_;refine ae.au 7 ?_;refine ab @c6 ?_;refine ε (m:=.sl X.length (X.flatMap cj) .ar) 8 (fun _ h=>h.2) (fun _ h=>h.2) ?_ ?_
  ·exact dW @c6 @bE
  simp only[ak];have ahp:Oi O.N k X1 X2 ((O7.set O.N (.obj X1)).set k (.obj X2)):=⟨Γ (τ _ _ _),τ _ _ _⟩;have amP:((O7.set O.N (.obj X1)).set k (.obj X2)).N=O7.N:=rfl;have alo:∀i,i≠O.N->i≠k->((O7.set O.N (.obj X1)).set k (.obj X2)).hp i=O7.hp i:=fun i h1 h2=>by rw[ρ _ _ h2,ρ _ _ h1]
  generalize (O7.set O.N (.obj X1)).set k (.obj X2)=O8 at*;refine ae.call (i:=9) (ux X .ar O8 (by omega)) ?_;rintro _ O9 ⟨rfl,Lj⟩;have Vb:VH.Ge O8 O9:=by first | exact Lj | (rw[Lj];exact VH.Ge.refl _)
  clear Lj;simp only[ak];refine⟨⟨Vb.at ahp.1,Vb.at ahp.2⟩,?_⟩;refine ae.xN [(10,.au),(11,.au),(12,.one)] ?_ (hne:=(by omega));refine aH @c6 @bE @gL ?_;refine VC.gen ?_;intro gy acJ
  have LA:VH.Ge O7 gy:=by
   refine⟨by rw[acJ];show _<=VH.N O9;have:=Vb.N;omega,fun i h=>?_⟩;rw[acJ];by_cases e1:i=k
   ·subst e1;first | (rw[τ];exact Va.symm) | (rw[τ];exact Va.symm)
   ·by_cases e2:i=O.N
    ·subst e2;first | (rw[ρ _ _ e1,ρ _ _ e1,τ];exact U_.symm) | (rw[ρ _ _ e1,τ];exact U_.symm)
    ·first | rw[ρ _ _ e1,ρ _ _ e1,ρ _ _ e2] | rw[ρ _ _ e1,ρ _ _ e2]
     exact(Vb.hp i (by omega)).trans (alo i e2 e1)
  clear acJ;have SV:=LA.at U_;have SW:=(LA.hp k (by omega)).trans Va;have amn:=LA.N;refine VC.Ep [11,12,13,14] (O.N) (k) (SV) (SW) ?_ (hne:=(by omega));intro X3 X4;refine ae.au 0 ?_;refine ab @c6 ?_;refine ε (m:=.bz k 0 L.length c) 1 (fun _ h=>h.1) (fun _ h=>h.1) ?_ ?_
  ·exact fU @c6
  simp only[ak];refine ae.au 2 ?_;refine ab @c6 ?_;refine ae.au 3 ?_;refine ab @c6 ?_;refine ε (m:=.bz k 0 L.length c) 4 (fun _ h=>h.1) (fun _ h=>h.1) ?_ ?_
  ·exact fU @c6
  simp only[ak];refine ae.au 5 ?_;refine ab @c6 ?_;refine ae.au 6 ?_;refine ab @c6 ?_;refine ae.au 7 ?_;refine ab @c6 ?_;refine ae.au 8 ?_;refine ab @c6 ?_;refine ε (m:=.sl 0 [] .ar) 9 (fun _ h=>h.2) (fun _ h=>h.2) ?_ ?_
  ·exact dW @c6 @acI
  simp only[ak];have acK:Oi O.N k X3 X4 ((gy.set O.N (.obj X3)).set k (.obj X4)):=⟨Γ (τ _ _ _),τ _ _ _⟩;have amo:((gy.set O.N (.obj X3)).set k (.obj X4)).N=gy.N:=rfl;have aiY:∀i,i≠O.N->i≠k->((gy.set O.N (.obj X3)).set k (.obj X4)).hp i=gy.hp i:=fun i h1 h2=>by rw[ρ _ _ h2,ρ _ _ h1]
  generalize (gy.set O.N (.obj X3)).set k (.obj X4)=vu at*;refine ae.call (i:=10) (GM .ar vu) ?_;rintro _ YK ⟨rfl,Lj⟩;have LB:VH.Ge vu YK:=by first | exact Lj | (rw[Lj];exact VH.Ge.refl _)
  clear Lj;simp only[ak];refine⟨⟨LB.at acK.1,LB.at acK.2⟩,?_⟩;refine ae.xN [(11,.au),(12,.au),(13,.au),(14,.one)] ?_ (hne:=(by omega));refine aH @c6 @acI @mG ?_;refine VC.gen ?_;intro O13 acL
  have aiZ:VH.Ge gy O13:=by
   refine⟨by rw[acL];show _<=VH.N YK;have:=LB.N;omega,fun i h=>?_⟩;rw[acL];by_cases e1:i=k
   ·subst e1;first | (rw[τ];exact SW.symm) | (rw[τ];exact SW.symm)
   ·by_cases e2:i=O.N
    ·subst e2;first | (rw[ρ _ _ e1,ρ _ _ e1,τ];exact SV.symm) | (rw[ρ _ _ e1,τ];exact SV.symm)
    ·first | rw[ρ _ _ e1,ρ _ _ e1,ρ _ _ e2] | rw[ρ _ _ e1,ρ _ _ e2]
     exact(LB.hp i (by omega)).trans (aiY i e2 e1)
  clear acL;refine ο @c6 @cB ?_;exact az.N (j+1) ⟨(eV.trans LA).trans aiZ,aM⟩
 rintro _ O9 bh;have hx9:=bh.at oO;have bO:=bh.at ju;have Li:=(bh.hp k (by omega)).trans CD;have zT:=bh.N;have CF:∀i,i<O.N->O9.hp i=O.hp i:=fun i h=>(bh.hp i (by omega)).trans ((ot i (by omega) (by omega)).trans (gM i h))
 refine VC.xM (A:=[.str g1,.str g2,.str g3,.str pk,.sl P.length (P.flatMap bm) .ar,.sl 0 [] .ar]) (E:=[]) (sz:=L.length*10) Li hx9 (by omega) (by rw[Mm,dI];omega) ?_;have cT:((L.flatMap ez++sp).drop 0).take (L.length*10)=L.flatMap ez:=by rw[anx,ajx (by rw[dI];exact VI _), <-dI,ajv]
 rw[cT];refine VC.gen ?_;intro gy sN;have alp:gy.hp O.N=some (.cells [.str g1,.str g2,.str g3,.str pk,.sl P.length (P.flatMap bm) .ar,.sl 0 [] .ar,.sl L.length (L.flatMap ez) .ar]):=by rw[sN];exact τ _ _ _
 have JG:gy.hp (O.N+1)=_:=(by rw[sN,ρ _ _ (by omega),VH.lg _ (by omega)]:gy.hp (O.N+1)=O9.hp (O.N+1)).trans bO;have BF:∀i,i<O.N->gy.hp i=O.hp i:=fun i h=>(by rw[sN,ρ _ _ (by omega),VH.lg _ (by omega)]:gy.hp i=O9.hp i).trans (CF i h)
 have Jb:gy.N=O9.N:=by rw[sN];rfl
 clear sN;refine ι (aH @c6 @alp @JG ?_);rw[gH,xV];exact⟨rfl,by show _<=gy.N;omega,fun i h=>Γ (BF i h)⟩
structure SX (O:VH) (bb md k:Nat) (MD:fI) (cm:Nat):Prop where
 cell:O.hp bb=some (.cells [.ptr k 0,.map md])
 map:O.hp md=some (.map (cS MD) cm)
 ok:nT 3 MD
 lt:bb<O.N/\md<O.N
theorem SX.ge {O O':VH} {bb md k:Nat} {MD:fI} {cm:Nat} (h:SX O bb md k MD cm) (g:O.Ge O'):SX O' bb md k MD cm:=
 ⟨(g.hp _ h.lt.1).trans h.cell,(g.hp _ h.lt.2).trans h.map,h.ok,Ml h.lt.1 g.N,Ml h.lt.2 g.N⟩
def Ee (s:Bs):Bs:=if s=[]then lB else s
def jd (g:Gv) (p:Pm):Mdl:=⟨g,Ee p.pk,iM p,p.eK.map fO⟩
structure PmQ (p:Pm) (g:Gv):Prop where
 c:PmC p
 gg:p.g=g.g
 ga:p.a=g.a
 gv:p.v=g.v
 tg:iq g.g
 ta:iq g.a
 tv:iq g.v
 tp:iq p.pk
 pi:fy (Ee p.pk)=true
 props:p.props=[]
 eU:p.eU=[]
 eK:∀d∈p.eK,SN d
 len:p.eK.length<=900
 keys:p.eK.Pairwise fun x y=>jc (dN x)≠jc (dN y)
end Go.Proofs.YtjpadehgejlebaaGreatDoor
