import Derived.Test.YtoclnkfdahmnhaaGreatDoorMB
import Derived.ProofKit
import Derived.OpenShut
import Derived.Shelf.Strings.Search3
import Derived.Shelf.Strings.OnBuilder
import Derived.Test.YtoclnkfdahmnhaaGreatDoorProg
import Derived.Laws.Cover4
set_option linter.unusedVariables false
set_option linter.unusedSimpArgs false
namespace Go.Proofs.YtoclnkfdahmnhaaGreatDoor
open Go.RowKit Go.ChangeShapes
def G0 (w:World):Gh:=⟨w,fun _=>none,fun b o=>w.cell? ⟨b,o,none⟩,fun _=>none⟩
def O0:VH:=⟨0,fun _=>none⟩
theorem wr0 (w:World) (hg:JM w):WR (G0 w) O0 w where
 base:=Below.refl _ _
 dT _ _ _ h:=h
 oY _ _:=⟨rfl,rfl,rfl⟩
 jL _ _ h:=by cases h
 inj _ _ _ _ _ h:=by cases h
 cells _ _ h:=by cases h
 map _ _ _ h:=by cases h
 tok _ h:=by cases h
 kY _ _ _ _ _ h:=by cases h
 nL _ _ _ _ h:=by cases h
 obj _ _ h:=by cases h
 qc:=hg
 Ap _ _ h:=by cases h
def El {H:Type} (enc:TypeId×Value->H) (P:Program) (w:World) (sp:Nat->Bool) (held:Bool) (t:TypeId) (Φ :List MV->Prop):Prop:=
 ∀fuel cs x,DataW.trod enc P w 0 sp held fuel t cs=some x->∃ms,aL (G0 w) ms cs/\ Φ ms
section
variable {H:Type} {enc:TypeId×Value->H} {P:Program} {w:World} {sp:Nat->Bool} {held:Bool} {t e:TypeId}
theorem El.int {k:IntKind} (ht:P.underlying t=some (.int k)):El enc P w sp held t fun ms=>∃n,ms=[.v (.int k n)]/\(Lit.int k n).wf=true:=by
 intro fuel cs x h;obtain⟨n,rfl,rfl,hw⟩:=DataW.trod_int ht h;exact⟨_,aL.cons (.v rfl) aL.nil,n,rfl,hw⟩
theorem El.bool (ht:P.underlying t=some .bool):El enc P w sp held t fun ms=>∃b,ms=[.v (.bool b)]:=by
 intro fuel cs x h;obtain⟨n,rfl,rfl⟩:=DataW.trod_bool ht h;exact⟨_,aL.cons (.v rfl) aL.nil,n,rfl⟩
theorem El.str (ht:P.underlying t=some .string):El enc P w sp held t fun ms=>∃l:List UInt8,ms=[.str l]/\l.length<=maxLen:=by
 intro fuel cs x h;obtain⟨s,rfl,rfl,hs⟩:=DataW.trod_string ht h;exact⟨[.str s.data.toList],aL.cons (by cases s with | mk d=>cases d with | mk l=>exact .str) aL.nil,_,rfl,hs⟩
theorem PA {w:World} {a:Addr} {v:Value} (h:w.cell? a=some v):a=⟨a.block,a.off,none⟩:=by
 unfold World.cell? at h;split at h
 ·split at h
  ·cases h
  ·rename_i hs;cases a with
   | mk b o s=>cases s with
     | none=>rfl
     | some x=>exact absurd rfl hs
 ·cases h
theorem El.slice (ht:P.underlying t=some (.slice e)) {Φ :List MV->Prop} (he:El enc P w sp held e Φ) (n9:0<P.cellsOf e):
  El enc P w sp held t fun ms=>∃(rows:List (List MV)) (tk:Tok),ms=[.sl rows.length rows.flatten tk]/\(∀r∈rows, Φ r)/\rows.length<=maxLen:=by
 intro fuel cs x h;rcases DataW.trod_slice ht h with⟨rfl,rfl⟩ | ⟨a,len,cap,elems,rest,n,rfl,rfl,rfl,_,PB,hm,hlen,FO,_,_⟩
 ·exact⟨[.sl 0 [] .nil],aL.cons .slnil aL.nil,[],.nil,rfl,by simp,by simp⟩
 by_cases h0:len=0
 ·subst h0;exact⟨[.sl 0 [] .aq],aL.cons (.nZ hm) aL.nil,[],.aq,rfl,by simp,by simp⟩
 have each:∀i,i<len->∃ms ci,w.cells? 0 (a.add (i*P.cellsOf e)) (P.cellsOf e)=some ci/\aL (G0 w) ms ci/\ Φ ms:=fun i hi=>by
  have h1:=FO i hi;have h2:elems[i]?=some (elems[i]'(by omega)):=List.getElem?_eq_getElem (by omega);rw[h2]at h1;obtain⟨ci,h3,h4⟩:=Option.bind_eq_some_iff.1 h1;obtain⟨ms,h5,h6⟩:=he _ _ _ h4;exact⟨ms,ci,h3,h5,h6⟩
 have agv:a=⟨a.block,a.off,none⟩:=by
  obtain⟨_,ci,h1,_⟩:=each 0 (by omega);obtain⟨_,h2,h3⟩:=World.cells?_some h1;have h4:=h3 0 n9;rw[Nat.zero_mul]at h4;have h5:(a.add 0).add 0=a:=by simp[Addr.add]
  rw[h5]at h4;rw[List.getElem?_eq_getElem (by omega)]at h4;exact PA h4
 obtain⟨b,o,s⟩:=a;obtain rfl:s=none:=congrArg Addr.spot agv
 have build:∀m,m<=len->∃(rows:List (List MV)) (us:List Value),rows.length=m/\us.length=m*P.cellsOf e/\aL (G0 w) rows.flatten us/\(∀p u,us[p]?=some u->w.cell? ⟨b,o+p,none⟩=some u)/\∀r∈rows, Φ r:=fun m=>by
  induction m with
  | zero=>exact fun _=>⟨[],[],rfl,by simp,aL.nil,fun p u hu=>by simp at hu,by simp⟩
  | succ m ih=>
    intro hm;obtain⟨rows,us,h1,h2,h3,h4,h5⟩:=ih (by omega);obtain⟨ms,ci,g1,g2,g3⟩:=each m (by omega);obtain⟨_,g4,g5⟩:=World.cells?_some g1;refine⟨rows++[ms],us++ci,by simp[h1],by rw[List.length_append,h2,g4,Nat.add_mul,Nat.one_mul],?_,fun p u hu=>?_,fun r hr=>?_⟩
    ·rw[List.flatten_append,List.flatten_cons,List.flatten_nil,List.append_nil];exact aL.append h3 g2
    ·rcases Nat.lt_or_ge p us.length with hp | hp
     ·rw[List.getElem?_append_left hp]at hu;exact h4 p u hu
     ·rw[List.getElem?_append_right hp]at hu;have dF:=(List.getElem?_eq_some_iff.1 hu).1;have:=g5 (p - us.length) (by omega);rw[hu]at this;rw[<-this,Addr.add_lit,Addr.add_lit,h2,show o+m*P.cellsOf e+(p - m*P.cellsOf e)=o+p by omega]
    ·rcases List.mem_append.1 hr with hr | hr
     ·exact h5 r hr
     ·rw[List.mem_singleton.1 hr];exact g3
 obtain⟨rows,us,h1,h2,h3,h4,h5⟩:=build len (Nat.le_refl _);refine⟨[.sl rows.length rows.flatten .aq],aL.cons ?_ aL.nil,rows,.aq,rfl,h5,by omega⟩;rw[h1];exact .sl h3.1 (fun p u hu=>h4 p u hu) h3.2 PB hm trivial
theorem El.imp {Φ Ψ :List MV->Prop} (h:El enc P w sp held t Φ) (hi:∀ms, Φ ms-> Ψ ms):El enc P w sp held t Ψ :=fun fuel cs x hx=>by
 obtain⟨ms,h1,h2⟩:=h fuel cs x hx;exact⟨ms,h1,hi _ h2⟩
theorem El.arg {Φ :List MV->Prop} (h:El enc P w sp held t Φ) {v:Value} {d:DataW H} {ps:List MemPlace} (hd:DataW.Trod enc P w 0 sp held t v d ps) (hc:v.cells= #[v]):∃m,VR (G0 w) m v/\ Φ [m]:=by
 obtain⟨fuel,h1⟩:=hd;rw[hc]at h1;obtain⟨ms,h2,h3⟩:=h _ _ _ h1
 match ms,h2 with
 | [m],h2=>exact⟨m,h2.2 0 m v rfl rfl,h3⟩
 | [],h2=>exact absurd h2.1 (by simp)
 | _::_::_,h2=>exact absurd h2.1 (by simp)
end
def PC:IntKind->Int->Prop
 | .i64,n=> -9223372036854775808<=n/\n<=9223372036854775807
 | .u64,n=>0<=n/\n<=18446744073709551615
 | .u8,n=>0<=n/\n<=255
 | k,n=>k.min<=n/\n<=k.max
theorem adf {k:IntKind} {n:Int} (h:(Lit.int k n).wf=true):PC k n:=by
 simp only[Lit.wf,Bool.and_eq_true,decide_eq_true_eq]at h;cases k<;>exact h
section
variable {H:Type} {enc:TypeId×Value->H} {P:Program} {w:World} {sp:Nat->Bool} {held:Bool} {t e:TypeId}
theorem El.aik {k:IntKind} (ht:P.underlying t=some (.int k)):El enc P w sp held t fun ms=>∃n,ms=[.v (.int k n)]/\PC k n:=
 (El.int ht).imp fun _ ⟨n,h,hw⟩=>⟨n,h,adf hw⟩
theorem El.agw (ht:P.underlying t=some .bool):El enc P w sp held t fun ms=>∃b,ms=[mb b]/\True:=
 (El.bool ht).imp fun _ ⟨b,h⟩=>⟨b,h,trivial⟩
end
theorem VF.law {P:Program} {f:FuncId} {w:World} {ms:List MV} {vs:Array Value} (hg:JM w) (hv:aL (G0 w) ms vs.toList) (h:VF P f ms O0 (aI fun m _=>m=mb true)):
  Calls P f vs w fun e w'=>e= .returned (.bool true)/\Below w.heap.size w w':=by
 have:=h (G0 w) w vs.toList (wr0 w hg) hv;refine this.mono ?_;rintro x w' ⟨r,O',G,h1,h2,h3,h4⟩;cases r with
 | panic m=>exact h4.elim
 | ret m=>
   have h4:m=mb true:=h4;subst h4;cases x with
   | returned v=>
     have h5:v= .bool true:=h3.ie;refine⟨by rw[h5],?_⟩;have:=h2.base;rw[h1.w0]at this;have hB:G.B=w.heap.size:=by unfold Gh.B;rw[h1.w0];rfl
     rw[hB]at this;exact this
   | panicked c=>exact h3.elim
   | outgrown=>exact h3.elim
set_option maxRecDepth 10000
theorem UP (w:List UInt8) (h:((w.all fun c=> !Li c)&&(w.all fun c=>w.all fun d=>ph c==ph d))=true):even w:=by
 simp only[Bool.and_eq_true,List.all_eq_true]at h;exact⟨fun c hc=>by simpa using h.1 c hc,fun c hc d hd=>by simpa using h.2 c hc d hd⟩
def okT (p:Zc):Prop:=even p.2.2/\(∀c∈p.2.2,lo c=c)/\(if p.2.1 then p.2.2.all ph=true/\p.2.2.dropWhile (· ==48)=p.2.2 else p.2.2.all (fun c=> !ph c)=true/\agu p.2.2 false=p.2.2)
def Lk (p:Zc):List UInt8:=(if p.2.1&&p.2.2==[]then[48]else[])++p.2.2
def Zd (p:Zc):List UInt8:=(if p.1 then 45 else 46)::Lk p
theorem UQ {p:Zc} (h:okT p):even (Lk p):=by
 unfold Lk;split
 ·rename_i hc;have:p.2.2=[]:=by simpa using(Bool.and_eq_true _ _▸hc:p.2.1=true/\(p.2.2==[])=true).2
  rw[this];exact UP _ rfl
 ·exact h.1
theorem chain:∀(r:List Zc) (_:∀p∈r,okT p) (w:List UInt8) (_:even w) (hy:Bool),tj hy [] (w++r.flatMap Zd)=(w,hy,false)::r.map fun p=>(Lk p,p.1,false)
 | [],_,w,hw,hy=>by
   have:=AG w [] [] hy (by simpa using hw);simpa[UO]using this
 | p::r,h,w,hw,hy=>by
   have ih:=chain r (fun q hq=>h q (List.mem_cons_of_mem _ hq)) (Lk p) (UQ (h p (by simp))) p.1;have h1:=AG w [] ((p::r).flatMap Zd) hy (by simpa using hw);rw[h1,List.nil_append,List.flatMap_cons,Zd,List.cons_append,Pz (by cases p.1<;>rfl)];have hb:((if p.1 then 45 else 46:UInt8)==45)=p.1:=by cases p.1<;>rfl
   rw[hb,ih,List.map_cons]
set_option linter.defProp false in
def fl:=And.intro T9<|And.intro T3<|And.intro T4<|And.intro T5 th
def lD (c:UInt8):Bool:=decide (c.toNat=32\/c.toNat=9\/c.toNat=10\/c.toNat=13)
def k7 (c:UInt8):Bool:=decide ((65<=c.toNat/\c.toNat<=90)\/(97<=c.toNat/\c.toNat<=122)\/c.toNat=95)
def Hb (c:UInt8):Bool:=decide (c.toNat=46\/c.toNat=45\/c.toNat=58)
def l9 (c:UInt8):Bool:=decide (32<=c.toNat\/c.toNat=9\/c.toNat=10\/c.toNat=13)
theorem pq (c:UInt8) (O:VH):VF Tryz.prog 185 [fp c] O (aI fun m O'=>m=mb (lD c)/\O'=O):=by
 have hc:=c.toNat_lt;refine VF.dh 17 [.tmp 2] Tryz.func185 ?_;rcases(show c.toNat=32\/c.toNat=9\/c.toNat=10\/c.toNat=13\/(c.toNat≠32/\c.toNat≠9/\c.toNat≠10/\c.toNat≠13)from by omega)with h | h | h | h | ⟨h1,h2,h3,h4⟩
 ·refine ao @fl @aG ?_;simp[lD,h]
 ·refine ao @fl @aG ?_;simp[lD,h]
 ·refine ao @fl @aG ?_;simp[lD,h]
 ·refine ao @fl @aG ?_;simp[lD,h]
 ·refine ao @fl @aG ?_;simp[lD,h1,h2,h3,h4]
theorem IM (f:FuncId) (p:UInt8->Bool) (s:List UInt8) (O:VH) (hs:s.length<=maxLen) (hf:∀c O,VF Tryz.prog f [fp c] O (aI fun m O'=>m=mb (p c)/\O'=O)) (hb:di Tryz.prog f=true):
  VF Tryz.prog 184 [.str s,.func (.func f) [] []] O (aI fun m O'=>m=mi (s.takeWhile p).length/\O'=O):=by
 have hm:(s.length:Int)<=9223372036854775807:=by simp[maxLen]at hs;omega
 refine VF.dh 20 [.tmp 4] Tryz.func184 ?_;refine ae @fl ?_;refine WC.ik [5] [0,1] (fun j:Nat=>[mi j]) (fun j O'=>O'=O/\j<=s.length/\(s.takeWhile p).length=j+((s.drop j).takeWhile p).length) (fun j=>s.length - j) (0) ?_ ?_
 ·exact⟨rfl,Nat.zero_le _,by simp⟩
 rintro j O2 ⟨rfl,hj,hw⟩;by_cases h2:j<s.length
 ·have hg:=List.getElem?_eq_getElem h2;have hd:=List.drop_eq_getElem_cons h2;generalize s[j]=c at*;refine ao @fl @hg ?_;refine ah.rt (hf c _) ?_ (hb:=hb);rintro _ O3 ⟨rfl,rfl⟩;cases hp:p c
  ·refine ao @fl @hg ?_;rw[hw,hd,List.takeWhile_cons_of_neg (by simp[hp])];trivial
  ·refine ao @fl @hg ?_;refine aC.next (j+1) ?_;refine⟨rfl,by omega,?_⟩;rw[hw,hd,List.takeWhile_cons_of_pos hp,List.length_cons];omega
 ·refine ae @fl ?_;rw[hw,List.drop_of_length_le (by omega)];trivial
def IN (p:UInt8->Bool) (l:List UInt8):List UInt8:=(l.reverse.dropWhile p).reverse
theorem UR (p:UInt8->Bool) (l:List UInt8) (a:UInt8):IN p (l++[a])=if p a then IN p l else l++[a]:=by
 unfold IN;rw[List.reverse_append,List.reverse_singleton,List.singleton_append,List.dropWhile_cons];cases p a<;>simp
def trimB (s:List UInt8):List UInt8:=IN lD (s.dropWhile lD)
theorem Ll (p:UInt8->Bool):∀s:List UInt8,s.drop (s.takeWhile p).length=s.dropWhile p
 | []=>rfl
 | c::s=>by
   cases h:p c
   ·rw[List.takeWhile_cons_of_neg (by simp[h]),List.dropWhile_cons_of_neg (by simp[h])];rfl
   ·rw[List.takeWhile_cons_of_pos h,List.dropWhile_cons_of_pos h,List.length_cons,List.drop_succ_cons,Ll p s]
theorem nJ (p:UInt8->Bool) (s:List UInt8):(s.takeWhile p).length<=s.length:=(List.takeWhile_sublist p).length_le
theorem IP (p:UInt8->Bool) (s:List UInt8):(s.dropWhile p).length<=s.length:=(List.dropWhile_sublist p).length_le
theorem Ze (p:UInt8->Bool) (s:List UInt8):(IN p s).length<=s.length:=by
 unfold IN;have:=IP p s.reverse;simp only[List.length_reverse]at this ⊢;exact this
theorem PD (s:List UInt8):(trimB s).length<=s.length:=Nat.le_trans (Ze _ _) (IP _ _)
theorem IQ (s:List UInt8) (O:VH) (hs:s.length<=maxLen):VF Tryz.prog 158 [.str s] O (aI fun m O'=>m= .str (trimB s)/\O'=O):=by
 have hm:(s.length:Int)<=9223372036854775807:=by simp[maxLen]at hs;omega
 have NZ:=nJ lD s;have hdw:=Ll lD s;have kc:=IP lD s;unfold trimB;refine VF.dh 23 [.tmp 2] Tryz.func158 ?_;refine ae @fl ?_;refine ah.rt (IM 185 lD s _ hs pq (by kernel_rfl)) ?_;rintro _ O2 ⟨rfl,rfl⟩;refine ao @fl @hdw ?_;generalize s.dropWhile lD=t at*;refine WC.ik [0] [] (fun k:Nat=>[.str (t.take k)]) (fun k O'=>O'=O2/\k<=t.length/\IN lD t=IN lD (t.take k)) (fun k=>k) t.length ?_ ?_ (h0:=(by rw[List.take_length];rfl))
 ·exact⟨rfl,Nat.le_refl _,by rw[List.take_length]⟩
 rintro k O3 ⟨rfl,hk,hr⟩;rw[hr];have hlen:(t.take k).length=k:=by rw[List.length_take];omega
 rcases Nat.eq_zero_or_pos k with rfl | hk0
 ·have ail:(([]:List UInt8)==[])=true:=rfl;refine ao @fl @ail ?_;trivial
 ·obtain⟨k,rfl⟩:∃j,k=j+1:=⟨k - 1,by omega⟩
  have h2:k<t.length:=by omega
  have iM:=cN t k h2;have bu:(t.take (k+1))[k]?=some t[k]:=by rw[List.getElem?_take,if_pos (by omega),List.getElem?_eq_getElem h2]
  have hne:(t.take (k+1)==[])=false:=by rw[iM];cases t.take k<;>rfl
  have fj:=UR lD (t.take k) t[k];rw[<-iM]at fj;have Ft:(t.take (k+1)).take k=t.take k:=by rw[List.take_take];congr 1;omega
  generalize t[k]=c at*;refine c8 @fl @hne @hlen @bu ?_;refine ah.rt (pq c _) ?_;rintro _ O4 ⟨rfl,rfl⟩;cases hb:lD c
  ·refine ae @fl ?_;rw[fj,hb];trivial
  ·rw[hb]at fj;refine aM @fl @hlen @Ft ?_;exact aC.next k ⟨rfl,by omega,by rw[fj];rfl⟩
abbrev Bs:=List UInt8
theorem DQ (c:UInt8) (O:VH):VF Tryz.prog 171 [fp c] O (aI fun m O'=>m=mb (k7 c)/\O'=O):=by
 have hc:=c.toNat_lt;refine VF.dh 21 [.tmp 2] Tryz.func171 ?_;rcases(show c.toNat<65\/(65<=c.toNat/\c.toNat<=90)\/(90<c.toNat/\c.toNat<97/\c.toNat≠95)\/c.toNat=95\/(97<=c.toNat/\c.toNat<=122)\/122<c.toNat from by omega)with h | h | h | h | h | h
 ·rw[show k7 c=false by simp[k7];omega];exact dH @fl @aG
 ·rw[show k7 c=true by simp[k7];omega];exact dH @fl @aG
 ·rw[show k7 c=false by simp[k7];omega];exact dH @fl @aG
 ·rw[show k7 c=true by simp[k7];omega];exact dH @fl @aG
 ·rw[show k7 c=true by simp[k7];omega];exact dH @fl @aG
 ·rw[show k7 c=false by simp[k7];omega];exact dH @fl @aG
def jf (c:UInt8):Bool:=k7 c||ph c||Hb c
theorem Hc (c:UInt8) (O:VH):VF Tryz.prog 143 [fp c] O (aI fun m O'=>m=mb (jf c)/\O'=O):=by
 have hc:=c.toNat_lt;refine VF.dh 21 [.tmp 2] Tryz.func143 ?_;refine ae @fl ?_;refine ah.rt (DQ c _) ?_;rintro _ O2 ⟨rfl,rfl⟩;cases h1:k7 c
 ·refine ae @fl ?_;refine ah.rt (pj c _) ?_;rintro _ O2 ⟨rfl,rfl⟩;cases h2:ph c
  ·rcases(show c.toNat=46\/c.toNat=45\/c.toNat=58\/(c.toNat≠46/\c.toNat≠45/\c.toNat≠58)from by omega)with h | h | h | h
   ·rw[show jf c=true by simp[jf,h1,h2,Hb,h]];exact dH @fl @aG
   ·rw[show jf c=true by simp[jf,h1,h2,Hb,h]];exact dH @fl @aG
   ·rw[show jf c=true by simp[jf,h1,h2,Hb,h]];exact dH @fl @aG
   ·rw[show jf c=false by simp[jf,h1,h2,Hb,h]];exact dH @fl @aG
  ·rw[show jf c=true by simp[jf,h1,h2]];exact dH @fl @aG
 ·rw[show jf c=true by simp[jf,h1]];exact dH @fl @aG
theorem v7 (c:UInt8) (O:VH):VF Tryz.prog 310 [fp c] O (aI fun m O'=>m=mb (l9 c)/\O'=O):=by
 have hc:=c.toNat_lt;refine VF.dh 9 [.tmp 2] Tryz.func310 ?_;by_cases h:32<=c.toNat
 ·rw[show l9 c=true by simp[l9];omega];exact dH @fl @aG
 ·refine ao @fl @aG ?_;refine ah.rt (pq c _) ?_;rintro _ O2 ⟨rfl,rfl⟩;rw[show l9 c=lD c by unfold l9 lD;rw[decide_eq_decide];omega];exact dH @fl @aG
def jA (s:Bs):Nat:=if k7 (s.headD 0)&& !s.isEmpty then(s.takeWhile jf).length else 0
theorem BL (s:Bs):jA s<=s.length:=by
 unfold jA;split
 ·exact nJ _ _
 ·exact Nat.zero_le _
theorem adg (s:Bs) (O:VH) (hs:s.length<=maxLen):VF Tryz.prog 312 [.str s] O (aI fun m O'=>m=mi (jA s)/\O'=O):=by
 refine VF.dh 13 [.tmp 2] Tryz.func312 ?_;cases s with
 | nil=>
   refine ao @fl (show(([]:List UInt8)==[])=true from rfl) ?_;rfl
 | cons c s=>
   refine aM @fl (show((c::s)==[])=false from rfl) @aek ?_;refine ah.rt (DQ c _) ?_;rintro _ O2 ⟨rfl,rfl⟩;cases h1:k7 c
   ·refine ae @fl ?_;simp[jA,h1]
   ·rw[show jA (c::s)=((c::s).takeWhile jf).length by simp[jA,h1]];refine ae @fl ?_;refine ah.rt (IM 143 jf (c::s) _ hs (fun c O=>Hc c O) (by kernel_rfl)) ?_;rintro _ O2 ⟨rfl,rfl⟩;exact fe @fl
def lu (c:UInt8):Bool:=jf c&&decide (c.toNat≠58)
theorem US (c:UInt8) (O:VH):VF Tryz.prog 110 [fp c] O (aI fun m O'=>m=mb (lu c)/\O'=O):=by
 have hc:=c.toNat_lt;refine VF.dh 9 [.tmp 2] Tryz.func110 ?_;refine ae @fl ?_;refine ah.rt (Hc c _) ?_;rintro _ O2 ⟨rfl,rfl⟩;cases h1:jf c
 ·rw[show lu c=false by simp[lu,h1]];exact fe @fl
 ·by_cases h:c.toNat=58
  ·rw[show lu c=false by simp[lu,h]];exact dH @fl @aG
  ·rw[show lu c=true by simp[lu,h1,h]];exact dH @fl @aG
def eH (s:Bs):Bool:=s.all lu&&decide (1<=s.length)&&decide (s.length<=64)
theorem sr (s:Bs) (O:VH) (hs:s.length<=maxLen):VF Tryz.prog 83 [.str s] O (aI fun m O'=>m=mb (eH s)/\O.Ge O'):=by
 have hm:(s.length:Int)<=9223372036854775807:=by simp[maxLen]at hs;omega
 have wN:=VH.aW O (.cells (s.map fp));have zy:=(VH.Ge.refl O).push (.cells (s.map fp));refine VF.dh 24 [.tmp 2] Tryz.func83 ?_;refine ae @fl ?_;refine VL.bytes aa (el:=5) (l:=s) rfl rfl (by rw[T9];rfl) (by rw[th];rfl) (by rw[T5];rfl) hs rfl fun cap h1 h2=>WL.sound aa ?_
 refine ae @fl ?_;refine WC.ik [8] [0,6,7] (fun j:Nat=>[mi j]) (fun j O'=>(O.push (.cells (s.map fp))).Ge O'/\j<=s.length/\(s.take j).all lu=true) (fun j=>s.length - j) (0) ?_ ?_
 ·exact⟨VH.Ge.refl _,Nat.zero_le _,rfl⟩
 rintro j O2 ⟨oF,hj,jU⟩;have wO:=(oF.hp O.next (Nat.lt_succ_self _)).trans wN;by_cases h2:j<s.length
 ·have nS:=List.getElem?_eq_getElem h2;have iM:(s.take (j+1)).all lu=lu s[j]:=by rw[cN _ _ h2,List.all_append,jU];simp
  have fw:lu s[j]=false->eH s=false:=fun h=>by
   unfold eH;rw[List.all_eq_false.2 ⟨s[j],List.getElem_mem h2,by simp[h]⟩];rfl
  generalize s[j]=c at*;refine aM @fl @nS @wO ?_;refine ah.rt (US c _) ?_;rintro _ O3 ⟨rfl,rfl⟩;cases hb:lu c
  ·rw[fw hb];refine ae @fl ?_;exact zy.trans oF
  ·refine ae @fl ?_;exact aC.next (j+1) ⟨oF,by omega,iM.trans hb⟩
 ·obtain rfl:j=s.length:=by omega
  rw[List.take_length]at jU;unfold eH;rw[jU];by_cases h0:1<=s.length
  ·by_cases DP:s.length<=64
   ·rw[decide_eq_true h0,decide_eq_true DP];refine ae @fl ?_;exact zy.trans oF
   ·rw[decide_eq_true h0,decide_eq_false DP];refine ae @fl ?_;exact zy.trans oF
  ·rw[decide_eq_false h0];refine ae @fl ?_;exact zy.trans oF
set_option linter.defProp false in
def oo:=And.intro fl<|And.intro AF<|And.intro BJ Y8
structure Gv where
 g:Bs
 a:Bs
 v:Bs
 deriving DecidableEq
def bL (x:Gv):List MV:=[.str x.g,.str x.a,.str x.v]
structure fz where
 g:Bs
 a:Bs
 deriving DecidableEq
def bO (x:fz):List MV:=[.str x.g,.str x.a]
structure Ky where
 g:Bs
 a:Bs
 t:Bs
 c:Bs
 deriving DecidableEq
def fX (x:Ky):List MV:=[.str x.g,.str x.a,.str x.t,.str x.c]
def zA (x:Gv):Bool:=eH x.g&&eH x.a&&uL x.v
theorem UT (x:Gv) (O:VH) (h1:x.g.length<=maxLen) (h2:x.a.length<=maxLen) (h3:x.v.length<=maxLen):VF Tryz.prog 61 [.agg (bL x)] O (aI fun m O'=>m=mb (zA x)/\O.Ge O'):=by
 obtain⟨g,a,v⟩:=x;dsimp only at h1 h2 h3;unfold zA bL;dsimp only;have hk:=VH.aW O (.cells [.str g,.str a,.str v]);have lO:=(VH.Ge.refl O).push (.cells [.str g,.str a,.str v]);have hn0:O.next<(O.push (.cells [.str g,.str a,.str v])).next:=Nat.lt_succ_self _;refine VF.dh 16 [.tmp 2] Tryz.func61 ?_;refine ao @oo @hk ?_;generalize O.push (.cells [.str g,.str a,.str v])=O1 at*;refine ah.rt (sr g _ h1) ?_;rintro _ O2 ⟨rfl,ay⟩;have jk:=ay.next;cases eH g
 ·refine ae @oo ?_;exact lO.trans ay
 ·refine aM @oo @hk ay.hp ?_;refine ah.rt (sr a _ h2) ?_;rintro _ O3 ⟨rfl,aO⟩;have gZ:=aO.next;cases eH a
  ·refine ae @oo ?_;exact lO.trans (ay.trans aO)
  ·refine c8 @oo @hk ay.hp aO.hp ?_;refine ah.rt (Py v _ h3) ?_;rintro _ O4 ⟨rfl,bh⟩;refine ae @oo ?_;exact lO.trans (ay.trans (aO.trans bh))
def v8 (s:Bs):Bool:=s==[42]||eH s
theorem Hd (s:Bs) (O:VH) (hs:s.length<=maxLen):VF Tryz.prog 321 [.str s] O (aI fun m O'=>m=mb (v8 s)/\O.Ge O'):=by
 unfold v8;refine VF.dh 9 [.tmp 2] Tryz.func321 ?_;cases h:s==[42]
 ·refine ao @oo @h ?_;refine ah.rt (sr s _ hs) ?_;rintro _ O2 ⟨rfl,ay⟩;refine ae @oo ?_;exact ay
 ·refine ao @oo @h ?_;exact VH.Ge.refl _
def zB (x:fz):Bool:=v8 x.g&&v8 x.a
theorem FP (x:fz) (O:VH) (h1:x.g.length<=maxLen) (h2:x.a.length<=maxLen):VF Tryz.prog 317 [.agg (bO x)] O (aI fun m O'=>m=mb (zB x)/\O.Ge O'):=by
 obtain⟨g,a⟩:=x;dsimp only at h1 h2;unfold zB bO;dsimp only;have hk:=VH.aW O (.cells [.str g,.str a]);have lO:=(VH.Ge.refl O).push (.cells [.str g,.str a]);have hn0:O.next<(O.push (.cells [.str g,.str a])).next:=Nat.lt_succ_self _;refine VF.dh 11 [.tmp 2] Tryz.func317 ?_;refine ao @oo @hk ?_;generalize O.push (.cells [.str g,.str a])=O1 at*;refine ah.rt (Hd g _ h1) ?_;rintro _ O2 ⟨rfl,ay⟩;have jk:=ay.next;cases v8 g
 ·refine ae @oo ?_;exact lO.trans ay
 ·refine aM @oo @hk ay.hp ?_;refine ah.rt (Hd a _ h2) ?_;rintro _ O3 ⟨rfl,aO⟩;refine ae @oo ?_;exact lO.trans (ay.trans aO)
def BM (p x:fz):Bool:=(p.g==[42]||p.g==x.g)&&(p.a==[42]||p.a==x.a)
theorem PF (p x:fz) (O:VH):VF Tryz.prog 97 [.agg (bO p),.agg (bO x)] O (aI fun m O'=>m=mb (BM p x)/\O.Ge O'):=by
 obtain⟨g,a⟩:=p;obtain⟨g',a'⟩:=x;unfold BM bO;dsimp only;have lO:=((VH.Ge.refl O).push (.cells [.str g,.str a])).push (.cells [.str g',.str a']);refine VF.dh 27 [.tmp 4] Tryz.func97 ?_;cases h1:g==[42]<;>cases h2:g==g'<;>cases h3:a==[42]<;>cases h4:a==a'
 all_goals
  refine iL @oo @h1 @h2 @h3 @h4 ?_;exact lO
def eQ (n:Int):Bs:=if n=1 then[99,111,109,112,105,108,101]else if n=2 then[114,117,110,116,105,109,101]else if n=3 then[112,114,111,118,105,100,101,100]else if n=4 then[115,121,115,116,101,109]else if n=5 then[116,101,115,116]else if n=6 then[105,109,112,111,114,116]else[]
theorem RS (n:Int) (O:VH):VF Tryz.prog 78 [mi n] O (aI fun m O'=>m= .str (eQ n)/\O'=O):=by
 unfold eQ;refine VF.dh 16 [.tmp 2] Tryz.func78 ?_;by_cases h1:n=1
 ·refine ae @oo ?_;simp[h1]
 by_cases h2:n=2
 ·refine ae @oo ?_;simp[h1,h2]
 by_cases h3:n=3
 ·refine ae @oo ?_;simp[h1,h2,h3]
 by_cases h4:n=4
 ·refine ae @oo ?_;simp[h1,h2,h3,h4]
 by_cases h5:n=5
 ·refine ae @oo ?_;simp[h1,h2,h3,h4,h5]
 by_cases h6:n=6
 ·refine ae @oo ?_;simp[h1,h2,h3,h4,h5,h6]
 rw[if_neg h1,if_neg h2,if_neg h3,if_neg h4,if_neg h5,if_neg h6];exact fe @oo
def Lm (o i:Int):Int:=if ¬(o=1\/o=2\/o=3\/o=5)then 0 else if i≠1/\i≠2 then 0 else if o=1 then i else o
theorem UU (o i:Int) (O:VH):VF Tryz.prog 129 [mi o,mi i] O (aI fun m O'=>m=mi (Lm o i)/\O'=O):=by
 refine VF.dh 23 [.tmp 4] Tryz.func129 ?_;rcases(show o=1\/o=2\/o=3\/o=5\/(o≠1/\o≠2/\o≠3/\o≠5)from by omega)with h | h | h | h | h
 rotate_right
 ·rw[show Lm o i=0 by simp[Lm,h]];obtain⟨h1,h2,h3,h4⟩:=h;exact fe @oo
 all_goals
  subst h;rcases(show i=1\/i=2\/(i≠1/\i≠2)from by omega)with h | h | h
 all_goals
  refine ae @oo ?_;simp[Lm,h]
def Tok.id:Tok->Option Nat
 | .own t _=>some t
 | _=>none
structure cK (tk:Tok) (O O':VH):Prop where
 next:O.next<=O'.next
 hp:∀i,i<O.next->Tok.id tk≠some i->O'.hp i=O.hp i
def Cb (O:VH) (tk tk':Tok):Prop:=tk'=tk\/∀i,Tok.id tk'=some i->O.next<=i
section
variable {O O0 O1 O2:VH} {tk t1 t2 w:Tok} {B sz:Nat}
theorem VH.Ge.k (h:O.Ge O1):cK tk O O1:=⟨h.next,fun i hi _=>h.hp i hi⟩
theorem cK.refl:cK tk O O:=⟨Nat.le_refl _,fun _ _ _=>rfl⟩
theorem Cb.refl:Cb O tk tk:=.inl rfl
theorem cK.trans (h:cK tk O O1) (hn:Cb O tk t1) (k:cK t1 O1 O2):cK tk O O2:=⟨Nat.le_trans h.next k.next,fun i hi hne=>by
 have:Tok.id t1≠some i:=fun e=>by
  rcases hn with rfl | hn
  ·exact hne e
  ·have:=hn i e;omega
 rw[k.hp i (Nat.lt_of_lt_of_le hi h.next) this,h.hp i hi hne]⟩
theorem cK.ge (h:cK tk O O1) (k:O1.Ge O2):cK tk O O2:=⟨Nat.le_trans h.next k.next,fun i hi hne=>by rw[k.hp i (Nat.lt_of_lt_of_le hi h.next),h.hp i hi hne]⟩
theorem cK.pre (h:O.Ge O1) (k:cK tk O1 O2):cK tk O O2:=⟨Nat.le_trans h.next k.next,fun i hi hne=>by rw[k.hp i (Nat.lt_of_lt_of_le hi h.next) hne,h.hp i hi]⟩
theorem Cb.trans (h:Cb O tk t1) (hle:O.next<=O1.next) (k:Cb O1 t1 t2):Cb O tk t2:=by
 rcases k with rfl | k
 ·exact h
 ·exact .inr fun i e=>Nat.le_trans hle (k i e)
theorem App.qe (h:App O B sz tk) {i:Nat} (e:Tok.id tk=some i):B<=i/\i<O.next:=by
 cases tk with
 | own t k=>injection e with e;subst e;exact h.2.2
 | _=>cases e
theorem cK.app (h:cK tk O O1) (hw:App O B sz w) (hne:∀i,Tok.id tk=some i->Tok.id w≠some i):App O1 B sz w:=by
 cases w with
 | own t j=>
   obtain⟨h1,h2,h3,h4⟩:=hw;refine⟨h1,?_,h3,Nat.lt_of_lt_of_le h4 h.next⟩;rw[h.hp t h4 (fun e=>hne t e rfl)];exact h2
 | nil=>trivial
 | full=>trivial
 | aq=>exact hw.elim
theorem cK.after (h:App O B sz tk):cK tk O (O.after tk):=⟨by rw[VH.e_];omega,fun i hi hne=>by
 cases tk with
 | own t k=>exact(VH.bn (O.kill t) _ hi).trans (VH.kh _ (fun e=>hne (by rw[e];rfl)))
 | _=>exact VH.bn _ _ hi⟩
theorem Cb.after:Cb O tk (.own O.next sz):=.inr fun i e=>by injection e with e;omega
theorem cK.ec (hg:O0.Ge O) (ha:App O O0.next sz tk) (k:cK tk O O1):O0.Ge O1:=⟨Nat.le_trans hg.next k.next,fun i hi=>by
 rw[k.hp i (Nat.lt_of_lt_of_le hi hg.next) (fun e=>by have:=(ha.qe e).1;omega),hg.hp i hi]⟩
theorem cK.Cc (ha:App O O.next sz tk) (k:cK tk O O1):O.Ge O1:=cK.ec (VH.Ge.refl O) ha k
theorem App.ge (h:App O B sz tk) (k:O.Ge O1):App O1 B sz tk:=cK.app (tk:=.nil) (k.k) h (fun _ e=>by cases e)
theorem App.nil:App O B sz .nil:=trivial
end
theorem fF {tab:bS} {O:VH} {t el:TypeId} {u:TypeDesc} {a b sz Xw:Nat} {z y:List MV} (h:tab t=some ⟨.slice el,a,b,z⟩) (h2:tab el=some ⟨u,sz,Xw,y⟩) {B n:Nat} {cs ds es:List MV} {tk:Tok} (ha:App O B sz tk)
  (hc:cs.length=n*sz) (hd:ds.length=sz) (hl:ds.all dz=true) (hs:0<sz) (hb:(n+1)*Xw<=140737488355328) (hm:n+1<=maxLen) (iA:cD cs=cs) (nP:cD ds=es):
  ∃m,gP tab O t (.sl n cs tk) (.sl 1 ds .full)=some (m,O.after tk)/\oE m= .sl (n+1) (cs++es) (.own O.next sz):=
 ⟨_,bo (tk':=.full) h h2 ha hc (by rw[hd,Nat.one_mul]) hl hs (by decide) hb hm,by rw[ry,mP,iA,nP]⟩
section
variable {P:Program} {n:Sz} {D:List Deferred} {c:Code} {e:Env} {O:VH} {Q:VQ} {z cs:List MV} {md:Md} {d:Option Tmp} {K:Env->VH->Prop} {fv:Option MV} {ms:Option (List MV)}
def pr (O:VH) (cs:List MV) (O3:VH):Prop:=O.Ge O3/\O3.hp O.next=some (.cells cs)/\O3.next=O.next+1
theorem pr.al:pr O cs ((O.push (.cells z)).set O.next (.cells cs)):=⟨((VH.Ge.refl O).push _).set (Nat.le_refl _) _,VH.an _ _ _,rfl⟩
theorem pr.bx:pr O cs (O.push (.cells cs)):=⟨(VH.Ge.refl O).push _,VH.aW _ _,rfl⟩
theorem VC.al (h:∀O3,pr O cs O3->VC P n D c e O3 Q):VC P n D c e ((O.push (.cells z)).set O.next (.cells cs)) Q:=h _ pr.al
theorem VC.bx (h:∀O3,pr O cs O3->VC P n D c e O3 Q):VC P n D c e (O.push (.cells cs)) Q:=h _ pr.bx
theorem ah.bx (h:∀O3,pr O cs O3->ah P n md Q d O3 K e fv ms):ah P n md Q d (O.push (.cells cs)) K e fv ms:=h _ pr.bx
end
theorem List.pw {α :Type} {a b:List α} {k n:Nat} (h:a.length=k):(a++b).drop (k+n)=b.drop n:=by
 rw[<-h, <-List.drop_drop,List.drop_left]
theorem aQ {α :Type} {f: α ->List MV} {k:Nat} (hf:∀x,(f x).length=k) (L:List α):(L.flatMap f).length=L.length*k:=by
 induction L with
 | nil=>simp
 | cons x L ih=>rw[List.flatMap_cons,List.length_append,ih,hf,List.length_cons,Nat.succ_mul,Nat.add_comm]
theorem cj {α :Type} {f: α ->List MV} {k:Nat} (hf:∀x,(f x).length=k):∀(L:List α) (i:Nat) (h:i<L.length),((L.flatMap f).drop (i*k)).take k=f L[i]
 | x::L,0,_=>by rw[Nat.zero_mul,List.drop_zero,List.flatMap_cons,List.take_left' (hf x)];rfl
 | x::L,i+1,h=>by
   have:=cj hf L i (by simpa using h);rw[List.flatMap_cons,Nat.succ_mul,Nat.add_comm,List.pw (hf x)];exact this
inductive Nd where
 | mk (name:Bs) (attrs:List (Bs×Bs)) (kids:List Nd) (text:Bs)
def aZ (x:Bs×Bs):List MV:=[.str x.1,.str x.2]
mutual
def cY:Nd->List MV
 | .mk n a k t=>[.str n,.sl a.length (a.flatMap aZ) .aq,.sl k.length (ax k) .aq,.str t]
def ax:List Nd->List MV
 | []=>[]
 | x::r=>cY x++ax r
end
theorem dM (L M:List Nd):ax (L++M)=ax L++ax M:=by
 induction L with
 | nil=>rw[List.nil_append,ax,List.nil_append]
 | cons x L ih=>rw[List.cons_append,ax,ax,ih,List.append_assoc]
theorem lE (x:Nd):(cY x).length=4:=by cases x;rw[cY];rfl
theorem cO (L:List Nd):(ax L).length=L.length*4:=by
 induction L with
 | nil=>rw[ax];rfl
 | cons x L ih=>rw[ax,List.length_append,lE,ih,List.length_cons];omega
theorem eR (x:Bs×Bs):(aZ x).length=2:=rfl
theorem mQ (x:fz):(bO x).length=2:=rfl
theorem fG (L:List (Bs×Bs)):cD (L.flatMap aZ)=L.flatMap aZ:=ko (fun x=>by simp only[aZ,wu]) L
mutual
theorem zC:∀x,cD (cY x)=cY x
 | .mk n a k t=>by
   simp only[cY,wu,fG];rw[eC k]
theorem eC:∀L,cD (ax L)=ax L
 | []=>by rw[ax,G6]
 | x::r=>by rw[ax,mP,zC x,eC r]
end
structure Dp where
 g:Bs
 a:Bs
 v:Bs
 t:Bs
 c:Bs
 s:Int
 o:Int
 x:List fz
 deriving DecidableEq
def aP (d:Dp):List MV:=[.str d.g,.str d.a,.str d.v,.str d.t,.str d.c,mi d.s,mi d.o,.sl d.x.length (d.x.flatMap bO) .aq]
theorem fN (x:Dp):(aP x).length=8:=rfl
structure Pm where
 hp:Bool
 par:Gv
 g:Bs
 a:Bs
 v:Bs
 pk:Bs
 props:List (Bs×Bs)
 dY:List Dp
 dQ:List Dp
 deriving DecidableEq
def fO (p:Pm):List MV:=[mb p.hp,.str p.par.g,.str p.par.a,.str p.par.v,.str p.g,.str p.a,.str p.v,.str p.pk,.sl p.props.length (p.props.flatMap aZ) .aq,.sl p.dY.length (p.dY.flatMap aP) .aq,.sl p.dQ.length (p.dQ.flatMap aP) .aq]
theorem mR (L:List fz):cD (L.flatMap bO)=L.flatMap bO:=ko (fun x=>by simp only[bO,wu]) L
theorem kL (L:List Dp):cD (L.flatMap aP)=L.flatMap aP:=ko (fun x=>by simp only[aP,au,wu,mR]) L
theorem UW (p:Pm):cD (fO p)=fO p:=by simp only[fO,aY,wu,fG,kL]
set_option linter.defProp false in
def fI:=And.intro oo<|And.intro td<|And.intro nR<|And.intro AE<|And.intro uK<|And.intro DK aen
def ey (O:VH) (B sz:Nat) (tk:Tok) (O':VH) (tk':Tok):Prop:=cK tk O O'/\App O' B sz tk'/\Cb O tk tk'
theorem ey.refl {O:VH} {B sz:Nat} {tk:Tok} (h:App O B sz tk):ey O B sz tk O tk:=⟨cK.refl,h,Cb.refl⟩
theorem ey.trans {O O1 O2:VH} {B sz:Nat} {tk t1 t2:Tok} (h:ey O B sz tk O1 t1) (k:ey O1 B sz t1 O2 t2):ey O B sz tk O2 t2:=
 ⟨h.1.trans h.2.2 k.1,k.2.1,h.2.2.trans h.1.next k.2.2⟩
theorem ey.after {O:VH} {B sz:Nat} {tk:Tok} (h:App O B sz tk) (hB:B<=O.next):ey O B sz tk (O.after tk) (.own O.next sz):=⟨cK.after h,App.after hB,Cb.after⟩
theorem ey.ge {O O1 O2:VH} {B sz:Nat} {tk t1:Tok} (h:ey O B sz tk O1 t1) (k:O1.Ge O2):ey O B sz tk O2 t1:=⟨h.1.ge k,h.2.1.ge k,h.2.2⟩
theorem ey.pre {O O1 O2:VH} {B sz:Nat} {tk t1:Tok} (g:O.Ge O1) (h:ey O1 B sz tk O2 t1):ey O B sz tk O2 t1:=⟨cK.pre g h.1,h.2.1,h.2.2.elim .inl fun k=>.inr fun i e=>Nat.le_trans g.next (k i e)⟩
theorem ey.ec {O O1:VH} {sz:Nat} {tk t1:Tok} (ha:App O O.next sz tk) (h:ey O O.next sz tk O1 t1):O.Ge O1:=cK.Cc ha h.1
theorem App.less {O:VH} {B B' sz:Nat} {tk:Tok} (h:App O B sz tk) (hB:B'<=B):App O B' sz tk:=by
 cases tk with
 | own t k=>exact⟨h.1,h.2.1,Nat.le_trans hB h.2.2.1,h.2.2.2⟩
 | nil=>trivial
 | full=>trivial
 | aq=>exact h.elim
theorem App.set {O:VH} {B sz k:Nat} {tk:Tok} {x:bV} {cs:List MV} (h:App O B sz tk) (hk:O.hp k=some (.cells cs)):App (O.set k x) B sz tk:=by
 cases tk with
 | own t j=>exact⟨h.1,(VH.ak _ _ (fun e=>by subst e;rw[h.2.1]at hk;cases hk)).trans h.2.1,h.2.2.1,h.2.2.2⟩
 | nil=>trivial
 | full=>trivial
 | aq=>exact h.elim
theorem ey.fresh {O O1 O2:VH} {sz:Nat} {t1:Tok} (g:O.Ge O1) (h:ey O1 O1.next sz .nil O2 t1):ey O O.next sz .nil O2 t1:=
 ⟨cK.pre g h.1,h.2.1.less g.next,h.2.2.elim .inl fun k=>.inr fun i e=>Nat.le_trans g.next (k i e)⟩
def bR (L:List Nd) (n t:Bs):List Nd:=if t=[]then L else L++[.mk n [] [.mk [] [] [] t] []]
theorem cZ (L:List Nd) (n t:Bs):(bR L n t).length<=L.length+1:=by unfold bR;split<;>simp
theorem fH {O:VH} {B:Nat} (L:List Nd) (tk:Tok) (n t:Bs) (ha:App O B 4 tk) (hB:B<=O.next) (hL:L.length<=100000):VF Tryz.prog 70 [.sl L.length (ax L) tk,.str n,.str t] O (aI fun m O'=>∃tk',m= .sl (bR L n t).length (ax (bR L n t)) tk'/\ey O B 4 tk O' tk'):=by
 refine VF.fg ?_;refine VF.dh 18 [.tmp 6] Tryz.func70 ?_;unfold bR;cases t with
 | nil=>
   refine aM @fI (show(([]:List UInt8)==[])=true from rfl) @eC ?_;exact⟨tk,rfl,ey.refl ha⟩
 | cons c t=>
   refine ao @fI (show((c::t)==[])=false from rfl) ?_;have cT:=bo (tk':=.full) (n:=L.length) (k:=1) (cs:=ax L) (ds:=[.str n,.sl 0 [] .nil,.sl 1 [.str [],.sl 0 [] .nil,.sl 0 [] .nil,.str (c::t)] .full,.str []]) nR td.1.1 ha (cO L) rfl rfl (by decide) (by decide) (by omega) (by simp only[maxLen];omega);refine VL.app cT ?_;refine ao @fI @eC ?_;rw[if_neg (by simp)];refine⟨_,?_,ey.after ha hB⟩;rw[dM];simp only[ax,cY,List.flatMap_nil,List.append_nil,List.length_append,List.length_cons,List.length_nil,Nat.zero_add]
def jl (L:List Nd) (n:Bs) (K:List Nd):List Nd:=if K=[]then L else L++[.mk n [] K []]
theorem px (L:List Nd) (n:Bs) (K:List Nd):(jl L n K).length<=L.length+1:=by unfold jl;split<;>simp
theorem rB {O:VH} {B:Nat} (L:List Nd) (tk:Tok) (n:Bs) (K:List Nd) (tK:Tok) (ha:App O B 4 tk) (hB:B<=O.next) (hL:L.length<=100000) (hK:K.length<=100000):VF Tryz.prog 69 [.sl L.length (ax L) tk,.str n,.sl K.length (ax K) tK] O (aI fun m O'=>∃tk',m= .sl (jl L n K).length (ax (jl L n K)) tk'/\ey O B 4 tk O' tk'):=by
 refine VF.fg ?_;refine VF.dh 17 [.tmp 6] Tryz.func69 ?_;unfold jl;by_cases h:K=[]
 ·subst h;refine aM @fI @eC @List.length_nil.{0} ?_;exact⟨tk,rfl,ey.refl ha⟩
 ·have h0:0<K.length:=List.length_pos_iff.2 h;refine ae @fI ?_;have cT:=bo (tk':=.full) (n:=L.length) (k:=1) (cs:=ax L) (ds:=[.str n,.sl 0 [] .nil,.sl K.length (ax K) tK,.str []]) nR td.1.1 ha (cO L) rfl rfl (by decide) (by decide) (by omega) (by simp only[maxLen];omega);refine VL.app cT ?_;refine ao @fI @eC ?_;rw[if_neg h];refine⟨_,?_,ey.after ha hB⟩;rw[dM];simp only[ax,cY,List.flatMap_nil,List.append_nil,List.length_append,List.length_cons,List.length_nil,Nat.zero_add]
abbrev dI:Bs:=[103,114,111,117,112,73,100]
abbrev dA:Bs:=[97,114,116,105,102,97,99,116,73,100]
abbrev fa:Bs:=[118,101,114,115,105,111,110]
abbrev zD:Bs:=[116,121,112,101]
abbrev zE:Bs:=[99,108,97,115,115,105,102,105,101,114]
abbrev qt:Bs:=[115,99,111,112,101]
abbrev l_:Bs:=[111,112,116,105,111,110,97,108]
abbrev jM:Bs:=[116,114,117,101]
abbrev kM:Bs:=[102,97,108,115,101]
abbrev tn:Bs:=[101,120,99,108,117,115,105,111,110]
abbrev lx:Bs:=[101,120,99,108,117,115,105,111,110,115]
abbrev k8:Bs:=[100,101,112,101,110,100,101,110,99,121]
abbrev ly:Bs:=[100,101,112,101,110,100,101,110,99,105,101,115]
def fY (i:fz):Nd:=.mk tn [] (bR (bR [] dI i.g) dA i.a) []
def xQ (d:Dp):List Nd:=
 let k:=bR (bR (bR (bR (bR (bR [] dI d.g) dA d.a) fa d.v) zD d.t) zE d.c) qt (eQ d.s)
 if d.o=1 then bR k l_ jM else if d.o=2 then bR k l_ kM else k
def eI (d:Dp):Nd:=.mk k8 [] (jl (xQ d) lx (d.x.map fY)) []
def nK (L:List Nd) (D:List Dp):List Nd:=jl L ly (D.map eI)
theorem zF {O:VH} {B:Nat} (L:List Nd) (tl:Tok) (D:List Dp) (tD:Tok) (ha:App O B 4 tl) (hB:B<=O.next) (hL:L.length<=10000) (hD:D.length<=10000) (hx:∀d∈D,d.x.length<=10000):VF Tryz.prog 71 [.sl L.length (ax L) tl,.sl D.length (D.flatMap aP) tD] O (aI fun m O'=>∃tk',m= .sl (nK L D).length (ax (nK L D)) tk'/\ey O B 4 tl O' tk'):=by
 refine VF.fg ?_;have hlen:=aQ fN D;refine VF.bU 82 [.tmp 4] Tryz.func71 ?_;refine VC.ag aa (ae @fI ?_);refine VC.ag aa (ae @fI ?_);refine VC.join aa [0,5] (fun tk:Tok=>[.sl L.length (ax L) tl,.sl (D.map eI).length (ax (D.map eI)) tk]) (fun tk O'=>O.Ge O') ?_ ?_;rotate_left
 ·intro tk O9 bg;refine ae @fI ?_;refine ah.rt (rB L tl ly (D.map eI) tk (ha.ge bg) (Nat.le_trans hB bg.next) (by omega) (by rw[List.length_map];omega)) ?_;rintro _ Oz ⟨tz,rfl,gz⟩;refine ao @fI @eC ?_;exact⟨tz,rfl,ey.pre bg gz⟩
 refine VC.ag aa (ae @fI ?_);refine VC.aD ?_;refine VC.bH [5,14] [0,12,13] (fun x:Nat×Tok=>[.sl ((D.take x.1).map eI).length (ax ((D.take x.1).map eI)) x.2,mi x.1]) (fun x O'=>O.Ge O'/\App O' O.next 4 x.2/\x.1<=D.length) (fun x=>D.length - x.1) ((0,.nil)) ?_ ?_
 ·exact⟨VH.Ge.refl _,trivial,Nat.zero_le _⟩
 rintro⟨j,ta⟩ O2 ⟨ay,cT,hj⟩;dsimp only at cT hj ⊢;by_cases h2:j<D.length;rotate_left
 ·obtain rfl:j=D.length:=by omega
  rw[List.take_length];refine WC.sound aa (ae @fI ?_);exact aA.mk ta ay
 have bu:=cj fN D j h2;have iM:(D.take (j+1)).map eI=(D.take j).map eI++[eI D[j]]:=by rw[cN _ _ h2,List.map_append];rfl
 have Cd:=hx D[j] (List.getElem_mem h2);have hAl:((D.take j).map eI).length<=10000:=by rw[List.length_map,List.length_take];omega
 generalize D[j]=d at*;generalize (D.take j).map eI=A at*;obtain⟨g,a,v,t,c,s,o,X⟩:=d;dsimp only at Cd;simp only[aP]at bu;refine VC.ag aa (ae @fI ?_);refine VC.ag aa (ae @fI ?_);refine VC.bA (VC.aD ?_);refine VC.ag aa (ao @fI @bu ?_);refine VC.al ?_;rintro O3 ⟨aO,hk,gZ⟩;have h0:ey O3 O3.next 4 .nil O3 .nil:=ey.refl App.nil;refine VC.ag aa (ae @fI ?_);refine VC.ag aa (ao @fI @hk ?_);refine ah.rt (fH [] _ dI g h0.2.1 h0.1.next (by first | omega | simp)) ?_;rintro _ OA ⟨t1,rfl,gw⟩;have h1:=h0.trans gw;have l1:=cZ [] dI g;clear gw;generalize eK1:bR [] dI g=K1 at*;have gQ:=(ey.ec App.nil h1).hp;have hn:=h1.1.next;try simp only[List.length_nil]at l1
 refine ae @fI ?_;refine VC.ag aa (aM @fI @hk @gQ ?_);refine ah.rt (fH K1 _ dA a h1.2.1 h1.1.next (by first | omega | simp)) ?_;rintro _ OB ⟨t2,rfl,gw⟩;have Zf:=h1.trans gw;have l2:=cZ K1 dA a;clear gw;generalize eK2:bR K1 dA a=K2 at*;have gQ:=(ey.ec App.nil Zf).hp;have hn:=Zf.1.next;try simp only[List.length_nil]at l2
 refine ae @fI ?_;refine VC.ag aa (aM @fI @hk @gQ ?_);refine ah.rt (fH K2 _ fa v Zf.2.1 Zf.1.next (by first | omega | simp)) ?_;rintro _ OC ⟨t3,rfl,gw⟩;have h3:=Zf.trans gw;have l3:=cZ K2 fa v;clear gw;generalize eK3:bR K2 fa v=K3 at*;have gQ:=(ey.ec App.nil h3).hp;have hn:=h3.1.next;try simp only[List.length_nil]at l3
 refine ae @fI ?_;refine VC.ag aa (aM @fI @hk @gQ ?_);refine ah.rt (fH K3 _ zD t h3.2.1 h3.1.next (by first | omega | simp)) ?_;rintro _ OD ⟨t4,rfl,gw⟩;have h4:=h3.trans gw;have l4:=cZ K3 zD t;clear gw;generalize eK4:bR K3 zD t=K4 at*;have gQ:=(ey.ec App.nil h4).hp;have hn:=h4.1.next;try simp only[List.length_nil]at l4
 refine ae @fI ?_;refine VC.ag aa (aM @fI @hk @gQ ?_);refine ah.rt (fH K4 _ zE c h4.2.1 h4.1.next (by first | omega | simp)) ?_;rintro _ OE ⟨t5,rfl,gw⟩;have h5:=h4.trans gw;have l5:=cZ K4 zE c;clear gw;generalize eK5:bR K4 zE c=K5 at*;have gQ:=(ey.ec App.nil h5).hp;have hn:=h5.1.next;try simp only[List.length_nil]at l5
 refine ae @fI ?_;refine VC.ag aa (aM @fI @hk @gQ ?_);refine ah.rt (RS s _) ?_;rintro _ OF ⟨rfl,rfl⟩;refine ae @fI ?_;refine ah.rt (fH K5 _ qt (eQ s) h5.2.1 h5.1.next (by first | omega | simp)) ?_;rintro _ OG ⟨t6,rfl,gw⟩;have h6:=h5.trans gw;have l6:=cZ K5 qt (eQ s);clear gw;generalize eK6:bR K5 qt (eQ s)=K6 at*;have gQ:=(ey.ec App.nil h6).hp;have hn:=h6.1.next;try simp only[List.length_nil]at l6
 refine ae @fI ?_;have hK:xQ ⟨g,a,v,t,c,s,o,X⟩=if o=1 then bR K6 l_ jM else if o=2 then bR K6 l_ kM else K6:=by rw[<-eK6, <-eK5, <-eK4, <-eK3, <-eK2, <-eK1];rfl
 clear eK6 eK5 eK4 eK3 eK2 eK1;have hl7:=cZ K6 l_ jM;have IS:=cZ K6 l_ kM;refine VC.join aa [0,5,7,8,9,12,13,14] (fun tk:Tok=>[.sl L.length (ax L) tl,.sl A.length (ax A) ta,.ptr O2.next 0,.sl (xQ ⟨g,a,v,t,c,s,o,X⟩).length (ax (xQ ⟨g,a,v,t,c,s,o,X⟩)) tk,.sl 0 [] .nil,.sl D.length (D.flatMap aP) tD,mi D.length,mi j]) (fun tk O'=>ey O3 O3.next 4 .nil O' tk) ?_ ?_
 ·refine VC.ag aa (aM @fI @hk @gQ ?_);refine VC.aD ?_;by_cases Zg:o=1
  ·rw[hK,if_pos Zg];refine WC.sound aa (ae @fI ?_);refine ah.rt (fH K6 _ l_ jM h6.2.1 h6.1.next (by first | omega | simp)) ?_;rintro _ OH ⟨t7,rfl,gw⟩;have h7:=h6.trans gw;have l7:=cZ K6 l_ jM;clear gw;generalize eK7:bR K6 l_ jM=K7 at*;have gQ:=(ey.ec App.nil h7).hp;have hn:=h7.1.next;try simp only[List.length_nil]at l7
   refine ae @fI ?_;exact aA.mk t7 h7
  ·rw[hK,if_neg Zg];by_cases Zh:o=2
   ·rw[if_pos Zh];refine WC.sound aa (ae @fI ?_);refine ah.rt (fH K6 _ l_ kM h6.2.1 h6.1.next (by first | omega | simp)) ?_;rintro _ OH ⟨t7,rfl,gw⟩;have h7:=h6.trans gw;have l7:=cZ K6 l_ kM;clear gw;generalize eK7:bR K6 l_ kM=K7 at*;have gQ:=(ey.ec App.nil h7).hp;have hn:=h7.1.next;try simp only[List.length_nil]at l7
    refine ae @fI ?_;exact aA.mk t7 h7
   ·rw[if_neg Zh];refine WC.sound aa (ae @fI ?_);exact aA.mk t6 h6
 have hKl:(xQ ⟨g,a,v,t,c,s,o,X⟩).length<=7:=by rw[hK];split<;>first | omega | (split<;>omega)
 intro tk O4 h7;generalize hKd:xQ ⟨g,a,v,t,c,s,o,X⟩=K at*;clear hK hl7 IS h6 gQ hn;have gQ:=(ey.ec App.nil h7).hp;have hn:=h7.1.next;refine aM @fI @hk @gQ ?_;refine VC.agp [0,5,8,9,12,13,14] (fun tx:Tok=>[.sl L.length (ax L) tl,.sl A.length (ax A) ta,.sl K.length (ax K) tk,.sl (X.map fY).length (ax (X.map fY)) tx,.sl D.length (D.flatMap aP) tD,mi D.length,mi j]) (fun tx O'=>O4.Ge O') ?_ ?_
 ·have FT:=aQ mQ X;refine WC.ik [9,56] [0,5,8,12,13,14,54,55] (fun x:Nat×Tok=>[.sl ((X.take x.1).map fY).length (ax ((X.take x.1).map fY)) x.2,mi x.1]) (fun x O'=>O4.Ge O'/\App O' O4.next 4 x.2/\x.1<=X.length) (fun x=>X.length - x.1) ((0,.nil)) ?_ ?_
  ·exact⟨VH.Ge.refl _,trivial,Nat.zero_le _⟩
  rintro⟨i,tx⟩ O5 ⟨bK,oc,hi⟩;dsimp only at oc hi ⊢;by_cases jx:i<X.length;rotate_left
  ·obtain rfl:i=X.length:=by omega
   rw[List.take_length];refine ae @fI ?_;exact aA.mk tx bK
  have hxt:=cj mQ X i jx;have UX:(X.take (i+1)).map fY=(X.take i).map fY++[fY X[i]]:=by rw[cN _ _ jx,List.map_append];rfl
  have FU:((X.take i).map fY).length<=10000:=by rw[List.length_map,List.length_take];omega
  generalize X[i]=y at*;generalize (X.take i).map fY=E at*;obtain⟨yg,ya⟩:=y;simp only[bO]at hxt;refine ao @fI @hxt ?_;refine VC.al ?_;rintro O6 ⟨fS,mA,ny⟩;refine VC.oe [9,10] ?_;refine ab.av 0 ?_;refine ae @fI ?_;refine ab.av 1 ?_;refine ae @fI ?_;refine ab.av 4 ?_;refine ae @fI ?_;refine ab.ld (m:=.str yg) 2 ?_ ?_
  ·exact dH @fI @mA
  simp only[aj];refine ab.ld (m:=.str ya) 5 ?_ ?_
  ·exact dH @fI @mA
  simp only[aj];refine ab.call (i:=3) (fH [] .nil dI yg (App.nil (B:=O6.next)) (Nat.le_refl _) (by simp)) ?_;rintro _ O7 ⟨t7,rfl,g7⟩;simp only[aj];have l7:=cZ [] dI yg;generalize e7:bR [] dI yg=E1 at*;simp only[List.length_nil]at l7;refine⟨ey.ec App.nil g7,?_⟩;refine ab.call (i:=6) (fH E1 t7 dA ya g7.2.1 g7.1.next (by omega)) ?_;rintro _ O8 ⟨t8,rfl,g8⟩;simp only[aj];have l8:=cZ E1 dA ya;have he:fY ⟨yg,ya⟩= .mk tn [] (bR E1 dA ya) []:=by rw[<-e7];rfl
  generalize bR E1 dA ya=E2 at*;have h8:=ey.ec App.nil (g7.trans g8);refine⟨h8,?_⟩;refine ab.av 7 ?_;refine ae @fI ?_;refine ab.op (i:=8) ?_;refine ae @fI ?_;refine⟨h8,?_⟩;refine ab.bI [(9,.one),(10,.av)] ?_;have gq:=fS.trans h8;have Zi:=oc.ge gq;refine ae @fI ?_;obtain⟨mE,fP,kN⟩:=fF (n:=E.length) (cs:=ax E) (ds:=[.str tn,.sl 0 [] .nil,.sl E2.length (ax E2) t8,.str []]) (es:=cY (fY ⟨yg,ya⟩)) nR td.1.1 Zi (cO E) rfl rfl (by decide) (by omega) (by simp only[maxLen];omega) (eC E) (by rw[he];simp only[wu,eC,cY];rfl);refine VL.k6 fP kN ?_;refine ae @fI ?_;exact aC.next (i+1,.own O8.next 4) ⟨cK.ec (bK.trans gq) Zi (cK.after Zi),App.after (Nat.le_trans bK.next gq.next),jx⟩ (hl:=(by dsimp only;rw[UX,dM,List.length_append,ax,ax,List.append_nil];rfl))
 intro tx O5 bK;have h5:=h7.ge bK;refine ae @fI ?_;refine ah.rt (rB K tk lx (X.map fY) tx h5.2.1 h5.1.next (by omega) (by rw[List.length_map];omega)) ?_;rintro _ O6 ⟨tb,rfl,g6⟩;have h6:=h5.trans g6;have tI:=px K lx (X.map fY);have Fv:eI ⟨g,a,v,t,c,s,o,X⟩= .mk k8 [] (jl K lx (X.map fY)) []:=by rw[<-hKd];rfl
 generalize jl K lx (X.map fY)=K9 at*;have Zj:=aO.trans (ey.ec App.nil h6);have ma:=cT.ge Zj;refine ae @fI ?_;obtain⟨mE,fP,kN⟩:=fF (n:=A.length) (cs:=ax A) (ds:=[.str k8,.sl 0 [] .nil,.sl K9.length (ax K9) tb,.str []]) (es:=cY (eI ⟨g,a,v,t,c,s,o,X⟩)) nR td.1.1 ma (cO A) rfl rfl (by decide) (by omega) (by simp only[maxLen];omega) (eC A) (by rw[Fv];simp only[wu,eC,cY];rfl);refine VL.k6 fP kN ?_;refine ae @fI ?_;refine WC.sound aa (ae @fI ?_);exact aC.next (j+1,.own O6.next 4) ⟨cK.ec (ay.trans Zj) ma (cK.after ma),App.after (Nat.le_trans ay.next Zj.next),h2⟩ (hl:=(by dsimp only;rw[iM,dM,List.length_append,ax,ax,List.append_nil];rfl))
set_option linter.defProp false in
def dB:=And.intro fI<|And.intro Lc<|And.intro zm BK
abbrev uM:Bs:=[112,97,114,101,110,116]
abbrev xf:Bs:=[112,97,99,107,97,103,105,110,103]
abbrev kO:Bs:=[112,114,111,112,101,114,116,105,101,115]
abbrev rC:Bs:=[100,101,112,101,110,100,101,110,99,121,77,97,110,97,103,101,109,101,110,116]
abbrev fT:Bs:=[112,114,111,106,101,99,116]
def DR (p:Pm):List Nd:=if p.hp then jl [] uM (bR (bR (bR [] dI p.par.g) dA p.par.a) fa p.par.v)else[]
def IT (p:Pm):List Nd:=bR (bR (bR (bR (DR p) dI p.g) dA p.a) fa p.v) xf p.pk
def gC (x:Bs×Bs):Nd:=.mk x.1 [] (if x.2=[]then[]else[.mk [] [] [] x.2]) []
def fh (p:Pm):Nd:=.mk fT [] (nK (jl (jl (IT p) kO (p.props.map gC)) rC (nK [] p.dY)) p.dQ) []
theorem Ln (L:List Nd) (D:List Dp):(nK L D).length<=L.length+1:=px _ _ _
theorem Zk {O:VH} (p:Pm) (hP:p.props.length<=10000) (hM:p.dY.length<=10000) (hD:p.dQ.length<=10000) (hx:∀d∈p.dY++p.dQ,d.x.length<=10000):VF Tryz.prog 49 [.agg (fO p)] O (aI fun m O'=>m= .agg (cY (fh p))/\O.Ge O'):=by
 refine VF.fg ?_;obtain⟨hp,⟨pg,pa,pv⟩,g,a,v,pk,P,M,D⟩:=p;dsimp only at hP hM hD hx;have hPl:=aQ eR P;simp only[fO];refine VF.bU 76 [.cell 2 112] Tryz.func49 ?_;refine VC.ag aa (ae @dB ?_);refine VC.bx ?_;rintro O1 ⟨aU,bN,du⟩;have hk:O1.hp O.next=some (.cells [mb hp,.str pg,.str pa,.str pv,.str g,.str a,.str v,.str pk,.sl P.length (P.flatMap aZ) .aq,.sl M.length (M.flatMap aP) .aq,.sl D.length (D.flatMap aP) .aq]):=(aU.hp _ (Nat.lt_succ_self _)).trans (VH.aW _ _)
 replace bN:O1.hp (O.next+1)=some (.cells [.str [],.sl 0 [] .nil,.sl 0 [] .nil,.str []]):=bN
 have lF:=((VH.Ge.refl O).push _).trans aU;have hn0:O1.next=O.next+2:=du;simp only[aY]at hk;clear aU du;have h0:ey O1 O1.next 4 .nil O1 .nil:=ey.refl App.nil;refine VC.ag aa (ae @dB ?_);have dF:(DR ⟨hp,⟨pg,pa,pv⟩,g,a,v,pk,P,M,D⟩).length<=1:=by unfold DR;split;exact px _ _ _;simp
 have hh:IT ⟨hp,⟨pg,pa,pv⟩,g,a,v,pk,P,M,D⟩=bR (bR (bR (bR (DR ⟨hp,⟨pg,pa,pv⟩,g,a,v,pk,P,M,D⟩) dI g) dA a) fa v) xf pk:=rfl;have hw:fh ⟨hp,⟨pg,pa,pv⟩,g,a,v,pk,P,M,D⟩= .mk fT [] (nK (jl (jl (IT ⟨hp,⟨pg,pa,pv⟩,g,a,v,pk,P,M,D⟩) kO (P.map gC)) rC (nK [] M)) D) []:=rfl;have hpp:DR ⟨hp,⟨pg,pa,pv⟩,g,a,v,pk,P,M,D⟩=if hp then jl [] uM (bR (bR (bR [] dI pg) dA pa) fa pv)else[]:=rfl
 rw[hh]at hw;clear hh;generalize fh ⟨hp,⟨pg,pa,pv⟩,g,a,v,pk,P,M,D⟩=W at*;generalize DR ⟨hp,⟨pg,pa,pv⟩,g,a,v,pk,P,M,D⟩=K0 at*;refine VC.bE [1,2,3,4] (fun tk:Tok=>[.ptr O.next 0,.ptr (O.next+1) 0,.sl K0.length (ax K0) tk,.sl 0 [] .nil]) (fun tk O'=>ey O1 O1.next 4 .nil O' tk) ?_ ?_
 ·cases hp
  ·refine VC.ag aa (ao @dB @hk ?_);rw[hpp];refine WC.sound aa (ae @dB ?_);exact aA.mk .nil h0
  ·refine VC.ag aa (ao @dB @hk ?_);rw[hpp];refine WC.sound aa (ae @dB ?_);refine VC.oe [] ?_;refine ab.av 0 ?_;refine ae @dB ?_;refine ab.av 1 ?_;refine ae @dB ?_;refine ab.av 2 ?_;refine ae @dB ?_;refine ab.ld (m:=.str pg) 3 ?_ ?_
   ·exact dH @dB @hk
   simp only[aj];refine ab.av 5 ?_;refine ae @dB ?_;refine ab.av 6 ?_;refine ae @dB ?_;refine ab.ld (m:=.str pa) 7 ?_ ?_
   ·exact dH @dB @hk
   simp only[aj];refine ab.av 9 ?_;refine ae @dB ?_;refine ab.av 10 ?_;refine ae @dB ?_;refine ab.ld (m:=.str pv) 11 ?_ ?_
   ·exact dH @dB @hk
   simp only[aj];refine ab.call (i:=4) (fH [] .nil dI pg (App.nil (B:=O1.next)) (Nat.le_refl _) (by simp)) ?_;rintro _ O2 ⟨t2,rfl,g2⟩;simp only[aj];have l2:=cZ [] dI pg;generalize bR [] dI pg=E1 at*;simp only[List.length_nil]at l2;refine⟨ey.ec App.nil g2,?_⟩;refine ab.call (i:=8) (fH E1 t2 dA pa g2.2.1 g2.1.next (by omega)) ?_;rintro _ O3 ⟨t3,rfl,g3⟩;simp only[aj];have l3:=cZ E1 dA pa;generalize bR E1 dA pa=E2 at*
   replace g3:=g2.trans g3
   refine⟨ey.ec App.nil g3,?_⟩;refine ab.call (i:=12) (fH E2 t3 fa pv g3.2.1 g3.1.next (by omega)) ?_;rintro _ O4 ⟨t4,rfl,g4⟩;simp only[aj];have l4:=cZ E2 fa pv;generalize bR E2 fa pv=E3 at*
   replace g4:=g3.trans g4
   refine⟨ey.ec App.nil g4,?_⟩;refine ab.call (i:=13) (rB [] .nil uM E3 t4 (App.nil (B:=O4.next)) (Nat.le_refl _) (by simp) (by omega)) ?_;rintro _ O5 ⟨t5,rfl,g5⟩;simp only[aj];refine⟨(ey.ec App.nil g4).trans (ey.ec App.nil g5),?_⟩;refine ab.av 14 ?_;refine ae @dB ?_;refine ab.bI [] ?_;refine ae @dB ?_;exact aA.mk t5 (ey.fresh (ey.ec App.nil g4) g5)
 intro tk O2 h2;have gQ:=(ey.ec App.nil h2).hp;have hn:=h2.1.next;clear hpp;refine VC.ag aa (aM @dB @hk @gQ ?_);refine ah.rt (fH K0 _ dI g h2.2.1 h2.1.next (by first | omega | simp)) ?_;rintro _ OA ⟨t1,rfl,gw⟩;have h3:=h2.trans gw;have l1:=cZ K0 dI g;clear gw;generalize eK1:bR K0 dI g=K1 at*;have gQ:=(ey.ec App.nil h3).hp;have hn:=h3.1.next;try simp only[List.length_nil]at l1
 refine ae @dB ?_;refine VC.ag aa (aM @dB @hk @gQ ?_);refine ah.rt (fH K1 _ dA a h3.2.1 h3.1.next (by first | omega | simp)) ?_;rintro _ OB ⟨t2,rfl,gw⟩;have h4:=h3.trans gw;have l2:=cZ K1 dA a;clear gw;generalize eK2:bR K1 dA a=K2 at*;have gQ:=(ey.ec App.nil h4).hp;have hn:=h4.1.next;try simp only[List.length_nil]at l2
 refine ae @dB ?_;refine VC.ag aa (aM @dB @hk @gQ ?_);refine ah.rt (fH K2 _ fa v h4.2.1 h4.1.next (by first | omega | simp)) ?_;rintro _ OC ⟨t3,rfl,gw⟩;have h5:=h4.trans gw;have l3:=cZ K2 fa v;clear gw;generalize eK3:bR K2 fa v=K3 at*;have gQ:=(ey.ec App.nil h5).hp;have hn:=h5.1.next;try simp only[List.length_nil]at l3
 refine ae @dB ?_;refine VC.ag aa (aM @dB @hk @gQ ?_);refine ah.rt (fH K3 _ xf pk h5.2.1 h5.1.next (by first | omega | simp)) ?_;rintro _ OD ⟨t4,rfl,gw⟩;have h6:=h5.trans gw;have l4:=cZ K3 xf pk;clear gw;generalize eK4:bR K3 xf pk=K4 at*;have gQ:=(ey.ec App.nil h6).hp;have hn:=h6.1.next;try simp only[List.length_nil]at l4
 refine ae @dB ?_;clear eK1 eK2 eK3 eK4;refine VC.bE [1,2,3,4] (fun tp:Tok=>[.ptr O.next 0,.ptr (O.next+1) 0,.sl K4.length (ax K4) t4,.sl (P.map gC).length (ax (P.map gC)) tp]) (fun tp O'=>OD.Ge O') ?_ ?_
 ·refine VC.ag aa (aM @dB @hk @gQ ?_);refine VC.aD ?_;refine VC.bH [4,43] [1,2,3,41,42] (fun x:Nat×Tok=>[.sl ((P.take x.1).map gC).length (ax ((P.take x.1).map gC)) x.2,mi x.1]) (fun x O'=>OD.Ge O'/\App O' OD.next 4 x.2/\x.1<=P.length) (fun x=>P.length - x.1) ((0,.nil)) ?_ ?_
  ·exact⟨VH.Ge.refl _,trivial,Nat.zero_le _⟩
  rintro⟨j,tp⟩ O3 ⟨aO,cT,hj⟩;dsimp only at cT hj ⊢;by_cases bd:j<P.length;rotate_left
  ·obtain rfl:j=P.length:=by omega
   rw[List.take_length];refine WC.sound aa (ae @dB ?_);exact aA.mk tp aO
  have bu:=cj eR P j bd;have iM:(P.take (j+1)).map gC=(P.take j).map gC++[gC P[j]]:=by rw[cN _ _ bd,List.map_append];rfl
  have FU:((P.take j).map gC).length<=10000:=by rw[List.length_map,List.length_take];omega
  generalize P[j]=y at*;generalize (P.take j).map gC=E at*;obtain⟨yn,yv⟩:=y;simp only[aZ]at bu;refine VC.ag aa (ae @dB ?_);refine VC.ag aa (ae @dB ?_);refine VC.bA (VC.aD ?_);refine VC.ag aa (ao @dB @bu ?_);refine VC.al ?_;rintro O4 ⟨bh,mA,g_⟩;refine VC.ag aa (ao @dB @mA ?_);refine VC.al ?_;rintro O5 ⟨bK,wJ,gu⟩;have hkz:O5.hp O3.next=some (.cells [.str yn,.str yv]):=bK.at mA;have mc:=(cT.ge bh).ge bK;have DT:=(aO.trans bh).trans bK;cases yv with
  | nil=>
    refine WC.sound aa (c8 @dB @hkz (show(([]:List UInt8)==[])=true from rfl) @wJ ?_);obtain⟨mE,fP,kN⟩:=fF (n:=E.length) (cs:=ax E) (ds:=[.str yn,.sl 0 [] .nil,.sl 0 [] .nil,.str []]) (es:=cY (gC (yn,[]))) nR td.1.1 mc (cO E) rfl rfl (by decide) (by omega) (by simp only[maxLen];omega) (eC E) (by simp only[wu,gC,cY,if_true,List.length_nil,List.flatMap_nil,ax]);refine VL.k6 fP kN ?_;refine ae @dB ?_;refine WC.sound aa (ae @dB ?_);exact aC.next (j+1,.own O5.next 4) ⟨cK.ec DT mc (cK.after mc),App.after DT.next,bd⟩ (hl:=(by dsimp only;rw[iM,dM,List.length_append,ax,ax,List.append_nil];rfl))
  | cons c yv=>
    refine WC.sound aa (c8 @dB @hkz (show((c::yv)==[])=false from rfl) @wJ ?_);have ma:=mc.set (x:=.cells [.str yn,.sl 0 [] .nil,.sl 1 [.str [],.sl 0 [] .nil,.sl 0 [] .nil,.str (c::yv)] .full,.str []]) wJ;have aeC:=DT.set (k:=O4.next) (by have:=aO.next;omega) (.cells [.str yn,.sl 0 [] .nil,.sl 1 [.str [],.sl 0 [] .nil,.sl 0 [] .nil,.str (c::yv)] .full,.str []]);generalize O5.set O4.next (.cells [.str yn,.sl 0 [] .nil,.sl 1 [.str [],.sl 0 [] .nil,.sl 0 [] .nil,.str (c::yv)] .full,.str []])=O6 at*;obtain⟨mE,fP,kN⟩:=fF (n:=E.length) (cs:=ax E) (ds:=[.str yn,.sl 0 [] .nil,.sl 1 [.str [],.sl 0 [] .nil,.sl 0 [] .nil,.str (c::yv)] .full,.str []]) (es:=cY (gC (yn,c::yv))) nR td.1.1 ma (cO E) rfl rfl (by decide) (by omega) (by simp only[maxLen];omega) (eC E) (by simp only[wu,gC,cY,if_neg (List.cons_ne_nil c yv),List.length_nil,List.length_cons,List.flatMap_nil,ax,List.append_nil,Nat.zero_add]);refine VL.k6 fP kN ?_;refine ae @dB ?_;refine WC.sound aa (ae @dB ?_);exact aC.next (j+1,.own O6.next 4) ⟨cK.ec aeC ma (cK.after ma),App.after aeC.next,bd⟩ (hl:=(by dsimp only;rw[iM,dM,List.length_append,ax,ax,List.append_nil];rfl))
 intro tp O3 aO;have h7:=h6.ge aO;clear gQ hn;have gQ:=(ey.ec App.nil h7).hp;have hn:=h7.1.next;refine VC.ag aa (ae @dB ?_);refine ah.rt (rB K4 t4 kO (P.map gC) tp h7.2.1 h7.1.next (by omega) (by rw[List.length_map];omega)) ?_;rintro _ O4 ⟨t5,rfl,g8⟩;have h8:=h7.trans g8;have l5:=px K4 kO (P.map gC);generalize jl K4 kO (P.map gC)=K5 at*;have aim:=(ey.ec App.nil h8).hp;have DU:=h8.1.next;refine ae @dB ?_;refine VC.ag aa (aM @dB @hk @aim ?_);refine ah.rt (zF [] .nil M .aq (App.nil (B:=O4.next)) (Nat.le_refl _) (by simp) hM (fun d hd=>hx d (List.mem_append_left _ hd))) ?_;rintro _ O5 ⟨t6,rfl,g9⟩;have l6:=Ln [] M;generalize nK [] M=K6 at*;simp only[List.length_nil]at l6;have h9:=h8.ge (ey.ec App.nil g9);refine ae @dB ?_;refine ah.rt (rB K5 t5 rC K6 t6 h9.2.1 h9.1.next (by omega) (by omega)) ?_;rintro _ O6 ⟨t7,rfl,g10⟩;have xF:=h9.trans g10;have l7:=px K5 rC K6;generalize jl K5 rC K6=K7 at*;have agx:=(ey.ec App.nil xF).hp;have He:=xF.1.next;refine ae @dB ?_;refine VC.ag aa (aM @dB @hk @agx ?_);refine ah.rt (zF K7 t7 D .aq xF.2.1 xF.1.next (by omega) hD (fun d hd=>hx d (List.mem_append_right _ hd))) ?_;rintro _ O7 ⟨t8,rfl,g11⟩;have h11:=xF.trans g11;generalize nK K7 D=K8 at*;have agy:=(ey.ec App.nil h11).hp;have aeD:=h11.1.next;have dG:=(agy _ (by omega)).trans bN;refine ao @dB @dG ?_;refine WC.sound aa (ao @dB @eC ?_);exact⟨by rw[hw,cY];rfl,(lF.trans (ey.ec App.nil h11)).set (by omega) _⟩
set_option linter.defProp false in
def dj:=And.intro zp<|And.intro dB<|And.intro aep<|And.intro DL<|And.intro aeu T69
theorem eP.trans {O O1 O2:VH} {b:Nat} {q q1 q2:Option Nat} (h:eP O b q O1 q1) (k:eP O1 b q1 O2 q2):eP O b q O2 q2:=
 ⟨Nat.le_trans h.next k.next,fun i hi hb hq=>by rw[k.hp i (Nat.lt_of_lt_of_le hi h.next) hb (h.new i hi hq),h.hp i hi hb hq],fun i hi hq=>k.new i (Nat.lt_of_lt_of_le hi h.next) (h.new i hi hq)⟩
theorem eP.lC {O O1:VH} {b:Nat} {q:Option Nat} (h:O.Ge O1):eP O b q O1 q:=⟨h.next,fun i hi _ _=>h.hp i hi,fun _ _ hq=>hq⟩
theorem fE.ge {O O':VH} {B b:Nat} {q:Option Nat} {s:List UInt8} (h:fE O B b q s) (u:O.Ge O'):fE O' B b q s:=h.xM (bj.lC u)
theorem eP.Cc {O O1 O2:VH} {b:Nat} {q:Option Nat} (h:O.Ge O1) (u:eP O1 b none O2 q) (hb:O.next<=b):O.Ge O2:=u.ge h hb (fun _ e=>by cases e)
theorem VH.Ge.RT {O O1 O2:VH} {q:Option Nat} (h:O.Ge O1) (u:bj O1 q O2) (hq:∀i,q=some i->O.next<=i):O.Ge O2:=⟨Nat.le_trans h.next u.next,fun i hi=>(u.hp i (Nat.lt_of_lt_of_le hi h.next) (fun e=>by have:=hq i e;omega)).trans (h.hp i hi)⟩
def oG (attr:Bool) (c:UInt8):Bs:=
 if c=38 then[38,97,109,112,59]else if c=60 then[38,108,116,59]else if c=62 then[38,103,116,59]else if c=13 then[38,35,49,51,59]
 else if attr&&c==34 then[38,113,117,111,116,59]else if attr&&c==9 then[38,35,57,59]else if attr&&c==10 then[38,35,49,48,59]else[c]
def me (attr:Bool) (s:Bs):Bs:=s.flatMap (oG attr)
theorem UY (attr:Bool) (c:UInt8):(oG attr c).length<=6:=by
 unfold oG;repeat' split
 all_goals simp
theorem nA (attr:Bool) (s:Bs):(me attr s).length<=6*s.length:=by
 induction s with
 | nil=>simp[me]
 | cons c s ih=>
   have:=UY attr c;unfold me at ih ⊢;rw[List.flatMap_cons,List.length_append,List.length_cons];omega
theorem AH (s:Bs) (attr:Bool) (O:VH) (hs:s.length<=1000000):VF Tryz.prog 66 [.str s,mb attr] O (aI fun m O'=>m= .str (me attr s)/\O.Ge O'):=by
 have hsm:s.length<=maxLen:=Nat.le_trans hs (by decide);have hm:(s.length:Int)<=9223372036854775807:=by omega
 refine VF.dh 56 [.tmp 4] Tryz.func66 ?_;refine ae @dj ?_;have uN:=fE.fresh O (Nat.le_refl O.next);have lO:O.Ge ((O.push (.cells [.v (.pointer none),.sl 0 [] .nil])).push (.shape O.next 145 2)):=((VH.Ge.refl O).push _).push _;generalize ((O.push (.cells [.v (.pointer none),.sl 0 [] .nil])).push (.shape O.next 145 2))=O1 at*;refine VL.bytes aa (el:=5) (l:=s) rfl rfl (by rw[T9];rfl) (by rw[th];rfl) (by rw[T5];rfl) hsm rfl fun cap h1 h2=>WL.sound aa ?_
 have wN:=VH.aW O1 (.cells (s.map fp));have aU:=(VH.Ge.refl O1).push (.cells (s.map fp));have du:O1.next<(O1.push (.cells (s.map fp))).next:=Nat.lt_succ_self _;have tI:=uN.hi;have cy:=uN.ge aU;have tH:eP O1 O.next none (O1.push (.cells (s.map fp))) none:=eP.lC aU;generalize O1.push (.cells (s.map fp))=O2 at*;refine ae @dj ?_;refine WC.ik [11] [1,5,9,10] (fun x:Nat×Option Nat=>[mi x.1]) (fun x O'=>eP O2 O.next none O' x.2/\fE O' O.next O.next x.2 (me attr (s.take x.1))/\x.1<=s.length) (fun x=>s.length - x.1) ((0,none)) ?_ ?_
 ·exact⟨eP.lC (VH.Ge.refl _),cy,Nat.zero_le _⟩
 rintro⟨j,q⟩ O3 ⟨hu,hb,hj⟩;dsimp only at hu hb hj ⊢;have Ce:=(hu.hp O1.next du (by omega) (by simp)).trans wN;by_cases h3:j<s.length
 ·have nS:=List.getElem?_eq_getElem h3;have iM:me attr (s.take (j+1))=me attr (s.take j)++oG attr s[j]:=by unfold me;rw[cN _ _ h3,List.flatMap_append,List.flatMap_cons,List.flatMap_nil,List.append_nil]
  have cE:(me attr (s.take j)).length<=6000000:=by have:=nA attr (s.take j);rw[List.length_take]at this;omega
  generalize me attr (s.take j)=T at*;generalize s[j]=c at*;have hc:=c.toNat_lt;have key:∀(l:Bs) (q':Option Nat) (O4:VH),oG attr c=l->fE O4 O.next O.next q' (T++l)->eP O3 O.next q O4 q'->eP O2 O.next none O4 q'/\fE O4 O.next O.next q' (me attr (s.take (j+1)))/\j+1<=s.length:=fun l q' O4 e h k=>⟨hu.trans k,by rw[iM,e];exact h,h3⟩
  have IU:c=38 ↔ c.toNat=38:=⟨fun h=>by rw[h];rfl,fun h=>UInt8.toNat_inj.1 h⟩;have Lo:c=60 ↔ c.toNat=60:=⟨fun h=>by rw[h];rfl,fun h=>UInt8.toNat_inj.1 h⟩;have PG:c=62 ↔ c.toNat=62:=⟨fun h=>by rw[h];rfl,fun h=>UInt8.toNat_inj.1 h⟩;have UZ:c=13 ↔ c.toNat=13:=⟨fun h=>by rw[h];rfl,fun h=>UInt8.toNat_inj.1 h⟩;have e34:c=34 ↔ c.toNat=34:=⟨fun h=>by rw[h];rfl,fun h=>UInt8.toNat_inj.1 h⟩;have e9:c=9 ↔ c.toNat=9:=⟨fun h=>by rw[h];rfl,fun h=>UInt8.toNat_inj.1 h⟩;have rD:c=10 ↔ c.toNat=10:=⟨fun h=>by rw[h];rfl,fun h=>UInt8.toNat_inj.1 h⟩;by_cases Zl:c.toNat=38
  ·refine c8 @dj @nS @Ce @aG ?_;refine ah.rt (bC [38,97,109,112,59] hb (by simp only[List.length_cons,List.length_nil];omega)) ?_;rintro _ O4 ⟨rfl,q',cL,eS⟩;refine ae @dj ?_;exact aC.next (j+1,q') (key _ _ _ (by simp[oG,IU,Zl]) cL eS)
  by_cases Lp:c.toNat=60
  ·refine c8 @dj @nS @Ce @aG ?_;refine ah.rt (bC [38,108,116,59] hb (by simp only[List.length_cons,List.length_nil];omega)) ?_;rintro _ O4 ⟨rfl,q',cL,eS⟩;refine ae @dj ?_;exact aC.next (j+1,q') (key _ _ _ (by simp[oG,IU,Lo,Lp]) cL eS)
  by_cases h62:c.toNat=62
  ·refine c8 @dj @nS @Ce @aG ?_;refine ah.rt (bC [38,103,116,59] hb (by simp only[List.length_cons,List.length_nil];omega)) ?_;rintro _ O4 ⟨rfl,q',cL,eS⟩;refine ae @dj ?_;exact aC.next (j+1,q') (key _ _ _ (by simp[oG,IU,Lo,PG,h62]) cL eS)
  by_cases h13:c.toNat=13
  ·refine c8 @dj @nS @Ce @aG ?_;refine ah.rt (bC [38,35,49,51,59] hb (by simp only[List.length_cons,List.length_nil];omega)) ?_;rintro _ O4 ⟨rfl,q',cL,eS⟩;refine ae @dj ?_;exact aC.next (j+1,q') (key _ _ _ (by simp[oG,IU,Lo,PG,UZ,h13]) cL eS)
  cases attr
  ·refine c8 @dj @nS @Ce @aG ?_;refine ah.rt (sq c hb (by omega)) ?_;rintro _ O4 ⟨rfl,q',cL,eS⟩;refine ae @dj ?_;exact aC.next (j+1,q') (key _ _ _ (by simp[oG,IU,Lo,PG,UZ,Zl,Lp,h62,h13]) cL eS)
  by_cases h34:c.toNat=34
  ·refine c8 @dj @nS @Ce @aG ?_;refine ah.rt (bC [38,113,117,111,116,59] hb (by simp only[List.length_cons,List.length_nil];omega)) ?_;rintro _ O4 ⟨rfl,q',cL,eS⟩;refine ae @dj ?_;exact aC.next (j+1,q') (key _ _ _ (by simp[oG,IU,Lo,PG,UZ,e34,h34]) cL eS)
  by_cases h9:c.toNat=9
  ·refine c8 @dj @nS @Ce @aG ?_;refine ah.rt (bC [38,35,57,59] hb (by simp only[List.length_cons,List.length_nil];omega)) ?_;rintro _ O4 ⟨rfl,q',cL,eS⟩;refine ae @dj ?_;exact aC.next (j+1,q') (key _ _ _ (by simp[oG,IU,Lo,PG,UZ,e34,e9,h9]) cL eS)
  by_cases xF:c.toNat=10
  ·refine c8 @dj @nS @Ce @aG ?_;refine ah.rt (bC [38,35,49,48,59] hb (by simp only[List.length_cons,List.length_nil];omega)) ?_;rintro _ O4 ⟨rfl,q',cL,eS⟩;refine ae @dj ?_;exact aC.next (j+1,q') (key _ _ _ (by simp[oG,IU,Lo,PG,UZ,e34,e9,rD,xF]) cL eS)
  ·refine c8 @dj @nS @Ce @aG ?_;refine ah.rt (sq c hb (by omega)) ?_;rintro _ O4 ⟨rfl,q',cL,eS⟩;refine ae @dj ?_;exact aC.next (j+1,q') (key _ _ _ (by simp[oG,IU,Lo,PG,UZ,e34,e9,rD,Zl,Lp,h62,h13,h34,h9,xF]) cL eS)
 ·obtain rfl:j=s.length:=by omega
  rw[List.take_length]at hb;have FO:=nA attr s;refine ae @dj ?_;refine ah.rt (po hb (by simp only[maxLen];omega)) ?_;rintro _ O4 ⟨rfl,eS⟩;refine ae @dj ?_;exact(eP.Cc (lO.trans aU) hu (Nat.le_refl _)).RT eS hb.xe
structure PH where
 k:Int
 n:Bs
 fq:List (Bs×Bs)
 t:Bs
 off:Nat
 line:Nat
 DV:Nat
 deriving DecidableEq
def DW (x:PH):List MV:=[mi x.k,.str x.n,.sl x.fq.length (x.fq.flatMap aZ) .aq,.str x.t,mi x.off,mi x.line,mi x.DV]
def oq (a:Bs×Bs):Bs:=[32]++a.1++[61,34]++me true a.2++[34]
def DY (n:Bs) (L:List (Bs×Bs)) (e:Bs):Bs:=[60]++n++L.flatMap oq++e
theorem DZ (a:Bs×Bs) (h1:a.1.length<=1000000) (h2:a.2.length<=1000000):(oq a).length<=7000004:=by
 have:=nA true a.2;simp only[oq,List.length_append,List.length_cons,List.length_nil];omega
theorem qu:∀L:List (Bs×Bs),(∀a∈L,a.1.length<=1000000/\a.2.length<=1000000)->(L.flatMap oq).length<=L.length*7000004
 | [],_=>by simp
 | a::L,h=>by
   have h1:=DZ a (h a (by simp)).1 (h a (by simp)).2;have h2:=qu L fun x hx=>h x (List.mem_cons_of_mem _ hx)
   rw[List.flatMap_cons,List.length_append,List.length_cons,Nat.succ_mul];omega
theorem Zm {O:VH} {B b:Nat} {q:Option Nat} {s:Bs} (x:PH) (e:Bs) (h:fE O B b q s) (hs:s.length<=10000000000000) (hn:x.n.length<=1000000) (he:e.length<=1000000) (hA:∀a∈x.fq,a.1.length<=1000000/\a.2.length<=1000000) (hl:x.fq.length<=1000000):
  VF Tryz.prog 87 [.ptr b 0,.agg (DW x),.str e] O (aI fun m O'=>∃q',fE O' B b q' (s++DY x.n x.fq e)/\eP O b q O' q'):=by
 obtain⟨k,n,L,t,off,line,DV⟩:=x;dsimp only at hn hA hl;have ob:=aQ eR L;simp only[DW];refine VF.bU 35 [] Tryz.func87 ?_;refine VC.ag aa (ae @dj ?_);refine VC.bx ?_;rintro O1 ⟨aU,hk,du⟩;have cy:=h.ge aU;try simp only[au]at hk
 refine VC.ag aa (ao @dj @hk ?_);refine ah.rt (bC ([60]++n) cy (by simp only[List.length_append,List.length_cons,List.length_nil];omega)) ?_;rintro _ O2 ⟨rfl,q2,b9,c7⟩;have bN:=(c7.hp O.next (by omega) (by have:=h.hi;omega) (h.RR _ (Nat.le_refl _))).trans hk;refine ae @dj ?_;refine VC.bE [0,2] (fun q:Option Nat=>[.ptr b 0,.str e]) (fun q' O'=>eP O b q O' q'/\fE O' B b q' (s++([60]++n)++L.flatMap oq)) ?_ ?_
 ·refine VC.ag aa (ao @dj @bN ?_);refine VC.aD ?_;refine VC.bH [16] [0,2,14,15] (fun x:Nat×Option Nat=>[mi x.1]) (fun x O'=>eP O b q O' x.2/\fE O' B b x.2 (s++([60]++n)++(L.take x.1).flatMap oq)/\x.1<=L.length) (fun x=>L.length - x.1) ((0,q2)) ?_ ?_
  ·exact⟨(eP.lC aU).trans c7,by simpa using b9,Nat.zero_le _⟩
  rintro⟨j,qj⟩ O3 ⟨cG,ct,hj⟩;dsimp only at cG ct hj ⊢;by_cases bd:j<L.length;rotate_left
  ·obtain rfl:j=L.length:=by omega
   rw[List.take_length]at ct;refine WC.sound aa (ae @dj ?_);exact aA.mk qj ⟨cG,ct⟩
  have bu:=cj eR L j bd;have iM:(L.take (j+1)).flatMap oq=(L.take j).flatMap oq++oq L[j]:=by rw[cN _ _ bd,List.flatMap_append,List.flatMap_cons,List.flatMap_nil,List.append_nil]
  have iB:=hA L[j] (List.getElem_mem bd);have dF:=DZ L[j] iB.1 iB.2
  have hTl:((L.take j).flatMap oq).length<=7000004000000:=by
   have:=qu (L.take j) fun a ha=>hA a (List.mem_of_mem_take ha)
   rw[List.length_take]at this;omega
  generalize L[j]=y at*;generalize (L.take j).flatMap oq=T at*;obtain⟨yn,yv⟩:=y;dsimp only at iB;simp only[aZ]at bu;refine VC.ag aa (ae @dj ?_);refine VC.ag aa (ae @dj ?_);refine VC.bA (VC.aD ?_);refine VC.ag aa (ao @dj @bu ?_);refine VC.al ?_;rintro O4 ⟨bh,mA,g_⟩;have cL:=ct.ge bh;refine VC.oe [10] ?_;refine ab.av 0 ?_;refine ae @dj ?_;refine ab.av 1 ?_;refine ae @dj ?_;refine ab.ld (m:=.str yn) 2 ?_ ?_
  ·exact dH @dj @mA
  simp only[aj];refine ab.av 3 ?_;refine ae @dj ?_;refine ab.av 4 ?_;refine ae @dj ?_;refine ab.av 5 ?_;refine ae @dj ?_;refine ab.ld (m:=.str yv) 6 ?_ ?_
  ·exact dH @dj @mA
  simp only[aj];refine ab.call (i:=7) (AH yv true _ iB.2) ?_;rintro _ O5 ⟨rfl,bK⟩;simp only[aj];refine⟨bK,?_⟩;have FO:=nA true yv;have hae:oq (yn,yv)=[32]++yn++[61,34]++me true yv++[34]:=rfl;generalize me true yv=E at*;refine ab.av 8 ?_;refine ae @dj ?_;refine ab.av 9 ?_;refine ae @dj ?_;refine ab.bI [(10,.one)] ?_;refine ae @dj ?_;refine ah.rt (bC ([32]++yn++[61,34]++E++[34]) (cL.ge bK) (by simp only[List.length_append,List.length_cons,List.length_nil];omega)) ?_;rintro _ O6 ⟨rfl,q6,iC,qL⟩;refine ae @dj ?_;refine WC.sound aa (ae @dj ?_);exact aC.next (j+1,q6) ⟨(cG.trans (eP.lC (bh.trans bK))).trans qL,by rw[iM,hae, <-List.append_assoc];exact iC,bd⟩
 rintro q3 O3 ⟨cG,ct⟩;have hTl:=qu L hA;refine WC.sound aa (ae @dj ?_);refine ah.rt (bC e ct (by simp only[List.length_append,List.length_cons,List.length_nil];omega)) ?_;rintro _ O4 ⟨rfl,q4,cL,eS⟩;refine ae @dj ?_;refine⟨q4,?_,cG.trans eS⟩;simpa[DY,List.append_assoc]using cL
def xR (x:PH):Bs:=
 if x.k=5 then[60,33,45,45]++x.t++[45,45,62]else if x.k=6 then[60,63,120,109,108]++x.t++[63,62]else if x.k=3 then[60,47]++x.n++[62]
 else if x.k=1 then DY x.n x.fq [62]else if x.k=2 then DY x.n x.fq [47,62]else if x.k=4 then me false x.t else[]
structure PI (x:PH):Prop where
 n:x.n.length<=1000000
 t:x.t.length<=1000000
 a:∀a∈x.fq,a.1.length<=1000000/\a.2.length<=1000000
 l:x.fq.length<=1000000
theorem Hf (n:Bs) (L:List (Bs×Bs)) (e:Bs) (hn:n.length<=1000000) (he:e.length<=10) (hA:∀a∈L,a.1.length<=1000000/\a.2.length<=1000000) (hl:L.length<=1000000):(DY n L e).length<=8000000000000:=by
 have:=qu L hA;simp only[DY,List.length_append,List.length_cons,List.length_nil];omega
theorem Lq (x:PH) (h:PI x):(xR x).length<=8000000000000:=by
 have h1:=h.n;have h2:=h.t;have h3:=Hf x.n x.fq [62] h.n (by simp) h.a h.l;have h4:=Hf x.n x.fq [47,62] h.n (by simp) h.a h.l;have h5:=nA false x.t;unfold xR;repeat' split
 all_goals first | omega | (simp only[List.length_append,List.length_cons,List.length_nil];omega)
theorem U0 {O:VH} (x:PH) (tk:Tok) (h:PI x):VF Tryz.prog 67 [.sl 1 (DW x) tk] O (aI fun m O'=>m= .str (xR x)/\O.Ge O'):=by
 have dF:=Lq x h;have hn:=h.n;have ht:=h.t;have U3:∀l:Bs,l.length<=3000000->l.length<=140737488355328:=fun l h=>by omega
 have bu:(DW x++[]).length=7:=rfl;obtain⟨k,n,L,t,off,line,DV⟩:=x;dsimp only at hn ht;refine VF.bU 51 [.tmp 2] Tryz.func67 ?_;simp only[DW];refine VC.ag aa (ae @dj ?_);refine VC.ag aa (ae @dj ?_);have uN:=fE.fresh O (Nat.le_refl O.next);have lO:O.Ge ((O.push (.cells [.v (.pointer none),.sl 0 [] .nil])).push (.shape O.next 145 2)):=((VH.Ge.refl O).push _).push _;generalize ((O.push (.cells [.v (.pointer none),.sl 0 [] .nil])).push (.shape O.next 145 2))=O1 at*;refine VC.bE [3] (fun q:Option Nat=>[.ptr O.next 0]) (fun q O'=>O.Ge O'/\fE O' O.next O.next q (xR ⟨k,n,L,t,off,line,DV⟩)) ?_ ?_;rotate_left
 ·rintro q O2 ⟨ay,b9⟩;refine WC.sound aa (ae @dj ?_);refine ah.rt (po b9 (by simp only[maxLen];omega)) ?_;rintro _ O3 ⟨rfl,cG⟩;refine ae @dj ?_;exact ay.RT cG b9.xe
 refine VC.ag aa (ae @dj ?_);refine VC.aD ?_;refine VC.bH [8] [3,6,7] (fun x:Bool×Option Nat=>[mi (if x.1 then 1 else 0)]) (fun x O'=>O.Ge O'/\fE O' O.next O.next x.2 (if x.1 then xR ⟨k,n,L,t,off,line,DV⟩else[])) (fun x=>if x.1 then 0 else 1) ((false,none)) ?_ ?_
 ·exact⟨lO,uN⟩
 rintro⟨j,q⟩ O2 ⟨ay,b9⟩;dsimp only at b9 ⊢;cases j;rotate_left
 ·rw[if_pos rfl]at b9 ⊢;refine WC.sound aa (ae @dj ?_);exact aA.mk q ⟨ay,b9⟩
 rw[if_neg (by decide)]at b9 ⊢;refine VC.ag aa (ae @dj ?_);refine VC.ag aa (ae @dj ?_);refine VC.bA (VC.aD ?_);refine VC.ag aa (ae @dj ?_);refine VC.al ?_;rintro O3 ⟨aO,hk,gZ⟩;have ct:=b9.ge aO;have fin:∀(l:Bs) (q':Option Nat) (O4:VH),xR ⟨k,n,L,t,off,line,DV⟩=l->fE O4 O.next O.next q' ([]++l)->eP O3 O.next q O4 q'->O.Ge O4/\fE O4 O.next O.next q' (xR ⟨k,n,L,t,off,line,DV⟩):=fun l q' O4 e h k=>⟨k.ge (ay.trans aO) (Nat.le_refl _) ct.xe,by rw[e];exact h⟩
 by_cases h5:k=5
 ·subst h5;refine WC.sound aa (ao @dj @hk ?_);refine ah.rt (bC ([60,33,45,45]++t++[45,45,62]) ct (by simp only[List.length_append,List.length_cons,List.length_nil];omega)) ?_;rintro _ O4 ⟨rfl,q',cL,eS⟩;refine ae @dj ?_;refine WC.sound aa (ae @dj ?_);exact aC.next (true,q') (fin _ _ _ rfl cL eS) (hm:=Nat.zero_lt_one)
 by_cases h6:k=6
 ·subst h6;refine WC.sound aa (ao @dj @hk ?_);refine ah.rt (bC ([60,63,120,109,108]++t++[63,62]) ct (by simp only[List.length_append,List.length_cons,List.length_nil];omega)) ?_;rintro _ O4 ⟨rfl,q',cL,eS⟩;refine ae @dj ?_;refine WC.sound aa (ae @dj ?_);exact aC.next (true,q') (fin _ _ _ rfl cL eS) (hm:=Nat.zero_lt_one)
 by_cases h3:k=3
 ·subst h3;refine WC.sound aa (ao @dj @hk ?_);refine ah.rt (bC ([60,47]++n++[62]) ct (by simp only[List.length_append,List.length_cons,List.length_nil];omega)) ?_;rintro _ O4 ⟨rfl,q',cL,eS⟩;refine ae @dj ?_;refine WC.sound aa (ae @dj ?_);exact aC.next (true,q') (fin _ _ _ rfl cL eS) (hm:=Nat.zero_lt_one)
 by_cases h1:k=1
 ·subst h1;refine WC.sound aa (ao @dj @hk ?_);refine ah.rt (Zm ⟨1,n,L,t,off,line,DV⟩ [62] ct (by simp) hn (by simp) h.a h.l) ?_;rintro _ O4 ⟨q',cL,eS⟩;refine ae @dj ?_;refine WC.sound aa (ae @dj ?_);exact aC.next (true,q') (fin _ _ _ rfl cL eS) (hm:=Nat.zero_lt_one)
 by_cases h2:k=2
 ·subst h2;refine WC.sound aa (ao @dj @hk ?_);refine ah.rt (Zm ⟨2,n,L,t,off,line,DV⟩ [47,62] ct (by simp) hn (by simp) h.a h.l) ?_;rintro _ O4 ⟨q',cL,eS⟩;refine ae @dj ?_;refine WC.sound aa (ae @dj ?_);exact aC.next (true,q') (fin _ _ _ rfl cL eS) (hm:=Nat.zero_lt_one)
 by_cases h4:k=4
 ·subst h4;have FO:=nA false t;refine WC.sound aa (ao @dj @hk ?_);refine ah.rt (AH t false _ ht) ?_;rintro _ O4 ⟨rfl,bh⟩;refine ae @dj ?_;refine ah.rt (bC (me false t) (ct.ge bh) (by simp only[List.length_nil];omega)) ?_;rintro _ O5 ⟨rfl,q',cR,qf⟩;refine ae @dj ?_;refine WC.sound aa (ae @dj ?_);exact aC.next (true,q') (fin _ _ _ rfl cR ((eP.lC bh).trans qf)) (hm:=Nat.zero_lt_one)
 ·have fw:xR ⟨k,n,L,t,off,line,DV⟩=[]:=by simp[xR,h1,h2,h3,h4,h5,h6]
  refine WC.sound aa (ao @dj @hk ?_);refine WC.sound aa (ae @dj ?_);exact aC.next (true,q) (fin _ _ _ fw (by simpa using ct) (eP.lC (VH.Ge.refl _))) (hm:=Nat.zero_lt_one)
theorem ain:eh Tryz.t146.desc=false:=by kernel_rfl
set_option linter.defProp false in
def ei:=And.intro dj<|And.intro ahP ain
mutual
def dN:Nd->Nat
 | .mk _ _ k _=>1+bM k
def bM:List Nd->Nat
 | []=>0
 | x::r=>dN x+bM r
end
theorem D0 (n:Bs) (a:List (Bs×Bs)) (k:List Nd) (t:Bs):dN (.mk n a k t)=1+bM k:=by rw[dN]
mutual
def zG:Nd->Prop
 | .mk n a k t=>n.length<=1000000/\t.length<=1000000/\(∀x∈a,x.1.length<=1000000/\x.2.length<=1000000)/\a.length<=1000000/\k.length<=1000000/\su k
def su:List Nd->Prop
 | []=>True
 | x::r=>zG x/\su r
end
mutual
def bY:Nd->Bs
 | .mk n a k t=>if n=[]then me false t else xR ⟨if k.length=0 then 2 else 1,n,a,[],0,0,0⟩++aS k++(if k.length=0 then[]else[60,47]++n++[62])
def aS:List Nd->Bs
 | []=>[]
 | x::r=>bY x++aS r
end
theorem zH:∀{k:List Nd} {x:Nd},x∈k->dN x<=bM k
 | y::r,x,h=>by
   rw[bM];rcases List.mem_cons.1 h with rfl | h
   ·omega
   ·have:=zH h;omega
theorem D1:∀{k:List Nd} {x:Nd},su k->x∈k->zG x
 | y::r,x,h,hx=>by
   rw[su]at h;rcases List.mem_cons.1 hx with rfl | hx
   ·exact h.1
   ·exact D1 h.2 hx
theorem tr (L M:List Nd):aS (L++M)=aS L++aS M:=by
 induction L with
 | nil=>rw[List.nil_append,aS,List.nil_append]
 | cons x L ih=>rw[List.cons_append,aS,aS,ih,List.append_assoc]
theorem py (L:List Nd):ax L=L.flatMap cY:=by
 induction L with
 | nil=>rw[ax];rfl
 | cons x L ih=>rw[ax,ih,List.flatMap_cons]
theorem Zn:∀(N:Nat) (x:Nd) (O:VH) (B b lk:Nat) (q:Option Nat) (s:Bs),dN x<=N->fE O B b q s->O.hp lk=some (.cells [.func (.func 64) [] [.ptr b 0,.ptr lk 0]])->lk<O.next->lk≠b->q≠some lk->s.length+(bY x).length<=10000000000000->zG x->
  VF Tryz.prog 64 [.agg (cY x),.ptr b 0,.ptr lk 0] O (aI fun m O'=>∃q',fE O' B b q' (s++bY x)/\eP O b q O' q')
 | 0,.mk n a k t=>fun O B b lk q s h=>by rw[D0]at h;omega
 | N+1,.mk n a k t=>fun O B b lk q s hN h fR ua AI pB hs b_=>by
   rw[D0]at hN;rw[zG]at b_;obtain⟨hn,ht,hA,hAl,kP,hks⟩:=b_;rw[bY]at hs ⊢;rw[cY];refine VF.bU 48 [] Tryz.func64 ?_;refine VC.ag aa (ae @ei ?_);refine VC.bx ?_;rintro O1 ⟨aU,hk,du⟩;have cy:=h.ge aU;have akd:=(aU.hp _ ua).trans fR;cases n with
   | nil=>
     rw[if_pos rfl]at hs ⊢;refine VC.ag aa (aM @ei @hk (show(([]:List UInt8)==[])=true from rfl) ?_);refine ah.rt (AH t false _ ht) ?_;rintro _ O2 ⟨rfl,ay⟩;have FO:=nA false t;refine ae @ei ?_;refine ah.rt (bC (me false t) (cy.ge ay) (by omega)) ?_;rintro _ O3 ⟨rfl,q',ct,cG⟩;refine ae @ei ?_;exact⟨q',ct,(eP.lC (aU.trans ay)).trans cG⟩
   | cons c n=>
     rw[if_neg (by simp)]at hs ⊢;have hnb:((c::n)==[])=false:=rfl;generalize D2:c::n=nm at*;have tY:PI ⟨if k.length=0 then 2 else 1,nm,a,[],0,0,0⟩:=⟨hn,by simp,hA,hAl⟩;refine VC.ag aa (aM @ei @hk @hnb ?_);refine VC.ag aa (aM @ei @hk @hnb ?_);refine VC.al ?_;rintro O2 ⟨ay,hkt,jk⟩;have bN:=(ay.hp O.next (by omega)).trans hk;refine VC.bE [1,2,3,4] (fun _:Unit=>[.ptr b 0,.ptr lk 0,.ptr O.next 0,.ptr O1.next 0]) (fun _ O'=>O.Ge O'/\O'.next=O2.next/\O'.hp O.next=some (.cells (cY (.mk nm a k t)))/\O'.hp O1.next=some (.cells (DW ⟨if k.length=0 then 2 else 1,nm,a,[],0,0,0⟩))) ?_ ?_
     ·have lF:=aU.trans ay;by_cases h0:k.length=0
      ·refine VC.ag aa (ao @ei @bN ?_);refine WC.sound aa (ao @ei @h0 ?_);exact aA.mk () ⟨lF,rfl,by rw[bN,cY],by rw[hkt];rfl⟩
      ·have h1:0<k.length:=by omega
       refine VC.ag aa (ao @ei @bN ?_);refine WC.sound aa (ao @ei @hkt ?_);refine aA.mk () ⟨lF.set (by omega) _,rfl,?_,?_⟩
       ·rw[VH.ak _ _ (by omega),bN,cY]
       ·rw[VH.an,if_neg h0];rfl
     rintro⟨⟩ O3 ⟨aO,gZ,dG,aeE⟩;have ct:=h.ge aO;simp only[cY]at dG;generalize hX:(⟨if k.length=0 then 2 else 1,nm,a,[],0,0,0⟩:PH)=X at*;have tJ:=Lq X tY;simp only[List.length_append]at hs;have hXc:DW X=[mi X.k,.str X.n,.sl X.fq.length (X.fq.flatMap aZ) .aq,.str X.t,mi X.off,mi X.line,mi X.DV]:=rfl;rw[hXc,au,au,au,au]at aeE;refine VC.ag aa (ao @ei @aeE ?_);refine ah.rt (U0 X .full tY) ?_;rintro _ O4 ⟨rfl,bh⟩;refine ae @ei ?_;refine ah.rt (bC (xR X) (ct.ge bh) (by omega)) ?_;rintro _ O5 ⟨rfl,q5,cR,qf⟩;have RU:eP O b q O5 q5:=(eP.lC (aO.trans bh)).trans qf;have gd:=(qf.hp O.next (by have:=bh.next;omega) (by have:=h.hi;omega) (h.RR _ (Nat.le_refl _))).trans (bh.at dG);refine ae @ei ?_;have D3:q5≠some O.next:=qf.new O.next (by have:=bh.next;omega) (h.RR _ (Nat.le_refl _));have gu:O.next<O5.next:=by have:=qf.next;have:=bh.next;omega
     refine VC.bE [1,2,3] (fun q':Option Nat=>[.ptr b 0,.ptr lk 0,.ptr O.next 0]) (fun q' O'=>eP O5 b q5 O' q'/\fE O' B b q' (s++xR X++aS k)) ?_ ?_
     ·refine VC.ag aa (ao @ei @gd ?_);refine VC.aD ?_;refine VC.bH [31] [1,2,3,29,30] (fun x:Nat×Option Nat=>[mi x.1]) (fun x O'=>eP O5 b q5 O' x.2/\fE O' B b x.2 (s++xR X++aS (k.take x.1))/\x.1<=k.length) (fun x=>k.length - x.1) ((0,q5)) ?_ ?_
      ·exact⟨eP.lC (VH.Ge.refl _),by simpa[aS]using cR,Nat.zero_le _⟩
      rintro⟨j,qj⟩ O6 ⟨qL,iC,hj⟩;dsimp only at qL iC hj ⊢;by_cases bd:j<k.length;rotate_left
      ·obtain rfl:j=k.length:=by omega
       rw[List.take_length]at iC;refine WC.sound aa (ae @ei ?_);exact aA.mk qj ⟨qL,iC⟩
      have bu:=cj lE k j bd;rw[<-py]at bu;have RV:=cO k;have iM:aS (k.take (j+1))=aS (k.take j)++bY k[j]:=by rw[cN _ _ bd,tr,aS,aS,List.append_nil]
      have lG:(aS k).length=(aS (k.take j)).length+(bY k[j]).length+(aS (k.drop (j+1))).length:=by
       rw[<-List.length_append, <-iM, <-List.length_append, <-tr,List.take_append_drop]
      have n9:dN k[j]<=N:=by have:=zH (List.getElem_mem bd);omega
      have D4:=D1 hks (List.getElem_mem bd);generalize k[j]=y at*;have xG:=RU.trans qL;have aio:=(xG.hp lk ua AI pB).trans fR;have aip:=xG.new lk ua pB;have ih:=fun OO h1 h2 h3=>Zn N y OO B b lk qj (s++xR X++aS (k.take j)) n9 h1 h2 h3 AI aip (by simp only[List.length_append];omega) D4
      generalize aS (k.take j)=T at*;cases y with
      | mk yn ya yk yt=>
        simp only[cY]at bu ih;refine VC.ag aa (ae @ei ?_);refine VC.ag aa (ae @ei ?_);refine VC.bA (VC.aD ?_);refine VC.ag aa (ao @ei @bu ?_);refine VC.al ?_;rintro O7 ⟨en,mA,sw⟩;have aeF:=(en.hp lk (by have:=xG.next;omega)).trans aio;refine WC.sound aa (aM @ei @mA @aeF ?_);refine ah.rt (ih O7 (iC.ge en) aeF (by have:=xG.next;omega)) ?_;rintro _ O8 ⟨q8,sm,qg⟩;refine ae @ei ?_;refine WC.sound aa (ae @ei ?_);exact aC.next (j+1,q8) ⟨(qL.trans (eP.lC en)).trans qg,by rw[iM, <-List.append_assoc];exact sm,bd⟩
     rintro q6 O6 ⟨qL,iC⟩;have oL:=(qL.hp O.next gu (by have:=h.hi;omega) D3).trans gd;have Lr:=RU.trans qL;by_cases h0:k.length=0
     ·rw[if_pos h0];refine WC.sound aa (ao @ei @oL ?_);exact⟨q6,by simpa[List.append_assoc]using iC,Lr⟩
     ·rw[if_neg h0]at hs ⊢;simp only[List.length_append,List.length_cons,List.length_nil]at hs;refine WC.sound aa (ao @ei @oL ?_);refine ah.rt (bC ([60,47]++nm++[62]) iC (by simp only[List.length_append,List.length_cons,List.length_nil];omega)) ?_;rintro _ O7 ⟨rfl,q7,xS,Cf⟩;refine ae @ei ?_;exact⟨q7,by simpa[List.append_assoc]using xS,Lr.trans Cf⟩
theorem U4 (x:Nd) (O:VH) (hs:(bY x).length<=10000000000000) (b_:zG x):VF Tryz.prog 48 [.agg (cY x)] O (aI fun m O'=>m= .str (bY x)/\O.Ge O'):=by
 have lay:=Zn (dN x) x;generalize bY x=T at*;cases x with
 | mk n a k t=>
   simp only[cY]at lay ⊢;refine VF.bU 10 [.tmp 2] Tryz.func48 ?_;refine VC.ag aa (ae @ei ?_);refine VC.bx ?_;rintro O1 ⟨aU,hk,du⟩;refine VC.ag aa (ae @ei ?_);have uN:=fE.fresh O1 (Nat.le_refl O1.next);have lO:O1.Ge ((O1.push (.cells [.v (.pointer none),.sl 0 [] .nil])).push (.shape O1.next 145 2)):=((VH.Ge.refl O1).push _).push _;have U5:=uN.hi;generalize ((O1.push (.cells [.v (.pointer none),.sl 0 [] .nil])).push (.shape O1.next 145 2))=O2 at*;refine VC.ag aa (ae @ei ?_);refine VC.ag aa (ae @ei ?_);refine VC.al ?_;rintro O3 ⟨aO,dG,gZ⟩;have dL:=(aO.hp O.next (by have:=lO.next;omega)).trans ((lO.hp O.next (by omega)).trans hk);refine VC.ag aa (aM @ei @dG @dL ?_);refine ah.rt (lay O3 O1.next O1.next O2.next none [] (Nat.le_refl _) (uN.ge aO) dG (by omega) (by omega) (by simp) (by simpa using hs) b_) ?_;rintro _ O4 ⟨q,cL,eS⟩;rw[List.nil_append]at cL;refine ae @ei ?_;refine WC.sound aa (ae @ei ?_);refine ah.rt (po cL (by simp only[maxLen];omega)) ?_;rintro _ O5 ⟨rfl,qf⟩;refine ae @ei ?_;exact(eS.Cc (aU.trans (lO.trans aO)) (by omega)).RT qf (fun i e=>by have:=cL.xe i e;omega)
def Nd.nm:Nd->Bs
 | .mk n _ _ _=>n
def Nd.kids:Nd->List Nd
 | .mk _ _ k _=>k
def Nd.tx:Nd->Bs
 | .mk _ _ _ t=>t
def jN (name:Bs) (y:Nd):Bool:=y.nm != []&&(name==[]||y.nm==name)
def cu (x:Nd) (name:Bs):List Nd:=x.kids.filter (jN name)
theorem CA (x:Nd) (name:Bs) (O:VH) (hk:x.kids.length<=1000000):VF Tryz.prog 271 [.agg (cY x),.str name] O (aI fun m O'=>∃tk,m= .sl (cu x name).length (ax (cu x name)) tk/\O.Ge O'):=by
 obtain⟨n,a,k,t⟩:=x;simp only[Nd.kids]at hk;unfold cu;simp only[Nd.kids,cY];refine VF.bU 33 [.tmp 4] Tryz.func271 ?_;refine VC.ag aa (ae @ei ?_);refine VC.bx ?_;rintro O1 ⟨aU,dL,du⟩;refine VC.join aa [4] (fun tk:Tok=>[.sl (k.filter (jN name)).length (ax (k.filter (jN name))) tk]) (fun tk O'=>O.Ge O') ?_ ?_;rotate_left
 ·intro tk O9 bg;refine ae @ei ?_;exact⟨tk,rfl,bg⟩
 refine VC.ag aa (ao @ei @dL ?_);refine VC.aD ?_;refine VC.bH [4,10] [1,8,9] (fun x:Nat×Tok=>[.sl ((k.take x.1).filter (jN name)).length (ax ((k.take x.1).filter (jN name))) x.2,mi x.1]) (fun x O'=>O.Ge O'/\App O' O.next 4 x.2/\x.1<=k.length) (fun x=>k.length - x.1) ((0,.nil)) ?_ ?_
 ·exact⟨aU,trivial,Nat.zero_le _⟩
 rintro⟨j,tk⟩ O2 ⟨ay,cT,hj⟩;dsimp only at cT hj ⊢;by_cases bd:j<k.length;rotate_left
 ·obtain rfl:j=k.length:=by omega
  rw[List.take_length];refine WC.sound aa (ae @ei ?_);exact aA.mk tk ay
 have bu:=cj lE k j bd;rw[<-py]at bu;have RV:=cO k
 have iM:(k.take (j+1)).filter (jN name)=(k.take j).filter (jN name)++if jN name k[j]then[k[j]]else[]:=by
  rw[cN _ _ bd,List.filter_append]
  congr 1
  cases h:jN name k[j]<;>simp[h]
 have FU:((k.take j).filter (jN name)).length<=1000000:=Nat.le_trans (List.length_filter_le _ _) (by rw[List.length_take];omega);generalize k[j]=y at*;generalize (k.take j).filter (jN name)=E at*;obtain⟨yn,ya,yk,yt⟩:=y;have eE:=zC (.mk yn ya yk yt);have Zo:=lE (.mk yn ya yk yt);have Zp:ax [.mk yn ya yk yt]=cY (.mk yn ya yk yt):=by rw[ax,ax,List.append_nil]
 simp only[cY]at bu eE Zo Zp;refine VC.ag aa (ae @ei ?_);refine VC.ag aa (ae @ei ?_);refine VC.bA (VC.aD ?_);refine VC.ag aa (ao @ei @bu ?_);refine VC.al ?_;rintro O3 ⟨aO,mA,gZ⟩;have mf:=cT.ge aO;have Hg:=ay.trans aO;have yes:jN name (.mk yn ya yk yt)=true->(k.take (j+1)).filter (jN name)=E++[.mk yn ya yk yt]:=fun h=>by rw[iM,h,if_pos rfl]
 have nay:jN name (.mk yn ya yk yt)=false->(k.take (j+1)).filter (jN name)=E:=fun h=>by rw[iM,h,if_neg (by simp),List.append_nil]
 have hik:jN name (.mk yn ya yk yt)=(yn != []&&(name==[]||yn==name)):=rfl;rw[hik]at yes nay;cases h1:yn==[]
 ·cases h2:name==[]
  ·cases h3:yn==name
   ·have hn:=nay (by simp[bne,h1,h2,h3]);refine WC.sound aa (iL @ei @mA @h1 @h2 @h3 ?_);refine WC.sound aa (ae @ei ?_);exact aC.next (j+1,tk) ⟨Hg,mf,bd⟩ (hl:=(by dsimp only;rw[hn];rfl))
   ·have hn:=yes (by simp[bne,h1,h2,h3]);refine WC.sound aa (iL @ei @mA @h1 @h2 @h3 ?_);obtain⟨mE,fP,kN⟩:=fF (n:=E.length) (cs:=ax E) (ds:=[.str yn,.sl ya.length (ya.flatMap aZ) .aq,.sl yk.length (ax yk) .aq,.str yt]) nR td.1.1 mf (cO E) rfl rfl (by decide) (by omega) (by simp only[maxLen];omega) (eC E) eE;refine VL.k6 fP kN ?_;refine ae @ei ?_;refine WC.sound aa (ae @ei ?_);exact aC.next (j+1,.own O3.next 4) ⟨cK.ec Hg mf (cK.after mf),App.after Hg.next,bd⟩ (hl:=(by dsimp only;rw[hn,dM,List.length_append,Zp];rfl))
  ·have hn:=yes (by simp[bne,h1,h2]);refine WC.sound aa (c8 @ei @mA @h1 @h2 ?_);obtain⟨mE,fP,kN⟩:=fF (n:=E.length) (cs:=ax E) (ds:=[.str yn,.sl ya.length (ya.flatMap aZ) .aq,.sl yk.length (ax yk) .aq,.str yt]) nR td.1.1 mf (cO E) rfl rfl (by decide) (by omega) (by simp only[maxLen];omega) (eC E) eE;refine VL.k6 fP kN ?_;refine ae @ei ?_;refine WC.sound aa (ae @ei ?_);exact aC.next (j+1,.own O3.next 4) ⟨cK.ec Hg mf (cK.after mf),App.after Hg.next,bd⟩ (hl:=(by dsimp only;rw[hn,dM,List.length_append,Zp];rfl))
 ·have hn:=nay (by simp[bne,h1]);refine WC.sound aa (aM @ei @mA @h1 ?_);refine WC.sound aa (ae @ei ?_);exact aC.next (j+1,tk) ⟨Hg,mf,bd⟩ (hl:=(by dsimp only;rw[hn];rfl))
def il (k:List Nd):Bs:=k.flatMap fun y=>bif y.nm==[]then y.tx else[]
def sy (x:Nd):Bs:=trimB (il x.kids)
theorem Ls {k:List Nd} {j:Nat} (h:j<k.length):il (k.take (j+1))=il (k.take j)++bif k[j].nm==[]then k[j].tx else[]:=by
 unfold il;rw[cN _ _ h,List.flatMap_append,List.flatMap_cons,List.flatMap_nil,List.append_nil]
theorem Hh {k:List Nd}:∀j,(il (k.take j)).length<=(il k).length:=fun j=>by
 have:il k=il (k.take j)++il (k.drop j):=by unfold il;rw[<-List.flatMap_append,List.take_append_drop]
 rw[this,List.length_append];omega
theorem Zq (x:Nd) (O:VH) (hk:x.kids.length<=1000000) (ht:(il x.kids).length<=1000000000):VF Tryz.prog 296 [.agg (cY x)] O (aI fun m O'=>m= .str (sy x)/\O.Ge O'):=by
 obtain⟨n,a,k,t⟩:=x;simp only[Nd.kids]at hk ht;unfold sy;simp only[Nd.kids,cY];refine VF.bU 23 [.tmp 2] Tryz.func296 ?_;refine VC.ag aa (ae @ei ?_);refine VC.bx ?_;rintro O1 ⟨aU,dL,du⟩;refine VC.ag aa (ae @ei ?_);refine VC.join aa [3] (fun _:Unit=>[.str (il k)]) (fun _ O'=>O.Ge O') ?_ ?_;rotate_left
 ·intro _ O9 bg;refine ae @ei ?_;refine ah.rt (IQ (il k) _ (Nat.le_trans ht (by decide))) ?_;rintro _ O8 ⟨rfl,rfl⟩;refine ae @ei ?_;exact bg
 refine VC.ag aa (ao @ei @dL ?_);refine VC.aD ?_;refine VC.bH [3,9] [7,8] (fun j:Nat=>[.str (il (k.take j)),mi j]) (fun j O'=>O.Ge O'/\j<=k.length) (fun j=>k.length - j) (0) ?_ ?_
 ·exact⟨aU,Nat.zero_le _⟩
 rintro j O2 ⟨ay,hj⟩;by_cases bd:j<k.length;rotate_left
 ·obtain rfl:j=k.length:=by omega
  rw[List.take_length];refine WC.sound aa (ae @ei ?_);exact aA.mk () ay
 have bu:=cj lE k j bd;rw[<-py]at bu;have RV:=cO k;have iM:=Ls bd;have hle:=Hh (k:=k) (j+1);have RW:=Hh (k:=k) j;generalize k[j]=y at*;generalize il (k.take j)=E at*;obtain⟨yn,ya,yk,yt⟩:=y;simp only[cY]at bu;simp only[Nd.nm,Nd.tx]at iM;refine VC.ag aa (ae @ei ?_);refine VC.ag aa (ae @ei ?_);refine VC.bA (VC.aD ?_);refine VC.ag aa (ao @ei @bu ?_);refine VC.al ?_;rintro O3 ⟨aO,mA,gZ⟩;cases h1:yn==[]
 ·rw[h1,cond_false,List.append_nil]at iM;refine WC.sound aa (aM @ei @mA @h1 ?_);refine WC.sound aa (ae @ei ?_);exact aC.next (j+1) ⟨ay.trans aO,bd⟩ (hl:=(by rw[iM];rfl))
 ·rw[h1,cond_true]at iM;rw[iM,List.length_append]at hle;refine WC.sound aa (aM @ei @mA @h1 ?_);refine WC.sound aa (ae @ei ?_);exact aC.next (j+1) ⟨ay.trans aO,bd⟩ (hl:=(by rw[iM];rfl))
set_option linter.defProp false in
def bm:=And.intro ei<|And.intro aeA<|And.intro Y_<|And.intro Za T65
def sA (e:Int) (w:Bs):MV:=.iface 371 (.agg [mi e,.str w])
theorem aiq {p:MV}:ID 371 (fL Tryz.prog 371) (some p)=some (.iface 371 p):=by rw[aeA.1.1];rfl
theorem lH (e:Int) (w:Bs) (O:VH):VF Tryz.prog 248 [mi e,.str w] O fun r O'=>O'=O/\match r with
  | .ret _=>False
  | .panic m=>m=sA e w:=by
 refine VF.dh 8 [] Tryz.func248 ?_;refine c8 @bm @wi @wd @aiq ?_;refine VL.panic rfl rfl rfl ?_;refine ae @wd ?_;rfl
theorem adh (s:Bs) (O:VH):VF Tryz.prog 251 [.str s] O (aI fun m O'=>m=mb true/\O.Ge O'):=by
 refine VF.dh 3 [.tmp 2] Tryz.func251 ?_;refine ae @bm ?_;exact VH.Ge.refl _
def mg (s:Bs):Bool:=s==jM||s==kM
theorem PJ (s:Bs) (O:VH):VF Tryz.prog 300 [.str s] O (aI fun m O'=>m=mb (mg s)/\O.Ge O'):=by
 unfold mg;refine VF.dh 9 [.tmp 2] Tryz.func300 ?_;cases h1:s==jM<;>cases h2:s==kM
 all_goals
  simp only[jM,kM]at h1 h2;refine aM @bm @h1 @h2 ?_;exact VH.Ge.refl _
theorem U6 (s:Bs) (O:VH) (hs:s.length<=maxLen):VF Tryz.prog 301 [.str s] O (aI fun m O'=>m=mb (zB ⟨s,s⟩)/\O.Ge O'):=by
 refine VF.dh 7 [.tmp 2] Tryz.func301 ?_;refine ae @bm ?_;refine ah.rt (FP ⟨s,s⟩ _ hs hs) ?_;rintro _ O2 ⟨rfl,hg⟩;refine ae @bm ?_;exact hg
def Lt (n:Nat):Bs:=[UInt8.ofNat (48+n % 10)]
def BN:Nat->Nat->Bs
 | 0,_=>[]
 | k+1,n=>if n=0 then[]else BN k (n / 10)++Lt n
def k9 (n:Nat):Bs:=BN (n+1) n
theorem xT:∀(k n:Nat),n<k->BN k n=BN (n+1) n
 | 0,n,h=>by omega
 | k+1,n,h=>by
   rw[BN,BN];split
   ·rfl
   ·rw[xT k (n / 10) (by omega),xT n (n / 10) (by omega)]
theorem AJ {n:Nat} (h:0<n):k9 n=k9 (n / 10)++Lt n:=by
 unfold k9;rw[BN,if_neg (by omega),xT n (n / 10) (by omega)]
theorem rE (n:Nat):(k9 n).length<=n:=by
 induction n using Nat.strongRecOn with
 | _ n ih=>
   rcases Nat.eq_zero_or_pos n with rfl | h
   ·simp[k9,BN]
   ·rw[AJ h,List.length_append];have:=ih (n / 10) (by omega);simp only[Lt,List.length_cons,List.length_nil];omega
theorem Lu (d:Nat) (h:d<10):(([48,49,50,51,52,53,54,55,56,57]:Bs).drop d).take (d+1 - d)=[UInt8.ofNat (48+d)]:=by
 rw[show d+1 - d=1 by omega];rcases(show d=0\/d=1\/d=2\/d=3\/d=4\/d=5\/d=6\/d=7\/d=8\/d=9 by omega)with rfl | rfl | rfl | rfl | rfl | rfl | rfl | rfl | rfl | rfl<;>rfl
theorem D5 (n:Nat) (O:VH) (hn:n<=1000000000):VF Tryz.prog 297 [mi n] O (aI fun m O'=>m= .str (k9 n)/\O'=O):=by
 have D6:=rE n;refine VF.dh 17 [.tmp 2] Tryz.func297 ?_;refine ae @bm ?_;refine WC.ik [0,3] [] (fun x:Nat×Bs=>[mi x.1,.str x.2]) (fun x O'=>O'=O/\k9 n=k9 x.1++x.2/\x.1<=n) (fun x=>x.1) ((n,[])) ?_ ?_
 ·exact⟨rfl,by simp,Nat.le_refl _⟩
 rintro⟨k,s⟩ O2 ⟨eO,hk,wJ⟩;dsimp only at hk wJ ⊢;rw[eO];clear eO O2
 rcases Nat.eq_zero_or_pos k with rfl | hp
 ·have h0:k9 0=[]:=rfl;rw[h0,List.nil_append]at hk;refine ae @bm ?_;exact congrArg MV.str hk.symm
 ·have hd:=Lu (k % 10) (by omega);have hl:(k9 n).length=(k9 k).length+s.length:=by rw[hk,List.length_append]
  have hr:(k:Int).tmod 10=((k % 10:Nat):Int):=by rw[Int.tmod_eq_emod_of_nonneg (by omega)];rfl
  have hq:(k:Int).tdiv 10=((k / 10:Nat):Int):=by rw[Int.tdiv_eq_ediv_of_nonneg (by omega)];rfl
  refine c8 @bm @hr @hq @hd ?_;refine aC.next (k / 10,Lt k++s) ⟨rfl,?_,by dsimp only;omega⟩;rw[hk,AJ hp,List.append_assoc]
theorem adi {e:Int} {w:Bs}:aq (sA e w)=sA e w:=by simp only[sA,wu,au]
def j5 (x:Nd) (w:Bs):List MV:=cY x++[.str w]
def PK:Nd:=.mk [] [] [] []
def bZ (x:Nd) (w name:Bs):Except (Int×Bs) ((Nd×Bs)×Bool):=
 match cu x name with
 | []=>.ok ((PK,w++[47]++name),false)
 | [y]=>.ok ((y,w++[47]++name),true)
 | _=>.error (20,w++[47]++name++[91,50,93])
def FQ {α :Type} (O:VH) (f:Except (Int×Bs) α) (R: α ->MV->Prop):fB->VH->Prop:=fun r O'=>O.Ge O'/\match r,f with
 | .ret m,.ok x=>R x m
 | .panic m,.error e=>m=sA e.1 e.2
 | _,_=>False
theorem rF (x:Nd) (w name:Bs) (O:VH) (hk:x.kids.length<=1000000) (hw:w.length<=1000000) (hn:name.length<=1000000):VF Tryz.prog 249 [.agg (j5 x w),.str name] O (FQ O (bZ x w name) fun y m=>m= .tuple [.agg (j5 y.1.1 y.1.2),mb y.2]):=by
 refine VF.fgR ?_;have pC:=CA x name;have kP:(cu x name).length<=1000000:=Nat.le_trans (List.length_filter_le _ _) hk
 have FV:bZ x w name=match cu x name with
  | []=>.ok ((PK,w++[47]++name),false)
  | [y]=>.ok ((y,w++[47]++name),true)
  | _=>.error (20,w++[47]++name++[91,50,93]):=rfl
 generalize bZ x w name=F at*;generalize cu x name=K at*;obtain⟨n,a,k,t⟩:=x;simp only[j5,cY,List.cons_append,List.nil_append]at pC ⊢;refine VF.bU 34 [.cell 4 373,.tmp 5] Tryz.func249 ?_;refine VC.ag aa (ae @bm ?_);refine VC.bx ?_;rintro O1 ⟨aU,B4,du⟩;have fJ:O1.hp O.next=some (.cells [.str n,.sl a.length (a.flatMap aZ) .aq,.sl k.length (ax k) .aq,.str t,.str w]):=(aU.hp _ (Nat.lt_succ_self _)).trans (VH.aW _ _)
 replace B4:O1.hp (O.next+1)=some (.cells [.str [],.sl 0 [] .nil,.sl 0 [] .nil,.str [],.str []]):=B4
 have air:O.Ge O1:=((VH.Ge.refl O).push _).trans aU
 replace du:O1.next=O.next+2:=du
 clear aU;refine VC.ag aa (ao @bm @fJ ?_);refine ah.rt (pC O1 hk) ?_;rintro _ O2 ⟨tk,rfl,ay⟩;have j6:=ay.at fJ;have r6:=ay.at B4;have fZ:=air.trans ay;refine ae @bm ?_;refine VC.ag aa (ao @bm @j6 ?_)
 match K,FV with
 | [],FV=>
   subst FV;refine WC.sound aa (aM @bm @r6 @List.length_nil.{0} ?_);refine⟨fZ.set (by omega) _,?_⟩;simp only[j5,PK,cY,wu,aY];rfl
 | [.mk yn ya yk yt],FV=>
   subst FV;have eE:=zC (.mk yn ya yk yt);simp only[cY]at eE;have cC:ax [.mk yn ya yk yt]=[.str yn,.sl ya.length (ya.flatMap aZ) .aq,.sl yk.length (ax yk) .aq,.str yt]:=by rw[ax,ax,List.append_nil,cY]
   rw[cC];refine WC.sound aa (c8 @bm @r6 @List.length_cons.{0} @List.length_nil.{0} ?_);refine⟨fZ.set (by omega) _,?_⟩;show _=_;rw[cY,fG,eC];rfl
 | y::z::r,FV=>
   subst FV;simp only[List.length_cons]at kP;refine WC.sound aa (ao @bm @List.length_cons.{0} ?_);refine ah.p (lH _ _ _) ?_ ?_
   ·rintro m O3 ⟨_,h⟩;exact h.elim
   rintro m O3 ⟨rfl,rfl⟩;refine ae @bm ?_;exact⟨fZ,adi⟩
def pD (x:Nd) (w:Bs) (empty:Bool):Except (Int×Bs) Bs:=
 if 0<(cu x []).length\/1024<(sy x).length\/(sy x=[]/\empty=false)then .error (20,w)else .ok (sy x)
theorem Lv (x:Nd) (w:Bs) (empty:Bool) (O:VH) (hk:x.kids.length<=1000000) (ht:(il x.kids).length<=1000000000):VF Tryz.prog 272 [.agg (j5 x w),mb empty] O (FQ O (pD x w empty) fun y m=>m= .str y):=by
 have pC:=CA x [];have Zr:=Zq x;have kP:(cu x []).length<=1000000:=Nat.le_trans (List.length_filter_le _ _) hk;have NZ:(sy x).length<=1000000000:=Nat.le_trans (PD _) ht;unfold pD;generalize cu x []=K at*;generalize sy x=T at*;obtain⟨n,a,k,t⟩:=x;simp only[j5,cY,List.cons_append,List.nil_append]at pC Zr ⊢;refine VF.bU 31 [.tmp 4] Tryz.func272 ?_;refine VC.ag aa (ae @bm ?_);refine VC.bx ?_;rintro O1 ⟨aU,fJ,du⟩;refine VC.ag aa (ao @bm @fJ ?_);refine ah.rt (Zr O1 hk ht) ?_;rintro _ O2 ⟨rfl,ay⟩;have j6:=ay.at fJ;have jk:=ay.next;refine ae @bm ?_;refine VC.ag aa (ao @bm @j6 ?_);refine ah.rt (pC O2 hk) ?_;rintro _ O3 ⟨tk,rfl,aO⟩;have kQ:=aO.at j6;have eo:=(aU.trans ay).trans aO;by_cases h1:0<K.length
 ·rw[if_pos (.inl h1)];refine ao @bm @kQ ?_;refine ah.p (lH _ _ _) ?_ ?_
  ·rintro m O4 ⟨_,h⟩;exact h.elim
  rintro m O4 ⟨rfl,rfl⟩;refine ae @bm ?_;exact⟨eo,rfl⟩
 by_cases h2:1024<T.length
 ·rw[if_pos (.inr (.inl h2))];refine ao @bm @kQ ?_;refine ah.p (lH _ _ _) ?_ ?_
  ·rintro m O4 ⟨_,h⟩;exact h.elim
  rintro m O4 ⟨rfl,rfl⟩;refine ae @bm ?_;exact⟨eo,rfl⟩
 cases T with
 | nil=>
   cases empty
   ·rw[if_pos (.inr (.inr ⟨rfl,rfl⟩))];refine c8 @bm @kQ (show(([]:List UInt8)==[])=true from rfl) @List.length_nil.{0} ?_;refine ah.p (lH _ _ _) ?_ ?_
    ·rintro m O4 ⟨_,h⟩;exact h.elim
    rintro m O4 ⟨rfl,rfl⟩;refine ae @bm ?_;exact⟨eo,rfl⟩
   ·rw[if_neg (fun h=>by rcases h with h | h | ⟨_,h⟩;exact h1 h;exact h2 h;cases h)];refine c8 @bm @kQ (show(([]:List UInt8)==[])=true from rfl) @List.length_nil.{0} ?_;refine WC.sound aa (ae @bm ?_);exact⟨eo,rfl⟩
 | cons c T=>
   rw[if_neg (fun h=>by rcases h with h | h | ⟨h,_⟩;exact h1 h;exact h2 h;cases h)];refine aM @bm @kQ (show((c::T)==[])=false from rfl) ?_;refine WC.sound aa (ae @bm ?_);exact⟨eo,rfl⟩
def iN:List (Bs×Bs)->Nat
 | []=>0
 | x::r=>1+x.1.length+x.2.length+iN r
mutual
def j7:Nd->Nat
 | .mk n a k t=>1+n.length+t.length+iN a+jB k
def jB:List Nd->Nat
 | []=>0
 | x::r=>j7 x+jB r
end
theorem zI (n:Bs) (a:List (Bs×Bs)) (k:List Nd) (t:Bs):j7 (.mk n a k t)=1+n.length+t.length+iN a+jB k:=by rw[j7]
theorem Lw (x:Nd):1<=j7 x:=by cases x;rw[j7];omega
theorem AK:∀k:List Nd,k.length<=jB k
 | []=>by simp
 | x::r=>by rw[jB,List.length_cons];have:=AK r;have:=Lw x;omega
theorem Hi:∀{k:List Nd} {x:Nd},x∈k->j7 x<=jB k
 | y::r,x,h=>by
   rw[jB];rcases List.mem_cons.1 h with rfl | h
   ·omega
   ·have:=Hi h;omega
theorem v_ (x:Nd):jB x.kids<j7 x:=by cases x;rw[j7,Nd.kids];omega
theorem jH (x:Nd):x.kids.length<=j7 x:=Nat.le_trans (AK _) (Nat.le_of_lt (v_ x))
theorem D7:∀k:List Nd,(il k).length<=jB k
 | []=>by simp[il]
 | x::r=>by
   have ih:=D7 r;unfold il at ih ⊢;rw[List.flatMap_cons,List.length_append,jB]
   have:(bif x.nm==[]then x.tx else[]).length<=j7 x:=by
    cases x with
    | mk n a k t=>
      rw[j7];cases(Nd.mk n a k t).nm==[]
      ·simp
      ·show t.length<=_;omega
   omega
theorem PL {x y:Nd} {name:Bs} (h:y∈cu x name):j7 y<j7 x:=Nat.lt_of_le_of_lt (Hi ((List.mem_filter.1 h).1)) (v_ x)
def IV (rG:Bool) (right:Bs->Bool) (wy:Bs) (b:Bool) (T:Except (Int×Bs) Bs):Except (Int×Bs) Bs:=
 match b,T with
 | false,_=>if rG then .error (20,wy)else .ok []
 | true,.error e=>.error e
 | true,.ok s=>if right s then .ok s else .error (20,wy)
def bG (x:Nd) (w name:Bs) (rG:Bool) (right:Bs->Bool):Except (Int×Bs) Bs:=
 match bZ x w name with
 | .error e=>.error e
 | .ok y=>IV rG right y.1.2 y.2 (pD y.1.1 y.1.2 false)
theorem rH {x:Nd} {w name:Bs} {y:Nd} {wy:Bs} {b:Bool} (h:bZ x w name= .ok ((y,wy),b)):j7 y<=j7 x/\wy=w++[47]++name:=by
 unfold bZ at h;split at h
 ·injection h with h;injection h with h _;injection h with h1 h2
  subst h1;subst h2
  exact⟨by simp only[PK,zI,iN,jB,List.length_nil];exact Lw x,rfl⟩
 ·rename_i z hz;injection h with h;injection h with h _;injection h with h1 h2
  subst h1;subst h2
  exact⟨Nat.le_of_lt (PL (by rw[hz];simp)),rfl⟩
 ·cases h
theorem PM {y:Nd} {w:Bs} {e:Bool} {s:Bs} (h:pD y w e= .ok s):s.length<=1024:=by
 unfold pD at h;split at h
 ·cases h
 ·rename_i hn;injection h with h;subst h
  exact Nat.le_of_not_lt fun hh=>hn (.inr (.inl hh))
theorem pE (x:Nd) (w name:Bs) (rG:Bool) (right:Bs->Bool) (id:FuncId) (cs:List MV) (O:VH) (hx:j7 x<=1000000) (hw:w.length<=10000) (hn:name.length<=10000) (hid:di Tryz.prog id=true)
  (hr:∀s O',O.Ge O'->s.length<=1024->VF Tryz.prog id ([.str s]++cs) O' (aI fun m lP=>m=mb (right s)/\O'.Ge lP)):
  VF Tryz.prog 250 [.agg (j5 x w),.str name,mb rG,.func (.func id) [] cs] O (FQ O (bG x w name rG right) fun y m=>m= .str y):=by
 have uO:=rF x w name;have kP:=jH x;have uP:= @rH x w name;have uQ:∀e,bZ x w name= .error e->bG x w name rG right= .error e:=fun e h=>by unfold bG;rw[h]
 have nB:∀y wy b,bZ x w name= .ok ((y,wy),b)->bG x w name rG right=IV rG right wy b (pD y wy false):=fun y wy b h=>by unfold bG;rw[h]
 generalize bG x w name rG right=WE at*;generalize bZ x w name=F at*;obtain⟨n,a,k,t⟩:=x;generalize hW:j7 (.mk n a k t)=W at*;simp only[j5,cY,List.cons_append,List.nil_append]at uO ⊢;refine VF.bU 34 [.tmp 8] Tryz.func250 ?_;refine VC.ag aa (ae @bm ?_);refine VC.bx ?_;rintro O1 ⟨aU,fJ,du⟩;refine VC.ag aa ?_;refine ao @bm @fJ ?_;refine ah.p (uO O1 (by omega) (by omega) (by omega)) ?_ ?_;rotate_left
 ·rintro m O2 ⟨ay,h⟩;cases F with
  | ok y=>exact h.elim
  | error e=>
    dsimp only at h;rw[uQ e rfl];refine ae @bm ?_;exact⟨aU.trans ay,h⟩
 rintro m O2 ⟨ay,h⟩;cases F with
 | error e=>exact h.elim
 | ok y=>
 obtain⟨⟨y,wy⟩,b⟩:=y;dsimp only at h;subst h;obtain⟨Zs,uR⟩:=uP rfl;rw[nB _ _ _ rfl];clear uQ nB;have oM:wy.length<=30000:=by rw[uR];simp only[List.length_append,List.length_cons,List.length_nil];omega
 clear uP uR;have ais:=jH y;have uH:=Nat.le_trans (D7 y.kids) (Nat.le_of_lt (v_ y));have FO:=Lv y wy false;have NZ:= @PM y wy false;generalize pD y wy false=T at*;obtain⟨yn,ya,yk,yt⟩:=y;simp only[j5,cY,List.cons_append,List.nil_append]at FO ⊢;refine ae @bm ?_;refine VC.al ?_;rintro O3 ⟨aO,Lx,gZ⟩;have eo:=(aU.trans ay).trans aO;cases b
 ·cases rG
  ·refine WC.sound aa (ae @bm ?_);exact⟨eo,rfl⟩
  ·refine WC.sound aa (ao @bm @Lx ?_);refine ah.p (lH _ _ _) ?_ ?_
   ·rintro m O9 ⟨_,h⟩;exact h.elim
   rintro m O9 ⟨rfl,rfl⟩;refine ae @bm ?_;exact⟨eo,rfl⟩
 ·refine WC.sound aa (ao @bm @Lx ?_);refine ah.p (FO O3 (by omega) (by omega)) ?_ ?_;rotate_left
  ·rintro m O4 ⟨bh,h⟩;cases T with
   | ok s=>exact h.elim
   | error e=>
     dsimp only at h;refine ae @bm ?_;exact⟨eo.trans bh,h⟩
  rintro m O4 ⟨bh,h⟩;cases T with
  | error e=>exact h.elim
  | ok s=>
  dsimp only at h;subst h;have Zt:=bh.at Lx;have gE:=eo.trans bh;have g_:=bh.next;refine ae @bm ?_;refine ah.rt (hr s O4 gE (NZ rfl)) ?_ (hb:=hid);rintro _ O5 ⟨rfl,bK⟩;have hy5:=bK.at Zt;unfold IV;dsimp only;cases right s
  ·refine ao @bm @hy5 ?_;refine ah.p (lH _ _ _) ?_ ?_
   ·rintro m O9 ⟨_,h⟩;exact h.elim
   rintro m O9 ⟨rfl,rfl⟩;refine ae @bm ?_;exact⟨gE.trans bK,rfl⟩
  ·refine ao @bm @hy5 ?_;exact⟨gE.trans bK,rfl⟩
section
variable {G H:Gh} {n:Sz} {D:List Deferred} {e e':Env} {a:Act} {P:Program} {tab:bS} {O O':VH} {w:World} {m m':MV} {u v:Value} {ops:Array Oper} {Q:VQ} {md:Md}
theorem ab.pair {brk:List Nat} {Ψ :Gh->Prop} {J:VH->Prop} {Z:Prop} {fuel i j:Nat} {listed:Array Bool}
  (h1:aH P n D ops i e O Q fun e' O'=>J O'/\ab P n D ops brk J Ψ Z fuel (listed.setIfInBounds i true) e' O' Q) (h2:aH P n D ops j e O Q fun e' O'=>J O'/\ab P n D ops brk J Ψ Z fuel (listed.setIfInBounds j true) e' O' Q) (hr:Region.ready .any ops listed=[i,j]:=by kernel_rfl):ab P n D ops brk J Ψ Z (fuel+1) listed e O Q:=by
 intro hΨ hZ hJ G a w hψ hw aT
 have key:∀x,(aH P n D ops x e O Q fun e' O'=>J O'/\ab P n D ops brk J Ψ Z fuel (listed.setIfInBounds x true) e' O' Q)->wpOp P ops (cf G n D Q) x (fun a' w'=>TE brk G J x w'/\iE P .any ops (cf G n D Q) (TE brk G J) fuel (listed.setIfInBounds x true) a' w') a w:=fun x h=>
  wpOp_mono (fun a' w' ⟨e',O',H,h1,h2,h3,h4,h5⟩=>⟨TE.mk ⟨H,O',h1,h2,h4⟩,jd (fun _ _ _=>cf.le h1) _ _ _ _ (fun k _ x hT=>hT.le h1) (h5 hΨ hZ h4 H a' w' (hΨ _ _ h1 hψ) h2 h3)⟩) (h G a w hw aT)
 refine jc hr (by simp) fun x hx=>?_
 simp only[List.mem_cons,List.not_mem_nil,or_false]at hx;rcases hx with rfl | rfl
 ·exact key _ h1
 ·exact key _ h2
theorem aH.jj {i:Nat} {l:List Oper} {d:Option Tmp} {f:Operand} {xs:Array Operand} {ts:Array TypeId} {ty:TypeId} {ps:String} {af:Array Edge} {g:Option (Nat×Bool)} {id:FuncId} {ms:List MV} {Φ :MV->VH->Prop} {K:Env->VH->Prop} (hR:VF P id ms O (aI Φ))
  (h:∀m O', Φ m O'->K (aV d m e) O') (ho:l[i]?=some (.mk d (.call {callee:=.value f,args:=xs,argTypes:=ts}) ty ps af g):=by exact rfl) (hg:aK ⟨l⟩ (.mk d (.call {callee:=.value f,args:=xs,argTypes:=ts}) ty ps af g) e=some true:=by exact rfl) (hf:ev e f=some (.func (.func id) [] []):=by exact rfl) (hm:fu e xs.toList=some ms:=by exact rfl) (hb:di P id=true:=by kernel_rfl) (hd:bf n d=true:=by exact rfl):aH P n D ⟨l⟩ i e O Q K:=
 aH.call (o:=.mk d (.call {callee:=.value f,args:=xs,argTypes:=ts}) ty ps af g) (by simpa using ho) hg rfl rfl hf hm (Enters.sf hb) hd (by simpa using hR) fun r O' hr=>by
  cases r with
  | ret m=>exact h m O' hr
  | panic m=>exact hr.elim
end
def CC (w name:Bs) (i:Nat):Bs:=w++[47]++name++[91]++k9 (i+1)++[93]
def pF (w name:Bs) (K:List Nd):List (Nd×Bs):=K.mapIdx fun i y=>(y,CC w name i)
def tu (L:List (Nd×Bs)):List MV:=L.flatMap fun p=>j5 p.1 p.2
def mS (x:Nd) (w name:Bs):Except (Int×Bs) (List (Nd×Bs)):=if 1024<(cu x name).length then .error (2,w)else .ok (pF w name (cu x name))
theorem D8 (p:Nd×Bs):(j5 p.1 p.2).length=5:=by rw[j5,List.length_append,lE];rfl
theorem wa (L:List (Nd×Bs)):(tu L).length=L.length*5:=aQ D8 L
theorem Ly (x:Nd) (w:Bs):cD (j5 x w)=j5 x w:=by simp only[j5,wu,zC]
theorem Hj (L:List (Nd×Bs)):cD (tu L)=tu L:=ko (fun p=>Ly p.1 p.2) L
theorem PN {w name:Bs} {K:List Nd} {j:Nat} (h:j<K.length):pF w name (K.take (j+1))=pF w name (K.take j)++[(K[j],CC w name j)]:=by
 unfold pF;rw[cN _ _ h,List.mapIdx_append];simp[List.length_take,Nat.min_eq_left (Nat.le_of_lt h)]
theorem Hk (w name:Bs) (K:List Nd):(pF w name K).length=K.length:=by simp[pF]
theorem RX (x:Nd) (w name:Bs) (O:VH) (hx:j7 x<=1000000) (hw:w.length<=10000) (hn:name.length<=10000):
  VF Tryz.prog 275 [.agg (j5 x w),.str name] O (FQ O (mS x w name) fun y m=>∃tk,m= .sl y.length (tu y) tk):=by
 have pC:=CA x name;have kP:=jH x;have hKl:(cu x name).length<=1000000:=Nat.le_trans (List.length_filter_le _ _) (by omega);unfold mS;generalize cu x name=K at*;obtain⟨n,a,k,t⟩:=x;generalize hW:j7 (.mk n a k t)=W at*;simp only[j5,cY,List.cons_append,List.nil_append]at pC ⊢;refine VF.bU 43 [.tmp 4] Tryz.func275 ?_;refine VC.ag aa (ae @bm ?_);refine VC.bx ?_;rintro O1 ⟨aU,fJ,du⟩;refine VC.ag aa (ao @bm @fJ ?_);refine ah.rt (pC O1 (by omega)) ?_;rintro _ O2 ⟨tk,rfl,ay⟩;have j6:=ay.at fJ;have jk:=ay.next;have fZ:=aU.trans ay;refine ae @bm ?_;by_cases LA:1024<K.length
 ·rw[if_pos LA];refine VC.ag aa (ao @bm @j6 ?_);refine ah.p (lH _ _ _) ?_ ?_
  ·rintro m O9 ⟨_,h⟩;exact h.elim
  rintro m O9 ⟨rfl,rfl⟩;refine ae @bm ?_;exact⟨fZ,rfl⟩
 rw[if_neg LA];refine VC.ag aa (ao @bm @j6 ?_);refine VC.join aa [4] (fun tl:Tok=>[.sl (pF w name K).length (tu (pF w name K)) tl]) (fun tl O'=>O.Ge O') ?_ ?_;rotate_left
 ·intro tl O9 bg;refine ae @bm ?_;exact⟨bg,tl,rfl⟩
 refine VC.ag aa (ae @bm ?_);refine VC.aD ?_;refine VC.bH [4,20] [1,2,18,19] (fun x:Nat×Tok=>[.sl (pF w name (K.take x.1)).length (tu (pF w name (K.take x.1))) x.2,mi x.1]) (fun x O'=>O2.Ge O'/\App O' O2.next 5 x.2/\x.1<=K.length) (fun x=>K.length - x.1) ((0,.nil)) ?_ ?_
 ·exact⟨VH.Ge.refl _,trivial,Nat.zero_le _⟩
 rintro⟨j,tl⟩ O3 ⟨aO,cT,hj⟩;dsimp only at cT hj ⊢;by_cases bd:j<K.length;rotate_left
 ·obtain rfl:j=K.length:=by omega
  rw[List.take_length];refine WC.sound aa (ae @bm ?_);exact aA.mk tl (fZ.trans aO)
 have bu:=cj lE K j bd;rw[<-py]at bu;have RV:=cO K;have iM:=PN (w:=w) (name:=name) bd;have FU:(pF w name (K.take j)).length<=1000000:=by rw[Hk,List.length_take];omega
 generalize K[j]=y at*;generalize pF w name (K.take j)=E at*;have D6:=rE (j+1);have eE:=Ly y (CC w name j);obtain⟨yn,ya,yk,yt⟩:=y;simp only[j5,cY,List.cons_append,List.nil_append]at bu eE;have kQ:=aO.at j6;have gZ:=aO.next;refine VC.ag aa (ae @bm ?_);refine VC.ag aa (ae @bm ?_);refine VC.bA (VC.aD ?_);refine VC.ag aa (ao @bm @bu ?_);refine VC.al ?_;rintro O4 ⟨bh,mA,g_⟩;have jC:=bh.at kQ;have jX:=cT.ge bh;have RY:=aO.trans bh;have dU:((j:Int)+1)=((j+1:Nat):Int):=by omega
 refine VC.oe [15,16] ?_;refine ab.av 0 ?_;refine ae @bm ?_;refine ab.av 2 ?_;refine ae @bm ?_;refine ab.ld (m:=.str w) 3 ?_ ?_
 ·exact dH @bm @jC
 simp only[aj];refine ab.av 4 ?_;refine ae @bm ?_;refine ab.av 5 ?_;refine ae @bm ?_;refine ab.av 6 ?_;refine ae @bm ?_;refine ab.av 7 ?_;refine ae @bm ?_;refine ab.av 8 ?_;refine ae @bm ?_;refine ab.av 9 ?_;refine ao @bm @dU ?_;refine ab.pair (i:=1) (j:=10) ?_ ?_
 ·refine aH.o1 ?_;refine ao @bm @mA ?_;refine⟨VH.Ge.refl _,?_⟩;refine ab.call (i:=10) (D5 (j+1) O4 (by omega)) ?_;rintro _ O5 ⟨rfl,eO⟩;simp only[aj];rw[eO];clear eO O5
  refine⟨VH.Ge.refl _,?_⟩;refine ab.av 11 ?_;refine ae @bm ?_;refine ab.av 12 ?_;refine ae @bm ?_;refine ab.av 13 ?_;refine ae @bm ?_;refine ab.op (i:=14) ?_;refine ae @bm ?_;refine⟨VH.Ge.refl _,?_⟩;refine ab.bI [(15,.one),(16,.av)] ?_;refine ae @bm ?_;obtain⟨mE,fP,kN⟩:=fF (n:=E.length) (cs:=tu E) (ds:=[.str yn,.sl ya.length (ya.flatMap aZ) .aq,.sl yk.length (ax yk) .aq,.str yt,.str (w++[47]++name++[91]++k9 (j+1)++[93])]) Za Y_.1.1 jX (wa E) rfl rfl (by decide) (by omega) (by simp only[maxLen];omega) (Hj E) eE;refine VL.k6 fP kN ?_;refine ae @bm ?_;refine WC.sound aa (ae @bm ?_);exact aC.next (j+1,.own O4.next 5) ⟨cK.ec RY jX (cK.after jX),App.after RY.next,bd⟩ (hl:=(by dsimp only;rw[iM,List.length_append];unfold tu;rw[List.flatMap_append];rfl))
 ·refine aH.jj (D5 (j+1) O4 (by omega)) ?_;rintro _ O5 ⟨rfl,eO⟩;rw[eO];clear eO O5
  simp only[aj];refine⟨VH.Ge.refl _,?_⟩;refine ab.av 11 ?_;refine ae @bm ?_;refine ab.av 12 ?_;refine ae @bm ?_;refine ab.op (i:=1) ?_;refine ao @bm @mA ?_;refine⟨VH.Ge.refl _,?_⟩;refine ab.av 13 ?_;refine ae @bm ?_;refine ab.op (i:=14) ?_;refine ae @bm ?_;refine⟨VH.Ge.refl _,?_⟩;refine ab.bI [(15,.one),(16,.av)] ?_;refine ae @bm ?_;obtain⟨mE,fP,kN⟩:=fF (n:=E.length) (cs:=tu E) (ds:=[.str yn,.sl ya.length (ya.flatMap aZ) .aq,.sl yk.length (ax yk) .aq,.str yt,.str (w++[47]++name++[91]++k9 (j+1)++[93])]) Za Y_.1.1 jX (wa E) rfl rfl (by decide) (by omega) (by simp only[maxLen];omega) (Hj E) eE;refine VL.k6 fP kN ?_;refine ae @bm ?_;refine WC.sound aa (ae @bm ?_);exact aC.next (j+1,.own O4.next 5) ⟨cK.ec RY jX (cK.after jX),App.after RY.next,bd⟩ (hl:=(by dsimp only;rw[iM,List.length_append];unfold tu;rw[List.flatMap_append];rfl))
def kR (w:Bs):Nat×Bool:=
 if w=eQ 1 then(1,true)else if w=eQ 2 then(2,true)else if w=eQ 3 then(3,true)else if w=eQ 4 then(4,true)else if w=eQ 5 then(5,true)else if w=eQ 6 then(6,true)else(0,false)
def eT (w:Bs):Nat->Nat->Nat×Bool
 | 0,_=>(0,false)
 | k+1,j=>if j≠0/\eQ j=w then(j,true)else eT w k (j+1)
theorem PO (w:Bs):kR w=eT w 7 0:=by
 unfold kR eT eT eT eT eT eT eT eT;simp only[eq_comm (a:=w)];simp
theorem LB (w:Bs) (O:VH):VF Tryz.prog 298 [.str w] O (aI fun m O'=>m= .tuple [mi (kR w).1,mb (kR w).2]/\O'=O):=by
 rw[PO];refine VF.dh 18 [.tmp 2,.tmp 3] Tryz.func298 ?_;refine ae @bm ?_;refine WC.ik [5] [0] (fun j:Nat=>[mi j]) (fun j O'=>O'=O/\j<=7/\eT w 7 0=eT w (7 - j) j) (fun j=>7 - j) (0) ?_ ?_
 ·exact⟨rfl,Nat.zero_le _,rfl⟩
 rintro j O2 ⟨eO,hj,hs⟩;rw[eO];clear eO O2
 by_cases h7:j<7
 ·have cP:eT w (7 - j) j=if j≠0/\eQ j=w then(j,true)else eT w (7 - (j+1)) (j+1):=by
   obtain⟨d,hd⟩:∃d,7 - j=d+1:=⟨6 - j,by omega⟩
   rw[hd,show 7 - (j+1)=d by omega];rfl
  rw[cP]at hs;by_cases h0:j=0
  ·rw[if_neg (fun h=>h.1 h0)]at hs;refine ae @bm ?_;exact aC.next (j+1) ⟨rfl,h7,hs⟩
  ·refine ae @bm ?_;refine ah.rt (RS j _) ?_;rintro _ O3 ⟨rfl,eO⟩;rw[eO];clear eO O3
   cases hw:eQ j==w
   ·rw[if_neg (fun h=>by rw[h.2]at hw;simp at hw)]at hs;refine ao @bm @hw ?_;exact aC.next (j+1) ⟨rfl,h7,hs⟩
   ·rw[if_pos ⟨h0,eq_of_beq hw⟩]at hs;rw[hs];exact dH @bm @hw
 ·obtain rfl:j=7:=by omega
  rw[hs];refine ae @bm ?_;rfl
def dC (s p:Bs):Bool:=s.take p.length==p
theorem U7 {s p:Bs} (h:¬p.length<=s.length):dC s p=false:=by
 unfold dC;rw[beq_eq_false_iff_ne];intro e;have:=congrArg List.length e;rw[List.length_take]at this;omega
theorem FW (s p:Bs) (O:VH):VF Tryz.prog 137 [.str s,.str p] O (aI fun m O'=>m=mb (dC s p)/\O'=O):=by
 refine VF.dh 18 [.tmp 4] Tryz.func137 ?_;by_cases h:p.length<=s.length
 ·have e:(s.take p.length==p)=dC s p:=rfl;generalize dC s p=b at*;cases b
  ·exact dH @bm @e
  ·exact dH @bm @e
 ·rw[U7 h];exact fe @bm
theorem mT (s p:Bs) (O:VH):VF Tryz.prog 103 [.str s,.str p] O (aI fun m O'=>m=mb (dC s p)/\O'=O):=by
 refine VF.dh 8 [.tmp 4] Tryz.func103 ?_;refine ae @bm ?_;refine ah.rt (FW s p _) ?_;rintro _ O2 ⟨rfl,rfl⟩;exact fe @bm
set_option linter.defProp false in
def dR:=And.intro bm<|And.intro dB<|And.intro aez ahU
section
variable {P:Program} {n:Sz} {D:List Deferred} {e:Env} {O:VH} {Q:VQ}
theorem ab.pH {brk:List Nat} {Ψ :Gh->Prop} {J:VH->Prop} {Z:Prop} {fuel i:Nat} {listed:Array Bool} {l:List Oper} {d:Option Tmp} {f:Operand} {xs:Array Operand} {ts:Array TypeId} {ty:TypeId} {ps:String} {af:Array Edge} {g:Option (Nat×Bool)} {id:FuncId} {ms cs:List MV} {R:fB->VH->Prop} (hR:VF P id (ms++cs) O R)
  (h:∀m O',R (.ret m) O'->J O'/\ab P n D ⟨l⟩ brk J Ψ Z fuel (listed.setIfInBounds i true) (aV d m e) O' Q) (h2:∀m O',R (.panic m) O'->Q (.panic m) (j_ n e) O') (hr:Region.ready .any ⟨l⟩ listed=[i]:=by kernel_rfl) (ho:l[i]?=some (.mk d (.call {callee:=.value f,args:=xs,argTypes:=ts}) ty ps af g):=by exact rfl) (hg:aK ⟨l⟩ (.mk d (.call {callee:=.value f,args:=xs,argTypes:=ts}) ty ps af g) e=some true:=by exact rfl) (hf:ev e f=some (.func (.func id) [] cs):=by exact rfl) (hm:fu e xs.toList=some ms:=by exact rfl) (hb:di P id=true:=by kernel_rfl) (hd:bf n d=true:=by exact rfl):ab P n D ⟨l⟩ brk J Ψ Z (fuel+1) listed e O Q:=
 ab.one (aH.call (o:=.mk d (.call {callee:=.value f,args:=xs,argTypes:=ts}) ty ps af g) (by simpa using ho) hg rfl rfl hf hm (Enters.sf hb) hd (by simpa using hR) fun r O' hr=>by
  cases r with
  | ret m=>exact h m O' hr
  | panic m=>exact h2 m O' hr) (hr:=hr)
end
def idxFrom {α :Type} (p: α ->Bool):Nat->List α ->Int
 | _,[]=> -1
 | i,x::r=>if p x then i else idxFrom p (i+1) r
theorem D9 {α :Type} (p: α ->Bool):∀(L:List α) (i:Nat),decide (idxFrom p i L>=0)=L.any p
 | [],i=>rfl
 | x::r,i=>by
   rw[idxFrom,List.any_cons];cases h:p x
   ·simp[D9 p r]
   ·simp
theorem RZ (L:List (Bs×Bs)) (tk:Tok) (id:FuncId) (cs:List MV) (p:Bs×Bs->Bool) (O:VH) (hid:di Tryz.prog id=true) (hc:∀x∈L,∀O',O.Ge O'->VF Tryz.prog id ([.agg (aZ x)]++cs) O' (aI fun m lP=>m=mb (p x)/\O'.Ge lP)) (hn:L.length<=1000000):
  VF Tryz.prog 227 [.sl L.length (L.flatMap aZ) tk,.func (.func id) [] cs] O (aI fun m O'=>m=mi (idxFrom p 0 L)/\O.Ge O'):=by
 have dF:=aQ eR L;refine VF.dh 19 [.tmp 4] Tryz.func227 ?_;refine ae @dR ?_;refine WC.ik [8] [0,1,7] (fun j:Nat=>[mi j]) (fun j O'=>O.Ge O'/\j<=L.length/\idxFrom p 0 L=idxFrom p j (L.drop j)) (fun j=>L.length - j) (0) ?_ ?_
 ·exact⟨VH.Ge.refl _,Nat.zero_le _,rfl⟩
 rintro j O2 ⟨ay,hj,b_⟩;by_cases h2:j<L.length
 ·have bu:=cj eR L j h2;have Zu:=hc L[j] (List.getElem_mem h2) O2 ay;rw[List.drop_eq_getElem_cons h2,idxFrom]at b_;generalize L[j]=y at*;refine ao @dR @bu ?_;refine ah.rt Zu ?_ (hb:=hid);rintro _ O3 ⟨rfl,aO⟩;cases hi:p y
  ·rw[hi]at b_;refine ae @dR ?_;exact aC.next (j+1) ⟨ay.trans aO,by omega,b_⟩
  ·rw[hi,if_pos rfl]at b_;rw[b_];refine ae @dR ?_;exact ay.trans aO
 ·obtain rfl:j=L.length:=by omega
  rw[List.drop_of_length_le (by omega)]at b_;rw[b_];refine ae @dR ?_;exact⟨rfl,ay⟩
theorem adj (L:List (Bs×Bs)) (tk:Tok) (id:FuncId) (cs:List MV) (p:Bs×Bs->Bool) (O:VH) (hid:di Tryz.prog id=true) (hc:∀x∈L,∀O',O.Ge O'->VF Tryz.prog id ([.agg (aZ x)]++cs) O' (aI fun m lP=>m=mb (p x)/\O'.Ge lP)) (hn:L.length<=1000000):
  VF Tryz.prog 273 [.sl L.length (L.flatMap aZ) tk,.func (.func id) [] cs] O (aI fun m O'=>m=mb (L.any p)/\O.Ge O'):=by
 rw[<-D9 p L 0];refine VF.dh 9 [.tmp 4] Tryz.func273 ?_;refine ae @dR ?_;refine ah.rt (RZ L tk id cs p O hid hc hn) ?_;rintro _ O2 ⟨rfl,ay⟩;refine ae @dR ?_;exact ay
theorem U8 (x:Bs×Bs) (k:Nat) (yn:Bs) (a b c:MV) (O:VH) (hk:O.hp k=some (.cells [.str yn,a,b,c])) (wJ:k<O.next):VF Tryz.prog 274 [.agg (aZ x),.ptr k 0] O (aI fun m O'=>m=mb (x.1==yn)/\O.Ge O'):=by
 obtain⟨x1,x2⟩:=x;unfold aZ;refine VF.bU 9 [.tmp 3] Tryz.func274 ?_;refine VC.ag aa (ae @dR ?_);refine VC.bx ?_;rintro O1 ⟨aU,fJ,du⟩;have dL:=(aU.hp k wJ).trans hk;refine WC.sound aa (aM @dR @fJ @dL ?_);exact aU
def sB (wy:Bs):List Nd->List (Bs×Bs)->Except (Int×Bs) (List (Bs×Bs))
 | [],L=>.ok L
 | k::r,L=>bif L.any (·.1==k.nm)then .error (20,wy++[47]++k.nm++[91,50,93])else match pD k (wy++[47]++k.nm) true with
   | .error e=>.error e
   | .ok s=>sB wy r (L++[(k.nm,s)])
def kS (x:Nd) (w:Bs):Except (Int×Bs) (List (Bs×Bs)):=
 match bZ x w kO with
 | .error e=>.error e
 | .ok ((_,_),false)=>.ok []
 | .ok ((y,wy),true)=>if 1024<(cu y []).length then .error (2,wy)else sB wy (cu y []) []
theorem Zv (x:Nd) (w:Bs) (O:VH) (hx:j7 x<=1000000) (hw:w.length<=10000):
  VF Tryz.prog 252 [.agg (j5 x w)] O (FQ O (kS x w) fun y m=>∃tk,m= .sl y.length (y.flatMap aZ) tk):=by
 have uO:=rF x w kO;have kP:=jH x;have uP:= @rH x w kO;have uQ:∀e,bZ x w kO= .error e->kS x w= .error e:=fun e h=>by unfold kS;rw[h]
 have nB:∀y wy,bZ x w kO= .ok ((y,wy),false)->kS x w= .ok []:=fun y wy h=>by unfold kS;rw[h]
 have im:∀y wy,bZ x w kO= .ok ((y,wy),true)->kS x w=if 1024<(cu y []).length then .error (2,wy)else sB wy (cu y []) []:=fun y wy h=>by unfold kS;rw[h]
 generalize kS x w=PE at*;generalize bZ x w kO=F at*;obtain⟨n,a,k,t⟩:=x;generalize hW:j7 (.mk n a k t)=W at*;simp only[j5,cY,List.cons_append,List.nil_append]at uO ⊢;refine VF.bU 55 [.tmp 2] Tryz.func252 ?_;refine VC.ag aa (ae @dR ?_);refine VC.bx ?_;rintro O1 ⟨aU,fJ,du⟩;refine VC.ag aa (ao @dR @fJ ?_);refine ah.p (uO O1 (by omega) (by omega) (by decide)) ?_ ?_;rotate_left
 ·rintro m O2 ⟨ay,h⟩;cases F with
  | ok y=>exact h.elim
  | error e=>
    dsimp only at h;rw[uQ e rfl];refine ae @dR ?_;exact⟨aU.trans ay,h⟩
 rintro m O2 ⟨ay,h⟩;cases F with
 | error e=>exact h.elim
 | ok y=>
 obtain⟨⟨y,wy⟩,b⟩:=y;dsimp only at h;subst h;obtain⟨Zs,uR⟩:=uP rfl;have oM:wy.length<=30000:=by rw[uR];simp only[List.length_append,List.length_cons,List.length_nil];omega
 clear uP uR uQ;have pC:=CA y [];have ais:=jH y;have hKm:∀z∈cu y [],j7 z<=1000000:=fun z hz=>by have:=PL hz;omega
 have hKl:(cu y []).length<=1000000:=Nat.le_trans (List.length_filter_le _ _) (by omega)
 replace im:b=true->PE=if 1024<(cu y []).length then .error (2,wy)else sB wy (cu y []) []:=fun h=>by subst h;exact im y wy rfl
 replace nB:b=false->PE= .ok []:=fun h=>by subst h;exact nB y wy rfl
 generalize cu y []=K at*;obtain⟨yn,ya,yk,yt⟩:=y;simp only[j5,cY,List.cons_append,List.nil_append]at pC ⊢;have fZ:=aU.trans ay;refine ae @dR ?_;refine VC.al ?_;rintro O3 ⟨aO,Lx,gZ⟩;have eo:=fZ.trans aO;cases b
 ·rw[nB rfl];refine WC.sound aa (ae @dR ?_);exact⟨eo,.nil,rfl⟩
 replace im:=im rfl
 clear nB;refine VC.ag aa (ae @dR ?_);refine VC.ag aa (ao @dR @Lx ?_);refine ah.rt (pC O3 (by omega)) ?_;rintro _ O4 ⟨tk,rfl,bh⟩;have Zt:=bh.at Lx;have gE:=eo.trans bh;have g_:=bh.next;refine ae @dR ?_;by_cases LA:1024<K.length
 ·rw[if_pos LA]at im;rw[im];refine VC.ag aa (ao @dR @Zt ?_);refine ah.p (lH _ _ _) ?_ ?_
  ·rintro m O9 ⟨_,h⟩;exact h.elim
  rintro m O9 ⟨rfl,rfl⟩;refine ae @dR ?_;exact⟨gE,rfl⟩
 rw[if_neg LA]at im;refine VC.ag aa (ao @dR @Zt ?_);refine VC.join aa [2] (fun x:List (Bs×Bs)×Tok=>[.sl x.1.length (x.1.flatMap aZ) x.2]) (fun x O'=>O.Ge O'/\PE= .ok x.1) ?_ ?_;rotate_left
 ·rintro⟨L,tl⟩ O9 ⟨bg,hP⟩;rw[hP];refine ae @dR ?_;exact⟨bg,tl,rfl⟩
 refine VC.ag aa (ae @dR ?_);refine VC.aD ?_;refine VC.bH [2,27] [3,25,26] (fun x:Nat×List (Bs×Bs)×Tok=>[.sl x.2.1.length (x.2.1.flatMap aZ) x.2.2,mi x.1]) (fun x O'=>O4.Ge O'/\App O' O4.next 2 x.2.2/\x.1<=K.length/\x.2.1.length=x.1/\PE=sB wy (K.drop x.1) x.2.1) (fun x=>K.length - x.1) ((0,[],.nil)) ?_ ?_
 ·exact⟨VH.Ge.refl _,trivial,Nat.zero_le _,rfl,im⟩
 rintro⟨j,L,tl⟩ O5 ⟨bK,cT,hj,ob,hP⟩;dsimp only at cT hj ob hP ⊢;by_cases bd:j<K.length;rotate_left
 ·obtain rfl:j=K.length:=by omega
  rw[List.drop_of_length_le (Nat.le_refl _),sB]at hP;refine WC.sound aa (ae @dR ?_);exact aA.mk (L,tl) ⟨gE.trans bK,hP⟩
 have bu:=cj lE K j bd;rw[<-py]at bu;have RV:=cO K;rw[List.drop_eq_getElem_cons bd,sB]at hP;have Zw:=hKm K[j] (List.getElem_mem bd);generalize K[j]=z at*;have uH:=Lv z (wy++[47]++z.nm) true;have hkz:=jH z;have htz:=Nat.le_trans (D7 z.kids) (Nat.le_of_lt (v_ z))
 have ait:z.nm.length<=1000000:=by cases z with
  | mk n a k t=>rw[zI]at Zw;show n.length<=_;omega
 generalize pD z (wy++[47]++z.nm) true=T at*;obtain⟨zn,za,cH,zt⟩:=z;simp only[j5,cY,Nd.nm,List.cons_append,List.nil_append]at bu uH hP ait;have hy5:=bK.at Zt;have gu:=bK.next;refine VC.ag aa (ae @dR ?_);refine VC.ag aa (ae @dR ?_);refine VC.bA (VC.aD ?_);refine VC.ag aa (ao @dR @bu ?_);refine VC.al ?_;rintro O6 ⟨fS,mA,ny⟩;have hy6:=fS.at hy5;have ma:=cT.ge fS;have LC:=bK.trans fS;have dU:((j:Int)+1)=((j+1:Nat):Int):=by omega
 refine VC.ag aa (aM @dR @hy6 @mA ?_);refine VC.ag aa (ae @dR ?_);refine ah.rt (adj L tl 274 [.ptr O5.next 0] (fun q=>q.1==zn) O6 (by kernel_rfl) (fun q _ O' IW=>U8 q _ zn _ _ _ O' (IW.at mA) (by have:=IW.next;omega)) (by omega)) ?_;rintro _ O7 ⟨rfl,en⟩;have BO:=(gE.trans LC).trans en;have hy7:=en.at hy6;have tO:=en.at mA;have sw:=en.next;have hY:=ma.ge en;refine ae @dR ?_;cases jW:L.any fun q=>q.1==zn
 rotate_left
 ·rw[jW,cond_true]at hP;rw[hP];refine ae @dR ?_;refine ah.p (lH _ _ _) ?_ ?_
  ·rintro m O9 ⟨_,h⟩;exact h.elim
  rintro m O9 ⟨rfl,rfl⟩;refine ae @dR ?_;exact⟨BO,rfl⟩
 rw[jW,cond_false]at hP;refine ae @dR ?_;refine VC.oe [9,10] ?_;refine ab.av 0 ?_;refine ae @dR ?_;refine ab.av 1 ?_;refine ae @dR ?_;refine ab.ld (m:=.str zn) 2 ?_ ?_
 ·exact dH @dR @tO
 simp only[aj];refine ab.av 4 ?_;refine ae @dR ?_;refine ab.op (i:=3) ?_;refine ao @dR @tO ?_;refine⟨VH.Ge.refl _,?_⟩;refine ab.av 5 ?_;refine ae @dR ?_;refine ab.pH (i:=6) (uH O7 (by omega) (by omega)) ?_ ?_;rotate_left
 ·rintro m O8 ⟨gq,h⟩;cases T with
  | ok s=>exact h.elim
  | error e=>
    dsimp only at h hP;rw[hP];refine ae @dR ?_;exact⟨BO.trans gq,h⟩
 rintro m O8 ⟨gq,h⟩;cases T with
 | error e=>exact h.elim
 | ok s=>
 dsimp only at h hP;subst h;simp only[aj];refine⟨gq,?_⟩;refine ab.av 7 ?_;refine ae @dR ?_;refine ab.op (i:=8) ?_;refine ae @dR ?_;refine⟨gq,?_⟩;refine ab.bI [(9,.one),(10,.av)] ?_;refine ae @dR ?_;obtain⟨mE,fP,kN⟩:=fF (n:=L.length) (cs:=L.flatMap aZ) (ds:=[.str zn,.str s]) (es:=aZ (zn,s)) zm BK.1.1 (hY.ge gq) (aQ eR L) rfl rfl (by decide) (by omega) (by simp only[maxLen];omega) (fG L) (by simp only[aZ,wu]);refine VL.k6 fP kN ?_;refine ae @dR ?_;refine WC.sound aa (ae @dR ?_);exact aC.next (j+1,L++[(zn,s)],.own O8.next 2) ⟨cK.ec ((LC.trans en).trans gq) (hY.ge gq) (cK.after (hY.ge gq)),App.after (by have:=gq.next;omega),bd,by dsimp only;rw[List.length_append,ob];rfl,hP⟩ (hl:=(by dsimp only;rw[List.length_append,List.flatMap_append,dU];rfl))
section
variable {P:Program} {tab:bS} {n:Sz} {D:List Deferred} {md:Md} {ops:Array Oper} {Q:VQ} {f:Fl} {o:Oper} {L:List (Fl×Oper)} {e:Env} {O:VH} {r:Option (MV×VH)} {b:Bool} {c:Code}
theorem PQ (h:WL P tab n D md ops Q L e O):WL P tab n D md ops Q L e O:=h
theorem PR (h:W2 P tab n D md ops Q f o L e O r):W2 P tab n D md ops Q f o L e O r:=h
theorem PU (h:W3 P tab n D md ops Q L e O b):W3 P tab n D md ops Q L e O b:=h
theorem PV (h:WC P tab n D c e O Q):WC P tab n D c e O Q:=h
end
section
variable {A1 A2 A3 A4 A5 A6 A7 P Q:Prop}
theorem fU (a1:A1) (q:Q) (h:A1->Q->P:=by intro a1 q;first | (with_reducible refine VC.ag aa ?_;refine ae a1 q) | (with_reducible refine WC.sound aa ?_;refine ae a1 q) | (first | with_reducible refine PQ ?_ | with_reducible refine PR ?_ | with_reducible refine PU ?_ | with_reducible refine PV ?_);refine ae a1 q):P:=h a1 q
theorem pI (a1:A1) (a2:A2) (q:Q) (h:A1->A2->Q->P:=by intro a1 a2 q;first | (with_reducible refine VC.ag aa ?_;refine ao a1 a2 q) | (with_reducible refine WC.sound aa ?_;refine ao a1 a2 q) | (first | with_reducible refine PQ ?_ | with_reducible refine PR ?_ | with_reducible refine PU ?_ | with_reducible refine PV ?_);refine ao a1 a2 q):P:=h a1 a2 q
theorem kg3 (a1:A1) (a2:A2) (a3:A3) (q:Q) (h:A1->A2->A3->Q->P:=by intro a1 a2 a3 q;first | (with_reducible refine VC.ag aa ?_;refine aM a1 a2 a3 q) | (with_reducible refine WC.sound aa ?_;refine aM a1 a2 a3 q) | (first | with_reducible refine PQ ?_ | with_reducible refine PR ?_ | with_reducible refine PU ?_ | with_reducible refine PV ?_);refine aM a1 a2 a3 q):P:=h a1 a2 a3 q
theorem kg4 (a1:A1) (a2:A2) (a3:A3) (a4:A4) (q:Q) (h:A1->A2->A3->A4->Q->P:=by intro a1 a2 a3 a4 q;first | (with_reducible refine VC.ag aa ?_;refine c8 a1 a2 a3 a4 q) | (with_reducible refine WC.sound aa ?_;refine c8 a1 a2 a3 a4 q) | (first | with_reducible refine PQ ?_ | with_reducible refine PR ?_ | with_reducible refine PU ?_ | with_reducible refine PV ?_);refine c8 a1 a2 a3 a4 q):P:=h a1 a2 a3 a4 q
theorem kg5 (a1:A1) (a2:A2) (a3:A3) (a4:A4) (a5:A5) (q:Q) (h:A1->A2->A3->A4->A5->Q->P:=by intro a1 a2 a3 a4 a5 q;first | (with_reducible refine VC.ag aa ?_;refine iL a1 a2 a3 a4 a5 q) | (with_reducible refine WC.sound aa ?_;refine iL a1 a2 a3 a4 a5 q) | (first | with_reducible refine PQ ?_ | with_reducible refine PR ?_ | with_reducible refine PU ?_ | with_reducible refine PV ?_);refine iL a1 a2 a3 a4 a5 q):P:=h a1 a2 a3 a4 a5 q
theorem kg6 (a1:A1) (a2:A2) (a3:A3) (a4:A4) (a5:A5) (a6:A6) (q:Q) (h:A1->A2->A3->A4->A5->A6->Q->P:=by intro a1 a2 a3 a4 a5 a6 q;first | (with_reducible refine VC.ag aa ?_;refine Ca a1 a2 a3 a4 a5 a6 q) | (with_reducible refine WC.sound aa ?_;refine Ca a1 a2 a3 a4 a5 a6 q) | (first | with_reducible refine PQ ?_ | with_reducible refine PR ?_ | with_reducible refine PU ?_ | with_reducible refine PV ?_);refine Ca a1 a2 a3 a4 a5 a6 q):P:=h a1 a2 a3 a4 a5 a6 q
end
section
variable {G H:Gh} {n:Sz} {D:List Deferred} {e e':Env} {a:Act} {P:Program} {tab:bS} {O O':VH} {w:World} {m m':MV} {u v:Value} {ops:Array Oper} {Q:VQ} {md:Md}
def Zx (P:Program) (tab:bS) (rs:List ResultVar) (g:FuncId) (cap:List Operand) (t:Tmp) (k lo:Nat) (rest:Code) (R:fB->VH->Prop):VQ:=fun x e O=>match x with
 | .normal=>∃ms,fu e cap=some ms/\∀D,VC P ⟨k,lo⟩ D rest ((t,.func (.func g) [] ms)::e) O (KT P tab rs g ms R)
 | .ret=>iy R O (gX tab e O rs)
 | _=>False
theorem PW (ht:aJ P tab) {el:TypeId} {te:cn} {B n' j:Nat} {L ds:List MV} {p q:MV} {dx:TypeDesc} {d:Option Tmp} {x y:Operand} {t tx ty:TypeId} {ps:String} {af:Array Edge} {g:Option (Nat×Bool)}
  (hr:GR O el te.size B p n' L) (hs:yR O te.size q=some (j,ds)) (gJ:ds.all dz=true) (hu:(tab t).map cn.under=some (.slice el)) (he:tab el=some te) (uH:(tab tx).map cn.under=some dx) (Dz:yS q dx) (hb:(n'+j)*te.bytes<=140737488355328) (hm:n'+j<=maxLen) (hB:B<=O.next)
  (hx:ev e x=some p) (hy:ev e y=some q):
  fC P n D (.mk d (.call {callee:=.builtin .append,args:= #[x,y],argTypes:= #[t,tx]}) ty ps af g) e O (fun m O'=>GR O' el te.size B m (n'+j) (L++ds)/\bj O (gid p) O'/\(gid p=none->O.Ge O')/\((∃k c,m= .bk k 0 (n'+j) c/\(gid p=some k\/(O.next<=k/\j≠0)))\/(j=0/\m=p/\O'=O))):=by
 intro G a w hw hf;have mJ:=hf.ev hx;have wM:=hf.ev hy;have eV:=bq ht uH
 have fin:∀{m O' u w' H},(GR O' el te.size B m (n'+j) (L++ds)/\bj O (gid p) O'/\(gid p=none->O.Ge O')/\((∃k c,m= .bk k 0 (n'+j) c/\(gid p=some k\/(O.next<=k/\j≠0)))\/(j=0/\m=p/\O'=O)))->(Builtin.append_ #[t,tx] ty #[a.eval x,a.eval y]).run P w= .ok u w'->Gh.Le G H->WR H O' w'->VR H m u->
   ∃m O' u w' H,(GR O' el te.size B m (n'+j) (L++ds)/\bj O (gid p) O'/\(gid p=none->O.Ge O')/\((∃k c,m= .bk k 0 (n'+j) c/\(gid p=some k\/(O.next<=k/\j≠0)))\/(j=0/\m=p/\O'=O)))/\(execOp a.eval (.mk d (.call {callee:=.builtin .append,args:= #[x,y],argTypes:= #[t,tx]}) ty ps af g)).run P w= .ok (.value u) w'/\Gh.Le G H/\WR H O' w'/\VR H m u:=fun hM bW h1 h2 h3=>
  ⟨_,_,_,_,_,hM,by simp only[execOp,resolve,invoke,builtin,List.map_toArray,List.map_cons,List.map_nil,Sem.run_bind,Sem.run_pure,Result.andThen_ok]<;>simp[bW],h1,h2,h3⟩
 obtain⟨vs,oD,hv⟩:=yT (P:=P) hw hs wM eV Dz gJ;have kc:ds.length=j*te.size:=by rw[<-hv.1];exact oD.newsLen
 rcases hr with⟨rfl,rfl,hp⟩ | ⟨k,c,rfl,yW,ob,cC⟩
 ·have hA:∃A,a.eval x= .slice A 0 0/\(∀w',(Builtin.firstCells te.size 0 (.slice A 0 0)).run P w'= .ok #[] w'):=by
   generalize a.eval x=u at mJ
   have key:∀A:Option Addr,∀w',(Builtin.firstCells te.size 0 (.slice A 0 0)).run P w'= .ok #[] w':=fun A w'=>by
    cases A<;>simp[Builtin.firstCells,loadCells,loadCellsFrom]
   rcases hp with rfl | rfl
   ·cases mJ with
    | slnil=>exact⟨_,rfl,key _⟩
    | sl h1 h2 h3 h4 h5 h6=>exact h6.elim
   ·cases mJ with
    | sl h1 h2 h3 h4 h5 h6=>
      have h6:_=0:=h6;subst h6;exact⟨_,rfl,key _⟩
  obtain⟨A,hA,Kx⟩:=hA;have X0:gid p=none:=by rcases hp with rfl | rfl<;>rfl
  by_cases hj:j=0
  ·subst hj;have nP:ds=[]:=List.eq_nil_of_length_eq_zero (by simpa using kc);subst nP;refine fin (m:=p) (O':=O) (u:=a.eval x) (w':=w) (H:=G) ⟨.inl ⟨rfl,rfl,hp⟩,bj.refl _ _,fun _=>VH.Ge.refl _,.inr ⟨rfl,rfl,rfl⟩⟩ ?_ (Gh.Le.refl G) hw mJ;have iH:vs=[]:=by have:=hv.1;simpa using this
   subst iH;rw[hA];have eE:=bq ht hu;obtain⟨ti,z,i1,i2,_⟩:=(ht _ te he).info;rcases oD.kind with⟨e',hk⟩ | hk<;>cases A<;>simp[Builtin.append_,run_underlying eE,run_underlying hk,eN (ht _ te he),oD.len,oD.cells,storeCells]
  ·rw[hA]at fin;obtain⟨c',w',H,zs,g1,g2,g3,g4,g5,g6,g7⟩:=yU (P:=P) ht hw (n':=0) (c:=0) (A:=A) (L:=[]) (us:=[]) (ty:=ty) hu he eV hs Dz gJ aL.nil (by simp) (Kx _) (by omega) hb hm wM;refine fin ⟨.inr ⟨O.next,c',rfl,g1,by rw[List.length_append,kc];simp,?_⟩,?_,fun _=>?_,.inl ⟨_,_,rfl,.inr ⟨Nat.le_refl _,hj⟩⟩⟩ g4 g5 g6 g7
   ·refine Row.xL (cs:=[]) (t:=el) ?_ hB;rw[List.length_append,g3,List.length_append,kc,List.length_nil,Nat.zero_add, <-Nat.add_mul]
    congr 1;omega
   ·rw[X0];exact bj.push.trans bj.push
   ·exact((VH.Ge.refl O).push _).push _
 ·obtain⟨sp,iA,kG⟩:=cC.cells;generalize oc:a.eval x=u at mJ;have X5:=mJ;cases X5 with
  | bk hp hn hmx=>
    rename_i b;rw[oc]at fin;have hmul:(n'+j)*te.size=n'*te.size+j*te.size:=Nat.add_mul _ _ _;by_cases oa:n'+j<=c
    ·have hle:(n'+j)*te.size<=c*te.size:=Nat.mul_le_mul_right _ oa;obtain⟨w',A,g1,g2,g3⟩:=Kw (P:=P) (ty:=ty) ht hw hu he eV iA hs Dz gJ oa (by rw[kG,kc];omega) mJ wM;rw[Nat.zero_add, <-ob,yV]at g2
     have GW:ds.length<=sp.length:=by
      rw[List.length_append]at kG;omega
     rw[List.take_of_length_le GW]at g2;refine fin ⟨.inr ⟨k,c,rfl,oa,by rw[List.length_append,ob,kc,hmul],cC.aej ?_⟩,bj.set,(fun h=>by cases h),.inl ⟨_,_,rfl,.inl rfl⟩⟩ g1 (Gh.Le.refl G) g2 g3;rw[List.length_append,List.length_append,List.length_drop];rw[List.length_append]at kG;omega
    ·obtain⟨b',C,T,d1,d2,d3⟩:=hw.cells k _ iA;rw[hp]at d1;injection d1 with d1;subst d1
     have hL:=d3.take L.length;rw[List.take_left,List.take_take,Nat.min_eq_left (by rw[List.length_append];omega)]at hL
     have hold:(Builtin.firstCells te.size n' (.slice (some ⟨b,0,none⟩) n' c)).run P w.drew= .ok (C.toList.take L.length).toArray w.drew:=by
      refine run_firstCells_some (P:=P) w.drew te.size n' ⟨b,0,none⟩ n' c _ (by rw[hL.1,ob]) fun i u hu=>?_
      rw[Addr.add_lit,Nat.zero_add];rw[List.getElem?_take]at hu;split at hu
      ·have j4:w.drew.heap[b]?=some (.cells C T.t T.fr):=d2;simp only[World.cell?,j4,Option.isSome_none,Bool.false_eq_true,if_false];simpa using hu
      ·cases hu
     obtain⟨c',w',H,zs,g1,g2,g3,g4,g5,g6,g7⟩:=yU (P:=P) (ty:=ty) ht hw (n':=n') (c:=c) (A:=some ⟨b,0,none⟩) (L:=L) hu he eV hs Dz gJ hL ob hold (by omega) hb hm wM;refine fin ⟨.inr ⟨O.next,c',rfl,g1,by rw[List.length_append,ob,kc,hmul],?_⟩,(bj.push.trans bj.push).any,(fun h=>by cases h),.inl ⟨_,_,rfl,.inr ⟨Nat.le_refl _,by omega⟩⟩⟩ g4 g5 g6 g7;refine Row.xL (cs:=[]) (t:=el) ?_ hB;rw[List.length_append,g3,List.length_append,ob,kc, <-hmul, <-Nat.add_mul]
     congr 1;omega
theorem VF.D_ {f g:FuncId} {fn:Func} {A B rest:Code} {id k lo:Nat} {t:Tmp} {cap:Array Operand} {ty YO:TypeId} {ps YP:String} {af YQ:Array Edge} {args:List MV} {rs:List ResultVar} {R:fB->VH->Prop} (hf:P.funcs[f]?=some fn) (hE:Enters P g)
  (h:WC P tab ⟨k,0⟩ [] A (cc 0 args) O (qo (Iz P ⟨k,0⟩ [] B (Zx P tab rs g cap.toList t k lo rest R)) (Zx P tab rs g cap.toList t k lo rest R))) (ht:aJ P tab:=by exact aa) (hb:fn.body=some (.seq A (.seq B (.seq (.region id ⟨[.mk (some t) (.makeFunc (.func g) #[] cap) ty ps af none,.mk none (.defer {callee:=.value (.tmp t),args:= #[],argTypes:= #[]}) YO YP YQ none]⟩ false) rest))):=by exact rfl) (hk:fn.ntmps=k:=by exact rfl) (hr:fn.results.toList=rs:=by exact rfl) (hn:args.length<=k:=by exact Nat.le_of_ble_eq_true rfl) (eG:t<k:=by decide):VF P f args O R:=by
 subst hk;intro G w vs hw hv;refine calls_of_wp_defers hf hb ?_
 have aT:FR G ⟨fn.ntmps,0⟩ [] (cc 0 args) {tmps:=vs.toArray++Array.replicate (fn.ntmps - vs.toArray.size) undef,defers:=[]}:=by
  have hl:=hv.1;refine⟨rfl,by simp;omega,fun t x hx=>?_⟩;rw[gT,if_pos (Nat.zero_le _),Nat.sub_zero]at hx;obtain⟨u,h1,h2⟩:=hv.get hx;refine⟨u,?_,h2⟩;have dJ:=(List.getElem?_eq_some_iff.1 h1).1;rw[Array.getElem?_append_left (by simpa using dJ)];simpa using h1
 refine wp_seq (wp_mono (WC.sound ht h G _ w hw aT) ?_)
 have early:∀{e:Env} {a':Act} {w':World} {O':VH} {K:Gh},Gh.Le G K->WR K O' w'->FR K ⟨fn.ntmps,0⟩ [] e a'->iy R O' (gX tab e O' rs)->
   Leaves P fn a'.tmps (fun x w'=>∃r O' H,Gh.Le G H/\WR H O' w'/\ER H r x/\R r O') a'.defers .returning w':=by
  intro e a' w' O' K k1 k2 k3 q3;rw[k3.defers]
  have key:∃m,cX tab fn e O'=some m/\R (.ret m) O':=by
   unfold cX;rw[hr, <-rq];generalize gX tab e O' rs=z at q3;unfold iy at q3;split at q3
   ·exact q3.elim
   ·exact⟨_,rfl,q3⟩
   ·rename_i l hl;refine⟨.tuple l,?_,q3⟩
    match l,hl with
    | [],_=>rfl
    | [m],hl=>exact absurd rfl (hl m)
    | _::_::_,_=>rfl
  obtain⟨m,h6,h7⟩:=key;obtain⟨u2,h8,h9⟩:=kJ (P:=P) ht k2 k3 h6;exact⟨u2,h8,.ret m,O',K,k1,k2,h9,h7⟩
 rintro y a1 w1 ⟨x,e,O1,H,g1,g2,g3,g4,g5⟩
 cases y<;>cases x<;>first
  | exact False.elim g4
  | exact g5.elim
  | exact early g1 g2 g3 g5
  | skip
 refine wp_seq (wp_mono (g5 H a1 w1 g2 g3) ?_);rintro y a1 w1 ⟨x,e,O1,H2,g1',g2,g3,g4,g5⟩
 replace g1:=g1.trans g1'
 clear g1'
 cases y<;>cases x<;>first
  | exact False.elim g4
  | exact g5.elim
  | exact early g1 g2 g3 g5
  | skip
 obtain⟨ms,hm,Pf⟩:=g5;have g3:FR H2 ⟨fn.ntmps,0⟩ [] e a1:=g3;have iH:=g3.fu hm;have Fp:cap.map a1.eval=(cap.toList.map a1.eval).toArray:=by apply Array.ext';simp
 generalize cap.toList.map a1.eval=us at iH Fp
 have Pg:(execOp a1.eval (.mk (some t) (.makeFunc (.func g) #[] cap) ty ps af none)).run P w1= .ok (.value (.func (.func g) #[] us.toArray)) w1:=by
  simp[execOp,Instr.makeFunc,Fp]
 have hz:=g3.size;dsimp only at hz
 have hev:(a1.put (some t) (.func (.func g) #[] us.toArray)).eval (.tmp t)= .func (.func g) #[] us.toArray:=by
  simp[Act.eval,Act.put,hz,eG]
 have Ph:(execOp (a1.put (some t) (.func (.func g) #[] us.toArray)).eval (.mk none (.defer {callee:=.value (.tmp t),args:= #[],argTypes:= #[]}) YO YP YQ none)).run P w1= .ok (.defer {target:=.fn (.func g) us.toArray,args:= #[]}) w1:=by
  simp[execOp,resolve,hev,Deferred.ofValue]
 refine wp_seq (wp_region ?_);have KS:∀o1 o2:Oper,List.range (Array.mk [o1,o2]).size=[0,1]:=fun _ _=>rfl
 rw[KS];have IB:∀(o1 o2:Oper) (tm:Array Value),o1.guard=none->Region.wanted o1 (yielded ⟨[o1,o2]⟩ tm)=true:=fun o1 o2 tm h=>by simp[Region.wanted,h]
 have ru:∀(o1 o2:Oper) (tm:Array Value),o2.guard=none->Region.wanted o2 (yielded ⟨[o1,o2]⟩ tm)=true:=fun o1 o2 tm h=>by simp[Region.wanted,h]
 simp only[wpOps,List.getElem?_toArray,List.getElem?_cons_zero,List.getElem?_cons_succ];rw[if_pos (IB _ _ _ rfl)];refine .inl ?_;unfold Oper.wp;rw[Pg,Oper.upon_value];simp only[wpOps,List.getElem?_toArray,List.getElem?_cons_zero,List.getElem?_cons_succ];rw[if_pos (ru _ _ _ rfl)];refine .inl ?_;first | unfold Oper.wp | skip
 rw[Ph,Oper.upon_defer];have xK:FR H2 ⟨fn.ntmps,0⟩ [] ((t,.func (.func g) [] ms)::e) (a1.put (some t) (.func (.func g) #[] us.toArray)):=FR.put g3 eG (.func (fs:=[]) (us:=[]) rfl (fun i c u h=>by simp at h) iH.1 iH.2);generalize a1.put (some t) (.func (.func g) #[] us.toArray)=a2 at xK;have B8:FR H2 ⟨fn.ntmps,lo⟩ [{target:=.fn (.func g) us.toArray,args:= #[]}] ((t,.func (.func g) [] ms)::e) {a2 with defers:={target:=.fn (.func g) us.toArray,args:= #[]}::a2.defers}:=⟨by rw[xK.defers],xK.size,xK.get⟩;show rest.wp P _ _ _;refine wp_mono (Pf _ H2 _ w1 g2 B8) ?_;rintro y a' w' ⟨x,e',O',K,k1,k2,k3,k4,k5⟩
 have hinv:∀w:World,(invoke (.fn (.func g) us.toArray) #[]).run P w= .ok (.enter g us.toArray) w:=fun w=>by
  simp[invoke,hE us.toArray w]
 have fin:∀(u:FrameMode) (z:Option MV),u≠ .run->MR K z u->FR K ⟨fn.ntmps,lo⟩ [{target:=.fn (.func g) us.toArray,args:= #[]}] e' a'->fM P g ms z O' (fun O'=>iy R O' (gX tab e' O' rs))->
   Leaves P fn a'.tmps (fun x w'=>∃r O' H,Gh.Le G H/\WR H O' w'/\ER H r x/\R r O') a'.defers u w':=by
  intro u z hu hmr YR hd;rw[YR.defers];refine leaves_cons hu (hinv _) ((hd K w' us u k2 (iH.mono k1) hmr).mono ?_);rintro r u' Fu ⟨⟨v,rfl⟩,hs,O2,K2,q1,q2,q3⟩;dsimp only;rw[hs]
  have key:∃m,cX tab fn e' O2=some m/\R (.ret m) O2:=by
   unfold cX;rw[hr, <-rq];generalize gX tab e' O2 rs=z at q3;unfold iy at q3;split at q3
   ·exact q3.elim
   ·exact⟨_,rfl,q3⟩
   ·rename_i l hl;refine⟨.tuple l,?_,q3⟩
    match l,hl with
    | [],_=>rfl
    | [m],hl=>exact absurd rfl (hl m)
    | _::_::_,_=>rfl
  obtain⟨m,h6,h7⟩:=key;obtain⟨u2,h8,h9⟩:=kJ (P:=P) ht q2 (YR.mono q1) h6;exact⟨u2,h8,.ret m,O2,K2,(g1.trans k1).trans q1,q2,h9,h7⟩
 cases y with
 | normal=>cases x<;>first | exact False.elim k4 | exact fin .returning none (by simp) trivial k3 k5
 | ret=>cases x<;>first | exact False.elim k4 | exact fin .returning none (by simp) trivial k3 k5
 | panic c=>
   cases x with
   | panic m=>
     obtain⟨u,rfl,hvu⟩:=k4;exact fin (.panicking [⟨u,false,false⟩]) (some m) (by simp) hvu k3.2 k5
   | _=>exact False.elim k4
 | exit i=>cases x<;>first | exact False.elim k4 | exact k5.elim
 | goto i=>cases x<;>first | exact False.elim k4 | exact k5.elim
 | outgrown=>cases x<;>exact False.elim k4
theorem VL.agz (ht:aJ P tab) {brk:List Nat} {el:TypeId} {te:cn} {B n' j:Nat} {L ds:List MV} {p q:MV} {dx:TypeDesc} {d:Option Tmp} {x y:Operand} {t tx ty:TypeId} {ps:String} {af:Array Edge} {g:Option (Nat×Bool)} {LL:List (Fl×Oper)} (hne:brk≠[])
  (o7:∀i,ops[i]?=some (.mk d (.call {callee:=.builtin .append,args:= #[x,y],argTypes:= #[t,tx]}) ty ps af g)->brk.contains i=true)
  (hr:GR O el te.size B p n' L) (hs:yR O te.size q=some (j,ds)) (gJ:ds.all dz=true) (hu:(tab t).map cn.under=some (.slice el)) (he:tab el=some te) (uH:(tab tx).map cn.under=some dx) (Dz:yS q dx) (hb:(n'+j)*te.bytes<=140737488355328) (hm:n'+j<=maxLen) (hB:B<=O.next)
  (hx:ev e x=some p) (hy:ev e y=some q) (hg:aK ops (.mk d (.call {callee:=.builtin .append,args:= #[x,y],argTypes:= #[t,tx]}) ty ps af g) e=some true) (hd:bf n d=true)
  (h:∀m O',GR O' el te.size B m (n'+j) (L++ds)->bj O (gid p) O'->(gid p=none->O.Ge O')->((∃k c,m= .bk k 0 (n'+j) c/\(gid p=some k\/(O.next<=k/\j≠0)))\/(j=0/\m=p/\O'=O))->WL P tab n D (.held brk) ops Q LL (aV d m e) O'):
  VL P n D (.held brk) ops ((.one,.mk d (.call {callee:=.builtin .append,args:= #[x,y],argTypes:= #[t,tx]}) ty ps af g)::LL) e O Q:=by
 refine VL.fD hg hd (fun _ aeG h=>by injection h with h;subst h;exact hne) (fun aeG h=>by injection h with h;subst h;exact .inr hne) (PW ht hr hs gJ hu he uH Dz hb hm hB hx hy) (fun aeG h i hi=>by injection h with h;subst h;exact o7 i hi) ?_;rintro m O' ⟨h1,h2,h3,h4⟩;exact WL.sound ht (h m O' h1 h2 h3 h4)
theorem bt.mv {brk:List Nat} {fuel:Nat} (i:Nat) {listed:Array Bool} {l:List Oper} {d:Option Tmp} {x:Operand} {ty:TypeId} {ps:String} {af:Array Edge} {g:Option (Nat×Bool)} (h:bt P n D ⟨l⟩ brk fuel (listed.setIfInBounds i true) (aV d m e) O Q) (ho:l[i]?=some (.mk d (.move x) ty ps af g):=by exact rfl) (hs:Region.noSelect ⟨l⟩=true:=by kernel_rfl) (hf:Region.free .any ⟨l⟩ listed i=true:=by kernel_rfl) (hr:(Region.ready .any ⟨l⟩ listed).contains i=true:=by kernel_rfl) (LD:brk.contains i=true:=by kernel_rfl) (hg:aK ⟨l⟩ (.mk d (.move x) ty ps af g) e=some true:=by exact rfl) (hd:bf n d=true:=by exact rfl) (hx:ev e x=some m:=by exact rfl):bt P n D ⟨l⟩ brk (fuel+1) listed e O Q:=by
 intro G a w hw aT;have hu:=aT.ev hx;have bW:∀w:World,(execOp a.eval (.mk d (.move x) ty ps af g)).run P w= .ok (.value (a.eval x)) w:=fun w=>by simp[execOp]
 have Cg:(⟨l⟩:Array Oper)[i]?=some (.mk d (.move x) ty ps af g):=by simpa using ho
 refine nI (S:=fun _=>True) (W:=fun _=>False) (brk:=fun _=>false) Cg (Region.noSelect_spec hs) (gy hd) (fun _ _ _ _=>trivial) (fun x _ hh=>by rw[LD]at hh;cases hh) fuel listed a w (Region.free_spec Cg hf) (fun _ _ _ h=>h.elim) (fun _ h=>h.elim) (fun _ _ _ h=>by cases h) (by simpa using hr) (.inl ⟨a_ aT hg,fun x _=>bW x⟩) trivial (h G _ w hw (aT.aV hd hu))
theorem bt.bI (ix:List (Nat×Fl)) {brk:List Nat} {fuel:Nat} {listed:Array Bool} {l:List Oper} {L:List (Fl×Oper)} (h:WL P tab n D (.held brk) ⟨l⟩ Q L e O) (ht:aJ P tab:=by exact aa) (hs:Region.noSelect ⟨l⟩=true:=by kernel_rfl) (hp:cz (.held brk) ⟨l⟩ fuel listed ix=true:=by kernel_rfl) (hL:nw l ix=some L:=by exact rfl):bt P n D ⟨l⟩ brk fuel listed e O Q:=
 (WL.sound ht h) fuel listed ix (se hL) (fun _=>⟨hs,hp⟩)
theorem VC.gen {c:Code} (h:∀O3,O3=O->VC P n D c e O3 Q):VC P n D c e O Q:=h _ rfl
theorem WL.gen {L:List (Fl×Oper)} (h:∀O3,O3=O->WL P tab n D md ops Q L e O3):WL P tab n D md ops Q L e O:=h _ rfl
theorem gh (a b:bV) {O1:VH} (h:O1=(O.push a).push b):O.Ge O1/\O1.next=O.next+2/\O1.hp O.next=some a/\O1.hp (O.next+1)=some b:=by
 subst h;exact⟨((VH.Ge.refl O).push _).push _,rfl,(VH.o8 _ _ (show O.next≠O.next+1 by omega)).trans (VH.aW _ _),VH.aW _ _⟩
theorem lQ (a b c:bV) {O1:VH} (h:O1=((O.push a).push b).push c):O.Ge O1/\O1.next=O.next+3/\O1.hp O.next=some a/\O1.hp (O.next+1)=some b/\O1.hp (O.next+2)=some c:=by
 subst h;obtain⟨h1,h2,h3,h4⟩:=gh (O:=O) a b rfl;exact⟨h1.push _,rfl,(VH.o8 _ _ (show O.next≠O.next+2 by omega)).trans h3,(VH.o8 _ _ (show O.next+1≠O.next+2 by omega)).trans h4,VH.aW _ _⟩
theorem PX (a b c d:bV) {O1:VH} (h:O1=(((O.push a).push b).push c).push d):O.Ge O1/\O1.next=O.next+4/\O1.hp O.next=some a/\O1.hp (O.next+1)=some b/\O1.hp (O.next+2)=some c/\O1.hp (O.next+3)=some d:=by
 subst h;obtain⟨h1,h2,h3,h4,h5⟩:=lQ (O:=O) a b c rfl;exact⟨h1.push _,rfl,(VH.o8 _ _ (show O.next≠O.next+3 by omega)).trans h3,(VH.o8 _ _ (show O.next+1≠O.next+3 by omega)).trans h4,(VH.o8 _ _ (show O.next+2≠O.next+3 by omega)).trans h5,VH.aW _ _⟩
theorem bt.AL (i:Nat) {brk:List Nat} {fuel:Nat} {listed:Array Bool} {l:List Oper} {o:Oper} (h:zb (fun m O'=>bt P n D ⟨l⟩ brk fuel (listed.setIfInBounds i true) (aV o.dst m e) O' Q) (gV tab .rd o e O)) (ht:aJ P tab:=by exact aa) (ho:l[i]?=some o:=by exact rfl) (hs:Region.noSelect ⟨l⟩=true:=by kernel_rfl) (hf:Region.free .any ⟨l⟩ listed i=true:=by kernel_rfl) (hr:(Region.ready .any ⟨l⟩ listed).contains i=true:=by kernel_rfl) (hb:nu ⟨l⟩ brk listed i=true:=by kernel_rfl) (hg:aK ⟨l⟩ o e=some true:=by exact rfl) (hd:bf n o.dst=true:=by exact rfl):bt P n D ⟨l⟩ brk (fuel+1) listed e O Q:=by
 generalize hv:gV tab .rd o e O=v at h;cases v with
 | none=>exact h.elim
 | some p=>
   obtain⟨m,O'⟩:=p
   exact bt.take (by simpa using ho) hs hf hr hb hd (fun G a w hw aT=>by
    obtain⟨_,u,hu,bW⟩:=vV (P:=P) ht hw aT (by simp) hv;exact⟨u,hu,.inl ⟨a_ aT hg,bW⟩⟩) (by
    obtain rfl:=uv (by simp) hv;exact h)
theorem bt.fin {brk:List Nat} {fuel:Nat} {listed:Array Bool} (hb:((List.range listed.size).all fun j=>listed.getD j true||brk.contains j)=true) (h:bX P n D ops fuel listed e O Q):bt P n D ops brk fuel listed e O Q:=by
 intro G a w hw aT;refine mM _ _ _ _ (fun j hj x hs hh=>?_) (h G a w hw aT);rcases Nat.lt_or_ge j listed.size with hl | hl
 ·have:=List.all_eq_true.1 hb j (List.mem_range.2 hl);rw[hj,Bool.false_or]at this;rw[this]at hh;cases hh
 ·rw[Array.getD_eq_getD_getElem?,Array.getElem?_eq_none (by simpa using hl)]at hj;cases hj
theorem bX.R0 {i:Nat} {fuel:Nat} {listed:Array Bool} {l:List Oper} {o:Oper} (h:zb (fun m O'=>bX P n D ⟨l⟩ fuel (listed.setIfInBounds i true) (aV o.dst m e) O' Q) (cQ tab o e O)) (ht:aJ P tab:=by exact aa) (ho:l[i]?=some o:=by exact rfl) (hr:Region.ready .any ⟨l⟩ listed=[i]:=by kernel_rfl) (hg:aK ⟨l⟩ o e=some true:=by exact rfl) (hd:bf n o.dst=true:=by exact rfl):bX P n D ⟨l⟩ (fuel+1) listed e O Q:=
 bX.all hr (by simp) fun j hj=>by
  obtain rfl:j=i:=by simpa using hj
  exact aH.o1 h (ht:=ht) (ho:=ho) (hg:=hg) (hd:=hd)
theorem bX.st {i:Nat} {fuel:Nat} {listed:Array Bool} {l:List Oper} {o:Oper} {M:MV->VH->Prop} (ho:l[i]?=some o) (hr:Region.ready .any ⟨l⟩ listed=[i]) (hg:aK ⟨l⟩ o e=some true) (hd:bf n o.dst=true) (hy:fC P n D o e O M)
  (h:∀m O',M m O'->bX P n D ⟨l⟩ fuel (listed.setIfInBounds i true) (aV o.dst m e) O' Q):bX P n D ⟨l⟩ (fuel+1) listed e O Q:=
 bX.all hr (by simp) fun j hj=>by
  obtain rfl:j=i:=by simpa using hj
  exact aH.st hy h (ho:=ho) (hg:=hg) (hd:=hd)
theorem bX.two {i j:Nat} {fuel:Nat} {listed:Array Bool} (hr:Region.ready .any ops listed=[i,j])
  (h1:aH P n D ops i e O Q fun e' O'=>bX P n D ops fuel (listed.setIfInBounds i true) e' O' Q) (h2:aH P n D ops j e O Q fun e' O'=>bX P n D ops fuel (listed.setIfInBounds j true) e' O' Q):bX P n D ops (fuel+1) listed e O Q:=
 bX.all hr (by simp) fun x hx=>by
  simp only[List.mem_cons,List.not_mem_nil,or_false]at hx;rcases hx with rfl | rfl
  ·exact h1
  ·exact h2
theorem WR.U9 (h:WR G O w) {k:Nat} {cs ds:List MV} (hk:O.hp k=some (.cells cs)) (hw:ew cs ds):WR G (O.set k (.cells ds)) w:=
 h.swap (by rw[hk];simp) (fun cs' e=>by
  injection e with e;subst e
  obtain⟨b,C,T,h1,h2,h3⟩:=h.cells k cs hk;exact⟨b,C,T,h1,h2,by rw[<-hw.1];exact hw.vrs h3⟩) (fun X e=>by cases e) (fun _ _ e=>by cases e) (fun e=>by cases e) (fun _ _ _ e=>by cases e)
theorem VC.U9 {c:Code} {k:Nat} {cs ds:List MV} (hk:O.hp k=some (.cells cs)) (hw:ew cs ds) (h:VC P n D c e (O.set k (.cells ds)) Q):VC P n D c e O Q:=fun G a w hwr hf=>h G a w (hwr.U9 hk hw) hf
theorem WR.wc (h:WR G O w) {k p o n c sz:Nat} {cs A E:List MV} (hk:O.hp k=some (.cells cs)) (hp:O.hp p=some (.cells (A++ .bk k o n c::E))) (lG:p≠k) (hl:o+sz<=cs.length):∃H,Gh.Le G H/\WR H ((O.kill k).set p (.cells (A++ .sl n ((cs.drop o).take sz) .aq::E))) w:=by
 obtain⟨b,C,T,h1,h2,h3⟩:=h.cells p _ hp;obtain⟨u,hu,hv⟩:=h3.get (i:=A.length) (c:=.bk k o n c) (by rw[List.getElem?_append_right (Nat.le_refl _),Nat.sub_self];rfl);obtain⟨H,h4,h5,h6⟩:=h.freeze hk hv hl;refine⟨H,h4,?_⟩;have LG:(O.kill k).hp p=some (.cells (A++ .bk k o n c::E)):=(VH.kh _ lG).trans hp;refine h5.swap (by rw[LG];simp) (fun cs' e=>?_) (fun X e=>by cases e) (fun _ _ e=>by cases e) (fun e=>by cases e) (fun _ _ _ e=>by cases e);injection e with e;subst e
 refine⟨b,C,T,h4.bD h1,h2,?_⟩;have h7:=h3.mono h4;refine⟨?_,fun i c' u' hc CR=>?_⟩
 ·rw[List.length_append,List.length_cons]at h7 ⊢;have:=h7.1;rw[List.length_append,List.length_cons]at this;exact this
 ·have hlen:(A++MV.sl n ((cs.drop o).take sz) .aq::E).length=(A++MV.bk k o n c::E).length:=by simp
  rw[hlen]at CR;by_cases hi:i=A.length
  ·subst hi;rw[List.getElem?_append_right (Nat.le_refl _),Nat.sub_self]at hc;injection hc with hc;subst hc
   rw[hu]at CR;injection CR with CR;subst CR
   exact Wk.tok _ _ h6
  ·refine h7.2 i c' u' ?_ CR;rcases Nat.lt_or_ge i A.length with dJ | gQ
   ·rw[List.getElem?_append_left dJ]at hc ⊢;exact hc
   ·rw[List.getElem?_append_right gQ]at hc ⊢;obtain⟨j,hj⟩:∃j,i - A.length=j+1:=⟨i - A.length - 1,by omega⟩
    rw[hj,List.getElem?_cons_succ]at hc ⊢;exact hc
theorem VC.wc {c0:Code} {k p o n' c sz:Nat} {cs A E:List MV} (hk:O.hp k=some (.cells cs)) (hp:O.hp p=some (.cells (A++ .bk k o n' c::E))) (lG:p≠k) (hl:o+sz<=cs.length) (h:VC P n D c0 e ((O.kill k).set p (.cells (A++ .sl n' ((cs.drop o).take sz) .aq::E))) Q):VC P n D c0 e O Q:=fun G a w hw hf=>by
 obtain⟨H,h1,h2⟩:=hw.wc hk hp lG hl;exact wp_mono (h H a w h2 (hf.mono h1)) fun _ _ _=>cf.le h1
end
section
variable {G H:Gh} {n:Sz} {D:List Deferred} {e e':Env} {a:Act} {P:Program} {tab:bS} {O O':VH} {w:World} {m m':MV} {u v:Value} {ops:Array Oper} {Q:VQ} {md:Md}
theorem ab.aiu (i:Nat) {brk:List Nat} {Ψ :Gh->Prop} {J:VH->Prop} {Z:Prop} {fuel:Nat} {listed:Array Bool} {l:List Oper} {o:Oper} (h:zb (fun m O'=>ab P n D ⟨l⟩ brk J Ψ Z fuel (listed.setIfInBounds i true) (aV o.dst m e) O' Q) (gV tab .av o e O)) (ht:aJ P tab:=by exact aa) (ho:l[i]?=some o:=by exact rfl) (hs:Region.noSelect ⟨l⟩=true:=by kernel_rfl) (hf:Region.free .any ⟨l⟩ listed i=true:=by kernel_rfl) (hr:(Region.ready .any ⟨l⟩ listed).contains i=true:=by kernel_rfl) (LD:brk.contains i=true:=by kernel_rfl) (hg:aK ⟨l⟩ o e=some true:=by exact rfl) (hd:bf n o.dst=true:=by exact rfl):ab P n D ⟨l⟩ brk J Ψ Z (fuel+1) listed e O Q:=by
 generalize hv:gV tab .av o e O=v at h;cases v with
 | none=>exact h.elim
 | some p=>
   obtain⟨m,O'⟩:=p;obtain⟨h1,rfl⟩:=nv hv;intro hΨ hZ hJ G a w hψ hw aT;obtain⟨u,hu,bW⟩:=uc (P:=P) ht aT h1;have Cg:(⟨l⟩:Array Oper)[i]?=some o:=by simpa using ho
   exact nI (S:=fun x=>SS G x) (W:=fun _=>False) (brk:=fun _=>false) Cg (Region.noSelect_spec hs) (gy hd) (fun _ _ _ hT=>hT.1) (fun x hx=>⟨hx,fun hh=>by rw[LD]at hh;cases hh⟩) fuel listed a w (Region.free_spec Cg hf) (fun _ _ _ h=>h.elim) (fun _ h=>h.elim) (fun _ _ _ h=>by cases h) (by simpa using hr) (.inl ⟨a_ aT hg,fun x hx=>bW x hx⟩) hw.ss (h hΨ hZ hJ G _ w hψ hw (aT.aV hd hu))
theorem VC.sC {id:Nat} (brk:List Nat) (J:VH->Prop) (hJ:J O) (h:ab P n D ops brk J (fun _=>True) True ops.size (Array.replicate ops.size false) e O Q) (hm:P.follows .mixedOrders=true:=by kernel_rfl):VC P n D (.region id ops true) e O Q:=
 fun G a w hw hf=>wp_region_any hm (kf _ _ _ _ (h (fun _ _ _ _=>trivial) trivial hJ G a _ trivial (hw.drawn _) hf))
def exP:MV->Bool
 | .ptr _ _=>true
 | .map _=>true
 | m=>exM m
theorem Zy (hm:exP m=true) (h1:VR G m u) (hl:Gh.Le G H) (h2:VR H m v):v=u:=by
 cases m with
 | ptr k o=>
   cases h1 with
   | ptr a=>cases h2 with
     | ptr b=>rw[hl.bD a]at b;injection b with b;rw[b]
 | map k=>
   cases h1 with
   | map a=>cases h2 with
     | map b=>rw[hl.bD a]at b;injection b with b;rw[b]
 | _=>refine RG ?_ h1 h2;exact hm
theorem ab.mC (i:Nat) {J:VH->Prop} {Ψ :Gh->Prop} {Z:Prop} {brk:List Nat} {fuel:Nat} {listed:Array Bool} {l:List Oper} {d:Option Tmp} {t:TypeId} {x:Operand} {ty:TypeId} {ps:String} {af:Array Edge} {g:Option (Nat×Bool)} {p:MV} (hv:∀O2,J O2->eD tab O2 t p=some m) (h:ab P n D ⟨l⟩ brk J Ψ Z fuel (listed.setIfInBounds i true) (aV d m e) O Q) (ht:aJ P tab:=by exact aa) (ho:l[i]?=some (.mk d (.load t x) ty ps af g):=by exact rfl) (hs:Region.noSelect ⟨l⟩=true:=by kernel_rfl) (hf:Region.free .any ⟨l⟩ listed i=true:=by kernel_rfl) (hr:(Region.ready .any ⟨l⟩ listed).contains i=true:=by kernel_rfl) (hb:nu ⟨l⟩ brk listed i=true:=by kernel_rfl) (hg:aK ⟨l⟩ (.mk d (.load t x) ty ps af g) e=some true:=by exact rfl) (hd:bf n d=true:=by exact rfl) (hx:ev e x=some p:=by exact rfl) (hm:exP m=true:=by exact rfl):ab P n D ⟨l⟩ brk J Ψ Z (fuel+1) listed e O Q:=by
 refine ab.take (o:=.mk d (.load t x) ty ps af g) (by simpa using ho) hs hf hr hb hd (fun G a w _ hJ _ hw aT=>?_) h;obtain⟨u0,KR,_⟩:=nN (P:=P) ht hw (hv O hJ) (aT.ev hx);refine⟨u0,KR,.inl ⟨a_ aT hg,fun y hy=>?_⟩⟩;obtain⟨H,O2,g1,g2,g3⟩:=hy;obtain⟨r,g4,g5⟩:=nN (P:=P) ht g2 (hv O2 g3) ((aT.ev hx).mono g1);have:=g5 y g2.sx;have er:=Zy hm KR g1 g4;subst er;simp only[execOp,Sem.run_bind,this];rfl
def LH (k1 k2:Nat) (X1 X2:Obj) (O':VH):Prop:=O'.hp k1=some (.obj X1)/\O'.hp k2=some (.obj X2)
def ΨFF (PY LI:List MV) (X1 X2:Obj) (G:Gh):Prop:=kj PY X1 G/\kj LI X2 G
theorem VC.CD {id:Nat} (brk:List Nat) (k1 k2:Nat) {PY LI:List MV} (dL:O.hp k1=some (.cells PY)) (bN:O.hp k2=some (.cells LI))
  (h:∀X1 X2,ab P n D ops brk (LH k1 k2 X1 X2) (ΨFF PY LI X1 X2) True ops.size (Array.replicate ops.size false) e ((O.set k1 (.obj X1)).set k2 (.obj X2)) Q) (hne:k2≠k1:=by omega) (hm:P.follows .mixedOrders=true:=by kernel_rfl):VC P n D (.region id ops true) e O Q:=
 fun G a w hw hf=>by
  obtain⟨X1,fJ,IB⟩:=(hw.drawn _).fix dL;obtain⟨X2,j6,ru⟩:=IB.fix (k:=k2) (cs:=LI) ((VH.ak _ _ hne).trans bN);exact wp_region_any hm (kf _ _ _ _ (h X1 X2 (fun _ _ hl hx=>⟨kj.mono hl hx.1,kj.mono hl hx.2⟩) trivial ⟨(VH.ak _ _ (Ne.symm hne)).trans (VH.an _ _ _),VH.an _ _ _⟩ G a _ ⟨fJ,j6⟩ ru hf))
theorem ab.pJ (i:Nat) {J:VH->Prop} {Ψ :Gh->Prop} {Z:Prop} {brk:List Nat} {cs:List MV} {X:Obj} {fuel:Nat} {listed:Array Bool} {l:List Oper} {d:Option Tmp} {t:TypeId} {x:Operand} {ty:TypeId} {ps:String} {af:Array Edge} {g:Option (Nat×Bool)} {k off:Nat} (hJ:∀O',J O'->O'.hp k=some (.obj X)) (hΨ :∀G, Ψ G->kj cs X G) (hv:eD tab (O.set k (.cells cs)) t (.ptr k off)=some m) (h:ab P n D ⟨l⟩ brk J Ψ Z fuel (listed.setIfInBounds i true) (aV d m e) O Q) (ht:aJ P tab:=by exact aa) (ho:l[i]?=some (.mk d (.load t x) ty ps af g):=by exact rfl) (hs:Region.noSelect ⟨l⟩=true:=by kernel_rfl) (hf:Region.free .any ⟨l⟩ listed i=true:=by kernel_rfl) (hr:(Region.ready .any ⟨l⟩ listed).contains i=true:=by kernel_rfl) (hb:nu ⟨l⟩ brk listed i=true:=by kernel_rfl) (hg:aK ⟨l⟩ (.mk d (.load t x) ty ps af g) e=some true:=by exact rfl) (hd:bf n d=true:=by exact rfl) (hx:ev e x=some (.ptr k off):=by exact rfl):ab P n D ⟨l⟩ brk J Ψ Z (fuel+1) listed e O Q:=by
 refine ab.take (o:=.mk d (.load t x) ty ps af g) (by simpa using ho) hs hf hr hb hd (fun G a w _ hJO hψ hw aT=>?_) h;obtain⟨C,T,rfl,h3⟩:=hΨ G hψ;unfold eD at hv;simp only[cellsOf,VH.an]at hv;split at hv
 ·rename_i ti cs' off' NY hc;injection hc with hc;injection hc with e1 e2;subst e1;subst e2
  obtain⟨r,ng,fj⟩:=DI (P:=P) ht NY hv h3;have YV:=aT.ev hx;generalize YX:a.eval x=xu at YV;cases YV with
  | ptr hp=>
    rename_i b;refine⟨r,ng,.inl ⟨a_ aT hg,fun y hy=>?_⟩⟩;obtain⟨H,O2,g1,g2,g3⟩:=hy;obtain⟨b',cy,b9⟩:=g2.obj k _ (hJ _ g3);rw[g1.bD hp]at cy;injection cy with cy;subst cy
    have:=fj y b fun j v hj=>by
     rw[List.getElem?_take]at hj;split at hj
     ·simp only[World.cell?,b9,Option.isSome_none,Bool.false_eq_true,if_false];simpa using hj
     ·cases hj
    simp only[execOp,Sem.run_bind,YX,this];rfl
 ·cases hv
theorem ab.we (ix:List (Nat×Fl)) {brk:List Nat} {k1 k2:Nat} {PY LI:List MV} {X1 X2:Obj} {fuel:Nat} {listed:Array Bool} {l:List Oper} {L:List (Fl×Oper)}
  (h:WL P tab n D .any ⟨l⟩ Q L e ((O.set k1 (.cells PY)).set k2 (.cells LI))) (ht:aJ P tab:=by exact aa) (hb:((List.range listed.size).all fun j=>listed.getD j true||brk.contains j)=true:=by kernel_rfl) (hs:Region.noSelect ⟨l⟩=true:=by kernel_rfl) (hp:cz .any ⟨l⟩ fuel listed ix=true:=by kernel_rfl) (hL:nw l ix=some L:=by exact rfl) (hne:k2≠k1:=by omega):ab P n D ⟨l⟩ brk (LH k1 k2 X1 X2) (ΨFF PY LI X1 X2) True fuel listed e O Q:=by
 have h':=bX.bI ix h (ht:=ht) (hs:=hs) (hp:=hp) (hL:=hL);intro hΨ hZ hJ G a w hψ hw aT;refine mM _ _ _ _ (fun j hj x hs=>⟨hs,fun hh=>?_⟩) (h' G a w ((hw.w_ hJ.1 hψ.1).w_ (k:=k2) ((VH.ak _ _ hne).trans hJ.2) hψ.2) aT);rcases Nat.lt_or_ge j listed.size with hl | hl
 ·have:=List.all_eq_true.1 hb j (List.mem_range.2 hl);rw[hj,Bool.false_or]at this;rw[this]at hh;cases hh
 ·rw[Array.getD_eq_getD_getElem?,Array.getElem?_eq_none (by simpa using hl)]at hj;cases hj
theorem VC.zJ {id:Nat} (brk:List Nat) (k:Nat) {cs:List MV} (J0:VH->Prop) (hk:O.hp k=some (.cells cs)) (h0:∀X,J0 (O.set k (.obj X)))
  (h:∀X,ab P n D ops brk (fun O'=>O'.hp k=some (.obj X)/\J0 O') (kj cs X) True ops.size (Array.replicate ops.size false) e (O.set k (.obj X)) Q) (hm:P.follows .mixedOrders=true:=by kernel_rfl):VC P n D (.region id ops true) e O Q:=
 fun G a w hw hf=>by
  obtain⟨X,hx,ru⟩:=(hw.drawn _).fix hk;exact wp_region_any hm (kf _ _ _ _ (h X (fun _ _=>kj.mono) trivial ⟨VH.an _ _ _,h0 X⟩ G a _ hx ru hf))
theorem ab.jm (ix:List (Nat×Fl)) {brk:List Nat} {k:Nat} {cs:List MV} {X:Obj} {J0:VH->Prop} {fuel:Nat} {listed:Array Bool} {l:List Oper} {L:List (Fl×Oper)}
  (h:WL P tab n D .any ⟨l⟩ Q L e (O.set k (.cells cs))) (ht:aJ P tab:=by exact aa) (hb:((List.range listed.size).all fun j=>listed.getD j true||brk.contains j)=true:=by kernel_rfl) (hs:Region.noSelect ⟨l⟩=true:=by kernel_rfl) (hp:cz .any ⟨l⟩ fuel listed ix=true:=by kernel_rfl) (hL:nw l ix=some L:=by exact rfl):ab P n D ⟨l⟩ brk (fun O'=>O'.hp k=some (.obj X)/\J0 O') (kj cs X) True fuel listed e O Q:=by
 have h':=bX.bI ix h (ht:=ht) (hs:=hs) (hp:=hp) (hL:=hL);intro hΨ hZ hJ G a w hψ hw aT;refine mM _ _ _ _ (fun j hj x hs=>⟨hs,fun hh=>?_⟩) (h' G a w (hw.w_ hJ.1 hψ) aT);rcases Nat.lt_or_ge j listed.size with hl | hl
 ·have:=List.all_eq_true.1 hb j (List.mem_range.2 hl);rw[hj,Bool.false_or]at this;rw[this]at hh;cases hh
 ·rw[Array.getD_eq_getD_getElem?,Array.getElem?_eq_none (by simpa using hl)]at hj;cases hj
end
set_option linter.defProp false in
def bB:=And.intro dR<|And.intro T4 T3
def kT (dY:Bool) (s:Bs):Bool:=(kR s).2&&(dY||(kR s).1 != 6)
theorem PZ (dY:Bool) (O:VH):VF Tryz.prog 299 [mb dY] O (aI fun m O'=>m= .func (.func 316) [] [.ptr O.next 0]/\pr O [mb dY] O'):=by
 refine VF.bU 4 [.tmp 2] Tryz.func299 ?_;refine VC.ag aa (ae @bB ?_);refine VC.bx ?_;rintro O1 h1;refine WC.sound aa (ae @bB ?_);exact h1
theorem LJ (dY:Bool) (s:Bs) (b:Nat) (O:VH) (hb:O.hp b=some (.cells [mb dY])):VF Tryz.prog 316 ([.str s]++[.ptr b 0]) O (aI fun m O'=>m=mb (kT dY s)/\O.Ge O'):=by
 have hS:=LB s O;have hF:kT dY s=((kR s).2&&(dY||(kR s).1 != 6)):=rfl;generalize kT dY s=W at*;generalize kR s=q at*;obtain⟨n,c⟩:=q;simp only[List.cons_append,List.nil_append];dsimp only at hF hS;simp only[aY]at hb;refine VF.dh 19 [.tmp 3] Tryz.func316 ?_;refine ae @bB ?_;refine ah.rt (hS) ?_;rintro _ O2 ⟨rfl,rfl⟩;subst hF;cases c
 ·refine ao @bB @hb ?_;exact VH.Ge.refl _
 ·cases dY
  ·by_cases h6:n=6
   ·subst h6;refine ao @bB @hb ?_;exact⟨rfl,VH.Ge.refl _⟩
   ·have h6':((n:Int)==6)=false:=by rw[beq_eq_false_iff_ne];omega
    have h6b:((n:Int) != 6)=true:=by rw[bne,h6'];rfl
    have h6n:(n != 6)=true:=by rw[bne_iff_ne];exact h6
    refine iL @bB @hb @h6' @h6b @h6n ?_;exact VH.Ge.refl _
  ·refine ao @bB @hb ?_;exact VH.Ge.refl _
structure DS (O:VH) (B:Nat) (E:List MV) (O':VH) (cs:List MV):Prop where
 ec:O.Ge O'
 le:O.next<=B
 x:O'.hp B=some (.cells E)
 d:O'.hp (B+1)=some (.cells cs)
 lt:B+1<O'.next
theorem DS.st {O O':VH} {B:Nat} {E cs cs':List MV} (h:DS O B E O' cs):DS O B E (O'.set (B+1) (.cells cs')) cs':=
 ⟨h.ec.set (by have:=h.le;omega) _,h.le,VH.sn h.x,VH.an _ _ _,h.lt⟩
theorem DS.ge {O O' O2:VH} {B:Nat} {E cs:List MV} (h:DS O B E O' cs) (k:O'.Ge O2):DS O B E O2 cs:=
 ⟨h.ec.trans k,h.le,(k.hp _ (by have:=h.lt;omega)).trans h.x,(k.hp _ h.lt).trans h.d,Nat.lt_of_lt_of_le h.lt k.next⟩
theorem DS.w_ {O O' O2:VH} {B:Nat} {E cs:List MV} {X:Obj} (h:DS O B E O' cs) (k:(O'.set B (.obj X)).Ge O2):DS O B E (O2.set B (.cells E)) cs:=by
 have e1:(O'.set B (.obj X)).next=O'.next:=rfl;have e2:(O2.set B (.cells E)).next=O2.next:=rfl;have h1:=h.le;have h2:=h.lt;have h3:=h.ec.next;have h4:=k.next;refine⟨⟨by omega,fun j hj=>?_⟩,h.le,VH.an _ _ _,?_,by omega⟩
 ·rw[VH.ak _ _ (by omega),k.hp j (by omega),VH.ak _ _ (by omega)];exact h.ec.hp j hj
 ·rw[VH.ak _ _ (by omega),k.hp _ (by omega),VH.ak _ _ (by omega)];exact h.d
theorem VC.ds {P:Program} {n:Sz} {D:List Deferred} {c:Code} {e:Env} {Q:VQ} {O O':VH} {B:Nat} {E cs cs':List MV} (h:DS O B E O' cs) (k:∀O3,DS O B E O3 cs'->VC P n D c e O3 Q):VC P n D c e (O'.set (B+1) (.cells cs')) Q:=k _ h.st
theorem VC.ds0 {P:Program} {n:Sz} {D:List Deferred} {c:Code} {e:Env} {Q:VQ} {O:VH} {E cs:List MV} (k:∀O3,DS O O.next E O3 cs->VC P n D c e O3 Q):VC P n D c e ((O.push (.cells E)).push (.cells cs)) Q:=
 k _ ⟨((VH.Ge.refl O).push _).push _,Nat.le_refl _,(VH.bn _ _ (Nat.lt_succ_self _)).trans (VH.aW _ _),VH.aW _ _,Nat.lt_succ_self _⟩
def dw:Bs->Bool:=fun _=>true
theorem sD (s:Bs) (O':VH):VF Tryz.prog 251 ([.str s]++[]) O' (aI fun m lP=>m=mb (dw s)/\O'.Ge lP):=adh s O'
theorem U_ (s:Bs) (O':VH):VF Tryz.prog 300 ([.str s]++[]) O' (aI fun m lP=>m=mb (mg s)/\O'.Ge lP):=PJ s O'
def gB (s:Bs):Bool:=zB ⟨s,s⟩
theorem LK (s:Bs) (O':VH) (hs:s.length<=1024):VF Tryz.prog 301 ([.str s]++[]) O' (aI fun m lP=>m=mb (gB s)/\O'.Ge lP):=U6 s O' (by simp only[maxLen];omega)
def exE (k:Nd×Bs):Except (Int×Bs) fz:=
 match bG k.1 k.2 dI true gB with
 | .error e=>.error e
 | .ok g=>match bG k.1 k.2 dA true gB with
   | .error e=>.error e
   | .ok a=>.ok ⟨g,a⟩
def xg:List (Nd×Bs)->List fz->Except (Int×Bs) (List fz)
 | [],X=>.ok X
 | k::r,X=>match exE k with
   | .error e=>.error e
   | .ok i=>xg r (X++[i])
def uS (x:Nd) (w:Bs):Except (Int×Bs) (List fz):=
 match bZ x w lx with
 | .error e=>.error e
 | .ok ((_,_),false)=>.ok []
 | .ok ((y,wy),true)=>match mS y wy tn with
   | .error e=>.error e
   | .ok l=>xg l []
def Zz (s:Bs):Int:=if s=jM then 1 else if s=kM then 2 else 0
def ot (d:Dp):Except (Int×Bs) (List fz)->Except (Int×Bs) Dp
 | .error e=>.error e
 | .ok X=>.ok ⟨d.g,d.a,d.v,d.t,d.c,d.s,d.o,X⟩
def Ea (x:Nd) (w:Bs) (dY:Bool):Except (Int×Bs) Dp:=
 match bG x w dI true dw with
 | .error e=>.error e
 | .ok g=>match bG x w dA true dw with
 | .error e=>.error e
 | .ok a=>match bG x w fa false dw with
 | .error e=>.error e
 | .ok v=>match bG x w zD false dw with
 | .error e=>.error e
 | .ok t=>match bG x w zE false dw with
 | .error e=>.error e
 | .ok c=>match bG x w qt false (kT dY)with
 | .error e=>.error e
 | .ok s=>match bG x w l_ false mg with
 | .error e=>.error e
 | .ok o=>ot ⟨g,a,v,t,c,(kR s).1,Zz o,[]⟩ (uS x w)
theorem Hl {y:Nd} {wy nm:Bs} {L:List (Nd×Bs)} (h:mS y wy nm= .ok L):L.length<=1024/\∀p∈L,j7 p.1<=j7 y/\p.2.length<=wy.length+nm.length+1030:=by
 unfold mS at h;split at h
 ·cases h
 ·rename_i hn;injection h with h;subst h
  refine⟨by rw[Hk];omega,fun p hp=>?_⟩;unfold pF at hp;obtain⟨i,hi,rfl⟩:=List.mem_mapIdx.1 hp;have hk:=PL (List.getElem_mem hi);have D6:=rE (i+1);refine⟨Nat.le_of_lt hk,?_⟩;simp only[CC,List.length_append,List.length_cons,List.length_nil];omega
theorem DS.agA {O O' O2:VH} {B k:Nat} {E cs:List MV} {x y:bV} (h:DS O B E O' cs) (hk:B+1<k) (g:(O'.set k x).Ge O2):DS O B E (O2.set k y) cs:=by
 have e1:(O'.set k x).next=O'.next:=rfl;have e2:(O2.set k y).next=O2.next:=rfl;have h1:=h.le;have h2:=h.lt;have h3:=h.ec.next;have h4:=g.next
 have key:∀j,j<O'.next->j≠k->(O2.set k y).hp j=O'.hp j:=fun j hj hn=>by
  rw[VH.ak _ _ hn,g.hp j (by omega),VH.ak _ _ hn]
 exact⟨⟨by omega,fun j hj=>(key j (by omega) (by omega)).trans (h.ec.hp j hj)⟩,h.le,(key _ (by omega) (by omega)).trans h.x,(key _ (by omega) (by omega)).trans h.d,by omega⟩
theorem DS.app {O O':VH} {B sz:Nat} {E cs:List MV} {tk:Tok} (h:DS O B E O' cs) (ha:App O' (B+2) sz tk):DS O B E (O'.after tk) cs:=by
 have k:=cK.after ha;have h1:=h.le;have h2:=h.lt;have h3:=h.ec.next;have key:∀j,j<B+2->(O'.after tk).hp j=O'.hp j:=fun j hj=>k.hp j (by omega) (fun e=>by have:=(App.qe ha e).1;omega)
 exact⟨⟨Nat.le_trans h3 k.next,fun j hj=>(key j (by omega)).trans (h.ec.hp j hj)⟩,h.le,(key _ (by omega)).trans h.x,(key _ (by omega)).trans h.d,Nat.lt_of_lt_of_le h2 k.next⟩
theorem App.nT {O:VH} {B sz k:Nat} {tk:Tok} {x:bV} (h:App O B sz tk) (hk:O.hp k≠some .tok):App (O.set k x) B sz tk:=by
 cases tk with
 | own t j=>exact⟨h.1,(VH.ak _ _ (fun e=>by subst e;exact hk h.2.1)).trans h.2.1,h.2.2.1,h.2.2.2⟩
 | nil=>trivial
 | full=>trivial
 | aq=>exact h.elim
section
variable {P:Program} {n:Sz} {D:List Deferred} {e:Env} {O:VH} {Q:VQ}
theorem aH.pH {i:Nat} {l:List Oper} {d:Option Tmp} {f:Operand} {xs:Array Operand} {ts:Array TypeId} {ty:TypeId} {ps:String} {af:Array Edge} {g:Option (Nat×Bool)} {id:FuncId} {ms cs:List MV} {R:fB->VH->Prop} {K:Env->VH->Prop} (hR:VF P id (ms++cs) O R)
  (h:∀m O',R (.ret m) O'->K (aV d m e) O') (h2:∀m O',R (.panic m) O'->Q (.panic m) (j_ n e) O') (ho:l[i]?=some (.mk d (.call {callee:=.value f,args:=xs,argTypes:=ts}) ty ps af g):=by exact rfl) (hg:aK ⟨l⟩ (.mk d (.call {callee:=.value f,args:=xs,argTypes:=ts}) ty ps af g) e=some true:=by exact rfl) (hf:ev e f=some (.func (.func id) [] cs):=by exact rfl) (hm:fu e xs.toList=some ms:=by exact rfl) (hb:di P id=true:=by kernel_rfl) (hd:bf n d=true:=by exact rfl):aH P n D ⟨l⟩ i e O Q K:=
 aH.call (o:=.mk d (.call {callee:=.value f,args:=xs,argTypes:=ts}) ty ps af g) (by simpa using ho) hg rfl rfl hf hm (Enters.sf hb) hd (by simpa using hR) fun r O' hr=>by
  cases r with
  | ret m=>exact h m O' hr
  | panic m=>exact h2 m O' hr
end
theorem agB (x:Nd) (w:Bs) (dY:Bool) (O:VH) (hx:j7 x<=1000000) (hw6:w.length<=6000):
  VF Tryz.prog 276 [.agg (j5 x w),mb dY] O (FQ O (Ea x w dY) fun y m=>m= .agg (aP y)):=by
 have hw:w.length<=10000:=by omega
 refine VF.fgR ?_;have qM:=pE x w;have uO:=rF x w lx;have uP:= @rH x w lx;obtain⟨PE,hP⟩:∃PE,Ea x w dY=PE:=⟨_,rfl⟩
 rw[hP];unfold Ea at hP
 have FU:∃a b c d e,j5 x w=[a,b,c,d,e]:=by
  cases x;simp only[j5,cY];exact⟨_,_,_,_,_,rfl⟩
 obtain⟨a,b,c,d,e,hE⟩:=FU;simp only[hE]at qM uO ⊢;clear hE;refine VF.bU 66 [.cell 4 63] Tryz.func276 ?_;refine VC.ag aa (ae @bB ?_);refine VC.ds0 ?_;intro _ hd;have ee:=hd.x;have cE:=hd.d;refine VC.ag aa (aM @bB @ee @cE ?_);clear ee cE;refine ah.p (qM dI true dw 251 [] _ hx hw (by decide) (by kernel_rfl) (fun s O' _ _=>sD s O')) ?_ ?_;rotate_left
 ·rintro m O9 ⟨bg,h⟩;cases hF:bG x w dI true dw with
  | ok s=>rw[hF]at h;exact h.elim
  | error e=>
    rw[hF]at h hP;dsimp only at h hP;rw[h, <-hP];refine ae @bB ?_;exact⟨hd.ec.trans bg,rfl⟩
 rintro m O1 ⟨bg,h⟩;cases P1:bG x w dI true dw with
 | error e=>rw[P1]at h;exact h.elim
 | ok s1=>
 rw[P1]at h hP;dsimp only at h hP;subst h;have hb:=hd.ge bg;clear bg hd;have ee:=hb.x;have cE:=hb.d;refine aM @bB @ee @cE ?_;refine VC.ds hb ?_;clear ee cE hb;intro _ hd;have ee:=hd.x;have cE:=hd.d;refine VC.ag aa (aM @bB @ee @cE ?_);clear ee cE;refine ah.p (qM dA true dw 251 [] _ hx hw (by decide) (by kernel_rfl) (fun s O' _ _=>sD s O')) ?_ ?_;rotate_left
 ·rintro m O9 ⟨bg,h⟩;cases hF:bG x w dA true dw with
  | ok s=>rw[hF]at h;exact h.elim
  | error e=>
    rw[hF]at h hP;dsimp only at h hP;rw[h, <-hP];refine ae @bB ?_;exact⟨hd.ec.trans bg,rfl⟩
 rintro m O2 ⟨bg,h⟩;cases IX:bG x w dA true dw with
 | error e=>rw[IX]at h;exact h.elim
 | ok s2=>
 rw[IX]at h hP;dsimp only at h hP;subst h;have hb:=hd.ge bg;clear bg hd;have ee:=hb.x;have cE:=hb.d;refine aM @bB @ee @cE ?_;refine VC.ds hb ?_;clear ee cE hb;intro _ hd;have ee:=hd.x;have cE:=hd.d;refine VC.ag aa (aM @bB @ee @cE ?_);clear ee cE;refine ah.p (qM fa false dw 251 [] _ hx hw (by decide) (by kernel_rfl) (fun s O' _ _=>sD s O')) ?_ ?_;rotate_left
 ·rintro m O9 ⟨bg,h⟩;cases hF:bG x w fa false dw with
  | ok s=>rw[hF]at h;exact h.elim
  | error e=>
    rw[hF]at h hP;dsimp only at h hP;rw[h, <-hP];refine ae @bB ?_;exact⟨hd.ec.trans bg,rfl⟩
 rintro m O3 ⟨bg,h⟩;cases P2:bG x w fa false dw with
 | error e=>rw[P2]at h;exact h.elim
 | ok s3=>
 rw[P2]at h hP;dsimp only at h hP;subst h;have hb:=hd.ge bg;clear bg hd;have ee:=hb.x;have cE:=hb.d;refine aM @bB @ee @cE ?_;refine VC.ds hb ?_;clear ee cE hb;intro _ hd;have ee:=hd.x;have cE:=hd.d;refine VC.ag aa (aM @bB @ee @cE ?_);clear ee cE;refine ah.p (qM zD false dw 251 [] _ hx hw (by decide) (by kernel_rfl) (fun s O' _ _=>sD s O')) ?_ ?_;rotate_left
 ·rintro m O9 ⟨bg,h⟩;cases hF:bG x w zD false dw with
  | ok s=>rw[hF]at h;exact h.elim
  | error e=>
    rw[hF]at h hP;dsimp only at h hP;rw[h, <-hP];refine ae @bB ?_;exact⟨hd.ec.trans bg,rfl⟩
 rintro m O4 ⟨bg,h⟩;cases ZA:bG x w zD false dw with
 | error e=>rw[ZA]at h;exact h.elim
 | ok s4=>
 rw[ZA]at h hP;dsimp only at h hP;subst h;have hb:=hd.ge bg;clear bg hd;have ee:=hb.x;have cE:=hb.d;refine aM @bB @ee @cE ?_;refine VC.ds hb ?_;clear ee cE hb;intro _ hd;have ee:=hd.x;have cE:=hd.d;refine VC.ag aa (aM @bB @ee @cE ?_);clear ee cE;refine ah.p (qM zE false dw 251 [] _ hx hw (by decide) (by kernel_rfl) (fun s O' _ _=>sD s O')) ?_ ?_;rotate_left
 ·rintro m O9 ⟨bg,h⟩;cases hF:bG x w zE false dw with
  | ok s=>rw[hF]at h;exact h.elim
  | error e=>
    rw[hF]at h hP;dsimp only at h hP;rw[h, <-hP];refine ae @bB ?_;exact⟨hd.ec.trans bg,rfl⟩
 rintro m O5 ⟨bg,h⟩;cases hF5:bG x w zE false dw with
 | error e=>rw[hF5]at h;exact h.elim
 | ok s5=>
 rw[hF5]at h hP;dsimp only at h hP;subst h;have hb:=hd.ge bg;clear bg hd;have ee:=hb.x;have cE:=hb.d;refine aM @bB @ee @cE ?_;refine VC.ds hb ?_;clear ee cE hb;intro O6 hd;have ee:=hd.x;refine VC.bA ?_;refine VC.pe [7,8,9] (O.next) (ee) ?_;intro X;refine ab.av 1 ?_;refine ae @bB ?_;refine ab.sk (m:=.agg [a,b,c,d,e]) 0 ?_ ?_
 ·exact fe @bB
 simp only[aj];refine ab.call (i:=2) (PZ dY _) ?_;rintro _ O7 ⟨rfl,en,tO,sw⟩;simp only[aj];refine⟨(en.hp _ (by have:=hd.lt;show _<O6.next;omega)).trans (VH.an _ _ _),?_⟩;have hl6:=hd.lt;have aiv:O7.next=O6.next+1:=sw;have aeH:O7.hp O6.next=some (.cells [mb dY]):=tO;refine ab.jj (k:=O.next) (i:=3) (qM qt false (kT dY) 316 [.ptr O6.next 0] O7 hx hw (by decide) (by kernel_rfl) (fun s O' IW _=>LJ dY s _ O' (IW.at aeH))) ?_ ?_;rotate_left
 ·rintro m O8 ⟨gq,h⟩;have hX:=((en.trans gq).hp _ (by show O.next<O6.next;omega)).trans (VH.an _ _ _);refine⟨hX,?_⟩;cases hF:bG x w qt false (kT dY)with
  | ok s=>rw[hF]at h;exact h.elim
  | error e=>
    rw[hF]at h hP;dsimp only at h hP;rw[h, <-hP];refine ae @bB ?_;exact⟨(hd.w_ (en.trans gq)).ec,rfl⟩
 rintro m O8 ⟨gq,h⟩;have hX:=((en.trans gq).hp _ (by show O.next<O6.next;omega)).trans (VH.an _ _ _);refine⟨hX,?_⟩;cases hF6:bG x w qt false (kT dY)with
 | error e=>rw[hF6]at h;exact h.elim
 | ok s6=>
 rw[hF6]at h hP;dsimp only at h hP;subst h;simp only[aj];refine ab.call (i:=4) (LB s6 _) ?_;rintro _ O9 ⟨rfl,eO⟩;rw[eO];clear eO O9
 simp only[aj];refine⟨hX,?_⟩;have hb:=hd.w_ (en.trans gq);have cE:=(VH.ak O8 (.cells [a,b,c,d,e]) (by omega:O.next+1≠O.next)).symm.trans hb.d;refine ab.av 5 ?_;refine ae @bB ?_;refine ab.aiu 7 ?_;refine ae @bB ?_;refine ab.av 6 ?_;refine ae @bB ?_;refine ab.mO [(8,.av),(9,.one)] ?_;refine ao @bB @cE ?_;clear tO aeH cE hX ee;generalize kR s6=sc at*;refine VC.ds hb ?_;clear hb hd en gq hl6 sw aiv;intro O9 hd;have ee:=hd.x;have cE:=hd.d;refine VC.bE [2,4] (fun _:Int=>[.ptr O.next 0,.ptr (O.next+1) 0]) (fun o O'=>DS O O.next [a,b,c,d,e] O' [.str s1,.str s2,.str s3,.str s4,.str s5,mi sc.1,mi o,.sl 0 [] .nil]/\ot ⟨s1,s2,s3,s4,s5,sc.1,o,[]⟩ (uS x w)=PE) ?_ ?_
 ·refine VC.ag aa (aM @bB @ee @cE ?_);clear ee cE;refine ah.p (qM l_ false mg 300 [] _ hx hw (by decide) (by kernel_rfl) (fun s O' _ _=>U_ s O')) ?_ ?_;rotate_left
  ·rintro m O9 ⟨bg,h⟩;cases hF:bG x w l_ false mg with
   | ok s=>rw[hF]at h;exact h.elim
   | error e=>
     rw[hF]at h hP;dsimp only at h hP;rw[h, <-hP];refine ae @bB ?_;exact⟨hd.ec.trans bg,rfl⟩
  rintro m OA ⟨bg,h⟩;cases hF7:bG x w l_ false mg with
  | error e=>rw[hF7]at h;exact h.elim
  | ok s7=>
  rw[hF7]at h hP;dsimp only at h hP;subst h;have hb:=hd.ge bg;clear bg hd;have ee:=hb.x;have cE:=hb.d;refine aM @bB @ee @cE ?_;have iA:=fun o:Int=>hb.st (cs':=[.str s1,.str s2,.str s3,.str s4,.str s5,mi sc.1,mi o,.sl 0 [] .nil])
  simp only[au]at iA;unfold Zz at hP;refine VC.aD ?_;cases h1:s7==jM
  ·rw[if_neg (fun e=>by rw[e]at h1;exact absurd h1 (by decide))]at hP;cases h2:s7==kM
   ·rw[if_neg (fun e=>by rw[e]at h2;exact absurd h2 (by decide))]at hP;simp only[jM,kM]at h1 h2;refine WC.sound aa (c8 @bB @cE @h1 @h2 ?_);exact aA.mk 0 ⟨hb,hP⟩
   ·rw[if_pos (eq_of_beq h2)]at hP;simp only[jM,kM]at h1 h2;refine WC.sound aa (c8 @bB @cE @h1 @h2 ?_);exact aA.mk 2 ⟨iA 2,hP⟩
  ·rw[if_pos (eq_of_beq h1)]at hP;simp only[jM]at h1;refine WC.sound aa (aM @bB @cE @h1 ?_);exact aA.mk 1 ⟨iA 1,hP⟩
 intro o OA ⟨hd,hP⟩;refine VC.bE [4] (fun _:List fz×Tok=>[.ptr (O.next+1) 0]) (fun x O'=>DS O O.next [a,b,c,d,e] O' [.str s1,.str s2,.str s3,.str s4,.str s5,mi sc.1,mi o,.sl x.1.length (x.1.flatMap bO) x.2]/\ .ok (⟨s1,s2,s3,s4,s5,sc.1,o,x.1⟩:Dp)=PE) ?_ ?_;rotate_left
 ·rintro⟨X,tk⟩ O9 ⟨hd,hP⟩;have cE:=hd.d;simp only[au]at cE;refine WC.sound aa (ao @bB @cE ?_);rw[<-hP];refine⟨hd.ec.set (by omega) _,?_⟩;simp only[aP,au,wu,mR]
 have ee:=hd.x;have cE:=hd.d;have uQ:∀e,bZ x w lx= .error e->uS x w= .error e:=fun e h=>by unfold uS;rw[h]
 have nB:∀y wy,bZ x w lx= .ok ((y,wy),false)->uS x w= .ok []:=fun y wy h=>by unfold uS;rw[h]
 have im:∀y wy,bZ x w lx= .ok ((y,wy),true)->uS x w=match mS y wy tn with
  | .error e=>.error e
  | .ok l=>xg l []:=fun y wy h=>by unfold uS;rw[h]
 generalize uS x w=DX at*;generalize bZ x w lx=F at*;refine VC.ag aa (aM @bB @ee @cE ?_);clear ee cE;refine ah.p (uO OA (by have:=jH x;omega) (by omega) (by decide)) ?_ ?_;rotate_left
 ·rintro m O2 ⟨ay,h⟩;cases F with
  | ok y=>exact h.elim
  | error e=>
    dsimp only at h;rw[uQ e rfl]at hP;simp only[ot]at hP;rw[h, <-hP];refine ae @bB ?_;exact⟨hd.ec.trans ay,rfl⟩
 rintro m OB ⟨ay,h⟩;cases F with
 | error e=>exact h.elim
 | ok y=>
 obtain⟨⟨y,wy⟩,bb⟩:=y;dsimp only at h;subst h;obtain⟨Zs,uR⟩:=uP rfl;have oM:wy.length<=6011:=by rw[uR];simp only[List.length_append,List.length_cons,List.length_nil];omega
 have hb:=hd.ge ay;clear hd ay uP uR uQ
 replace im:bb=true->DX=match mS y wy tn with
  | .error e=>.error e
  | .ok l=>xg l []:=fun h=>by subst h;exact im y wy rfl
 replace nB:bb=false->DX= .ok []:=fun h=>by subst h;exact nB y wy rfl
 have Hm:=RX y wy tn;have R3:= @Hl y wy tn;generalize mS y wy tn=LE at*;obtain⟨yn,ya,yk,yt⟩:=y;generalize hWy:j7 (.mk yn ya yk yt)=Wy at*;simp only[j5,cY,List.cons_append,List.nil_append]at Hm ⊢;refine ae @bB ?_;refine VC.al ?_;rintro OC ⟨ZB,hyC,hnC⟩;have hd:=hb.ge ZB;clear hb ZB;cases bb
 ·rw[nB rfl]at hP;simp only[ot]at hP;refine WC.sound aa (ae @bB ?_);exact aA.mk ([],.nil) ⟨hd,hP⟩
 rw[im rfl]at hP;clear nB im;refine VC.ag aa (ae @bB ?_);refine WC.sound aa (ao @bB @hyC ?_);refine ah.p (Hm OC (by omega) (by omega) (by decide)) ?_ ?_;rotate_left
 ·rintro m O9 ⟨bg,h⟩;cases LE with
  | ok y=>exact h.elim
  | error e=>
    dsimp only at h;simp only[ot]at hP;rw[h, <-hP];refine ae @bB ?_;exact⟨hd.ec.trans bg,rfl⟩
 rintro m OD ⟨bg,h⟩;cases LE with
 | error e=>exact h.elim
 | ok L=>
 dsimp only at h hP;obtain⟨tL,rfl⟩:=h;obtain⟨ob,hLm⟩:=R3 rfl;have hb:=hd.ge bg;clear hd bg R3 Hm hyC;refine ae @bB ?_;refine VC.bH [50] [4,48,49] (fun x:Nat×List fz×Tok=>[mi x.1]) (fun x O'=>DS O O.next [a,b,c,d,e] O' [.str s1,.str s2,.str s3,.str s4,.str s5,mi sc.1,mi o,.sl x.2.1.length (x.2.1.flatMap bO) x.2.2]/\App O' (O.next+2) 2 x.2.2/\x.1<=L.length/\x.2.1.length=x.1/\ot ⟨s1,s2,s3,s4,s5,sc.1,o,[]⟩ (xg (L.drop x.1) x.2.1)=PE) (fun x=>L.length - x.1) ((0,[],.nil)) ?_ ?_
 ·exact⟨hb,trivial,Nat.zero_le _,rfl,hP⟩
 rintro⟨j,X,tk⟩ O3 ⟨hd,cT,hj,FT,hP⟩;dsimp only at hd cT hj FT hP ⊢;by_cases bd:j<L.length;rotate_left
 ·obtain rfl:j=L.length:=by omega
  rw[List.drop_of_length_le (Nat.le_refl _),xg]at hP;refine WC.sound aa (ae @bB ?_);exact aA.mk (X,tk) ⟨hd,hP⟩
 have bu:((tu L).drop (j*5)).take 5=j5 L[j].1 L[j].2:=cj D8 L j bd;have hL5:=wa L;rw[List.drop_eq_getElem_cons bd,xg]at hP;obtain⟨Zw,Va⟩:=hLm L[j] (List.getElem_mem bd);generalize L[j]=zz at*;obtain⟨z,wz⟩:=zz;dsimp only at Zw Va;have qh:=fun O'=>pE z wz dI true gB 301 [] O' (by omega) (by simp only[List.length_cons,List.length_nil]at Va;omega) (by decide) (by kernel_rfl) (fun s lP _ hs=>LK s lP hs)
 have zK:=fun O'=>pE z wz dA true gB 301 [] O' (by omega) (by simp only[List.length_cons,List.length_nil]at Va;omega) (by decide) (by kernel_rfl) (fun s lP _ hs=>LK s lP hs)
 unfold exE at hP;dsimp only at hP;generalize bG z wz dI true gB=W1 at*;generalize bG z wz dA true gB=W2 at*;obtain⟨zn,za,cH,zt⟩:=z;simp only[j5,cY,List.cons_append,List.nil_append]at bu qh zK;refine VC.ag aa (ae @bB ?_);refine VC.ag aa (ae @bB ?_);refine VC.bA (VC.aD ?_);refine VC.ag aa (ao @bB @bu ?_);refine VC.al ?_;rintro O4 ⟨bh,kU,g_⟩;have hb:=hd.ge bh;have jX:=cT.ge bh;have fV:O.next+1<O3.next:=hd.lt;clear hd bh cT;refine VC.pe [8,9,10] (O3.next) (kU) ?_;intro XX;refine ab.av 0 ?_;refine ae @bB ?_;refine ab.sk (m:=.agg [.str zn,.sl za.length (za.flatMap aZ) .aq,.sl cH.length (ax cH) .aq,.str zt,.str wz]) 2 ?_ ?_
 ·exact fe @bB
 simp only[aj];refine ab.sk (m:=.agg [.str zn,.sl za.length (za.flatMap aZ) .aq,.sl cH.length (ax cH) .aq,.str zt,.str wz]) 4 ?_ ?_
 ·exact fe @bB
 simp only[aj];have mc:=jX.nT (k:=O3.next) (x:=.obj XX) (by rw[kU];simp);have hXX:=VH.an O4 O3.next (.obj XX);have cE:=(VH.ak O4 (.obj XX) (by omega:O.next+1≠O3.next)).trans hb.d;have lF:∀O9,(O4.set O3.next (.obj XX)).Ge O9->O.Ge O9:=fun O9 g=>((hb.ec.set (by omega) _).trans g)
 have jD:∀O9,(O4.set O3.next (.obj XX)).Ge O9->O9.hp O3.next=some (.obj XX)/\O9.hp (O.next+1)=some (.cells [.str s1,.str s2,.str s3,.str s4,.str s5,mi sc.1,mi o,.sl X.length (X.flatMap bO) tk]):=fun O9 g=>⟨(g.hp _ (by show O3.next<O4.next;omega)).trans hXX,(g.hp _ (by show O.next+1<O4.next;omega)).trans cE⟩
 have FX:=fun(O9:VH) (g:(O4.set O3.next (.obj XX)).Ge O9) (y:bV)=>hb.agA (k:=O3.next) fV g (y:=y)
 clear cE;generalize O4.set O3.next (.obj XX)=O5 at*;refine ab.pair (i:=1) (j:=3) ?_ ?_
 ·refine aH.o1 ?_;refine ao @bB (jD _ (VH.Ge.refl _)).2 ?_;refine⟨(jD _ (VH.Ge.refl _)).1,?_⟩;have hG:=VH.Ge.refl O5;refine ab.pH (i:=3) (qh O5) ?_ ?_;rotate_left
  ·rintro m O9 ⟨bg,h⟩;cases W1 with
   | ok s=>exact h.elim
   | error e=>
     dsimp only at h hP;simp only[ot]at hP;rw[h, <-hP];refine ae @bB ?_;exact⟨lF _ (hG.trans bg),rfl⟩
  rintro m O6 ⟨bg,h⟩;cases W1 with
  | error e=>exact h.elim
  | ok sg=>
  dsimp only at h hP;subst h;simp only[aj]
  replace hG:=hG.trans bg
  clear bg;refine⟨(jD _ hG).1,?_⟩;refine ab.pH (i:=5) (zK O6) ?_ ?_;rotate_left
  ·rintro m O9 ⟨bg,h⟩;cases W2 with
   | ok s=>exact h.elim
   | error e=>
     dsimp only at h hP;simp only[ot]at hP;rw[h, <-hP];refine ae @bB ?_;exact⟨lF _ (hG.trans bg),rfl⟩
  rintro m OF ⟨bg,h⟩;cases W2 with
  | error e=>exact h.elim
  | ok sa=>
  dsimp only at h hP;subst h;simp only[aj]
  replace hG:=hG.trans bg
  clear bg;refine⟨(jD _ hG).1,?_⟩;refine ab.av 6 ?_;refine ae @bB ?_;refine ab.op (i:=7) ?_;refine ae @bB ?_;refine⟨(jD _ hG).1,?_⟩;refine ab.mO [(8,.one),(9,.av),(10,.one)] ?_;have Ed:=FX _ hG (.cells [.str zn,.sl za.length (za.flatMap aZ) .aq,.sl cH.length (ax cH) .aq,.str zt,.str wz]);have uT:=(mc.ge hG).nT (k:=O3.next) (x:=.cells [.str zn,.sl za.length (za.flatMap aZ) .aq,.sl cH.length (ax cH) .aq,.str zt,.str wz]) (by rw[(jD _ hG).1];simp);refine ae @bB ?_;obtain⟨mE,fP,kN⟩:=fF (n:=X.length) (cs:=X.flatMap bO) (ds:=[.str sg,.str sa]) (es:=bO ⟨sg,sa⟩) DK BJ.1.1 uT (aQ mQ X) rfl rfl (by decide) (by omega) (by simp only[maxLen];omega) (mR X) (by simp only[bO,wu]);refine VL.k6 fP kN ?_;have Ee:=Ed.app uT;have Ef:=Ee.d;have Eg:=Ee.st (cs':=[.str s1,.str s2,.str s3,.str s4,.str s5,mi sc.1,mi o,.sl (X.length+1) (X.flatMap bO++bO ⟨sg,sa⟩) (.own OF.next 2)]);have uU:=(App.after (B:=O.next+2) (sz:=2) (tk:=tk) (O:=OF.set O3.next (.cells [.str zn,.sl za.length (za.flatMap aZ) .aq,.sl cH.length (ax cH) .aq,.str zt,.str wz])) (by have:=Ed.lt;omega)).nT (k:=O.next+1) (x:=.cells [.str s1,.str s2,.str s3,.str s4,.str s5,mi sc.1,mi o,.sl (X.length+1) (X.flatMap bO++bO ⟨sg,sa⟩) (.own OF.next 2)]) (by rw[Ef];simp);simp only[au]at Eg uU;generalize (OF.set O3.next (.cells [.str zn,.sl za.length (za.flatMap aZ) .aq,.sl cH.length (ax cH) .aq,.str zt,.str wz])).after tk=OG at*;refine ao @bB @Ef ?_;have dU:((j:Int)+1)=((j+1:Nat):Int):=by omega
  have cP:(X++[(⟨sg,sa⟩:fz)]).flatMap bO=X.flatMap bO++bO ⟨sg,sa⟩:=by simp
  have Ci:(X++[(⟨sg,sa⟩:fz)]).length=X.length+1:=by simp
  refine WC.sound aa (ao @bB @dU ?_);exact aC.next (j+1,X++[(⟨sg,sa⟩:fz)],.own OF.next 2) ⟨by dsimp only;rw[cP,Ci];exact Eg,uU,bd,by dsimp only;rw[Ci,FT],hP⟩
 ·have hG:=VH.Ge.refl O5;refine aH.pH (qh O5) ?_ ?_;rotate_left
  ·rintro m O9 ⟨bg,h⟩;cases W1 with
   | ok s=>exact h.elim
   | error e=>
     dsimp only at h hP;simp only[ot]at hP;rw[h, <-hP];refine ae @bB ?_;exact⟨lF _ (hG.trans bg),rfl⟩
  rintro m O6 ⟨bg,h⟩;cases W1 with
  | error e=>exact h.elim
  | ok sg=>
  dsimp only at h hP;subst h;simp only[aj]
  replace hG:=hG.trans bg
  clear bg;refine⟨(jD _ hG).1,?_⟩;refine ab.pair (i:=1) (j:=5) ?_ ?_
  ·refine aH.o1 ?_;refine ao @bB (jD _ hG).2 ?_;refine⟨(jD _ hG).1,?_⟩;refine ab.pH (i:=5) (zK O6) ?_ ?_;rotate_left
   ·rintro m O9 ⟨bg,h⟩;cases W2 with
    | ok s=>exact h.elim
    | error e=>
      dsimp only at h hP;simp only[ot]at hP;rw[h, <-hP];refine ae @bB ?_;exact⟨lF _ (hG.trans bg),rfl⟩
   rintro m OF ⟨bg,h⟩;cases W2 with
   | error e=>exact h.elim
   | ok sa=>
   dsimp only at h hP;subst h;simp only[aj]
   replace hG:=hG.trans bg
   clear bg;refine⟨(jD _ hG).1,?_⟩;refine ab.av 6 ?_;refine ae @bB ?_;refine ab.op (i:=7) ?_;refine ae @bB ?_;refine⟨(jD _ hG).1,?_⟩;refine ab.mO [(8,.one),(9,.av),(10,.one)] ?_;have Ed:=FX _ hG (.cells [.str zn,.sl za.length (za.flatMap aZ) .aq,.sl cH.length (ax cH) .aq,.str zt,.str wz]);have uT:=(mc.ge hG).nT (k:=O3.next) (x:=.cells [.str zn,.sl za.length (za.flatMap aZ) .aq,.sl cH.length (ax cH) .aq,.str zt,.str wz]) (by rw[(jD _ hG).1];simp);refine ae @bB ?_;obtain⟨mE,fP,kN⟩:=fF (n:=X.length) (cs:=X.flatMap bO) (ds:=[.str sg,.str sa]) (es:=bO ⟨sg,sa⟩) DK BJ.1.1 uT (aQ mQ X) rfl rfl (by decide) (by omega) (by simp only[maxLen];omega) (mR X) (by simp only[bO,wu]);refine VL.k6 fP kN ?_;have Ee:=Ed.app uT;have Ef:=Ee.d;have Eg:=Ee.st (cs':=[.str s1,.str s2,.str s3,.str s4,.str s5,mi sc.1,mi o,.sl (X.length+1) (X.flatMap bO++bO ⟨sg,sa⟩) (.own OF.next 2)]);have uU:=(App.after (B:=O.next+2) (sz:=2) (tk:=tk) (O:=OF.set O3.next (.cells [.str zn,.sl za.length (za.flatMap aZ) .aq,.sl cH.length (ax cH) .aq,.str zt,.str wz])) (by have:=Ed.lt;omega)).nT (k:=O.next+1) (x:=.cells [.str s1,.str s2,.str s3,.str s4,.str s5,mi sc.1,mi o,.sl (X.length+1) (X.flatMap bO++bO ⟨sg,sa⟩) (.own OF.next 2)]) (by rw[Ef];simp);simp only[au]at Eg uU;generalize (OF.set O3.next (.cells [.str zn,.sl za.length (za.flatMap aZ) .aq,.sl cH.length (ax cH) .aq,.str zt,.str wz])).after tk=OG at*;refine ao @bB @Ef ?_;have dU:((j:Int)+1)=((j+1:Nat):Int):=by omega
   have cP:(X++[(⟨sg,sa⟩:fz)]).flatMap bO=X.flatMap bO++bO ⟨sg,sa⟩:=by simp
   have Ci:(X++[(⟨sg,sa⟩:fz)]).length=X.length+1:=by simp
   refine WC.sound aa (ao @bB @dU ?_);exact aC.next (j+1,X++[(⟨sg,sa⟩:fz)],.own OF.next 2) ⟨by dsimp only;rw[cP,Ci];exact Eg,uU,bd,by dsimp only;rw[Ci,FT],hP⟩
  ·refine aH.pH (zK O6) ?_ ?_;rotate_left
   ·rintro m O9 ⟨bg,h⟩;cases W2 with
    | ok s=>exact h.elim
    | error e=>
      dsimp only at h hP;simp only[ot]at hP;rw[h, <-hP];refine ae @bB ?_;exact⟨lF _ (hG.trans bg),rfl⟩
   rintro m OF ⟨bg,h⟩;cases W2 with
   | error e=>exact h.elim
   | ok sa=>
   dsimp only at h hP;subst h;simp only[aj]
   replace hG:=hG.trans bg
   clear bg;refine⟨(jD _ hG).1,?_⟩;refine ab.av 6 ?_;refine ae @bB ?_;refine ab.pair (i:=1) (j:=7) ?_ ?_
   ·refine aH.o1 ?_;refine ao @bB (jD _ hG).2 ?_;refine⟨(jD _ hG).1,?_⟩;refine ab.op (i:=7) ?_;refine ae @bB ?_;refine⟨(jD _ hG).1,?_⟩;refine ab.mO [(8,.one),(9,.av),(10,.one)] ?_;have Ed:=FX _ hG (.cells [.str zn,.sl za.length (za.flatMap aZ) .aq,.sl cH.length (ax cH) .aq,.str zt,.str wz]);have uT:=(mc.ge hG).nT (k:=O3.next) (x:=.cells [.str zn,.sl za.length (za.flatMap aZ) .aq,.sl cH.length (ax cH) .aq,.str zt,.str wz]) (by rw[(jD _ hG).1];simp);refine ae @bB ?_;obtain⟨mE,fP,kN⟩:=fF (n:=X.length) (cs:=X.flatMap bO) (ds:=[.str sg,.str sa]) (es:=bO ⟨sg,sa⟩) DK BJ.1.1 uT (aQ mQ X) rfl rfl (by decide) (by omega) (by simp only[maxLen];omega) (mR X) (by simp only[bO,wu]);refine VL.k6 fP kN ?_;have Ee:=Ed.app uT;have Ef:=Ee.d;have Eg:=Ee.st (cs':=[.str s1,.str s2,.str s3,.str s4,.str s5,mi sc.1,mi o,.sl (X.length+1) (X.flatMap bO++bO ⟨sg,sa⟩) (.own OF.next 2)]);have uU:=(App.after (B:=O.next+2) (sz:=2) (tk:=tk) (O:=OF.set O3.next (.cells [.str zn,.sl za.length (za.flatMap aZ) .aq,.sl cH.length (ax cH) .aq,.str zt,.str wz])) (by have:=Ed.lt;omega)).nT (k:=O.next+1) (x:=.cells [.str s1,.str s2,.str s3,.str s4,.str s5,mi sc.1,mi o,.sl (X.length+1) (X.flatMap bO++bO ⟨sg,sa⟩) (.own OF.next 2)]) (by rw[Ef];simp);simp only[au]at Eg uU;generalize (OF.set O3.next (.cells [.str zn,.sl za.length (za.flatMap aZ) .aq,.sl cH.length (ax cH) .aq,.str zt,.str wz])).after tk=OG at*;refine ao @bB @Ef ?_;have dU:((j:Int)+1)=((j+1:Nat):Int):=by omega
    have cP:(X++[(⟨sg,sa⟩:fz)]).flatMap bO=X.flatMap bO++bO ⟨sg,sa⟩:=by simp
    have Ci:(X++[(⟨sg,sa⟩:fz)]).length=X.length+1:=by simp
    refine WC.sound aa (ao @bB @dU ?_);exact aC.next (j+1,X++[(⟨sg,sa⟩:fz)],.own OF.next 2) ⟨by dsimp only;rw[cP,Ci];exact Eg,uU,bd,by dsimp only;rw[Ci,FT],hP⟩
   ·refine aH.o1 ?_;refine ae @bB ?_;refine⟨(jD _ hG).1,?_⟩;refine ab.op (i:=1) ?_;refine ao @bB (jD _ hG).2 ?_;refine⟨(jD _ hG).1,?_⟩;refine ab.mO [(8,.one),(9,.av),(10,.one)] ?_;have Ed:=FX _ hG (.cells [.str zn,.sl za.length (za.flatMap aZ) .aq,.sl cH.length (ax cH) .aq,.str zt,.str wz]);have uT:=(mc.ge hG).nT (k:=O3.next) (x:=.cells [.str zn,.sl za.length (za.flatMap aZ) .aq,.sl cH.length (ax cH) .aq,.str zt,.str wz]) (by rw[(jD _ hG).1];simp);refine ae @bB ?_;obtain⟨mE,fP,kN⟩:=fF (n:=X.length) (cs:=X.flatMap bO) (ds:=[.str sg,.str sa]) (es:=bO ⟨sg,sa⟩) DK BJ.1.1 uT (aQ mQ X) rfl rfl (by decide) (by omega) (by simp only[maxLen];omega) (mR X) (by simp only[bO,wu]);refine VL.k6 fP kN ?_;have Ee:=Ed.app uT;have Ef:=Ee.d;have Eg:=Ee.st (cs':=[.str s1,.str s2,.str s3,.str s4,.str s5,mi sc.1,mi o,.sl (X.length+1) (X.flatMap bO++bO ⟨sg,sa⟩) (.own OF.next 2)]);have uU:=(App.after (B:=O.next+2) (sz:=2) (tk:=tk) (O:=OF.set O3.next (.cells [.str zn,.sl za.length (za.flatMap aZ) .aq,.sl cH.length (ax cH) .aq,.str zt,.str wz])) (by have:=Ed.lt;omega)).nT (k:=O.next+1) (x:=.cells [.str s1,.str s2,.str s3,.str s4,.str s5,mi sc.1,mi o,.sl (X.length+1) (X.flatMap bO++bO ⟨sg,sa⟩) (.own OF.next 2)]) (by rw[Ef];simp);simp only[au]at Eg uU;generalize (OF.set O3.next (.cells [.str zn,.sl za.length (za.flatMap aZ) .aq,.sl cH.length (ax cH) .aq,.str zt,.str wz])).after tk=OG at*;refine ao @bB @Ef ?_;have dU:((j:Int)+1)=((j+1:Nat):Int):=by omega
    have cP:(X++[(⟨sg,sa⟩:fz)]).flatMap bO=X.flatMap bO++bO ⟨sg,sa⟩:=by simp
    have Ci:(X++[(⟨sg,sa⟩:fz)]).length=X.length+1:=by simp
    refine WC.sound aa (ao @bB @dU ?_);exact aC.next (j+1,X++[(⟨sg,sa⟩:fz)],.own OF.next 2) ⟨by dsimp only;rw[cP,Ci];exact Eg,uU,bd,by dsimp only;rw[Ci,FT],hP⟩
set_option linter.defProp false in
def mh:=And.intro bB<|And.intro uK AE
def qN (dY:Bool):List (Nd×Bs)->List Dp->Except (Int×Bs) (List Dp)
 | [],D=>.ok D
 | k::r,D=>match Ea k.1 k.2 dY with
   | .error e=>.error e
   | .ok d=>qN dY r (D++[d])
def lz (x:Nd) (w:Bs) (dY:Bool):Except (Int×Bs) (List Dp):=
 match bZ x w ly with
 | .error e=>.error e
 | .ok ((_,_),false)=>.ok []
 | .ok ((y,wy),true)=>match mS y wy k8 with
   | .error e=>.error e
   | .ok L=>qN dY L []
theorem R4 (x:Nd) (w:Bs) (dY:Bool) (O:VH) (hx:j7 x<=1000000) (hw:w.length<=4000):
  VF Tryz.prog 253 [.agg (j5 x w),mb dY] O (FQ O (lz x w dY) fun y m=>∃tk,m= .sl y.length (y.flatMap aP) tk):=by
 have uO:=rF x w ly;have kP:=jH x;have uP:= @rH x w ly;have uQ:∀e,bZ x w ly= .error e->lz x w dY= .error e:=fun e h=>by unfold lz;rw[h]
 have nB:∀y wy,bZ x w ly= .ok ((y,wy),false)->lz x w dY= .ok []:=fun y wy h=>by unfold lz;rw[h]
 have im:∀y wy,bZ x w ly= .ok ((y,wy),true)->lz x w dY=match mS y wy k8 with
  | .error e=>.error e
  | .ok L=>qN dY L []:=fun y wy h=>by unfold lz;rw[h]
 generalize lz x w dY=PE at*;generalize bZ x w ly=F at*;obtain⟨n,a,k,t⟩:=x;generalize hW:j7 (.mk n a k t)=W at*;simp only[j5,cY,List.cons_append,List.nil_append]at uO ⊢;refine VF.bU 31 [.tmp 4] Tryz.func253 ?_;refine VC.ag aa (ae @mh ?_);refine VC.bx ?_;rintro O1 ⟨aU,fJ,du⟩;refine VC.ag aa (ao @mh @fJ ?_);refine ah.p (uO O1 (by omega) (by omega) (by decide)) ?_ ?_;rotate_left
 ·rintro m O2 ⟨ay,h⟩;cases F with
  | ok y=>exact h.elim
  | error e=>
    dsimp only at h;rw[uQ e rfl];refine ae @mh ?_;exact⟨aU.trans ay,h⟩
 rintro m O2 ⟨ay,h⟩;cases F with
 | error e=>exact h.elim
 | ok y=>
 obtain⟨⟨y,wy⟩,b⟩:=y;dsimp only at h;subst h;obtain⟨Zs,uR⟩:=uP rfl;have oM:wy.length<=4013:=by rw[uR];simp only[List.length_append,List.length_cons,List.length_nil];omega
 clear uP uR uQ
 replace im:b=true->PE=match mS y wy k8 with
  | .error e=>.error e
  | .ok L=>qN dY L []:=fun h=>by subst h;exact im y wy rfl
 replace nB:b=false->PE= .ok []:=fun h=>by subst h;exact nB y wy rfl
 have Hm:=RX y wy k8;have R3:= @Hl y wy k8;generalize mS y wy k8=LE at*;obtain⟨yn,ya,yk,yt⟩:=y;generalize hWy:j7 (.mk yn ya yk yt)=Wy at*;simp only[j5,cY,List.cons_append,List.nil_append]at Hm ⊢;have fZ:=aU.trans ay;refine ae @mh ?_;refine VC.al ?_;rintro O3 ⟨aO,Lx,gZ⟩;have eo:=fZ.trans aO;cases b
 ·rw[nB rfl];refine WC.sound aa (ae @mh ?_);exact⟨eo,.nil,rfl⟩
 replace im:=im rfl
 clear nB;refine VC.ag aa (ae @mh ?_);refine VC.join aa [4] (fun x:List Dp×Tok=>[.sl x.1.length (x.1.flatMap aP) x.2]) (fun x O'=>O.Ge O'/\PE= .ok x.1) ?_ ?_;rotate_left
 ·rintro⟨L,tl⟩ O9 ⟨bg,hP⟩;rw[hP];refine ae @mh ?_;exact⟨bg,tl,rfl⟩
 refine VC.ag aa (ao @mh @Lx ?_);refine ah.p (Hm O3 (by omega) (by omega) (by decide)) ?_ ?_;rotate_left
 ·rintro m O9 ⟨bg,h⟩;cases LE with
  | ok y=>exact h.elim
  | error e=>
    dsimp only at h im;rw[h,im];refine ae @mh ?_;exact⟨eo.trans bg,rfl⟩
 rintro m O4 ⟨bh,h⟩;cases LE with
 | error e=>exact h.elim
 | ok L=>
 dsimp only at h im;obtain⟨tL,rfl⟩:=h;obtain⟨ob,hLm⟩:=R3 rfl;have gE:=eo.trans bh;refine ae @mh ?_;refine VC.aD ?_;refine VC.bH [4,19] [1,17,18] (fun x:Nat×List Dp×Tok=>[.sl x.2.1.length (x.2.1.flatMap aP) x.2.2,mi x.1]) (fun x O'=>O4.Ge O'/\App O' O4.next 8 x.2.2/\x.1<=L.length/\x.2.1.length=x.1/\PE=qN dY (L.drop x.1) x.2.1) (fun x=>L.length - x.1) ((0,[],.nil)) ?_ ?_
 ·exact⟨VH.Ge.refl _,trivial,Nat.zero_le _,rfl,im⟩
 rintro⟨j,X,tk⟩ O5 ⟨bK,cT,hj,FT,hP⟩;dsimp only at cT hj FT hP ⊢;by_cases bd:j<L.length;rotate_left
 ·obtain rfl:j=L.length:=by omega
  rw[List.drop_of_length_le (Nat.le_refl _),qN]at hP;refine WC.sound aa (ae @mh ?_);exact aA.mk (X,tk) ⟨gE.trans bK,hP⟩
 have bu:((tu L).drop (j*5)).take 5=j5 L[j].1 L[j].2:=cj D8 L j bd;have hL5:=wa L;rw[List.drop_eq_getElem_cons bd,qN]at hP;obtain⟨Zw,Va⟩:=hLm L[j] (List.getElem_mem bd);generalize L[j]=zz at*;obtain⟨z,wz⟩:=zz;dsimp only at Zw Va hP bu;have zL:=fun O'=>agB z wz dY O' (by omega) (by simp only[List.length_cons,List.length_nil]at Va;omega)
 generalize Ea z wz dY=W1 at*;obtain⟨zn,za,cH,zt⟩:=z;simp only[j5,cY,List.cons_append,List.nil_append]at bu zL;have gu:=bK.next;refine VC.ag aa (ae @mh ?_);refine VC.ag aa (ae @mh ?_);refine VC.bA (VC.aD ?_);refine VC.ag aa (ao @mh @bu ?_);refine VC.al ?_;rintro O6 ⟨fS,mA,ny⟩;have ma:=cT.ge fS;have LC:=bK.trans fS;refine WC.sound aa (ao @mh @mA ?_);refine ah.p (zL O6) ?_ ?_;rotate_left
 ·rintro m O9 ⟨bg,h⟩;cases W1 with
  | ok y=>exact h.elim
  | error e=>
    dsimp only at h hP;rw[h,hP];refine ae @mh ?_;exact⟨(gE.trans LC).trans bg,rfl⟩
 rintro m O7 ⟨en,h⟩;cases W1 with
 | error e=>exact h.elim
 | ok d=>
 dsimp only at h hP;subst h;have hY:=ma.ge en;have aeI:=LC.trans en;have dU:((j:Int)+1)=((j+1:Nat):Int):=by omega
 have hud:cD (aP d)=aP d:=by simpa using kL [d]
 obtain⟨dg,da,dv,dt,dc,ki,dO,dx⟩:=d;have kc:(aP ⟨dg,da,dv,dt,dc,ki,dO,dx⟩).length=8:=rfl;obtain⟨mE,fP,kN⟩:=fF (n:=X.length) (cs:=X.flatMap aP) (ds:=aP ⟨dg,da,dv,dt,dc,ki,dO,dx⟩) (es:=aP ⟨dg,da,dv,dt,dc,ki,dO,dx⟩) uK AE.1.1 hY (aQ fN X) rfl rfl (by decide) (by omega) (by simp only[maxLen];omega) (kL X) hud;simp only[aP,au]at fP kN ⊢;refine ae @mh ?_;refine VL.k6 fP kN ?_;refine ae @mh ?_;refine WC.sound aa (ao @mh @dU ?_);exact aC.next (j+1,X++[⟨dg,da,dv,dt,dc,ki,dO,dx⟩],.own O7.next 8) ⟨cK.ec aeI hY (cK.after hY),App.after (by have:=aeI.next;omega),bd,by dsimp only;rw[List.length_append,FT];rfl,hP⟩ (hl:=(by dsimp only;rw[List.flatMap_append,List.length_append];simp only[List.flatMap_cons,List.flatMap_nil,List.append_nil,aP,au];rfl))
set_option linter.defProp false in
def ar:=And.intro bm<|And.intro aeB<|And.intro aif<|And.intro aih<|And.intro aij aie
def zM (e:Int) (off:Nat):MV:=.iface 385 (.agg [mi e,mi off])
theorem aiw {p:MV}:ID 385 (fL Tryz.prog 385) (some p)=some (.iface 385 p):=by rw[aeB.1.1];rfl
theorem h_ (e:Int) (off:Nat) (O:VH):VF Tryz.prog 311 [mi e,mi off] O fun r O'=>O'=O/\match r with
  | .ret _=>False
  | .panic m=>m=zM e off:=by
 refine VF.dh 8 [] Tryz.func311 ?_;refine c8 @ar @wi @wd @aiw ?_;refine VL.panic rfl rfl rfl ?_;refine ae @wd ?_;rfl
def Rd (O:VH) (k:Nat) (t:Bs) (off:Nat) (X:MV):Prop:=k<O.next/\O.hp k=some (.cells [.str t,mi off,X])
theorem Rd.ge {O O':VH} {k off:Nat} {t:Bs} {X:MV} (h:Rd O k t off X) (g:O.Ge O'):Rd O' k t off X:=⟨Nat.lt_of_lt_of_le h.1 g.next,(g.hp _ h.1).trans h.2⟩
theorem Rd.set {O:VH} {k off off':Nat} {t t':Bs} {X X':MV} (h:Rd O k t off X):Rd (O.set k (.cells [.str t',mi off',X'])) k t' off' X':=⟨h.1,VH.an _ _ _⟩
theorem wg {O:VH} {k off:Nat} {t:Bs} {X:MV} (h:Rd O k t off X) (ho:off<=t.length):VF Tryz.prog 309 [.ptr k 0] O (aI fun m O'=>m= .str (t.drop off)/\O'=O):=by
 have hk:=h.2;simp only[au]at hk;refine VF.bU 12 [.tmp 2] Tryz.func309 ?_;refine VC.ag aa (ae @ar ?_);refine VC.bA ?_;refine WC.reads ?_;refine ao @ar @hk ?_;refine WC.sound aa (ae @ar ?_);trivial
theorem mU {O:VH} {k off:Nat} {t:Bs} {X:MV} (h:Rd O k t off X):VF Tryz.prog 263 [.ptr k 0] O (aI fun m O'=>m=mb (decide (t.length<=off))/\O'=O):=by
 have hk:=h.2;simp only[au]at hk;refine VF.bU 13 [.tmp 2] Tryz.func263 ?_;refine VC.ag aa (ae @ar ?_);refine VC.bA ?_;refine WC.reads ?_;by_cases h1:t.length<=off
 ·rw[decide_eq_true h1];refine ao @ar @hk ?_;refine WC.sound aa (ae @ar ?_);trivial
 ·rw[decide_eq_false h1];refine ao @ar @hk ?_;refine WC.sound aa (ae @ar ?_);trivial
theorem pK {O:VH} {k off:Nat} {t:Bs} {X:MV} (p:Bs) (h:Rd O k t off X) (ho:off<=t.length):VF Tryz.prog 285 [.ptr k 0,.str p] O (aI fun m O'=>m=mb (dC (t.drop off) p)/\O'=O):=by
 refine VF.dh 9 [.tmp 4] Tryz.func285 ?_;refine ae @ar ?_;refine ah.rt (wg h ho) ?_;rintro _ O2 ⟨rfl,eO⟩;rw[eO];clear eO O2
 refine ae @ar ?_;refine ah.rt (mT (t.drop off) p _) ?_;rintro _ O2 ⟨rfl,eO⟩;rw[eO];clear eO O2
 exact fe @ar
def TQ {α :Type} (O:VH) (k:Nat) (t:Bs) (X:MV) (f:Except (Int×Nat) (α ×Nat)) (R: α ->MV->Prop):fB->VH->Prop:=fun r O'=>bj O (some k) O'/\match r,f with
 | .ret m,.ok x=>R x.1 m/\Rd O' k t x.2 X
 | .panic m,.error e=>m=zM e.1 e.2
 | _,_=>False
def iq (t:Bs) (off:Nat) (p:Bs):Except (Int×Nat) (Unit×Nat):=
 if t.length<=off then .error (13,off)else if dC (t.drop off) p then .ok ((),off+p.length)else .error (10,off)
theorem sE {O:VH} {k off:Nat} {t:Bs} {X:MV} (p:Bs) (h:Rd O k t off X) (ht:t.length<=1000000) (hp:p.length<=1000):VF Tryz.prog 290 [.ptr k 0,.str p] O (TQ O k t X (iq t off p) fun _ m=>m= .tuple []):=by
 have hk:=h.2;simp only[au]at hk;unfold iq;refine VF.bU 37 [] Tryz.func290 ?_;refine VC.ag aa (ae @ar ?_);refine ah.rt (mU h) ?_;rintro _ O2 ⟨rfl,eO⟩;rw[eO];clear eO O2
 by_cases h1:t.length<=off
 ·rw[decide_eq_true h1,if_pos h1];refine ao @ar @hk ?_;refine ah.p (h_ _ _ _) ?_ ?_
  ·rintro m O9 ⟨_,h⟩;exact h.elim
  rintro m O9 ⟨rfl,rfl⟩;refine ae @ar ?_;exact⟨bj.refl _ _,rfl⟩
 rw[decide_eq_false h1,if_neg h1];refine ao @ar @hk ?_;refine VC.ag aa (ao @ar @hk ?_);refine ah.rt (pK p h (by omega)) ?_;rintro _ O2 ⟨rfl,eO⟩;rw[eO];clear eO O2
 cases h2:dC (t.drop off) p
 ·refine ao @ar @hk ?_;refine ah.p (h_ _ _ _) ?_ ?_
  ·rintro m O9 ⟨_,h⟩;exact h.elim
  rintro m O9 ⟨rfl,rfl⟩;refine ae @ar ?_;exact⟨bj.refl _ _,rfl⟩
 ·refine ao @ar @hk ?_;refine WC.sound aa (ao @ar @hk ?_);exact⟨bj.set,rfl,by simpa[au]using h.set (t':=t) (off':=off+p.length) (X':=X)⟩
def iO (t:Bs) (off:Nat) (e:Int):Except (Int×Nat) (Bs×Nat):=
 if t.length<=off then .error (13,off)else if jA (t.drop off)=0 then .error (e,off)else .ok ((t.drop off).take (jA (t.drop off)),off+jA (t.drop off))
theorem zN {O:VH} {k off:Nat} {t:Bs} {X:MV} (e:Int) (h:Rd O k t off X) (ht:t.length<=1000000):VF Tryz.prog 288 [.ptr k 0,mi e] O (TQ O k t X (iO t off e) fun y m=>m= .str y):=by
 have hk:=h.2;have D6:=BL (t.drop off);rw[List.length_drop]at D6;have Cj:=adg (t.drop off) O (Nat.le_trans (by rw[List.length_drop];omega:(t.drop off).length<=1000000) (by decide));simp only[au]at hk;unfold iO;generalize jA (t.drop off)=n at*;refine VF.bU 58 [.tmp 4] Tryz.func288 ?_;refine VC.ag aa (ae @ar ?_);refine VC.ag aa (ae @ar ?_);refine ah.rt (mU h) ?_;rintro _ O2 ⟨rfl,eO⟩;rw[eO];clear eO O2
 by_cases h1:t.length<=off
 ·rw[decide_eq_true h1,if_pos h1];refine ao @ar @hk ?_;refine ah.p (h_ _ _ _) ?_ ?_
  ·rintro m O9 ⟨_,h⟩;exact h.elim
  rintro m O9 ⟨rfl,rfl⟩;refine ae @ar ?_;exact⟨bj.refl _ _,rfl⟩
 rw[decide_eq_false h1,if_neg h1];refine ao @ar @hk ?_;refine VC.ag aa (ao @ar @hk ?_);refine ah.rt (wg h (by omega)) ?_;rintro _ O2 ⟨rfl,eO⟩;rw[eO];clear eO O2
 refine ae @ar ?_;refine ah.rt (Cj) ?_;rintro _ O2 ⟨rfl,eO⟩;rw[eO];clear eO O2
 refine ae @ar ?_;by_cases h2:n=0
 ·rw[if_pos h2];refine VC.ag aa (aM @ar @hk @h2 ?_);refine ah.p (h_ _ _ _) ?_ ?_
  ·rintro m O9 ⟨_,h⟩;exact h.elim
  rintro m O9 ⟨rfl,rfl⟩;refine ae @ar ?_;exact⟨bj.refl _ _,rfl⟩
 rw[if_neg h2];refine VC.ag aa (ao @ar @hk ?_);refine VC.ag aa (ao @ar @hk ?_);have hr:Rd (O.set k (.cells [.str t,mi (off+n:Nat),X])) k t (off+n) X:=h.set;have bN:=hr.2;have hu:bj O (some k) (O.set k (.cells [.str t,mi (off+n:Nat),X])):=bj.set;have ku:(off:Int)+(n:Int)=((off+n:Nat):Int):=by omega
 simp only[au, <-ku]at hr bN hu;generalize O.set k (.cells [.str t,.v (.int .i64 ((off:Int)+(n:Int))),X])=O2 at*;have zO:(off:Int)+(n:Int) - (n:Int)=(off:Int):=by omega
 have qO:((off:Int)+(n:Int)).toNat=off+n:=by omega
 refine VC.bA ?_;refine WC.reads ?_;refine c8 @ar @bN @zO @qO ?_;refine WC.sound aa (ae @ar ?_);exact⟨hu,by rw[show off+n - off=n by omega],hr⟩
def jO (t:Bs) (off:Nat):Nat:=((t.drop off).takeWhile lD).length
theorem pL {O:VH} {k off:Nat} {t:Bs} {X:MV} (h:Rd O k t off X) (ht:t.length<=1000000) (ho:off<=t.length):VF Tryz.prog 289 [.ptr k 0] O (TQ O k t X (.ok (jO t off,off+jO t off)) fun y m=>m=mi y):=by
 have hk:=h.2;simp only[au]at hk;refine VF.bU 44 [.tmp 2] Tryz.func289 ?_;refine VC.ag aa (ae @ar ?_);refine VC.ag aa (ao @ar @hk ?_);refine VC.bE [0,3] (fun _:Unit=>[.ptr k 0,mi off]) (fun _ O'=>bj O (some k) O'/\Rd O' k t (off+jO t off) X) ?_ ?_;rotate_left
 ·rintro⟨⟩ O2 ⟨hu,hr⟩;have bN:=hr.2;have zO:((off+jO t off:Nat):Int) - (off:Int)=(jO t off:Int):=by omega
  have tI:jO t off<=t.length:=by unfold jO;exact Nat.le_trans (nJ _ _) (by rw[List.length_drop];omega)
  generalize jO t off=n at*;simp only[au]at bN;refine VC.ag aa (aM @ar @bN @zO ?_);refine WC.sound aa (ae @ar ?_);exact⟨hu,rfl,hr⟩
 refine VC.aD ?_;refine VC.bH [] [0,3] (fun o:Nat=>[]) (fun o O'=>bj O (some k) O'/\Rd O' k t o X/\off<=o/\o<=t.length/\off+jO t off=o+jO t o) (fun o=>t.length - o) (off) ?_ ?_
 ·exact⟨bj.refl _ _,h,Nat.le_refl _,ho,rfl⟩
 rintro o O2 ⟨hu,hr,Zg,Zh,tI⟩;have bN:=hr.2;simp only[au]at bN;by_cases h1:t.length<=o
 ·have h0:jO t o=0:=by unfold jO;rw[List.drop_of_length_le h1];rfl
  rw[h0,Nat.add_zero]at tI;refine VC.bA (VC.bA ?_);refine VC.oe [4,5,6,7,8,9,10,11,12,13,14,15,16,17,18] ?_;refine ab.av 0 ?_;refine ae @ar ?_;refine ab.av 1 ?_;refine ae @ar ?_;refine ab.av 2 ?_;refine ae @ar ?_;refine ab.call (i:=3) (mU hr) ?_;rintro _ O3 ⟨rfl,eO⟩;simp only[aj];rw[eO];clear eO O3
  rw[decide_eq_true h1];refine⟨VH.Ge.refl _,?_⟩;refine ab.bI [(4,.av),(5,.av),(6,.av),(7,.av),(8,.av),(9,.av),(10,.av),(11,.av),(12,.av),(13,.av),(14,.av),(15,.av),(16,.av),(17,.av),(18,.av)] ?_;refine ae @ar ?_;refine WC.sound aa (ae @ar ?_);exact aA.mk () ⟨hu,tI▸hr⟩
 ·have h2:o<t.length:=by omega
  have hg:=List.getElem?_eq_getElem h2;have hd:=List.drop_eq_getElem_cons h2
  have uN:jO t o=if lD t[o]then 1+jO t (o+1)else 0:=by
   unfold jO;rw[hd];cases hb:lD t[o]
   ·rw[List.takeWhile_cons_of_neg (by simp[hb])];rfl
   ·rw[List.takeWhile_cons_of_pos hb,List.length_cons,if_pos rfl,Nat.add_comm]
  generalize t[o]=c at*;refine VC.bA (VC.bA ?_);refine VC.oe [] ?_;refine ab.av 0 ?_;refine ae @ar ?_;refine ab.av 1 ?_;refine ae @ar ?_;refine ab.av 2 ?_;refine ae @ar ?_;refine ab.call (i:=3) (mU hr) ?_;rintro _ O3 ⟨rfl,eO⟩;simp only[aj];rw[eO];clear eO O3
  rw[decide_eq_false h1];refine⟨VH.Ge.refl _,?_⟩;refine ab.av 4 ?_;refine ae @ar ?_;refine ab.av 5 ?_;refine ae @ar ?_;refine ab.av 6 ?_;refine ae @ar ?_;refine ab.av 7 ?_;refine ae @ar ?_;refine ab.av 8 ?_;refine ae @ar ?_;refine ab.av 9 ?_;refine ae @ar ?_;refine ab.ld (m:=.str t) 10 ?_ ?_
  ·exact dH @ar @bN
  simp only[aj];refine ab.av 11 ?_;refine ae @ar ?_;refine ab.av 12 ?_;refine ae @ar ?_;refine ab.av 13 ?_;refine ae @ar ?_;refine ab.av 14 ?_;refine ae @ar ?_;refine ab.ld (m:=.v (.int .i64 o)) 15 ?_ ?_
  ·exact dH @ar @bN
  simp only[aj];refine ab.av 16 ?_;refine ao @ar @hg ?_;refine ab.call (i:=17) (pq c _) ?_;rintro _ O3 ⟨rfl,eO⟩;simp only[aj];rw[eO];clear eO O3
  refine⟨VH.Ge.refl _,?_⟩;refine ab.av 18 ?_;refine ae @ar ?_;refine ab.bI [] ?_;cases hb:lD c
  ·rw[hb,if_neg (by simp)]at uN;rw[uN,Nat.add_zero]at tI;refine ae @ar ?_;refine WC.sound aa (ae @ar ?_);exact aA.mk () ⟨hu,tI▸hr⟩
  ·rw[hb,if_pos rfl]at uN;refine ae @ar ?_;refine WC.sound aa (ae @ar ?_);refine WC.sound aa (ao @ar @bN ?_);exact aC.next (o+1) ⟨hu.trans bj.set,by simpa[au]using hr.set (t':=t) (off':=o+1) (X':=X),by omega,h2,by omega⟩
set_option linter.defProp false in
def dD:=And.intro ar T69
theorem Eh (s:List UInt8) (c:UInt8) (O:VH):eb Tryz.prog 107 [.str s,fp c] O fun m O'=>m=mi (s.count c:Nat)/\O'=O:=by
 refine eb.of (ex:=Extern.BytealgCount.count) Tryz.func107 (by kernel_rfl) (by kernel_rfl) (by kernel_rfl) (by kernel_rfl) fun G w vs hw hv=>?_
 obtain⟨u,us,rfl,h1,h2⟩:=hv.dZ;obtain⟨u2,us2,rfl,h3,h4⟩:=h2.dZ;rw[h4.gL];cases h1;have:=h3.ie;subst this;refine⟨_,Lib.run_countString _ _ w,?_⟩;have e:((c.toNat:Int).toNat).toUInt8=c:=by simp
 rw[e];exact .v rfl
theorem Ve (s:List UInt8) (c:UInt8) (O:VH):VF Tryz.prog 80 [.str s,.str [c]] O (aI fun m O'=>m=mi (s.count c:Nat)/\O'=O):=by
 refine VF.dh 34 [.tmp 4] Tryz.func80 ?_;refine aM @ar @List.length_cons.{0} @List.length_nil.{0} ?_;refine ah.ext (Eh s c O) rfl ?_;rintro _ O2 ⟨rfl,eO⟩;rw[eO];clear eO O2
 exact fe @ar
def ft (s:Bs) (c:UInt8):Nat->Int
 | 0=> -1
 | n+1=>if s[n]?=some c then(n:Int)else ft s c n
theorem Ei (s:Bs) (c:UInt8):∀n, -1<=ft s c n/\ft s c n<n
 | 0=>by simp[ft]
 | n+1=>by
   have:=Ei s c n;unfold ft;split<;>omega
theorem mV (s:List UInt8) (c:UInt8) (O:VH) (hs:s.length<=1000000):VF Tryz.prog 293 [.str s,fp c] O (aI fun m O'=>m=mi (ft s c s.length)/\O'=O):=by
 refine VF.dh 19 [.tmp 4] Tryz.func293 ?_;refine ae @ar ?_;refine WC.ik [5] [0,1] (fun j:Nat=>[mi ((j:Int) - 1)]) (fun j O'=>O'=O/\j<=s.length/\ft s c s.length=ft s c j) (fun j=>j) (s.length) ?_ ?_
 ·exact⟨rfl,Nat.le_refl _,rfl⟩
 rintro j O2 ⟨eO,hj,hl⟩;rw[eO];clear eO O2
 rcases j with _ | n
 ·refine ae @ar ?_;rw[hl];rfl
 have hg:=List.getElem?_eq_getElem (show n<s.length by omega);have qO:(((n+1:Nat):Int) - 1).toNat=n:=by omega
 rw[show ft s c (n+1)=if s[n]?=some c then(n:Int)else ft s c n from rfl,hg]at hl;generalize hx:s[n]=d at*;by_cases hd:d=c
 ·rw[hd]at hl hg;rw[if_pos rfl]at hl;refine c8 @ar @hg @qO @aG ?_;rw[hl]
 ·have j4:¬((d.toNat:Int)=(c.toNat:Int)):=fun e=>hd (UInt8.toNat_inj.1 (by omega))
  rw[if_neg (by simpa using hd)]at hl;refine iL @ar @hg @qO @aG @j4 ?_;refine aC.next (n) ?_;exact⟨rfl,by omega,hl⟩
theorem FY (s:List UInt8) (c:UInt8) (O:VH) (hs:s.length<=1000000):VF Tryz.prog 270 [.str s,.str [c]] O (aI fun m O'=>m=mi (ft s c s.length)/\O'=O):=by
 refine VF.dh 36 [.tmp 4] Tryz.func270 ?_;refine aM @ar @List.length_cons.{0} @List.length_nil.{0} ?_;refine ah.rt (mV s c O hs) ?_;rintro _ O2 ⟨rfl,eO⟩;rw[eO];clear eO O2
 exact fe @ar
theorem AM (s:List UInt8) (c:UInt8) (O:VH) (hs:s.length<=1000000):VF Tryz.prog 265 [.str s,fp c] O (aI fun m O'=>m=mi (ft s c s.length)/\O'=O):=by
 refine VF.dh 8 [.tmp 4] Tryz.func265 ?_;refine ae @ar ?_;refine ah.rt (mV s c O hs) ?_;rintro _ O2 ⟨rfl,eO⟩;rw[eO];clear eO O2
 exact fe @ar
def oN (t:Bs) (o:Nat):MV:=.agg [mi o,mi (1+((t.take o).count 10:Nat)),mi ((o:Int) - ft (t.take o) 10 (t.take o).length)]
theorem aeJ (t:Bs) (o:Nat) (O:VH) (ht:t.length<=1000000) (ho:o<=t.length):VF Tryz.prog 246 [.str t,mi o] O (aI fun m O'=>m=oN t o/\O.Ge O'):=by
 have hb:=Ei (t.take o) 10 (t.take o).length;have hc:=List.count_le_length (a:=(10:UInt8)) (l:=t.take o);have dJ:(t.take o).length<=1000000:=by rw[List.length_take];omega
 unfold oN;refine VF.dh 23 [.cell 4 69] Tryz.func246 ?_;have hmx:max (0:Int) (min (o:Int) ((t:List UInt8).length:Int))=(o:Int):=by omega
 have qO:((o:Int)).toNat=o:=by omega
 refine aM @dD @hmx @qO ?_;refine ah.rt (Ve (t.take o) 10 _) ?_;rintro _ O2 ⟨rfl,eO⟩;rw[eO];clear eO O2
 refine ae @dD ?_;refine ah.rt (FY (t.take o) 10 _ dJ) ?_;rintro _ O2 ⟨rfl,eO⟩;rw[eO];clear eO O2
 generalize ft (t.take o) 10 (t.take o).length=a at*;generalize (t.take o).count 10=b at*;refine ae @dD ?_;first | exact(VH.Ge.refl O).push _ | exact((VH.Ge.refl O).push _).set (Nat.le_refl _) _
open Go.Shelf
def Tryz.IY:Go.Shelf.Ren:=⟨fun | 143=>81 | 219=>108 | 217=>139 | 225=>140 | 224=>141 | 267=>142 | 266=>169 | 314=>170 | n=>n,fun | 9=>9 | 3=>3 | 4=>4 | 5=>5 | 46=>202 | 146=>246 | 51=>128 | n=>n,fun | 1=>0 | n=>n⟩
theorem Tryz.ZC:Go.Proofs.Lays.n143 Tryz.prog Tryz.IY:={
 mixed:=by kernel_rfl
 f143:=Tryz.func81.trans (congrArg some (by kernel_rfl))
 f217:=Tryz.func139.trans (congrArg some (by kernel_rfl))
 f219:=Tryz.func108.trans (congrArg some (by kernel_rfl))
 f224:=Tryz.func141.trans (congrArg some (by kernel_rfl))
 f225:=Tryz.func140.trans (congrArg some (by kernel_rfl))
 f266:=Tryz.func169.trans (congrArg some (by kernel_rfl))
 f267:=Tryz.func142.trans (congrArg some (by kernel_rfl))
 f314:=Tryz.func170.trans (congrArg some (by kernel_rfl))
 t3:=Tryz.underlying3
 a3:=Tryz.isAgg3
 z3:=Tryz.sizeOf3
 v3:=Tryz.zeroValue3
 t4:=Tryz.underlying4
 a4:=Tryz.isAgg4
 z4:=Tryz.sizeOf4
 v4:=Tryz.zeroValue4
 t5:=Tryz.underlying5
 a5:=Tryz.isAgg5
 z5:=Tryz.sizeOf5
 v5:=Tryz.zeroValue5
 t9:=Tryz.underlying9
 a9:=Tryz.isAgg9
 z9:=Tryz.sizeOf9
 v9:=Tryz.zeroValue9
 t46:=Tryz.underlying202
 a46:=Tryz.isAgg202
 z46:=Tryz.sizeOf202
 v46:=Tryz.zeroValue202
 t51:=Tryz.underlying128
 a51:=Tryz.isAgg128
 z51:=Tryz.sizeOf128
 v51:=Tryz.zeroValue128
 t146:=Tryz.underlying246
 a146:=Tryz.isAgg246
 z146:=Tryz.sizeOf246
 v146:=Tryz.zeroValue246
 g1:=by kernel_rfl}
open Go.Lib in
theorem Tryz.strings_Index (s sub:ByteArray) (m:Int) (w:World) (hs:s.size<4294967281) (hm:w.cell? ⟨0,0,none⟩=some (.int .i64 m)):
  Calls Tryz.prog 81 #[.string s,.string sub] w fun e w'=>e= .returned (.int .i64 (Lib.index s.data.toList sub.data.toList))/\w'=w:=Any.strings_Index Tryz.ZC s sub m w hs hm
theorem LN (s p:List UInt8) (O:VH) (hs:s.length<4294967281):VF Tryz.prog 81 [.str s,.str p] O (aI fun m O'=>m=mi (Lib.index s p)/\O'=O):=by
 intro G w vs hw hv;obtain⟨u,us,rfl,h1,h2⟩:=hv.dZ;obtain⟨u2,us2,rfl,h3,h4⟩:=h2.dZ;rw[h4.gL];cases h1;cases h3;obtain⟨m,hm⟩:=hw.aht (g:=0) (by decide);refine(Tryz.strings_Index ⟨⟨s⟩⟩ ⟨⟨p⟩⟩ m w hs hm).mono fun e w' ⟨he,CQ⟩=>?_
 subst CQ;subst he
 exact⟨.ret (mi (Lib.index s p)),O,G,Gh.Le.refl G,hw,.v rfl,rfl,rfl⟩
theorem index_le:∀(s p:Bs),Lib.index s p<=(s.length:Int)
 | [],p=>by unfold Lib.index;split<;>simp
 | b::l,p=>by
   have:=index_le l p;unfold Lib.index;rw[List.length_cons];split
   ·omega
   ·split<;>omega
theorem ZD {f:UInt8->Bool}:∀(s:Bs) (j:Nat) (c:UInt8),s[j]?=some c->j<=(s.takeWhile f).length->if f c then j+1<=(s.takeWhile f).length else(s.takeWhile f).length=j
 | [],j,c,hj,_=>by simp at hj
 | d::s,0,c,hj,_=>by
   simp only[List.getElem?_cons_zero,Option.some.injEq]at hj;subst hj;cases h:f d<;>simp[List.takeWhile,h]
 | d::s,j+1,c,hj,h=>by
   rw[List.getElem?_cons_succ]at hj;cases hc:f d
   ·rw[List.takeWhile_cons_of_neg (by simp[hc])]at h;simp at h
   ·rw[List.takeWhile_cons_of_pos hc,List.length_cons]at h ⊢;have:=ZD (f:=f) s j c hj (by omega);cases Kx:f c
    ·simp only[Kx,Bool.false_eq_true,if_false]at this ⊢;omega
    ·simp only[Kx,if_true]at this ⊢;omega
def pM (s p:Bs):Bs:=if 0<=Lib.index s p then s.take (Lib.index s p).toNat else s
def iF (t:Bs) (o:Nat) (p:Bs):Except (Int×Nat) (Bs×Nat):=
 if((pM (t.drop o) p).takeWhile l9).length<(pM (t.drop o) p).length then .error (10,o+((pM (t.drop o) p).takeWhile l9).length)
 else if Lib.index (t.drop o) p<0 then .error (13,t.length)else .ok (pM (t.drop o) p,o+(Lib.index (t.drop o) p).toNat+p.length)
theorem Ej {O:VH} {k off:Nat} {t:Bs} {X:MV} (fr p:Bs) (h:Rd O k t off X) (ht:t.length<=1000000) (hp:p.length<=1000) (ho:off+fr.length<=t.length):
  VF Tryz.prog 286 [.ptr k 0,.str fr,.str p] O (TQ O k t X (iF t (off+fr.length) p) fun y m=>m= .str y):=by
 have hk:=h.2;have hr:Rd (O.set k (.cells [.str t,mi (off+fr.length:Nat),X])) k t (off+fr.length) X:=h.set;have hu:bj O (some k) (O.set k (.cells [.str t,mi (off+fr.length:Nat),X])):=bj.set;have ku:(off:Int)+(fr.length:Int)=((off+fr.length:Nat):Int):=by omega
 simp only[au, <-ku]at hk hr hu;refine VF.bU 78 [.tmp 6] Tryz.func286 ?_;refine VC.ag aa (ae @ar ?_);refine VC.ag aa (ao @ar @hk ?_);generalize O.set k (.cells [.str t,.v (.int .i64 ((off:Int)+(fr.length:Int))),X])=O2 at*;generalize hoo:off+fr.length=o at*;have bN:=hr.2;simp only[au]at bN;unfold iF;refine VC.ag aa (ae @ar ?_);refine ah.rt (wg hr ho) ?_;rintro _ O3 ⟨rfl,eO⟩;rw[eO];clear eO O3
 refine ae @ar ?_;refine ah.rt (LN (t.drop o) p _ (by rw[List.length_drop];omega)) ?_;rintro _ O3 ⟨rfl,eO⟩;rw[eO];clear eO O3
 refine ae @ar ?_;refine VC.ag aa (ae @ar ?_);refine ah.rt (wg hr ho) ?_;rintro _ O3 ⟨rfl,eO⟩;rw[eO];clear eO O3
 refine ae @ar ?_;have du:=Lib.index_ge (t.drop o) p;have jk:Lib.index (t.drop o) p<=((t.drop o).length:Int):=index_le _ _;have iH:pM (t.drop o) p=if 0<=Lib.index (t.drop o) p then(t.drop o).take (Lib.index (t.drop o) p).toNat else t.drop o:=rfl
 have Ci:(pM (t.drop o) p).length<=1000000:=by
  rw[iH];split
  ·rw[List.length_take,List.length_drop];omega
  ·rw[List.length_drop];omega
 generalize pM (t.drop o) p=s at*;generalize Lib.index (t.drop o) p=n at*;refine VC.bE [0,2,7,8] (fun _:Unit=>[.ptr k 0,.str p,.v (.int .i64 n),.str s]) (fun _ O'=>O'=O2) ?_ ?_
 ·rw[List.length_drop]at jk;by_cases h0:0<=n
  ·rw[if_pos h0]at iH;subst iH;obtain⟨N,rfl⟩:=Int.eq_ofNat_of_zero_le h0;have hN:N<=(t.drop o).length:=by rw[List.length_drop];omega
   have qO:(N:Int).toNat=N:=rfl;refine ae @ar ?_;refine WC.sound aa (ao @ar @qO ?_);exact aA.mk () rfl
  ·rw[if_neg h0]at iH;subst iH;refine ao @ar @h0 ?_;refine WC.sound aa (ae @ar ?_);exact aA.mk () rfl
 rintro⟨⟩ O3 eO;rw[eO];clear eO O3
 refine VC.ag aa (ae @ar ?_);clear iH;have htw:=nJ l9 s;refine VC.bH [38] [0,2,7,8,37] (fun j:Nat=>[mi j]) (fun j O'=>O'=O2/\j<=s.length/\j<=(s.takeWhile l9).length) (fun j=>s.length - j) (0) ?_ ?_
 ·exact⟨rfl,Nat.zero_le _,Nat.zero_le _⟩
 rintro j O3 ⟨eO,hj,hjt⟩;rw[eO];clear eO O3
 by_cases h1:j<s.length
 ·have hg:=List.getElem?_eq_getElem h1;have cP:=ZD (f:=l9) s j _ hg hjt;generalize s[j]=c at*;cases hc:l9 c
  ·rw[hc,if_neg (by simp)]at cP;rw[if_pos (by omega),cP];refine VC.ag aa (ae @ar ?_);refine VC.ag aa (ae @ar ?_);refine VC.ag aa (ao @ar @hg ?_);refine ah.rt (v7 c _) ?_;rintro _ O3 ⟨rfl,eO⟩;rw[eO];clear eO O3
   rw[hc];refine ao @ar @bN ?_;refine ah.p (h_ 10 (o+j) _) ?_ ?_
   ·rintro m O9 ⟨_,h⟩;exact h.elim
   rintro m O9 ⟨rfl,rfl⟩;refine ae @ar ?_;exact⟨hu,rfl⟩
  ·rw[hc,if_pos rfl]at cP;refine VC.ag aa (ae @ar ?_);refine VC.ag aa (ae @ar ?_);refine VC.ag aa (ao @ar @hg ?_);refine ah.rt (v7 c _) ?_;rintro _ O3 ⟨rfl,eO⟩;rw[eO];clear eO O3
   rw[hc];refine ao @ar @bN ?_;refine WC.sound aa (ae @ar ?_);exact aC.next (j+1) ⟨rfl,h1,cP⟩
 ·have bd:j=s.length:=by omega
  subst bd;refine VC.ag aa (ae @ar ?_);refine WC.sound aa (ae @ar ?_);rw[if_neg (by omega)];by_cases h2:n<0
  ·rw[if_pos h2];refine VC.ag aa (ao @ar @bN ?_);refine ah.p (h_ 13 t.length _) ?_ ?_
   ·rintro m O9 ⟨_,h⟩;exact h.elim
   rintro m O9 ⟨rfl,rfl⟩;refine ae @ar ?_;exact⟨hu,rfl⟩
  ·rw[if_neg h2];refine VC.ag aa (ao @ar @bN ?_);have h3:(n.toNat:Int)=n:=by omega
   have h4:n<=1000000:=by rw[List.length_drop]at jk;omega
   refine VC.ag aa (ao @ar @bN ?_);refine WC.sound aa (ae @ar ?_);have eJ:(o:Int)+(n+(p.length:Int))=((o+n.toNat+p.length:Nat):Int):=by omega
   rw[eJ];exact⟨hu.trans bj.set,rfl,by simpa[au]using hr.set (t':=t) (off':=o+n.toNat+p.length) (X':=X)⟩
def qP (s:Bs):Bool:=dC s [60,63,120,109,108]&&decide (5<s.length)&&(lD (s.getD 5 0)||s.getD 5 0==63)
theorem Vf {O:VH} {k off:Nat} {t:Bs} {X:MV} (h:Rd O k t off X) (ht:t.length<=1000000) (ho:off<=t.length):VF Tryz.prog 287 [.ptr k 0] O (aI fun m O'=>m=mb (qP (t.drop off))/\O'=O):=by
 unfold qP;refine VF.dh 25 [.tmp 2] Tryz.func287 ?_;refine ae @ar ?_;refine ah.rt (wg h ho) ?_;rintro _ O2 ⟨rfl,eO⟩;rw[eO];clear eO O2
 have hl:(t.drop off).length<=1000000:=by rw[List.length_drop];omega
 generalize t.drop off=s at*;refine ae @ar ?_;refine ah.rt (mT s [60,63,120,109,108] _) ?_;rintro _ O2 ⟨rfl,eO⟩;rw[eO];clear eO O2
 cases h1:dC s [60,63,120,109,108]
 ·exact fe @ar
 by_cases h2:5<s.length
 ·have hg:=List.getElem?_eq_getElem h2;have hd:s.getD 5 0=s[5]:=by simp[List.getD,hg]
  rw[decide_eq_true h2,hd];generalize s[5]=c at*;refine ao @ar @hg ?_;refine ah.rt (pq c _) ?_;rintro _ O2 ⟨rfl,eO⟩;rw[eO];clear eO O2
  cases h3:lD c
  ·by_cases h4:c=63
   ·subst h4;refine aM @ar @hg @aG ?_;rfl
   ·have h5:¬((c.toNat:Int)=63):=fun e=>h4 (UInt8.toNat_inj.1 (by simpa using(by omega:c.toNat=63)))
    rw[show(c==63)=false by simpa using h4];exact kt4 @ar @hg @aG @h5
  ·exact fe @ar
 ·rw[decide_eq_false h2];exact fe @ar
section
variable {G:Gh} {O:VH} {w:World} {n:Sz} {D:List Deferred} {e:Env} {P:Program} {tab:bS} {ops:Array Oper} {Q:VQ} {u:Value}
def Hn (k:Int):Bs:=(Utf8.encode k).data.toList
theorem Vg (ht:aJ P tab) (h:WR G O w) {src dst el:TypeId} {tk:Tok} {k:Int} (hs:(tab src).map cn.under=some (.slice el)) (hd:(tab dst).map cn.under=some .string) (he:(tab el).map cn.under=some (.int .i32))
  (hx:VR G (.sl 1 [.v (.int .i32 k)] tk) u):gx P (convert src dst u) w G O (.str (Hn k)):=by
 cases hx with
 | sl h1 h2 h3 h4 h5 h6=>
   rename_i us c b o
   have h7:us=[.int .i32 k]:=by
    match us,h1 with
    | [x],_=>rw[(h3 0 _ x rfl rfl).ie]
   subst h7;refine⟨_,w,G,?_,Gh.Le.refl G,h,.str,ji.refl _ _⟩;rw[run_convert_runes_string w src dst el _ _ _ (bq ht hs) (bq ht he) (bq ht hd)]
   have h8:=run_loadCells_list (P:=P) w ⟨b,o,none⟩ [Value.int .i32 k] (fun j v hv=>by
    rw[Addr.add_lit];exact h.dT _ _ _ (h2 j v hv))
   rw[run_runesToString (P:=P) w ⟨b,o,none⟩ 1 c [k] h8]
   congr 2
theorem VL.Ek (ht:aJ P tab) {d:Option Tmp} {src dst el:TypeId} {x:Operand} {ty:TypeId} {ps:String} {af:Array Edge} {g:Option (Nat×Bool)} {L:List (Fl×Oper)} {k:Int} {tk:Tok}
  (hg:aK ops (.mk d (.convert src dst x) ty ps af g) e=some true) (hx:ev e x=some (.sl 1 [.v (.int .i32 k)] tk)) (hs:(tab src).map cn.under=some (.slice el)) (nP:(tab dst).map cn.under=some .string) (he:(tab el).map cn.under=some (.int .i32)) (hd:bf n d=true)
  (h:WL P tab n D .plain ops Q L (aV d (.str (Hn k)) e) O):VL P n D .plain ops ((.one,.mk d (.convert src dst x) ty ps af g)::L) e O Q:=by
 refine VL.Dv (M:=fun m O'=>m= .str (Hn k)/\O'=O) hg hd (fun G a w hw hf=>?_) ?_
 ·exact⟨_,_,⟨rfl,rfl⟩,c_.of (Vg (P:=P) ht hw hs nP he (hf.ev hx)) (by simp[execOp])⟩
 ·rintro m O' ⟨rfl,rfl⟩;exact WL.sound ht h
end
set_option linter.defProp false in
def bw:=And.intro ar<|And.intro Pu Ha
def isLet (k:Nat):Bool:=decide (k=9\/k=10\/k=13\/(32<=k/\k<=1114111/\¬(55296<=k/\k<=57343)))
def BQ (k:Nat):Bs:=if isLet k then Hn k else[]
theorem LO {k:Nat} (h:isLet k=true):IntKind.i32.wrap (k:Int)=k:=by
 have hk:k<=1114111:=by
  simp only[isLet,decide_eq_true_eq]at h;omega
 clear h;simp only[IntKind.wrap,IntKind.signed,IntKind.bits];simp;omega
theorem Vh (k:Nat) (O:VH) (hk:k<=1000000000000):VF Tryz.prog 324 [mi k] O (aI fun m O'=>m= .tuple [.str (BQ k),mb (isLet k)]/\O'=O):=by
 have yes:isLet k=true->BQ k=Hn k:=fun h=>by unfold BQ;rw[h];rfl
 have no:isLet k=false->BQ k=[]:=fun h=>by unfold BQ;rw[h];rfl
 have hw:= @LO k;refine VF.dh 37 [.tmp 2,.tmp 3] Tryz.func324 ?_;by_cases h1:k=9
 ·have h0:isLet k=true:=decide_eq_true (.inl h1);subst h1;have hw:=hw h0;rw[yes h0,h0];refine ae @bw ?_;refine VL.Ek aa rfl rfl (by rw[Ha];rfl) (by rw[T9];rfl) (by rw[Pu];rfl) rfl ?_;refine ao @bw @hw ?_;trivial
 by_cases h2:k=10
 ·have h0:isLet k=true:=decide_eq_true (.inr (.inl h2));subst h2;have hw:=hw h0;rw[yes h0,h0];refine ae @bw ?_;refine VL.Ek aa rfl rfl (by rw[Ha];rfl) (by rw[T9];rfl) (by rw[Pu];rfl) rfl ?_;refine ao @bw @hw ?_;trivial
 by_cases h3:k=13
 ·have h0:isLet k=true:=decide_eq_true (.inr (.inr (.inl h3)));subst h3;have hw:=hw h0;rw[yes h0,h0];refine ae @bw ?_;refine VL.Ek aa rfl rfl (by rw[Ha];rfl) (by rw[T9];rfl) (by rw[Pu];rfl) rfl ?_;refine ao @bw @hw ?_;trivial
 by_cases h4:k<32
 ·have h0:isLet k=false:=by simp only[isLet,decide_eq_false_iff_not];omega
  rw[no h0,h0];refine ae @bw ?_;trivial
 by_cases h5:1114111<k
 ·have h0:isLet k=false:=by simp only[isLet,decide_eq_false_iff_not];omega
  rw[no h0,h0];refine ae @bw ?_;trivial
 by_cases h6:55296<=k
 ·by_cases h7:k<=57343
  ·have h0:isLet k=false:=by simp only[isLet,decide_eq_false_iff_not];omega
   rw[no h0,h0];refine ae @bw ?_;trivial
  ·have h0:isLet k=true:=by simp only[isLet,decide_eq_true_eq];omega
   have hw:=hw h0;rw[yes h0,h0];refine ae @bw ?_;refine VL.Ek aa rfl rfl (by rw[Ha];rfl) (by rw[T9];rfl) (by rw[Pu];rfl) rfl ?_;refine ao @bw @hw ?_;trivial
 ·have h0:isLet k=true:=by simp only[isLet,decide_eq_true_eq];omega
  have hw:=hw h0;rw[yes h0,h0];refine ae @bw ?_;refine VL.Ek aa rfl rfl (by rw[Ha];rfl) (by rw[T9];rfl) (by rw[Pu];rfl) rfl ?_;refine ao @bw @hw ?_;trivial
def rI (b:Nat) (c:UInt8):Int:=
 if ph c then(c.toNat:Int) - 48 else if b=16/\97<=c.toNat/\c.toNat<=102 then(c.toNat:Int) - 97+10 else if b=16/\65<=c.toNat/\c.toNat<=70 then(c.toNat:Int) - 65+10 else -1
theorem LP (c:UInt8):ph c=decide (48<=c.toNat/\c.toNat<=57):=by unfold ph;rw[<-Bool.decide_and]
theorem Ho (b:Nat) (c:UInt8) (O:VH):VF Tryz.prog 323 [fp c,mi b] O (aI fun m O'=>m=mi (rI b c)/\O'=O):=by
 have hc:c.toNat<256:=c.toNat_lt;have hd:=pj c O;unfold rI;refine VF.dh 41 [.tmp 4] Tryz.func323 ?_;refine ae @bw ?_;refine ah.rt (hd) ?_;rintro _ O2 ⟨rfl,eO⟩;rw[eO];clear eO O2
 cases h1:ph c;rotate_left
 ·rw[LP,decide_eq_true_eq]at h1;refine ao @bw @aG ?_;first | trivial | rfl | (repeat (first | rw[if_pos (by omega)] | rw[if_neg (by omega)]))
 by_cases hb:b=16
 ·subst hb;by_cases h2:97<=c.toNat
  ·by_cases h3:c.toNat<=102
   ·refine ao @bw @aG ?_;first | trivial | rfl | (repeat (first | rw[if_pos (by omega)] | rw[if_neg (by omega)]))
   ·refine ao @bw @aG ?_;first | trivial | rfl | (repeat (first | rw[if_pos (by omega)] | rw[if_neg (by omega)]))
  ·by_cases h4:65<=c.toNat
   ·by_cases h5:c.toNat<=70
    ·refine ao @bw @aG ?_;first | trivial | rfl | (repeat (first | rw[if_pos (by omega)] | rw[if_neg (by omega)]))
    ·refine ao @bw @aG ?_;first | trivial | rfl | (repeat (first | rw[if_pos (by omega)] | rw[if_neg (by omega)]))
   ·refine ao @bw @aG ?_;first | trivial | rfl | (repeat (first | rw[if_pos (by omega)] | rw[if_neg (by omega)]))
 ·have b9:((b:Int)==16)=false:=by simpa using(by omega:¬(b:Int)=16)
  refine aM @bw @aG @b9 ?_;first | trivial | rfl | (repeat (first | rw[if_pos (by omega)] | rw[if_neg (by omega)]))
def xh (b:Nat) (c:UInt8):Bool:=decide (0<=rI b c)
theorem Vi (b k:Nat) (c:UInt8) (O:VH) (hk:O.hp k=some (.cells [mi b])):VF Tryz.prog 322 ([fp c]++[.ptr k 0]) O (aI fun m O'=>m=mb (xh b c)/\O'=O):=by
 show VF _ _ [fp c,.ptr k 0] _ _;simp only[au]at hk;unfold xh;refine VF.dh 8 [.tmp 3] Tryz.func322 ?_;refine ao @bw @hk ?_;refine ah.rt (Ho b c O) ?_;rintro _ O2 ⟨rfl,eO⟩;rw[eO];clear eO O2
 by_cases h:0<=rI b c
 ·rw[decide_eq_true h];refine ae @bw ?_;first | trivial | rfl
 ·rw[decide_eq_false h];refine ao @bw @h ?_;first | trivial | rfl
theorem ZE (f:FuncId) (cs:List MV) (p:UInt8->Bool) (s:List UInt8) (O:VH) (hs:s.length<=1000000000) (hf:∀c,VF Tryz.prog f ([fp c]++cs) O (aI fun m O'=>m=mb (p c)/\O'=O)) (hb:di Tryz.prog f=true):
  VF Tryz.prog 184 [.str s,.func (.func f) [] cs] O (aI fun m O'=>m=mi (s.takeWhile p).length/\O'=O):=by
 refine VF.dh 20 [.tmp 4] Tryz.func184 ?_;refine ae @fl ?_;refine WC.ik [5] [0,1] (fun j:Nat=>[mi j]) (fun j O'=>O'=O/\j<=s.length/\(s.takeWhile p).length=j+((s.drop j).takeWhile p).length) (fun j=>s.length - j) (0) ?_ ?_
 ·exact⟨rfl,Nat.zero_le _,by simp⟩
 rintro j O2 ⟨eO,hj,hw⟩;rw[eO];clear eO O2
 by_cases h2:j<s.length
 ·have hg:=List.getElem?_eq_getElem h2;have hd:=List.drop_eq_getElem_cons h2;generalize s[j]=c at*;refine ao @fl @hg ?_;refine ah.rt (hf c) ?_ (hb:=hb);rintro _ O3 ⟨rfl,eO⟩;rw[eO];clear eO O3
  cases hp:p c
  ·refine ao @fl @hg ?_;rw[hw,hd,List.takeWhile_cons_of_neg (by simp[hp])];trivial
  ·refine ao @fl @hg ?_;refine aC.next (j+1) ?_;refine⟨rfl,by omega,?_⟩;rw[hw,hd,List.takeWhile_cons_of_pos hp,List.length_cons];omega
 ·refine ae @fl ?_;rw[hw,List.drop_of_length_le (by omega)];trivial
def jg (s:Bs) (a:Nat):Bs×Nat×Nat:=if dC s [120]then(s.drop 1,a+1,16)else(s,a,10)
def rJ (b:Nat) (l:Bs):Nat:=l.foldl (fun k c=>k*b+(rI b c).toNat) 0
def ZF (s:Bs) (a b n:Nat):Bs×Nat×Int:=
 if 8<n then([],0,12)else if n=s.length then([],0,13)else if n=0\/s.getD n 0≠59 then([],0,12)
 else if isLet (rJ b (s.take n))then(BQ (rJ b (s.take n)),a+n+1,0)else([],0,12)
def uV (s:Bs) (a:Nat):Bs×Nat×Int:=ZF (jg s a).1 (jg s a).2.1 (jg s a).2.2 ((jg s a).1.takeWhile (xh (jg s a).2.2)).length
theorem LQ {b:Nat} (hb:b<=16):∀(l:Bs) (k:Nat),l.foldl (fun k c=>k*b+(rI b c).toNat) k+1<=(k+1)*16 ^ l.length
 | [],k=>by simp
 | c::l,k=>by
   have hd:(rI b c).toNat<=15:=by
    unfold rI;split
    ·rename_i h;rw[LP,decide_eq_true_eq]at h;omega
    repeat' split
    all_goals omega
   rw[List.foldl_cons,List.length_cons,Nat.pow_succ];refine Nat.le_trans (LQ hb l _) ?_;have h1:k*b<=k*16:=Nat.mul_le_mul_left k hb;have h2:k*b+(rI b c).toNat+1<=(k+1)*16:=by omega
   calc _<=((k+1)*16)*16 ^ l.length:=Nat.mul_le_mul_right _ h2
    _=_:=by rw[Nat.mul_assoc,Nat.mul_comm 16]
theorem R5 {b:Nat} (hb:b<=16) {l:Bs} (hl:l.length<=8):rJ b l<=4294967296:=by
 have h1:=LQ hb l 0;have h2:16 ^ l.length<=16 ^ 8:=Nat.pow_le_pow_right (by decide) hl;have h3:(16:Nat) ^ 8=4294967296:=by decide
 unfold rJ;omega
theorem P3 (b:Nat) (t:Bs) (j:Nat) (h:j<t.length):rJ b (t.take (j+1))=rJ b (t.take j)*b+(rI b t[j]).toNat:=by
 unfold rJ;rw[cN _ _ h,List.foldl_append];rfl
theorem R6 {p:UInt8->Bool}:∀(t:Bs) (j:Nat) (c:UInt8),j<(t.takeWhile p).length->t[j]?=some c->p c=true
 | [],j,c,h,_=>by simp at h
 | d::t,j,c,h,hj=>by
   cases hd:p d
   ·rw[List.takeWhile_cons_of_neg (by simp[hd])]at h;simp at h
   ·rw[List.takeWhile_cons_of_pos hd,List.length_cons]at h;cases j with
    | zero=>simp only[List.getElem?_cons_zero,Option.some.injEq]at hj;subst hj;exact hd
    | succ j=>exact R6 t j c (by omega) (by simpa using hj)
theorem Vj (s:Bs) (a:Nat) (O:VH) (hs:s.length<=1000000) (ha:a<=1000000):VF Tryz.prog 318 [.str s,mi a] O (aI fun m O'=>m= .tuple [.str (uV s a).1,mi (uV s a).2.1,mi (uV s a).2.2]/\O.Ge O'):=by
 unfold uV;refine VF.bU 65 [.tmp 4,.tmp 5,.tmp 6] Tryz.func318 ?_;refine VC.ag aa (ae @bw ?_);refine VC.ag aa (ae @bw ?_);refine VC.al ?_;rintro O1 ⟨aU,dL,du⟩;refine VC.bE [0,1,7] (fun _:Unit=>[.str (jg s a).1,mi (jg s a).2.1,.ptr O.next 0]) (fun _ O'=>O.Ge O'/\O'.hp O.next=some (.cells [mi (jg s a).2.2])) ?_ ?_
 ·refine VC.ag aa (ae @bw ?_);refine ah.rt (mT s [120] _) ?_;rintro _ O2 ⟨rfl,eO⟩;rw[eO];clear eO O2
  unfold jg;cases h1:dC s [120]
  ·refine ae @bw ?_;refine WC.sound aa (ae @bw ?_);exact aA.mk () ⟨aU,dL⟩
  ·have h2:1<=s.length:=by
    cases s with
    | nil=>cases h1
    | cons c s=>simp
   refine ao @bw @dL ?_;refine WC.sound aa (ao @bw @dL ?_);exact aA.mk () ⟨aU.set (Nat.le_refl _) _,VH.an _ _ _⟩
 rintro⟨⟩ O2 ⟨ay,bN⟩;have dF:(jg s a).1.length<=1000000:=by unfold jg;split<;>simp<;>omega
 have hpa:(jg s a).2.1<=1000001:=by unfold jg;split<;>simp<;>omega
 have nC:(jg s a).2.2<=16:=by unfold jg;split<;>simp
 generalize jg s a=p at*;obtain⟨t,a2,b⟩:=p;dsimp only at*;have htw:=nJ (xh b) t;refine VC.ag aa (ae @bw ?_);refine ah.rt (ZE 322 [.ptr O.next 0] (xh b) t O2 (by omega) (fun c=>Vi b O.next c O2 bN) (by kernel_rfl)) ?_;rintro _ O3 ⟨rfl,eO⟩;rw[eO];clear eO O3
 have jU:= @R6 (xh b) t;generalize (t.takeWhile (xh b)).length=n at*;unfold ZF;refine ae @bw ?_;refine VC.bA (VC.aD ?_);by_cases h1:8<n
 ·rw[if_pos h1];refine WC.sound aa (ae @bw ?_);exact⟨rfl,ay⟩
 rw[if_neg h1];by_cases h2:n=t.length
 ·rw[if_pos h2];subst h2;refine WC.sound aa (ae @bw ?_);exact⟨rfl,ay⟩
 rw[if_neg h2];by_cases h3:n=0
 ·rw[if_pos (.inl h3)];subst h3;refine WC.sound aa (ao @bw @h2 ?_);exact⟨rfl,ay⟩
 have hnt:n<t.length:=by omega
 have hg:=List.getElem?_eq_getElem hnt;have hd:t.getD n 0=t[n]:=by simp[List.getD,hg]
 rw[hd];generalize t[n]=c at*;by_cases h4:c=59;rotate_left
 ·rw[if_pos (.inr h4)];have h5:¬((c.toNat:Int)=59):=fun e=>h4 (UInt8.toNat_inj.1 (by simpa using(by omega:c.toNat=59)))
  refine WC.sound aa (c8 @bw @hg @aG @h5 ?_);exact⟨rfl,ay⟩
 rw[if_neg (fun h=>h.elim h3 (fun h=>h h4))];subst h4;have h5:((((59:UInt8).toNat:Nat):Int) != 59)=false:=rfl;refine WC.sound aa (c8 @bw @hg @aG @h5 ?_);clear hg h5;refine VC.ag aa (ae @bw ?_);refine VC.ag aa (ae @bw ?_);simp only[au]at bN;refine VC.bH [9,40] [0,1,7,8,39] (fun j:Nat=>[mi (rJ b (t.take j)),mi j]) (fun j O'=>O'=O2/\j<=n) (fun j=>n - j) (0) ?_ ?_
 ·exact⟨rfl,Nat.zero_le _⟩
 rintro j O3 ⟨eO,hj⟩;rw[eO];clear eO O3
 have h8:(t.take j).length<=8:=by rw[List.length_take];omega
 have hv8:=R5 nC h8;by_cases hjn:j<n
 ·have hjt:j<t.length:=by omega
  have hg:=List.getElem?_eq_getElem hjt;have Vk:=jU j _ hjn hg;have iM:=P3 b t j hjt;have h9:rJ b (t.take (j+1))<=4294967296:=R5 nC (by rw[List.length_take];omega);generalize t[j]=c at*;simp only[xh,decide_eq_true_eq]at Vk;generalize hV:rJ b (t.take (j+1))=V at*;generalize rJ b (t.take j)=v at*;have hdv:((rI b c).toNat:Int)=rI b c:=Int.toNat_of_nonneg Vk;have hdc:=Ho b c O2;generalize rI b c=d at*;obtain⟨d,rfl⟩:=Int.eq_ofNat_of_zero_le Vk;have ku:(v:Int)*(b:Int)=((v*b:Nat):Int):=by rw[Int.natCast_mul]
  simp only[Int.toNat_natCast]at iM;generalize v*b=vb at*;refine VC.ag aa (ae @bw ?_);refine VC.ag aa (ae @bw ?_);refine VC.bA (VC.aD ?_);refine VC.ag aa (ae @bw ?_);refine VC.oe [] ?_;refine ab.av 0 ?_;refine ae @bw ?_;refine ab.ld (m:=.v (.int .i64 b)) 1 ?_ ?_
  ·exact dH @bw @bN
  simp only[aj];refine ab.av 2 ?_;refine ao @bw @ku ?_;refine ab.av 3 ?_;refine ae @bw ?_;refine ab.av 4 ?_;refine ae @bw ?_;refine ab.av 5 ?_;refine ao @bw @hg ?_;refine ab.ld (m:=.v (.int .i64 b)) 6 ?_ ?_
  ·exact dH @bw @bN
  simp only[aj];refine ab.call (i:=7) (hdc) ?_;rintro _ O3 ⟨rfl,eO⟩;simp only[aj];rw[eO];clear eO O3
  refine⟨VH.Ge.refl _,?_⟩;refine ab.av 8 ?_;refine ao @bw @ku ?_;refine ab.av 9 ?_;refine ao @bw @ku ?_;refine ab.bI [] ?_;refine ae @bw ?_;refine WC.sound aa (ae @bw ?_);exact aC.next (j+1) ⟨rfl,hjn⟩ (hl:=(by rw[hV,iM];rfl))
 ·obtain rfl:j=n:=by omega
  refine VC.ag aa (ae @bw ?_);refine WC.sound aa (ae @bw ?_);generalize rJ b (t.take j)=v at*;refine VC.ag aa (ae @bw ?_);refine ah.rt (Vh v _ (by omega)) ?_;rintro _ O3 ⟨rfl,eO⟩;rw[eO];clear eO O3
  cases h6:isLet v
  ·rw[if_neg (by simp)];refine ae @bw ?_;refine WC.sound aa (ae @bw ?_);exact⟨rfl,ay⟩
  ·rw[if_pos rfl];refine ae @bw ?_;refine WC.sound aa (ae @bw ?_);exact⟨rfl,ay⟩
end Go.Proofs.YtoclnkfdahmnhaaGreatDoor
