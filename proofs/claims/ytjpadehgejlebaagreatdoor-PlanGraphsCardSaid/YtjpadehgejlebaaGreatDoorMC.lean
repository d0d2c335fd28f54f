import Derived.Test.YtjpadehgejlebaaGreatDoorMB
import Derived.ProofKit
import Derived.OpenShut
import Derived.Shelf.Strings.Search3
import Derived.Shelf.Strings.OnBuilder
import Derived.Test.YtjpadehgejlebaaGreatDoorProg
import Derived.Laws.Cover4
set_option linter.unusedVariables false
set_option linter.unusedSimpArgs false
namespace Go.Proofs.YtjpadehgejlebaaGreatDoor
open Go.RowKit Go.ChangeShapes
open _root_.List renaming length_append → zP, length_nil → Ma, length_cons → Qm, getElem?_eq_getElem → Zk, nil_append → adW, append_nil → adX, cons_append → adY, take_length → ahJ, length_take → ahK, flatMap_cons → ahL, drop_eq_getElem_cons → ahM, length_drop → ahN, takeWhile_cons_of_neg → ahO, takeWhile_cons_of_pos → ahP, getElem_mem → ajk, drop_of_length_le → ajl, flatMap_append → ajm, append_assoc → ajn, flatMap_nil → ajp, getElem?_append_right → ajq, length_filter_le → ajr, getElem?_cons_zero → ajt, getElem?_cons_succ → aju, length_map → ajv, all_eq_true → am8, mem_cons → am9, getElem?_take → anb, getElem?_append_left → ane, getElem?_eq_some_iff → anf, map_append → anh, mem_range → anl
open _root_.Nat renaming le_trans → Vq, le_refl → Zj, zero_le → adZ, lt_of_lt_of_le → agc, lt_succ_self → ajo, zero_lt_one → ajs, zero_add → am5, le_of_lt → am6, lt_or_ge → am_, eq_zero_or_pos → ana, add_mul → ani
open _root_.And renaming intro → Qn
open _root_.Bool renaming false_eq_true → anc, and_eq_true → ang, false_or → ann
open _root_.Array renaming getD_eq_getD_getElem? → al_, getElem?_eq_none → am7
def G0 (w:World):Gh:=⟨w,fun _=>none,fun b o=>w.cell? ⟨b,o,none⟩,fun _=>none⟩
def O0:VH:=⟨0,fun _=>none⟩
theorem wr0 (w:World) (hg:L_ w):WR (G0 w) O0 w where
 base:=Below.refl _ _
 eN _ _ _ h:=h
 qm _ _:=⟨rfl,rfl,rfl⟩
 kJ _ _ h:=by cases h
 inj _ _ _ _ _ h:=by cases h
 cells _ _ h:=by cases h
 map _ _ _ h:=by cases h
 tok _ h:=by cases h
 l_ _ _ _ _ _ h:=by cases h
 oV _ _ _ _ h:=by cases h
 obj _ _ h:=by cases h
 rz:=hg
 BU _ _ h:=by cases h
def El {H:Type} (enc:TypeId×Value->H) (P:Program) (w:World) (sp:Nat->Bool) (held:Bool) (t:TypeId) (Φ :List MV->Prop):Prop:=
 ∀fuel cs x,DataW.trod enc P w 0 sp held fuel t cs=some x->∃ms,aQ (G0 w) ms cs/\ Φ ms
section
variable {H:Type} {enc:TypeId×Value->H} {P:Program} {w:World} {sp:Nat->Bool} {held:Bool} {t e:TypeId}
theorem El.int {k:IntKind} (ht:P.underlying t=some (.int k)):El enc P w sp held t fun ms=>∃n,ms=[.v (.int k n)]/\(Lit.int k n).wf=true:=by
 intro fuel cs x h;obtain⟨n,rfl,rfl,hw⟩:=DataW.trod_int ht h;exact⟨_,aQ.cons (.v rfl) aQ.nil,n,rfl,hw⟩
theorem El.bool (ht:P.underlying t=some .bool):El enc P w sp held t fun ms=>∃b,ms=[.v (.bool b)]:=by
 intro fuel cs x h;obtain⟨n,rfl,rfl⟩:=DataW.trod_bool ht h;exact⟨_,aQ.cons (.v rfl) aQ.nil,n,rfl⟩
theorem El.str (ht:P.underlying t=some .string):El enc P w sp held t fun ms=>∃l:List UInt8,ms=[.str l]/\l.length<=maxLen:=by
 intro fuel cs x h;obtain⟨s,rfl,rfl,hs⟩:=DataW.trod_string ht h;exact⟨[.str s.data.toList],aQ.cons (by cases s with | mk d=>cases d with | mk l=>exact .str) aQ.nil,_,rfl,hs⟩
theorem RA {w:World} {a:Addr} {v:Value} (h:w.cell? a=some v):a=⟨a.block,a.off,none⟩:=by
 unfold World.cell? at h;split at h
 ·split at h
  ·cases h
  ·rename_i hs;cases a with
   | mk b o s=>cases s with
     | none=>rfl
     | some x=>exact absurd rfl hs
 ·cases h
theorem El.slice (ht:P.underlying t=some (.slice e)) {Φ :List MV->Prop} (he:El enc P w sp held e Φ) (pC:0<P.cellsOf e):
  El enc P w sp held t fun ms=>∃(rows:List (List MV)) (tk:Tok),ms=[.sl rows.length rows.flatten tk]/\(∀r∈rows, Φ r)/\rows.length<=maxLen:=by
 intro fuel cs x h;rcases DataW.trod_slice ht h with⟨rfl,rfl⟩ | ⟨a,len,cap,elems,rest,n,rfl,rfl,rfl,_,RB,hm,hlen,HK,_,_⟩
 ·exact⟨[.sl 0 [] .nil],aQ.cons .slnil aQ.nil,[],.nil,rfl,by simp,by simp⟩
 by_cases h0:len=0
 ·subst h0;exact⟨[.sl 0 [] .au],aQ.cons (.pr hm) aQ.nil,[],.au,rfl,by simp,by simp⟩
 have each:∀i,i<len->∃ms ci,w.cells? 0 (a.add (i*P.cellsOf e)) (P.cellsOf e)=some ci/\aQ (G0 w) ms ci/\ Φ ms:=fun i hi=>by
  have h1:=HK i hi;have h2:elems[i]?=some (elems[i]'(by omega)):=Zk (by omega);rw[h2]at h1;obtain⟨ci,h3,h4⟩:=Option.bind_eq_some_iff.1 h1;obtain⟨ms,h5,h6⟩:=he _ _ _ h4;exact⟨ms,ci,h3,h5,h6⟩
 have aio:a=⟨a.block,a.off,none⟩:=by
  obtain⟨_,ci,h1,_⟩:=each 0 (by omega);obtain⟨_,h2,h3⟩:=World.cells?_some h1;have h4:=h3 0 pC;rw[Nat.zero_mul]at h4;have h5:(a.add 0).add 0=a:=by simp[Addr.add]
  rw[h5]at h4;rw[Zk (by omega)]at h4;exact RA h4
 obtain⟨b,o,s⟩:=a;obtain rfl:s=none:=congrArg Addr.spot aio
 have build:∀m,m<=len->∃(rows:List (List MV)) (us:List Value),rows.length=m/\us.length=m*P.cellsOf e/\aQ (G0 w) rows.flatten us/\(∀p u,us[p]?=some u->w.cell? ⟨b,o+p,none⟩=some u)/\∀r∈rows, Φ r:=fun m=>by
  induction m with
  | zero=>exact fun _=>⟨[],[],rfl,by simp,aQ.nil,fun p u hu=>by simp at hu,by simp⟩
  | succ m ih=>
    intro hm;obtain⟨rows,us,h1,h2,h3,h4,h5⟩:=ih (by omega);obtain⟨ms,ci,g1,g2,g3⟩:=each m (by omega);obtain⟨_,g4,g5⟩:=World.cells?_some g1;refine⟨rows++[ms],us++ci,by simp[h1],by rw[zP,h2,g4,ani,Nat.one_mul],?_,fun p u hu=>?_,fun r hr=>?_⟩
    ·rw[List.flatten_append,List.flatten_cons,List.flatten_nil,adX];exact aQ.append h3 g2
    ·rcases am_ p us.length with hp | hp
     ·rw[ane hp]at hu;exact h4 p u hu
     ·rw[ajq hp]at hu;have dH:=(anf.1 hu).1;have:=g5 (p - us.length) (by omega);rw[hu]at this;rw[<-this,Addr.add_lit,Addr.add_lit,h2,show o+m*P.cellsOf e+(p - m*P.cellsOf e)=o+p by omega]
    ·rcases List.mem_append.1 hr with hr | hr
     ·exact h5 r hr
     ·rw[List.mem_singleton.1 hr];exact g3
 obtain⟨rows,us,h1,h2,h3,h4,h5⟩:=build len (Zj _);refine⟨[.sl rows.length rows.flatten .au],aQ.cons ?_ aQ.nil,rows,.au,rfl,h5,by omega⟩;rw[h1];exact .sl h3.1 (fun p u hu=>h4 p u hu) h3.2 RB hm trivial
theorem El.imp {Φ Ψ :List MV->Prop} (h:El enc P w sp held t Φ) (hi:∀ms, Φ ms-> Ψ ms):El enc P w sp held t Ψ :=fun fuel cs x hx=>by
 obtain⟨ms,h1,h2⟩:=h fuel cs x hx;exact⟨ms,h1,hi _ h2⟩
theorem El.arg {Φ :List MV->Prop} (h:El enc P w sp held t Φ) {v:Value} {d:DataW H} {ps:List MemPlace} (hd:DataW.Trod enc P w 0 sp held t v d ps) (hc:v.cells= #[v]):∃m,VR (G0 w) m v/\ Φ [m]:=by
 obtain⟨fuel,h1⟩:=hd;rw[hc]at h1;obtain⟨ms,h2,h3⟩:=h _ _ _ h1
 match ms,h2 with
 | [m],h2=>exact⟨m,h2.2 0 m v rfl rfl,h3⟩
 | [],h2=>exact absurd h2.1 (by simp)
 | _::_::_,h2=>exact absurd h2.1 (by simp)
end
def KJ:IntKind->Int->Prop
 | .i64,n=> -9223372036854775808<=n/\n<=9223372036854775807
 | .u64,n=>0<=n/\n<=18446744073709551615
 | .u8,n=>0<=n/\n<=255
 | k,n=>k.min<=n/\n<=k.max
theorem ae_ {k:IntKind} {n:Int} (h:(Lit.int k n).wf=true):KJ k n:=by
 simp only[Lit.wf,ang,decide_eq_true_eq]at h;cases k<;>exact h
section
variable {H:Type} {enc:TypeId×Value->H} {P:Program} {w:World} {sp:Nat->Bool} {held:Bool} {t e:TypeId}
theorem El.akv {k:IntKind} (ht:P.underlying t=some (.int k)):El enc P w sp held t fun ms=>∃n,ms=[.v (.int k n)]/\KJ k n:=
 (El.int ht).imp fun _ ⟨n,h,hw⟩=>⟨n,h,ae_ hw⟩
theorem El.aip (ht:P.underlying t=some .bool):El enc P w sp held t fun ms=>∃b,ms=[mb b]/\True:=
 (El.bool ht).imp fun _ ⟨b,h⟩=>⟨b,h,trivial⟩
end
theorem VF.law {P:Program} {f:FuncId} {w:World} {ms:List MV} {vs:Array Value} (hg:L_ w) (hv:aQ (G0 w) ms vs.toList) (h:VF P f ms O0 (aD fun m _=>m=mb true)):
  Calls P f vs w fun e w'=>e= .returned (.bool true)/\Below w.heap.size w w':=by
 have:=h (G0 w) w vs.toList (wr0 w hg) hv;refine this.mono ?_;rintro x w' ⟨r,O',G,h1,h2,h3,h4⟩;cases r with
 | panic m=>exact h4.elim
 | ret m=>
   have h4:m=mb true:=h4;subst h4;cases x with
   | returned v=>
     have h5:v= .bool true:=h3.jj;refine⟨by rw[h5],?_⟩;have:=h2.base;rw[h1.w0]at this;have hB:G.B=w.heap.size:=by unfold Gh.B;rw[h1.w0];rfl
     rw[hB]at this;exact this
   | panicked c=>exact h3.elim
   | outgrown=>exact h3.elim
set_option maxRecDepth 10000
theorem Xo (w:List UInt8) (h:((w.all fun c=> !NI c)&&(w.all fun c=>w.all fun d=>qA c==qA d))=true):even w:=by
 simp only[ang,am8]at h;exact⟨fun c hc=>by simpa using h.1 c hc,fun c hc d hd=>by simpa using h.2 c hc d hd⟩
def okT (p:Prt):Prop:=even p.2.2/\(∀c∈p.2.2,lo c=c)/\(if p.2.1 then p.2.2.all qA=true/\p.2.2.dropWhile (· ==48)=p.2.2 else p.2.2.all (fun c=> !qA c)=true/\ain p.2.2 false=p.2.2)
def NK (p:Prt):List UInt8:=(if p.2.1&&p.2.2==[]then[48]else[])++p.2.2
def aa9 (p:Prt):List UInt8:=(if p.1 then 45 else 46)::NK p
theorem Xp {p:Prt} (h:okT p):even (NK p):=by
 unfold NK;split
 ·rename_i hc;have:p.2.2=[]:=by simpa using(ang _ _▸hc:p.2.1=true/\(p.2.2==[])=true).2
  rw[this];exact Xo _ rfl
 ·exact h.1
theorem chain:∀(r:List Prt) (_:∀p∈r,okT p) (w:List UInt8) (_:even w) (hy:Bool),uN hy [] (w++r.flatMap aa9)=(w,hy,false)::r.map fun p=>(NK p,p.1,false)
 | [],_,w,hw,hy=>by
   have:=B8 w [] [] hy (by simpa using hw);simpa[Xn]using this
 | p::r,h,w,hw,hy=>by
   have ih:=chain r (fun q hq=>h q (List.mem_cons_of_mem _ hq)) (NK p) (Xp (h p (by simp))) p.1;have h1:=B8 w [] ((p::r).flatMap aa9) hy (by simpa using hw);rw[h1,List.nil_append,List.flatMap_cons,aa9,List.cons_append,Rz (by cases p.1<;>rfl)];have hb:((if p.1 then 45 else 46:UInt8)==45)=p.1:=by cases p.1<;>rfl
   rw[hb,ih,List.map_cons]
set_option linter.defProp false in
def f_:=Qn T9<|Qn T3<|Qn T4<|Qn T5 uM
def mF (c:UInt8):Bool:=decide (c.toNat=32\/c.toNat=9\/c.toNat=10\/c.toNat=13)
def ma (c:UInt8):Bool:=decide ((65<=c.toNat/\c.toNat<=90)\/(97<=c.toNat/\c.toNat<=122)\/c.toNat=95)
def I0 (c:UInt8):Bool:=decide (c.toNat=46\/c.toNat=45\/c.toNat=58)
def ng (c:UInt8):Bool:=decide (32<=c.toNat\/c.toNat=9\/c.toNat=10\/c.toNat=13)
theorem qE (c:UInt8) (O:VH):VF Tryz.prog 207 [gj c] O (aD fun m O'=>m=mb (mF c)/\O'=O):=by
 have hc:=c.toNat_lt;refine Δ 17 [.tmp 2] Tryz.func207 ?_;rcases(show c.toNat=32\/c.toNat=9\/c.toNat=10\/c.toNat=13\/(c.toNat≠32/\c.toNat≠9/\c.toNat≠10/\c.toNat≠13)from by omega)with h | h | h | h | ⟨h1,h2,h3,h4⟩
 ·refine ao @f_ @aK ?_;simp[mF,h]
 ·refine ao @f_ @aK ?_;simp[mF,h]
 ·refine ao @f_ @aK ?_;simp[mF,h]
 ·refine ao @f_ @aK ?_;simp[mF,h]
 ·refine ao @f_ @aK ?_;simp[mF,h1,h2,h3,h4]
theorem KK (f:FuncId) (p:UInt8->Bool) (s:List UInt8) (O:VH) (hs:s.length<=maxLen) (hf:∀c O,VF Tryz.prog f [gj c] O (aD fun m O'=>m=mb (p c)/\O'=O)) (hb:db Tryz.prog f=true):
  VF Tryz.prog 206 [.str s,.func (.func f) [] []] O (aD fun m O'=>m=mi (s.takeWhile p).length/\O'=O):=by
 have hm:(s.length:Int)<=9223372036854775807:=by simp[maxLen]at hs;omega
 refine Δ 20 [.tmp 4] Tryz.func206 ?_;refine ab @f_ ?_;refine WC.jm [5] [0,1] (fun j:Nat=>[mi j]) (fun j O'=>O'=O/\j<=s.length/\(s.takeWhile p).length=j+((s.drop j).takeWhile p).length) (fun j=>s.length - j) (0) ?_ ?_
 ·exact⟨rfl,adZ _,by simp⟩
 rintro j O2 ⟨rfl,hj,hw⟩;by_cases h2:j<s.length
 ·have hg:=Zk h2;have hd:=ahM h2;generalize s[j]=c at*;refine ao @f_ @hg ?_;refine ah.rt (hf c _) ?_ (hb:=hb);rintro _ O3 ⟨rfl,rfl⟩;cases hp:p c
  ·refine ao @f_ @hg ?_;rw[hw,hd,ahO (by simp[hp])];trivial
  ·refine ao @f_ @hg ?_;refine az.N (j+1) ?_;refine⟨rfl,by omega,?_⟩;rw[hw,hd,ahP hp,Qm];omega
 ·refine ab @f_ ?_;rw[hw,ajl (by omega)];trivial
def KL (p:UInt8->Bool) (l:List UInt8):List UInt8:=(l.reverse.dropWhile p).reverse
theorem Xq (p:UInt8->Bool) (l:List UInt8) (a:UInt8):KL p (l++[a])=if p a then KL p l else l++[a]:=by
 unfold KL;rw[List.reverse_append,List.reverse_singleton,List.singleton_append,List.dropWhile_cons];cases p a<;>simp
def trimB (s:List UInt8):List UInt8:=KL mF (s.dropWhile mF)
theorem NL (p:UInt8->Bool):∀s:List UInt8,s.drop (s.takeWhile p).length=s.dropWhile p
 | []=>rfl
 | c::s=>by
   cases h:p c
   ·rw[ahO (by simp[h]),List.dropWhile_cons_of_neg (by simp[h])];rfl
   ·rw[ahP h,List.dropWhile_cons_of_pos h,Qm,List.drop_succ_cons,NL p s]
theorem oT (p:UInt8->Bool) (s:List UInt8):(s.takeWhile p).length<=s.length:=(List.takeWhile_sublist p).length_le
theorem KM (p:UInt8->Bool) (s:List UInt8):(s.dropWhile p).length<=s.length:=(List.dropWhile_sublist p).length_le
theorem aa_ (p:UInt8->Bool) (s:List UInt8):(KL p s).length<=s.length:=by
 unfold KL;have:=KM p s.reverse;simp only[List.length_reverse]at this ⊢;exact this
theorem RD (s:List UInt8):(trimB s).length<=s.length:=Vq (aa_ _ _) (KM _ _)
theorem KN (s:List UInt8) (O:VH) (hs:s.length<=maxLen):VF Tryz.prog 175 [.str s] O (aD fun m O'=>m= .str (trimB s)/\O'=O):=by
 have hm:(s.length:Int)<=9223372036854775807:=by simp[maxLen]at hs;omega
 have QA:=oT mF s;have hdw:=NL mF s;have mR:=KM mF s;unfold trimB;refine Δ 23 [.tmp 2] Tryz.func175 ?_;refine ab @f_ ?_;refine ah.rt (KK 207 mF s _ hs qE (by kernel_rfl)) ?_;rintro _ O2 ⟨rfl,rfl⟩;refine ao @f_ @hdw ?_;generalize s.dropWhile mF=t at*;refine WC.jm [0] [] (fun k:Nat=>[.str (t.take k)]) (fun k O'=>O'=O2/\k<=t.length/\KL mF t=KL mF (t.take k)) (fun k=>k) t.length ?_ ?_ (h0:=(by rw[ahJ];rfl))
 ·exact⟨rfl,Zj _,by rw[ahJ]⟩
 rintro k O3 ⟨rfl,hk,hr⟩;rw[hr];have hlen:(t.take k).length=k:=by rw[ahK];omega
 rcases ana k with rfl | hk0
 ·have akw:(([]:List UInt8)==[])=true:=rfl;refine ao @f_ @akw ?_;trivial
 ·obtain⟨k,rfl⟩:∃j,k=j+1:=⟨k - 1,by omega⟩
  have h2:k<t.length:=by omega
  have gY:=dz t k h2;have bG:(t.take (k+1))[k]?=some t[k]:=by rw[anb,if_pos (by omega),Zk h2]
  have hne:(t.take (k+1)==[])=false:=by rw[gY];cases t.take k<;>rfl
  have gu:=Xq mF (t.take k) t[k];rw[<-gY]at gu;have Ht:(t.take (k+1)).take k=t.take k:=by rw[List.take_take];congr 1;omega
  generalize t[k]=c at*;refine cR @f_ @hne @hlen @bG ?_;refine ah.rt (qE c _) ?_;rintro _ O4 ⟨rfl,rfl⟩;cases hb:mF c
  ·refine ab @f_ ?_;rw[gu,hb];trivial
  ·rw[hb]at gu;refine aG @f_ @hlen @Ht ?_;exact az.N k ⟨rfl,by omega,by rw[gu];rfl⟩
abbrev Bs:=List UInt8
theorem FN (c:UInt8) (O:VH):VF Tryz.prog 121 [gj c] O (aD fun m O'=>m=mb (ma c)/\O'=O):=by
 have hc:=c.toNat_lt;refine Δ 21 [.tmp 2] Tryz.func121 ?_;rcases(show c.toNat<65\/(65<=c.toNat/\c.toNat<=90)\/(90<c.toNat/\c.toNat<97/\c.toNat≠95)\/c.toNat=95\/(97<=c.toNat/\c.toNat<=122)\/122<c.toNat from by omega)with h | h | h | h | h | h
 ·rw[show ma c=false by simp[ma];omega];exact dX @f_ @aK
 ·rw[show ma c=true by simp[ma];omega];exact dX @f_ @aK
 ·rw[show ma c=false by simp[ma];omega];exact dX @f_ @aK
 ·rw[show ma c=true by simp[ma];omega];exact dX @f_ @aK
 ·rw[show ma c=true by simp[ma];omega];exact dX @f_ @aK
 ·rw[show ma c=false by simp[ma];omega];exact dX @f_ @aK
def jZ (c:UInt8):Bool:=ma c||qA c||I0 c
theorem I1 (c:UInt8) (O:VH):VF Tryz.prog 97 [gj c] O (aD fun m O'=>m=mb (jZ c)/\O'=O):=by
 have hc:=c.toNat_lt;refine Δ 21 [.tmp 2] Tryz.func97 ?_;refine ab @f_ ?_;refine ah.rt (FN c _) ?_;rintro _ O2 ⟨rfl,rfl⟩;cases h1:ma c
 ·refine ab @f_ ?_;refine ah.rt (qB c _) ?_;rintro _ O2 ⟨rfl,rfl⟩;cases h2:qA c
  ·rcases(show c.toNat=46\/c.toNat=45\/c.toNat=58\/(c.toNat≠46/\c.toNat≠45/\c.toNat≠58)from by omega)with h | h | h | h
   ·rw[show jZ c=true by simp[jZ,h1,h2,I0,h]];exact dX @f_ @aK
   ·rw[show jZ c=true by simp[jZ,h1,h2,I0,h]];exact dX @f_ @aK
   ·rw[show jZ c=true by simp[jZ,h1,h2,I0,h]];exact dX @f_ @aK
   ·rw[show jZ c=false by simp[jZ,h1,h2,I0,h]];exact dX @f_ @aK
  ·rw[show jZ c=true by simp[jZ,h1,h2]];exact dX @f_ @aK
 ·rw[show jZ c=true by simp[jZ,h1]];exact dX @f_ @aK
theorem xz (c:UInt8) (O:VH):VF Tryz.prog 312 [gj c] O (aD fun m O'=>m=mb (ng c)/\O'=O):=by
 have hc:=c.toNat_lt;refine Δ 9 [.tmp 2] Tryz.func312 ?_;by_cases h:32<=c.toNat
 ·rw[show ng c=true by simp[ng];omega];exact dX @f_ @aK
 ·refine ao @f_ @aK ?_;refine ah.rt (qE c _) ?_;rintro _ O2 ⟨rfl,rfl⟩;rw[show ng c=mF c by unfold ng mF;rw[decide_eq_decide];omega];exact dX @f_ @aK
def kB (s:Bs):Nat:=if ma (s.headD 0)&& !s.isEmpty then(s.takeWhile jZ).length else 0
theorem Da (s:Bs):kB s<=s.length:=by
 unfold kB;split
 ·exact oT _ _
 ·exact adZ _
theorem afa (s:Bs) (O:VH) (hs:s.length<=maxLen):VF Tryz.prog 314 [.str s] O (aD fun m O'=>m=mi (kB s)/\O'=O):=by
 refine Δ 13 [.tmp 2] Tryz.func314 ?_;cases s with
 | nil=>
   refine ao @f_ (show(([]:List UInt8)==[])=true from rfl) ?_;rfl
 | cons c s=>
   refine aG @f_ (show((c::s)==[])=false from rfl) @agl ?_;refine ah.rt (FN c _) ?_;rintro _ O2 ⟨rfl,rfl⟩;cases h1:ma c
   ·refine ab @f_ ?_;simp[kB,h1]
   ·rw[show kB (c::s)=((c::s).takeWhile jZ).length by simp[kB,h1]];refine ab @f_ ?_;refine ah.rt (KK 97 jZ (c::s) _ hs (fun c O=>I1 c O) (by kernel_rfl)) ?_;rintro _ O2 ⟨rfl,rfl⟩;exact fU @f_
def mu (c:UInt8):Bool:=jZ c&&decide (c.toNat≠58)
theorem Xr (c:UInt8) (O:VH):VF Tryz.prog 84 [gj c] O (aD fun m O'=>m=mb (mu c)/\O'=O):=by
 have hc:=c.toNat_lt;refine Δ 9 [.tmp 2] Tryz.func84 ?_;refine ab @f_ ?_;refine ah.rt (I1 c _) ?_;rintro _ O2 ⟨rfl,rfl⟩;cases h1:jZ c
 ·rw[show mu c=false by simp[mu,h1]];exact fU @f_
 ·by_cases h:c.toNat=58
  ·rw[show mu c=false by simp[mu,h]];exact dX @f_ @aK
  ·rw[show mu c=true by simp[mu,h1,h]];exact dX @f_ @aK
def fw (s:Bs):Bool:=s.all mu&&decide (1<=s.length)&&decide (s.length<=64)
theorem uc (s:Bs) (O:VH) (hs:s.length<=maxLen):VF Tryz.prog 69 [.str s] O (aD fun m O'=>m=mb (fw s)/\O.Ge O'):=by
 have hm:(s.length:Int)<=9223372036854775807:=by simp[maxLen]at hs;omega
 have xX:=Ξ O (.cells (s.map gj));have AS:=(VH.Ge.refl O).push (.cells (s.map gj));refine Δ 24 [.tmp 2] Tryz.func69 ?_;refine ab @f_ ?_;refine VL.bytes aa (el:=5) (l:=s) rfl rfl (by rw[T9];rfl) (by rw[uM];rfl) (by rw[T5];rfl) hs rfl fun cap h1 h2=>WL.sound aa ?_
 refine ab @f_ ?_;refine WC.jm [8] [0,6,7] (fun j:Nat=>[mi j]) (fun j O'=>(O.push (.cells (s.map gj))).Ge O'/\j<=s.length/\(s.take j).all mu=true) (fun j=>s.length - j) (0) ?_ ?_
 ·exact⟨VH.Ge.refl _,adZ _,rfl⟩
 rintro j O2 ⟨pY,hj,jV⟩;have xY:=(pY.hp O.N (ajo _)).trans xX;by_cases h2:j<s.length
 ·have pJ:=Zk h2;have gY:(s.take (j+1)).all mu=mu s[j]:=by rw[dz _ _ h2,List.all_append,jV];simp
  have dF:mu s[j]=false->fw s=false:=fun h=>by
   unfold fw;rw[List.all_eq_false.2 ⟨s[j],ajk h2,by simp[h]⟩];rfl
  generalize s[j]=c at*;refine aG @f_ @pJ @xY ?_;refine ah.rt (Xr c _) ?_;rintro _ O3 ⟨rfl,rfl⟩;cases hb:mu c
  ·rw[dF hb];refine ab @f_ ?_;exact AS.trans pY
  ·refine ab @f_ ?_;exact az.N (j+1) ⟨pY,by omega,gY.trans hb⟩
 ·obtain rfl:j=s.length:=by omega
  rw[ahJ]at jV;unfold fw;rw[jV];by_cases h0:1<=s.length
  ·by_cases FK:s.length<=64
   ·rw[decide_eq_true h0,decide_eq_true FK];refine ab @f_ ?_;exact AS.trans pY
   ·rw[decide_eq_true h0,decide_eq_false FK];refine ab @f_ ?_;exact AS.trans pY
  ·rw[decide_eq_false h0];refine ab @f_ ?_;exact AS.trans pY
set_option linter.defProp false in
def pK:=Qn f_<|Qn AO<|Qn C9 Xj
structure Gv where
 g:Bs
 a:Bs
 v:Bs
 deriving DecidableEq
def bZ (x:Gv):List MV:=[.str x.g,.str x.a,.str x.v]
structure gx where
 g:Bs
 a:Bs
 deriving DecidableEq
def cn (x:gx):List MV:=[.str x.g,.str x.a]
structure Ky where
 g:Bs
 a:Bs
 t:Bs
 c:Bs
 deriving DecidableEq
def gR (x:Ky):List MV:=[.str x.g,.str x.a,.str x.t,.str x.c]
def AT (x:Gv):Bool:=fw x.g&&fw x.a&&vY x.v
theorem Xs (x:Gv) (O:VH) (h1:x.g.length<=maxLen) (h2:x.a.length<=maxLen) (h3:x.v.length<=maxLen):VF Tryz.prog 51 [.agg (bZ x)] O (aD fun m O'=>m=mb (AT x)/\O.Ge O'):=by
 obtain⟨g,a,v⟩:=x;dsimp only at h1 h2 h3;unfold AT bZ;dsimp only;have hk:=Ξ O (.cells [.str g,.str a,.str v]);have mT:=(VH.Ge.refl O).push (.cells [.str g,.str a,.str v]);have hn0:O.N<(O.push (.cells [.str g,.str a,.str v])).N:=ajo _;refine Δ 16 [.tmp 2] Tryz.func51 ?_;refine ao @pK @hk ?_;generalize O.push (.cells [.str g,.str a,.str v])=O1 at*;refine ah.rt (uc g _ h1) ?_;rintro _ O2 ⟨rfl,aB⟩;have eZ:=aB.N;cases fw g
 ·refine ab @pK ?_;exact mT.trans aB
 ·refine aG @pK @hk aB.hp ?_;refine ah.rt (uc a _ h2) ?_;rintro _ O3 ⟨rfl,aH⟩;have gy:=aH.N;cases fw a
  ·refine ab @pK ?_;exact mT.trans (aB.trans aH)
  ·refine cR @pK @hk aB.hp aH.hp ?_;refine ah.rt (Ry v _ h3) ?_;rintro _ O4 ⟨rfl,aY⟩;refine ab @pK ?_;exact mT.trans (aB.trans (aH.trans aY))
def xA (s:Bs):Bool:=s==[42]||fw s
theorem I2 (s:Bs) (O:VH) (hs:s.length<=maxLen):VF Tryz.prog 324 [.str s] O (aD fun m O'=>m=mb (xA s)/\O.Ge O'):=by
 unfold xA;refine Δ 9 [.tmp 2] Tryz.func324 ?_;cases h:s==[42]
 ·refine ao @pK @h ?_;refine ah.rt (uc s _ hs) ?_;rintro _ O2 ⟨rfl,aB⟩;refine ab @pK ?_;exact aB
 ·refine ao @pK @h ?_;exact VH.Ge.refl _
def AU (x:gx):Bool:=xA x.g&&xA x.a
theorem HL (x:gx) (O:VH) (h1:x.g.length<=maxLen) (h2:x.a.length<=maxLen):VF Tryz.prog 319 [.agg (cn x)] O (aD fun m O'=>m=mb (AU x)/\O.Ge O'):=by
 obtain⟨g,a⟩:=x;dsimp only at h1 h2;unfold AU cn;dsimp only;have hk:=Ξ O (.cells [.str g,.str a]);have mT:=(VH.Ge.refl O).push (.cells [.str g,.str a]);have hn0:O.N<(O.push (.cells [.str g,.str a])).N:=ajo _;refine Δ 11 [.tmp 2] Tryz.func319 ?_;refine ao @pK @hk ?_;generalize O.push (.cells [.str g,.str a])=O1 at*;refine ah.rt (I2 g _ h1) ?_;rintro _ O2 ⟨rfl,aB⟩;have eZ:=aB.N;cases xA g
 ·refine ab @pK ?_;exact mT.trans aB
 ·refine aG @pK @hk aB.hp ?_;refine ah.rt (I2 a _ h2) ?_;rintro _ O3 ⟨rfl,aH⟩;refine ab @pK ?_;exact mT.trans (aB.trans aH)
def Db (p x:gx):Bool:=(p.g==[42]||p.g==x.g)&&(p.a==[42]||p.a==x.a)
theorem RE (p x:gx) (O:VH):VF Tryz.prog 112 [.agg (cn p),.agg (cn x)] O (aD fun m O'=>m=mb (Db p x)/\O.Ge O'):=by
 obtain⟨g,a⟩:=p;obtain⟨g',a'⟩:=x;unfold Db cn;dsimp only;have mT:=((VH.Ge.refl O).push (.cells [.str g,.str a])).push (.cells [.str g',.str a']);refine Δ 27 [.tmp 4] Tryz.func112 ?_;cases h1:g==[42]<;>cases h2:g==g'<;>cases h3:a==[42]<;>cases h4:a==a'
 all_goals
  refine iN @pK @h1 @h2 @h3 @h4 ?_;exact mT
def fJ (n:Int):Bs:=if n=1 then[99,111,109,112,105,108,101]else if n=2 then[114,117,110,116,105,109,101]else if n=3 then[112,114,111,118,105,100,101,100]else if n=4 then[115,121,115,116,101,109]else if n=5 then[116,101,115,116]else if n=6 then[105,109,112,111,114,116]else[]
theorem Ui (n:Int) (O:VH):VF Tryz.prog 74 [mi n] O (aD fun m O'=>m= .str (fJ n)/\O'=O):=by
 unfold fJ;refine Δ 16 [.tmp 2] Tryz.func74 ?_;by_cases h1:n=1
 ·refine ab @pK ?_;simp[h1]
 by_cases h2:n=2
 ·refine ab @pK ?_;simp[h1,h2]
 by_cases h3:n=3
 ·refine ab @pK ?_;simp[h1,h2,h3]
 by_cases h4:n=4
 ·refine ab @pK ?_;simp[h1,h2,h3,h4]
 by_cases h5:n=5
 ·refine ab @pK ?_;simp[h1,h2,h3,h4,h5]
 by_cases h6:n=6
 ·refine ab @pK ?_;simp[h1,h2,h3,h4,h5,h6]
 rw[if_neg h1,if_neg h2,if_neg h3,if_neg h4,if_neg h5,if_neg h6];exact fU @pK
def NM (o i:Int):Int:=if ¬(o=1\/o=2\/o=3\/o=5)then 0 else if i≠1/\i≠2 then 0 else if o=1 then i else o
theorem Xt (o i:Int) (O:VH):VF Tryz.prog 141 [mi o,mi i] O (aD fun m O'=>m=mi (NM o i)/\O'=O):=by
 refine Δ 23 [.tmp 4] Tryz.func141 ?_;rcases(show o=1\/o=2\/o=3\/o=5\/(o≠1/\o≠2/\o≠3/\o≠5)from by omega)with h | h | h | h | h
 rotate_right
 ·rw[show NM o i=0 by simp[NM,h]];obtain⟨h1,h2,h3,h4⟩:=h;exact fU @pK
 all_goals
  subst h;rcases(show i=1\/i=2\/(i≠1/\i≠2)from by omega)with h | h | h
 all_goals
  refine ab @pK ?_;simp[NM,h]
def Tok.id:Tok->Option Nat
 | .own t _=>some t
 | _=>none
structure b_ (tk:Tok) (O O':VH):Prop where
 N:O.N<=O'.N
 hp:∀i,i<O.N->Tok.id tk≠some i->O'.hp i=O.hp i
def DK (O:VH) (tk tk':Tok):Prop:=tk'=tk\/∀i,Tok.id tk'=some i->O.N<=i
section
variable {O O0 O1 O2:VH} {tk t1 t2 w:Tok} {B sz:Nat}
theorem VH.Ge.k (h:O.Ge O1):b_ tk O O1:=⟨h.N,fun i hi _=>h.hp i hi⟩
theorem b_.refl:b_ tk O O:=⟨Zj _,fun _ _ _=>rfl⟩
theorem DK.refl:DK O tk tk:=.inl rfl
theorem b_.trans (h:b_ tk O O1) (hn:DK O tk t1) (k:b_ t1 O1 O2):b_ tk O O2:=⟨Vq h.N k.N,fun i hi hne=>by
 have:Tok.id t1≠some i:=fun e=>by
  rcases hn with rfl | hn
  ·exact hne e
  ·have:=hn i e;omega
 rw[k.hp i (agc hi h.N) this,h.hp i hi hne]⟩
theorem b_.ge (h:b_ tk O O1) (k:O1.Ge O2):b_ tk O O2:=⟨Vq h.N k.N,fun i hi hne=>by rw[k.hp i (agc hi h.N),h.hp i hi hne]⟩
theorem b_.pre (h:O.Ge O1) (k:b_ tk O1 O2):b_ tk O O2:=⟨Vq h.N k.N,fun i hi hne=>by rw[k.hp i (agc hi h.N) hne,h.hp i hi]⟩
theorem DK.trans (h:DK O tk t1) (hle:O.N<=O1.N) (k:DK O1 t1 t2):DK O tk t2:=by
 rcases k with rfl | k
 ·exact h
 ·exact .inr fun i e=>Vq hle (k i e)
theorem App.nD (h:App O B sz tk) {i:Nat} (e:Tok.id tk=some i):B<=i/\i<O.N:=by
 cases tk with
 | own t k=>injection e with e;subst e;exact h.2.2
 | _=>cases e
theorem b_.app (h:b_ tk O O1) (hw:App O B sz w) (hne:∀i,Tok.id tk=some i->Tok.id w≠some i):App O1 B sz w:=by
 cases w with
 | own t j=>
   obtain⟨h1,h2,h3,h4⟩:=hw;refine⟨h1,?_,h3,agc h4 h.N⟩;rw[h.hp t h4 (fun e=>hne t e rfl)];exact h2
 | nil=>trivial
 | full=>trivial
 | au=>exact hw.elim
theorem b_.after (h:App O B sz tk):b_ tk O (O.after tk):=⟨by rw[VH.dZ];omega,fun i hi hne=>by
 cases tk with
 | own t k=>exact(Υ (O.kill t) _ hi).trans (VH.lh _ (fun e=>hne (by rw[e];rfl)))
 | _=>exact Υ _ _ hi⟩
theorem DK.after:DK O tk (.own O.N sz):=.inr fun i e=>by injection e with e;omega
theorem b_.en (hg:O0.Ge O) (ha:App O O0.N sz tk) (k:b_ tk O O1):O0.Ge O1:=⟨Vq hg.N k.N,fun i hi=>by
 rw[k.hp i (agc hi hg.N) (fun e=>by have:=(ha.nD e).1;omega),hg.hp i hi]⟩
theorem b_.B9 (ha:App O O.N sz tk) (k:b_ tk O O1):O.Ge O1:=b_.en (VH.Ge.refl O) ha k
theorem App.ge (h:App O B sz tk) (k:O.Ge O1):App O1 B sz tk:=b_.app (tk:=.nil) (k.k) h (fun _ e=>by cases e)
theorem App.nil:App O B sz .nil:=trivial
end
theorem gG {tab:cj} {O:VH} {t el:TypeId} {u:TypeDesc} {a b sz ZK:Nat} {z y:List MV} (h:tab t=some ⟨.slice el,a,b,z⟩) (h2:tab el=some ⟨u,sz,ZK,y⟩) {B n:Nat} {cs ds es:List MV} {tk:Tok} (ha:App O B sz tk)
  (hc:cs.length=n*sz) (hd:ds.length=sz) (hl:ds.all ec=true) (hs:0<sz) (hb:(n+1)*ZK<=140737488355328) (hm:n+1<=maxLen) (gq:c7 cs=cs) (r9:c7 ds=es):
  ∃m,iy tab O t (.sl n cs tk) (.sl 1 ds .full)=some (m,O.after tk)/\pX m= .sl (n+1) (cs++es) (.own O.N sz):=
 ⟨_,aR (tk':=.full) h h2 ha hc (by rw[hd,Nat.one_mul]) hl hs (by decide) hb hm,by rw[qy,nS,gq,r9]⟩
section
variable {P:Program} {n:Sz} {D:List Deferred} {c:Code} {e:Env} {O:VH} {Q:VQ} {z cs:List MV} {md:Md} {d:Option Tmp} {K:Env->VH->Prop} {fv:Option MV} {ms:Option (List MV)}
def nU (O:VH) (cs:List MV) (O3:VH):Prop:=O.Ge O3/\O3.hp O.N=some (.cells cs)/\O3.N=O.N+1
theorem nU.al:nU O cs ((O.push (.cells z)).set O.N (.cells cs)):=⟨((VH.Ge.refl O).push _).set (Zj _) _,ρ _ _ _,rfl⟩
theorem nU.bx:nU O cs (O.push (.cells cs)):=⟨(VH.Ge.refl O).push _,Ξ _ _,rfl⟩
theorem VC.al (h:∀O3,nU O cs O3->VC P n D c e O3 Q):VC P n D c e ((O.push (.cells z)).set O.N (.cells cs)) Q:=h _ nU.al
theorem VC.bx (h:∀O3,nU O cs O3->VC P n D c e O3 Q):VC P n D c e (O.push (.cells cs)) Q:=h _ nU.bx
theorem ah.bx (h:∀O3,nU O cs O3->ah P n md Q d O3 K e fv ms):ah P n md Q d (O.push (.cells cs)) K e fv ms:=h _ nU.bx
end
theorem List.qF {α :Type} {a b:List α} {k n:Nat} (h:a.length=k):(a++b).drop (k+n)=b.drop n:=by
 rw[<-h, <-List.drop_drop,List.drop_left]
theorem aV {α :Type} {f: α ->List MV} {k:Nat} (hf:∀x,(f x).length=k) (L:List α):(L.flatMap f).length=L.length*k:=by
 induction L with
 | nil=>simp
 | cons x L ih=>rw[ahL,zP,ih,hf,Qm,Nat.succ_mul,Nat.add_comm]
theorem ct {α :Type} {f: α ->List MV} {k:Nat} (hf:∀x,(f x).length=k):∀(L:List α) (i:Nat) (h:i<L.length),((L.flatMap f).drop (i*k)).take k=f L[i]
 | x::L,0,_=>by rw[Nat.zero_mul,List.drop_zero,ahL,List.take_left' (hf x)];rfl
 | x::L,i+1,h=>by
   have:=ct hf L i (by simpa using h);rw[ahL,Nat.succ_mul,Nat.add_comm,List.qF (hf x)];exact this
inductive Nd where
 | mk (name:Bs) (attrs:List (Bs×Bs)) (kids:List Nd) (text:Bs)
def bm (x:Bs×Bs):List MV:=[.str x.1,.str x.2]
mutual
def dK:Nd->List MV
 | .mk n a k t=>[.str n,.sl a.length (a.flatMap bm) .au,.sl k.length (aC k) .au,.str t]
def aC:List Nd->List MV
 | []=>[]
 | x::r=>dK x++aC r
end
theorem eH (L M:List Nd):aC (L++M)=aC L++aC M:=by
 induction L with
 | nil=>rw[adW,aC,adW]
 | cons x L ih=>rw[adY,aC,aC,ih,ajn]
theorem mG (x:Nd):(dK x).length=4:=by cases x;rw[dK];rfl
theorem dA (L:List Nd):(aC L).length=L.length*4:=by
 induction L with
 | nil=>rw[aC];rfl
 | cons x L ih=>rw[aC,zP,mG,ih,Qm];omega
theorem fK (x:Bs×Bs):(bm x).length=2:=rfl
theorem nV (x:gx):(cn x).length=2:=rfl
theorem gH (L:List (Bs×Bs)):c7 (L.flatMap bm)=L.flatMap bm:=j9 (fun x=>by simp only[bm,wu]) L
mutual
theorem AV:∀x,c7 (dK x)=dK x
 | .mk n a k t=>by
   simp only[dK,wu,gH];rw[fq k]
theorem fq:∀L,c7 (aC L)=aC L
 | []=>by rw[aC,IU]
 | x::r=>by rw[aC,nS,AV x,fq r]
end
structure Dp where
 g:Bs
 a:Bs
 v:Bs
 t:Bs
 c:Bs
 s:Int
 o:Int
 x:List gx
 deriving DecidableEq
def aU (d:Dp):List MV:=[.str d.g,.str d.a,.str d.v,.str d.t,.str d.c,mi d.s,mi d.o,.sl d.x.length (d.x.flatMap cn) .au]
theorem gT (x:Dp):(aU x).length=8:=rfl
structure Pm where
 hp:Bool
 par:Gv
 g:Bs
 a:Bs
 v:Bs
 pk:Bs
 props:List (Bs×Bs)
 eT:List Dp
 eK:List Dp
 deriving DecidableEq
def gU (p:Pm):List MV:=[mb p.hp,.str p.par.g,.str p.par.a,.str p.par.v,.str p.g,.str p.a,.str p.v,.str p.pk,.sl p.props.length (p.props.flatMap bm) .au,.sl p.eT.length (p.eT.flatMap aU) .au,.sl p.eK.length (p.eK.flatMap aU) .au]
theorem nW (L:List gx):c7 (L.flatMap cn)=L.flatMap cn:=j9 (fun x=>by simp only[cn,wu]) L
theorem lO (L:List Dp):c7 (L.flatMap aU)=L.flatMap aU:=j9 (fun x=>by simp only[aU,aq,wu,nW]) L
theorem Xu (p:Pm):c7 (gU p)=gU p:=by simp only[gU,bw,wu,gH,lO]
set_option linter.defProp false in
def gN:=Qn pK<|Qn DJ<|Qn vX<|Qn B7<|Qn FE<|Qn FD T90
def fh (O:VH) (B sz:Nat) (tk:Tok) (O':VH) (tk':Tok):Prop:=b_ tk O O'/\App O' B sz tk'/\DK O tk tk'
theorem fh.refl {O:VH} {B sz:Nat} {tk:Tok} (h:App O B sz tk):fh O B sz tk O tk:=⟨b_.refl,h,DK.refl⟩
theorem fh.trans {O O1 O2:VH} {B sz:Nat} {tk t1 t2:Tok} (h:fh O B sz tk O1 t1) (k:fh O1 B sz t1 O2 t2):fh O B sz tk O2 t2:=
 ⟨h.1.trans h.2.2 k.1,k.2.1,h.2.2.trans h.1.N k.2.2⟩
theorem fh.after {O:VH} {B sz:Nat} {tk:Tok} (h:App O B sz tk) (hB:B<=O.N):fh O B sz tk (O.after tk) (.own O.N sz):=⟨b_.after h,App.after hB,DK.after⟩
theorem fh.ge {O O1 O2:VH} {B sz:Nat} {tk t1:Tok} (h:fh O B sz tk O1 t1) (k:O1.Ge O2):fh O B sz tk O2 t1:=⟨h.1.ge k,h.2.1.ge k,h.2.2⟩
theorem fh.pre {O O1 O2:VH} {B sz:Nat} {tk t1:Tok} (g:O.Ge O1) (h:fh O1 B sz tk O2 t1):fh O B sz tk O2 t1:=⟨b_.pre g h.1,h.2.1,h.2.2.elim .inl fun k=>.inr fun i e=>Vq g.N (k i e)⟩
theorem fh.en {O O1:VH} {sz:Nat} {tk t1:Tok} (ha:App O O.N sz tk) (h:fh O O.N sz tk O1 t1):O.Ge O1:=b_.B9 ha h.1
theorem App.less {O:VH} {B B' sz:Nat} {tk:Tok} (h:App O B sz tk) (hB:B'<=B):App O B' sz tk:=by
 cases tk with
 | own t k=>exact⟨h.1,h.2.1,Vq hB h.2.2.1,h.2.2.2⟩
 | nil=>trivial
 | full=>trivial
 | au=>exact h.elim
theorem App.set {O:VH} {B sz k:Nat} {tk:Tok} {x:cg} {cs:List MV} (h:App O B sz tk) (hk:O.hp k=some (.cells cs)):App (O.set k x) B sz tk:=by
 cases tk with
 | own t j=>exact⟨h.1,(π _ _ (fun e=>by subst e;rw[h.2.1]at hk;cases hk)).trans h.2.1,h.2.2.1,h.2.2.2⟩
 | nil=>trivial
 | full=>trivial
 | au=>exact h.elim
theorem fh.fresh {O O1 O2:VH} {sz:Nat} {t1:Tok} (g:O.Ge O1) (h:fh O1 O1.N sz .nil O2 t1):fh O O.N sz .nil O2 t1:=
 ⟨b_.pre g h.1,h.2.1.less g.N,h.2.2.elim .inl fun k=>.inr fun i e=>Vq g.N (k i e)⟩
def cy (L:List Nd) (n t:Bs):List Nd:=if t=[]then L else L++[.mk n [] [.mk [] [] [] t] []]
theorem dL (L:List Nd) (n t:Bs):(cy L n t).length<=L.length+1:=by unfold cy;split<;>simp
theorem gI {O:VH} {B:Nat} (L:List Nd) (tk:Tok) (n t:Bs) (ha:App O B 4 tk) (hB:B<=O.N) (hL:L.length<=100000):VF Tryz.prog 60 [.sl L.length (aC L) tk,.str n,.str t] O (aD fun m O'=>∃tk',m= .sl (cy L n t).length (aC (cy L n t)) tk'/\fh O B 4 tk O' tk'):=by
 refine VF.fg ?_;refine Δ 18 [.tmp 6] Tryz.func60 ?_;unfold cy;cases t with
 | nil=>
   refine aG @gN (show(([]:List UInt8)==[])=true from rfl) @fq ?_;exact⟨tk,rfl,fh.refl ha⟩
 | cons c t=>
   refine ao @gN (show((c::t)==[])=false from rfl) ?_;have cf:=aR (tk':=.full) (n:=L.length) (k:=1) (cs:=aC L) (ds:=[.str n,.sl 0 [] .nil,.sl 1 [.str [],.sl 0 [] .nil,.sl 0 [] .nil,.str (c::t)] .full,.str []]) vX DJ.1.1 ha (dA L) rfl rfl (by decide) (by decide) (by omega) (by simp only[maxLen];omega);refine VL.app cf ?_;refine ao @gN @fq ?_;rw[if_neg (by simp)];refine⟨_,?_,fh.after ha hB⟩;rw[eH];simp only[aC,dK,ajp,adX,zP,Qm,Ma,am5]
def j_ (L:List Nd) (n:Bs) (K:List Nd):List Nd:=if K=[]then L else L++[.mk n [] K []]
theorem qG (L:List Nd) (n:Bs) (K:List Nd):(j_ L n K).length<=L.length+1:=by unfold j_;split<;>simp
theorem sK {O:VH} {B:Nat} (L:List Nd) (tk:Tok) (n:Bs) (K:List Nd) (tK:Tok) (ha:App O B 4 tk) (hB:B<=O.N) (hL:L.length<=100000) (hK:K.length<=100000):VF Tryz.prog 59 [.sl L.length (aC L) tk,.str n,.sl K.length (aC K) tK] O (aD fun m O'=>∃tk',m= .sl (j_ L n K).length (aC (j_ L n K)) tk'/\fh O B 4 tk O' tk'):=by
 refine VF.fg ?_;refine Δ 17 [.tmp 6] Tryz.func59 ?_;unfold j_;by_cases h:K=[]
 ·subst h;refine aG @gN @fq @Ma.{0} ?_;exact⟨tk,rfl,fh.refl ha⟩
 ·have h0:0<K.length:=List.length_pos_iff.2 h;refine ab @gN ?_;have cf:=aR (tk':=.full) (n:=L.length) (k:=1) (cs:=aC L) (ds:=[.str n,.sl 0 [] .nil,.sl K.length (aC K) tK,.str []]) vX DJ.1.1 ha (dA L) rfl rfl (by decide) (by decide) (by omega) (by simp only[maxLen];omega);refine VL.app cf ?_;refine ao @gN @fq ?_;rw[if_neg h];refine⟨_,?_,fh.after ha hB⟩;rw[eH];simp only[aC,dK,ajp,adX,zP,Qm,Ma,am5]
abbrev eE:Bs:=[103,114,111,117,112,73,100]
abbrev eo:Bs:=[97,114,116,105,102,97,99,116,73,100]
abbrev fS:Bs:=[118,101,114,115,105,111,110]
abbrev AW:Bs:=[116,121,112,101]
abbrev AX:Bs:=[99,108,97,115,115,105,102,105,101,114]
abbrev rM:Bs:=[115,99,111,112,101]
abbrev nh:Bs:=[111,112,116,105,111,110,97,108]
abbrev kM:Bs:=[116,114,117,101]
abbrev lP:Bs:=[102,97,108,115,101]
abbrev uO:Bs:=[101,120,99,108,117,115,105,111,110]
abbrev mw:Bs:=[101,120,99,108,117,115,105,111,110,115]
abbrev mc:Bs:=[100,101,112,101,110,100,101,110,99,121]
abbrev my:Bs:=[100,101,112,101,110,100,101,110,99,105,101,115]
def ig (i:gx):Nd:=.mk uO [] (cy (cy [] eE i.g) eo i.a) []
def zB (d:Dp):List Nd:=
 let k:=cy (cy (cy (cy (cy (cy [] eE d.g) eo d.a) fS d.v) AW d.t) AX d.c) rM (fJ d.s)
 if d.o=1 then cy k nh kM else if d.o=2 then cy k nh lP else k
def fx (d:Dp):Nd:=.mk mc [] (j_ (zB d) mw (d.x.map ig)) []
def oU (L:List Nd) (D:List Dp):List Nd:=j_ L my (D.map fx)
theorem AY {O:VH} {B:Nat} (L:List Nd) (tl:Tok) (D:List Dp) (tD:Tok) (ha:App O B 4 tl) (hB:B<=O.N) (hL:L.length<=10000) (hD:D.length<=10000) (hx:∀d∈D,d.x.length<=10000):VF Tryz.prog 61 [.sl L.length (aC L) tl,.sl D.length (D.flatMap aU) tD] O (aD fun m O'=>∃tk',m= .sl (oU L D).length (aC (oU L D)) tk'/\fh O B 4 tl O' tk'):=by
 refine VF.fg ?_;have hlen:=aV gT D;refine υ 82 [.tmp 4] Tryz.func61 ?_;refine κ @gN ?_;refine κ @gN ?_;refine VC.join aa [0,5] (fun tk:Tok=>[.sl L.length (aC L) tl,.sl (D.map fx).length (aC (D.map fx)) tk]) (fun tk O'=>O.Ge O') ?_ ?_;rotate_left
 ·intro tk O9 bj;refine ab @gN ?_;refine ah.rt (sK L tl my (D.map fx) tk (ha.ge bj) (Vq hB bj.N) (by omega) (by rw[ajv];omega)) ?_;rintro _ Oz ⟨tz,rfl,gz⟩;refine ao @gN @fq ?_;exact⟨tz,rfl,fh.pre bj gz⟩
 refine κ @gN ?_;refine τ ?_;refine Γ [5,14] [0,12,13] (fun x:Nat×Tok=>[.sl ((D.take x.1).map fx).length (aC ((D.take x.1).map fx)) x.2,mi x.1]) (fun x O'=>O.Ge O'/\App O' O.N 4 x.2/\x.1<=D.length) (fun x=>D.length - x.1) ((0,.nil)) ?_ ?_
 ·exact⟨VH.Ge.refl _,trivial,adZ _⟩
 rintro⟨j,ta⟩ O2 ⟨aB,cf,hj⟩;dsimp only at cf hj ⊢;by_cases h2:j<D.length;rotate_left
 ·obtain rfl:j=D.length:=by omega
  rw[ahJ];refine ν @gN ?_;exact aA.mk ta aB
 have bG:=ct gT D j h2;have gY:(D.take (j+1)).map fx=(D.take j).map fx++[fx D[j]]:=by rw[dz _ _ h2,anh];rfl
 have DL:=hx D[j] (ajk h2);have hAl:((D.take j).map fx).length<=10000:=by rw[ajv,ahK];omega
 generalize D[j]=d at*;generalize (D.take j).map fx=A at*;obtain⟨g,a,v,t,c,s,o,X⟩:=d;dsimp only at DL;simp only[aU]at bG;refine κ @gN ?_;refine κ @gN ?_;refine χ (τ ?_);refine ξ @gN @bG ?_;refine VC.al ?_;rintro O3 ⟨aH,hk,gy⟩;have h0:fh O3 O3.N 4 .nil O3 .nil:=fh.refl App.nil;refine κ @gN ?_;refine ξ @gN @hk ?_;refine ah.rt (gI [] _ eE g h0.2.1 h0.1.N (by first | omega | simp)) ?_;rintro _ OA ⟨t1,rfl,gw⟩;have h1:=h0.trans gw;have l1:=dL [] eE g;clear gw;generalize eK1:cy [] eE g=K1 at*;have iT:=(fh.en App.nil h1).hp;have hn:=h1.1.N;try simp only[Ma]at l1
 refine ab @gN ?_;refine θ (aG @gN @hk @iT ?_);refine ah.rt (gI K1 _ eo a h1.2.1 h1.1.N (by first | omega | simp)) ?_;rintro _ OB ⟨t2,rfl,gw⟩;have NN:=h1.trans gw;have l2:=dL K1 eo a;clear gw;generalize eK2:cy K1 eo a=K2 at*;have iT:=(fh.en App.nil NN).hp;have hn:=NN.1.N;try simp only[Ma]at l2
 refine ab @gN ?_;refine θ (aG @gN @hk @iT ?_);refine ah.rt (gI K2 _ fS v NN.2.1 NN.1.N (by first | omega | simp)) ?_;rintro _ OC ⟨t3,rfl,gw⟩;have h3:=NN.trans gw;have l3:=dL K2 fS v;clear gw;generalize eK3:cy K2 fS v=K3 at*;have iT:=(fh.en App.nil h3).hp;have hn:=h3.1.N;try simp only[Ma]at l3
 refine ab @gN ?_;refine θ (aG @gN @hk @iT ?_);refine ah.rt (gI K3 _ AW t h3.2.1 h3.1.N (by first | omega | simp)) ?_;rintro _ OD ⟨t4,rfl,gw⟩;have h4:=h3.trans gw;have l4:=dL K3 AW t;clear gw;generalize eK4:cy K3 AW t=K4 at*;have iT:=(fh.en App.nil h4).hp;have hn:=h4.1.N;try simp only[Ma]at l4
 refine ab @gN ?_;refine θ (aG @gN @hk @iT ?_);refine ah.rt (gI K4 _ AX c h4.2.1 h4.1.N (by first | omega | simp)) ?_;rintro _ OE ⟨t5,rfl,gw⟩;have h5:=h4.trans gw;have l5:=dL K4 AX c;clear gw;generalize eK5:cy K4 AX c=K5 at*;have iT:=(fh.en App.nil h5).hp;have hn:=h5.1.N;try simp only[Ma]at l5
 refine ab @gN ?_;refine θ (aG @gN @hk @iT ?_);refine ah.rt (Ui s _) ?_;rintro _ OF ⟨rfl,rfl⟩;refine ab @gN ?_;refine ah.rt (gI K5 _ rM (fJ s) h5.2.1 h5.1.N (by first | omega | simp)) ?_;rintro _ OG ⟨t6,rfl,gw⟩;have h6:=h5.trans gw;have l6:=dL K5 rM (fJ s);clear gw;generalize eK6:cy K5 rM (fJ s)=K6 at*;have iT:=(fh.en App.nil h6).hp;have hn:=h6.1.N;try simp only[Ma]at l6
 refine ab @gN ?_;have hK:zB ⟨g,a,v,t,c,s,o,X⟩=if o=1 then cy K6 nh kM else if o=2 then cy K6 nh lP else K6:=by rw[<-eK6, <-eK5, <-eK4, <-eK3, <-eK2, <-eK1];rfl
 clear eK6 eK5 eK4 eK3 eK2 eK1;have hl7:=dL K6 nh kM;have KO:=dL K6 nh lP;refine VC.join aa [0,5,7,8,9,12,13,14] (fun tk:Tok=>[.sl L.length (aC L) tl,.sl A.length (aC A) ta,.ptr O2.N 0,.sl (zB ⟨g,a,v,t,c,s,o,X⟩).length (aC (zB ⟨g,a,v,t,c,s,o,X⟩)) tk,.sl 0 [] .nil,.sl D.length (D.flatMap aU) tD,mi D.length,mi j]) (fun tk O'=>fh O3 O3.N 4 .nil O' tk) ?_ ?_
 ·refine θ (aG @gN @hk @iT ?_);refine τ ?_;by_cases ho1:o=1
  ·rw[hK,if_pos ho1];refine ν @gN ?_;refine ah.rt (gI K6 _ nh kM h6.2.1 h6.1.N (by first | omega | simp)) ?_;rintro _ OH ⟨t7,rfl,gw⟩;have h7:=h6.trans gw;have l7:=dL K6 nh kM;clear gw;generalize eK7:cy K6 nh kM=K7 at*;have iT:=(fh.en App.nil h7).hp;have hn:=h7.1.N;try simp only[Ma]at l7
   refine ab @gN ?_;exact aA.mk t7 h7
  ·rw[hK,if_neg ho1];by_cases ho2:o=2
   ·rw[if_pos ho2];refine ν @gN ?_;refine ah.rt (gI K6 _ nh lP h6.2.1 h6.1.N (by first | omega | simp)) ?_;rintro _ OH ⟨t7,rfl,gw⟩;have h7:=h6.trans gw;have l7:=dL K6 nh lP;clear gw;generalize eK7:cy K6 nh lP=K7 at*;have iT:=(fh.en App.nil h7).hp;have hn:=h7.1.N;try simp only[Ma]at l7
    refine ab @gN ?_;exact aA.mk t7 h7
   ·rw[if_neg ho2];refine ν @gN ?_;exact aA.mk t6 h6
 have hKl:(zB ⟨g,a,v,t,c,s,o,X⟩).length<=7:=by rw[hK];split<;>first | omega | (split<;>omega)
 intro tk O4 h7;generalize hKd:zB ⟨g,a,v,t,c,s,o,X⟩=K at*;clear hK hl7 KO h6 iT hn;have iT:=(fh.en App.nil h7).hp;have hn:=h7.1.N;refine aG @gN @hk @iT ?_;refine VC.zw [0,5,8,9,12,13,14] (fun tx:Tok=>[.sl L.length (aC L) tl,.sl A.length (aC A) ta,.sl K.length (aC K) tk,.sl (X.map ig).length (aC (X.map ig)) tx,.sl D.length (D.flatMap aU) tD,mi D.length,mi j]) (fun tx O'=>O4.Ge O') ?_ ?_
 ·have HM:=aV nV X;refine WC.jm [9,56] [0,5,8,12,13,14,54,55] (fun x:Nat×Tok=>[.sl ((X.take x.1).map ig).length (aC ((X.take x.1).map ig)) x.2,mi x.1]) (fun x O'=>O4.Ge O'/\App O' O4.N 4 x.2/\x.1<=X.length) (fun x=>X.length - x.1) ((0,.nil)) ?_ ?_
  ·exact⟨VH.Ge.refl _,trivial,adZ _⟩
  rintro⟨i,tx⟩ O5 ⟨bD,pI,hi⟩;dsimp only at pI hi ⊢;by_cases ei:i<X.length;rotate_left
  ·obtain rfl:i=X.length:=by omega
   rw[ahJ];refine ab @gN ?_;exact aA.mk tx bD
  have hxt:=ct nV X i ei;have hsx:(X.take (i+1)).map ig=(X.take i).map ig++[ig X[i]]:=by rw[dz _ _ ei,anh];rfl
  have HN:((X.take i).map ig).length<=10000:=by rw[ajv,ahK];omega
  generalize X[i]=y at*;generalize (X.take i).map ig=E at*;obtain⟨yg,ya⟩:=y;simp only[cn]at hxt;refine ao @gN @hxt ?_;refine VC.al ?_;rintro O6 ⟨fi,nE,mU⟩;refine VC.nP [9,10] ?_;refine ae.ar 0 ?_;refine ab @gN ?_;refine ae.ar 1 ?_;refine ab @gN ?_;refine ae.ar 4 ?_;refine ab @gN ?_;refine ae.ld (m:=.str yg) 2 ?_ ?_
  ·exact dX @gN @nE
  simp only[ak];refine ae.ld (m:=.str ya) 5 ?_ ?_
  ·exact dX @gN @nE
  simp only[ak];refine ae.call (i:=3) (gI [] .nil eE yg (App.nil (B:=O6.N)) (Zj _) (by simp)) ?_;rintro _ O7 ⟨t7,rfl,g7⟩;simp only[ak];have l7:=dL [] eE yg;generalize e7:cy [] eE yg=E1 at*;simp only[Ma]at l7;refine⟨fh.en App.nil g7,?_⟩;refine ae.call (i:=6) (gI E1 t7 eo ya g7.2.1 g7.1.N (by omega)) ?_;rintro _ O8 ⟨t8,rfl,g8⟩;simp only[ak];have l8:=dL E1 eo ya;have he:ig ⟨yg,ya⟩= .mk uO [] (cy E1 eo ya) []:=by rw[<-e7];rfl
  generalize cy E1 eo ya=E2 at*;have h8:=fh.en App.nil (g7.trans g8);refine⟨h8,?_⟩;refine ae.ar 7 ?_;refine ab @gN ?_;refine ae.op (i:=8) ?_;refine ab @gN ?_;refine⟨h8,?_⟩;refine ae.bP [(9,.one),(10,.ar)] ?_;have fV:=fi.trans h8;have aba:=pI.ge fV;refine ab @gN ?_;obtain⟨mE,gV,lQ⟩:=gG (n:=E.length) (cs:=aC E) (ds:=[.str uO,.sl 0 [] .nil,.sl E2.length (aC E2) t8,.str []]) (es:=dK (ig ⟨yg,ya⟩)) vX DJ.1.1 aba (dA E) rfl rfl (by decide) (by omega) (by simp only[maxLen];omega) (fq E) (by rw[he];simp only[wu,fq,dK];rfl);refine η gV lQ ?_;refine ab @gN ?_;exact az.N (i+1,.own O8.N 4) ⟨b_.en (bD.trans fV) aba (b_.after aba),App.after (Vq bD.N fV.N),ei⟩ (hl:=(by dsimp only;rw[hsx,eH,zP,aC,aC,adX];rfl))
 intro tx O5 bD;have h5:=h7.ge bD;refine ab @gN ?_;refine ah.rt (sK K tk mw (X.map ig) tx h5.2.1 h5.1.N (by omega) (by rw[ajv];omega)) ?_;rintro _ O6 ⟨tb,rfl,g6⟩;have h6:=h5.trans g6;have vZ:=qG K mw (X.map ig);have xV:fx ⟨g,a,v,t,c,s,o,X⟩= .mk mc [] (j_ K mw (X.map ig)) []:=by rw[<-hKd];rfl
 generalize j_ K mw (X.map ig)=K9 at*;have abb:=aH.trans (fh.en App.nil h6);have mH:=cf.ge abb;refine ab @gN ?_;obtain⟨mE,gV,lQ⟩:=gG (n:=A.length) (cs:=aC A) (ds:=[.str mc,.sl 0 [] .nil,.sl K9.length (aC K9) tb,.str []]) (es:=dK (fx ⟨g,a,v,t,c,s,o,X⟩)) vX DJ.1.1 mH (dA A) rfl rfl (by decide) (by omega) (by simp only[maxLen];omega) (fq A) (by rw[xV];simp only[wu,fq,dK];rfl);refine η gV lQ ?_;refine ab @gN ?_;refine ν @gN ?_;exact az.N (j+1,.own O6.N 4) ⟨b_.en (aB.trans abb) mH (b_.after mH),App.after (Vq aB.N abb.N),h2⟩ (hl:=(by dsimp only;rw[gY,eH,zP,aC,aC,adX];rfl))
set_option linter.defProp false in
def eu:=Qn gN<|Qn T86<|Qn KG C_
abbrev v7:Bs:=[112,97,114,101,110,116]
abbrev yB:Bs:=[112,97,99,107,97,103,105,110,103]
abbrev lR:Bs:=[112,114,111,112,101,114,116,105,101,115]
abbrev sL:Bs:=[100,101,112,101,110,100,101,110,99,121,77,97,110,97,103,101,109,101,110,116]
abbrev gZ:Bs:=[112,114,111,106,101,99,116]
def FO (p:Pm):List Nd:=if p.hp then j_ [] v7 (cy (cy (cy [] eE p.par.g) eo p.par.a) fS p.par.v)else[]
def KP (p:Pm):List Nd:=cy (cy (cy (cy (FO p) eE p.g) eo p.a) fS p.v) yB p.pk
def iF (x:Bs×Bs):Nd:=.mk x.1 [] (if x.2=[]then[]else[.mk [] [] [] x.2]) []
def fX (p:Pm):Nd:=.mk gZ [] (oU (j_ (j_ (KP p) lR (p.props.map iF)) sL (oU [] p.eT)) p.eK) []
theorem NO (L:List Nd) (D:List Dp):(oU L D).length<=L.length+1:=qG _ _ _
theorem abc {O:VH} (p:Pm) (hP:p.props.length<=10000) (hM:p.eT.length<=10000) (hD:p.eK.length<=10000) (hx:∀d∈p.eT++p.eK,d.x.length<=10000):VF Tryz.prog 37 [.agg (gU p)] O (aD fun m O'=>m= .agg (dK (fX p))/\O.Ge O'):=by
 refine VF.fg ?_;obtain⟨hp,⟨pg,pa,pv⟩,g,a,v,pk,P,M,D⟩:=p;dsimp only at hP hM hD hx;have hPl:=aV fK P;simp only[gU];refine υ 76 [.cell 2 93] Tryz.func37 ?_;refine κ @eu ?_;refine VC.bx ?_;rintro O1 ⟨aI,bM,cW⟩;have hk:O1.hp O.N=some (.cells [mb hp,.str pg,.str pa,.str pv,.str g,.str a,.str v,.str pk,.sl P.length (P.flatMap bm) .au,.sl M.length (M.flatMap aU) .au,.sl D.length (D.flatMap aU) .au]):=(aI.hp _ (ajo _)).trans (Ξ _ _)
 replace bM:O1.hp (O.N+1)=some (.cells [.str [],.sl 0 [] .nil,.sl 0 [] .nil,.str []]):=bM
 have o5:=((VH.Ge.refl O).push _).trans aI;have hn0:O1.N=O.N+2:=cW;simp only[bw]at hk;clear aI cW;have h0:fh O1 O1.N 4 .nil O1 .nil:=fh.refl App.nil;refine κ @eu ?_;have dH:(FO ⟨hp,⟨pg,pa,pv⟩,g,a,v,pk,P,M,D⟩).length<=1:=by unfold FO;split;exact qG _ _ _;simp
 have hh:KP ⟨hp,⟨pg,pa,pv⟩,g,a,v,pk,P,M,D⟩=cy (cy (cy (cy (FO ⟨hp,⟨pg,pa,pv⟩,g,a,v,pk,P,M,D⟩) eE g) eo a) fS v) yB pk:=rfl;have hw:fX ⟨hp,⟨pg,pa,pv⟩,g,a,v,pk,P,M,D⟩= .mk gZ [] (oU (j_ (j_ (KP ⟨hp,⟨pg,pa,pv⟩,g,a,v,pk,P,M,D⟩) lR (P.map iF)) sL (oU [] M)) D) []:=rfl;have hpp:FO ⟨hp,⟨pg,pa,pv⟩,g,a,v,pk,P,M,D⟩=if hp then j_ [] v7 (cy (cy (cy [] eE pg) eo pa) fS pv)else[]:=rfl
 rw[hh]at hw;clear hh;generalize fX ⟨hp,⟨pg,pa,pv⟩,g,a,v,pk,P,M,D⟩=W at*;generalize FO ⟨hp,⟨pg,pa,pv⟩,g,a,v,pk,P,M,D⟩=K0 at*;refine Θ [1,2,3,4] (fun tk:Tok=>[.ptr O.N 0,.ptr (O.N+1) 0,.sl K0.length (aC K0) tk,.sl 0 [] .nil]) (fun tk O'=>fh O1 O1.N 4 .nil O' tk) ?_ ?_
 ·cases hp
  ·refine ξ @eu @hk ?_;rw[hpp];refine ν @eu ?_;exact aA.mk .nil h0
  ·refine ξ @eu @hk ?_;rw[hpp];refine ν @eu ?_;refine VC.nP [] ?_;refine ae.ar 0 ?_;refine ab @eu ?_;refine ae.ar 1 ?_;refine ab @eu ?_;refine ae.ar 2 ?_;refine ab @eu ?_;refine ae.ld (m:=.str pg) 3 ?_ ?_
   ·exact dX @eu @hk
   simp only[ak];refine ae.ar 5 ?_;refine ab @eu ?_;refine ae.ar 6 ?_;refine ab @eu ?_;refine ae.ld (m:=.str pa) 7 ?_ ?_
   ·exact dX @eu @hk
   simp only[ak];refine ae.ar 9 ?_;refine ab @eu ?_;refine ae.ar 10 ?_;refine ab @eu ?_;refine ae.ld (m:=.str pv) 11 ?_ ?_
   ·exact dX @eu @hk
   simp only[ak];refine ae.call (i:=4) (gI [] .nil eE pg (App.nil (B:=O1.N)) (Zj _) (by simp)) ?_;rintro _ O2 ⟨t2,rfl,g2⟩;simp only[ak];have l2:=dL [] eE pg;generalize cy [] eE pg=E1 at*;simp only[Ma]at l2;refine⟨fh.en App.nil g2,?_⟩;refine ae.call (i:=8) (gI E1 t2 eo pa g2.2.1 g2.1.N (by omega)) ?_;rintro _ O3 ⟨t3,rfl,g3⟩;simp only[ak];have l3:=dL E1 eo pa;generalize cy E1 eo pa=E2 at*
   replace g3:=g2.trans g3
   refine⟨fh.en App.nil g3,?_⟩;refine ae.call (i:=12) (gI E2 t3 fS pv g3.2.1 g3.1.N (by omega)) ?_;rintro _ O4 ⟨t4,rfl,g4⟩;simp only[ak];have l4:=dL E2 fS pv;generalize cy E2 fS pv=E3 at*
   replace g4:=g3.trans g4
   refine⟨fh.en App.nil g4,?_⟩;refine ae.call (i:=13) (sK [] .nil v7 E3 t4 (App.nil (B:=O4.N)) (Zj _) (by simp) (by omega)) ?_;rintro _ O5 ⟨t5,rfl,g5⟩;simp only[ak];refine⟨(fh.en App.nil g4).trans (fh.en App.nil g5),?_⟩;refine ae.ar 14 ?_;refine ab @eu ?_;refine ae.bP [] ?_;refine ab @eu ?_;exact aA.mk t5 (fh.fresh (fh.en App.nil g4) g5)
 intro tk O2 h2;have iT:=(fh.en App.nil h2).hp;have hn:=h2.1.N;clear hpp;refine θ (aG @eu @hk @iT ?_);refine ah.rt (gI K0 _ eE g h2.2.1 h2.1.N (by first | omega | simp)) ?_;rintro _ OA ⟨t1,rfl,gw⟩;have h3:=h2.trans gw;have l1:=dL K0 eE g;clear gw;generalize eK1:cy K0 eE g=K1 at*;have iT:=(fh.en App.nil h3).hp;have hn:=h3.1.N;try simp only[Ma]at l1
 refine ab @eu ?_;refine θ (aG @eu @hk @iT ?_);refine ah.rt (gI K1 _ eo a h3.2.1 h3.1.N (by first | omega | simp)) ?_;rintro _ OB ⟨t2,rfl,gw⟩;have h4:=h3.trans gw;have l2:=dL K1 eo a;clear gw;generalize eK2:cy K1 eo a=K2 at*;have iT:=(fh.en App.nil h4).hp;have hn:=h4.1.N;try simp only[Ma]at l2
 refine ab @eu ?_;refine θ (aG @eu @hk @iT ?_);refine ah.rt (gI K2 _ fS v h4.2.1 h4.1.N (by first | omega | simp)) ?_;rintro _ OC ⟨t3,rfl,gw⟩;have h5:=h4.trans gw;have l3:=dL K2 fS v;clear gw;generalize eK3:cy K2 fS v=K3 at*;have iT:=(fh.en App.nil h5).hp;have hn:=h5.1.N;try simp only[Ma]at l3
 refine ab @eu ?_;refine θ (aG @eu @hk @iT ?_);refine ah.rt (gI K3 _ yB pk h5.2.1 h5.1.N (by first | omega | simp)) ?_;rintro _ OD ⟨t4,rfl,gw⟩;have h6:=h5.trans gw;have l4:=dL K3 yB pk;clear gw;generalize eK4:cy K3 yB pk=K4 at*;have iT:=(fh.en App.nil h6).hp;have hn:=h6.1.N;try simp only[Ma]at l4
 refine ab @eu ?_;clear eK1 eK2 eK3 eK4;refine Θ [1,2,3,4] (fun tp:Tok=>[.ptr O.N 0,.ptr (O.N+1) 0,.sl K4.length (aC K4) t4,.sl (P.map iF).length (aC (P.map iF)) tp]) (fun tp O'=>OD.Ge O') ?_ ?_
 ·refine θ (aG @eu @hk @iT ?_);refine τ ?_;refine Γ [4,43] [1,2,3,41,42] (fun x:Nat×Tok=>[.sl ((P.take x.1).map iF).length (aC ((P.take x.1).map iF)) x.2,mi x.1]) (fun x O'=>OD.Ge O'/\App O' OD.N 4 x.2/\x.1<=P.length) (fun x=>P.length - x.1) ((0,.nil)) ?_ ?_
  ·exact⟨VH.Ge.refl _,trivial,adZ _⟩
  rintro⟨j,tp⟩ O3 ⟨aH,cf,hj⟩;dsimp only at cf hj ⊢;by_cases aM:j<P.length;rotate_left
  ·obtain rfl:j=P.length:=by omega
   rw[ahJ];refine ν @eu ?_;exact aA.mk tp aH
  have bG:=ct fK P j aM;have gY:(P.take (j+1)).map iF=(P.take j).map iF++[iF P[j]]:=by rw[dz _ _ aM,anh];rfl
  have HN:((P.take j).map iF).length<=10000:=by rw[ajv,ahK];omega
  generalize P[j]=y at*;generalize (P.take j).map iF=E at*;obtain⟨yn,yv⟩:=y;simp only[bm]at bG;refine κ @eu ?_;refine κ @eu ?_;refine χ (τ ?_);refine ξ @eu @bG ?_;refine VC.al ?_;rintro O4 ⟨aY,nE,gO⟩;refine ξ @eu @nE ?_;refine VC.al ?_;rintro O5 ⟨bD,zc,eU⟩;have hkz:O5.hp O3.N=some (.cells [.str yn,.str yv]):=bD.at nE;have gJ:=(cf.ge aY).ge bD;have FP:=(aH.trans aY).trans bD;cases yv with
  | nil=>
    refine ι (cR @eu @hkz (show(([]:List UInt8)==[])=true from rfl) @zc ?_);obtain⟨mE,gV,lQ⟩:=gG (n:=E.length) (cs:=aC E) (ds:=[.str yn,.sl 0 [] .nil,.sl 0 [] .nil,.str []]) (es:=dK (iF (yn,[]))) vX DJ.1.1 gJ (dA E) rfl rfl (by decide) (by omega) (by simp only[maxLen];omega) (fq E) (by simp only[wu,iF,dK,if_true,Ma,ajp,aC]);refine η gV lQ ?_;refine ab @eu ?_;refine ν @eu ?_;exact az.N (j+1,.own O5.N 4) ⟨b_.en FP gJ (b_.after gJ),App.after FP.N,aM⟩ (hl:=(by dsimp only;rw[gY,eH,zP,aC,aC,adX];rfl))
  | cons c yv=>
    refine ι (cR @eu @hkz (show((c::yv)==[])=false from rfl) @zc ?_);have mH:=gJ.set (x:=.cells [.str yn,.sl 0 [] .nil,.sl 1 [.str [],.sl 0 [] .nil,.sl 0 [] .nil,.str (c::yv)] .full,.str []]) zc;have NP:=FP.set (k:=O4.N) (by have:=aH.N;omega) (.cells [.str yn,.sl 0 [] .nil,.sl 1 [.str [],.sl 0 [] .nil,.sl 0 [] .nil,.str (c::yv)] .full,.str []]);generalize O5.set O4.N (.cells [.str yn,.sl 0 [] .nil,.sl 1 [.str [],.sl 0 [] .nil,.sl 0 [] .nil,.str (c::yv)] .full,.str []])=O6 at*;obtain⟨mE,gV,lQ⟩:=gG (n:=E.length) (cs:=aC E) (ds:=[.str yn,.sl 0 [] .nil,.sl 1 [.str [],.sl 0 [] .nil,.sl 0 [] .nil,.str (c::yv)] .full,.str []]) (es:=dK (iF (yn,c::yv))) vX DJ.1.1 mH (dA E) rfl rfl (by decide) (by omega) (by simp only[maxLen];omega) (fq E) (by simp only[wu,iF,dK,if_neg (List.cons_ne_nil c yv),Ma,Qm,ajp,aC,adX,am5]);refine η gV lQ ?_;refine ab @eu ?_;refine ν @eu ?_;exact az.N (j+1,.own O6.N 4) ⟨b_.en NP mH (b_.after mH),App.after NP.N,aM⟩ (hl:=(by dsimp only;rw[gY,eH,zP,aC,aC,adX];rfl))
 intro tp O3 aH;have h7:=h6.ge aH;clear iT hn;have iT:=(fh.en App.nil h7).hp;have hn:=h7.1.N;refine κ @eu ?_;refine ah.rt (sK K4 t4 lR (P.map iF) tp h7.2.1 h7.1.N (by omega) (by rw[ajv];omega)) ?_;rintro _ O4 ⟨t5,rfl,g8⟩;have h8:=h7.trans g8;have l5:=qG K4 lR (P.map iF);generalize j_ K4 lR (P.map iF)=K5 at*;have akx:=(fh.en App.nil h8).hp;have DN:=h8.1.N;refine ab @eu ?_;refine θ (aG @eu @hk @akx ?_);refine ah.rt (AY [] .nil M .au (App.nil (B:=O4.N)) (Zj _) (by simp) hM (fun d hd=>hx d (List.mem_append_left _ hd))) ?_;rintro _ O5 ⟨t6,rfl,g9⟩;have l6:=NO [] M;generalize oU [] M=K6 at*;simp only[Ma]at l6;have h9:=h8.ge (fh.en App.nil g9);refine ab @eu ?_;refine ah.rt (sK K5 t5 sL K6 t6 h9.2.1 h9.1.N (by omega) (by omega)) ?_;rintro _ O6 ⟨t7,rfl,g10⟩;have yZ:=h9.trans g10;have l7:=qG K5 sL K6;generalize j_ K5 sL K6=K7 at*;have aiq:=(fh.en App.nil yZ).hp;have I3:=yZ.1.N;refine ab @eu ?_;refine θ (aG @eu @hk @aiq ?_);refine ah.rt (AY K7 t7 D .au yZ.2.1 yZ.1.N (by omega) hD (fun d hd=>hx d (List.mem_append_right _ hd))) ?_;rintro _ O7 ⟨t8,rfl,g11⟩;have h11:=yZ.trans g11;generalize oU K7 D=K8 at*;have air:=(fh.en App.nil h11).hp;have agB:=h11.1.N;have dR:=(air _ (by omega)).trans bM;refine ao @eu @dR ?_;refine ο @eu @fq ?_;exact⟨by rw[hw,dK];rfl,(o5.trans (fh.en App.nil h11)).set (by omega) _⟩
set_option linter.defProp false in
def dY:=Qn AP<|Qn eu<|Qn ago<|Qn FG<|Qn ags aa5
theorem fI.trans {O O1 O2:VH} {b:Nat} {q q1 q2:Option Nat} (h:fI O b q O1 q1) (k:fI O1 b q1 O2 q2):fI O b q O2 q2:=
 ⟨Vq h.N k.N,fun i hi hb hq=>by rw[k.hp i (agc hi h.N) hb (h.new i hi hq),h.hp i hi hb hq],fun i hi hq=>k.new i (agc hi h.N) (h.new i hi hq)⟩
theorem fI.lp {O O1:VH} {b:Nat} {q:Option Nat} (h:O.Ge O1):fI O b q O1 q:=⟨h.N,fun i hi _ _=>h.hp i hi,fun _ _ hq=>hq⟩
theorem gE.ge {O O':VH} {B b:Nat} {q:Option Nat} {s:List UInt8} (h:gE O B b q s) (u:O.Ge O'):gE O' B b q s:=h.zm (bz.lp u)
theorem fI.B9 {O O1 O2:VH} {b:Nat} {q:Option Nat} (h:O.Ge O1) (u:fI O1 b none O2 q) (hb:O.N<=b):O.Ge O2:=u.ge h hb (fun _ e=>by cases e)
theorem VH.Ge.Uj {O O1 O2:VH} {q:Option Nat} (h:O.Ge O1) (u:bz O1 q O2) (hq:∀i,q=some i->O.N<=i):O.Ge O2:=⟨Vq h.N u.N,fun i hi=>(u.hp i (agc hi h.N) (fun e=>by have:=hq i e;omega)).trans (h.hp i hi)⟩
def pZ (attr:Bool) (c:UInt8):Bs:=
 if c=38 then[38,97,109,112,59]else if c=60 then[38,108,116,59]else if c=62 then[38,103,116,59]else if c=13 then[38,35,49,51,59]
 else if attr&&c==34 then[38,113,117,111,116,59]else if attr&&c==9 then[38,35,57,59]else if attr&&c==10 then[38,35,49,48,59]else[c]
def ni (attr:Bool) (s:Bs):Bs:=s.flatMap (pZ attr)
theorem Xv (attr:Bool) (c:UInt8):(pZ attr c).length<=6:=by
 unfold pZ;repeat' split
 all_goals simp
theorem oF (attr:Bool) (s:Bs):(ni attr s).length<=6*s.length:=by
 induction s with
 | nil=>simp[ni]
 | cons c s ih=>
   have:=Xv attr c;unfold ni at ih ⊢;rw[ahL,zP,Qm];omega
theorem B_ (s:Bs) (attr:Bool) (O:VH) (hs:s.length<=1000000):VF Tryz.prog 56 [.str s,mb attr] O (aD fun m O'=>m= .str (ni attr s)/\O.Ge O'):=by
 have hsm:s.length<=maxLen:=Vq hs (by decide);have hm:(s.length:Int)<=9223372036854775807:=by omega
 refine Δ 56 [.tmp 4] Tryz.func56 ?_;refine ab @dY ?_;have v8:=gE.fresh O (Zj O.N);have mT:O.Ge ((O.push (.cells [.v (.pointer none),.sl 0 [] .nil])).push (.shape O.N 155 2)):=((VH.Ge.refl O).push _).push _;generalize ((O.push (.cells [.v (.pointer none),.sl 0 [] .nil])).push (.shape O.N 155 2))=O1 at*;refine VL.bytes aa (el:=5) (l:=s) rfl rfl (by rw[T9];rfl) (by rw[uM];rfl) (by rw[T5];rfl) hsm rfl fun cap h1 h2=>WL.sound aa ?_
 have xX:=Ξ O1 (.cells (s.map gj));have aI:=(VH.Ge.refl O1).push (.cells (s.map gj));have cW:O1.N<(O1.push (.cells (s.map gj))).N:=ajo _;have vZ:=v8.hi;have cD:=v8.ge aI;have sF:fI O1 O.N none (O1.push (.cells (s.map gj))) none:=fI.lp aI;generalize O1.push (.cells (s.map gj))=O2 at*;refine ab @dY ?_;refine WC.jm [11] [1,5,9,10] (fun x:Nat×Option Nat=>[mi x.1]) (fun x O'=>fI O2 O.N none O' x.2/\gE O' O.N O.N x.2 (ni attr (s.take x.1))/\x.1<=s.length) (fun x=>s.length - x.1) ((0,none)) ?_ ?_
 ·exact⟨fI.lp (VH.Ge.refl _),cD,adZ _⟩
 rintro⟨j,q⟩ O3 ⟨hu,hb,hj⟩;dsimp only at hu hb hj ⊢;have DO:=(hu.hp O1.N cW (by omega) (by simp)).trans xX;by_cases h3:j<s.length
 ·have pJ:=Zk h3;have gY:ni attr (s.take (j+1))=ni attr (s.take j)++pZ attr s[j]:=by unfold ni;rw[dz _ _ h3,ajm,ahL,ajp,adX]
  have c_:(ni attr (s.take j)).length<=6000000:=by have:=oF attr (s.take j);rw[ahK]at this;omega
  generalize ni attr (s.take j)=T at*;generalize s[j]=c at*;have hc:=c.toNat_lt;have key:∀(l:Bs) (q':Option Nat) (O4:VH),pZ attr c=l->gE O4 O.N O.N q' (T++l)->fI O3 O.N q O4 q'->fI O2 O.N none O4 q'/\gE O4 O.N O.N q' (ni attr (s.take (j+1)))/\j+1<=s.length:=fun l q' O4 e h k=>⟨hu.trans k,by rw[gY,e];exact h,h3⟩
  have KQ:c=38 ↔ c.toNat=38:=⟨fun h=>by rw[h];rfl,fun h=>UInt8.toNat_inj.1 h⟩;have NQ:c=60 ↔ c.toNat=60:=⟨fun h=>by rw[h];rfl,fun h=>UInt8.toNat_inj.1 h⟩;have RF:c=62 ↔ c.toNat=62:=⟨fun h=>by rw[h];rfl,fun h=>UInt8.toNat_inj.1 h⟩;have Xw:c=13 ↔ c.toNat=13:=⟨fun h=>by rw[h];rfl,fun h=>UInt8.toNat_inj.1 h⟩;have e34:c=34 ↔ c.toNat=34:=⟨fun h=>by rw[h];rfl,fun h=>UInt8.toNat_inj.1 h⟩;have e9:c=9 ↔ c.toNat=9:=⟨fun h=>by rw[h];rfl,fun h=>UInt8.toNat_inj.1 h⟩;have sM:c=10 ↔ c.toNat=10:=⟨fun h=>by rw[h];rfl,fun h=>UInt8.toNat_inj.1 h⟩;by_cases h38:c.toNat=38
  ·refine cR @dY @pJ @DO @aK ?_;refine ah.rt (bV [38,97,109,112,59] hb (by simp only[Qm,Ma];omega)) ?_;rintro _ O4 ⟨rfl,q',dd,fD⟩;refine ab @dY ?_;exact az.N (j+1,q') (key _ _ _ (by simp[pZ,KQ,h38]) dd fD)
  by_cases NR:c.toNat=60
  ·refine cR @dY @pJ @DO @aK ?_;refine ah.rt (bV [38,108,116,59] hb (by simp only[Qm,Ma];omega)) ?_;rintro _ O4 ⟨rfl,q',dd,fD⟩;refine ab @dY ?_;exact az.N (j+1,q') (key _ _ _ (by simp[pZ,KQ,NQ,NR]) dd fD)
  by_cases h62:c.toNat=62
  ·refine cR @dY @pJ @DO @aK ?_;refine ah.rt (bV [38,103,116,59] hb (by simp only[Qm,Ma];omega)) ?_;rintro _ O4 ⟨rfl,q',dd,fD⟩;refine ab @dY ?_;exact az.N (j+1,q') (key _ _ _ (by simp[pZ,KQ,NQ,RF,h62]) dd fD)
  by_cases h13:c.toNat=13
  ·refine cR @dY @pJ @DO @aK ?_;refine ah.rt (bV [38,35,49,51,59] hb (by simp only[Qm,Ma];omega)) ?_;rintro _ O4 ⟨rfl,q',dd,fD⟩;refine ab @dY ?_;exact az.N (j+1,q') (key _ _ _ (by simp[pZ,KQ,NQ,RF,Xw,h13]) dd fD)
  cases attr
  ·refine cR @dY @pJ @DO @aK ?_;refine ah.rt (ua c hb (by omega)) ?_;rintro _ O4 ⟨rfl,q',dd,fD⟩;refine ab @dY ?_;exact az.N (j+1,q') (key _ _ _ (by simp[pZ,KQ,NQ,RF,Xw,h38,NR,h62,h13]) dd fD)
  by_cases h34:c.toNat=34
  ·refine cR @dY @pJ @DO @aK ?_;refine ah.rt (bV [38,113,117,111,116,59] hb (by simp only[Qm,Ma];omega)) ?_;rintro _ O4 ⟨rfl,q',dd,fD⟩;refine ab @dY ?_;exact az.N (j+1,q') (key _ _ _ (by simp[pZ,KQ,NQ,RF,Xw,e34,h34]) dd fD)
  by_cases h9:c.toNat=9
  ·refine cR @dY @pJ @DO @aK ?_;refine ah.rt (bV [38,35,57,59] hb (by simp only[Qm,Ma];omega)) ?_;rintro _ O4 ⟨rfl,q',dd,fD⟩;refine ab @dY ?_;exact az.N (j+1,q') (key _ _ _ (by simp[pZ,KQ,NQ,RF,Xw,e34,e9,h9]) dd fD)
  by_cases yZ:c.toNat=10
  ·refine cR @dY @pJ @DO @aK ?_;refine ah.rt (bV [38,35,49,48,59] hb (by simp only[Qm,Ma];omega)) ?_;rintro _ O4 ⟨rfl,q',dd,fD⟩;refine ab @dY ?_;exact az.N (j+1,q') (key _ _ _ (by simp[pZ,KQ,NQ,RF,Xw,e34,e9,sM,yZ]) dd fD)
  ·refine cR @dY @pJ @DO @aK ?_;refine ah.rt (ua c hb (by omega)) ?_;rintro _ O4 ⟨rfl,q',dd,fD⟩;refine ab @dY ?_;exact az.N (j+1,q') (key _ _ _ (by simp[pZ,KQ,NQ,RF,Xw,e34,e9,sM,h38,NR,h62,h13,h34,h9,yZ]) dd fD)
 ·obtain rfl:j=s.length:=by omega
  rw[ahJ]at hb;have HK:=oF attr s;refine ab @dY ?_;refine ah.rt (qD hb (by simp only[maxLen];omega)) ?_;rintro _ O4 ⟨rfl,fD⟩;refine ab @dY ?_;exact(fI.B9 (mT.trans aI) hu (Zj _)).Uj fD hb.yA
structure RG where
 k:Int
 n:Bs
 gk:List (Bs×Bs)
 t:Bs
 off:Nat
 line:Nat
 FT:Nat
 deriving DecidableEq
def FU (x:RG):List MV:=[mi x.k,.str x.n,.sl x.gk.length (x.gk.flatMap bm) .au,.str x.t,mi x.off,mi x.line,mi x.FT]
def pL (a:Bs×Bs):Bs:=[32]++a.1++[61,34]++ni true a.2++[34]
def FV (n:Bs) (L:List (Bs×Bs)) (e:Bs):Bs:=[60]++n++L.flatMap pL++e
theorem FW (a:Bs×Bs) (h1:a.1.length<=1000000) (h2:a.2.length<=1000000):(pL a).length<=7000004:=by
 have:=oF true a.2;simp only[pL,zP,Qm,Ma];omega
theorem rN:∀L:List (Bs×Bs),(∀a∈L,a.1.length<=1000000/\a.2.length<=1000000)->(L.flatMap pL).length<=L.length*7000004
 | [],_=>by simp
 | a::L,h=>by
   have h1:=FW a (h a (by simp)).1 (h a (by simp)).2;have h2:=rN L fun x hx=>h x (List.mem_cons_of_mem _ hx)
   rw[ahL,zP,Qm,Nat.succ_mul];omega
theorem abd {O:VH} {B b:Nat} {q:Option Nat} {s:Bs} (x:RG) (e:Bs) (h:gE O B b q s) (hs:s.length<=10000000000000) (hn:x.n.length<=1000000) (he:e.length<=1000000) (hA:∀a∈x.gk,a.1.length<=1000000/\a.2.length<=1000000) (hl:x.gk.length<=1000000):
  VF Tryz.prog 73 [.ptr b 0,.agg (FU x),.str e] O (aD fun m O'=>∃q',gE O' B b q' (s++FV x.n x.gk e)/\fI O b q O' q'):=by
 obtain⟨k,n,L,t,off,line,FT⟩:=x;dsimp only at hn hA hl;have pH:=aV fK L;simp only[FU];refine υ 35 [] Tryz.func73 ?_;refine κ @dY ?_;refine VC.bx ?_;rintro O1 ⟨aI,hk,cW⟩;have cD:=h.ge aI;try simp only[aq]at hk
 refine ξ @dY @hk ?_;refine ah.rt (bV ([60]++n) cD (by simp only[zP,Qm,Ma];omega)) ?_;rintro _ O2 ⟨rfl,q2,cJ,c8⟩;have bM:=(c8.hp O.N (by omega) (by have:=h.hi;omega) (h.Uh _ (Zj _))).trans hk;refine ab @dY ?_;refine Θ [0,2] (fun q:Option Nat=>[.ptr b 0,.str e]) (fun q' O'=>fI O b q O' q'/\gE O' B b q' (s++([60]++n)++L.flatMap pL)) ?_ ?_
 ·refine ξ @dY @bM ?_;refine τ ?_;refine Γ [16] [0,2,14,15] (fun x:Nat×Option Nat=>[mi x.1]) (fun x O'=>fI O b q O' x.2/\gE O' B b x.2 (s++([60]++n)++(L.take x.1).flatMap pL)/\x.1<=L.length) (fun x=>L.length - x.1) ((0,q2)) ?_ ?_
  ·exact⟨(fI.lp aI).trans c8,by simpa using cJ,adZ _⟩
  rintro⟨j,qj⟩ O3 ⟨c9,cB,hj⟩;dsimp only at c9 cB hj ⊢;by_cases aM:j<L.length;rotate_left
  ·obtain rfl:j=L.length:=by omega
   rw[ahJ]at cB;refine ν @dY ?_;exact aA.mk qj ⟨c9,cB⟩
  have bG:=ct fK L j aM;have gY:(L.take (j+1)).flatMap pL=(L.take j).flatMap pL++pL L[j]:=by rw[dz _ _ aM,ajm,ahL,ajp,adX]
  have kc:=hA L[j] (ajk aM);have dH:=FW L[j] kc.1 kc.2
  have hTl:((L.take j).flatMap pL).length<=7000004000000:=by
   have:=rN (L.take j) fun a ha=>hA a (List.mem_of_mem_take ha)
   rw[ahK]at this;omega
  generalize L[j]=y at*;generalize (L.take j).flatMap pL=T at*;obtain⟨yn,yv⟩:=y;dsimp only at kc;simp only[bm]at bG;refine κ @dY ?_;refine κ @dY ?_;refine χ (τ ?_);refine ξ @dY @bG ?_;refine VC.al ?_;rintro O4 ⟨aY,nE,gO⟩;have dd:=cB.ge aY;refine VC.nP [10] ?_;refine ae.ar 0 ?_;refine ab @dY ?_;refine ae.ar 1 ?_;refine ab @dY ?_;refine ae.ld (m:=.str yn) 2 ?_ ?_
  ·exact dX @dY @nE
  simp only[ak];refine ae.ar 3 ?_;refine ab @dY ?_;refine ae.ar 4 ?_;refine ab @dY ?_;refine ae.ar 5 ?_;refine ab @dY ?_;refine ae.ld (m:=.str yv) 6 ?_ ?_
  ·exact dX @dY @nE
  simp only[ak];refine ae.call (i:=7) (B_ yv true _ kc.2) ?_;rintro _ O5 ⟨rfl,bD⟩;simp only[ak];refine⟨bD,?_⟩;have HK:=oF true yv;have hae:pL (yn,yv)=[32]++yn++[61,34]++ni true yv++[34]:=rfl;generalize ni true yv=E at*;refine ae.ar 8 ?_;refine ab @dY ?_;refine ae.ar 9 ?_;refine ab @dY ?_;refine ae.bP [(10,.one)] ?_;refine ab @dY ?_;refine ah.rt (bV ([32]++yn++[61,34]++E++[34]) (dd.ge bD) (by simp only[zP,Qm,Ma];omega)) ?_;rintro _ O6 ⟨rfl,q6,jz,r_⟩;refine ab @dY ?_;refine ν @dY ?_;exact az.N (j+1,q6) ⟨(c9.trans (fI.lp (aY.trans bD))).trans r_,by rw[gY,hae, <-ajn];exact jz,aM⟩
 rintro q3 O3 ⟨c9,cB⟩;have hTl:=rN L hA;refine ν @dY ?_;refine ah.rt (bV e cB (by simp only[zP,Qm,Ma];omega)) ?_;rintro _ O4 ⟨rfl,q4,dd,fD⟩;refine ab @dY ?_;refine⟨q4,?_,c9.trans fD⟩;simpa[FV,ajn]using dd
def zC (x:RG):Bs:=
 if x.k=5 then[60,33,45,45]++x.t++[45,45,62]else if x.k=6 then[60,63,120,109,108]++x.t++[63,62]else if x.k=3 then[60,47]++x.n++[62]
 else if x.k=1 then FV x.n x.gk [62]else if x.k=2 then FV x.n x.gk [47,62]else if x.k=4 then ni false x.t else[]
structure RH (x:RG):Prop where
 n:x.n.length<=1000000
 t:x.t.length<=1000000
 a:∀a∈x.gk,a.1.length<=1000000/\a.2.length<=1000000
 l:x.gk.length<=1000000
theorem I4 (n:Bs) (L:List (Bs×Bs)) (e:Bs) (hn:n.length<=1000000) (he:e.length<=10) (hA:∀a∈L,a.1.length<=1000000/\a.2.length<=1000000) (hl:L.length<=1000000):(FV n L e).length<=8000000000000:=by
 have:=rN L hA;simp only[FV,zP,Qm,Ma];omega
theorem NS (x:RG) (h:RH x):(zC x).length<=8000000000000:=by
 have h1:=h.n;have h2:=h.t;have h3:=I4 x.n x.gk [62] h.n (by simp) h.a h.l;have h4:=I4 x.n x.gk [47,62] h.n (by simp) h.a h.l;have h5:=oF false x.t;unfold zC;repeat' split
 all_goals first | omega | (simp only[zP,Qm,Ma];omega)
theorem Xx {O:VH} (x:RG) (tk:Tok) (h:RH x):VF Tryz.prog 57 [.sl 1 (FU x) tk] O (aD fun m O'=>m= .str (zC x)/\O.Ge O'):=by
 have dH:=NS x h;have hn:=h.n;have ht:=h.t;have Xy:∀l:Bs,l.length<=3000000->l.length<=140737488355328:=fun l h=>by omega
 have bG:(FU x++[]).length=7:=rfl;obtain⟨k,n,L,t,off,line,FT⟩:=x;dsimp only at hn ht;refine υ 51 [.tmp 2] Tryz.func57 ?_;simp only[FU];refine κ @dY ?_;refine κ @dY ?_;have v8:=gE.fresh O (Zj O.N);have mT:O.Ge ((O.push (.cells [.v (.pointer none),.sl 0 [] .nil])).push (.shape O.N 155 2)):=((VH.Ge.refl O).push _).push _;generalize ((O.push (.cells [.v (.pointer none),.sl 0 [] .nil])).push (.shape O.N 155 2))=O1 at*;refine Θ [3] (fun q:Option Nat=>[.ptr O.N 0]) (fun q O'=>O.Ge O'/\gE O' O.N O.N q (zC ⟨k,n,L,t,off,line,FT⟩)) ?_ ?_;rotate_left
 ·rintro q O2 ⟨aB,cJ⟩;refine ν @dY ?_;refine ah.rt (qD cJ (by simp only[maxLen];omega)) ?_;rintro _ O3 ⟨rfl,c9⟩;refine ab @dY ?_;exact aB.Uj c9 cJ.yA
 refine κ @dY ?_;refine τ ?_;refine Γ [8] [3,6,7] (fun x:Bool×Option Nat=>[mi (if x.1 then 1 else 0)]) (fun x O'=>O.Ge O'/\gE O' O.N O.N x.2 (if x.1 then zC ⟨k,n,L,t,off,line,FT⟩else[])) (fun x=>if x.1 then 0 else 1) ((false,none)) ?_ ?_
 ·exact⟨mT,v8⟩
 rintro⟨j,q⟩ O2 ⟨aB,cJ⟩;dsimp only at cJ ⊢;cases j;rotate_left
 ·rw[if_pos rfl]at cJ ⊢;refine ν @dY ?_;exact aA.mk q ⟨aB,cJ⟩
 rw[if_neg (by decide)]at cJ ⊢;refine κ @dY ?_;refine κ @dY ?_;refine χ (τ ?_);refine κ @dY ?_;refine VC.al ?_;rintro O3 ⟨aH,hk,gy⟩;have cB:=cJ.ge aH;have fin:∀(l:Bs) (q':Option Nat) (O4:VH),zC ⟨k,n,L,t,off,line,FT⟩=l->gE O4 O.N O.N q' ([]++l)->fI O3 O.N q O4 q'->O.Ge O4/\gE O4 O.N O.N q' (zC ⟨k,n,L,t,off,line,FT⟩):=fun l q' O4 e h k=>⟨k.ge (aB.trans aH) (Zj _) cB.yA,by rw[e];exact h⟩
 by_cases h5:k=5
 ·subst h5;refine ο @dY @hk ?_;refine ah.rt (bV ([60,33,45,45]++t++[45,45,62]) cB (by simp only[zP,Qm,Ma];omega)) ?_;rintro _ O4 ⟨rfl,q',dd,fD⟩;refine ab @dY ?_;refine ν @dY ?_;exact az.N (true,q') (fin _ _ _ rfl dd fD) (hm:=ajs)
 by_cases h6:k=6
 ·subst h6;refine ο @dY @hk ?_;refine ah.rt (bV ([60,63,120,109,108]++t++[63,62]) cB (by simp only[zP,Qm,Ma];omega)) ?_;rintro _ O4 ⟨rfl,q',dd,fD⟩;refine ab @dY ?_;refine ν @dY ?_;exact az.N (true,q') (fin _ _ _ rfl dd fD) (hm:=ajs)
 by_cases h3:k=3
 ·subst h3;refine ο @dY @hk ?_;refine ah.rt (bV ([60,47]++n++[62]) cB (by simp only[zP,Qm,Ma];omega)) ?_;rintro _ O4 ⟨rfl,q',dd,fD⟩;refine ab @dY ?_;refine ν @dY ?_;exact az.N (true,q') (fin _ _ _ rfl dd fD) (hm:=ajs)
 by_cases h1:k=1
 ·subst h1;refine ο @dY @hk ?_;refine ah.rt (abd ⟨1,n,L,t,off,line,FT⟩ [62] cB (by simp) hn (by simp) h.a h.l) ?_;rintro _ O4 ⟨q',dd,fD⟩;refine ab @dY ?_;refine ν @dY ?_;exact az.N (true,q') (fin _ _ _ rfl dd fD) (hm:=ajs)
 by_cases h2:k=2
 ·subst h2;refine ο @dY @hk ?_;refine ah.rt (abd ⟨2,n,L,t,off,line,FT⟩ [47,62] cB (by simp) hn (by simp) h.a h.l) ?_;rintro _ O4 ⟨q',dd,fD⟩;refine ab @dY ?_;refine ν @dY ?_;exact az.N (true,q') (fin _ _ _ rfl dd fD) (hm:=ajs)
 by_cases h4:k=4
 ·subst h4;have HK:=oF false t;refine ο @dY @hk ?_;refine ah.rt (B_ t false _ ht) ?_;rintro _ O4 ⟨rfl,aY⟩;refine ab @dY ?_;refine ah.rt (bV (ni false t) (cB.ge aY) (by simp only[Ma];omega)) ?_;rintro _ O5 ⟨rfl,q',du,rA⟩;refine ab @dY ?_;refine ν @dY ?_;exact az.N (true,q') (fin _ _ _ rfl du ((fI.lp aY).trans rA)) (hm:=ajs)
 ·have dF:zC ⟨k,n,L,t,off,line,FT⟩=[]:=by simp[zC,h1,h2,h3,h4,h5,h6]
  refine ο @dY @hk ?_;refine ν @dY ?_;exact az.N (true,q) (fin _ _ _ dF (by simpa using cB) (fI.lp (VH.Ge.refl _))) (hm:=ajs)
theorem aky:ef Tryz.t156.desc=false:=by kernel_rfl
set_option linter.defProp false in
def fc:=Qn dY<|Qn ajW aky
mutual
def eI:Nd->Nat
 | .mk _ _ k _=>1+cc k
def cc:List Nd->Nat
 | []=>0
 | x::r=>eI x+cc r
end
theorem FX (n:Bs) (a:List (Bs×Bs)) (k:List Nd) (t:Bs):eI (.mk n a k t)=1+cc k:=by rw[eI]
mutual
def AZ:Nd->Prop
 | .mk n a k t=>n.length<=1000000/\t.length<=1000000/\(∀x∈a,x.1.length<=1000000/\x.2.length<=1000000)/\a.length<=1000000/\k.length<=1000000/\ud k
def ud:List Nd->Prop
 | []=>True
 | x::r=>AZ x/\ud r
end
mutual
def cG:Nd->Bs
 | .mk n a k t=>if n=[]then ni false t else zC ⟨if k.length=0 then 2 else 1,n,a,[],0,0,0⟩++aX k++(if k.length=0 then[]else[60,47]++n++[62])
def aX:List Nd->Bs
 | []=>[]
 | x::r=>cG x++aX r
end
theorem A_:∀{k:List Nd} {x:Nd},x∈k->eI x<=cc k
 | y::r,x,h=>by
   rw[cc];rcases am9.1 h with rfl | h
   ·omega
   ·have:=A_ h;omega
theorem FY:∀{k:List Nd} {x:Nd},ud k->x∈k->AZ x
 | y::r,x,h,hx=>by
   rw[ud]at h;rcases am9.1 hx with rfl | hx
   ·exact h.1
   ·exact FY h.2 hx
theorem uP (L M:List Nd):aX (L++M)=aX L++aX M:=by
 induction L with
 | nil=>rw[adW,aX,adW]
 | cons x L ih=>rw[adY,aX,aX,ih,ajn]
theorem qH (L:List Nd):aC L=L.flatMap dK:=by
 induction L with
 | nil=>rw[aC];rfl
 | cons x L ih=>rw[aC,ih,ahL]
theorem abe:∀(N:Nat) (x:Nd) (O:VH) (B b lk:Nat) (q:Option Nat) (s:Bs),eI x<=N->gE O B b q s->O.hp lk=some (.cells [.func (.func 54) [] [.ptr b 0,.ptr lk 0]])->lk<O.N->lk≠b->q≠some lk->s.length+(cG x).length<=10000000000000->AZ x->
  VF Tryz.prog 54 [.agg (dK x),.ptr b 0,.ptr lk 0] O (aD fun m O'=>∃q',gE O' B b q' (s++cG x)/\fI O b q O' q')
 | 0,.mk n a k t=>fun O B b lk q s h=>by rw[FX]at h;omega
 | N+1,.mk n a k t=>fun O B b lk q s hN h eD y_ Ca oG hs dP=>by
   rw[FX]at hN;rw[AZ]at dP;obtain⟨hn,ht,hA,hAl,fQ,hks⟩:=dP;rw[cG]at hs ⊢;rw[dK];refine υ 48 [] Tryz.func54 ?_;refine κ @fc ?_;refine VC.bx ?_;rintro O1 ⟨aI,hk,cW⟩;have cD:=h.ge aI;have amx:=(aI.hp _ y_).trans eD;cases n with
   | nil=>
     rw[if_pos rfl]at hs ⊢;refine θ (aG @fc @hk (show(([]:List UInt8)==[])=true from rfl) ?_);refine ah.rt (B_ t false _ ht) ?_;rintro _ O2 ⟨rfl,aB⟩;have HK:=oF false t;refine ab @fc ?_;refine ah.rt (bV (ni false t) (cD.ge aB) (by omega)) ?_;rintro _ O3 ⟨rfl,q',cB,c9⟩;refine ab @fc ?_;exact⟨q',cB,(fI.lp (aI.trans aB)).trans c9⟩
   | cons c n=>
     rw[if_neg (by simp)]at hs ⊢;have hnb:((c::n)==[])=false:=rfl;generalize FZ:c::n=nm at*;have vo:RH ⟨if k.length=0 then 2 else 1,nm,a,[],0,0,0⟩:=⟨hn,by simp,hA,hAl⟩;refine θ (aG @fc @hk @hnb ?_);refine θ (aG @fc @hk @hnb ?_);refine VC.al ?_;rintro O2 ⟨aB,hkt,eZ⟩;have bM:=(aB.hp O.N (by omega)).trans hk;refine Θ [1,2,3,4] (fun _:Unit=>[.ptr b 0,.ptr lk 0,.ptr O.N 0,.ptr O1.N 0]) (fun _ O'=>O.Ge O'/\O'.N=O2.N/\O'.hp O.N=some (.cells (dK (.mk nm a k t)))/\O'.hp O1.N=some (.cells (FU ⟨if k.length=0 then 2 else 1,nm,a,[],0,0,0⟩))) ?_ ?_
     ·have o5:=aI.trans aB;by_cases h0:k.length=0
      ·refine ξ @fc @bM ?_;refine ο @fc @h0 ?_;exact aA.mk () ⟨o5,rfl,by rw[bM,dK],by rw[hkt];rfl⟩
      ·have h1:0<k.length:=by omega
       refine ξ @fc @bM ?_;refine ο @fc @hkt ?_;refine aA.mk () ⟨o5.set (by omega) _,rfl,?_,?_⟩
       ·rw[π _ _ (by omega),bM,dK]
       ·rw[ρ,if_neg h0];rfl
     rintro⟨⟩ O3 ⟨aH,gy,dR,agC⟩;have cB:=h.ge aH;simp only[dK]at dR;generalize hX:(⟨if k.length=0 then 2 else 1,nm,a,[],0,0,0⟩:RG)=X at*;have uX:=NS X vo;simp only[zP]at hs;have hXc:FU X=[mi X.k,.str X.n,.sl X.gk.length (X.gk.flatMap bm) .au,.str X.t,mi X.off,mi X.line,mi X.FT]:=rfl;rw[hXc,aq,aq,aq,aq]at agC;refine ξ @fc @agC ?_;refine ah.rt (Xx X .full vo) ?_;rintro _ O4 ⟨rfl,aY⟩;refine ab @fc ?_;refine ah.rt (bV (zC X) (cB.ge aY) (by omega)) ?_;rintro _ O5 ⟨rfl,q5,du,rA⟩;have Uk:fI O b q O5 q5:=(fI.lp (aH.trans aY)).trans rA;have gK:=(rA.hp O.N (by have:=aY.N;omega) (by have:=h.hi;omega) (h.Uh _ (Zj _))).trans (aY.at dR);refine ab @fc ?_;have v_:q5≠some O.N:=rA.new O.N (by have:=aY.N;omega) (h.Uh _ (Zj _));have eU:O.N<O5.N:=by have:=rA.N;have:=aY.N;omega
     refine Θ [1,2,3] (fun q':Option Nat=>[.ptr b 0,.ptr lk 0,.ptr O.N 0]) (fun q' O'=>fI O5 b q5 O' q'/\gE O' B b q' (s++zC X++aX k)) ?_ ?_
     ·refine ξ @fc @gK ?_;refine τ ?_;refine Γ [31] [1,2,3,29,30] (fun x:Nat×Option Nat=>[mi x.1]) (fun x O'=>fI O5 b q5 O' x.2/\gE O' B b x.2 (s++zC X++aX (k.take x.1))/\x.1<=k.length) (fun x=>k.length - x.1) ((0,q5)) ?_ ?_
      ·exact⟨fI.lp (VH.Ge.refl _),by simpa[aX]using du,adZ _⟩
      rintro⟨j,qj⟩ O6 ⟨r_,jz,hj⟩;dsimp only at r_ jz hj ⊢;by_cases aM:j<k.length;rotate_left
      ·obtain rfl:j=k.length:=by omega
       rw[ahJ]at jz;refine ν @fc ?_;exact aA.mk qj ⟨r_,jz⟩
      have bG:=ct mG k j aM;rw[<-qH]at bG;have Ul:=dA k;have gY:aX (k.take (j+1))=aX (k.take j)++cG k[j]:=by rw[dz _ _ aM,uP,aX,aX,adX]
      have kZ:(aX k).length=(aX (k.take j)).length+(cG k[j]).length+(aX (k.drop (j+1))).length:=by
       rw[<-zP, <-gY, <-zP, <-uP,List.take_append_drop]
      have pC:eI k[j]<=N:=by have:=A_ (ajk aM);omega
      have F0:=FY hks (ajk aM);generalize k[j]=y at*;have zb:=Uk.trans r_;have akz:=(zb.hp lk y_ Ca oG).trans eD;have akA:=zb.new lk y_ oG;have ih:=fun OO h1 h2 h3=>abe N y OO B b lk qj (s++zC X++aX (k.take j)) pC h1 h2 h3 Ca akA (by simp only[zP];omega) F0
      generalize aX (k.take j)=T at*;cases y with
      | mk yn ya yk yt=>
        simp only[dK]at bG ih;refine κ @fc ?_;refine κ @fc ?_;refine χ (τ ?_);refine ξ @fc @bG ?_;refine VC.al ?_;rintro O7 ⟨eV,nE,uY⟩;have agD:=(eV.hp lk (by have:=zb.N;omega)).trans akz;refine ι (aG @fc @nE @agD ?_);refine ah.rt (ih O7 (jz.ge eV) agD (by have:=zb.N;omega)) ?_;rintro _ O8 ⟨q8,t_,rB⟩;refine ab @fc ?_;refine ν @fc ?_;exact az.N (j+1,q8) ⟨(r_.trans (fI.lp eV)).trans rB,by rw[gY, <-ajn];exact t_,aM⟩
     rintro q6 O6 ⟨r_,jz⟩;have p9:=(r_.hp O.N eU (by have:=h.hi;omega) v_).trans gK;have NT:=Uk.trans r_;by_cases h0:k.length=0
     ·rw[if_pos h0];refine ο @fc @p9 ?_;exact⟨q6,by simpa[ajn]using jz,NT⟩
     ·rw[if_neg h0]at hs ⊢;simp only[zP,Qm,Ma]at hs;refine ο @fc @p9 ?_;refine ah.rt (bV ([60,47]++nm++[62]) jz (by simp only[zP,Qm,Ma];omega)) ?_;rintro _ O7 ⟨rfl,q7,zD,DP⟩;refine ab @fc ?_;exact⟨q7,by simpa[ajn]using zD,NT.trans DP⟩
theorem Xz (x:Nd) (O:VH) (hs:(cG x).length<=10000000000000) (dP:AZ x):VF Tryz.prog 36 [.agg (dK x)] O (aD fun m O'=>m= .str (cG x)/\O.Ge O'):=by
 have lay:=abe (eI x) x;generalize cG x=T at*;cases x with
 | mk n a k t=>
   simp only[dK]at lay ⊢;refine υ 10 [.tmp 2] Tryz.func36 ?_;refine κ @fc ?_;refine VC.bx ?_;rintro O1 ⟨aI,hk,cW⟩;refine κ @fc ?_;have v8:=gE.fresh O1 (Zj O1.N);have mT:O1.Ge ((O1.push (.cells [.v (.pointer none),.sl 0 [] .nil])).push (.shape O1.N 155 2)):=((VH.Ge.refl O1).push _).push _;have RJ:=v8.hi;generalize ((O1.push (.cells [.v (.pointer none),.sl 0 [] .nil])).push (.shape O1.N 155 2))=O2 at*;refine κ @fc ?_;refine κ @fc ?_;refine VC.al ?_;rintro O3 ⟨aH,dR,gy⟩;have cA:=(aH.hp O.N (by have:=mT.N;omega)).trans ((mT.hp O.N (by omega)).trans hk);refine θ (aG @fc @dR @cA ?_);refine ah.rt (lay O3 O1.N O1.N O2.N none [] (Zj _) (v8.ge aH) dR (by omega) (by omega) (by simp) (by simpa using hs) dP) ?_;rintro _ O4 ⟨q,dd,fD⟩;rw[adW]at dd;refine ab @fc ?_;refine ν @fc ?_;refine ah.rt (qD dd (by simp only[maxLen];omega)) ?_;rintro _ O5 ⟨rfl,rA⟩;refine ab @fc ?_;exact(fD.B9 (aI.trans (mT.trans aH)) (by omega)).Uj rA (fun i e=>by have:=dd.yA i e;omega)
def Nd.nm:Nd->Bs
 | .mk n _ _ _=>n
def Nd.kids:Nd->List Nd
 | .mk _ _ k _=>k
def Nd.tx:Nd->Bs
 | .mk _ _ _ t=>t
def kN (name:Bs) (y:Nd):Bool:=y.nm != []&&(name==[]||y.nm==name)
def cS (x:Nd) (name:Bs):List Nd:=x.kids.filter (kN name)
theorem Eg (x:Nd) (name:Bs) (O:VH) (hk:x.kids.length<=1000000):VF Tryz.prog 284 [.agg (dK x),.str name] O (aD fun m O'=>∃tk,m= .sl (cS x name).length (aC (cS x name)) tk/\O.Ge O'):=by
 obtain⟨n,a,k,t⟩:=x;simp only[Nd.kids]at hk;unfold cS;simp only[Nd.kids,dK];refine υ 33 [.tmp 4] Tryz.func284 ?_;refine κ @fc ?_;refine VC.bx ?_;rintro O1 ⟨aI,cA,cW⟩;refine VC.join aa [4] (fun tk:Tok=>[.sl (k.filter (kN name)).length (aC (k.filter (kN name))) tk]) (fun tk O'=>O.Ge O') ?_ ?_;rotate_left
 ·intro tk O9 bj;refine ab @fc ?_;exact⟨tk,rfl,bj⟩
 refine ξ @fc @cA ?_;refine τ ?_;refine Γ [4,10] [1,8,9] (fun x:Nat×Tok=>[.sl ((k.take x.1).filter (kN name)).length (aC ((k.take x.1).filter (kN name))) x.2,mi x.1]) (fun x O'=>O.Ge O'/\App O' O.N 4 x.2/\x.1<=k.length) (fun x=>k.length - x.1) ((0,.nil)) ?_ ?_
 ·exact⟨aI,trivial,adZ _⟩
 rintro⟨j,tk⟩ O2 ⟨aB,cf,hj⟩;dsimp only at cf hj ⊢;by_cases aM:j<k.length;rotate_left
 ·obtain rfl:j=k.length:=by omega
  rw[ahJ];refine ν @fc ?_;exact aA.mk tk aB
 have bG:=ct mG k j aM;rw[<-qH]at bG;have Ul:=dA k
 have gY:(k.take (j+1)).filter (kN name)=(k.take j).filter (kN name)++if kN name k[j]then[k[j]]else[]:=by
  rw[dz _ _ aM,List.filter_append]
  congr 1
  cases h:kN name k[j]<;>simp[h]
 have HN:((k.take j).filter (kN name)).length<=1000000:=Vq (ajr _ _) (by rw[ahK];omega);generalize k[j]=y at*;generalize (k.take j).filter (kN name)=E at*;obtain⟨yn,ya,yk,yt⟩:=y;have fu:=AV (.mk yn ya yk yt);have hln:=mG (.mk yn ya yk yt);have abf:aC [.mk yn ya yk yt]=dK (.mk yn ya yk yt):=by rw[aC,aC,adX]
 simp only[dK]at bG fu hln abf;refine κ @fc ?_;refine κ @fc ?_;refine χ (τ ?_);refine ξ @fc @bG ?_;refine VC.al ?_;rintro O3 ⟨aH,nE,gy⟩;have lu:=cf.ge aH;have I5:=aB.trans aH;have yes:kN name (.mk yn ya yk yt)=true->(k.take (j+1)).filter (kN name)=E++[.mk yn ya yk yt]:=fun h=>by rw[gY,h,if_pos rfl]
 have nay:kN name (.mk yn ya yk yt)=false->(k.take (j+1)).filter (kN name)=E:=fun h=>by rw[gY,h,if_neg (by simp),adX]
 have hik:kN name (.mk yn ya yk yt)=(yn != []&&(name==[]||yn==name)):=rfl;rw[hik]at yes nay;cases h1:yn==[]
 ·cases h2:name==[]
  ·cases h3:yn==name
   ·have hn:=nay (by simp[bne,h1,h2,h3]);refine ι (iN @fc @nE @h1 @h2 @h3 ?_);refine ν @fc ?_;exact az.N (j+1,tk) ⟨I5,lu,aM⟩ (hl:=(by dsimp only;rw[hn];rfl))
   ·have hn:=yes (by simp[bne,h1,h2,h3]);refine ι (iN @fc @nE @h1 @h2 @h3 ?_);obtain⟨mE,gV,lQ⟩:=gG (n:=E.length) (cs:=aC E) (ds:=[.str yn,.sl ya.length (ya.flatMap bm) .au,.sl yk.length (aC yk) .au,.str yt]) vX DJ.1.1 lu (dA E) rfl rfl (by decide) (by omega) (by simp only[maxLen];omega) (fq E) fu;refine η gV lQ ?_;refine ab @fc ?_;refine ν @fc ?_;exact az.N (j+1,.own O3.N 4) ⟨b_.en I5 lu (b_.after lu),App.after I5.N,aM⟩ (hl:=(by dsimp only;rw[hn,eH,zP,abf];rfl))
  ·have hn:=yes (by simp[bne,h1,h2]);refine ι (cR @fc @nE @h1 @h2 ?_);obtain⟨mE,gV,lQ⟩:=gG (n:=E.length) (cs:=aC E) (ds:=[.str yn,.sl ya.length (ya.flatMap bm) .au,.sl yk.length (aC yk) .au,.str yt]) vX DJ.1.1 lu (dA E) rfl rfl (by decide) (by omega) (by simp only[maxLen];omega) (fq E) fu;refine η gV lQ ?_;refine ab @fc ?_;refine ν @fc ?_;exact az.N (j+1,.own O3.N 4) ⟨b_.en I5 lu (b_.after lu),App.after I5.N,aM⟩ (hl:=(by dsimp only;rw[hn,eH,zP,abf];rfl))
 ·have hn:=nay (by simp[bne,h1]);refine ι (aG @fc @nE @h1 ?_);refine ν @fc ?_;exact az.N (j+1,tk) ⟨I5,lu,aM⟩ (hl:=(by dsimp only;rw[hn];rfl))
def jn (k:List Nd):Bs:=k.flatMap fun y=>bif y.nm==[]then y.tx else[]
def ue (x:Nd):Bs:=trimB (jn x.kids)
theorem NU {k:List Nd} {j:Nat} (h:j<k.length):jn (k.take (j+1))=jn (k.take j)++bif k[j].nm==[]then k[j].tx else[]:=by
 unfold jn;rw[dz _ _ h,ajm,ahL,ajp,adX]
theorem I6 {k:List Nd}:∀j,(jn (k.take j)).length<=(jn k).length:=fun j=>by
 have:jn k=jn (k.take j)++jn (k.drop j):=by unfold jn;rw[<-ajm,List.take_append_drop]
 rw[this,zP];omega
theorem abg (x:Nd) (O:VH) (hk:x.kids.length<=1000000) (ht:(jn x.kids).length<=1000000000):VF Tryz.prog 304 [.agg (dK x)] O (aD fun m O'=>m= .str (ue x)/\O.Ge O'):=by
 obtain⟨n,a,k,t⟩:=x;simp only[Nd.kids]at hk ht;unfold ue;simp only[Nd.kids,dK];refine υ 23 [.tmp 2] Tryz.func304 ?_;refine κ @fc ?_;refine VC.bx ?_;rintro O1 ⟨aI,cA,cW⟩;refine κ @fc ?_;refine VC.join aa [3] (fun _:Unit=>[.str (jn k)]) (fun _ O'=>O.Ge O') ?_ ?_;rotate_left
 ·intro _ O9 bj;refine ab @fc ?_;refine ah.rt (KN (jn k) _ (Vq ht (by decide))) ?_;rintro _ O8 ⟨rfl,rfl⟩;refine ab @fc ?_;exact bj
 refine ξ @fc @cA ?_;refine τ ?_;refine Γ [3,9] [7,8] (fun j:Nat=>[.str (jn (k.take j)),mi j]) (fun j O'=>O.Ge O'/\j<=k.length) (fun j=>k.length - j) (0) ?_ ?_
 ·exact⟨aI,adZ _⟩
 rintro j O2 ⟨aB,hj⟩;by_cases aM:j<k.length;rotate_left
 ·obtain rfl:j=k.length:=by omega
  rw[ahJ];refine ν @fc ?_;exact aA.mk () aB
 have bG:=ct mG k j aM;rw[<-qH]at bG;have Ul:=dA k;have gY:=NU aM;have hle:=I6 (k:=k) (j+1);have Um:=I6 (k:=k) j;generalize k[j]=y at*;generalize jn (k.take j)=E at*;obtain⟨yn,ya,yk,yt⟩:=y;simp only[dK]at bG;simp only[Nd.nm,Nd.tx]at gY;refine κ @fc ?_;refine κ @fc ?_;refine χ (τ ?_);refine ξ @fc @bG ?_;refine VC.al ?_;rintro O3 ⟨aH,nE,gy⟩;cases h1:yn==[]
 ·rw[h1,cond_false,adX]at gY;refine ι (aG @fc @nE @h1 ?_);refine ν @fc ?_;exact az.N (j+1) ⟨aB.trans aH,aM⟩ (hl:=(by rw[gY];rfl))
 ·rw[h1,cond_true]at gY;rw[gY,zP]at hle;refine ι (aG @fc @nE @h1 ?_);refine ν @fc ?_;exact az.N (j+1) ⟨aB.trans aH,aM⟩ (hl:=(by rw[gY];rfl))
set_option linter.defProp false in
def bI:=Qn fc<|Qn agz<|Qn aa7<|Qn aa8 T87
def uf (e:Int) (w:Bs):MV:=.iface 401 (.agg [mi e,.str w])
theorem akB {p:MV}:Kz 401 (bY Tryz.prog 401) (some p)=some (.iface 401 p):=by rw[agz.1.1];rfl
theorem mI (e:Int) (w:Bs) (O:VH):VF Tryz.prog 263 [mi e,.str w] O fun r O'=>O'=O/\match r with
  | .ret _=>False
  | .panic m=>m=uf e w:=by
 refine Δ 8 [] Tryz.func263 ?_;refine cR @bI @wi @wd @akB ?_;refine VL.panic rfl rfl rfl ?_;refine ab @wd ?_;rfl
theorem afb (s:Bs) (O:VH):VF Tryz.prog 266 [.str s] O (aD fun m O'=>m=mb true/\O.Ge O'):=by
 refine Δ 3 [.tmp 2] Tryz.func266 ?_;refine ab @bI ?_;exact VH.Ge.refl _
def nj (s:Bs):Bool:=s==kM||s==lP
theorem RL (s:Bs) (O:VH):VF Tryz.prog 308 [.str s] O (aD fun m O'=>m=mb (nj s)/\O.Ge O'):=by
 unfold nj;refine Δ 9 [.tmp 2] Tryz.func308 ?_;cases h1:s==kM<;>cases h2:s==lP
 all_goals
  simp only[kM,lP]at h1 h2;refine aG @bI @h1 @h2 ?_;exact VH.Ge.refl _
theorem XA (s:Bs) (O:VH) (hs:s.length<=maxLen):VF Tryz.prog 309 [.str s] O (aD fun m O'=>m=mb (AU ⟨s,s⟩)/\O.Ge O'):=by
 refine Δ 7 [.tmp 2] Tryz.func309 ?_;refine ab @bI ?_;refine ah.rt (HL ⟨s,s⟩ _ hs hs) ?_;rintro _ O2 ⟨rfl,hg⟩;refine ab @bI ?_;exact hg
def NV (n:Nat):Bs:=[UInt8.ofNat (48+n % 10)]
def Dc:Nat->Nat->Bs
 | 0,_=>[]
 | k+1,n=>if n=0 then[]else Dc k (n / 10)++NV n
def me (n:Nat):Bs:=Dc (n+1) n
theorem zE:∀(k n:Nat),n<k->Dc k n=Dc (n+1) n
 | 0,n,h=>by omega
 | k+1,n,h=>by
   rw[Dc,Dc];split
   ·rfl
   ·rw[zE k (n / 10) (by omega),zE n (n / 10) (by omega)]
theorem Cb {n:Nat} (h:0<n):me n=me (n / 10)++NV n:=by
 unfold me;rw[Dc,if_neg (by omega),zE n (n / 10) (by omega)]
theorem sN (n:Nat):(me n).length<=n:=by
 induction n using Nat.strongRecOn with
 | _ n ih=>
   rcases ana n with rfl | h
   ·simp[me,Dc]
   ·rw[Cb h,zP];have:=ih (n / 10) (by omega);simp only[NV,Qm,Ma];omega
theorem NW (d:Nat) (h:d<10):(([48,49,50,51,52,53,54,55,56,57]:Bs).drop d).take (d+1 - d)=[UInt8.ofNat (48+d)]:=by
 rw[show d+1 - d=1 by omega];rcases(show d=0\/d=1\/d=2\/d=3\/d=4\/d=5\/d=6\/d=7\/d=8\/d=9 by omega)with rfl | rfl | rfl | rfl | rfl | rfl | rfl | rfl | rfl | rfl<;>rfl
theorem F1 (n:Nat) (O:VH) (hn:n<=1000000000):VF Tryz.prog 305 [mi n] O (aD fun m O'=>m= .str (me n)/\O'=O):=by
 have uZ:=sN n;refine Δ 17 [.tmp 2] Tryz.func305 ?_;refine ab @bI ?_;refine WC.jm [0,3] [] (fun x:Nat×Bs=>[mi x.1,.str x.2]) (fun x O'=>O'=O/\me n=me x.1++x.2/\x.1<=n) (fun x=>x.1) ((n,[])) ?_ ?_
 ·exact⟨rfl,by simp,Zj _⟩
 rintro⟨k,s⟩ O2 ⟨eO,hk,zc⟩;dsimp only at hk zc ⊢;rw[eO];clear eO O2
 rcases ana k with rfl | hp
 ·have h0:me 0=[]:=rfl;rw[h0,adW]at hk;refine ab @bI ?_;exact congrArg MV.str hk.symm
 ·have hd:=NW (k % 10) (by omega);have hl:(me n).length=(me k).length+s.length:=by rw[hk,zP]
  have hr:(k:Int).tmod 10=((k % 10:Nat):Int):=by rw[Int.tmod_eq_emod_of_nonneg (by omega)];rfl
  have hq:(k:Int).tdiv 10=((k / 10:Nat):Int):=by rw[Int.tdiv_eq_ediv_of_nonneg (by omega)];rfl
  refine cR @bI @hr @hq @hd ?_;refine az.N (k / 10,NV k++s) ⟨rfl,?_,by dsimp only;omega⟩;rw[hk,Cb hp,ajn]
theorem afc {e:Int} {w:Bs}:au (uf e w)=uf e w:=by simp only[uf,wu,aq]
def k6 (x:Nd) (w:Bs):List MV:=dK x++[.str w]
def RM:Nd:=.mk [] [] [] []
def cH (x:Nd) (w name:Bs):Except (Int×Bs) ((Nd×Bs)×Bool):=
 match cS x name with
 | []=>.ok ((RM,w++[47]++name),false)
 | [y]=>.ok ((y,w++[47]++name),true)
 | _=>.error (20,w++[47]++name++[91,50,93])
def FQ {α :Type} (O:VH) (f:Except (Int×Bs) α) (R: α ->MV->Prop):gC->VH->Prop:=fun r O'=>O.Ge O'/\match r,f with
 | .ret m,.ok x=>R x m
 | .panic m,.error e=>m=uf e.1 e.2
 | _,_=>False
theorem sO (x:Nd) (w name:Bs) (O:VH) (hk:x.kids.length<=1000000) (hw:w.length<=1000000) (hn:name.length<=1000000):VF Tryz.prog 264 [.agg (k6 x w),.str name] O (FQ O (cH x w name) fun y m=>m= .tuple [.agg (k6 y.1.1 y.1.2),mb y.2]):=by
 refine VF.fgR ?_;have qI:=Eg x name;have fQ:(cS x name).length<=1000000:=Vq (ajr _ _) hk
 have HO:cH x w name=match cS x name with
  | []=>.ok ((RM,w++[47]++name),false)
  | [y]=>.ok ((y,w++[47]++name),true)
  | _=>.error (20,w++[47]++name++[91,50,93]):=rfl
 generalize cH x w name=F at*;generalize cS x name=K at*;obtain⟨n,a,k,t⟩:=x;simp only[k6,dK,adY,adW]at qI ⊢;refine υ 34 [.cell 4 403,.tmp 5] Tryz.func264 ?_;refine κ @bI ?_;refine VC.bx ?_;rintro O1 ⟨aI,DC,cW⟩;have eP:O1.hp O.N=some (.cells [.str n,.sl a.length (a.flatMap bm) .au,.sl k.length (aC k) .au,.str t,.str w]):=(aI.hp _ (ajo _)).trans (Ξ _ _)
 replace DC:O1.hp (O.N+1)=some (.cells [.str [],.sl 0 [] .nil,.sl 0 [] .nil,.str [],.str []]):=DC
 have akC:O.Ge O1:=((VH.Ge.refl O).push _).trans aI
 replace cW:O1.N=O.N+2:=cW
 clear aI;refine ξ @bI @eP ?_;refine ah.rt (qI O1 hk) ?_;rintro _ O2 ⟨tk,rfl,aB⟩;have jb:=aB.at eP;have tG:=aB.at DC;have fA:=akC.trans aB;refine ab @bI ?_;refine ξ @bI @jb ?_
 match K,HO with
 | [],HO=>
   subst HO;refine ι (aG @bI @tG @Ma.{0} ?_);refine⟨fA.set (by omega) _,?_⟩;simp only[k6,RM,dK,wu,bw];rfl
 | [.mk yn ya yk yt],HO=>
   subst HO;have fu:=AV (.mk yn ya yk yt);simp only[dK]at fu;have c6:aC [.mk yn ya yk yt]=[.str yn,.sl ya.length (ya.flatMap bm) .au,.sl yk.length (aC yk) .au,.str yt]:=by rw[aC,aC,adX,dK]
   rw[c6];refine ι (cR @bI @tG @Qm.{0} @Ma.{0} ?_);refine⟨fA.set (by omega) _,?_⟩;show _=_;rw[dK,gH,fq];rfl
 | y::z::r,HO=>
   subst HO;simp only[Qm]at fQ;refine ο @bI @Qm.{0} ?_;refine ah.p (mI _ _ _) ?_ ?_
   ·rintro m O3 ⟨_,h⟩;exact h.elim
   rintro m O3 ⟨rfl,rfl⟩;refine ab @bI ?_;exact⟨fA,afc⟩
def qJ (x:Nd) (w:Bs) (empty:Bool):Except (Int×Bs) Bs:=
 if 0<(cS x []).length\/1024<(ue x).length\/(ue x=[]/\empty=false)then .error (20,w)else .ok (ue x)
theorem NX (x:Nd) (w:Bs) (empty:Bool) (O:VH) (hk:x.kids.length<=1000000) (ht:(jn x.kids).length<=1000000000):VF Tryz.prog 285 [.agg (k6 x w),mb empty] O (FQ O (qJ x w empty) fun y m=>m= .str y):=by
 have qI:=Eg x [];have abh:=abg x;have fQ:(cS x []).length<=1000000:=Vq (ajr _ _) hk;have QA:(ue x).length<=1000000000:=Vq (RD _) ht;unfold qJ;generalize cS x []=K at*;generalize ue x=T at*;obtain⟨n,a,k,t⟩:=x;simp only[k6,dK,adY,adW]at qI abh ⊢;refine υ 31 [.tmp 4] Tryz.func285 ?_;refine κ @bI ?_;refine VC.bx ?_;rintro O1 ⟨aI,eP,cW⟩;refine ξ @bI @eP ?_;refine ah.rt (abh O1 hk ht) ?_;rintro _ O2 ⟨rfl,aB⟩;have jb:=aB.at eP;have eZ:=aB.N;refine ab @bI ?_;refine ξ @bI @jb ?_;refine ah.rt (qI O2 hk) ?_;rintro _ O3 ⟨tk,rfl,aH⟩;have lS:=aH.at jb;have ew:=(aI.trans aB).trans aH;by_cases h1:0<K.length
 ·rw[if_pos (.inl h1)];refine ao @bI @lS ?_;refine ah.p (mI _ _ _) ?_ ?_
  ·rintro m O4 ⟨_,h⟩;exact h.elim
  rintro m O4 ⟨rfl,rfl⟩;refine ab @bI ?_;exact⟨ew,rfl⟩
 by_cases h2:1024<T.length
 ·rw[if_pos (.inr (.inl h2))];refine ao @bI @lS ?_;refine ah.p (mI _ _ _) ?_ ?_
  ·rintro m O4 ⟨_,h⟩;exact h.elim
  rintro m O4 ⟨rfl,rfl⟩;refine ab @bI ?_;exact⟨ew,rfl⟩
 cases T with
 | nil=>
   cases empty
   ·rw[if_pos (.inr (.inr ⟨rfl,rfl⟩))];refine cR @bI @lS (show(([]:List UInt8)==[])=true from rfl) @Ma.{0} ?_;refine ah.p (mI _ _ _) ?_ ?_
    ·rintro m O4 ⟨_,h⟩;exact h.elim
    rintro m O4 ⟨rfl,rfl⟩;refine ab @bI ?_;exact⟨ew,rfl⟩
   ·rw[if_neg (fun h=>by rcases h with h | h | ⟨_,h⟩;exact h1 h;exact h2 h;cases h)];refine cR @bI @lS (show(([]:List UInt8)==[])=true from rfl) @Ma.{0} ?_;refine ν @bI ?_;exact⟨ew,rfl⟩
 | cons c T=>
   rw[if_neg (fun h=>by rcases h with h | h | ⟨h,_⟩;exact h1 h;exact h2 h;cases h)];refine aG @bI @lS (show((c::T)==[])=false from rfl) ?_;refine ν @bI ?_;exact⟨ew,rfl⟩
def jI:List (Bs×Bs)->Nat
 | []=>0
 | x::r=>1+x.1.length+x.2.length+jI r
mutual
def k7:Nd->Nat
 | .mk n a k t=>1+n.length+t.length+jI a+kC k
def kC:List Nd->Nat
 | []=>0
 | x::r=>k7 x+kC r
end
theorem Ba (n:Bs) (a:List (Bs×Bs)) (k:List Nd) (t:Bs):k7 (.mk n a k t)=1+n.length+t.length+jI a+kC k:=by rw[k7]
theorem NY (x:Nd):1<=k7 x:=by cases x;rw[k7];omega
theorem Cc:∀k:List Nd,k.length<=kC k
 | []=>by simp
 | x::r=>by rw[kC,Qm];have:=Cc r;have:=NY x;omega
theorem I7:∀{k:List Nd} {x:Nd},x∈k->k7 x<=kC k
 | y::r,x,h=>by
   rw[kC];rcases am9.1 h with rfl | h
   ·omega
   ·have:=I7 h;omega
theorem xB (x:Nd):kC x.kids<k7 x:=by cases x;rw[k7,Nd.kids];omega
theorem kG (x:Nd):x.kids.length<=k7 x:=Vq (Cc _) (am6 (xB x))
theorem F2:∀k:List Nd,(jn k).length<=kC k
 | []=>by simp[jn]
 | x::r=>by
   have ih:=F2 r;unfold jn at ih ⊢;rw[ahL,zP,kC]
   have:(bif x.nm==[]then x.tx else[]).length<=k7 x:=by
    cases x with
    | mk n a k t=>
      rw[k7];cases(Nd.mk n a k t).nm==[]
      ·simp
      ·show t.length<=_;omega
   omega
theorem RN {x y:Nd} {name:Bs} (h:y∈cS x name):k7 y<k7 x:=Nat.lt_of_le_of_lt (I7 ((List.mem_filter.1 h).1)) (xB x)
def KR (sP:Bool) (right:Bs->Bool) (wy:Bs) (b:Bool) (T:Except (Int×Bs) Bs):Except (Int×Bs) Bs:=
 match b,T with
 | false,_=>if sP then .error (20,wy)else .ok []
 | true,.error e=>.error e
 | true,.ok s=>if right s then .ok s else .error (20,wy)
def bX (x:Nd) (w name:Bs) (sP:Bool) (right:Bs->Bool):Except (Int×Bs) Bs:=
 match cH x w name with
 | .error e=>.error e
 | .ok y=>KR sP right y.1.2 y.2 (qJ y.1.1 y.1.2 false)
theorem sQ {x:Nd} {w name:Bs} {y:Nd} {wy:Bs} {b:Bool} (h:cH x w name= .ok ((y,wy),b)):k7 y<=k7 x/\wy=w++[47]++name:=by
 unfold cH at h;split at h
 ·injection h with h;injection h with h _;injection h with h1 h2
  subst h1;subst h2
  exact⟨by simp only[RM,Ba,jI,kC,Ma];exact NY x,rfl⟩
 ·rename_i z hz;injection h with h;injection h with h _;injection h with h1 h2
  subst h1;subst h2
  exact⟨am6 (RN (by rw[hz];simp)),rfl⟩
 ·cases h
theorem RP {y:Nd} {w:Bs} {e:Bool} {s:Bs} (h:qJ y w e= .ok s):s.length<=1024:=by
 unfold qJ at h;split at h
 ·cases h
 ·rename_i hn;injection h with h;subst h
  exact Nat.le_of_not_lt fun hh=>hn (.inr (.inl hh))
theorem qK (x:Nd) (w name:Bs) (sP:Bool) (right:Bs->Bool) (id:FuncId) (cs:List MV) (O:VH) (hx:k7 x<=1000000) (hw:w.length<=10000) (hn:name.length<=10000) (hid:db Tryz.prog id=true)
  (hr:∀s O',O.Ge O'->s.length<=1024->VF Tryz.prog id ([.str s]++cs) O' (aD fun m mz=>m=mb (right s)/\O'.Ge mz)):
  VF Tryz.prog 265 [.agg (k6 x w),.str name,mb sP,.func (.func id) [] cs] O (FQ O (bX x w name sP right) fun y m=>m= .str y):=by
 have wa:=sO x w name;have fQ:=kG x;have wc:= @sQ x w name;have we:∀e,cH x w name= .error e->bX x w name sP right= .error e:=fun e h=>by unfold bX;rw[h]
 have oH:∀y wy b,cH x w name= .ok ((y,wy),b)->bX x w name sP right=KR sP right wy b (qJ y wy false):=fun y wy b h=>by unfold bX;rw[h]
 generalize bX x w name sP right=WE at*;generalize cH x w name=F at*;obtain⟨n,a,k,t⟩:=x;generalize hW:k7 (.mk n a k t)=W at*;simp only[k6,dK,adY,adW]at wa ⊢;refine υ 34 [.tmp 8] Tryz.func265 ?_;refine κ @bI ?_;refine VC.bx ?_;rintro O1 ⟨aI,eP,cW⟩;refine θ ?_;refine ao @bI @eP ?_;refine ah.p (wa O1 (by omega) (by omega) (by omega)) ?_ ?_;rotate_left
 ·rintro m O2 ⟨aB,h⟩;cases F with
  | ok y=>exact h.elim
  | error e=>
    dsimp only at h;rw[we e rfl];refine ab @bI ?_;exact⟨aI.trans aB,h⟩
 rintro m O2 ⟨aB,h⟩;cases F with
 | error e=>exact h.elim
 | ok y=>
 obtain⟨⟨y,wy⟩,b⟩:=y;dsimp only at h;subst h;obtain⟨hyW,wg⟩:=wc rfl;rw[oH _ _ _ rfl];clear we oH;have oI:wy.length<=30000:=by rw[wg];simp only[zP,Qm,Ma];omega
 clear wc wg;have akD:=kG y;have vU:=Vq (F2 y.kids) (am6 (xB y));have HK:=NX y wy false;have QA:= @RP y wy false;generalize qJ y wy false=T at*;obtain⟨yn,ya,yk,yt⟩:=y;simp only[k6,dK,adY,adW]at HK ⊢;refine ab @bI ?_;refine VC.al ?_;rintro O3 ⟨aH,NZ,gy⟩;have ew:=(aI.trans aB).trans aH;cases b
 ·cases sP
  ·refine ν @bI ?_;exact⟨ew,rfl⟩
  ·refine ο @bI @NZ ?_;refine ah.p (mI _ _ _) ?_ ?_
   ·rintro m O9 ⟨_,h⟩;exact h.elim
   rintro m O9 ⟨rfl,rfl⟩;refine ab @bI ?_;exact⟨ew,rfl⟩
 ·refine ο @bI @NZ ?_;refine ah.p (HK O3 (by omega) (by omega)) ?_ ?_;rotate_left
  ·rintro m O4 ⟨aY,h⟩;cases T with
   | ok s=>exact h.elim
   | error e=>
     dsimp only at h;refine ab @bI ?_;exact⟨ew.trans aY,h⟩
  rintro m O4 ⟨aY,h⟩;cases T with
  | error e=>exact h.elim
  | ok s=>
  dsimp only at h;subst h;have hy4:=aY.at NZ;have gW:=ew.trans aY;have gO:=aY.N;refine ab @bI ?_;refine ah.rt (hr s O4 gW (QA rfl)) ?_ (hb:=hid);rintro _ O5 ⟨rfl,bD⟩;have hy5:=bD.at hy4;unfold KR;dsimp only;cases right s
  ·refine ao @bI @hy5 ?_;refine ah.p (mI _ _ _) ?_ ?_
   ·rintro m O9 ⟨_,h⟩;exact h.elim
   rintro m O9 ⟨rfl,rfl⟩;refine ab @bI ?_;exact⟨gW.trans bD,rfl⟩
  ·refine ao @bI @hy5 ?_;exact⟨gW.trans bD,rfl⟩
section
variable {G H:Gh} {n:Sz} {D:List Deferred} {e e':Env} {a:Act} {P:Program} {tab:cj} {O O':VH} {w:World} {m m':MV} {u v:Value} {ops:Array Oper} {Q:VQ} {md:Md}
theorem ae.pair {brk:List Nat} {Ψ :Gh->Prop} {J:VH->Prop} {Z:Prop} {fuel i j:Nat} {listed:Array Bool}
  (h1:aL P n D ops i e O Q fun e' O'=>J O'/\ae P n D ops brk J Ψ Z fuel (listed.setIfInBounds i true) e' O' Q) (h2:aL P n D ops j e O Q fun e' O'=>J O'/\ae P n D ops brk J Ψ Z fuel (listed.setIfInBounds j true) e' O' Q) (hr:Region.ready .any ops listed=[i,j]:=by kernel_rfl):ae P n D ops brk J Ψ Z (fuel+1) listed e O Q:=by
 intro hΨ hZ hJ G a w hψ hw aW
 have key:∀x,(aL P n D ops x e O Q fun e' O'=>J O'/\ae P n D ops brk J Ψ Z fuel (listed.setIfInBounds x true) e' O' Q)->wpOp P ops (cM G n D Q) x (fun a' w'=>TE brk G J x w'/\jB P .any ops (cM G n D Q) (TE brk G J) fuel (listed.setIfInBounds x true) a' w') a w:=fun x h=>
  wpOp_mono (fun a' w' ⟨e',O',H,h1,h2,h3,h4,h5⟩=>⟨TE.mk ⟨H,O',h1,h2,h4⟩,jX (fun _ _ _=>cM.le h1) _ _ _ _ (fun k _ x hT=>hT.le h1) (h5 hΨ hZ h4 H a' w' (hΨ _ _ h1 hψ) h2 h3)⟩) (h G a w hw aW)
 refine jW hr (by simp) fun x hx=>?_
 simp only[am9,List.not_mem_nil,or_false]at hx;rcases hx with rfl | rfl
 ·exact key _ h1
 ·exact key _ h2
theorem aL.j8 {i:Nat} {l:List Oper} {d:Option Tmp} {f:Operand} {xs:Array Operand} {ts:Array TypeId} {ty:TypeId} {ps:String} {af:Array Edge} {g:Option (Nat×Bool)} {id:FuncId} {ms:List MV} {Φ :MV->VH->Prop} {K:Env->VH->Prop} (hR:VF P id ms O (aD Φ))
  (h:∀m O', Φ m O'->K (aZ d m e) O') (ho:l[i]?=some (.mk d (.call {callee:=.value f,args:=xs,argTypes:=ts}) ty ps af g):=by exact rfl) (hg:aN ⟨l⟩ (.mk d (.call {callee:=.value f,args:=xs,argTypes:=ts}) ty ps af g) e=some true:=by exact rfl) (hf:ev e f=some (.func (.func id) [] []):=by exact rfl) (hm:gh e xs.toList=some ms:=by exact rfl) (hb:db P id=true:=by kernel_rfl) (hd:bC n d=true:=by exact rfl):aL P n D ⟨l⟩ i e O Q K:=
 aL.call (o:=.mk d (.call {callee:=.value f,args:=xs,argTypes:=ts}) ty ps af g) (by simpa using ho) hg rfl rfl hf hm (Enters.sH hb) hd (by simpa using hR) fun r O' hr=>by
  cases r with
  | ret m=>exact h m O' hr
  | panic m=>exact hr.elim
end
def Eh (w name:Bs) (i:Nat):Bs:=w++[47]++name++[91]++me (i+1)++[93]
def qL (w name:Bs) (K:List Nd):List (Nd×Bs):=K.mapIdx fun i y=>(y,Eh w name i)
def uQ (L:List (Nd×Bs)):List MV:=L.flatMap fun p=>k6 p.1 p.2
def nX (x:Nd) (w name:Bs):Except (Int×Bs) (List (Nd×Bs)):=if 1024<(cS x name).length then .error (2,w)else .ok (qL w name (cS x name))
theorem F3 (p:Nd×Bs):(k6 p.1 p.2).length=5:=by rw[k6,List.length_append,mG];rfl
theorem xC (L:List (Nd×Bs)):(uQ L).length=L.length*5:=aV F3 L
theorem N0 (x:Nd) (w:Bs):c7 (k6 x w)=k6 x w:=by simp only[k6,wu,AV]
theorem I8 (L:List (Nd×Bs)):c7 (uQ L)=uQ L:=j9 (fun p=>N0 p.1 p.2) L
theorem RQ {w name:Bs} {K:List Nd} {j:Nat} (h:j<K.length):qL w name (K.take (j+1))=qL w name (K.take j)++[(K[j],Eh w name j)]:=by
 unfold qL;rw[dz _ _ h,List.mapIdx_append];simp[ahK,Nat.min_eq_left (am6 h)]
theorem I9 (w name:Bs) (K:List Nd):(qL w name K).length=K.length:=by simp[qL]
theorem Un (x:Nd) (w name:Bs) (O:VH) (hx:k7 x<=1000000) (hw:w.length<=10000) (hn:name.length<=10000):
  VF Tryz.prog 288 [.agg (k6 x w),.str name] O (FQ O (nX x w name) fun y m=>∃tk,m= .sl y.length (uQ y) tk):=by
 have qI:=Eg x name;have fQ:=kG x;have hKl:(cS x name).length<=1000000:=Vq (ajr _ _) (by omega);unfold nX;generalize cS x name=K at*;obtain⟨n,a,k,t⟩:=x;generalize hW:k7 (.mk n a k t)=W at*;simp only[k6,dK,adY,adW]at qI ⊢;refine υ 43 [.tmp 4] Tryz.func288 ?_;refine κ @bI ?_;refine VC.bx ?_;rintro O1 ⟨aI,eP,cW⟩;refine ξ @bI @eP ?_;refine ah.rt (qI O1 (by omega)) ?_;rintro _ O2 ⟨tk,rfl,aB⟩;have jb:=aB.at eP;have eZ:=aB.N;have fA:=aI.trans aB;refine ab @bI ?_;by_cases N1:1024<K.length
 ·rw[if_pos N1];refine ξ @bI @jb ?_;refine ah.p (mI _ _ _) ?_ ?_
  ·rintro m O9 ⟨_,h⟩;exact h.elim
  rintro m O9 ⟨rfl,rfl⟩;refine ab @bI ?_;exact⟨fA,rfl⟩
 rw[if_neg N1];refine ξ @bI @jb ?_;refine VC.join aa [4] (fun tl:Tok=>[.sl (qL w name K).length (uQ (qL w name K)) tl]) (fun tl O'=>O.Ge O') ?_ ?_;rotate_left
 ·intro tl O9 bj;refine ab @bI ?_;exact⟨bj,tl,rfl⟩
 refine κ @bI ?_;refine τ ?_;refine Γ [4,20] [1,2,18,19] (fun x:Nat×Tok=>[.sl (qL w name (K.take x.1)).length (uQ (qL w name (K.take x.1))) x.2,mi x.1]) (fun x O'=>O2.Ge O'/\App O' O2.N 5 x.2/\x.1<=K.length) (fun x=>K.length - x.1) ((0,.nil)) ?_ ?_
 ·exact⟨VH.Ge.refl _,trivial,adZ _⟩
 rintro⟨j,tl⟩ O3 ⟨aH,cf,hj⟩;dsimp only at cf hj ⊢;by_cases aM:j<K.length;rotate_left
 ·obtain rfl:j=K.length:=by omega
  rw[ahJ];refine ν @bI ?_;exact aA.mk tl (fA.trans aH)
 have bG:=ct mG K j aM;rw[<-qH]at bG;have Ul:=dA K;have gY:=RQ (w:=w) (name:=name) aM;have HN:(qL w name (K.take j)).length<=1000000:=by rw[I9,ahK];omega
 generalize K[j]=y at*;generalize qL w name (K.take j)=E at*;have uZ:=sN (j+1);have fu:=N0 y (Eh w name j);obtain⟨yn,ya,yk,yt⟩:=y;simp only[k6,dK,List.cons_append,List.nil_append]at bG fu;have lS:=aH.at jb;have gy:=aH.N;refine κ @bI ?_;refine κ @bI ?_;refine χ (τ ?_);refine ξ @bI @bG ?_;refine VC.al ?_;rintro O4 ⟨aY,nE,gO⟩;have jo:=aY.at lS;have mJ:=cf.ge aY;have Uo:=aH.trans aY;have cI:((j:Int)+1)=((j+1:Nat):Int):=by omega
 refine VC.nP [15,16] ?_;refine ae.ar 0 ?_;refine ab @bI ?_;refine ae.ar 2 ?_;refine ab @bI ?_;refine ae.ld (m:=.str w) 3 ?_ ?_
 ·exact dX @bI @jo
 simp only[ak];refine ae.ar 4 ?_;refine ab @bI ?_;refine ae.ar 5 ?_;refine ab @bI ?_;refine ae.ar 6 ?_;refine ab @bI ?_;refine ae.ar 7 ?_;refine ab @bI ?_;refine ae.ar 8 ?_;refine ab @bI ?_;refine ae.ar 9 ?_;refine ao @bI @cI ?_;refine ae.pair (i:=1) (j:=10) ?_ ?_
 ·refine aL.o1 ?_;refine ao @bI @nE ?_;refine⟨VH.Ge.refl _,?_⟩;refine ae.call (i:=10) (F1 (j+1) O4 (by omega)) ?_;rintro _ O5 ⟨rfl,eO⟩;simp only[ak];rw[eO];clear eO O5
  refine⟨VH.Ge.refl _,?_⟩;refine ae.ar 11 ?_;refine ab @bI ?_;refine ae.ar 12 ?_;refine ab @bI ?_;refine ae.ar 13 ?_;refine ab @bI ?_;refine ae.op (i:=14) ?_;refine ab @bI ?_;refine⟨VH.Ge.refl _,?_⟩;refine ae.bP [(15,.one),(16,.ar)] ?_;refine ab @bI ?_;obtain⟨mE,gV,lQ⟩:=gG (n:=E.length) (cs:=uQ E) (ds:=[.str yn,.sl ya.length (ya.flatMap bm) .au,.sl yk.length (aC yk) .au,.str yt,.str (w++[47]++name++[91]++me (j+1)++[93])]) aa8 aa7.1.1 mJ (xC E) rfl rfl (by decide) (by omega) (by simp only[maxLen];omega) (I8 E) fu;refine η gV lQ ?_;refine ab @bI ?_;refine ν @bI ?_;exact az.N (j+1,.own O4.N 5) ⟨b_.en Uo mJ (b_.after mJ),App.after Uo.N,aM⟩ (hl:=(by dsimp only;rw[gY,zP];unfold uQ;rw[ajm];rfl))
 ·refine aL.j8 (F1 (j+1) O4 (by omega)) ?_;rintro _ O5 ⟨rfl,eO⟩;rw[eO];clear eO O5
  simp only[ak];refine⟨VH.Ge.refl _,?_⟩;refine ae.ar 11 ?_;refine ab @bI ?_;refine ae.ar 12 ?_;refine ab @bI ?_;refine ae.op (i:=1) ?_;refine ao @bI @nE ?_;refine⟨VH.Ge.refl _,?_⟩;refine ae.ar 13 ?_;refine ab @bI ?_;refine ae.op (i:=14) ?_;refine ab @bI ?_;refine⟨VH.Ge.refl _,?_⟩;refine ae.bP [(15,.one),(16,.ar)] ?_;refine ab @bI ?_;obtain⟨mE,gV,lQ⟩:=gG (n:=E.length) (cs:=uQ E) (ds:=[.str yn,.sl ya.length (ya.flatMap bm) .au,.sl yk.length (aC yk) .au,.str yt,.str (w++[47]++name++[91]++me (j+1)++[93])]) aa8 aa7.1.1 mJ (xC E) rfl rfl (by decide) (by omega) (by simp only[maxLen];omega) (I8 E) fu;refine η gV lQ ?_;refine ab @bI ?_;refine ν @bI ?_;exact az.N (j+1,.own O4.N 5) ⟨b_.en Uo mJ (b_.after mJ),App.after Uo.N,aM⟩ (hl:=(by dsimp only;rw[gY,zP];unfold uQ;rw[ajm];rfl))
def lT (w:Bs):Nat×Bool:=
 if w=fJ 1 then(1,true)else if w=fJ 2 then(2,true)else if w=fJ 3 then(3,true)else if w=fJ 4 then(4,true)else if w=fJ 5 then(5,true)else if w=fJ 6 then(6,true)else(0,false)
def fL (w:Bs):Nat->Nat->Nat×Bool
 | 0,_=>(0,false)
 | k+1,j=>if j≠0/\fJ j=w then(j,true)else fL w k (j+1)
theorem RS (w:Bs):lT w=fL w 7 0:=by
 unfold lT fL fL fL fL fL fL fL fL;simp only[eq_comm (a:=w)];simp
theorem N2 (w:Bs) (O:VH):VF Tryz.prog 306 [.str w] O (aD fun m O'=>m= .tuple [mi (lT w).1,mb (lT w).2]/\O'=O):=by
 rw[RS];refine Δ 18 [.tmp 2,.tmp 3] Tryz.func306 ?_;refine ab @bI ?_;refine WC.jm [5] [0] (fun j:Nat=>[mi j]) (fun j O'=>O'=O/\j<=7/\fL w 7 0=fL w (7 - j) j) (fun j=>7 - j) (0) ?_ ?_
 ·exact⟨rfl,adZ _,rfl⟩
 rintro j O2 ⟨eO,hj,hs⟩;rw[eO];clear eO O2
 by_cases h7:j<7
 ·have cX:fL w (7 - j) j=if j≠0/\fJ j=w then(j,true)else fL w (7 - (j+1)) (j+1):=by
   obtain⟨d,hd⟩:∃d,7 - j=d+1:=⟨6 - j,by omega⟩
   rw[hd,show 7 - (j+1)=d by omega];rfl
  rw[cX]at hs;by_cases h0:j=0
  ·rw[if_neg (fun h=>h.1 h0)]at hs;refine ab @bI ?_;exact az.N (j+1) ⟨rfl,h7,hs⟩
  ·refine ab @bI ?_;refine ah.rt (Ui j _) ?_;rintro _ O3 ⟨rfl,eO⟩;rw[eO];clear eO O3
   cases hw:fJ j==w
   ·rw[if_neg (fun h=>by rw[h.2]at hw;simp at hw)]at hs;refine ao @bI @hw ?_;exact az.N (j+1) ⟨rfl,h7,hs⟩
   ·rw[if_pos ⟨h0,eq_of_beq hw⟩]at hs;rw[hs];exact dX @bI @hw
 ·obtain rfl:j=7:=by omega
  rw[hs];refine ab @bI ?_;rfl
def ey (s p:Bs):Bool:=s.take p.length==p
theorem XB {s p:Bs} (h:¬p.length<=s.length):ey s p=false:=by
 unfold ey;rw[beq_eq_false_iff_ne];intro e;have:=congrArg List.length e;rw[ahK]at this;omega
theorem HP (s p:Bs) (O:VH):VF Tryz.prog 320 [.str s,.str p] O (aD fun m O'=>m=mb (ey s p)/\O'=O):=by
 refine Δ 18 [.tmp 4] Tryz.func320 ?_;by_cases h:p.length<=s.length
 ·have e:(s.take p.length==p)=ey s p:=rfl;generalize ey s p=b at*;cases b
  ·exact dX @bI @e
  ·exact dX @bI @e
 ·rw[XB h];exact fU @bI
theorem nY (s p:Bs) (O:VH):VF Tryz.prog 310 [.str s,.str p] O (aD fun m O'=>m=mb (ey s p)/\O'=O):=by
 refine Δ 8 [.tmp 4] Tryz.func310 ?_;refine ab @bI ?_;refine ah.rt (HP s p _) ?_;rintro _ O2 ⟨rfl,rfl⟩;exact fU @bI
set_option linter.defProp false in
def eL:=Qn bI<|Qn eu<|Qn agy aj0
section
variable {P:Program} {n:Sz} {D:List Deferred} {e:Env} {O:VH} {Q:VQ}
theorem ae.qM {brk:List Nat} {Ψ :Gh->Prop} {J:VH->Prop} {Z:Prop} {fuel i:Nat} {listed:Array Bool} {l:List Oper} {d:Option Tmp} {f:Operand} {xs:Array Operand} {ts:Array TypeId} {ty:TypeId} {ps:String} {af:Array Edge} {g:Option (Nat×Bool)} {id:FuncId} {ms cs:List MV} {R:gC->VH->Prop} (hR:VF P id (ms++cs) O R)
  (h:∀m O',R (.ret m) O'->J O'/\ae P n D ⟨l⟩ brk J Ψ Z fuel (listed.setIfInBounds i true) (aZ d m e) O' Q) (h2:∀m O',R (.panic m) O'->Q (.panic m) (k_ n e) O') (hr:Region.ready .any ⟨l⟩ listed=[i]:=by kernel_rfl) (ho:l[i]?=some (.mk d (.call {callee:=.value f,args:=xs,argTypes:=ts}) ty ps af g):=by exact rfl) (hg:aN ⟨l⟩ (.mk d (.call {callee:=.value f,args:=xs,argTypes:=ts}) ty ps af g) e=some true:=by exact rfl) (hf:ev e f=some (.func (.func id) [] cs):=by exact rfl) (hm:gh e xs.toList=some ms:=by exact rfl) (hb:db P id=true:=by kernel_rfl) (hd:bC n d=true:=by exact rfl):ae P n D ⟨l⟩ brk J Ψ Z (fuel+1) listed e O Q:=
 ae.one (aL.call (o:=.mk d (.call {callee:=.value f,args:=xs,argTypes:=ts}) ty ps af g) (by simpa using ho) hg rfl rfl hf hm (Enters.sH hb) hd (by simpa using hR) fun r O' hr=>by
  cases r with
  | ret m=>exact h m O' hr
  | panic m=>exact h2 m O' hr) (hr:=hr)
end
def idxFrom {α :Type} (p: α ->Bool):Nat->List α ->Int
 | _,[]=> -1
 | i,x::r=>if p x then i else idxFrom p (i+1) r
theorem F4 {α :Type} (p: α ->Bool):∀(L:List α) (i:Nat),decide (idxFrom p i L>=0)=L.any p
 | [],i=>rfl
 | x::r,i=>by
   rw[idxFrom,List.any_cons];cases h:p x
   ·simp[F4 p r]
   ·simp
theorem Up (L:List (Bs×Bs)) (tk:Tok) (id:FuncId) (cs:List MV) (p:Bs×Bs->Bool) (O:VH) (hid:db Tryz.prog id=true) (hc:∀x∈L,∀O',O.Ge O'->VF Tryz.prog id ([.agg (bm x)]++cs) O' (aD fun m mz=>m=mb (p x)/\O'.Ge mz)) (hn:L.length<=1000000):
  VF Tryz.prog 246 [.sl L.length (L.flatMap bm) tk,.func (.func id) [] cs] O (aD fun m O'=>m=mi (idxFrom p 0 L)/\O.Ge O'):=by
 have dH:=aV fK L;refine Δ 19 [.tmp 4] Tryz.func246 ?_;refine ab @eL ?_;refine WC.jm [8] [0,1,7] (fun j:Nat=>[mi j]) (fun j O'=>O.Ge O'/\j<=L.length/\idxFrom p 0 L=idxFrom p j (L.drop j)) (fun j=>L.length - j) (0) ?_ ?_
 ·exact⟨VH.Ge.refl _,adZ _,rfl⟩
 rintro j O2 ⟨aB,hj,dP⟩;by_cases h2:j<L.length
 ·have bG:=ct fK L j h2;have hcj:=hc L[j] (ajk h2) O2 aB;rw[ahM h2,idxFrom]at dP;generalize L[j]=y at*;refine ao @eL @bG ?_;refine ah.rt hcj ?_ (hb:=hid);rintro _ O3 ⟨rfl,aH⟩;cases hi:p y
  ·rw[hi]at dP;refine ab @eL ?_;exact az.N (j+1) ⟨aB.trans aH,by omega,dP⟩
  ·rw[hi,if_pos rfl]at dP;rw[dP];refine ab @eL ?_;exact aB.trans aH
 ·obtain rfl:j=L.length:=by omega
  rw[ajl (by omega)]at dP;rw[dP];refine ab @eL ?_;exact⟨rfl,aB⟩
theorem afd (L:List (Bs×Bs)) (tk:Tok) (id:FuncId) (cs:List MV) (p:Bs×Bs->Bool) (O:VH) (hid:db Tryz.prog id=true) (hc:∀x∈L,∀O',O.Ge O'->VF Tryz.prog id ([.agg (bm x)]++cs) O' (aD fun m mz=>m=mb (p x)/\O'.Ge mz)) (hn:L.length<=1000000):
  VF Tryz.prog 286 [.sl L.length (L.flatMap bm) tk,.func (.func id) [] cs] O (aD fun m O'=>m=mb (L.any p)/\O.Ge O'):=by
 rw[<-F4 p L 0];refine Δ 9 [.tmp 4] Tryz.func286 ?_;refine ab @eL ?_;refine ah.rt (Up L tk id cs p O hid hc hn) ?_;rintro _ O2 ⟨rfl,aB⟩;refine ab @eL ?_;exact aB
theorem XC (x:Bs×Bs) (k:Nat) (yn:Bs) (a b c:MV) (O:VH) (hk:O.hp k=some (.cells [.str yn,a,b,c])) (zc:k<O.N):VF Tryz.prog 287 [.agg (bm x),.ptr k 0] O (aD fun m O'=>m=mb (x.1==yn)/\O.Ge O'):=by
 obtain⟨x1,x2⟩:=x;unfold bm;refine υ 9 [.tmp 3] Tryz.func287 ?_;refine κ @eL ?_;refine VC.bx ?_;rintro O1 ⟨aI,eP,cW⟩;have cA:=(aI.hp k zc).trans hk;refine ι (aG @eL @eP @cA ?_);exact aI
def ug (wy:Bs):List Nd->List (Bs×Bs)->Except (Int×Bs) (List (Bs×Bs))
 | [],L=>.ok L
 | k::r,L=>bif L.any (·.1==k.nm)then .error (20,wy++[47]++k.nm++[91,50,93])else match qJ k (wy++[47]++k.nm) true with
   | .error e=>.error e
   | .ok s=>ug wy r (L++[(k.nm,s)])
def lU (x:Nd) (w:Bs):Except (Int×Bs) (List (Bs×Bs)):=
 match cH x w lR with
 | .error e=>.error e
 | .ok ((_,_),false)=>.ok []
 | .ok ((y,wy),true)=>if 1024<(cS y []).length then .error (2,wy)else ug wy (cS y []) []
theorem abi (x:Nd) (w:Bs) (O:VH) (hx:k7 x<=1000000) (hw:w.length<=10000):
  VF Tryz.prog 267 [.agg (k6 x w)] O (FQ O (lU x w) fun y m=>∃tk,m= .sl y.length (y.flatMap bm) tk):=by
 have wa:=sO x w lR;have fQ:=kG x;have wc:= @sQ x w lR;have we:∀e,cH x w lR= .error e->lU x w= .error e:=fun e h=>by unfold lU;rw[h]
 have oH:∀y wy,cH x w lR= .ok ((y,wy),false)->lU x w= .ok []:=fun y wy h=>by unfold lU;rw[h]
 have jq:∀y wy,cH x w lR= .ok ((y,wy),true)->lU x w=if 1024<(cS y []).length then .error (2,wy)else ug wy (cS y []) []:=fun y wy h=>by unfold lU;rw[h]
 generalize lU x w=PE at*;generalize cH x w lR=F at*;obtain⟨n,a,k,t⟩:=x;generalize hW:k7 (.mk n a k t)=W at*;simp only[k6,dK,adY,adW]at wa ⊢;refine υ 55 [.tmp 2] Tryz.func267 ?_;refine κ @eL ?_;refine VC.bx ?_;rintro O1 ⟨aI,eP,cW⟩;refine ξ @eL @eP ?_;refine ah.p (wa O1 (by omega) (by omega) (by decide)) ?_ ?_;rotate_left
 ·rintro m O2 ⟨aB,h⟩;cases F with
  | ok y=>exact h.elim
  | error e=>
    dsimp only at h;rw[we e rfl];refine ab @eL ?_;exact⟨aI.trans aB,h⟩
 rintro m O2 ⟨aB,h⟩;cases F with
 | error e=>exact h.elim
 | ok y=>
 obtain⟨⟨y,wy⟩,b⟩:=y;dsimp only at h;subst h;obtain⟨hyW,wg⟩:=wc rfl;have oI:wy.length<=30000:=by rw[wg];simp only[zP,Qm,Ma];omega
 clear wc wg we;have qI:=Eg y [];have akD:=kG y;have hKm:∀z∈cS y [],k7 z<=1000000:=fun z hz=>by have:=RN hz;omega
 have hKl:(cS y []).length<=1000000:=Vq (ajr _ _) (by omega)
 replace jq:b=true->PE=if 1024<(cS y []).length then .error (2,wy)else ug wy (cS y []) []:=fun h=>by subst h;exact jq y wy rfl
 replace oH:b=false->PE= .ok []:=fun h=>by subst h;exact oH y wy rfl
 generalize cS y []=K at*;obtain⟨yn,ya,yk,yt⟩:=y;simp only[k6,dK,adY,adW]at qI ⊢;have fA:=aI.trans aB;refine ab @eL ?_;refine VC.al ?_;rintro O3 ⟨aH,NZ,gy⟩;have ew:=fA.trans aH;cases b
 ·rw[oH rfl];refine ν @eL ?_;exact⟨ew,.nil,rfl⟩
 replace jq:=jq rfl
 clear oH;refine κ @eL ?_;refine ξ @eL @NZ ?_;refine ah.rt (qI O3 (by omega)) ?_;rintro _ O4 ⟨tk,rfl,aY⟩;have hy4:=aY.at NZ;have gW:=ew.trans aY;have gO:=aY.N;refine ab @eL ?_;by_cases N1:1024<K.length
 ·rw[if_pos N1]at jq;rw[jq];refine ξ @eL @hy4 ?_;refine ah.p (mI _ _ _) ?_ ?_
  ·rintro m O9 ⟨_,h⟩;exact h.elim
  rintro m O9 ⟨rfl,rfl⟩;refine ab @eL ?_;exact⟨gW,rfl⟩
 rw[if_neg N1]at jq;refine ξ @eL @hy4 ?_;refine VC.join aa [2] (fun x:List (Bs×Bs)×Tok=>[.sl x.1.length (x.1.flatMap bm) x.2]) (fun x O'=>O.Ge O'/\PE= .ok x.1) ?_ ?_;rotate_left
 ·rintro⟨L,tl⟩ O9 ⟨bj,hP⟩;rw[hP];refine ab @eL ?_;exact⟨bj,tl,rfl⟩
 refine κ @eL ?_;refine τ ?_;refine Γ [2,27] [3,25,26] (fun x:Nat×List (Bs×Bs)×Tok=>[.sl x.2.1.length (x.2.1.flatMap bm) x.2.2,mi x.1]) (fun x O'=>O4.Ge O'/\App O' O4.N 2 x.2.2/\x.1<=K.length/\x.2.1.length=x.1/\PE=ug wy (K.drop x.1) x.2.1) (fun x=>K.length - x.1) ((0,[],.nil)) ?_ ?_
 ·exact⟨VH.Ge.refl _,trivial,adZ _,rfl,jq⟩
 rintro⟨j,L,tl⟩ O5 ⟨bD,cf,hj,pH,hP⟩;dsimp only at cf hj pH hP ⊢;by_cases aM:j<K.length;rotate_left
 ·obtain rfl:j=K.length:=by omega
  rw[ajl (Zj _),ug]at hP;refine ν @eL ?_;exact aA.mk (L,tl) ⟨gW.trans bD,hP⟩
 have bG:=ct mG K j aM;rw[<-qH]at bG;have Ul:=dA K;rw[ahM aM,ug]at hP;have hzW:=hKm K[j] (ajk aM);generalize K[j]=z at*;have vU:=NX z (wy++[47]++z.nm) true;have hkz:=kG z;have htz:=Vq (F2 z.kids) (am6 (xB z))
 have akE:z.nm.length<=1000000:=by cases z with
  | mk n a k t=>rw[Ba]at hzW;show n.length<=_;omega
 generalize qJ z (wy++[47]++z.nm) true=T at*;obtain⟨zn,za,de,zt⟩:=z;simp only[k6,dK,Nd.nm,List.cons_append,List.nil_append]at bG vU hP akE;have hy5:=bD.at hy4;have eU:=bD.N;refine κ @eL ?_;refine κ @eL ?_;refine χ (τ ?_);refine ξ @eL @bG ?_;refine VC.al ?_;rintro O6 ⟨fi,nE,mU⟩;have hy6:=fi.at hy5;have mH:=cf.ge fi;have yC:=bD.trans fi;have cI:((j:Int)+1)=((j+1:Nat):Int):=by omega
 refine θ (aG @eL @hy6 @nE ?_);refine κ @eL ?_;refine ah.rt (afd L tl 287 [.ptr O5.N 0] (fun q=>q.1==zn) O6 (by kernel_rfl) (fun q _ O' Cd=>XC q _ zn _ _ _ O' (Cd.at nE) (by have:=Cd.N;omega)) (by omega)) ?_;rintro _ O7 ⟨rfl,eV⟩;have Dd:=(gW.trans yC).trans eV;have hy7:=eV.at hy6;have u7:=eV.at nE;have uY:=eV.N;have kD:=mH.ge eV;refine ab @eL ?_;cases jY:L.any fun q=>q.1==zn
 rotate_left
 ·rw[jY,cond_true]at hP;rw[hP];refine ab @eL ?_;refine ah.p (mI _ _ _) ?_ ?_
  ·rintro m O9 ⟨_,h⟩;exact h.elim
  rintro m O9 ⟨rfl,rfl⟩;refine ab @eL ?_;exact⟨Dd,rfl⟩
 rw[jY,cond_false]at hP;refine ab @eL ?_;refine VC.nP [9,10] ?_;refine ae.ar 0 ?_;refine ab @eL ?_;refine ae.ar 1 ?_;refine ab @eL ?_;refine ae.ld (m:=.str zn) 2 ?_ ?_
 ·exact dX @eL @u7
 simp only[ak];refine ae.ar 4 ?_;refine ab @eL ?_;refine ae.op (i:=3) ?_;refine ao @eL @u7 ?_;refine⟨VH.Ge.refl _,?_⟩;refine ae.ar 5 ?_;refine ab @eL ?_;refine ae.qM (i:=6) (vU O7 (by omega) (by omega)) ?_ ?_;rotate_left
 ·rintro m O8 ⟨fV,h⟩;cases T with
  | ok s=>exact h.elim
  | error e=>
    dsimp only at h hP;rw[hP];refine ab @eL ?_;exact⟨Dd.trans fV,h⟩
 rintro m O8 ⟨fV,h⟩;cases T with
 | error e=>exact h.elim
 | ok s=>
 dsimp only at h hP;subst h;simp only[ak];refine⟨fV,?_⟩;refine ae.ar 7 ?_;refine ab @eL ?_;refine ae.op (i:=8) ?_;refine ab @eL ?_;refine⟨fV,?_⟩;refine ae.bP [(9,.one),(10,.ar)] ?_;refine ab @eL ?_;obtain⟨mE,gV,lQ⟩:=gG (n:=L.length) (cs:=L.flatMap bm) (ds:=[.str zn,.str s]) (es:=bm (zn,s)) KG C_.1.1 (kD.ge fV) (aV fK L) rfl rfl (by decide) (by omega) (by simp only[maxLen];omega) (gH L) (by simp only[bm,wu]);refine η gV lQ ?_;refine ab @eL ?_;refine ν @eL ?_;exact az.N (j+1,L++[(zn,s)],.own O8.N 2) ⟨b_.en ((yC.trans eV).trans fV) (kD.ge fV) (b_.after (kD.ge fV)),App.after (by have:=fV.N;omega),aM,by dsimp only;rw[zP,pH];rfl,hP⟩ (hl:=(by dsimp only;rw[zP,ajm,cI];rfl))
section
variable {P:Program} {tab:cj} {n:Sz} {D:List Deferred} {md:Md} {ops:Array Oper} {Q:VQ} {f:Fl} {o:Oper} {L:List (Fl×Oper)} {e:Env} {O:VH} {r:Option (MV×VH)} {b:Bool} {c:Code}
theorem RT (h:WL P tab n D md ops Q L e O):WL P tab n D md ops Q L e O:=h
theorem RU (h:W2 P tab n D md ops Q f o L e O r):W2 P tab n D md ops Q f o L e O r:=h
theorem RV (h:W3 P tab n D md ops Q L e O b):W3 P tab n D md ops Q L e O b:=h
theorem RX (h:WC P tab n D c e O Q):WC P tab n D c e O Q:=h
end
section
variable {A1 A2 A3 A4 A5 A6 A7 P Q:Prop}
theorem g_ (a1:A1) (q:Q) (h:A1->Q->P:=by intro a1 q;first | (with_reducible refine θ ?_;refine ab a1 q) | (with_reducible refine ι ?_;refine ab a1 q) | (first | with_reducible refine RT ?_ | with_reducible refine RU ?_ | with_reducible refine RV ?_ | with_reducible refine RX ?_);refine ab a1 q):P:=h a1 q
theorem qN (a1:A1) (a2:A2) (q:Q) (h:A1->A2->Q->P:=by intro a1 a2 q;first | (with_reducible refine θ ?_;refine ao a1 a2 q) | (with_reducible refine ι ?_;refine ao a1 a2 q) | (first | with_reducible refine RT ?_ | with_reducible refine RU ?_ | with_reducible refine RV ?_ | with_reducible refine RX ?_);refine ao a1 a2 q):P:=h a1 a2 q
theorem kg3 (a1:A1) (a2:A2) (a3:A3) (q:Q) (h:A1->A2->A3->Q->P:=by intro a1 a2 a3 q;first | (with_reducible refine θ ?_;refine aG a1 a2 a3 q) | (with_reducible refine ι ?_;refine aG a1 a2 a3 q) | (first | with_reducible refine RT ?_ | with_reducible refine RU ?_ | with_reducible refine RV ?_ | with_reducible refine RX ?_);refine aG a1 a2 a3 q):P:=h a1 a2 a3 q
theorem kg4 (a1:A1) (a2:A2) (a3:A3) (a4:A4) (q:Q) (h:A1->A2->A3->A4->Q->P:=by intro a1 a2 a3 a4 q;first | (with_reducible refine θ ?_;refine cR a1 a2 a3 a4 q) | (with_reducible refine ι ?_;refine cR a1 a2 a3 a4 q) | (first | with_reducible refine RT ?_ | with_reducible refine RU ?_ | with_reducible refine RV ?_ | with_reducible refine RX ?_);refine cR a1 a2 a3 a4 q):P:=h a1 a2 a3 a4 q
theorem kg5 (a1:A1) (a2:A2) (a3:A3) (a4:A4) (a5:A5) (q:Q) (h:A1->A2->A3->A4->A5->Q->P:=by intro a1 a2 a3 a4 a5 q;first | (with_reducible refine θ ?_;refine iN a1 a2 a3 a4 a5 q) | (with_reducible refine ι ?_;refine iN a1 a2 a3 a4 a5 q) | (first | with_reducible refine RT ?_ | with_reducible refine RU ?_ | with_reducible refine RV ?_ | with_reducible refine RX ?_);refine iN a1 a2 a3 a4 a5 q):P:=h a1 a2 a3 a4 a5 q
theorem kg6 (a1:A1) (a2:A2) (a3:A3) (a4:A4) (a5:A5) (a6:A6) (q:Q) (h:A1->A2->A3->A4->A5->A6->Q->P:=by intro a1 a2 a3 a4 a5 a6 q;first | (with_reducible refine θ ?_;refine HJ a1 a2 a3 a4 a5 a6 q) | (with_reducible refine ι ?_;refine HJ a1 a2 a3 a4 a5 a6 q) | (first | with_reducible refine RT ?_ | with_reducible refine RU ?_ | with_reducible refine RV ?_ | with_reducible refine RX ?_);refine HJ a1 a2 a3 a4 a5 a6 q):P:=h a1 a2 a3 a4 a5 a6 q
end
section
variable {G H:Gh} {n:Sz} {D:List Deferred} {e e':Env} {a:Act} {P:Program} {tab:cj} {O O':VH} {w:World} {m m':MV} {u v:Value} {ops:Array Oper} {Q:VQ} {md:Md}
def abj (P:Program) (tab:cj) (rs:List ResultVar) (g:FuncId) (cap:List Operand) (t:Tmp) (k lo:Nat) (rest:Code) (R:gC->VH->Prop):VQ:=fun x e O=>match x with
 | .normal=>∃ms,gh e cap=some ms/\∀D,VC P ⟨k,lo⟩ D rest ((t,.func (.func g) [] ms)::e) O (Nr P tab rs g ms R)
 | .ret=>jx R O (iZ tab e O rs)
 | _=>False
theorem RY (ht:aO P tab) {el:TypeId} {te:cL} {B n' j:Nat} {L ds:List MV} {p q:MV} {dx:TypeDesc} {d:Option Tmp} {x y:Operand} {t tx ty:TypeId} {ps:String} {af:Array Edge} {g:Option (Nat×Bool)}
  (hr:GR O el te.size B p n' L) (hs:Ax O te.size q=some (j,ds)) (iz:ds.all ec=true) (hu:(tab t).map cL.under=some (.slice el)) (he:tab el=some te) (vU:(tab tx).map cL.under=some dx) (Fk:Ay q dx) (hb:(n'+j)*te.bytes<=140737488355328) (hm:n'+j<=maxLen) (hB:B<=O.N)
  (hx:ev e x=some p) (hy:ev e y=some q):
  gD P n D (.mk d (.call {callee:=.builtin .append,args:= #[x,y],argTypes:= #[t,tx]}) ty ps af g) e O (fun m O'=>GR O' el te.size B m (n'+j) (L++ds)/\bz O (gid p) O'/\(gid p=none->O.Ge O')/\((∃k c,m= .bB k 0 (n'+j) c/\(gid p=some k\/(O.N<=k/\j≠0)))\/(j=0/\m=p/\O'=O))):=by
 intro G a w hw hf;have nN:=hf.ev hx;have xW:=hf.ev hy;have fP:=bL ht vU
 have fin:∀{m O' u w' H},(GR O' el te.size B m (n'+j) (L++ds)/\bz O (gid p) O'/\(gid p=none->O.Ge O')/\((∃k c,m= .bB k 0 (n'+j) c/\(gid p=some k\/(O.N<=k/\j≠0)))\/(j=0/\m=p/\O'=O)))->(Builtin.append_ #[t,tx] ty #[a.eval x,a.eval y]).run P w= .ok u w'->Gh.Le G H->WR H O' w'->VR H m u->
   ∃m O' u w' H,(GR O' el te.size B m (n'+j) (L++ds)/\bz O (gid p) O'/\(gid p=none->O.Ge O')/\((∃k c,m= .bB k 0 (n'+j) c/\(gid p=some k\/(O.N<=k/\j≠0)))\/(j=0/\m=p/\O'=O)))/\(execOp a.eval (.mk d (.call {callee:=.builtin .append,args:= #[x,y],argTypes:= #[t,tx]}) ty ps af g)).run P w= .ok (.value u) w'/\Gh.Le G H/\WR H O' w'/\VR H m u:=fun hM cC h1 h2 h3=>
  ⟨_,_,_,_,_,hM,by simp only[execOp,resolve,invoke,builtin,List.map_toArray,List.map_cons,List.map_nil,Sem.run_bind,Sem.run_pure,Result.andThen_ok]<;>simp[cC],h1,h2,h3⟩
 obtain⟨vs,pW,hv⟩:=Az (P:=P) hw hs xW fP Fk iz;have mR:ds.length=j*te.size:=by rw[<-hv.1];exact pW.newsLen
 rcases hr with⟨rfl,rfl,hp⟩ | ⟨k,c,rfl,AD,pH,c6⟩
 ·have hA:∃A,a.eval x= .slice A 0 0/\(∀w',(Builtin.firstCells te.size 0 (.slice A 0 0)).run P w'= .ok #[] w'):=by
   generalize a.eval x=u at nN
   have key:∀A:Option Addr,∀w',(Builtin.firstCells te.size 0 (.slice A 0 0)).run P w'= .ok #[] w':=fun A w'=>by
    cases A<;>simp[Builtin.firstCells,loadCells,loadCellsFrom]
   rcases hp with rfl | rfl
   ·cases nN with
    | slnil=>exact⟨_,rfl,key _⟩
    | sl h1 h2 h3 h4 h5 h6=>exact h6.elim
   ·cases nN with
    | sl h1 h2 h3 h4 h5 h6=>
      have h6:_=0:=h6;subst h6;exact⟨_,rfl,key _⟩
  obtain⟨A,hA,V5⟩:=hA;have aab:gid p=none:=by rcases hp with rfl | rfl<;>rfl
  by_cases hj:j=0
  ·subst hj;have r9:ds=[]:=List.eq_nil_of_length_eq_zero (by simpa using mR);subst r9;refine fin (m:=p) (O':=O) (u:=a.eval x) (w':=w) (H:=G) ⟨.inl ⟨rfl,rfl,hp⟩,bz.refl _ _,fun _=>VH.Ge.refl _,.inr ⟨rfl,rfl,rfl⟩⟩ ?_ (Gh.Le.refl G) hw nN;have jE:vs=[]:=by have:=hv.1;simpa using this
   subst jE;rw[hA];have fu:=bL ht hu;obtain⟨ti,z,i1,i2,_⟩:=(ht _ te he).info;rcases pW.kind with⟨e',hk⟩ | hk<;>cases A<;>simp[Builtin.append_,run_underlying fu,run_underlying hk,fF (ht _ te he),pW.len,pW.cells,storeCells]
  ·rw[hA]at fin;obtain⟨c',w',H,zs,g1,g2,g3,g4,g5,g6,g7⟩:=AA (P:=P) ht hw (n':=0) (c:=0) (A:=A) (L:=[]) (us:=[]) (ty:=ty) hu he fP hs Fk iz aQ.nil (by simp) (V5 _) (by omega) hb hm xW;refine fin ⟨.inr ⟨O.N,c',rfl,g1,by rw[zP,mR];simp,?_⟩,?_,fun _=>?_,.inl ⟨_,_,rfl,.inr ⟨Zj _,hj⟩⟩⟩ g4 g5 g6 g7
   ·refine Row.zj (cs:=[]) (t:=el) ?_ hB;rw[zP,g3,zP,mR,Ma,am5, <-ani]
    congr 1;omega
   ·rw[aab];exact bz.push.trans bz.push
   ·exact((VH.Ge.refl O).push _).push _
 ·obtain⟨sp,gq,ia⟩:=c6.cells;generalize pI:a.eval x=u at nN;have aac:=nN;cases aac with
  | bB hp hn hmx=>
    rename_i b;rw[pI]at fin;have hmul:(n'+j)*te.size=n'*te.size+j*te.size:=ani _ _ _;by_cases pF:n'+j<=c
    ·have hle:(n'+j)*te.size<=c*te.size:=Nat.mul_le_mul_right _ pF;obtain⟨w',A,g1,g2,g3⟩:=MX (P:=P) (ty:=ty) ht hw hu he fP gq hs Fk iz pF (by rw[ia,mR];omega) nN xW;rw[am5, <-pH,AB]at g2
     have IL:ds.length<=sp.length:=by
      rw[zP]at ia;omega
     rw[List.take_of_length_le IL]at g2;refine fin ⟨.inr ⟨k,c,rfl,pF,by rw[zP,pH,mR,hmul],c6.MY ?_⟩,bz.set,(fun h=>by cases h),.inl ⟨_,_,rfl,.inl rfl⟩⟩ g1 (Gh.Le.refl G) g2 g3;rw[zP,zP,ahN];rw[zP]at ia;omega
    ·obtain⟨b',C,T,d1,d2,d3⟩:=hw.cells k _ gq;rw[hp]at d1;injection d1 with d1;subst d1
     have hL:=d3.take L.length;rw[List.take_left,List.take_take,Nat.min_eq_left (by rw[zP];omega)]at hL
     have hold:(Builtin.firstCells te.size n' (.slice (some ⟨b,0,none⟩) n' c)).run P w.drew= .ok (C.toList.take L.length).toArray w.drew:=by
      refine run_firstCells_some (P:=P) w.drew te.size n' ⟨b,0,none⟩ n' c _ (by rw[hL.1,pH]) fun i u hu=>?_
      rw[Addr.add_lit,am5];rw[anb]at hu;split at hu
      ·have iM:w.drew.heap[b]?=some (.cells C T.t T.fr):=d2;simp only[World.cell?,iM,Option.isSome_none,anc,if_false];simpa using hu
      ·cases hu
     obtain⟨c',w',H,zs,g1,g2,g3,g4,g5,g6,g7⟩:=AA (P:=P) (ty:=ty) ht hw (n':=n') (c:=c) (A:=some ⟨b,0,none⟩) (L:=L) hu he fP hs Fk iz hL pH hold (by omega) hb hm xW;refine fin ⟨.inr ⟨O.N,c',rfl,g1,by rw[zP,pH,mR,hmul],?_⟩,(bz.push.trans bz.push).any,(fun h=>by cases h),.inl ⟨_,_,rfl,.inr ⟨Zj _,by omega⟩⟩⟩ g4 g5 g6 g7;refine Row.zj (cs:=[]) (t:=el) ?_ hB;rw[zP,g3,zP,pH,mR, <-hmul, <-ani]
     congr 1;omega
theorem VF.F5 {f g:FuncId} {fn:Func} {A B rest:Code} {id k lo:Nat} {t:Tmp} {cap:Array Operand} {ty ty':TypeId} {ps ps':String} {af af':Array Edge} {args:List MV} {rs:List ResultVar} {R:gC->VH->Prop} (hf:P.funcs[f]?=some fn) (hE:Enters P g)
  (h:WC P tab ⟨k,0⟩ [] A (cK 0 args) O (rI (Kv P ⟨k,0⟩ [] B (abj P tab rs g cap.toList t k lo rest R)) (abj P tab rs g cap.toList t k lo rest R))) (ht:aO P tab:=by exact aa) (hb:fn.body=some (.seq A (.seq B (.seq (.region id ⟨[.mk (some t) (.makeFunc (.func g) #[] cap) ty ps af none,.mk none (.defer {callee:=.value (.tmp t),args:= #[],argTypes:= #[]}) ty' ps' af' none]⟩ false) rest))):=by exact rfl) (hk:fn.ntmps=k:=by exact rfl) (hr:fn.results.toList=rs:=by exact rfl) (hn:args.length<=k:=by exact Nat.le_of_ble_eq_true rfl) (dh:t<k:=by decide):VF P f args O R:=by
 subst hk;intro G w vs hw hv;refine calls_of_wp_defers hf hb ?_
 have aW:FR G ⟨fn.ntmps,0⟩ [] (cK 0 args) {tmps:=vs.toArray++Array.replicate (fn.ntmps - vs.toArray.size) undef,defers:=[]}:=by
  have hl:=hv.1;refine⟨rfl,by simp;omega,fun t x hx=>?_⟩;rw[iV,if_pos (adZ _),Nat.sub_zero]at hx;obtain⟨u,h1,h2⟩:=hv.get hx;refine⟨u,?_,h2⟩;have eh:=(anf.1 h1).1;rw[Array.getElem?_append_left (by simpa using eh)];simpa using h1
 refine wp_seq (wp_mono (WC.sound ht h G _ w hw aW) ?_)
 have early:∀{e:Env} {a':Act} {w':World} {O':VH} {K:Gh},Gh.Le G K->WR K O' w'->FR K ⟨fn.ntmps,0⟩ [] e a'->jx R O' (iZ tab e O' rs)->
   Leaves P fn a'.tmps (fun x w'=>∃r O' H,Gh.Le G H/\WR H O' w'/\ER H r x/\R r O') a'.defers .returning w':=by
  intro e a' w' O' K k1 k2 k3 q3;rw[k3.defers]
  have key:∃m,dJ tab fn e O'=some m/\R (.ret m) O':=by
   unfold dJ;rw[hr, <-sG];generalize iZ tab e O' rs=z at q3;unfold jx at q3;split at q3
   ·exact q3.elim
   ·exact⟨_,rfl,q3⟩
   ·rename_i l hl;refine⟨.tuple l,?_,q3⟩
    match l,hl with
    | [],_=>rfl
    | [m],hl=>exact absurd rfl (hl m)
    | _::_::_,_=>rfl
  obtain⟨m,h6,h7⟩:=key;obtain⟨u2,h8,h9⟩:=lM (P:=P) ht k2 k3 h6;exact⟨u2,h8,.ret m,O',K,k1,k2,h9,h7⟩
 rintro y a1 w1 ⟨x,e,O1,H,g1,g2,g3,g4,g5⟩
 cases y<;>cases x<;>first
  | exact False.elim g4
  | exact g5.elim
  | exact early g1 g2 g3 g5
  | skip
 refine wp_seq (wp_mono (g5 H a1 w1 g2 g3) ?_);rintro y a1 w1 ⟨x,e,O1,H2,g1',g2,g3,g4,g5⟩
 replace g1:=g1.trans g1'
 clear g1'
 cases y<;>cases x<;>first
  | exact False.elim g4
  | exact g5.elim
  | exact early g1 g2 g3 g5
  | skip
 obtain⟨ms,hm,Rg⟩:=g5;have g3:FR H2 ⟨fn.ntmps,0⟩ [] e a1:=g3;have jE:=g3.gh hm;have Hq:cap.map a1.eval=(cap.toList.map a1.eval).toArray:=by apply Array.ext';simp
 generalize cap.toList.map a1.eval=us at jE Hq
 have Rh:(execOp a1.eval (.mk (some t) (.makeFunc (.func g) #[] cap) ty ps af none)).run P w1= .ok (.value (.func (.func g) #[] us.toArray)) w1:=by
  simp[execOp,Instr.makeFunc,Hq]
 have hz:=g3.size;dsimp only at hz
 have hev:(a1.put (some t) (.func (.func g) #[] us.toArray)).eval (.tmp t)= .func (.func g) #[] us.toArray:=by
  simp[Act.eval,Act.put,hz,dh]
 have Ri:(execOp (a1.put (some t) (.func (.func g) #[] us.toArray)).eval (.mk none (.defer {callee:=.value (.tmp t),args:= #[],argTypes:= #[]}) ty' ps' af' none)).run P w1= .ok (.defer {target:=.fn (.func g) us.toArray,args:= #[]}) w1:=by
  simp[execOp,resolve,hev,Deferred.ofValue]
 refine wp_seq (wp_region ?_);have Nq:∀o1 o2:Oper,List.range (Array.mk [o1,o2]).size=[0,1]:=fun _ _=>rfl
 rw[Nq];have Kw:∀(o1 o2:Oper) (tm:Array Value),o1.guard=none->Region.wanted o1 (yielded ⟨[o1,o2]⟩ tm)=true:=fun o1 o2 tm h=>by simp[Region.wanted,h]
 have sI:∀(o1 o2:Oper) (tm:Array Value),o2.guard=none->Region.wanted o2 (yielded ⟨[o1,o2]⟩ tm)=true:=fun o1 o2 tm h=>by simp[Region.wanted,h]
 simp only[wpOps,List.getElem?_toArray,ajt,aju];rw[if_pos (Kw _ _ _ rfl)];refine .inl ?_;unfold Oper.wp;rw[Rh,Oper.upon_value];simp only[wpOps,List.getElem?_toArray,ajt,aju];rw[if_pos (sI _ _ _ rfl)];refine .inl ?_;first | unfold Oper.wp | skip
 rw[Ri,Oper.upon_defer];have kY:FR H2 ⟨fn.ntmps,0⟩ [] ((t,.func (.func g) [] ms)::e) (a1.put (some t) (.func (.func g) #[] us.toArray)):=FR.put g3 dh (.func (fs:=[]) (us:=[]) rfl (fun i c u h=>by simp at h) jE.1 jE.2);generalize a1.put (some t) (.func (.func g) #[] us.toArray)=a2 at kY;have Ns:FR H2 ⟨fn.ntmps,lo⟩ [{target:=.fn (.func g) us.toArray,args:= #[]}] ((t,.func (.func g) [] ms)::e) {a2 with defers:={target:=.fn (.func g) us.toArray,args:= #[]}::a2.defers}:=⟨by rw[kY.defers],kY.size,kY.get⟩;show rest.wp P _ _ _;refine wp_mono (Rg _ H2 _ w1 g2 Ns) ?_;rintro y a' w' ⟨x,e',O',K,k1,k2,k3,k4,k5⟩
 have hinv:∀w:World,(invoke (.fn (.func g) us.toArray) #[]).run P w= .ok (.enter g us.toArray) w:=fun w=>by
  simp[invoke,hE us.toArray w]
 have fin:∀(u:FrameMode) (z:Option MV),u≠ .run->MR K z u->FR K ⟨fn.ntmps,lo⟩ [{target:=.fn (.func g) us.toArray,args:= #[]}] e' a'->gQ P g ms z O' (fun O'=>jx R O' (iZ tab e' O' rs))->
   Leaves P fn a'.tmps (fun x w'=>∃r O' H,Gh.Le G H/\WR H O' w'/\ER H r x/\R r O') a'.defers u w':=by
  intro u z hu hmr hfa hd;rw[hfa.defers];refine leaves_cons hu (hinv _) ((hd K w' us u k2 (jE.mono k1) hmr).mono ?_);rintro r u' Hu ⟨⟨v,rfl⟩,hs,O2,K2,q1,q2,q3⟩;dsimp only;rw[hs]
  have key:∃m,dJ tab fn e' O2=some m/\R (.ret m) O2:=by
   unfold dJ;rw[hr, <-sG];generalize iZ tab e' O2 rs=z at q3;unfold jx at q3;split at q3
   ·exact q3.elim
   ·exact⟨_,rfl,q3⟩
   ·rename_i l hl;refine⟨.tuple l,?_,q3⟩
    match l,hl with
    | [],_=>rfl
    | [m],hl=>exact absurd rfl (hl m)
    | _::_::_,_=>rfl
  obtain⟨m,h6,h7⟩:=key;obtain⟨u2,h8,h9⟩:=lM (P:=P) ht q2 (hfa.mono q1) h6;exact⟨u2,h8,.ret m,O2,K2,(g1.trans k1).trans q1,q2,h9,h7⟩
 cases y with
 | normal=>cases x<;>first | exact False.elim k4 | exact fin .returning none (by simp) trivial k3 k5
 | ret=>cases x<;>first | exact False.elim k4 | exact fin .returning none (by simp) trivial k3 k5
 | panic c=>
   cases x with
   | panic m=>
     obtain⟨u,rfl,hvu⟩:=k4;exact fin (.panicking [⟨u,false,false⟩]) (some m) (by simp) hvu k3.2 k5
   | _=>exact False.elim k4
 | exit i=>cases x<;>first | exact False.elim k4 | exact k5.elim
 | goto i=>cases x<;>first | exact False.elim k4 | exact k5.elim
 | outgrown=>cases x<;>exact False.elim k4
theorem VL.ais (ht:aO P tab) {brk:List Nat} {el:TypeId} {te:cL} {B n' j:Nat} {L ds:List MV} {p q:MV} {dx:TypeDesc} {d:Option Tmp} {x y:Operand} {t tx ty:TypeId} {ps:String} {af:Array Edge} {g:Option (Nat×Bool)} {LL:List (Fl×Oper)} (hne:brk≠[])
  (qs:∀i,ops[i]?=some (.mk d (.call {callee:=.builtin .append,args:= #[x,y],argTypes:= #[t,tx]}) ty ps af g)->brk.contains i=true)
  (hr:GR O el te.size B p n' L) (hs:Ax O te.size q=some (j,ds)) (iz:ds.all ec=true) (hu:(tab t).map cL.under=some (.slice el)) (he:tab el=some te) (vU:(tab tx).map cL.under=some dx) (Fk:Ay q dx) (hb:(n'+j)*te.bytes<=140737488355328) (hm:n'+j<=maxLen) (hB:B<=O.N)
  (hx:ev e x=some p) (hy:ev e y=some q) (hg:aN ops (.mk d (.call {callee:=.builtin .append,args:= #[x,y],argTypes:= #[t,tx]}) ty ps af g) e=some true) (hd:bC n d=true)
  (h:∀m O',GR O' el te.size B m (n'+j) (L++ds)->bz O (gid p) O'->(gid p=none->O.Ge O')->((∃k c,m= .bB k 0 (n'+j) c/\(gid p=some k\/(O.N<=k/\j≠0)))\/(j=0/\m=p/\O'=O))->WL P tab n D (.held brk) ops Q LL (aZ d m e) O'):
  VL P n D (.held brk) ops ((.one,.mk d (.call {callee:=.builtin .append,args:= #[x,y],argTypes:= #[t,tx]}) ty ps af g)::LL) e O Q:=by
 refine VL.jH hg hd (fun _ agE h=>by injection h with h;subst h;exact hne) (fun agE h=>by injection h with h;subst h;exact .inr hne) (RY ht hr hs iz hu he vU Fk hb hm hB hx hy) (fun agE h i hi=>by injection h with h;subst h;exact qs i hi) ?_;rintro m O' ⟨h1,h2,h3,h4⟩;exact WL.sound ht (h m O' h1 h2 h3 h4)
theorem bQ.mv {brk:List Nat} {fuel:Nat} (i:Nat) {listed:Array Bool} {l:List Oper} {d:Option Tmp} {x:Operand} {ty:TypeId} {ps:String} {af:Array Edge} {g:Option (Nat×Bool)} (h:bQ P n D ⟨l⟩ brk fuel (listed.setIfInBounds i true) (aZ d m e) O Q) (ho:l[i]?=some (.mk d (.move x) ty ps af g):=by exact rfl) (hs:Region.noSelect ⟨l⟩=true:=by kernel_rfl) (hf:Region.free .any ⟨l⟩ listed i=true:=by kernel_rfl) (hr:(Region.ready .any ⟨l⟩ listed).contains i=true:=by kernel_rfl) (N3:brk.contains i=true:=by kernel_rfl) (hg:aN ⟨l⟩ (.mk d (.move x) ty ps af g) e=some true:=by exact rfl) (hd:bC n d=true:=by exact rfl) (hx:ev e x=some m:=by exact rfl):bQ P n D ⟨l⟩ brk (fuel+1) listed e O Q:=by
 intro G a w hw aW;have hu:=aW.ev hx;have cC:∀w:World,(execOp a.eval (.mk d (.move x) ty ps af g)).run P w= .ok (.value (a.eval x)) w:=fun w=>by simp[execOp]
 have DQ:(⟨l⟩:Array Oper)[i]?=some (.mk d (.move x) ty ps af g):=by simpa using ho
 refine oS (S:=fun _=>True) (W:=fun _=>False) (brk:=fun _=>false) DQ (Region.noSelect_spec hs) (iA hd) (fun _ _ _ _=>trivial) (fun x _ hh=>by rw[N3]at hh;cases hh) fuel listed a w (Region.free_spec DQ hf) (fun _ _ _ h=>h.elim) (fun _ h=>h.elim) (fun _ _ _ h=>by cases h) (by simpa using hr) (.inl ⟨bA aW hg,fun x _=>cC x⟩) trivial (h G _ w hw (aW.aZ hd hu))
theorem bQ.bP (ix:List (Nat×Fl)) {brk:List Nat} {fuel:Nat} {listed:Array Bool} {l:List Oper} {L:List (Fl×Oper)} (h:WL P tab n D (.held brk) ⟨l⟩ Q L e O) (ht:aO P tab:=by exact aa) (hs:Region.noSelect ⟨l⟩=true:=by kernel_rfl) (hp:cV (.held brk) ⟨l⟩ fuel listed ix=true:=by kernel_rfl) (hL:oC l ix=some L:=by exact rfl):bQ P n D ⟨l⟩ brk fuel listed e O Q:=
 (WL.sound ht h) fuel listed ix (tU hL) (fun _=>⟨hs,hp⟩)
theorem VC.gen {c:Code} (h:∀O3,O3=O->VC P n D c e O3 Q):VC P n D c e O Q:=h _ rfl
theorem WL.gen {L:List (Fl×Oper)} (h:∀O3,O3=O->WL P tab n D md ops Q L e O3):WL P tab n D md ops Q L e O:=h _ rfl
theorem hY (a b:cg) {O1:VH} (h:O1=(O.push a).push b):O.Ge O1/\O1.N=O.N+2/\O1.hp O.N=some a/\O1.hp (O.N+1)=some b:=by
 subst h;exact⟨((VH.Ge.refl O).push _).push _,rfl,(VH.o0 _ _ (show O.N≠O.N+1 by omega)).trans (Ξ _ _),Ξ _ _⟩
theorem lx (a b c:cg) {O1:VH} (h:O1=((O.push a).push b).push c):O.Ge O1/\O1.N=O.N+3/\O1.hp O.N=some a/\O1.hp (O.N+1)=some b/\O1.hp (O.N+2)=some c:=by
 subst h;obtain⟨h1,h2,h3,h4⟩:=hY (O:=O) a b rfl;exact⟨h1.push _,rfl,(VH.o0 _ _ (show O.N≠O.N+2 by omega)).trans h3,(VH.o0 _ _ (show O.N+1≠O.N+2 by omega)).trans h4,Ξ _ _⟩
theorem F6 (a b c d:cg) {O1:VH} (h:O1=(((O.push a).push b).push c).push d):O.Ge O1/\O1.N=O.N+4/\O1.hp O.N=some a/\O1.hp (O.N+1)=some b/\O1.hp (O.N+2)=some c/\O1.hp (O.N+3)=some d:=by
 subst h;obtain⟨h1,h2,h3,h4,h5⟩:=lx (O:=O) a b c rfl;exact⟨h1.push _,rfl,(VH.o0 _ _ (show O.N≠O.N+3 by omega)).trans h3,(VH.o0 _ _ (show O.N+1≠O.N+3 by omega)).trans h4,(VH.o0 _ _ (show O.N+2≠O.N+3 by omega)).trans h5,Ξ _ _⟩
theorem bQ.Ce (i:Nat) {brk:List Nat} {fuel:Nat} {listed:Array Bool} {l:List Oper} {o:Oper} (h:AI (fun m O'=>bQ P n D ⟨l⟩ brk fuel (listed.setIfInBounds i true) (aZ o.dst m e) O' Q) (iX tab .rd o e O)) (ht:aO P tab:=by exact aa) (ho:l[i]?=some o:=by exact rfl) (hs:Region.noSelect ⟨l⟩=true:=by kernel_rfl) (hf:Region.free .any ⟨l⟩ listed i=true:=by kernel_rfl) (hr:(Region.ready .any ⟨l⟩ listed).contains i=true:=by kernel_rfl) (hb:oA ⟨l⟩ brk listed i=true:=by kernel_rfl) (hg:aN ⟨l⟩ o e=some true:=by exact rfl) (hd:bC n o.dst=true:=by exact rfl):bQ P n D ⟨l⟩ brk (fuel+1) listed e O Q:=by
 generalize hv:iX tab .rd o e O=v at h;cases v with
 | none=>exact h.elim
 | some p=>
   obtain⟨m,O'⟩:=p
   exact bQ.take (by simpa using ho) hs hf hr hb hd (fun G a w hw aW=>by
    obtain⟨_,u,hu,cC⟩:=xr (P:=P) ht hw aW (by simp) hv;exact⟨u,hu,.inl ⟨bA aW hg,cC⟩⟩) (by
    obtain rfl:=vI (by simp) hv;exact h)
theorem bQ.fin {brk:List Nat} {fuel:Nat} {listed:Array Bool} (hb:((List.range listed.size).all fun j=>listed.getD j true||brk.contains j)=true) (h:cE P n D ops fuel listed e O Q):bQ P n D ops brk fuel listed e O Q:=by
 intro G a w hw aW;refine nQ _ _ _ _ (fun j hj x hs hh=>?_) (h G a w hw aW);rcases am_ j listed.size with hl | hl
 ·have:=am8.1 hb j (anl.2 hl);rw[hj,ann]at this;rw[this]at hh;cases hh
 ·rw[al_,am7 (by simpa using hl)]at hj;cases hj
theorem cE.Uq {i:Nat} {fuel:Nat} {listed:Array Bool} {l:List Oper} {o:Oper} (h:AI (fun m O'=>cE P n D ⟨l⟩ fuel (listed.setIfInBounds i true) (aZ o.dst m e) O' Q) (dD tab o e O)) (ht:aO P tab:=by exact aa) (ho:l[i]?=some o:=by exact rfl) (hr:Region.ready .any ⟨l⟩ listed=[i]:=by kernel_rfl) (hg:aN ⟨l⟩ o e=some true:=by exact rfl) (hd:bC n o.dst=true:=by exact rfl):cE P n D ⟨l⟩ (fuel+1) listed e O Q:=
 cE.all hr (by simp) fun j hj=>by
  obtain rfl:j=i:=by simpa using hj
  exact aL.o1 h (ht:=ht) (ho:=ho) (hg:=hg) (hd:=hd)
theorem cE.st {i:Nat} {fuel:Nat} {listed:Array Bool} {l:List Oper} {o:Oper} {M:MV->VH->Prop} (ho:l[i]?=some o) (hr:Region.ready .any ⟨l⟩ listed=[i]) (hg:aN ⟨l⟩ o e=some true) (hd:bC n o.dst=true) (hy:gD P n D o e O M)
  (h:∀m O',M m O'->cE P n D ⟨l⟩ fuel (listed.setIfInBounds i true) (aZ o.dst m e) O' Q):cE P n D ⟨l⟩ (fuel+1) listed e O Q:=
 cE.all hr (by simp) fun j hj=>by
  obtain rfl:j=i:=by simpa using hj
  exact aL.st hy h (ho:=ho) (hg:=hg) (hd:=hd)
theorem cE.two {i j:Nat} {fuel:Nat} {listed:Array Bool} (hr:Region.ready .any ops listed=[i,j])
  (h1:aL P n D ops i e O Q fun e' O'=>cE P n D ops fuel (listed.setIfInBounds i true) e' O' Q) (h2:aL P n D ops j e O Q fun e' O'=>cE P n D ops fuel (listed.setIfInBounds j true) e' O' Q):cE P n D ops (fuel+1) listed e O Q:=
 cE.all hr (by simp) fun x hx=>by
  simp only[am9,List.not_mem_nil,or_false]at hx;rcases hx with rfl | rfl
  ·exact h1
  ·exact h2
theorem WR.XD (h:WR G O w) {k:Nat} {cs ds:List MV} (hk:O.hp k=some (.cells cs)) (hw:ff cs ds):WR G (O.set k (.cells ds)) w:=
 h.swap (by rw[hk];simp) (fun cs' e=>by
  injection e with e;subst e
  obtain⟨b,C,T,h1,h2,h3⟩:=h.cells k cs hk;exact⟨b,C,T,h1,h2,by rw[<-hw.1];exact hw.vrs h3⟩) (fun X e=>by cases e) (fun _ _ e=>by cases e) (fun e=>by cases e) (fun _ _ _ e=>by cases e)
theorem VC.XD {c:Code} {k:Nat} {cs ds:List MV} (hk:O.hp k=some (.cells cs)) (hw:ff cs ds) (h:VC P n D c e (O.set k (.cells ds)) Q):VC P n D c e O Q:=fun G a w hwr hf=>h G a w (hwr.XD hk hw) hf
theorem WR.xD (h:WR G O w) {k p o n c sz:Nat} {cs A E:List MV} (hk:O.hp k=some (.cells cs)) (hp:O.hp p=some (.cells (A++ .bB k o n c::E))) (kZ:p≠k) (hl:o+sz<=cs.length):∃H,Gh.Le G H/\WR H ((O.kill k).set p (.cells (A++ .sl n ((cs.drop o).take sz) .au::E))) w:=by
 obtain⟨b,C,T,h1,h2,h3⟩:=h.cells p _ hp;obtain⟨u,hu,hv⟩:=h3.get (i:=A.length) (c:=.bB k o n c) (by rw[ajq (Zj _),Nat.sub_self];rfl);obtain⟨H,h4,h5,h6⟩:=h.freeze hk hv hl;refine⟨H,h4,?_⟩;have N4:(O.kill k).hp p=some (.cells (A++ .bB k o n c::E)):=(VH.lh _ kZ).trans hp;refine h5.swap (by rw[N4];simp) (fun cs' e=>?_) (fun X e=>by cases e) (fun _ _ e=>by cases e) (fun e=>by cases e) (fun _ _ _ e=>by cases e);injection e with e;subst e
 refine⟨b,C,T,h4.bW h1,h2,?_⟩;have h7:=h3.mono h4;refine⟨?_,fun i c' u' hc Ex=>?_⟩
 ·rw[zP,Qm]at h7 ⊢;have:=h7.1;rw[zP,Qm]at this;exact this
 ·have hlen:(A++MV.sl n ((cs.drop o).take sz) .au::E).length=(A++MV.bB k o n c::E).length:=by simp
  rw[hlen]at Ex;by_cases hi:i=A.length
  ·subst hi;rw[ajq (Zj _),Nat.sub_self]at hc;injection hc with hc;subst hc
   rw[hu]at Ex;injection Ex with Ex;subst Ex
   exact Wk.tok _ _ h6
  ·refine h7.2 i c' u' ?_ Ex;rcases am_ i A.length with eh | iT
   ·rw[ane eh]at hc ⊢;exact hc
   ·rw[ajq iT]at hc ⊢;obtain⟨j,hj⟩:∃j,i - A.length=j+1:=⟨i - A.length - 1,by omega⟩
    rw[hj,aju]at hc ⊢;exact hc
theorem VC.xD {c0:Code} {k p o n' c sz:Nat} {cs A E:List MV} (hk:O.hp k=some (.cells cs)) (hp:O.hp p=some (.cells (A++ .bB k o n' c::E))) (kZ:p≠k) (hl:o+sz<=cs.length) (h:VC P n D c0 e ((O.kill k).set p (.cells (A++ .sl n' ((cs.drop o).take sz) .au::E))) Q):VC P n D c0 e O Q:=fun G a w hw hf=>by
 obtain⟨H,h1,h2⟩:=hw.xD hk hp kZ hl;exact wp_mono (h H a w h2 (hf.mono h1)) fun _ _ _=>cM.le h1
end
section
variable {G H:Gh} {n:Sz} {D:List Deferred} {e e':Env} {a:Act} {P:Program} {tab:cj} {O O':VH} {w:World} {m m':MV} {u v:Value} {ops:Array Oper} {Q:VQ} {md:Md}
theorem ae.akF (i:Nat) {brk:List Nat} {Ψ :Gh->Prop} {J:VH->Prop} {Z:Prop} {fuel:Nat} {listed:Array Bool} {l:List Oper} {o:Oper} (h:AI (fun m O'=>ae P n D ⟨l⟩ brk J Ψ Z fuel (listed.setIfInBounds i true) (aZ o.dst m e) O' Q) (iX tab .ar o e O)) (ht:aO P tab:=by exact aa) (ho:l[i]?=some o:=by exact rfl) (hs:Region.noSelect ⟨l⟩=true:=by kernel_rfl) (hf:Region.free .any ⟨l⟩ listed i=true:=by kernel_rfl) (hr:(Region.ready .any ⟨l⟩ listed).contains i=true:=by kernel_rfl) (N3:brk.contains i=true:=by kernel_rfl) (hg:aN ⟨l⟩ o e=some true:=by exact rfl) (hd:bC n o.dst=true:=by exact rfl):ae P n D ⟨l⟩ brk J Ψ Z (fuel+1) listed e O Q:=by
 generalize hv:iX tab .ar o e O=v at h;cases v with
 | none=>exact h.elim
 | some p=>
   obtain⟨m,O'⟩:=p;obtain⟨h1,rfl⟩:=oB hv;intro hΨ hZ hJ G a w hψ hw aW;obtain⟨u,hu,cC⟩:=vu (P:=P) ht aW h1;have DQ:(⟨l⟩:Array Oper)[i]?=some o:=by simpa using ho
   exact oS (S:=fun x=>SS G x) (W:=fun _=>False) (brk:=fun _=>false) DQ (Region.noSelect_spec hs) (iA hd) (fun _ _ _ hT=>hT.1) (fun x hx=>⟨hx,fun hh=>by rw[N3]at hh;cases hh⟩) fuel listed a w (Region.free_spec DQ hf) (fun _ _ _ h=>h.elim) (fun _ h=>h.elim) (fun _ _ _ h=>by cases h) (by simpa using hr) (.inl ⟨bA aW hg,fun x hx=>cC x hx⟩) hw.ss (h hΨ hZ hJ G _ w hψ hw (aW.aZ hd hu))
theorem VC.qO {id:Nat} (brk:List Nat) (J:VH->Prop) (hJ:J O) (h:ae P n D ops brk J (fun _=>True) True ops.size (Array.replicate ops.size false) e O Q) (hm:P.follows .mixedOrders=true:=by kernel_rfl):VC P n D (.region id ops true) e O Q:=
 fun G a w hw hf=>wp_region_any hm (lg _ _ _ _ (h (fun _ _ _ _=>trivial) trivial hJ G a _ trivial (hw.drawn _) hf))
def exP:MV->Bool
 | .ptr _ _=>true
 | .map _=>true
 | m=>exM m
theorem abk (hm:exP m=true) (h1:VR G m u) (hl:Gh.Le G H) (h2:VR H m v):v=u:=by
 cases m with
 | ptr k o=>
   cases h1 with
   | ptr a=>cases h2 with
     | ptr b=>rw[hl.bW a]at b;injection b with b;rw[b]
 | map k=>
   cases h1 with
   | map a=>cases h2 with
     | map b=>rw[hl.bW a]at b;injection b with b;rw[b]
 | _=>refine Ua ?_ h1 h2;exact hm
theorem Ω (i:Nat) {J:VH->Prop} {Ψ :Gh->Prop} {Z:Prop} {brk:List Nat} {fuel:Nat} {listed:Array Bool} {l:List Oper} {d:Option Tmp} {t:TypeId} {x:Operand} {ty:TypeId} {ps:String} {af:Array Edge} {g:Option (Nat×Bool)} {p:MV} (hv:∀O2,J O2->ft tab O2 t p=some m) (h:ae P n D ⟨l⟩ brk J Ψ Z fuel (listed.setIfInBounds i true) (aZ d m e) O Q) (ht:aO P tab:=by exact aa) (ho:l[i]?=some (.mk d (.load t x) ty ps af g):=by exact rfl) (hs:Region.noSelect ⟨l⟩=true:=by kernel_rfl) (hf:Region.free .any ⟨l⟩ listed i=true:=by kernel_rfl) (hr:(Region.ready .any ⟨l⟩ listed).contains i=true:=by kernel_rfl) (hb:oA ⟨l⟩ brk listed i=true:=by kernel_rfl) (hg:aN ⟨l⟩ (.mk d (.load t x) ty ps af g) e=some true:=by exact rfl) (hd:bC n d=true:=by exact rfl) (hx:ev e x=some p:=by exact rfl) (hm:exP m=true:=by exact rfl):ae P n D ⟨l⟩ brk J Ψ Z (fuel+1) listed e O Q:=by
 refine ae.take (o:=.mk d (.load t x) ty ps af g) (by simpa using ho) hs hf hr hb hd (fun G a w _ hJ _ hw aW=>?_) h;obtain⟨u0,hu0,_⟩:=oX (P:=P) ht hw (hv O hJ) (aW.ev hx);refine⟨u0,hu0,.inl ⟨bA aW hg,fun y hy=>?_⟩⟩;obtain⟨H,O2,g1,g2,g3⟩:=hy;obtain⟨r,g4,g5⟩:=oX (P:=P) ht g2 (hv O2 g3) ((aW.ev hx).mono g1);have:=g5 y g2.sx;have er:=abk hm hu0 g1 g4;subst er;simp only[execOp,Sem.run_bind,this];rfl
def N5 (k1 k2:Nat) (X1 X2:Obj) (O':VH):Prop:=O'.hp k1=some (.obj X1)/\O'.hp k2=some (.obj X2)
def ΨFF (RZ N6:List MV) (X1 X2:Obj) (G:Gh):Prop:=lq RZ X1 G/\lq N6 X2 G
theorem VC.Ei {id:Nat} (brk:List Nat) (k1 k2:Nat) {RZ N6:List MV} (cA:O.hp k1=some (.cells RZ)) (bM:O.hp k2=some (.cells N6))
  (h:∀X1 X2,ae P n D ops brk (N5 k1 k2 X1 X2) (ΨFF RZ N6 X1 X2) True ops.size (Array.replicate ops.size false) e ((O.set k1 (.obj X1)).set k2 (.obj X2)) Q) (hne:k2≠k1:=by omega) (hm:P.follows .mixedOrders=true:=by kernel_rfl):VC P n D (.region id ops true) e O Q:=
 fun G a w hw hf=>by
  obtain⟨X1,eP,Kw⟩:=(hw.drawn _).fix cA;obtain⟨X2,jb,sI⟩:=Kw.fix (k:=k2) (cs:=N6) ((π _ _ hne).trans bM);exact wp_region_any hm (lg _ _ _ _ (h X1 X2 (fun _ _ hl hx=>⟨lq.mono hl hx.1,lq.mono hl hx.2⟩) trivial ⟨(π _ _ (Ne.symm hne)).trans (ρ _ _ _),ρ _ _ _⟩ G a _ ⟨eP,jb⟩ sI hf))
theorem ζ (i:Nat) {J:VH->Prop} {Ψ :Gh->Prop} {Z:Prop} {brk:List Nat} {cs:List MV} {X:Obj} {fuel:Nat} {listed:Array Bool} {l:List Oper} {d:Option Tmp} {t:TypeId} {x:Operand} {ty:TypeId} {ps:String} {af:Array Edge} {g:Option (Nat×Bool)} {k off:Nat} (hJ:∀O',J O'->O'.hp k=some (.obj X)) (hΨ :∀G, Ψ G->lq cs X G) (hv:ft tab (O.set k (.cells cs)) t (.ptr k off)=some m) (h:ae P n D ⟨l⟩ brk J Ψ Z fuel (listed.setIfInBounds i true) (aZ d m e) O Q) (ht:aO P tab:=by exact aa) (ho:l[i]?=some (.mk d (.load t x) ty ps af g):=by exact rfl) (hs:Region.noSelect ⟨l⟩=true:=by kernel_rfl) (hf:Region.free .any ⟨l⟩ listed i=true:=by kernel_rfl) (hr:(Region.ready .any ⟨l⟩ listed).contains i=true:=by kernel_rfl) (hb:oA ⟨l⟩ brk listed i=true:=by kernel_rfl) (hg:aN ⟨l⟩ (.mk d (.load t x) ty ps af g) e=some true:=by exact rfl) (hd:bC n d=true:=by exact rfl) (hx:ev e x=some (.ptr k off):=by exact rfl):ae P n D ⟨l⟩ brk J Ψ Z (fuel+1) listed e O Q:=by
 refine ae.take (o:=.mk d (.load t x) ty ps af g) (by simpa using ho) hs hf hr hb hd (fun G a w _ hJO hψ hw aW=>?_) h;obtain⟨C,T,rfl,h3⟩:=hΨ G hψ;unfold ft at hv;simp only[cellsOf,ρ]at hv;split at hv
 ·rename_i ti cs' off' Qz hc;injection hc with hc;injection hc with e1 e2;subst e1;subst e2
  obtain⟨r,kA,gu⟩:=Fx (P:=P) ht Qz hv h3;have hxr:=aW.ev hx;generalize hxe:a.eval x=xu at hxr;cases hxr with
  | ptr hp=>
    rename_i b;refine⟨r,kA,.inl ⟨bA aW hg,fun y hy=>?_⟩⟩;obtain⟨H,O2,g1,g2,g3⟩:=hy;obtain⟨b',cD,cJ⟩:=g2.obj k _ (hJ _ g3);rw[g1.bW hp]at cD;injection cD with cD;subst cD
    have:=gu y b fun j v hj=>by
     rw[anb]at hj;split at hj
     ·simp only[World.cell?,cJ,Option.isSome_none,anc,if_false];simpa using hj
     ·cases hj
    simp only[execOp,Sem.run_bind,hxe,this];rfl
 ·cases hv
theorem ae.xE (ix:List (Nat×Fl)) {brk:List Nat} {k1 k2:Nat} {RZ N6:List MV} {X1 X2:Obj} {fuel:Nat} {listed:Array Bool} {l:List Oper} {L:List (Fl×Oper)}
  (h:WL P tab n D .any ⟨l⟩ Q L e ((O.set k1 (.cells RZ)).set k2 (.cells N6))) (ht:aO P tab:=by exact aa) (hb:((List.range listed.size).all fun j=>listed.getD j true||brk.contains j)=true:=by kernel_rfl) (hs:Region.noSelect ⟨l⟩=true:=by kernel_rfl) (hp:cV .any ⟨l⟩ fuel listed ix=true:=by kernel_rfl) (hL:oC l ix=some L:=by exact rfl) (hne:k2≠k1:=by omega):ae P n D ⟨l⟩ brk (N5 k1 k2 X1 X2) (ΨFF RZ N6 X1 X2) True fuel listed e O Q:=by
 have h':=cE.bP ix h (ht:=ht) (hs:=hs) (hp:=hp) (hL:=hL);intro hΨ hZ hJ G a w hψ hw aW;refine nQ _ _ _ _ (fun j hj x hs=>⟨hs,fun hh=>?_⟩) (h' G a w ((hw.yx hJ.1 hψ.1).yx (k:=k2) ((π _ _ hne).trans hJ.2) hψ.2) aW);rcases am_ j listed.size with hl | hl
 ·have:=am8.1 hb j (anl.2 hl);rw[hj,ann]at this;rw[this]at hh;cases hh
 ·rw[al_,am7 (by simpa using hl)]at hj;cases hj
theorem VC.Bb {id:Nat} (brk:List Nat) (k:Nat) {cs:List MV} (J0:VH->Prop) (hk:O.hp k=some (.cells cs)) (h0:∀X,J0 (O.set k (.obj X)))
  (h:∀X,ae P n D ops brk (fun O'=>O'.hp k=some (.obj X)/\J0 O') (lq cs X) True ops.size (Array.replicate ops.size false) e (O.set k (.obj X)) Q) (hm:P.follows .mixedOrders=true:=by kernel_rfl):VC P n D (.region id ops true) e O Q:=
 fun G a w hw hf=>by
  obtain⟨X,hx,sI⟩:=(hw.drawn _).fix hk;exact wp_region_any hm (lg _ _ _ _ (h X (fun _ _=>lq.mono) trivial ⟨ρ _ _ _,h0 X⟩ G a _ hx sI hf))
theorem ae.kf (ix:List (Nat×Fl)) {brk:List Nat} {k:Nat} {cs:List MV} {X:Obj} {J0:VH->Prop} {fuel:Nat} {listed:Array Bool} {l:List Oper} {L:List (Fl×Oper)}
  (h:WL P tab n D .any ⟨l⟩ Q L e (O.set k (.cells cs))) (ht:aO P tab:=by exact aa) (hb:((List.range listed.size).all fun j=>listed.getD j true||brk.contains j)=true:=by kernel_rfl) (hs:Region.noSelect ⟨l⟩=true:=by kernel_rfl) (hp:cV .any ⟨l⟩ fuel listed ix=true:=by kernel_rfl) (hL:oC l ix=some L:=by exact rfl):ae P n D ⟨l⟩ brk (fun O'=>O'.hp k=some (.obj X)/\J0 O') (lq cs X) True fuel listed e O Q:=by
 have h':=cE.bP ix h (ht:=ht) (hs:=hs) (hp:=hp) (hL:=hL);intro hΨ hZ hJ G a w hψ hw aW;refine nQ _ _ _ _ (fun j hj x hs=>⟨hs,fun hh=>?_⟩) (h' G a w (hw.yx hJ.1 hψ) aW);rcases am_ j listed.size with hl | hl
 ·have:=am8.1 hb j (anl.2 hl);rw[hj,ann]at this;rw[this]at hh;cases hh
 ·rw[al_,am7 (by simpa using hl)]at hj;cases hj
end
set_option linter.defProp false in
def bU:=Qn eL<|Qn T4 T3
def lW (eT:Bool) (s:Bs):Bool:=(lT s).2&&(eT||(lT s).1 != 6)
theorem R0 (eT:Bool) (O:VH):VF Tryz.prog 307 [mb eT] O (aD fun m O'=>m= .func (.func 318) [] [.ptr O.N 0]/\nU O [mb eT] O'):=by
 refine υ 4 [.tmp 2] Tryz.func307 ?_;refine κ @bU ?_;refine VC.bx ?_;rintro O1 h1;refine ν @bU ?_;exact h1
theorem N7 (eT:Bool) (s:Bs) (b:Nat) (O:VH) (hb:O.hp b=some (.cells [mb eT])):VF Tryz.prog 318 ([.str s]++[.ptr b 0]) O (aD fun m O'=>m=mb (lW eT s)/\O.Ge O'):=by
 have hS:=N2 s O;have hF:lW eT s=((lT s).2&&(eT||(lT s).1 != 6)):=rfl;generalize lW eT s=W at*;generalize lT s=q at*;obtain⟨n,c⟩:=q;simp only[adY,adW];dsimp only at hF hS;simp only[bw]at hb;refine Δ 19 [.tmp 3] Tryz.func318 ?_;refine ab @bU ?_;refine ah.rt (hS) ?_;rintro _ O2 ⟨rfl,rfl⟩;subst hF;cases c
 ·refine ao @bU @hb ?_;exact VH.Ge.refl _
 ·cases eT
  ·by_cases h6:n=6
   ·subst h6;refine ao @bU @hb ?_;exact⟨rfl,VH.Ge.refl _⟩
   ·have h6':((n:Int)==6)=false:=by rw[beq_eq_false_iff_ne];omega
    have h6b:((n:Int) != 6)=true:=by rw[bne,h6'];rfl
    have h6n:(n != 6)=true:=by rw[bne_iff_ne];exact h6
    refine iN @bU @hb @h6' @h6b @h6n ?_;exact VH.Ge.refl _
  ·refine ao @bU @hb ?_;exact VH.Ge.refl _
structure DS (O:VH) (B:Nat) (E:List MV) (O':VH) (cs:List MV):Prop where
 en:O.Ge O'
 le:O.N<=B
 x:O'.hp B=some (.cells E)
 d:O'.hp (B+1)=some (.cells cs)
 lt:B+1<O'.N
theorem DS.st {O O':VH} {B:Nat} {E cs cs':List MV} (h:DS O B E O' cs):DS O B E (O'.set (B+1) (.cells cs')) cs':=
 ⟨h.en.set (by have:=h.le;omega) _,h.le,ω h.x,ρ _ _ _,h.lt⟩
theorem DS.ge {O O' O2:VH} {B:Nat} {E cs:List MV} (h:DS O B E O' cs) (k:O'.Ge O2):DS O B E O2 cs:=
 ⟨h.en.trans k,h.le,(k.hp _ (by have:=h.lt;omega)).trans h.x,(k.hp _ h.lt).trans h.d,agc h.lt k.N⟩
theorem DS.yx {O O' O2:VH} {B:Nat} {E cs:List MV} {X:Obj} (h:DS O B E O' cs) (k:(O'.set B (.obj X)).Ge O2):DS O B E (O2.set B (.cells E)) cs:=by
 have e1:(O'.set B (.obj X)).N=O'.N:=rfl;have e2:(O2.set B (.cells E)).N=O2.N:=rfl;have h1:=h.le;have h2:=h.lt;have h3:=h.en.N;have h4:=k.N;refine⟨⟨by omega,fun j hj=>?_⟩,h.le,ρ _ _ _,?_,by omega⟩
 ·rw[π _ _ (by omega),k.hp j (by omega),π _ _ (by omega)];exact h.en.hp j hj
 ·rw[π _ _ (by omega),k.hp _ (by omega),π _ _ (by omega)];exact h.d
theorem VC.ds {P:Program} {n:Sz} {D:List Deferred} {c:Code} {e:Env} {Q:VQ} {O O':VH} {B:Nat} {E cs cs':List MV} (h:DS O B E O' cs) (k:∀O3,DS O B E O3 cs'->VC P n D c e O3 Q):VC P n D c e (O'.set (B+1) (.cells cs')) Q:=k _ h.st
theorem VC.ds0 {P:Program} {n:Sz} {D:List Deferred} {c:Code} {e:Env} {Q:VQ} {O:VH} {E cs:List MV} (k:∀O3,DS O O.N E O3 cs->VC P n D c e O3 Q):VC P n D c e ((O.push (.cells E)).push (.cells cs)) Q:=
 k _ ⟨((VH.Ge.refl O).push _).push _,Zj _,(Υ _ _ (ajo _)).trans (Ξ _ _),Ξ _ _,ajo _⟩
def ee:Bs->Bool:=fun _=>true
theorem uh (s:Bs) (O':VH):VF Tryz.prog 266 ([.str s]++[]) O' (aD fun m mz=>m=mb (ee s)/\O'.Ge mz):=afb s O'
theorem XE (s:Bs) (O':VH):VF Tryz.prog 308 ([.str s]++[]) O' (aD fun m mz=>m=mb (nj s)/\O'.Ge mz):=RL s O'
def iE (s:Bs):Bool:=AU ⟨s,s⟩
theorem N8 (s:Bs) (O':VH) (hs:s.length<=1024):VF Tryz.prog 309 ([.str s]++[]) O' (aD fun m mz=>m=mb (iE s)/\O'.Ge mz):=XA s O' (by simp only[maxLen];omega)
def exE (k:Nd×Bs):Except (Int×Bs) gx:=
 match bX k.1 k.2 eE true iE with
 | .error e=>.error e
 | .ok g=>match bX k.1 k.2 eo true iE with
   | .error e=>.error e
   | .ok a=>.ok ⟨g,a⟩
def yD:List (Nd×Bs)->List gx->Except (Int×Bs) (List gx)
 | [],X=>.ok X
 | k::r,X=>match exE k with
   | .error e=>.error e
   | .ok i=>yD r (X++[i])
def wh (x:Nd) (w:Bs):Except (Int×Bs) (List gx):=
 match cH x w mw with
 | .error e=>.error e
 | .ok ((_,_),false)=>.ok []
 | .ok ((y,wy),true)=>match nX y wy uO with
   | .error e=>.error e
   | .ok l=>yD l []
def abl (s:Bs):Int:=if s=kM then 1 else if s=lP then 2 else 0
def pM (d:Dp):Except (Int×Bs) (List gx)->Except (Int×Bs) Dp
 | .error e=>.error e
 | .ok X=>.ok ⟨d.g,d.a,d.v,d.t,d.c,d.s,d.o,X⟩
def F7 (x:Nd) (w:Bs) (eT:Bool):Except (Int×Bs) Dp:=
 match bX x w eE true ee with
 | .error e=>.error e
 | .ok g=>match bX x w eo true ee with
 | .error e=>.error e
 | .ok a=>match bX x w fS false ee with
 | .error e=>.error e
 | .ok v=>match bX x w AW false ee with
 | .error e=>.error e
 | .ok t=>match bX x w AX false ee with
 | .error e=>.error e
 | .ok c=>match bX x w rM false (lW eT)with
 | .error e=>.error e
 | .ok s=>match bX x w nh false nj with
 | .error e=>.error e
 | .ok o=>pM ⟨g,a,v,t,c,(lT s).1,abl o,[]⟩ (wh x w)
theorem I_ {y:Nd} {wy nm:Bs} {L:List (Nd×Bs)} (h:nX y wy nm= .ok L):L.length<=1024/\∀p∈L,k7 p.1<=k7 y/\p.2.length<=wy.length+nm.length+1030:=by
 unfold nX at h;split at h
 ·cases h
 ·rename_i hn;injection h with h;subst h
  refine⟨by rw[I9];omega,fun p hp=>?_⟩;unfold qL at hp;obtain⟨i,hi,rfl⟩:=List.mem_mapIdx.1 hp;have hk:=RN (ajk hi);have uZ:=sN (i+1);refine⟨am6 hk,?_⟩;simp only[Eh,zP,Qm,Ma];omega
theorem DS.ait {O O' O2:VH} {B k:Nat} {E cs:List MV} {x y:cg} (h:DS O B E O' cs) (hk:B+1<k) (g:(O'.set k x).Ge O2):DS O B E (O2.set k y) cs:=by
 have e1:(O'.set k x).N=O'.N:=rfl;have e2:(O2.set k y).N=O2.N:=rfl;have h1:=h.le;have h2:=h.lt;have h3:=h.en.N;have h4:=g.N
 have key:∀j,j<O'.N->j≠k->(O2.set k y).hp j=O'.hp j:=fun j hj hn=>by
  rw[π _ _ hn,g.hp j (by omega),π _ _ hn]
 exact⟨⟨by omega,fun j hj=>(key j (by omega) (by omega)).trans (h.en.hp j hj)⟩,h.le,(key _ (by omega) (by omega)).trans h.x,(key _ (by omega) (by omega)).trans h.d,by omega⟩
theorem DS.app {O O':VH} {B sz:Nat} {E cs:List MV} {tk:Tok} (h:DS O B E O' cs) (ha:App O' (B+2) sz tk):DS O B E (O'.after tk) cs:=by
 have k:=b_.after ha;have h1:=h.le;have h2:=h.lt;have h3:=h.en.N;have key:∀j,j<B+2->(O'.after tk).hp j=O'.hp j:=fun j hj=>k.hp j (by omega) (fun e=>by have:=(App.nD ha e).1;omega)
 exact⟨⟨Vq h3 k.N,fun j hj=>(key j (by omega)).trans (h.en.hp j hj)⟩,h.le,(key _ (by omega)).trans h.x,(key _ (by omega)).trans h.d,agc h2 k.N⟩
theorem App.o7 {O:VH} {B sz k:Nat} {tk:Tok} {x:cg} (h:App O B sz tk) (hk:O.hp k≠some .tok):App (O.set k x) B sz tk:=by
 cases tk with
 | own t j=>exact⟨h.1,(π _ _ (fun e=>by subst e;exact hk h.2.1)).trans h.2.1,h.2.2.1,h.2.2.2⟩
 | nil=>trivial
 | full=>trivial
 | au=>exact h.elim
section
variable {P:Program} {n:Sz} {D:List Deferred} {e:Env} {O:VH} {Q:VQ}
theorem aL.qM {i:Nat} {l:List Oper} {d:Option Tmp} {f:Operand} {xs:Array Operand} {ts:Array TypeId} {ty:TypeId} {ps:String} {af:Array Edge} {g:Option (Nat×Bool)} {id:FuncId} {ms cs:List MV} {R:gC->VH->Prop} {K:Env->VH->Prop} (hR:VF P id (ms++cs) O R)
  (h:∀m O',R (.ret m) O'->K (aZ d m e) O') (h2:∀m O',R (.panic m) O'->Q (.panic m) (k_ n e) O') (ho:l[i]?=some (.mk d (.call {callee:=.value f,args:=xs,argTypes:=ts}) ty ps af g):=by exact rfl) (hg:aN ⟨l⟩ (.mk d (.call {callee:=.value f,args:=xs,argTypes:=ts}) ty ps af g) e=some true:=by exact rfl) (hf:ev e f=some (.func (.func id) [] cs):=by exact rfl) (hm:gh e xs.toList=some ms:=by exact rfl) (hb:db P id=true:=by kernel_rfl) (hd:bC n d=true:=by exact rfl):aL P n D ⟨l⟩ i e O Q K:=
 aL.call (o:=.mk d (.call {callee:=.value f,args:=xs,argTypes:=ts}) ty ps af g) (by simpa using ho) hg rfl rfl hf hm (Enters.sH hb) hd (by simpa using hR) fun r O' hr=>by
  cases r with
  | ret m=>exact h m O' hr
  | panic m=>exact h2 m O' hr
end
theorem aiu (x:Nd) (w:Bs) (eT:Bool) (O:VH) (hx:k7 x<=1000000) (hw6:w.length<=6000):
  VF Tryz.prog 289 [.agg (k6 x w),mb eT] O (FQ O (F7 x w eT) fun y m=>m= .agg (aU y)):=by
 have hw:w.length<=10000:=by omega
 refine VF.fgR ?_;have sb:=qK x w;have wa:=sO x w mw;have wc:= @sQ x w mw;obtain⟨PE,hP⟩:∃PE,F7 x w eT=PE:=⟨_,rfl⟩
 rw[hP];unfold F7 at hP
 have HN:∃a b c d e,k6 x w=[a,b,c,d,e]:=by
  cases x;simp only[k6,dK];exact⟨_,_,_,_,_,rfl⟩
 obtain⟨a,b,c,d,e,hE⟩:=HN;simp only[hE]at sb wa ⊢;clear hE;refine υ 66 [.cell 4 56] Tryz.func289 ?_;refine κ @bU ?_;refine VC.ds0 ?_;intro _ hd;have e_:=hd.x;have c_:=hd.d;refine θ (aG @bU @e_ @c_ ?_);clear e_ c_;refine ah.p (sb eE true ee 266 [] _ hx hw (by decide) (by kernel_rfl) (fun s O' _ _=>uh s O')) ?_ ?_;rotate_left
 ·rintro m O9 ⟨bj,h⟩;cases hF:bX x w eE true ee with
  | ok s=>rw[hF]at h;exact h.elim
  | error e=>
    rw[hF]at h hP;dsimp only at h hP;rw[h, <-hP];refine ab @bU ?_;exact⟨hd.en.trans bj,rfl⟩
 rintro m O1 ⟨bj,h⟩;cases R1:bX x w eE true ee with
 | error e=>rw[R1]at h;exact h.elim
 | ok s1=>
 rw[R1]at h hP;dsimp only at h hP;subst h;have hb:=hd.ge bj;clear bj hd;have e_:=hb.x;have c_:=hb.d;refine aG @bU @e_ @c_ ?_;refine VC.ds hb ?_;clear e_ c_ hb;intro _ hd;have e_:=hd.x;have c_:=hd.d;refine θ (aG @bU @e_ @c_ ?_);clear e_ c_;refine ah.p (sb eo true ee 266 [] _ hx hw (by decide) (by kernel_rfl) (fun s O' _ _=>uh s O')) ?_ ?_;rotate_left
 ·rintro m O9 ⟨bj,h⟩;cases hF:bX x w eo true ee with
  | ok s=>rw[hF]at h;exact h.elim
  | error e=>
    rw[hF]at h hP;dsimp only at h hP;rw[h, <-hP];refine ab @bU ?_;exact⟨hd.en.trans bj,rfl⟩
 rintro m O2 ⟨bj,h⟩;cases KS:bX x w eo true ee with
 | error e=>rw[KS]at h;exact h.elim
 | ok s2=>
 rw[KS]at h hP;dsimp only at h hP;subst h;have hb:=hd.ge bj;clear bj hd;have e_:=hb.x;have c_:=hb.d;refine aG @bU @e_ @c_ ?_;refine VC.ds hb ?_;clear e_ c_ hb;intro _ hd;have e_:=hd.x;have c_:=hd.d;refine θ (aG @bU @e_ @c_ ?_);clear e_ c_;refine ah.p (sb fS false ee 266 [] _ hx hw (by decide) (by kernel_rfl) (fun s O' _ _=>uh s O')) ?_ ?_;rotate_left
 ·rintro m O9 ⟨bj,h⟩;cases hF:bX x w fS false ee with
  | ok s=>rw[hF]at h;exact h.elim
  | error e=>
    rw[hF]at h hP;dsimp only at h hP;rw[h, <-hP];refine ab @bU ?_;exact⟨hd.en.trans bj,rfl⟩
 rintro m O3 ⟨bj,h⟩;cases R3:bX x w fS false ee with
 | error e=>rw[R3]at h;exact h.elim
 | ok s3=>
 rw[R3]at h hP;dsimp only at h hP;subst h;have hb:=hd.ge bj;clear bj hd;have e_:=hb.x;have c_:=hb.d;refine aG @bU @e_ @c_ ?_;refine VC.ds hb ?_;clear e_ c_ hb;intro _ hd;have e_:=hd.x;have c_:=hd.d;refine θ (aG @bU @e_ @c_ ?_);clear e_ c_;refine ah.p (sb AW false ee 266 [] _ hx hw (by decide) (by kernel_rfl) (fun s O' _ _=>uh s O')) ?_ ?_;rotate_left
 ·rintro m O9 ⟨bj,h⟩;cases hF:bX x w AW false ee with
  | ok s=>rw[hF]at h;exact h.elim
  | error e=>
    rw[hF]at h hP;dsimp only at h hP;rw[h, <-hP];refine ab @bU ?_;exact⟨hd.en.trans bj,rfl⟩
 rintro m O4 ⟨bj,h⟩;cases hF4:bX x w AW false ee with
 | error e=>rw[hF4]at h;exact h.elim
 | ok s4=>
 rw[hF4]at h hP;dsimp only at h hP;subst h;have hb:=hd.ge bj;clear bj hd;have e_:=hb.x;have c_:=hb.d;refine aG @bU @e_ @c_ ?_;refine VC.ds hb ?_;clear e_ c_ hb;intro _ hd;have e_:=hd.x;have c_:=hd.d;refine θ (aG @bU @e_ @c_ ?_);clear e_ c_;refine ah.p (sb AX false ee 266 [] _ hx hw (by decide) (by kernel_rfl) (fun s O' _ _=>uh s O')) ?_ ?_;rotate_left
 ·rintro m O9 ⟨bj,h⟩;cases hF:bX x w AX false ee with
  | ok s=>rw[hF]at h;exact h.elim
  | error e=>
    rw[hF]at h hP;dsimp only at h hP;rw[h, <-hP];refine ab @bU ?_;exact⟨hd.en.trans bj,rfl⟩
 rintro m O5 ⟨bj,h⟩;cases hF5:bX x w AX false ee with
 | error e=>rw[hF5]at h;exact h.elim
 | ok s5=>
 rw[hF5]at h hP;dsimp only at h hP;subst h;have hb:=hd.ge bj;clear bj hd;have e_:=hb.x;have c_:=hb.d;refine aG @bU @e_ @c_ ?_;refine VC.ds hb ?_;clear e_ c_ hb;intro O6 hd;have e_:=hd.x;refine χ ?_;refine VC.qw [7,8,9] (O.N) (e_) ?_;intro X;refine ae.ar 1 ?_;refine ab @bU ?_;refine ε (m:=.agg [a,b,c,d,e]) 0 ?_ ?_
 ·exact fU @bU
 simp only[ak];refine ae.call (i:=2) (R0 eT _) ?_;rintro _ O7 ⟨rfl,eV,u7,uY⟩;simp only[ak];refine⟨(eV.hp _ (by have:=hd.lt;show _<O6.N;omega)).trans (ρ _ _ _),?_⟩;have hl6:=hd.lt;have akG:O7.N=O6.N+1:=uY;have agF:O7.hp O6.N=some (.cells [mb eT]):=u7;refine ae.j8 (k:=O.N) (i:=3) (sb rM false (lW eT) 318 [.ptr O6.N 0] O7 hx hw (by decide) (by kernel_rfl) (fun s O' Cd _=>N7 eT s _ O' (Cd.at agF))) ?_ ?_;rotate_left
 ·rintro m O8 ⟨fV,h⟩;have hX:=((eV.trans fV).hp _ (by show O.N<O6.N;omega)).trans (ρ _ _ _);refine⟨hX,?_⟩;cases hF:bX x w rM false (lW eT)with
  | ok s=>rw[hF]at h;exact h.elim
  | error e=>
    rw[hF]at h hP;dsimp only at h hP;rw[h, <-hP];refine ab @bU ?_;exact⟨(hd.yx (eV.trans fV)).en,rfl⟩
 rintro m O8 ⟨fV,h⟩;have hX:=((eV.trans fV).hp _ (by show O.N<O6.N;omega)).trans (ρ _ _ _);refine⟨hX,?_⟩;cases hF6:bX x w rM false (lW eT)with
 | error e=>rw[hF6]at h;exact h.elim
 | ok s6=>
 rw[hF6]at h hP;dsimp only at h hP;subst h;simp only[ak];refine ae.call (i:=4) (N2 s6 _) ?_;rintro _ O9 ⟨rfl,eO⟩;rw[eO];clear eO O9
 simp only[ak];refine⟨hX,?_⟩;have hb:=hd.yx (eV.trans fV);have c_:=(π O8 (.cells [a,b,c,d,e]) (by omega:O.N+1≠O.N)).symm.trans hb.d;refine ae.ar 5 ?_;refine ab @bU ?_;refine ae.akF 7 ?_;refine ab @bU ?_;refine ae.ar 6 ?_;refine ab @bU ?_;refine ae.nR [(8,.ar),(9,.one)] ?_;refine ao @bU @c_ ?_;clear u7 agF c_ hX e_;generalize lT s6=sc at*;refine VC.ds hb ?_;clear hb hd eV fV hl6 uY akG;intro O9 hd;have e_:=hd.x;have c_:=hd.d;refine Θ [2,4] (fun _:Int=>[.ptr O.N 0,.ptr (O.N+1) 0]) (fun o O'=>DS O O.N [a,b,c,d,e] O' [.str s1,.str s2,.str s3,.str s4,.str s5,mi sc.1,mi o,.sl 0 [] .nil]/\pM ⟨s1,s2,s3,s4,s5,sc.1,o,[]⟩ (wh x w)=PE) ?_ ?_
 ·refine θ (aG @bU @e_ @c_ ?_);clear e_ c_;refine ah.p (sb nh false nj 308 [] _ hx hw (by decide) (by kernel_rfl) (fun s O' _ _=>XE s O')) ?_ ?_;rotate_left
  ·rintro m O9 ⟨bj,h⟩;cases hF:bX x w nh false nj with
   | ok s=>rw[hF]at h;exact h.elim
   | error e=>
     rw[hF]at h hP;dsimp only at h hP;rw[h, <-hP];refine ab @bU ?_;exact⟨hd.en.trans bj,rfl⟩
  rintro m OA ⟨bj,h⟩;cases hF7:bX x w nh false nj with
  | error e=>rw[hF7]at h;exact h.elim
  | ok s7=>
  rw[hF7]at h hP;dsimp only at h hP;subst h;have hb:=hd.ge bj;clear bj hd;have e_:=hb.x;have c_:=hb.d;refine aG @bU @e_ @c_ ?_;have gq:=fun o:Int=>hb.st (cs':=[.str s1,.str s2,.str s3,.str s4,.str s5,mi sc.1,mi o,.sl 0 [] .nil])
  simp only[aq]at gq;unfold abl at hP;refine τ ?_;cases h1:s7==kM
  ·rw[if_neg (fun e=>by rw[e]at h1;exact absurd h1 (by decide))]at hP;cases h2:s7==lP
   ·rw[if_neg (fun e=>by rw[e]at h2;exact absurd h2 (by decide))]at hP;simp only[kM,lP]at h1 h2;refine ι (cR @bU @c_ @h1 @h2 ?_);exact aA.mk 0 ⟨hb,hP⟩
   ·rw[if_pos (eq_of_beq h2)]at hP;simp only[kM,lP]at h1 h2;refine ι (cR @bU @c_ @h1 @h2 ?_);exact aA.mk 2 ⟨gq 2,hP⟩
  ·rw[if_pos (eq_of_beq h1)]at hP;simp only[kM]at h1;refine ι (aG @bU @c_ @h1 ?_);exact aA.mk 1 ⟨gq 1,hP⟩
 intro o OA ⟨hd,hP⟩;refine Θ [4] (fun _:List gx×Tok=>[.ptr (O.N+1) 0]) (fun x O'=>DS O O.N [a,b,c,d,e] O' [.str s1,.str s2,.str s3,.str s4,.str s5,mi sc.1,mi o,.sl x.1.length (x.1.flatMap cn) x.2]/\ .ok (⟨s1,s2,s3,s4,s5,sc.1,o,x.1⟩:Dp)=PE) ?_ ?_;rotate_left
 ·rintro⟨X,tk⟩ O9 ⟨hd,hP⟩;have c_:=hd.d;simp only[aq]at c_;refine ο @bU @c_ ?_;rw[<-hP];refine⟨hd.en.set (by omega) _,?_⟩;simp only[aU,aq,wu,nW]
 have e_:=hd.x;have c_:=hd.d;have we:∀e,cH x w mw= .error e->wh x w= .error e:=fun e h=>by unfold wh;rw[h]
 have oH:∀y wy,cH x w mw= .ok ((y,wy),false)->wh x w= .ok []:=fun y wy h=>by unfold wh;rw[h]
 have jq:∀y wy,cH x w mw= .ok ((y,wy),true)->wh x w=match nX y wy uO with
  | .error e=>.error e
  | .ok l=>yD l []:=fun y wy h=>by unfold wh;rw[h]
 generalize wh x w=DX at*;generalize cH x w mw=F at*;refine θ (aG @bU @e_ @c_ ?_);clear e_ c_;refine ah.p (wa OA (by have:=kG x;omega) (by omega) (by decide)) ?_ ?_;rotate_left
 ·rintro m O2 ⟨aB,h⟩;cases F with
  | ok y=>exact h.elim
  | error e=>
    dsimp only at h;rw[we e rfl]at hP;simp only[pM]at hP;rw[h, <-hP];refine ab @bU ?_;exact⟨hd.en.trans aB,rfl⟩
 rintro m OB ⟨aB,h⟩;cases F with
 | error e=>exact h.elim
 | ok y=>
 obtain⟨⟨y,wy⟩,bb⟩:=y;dsimp only at h;subst h;obtain⟨hyW,wg⟩:=wc rfl;have oI:wy.length<=6011:=by rw[wg];simp only[zP,Qm,Ma];omega
 have hb:=hd.ge aB;clear hd aB wc wg we
 replace jq:bb=true->DX=match nX y wy uO with
  | .error e=>.error e
  | .ok l=>yD l []:=fun h=>by subst h;exact jq y wy rfl
 replace oH:bb=false->DX= .ok []:=fun h=>by subst h;exact oH y wy rfl
 have Ja:=Un y wy uO;have Ur:= @I_ y wy uO;generalize nX y wy uO=LE at*;obtain⟨yn,ya,yk,yt⟩:=y;generalize hWy:k7 (.mk yn ya yk yt)=Wy at*;simp only[k6,dK,adY,adW]at Ja ⊢;refine ab @bU ?_;refine VC.al ?_;rintro OC ⟨R4,hyC,hnC⟩;have hd:=hb.ge R4;clear hb R4;cases bb
 ·rw[oH rfl]at hP;simp only[pM]at hP;refine ν @bU ?_;exact aA.mk ([],.nil) ⟨hd,hP⟩
 rw[jq rfl]at hP;clear oH jq;refine κ @bU ?_;refine ο @bU @hyC ?_;refine ah.p (Ja OC (by omega) (by omega) (by decide)) ?_ ?_;rotate_left
 ·rintro m O9 ⟨bj,h⟩;cases LE with
  | ok y=>exact h.elim
  | error e=>
    dsimp only at h;simp only[pM]at hP;rw[h, <-hP];refine ab @bU ?_;exact⟨hd.en.trans bj,rfl⟩
 rintro m OD ⟨bj,h⟩;cases LE with
 | error e=>exact h.elim
 | ok L=>
 dsimp only at h hP;obtain⟨tL,rfl⟩:=h;obtain⟨pH,hLm⟩:=Ur rfl;have hb:=hd.ge bj;clear hd bj Ur Ja hyC;refine ab @bU ?_;refine Γ [50] [4,48,49] (fun x:Nat×List gx×Tok=>[mi x.1]) (fun x O'=>DS O O.N [a,b,c,d,e] O' [.str s1,.str s2,.str s3,.str s4,.str s5,mi sc.1,mi o,.sl x.2.1.length (x.2.1.flatMap cn) x.2.2]/\App O' (O.N+2) 2 x.2.2/\x.1<=L.length/\x.2.1.length=x.1/\pM ⟨s1,s2,s3,s4,s5,sc.1,o,[]⟩ (yD (L.drop x.1) x.2.1)=PE) (fun x=>L.length - x.1) ((0,[],.nil)) ?_ ?_
 ·exact⟨hb,trivial,adZ _,rfl,hP⟩
 rintro⟨j,X,tk⟩ O3 ⟨hd,cf,hj,HM,hP⟩;dsimp only at hd cf hj HM hP ⊢;by_cases aM:j<L.length;rotate_left
 ·obtain rfl:j=L.length:=by omega
  rw[ajl (Zj _),yD]at hP;refine ν @bU ?_;exact aA.mk (X,tk) ⟨hd,hP⟩
 have bG:((uQ L).drop (j*5)).take 5=k6 L[j].1 L[j].2:=ct F3 L j aM;have hL5:=xC L;rw[ahM aM,yD]at hP;obtain⟨hzW,XF⟩:=hLm L[j] (ajk aM);generalize L[j]=zz at*;obtain⟨z,wz⟩:=zz;dsimp only at hzW XF;have lJ:=fun O'=>qK z wz eE true iE 309 [] O' (by omega) (by simp only[Qm,Ma]at XF;omega) (by decide) (by kernel_rfl) (fun s mz _ hs=>N8 s mz hs)
 have Bc:=fun O'=>qK z wz eo true iE 309 [] O' (by omega) (by simp only[Qm,Ma]at XF;omega) (by decide) (by kernel_rfl) (fun s mz _ hs=>N8 s mz hs)
 unfold exE at hP;dsimp only at hP;generalize bX z wz eE true iE=W1 at*;generalize bX z wz eo true iE=W2 at*;obtain⟨zn,za,de,zt⟩:=z;simp only[k6,dK,adY,adW]at bG lJ Bc;refine κ @bU ?_;refine κ @bU ?_;refine χ (τ ?_);refine ξ @bU @bG ?_;refine VC.al ?_;rintro O4 ⟨aY,lX,gO⟩;have hb:=hd.ge aY;have mJ:=cf.ge aY;have h_:O.N+1<O3.N:=hd.lt;clear hd aY cf;refine VC.qw [8,9,10] (O3.N) (lX) ?_;intro XX;refine ae.ar 0 ?_;refine ab @bU ?_;refine ε (m:=.agg [.str zn,.sl za.length (za.flatMap bm) .au,.sl de.length (aC de) .au,.str zt,.str wz]) 2 ?_ ?_
 ·exact fU @bU
 simp only[ak];refine ε (m:=.agg [.str zn,.sl za.length (za.flatMap bm) .au,.sl de.length (aC de) .au,.str zt,.str wz]) 4 ?_ ?_
 ·exact fU @bU
 simp only[ak];have gJ:=mJ.o7 (k:=O3.N) (x:=.obj XX) (by rw[lX];simp);have hXX:=ρ O4 O3.N (.obj XX);have c_:=(π O4 (.obj XX) (by omega:O.N+1≠O3.N)).trans hb.d;have o5:∀O9,(O4.set O3.N (.obj XX)).Ge O9->O.Ge O9:=fun O9 g=>((hb.en.set (by omega) _).trans g)
 have il:∀O9,(O4.set O3.N (.obj XX)).Ge O9->O9.hp O3.N=some (.obj XX)/\O9.hp (O.N+1)=some (.cells [.str s1,.str s2,.str s3,.str s4,.str s5,mi sc.1,mi o,.sl X.length (X.flatMap cn) tk]):=fun O9 g=>⟨(g.hp _ (by show O3.N<O4.N;omega)).trans hXX,(g.hp _ (by show O.N+1<O4.N;omega)).trans c_⟩
 have HQ:=fun(O9:VH) (g:(O4.set O3.N (.obj XX)).Ge O9) (y:cg)=>hb.ait (k:=O3.N) h_ g (y:=y)
 clear c_;generalize O4.set O3.N (.obj XX)=O5 at*;refine ae.pair (i:=1) (j:=3) ?_ ?_
 ·refine aL.o1 ?_;refine ao @bU (il _ (VH.Ge.refl _)).2 ?_;refine⟨(il _ (VH.Ge.refl _)).1,?_⟩;have hG:=VH.Ge.refl O5;refine ae.qM (i:=3) (lJ O5) ?_ ?_;rotate_left
  ·rintro m O9 ⟨bj,h⟩;cases W1 with
   | ok s=>exact h.elim
   | error e=>
     dsimp only at h hP;simp only[pM]at hP;rw[h, <-hP];refine ab @bU ?_;exact⟨o5 _ (hG.trans bj),rfl⟩
  rintro m O6 ⟨bj,h⟩;cases W1 with
  | error e=>exact h.elim
  | ok sg=>
  dsimp only at h hP;subst h;simp only[ak]
  replace hG:=hG.trans bj
  clear bj;refine⟨(il _ hG).1,?_⟩;refine ae.qM (i:=5) (Bc O6) ?_ ?_;rotate_left
  ·rintro m O9 ⟨bj,h⟩;cases W2 with
   | ok s=>exact h.elim
   | error e=>
     dsimp only at h hP;simp only[pM]at hP;rw[h, <-hP];refine ab @bU ?_;exact⟨o5 _ (hG.trans bj),rfl⟩
  rintro m OF ⟨bj,h⟩;cases W2 with
  | error e=>exact h.elim
  | ok sa=>
  dsimp only at h hP;subst h;simp only[ak]
  replace hG:=hG.trans bj
  clear bj;refine⟨(il _ hG).1,?_⟩;refine ae.ar 6 ?_;refine ab @bU ?_;refine ae.op (i:=7) ?_;refine ab @bU ?_;refine⟨(il _ hG).1,?_⟩;refine ae.nR [(8,.one),(9,.ar),(10,.one)] ?_;have F8:=HQ _ hG (.cells [.str zn,.sl za.length (za.flatMap bm) .au,.sl de.length (aC de) .au,.str zt,.str wz]);have wj:=(gJ.ge hG).o7 (k:=O3.N) (x:=.cells [.str zn,.sl za.length (za.flatMap bm) .au,.sl de.length (aC de) .au,.str zt,.str wz]) (by rw[(il _ hG).1];simp);refine ab @bU ?_;obtain⟨mE,gV,lQ⟩:=gG (n:=X.length) (cs:=X.flatMap cn) (ds:=[.str sg,.str sa]) (es:=cn ⟨sg,sa⟩) FD C9.1.1 wj (aV nV X) rfl rfl (by decide) (by omega) (by simp only[maxLen];omega) (nW X) (by simp only[cn,wu]);refine η gV lQ ?_;have Cf:=F8.app wj;have Cg:=Cf.d;have F9:=Cf.st (cs':=[.str s1,.str s2,.str s3,.str s4,.str s5,mi sc.1,mi o,.sl (X.length+1) (X.flatMap cn++cn ⟨sg,sa⟩) (.own OF.N 2)]);have wm:=(App.after (B:=O.N+2) (sz:=2) (tk:=tk) (O:=OF.set O3.N (.cells [.str zn,.sl za.length (za.flatMap bm) .au,.sl de.length (aC de) .au,.str zt,.str wz])) (by have:=F8.lt;omega)).o7 (k:=O.N+1) (x:=.cells [.str s1,.str s2,.str s3,.str s4,.str s5,mi sc.1,mi o,.sl (X.length+1) (X.flatMap cn++cn ⟨sg,sa⟩) (.own OF.N 2)]) (by rw[Cg];simp);simp only[aq]at F9 wm;generalize (OF.set O3.N (.cells [.str zn,.sl za.length (za.flatMap bm) .au,.sl de.length (aC de) .au,.str zt,.str wz])).after tk=OG at*;refine ao @bU @Cg ?_;have cI:((j:Int)+1)=((j+1:Nat):Int):=by omega
  have cX:(X++[(⟨sg,sa⟩:gx)]).flatMap cn=X.flatMap cn++cn ⟨sg,sa⟩:=by simp
  have u9:(X++[(⟨sg,sa⟩:gx)]).length=X.length+1:=by simp
  refine ο @bU @cI ?_;exact az.N (j+1,X++[(⟨sg,sa⟩:gx)],.own OF.N 2) ⟨by dsimp only;rw[cX,u9];exact F9,wm,aM,by dsimp only;rw[u9,HM],hP⟩
 ·have hG:=VH.Ge.refl O5;refine aL.qM (lJ O5) ?_ ?_;rotate_left
  ·rintro m O9 ⟨bj,h⟩;cases W1 with
   | ok s=>exact h.elim
   | error e=>
     dsimp only at h hP;simp only[pM]at hP;rw[h, <-hP];refine ab @bU ?_;exact⟨o5 _ (hG.trans bj),rfl⟩
  rintro m O6 ⟨bj,h⟩;cases W1 with
  | error e=>exact h.elim
  | ok sg=>
  dsimp only at h hP;subst h;simp only[ak]
  replace hG:=hG.trans bj
  clear bj;refine⟨(il _ hG).1,?_⟩;refine ae.pair (i:=1) (j:=5) ?_ ?_
  ·refine aL.o1 ?_;refine ao @bU (il _ hG).2 ?_;refine⟨(il _ hG).1,?_⟩;refine ae.qM (i:=5) (Bc O6) ?_ ?_;rotate_left
   ·rintro m O9 ⟨bj,h⟩;cases W2 with
    | ok s=>exact h.elim
    | error e=>
      dsimp only at h hP;simp only[pM]at hP;rw[h, <-hP];refine ab @bU ?_;exact⟨o5 _ (hG.trans bj),rfl⟩
   rintro m OF ⟨bj,h⟩;cases W2 with
   | error e=>exact h.elim
   | ok sa=>
   dsimp only at h hP;subst h;simp only[ak]
   replace hG:=hG.trans bj
   clear bj;refine⟨(il _ hG).1,?_⟩;refine ae.ar 6 ?_;refine ab @bU ?_;refine ae.op (i:=7) ?_;refine ab @bU ?_;refine⟨(il _ hG).1,?_⟩;refine ae.nR [(8,.one),(9,.ar),(10,.one)] ?_;have F8:=HQ _ hG (.cells [.str zn,.sl za.length (za.flatMap bm) .au,.sl de.length (aC de) .au,.str zt,.str wz]);have wj:=(gJ.ge hG).o7 (k:=O3.N) (x:=.cells [.str zn,.sl za.length (za.flatMap bm) .au,.sl de.length (aC de) .au,.str zt,.str wz]) (by rw[(il _ hG).1];simp);refine ab @bU ?_;obtain⟨mE,gV,lQ⟩:=gG (n:=X.length) (cs:=X.flatMap cn) (ds:=[.str sg,.str sa]) (es:=cn ⟨sg,sa⟩) FD C9.1.1 wj (aV nV X) rfl rfl (by decide) (by omega) (by simp only[maxLen];omega) (nW X) (by simp only[cn,wu]);refine η gV lQ ?_;have Cf:=F8.app wj;have Cg:=Cf.d;have F9:=Cf.st (cs':=[.str s1,.str s2,.str s3,.str s4,.str s5,mi sc.1,mi o,.sl (X.length+1) (X.flatMap cn++cn ⟨sg,sa⟩) (.own OF.N 2)]);have wm:=(App.after (B:=O.N+2) (sz:=2) (tk:=tk) (O:=OF.set O3.N (.cells [.str zn,.sl za.length (za.flatMap bm) .au,.sl de.length (aC de) .au,.str zt,.str wz])) (by have:=F8.lt;omega)).o7 (k:=O.N+1) (x:=.cells [.str s1,.str s2,.str s3,.str s4,.str s5,mi sc.1,mi o,.sl (X.length+1) (X.flatMap cn++cn ⟨sg,sa⟩) (.own OF.N 2)]) (by rw[Cg];simp);simp only[aq]at F9 wm;generalize (OF.set O3.N (.cells [.str zn,.sl za.length (za.flatMap bm) .au,.sl de.length (aC de) .au,.str zt,.str wz])).after tk=OG at*;refine ao @bU @Cg ?_;have cI:((j:Int)+1)=((j+1:Nat):Int):=by omega
   have cX:(X++[(⟨sg,sa⟩:gx)]).flatMap cn=X.flatMap cn++cn ⟨sg,sa⟩:=by simp
   have u9:(X++[(⟨sg,sa⟩:gx)]).length=X.length+1:=by simp
   refine ο @bU @cI ?_;exact az.N (j+1,X++[(⟨sg,sa⟩:gx)],.own OF.N 2) ⟨by dsimp only;rw[cX,u9];exact F9,wm,aM,by dsimp only;rw[u9,HM],hP⟩
  ·refine aL.qM (Bc O6) ?_ ?_;rotate_left
   ·rintro m O9 ⟨bj,h⟩;cases W2 with
    | ok s=>exact h.elim
    | error e=>
      dsimp only at h hP;simp only[pM]at hP;rw[h, <-hP];refine ab @bU ?_;exact⟨o5 _ (hG.trans bj),rfl⟩
   rintro m OF ⟨bj,h⟩;cases W2 with
   | error e=>exact h.elim
   | ok sa=>
   dsimp only at h hP;subst h;simp only[ak]
   replace hG:=hG.trans bj
   clear bj;refine⟨(il _ hG).1,?_⟩;refine ae.ar 6 ?_;refine ab @bU ?_;refine ae.pair (i:=1) (j:=7) ?_ ?_
   ·refine aL.o1 ?_;refine ao @bU (il _ hG).2 ?_;refine⟨(il _ hG).1,?_⟩;refine ae.op (i:=7) ?_;refine ab @bU ?_;refine⟨(il _ hG).1,?_⟩;refine ae.nR [(8,.one),(9,.ar),(10,.one)] ?_;have F8:=HQ _ hG (.cells [.str zn,.sl za.length (za.flatMap bm) .au,.sl de.length (aC de) .au,.str zt,.str wz]);have wj:=(gJ.ge hG).o7 (k:=O3.N) (x:=.cells [.str zn,.sl za.length (za.flatMap bm) .au,.sl de.length (aC de) .au,.str zt,.str wz]) (by rw[(il _ hG).1];simp);refine ab @bU ?_;obtain⟨mE,gV,lQ⟩:=gG (n:=X.length) (cs:=X.flatMap cn) (ds:=[.str sg,.str sa]) (es:=cn ⟨sg,sa⟩) FD C9.1.1 wj (aV nV X) rfl rfl (by decide) (by omega) (by simp only[maxLen];omega) (nW X) (by simp only[cn,wu]);refine η gV lQ ?_;have Cf:=F8.app wj;have Cg:=Cf.d;have F9:=Cf.st (cs':=[.str s1,.str s2,.str s3,.str s4,.str s5,mi sc.1,mi o,.sl (X.length+1) (X.flatMap cn++cn ⟨sg,sa⟩) (.own OF.N 2)]);have wm:=(App.after (B:=O.N+2) (sz:=2) (tk:=tk) (O:=OF.set O3.N (.cells [.str zn,.sl za.length (za.flatMap bm) .au,.sl de.length (aC de) .au,.str zt,.str wz])) (by have:=F8.lt;omega)).o7 (k:=O.N+1) (x:=.cells [.str s1,.str s2,.str s3,.str s4,.str s5,mi sc.1,mi o,.sl (X.length+1) (X.flatMap cn++cn ⟨sg,sa⟩) (.own OF.N 2)]) (by rw[Cg];simp);simp only[aq]at F9 wm;generalize (OF.set O3.N (.cells [.str zn,.sl za.length (za.flatMap bm) .au,.sl de.length (aC de) .au,.str zt,.str wz])).after tk=OG at*;refine ao @bU @Cg ?_;have cI:((j:Int)+1)=((j+1:Nat):Int):=by omega
    have cX:(X++[(⟨sg,sa⟩:gx)]).flatMap cn=X.flatMap cn++cn ⟨sg,sa⟩:=by simp
    have u9:(X++[(⟨sg,sa⟩:gx)]).length=X.length+1:=by simp
    refine ο @bU @cI ?_;exact az.N (j+1,X++[(⟨sg,sa⟩:gx)],.own OF.N 2) ⟨by dsimp only;rw[cX,u9];exact F9,wm,aM,by dsimp only;rw[u9,HM],hP⟩
   ·refine aL.o1 ?_;refine ab @bU ?_;refine⟨(il _ hG).1,?_⟩;refine ae.op (i:=1) ?_;refine ao @bU (il _ hG).2 ?_;refine⟨(il _ hG).1,?_⟩;refine ae.nR [(8,.one),(9,.ar),(10,.one)] ?_;have F8:=HQ _ hG (.cells [.str zn,.sl za.length (za.flatMap bm) .au,.sl de.length (aC de) .au,.str zt,.str wz]);have wj:=(gJ.ge hG).o7 (k:=O3.N) (x:=.cells [.str zn,.sl za.length (za.flatMap bm) .au,.sl de.length (aC de) .au,.str zt,.str wz]) (by rw[(il _ hG).1];simp);refine ab @bU ?_;obtain⟨mE,gV,lQ⟩:=gG (n:=X.length) (cs:=X.flatMap cn) (ds:=[.str sg,.str sa]) (es:=cn ⟨sg,sa⟩) FD C9.1.1 wj (aV nV X) rfl rfl (by decide) (by omega) (by simp only[maxLen];omega) (nW X) (by simp only[cn,wu]);refine η gV lQ ?_;have Cf:=F8.app wj;have Cg:=Cf.d;have F9:=Cf.st (cs':=[.str s1,.str s2,.str s3,.str s4,.str s5,mi sc.1,mi o,.sl (X.length+1) (X.flatMap cn++cn ⟨sg,sa⟩) (.own OF.N 2)]);have wm:=(App.after (B:=O.N+2) (sz:=2) (tk:=tk) (O:=OF.set O3.N (.cells [.str zn,.sl za.length (za.flatMap bm) .au,.sl de.length (aC de) .au,.str zt,.str wz])) (by have:=F8.lt;omega)).o7 (k:=O.N+1) (x:=.cells [.str s1,.str s2,.str s3,.str s4,.str s5,mi sc.1,mi o,.sl (X.length+1) (X.flatMap cn++cn ⟨sg,sa⟩) (.own OF.N 2)]) (by rw[Cg];simp);simp only[aq]at F9 wm;generalize (OF.set O3.N (.cells [.str zn,.sl za.length (za.flatMap bm) .au,.sl de.length (aC de) .au,.str zt,.str wz])).after tk=OG at*;refine ao @bU @Cg ?_;have cI:((j:Int)+1)=((j+1:Nat):Int):=by omega
    have cX:(X++[(⟨sg,sa⟩:gx)]).flatMap cn=X.flatMap cn++cn ⟨sg,sa⟩:=by simp
    have u9:(X++[(⟨sg,sa⟩:gx)]).length=X.length+1:=by simp
    refine ο @bU @cI ?_;exact az.N (j+1,X++[(⟨sg,sa⟩:gx)],.own OF.N 2) ⟨by dsimp only;rw[cX,u9];exact F9,wm,aM,by dsimp only;rw[u9,HM],hP⟩
set_option linter.defProp false in
def np:=Qn bU<|Qn FE B7
def sd (eT:Bool):List (Nd×Bs)->List Dp->Except (Int×Bs) (List Dp)
 | [],D=>.ok D
 | k::r,D=>match F7 k.1 k.2 eT with
   | .error e=>.error e
   | .ok d=>sd eT r (D++[d])
def mA (x:Nd) (w:Bs) (eT:Bool):Except (Int×Bs) (List Dp):=
 match cH x w my with
 | .error e=>.error e
 | .ok ((_,_),false)=>.ok []
 | .ok ((y,wy),true)=>match nX y wy mc with
   | .error e=>.error e
   | .ok L=>sd eT L []
theorem Us (x:Nd) (w:Bs) (eT:Bool) (O:VH) (hx:k7 x<=1000000) (hw:w.length<=4000):
  VF Tryz.prog 268 [.agg (k6 x w),mb eT] O (FQ O (mA x w eT) fun y m=>∃tk,m= .sl y.length (y.flatMap aU) tk):=by
 have wa:=sO x w my;have fQ:=kG x;have wc:= @sQ x w my;have we:∀e,cH x w my= .error e->mA x w eT= .error e:=fun e h=>by unfold mA;rw[h]
 have oH:∀y wy,cH x w my= .ok ((y,wy),false)->mA x w eT= .ok []:=fun y wy h=>by unfold mA;rw[h]
 have jq:∀y wy,cH x w my= .ok ((y,wy),true)->mA x w eT=match nX y wy mc with
  | .error e=>.error e
  | .ok L=>sd eT L []:=fun y wy h=>by unfold mA;rw[h]
 generalize mA x w eT=PE at*;generalize cH x w my=F at*;obtain⟨n,a,k,t⟩:=x;generalize hW:k7 (.mk n a k t)=W at*;simp only[k6,dK,adY,adW]at wa ⊢;refine υ 31 [.tmp 4] Tryz.func268 ?_;refine κ @np ?_;refine VC.bx ?_;rintro O1 ⟨aI,eP,cW⟩;refine ξ @np @eP ?_;refine ah.p (wa O1 (by omega) (by omega) (by decide)) ?_ ?_;rotate_left
 ·rintro m O2 ⟨aB,h⟩;cases F with
  | ok y=>exact h.elim
  | error e=>
    dsimp only at h;rw[we e rfl];refine ab @np ?_;exact⟨aI.trans aB,h⟩
 rintro m O2 ⟨aB,h⟩;cases F with
 | error e=>exact h.elim
 | ok y=>
 obtain⟨⟨y,wy⟩,b⟩:=y;dsimp only at h;subst h;obtain⟨hyW,wg⟩:=wc rfl;have oI:wy.length<=4013:=by rw[wg];simp only[zP,Qm,Ma];omega
 clear wc wg we
 replace jq:b=true->PE=match nX y wy mc with
  | .error e=>.error e
  | .ok L=>sd eT L []:=fun h=>by subst h;exact jq y wy rfl
 replace oH:b=false->PE= .ok []:=fun h=>by subst h;exact oH y wy rfl
 have Ja:=Un y wy mc;have Ur:= @I_ y wy mc;generalize nX y wy mc=LE at*;obtain⟨yn,ya,yk,yt⟩:=y;generalize hWy:k7 (.mk yn ya yk yt)=Wy at*;simp only[k6,dK,adY,adW]at Ja ⊢;have fA:=aI.trans aB;refine ab @np ?_;refine VC.al ?_;rintro O3 ⟨aH,NZ,gy⟩;have ew:=fA.trans aH;cases b
 ·rw[oH rfl];refine ν @np ?_;exact⟨ew,.nil,rfl⟩
 replace jq:=jq rfl
 clear oH;refine κ @np ?_;refine VC.join aa [4] (fun x:List Dp×Tok=>[.sl x.1.length (x.1.flatMap aU) x.2]) (fun x O'=>O.Ge O'/\PE= .ok x.1) ?_ ?_;rotate_left
 ·rintro⟨L,tl⟩ O9 ⟨bj,hP⟩;rw[hP];refine ab @np ?_;exact⟨bj,tl,rfl⟩
 refine ξ @np @NZ ?_;refine ah.p (Ja O3 (by omega) (by omega) (by decide)) ?_ ?_;rotate_left
 ·rintro m O9 ⟨bj,h⟩;cases LE with
  | ok y=>exact h.elim
  | error e=>
    dsimp only at h jq;rw[h,jq];refine ab @np ?_;exact⟨ew.trans bj,rfl⟩
 rintro m O4 ⟨aY,h⟩;cases LE with
 | error e=>exact h.elim
 | ok L=>
 dsimp only at h jq;obtain⟨tL,rfl⟩:=h;obtain⟨pH,hLm⟩:=Ur rfl;have gW:=ew.trans aY;refine ab @np ?_;refine τ ?_;refine Γ [4,19] [1,17,18] (fun x:Nat×List Dp×Tok=>[.sl x.2.1.length (x.2.1.flatMap aU) x.2.2,mi x.1]) (fun x O'=>O4.Ge O'/\App O' O4.N 8 x.2.2/\x.1<=L.length/\x.2.1.length=x.1/\PE=sd eT (L.drop x.1) x.2.1) (fun x=>L.length - x.1) ((0,[],.nil)) ?_ ?_
 ·exact⟨VH.Ge.refl _,trivial,adZ _,rfl,jq⟩
 rintro⟨j,X,tk⟩ O5 ⟨bD,cf,hj,HM,hP⟩;dsimp only at cf hj HM hP ⊢;by_cases aM:j<L.length;rotate_left
 ·obtain rfl:j=L.length:=by omega
  rw[ajl (Zj _),sd]at hP;refine ν @np ?_;exact aA.mk (X,tk) ⟨gW.trans bD,hP⟩
 have bG:((uQ L).drop (j*5)).take 5=k6 L[j].1 L[j].2:=ct F3 L j aM;have hL5:=xC L;rw[ahM aM,sd]at hP;obtain⟨hzW,XF⟩:=hLm L[j] (ajk aM);generalize L[j]=zz at*;obtain⟨z,wz⟩:=zz;dsimp only at hzW XF hP bG;have Bd:=fun O'=>aiu z wz eT O' (by omega) (by simp only[Qm,Ma]at XF;omega)
 generalize F7 z wz eT=W1 at*;obtain⟨zn,za,de,zt⟩:=z;simp only[k6,dK,adY,adW]at bG Bd;have eU:=bD.N;refine κ @np ?_;refine κ @np ?_;refine χ (τ ?_);refine ξ @np @bG ?_;refine VC.al ?_;rintro O6 ⟨fi,nE,mU⟩;have mH:=cf.ge fi;have yC:=bD.trans fi;refine ο @np @nE ?_;refine ah.p (Bd O6) ?_ ?_;rotate_left
 ·rintro m O9 ⟨bj,h⟩;cases W1 with
  | ok y=>exact h.elim
  | error e=>
    dsimp only at h hP;rw[h,hP];refine ab @np ?_;exact⟨(gW.trans yC).trans bj,rfl⟩
 rintro m O7 ⟨eV,h⟩;cases W1 with
 | error e=>exact h.elim
 | ok d=>
 dsimp only at h hP;subst h;have kD:=mH.ge eV;have agG:=yC.trans eV;have cI:((j:Int)+1)=((j+1:Nat):Int):=by omega
 have hud:c7 (aU d)=aU d:=by simpa using lO [d]
 obtain⟨dg,da,dv,dt,dc,ll,dO,dx⟩:=d;have mR:(aU ⟨dg,da,dv,dt,dc,ll,dO,dx⟩).length=8:=rfl;obtain⟨mE,gV,lQ⟩:=gG (n:=X.length) (cs:=X.flatMap aU) (ds:=aU ⟨dg,da,dv,dt,dc,ll,dO,dx⟩) (es:=aU ⟨dg,da,dv,dt,dc,ll,dO,dx⟩) FE B7.1.1 kD (aV gT X) rfl rfl (by decide) (by omega) (by simp only[maxLen];omega) (lO X) hud;simp only[aU,aq]at gV lQ ⊢;refine ab @np ?_;refine η gV lQ ?_;refine ab @np ?_;refine ο @np @cI ?_;exact az.N (j+1,X++[⟨dg,da,dv,dt,dc,ll,dO,dx⟩],.own O7.N 8) ⟨b_.en agG kD (b_.after kD),App.after (by have:=agG.N;omega),aM,by dsimp only;rw[zP,HM];rfl,hP⟩ (hl:=(by dsimp only;rw[ajm,zP];simp only[ahL,ajp,adX,aU,aq];rfl))
set_option linter.defProp false in
def av:=Qn bI<|Qn agA<|Qn aks<|Qn akt<|Qn aku akr
def Be (e:Int) (off:Nat):MV:=.iface 414 (.agg [mi e,mi off])
theorem akH {p:MV}:Kz 414 (bY Tryz.prog 414) (some p)=some (.iface 414 p):=by rw[agA.1.1];rfl
theorem jc (e:Int) (off:Nat) (O:VH):VF Tryz.prog 313 [mi e,mi off] O fun r O'=>O'=O/\match r with
  | .ret _=>False
  | .panic m=>m=Be e off:=by
 refine Δ 8 [] Tryz.func313 ?_;refine cR @av @wi @wd @akH ?_;refine VL.panic rfl rfl rfl ?_;refine ab @wd ?_;rfl
def Rd (O:VH) (k:Nat) (t:Bs) (off:Nat) (X:MV):Prop:=k<O.N/\O.hp k=some (.cells [.str t,mi off,X])
theorem Rd.ge {O O':VH} {k off:Nat} {t:Bs} {X:MV} (h:Rd O k t off X) (g:O.Ge O'):Rd O' k t off X:=⟨agc h.1 g.N,(g.hp _ h.1).trans h.2⟩
theorem Rd.set {O:VH} {k off off':Nat} {t t':Bs} {X X':MV} (h:Rd O k t off X):Rd (O.set k (.cells [.str t',mi off',X'])) k t' off' X':=⟨h.1,ρ _ _ _⟩
theorem xF {O:VH} {k off:Nat} {t:Bs} {X:MV} (h:Rd O k t off X) (ho:off<=t.length):VF Tryz.prog 311 [.ptr k 0] O (aD fun m O'=>m= .str (t.drop off)/\O'=O):=by
 have hk:=h.2;simp only[aq]at hk;refine υ 12 [.tmp 2] Tryz.func311 ?_;refine κ @av ?_;refine χ ?_;refine WC.reads ?_;refine ao @av @hk ?_;refine ν @av ?_;trivial
theorem nZ {O:VH} {k off:Nat} {t:Bs} {X:MV} (h:Rd O k t off X):VF Tryz.prog 275 [.ptr k 0] O (aD fun m O'=>m=mb (decide (t.length<=off))/\O'=O):=by
 have hk:=h.2;simp only[aq]at hk;refine υ 13 [.tmp 2] Tryz.func275 ?_;refine κ @av ?_;refine χ ?_;refine WC.reads ?_;by_cases h1:t.length<=off
 ·rw[decide_eq_true h1];refine ao @av @hk ?_;refine ν @av ?_;trivial
 ·rw[decide_eq_false h1];refine ao @av @hk ?_;refine ν @av ?_;trivial
theorem qQ {O:VH} {k off:Nat} {t:Bs} {X:MV} (p:Bs) (h:Rd O k t off X) (ho:off<=t.length):VF Tryz.prog 291 [.ptr k 0,.str p] O (aD fun m O'=>m=mb (ey (t.drop off) p)/\O'=O):=by
 refine Δ 9 [.tmp 4] Tryz.func291 ?_;refine ab @av ?_;refine ah.rt (xF h ho) ?_;rintro _ O2 ⟨rfl,eO⟩;rw[eO];clear eO O2
 refine ab @av ?_;refine ah.rt (nY (t.drop off) p _) ?_;rintro _ O2 ⟨rfl,eO⟩;rw[eO];clear eO O2
 exact fU @av
def TQ {α :Type} (O:VH) (k:Nat) (t:Bs) (X:MV) (f:Except (Int×Nat) (α ×Nat)) (R: α ->MV->Prop):gC->VH->Prop:=fun r O'=>bz O (some k) O'/\match r,f with
 | .ret m,.ok x=>R x.1 m/\Rd O' k t x.2 X
 | .panic m,.error e=>m=Be e.1 e.2
 | _,_=>False
def jr (t:Bs) (off:Nat) (p:Bs):Except (Int×Nat) (Unit×Nat):=
 if t.length<=off then .error (13,off)else if ey (t.drop off) p then .ok ((),off+p.length)else .error (10,off)
theorem ui {O:VH} {k off:Nat} {t:Bs} {X:MV} (p:Bs) (h:Rd O k t off X) (ht:t.length<=1000000) (hp:p.length<=1000):VF Tryz.prog 296 [.ptr k 0,.str p] O (TQ O k t X (jr t off p) fun _ m=>m= .tuple []):=by
 have hk:=h.2;simp only[aq]at hk;unfold jr;refine υ 37 [] Tryz.func296 ?_;refine κ @av ?_;refine ah.rt (nZ h) ?_;rintro _ O2 ⟨rfl,eO⟩;rw[eO];clear eO O2
 by_cases h1:t.length<=off
 ·rw[decide_eq_true h1,if_pos h1];refine ao @av @hk ?_;refine ah.p (jc _ _ _) ?_ ?_
  ·rintro m O9 ⟨_,h⟩;exact h.elim
  rintro m O9 ⟨rfl,rfl⟩;refine ab @av ?_;exact⟨bz.refl _ _,rfl⟩
 rw[decide_eq_false h1,if_neg h1];refine ao @av @hk ?_;refine ξ @av @hk ?_;refine ah.rt (qQ p h (by omega)) ?_;rintro _ O2 ⟨rfl,eO⟩;rw[eO];clear eO O2
 cases h2:ey (t.drop off) p
 ·refine ao @av @hk ?_;refine ah.p (jc _ _ _) ?_ ?_
  ·rintro m O9 ⟨_,h⟩;exact h.elim
  rintro m O9 ⟨rfl,rfl⟩;refine ab @av ?_;exact⟨bz.refl _ _,rfl⟩
 ·refine ao @av @hk ?_;refine ο @av @hk ?_;exact⟨bz.set,rfl,by simpa[aq]using h.set (t':=t) (off':=off+p.length) (X':=X)⟩
def jJ (t:Bs) (off:Nat) (e:Int):Except (Int×Nat) (Bs×Nat):=
 if t.length<=off then .error (13,off)else if kB (t.drop off)=0 then .error (e,off)else .ok ((t.drop off).take (kB (t.drop off)),off+kB (t.drop off))
theorem Bf {O:VH} {k off:Nat} {t:Bs} {X:MV} (e:Int) (h:Rd O k t off X) (ht:t.length<=1000000):VF Tryz.prog 294 [.ptr k 0,mi e] O (TQ O k t X (jJ t off e) fun y m=>m= .str y):=by
 have hk:=h.2;have uZ:=Da (t.drop off);rw[ahN]at uZ;have DR:=afa (t.drop off) O (Vq (by rw[ahN];omega:(t.drop off).length<=1000000) (by decide));simp only[aq]at hk;unfold jJ;generalize kB (t.drop off)=n at*;refine υ 58 [.tmp 4] Tryz.func294 ?_;refine κ @av ?_;refine κ @av ?_;refine ah.rt (nZ h) ?_;rintro _ O2 ⟨rfl,eO⟩;rw[eO];clear eO O2
 by_cases h1:t.length<=off
 ·rw[decide_eq_true h1,if_pos h1];refine ao @av @hk ?_;refine ah.p (jc _ _ _) ?_ ?_
  ·rintro m O9 ⟨_,h⟩;exact h.elim
  rintro m O9 ⟨rfl,rfl⟩;refine ab @av ?_;exact⟨bz.refl _ _,rfl⟩
 rw[decide_eq_false h1,if_neg h1];refine ao @av @hk ?_;refine ξ @av @hk ?_;refine ah.rt (xF h (by omega)) ?_;rintro _ O2 ⟨rfl,eO⟩;rw[eO];clear eO O2
 refine ab @av ?_;refine ah.rt (DR) ?_;rintro _ O2 ⟨rfl,eO⟩;rw[eO];clear eO O2
 refine ab @av ?_;by_cases h2:n=0
 ·rw[if_pos h2];refine θ (aG @av @hk @h2 ?_);refine ah.p (jc _ _ _) ?_ ?_
  ·rintro m O9 ⟨_,h⟩;exact h.elim
  rintro m O9 ⟨rfl,rfl⟩;refine ab @av ?_;exact⟨bz.refl _ _,rfl⟩
 rw[if_neg h2];refine ξ @av @hk ?_;refine ξ @av @hk ?_;have hr:Rd (O.set k (.cells [.str t,mi (off+n:Nat),X])) k t (off+n) X:=h.set;have bM:=hr.2;have hu:bz O (some k) (O.set k (.cells [.str t,mi (off+n:Nat),X])):=bz.set;have ly:(off:Int)+(n:Int)=((off+n:Nat):Int):=by omega
 simp only[aq, <-ly]at hr bM hu;generalize O.set k (.cells [.str t,.v (.int .i64 ((off:Int)+(n:Int))),X])=O2 at*;have abm:(off:Int)+(n:Int) - (n:Int)=(off:Int):=by omega
 have o8:((off:Int)+(n:Int)).toNat=off+n:=by omega
 refine χ ?_;refine WC.reads ?_;refine cR @av @bM @abm @o8 ?_;refine ν @av ?_;exact⟨hu,by rw[show off+n - off=n by omega],hr⟩
def kO (t:Bs) (off:Nat):Nat:=((t.drop off).takeWhile mF).length
theorem qR {O:VH} {k off:Nat} {t:Bs} {X:MV} (h:Rd O k t off X) (ht:t.length<=1000000) (ho:off<=t.length):VF Tryz.prog 295 [.ptr k 0] O (TQ O k t X (.ok (kO t off,off+kO t off)) fun y m=>m=mi y):=by
 have hk:=h.2;simp only[aq]at hk;refine υ 44 [.tmp 2] Tryz.func295 ?_;refine κ @av ?_;refine ξ @av @hk ?_;refine Θ [0,3] (fun _:Unit=>[.ptr k 0,mi off]) (fun _ O'=>bz O (some k) O'/\Rd O' k t (off+kO t off) X) ?_ ?_;rotate_left
 ·rintro⟨⟩ O2 ⟨hu,hr⟩;have bM:=hr.2;have abm:((off+kO t off:Nat):Int) - (off:Int)=(kO t off:Int):=by omega
  have vZ:kO t off<=t.length:=by unfold kO;exact Vq (oT _ _) (by rw[ahN];omega)
  generalize kO t off=n at*;simp only[aq]at bM;refine θ (aG @av @bM @abm ?_);refine ν @av ?_;exact⟨hu,rfl,hr⟩
 refine τ ?_;refine Γ [] [0,3] (fun o:Nat=>[]) (fun o O'=>bz O (some k) O'/\Rd O' k t o X/\off<=o/\o<=t.length/\off+kO t off=o+kO t o) (fun o=>t.length - o) (off) ?_ ?_
 ·exact⟨bz.refl _ _,h,Zj _,ho,rfl⟩
 rintro o O2 ⟨hu,hr,ho1,ho2,vZ⟩;have bM:=hr.2;simp only[aq]at bM;by_cases h1:t.length<=o
 ·have h0:kO t o=0:=by unfold kO;rw[ajl h1];rfl
  rw[h0,Nat.add_zero]at vZ;refine χ (χ ?_);refine VC.nP [4,5,6,7,8,9,10,11,12,13,14,15,16,17,18] ?_;refine ae.ar 0 ?_;refine ab @av ?_;refine ae.ar 1 ?_;refine ab @av ?_;refine ae.ar 2 ?_;refine ab @av ?_;refine ae.call (i:=3) (nZ hr) ?_;rintro _ O3 ⟨rfl,eO⟩;simp only[ak];rw[eO];clear eO O3
  rw[decide_eq_true h1];refine⟨VH.Ge.refl _,?_⟩;refine ae.bP [(4,.ar),(5,.ar),(6,.ar),(7,.ar),(8,.ar),(9,.ar),(10,.ar),(11,.ar),(12,.ar),(13,.ar),(14,.ar),(15,.ar),(16,.ar),(17,.ar),(18,.ar)] ?_;refine ab @av ?_;refine ν @av ?_;exact aA.mk () ⟨hu,vZ▸hr⟩
 ·have h2:o<t.length:=by omega
  have hg:=Zk h2;have hd:=ahM h2
  have v8:kO t o=if mF t[o]then 1+kO t (o+1)else 0:=by
   unfold kO;rw[hd];cases hb:mF t[o]
   ·rw[ahO (by simp[hb])];rfl
   ·rw[ahP hb,Qm,if_pos rfl,Nat.add_comm]
  generalize t[o]=c at*;refine χ (χ ?_);refine VC.nP [] ?_;refine ae.ar 0 ?_;refine ab @av ?_;refine ae.ar 1 ?_;refine ab @av ?_;refine ae.ar 2 ?_;refine ab @av ?_;refine ae.call (i:=3) (nZ hr) ?_;rintro _ O3 ⟨rfl,eO⟩;simp only[ak];rw[eO];clear eO O3
  rw[decide_eq_false h1];refine⟨VH.Ge.refl _,?_⟩;refine ae.ar 4 ?_;refine ab @av ?_;refine ae.ar 5 ?_;refine ab @av ?_;refine ae.ar 6 ?_;refine ab @av ?_;refine ae.ar 7 ?_;refine ab @av ?_;refine ae.ar 8 ?_;refine ab @av ?_;refine ae.ar 9 ?_;refine ab @av ?_;refine ae.ld (m:=.str t) 10 ?_ ?_
  ·exact dX @av @bM
  simp only[ak];refine ae.ar 11 ?_;refine ab @av ?_;refine ae.ar 12 ?_;refine ab @av ?_;refine ae.ar 13 ?_;refine ab @av ?_;refine ae.ar 14 ?_;refine ab @av ?_;refine ae.ld (m:=.v (.int .i64 o)) 15 ?_ ?_
  ·exact dX @av @bM
  simp only[ak];refine ae.ar 16 ?_;refine ao @av @hg ?_;refine ae.call (i:=17) (qE c _) ?_;rintro _ O3 ⟨rfl,eO⟩;simp only[ak];rw[eO];clear eO O3
  refine⟨VH.Ge.refl _,?_⟩;refine ae.ar 18 ?_;refine ab @av ?_;refine ae.bP [] ?_;cases hb:mF c
  ·rw[hb,if_neg (by simp)]at v8;rw[v8,Nat.add_zero]at vZ;refine ab @av ?_;refine ν @av ?_;exact aA.mk () ⟨hu,vZ▸hr⟩
  ·rw[hb,if_pos rfl]at v8;refine ab @av ?_;refine ν @av ?_;refine ο @av @bM ?_;exact az.N (o+1) ⟨hu.trans bz.set,by simpa[aq]using hr.set (t':=t) (off':=o+1) (X':=X),by omega,h2,by omega⟩
set_option linter.defProp false in
def ez:=Qn av aa5
theorem F_ (s:List UInt8) (c:UInt8) (O:VH):eY Tryz.prog 302 [.str s,gj c] O fun m O'=>m=mi (s.count c:Nat)/\O'=O:=by
 refine eY.of (ex:=Extern.BytealgCount.count) Tryz.func302 (by kernel_rfl) (by kernel_rfl) (by kernel_rfl) (by kernel_rfl) fun G w vs hw hv=>?_
 obtain⟨u,us,rfl,h1,h2⟩:=hv.eW;obtain⟨u2,us2,rfl,h3,h4⟩:=h2.eW;rw[h4.iQ];cases h1;have:=h3.jj;subst this;refine⟨_,Lib.run_countString _ _ w,?_⟩;have e:((c.toNat:Int).toNat).toUInt8=c:=by simp
 rw[e];exact .v rfl
theorem XG (s:List UInt8) (c:UInt8) (O:VH):VF Tryz.prog 282 [.str s,.str [c]] O (aD fun m O'=>m=mi (s.count c:Nat)/\O'=O):=by
 refine Δ 34 [.tmp 4] Tryz.func282 ?_;refine aG @av @Qm.{0} @Ma.{0} ?_;refine ah.ext (F_ s c O) rfl ?_;rintro _ O2 ⟨rfl,eO⟩;rw[eO];clear eO O2
 exact fU @av
def gm (s:Bs) (c:UInt8):Nat->Int
 | 0=> -1
 | n+1=>if s[n]?=some c then(n:Int)else gm s c n
theorem Ga (s:Bs) (c:UInt8):∀n, -1<=gm s c n/\gm s c n<n
 | 0=>by simp[gm]
 | n+1=>by
   have:=Ga s c n;unfold gm;split<;>omega
theorem n0 (s:List UInt8) (c:UInt8) (O:VH) (hs:s.length<=1000000):VF Tryz.prog 299 [.str s,gj c] O (aD fun m O'=>m=mi (gm s c s.length)/\O'=O):=by
 refine Δ 19 [.tmp 4] Tryz.func299 ?_;refine ab @av ?_;refine WC.jm [5] [0,1] (fun j:Nat=>[mi ((j:Int) - 1)]) (fun j O'=>O'=O/\j<=s.length/\gm s c s.length=gm s c j) (fun j=>j) (s.length) ?_ ?_
 ·exact⟨rfl,Zj _,rfl⟩
 rintro j O2 ⟨eO,hj,hl⟩;rw[eO];clear eO O2
 rcases j with _ | n
 ·refine ab @av ?_;rw[hl];rfl
 have hg:=Zk (show n<s.length by omega);have o8:(((n+1:Nat):Int) - 1).toNat=n:=by omega
 rw[show gm s c (n+1)=if s[n]?=some c then(n:Int)else gm s c n from rfl,hg]at hl;generalize hx:s[n]=d at*;by_cases hd:d=c
 ·rw[hd]at hl hg;rw[if_pos rfl]at hl;refine cR @av @hg @o8 @aK ?_;rw[hl]
 ·have iM:¬((d.toNat:Int)=(c.toNat:Int)):=fun e=>hd (UInt8.toNat_inj.1 (by omega))
  rw[if_neg (by simpa using hd)]at hl;refine iN @av @hg @o8 @aK @iM ?_;refine az.N (n) ?_;exact⟨rfl,by omega,hl⟩
theorem HR (s:List UInt8) (c:UInt8) (O:VH) (hs:s.length<=1000000):VF Tryz.prog 283 [.str s,.str [c]] O (aD fun m O'=>m=mi (gm s c s.length)/\O'=O):=by
 refine Δ 36 [.tmp 4] Tryz.func283 ?_;refine aG @av @Qm.{0} @Ma.{0} ?_;refine ah.rt (n0 s c O hs) ?_;rintro _ O2 ⟨rfl,eO⟩;rw[eO];clear eO O2
 exact fU @av
theorem Ci (s:List UInt8) (c:UInt8) (O:VH) (hs:s.length<=1000000):VF Tryz.prog 277 [.str s,gj c] O (aD fun m O'=>m=mi (gm s c s.length)/\O'=O):=by
 refine Δ 8 [.tmp 4] Tryz.func277 ?_;refine ab @av ?_;refine ah.rt (n0 s c O hs) ?_;rintro _ O2 ⟨rfl,eO⟩;rw[eO];clear eO O2
 exact fU @av
def p_ (t:Bs) (o:Nat):MV:=.agg [mi o,mi (1+((t.take o).count 10:Nat)),mi ((o:Int) - gm (t.take o) 10 (t.take o).length)]
theorem agH (t:Bs) (o:Nat) (O:VH) (ht:t.length<=1000000) (ho:o<=t.length):VF Tryz.prog 261 [.str t,mi o] O (aD fun m O'=>m=p_ t o/\O.Ge O'):=by
 have hb:=Ga (t.take o) 10 (t.take o).length;have hc:=List.count_le_length (a:=(10:UInt8)) (l:=t.take o);have eh:(t.take o).length<=1000000:=by rw[List.length_take];omega
 unfold p_;refine Δ 23 [.cell 4 108] Tryz.func261 ?_;have hmx:max (0:Int) (min (o:Int) ((t:List UInt8).length:Int))=(o:Int):=by omega
 have o8:((o:Int)).toNat=o:=by omega
 refine aG @ez @hmx @o8 ?_;refine ah.rt (XG (t.take o) 10 _) ?_;rintro _ O2 ⟨rfl,eO⟩;rw[eO];clear eO O2
 refine ab @ez ?_;refine ah.rt (HR (t.take o) 10 _ eh) ?_;rintro _ O2 ⟨rfl,eO⟩;rw[eO];clear eO O2
 generalize gm (t.take o) 10 (t.take o).length=a at*;generalize (t.take o).count 10=b at*;refine ab @ez ?_;first | exact(VH.Ge.refl O).push _ | exact((VH.Ge.refl O).push _).set (Zj _) _
open Go.Shelf
def Tryz.KT:Go.Shelf.Ren:=⟨fun | 143=>98 | 219=>122 | 217=>149 | 225=>150 | 224=>151 | 267=>152 | 266=>186 | 314=>187 | n=>n,fun | 9=>9 | 3=>3 | 4=>4 | 5=>5 | 46=>285 | 146=>331 | 51=>98 | n=>n,fun | 1=>0 | n=>n⟩
theorem Tryz.abn:Go.Proofs.Lays.n143 Tryz.prog Tryz.KT:={
 mixed:=by kernel_rfl
 f143:=Tryz.func98.trans (congrArg some (by kernel_rfl))
 f217:=Tryz.func149.trans (congrArg some (by kernel_rfl))
 f219:=Tryz.func122.trans (congrArg some (by kernel_rfl))
 f224:=Tryz.func151.trans (congrArg some (by kernel_rfl))
 f225:=Tryz.func150.trans (congrArg some (by kernel_rfl))
 f266:=Tryz.func186.trans (congrArg some (by kernel_rfl))
 f267:=Tryz.func152.trans (congrArg some (by kernel_rfl))
 f314:=Tryz.func187.trans (congrArg some (by kernel_rfl))
 t3:=Tryz.underlying3
 a3:=Tryz.isAgg3
 z3:=Tryz.sizeOf3
 v3:=Tryz.zeroValue3
 t4:=Tryz.underlying4
 a4:=Tryz.isAgg4
 z4:=Tryz.sizeOf4
 v4:=Tryz.zeroValue4
 t5:=Tryz.underlying5
 a5:=Tryz.isAgg5
 z5:=Tryz.sizeOf5
 v5:=Tryz.zeroValue5
 t9:=Tryz.underlying9
 a9:=Tryz.isAgg9
 z9:=Tryz.sizeOf9
 v9:=Tryz.zeroValue9
 t46:=Tryz.underlying285
 a46:=Tryz.isAgg285
 z46:=Tryz.sizeOf285
 v46:=Tryz.zeroValue285
 t51:=Tryz.underlying98
 a51:=Tryz.isAgg98
 z51:=Tryz.sizeOf98
 v51:=Tryz.zeroValue98
 t146:=Tryz.underlying331
 a146:=Tryz.isAgg331
 z146:=Tryz.sizeOf331
 v146:=Tryz.zeroValue331
 g1:=by kernel_rfl}
open Go.RowKit Go.Lib in
theorem Tryz.strings_Index (s sub:ByteArray) (m:Int) (w:World) (hs:s.size<4294967281) (hm:w.cell? ⟨0,0,none⟩=some (.int .i64 m)):
  Calls Tryz.prog 98 #[.string s,.string sub] w fun e w'=>e= .returned (.int .i64 (Lib.index s.data.toList sub.data.toList))/\w'=w:=Any.strings_Index Tryz.abn s sub m w hs hm
theorem N9 (s p:List UInt8) (O:VH) (hs:s.length<4294967281):VF Tryz.prog 98 [.str s,.str p] O (aD fun m O'=>m=mi (Lib.index s p)/\O'=O):=by
 intro G w vs hw hv;obtain⟨u,us,rfl,h1,h2⟩:=hv.eW;obtain⟨u2,us2,rfl,h3,h4⟩:=h2.eW;rw[h4.iQ];cases h1;cases h3;obtain⟨m,hm⟩:=hw.ajw (g:=0) (by decide);refine(Tryz.strings_Index ⟨⟨s⟩⟩ ⟨⟨p⟩⟩ m w hs hm).mono fun e w' ⟨he,Ew⟩=>?_
 subst Ew;subst he
 exact⟨.ret (mi (Lib.index s p)),O,G,Gh.Le.refl G,hw,.v rfl,rfl,rfl⟩
theorem index_le:∀(s p:Bs),Lib.index s p<=(s.length:Int)
 | [],p=>by unfold Lib.index;split<;>simp
 | b::l,p=>by
   have:=index_le l p;unfold Lib.index;rw[Qm];split
   ·omega
   ·split<;>omega
theorem abo {f:UInt8->Bool}:∀(s:Bs) (j:Nat) (c:UInt8),s[j]?=some c->j<=(s.takeWhile f).length->if f c then j+1<=(s.takeWhile f).length else(s.takeWhile f).length=j
 | [],j,c,hj,_=>by simp at hj
 | d::s,0,c,hj,_=>by
   simp only[ajt,Option.some.injEq]at hj;subst hj;cases h:f d<;>simp[List.takeWhile,h]
 | d::s,j+1,c,hj,h=>by
   rw[aju]at hj;cases hc:f d
   ·rw[ahO (by simp[hc])]at h;simp at h
   ·rw[ahP hc,Qm]at h ⊢;have:=abo (f:=f) s j c hj (by omega);cases V5:f c
    ·simp only[V5,anc,if_false]at this ⊢;omega
    ·simp only[V5,if_true]at this ⊢;omega
def qS (s p:Bs):Bs:=if 0<=Lib.index s p then s.take (Lib.index s p).toNat else s
def jC (t:Bs) (o:Nat) (p:Bs):Except (Int×Nat) (Bs×Nat):=
 if((qS (t.drop o) p).takeWhile ng).length<(qS (t.drop o) p).length then .error (10,o+((qS (t.drop o) p).takeWhile ng).length)
 else if Lib.index (t.drop o) p<0 then .error (13,t.length)else .ok (qS (t.drop o) p,o+(Lib.index (t.drop o) p).toNat+p.length)
theorem Gb {O:VH} {k off:Nat} {t:Bs} {X:MV} (fr p:Bs) (h:Rd O k t off X) (ht:t.length<=1000000) (hp:p.length<=1000) (ho:off+fr.length<=t.length):
  VF Tryz.prog 292 [.ptr k 0,.str fr,.str p] O (TQ O k t X (jC t (off+fr.length) p) fun y m=>m= .str y):=by
 have hk:=h.2;have hr:Rd (O.set k (.cells [.str t,mi (off+fr.length:Nat),X])) k t (off+fr.length) X:=h.set;have hu:bz O (some k) (O.set k (.cells [.str t,mi (off+fr.length:Nat),X])):=bz.set;have ly:(off:Int)+(fr.length:Int)=((off+fr.length:Nat):Int):=by omega
 simp only[aq, <-ly]at hk hr hu;refine υ 78 [.tmp 6] Tryz.func292 ?_;refine κ @av ?_;refine ξ @av @hk ?_;generalize O.set k (.cells [.str t,.v (.int .i64 ((off:Int)+(fr.length:Int))),X])=O2 at*;generalize hoo:off+fr.length=o at*;have bM:=hr.2;simp only[aq]at bM;unfold jC;refine κ @av ?_;refine ah.rt (xF hr ho) ?_;rintro _ O3 ⟨rfl,eO⟩;rw[eO];clear eO O3
 refine ab @av ?_;refine ah.rt (N9 (t.drop o) p _ (by rw[ahN];omega)) ?_;rintro _ O3 ⟨rfl,eO⟩;rw[eO];clear eO O3
 refine ab @av ?_;refine κ @av ?_;refine ah.rt (xF hr ho) ?_;rintro _ O3 ⟨rfl,eO⟩;rw[eO];clear eO O3
 refine ab @av ?_;have cW:=Lib.index_ge (t.drop o) p;have eZ:Lib.index (t.drop o) p<=((t.drop o).length:Int):=index_le _ _;have jE:qS (t.drop o) p=if 0<=Lib.index (t.drop o) p then(t.drop o).take (Lib.index (t.drop o) p).toNat else t.drop o:=rfl
 have u9:(qS (t.drop o) p).length<=1000000:=by
  rw[jE];split
  ·rw[ahK,ahN];omega
  ·rw[ahN];omega
 generalize qS (t.drop o) p=s at*;generalize Lib.index (t.drop o) p=n at*;refine Θ [0,2,7,8] (fun _:Unit=>[.ptr k 0,.str p,.v (.int .i64 n),.str s]) (fun _ O'=>O'=O2) ?_ ?_
 ·rw[ahN]at eZ;by_cases h0:0<=n
  ·rw[if_pos h0]at jE;subst jE;obtain⟨N,rfl⟩:=Int.eq_ofNat_of_zero_le h0;have hN:N<=(t.drop o).length:=by rw[ahN];omega
   have o8:(N:Int).toNat=N:=rfl;refine ab @av ?_;refine ο @av @o8 ?_;exact aA.mk () rfl
  ·rw[if_neg h0]at jE;subst jE;refine ao @av @h0 ?_;refine ν @av ?_;exact aA.mk () rfl
 rintro⟨⟩ O3 eO;rw[eO];clear eO O3
 refine κ @av ?_;clear jE;have htw:=oT ng s;refine Γ [38] [0,2,7,8,37] (fun j:Nat=>[mi j]) (fun j O'=>O'=O2/\j<=s.length/\j<=(s.takeWhile ng).length) (fun j=>s.length - j) (0) ?_ ?_
 ·exact⟨rfl,adZ _,adZ _⟩
 rintro j O3 ⟨eO,hj,hjt⟩;rw[eO];clear eO O3
 by_cases h1:j<s.length
 ·have hg:=Zk h1;have cX:=abo (f:=ng) s j _ hg hjt;generalize s[j]=c at*;cases hc:ng c
  ·rw[hc,if_neg (by simp)]at cX;rw[if_pos (by omega),cX];refine κ @av ?_;refine κ @av ?_;refine ξ @av @hg ?_;refine ah.rt (xz c _) ?_;rintro _ O3 ⟨rfl,eO⟩;rw[eO];clear eO O3
   rw[hc];refine ao @av @bM ?_;refine ah.p (jc 10 (o+j) _) ?_ ?_
   ·rintro m O9 ⟨_,h⟩;exact h.elim
   rintro m O9 ⟨rfl,rfl⟩;refine ab @av ?_;exact⟨hu,rfl⟩
  ·rw[hc,if_pos rfl]at cX;refine κ @av ?_;refine κ @av ?_;refine ξ @av @hg ?_;refine ah.rt (xz c _) ?_;rintro _ O3 ⟨rfl,eO⟩;rw[eO];clear eO O3
   rw[hc];refine ao @av @bM ?_;refine ν @av ?_;exact az.N (j+1) ⟨rfl,h1,cX⟩
 ·have aM:j=s.length:=by omega
  subst aM;refine κ @av ?_;refine ν @av ?_;rw[if_neg (by omega)];by_cases h2:n<0
  ·rw[if_pos h2];refine ξ @av @bM ?_;refine ah.p (jc 13 t.length _) ?_ ?_
   ·rintro m O9 ⟨_,h⟩;exact h.elim
   rintro m O9 ⟨rfl,rfl⟩;refine ab @av ?_;exact⟨hu,rfl⟩
  ·rw[if_neg h2];refine ξ @av @bM ?_;have h3:(n.toNat:Int)=n:=by omega
   have h4:n<=1000000:=by rw[ahN]at eZ;omega
   refine ξ @av @bM ?_;refine ν @av ?_;have fy:(o:Int)+(n+(p.length:Int))=((o+n.toNat+p.length:Nat):Int):=by omega
   rw[fy];exact⟨hu.trans bz.set,rfl,by simpa[aq]using hr.set (t':=t) (off':=o+n.toNat+p.length) (X':=X)⟩
def se (s:Bs):Bool:=ey s [60,63,120,109,108]&&decide (5<s.length)&&(mF (s.getD 5 0)||s.getD 5 0==63)
theorem XH {O:VH} {k off:Nat} {t:Bs} {X:MV} (h:Rd O k t off X) (ht:t.length<=1000000) (ho:off<=t.length):VF Tryz.prog 293 [.ptr k 0] O (aD fun m O'=>m=mb (se (t.drop off))/\O'=O):=by
 unfold se;refine Δ 25 [.tmp 2] Tryz.func293 ?_;refine ab @av ?_;refine ah.rt (xF h ho) ?_;rintro _ O2 ⟨rfl,eO⟩;rw[eO];clear eO O2
 have hl:(t.drop off).length<=1000000:=by rw[ahN];omega
 generalize t.drop off=s at*;refine ab @av ?_;refine ah.rt (nY s [60,63,120,109,108] _) ?_;rintro _ O2 ⟨rfl,eO⟩;rw[eO];clear eO O2
 cases h1:ey s [60,63,120,109,108]
 ·exact fU @av
 by_cases h2:5<s.length
 ·have hg:=Zk h2;have hd:s.getD 5 0=s[5]:=by simp[List.getD,hg]
  rw[decide_eq_true h2,hd];generalize s[5]=c at*;refine ao @av @hg ?_;refine ah.rt (qE c _) ?_;rintro _ O2 ⟨rfl,eO⟩;rw[eO];clear eO O2
  cases h3:mF c
  ·by_cases h4:c=63
   ·subst h4;refine aG @av @hg @aK ?_;rfl
   ·have h5:¬((c.toNat:Int)=63):=fun e=>h4 (UInt8.toNat_inj.1 (by simpa using(by omega:c.toNat=63)))
    rw[show(c==63)=false by simpa using h4];exact kt4 @av @hg @aK @h5
  ·exact fU @av
 ·rw[decide_eq_false h2];exact fU @av
section
variable {G:Gh} {O:VH} {w:World} {n:Sz} {D:List Deferred} {e:Env} {P:Program} {tab:cj} {ops:Array Oper} {Q:VQ} {u:Value}
def Jb (k:Int):Bs:=(Utf8.encode k).data.toList
theorem XI (ht:aO P tab) (h:WR G O w) {src dst el:TypeId} {tk:Tok} {k:Int} (hs:(tab src).map cL.under=some (.slice el)) (hd:(tab dst).map cL.under=some .string) (he:(tab el).map cL.under=some (.int .i32))
  (hx:VR G (.sl 1 [.v (.int .i32 k)] tk) u):iw P (convert src dst u) w G O (.str (Jb k)):=by
 cases hx with
 | sl h1 h2 h3 h4 h5 h6=>
   rename_i us c b o
   have h7:us=[.int .i32 k]:=by
    match us,h1 with
    | [x],_=>rw[(h3 0 _ x rfl rfl).jj]
   subst h7;refine⟨_,w,G,?_,Gh.Le.refl G,h,.str,j7.refl _ _⟩;rw[run_convert_runes_string w src dst el _ _ _ (bL ht hs) (bL ht he) (bL ht hd)]
   have h8:=run_loadCells_list (P:=P) w ⟨b,o,none⟩ [Value.int .i32 k] (fun j v hv=>by
    rw[Addr.add_lit];exact h.eN _ _ _ (h2 j v hv))
   rw[run_runesToString (P:=P) w ⟨b,o,none⟩ 1 c [k] h8]
   congr 2
theorem VL.Gc (ht:aO P tab) {d:Option Tmp} {src dst el:TypeId} {x:Operand} {ty:TypeId} {ps:String} {af:Array Edge} {g:Option (Nat×Bool)} {L:List (Fl×Oper)} {k:Int} {tk:Tok}
  (hg:aN ops (.mk d (.convert src dst x) ty ps af g) e=some true) (hx:ev e x=some (.sl 1 [.v (.int .i32 k)] tk)) (hs:(tab src).map cL.under=some (.slice el)) (r9:(tab dst).map cL.under=some .string) (he:(tab el).map cL.under=some (.int .i32)) (hd:bC n d=true)
  (h:WL P tab n D .plain ops Q L (aZ d (.str (Jb k)) e) O):VL P n D .plain ops ((.one,.mk d (.convert src dst x) ty ps af g)::L) e O Q:=by
 refine VL.Fg (M:=fun m O'=>m= .str (Jb k)/\O'=O) hg hd (fun G a w hw hf=>?_) ?_
 ·exact⟨_,_,⟨rfl,rfl⟩,dU.of (XI (P:=P) ht hw hs r9 he (hf.ev hx)) (by simp[execOp])⟩
 ·rintro m O' ⟨rfl,rfl⟩;exact WL.sound ht h
end
set_option linter.defProp false in
def bS:=Qn av<|Qn Ru IZ
def isLet (k:Nat):Bool:=decide (k=9\/k=10\/k=13\/(32<=k/\k<=1114111/\¬(55296<=k/\k<=57343)))
def De (k:Nat):Bs:=if isLet k then Jb k else[]
theorem N_ {k:Nat} (h:isLet k=true):IntKind.i32.wrap (k:Int)=k:=by
 have hk:k<=1114111:=by
  simp only[isLet,decide_eq_true_eq]at h;omega
 clear h;simp only[IntKind.wrap,IntKind.signed,IntKind.bits];simp;omega
theorem XJ (k:Nat) (O:VH) (hk:k<=1000000000000):VF Tryz.prog 327 [mi k] O (aD fun m O'=>m= .tuple [.str (De k),mb (isLet k)]/\O'=O):=by
 have yes:isLet k=true->De k=Jb k:=fun h=>by unfold De;rw[h];rfl
 have no:isLet k=false->De k=[]:=fun h=>by unfold De;rw[h];rfl
 have hw:= @N_ k;refine Δ 37 [.tmp 2,.tmp 3] Tryz.func327 ?_;by_cases h1:k=9
 ·have h0:isLet k=true:=decide_eq_true (.inl h1);subst h1;have hw:=hw h0;rw[yes h0,h0];refine ab @bS ?_;refine VL.Gc aa rfl rfl (by rw[IZ];rfl) (by rw[T9];rfl) (by rw[Ru];rfl) rfl ?_;refine ao @bS @hw ?_;trivial
 by_cases h2:k=10
 ·have h0:isLet k=true:=decide_eq_true (.inr (.inl h2));subst h2;have hw:=hw h0;rw[yes h0,h0];refine ab @bS ?_;refine VL.Gc aa rfl rfl (by rw[IZ];rfl) (by rw[T9];rfl) (by rw[Ru];rfl) rfl ?_;refine ao @bS @hw ?_;trivial
 by_cases h3:k=13
 ·have h0:isLet k=true:=decide_eq_true (.inr (.inr (.inl h3)));subst h3;have hw:=hw h0;rw[yes h0,h0];refine ab @bS ?_;refine VL.Gc aa rfl rfl (by rw[IZ];rfl) (by rw[T9];rfl) (by rw[Ru];rfl) rfl ?_;refine ao @bS @hw ?_;trivial
 by_cases h4:k<32
 ·have h0:isLet k=false:=by simp only[isLet,decide_eq_false_iff_not];omega
  rw[no h0,h0];refine ab @bS ?_;trivial
 by_cases h5:1114111<k
 ·have h0:isLet k=false:=by simp only[isLet,decide_eq_false_iff_not];omega
  rw[no h0,h0];refine ab @bS ?_;trivial
 by_cases h6:55296<=k
 ·by_cases h7:k<=57343
  ·have h0:isLet k=false:=by simp only[isLet,decide_eq_false_iff_not];omega
   rw[no h0,h0];refine ab @bS ?_;trivial
  ·have h0:isLet k=true:=by simp only[isLet,decide_eq_true_eq];omega
   have hw:=hw h0;rw[yes h0,h0];refine ab @bS ?_;refine VL.Gc aa rfl rfl (by rw[IZ];rfl) (by rw[T9];rfl) (by rw[Ru];rfl) rfl ?_;refine ao @bS @hw ?_;trivial
 ·have h0:isLet k=true:=by simp only[isLet,decide_eq_true_eq];omega
  have hw:=hw h0;rw[yes h0,h0];refine ab @bS ?_;refine VL.Gc aa rfl rfl (by rw[IZ];rfl) (by rw[T9];rfl) (by rw[Ru];rfl) rfl ?_;refine ao @bS @hw ?_;trivial
def sR (b:Nat) (c:UInt8):Int:=
 if qA c then(c.toNat:Int) - 48 else if b=16/\97<=c.toNat/\c.toNat<=102 then(c.toNat:Int) - 97+10 else if b=16/\65<=c.toNat/\c.toNat<=70 then(c.toNat:Int) - 65+10 else -1
theorem Oc (c:UInt8):qA c=decide (48<=c.toNat/\c.toNat<=57):=by unfold qA;rw[<-Bool.decide_and]
theorem Jc (b:Nat) (c:UInt8) (O:VH):VF Tryz.prog 326 [gj c,mi b] O (aD fun m O'=>m=mi (sR b c)/\O'=O):=by
 have hc:c.toNat<256:=c.toNat_lt;have hd:=qB c O;unfold sR;refine Δ 41 [.tmp 4] Tryz.func326 ?_;refine ab @bS ?_;refine ah.rt (hd) ?_;rintro _ O2 ⟨rfl,eO⟩;rw[eO];clear eO O2
 cases h1:qA c;rotate_left
 ·rw[Oc,decide_eq_true_eq]at h1;refine ao @bS @aK ?_;first | trivial | rfl | (repeat (first | rw[if_pos (by omega)] | rw[if_neg (by omega)]))
 by_cases hb:b=16
 ·subst hb;by_cases h2:97<=c.toNat
  ·by_cases h3:c.toNat<=102
   ·refine ao @bS @aK ?_;first | trivial | rfl | (repeat (first | rw[if_pos (by omega)] | rw[if_neg (by omega)]))
   ·refine ao @bS @aK ?_;first | trivial | rfl | (repeat (first | rw[if_pos (by omega)] | rw[if_neg (by omega)]))
  ·by_cases h4:65<=c.toNat
   ·by_cases h5:c.toNat<=70
    ·refine ao @bS @aK ?_;first | trivial | rfl | (repeat (first | rw[if_pos (by omega)] | rw[if_neg (by omega)]))
    ·refine ao @bS @aK ?_;first | trivial | rfl | (repeat (first | rw[if_pos (by omega)] | rw[if_neg (by omega)]))
   ·refine ao @bS @aK ?_;first | trivial | rfl | (repeat (first | rw[if_pos (by omega)] | rw[if_neg (by omega)]))
 ·have cJ:((b:Int)==16)=false:=by simpa using(by omega:¬(b:Int)=16)
  refine aG @bS @aK @cJ ?_;first | trivial | rfl | (repeat (first | rw[if_pos (by omega)] | rw[if_neg (by omega)]))
def yE (b:Nat) (c:UInt8):Bool:=decide (0<=sR b c)
theorem XK (b k:Nat) (c:UInt8) (O:VH) (hk:O.hp k=some (.cells [mi b])):VF Tryz.prog 325 ([gj c]++[.ptr k 0]) O (aD fun m O'=>m=mb (yE b c)/\O'=O):=by
 show VF _ _ [gj c,.ptr k 0] _ _;simp only[aq]at hk;unfold yE;refine Δ 8 [.tmp 3] Tryz.func325 ?_;refine ao @bS @hk ?_;refine ah.rt (Jc b c O) ?_;rintro _ O2 ⟨rfl,eO⟩;rw[eO];clear eO O2
 by_cases h:0<=sR b c
 ·rw[decide_eq_true h];refine ab @bS ?_;first | trivial | rfl
 ·rw[decide_eq_false h];refine ao @bS @h ?_;first | trivial | rfl
theorem abp (f:FuncId) (cs:List MV) (p:UInt8->Bool) (s:List UInt8) (O:VH) (hs:s.length<=1000000000) (hf:∀c,VF Tryz.prog f ([gj c]++cs) O (aD fun m O'=>m=mb (p c)/\O'=O)) (hb:db Tryz.prog f=true):
  VF Tryz.prog 206 [.str s,.func (.func f) [] cs] O (aD fun m O'=>m=mi (s.takeWhile p).length/\O'=O):=by
 refine Δ 20 [.tmp 4] Tryz.func206 ?_;refine ab @f_ ?_;refine WC.jm [5] [0,1] (fun j:Nat=>[mi j]) (fun j O'=>O'=O/\j<=s.length/\(s.takeWhile p).length=j+((s.drop j).takeWhile p).length) (fun j=>s.length - j) (0) ?_ ?_
 ·exact⟨rfl,adZ _,by simp⟩
 rintro j O2 ⟨eO,hj,hw⟩;rw[eO];clear eO O2
 by_cases h2:j<s.length
 ·have hg:=Zk h2;have hd:=ahM h2;generalize s[j]=c at*;refine ao @f_ @hg ?_;refine ah.rt (hf c) ?_ (hb:=hb);rintro _ O3 ⟨rfl,eO⟩;rw[eO];clear eO O3
  cases hp:p c
  ·refine ao @f_ @hg ?_;rw[hw,hd,ahO (by simp[hp])];trivial
  ·refine ao @f_ @hg ?_;refine az.N (j+1) ?_;refine⟨rfl,by omega,?_⟩;rw[hw,hd,ahP hp,Qm];omega
 ·refine ab @f_ ?_;rw[hw,ajl (by omega)];trivial
def j4 (s:Bs) (a:Nat):Bs×Nat×Nat:=if ey s [120]then(s.drop 1,a+1,16)else(s,a,10)
def sS (b:Nat) (l:Bs):Nat:=l.foldl (fun k c=>k*b+(sR b c).toNat) 0
def abq (s:Bs) (a b n:Nat):Bs×Nat×Int:=
 if 8<n then([],0,12)else if n=s.length then([],0,13)else if n=0\/s.getD n 0≠59 then([],0,12)
 else if isLet (sS b (s.take n))then(De (sS b (s.take n)),a+n+1,0)else([],0,12)
def wo (s:Bs) (a:Nat):Bs×Nat×Int:=abq (j4 s a).1 (j4 s a).2.1 (j4 s a).2.2 ((j4 s a).1.takeWhile (yE (j4 s a).2.2)).length
theorem Od {b:Nat} (hb:b<=16):∀(l:Bs) (k:Nat),l.foldl (fun k c=>k*b+(sR b c).toNat) k+1<=(k+1)*16 ^ l.length
 | [],k=>by simp
 | c::l,k=>by
   have hd:(sR b c).toNat<=15:=by
    unfold sR;split
    ·rename_i h;rw[Oc,decide_eq_true_eq]at h;omega
    repeat' split
    all_goals omega
   rw[List.foldl_cons,Qm,Nat.pow_succ];refine Vq (Od hb l _) ?_;have h1:k*b<=k*16:=Nat.mul_le_mul_left k hb;have h2:k*b+(sR b c).toNat+1<=(k+1)*16:=by omega
   calc _<=((k+1)*16)*16 ^ l.length:=Nat.mul_le_mul_right _ h2
    _=_:=by rw[Nat.mul_assoc,Nat.mul_comm 16]
theorem Ut {b:Nat} (hb:b<=16) {l:Bs} (hl:l.length<=8):sS b l<=4294967296:=by
 have h1:=Od hb l 0;have h2:16 ^ l.length<=16 ^ 8:=Nat.pow_le_pow_right (by decide) hl;have h3:(16:Nat) ^ 8=4294967296:=by decide
 unfold sS;omega
theorem R5 (b:Nat) (t:Bs) (j:Nat) (h:j<t.length):sS b (t.take (j+1))=sS b (t.take j)*b+(sR b t[j]).toNat:=by
 unfold sS;rw[dz _ _ h,List.foldl_append];rfl
theorem Uu {p:UInt8->Bool}:∀(t:Bs) (j:Nat) (c:UInt8),j<(t.takeWhile p).length->t[j]?=some c->p c=true
 | [],j,c,h,_=>by simp at h
 | d::t,j,c,h,hj=>by
   cases hd:p d
   ·rw[ahO (by simp[hd])]at h;simp at h
   ·rw[ahP hd,Qm]at h;cases j with
    | zero=>simp only[ajt,Option.some.injEq]at hj;subst hj;exact hd
    | succ j=>exact Uu t j c (by omega) (by simpa using hj)
theorem XL (s:Bs) (a:Nat) (O:VH) (hs:s.length<=1000000) (ha:a<=1000000):VF Tryz.prog 321 [.str s,mi a] O (aD fun m O'=>m= .tuple [.str (wo s a).1,mi (wo s a).2.1,mi (wo s a).2.2]/\O.Ge O'):=by
 unfold wo;refine υ 65 [.tmp 4,.tmp 5,.tmp 6] Tryz.func321 ?_;refine κ @bS ?_;refine κ @bS ?_;refine VC.al ?_;rintro O1 ⟨aI,cA,cW⟩;refine Θ [0,1,7] (fun _:Unit=>[.str (j4 s a).1,mi (j4 s a).2.1,.ptr O.N 0]) (fun _ O'=>O.Ge O'/\O'.hp O.N=some (.cells [mi (j4 s a).2.2])) ?_ ?_
 ·refine κ @bS ?_;refine ah.rt (nY s [120] _) ?_;rintro _ O2 ⟨rfl,eO⟩;rw[eO];clear eO O2
  unfold j4;cases h1:ey s [120]
  ·refine ab @bS ?_;refine ν @bS ?_;exact aA.mk () ⟨aI,cA⟩
  ·have h2:1<=s.length:=by
    cases s with
    | nil=>cases h1
    | cons c s=>simp
   refine ao @bS @cA ?_;refine ο @bS @cA ?_;exact aA.mk () ⟨aI.set (Zj _) _,ρ _ _ _⟩
 rintro⟨⟩ O2 ⟨aB,bM⟩;have dH:(j4 s a).1.length<=1000000:=by unfold j4;split<;>simp<;>omega
 have hpa:(j4 s a).2.1<=1000001:=by unfold j4;split<;>simp<;>omega
 have oJ:(j4 s a).2.2<=16:=by unfold j4;split<;>simp
 generalize j4 s a=p at*;obtain⟨t,a2,b⟩:=p;dsimp only at*;have htw:=oT (yE b) t;refine κ @bS ?_;refine ah.rt (abp 325 [.ptr O.N 0] (yE b) t O2 (by omega) (fun c=>XK b O.N c O2 bM) (by kernel_rfl)) ?_;rintro _ O3 ⟨rfl,eO⟩;rw[eO];clear eO O3
 have jV:= @Uu (yE b) t;generalize (t.takeWhile (yE b)).length=n at*;unfold abq;refine ab @bS ?_;refine χ (τ ?_);by_cases h1:8<n
 ·rw[if_pos h1];refine ν @bS ?_;exact⟨rfl,aB⟩
 rw[if_neg h1];by_cases h2:n=t.length
 ·rw[if_pos h2];subst h2;refine ν @bS ?_;exact⟨rfl,aB⟩
 rw[if_neg h2];by_cases h3:n=0
 ·rw[if_pos (.inl h3)];subst h3;refine ο @bS @h2 ?_;exact⟨rfl,aB⟩
 have hnt:n<t.length:=by omega
 have hg:=Zk hnt;have hd:t.getD n 0=t[n]:=by simp[List.getD,hg]
 rw[hd];generalize t[n]=c at*;by_cases h4:c=59;rotate_left
 ·rw[if_pos (.inr h4)];have h5:¬((c.toNat:Int)=59):=fun e=>h4 (UInt8.toNat_inj.1 (by simpa using(by omega:c.toNat=59)))
  refine ι (cR @bS @hg @aK @h5 ?_);exact⟨rfl,aB⟩
 rw[if_neg (fun h=>h.elim h3 (fun h=>h h4))];subst h4;have h5:((((59:UInt8).toNat:Nat):Int) != 59)=false:=rfl;refine ι (cR @bS @hg @aK @h5 ?_);clear hg h5;refine κ @bS ?_;refine κ @bS ?_;simp only[aq]at bM;refine Γ [9,40] [0,1,7,8,39] (fun j:Nat=>[mi (sS b (t.take j)),mi j]) (fun j O'=>O'=O2/\j<=n) (fun j=>n - j) (0) ?_ ?_
 ·exact⟨rfl,adZ _⟩
 rintro j O3 ⟨eO,hj⟩;rw[eO];clear eO O3
 have h8:(t.take j).length<=8:=by rw[ahK];omega
 have hv8:=Ut oJ h8;by_cases hjn:j<n
 ·have hjt:j<t.length:=by omega
  have hg:=List.getElem?_eq_getElem hjt;have XM:=jV j _ hjn hg;have gY:=R5 b t j hjt;have h9:sS b (t.take (j+1))<=4294967296:=Ut oJ (by rw[List.length_take];omega);generalize t[j]=c at*;simp only[yE,decide_eq_true_eq]at XM;generalize hV:sS b (t.take (j+1))=V at*;generalize sS b (t.take j)=v at*;have hdv:((sR b c).toNat:Int)=sR b c:=Int.toNat_of_nonneg XM;have hdc:=Jc b c O2;generalize sR b c=d at*;obtain⟨d,rfl⟩:=Int.eq_ofNat_of_zero_le XM;have ly:(v:Int)*(b:Int)=((v*b:Nat):Int):=by rw[Int.natCast_mul]
  simp only[Int.toNat_natCast]at gY;generalize v*b=vb at*;refine κ @bS ?_;refine κ @bS ?_;refine χ (τ ?_);refine κ @bS ?_;refine VC.nP [] ?_;refine ae.ar 0 ?_;refine ab @bS ?_;refine ae.ld (m:=.v (.int .i64 b)) 1 ?_ ?_
  ·exact dX @bS @bM
  simp only[ak];refine ae.ar 2 ?_;refine ao @bS @ly ?_;refine ae.ar 3 ?_;refine ab @bS ?_;refine ae.ar 4 ?_;refine ab @bS ?_;refine ae.ar 5 ?_;refine ao @bS @hg ?_;refine ae.ld (m:=.v (.int .i64 b)) 6 ?_ ?_
  ·exact dX @bS @bM
  simp only[ak];refine ae.call (i:=7) (hdc) ?_;rintro _ O3 ⟨rfl,eO⟩;simp only[ak];rw[eO];clear eO O3
  refine⟨VH.Ge.refl _,?_⟩;refine ae.ar 8 ?_;refine ao @bS @ly ?_;refine ae.ar 9 ?_;refine ao @bS @ly ?_;refine ae.bP [] ?_;refine ab @bS ?_;refine ν @bS ?_;exact az.N (j+1) ⟨rfl,hjn⟩ (hl:=(by rw[hV,gY];rfl))
 ·obtain rfl:j=n:=by omega
  refine κ @bS ?_;refine ν @bS ?_;generalize sS b (t.take j)=v at*;refine κ @bS ?_;refine ah.rt (XJ v _ (by omega)) ?_;rintro _ O3 ⟨rfl,eO⟩;rw[eO];clear eO O3
  cases h6:isLet v
  ·rw[if_neg (by simp)];refine ab @bS ?_;refine ν @bS ?_;exact⟨rfl,aB⟩
  ·rw[if_pos rfl];refine ab @bS ?_;refine ν @bS ?_;exact⟨rfl,aB⟩
end Go.Proofs.YtjpadehgejlebaaGreatDoor
