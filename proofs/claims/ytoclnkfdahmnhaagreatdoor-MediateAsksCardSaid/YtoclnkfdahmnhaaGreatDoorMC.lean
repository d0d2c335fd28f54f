import Derived.Test.YtoclnkfdahmnhaaGreatDoorMB
import Derived.ProofKit
import Derived.OpenShut
import Derived.Shelf.Strings.Search3
import Derived.Shelf.Strings.OnBuilder
import Derived.Test.YtoclnkfdahmnhaaGreatDoorProg
import Derived.Laws.Cover4
set_option linter.unusedVariables false
set_option linter.unusedSimpArgs false
namespace Go.Proofs.YtoclnkfdahmnhaaGreatDoor
open Go.RowKit Go.ChangeShapes
def G0 (w:World):Gh:=⟨w,fun _=>none,fun b o=>w.cell? ⟨b,o,none⟩,fun _=>none⟩
def O0:VH:=⟨0,fun _=>none⟩
theorem wr0 (w:World) (hg:yK w):WR (G0 w) O0 w where
 base:=Below.refl _ _
 d_ _ _ _ h:=h
 o8 _ _:=⟨rfl,rfl,rfl⟩
 jX _ _ h:=by cases h
 inj _ _ _ _ _ h:=by cases h
 cells _ _ h:=by cases h
 map _ _ _ h:=by cases h
 tok _ h:=by cases h
 k9 _ _ _ _ _ h:=by cases h
 nP _ _ _ _ h:=by cases h
 obj _ _ h:=by cases h
 qf:=hg
 AG _ _ h:=by cases h
def El {H:Type} (enc:TypeId×Value->H) (P:Program) (w:World) (sp:Nat->Bool) (held:Bool) (t:TypeId) (Φ :List MV->Prop):Prop:=
 ∀fuel cs x,DataW.trod enc P w 0 sp held fuel t cs=some x->∃ms,aO (G0 w) ms cs/\ Φ ms
section
variable {H:Type} {enc:TypeId×Value->H} {P:Program} {w:World} {sp:Nat->Bool} {held:Bool} {t e:TypeId}
theorem El.int {k:IntKind} (ht:P.underlying t=some (.int k)):El enc P w sp held t fun ms=>∃n,ms=[.v (.int k n)]/\(Lit.int k n).wf=true:=by
 intro fuel cs x h;obtain⟨n,rfl,rfl,hw⟩:=DataW.trod_int ht h;exact⟨_,aO.cons (.v rfl) aO.nil,n,rfl,hw⟩
theorem El.bool (ht:P.underlying t=some .bool):El enc P w sp held t fun ms=>∃b,ms=[.v (.bool b)]:=by
 intro fuel cs x h;obtain⟨n,rfl,rfl⟩:=DataW.trod_bool ht h;exact⟨_,aO.cons (.v rfl) aO.nil,n,rfl⟩
theorem El.str (ht:P.underlying t=some .string):El enc P w sp held t fun ms=>∃l:List UInt8,ms=[.str l]/\l.length<=maxLen:=by
 intro fuel cs x h;obtain⟨s,rfl,rfl,hs⟩:=DataW.trod_string ht h;exact⟨[.str s.data.toList],aO.cons (by cases s with | mk d=>cases d with | mk l=>exact .str) aO.nil,_,rfl,hs⟩
theorem Qq {w:World} {a:Addr} {v:Value} (h:w.cell? a=some v):a=⟨a.block,a.off,none⟩:=by
 unfold World.cell? at h;split at h
 ·split at h
  ·cases h
  ·rename_i hs;cases a with
   | mk b o s=>cases s with
     | none=>rfl
     | some x=>exact absurd rfl hs
 ·cases h
theorem El.slice (ht:P.underlying t=some (.slice e)) {Φ :List MV->Prop} (he:El enc P w sp held e Φ) (oc:0<P.cellsOf e):
  El enc P w sp held t fun ms=>∃(rows:List (List MV)) (tk:Tok),ms=[.sl rows.length rows.flatten tk]/\(∀r∈rows, Φ r)/\rows.length<=maxLen:=by
 intro fuel cs x h;rcases DataW.trod_slice ht h with⟨rfl,rfl⟩ | ⟨a,len,cap,elems,rest,n,rfl,rfl,rfl,_,xT,hm,hlen,Gk,_,_⟩
 ·exact⟨[.sl 0 [] .nil],aO.cons .slnil aO.nil,[],.nil,rfl,by simp,by simp⟩
 by_cases h0:len=0
 ·subst h0;exact⟨[.sl 0 [] .au],aO.cons (.n9 hm) aO.nil,[],.au,rfl,by simp,by simp⟩
 have each:∀i,i<len->∃ms ci,w.cells? 0 (a.add (i*P.cellsOf e)) (P.cellsOf e)=some ci/\aO (G0 w) ms ci/\ Φ ms:=fun i hi=>by
  have h1:=Gk i hi;have h2:elems[i]?=some (elems[i]'(by omega)):=List.getElem?_eq_getElem (by omega);rw[h2]at h1;obtain⟨ci,h3,h4⟩:=Option.bind_eq_some_iff.1 h1;obtain⟨ms,h5,h6⟩:=he _ _ _ h4;exact⟨ms,ci,h3,h5,h6⟩
 have agH:a=⟨a.block,a.off,none⟩:=by
  obtain⟨_,ci,h1,_⟩:=each 0 (by omega);obtain⟨_,h2,h3⟩:=World.cells?_some h1;have h4:=h3 0 oc;rw[Nat.zero_mul]at h4;have h5:(a.add 0).add 0=a:=by simp[Addr.add]
  rw[h5]at h4;rw[List.getElem?_eq_getElem (by omega)]at h4;exact Qq h4
 obtain⟨b,o,s⟩:=a;obtain rfl:s=none:=congrArg Addr.spot agH
 have build:∀m,m<=len->∃(rows:List (List MV)) (us:List Value),rows.length=m/\us.length=m*P.cellsOf e/\aO (G0 w) rows.flatten us/\(∀p u,us[p]?=some u->w.cell? ⟨b,o+p,none⟩=some u)/\∀r∈rows, Φ r:=fun m=>by
  induction m with
  | zero=>exact fun _=>⟨[],[],rfl,by simp,aO.nil,fun p u hu=>by simp at hu,by simp⟩
  | succ m ih=>
    intro hm;obtain⟨rows,us,h1,h2,h3,h4,h5⟩:=ih (by omega);obtain⟨ms,ci,g1,g2,g3⟩:=each m (by omega);obtain⟨_,g4,g5⟩:=World.cells?_some g1;refine⟨rows++[ms],us++ci,by simp[h1],by rw[List.length_append,h2,g4,Nat.add_mul,Nat.one_mul],?_,fun p u hu=>?_,fun r hr=>?_⟩
    ·rw[List.flatten_append,List.flatten_cons,List.flatten_nil,List.append_nil];exact aO.append h3 g2
    ·rcases Nat.lt_or_ge p us.length with hp | hp
     ·rw[List.getElem?_append_left hp]at hu;exact h4 p u hu
     ·rw[List.getElem?_append_right hp]at hu;have dK:=(List.getElem?_eq_some_iff.1 hu).1;have:=g5 (p - us.length) (by omega);rw[hu]at this;rw[<-this,Addr.add_lit,Addr.add_lit,h2,show o+m*P.cellsOf e+(p - m*P.cellsOf e)=o+p by omega]
    ·rcases List.mem_append.1 hr with hr | hr
     ·exact h5 r hr
     ·rw[List.mem_singleton.1 hr];exact g3
 obtain⟨rows,us,h1,h2,h3,h4,h5⟩:=build len (Nat.le_refl _);refine⟨[.sl rows.length rows.flatten .au],aO.cons ?_ aO.nil,rows,.au,rfl,h5,by omega⟩;rw[h1];exact .sl h3.1 (fun p u hu=>h4 p u hu) h3.2 xT hm trivial
theorem El.imp {Φ Ψ :List MV->Prop} (h:El enc P w sp held t Φ) (hi:∀ms, Φ ms-> Ψ ms):El enc P w sp held t Ψ :=fun fuel cs x hx=>by
 obtain⟨ms,h1,h2⟩:=h fuel cs x hx;exact⟨ms,h1,hi _ h2⟩
theorem El.arg {Φ :List MV->Prop} (h:El enc P w sp held t Φ) {v:Value} {d:DataW H} {ps:List MemPlace} (hd:DataW.Trod enc P w 0 sp held t v d ps) (hc:v.cells= #[v]):∃m,VR (G0 w) m v/\ Φ [m]:=by
 obtain⟨fuel,h1⟩:=hd;rw[hc]at h1;obtain⟨ms,h2,h3⟩:=h _ _ _ h1
 match ms,h2 with
 | [m],h2=>exact⟨m,h2.2 0 m v rfl rfl,h3⟩
 | [],h2=>exact absurd h2.1 (by simp)
 | _::_::_,h2=>exact absurd h2.1 (by simp)
end
def Ja:IntKind->Int->Prop
 | .i64,n=> -9223372036854775808<=n/\n<=9223372036854775807
 | .u64,n=>0<=n/\n<=18446744073709551615
 | .u8,n=>0<=n/\n<=255
 | k,n=>k.min<=n/\n<=k.max
theorem adB {k:IntKind} {n:Int} (h:(Lit.int k n).wf=true):Ja k n:=by
 simp only[Lit.wf,Bool.and_eq_true,decide_eq_true_eq]at h;cases k<;>exact h
section
variable {H:Type} {enc:TypeId×Value->H} {P:Program} {w:World} {sp:Nat->Bool} {held:Bool} {t e:TypeId}
theorem El.ail {k:IntKind} (ht:P.underlying t=some (.int k)):El enc P w sp held t fun ms=>∃n,ms=[.v (.int k n)]/\Ja k n:=
 (El.int ht).imp fun _ ⟨n,h,hw⟩=>⟨n,h,adB hw⟩
theorem El.agI (ht:P.underlying t=some .bool):El enc P w sp held t fun ms=>∃b,ms=[mb b]/\True:=
 (El.bool ht).imp fun _ ⟨b,h⟩=>⟨b,h,trivial⟩
end
theorem VF.law {P:Program} {f:FuncId} {w:World} {ms:List MV} {vs:Array Value} (hg:yK w) (hv:aO (G0 w) ms vs.toList) (h:VF P f ms O0 (aH fun m _=>m=mb true)):
  Calls P f vs w fun e w'=>e= .returned (.bool true)/\Below w.heap.size w w':=by
 have:=h (G0 w) w vs.toList (wr0 w hg) hv;refine this.mono ?_;rintro x w' ⟨r,O',G,h1,h2,h3,h4⟩;cases r with
 | panic m=>exact h4.elim
 | ret m=>
   have h4:m=mb true:=h4;subst h4;cases x with
   | returned v=>
     have h5:v= .bool true:=h3.iD;refine⟨by rw[h5],?_⟩;have:=h2.base;rw[h1.w0]at this;have hB:G.B=w.heap.size:=by unfold Gh.B;rw[h1.w0];rfl
     rw[hB]at this;exact this
   | panicked c=>exact h3.elim
   | outgrown=>exact h3.elim
set_option maxRecDepth 10000
theorem Vy (w:List UInt8) (h:((w.all fun c=> !L5 c)&&(w.all fun c=>w.all fun d=>pr c==pr d))=true):even w:=by
 simp only[Bool.and_eq_true,List.all_eq_true]at h;exact⟨fun c hc=>by simpa using h.1 c hc,fun c hc d hd=>by simpa using h.2 c hc d hd⟩
def okT (p:ZL):Prop:=even p.2.2/\(∀c∈p.2.2,lo c=c)/\(if p.2.1 then p.2.2.all pr=true/\p.2.2.dropWhile (· ==48)=p.2.2 else p.2.2.all (fun c=> !pr c)=true/\agG p.2.2 false=p.2.2)
def L8 (p:ZL):List UInt8:=(if p.2.1&&p.2.2==[]then[48]else[])++p.2.2
def ZM (p:ZL):List UInt8:=(if p.1 then 45 else 46)::L8 p
theorem Vz {p:ZL} (h:okT p):even (L8 p):=by
 unfold L8;split
 ·rename_i hc;have:p.2.2=[]:=by simpa using(Bool.and_eq_true _ _▸hc:p.2.1=true/\(p.2.2==[])=true).2
  rw[this];exact Vy _ rfl
 ·exact h.1
theorem chain:∀(r:List ZL) (_:∀p∈r,okT p) (w:List UInt8) (_:even w) (hy:Bool),tu hy [] (w++r.flatMap ZM)=(w,hy,false)::r.map fun p=>(L8 p,p.1,false)
 | [],_,w,hw,hy=>by
   have:=AZ w [] [] hy (by simpa using hw);simpa[Vx]using this
 | p::r,h,w,hw,hy=>by
   have ih:=chain r (fun q hq=>h q (List.mem_cons_of_mem _ hq)) (L8 p) (Vz (h p (by simp))) p.1;have h1:=AZ w [] ((p::r).flatMap ZM) hy (by simpa using hw);rw[h1,List.nil_append,List.flatMap_cons,ZM,List.cons_append,Qp (by cases p.1<;>rfl)];have hb:((if p.1 then 45 else 46:UInt8)==45)=p.1:=by cases p.1<;>rfl
   rw[hb,ih,List.map_cons]
set_option linter.defProp false in
def fz:=And.intro T9<|And.intro T3<|And.intro T4<|And.intro T5 tr
def lG (c:UInt8):Bool:=decide (c.toNat=32\/c.toNat=9\/c.toNat=10\/c.toNat=13)
def lg (c:UInt8):Bool:=decide ((65<=c.toNat/\c.toNat<=90)\/(97<=c.toNat/\c.toNat<=122)\/c.toNat=95)
def HF (c:UInt8):Bool:=decide (c.toNat=46\/c.toNat=45\/c.toNat=58)
def mc (c:UInt8):Bool:=decide (32<=c.toNat\/c.toNat=9\/c.toNat=10\/c.toNat=13)
theorem py (c:UInt8) (O:VH):VF Tryz.prog 185 [fB c] O (aH fun m O'=>m=mb (lG c)/\O'=O):=by
 have hc:=c.toNat_lt;refine VF.dh 17 [.tmp 2] Tryz.func185 ?_;rcases(show c.toNat=32\/c.toNat=9\/c.toNat=10\/c.toNat=13\/(c.toNat≠32/\c.toNat≠9/\c.toNat≠10/\c.toNat≠13)from by omega)with h | h | h | h | ⟨h1,h2,h3,h4⟩
 ·refine ao @fz @aG ?_;simp[lG,h]
 ·refine ao @fz @aG ?_;simp[lG,h]
 ·refine ao @fz @aG ?_;simp[lG,h]
 ·refine ao @fz @aG ?_;simp[lG,h]
 ·refine ao @fz @aG ?_;simp[lG,h1,h2,h3,h4]
theorem Jb (f:FuncId) (p:UInt8->Bool) (s:List UInt8) (O:VH) (hs:s.length<=maxLen) (hf:∀c O,VF Tryz.prog f [fB c] O (aH fun m O'=>m=mb (p c)/\O'=O)) (hb:c9 Tryz.prog f=true):
  VF Tryz.prog 184 [.str s,.func (.func f) [] []] O (aH fun m O'=>m=mi (s.takeWhile p).length/\O'=O):=by
 have hm:(s.length:Int)<=9223372036854775807:=by simp[maxLen]at hs;omega
 refine VF.dh 20 [.tmp 4] Tryz.func184 ?_;refine ae @fz ?_;refine WC.iG [5] [0,1] (fun j:Nat=>[mi j]) (fun j O'=>O'=O/\j<=s.length/\(s.takeWhile p).length=j+((s.drop j).takeWhile p).length) (fun j=>s.length - j) (0) ?_ ?_
 ·exact⟨rfl,Nat.zero_le _,by simp⟩
 rintro j O2 ⟨rfl,hj,hw⟩;by_cases h2:j<s.length
 ·have hg:=List.getElem?_eq_getElem h2;have hd:=List.drop_eq_getElem_cons h2;generalize s[j]=c at*;refine ao @fz @hg ?_;refine ah.rt (hf c _) ?_ (hb:=hb);rintro _ O3 ⟨rfl,rfl⟩;cases hp:p c
  ·refine ao @fz @hg ?_;rw[hw,hd,List.takeWhile_cons_of_neg (by simp[hp])];trivial
  ·refine ao @fz @hg ?_;refine ay.next (j+1) ?_;refine⟨rfl,by omega,?_⟩;rw[hw,hd,List.takeWhile_cons_of_pos hp,List.length_cons];omega
 ·refine ae @fz ?_;rw[hw,List.drop_of_length_le (by omega)];trivial
def Jc (p:UInt8->Bool) (l:List UInt8):List UInt8:=(l.reverse.dropWhile p).reverse
theorem VA (p:UInt8->Bool) (l:List UInt8) (a:UInt8):Jc p (l++[a])=if p a then Jc p l else l++[a]:=by
 unfold Jc;rw[List.reverse_append,List.reverse_singleton,List.singleton_append,List.dropWhile_cons];cases p a<;>simp
def trimB (s:List UInt8):List UInt8:=Jc lG (s.dropWhile lG)
theorem L9 (p:UInt8->Bool):∀s:List UInt8,s.drop (s.takeWhile p).length=s.dropWhile p
 | []=>rfl
 | c::s=>by
   cases h:p c
   ·rw[List.takeWhile_cons_of_neg (by simp[h]),List.dropWhile_cons_of_neg (by simp[h])];rfl
   ·rw[List.takeWhile_cons_of_pos h,List.dropWhile_cons_of_pos h,List.length_cons,List.drop_succ_cons,L9 p s]
theorem nN (p:UInt8->Bool) (s:List UInt8):(s.takeWhile p).length<=s.length:=(List.takeWhile_sublist p).length_le
theorem Jd (p:UInt8->Bool) (s:List UInt8):(s.dropWhile p).length<=s.length:=(List.dropWhile_sublist p).length_le
theorem ZN (p:UInt8->Bool) (s:List UInt8):(Jc p s).length<=s.length:=by
 unfold Jc;have:=Jd p s.reverse;simp only[List.length_reverse]at this ⊢;exact this
theorem Qr (s:List UInt8):(trimB s).length<=s.length:=Nat.le_trans (ZN _ _) (Jd _ _)
theorem Je (s:List UInt8) (O:VH) (hs:s.length<=maxLen):VF Tryz.prog 158 [.str s] O (aH fun m O'=>m= .str (trimB s)/\O'=O):=by
 have hm:(s.length:Int)<=9223372036854775807:=by simp[maxLen]at hs;omega
 have Pl:=nN lG s;have hdw:=L9 lG s;have fP:=Jd lG s;unfold trimB;refine VF.dh 23 [.tmp 2] Tryz.func158 ?_;refine ae @fz ?_;refine ah.rt (Jb 185 lG s _ hs py (by kernel_rfl)) ?_;rintro _ O2 ⟨rfl,rfl⟩;refine ao @fz @hdw ?_;generalize s.dropWhile lG=t at*;refine WC.iG [0] [] (fun k:Nat=>[.str (t.take k)]) (fun k O'=>O'=O2/\k<=t.length/\Jc lG t=Jc lG (t.take k)) (fun k=>k) t.length ?_ ?_ (h0:=(by rw[List.take_length];rfl))
 ·exact⟨rfl,Nat.le_refl _,by rw[List.take_length]⟩
 rintro k O3 ⟨rfl,hk,hr⟩;rw[hr];have hlen:(t.take k).length=k:=by rw[List.length_take];omega
 rcases Nat.eq_zero_or_pos k with rfl | hk0
 ·have aim:(([]:List UInt8)==[])=true:=rfl;refine ao @fz @aim ?_;trivial
 ·obtain⟨k,rfl⟩:∃j,k=j+1:=⟨k - 1,by omega⟩
  have h2:k<t.length:=by omega
  have i_:=cQ t k h2;have br:(t.take (k+1))[k]?=some t[k]:=by rw[List.getElem?_take,if_pos (by omega),List.getElem?_eq_getElem h2]
  have hne:(t.take (k+1)==[])=false:=by rw[i_];cases t.take k<;>rfl
  have fy:=VA lG (t.take k) t[k];rw[<-i_]at fy;have F2:(t.take (k+1)).take k=t.take k:=by rw[List.take_take];congr 1;omega
  generalize t[k]=c at*;refine cU @fz @hne @hlen @br ?_;refine ah.rt (py c _) ?_;rintro _ O4 ⟨rfl,rfl⟩;cases hb:lG c
  ·refine ae @fz ?_;rw[fy,hb];trivial
  ·rw[hb]at fy;refine aN @fz @hlen @F2 ?_;exact ay.next k ⟨rfl,by omega,by rw[fy];rfl⟩
abbrev Bs:=List UInt8
theorem Et (c:UInt8) (O:VH):VF Tryz.prog 171 [fB c] O (aH fun m O'=>m=mb (lg c)/\O'=O):=by
 have hc:=c.toNat_lt;refine VF.dh 21 [.tmp 2] Tryz.func171 ?_;rcases(show c.toNat<65\/(65<=c.toNat/\c.toNat<=90)\/(90<c.toNat/\c.toNat<97/\c.toNat≠95)\/c.toNat=95\/(97<=c.toNat/\c.toNat<=122)\/122<c.toNat from by omega)with h | h | h | h | h | h
 ·rw[show lg c=false by simp[lg];omega];exact dq @fz @aG
 ·rw[show lg c=true by simp[lg];omega];exact dq @fz @aG
 ·rw[show lg c=false by simp[lg];omega];exact dq @fz @aG
 ·rw[show lg c=true by simp[lg];omega];exact dq @fz @aG
 ·rw[show lg c=true by simp[lg];omega];exact dq @fz @aG
 ·rw[show lg c=false by simp[lg];omega];exact dq @fz @aG
def ju (c:UInt8):Bool:=lg c||pr c||HF c
theorem HG (c:UInt8) (O:VH):VF Tryz.prog 143 [fB c] O (aH fun m O'=>m=mb (ju c)/\O'=O):=by
 have hc:=c.toNat_lt;refine VF.dh 21 [.tmp 2] Tryz.func143 ?_;refine ae @fz ?_;refine ah.rt (Et c _) ?_;rintro _ O2 ⟨rfl,rfl⟩;cases h1:lg c
 ·refine ae @fz ?_;refine ah.rt (pw c _) ?_;rintro _ O2 ⟨rfl,rfl⟩;cases h2:pr c
  ·rcases(show c.toNat=46\/c.toNat=45\/c.toNat=58\/(c.toNat≠46/\c.toNat≠45/\c.toNat≠58)from by omega)with h | h | h | h
   ·rw[show ju c=true by simp[ju,h1,h2,HF,h]];exact dq @fz @aG
   ·rw[show ju c=true by simp[ju,h1,h2,HF,h]];exact dq @fz @aG
   ·rw[show ju c=true by simp[ju,h1,h2,HF,h]];exact dq @fz @aG
   ·rw[show ju c=false by simp[ju,h1,h2,HF,h]];exact dq @fz @aG
  ·rw[show ju c=true by simp[ju,h1,h2]];exact dq @fz @aG
 ·rw[show ju c=true by simp[ju,h1]];exact dq @fz @aG
theorem wc (c:UInt8) (O:VH):VF Tryz.prog 310 [fB c] O (aH fun m O'=>m=mb (mc c)/\O'=O):=by
 have hc:=c.toNat_lt;refine VF.dh 9 [.tmp 2] Tryz.func310 ?_;by_cases h:32<=c.toNat
 ·rw[show mc c=true by simp[mc];omega];exact dq @fz @aG
 ·refine ao @fz @aG ?_;refine ah.rt (py c _) ?_;rintro _ O2 ⟨rfl,rfl⟩;rw[show mc c=lG c by unfold mc lG;rw[decide_eq_decide];omega];exact dq @fz @aG
def jN (s:Bs):Nat:=if lg (s.headD 0)&& !s.isEmpty then(s.takeWhile ju).length else 0
theorem B8 (s:Bs):jN s<=s.length:=by
 unfold jN;split
 ·exact nN _ _
 ·exact Nat.zero_le _
theorem adC (s:Bs) (O:VH) (hs:s.length<=maxLen):VF Tryz.prog 312 [.str s] O (aH fun m O'=>m=mi (jN s)/\O'=O):=by
 refine VF.dh 13 [.tmp 2] Tryz.func312 ?_;cases s with
 | nil=>
   refine ao @fz (show(([]:List UInt8)==[])=true from rfl) ?_;rfl
 | cons c s=>
   refine aN @fz (show((c::s)==[])=false from rfl) @aeG ?_;refine ah.rt (Et c _) ?_;rintro _ O2 ⟨rfl,rfl⟩;cases h1:lg c
   ·refine ae @fz ?_;simp[jN,h1]
   ·rw[show jN (c::s)=((c::s).takeWhile ju).length by simp[jN,h1]];refine ae @fz ?_;refine ah.rt (Jb 143 ju (c::s) _ hs (fun c O=>HG c O) (by kernel_rfl)) ?_;rintro _ O2 ⟨rfl,rfl⟩;exact fp @fz
def lA (c:UInt8):Bool:=ju c&&decide (c.toNat≠58)
theorem VB (c:UInt8) (O:VH):VF Tryz.prog 110 [fB c] O (aH fun m O'=>m=mb (lA c)/\O'=O):=by
 have hc:=c.toNat_lt;refine VF.dh 9 [.tmp 2] Tryz.func110 ?_;refine ae @fz ?_;refine ah.rt (HG c _) ?_;rintro _ O2 ⟨rfl,rfl⟩;cases h1:ju c
 ·rw[show lA c=false by simp[lA,h1]];exact fp @fz
 ·by_cases h:c.toNat=58
  ·rw[show lA c=false by simp[lA,h]];exact dq @fz @aG
  ·rw[show lA c=true by simp[lA,h1,h]];exact dq @fz @aG
def eP (s:Bs):Bool:=s.all lA&&decide (1<=s.length)&&decide (s.length<=64)
theorem sE (s:Bs) (O:VH) (hs:s.length<=maxLen):VF Tryz.prog 83 [.str s] O (aH fun m O'=>m=mb (eP s)/\O.Ge O'):=by
 have hm:(s.length:Int)<=9223372036854775807:=by simp[maxLen]at hs;omega
 have wP:=VH.aX O (.cells (s.map fB));have zU:=(VH.Ge.refl O).push (.cells (s.map fB));refine VF.dh 24 [.tmp 2] Tryz.func83 ?_;refine ae @fz ?_;refine VL.bytes aa (el:=5) (l:=s) rfl rfl (by rw[T9];rfl) (by rw[tr];rfl) (by rw[T5];rfl) hs rfl fun cap h1 h2=>WL.sound aa ?_
 refine ae @fz ?_;refine WC.iG [8] [0,6,7] (fun j:Nat=>[mi j]) (fun j O'=>(O.push (.cells (s.map fB))).Ge O'/\j<=s.length/\(s.take j).all lA=true) (fun j=>s.length - j) (0) ?_ ?_
 ·exact⟨VH.Ge.refl _,Nat.zero_le _,rfl⟩
 rintro j O2 ⟨oI,hj,j8⟩;have wQ:=(oI.hp O.next (Nat.lt_succ_self _)).trans wP;by_cases h2:j<s.length
 ·have oQ:=List.getElem?_eq_getElem h2;have i_:(s.take (j+1)).all lA=lA s[j]:=by rw[cQ _ _ h2,List.all_append,j8];simp
  have fF:lA s[j]=false->eP s=false:=fun h=>by
   unfold eP;rw[List.all_eq_false.2 ⟨s[j],List.getElem_mem h2,by simp[h]⟩];rfl
  generalize s[j]=c at*;refine aN @fz @oQ @wQ ?_;refine ah.rt (VB c _) ?_;rintro _ O3 ⟨rfl,rfl⟩;cases hb:lA c
  ·rw[fF hb];refine ae @fz ?_;exact zU.trans oI
  ·refine ae @fz ?_;exact ay.next (j+1) ⟨oI,by omega,i_.trans hb⟩
 ·obtain rfl:j=s.length:=by omega
  rw[List.take_length]at j8;unfold eP;rw[j8];by_cases h0:1<=s.length
  ·by_cases Es:s.length<=64
   ·rw[decide_eq_true h0,decide_eq_true Es];refine ae @fz ?_;exact zU.trans oI
   ·rw[decide_eq_true h0,decide_eq_false Es];refine ae @fz ?_;exact zU.trans oI
  ·rw[decide_eq_false h0];refine ae @fz ?_;exact zU.trans oI
set_option linter.defProp false in
def ou:=And.intro fz<|And.intro AY<|And.intro B6 ZG
structure Gv where
 g:Bs
 a:Bs
 v:Bs
 deriving DecidableEq
def bN (x:Gv):List MV:=[.str x.g,.str x.a,.str x.v]
structure fI where
 g:Bs
 a:Bs
 deriving DecidableEq
def bP (x:fI):List MV:=[.str x.g,.str x.a]
structure Ky where
 g:Bs
 a:Bs
 t:Bs
 c:Bs
 deriving DecidableEq
def f_ (x:Ky):List MV:=[.str x.g,.str x.a,.str x.t,.str x.c]
def zV (x:Gv):Bool:=eP x.g&&eP x.a&&uP x.v
theorem VD (x:Gv) (O:VH) (h1:x.g.length<=maxLen) (h2:x.a.length<=maxLen) (h3:x.v.length<=maxLen):VF Tryz.prog 61 [.agg (bN x)] O (aH fun m O'=>m=mb (zV x)/\O.Ge O'):=by
 obtain⟨g,a,v⟩:=x;dsimp only at h1 h2 h3;unfold zV bN;dsimp only;have hk:=VH.aX O (.cells [.str g,.str a,.str v]);have kP:=(VH.Ge.refl O).push (.cells [.str g,.str a,.str v]);have hn0:O.next<(O.push (.cells [.str g,.str a,.str v])).next:=Nat.lt_succ_self _;refine VF.dh 16 [.tmp 2] Tryz.func61 ?_;refine ao @ou @hk ?_;generalize O.push (.cells [.str g,.str a,.str v])=O1 at*;refine ah.rt (sE g _ h1) ?_;rintro _ O2 ⟨rfl,aC⟩;have jB:=aC.next;cases eP g
 ·refine ae @ou ?_;exact kP.trans aC
 ·refine aN @ou @hk aC.hp ?_;refine ah.rt (sE a _ h2) ?_;rintro _ O3 ⟨rfl,aL⟩;have iH:=aL.next;cases eP a
  ·refine ae @ou ?_;exact kP.trans (aC.trans aL)
  ·refine cU @ou @hk aC.hp aL.hp ?_;refine ah.rt (Qo v _ h3) ?_;rintro _ O4 ⟨rfl,aZ⟩;refine ae @ou ?_;exact kP.trans (aC.trans (aL.trans aZ))
def we (s:Bs):Bool:=s==[42]||eP s
theorem HH (s:Bs) (O:VH) (hs:s.length<=maxLen):VF Tryz.prog 321 [.str s] O (aH fun m O'=>m=mb (we s)/\O.Ge O'):=by
 unfold we;refine VF.dh 9 [.tmp 2] Tryz.func321 ?_;cases h:s==[42]
 ·refine ao @ou @h ?_;refine ah.rt (sE s _ hs) ?_;rintro _ O2 ⟨rfl,aC⟩;refine ae @ou ?_;exact aC
 ·refine ao @ou @h ?_;exact VH.Ge.refl _
def zW (x:fI):Bool:=we x.g&&we x.a
theorem Gl (x:fI) (O:VH) (h1:x.g.length<=maxLen) (h2:x.a.length<=maxLen):VF Tryz.prog 317 [.agg (bP x)] O (aH fun m O'=>m=mb (zW x)/\O.Ge O'):=by
 obtain⟨g,a⟩:=x;dsimp only at h1 h2;unfold zW bP;dsimp only;have hk:=VH.aX O (.cells [.str g,.str a]);have kP:=(VH.Ge.refl O).push (.cells [.str g,.str a]);have hn0:O.next<(O.push (.cells [.str g,.str a])).next:=Nat.lt_succ_self _;refine VF.dh 11 [.tmp 2] Tryz.func317 ?_;refine ao @ou @hk ?_;generalize O.push (.cells [.str g,.str a])=O1 at*;refine ah.rt (HH g _ h1) ?_;rintro _ O2 ⟨rfl,aC⟩;have jB:=aC.next;cases we g
 ·refine ae @ou ?_;exact kP.trans aC
 ·refine aN @ou @hk aC.hp ?_;refine ah.rt (HH a _ h2) ?_;rintro _ O3 ⟨rfl,aL⟩;refine ae @ou ?_;exact kP.trans (aC.trans aL)
def B9 (p x:fI):Bool:=(p.g==[42]||p.g==x.g)&&(p.a==[42]||p.a==x.a)
theorem Qs (p x:fI) (O:VH):VF Tryz.prog 97 [.agg (bP p),.agg (bP x)] O (aH fun m O'=>m=mb (B9 p x)/\O.Ge O'):=by
 obtain⟨g,a⟩:=p;obtain⟨g',a'⟩:=x;unfold B9 bP;dsimp only;have kP:=((VH.Ge.refl O).push (.cells [.str g,.str a])).push (.cells [.str g',.str a']);refine VF.dh 27 [.tmp 4] Tryz.func97 ?_;cases h1:g==[42]<;>cases h2:g==g'<;>cases h3:a==[42]<;>cases h4:a==a'
 all_goals
  refine ia @ou @h1 @h2 @h3 @h4 ?_;exact kP
def eY (n:Int):Bs:=if n=1 then[99,111,109,112,105,108,101]else if n=2 then[114,117,110,116,105,109,101]else if n=3 then[112,114,111,118,105,100,101,100]else if n=4 then[115,121,115,116,101,109]else if n=5 then[116,101,115,116]else if n=6 then[105,109,112,111,114,116]else[]
theorem SE (n:Int) (O:VH):VF Tryz.prog 78 [mi n] O (aH fun m O'=>m= .str (eY n)/\O'=O):=by
 unfold eY;refine VF.dh 16 [.tmp 2] Tryz.func78 ?_;by_cases h1:n=1
 ·refine ae @ou ?_;simp[h1]
 by_cases h2:n=2
 ·refine ae @ou ?_;simp[h1,h2]
 by_cases h3:n=3
 ·refine ae @ou ?_;simp[h1,h2,h3]
 by_cases h4:n=4
 ·refine ae @ou ?_;simp[h1,h2,h3,h4]
 by_cases h5:n=5
 ·refine ae @ou ?_;simp[h1,h2,h3,h4,h5]
 by_cases h6:n=6
 ·refine ae @ou ?_;simp[h1,h2,h3,h4,h5,h6]
 rw[if_neg h1,if_neg h2,if_neg h3,if_neg h4,if_neg h5,if_neg h6];exact fp @ou
def L_ (o i:Int):Int:=if ¬(o=1\/o=2\/o=3\/o=5)then 0 else if i≠1/\i≠2 then 0 else if o=1 then i else o
theorem VE (o i:Int) (O:VH):VF Tryz.prog 129 [mi o,mi i] O (aH fun m O'=>m=mi (L_ o i)/\O'=O):=by
 refine VF.dh 23 [.tmp 4] Tryz.func129 ?_;rcases(show o=1\/o=2\/o=3\/o=5\/(o≠1/\o≠2/\o≠3/\o≠5)from by omega)with h | h | h | h | h
 rotate_right
 ·rw[show L_ o i=0 by simp[L_,h]];obtain⟨h1,h2,h3,h4⟩:=h;exact fp @ou
 all_goals
  subst h;rcases(show i=1\/i=2\/(i≠1/\i≠2)from by omega)with h | h | h
 all_goals
  refine ae @ou ?_;simp[L_,h]
def Tok.id:Tok->Option Nat
 | .own t _=>some t
 | _=>none
structure cA (tk:Tok) (O O':VH):Prop where
 next:O.next<=O'.next
 hp:∀i,i<O.next->Tok.id tk≠some i->O'.hp i=O.hp i
def Cy (O:VH) (tk tk':Tok):Prop:=tk'=tk\/∀i,Tok.id tk'=some i->O.next<=i
section
variable {O O0 O1 O2:VH} {tk t1 t2 w:Tok} {B sz:Nat}
theorem VH.Ge.k (h:O.Ge O1):cA tk O O1:=⟨h.next,fun i hi _=>h.hp i hi⟩
theorem cA.refl:cA tk O O:=⟨Nat.le_refl _,fun _ _ _=>rfl⟩
theorem Cy.refl:Cy O tk tk:=.inl rfl
theorem cA.trans (h:cA tk O O1) (hn:Cy O tk t1) (k:cA t1 O1 O2):cA tk O O2:=⟨Nat.le_trans h.next k.next,fun i hi hne=>by
 have:Tok.id t1≠some i:=fun e=>by
  rcases hn with rfl | hn
  ·exact hne e
  ·have:=hn i e;omega
 rw[k.hp i (Nat.lt_of_lt_of_le hi h.next) this,h.hp i hi hne]⟩
theorem cA.ge (h:cA tk O O1) (k:O1.Ge O2):cA tk O O2:=⟨Nat.le_trans h.next k.next,fun i hi hne=>by rw[k.hp i (Nat.lt_of_lt_of_le hi h.next),h.hp i hi hne]⟩
theorem cA.pre (h:O.Ge O1) (k:cA tk O1 O2):cA tk O O2:=⟨Nat.le_trans h.next k.next,fun i hi hne=>by rw[k.hp i (Nat.lt_of_lt_of_le hi h.next) hne,h.hp i hi]⟩
theorem Cy.trans (h:Cy O tk t1) (hle:O.next<=O1.next) (k:Cy O1 t1 t2):Cy O tk t2:=by
 rcases k with rfl | k
 ·exact h
 ·exact .inr fun i e=>Nat.le_trans hle (k i e)
theorem App.pB (h:App O B sz tk) {i:Nat} (e:Tok.id tk=some i):B<=i/\i<O.next:=by
 cases tk with
 | own t k=>injection e with e;subst e;exact h.2.2
 | _=>cases e
theorem cA.app (h:cA tk O O1) (hw:App O B sz w) (hne:∀i,Tok.id tk=some i->Tok.id w≠some i):App O1 B sz w:=by
 cases w with
 | own t j=>
   obtain⟨h1,h2,h3,h4⟩:=hw;refine⟨h1,?_,h3,Nat.lt_of_lt_of_le h4 h.next⟩;rw[h.hp t h4 (fun e=>hne t e rfl)];exact h2
 | nil=>trivial
 | full=>trivial
 | au=>exact hw.elim
theorem cA.after (h:App O B sz tk):cA tk O (O.after tk):=⟨by rw[VH.fi];omega,fun i hi hne=>by
 cases tk with
 | own t k=>exact(VH.bp (O.kill t) _ hi).trans (VH.kA _ (fun e=>hne (by rw[e];rfl)))
 | _=>exact VH.bp _ _ hi⟩
theorem Cy.after:Cy O tk (.own O.next sz):=.inr fun i e=>by injection e with e;omega
theorem cA.dS (hg:O0.Ge O) (ha:App O O0.next sz tk) (k:cA tk O O1):O0.Ge O1:=⟨Nat.le_trans hg.next k.next,fun i hi=>by
 rw[k.hp i (Nat.lt_of_lt_of_le hi hg.next) (fun e=>by have:=(ha.pB e).1;omega),hg.hp i hi]⟩
theorem cA.Cz (ha:App O O.next sz tk) (k:cA tk O O1):O.Ge O1:=cA.dS (VH.Ge.refl O) ha k
theorem App.ge (h:App O B sz tk) (k:O.Ge O1):App O1 B sz tk:=cA.app (tk:=.nil) (k.k) h (fun _ e=>by cases e)
theorem App.nil:App O B sz .nil:=trivial
end
theorem fS {tab:bV} {O:VH} {t el:TypeId} {u:TypeDesc} {a b sz X_:Nat} {z y:List MV} (h:tab t=some ⟨.slice el,a,b,z⟩) (h2:tab el=some ⟨u,sz,X_,y⟩) {B n:Nat} {cs ds es:List MV} {tk:Tok} (ha:App O B sz tk)
  (hc:cs.length=n*sz) (hd:ds.length=sz) (hl:ds.all dE=true) (hs:0<sz) (hb:(n+1)*X_<=140737488355328) (hm:n+1<=maxLen) (dP:cI cs=cs) (qO:cI ds=es):
  ∃m,ij tab O t (.sl n cs tk) (.sl 1 ds .full)=some (m,O.after tk)/\oH m= .sl (n+1) (cs++es) (.own O.next sz):=
 ⟨_,bg (tk':=.full) h h2 ha hc (by rw[hd,Nat.one_mul]) hl hs (by decide) hb hm,by rw[rG,mP,dP,qO]⟩
section
variable {P:Program} {n:Sz} {D:List Deferred} {c:Code} {e:Env} {O:VH} {Q:VQ} {z cs:List MV} {md:Md} {d:Option Tmp} {K:Env->VH->Prop} {fv:Option MV} {ms:Option (List MV)}
def pC (O:VH) (cs:List MV) (O3:VH):Prop:=O.Ge O3/\O3.hp O.next=some (.cells cs)/\O3.next=O.next+1
theorem pC.al:pC O cs ((O.push (.cells z)).set O.next (.cells cs)):=⟨((VH.Ge.refl O).push _).set (Nat.le_refl _) _,VH.an _ _ _,rfl⟩
theorem pC.bx:pC O cs (O.push (.cells cs)):=⟨(VH.Ge.refl O).push _,VH.aX _ _,rfl⟩
theorem VC.al (h:∀O3,pC O cs O3->VC P n D c e O3 Q):VC P n D c e ((O.push (.cells z)).set O.next (.cells cs)) Q:=h _ pC.al
theorem VC.bx (h:∀O3,pC O cs O3->VC P n D c e O3 Q):VC P n D c e (O.push (.cells cs)) Q:=h _ pC.bx
theorem ah.bx (h:∀O3,pC O cs O3->ah P n md Q d O3 K e fv ms):ah P n md Q d (O.push (.cells cs)) K e fv ms:=h _ pC.bx
end
theorem List.pD {α :Type} {a b:List α} {k n:Nat} (h:a.length=k):(a++b).drop (k+n)=b.drop n:=by
 rw[<-h, <-List.drop_drop,List.drop_left]
theorem aJ {α :Type} {f: α ->List MV} {k:Nat} (hf:∀x,(f x).length=k) (L:List α):(L.flatMap f).length=L.length*k:=by
 induction L with
 | nil=>simp
 | cons x L ih=>rw[List.flatMap_cons,List.length_append,ih,hf,List.length_cons,Nat.succ_mul,Nat.add_comm]
theorem bB {α :Type} {f: α ->List MV} {k:Nat} (hf:∀x,(f x).length=k):∀(L:List α) (i:Nat) (h:i<L.length),((L.flatMap f).drop (i*k)).take k=f L[i]
 | x::L,0,_=>by rw[Nat.zero_mul,List.drop_zero,List.flatMap_cons,List.take_left' (hf x)];rfl
 | x::L,i+1,h=>by
   have:=bB hf L i (by simpa using h);rw[List.flatMap_cons,Nat.succ_mul,Nat.add_comm,List.pD (hf x)];exact this
inductive Nd where
 | mk (name:Bs) (attrs:List (Bs×Bs)) (kids:List Nd) (text:Bs)
def a_ (x:Bs×Bs):List MV:=[.str x.1,.str x.2]
mutual
def c_:Nd->List MV
 | .mk n a k t=>[.str n,.sl a.length (a.flatMap a_) .au,.sl k.length (aB k) .au,.str t]
def aB:List Nd->List MV
 | []=>[]
 | x::r=>c_ x++aB r
end
theorem dU (L M:List Nd):aB (L++M)=aB L++aB M:=by
 induction L with
 | nil=>rw[List.nil_append,aB,List.nil_append]
 | cons x L ih=>rw[List.cons_append,aB,aB,ih,List.append_assoc]
theorem lH (x:Nd):(c_ x).length=4:=by cases x;rw[c_];rfl
theorem cR (L:List Nd):(aB L).length=L.length*4:=by
 induction L with
 | nil=>rw[aB];rfl
 | cons x L ih=>rw[aB,List.length_append,lH,ih,List.length_cons];omega
theorem eZ (x:Bs×Bs):(a_ x).length=2:=rfl
theorem mQ (x:fI):(bP x).length=2:=rfl
theorem fT (L:List (Bs×Bs)):cI (L.flatMap a_)=L.flatMap a_:=kD (fun x=>by simp only[a_,wu]) L
mutual
theorem zX:∀x,cI (c_ x)=c_ x
 | .mk n a k t=>by
   simp only[c_,wu,fT];rw[eK k]
theorem eK:∀L,cI (aB L)=aB L
 | []=>by rw[aB,Hz]
 | x::r=>by rw[aB,mP,zX x,eK r]
end
structure Dp where
 g:Bs
 a:Bs
 v:Bs
 t:Bs
 c:Bs
 s:Int
 o:Int
 x:List fI
 deriving DecidableEq
def aQ (d:Dp):List MV:=[.str d.g,.str d.a,.str d.v,.str d.t,.str d.c,mi d.s,mi d.o,.sl d.x.length (d.x.flatMap bP) .au]
theorem gd (x:Dp):(aQ x).length=8:=rfl
structure Pm where
 hp:Bool
 par:Gv
 g:Bs
 a:Bs
 v:Bs
 pk:Bs
 props:List (Bs×Bs)
 eg:List Dp
 dX:List Dp
 deriving DecidableEq
def gh (p:Pm):List MV:=[mb p.hp,.str p.par.g,.str p.par.a,.str p.par.v,.str p.g,.str p.a,.str p.v,.str p.pk,.sl p.props.length (p.props.flatMap a_) .au,.sl p.eg.length (p.eg.flatMap aQ) .au,.sl p.dX.length (p.dX.flatMap aQ) .au]
theorem mR (L:List fI):cI (L.flatMap bP)=L.flatMap bP:=kD (fun x=>by simp only[bP,wu]) L
theorem kQ (L:List Dp):cI (L.flatMap aQ)=L.flatMap aQ:=kD (fun x=>by simp only[aQ,ar,wu,mR]) L
theorem VG (p:Pm):cI (gh p)=gh p:=by simp only[gh,aY,wu,fT,kQ]
set_option linter.defProp false in
def fX:=And.intro ou<|And.intro tq<|And.intro nU<|And.intro AX<|And.intro uO<|And.intro Em aeJ
def eE (O:VH) (B sz:Nat) (tk:Tok) (O':VH) (tk':Tok):Prop:=cA tk O O'/\App O' B sz tk'/\Cy O tk tk'
theorem eE.refl {O:VH} {B sz:Nat} {tk:Tok} (h:App O B sz tk):eE O B sz tk O tk:=⟨cA.refl,h,Cy.refl⟩
theorem eE.trans {O O1 O2:VH} {B sz:Nat} {tk t1 t2:Tok} (h:eE O B sz tk O1 t1) (k:eE O1 B sz t1 O2 t2):eE O B sz tk O2 t2:=
 ⟨h.1.trans h.2.2 k.1,k.2.1,h.2.2.trans h.1.next k.2.2⟩
theorem eE.after {O:VH} {B sz:Nat} {tk:Tok} (h:App O B sz tk) (hB:B<=O.next):eE O B sz tk (O.after tk) (.own O.next sz):=⟨cA.after h,App.after hB,Cy.after⟩
theorem eE.ge {O O1 O2:VH} {B sz:Nat} {tk t1:Tok} (h:eE O B sz tk O1 t1) (k:O1.Ge O2):eE O B sz tk O2 t1:=⟨h.1.ge k,h.2.1.ge k,h.2.2⟩
theorem eE.pre {O O1 O2:VH} {B sz:Nat} {tk t1:Tok} (g:O.Ge O1) (h:eE O1 B sz tk O2 t1):eE O B sz tk O2 t1:=⟨cA.pre g h.1,h.2.1,h.2.2.elim .inl fun k=>.inr fun i e=>Nat.le_trans g.next (k i e)⟩
theorem eE.dS {O O1:VH} {sz:Nat} {tk t1:Tok} (ha:App O O.next sz tk) (h:eE O O.next sz tk O1 t1):O.Ge O1:=cA.Cz ha h.1
theorem App.less {O:VH} {B B' sz:Nat} {tk:Tok} (h:App O B sz tk) (hB:B'<=B):App O B' sz tk:=by
 cases tk with
 | own t k=>exact⟨h.1,h.2.1,Nat.le_trans hB h.2.2.1,h.2.2.2⟩
 | nil=>trivial
 | full=>trivial
 | au=>exact h.elim
theorem App.set {O:VH} {B sz k:Nat} {tk:Tok} {x:bW} {cs:List MV} (h:App O B sz tk) (hk:O.hp k=some (.cells cs)):App (O.set k x) B sz tk:=by
 cases tk with
 | own t j=>exact⟨h.1,(VH.ak _ _ (fun e=>by subst e;rw[h.2.1]at hk;cases hk)).trans h.2.1,h.2.2.1,h.2.2.2⟩
 | nil=>trivial
 | full=>trivial
 | au=>exact h.elim
theorem eE.fresh {O O1 O2:VH} {sz:Nat} {t1:Tok} (g:O.Ge O1) (h:eE O1 O1.next sz .nil O2 t1):eE O O.next sz .nil O2 t1:=
 ⟨cA.pre g h.1,h.2.1.less g.next,h.2.2.elim .inl fun k=>.inr fun i e=>Nat.le_trans g.next (k i e)⟩
def bS (L:List Nd) (n t:Bs):List Nd:=if t=[]then L else L++[.mk n [] [.mk [] [] [] t] []]
theorem db (L:List Nd) (n t:Bs):(bS L n t).length<=L.length+1:=by unfold bS;split<;>simp
theorem fU {O:VH} {B:Nat} (L:List Nd) (tk:Tok) (n t:Bs) (ha:App O B 4 tk) (hB:B<=O.next) (hL:L.length<=100000):VF Tryz.prog 70 [.sl L.length (aB L) tk,.str n,.str t] O (aH fun m O'=>∃tk',m= .sl (bS L n t).length (aB (bS L n t)) tk'/\eE O B 4 tk O' tk'):=by
 refine VF.fg ?_;refine VF.dh 18 [.tmp 6] Tryz.func70 ?_;unfold bS;cases t with
 | nil=>
   refine aN @fX (show(([]:List UInt8)==[])=true from rfl) @eK ?_;exact⟨tk,rfl,eE.refl ha⟩
 | cons c t=>
   refine ao @fX (show((c::t)==[])=false from rfl) ?_;have cB:=bg (tk':=.full) (n:=L.length) (k:=1) (cs:=aB L) (ds:=[.str n,.sl 0 [] .nil,.sl 1 [.str [],.sl 0 [] .nil,.sl 0 [] .nil,.str (c::t)] .full,.str []]) nU tq.1.1 ha (cR L) rfl rfl (by decide) (by decide) (by omega) (by simp only[maxLen];omega);refine VL.app cB ?_;refine ao @fX @eK ?_;rw[if_neg (by simp)];refine⟨_,?_,eE.after ha hB⟩;rw[dU];simp only[aB,c_,List.flatMap_nil,List.append_nil,List.length_append,List.length_cons,List.length_nil,Nat.zero_add]
def jC (L:List Nd) (n:Bs) (K:List Nd):List Nd:=if K=[]then L else L++[.mk n [] K []]
theorem pE (L:List Nd) (n:Bs) (K:List Nd):(jC L n K).length<=L.length+1:=by unfold jC;split<;>simp
theorem rJ {O:VH} {B:Nat} (L:List Nd) (tk:Tok) (n:Bs) (K:List Nd) (tK:Tok) (ha:App O B 4 tk) (hB:B<=O.next) (hL:L.length<=100000) (hK:K.length<=100000):VF Tryz.prog 69 [.sl L.length (aB L) tk,.str n,.sl K.length (aB K) tK] O (aH fun m O'=>∃tk',m= .sl (jC L n K).length (aB (jC L n K)) tk'/\eE O B 4 tk O' tk'):=by
 refine VF.fg ?_;refine VF.dh 17 [.tmp 6] Tryz.func69 ?_;unfold jC;by_cases h:K=[]
 ·subst h;refine aN @fX @eK @List.length_nil.{0} ?_;exact⟨tk,rfl,eE.refl ha⟩
 ·have h0:0<K.length:=List.length_pos_iff.2 h;refine ae @fX ?_;have cB:=bg (tk':=.full) (n:=L.length) (k:=1) (cs:=aB L) (ds:=[.str n,.sl 0 [] .nil,.sl K.length (aB K) tK,.str []]) nU tq.1.1 ha (cR L) rfl rfl (by decide) (by decide) (by omega) (by simp only[maxLen];omega);refine VL.app cB ?_;refine ao @fX @eK ?_;rw[if_neg h];refine⟨_,?_,eE.after ha hB⟩;rw[dU];simp only[aB,c_,List.flatMap_nil,List.append_nil,List.length_append,List.length_cons,List.length_nil,Nat.zero_add]
abbrev dQ:Bs:=[103,114,111,117,112,73,100]
abbrev dF:Bs:=[97,114,116,105,102,97,99,116,73,100]
abbrev fj:Bs:=[118,101,114,115,105,111,110]
abbrev zY:Bs:=[116,121,112,101]
abbrev zZ:Bs:=[99,108,97,115,115,105,102,105,101,114]
abbrev qu:Bs:=[115,99,111,112,101]
abbrev me:Bs:=[111,112,116,105,111,110,97,108]
abbrev jY:Bs:=[116,114,117,101]
abbrev kR:Bs:=[102,97,108,115,101]
abbrev tA:Bs:=[101,120,99,108,117,115,105,111,110]
abbrev lB:Bs:=[101,120,99,108,117,115,105,111,110,115]
abbrev lh:Bs:=[100,101,112,101,110,100,101,110,99,121]
abbrev lC:Bs:=[100,101,112,101,110,100,101,110,99,105,101,115]
def gC (i:fI):Nd:=.mk tA [] (bS (bS [] dQ i.g) dF i.a) []
def xU (d:Dp):List Nd:=
 let k:=bS (bS (bS (bS (bS (bS [] dQ d.g) dF d.a) fj d.v) zY d.t) zZ d.c) qu (eY d.s)
 if d.o=1 then bS k me jY else if d.o=2 then bS k me kR else k
def eQ (d:Dp):Nd:=.mk lh [] (jC (xU d) lB (d.x.map gC)) []
def nO (L:List Nd) (D:List Dp):List Nd:=jC L lC (D.map eQ)
theorem z6 {O:VH} {B:Nat} (L:List Nd) (tl:Tok) (D:List Dp) (tD:Tok) (ha:App O B 4 tl) (hB:B<=O.next) (hL:L.length<=10000) (hD:D.length<=10000) (hx:∀d∈D,d.x.length<=10000):VF Tryz.prog 71 [.sl L.length (aB L) tl,.sl D.length (D.flatMap aQ) tD] O (aH fun m O'=>∃tk',m= .sl (nO L D).length (aB (nO L D)) tk'/\eE O B 4 tl O' tk'):=by
 refine VF.fg ?_;have hlen:=aJ gd D;refine VF.bL 82 [.tmp 4] Tryz.func71 ?_;refine VC.ag aa (ae @fX ?_);refine VC.ag aa (ae @fX ?_);refine VC.join aa [0,5] (fun tk:Tok=>[.sl L.length (aB L) tl,.sl (D.map eQ).length (aB (D.map eQ)) tk]) (fun tk O'=>O.Ge O') ?_ ?_;rotate_left
 ·intro tk O9 bk;refine ae @fX ?_;refine ah.rt (rJ L tl lC (D.map eQ) tk (ha.ge bk) (Nat.le_trans hB bk.next) (by omega) (by rw[List.length_map];omega)) ?_;rintro _ Oz ⟨tz,rfl,gz⟩;refine ao @fX @eK ?_;exact⟨tz,rfl,eE.pre bk gz⟩
 refine VC.ag aa (ae @fX ?_);refine VC.az ?_;refine VC.bq [5,14] [0,12,13] (fun x:Nat×Tok=>[.sl ((D.take x.1).map eQ).length (aB ((D.take x.1).map eQ)) x.2,mi x.1]) (fun x O'=>O.Ge O'/\App O' O.next 4 x.2/\x.1<=D.length) (fun x=>D.length - x.1) ((0,.nil)) ?_ ?_
 ·exact⟨VH.Ge.refl _,trivial,Nat.zero_le _⟩
 rintro⟨j,ta⟩ O2 ⟨aC,cB,hj⟩;dsimp only at cB hj ⊢;by_cases h2:j<D.length;rotate_left
 ·obtain rfl:j=D.length:=by omega
  rw[List.take_length];refine WC.sound aa (ae @fX ?_);exact aA.mk ta aC
 have br:=bB gd D j h2;have i_:(D.take (j+1)).map eQ=(D.take j).map eQ++[eQ D[j]]:=by rw[cQ _ _ h2,List.map_append];rfl
 have CA:=hx D[j] (List.getElem_mem h2);have hAl:((D.take j).map eQ).length<=10000:=by rw[List.length_map,List.length_take];omega
 generalize D[j]=d at*;generalize (D.take j).map eQ=A at*;obtain⟨g,a,v,t,c,s,o,X⟩:=d;dsimp only at CA;simp only[aQ]at br;refine VC.ag aa (ae @fX ?_);refine VC.ag aa (ae @fX ?_);refine VC.bj (VC.az ?_);refine VC.ag aa (ao @fX @br ?_);refine VC.al ?_;rintro O3 ⟨aL,hk,iH⟩;have h0:eE O3 O3.next 4 .nil O3 .nil:=eE.refl App.nil;refine VC.ag aa (ae @fX ?_);refine VC.ag aa (ao @fX @hk ?_);refine ah.rt (fU [] _ dQ g h0.2.1 h0.1.next (by first | omega | simp)) ?_;rintro _ OA ⟨t1,rfl,gw⟩;have h1:=h0.trans gw;have l1:=db [] dQ g;clear gw;generalize eK1:bS [] dQ g=K1 at*;have ik:=(eE.dS App.nil h1).hp;have hn:=h1.1.next;try simp only[List.length_nil]at l1
 refine ae @fX ?_;refine VC.ag aa (aN @fX @hk @ik ?_);refine ah.rt (fU K1 _ dF a h1.2.1 h1.1.next (by first | omega | simp)) ?_;rintro _ OB ⟨t2,rfl,gw⟩;have ZO:=h1.trans gw;have l2:=db K1 dF a;clear gw;generalize eK2:bS K1 dF a=K2 at*;have ik:=(eE.dS App.nil ZO).hp;have hn:=ZO.1.next;try simp only[List.length_nil]at l2
 refine ae @fX ?_;refine VC.ag aa (aN @fX @hk @ik ?_);refine ah.rt (fU K2 _ fj v ZO.2.1 ZO.1.next (by first | omega | simp)) ?_;rintro _ OC ⟨t3,rfl,gw⟩;have h3:=ZO.trans gw;have l3:=db K2 fj v;clear gw;generalize eK3:bS K2 fj v=K3 at*;have ik:=(eE.dS App.nil h3).hp;have hn:=h3.1.next;try simp only[List.length_nil]at l3
 refine ae @fX ?_;refine VC.ag aa (aN @fX @hk @ik ?_);refine ah.rt (fU K3 _ zY t h3.2.1 h3.1.next (by first | omega | simp)) ?_;rintro _ OD ⟨t4,rfl,gw⟩;have h4:=h3.trans gw;have l4:=db K3 zY t;clear gw;generalize eK4:bS K3 zY t=K4 at*;have ik:=(eE.dS App.nil h4).hp;have hn:=h4.1.next;try simp only[List.length_nil]at l4
 refine ae @fX ?_;refine VC.ag aa (aN @fX @hk @ik ?_);refine ah.rt (fU K4 _ zZ c h4.2.1 h4.1.next (by first | omega | simp)) ?_;rintro _ OE ⟨t5,rfl,gw⟩;have h5:=h4.trans gw;have l5:=db K4 zZ c;clear gw;generalize eK5:bS K4 zZ c=K5 at*;have ik:=(eE.dS App.nil h5).hp;have hn:=h5.1.next;try simp only[List.length_nil]at l5
 refine ae @fX ?_;refine VC.ag aa (aN @fX @hk @ik ?_);refine ah.rt (SE s _) ?_;rintro _ OF ⟨rfl,rfl⟩;refine ae @fX ?_;refine ah.rt (fU K5 _ qu (eY s) h5.2.1 h5.1.next (by first | omega | simp)) ?_;rintro _ OG ⟨t6,rfl,gw⟩;have h6:=h5.trans gw;have l6:=db K5 qu (eY s);clear gw;generalize eK6:bS K5 qu (eY s)=K6 at*;have ik:=(eE.dS App.nil h6).hp;have hn:=h6.1.next;try simp only[List.length_nil]at l6
 refine ae @fX ?_;have hK:xU ⟨g,a,v,t,c,s,o,X⟩=if o=1 then bS K6 me jY else if o=2 then bS K6 me kR else K6:=by rw[<-eK6, <-eK5, <-eK4, <-eK3, <-eK2, <-eK1];rfl
 clear eK6 eK5 eK4 eK3 eK2 eK1;have hl7:=db K6 me jY;have Jf:=db K6 me kR;refine VC.join aa [0,5,7,8,9,12,13,14] (fun tk:Tok=>[.sl L.length (aB L) tl,.sl A.length (aB A) ta,.ptr O2.next 0,.sl (xU ⟨g,a,v,t,c,s,o,X⟩).length (aB (xU ⟨g,a,v,t,c,s,o,X⟩)) tk,.sl 0 [] .nil,.sl D.length (D.flatMap aQ) tD,mi D.length,mi j]) (fun tk O'=>eE O3 O3.next 4 .nil O' tk) ?_ ?_
 ·refine VC.ag aa (aN @fX @hk @ik ?_);refine VC.az ?_;by_cases ZP:o=1
  ·rw[hK,if_pos ZP];refine WC.sound aa (ae @fX ?_);refine ah.rt (fU K6 _ me jY h6.2.1 h6.1.next (by first | omega | simp)) ?_;rintro _ OH ⟨t7,rfl,gw⟩;have h7:=h6.trans gw;have l7:=db K6 me jY;clear gw;generalize eK7:bS K6 me jY=K7 at*;have ik:=(eE.dS App.nil h7).hp;have hn:=h7.1.next;try simp only[List.length_nil]at l7
   refine ae @fX ?_;exact aA.mk t7 h7
  ·rw[hK,if_neg ZP];by_cases ZQ:o=2
   ·rw[if_pos ZQ];refine WC.sound aa (ae @fX ?_);refine ah.rt (fU K6 _ me kR h6.2.1 h6.1.next (by first | omega | simp)) ?_;rintro _ OH ⟨t7,rfl,gw⟩;have h7:=h6.trans gw;have l7:=db K6 me kR;clear gw;generalize eK7:bS K6 me kR=K7 at*;have ik:=(eE.dS App.nil h7).hp;have hn:=h7.1.next;try simp only[List.length_nil]at l7
    refine ae @fX ?_;exact aA.mk t7 h7
   ·rw[if_neg ZQ];refine WC.sound aa (ae @fX ?_);exact aA.mk t6 h6
 have hKl:(xU ⟨g,a,v,t,c,s,o,X⟩).length<=7:=by rw[hK];split<;>first | omega | (split<;>omega)
 intro tk O4 h7;generalize hKd:xU ⟨g,a,v,t,c,s,o,X⟩=K at*;clear hK hl7 Jf h6 ik hn;have ik:=(eE.dS App.nil h7).hp;have hn:=h7.1.next;refine aN @fX @hk @ik ?_;refine VC.agB [0,5,8,9,12,13,14] (fun tx:Tok=>[.sl L.length (aB L) tl,.sl A.length (aB A) ta,.sl K.length (aB K) tk,.sl (X.map gC).length (aB (X.map gC)) tx,.sl D.length (D.flatMap aQ) tD,mi D.length,mi j]) (fun tx O'=>O4.Ge O') ?_ ?_
 ·have Jg:=aJ mQ X;refine WC.iG [9,56] [0,5,8,12,13,14,54,55] (fun x:Nat×Tok=>[.sl ((X.take x.1).map gC).length (aB ((X.take x.1).map gC)) x.2,mi x.1]) (fun x O'=>O4.Ge O'/\App O' O4.next 4 x.2/\x.1<=X.length) (fun x=>X.length - x.1) ((0,.nil)) ?_ ?_
  ·exact⟨VH.Ge.refl _,trivial,Nat.zero_le _⟩
  rintro⟨i,tx⟩ O5 ⟨bz,oo,hi⟩;dsimp only at oo hi ⊢;by_cases jJ:i<X.length;rotate_left
  ·obtain rfl:i=X.length:=by omega
   rw[List.take_length];refine ae @fX ?_;exact aA.mk tx bz
  have hxt:=bB mQ X i jJ;have hsx:(X.take (i+1)).map gC=(X.take i).map gC++[gC X[i]]:=by rw[cQ _ _ jJ,List.map_append];rfl
  have Gm:((X.take i).map gC).length<=10000:=by rw[List.length_map,List.length_take];omega
  generalize X[i]=y at*;generalize (X.take i).map gC=E at*;obtain⟨yg,ya⟩:=y;simp only[bP]at hxt;refine ao @fX @hxt ?_;refine VC.al ?_;rintro O6 ⟨dL,mA,lS⟩;refine VC.nB [9,10] ?_;refine ab.aw 0 ?_;refine ae @fX ?_;refine ab.aw 1 ?_;refine ae @fX ?_;refine ab.aw 4 ?_;refine ae @fX ?_;refine ab.ld (m:=.str yg) 2 ?_ ?_
  ·exact dq @fX @mA
  simp only[aj];refine ab.ld (m:=.str ya) 5 ?_ ?_
  ·exact dq @fX @mA
  simp only[aj];refine ab.call (i:=3) (fU [] .nil dQ yg (App.nil (B:=O6.next)) (Nat.le_refl _) (by simp)) ?_;rintro _ O7 ⟨t7,rfl,g7⟩;simp only[aj];have l7:=db [] dQ yg;generalize e7:bS [] dQ yg=E1 at*;simp only[List.length_nil]at l7;refine⟨eE.dS App.nil g7,?_⟩;refine ab.call (i:=6) (fU E1 t7 dF ya g7.2.1 g7.1.next (by omega)) ?_;rintro _ O8 ⟨t8,rfl,g8⟩;simp only[aj];have l8:=db E1 dF ya;have he:gC ⟨yg,ya⟩= .mk tA [] (bS E1 dF ya) []:=by rw[<-e7];rfl
  generalize bS E1 dF ya=E2 at*;have h8:=eE.dS App.nil (g7.trans g8);refine⟨h8,?_⟩;refine ab.aw 7 ?_;refine ae @fX ?_;refine ab.op (i:=8) ?_;refine ae @fX ?_;refine⟨h8,?_⟩;refine ab.bH [(9,.one),(10,.aw)] ?_;have gY:=dL.trans h8;have ZR:=oo.ge gY;refine ae @fX ?_;obtain⟨mE,gj,kS⟩:=fS (n:=E.length) (cs:=aB E) (ds:=[.str tA,.sl 0 [] .nil,.sl E2.length (aB E2) t8,.str []]) (es:=c_ (gC ⟨yg,ya⟩)) nU tq.1.1 ZR (cR E) rfl rfl (by decide) (by omega) (by simp only[maxLen];omega) (eK E) (by rw[he];simp only[wu,eK,c_];rfl);refine VL.k_ gj kS ?_;refine ae @fX ?_;exact ay.next (i+1,.own O8.next 4) ⟨cA.dS (bz.trans gY) ZR (cA.after ZR),App.after (Nat.le_trans bz.next gY.next),jJ⟩ (hl:=(by dsimp only;rw[hsx,dU,List.length_append,aB,aB,List.append_nil];rfl))
 intro tx O5 bz;have h5:=h7.ge bz;refine ae @fX ?_;refine ah.rt (rJ K tk lB (X.map gC) tx h5.2.1 h5.1.next (by omega) (by rw[List.length_map];omega)) ?_;rintro _ O6 ⟨tb,rfl,g6⟩;have h6:=h5.trans g6;have uQ:=pE K lB (X.map gC);have F4:eQ ⟨g,a,v,t,c,s,o,X⟩= .mk lh [] (jC K lB (X.map gC)) []:=by rw[<-hKd];rfl
 generalize jC K lB (X.map gC)=K9 at*;have ZS:=aL.trans (eE.dS App.nil h6);have nV:=cB.ge ZS;refine ae @fX ?_;obtain⟨mE,gj,kS⟩:=fS (n:=A.length) (cs:=aB A) (ds:=[.str lh,.sl 0 [] .nil,.sl K9.length (aB K9) tb,.str []]) (es:=c_ (eQ ⟨g,a,v,t,c,s,o,X⟩)) nU tq.1.1 nV (cR A) rfl rfl (by decide) (by omega) (by simp only[maxLen];omega) (eK A) (by rw[F4];simp only[wu,eK,c_];rfl);refine VL.k_ gj kS ?_;refine ae @fX ?_;refine WC.sound aa (ae @fX ?_);exact ay.next (j+1,.own O6.next 4) ⟨cA.dS (aC.trans ZS) nV (cA.after nV),App.after (Nat.le_trans aC.next ZS.next),h2⟩ (hl:=(by dsimp only;rw[i_,dU,List.length_append,aB,aB,List.append_nil];rfl))
set_option linter.defProp false in
def dG:=And.intro fX<|And.intro LX<|And.intro zQ B7
abbrev uR:Bs:=[112,97,114,101,110,116]
abbrev xg:Bs:=[112,97,99,107,97,103,105,110,103]
abbrev kT:Bs:=[112,114,111,112,101,114,116,105,101,115]
abbrev rK:Bs:=[100,101,112,101,110,100,101,110,99,121,77,97,110,97,103,101,109,101,110,116]
abbrev gq:Bs:=[112,114,111,106,101,99,116]
def Eu (p:Pm):List Nd:=if p.hp then jC [] uR (bS (bS (bS [] dQ p.par.g) dF p.par.a) fj p.par.v)else[]
def Jh (p:Pm):List Nd:=bS (bS (bS (bS (Eu p) dQ p.g) dF p.a) fj p.v) xg p.pk
def gW (x:Bs×Bs):Nd:=.mk x.1 [] (if x.2=[]then[]else[.mk [] [] [] x.2]) []
def fw (p:Pm):Nd:=.mk gq [] (nO (jC (jC (Jh p) kT (p.props.map gW)) rK (nO [] p.eg)) p.dX) []
theorem Ma (L:List Nd) (D:List Dp):(nO L D).length<=L.length+1:=pE _ _ _
theorem ZT {O:VH} (p:Pm) (hP:p.props.length<=10000) (hM:p.eg.length<=10000) (hD:p.dX.length<=10000) (hx:∀d∈p.eg++p.dX,d.x.length<=10000):VF Tryz.prog 49 [.agg (gh p)] O (aH fun m O'=>m= .agg (c_ (fw p))/\O.Ge O'):=by
 refine VF.fg ?_;obtain⟨hp,⟨pg,pa,pv⟩,g,a,v,pk,P,M,D⟩:=p;dsimp only at hP hM hD hx;have hPl:=aJ eZ P;simp only[gh];refine VF.bL 76 [.cell 2 112] Tryz.func49 ?_;refine VC.ag aa (ae @dG ?_);refine VC.bx ?_;rintro O1 ⟨aU,bt,du⟩;have hk:O1.hp O.next=some (.cells [mb hp,.str pg,.str pa,.str pv,.str g,.str a,.str v,.str pk,.sl P.length (P.flatMap a_) .au,.sl M.length (M.flatMap aQ) .au,.sl D.length (D.flatMap aQ) .au]):=(aU.hp _ (Nat.lt_succ_self _)).trans (VH.aX _ _)
 replace bt:O1.hp (O.next+1)=some (.cells [.str [],.sl 0 [] .nil,.sl 0 [] .nil,.str []]):=bt
 have lI:=((VH.Ge.refl O).push _).trans aU;have hn0:O1.next=O.next+2:=du;simp only[aY]at hk;clear aU du;have h0:eE O1 O1.next 4 .nil O1 .nil:=eE.refl App.nil;refine VC.ag aa (ae @dG ?_);have dK:(Eu ⟨hp,⟨pg,pa,pv⟩,g,a,v,pk,P,M,D⟩).length<=1:=by unfold Eu;split;exact pE _ _ _;simp
 have hh:Jh ⟨hp,⟨pg,pa,pv⟩,g,a,v,pk,P,M,D⟩=bS (bS (bS (bS (Eu ⟨hp,⟨pg,pa,pv⟩,g,a,v,pk,P,M,D⟩) dQ g) dF a) fj v) xg pk:=rfl;have hw:fw ⟨hp,⟨pg,pa,pv⟩,g,a,v,pk,P,M,D⟩= .mk gq [] (nO (jC (jC (Jh ⟨hp,⟨pg,pa,pv⟩,g,a,v,pk,P,M,D⟩) kT (P.map gW)) rK (nO [] M)) D) []:=rfl;have hpp:Eu ⟨hp,⟨pg,pa,pv⟩,g,a,v,pk,P,M,D⟩=if hp then jC [] uR (bS (bS (bS [] dQ pg) dF pa) fj pv)else[]:=rfl
 rw[hh]at hw;clear hh;generalize fw ⟨hp,⟨pg,pa,pv⟩,g,a,v,pk,P,M,D⟩=W at*;generalize Eu ⟨hp,⟨pg,pa,pv⟩,g,a,v,pk,P,M,D⟩=K0 at*;refine VC.bu [1,2,3,4] (fun tk:Tok=>[.ptr O.next 0,.ptr (O.next+1) 0,.sl K0.length (aB K0) tk,.sl 0 [] .nil]) (fun tk O'=>eE O1 O1.next 4 .nil O' tk) ?_ ?_
 ·cases hp
  ·refine VC.ag aa (ao @dG @hk ?_);rw[hpp];refine WC.sound aa (ae @dG ?_);exact aA.mk .nil h0
  ·refine VC.ag aa (ao @dG @hk ?_);rw[hpp];refine WC.sound aa (ae @dG ?_);refine VC.nB [] ?_;refine ab.aw 0 ?_;refine ae @dG ?_;refine ab.aw 1 ?_;refine ae @dG ?_;refine ab.aw 2 ?_;refine ae @dG ?_;refine ab.ld (m:=.str pg) 3 ?_ ?_
   ·exact dq @dG @hk
   simp only[aj];refine ab.aw 5 ?_;refine ae @dG ?_;refine ab.aw 6 ?_;refine ae @dG ?_;refine ab.ld (m:=.str pa) 7 ?_ ?_
   ·exact dq @dG @hk
   simp only[aj];refine ab.aw 9 ?_;refine ae @dG ?_;refine ab.aw 10 ?_;refine ae @dG ?_;refine ab.ld (m:=.str pv) 11 ?_ ?_
   ·exact dq @dG @hk
   simp only[aj];refine ab.call (i:=4) (fU [] .nil dQ pg (App.nil (B:=O1.next)) (Nat.le_refl _) (by simp)) ?_;rintro _ O2 ⟨t2,rfl,g2⟩;simp only[aj];have l2:=db [] dQ pg;generalize bS [] dQ pg=E1 at*;simp only[List.length_nil]at l2;refine⟨eE.dS App.nil g2,?_⟩;refine ab.call (i:=8) (fU E1 t2 dF pa g2.2.1 g2.1.next (by omega)) ?_;rintro _ O3 ⟨t3,rfl,g3⟩;simp only[aj];have l3:=db E1 dF pa;generalize bS E1 dF pa=E2 at*
   replace g3:=g2.trans g3
   refine⟨eE.dS App.nil g3,?_⟩;refine ab.call (i:=12) (fU E2 t3 fj pv g3.2.1 g3.1.next (by omega)) ?_;rintro _ O4 ⟨t4,rfl,g4⟩;simp only[aj];have l4:=db E2 fj pv;generalize bS E2 fj pv=E3 at*
   replace g4:=g3.trans g4
   refine⟨eE.dS App.nil g4,?_⟩;refine ab.call (i:=13) (rJ [] .nil uR E3 t4 (App.nil (B:=O4.next)) (Nat.le_refl _) (by simp) (by omega)) ?_;rintro _ O5 ⟨t5,rfl,g5⟩;simp only[aj];refine⟨(eE.dS App.nil g4).trans (eE.dS App.nil g5),?_⟩;refine ab.aw 14 ?_;refine ae @dG ?_;refine ab.bH [] ?_;refine ae @dG ?_;exact aA.mk t5 (eE.fresh (eE.dS App.nil g4) g5)
 intro tk O2 h2;have ik:=(eE.dS App.nil h2).hp;have hn:=h2.1.next;clear hpp;refine VC.ag aa (aN @dG @hk @ik ?_);refine ah.rt (fU K0 _ dQ g h2.2.1 h2.1.next (by first | omega | simp)) ?_;rintro _ OA ⟨t1,rfl,gw⟩;have h3:=h2.trans gw;have l1:=db K0 dQ g;clear gw;generalize eK1:bS K0 dQ g=K1 at*;have ik:=(eE.dS App.nil h3).hp;have hn:=h3.1.next;try simp only[List.length_nil]at l1
 refine ae @dG ?_;refine VC.ag aa (aN @dG @hk @ik ?_);refine ah.rt (fU K1 _ dF a h3.2.1 h3.1.next (by first | omega | simp)) ?_;rintro _ OB ⟨t2,rfl,gw⟩;have h4:=h3.trans gw;have l2:=db K1 dF a;clear gw;generalize eK2:bS K1 dF a=K2 at*;have ik:=(eE.dS App.nil h4).hp;have hn:=h4.1.next;try simp only[List.length_nil]at l2
 refine ae @dG ?_;refine VC.ag aa (aN @dG @hk @ik ?_);refine ah.rt (fU K2 _ fj v h4.2.1 h4.1.next (by first | omega | simp)) ?_;rintro _ OC ⟨t3,rfl,gw⟩;have h5:=h4.trans gw;have l3:=db K2 fj v;clear gw;generalize eK3:bS K2 fj v=K3 at*;have ik:=(eE.dS App.nil h5).hp;have hn:=h5.1.next;try simp only[List.length_nil]at l3
 refine ae @dG ?_;refine VC.ag aa (aN @dG @hk @ik ?_);refine ah.rt (fU K3 _ xg pk h5.2.1 h5.1.next (by first | omega | simp)) ?_;rintro _ OD ⟨t4,rfl,gw⟩;have h6:=h5.trans gw;have l4:=db K3 xg pk;clear gw;generalize eK4:bS K3 xg pk=K4 at*;have ik:=(eE.dS App.nil h6).hp;have hn:=h6.1.next;try simp only[List.length_nil]at l4
 refine ae @dG ?_;clear eK1 eK2 eK3 eK4;refine VC.bu [1,2,3,4] (fun tp:Tok=>[.ptr O.next 0,.ptr (O.next+1) 0,.sl K4.length (aB K4) t4,.sl (P.map gW).length (aB (P.map gW)) tp]) (fun tp O'=>OD.Ge O') ?_ ?_
 ·refine VC.ag aa (aN @dG @hk @ik ?_);refine VC.az ?_;refine VC.bq [4,43] [1,2,3,41,42] (fun x:Nat×Tok=>[.sl ((P.take x.1).map gW).length (aB ((P.take x.1).map gW)) x.2,mi x.1]) (fun x O'=>OD.Ge O'/\App O' OD.next 4 x.2/\x.1<=P.length) (fun x=>P.length - x.1) ((0,.nil)) ?_ ?_
  ·exact⟨VH.Ge.refl _,trivial,Nat.zero_le _⟩
  rintro⟨j,tp⟩ O3 ⟨aL,cB,hj⟩;dsimp only at cB hj ⊢;by_cases bf:j<P.length;rotate_left
  ·obtain rfl:j=P.length:=by omega
   rw[List.take_length];refine WC.sound aa (ae @dG ?_);exact aA.mk tp aL
  have br:=bB eZ P j bf;have i_:(P.take (j+1)).map gW=(P.take j).map gW++[gW P[j]]:=by rw[cQ _ _ bf,List.map_append];rfl
  have Gm:((P.take j).map gW).length<=10000:=by rw[List.length_map,List.length_take];omega
  generalize P[j]=y at*;generalize (P.take j).map gW=E at*;obtain⟨yn,yv⟩:=y;simp only[a_]at br;refine VC.ag aa (ae @dG ?_);refine VC.ag aa (ae @dG ?_);refine VC.bj (VC.az ?_);refine VC.ag aa (ao @dG @br ?_);refine VC.al ?_;rintro O4 ⟨aZ,mA,ib⟩;refine VC.ag aa (ao @dG @mA ?_);refine VC.al ?_;rintro O5 ⟨bz,xJ,gD⟩;have hkz:O5.hp O3.next=some (.cells [.str yn,.str yv]):=bz.at mA;have j_:=(cB.ge aZ).ge bz;have tB:=(aL.trans aZ).trans bz;cases yv with
  | nil=>
    refine WC.sound aa (cU @dG @hkz (show(([]:List UInt8)==[])=true from rfl) @xJ ?_);obtain⟨mE,gj,kS⟩:=fS (n:=E.length) (cs:=aB E) (ds:=[.str yn,.sl 0 [] .nil,.sl 0 [] .nil,.str []]) (es:=c_ (gW (yn,[]))) nU tq.1.1 j_ (cR E) rfl rfl (by decide) (by omega) (by simp only[maxLen];omega) (eK E) (by simp only[wu,gW,c_,if_true,List.length_nil,List.flatMap_nil,aB]);refine VL.k_ gj kS ?_;refine ae @dG ?_;refine WC.sound aa (ae @dG ?_);exact ay.next (j+1,.own O5.next 4) ⟨cA.dS tB j_ (cA.after j_),App.after tB.next,bf⟩ (hl:=(by dsimp only;rw[i_,dU,List.length_append,aB,aB,List.append_nil];rfl))
  | cons c yv=>
    refine WC.sound aa (cU @dG @hkz (show((c::yv)==[])=false from rfl) @xJ ?_);have nV:=j_.set (x:=.cells [.str yn,.sl 0 [] .nil,.sl 1 [.str [],.sl 0 [] .nil,.sl 0 [] .nil,.str (c::yv)] .full,.str []]) xJ;have aeY:=tB.set (k:=O4.next) (by have:=aL.next;omega) (.cells [.str yn,.sl 0 [] .nil,.sl 1 [.str [],.sl 0 [] .nil,.sl 0 [] .nil,.str (c::yv)] .full,.str []]);generalize O5.set O4.next (.cells [.str yn,.sl 0 [] .nil,.sl 1 [.str [],.sl 0 [] .nil,.sl 0 [] .nil,.str (c::yv)] .full,.str []])=O6 at*;obtain⟨mE,gj,kS⟩:=fS (n:=E.length) (cs:=aB E) (ds:=[.str yn,.sl 0 [] .nil,.sl 1 [.str [],.sl 0 [] .nil,.sl 0 [] .nil,.str (c::yv)] .full,.str []]) (es:=c_ (gW (yn,c::yv))) nU tq.1.1 nV (cR E) rfl rfl (by decide) (by omega) (by simp only[maxLen];omega) (eK E) (by simp only[wu,gW,c_,if_neg (List.cons_ne_nil c yv),List.length_nil,List.length_cons,List.flatMap_nil,aB,List.append_nil,Nat.zero_add]);refine VL.k_ gj kS ?_;refine ae @dG ?_;refine WC.sound aa (ae @dG ?_);exact ay.next (j+1,.own O6.next 4) ⟨cA.dS aeY nV (cA.after nV),App.after aeY.next,bf⟩ (hl:=(by dsimp only;rw[i_,dU,List.length_append,aB,aB,List.append_nil];rfl))
 intro tp O3 aL;have h7:=h6.ge aL;clear ik hn;have ik:=(eE.dS App.nil h7).hp;have hn:=h7.1.next;refine VC.ag aa (ae @dG ?_);refine ah.rt (rJ K4 t4 kT (P.map gW) tp h7.2.1 h7.1.next (by omega) (by rw[List.length_map];omega)) ?_;rintro _ O4 ⟨t5,rfl,g8⟩;have h8:=h7.trans g8;have l5:=pE K4 kT (P.map gW);generalize jC K4 kT (P.map gW)=K5 at*;have ain:=(eE.dS App.nil h8).hp;have CC:=h8.1.next;refine ae @dG ?_;refine VC.ag aa (aN @dG @hk @ain ?_);refine ah.rt (z6 [] .nil M .au (App.nil (B:=O4.next)) (Nat.le_refl _) (by simp) hM (fun d hd=>hx d (List.mem_append_left _ hd))) ?_;rintro _ O5 ⟨t6,rfl,g9⟩;have l6:=Ma [] M;generalize nO [] M=K6 at*;simp only[List.length_nil]at l6;have h9:=h8.ge (eE.dS App.nil g9);refine ae @dG ?_;refine ah.rt (rJ K5 t5 rK K6 t6 h9.2.1 h9.1.next (by omega) (by omega)) ?_;rintro _ O6 ⟨t7,rfl,g10⟩;have xH:=h9.trans g10;have l7:=pE K5 rK K6;generalize jC K5 rK K6=K7 at*;have agJ:=(eE.dS App.nil xH).hp;have HI:=xH.1.next;refine ae @dG ?_;refine VC.ag aa (aN @dG @hk @agJ ?_);refine ah.rt (z6 K7 t7 D .au xH.2.1 xH.1.next (by omega) hD (fun d hd=>hx d (List.mem_append_right _ hd))) ?_;rintro _ O7 ⟨t8,rfl,g11⟩;have h11:=xH.trans g11;generalize nO K7 D=K8 at*;have agK:=(eE.dS App.nil h11).hp;have aeZ:=h11.1.next;have dB:=(agK _ (by omega)).trans bt;refine ao @dG @dB ?_;refine WC.sound aa (ao @dG @eK ?_);exact⟨by rw[hw,c_];rfl,(lI.trans (eE.dS App.nil h11)).set (by omega) _⟩
set_option linter.defProp false in
def dw:=And.intro zR<|And.intro dG<|And.intro aeL<|And.intro En<|And.intro aeQ T69
theorem eW.trans {O O1 O2:VH} {b:Nat} {q q1 q2:Option Nat} (h:eW O b q O1 q1) (k:eW O1 b q1 O2 q2):eW O b q O2 q2:=
 ⟨Nat.le_trans h.next k.next,fun i hi hb hq=>by rw[k.hp i (Nat.lt_of_lt_of_le hi h.next) hb (h.new i hi hq),h.hp i hi hb hq],fun i hi hq=>k.new i (Nat.lt_of_lt_of_le hi h.next) (h.new i hi hq)⟩
theorem eW.lF {O O1:VH} {b:Nat} {q:Option Nat} (h:O.Ge O1):eW O b q O1 q:=⟨h.next,fun i hi _ _=>h.hp i hi,fun _ _ hq=>hq⟩
theorem fR.ge {O O':VH} {B b:Nat} {q:Option Nat} {s:List UInt8} (h:fR O B b q s) (u:O.Ge O'):fR O' B b q s:=h.xP (bl.lF u)
theorem eW.Cz {O O1 O2:VH} {b:Nat} {q:Option Nat} (h:O.Ge O1) (u:eW O1 b none O2 q) (hb:O.next<=b):O.Ge O2:=u.ge h hb (fun _ e=>by cases e)
theorem VH.Ge.SF {O O1 O2:VH} {q:Option Nat} (h:O.Ge O1) (u:bl O1 q O2) (hq:∀i,q=some i->O.next<=i):O.Ge O2:=⟨Nat.le_trans h.next u.next,fun i hi=>(u.hp i (Nat.lt_of_lt_of_le hi h.next) (fun e=>by have:=hq i e;omega)).trans (h.hp i hi)⟩
def oJ (attr:Bool) (c:UInt8):Bs:=
 if c=38 then[38,97,109,112,59]else if c=60 then[38,108,116,59]else if c=62 then[38,103,116,59]else if c=13 then[38,35,49,51,59]
 else if attr&&c==34 then[38,113,117,111,116,59]else if attr&&c==9 then[38,35,57,59]else if attr&&c==10 then[38,35,49,48,59]else[c]
def mf (attr:Bool) (s:Bs):Bs:=s.flatMap (oJ attr)
theorem VI (attr:Bool) (c:UInt8):(oJ attr c).length<=6:=by
 unfold oJ;repeat' split
 all_goals simp
theorem nC (attr:Bool) (s:Bs):(mf attr s).length<=6*s.length:=by
 induction s with
 | nil=>simp[mf]
 | cons c s ih=>
   have:=VI attr c;unfold mf at ih ⊢;rw[List.flatMap_cons,List.length_append,List.length_cons];omega
theorem A_ (s:Bs) (attr:Bool) (O:VH) (hs:s.length<=1000000):VF Tryz.prog 66 [.str s,mb attr] O (aH fun m O'=>m= .str (mf attr s)/\O.Ge O'):=by
 have hsm:s.length<=maxLen:=Nat.le_trans hs (by decide);have hm:(s.length:Int)<=9223372036854775807:=by omega
 refine VF.dh 56 [.tmp 4] Tryz.func66 ?_;refine ae @dw ?_;have uS:=fR.fresh O (Nat.le_refl O.next);have kP:O.Ge ((O.push (.cells [.v (.pointer none),.sl 0 [] .nil])).push (.shape O.next 145 2)):=((VH.Ge.refl O).push _).push _;generalize ((O.push (.cells [.v (.pointer none),.sl 0 [] .nil])).push (.shape O.next 145 2))=O1 at*;refine VL.bytes aa (el:=5) (l:=s) rfl rfl (by rw[T9];rfl) (by rw[tr];rfl) (by rw[T5];rfl) hsm rfl fun cap h1 h2=>WL.sound aa ?_
 have wP:=VH.aX O1 (.cells (s.map fB));have aU:=(VH.Ge.refl O1).push (.cells (s.map fB));have du:O1.next<(O1.push (.cells (s.map fB))).next:=Nat.lt_succ_self _;have uQ:=uS.hi;have ct:=uS.ge aU;have rE:eW O1 O.next none (O1.push (.cells (s.map fB))) none:=eW.lF aU;generalize O1.push (.cells (s.map fB))=O2 at*;refine ae @dw ?_;refine WC.iG [11] [1,5,9,10] (fun x:Nat×Option Nat=>[mi x.1]) (fun x O'=>eW O2 O.next none O' x.2/\fR O' O.next O.next x.2 (mf attr (s.take x.1))/\x.1<=s.length) (fun x=>s.length - x.1) ((0,none)) ?_ ?_
 ·exact⟨eW.lF (VH.Ge.refl _),ct,Nat.zero_le _⟩
 rintro⟨j,q⟩ O3 ⟨hu,hb,hj⟩;dsimp only at hu hb hj ⊢;have CD:=(hu.hp O1.next du (by omega) (by simp)).trans wP;by_cases h3:j<s.length
 ·have oQ:=List.getElem?_eq_getElem h3;have i_:mf attr (s.take (j+1))=mf attr (s.take j)++oJ attr s[j]:=by unfold mf;rw[cQ _ _ h3,List.flatMap_append,List.flatMap_cons,List.flatMap_nil,List.append_nil]
  have cJ:(mf attr (s.take j)).length<=6000000:=by have:=nC attr (s.take j);rw[List.length_take]at this;omega
  generalize mf attr (s.take j)=T at*;generalize s[j]=c at*;have hc:=c.toNat_lt;have key:∀(l:Bs) (q':Option Nat) (O4:VH),oJ attr c=l->fR O4 O.next O.next q' (T++l)->eW O3 O.next q O4 q'->eW O2 O.next none O4 q'/\fR O4 O.next O.next q' (mf attr (s.take (j+1)))/\j+1<=s.length:=fun l q' O4 e h k=>⟨hu.trans k,by rw[i_,e];exact h,h3⟩
  have Ji:c=38 ↔ c.toNat=38:=⟨fun h=>by rw[h];rfl,fun h=>UInt8.toNat_inj.1 h⟩;have Mb:c=60 ↔ c.toNat=60:=⟨fun h=>by rw[h];rfl,fun h=>UInt8.toNat_inj.1 h⟩;have Qt:c=62 ↔ c.toNat=62:=⟨fun h=>by rw[h];rfl,fun h=>UInt8.toNat_inj.1 h⟩;have VJ:c=13 ↔ c.toNat=13:=⟨fun h=>by rw[h];rfl,fun h=>UInt8.toNat_inj.1 h⟩;have e34:c=34 ↔ c.toNat=34:=⟨fun h=>by rw[h];rfl,fun h=>UInt8.toNat_inj.1 h⟩;have e9:c=9 ↔ c.toNat=9:=⟨fun h=>by rw[h];rfl,fun h=>UInt8.toNat_inj.1 h⟩;have rL:c=10 ↔ c.toNat=10:=⟨fun h=>by rw[h];rfl,fun h=>UInt8.toNat_inj.1 h⟩;by_cases ZU:c.toNat=38
  ·refine cU @dw @oQ @CD @aG ?_;refine ah.rt (bI [38,97,109,112,59] hb (by simp only[List.length_cons,List.length_nil];omega)) ?_;rintro _ O4 ⟨rfl,q',cL,e_⟩;refine ae @dw ?_;exact ay.next (j+1,q') (key _ _ _ (by simp[oJ,Ji,ZU]) cL e_)
  by_cases Mc:c.toNat=60
  ·refine cU @dw @oQ @CD @aG ?_;refine ah.rt (bI [38,108,116,59] hb (by simp only[List.length_cons,List.length_nil];omega)) ?_;rintro _ O4 ⟨rfl,q',cL,e_⟩;refine ae @dw ?_;exact ay.next (j+1,q') (key _ _ _ (by simp[oJ,Ji,Mb,Mc]) cL e_)
  by_cases h62:c.toNat=62
  ·refine cU @dw @oQ @CD @aG ?_;refine ah.rt (bI [38,103,116,59] hb (by simp only[List.length_cons,List.length_nil];omega)) ?_;rintro _ O4 ⟨rfl,q',cL,e_⟩;refine ae @dw ?_;exact ay.next (j+1,q') (key _ _ _ (by simp[oJ,Ji,Mb,Qt,h62]) cL e_)
  by_cases h13:c.toNat=13
  ·refine cU @dw @oQ @CD @aG ?_;refine ah.rt (bI [38,35,49,51,59] hb (by simp only[List.length_cons,List.length_nil];omega)) ?_;rintro _ O4 ⟨rfl,q',cL,e_⟩;refine ae @dw ?_;exact ay.next (j+1,q') (key _ _ _ (by simp[oJ,Ji,Mb,Qt,VJ,h13]) cL e_)
  cases attr
  ·refine cU @dw @oQ @CD @aG ?_;refine ah.rt (sD c hb (by omega)) ?_;rintro _ O4 ⟨rfl,q',cL,e_⟩;refine ae @dw ?_;exact ay.next (j+1,q') (key _ _ _ (by simp[oJ,Ji,Mb,Qt,VJ,ZU,Mc,h62,h13]) cL e_)
  by_cases h34:c.toNat=34
  ·refine cU @dw @oQ @CD @aG ?_;refine ah.rt (bI [38,113,117,111,116,59] hb (by simp only[List.length_cons,List.length_nil];omega)) ?_;rintro _ O4 ⟨rfl,q',cL,e_⟩;refine ae @dw ?_;exact ay.next (j+1,q') (key _ _ _ (by simp[oJ,Ji,Mb,Qt,VJ,e34,h34]) cL e_)
  by_cases h9:c.toNat=9
  ·refine cU @dw @oQ @CD @aG ?_;refine ah.rt (bI [38,35,57,59] hb (by simp only[List.length_cons,List.length_nil];omega)) ?_;rintro _ O4 ⟨rfl,q',cL,e_⟩;refine ae @dw ?_;exact ay.next (j+1,q') (key _ _ _ (by simp[oJ,Ji,Mb,Qt,VJ,e34,e9,h9]) cL e_)
  by_cases xH:c.toNat=10
  ·refine cU @dw @oQ @CD @aG ?_;refine ah.rt (bI [38,35,49,48,59] hb (by simp only[List.length_cons,List.length_nil];omega)) ?_;rintro _ O4 ⟨rfl,q',cL,e_⟩;refine ae @dw ?_;exact ay.next (j+1,q') (key _ _ _ (by simp[oJ,Ji,Mb,Qt,VJ,e34,e9,rL,xH]) cL e_)
  ·refine cU @dw @oQ @CD @aG ?_;refine ah.rt (sD c hb (by omega)) ?_;rintro _ O4 ⟨rfl,q',cL,e_⟩;refine ae @dw ?_;exact ay.next (j+1,q') (key _ _ _ (by simp[oJ,Ji,Mb,Qt,VJ,e34,e9,rL,ZU,Mc,h62,h13,h34,h9,xH]) cL e_)
 ·obtain rfl:j=s.length:=by omega
  rw[List.take_length]at hb;have Gk:=nC attr s;refine ae @dw ?_;refine ah.rt (px hb (by simp only[maxLen];omega)) ?_;rintro _ O4 ⟨rfl,e_⟩;refine ae @dw ?_;exact(eW.Cz (kP.trans aU) hu (Nat.le_refl _)).SF e_ hb.xf
structure Qu where
 k:Int
 n:Bs
 fC:List (Bs×Bs)
 t:Bs
 off:Nat
 line:Nat
 Ev:Nat
 deriving DecidableEq
def Ew (x:Qu):List MV:=[mi x.k,.str x.n,.sl x.fC.length (x.fC.flatMap a_) .au,.str x.t,mi x.off,mi x.line,mi x.Ev]
def ov (a:Bs×Bs):Bs:=[32]++a.1++[61,34]++mf true a.2++[34]
def Ex (n:Bs) (L:List (Bs×Bs)) (e:Bs):Bs:=[60]++n++L.flatMap ov++e
theorem Ey (a:Bs×Bs) (h1:a.1.length<=1000000) (h2:a.2.length<=1000000):(ov a).length<=7000004:=by
 have:=nC true a.2;simp only[ov,List.length_append,List.length_cons,List.length_nil];omega
theorem qv:∀L:List (Bs×Bs),(∀a∈L,a.1.length<=1000000/\a.2.length<=1000000)->(L.flatMap ov).length<=L.length*7000004
 | [],_=>by simp
 | a::L,h=>by
   have h1:=Ey a (h a (by simp)).1 (h a (by simp)).2;have h2:=qv L fun x hx=>h x (List.mem_cons_of_mem _ hx)
   rw[List.flatMap_cons,List.length_append,List.length_cons,Nat.succ_mul];omega
theorem ZV {O:VH} {B b:Nat} {q:Option Nat} {s:Bs} (x:Qu) (e:Bs) (h:fR O B b q s) (hs:s.length<=10000000000000) (hn:x.n.length<=1000000) (he:e.length<=1000000) (hA:∀a∈x.fC,a.1.length<=1000000/\a.2.length<=1000000) (hl:x.fC.length<=1000000):
  VF Tryz.prog 87 [.ptr b 0,.agg (Ew x),.str e] O (aH fun m O'=>∃q',fR O' B b q' (s++Ex x.n x.fC e)/\eW O b q O' q'):=by
 obtain⟨k,n,L,t,off,line,Ev⟩:=x;dsimp only at hn hA hl;have om:=aJ eZ L;simp only[Ew];refine VF.bL 35 [] Tryz.func87 ?_;refine VC.ag aa (ae @dw ?_);refine VC.bx ?_;rintro O1 ⟨aU,hk,du⟩;have ct:=h.ge aU;try simp only[ar]at hk
 refine VC.ag aa (ao @dw @hk ?_);refine ah.rt (bI ([60]++n) ct (by simp only[List.length_append,List.length_cons,List.length_nil];omega)) ?_;rintro _ O2 ⟨rfl,q2,bZ,cZ⟩;have bt:=(cZ.hp O.next (by omega) (by have:=h.hi;omega) (h.SD _ (Nat.le_refl _))).trans hk;refine ae @dw ?_;refine VC.bu [0,2] (fun q:Option Nat=>[.ptr b 0,.str e]) (fun q' O'=>eW O b q O' q'/\fR O' B b q' (s++([60]++n)++L.flatMap ov)) ?_ ?_
 ·refine VC.ag aa (ao @dw @bt ?_);refine VC.az ?_;refine VC.bq [16] [0,2,14,15] (fun x:Nat×Option Nat=>[mi x.1]) (fun x O'=>eW O b q O' x.2/\fR O' B b x.2 (s++([60]++n)++(L.take x.1).flatMap ov)/\x.1<=L.length) (fun x=>L.length - x.1) ((0,q2)) ?_ ?_
  ·exact⟨(eW.lF aU).trans cZ,by simpa using bZ,Nat.zero_le _⟩
  rintro⟨j,qj⟩ O3 ⟨cK,cc,hj⟩;dsimp only at cK cc hj ⊢;by_cases bf:j<L.length;rotate_left
  ·obtain rfl:j=L.length:=by omega
   rw[List.take_length]at cc;refine WC.sound aa (ae @dw ?_);exact aA.mk qj ⟨cK,cc⟩
  have br:=bB eZ L j bf;have i_:(L.take (j+1)).flatMap ov=(L.take j).flatMap ov++ov L[j]:=by rw[cQ _ _ bf,List.flatMap_append,List.flatMap_cons,List.flatMap_nil,List.append_nil]
  have fV:=hA L[j] (List.getElem_mem bf);have dK:=Ey L[j] fV.1 fV.2
  have hTl:((L.take j).flatMap ov).length<=7000004000000:=by
   have:=qv (L.take j) fun a ha=>hA a (List.mem_of_mem_take ha)
   rw[List.length_take]at this;omega
  generalize L[j]=y at*;generalize (L.take j).flatMap ov=T at*;obtain⟨yn,yv⟩:=y;dsimp only at fV;simp only[a_]at br;refine VC.ag aa (ae @dw ?_);refine VC.ag aa (ae @dw ?_);refine VC.bj (VC.az ?_);refine VC.ag aa (ao @dw @br ?_);refine VC.al ?_;rintro O4 ⟨aZ,mA,ib⟩;have cL:=cc.ge aZ;refine VC.nB [10] ?_;refine ab.aw 0 ?_;refine ae @dw ?_;refine ab.aw 1 ?_;refine ae @dw ?_;refine ab.ld (m:=.str yn) 2 ?_ ?_
  ·exact dq @dw @mA
  simp only[aj];refine ab.aw 3 ?_;refine ae @dw ?_;refine ab.aw 4 ?_;refine ae @dw ?_;refine ab.aw 5 ?_;refine ae @dw ?_;refine ab.ld (m:=.str yv) 6 ?_ ?_
  ·exact dq @dw @mA
  simp only[aj];refine ab.call (i:=7) (A_ yv true _ fV.2) ?_;rintro _ O5 ⟨rfl,bz⟩;simp only[aj];refine⟨bz,?_⟩;have Gk:=nC true yv;have hae:ov (yn,yv)=[32]++yn++[61,34]++mf true yv++[34]:=rfl;generalize mf true yv=E at*;refine ab.aw 8 ?_;refine ae @dw ?_;refine ab.aw 9 ?_;refine ae @dw ?_;refine ab.bH [(10,.one)] ?_;refine ae @dw ?_;refine ah.rt (bI ([32]++yn++[61,34]++E++[34]) (cL.ge bz) (by simp only[List.length_append,List.length_cons,List.length_nil];omega)) ?_;rintro _ O6 ⟨rfl,q6,iQ,qQ⟩;refine ae @dw ?_;refine WC.sound aa (ae @dw ?_);exact ay.next (j+1,q6) ⟨(cK.trans (eW.lF (aZ.trans bz))).trans qQ,by rw[i_,hae, <-List.append_assoc];exact iQ,bf⟩
 rintro q3 O3 ⟨cK,cc⟩;have hTl:=qv L hA;refine WC.sound aa (ae @dw ?_);refine ah.rt (bI e cc (by simp only[List.length_append,List.length_cons,List.length_nil];omega)) ?_;rintro _ O4 ⟨rfl,q4,cL,e_⟩;refine ae @dw ?_;refine⟨q4,?_,cK.trans e_⟩;simpa[Ex,List.append_assoc]using cL
def xV (x:Qu):Bs:=
 if x.k=5 then[60,33,45,45]++x.t++[45,45,62]else if x.k=6 then[60,63,120,109,108]++x.t++[63,62]else if x.k=3 then[60,47]++x.n++[62]
 else if x.k=1 then Ex x.n x.fC [62]else if x.k=2 then Ex x.n x.fC [47,62]else if x.k=4 then mf false x.t else[]
structure Qv (x:Qu):Prop where
 n:x.n.length<=1000000
 t:x.t.length<=1000000
 a:∀a∈x.fC,a.1.length<=1000000/\a.2.length<=1000000
 l:x.fC.length<=1000000
theorem HJ (n:Bs) (L:List (Bs×Bs)) (e:Bs) (hn:n.length<=1000000) (he:e.length<=10) (hA:∀a∈L,a.1.length<=1000000/\a.2.length<=1000000) (hl:L.length<=1000000):(Ex n L e).length<=8000000000000:=by
 have:=qv L hA;simp only[Ex,List.length_append,List.length_cons,List.length_nil];omega
theorem Me (x:Qu) (h:Qv x):(xV x).length<=8000000000000:=by
 have h1:=h.n;have h2:=h.t;have h3:=HJ x.n x.fC [62] h.n (by simp) h.a h.l;have h4:=HJ x.n x.fC [47,62] h.n (by simp) h.a h.l;have h5:=nC false x.t;unfold xV;repeat' split
 all_goals first | omega | (simp only[List.length_append,List.length_cons,List.length_nil];omega)
theorem VK {O:VH} (x:Qu) (tk:Tok) (h:Qv x):VF Tryz.prog 67 [.sl 1 (Ew x) tk] O (aH fun m O'=>m= .str (xV x)/\O.Ge O'):=by
 have dK:=Me x h;have hn:=h.n;have ht:=h.t;have VN:∀l:Bs,l.length<=3000000->l.length<=140737488355328:=fun l h=>by omega
 have br:(Ew x++[]).length=7:=rfl;obtain⟨k,n,L,t,off,line,Ev⟩:=x;dsimp only at hn ht;refine VF.bL 51 [.tmp 2] Tryz.func67 ?_;simp only[Ew];refine VC.ag aa (ae @dw ?_);refine VC.ag aa (ae @dw ?_);have uS:=fR.fresh O (Nat.le_refl O.next);have kP:O.Ge ((O.push (.cells [.v (.pointer none),.sl 0 [] .nil])).push (.shape O.next 145 2)):=((VH.Ge.refl O).push _).push _;generalize ((O.push (.cells [.v (.pointer none),.sl 0 [] .nil])).push (.shape O.next 145 2))=O1 at*;refine VC.bu [3] (fun q:Option Nat=>[.ptr O.next 0]) (fun q O'=>O.Ge O'/\fR O' O.next O.next q (xV ⟨k,n,L,t,off,line,Ev⟩)) ?_ ?_;rotate_left
 ·rintro q O2 ⟨aC,bZ⟩;refine WC.sound aa (ae @dw ?_);refine ah.rt (px bZ (by simp only[maxLen];omega)) ?_;rintro _ O3 ⟨rfl,cK⟩;refine ae @dw ?_;exact aC.SF cK bZ.xf
 refine VC.ag aa (ae @dw ?_);refine VC.az ?_;refine VC.bq [8] [3,6,7] (fun x:Bool×Option Nat=>[mi (if x.1 then 1 else 0)]) (fun x O'=>O.Ge O'/\fR O' O.next O.next x.2 (if x.1 then xV ⟨k,n,L,t,off,line,Ev⟩else[])) (fun x=>if x.1 then 0 else 1) ((false,none)) ?_ ?_
 ·exact⟨kP,uS⟩
 rintro⟨j,q⟩ O2 ⟨aC,bZ⟩;dsimp only at bZ ⊢;cases j;rotate_left
 ·rw[if_pos rfl]at bZ ⊢;refine WC.sound aa (ae @dw ?_);exact aA.mk q ⟨aC,bZ⟩
 rw[if_neg (by decide)]at bZ ⊢;refine VC.ag aa (ae @dw ?_);refine VC.ag aa (ae @dw ?_);refine VC.bj (VC.az ?_);refine VC.ag aa (ae @dw ?_);refine VC.al ?_;rintro O3 ⟨aL,hk,iH⟩;have cc:=bZ.ge aL;have fin:∀(l:Bs) (q':Option Nat) (O4:VH),xV ⟨k,n,L,t,off,line,Ev⟩=l->fR O4 O.next O.next q' ([]++l)->eW O3 O.next q O4 q'->O.Ge O4/\fR O4 O.next O.next q' (xV ⟨k,n,L,t,off,line,Ev⟩):=fun l q' O4 e h k=>⟨k.ge (aC.trans aL) (Nat.le_refl _) cc.xf,by rw[e];exact h⟩
 by_cases h5:k=5
 ·subst h5;refine WC.sound aa (ao @dw @hk ?_);refine ah.rt (bI ([60,33,45,45]++t++[45,45,62]) cc (by simp only[List.length_append,List.length_cons,List.length_nil];omega)) ?_;rintro _ O4 ⟨rfl,q',cL,e_⟩;refine ae @dw ?_;refine WC.sound aa (ae @dw ?_);exact ay.next (true,q') (fin _ _ _ rfl cL e_) (hm:=Nat.zero_lt_one)
 by_cases h6:k=6
 ·subst h6;refine WC.sound aa (ao @dw @hk ?_);refine ah.rt (bI ([60,63,120,109,108]++t++[63,62]) cc (by simp only[List.length_append,List.length_cons,List.length_nil];omega)) ?_;rintro _ O4 ⟨rfl,q',cL,e_⟩;refine ae @dw ?_;refine WC.sound aa (ae @dw ?_);exact ay.next (true,q') (fin _ _ _ rfl cL e_) (hm:=Nat.zero_lt_one)
 by_cases h3:k=3
 ·subst h3;refine WC.sound aa (ao @dw @hk ?_);refine ah.rt (bI ([60,47]++n++[62]) cc (by simp only[List.length_append,List.length_cons,List.length_nil];omega)) ?_;rintro _ O4 ⟨rfl,q',cL,e_⟩;refine ae @dw ?_;refine WC.sound aa (ae @dw ?_);exact ay.next (true,q') (fin _ _ _ rfl cL e_) (hm:=Nat.zero_lt_one)
 by_cases h1:k=1
 ·subst h1;refine WC.sound aa (ao @dw @hk ?_);refine ah.rt (ZV ⟨1,n,L,t,off,line,Ev⟩ [62] cc (by simp) hn (by simp) h.a h.l) ?_;rintro _ O4 ⟨q',cL,e_⟩;refine ae @dw ?_;refine WC.sound aa (ae @dw ?_);exact ay.next (true,q') (fin _ _ _ rfl cL e_) (hm:=Nat.zero_lt_one)
 by_cases h2:k=2
 ·subst h2;refine WC.sound aa (ao @dw @hk ?_);refine ah.rt (ZV ⟨2,n,L,t,off,line,Ev⟩ [47,62] cc (by simp) hn (by simp) h.a h.l) ?_;rintro _ O4 ⟨q',cL,e_⟩;refine ae @dw ?_;refine WC.sound aa (ae @dw ?_);exact ay.next (true,q') (fin _ _ _ rfl cL e_) (hm:=Nat.zero_lt_one)
 by_cases h4:k=4
 ·subst h4;have Gk:=nC false t;refine WC.sound aa (ao @dw @hk ?_);refine ah.rt (A_ t false _ ht) ?_;rintro _ O4 ⟨rfl,aZ⟩;refine ae @dw ?_;refine ah.rt (bI (mf false t) (cc.ge aZ) (by simp only[List.length_nil];omega)) ?_;rintro _ O5 ⟨rfl,q',cV,qk⟩;refine ae @dw ?_;refine WC.sound aa (ae @dw ?_);exact ay.next (true,q') (fin _ _ _ rfl cV ((eW.lF aZ).trans qk)) (hm:=Nat.zero_lt_one)
 ·have fF:xV ⟨k,n,L,t,off,line,Ev⟩=[]:=by simp[xV,h1,h2,h3,h4,h5,h6]
  refine WC.sound aa (ao @dw @hk ?_);refine WC.sound aa (ae @dw ?_);exact ay.next (true,q) (fin _ _ _ fF (by simpa using cc) (eW.lF (VH.Ge.refl _))) (hm:=Nat.zero_lt_one)
theorem aio:ey Tryz.t146.desc=false:=by kernel_rfl
set_option linter.defProp false in
def ez:=And.intro dw<|And.intro ahQ aio
mutual
def dV:Nd->Nat
 | .mk _ _ k _=>1+bO k
def bO:List Nd->Nat
 | []=>0
 | x::r=>dV x+bO r
end
theorem Ez (n:Bs) (a:List (Bs×Bs)) (k:List Nd) (t:Bs):dV (.mk n a k t)=1+bO k:=by rw[dV]
mutual
def z7:Nd->Prop
 | .mk n a k t=>n.length<=1000000/\t.length<=1000000/\(∀x∈a,x.1.length<=1000000/\x.2.length<=1000000)/\a.length<=1000000/\k.length<=1000000/\sF k
def sF:List Nd->Prop
 | []=>True
 | x::r=>z7 x/\sF r
end
mutual
def b9:Nd->Bs
 | .mk n a k t=>if n=[]then mf false t else xV ⟨if k.length=0 then 2 else 1,n,a,[],0,0,0⟩++aT k++(if k.length=0 then[]else[60,47]++n++[62])
def aT:List Nd->Bs
 | []=>[]
 | x::r=>b9 x++aT r
end
theorem z8:∀{k:List Nd} {x:Nd},x∈k->dV x<=bO k
 | y::r,x,h=>by
   rw[bO];rcases List.mem_cons.1 h with rfl | h
   ·omega
   ·have:=z8 h;omega
theorem EA:∀{k:List Nd} {x:Nd},sF k->x∈k->z7 x
 | y::r,x,h,hx=>by
   rw[sF]at h;rcases List.mem_cons.1 hx with rfl | hx
   ·exact h.1
   ·exact EA h.2 hx
theorem tC (L M:List Nd):aT (L++M)=aT L++aT M:=by
 induction L with
 | nil=>rw[List.nil_append,aT,List.nil_append]
 | cons x L ih=>rw[List.cons_append,aT,aT,ih,List.append_assoc]
theorem pF (L:List Nd):aB L=L.flatMap c_:=by
 induction L with
 | nil=>rw[aB];rfl
 | cons x L ih=>rw[aB,ih,List.flatMap_cons]
theorem ZW:∀(N:Nat) (x:Nd) (O:VH) (B b lk:Nat) (q:Option Nat) (s:Bs),dV x<=N->fR O B b q s->O.hp lk=some (.cells [.func (.func 64) [] [.ptr b 0,.ptr lk 0]])->lk<O.next->lk≠b->q≠some lk->s.length+(b9 x).length<=10000000000000->z7 x->
  VF Tryz.prog 64 [.agg (c_ x),.ptr b 0,.ptr lk 0] O (aH fun m O'=>∃q',fR O' B b q' (s++b9 x)/\eW O b q O' q')
 | 0,.mk n a k t=>fun O B b lk q s h=>by rw[Ez]at h;omega
 | N+1,.mk n a k t=>fun O B b lk q s hN h gn tR Ba pH hs cu=>by
   rw[Ez]at hN;rw[z7]at cu;obtain⟨hn,ht,hA,hAl,kU,hks⟩:=cu;rw[b9]at hs ⊢;rw[c_];refine VF.bL 48 [] Tryz.func64 ?_;refine VC.ag aa (ae @ez ?_);refine VC.bx ?_;rintro O1 ⟨aU,hk,du⟩;have ct:=h.ge aU;have akd:=(aU.hp _ tR).trans gn;cases n with
   | nil=>
     rw[if_pos rfl]at hs ⊢;refine VC.ag aa (aN @ez @hk (show(([]:List UInt8)==[])=true from rfl) ?_);refine ah.rt (A_ t false _ ht) ?_;rintro _ O2 ⟨rfl,aC⟩;have Gk:=nC false t;refine ae @ez ?_;refine ah.rt (bI (mf false t) (ct.ge aC) (by omega)) ?_;rintro _ O3 ⟨rfl,q',cc,cK⟩;refine ae @ez ?_;exact⟨q',cc,(eW.lF (aU.trans aC)).trans cK⟩
   | cons c n=>
     rw[if_neg (by simp)]at hs ⊢;have hnb:((c::n)==[])=false:=rfl;generalize EB:c::n=nm at*;have uf:Qv ⟨if k.length=0 then 2 else 1,nm,a,[],0,0,0⟩:=⟨hn,by simp,hA,hAl⟩;refine VC.ag aa (aN @ez @hk @hnb ?_);refine VC.ag aa (aN @ez @hk @hnb ?_);refine VC.al ?_;rintro O2 ⟨aC,hkt,jB⟩;have bt:=(aC.hp O.next (by omega)).trans hk;refine VC.bu [1,2,3,4] (fun _:Unit=>[.ptr b 0,.ptr lk 0,.ptr O.next 0,.ptr O1.next 0]) (fun _ O'=>O.Ge O'/\O'.next=O2.next/\O'.hp O.next=some (.cells (c_ (.mk nm a k t)))/\O'.hp O1.next=some (.cells (Ew ⟨if k.length=0 then 2 else 1,nm,a,[],0,0,0⟩))) ?_ ?_
     ·have lI:=aU.trans aC;by_cases h0:k.length=0
      ·refine VC.ag aa (ao @ez @bt ?_);refine WC.sound aa (ao @ez @h0 ?_);exact aA.mk () ⟨lI,rfl,by rw[bt,c_],by rw[hkt];rfl⟩
      ·have h1:0<k.length:=by omega
       refine VC.ag aa (ao @ez @bt ?_);refine WC.sound aa (ao @ez @hkt ?_);refine aA.mk () ⟨lI.set (by omega) _,rfl,?_,?_⟩
       ·rw[VH.ak _ _ (by omega),bt,c_]
       ·rw[VH.an,if_neg h0];rfl
     rintro⟨⟩ O3 ⟨aL,iH,dB,ae0⟩;have cc:=h.ge aL;simp only[c_]at dB;generalize hX:(⟨if k.length=0 then 2 else 1,nm,a,[],0,0,0⟩:Qu)=X at*;have tS:=Me X uf;simp only[List.length_append]at hs;have hXc:Ew X=[mi X.k,.str X.n,.sl X.fC.length (X.fC.flatMap a_) .au,.str X.t,mi X.off,mi X.line,mi X.Ev]:=rfl;rw[hXc,ar,ar,ar,ar]at ae0;refine VC.ag aa (ao @ez @ae0 ?_);refine ah.rt (VK X .full uf) ?_;rintro _ O4 ⟨rfl,aZ⟩;refine ae @ez ?_;refine ah.rt (bI (xV X) (cc.ge aZ) (by omega)) ?_;rintro _ O5 ⟨rfl,q5,cV,qk⟩;have SG:eW O b q O5 q5:=(eW.lF (aL.trans aZ)).trans qk;have fJ:=(qk.hp O.next (by have:=aZ.next;omega) (by have:=h.hi;omega) (h.SD _ (Nat.le_refl _))).trans (aZ.at dB);refine ae @ez ?_;have EC:q5≠some O.next:=qk.new O.next (by have:=aZ.next;omega) (h.SD _ (Nat.le_refl _));have gD:O.next<O5.next:=by have:=qk.next;have:=aZ.next;omega
     refine VC.bu [1,2,3] (fun q':Option Nat=>[.ptr b 0,.ptr lk 0,.ptr O.next 0]) (fun q' O'=>eW O5 b q5 O' q'/\fR O' B b q' (s++xV X++aT k)) ?_ ?_
     ·refine VC.ag aa (ao @ez @fJ ?_);refine VC.az ?_;refine VC.bq [31] [1,2,3,29,30] (fun x:Nat×Option Nat=>[mi x.1]) (fun x O'=>eW O5 b q5 O' x.2/\fR O' B b x.2 (s++xV X++aT (k.take x.1))/\x.1<=k.length) (fun x=>k.length - x.1) ((0,q5)) ?_ ?_
      ·exact⟨eW.lF (VH.Ge.refl _),by simpa[aT]using cV,Nat.zero_le _⟩
      rintro⟨j,qj⟩ O6 ⟨qQ,iQ,hj⟩;dsimp only at qQ iQ hj ⊢;by_cases bf:j<k.length;rotate_left
      ·obtain rfl:j=k.length:=by omega
       rw[List.take_length]at iQ;refine WC.sound aa (ae @ez ?_);exact aA.mk qj ⟨qQ,iQ⟩
      have br:=bB lH k j bf;rw[<-pF]at br;have SH:=cR k;have i_:aT (k.take (j+1))=aT (k.take j)++b9 k[j]:=by rw[cQ _ _ bf,tC,aT,aT,List.append_nil]
      have lJ:(aT k).length=(aT (k.take j)).length+(b9 k[j]).length+(aT (k.drop (j+1))).length:=by
       rw[<-List.length_append, <-i_, <-List.length_append, <-tC,List.take_append_drop]
      have oc:dV k[j]<=N:=by have:=z8 (List.getElem_mem bf);omega
      have ED:=EA hks (List.getElem_mem bf);generalize k[j]=y at*;have xI:=SG.trans qQ;have aip:=(xI.hp lk tR Ba pH).trans gn;have aiq:=xI.new lk tR pH;have ih:=fun OO h1 h2 h3=>ZW N y OO B b lk qj (s++xV X++aT (k.take j)) oc h1 h2 h3 Ba aiq (by simp only[List.length_append];omega) ED
      generalize aT (k.take j)=T at*;cases y with
      | mk yn ya yk yt=>
        simp only[c_]at br ih;refine VC.ag aa (ae @ez ?_);refine VC.ag aa (ae @ez ?_);refine VC.bj (VC.az ?_);refine VC.ag aa (ao @ez @br ?_);refine VC.al ?_;rintro O7 ⟨dM,mA,rM⟩;have ae1:=(dM.hp lk (by have:=xI.next;omega)).trans aip;refine WC.sound aa (aN @ez @mA @ae1 ?_);refine ah.rt (ih O7 (iQ.ge dM) ae1 (by have:=xI.next;omega)) ?_;rintro _ O8 ⟨q8,sC,ql⟩;refine ae @ez ?_;refine WC.sound aa (ae @ez ?_);exact ay.next (j+1,q8) ⟨(qQ.trans (eW.lF dM)).trans ql,by rw[i_, <-List.append_assoc];exact sC,bf⟩
     rintro q6 O6 ⟨qQ,iQ⟩;have nj:=(qQ.hp O.next gD (by have:=h.hi;omega) EC).trans fJ;have Mf:=SG.trans qQ;by_cases h0:k.length=0
     ·rw[if_pos h0];refine WC.sound aa (ao @ez @nj ?_);exact⟨q6,by simpa[List.append_assoc]using iQ,Mf⟩
     ·rw[if_neg h0]at hs ⊢;simp only[List.length_append,List.length_cons,List.length_nil]at hs;refine WC.sound aa (ao @ez @nj ?_);refine ah.rt (bI ([60,47]++nm++[62]) iQ (by simp only[List.length_append,List.length_cons,List.length_nil];omega)) ?_;rintro _ O7 ⟨rfl,q7,xW,CE⟩;refine ae @ez ?_;exact⟨q7,by simpa[List.append_assoc]using xW,Mf.trans CE⟩
theorem VO (x:Nd) (O:VH) (hs:(b9 x).length<=10000000000000) (cu:z7 x):VF Tryz.prog 48 [.agg (c_ x)] O (aH fun m O'=>m= .str (b9 x)/\O.Ge O'):=by
 have lay:=ZW (dV x) x;generalize b9 x=T at*;cases x with
 | mk n a k t=>
   simp only[c_]at lay ⊢;refine VF.bL 10 [.tmp 2] Tryz.func48 ?_;refine VC.ag aa (ae @ez ?_);refine VC.bx ?_;rintro O1 ⟨aU,hk,du⟩;refine VC.ag aa (ae @ez ?_);have uS:=fR.fresh O1 (Nat.le_refl O1.next);have kP:O1.Ge ((O1.push (.cells [.v (.pointer none),.sl 0 [] .nil])).push (.shape O1.next 145 2)):=((VH.Ge.refl O1).push _).push _;have Qw:=uS.hi;generalize ((O1.push (.cells [.v (.pointer none),.sl 0 [] .nil])).push (.shape O1.next 145 2))=O2 at*;refine VC.ag aa (ae @ez ?_);refine VC.ag aa (ae @ez ?_);refine VC.al ?_;rintro O3 ⟨aL,dB,iH⟩;have dN:=(aL.hp O.next (by have:=kP.next;omega)).trans ((kP.hp O.next (by omega)).trans hk);refine VC.ag aa (aN @ez @dB @dN ?_);refine ah.rt (lay O3 O1.next O1.next O2.next none [] (Nat.le_refl _) (uS.ge aL) dB (by omega) (by omega) (by simp) (by simpa using hs) cu) ?_;rintro _ O4 ⟨q,cL,e_⟩;rw[List.nil_append]at cL;refine ae @ez ?_;refine WC.sound aa (ae @ez ?_);refine ah.rt (px cL (by simp only[maxLen];omega)) ?_;rintro _ O5 ⟨rfl,qk⟩;refine ae @ez ?_;exact(e_.Cz (aU.trans (kP.trans aL)) (by omega)).SF qk (fun i e=>by have:=cL.xf i e;omega)
def Nd.nm:Nd->Bs
 | .mk n _ _ _=>n
def Nd.kids:Nd->List Nd
 | .mk _ _ k _=>k
def Nd.tx:Nd->Bs
 | .mk _ _ _ t=>t
def jZ (name:Bs) (y:Nd):Bool:=y.nm != []&&(name==[]||y.nm==name)
def cx (x:Nd) (name:Bs):List Nd:=x.kids.filter (jZ name)
theorem CY (x:Nd) (name:Bs) (O:VH) (hk:x.kids.length<=1000000):VF Tryz.prog 271 [.agg (c_ x),.str name] O (aH fun m O'=>∃tk,m= .sl (cx x name).length (aB (cx x name)) tk/\O.Ge O'):=by
 obtain⟨n,a,k,t⟩:=x;simp only[Nd.kids]at hk;unfold cx;simp only[Nd.kids,c_];refine VF.bL 33 [.tmp 4] Tryz.func271 ?_;refine VC.ag aa (ae @ez ?_);refine VC.bx ?_;rintro O1 ⟨aU,dN,du⟩;refine VC.join aa [4] (fun tk:Tok=>[.sl (k.filter (jZ name)).length (aB (k.filter (jZ name))) tk]) (fun tk O'=>O.Ge O') ?_ ?_;rotate_left
 ·intro tk O9 bk;refine ae @ez ?_;exact⟨tk,rfl,bk⟩
 refine VC.ag aa (ao @ez @dN ?_);refine VC.az ?_;refine VC.bq [4,10] [1,8,9] (fun x:Nat×Tok=>[.sl ((k.take x.1).filter (jZ name)).length (aB ((k.take x.1).filter (jZ name))) x.2,mi x.1]) (fun x O'=>O.Ge O'/\App O' O.next 4 x.2/\x.1<=k.length) (fun x=>k.length - x.1) ((0,.nil)) ?_ ?_
 ·exact⟨aU,trivial,Nat.zero_le _⟩
 rintro⟨j,tk⟩ O2 ⟨aC,cB,hj⟩;dsimp only at cB hj ⊢;by_cases bf:j<k.length;rotate_left
 ·obtain rfl:j=k.length:=by omega
  rw[List.take_length];refine WC.sound aa (ae @ez ?_);exact aA.mk tk aC
 have br:=bB lH k j bf;rw[<-pF]at br;have SH:=cR k
 have i_:(k.take (j+1)).filter (jZ name)=(k.take j).filter (jZ name)++if jZ name k[j]then[k[j]]else[]:=by
  rw[cQ _ _ bf,List.filter_append]
  congr 1
  cases h:jZ name k[j]<;>simp[h]
 have Gm:((k.take j).filter (jZ name)).length<=1000000:=Nat.le_trans (List.length_filter_le _ _) (by rw[List.length_take];omega);generalize k[j]=y at*;generalize (k.take j).filter (jZ name)=E at*;obtain⟨yn,ya,yk,yt⟩:=y;have eN:=zX (.mk yn ya yk yt);have ZX:=lH (.mk yn ya yk yt);have ZY:aB [.mk yn ya yk yt]=c_ (.mk yn ya yk yt):=by rw[aB,aB,List.append_nil]
 simp only[c_]at br eN ZX ZY;refine VC.ag aa (ae @ez ?_);refine VC.ag aa (ae @ez ?_);refine VC.bj (VC.az ?_);refine VC.ag aa (ao @ez @br ?_);refine VC.al ?_;rintro O3 ⟨aL,mA,iH⟩;have mg:=cB.ge aL;have HK:=aC.trans aL;have yes:jZ name (.mk yn ya yk yt)=true->(k.take (j+1)).filter (jZ name)=E++[.mk yn ya yk yt]:=fun h=>by rw[i_,h,if_pos rfl]
 have nay:jZ name (.mk yn ya yk yt)=false->(k.take (j+1)).filter (jZ name)=E:=fun h=>by rw[i_,h,if_neg (by simp),List.append_nil]
 have hik:jZ name (.mk yn ya yk yt)=(yn != []&&(name==[]||yn==name)):=rfl;rw[hik]at yes nay;cases h1:yn==[]
 ·cases h2:name==[]
  ·cases h3:yn==name
   ·have hn:=nay (by simp[bne,h1,h2,h3]);refine WC.sound aa (ia @ez @mA @h1 @h2 @h3 ?_);refine WC.sound aa (ae @ez ?_);exact ay.next (j+1,tk) ⟨HK,mg,bf⟩ (hl:=(by dsimp only;rw[hn];rfl))
   ·have hn:=yes (by simp[bne,h1,h2,h3]);refine WC.sound aa (ia @ez @mA @h1 @h2 @h3 ?_);obtain⟨mE,gj,kS⟩:=fS (n:=E.length) (cs:=aB E) (ds:=[.str yn,.sl ya.length (ya.flatMap a_) .au,.sl yk.length (aB yk) .au,.str yt]) nU tq.1.1 mg (cR E) rfl rfl (by decide) (by omega) (by simp only[maxLen];omega) (eK E) eN;refine VL.k_ gj kS ?_;refine ae @ez ?_;refine WC.sound aa (ae @ez ?_);exact ay.next (j+1,.own O3.next 4) ⟨cA.dS HK mg (cA.after mg),App.after HK.next,bf⟩ (hl:=(by dsimp only;rw[hn,dU,List.length_append,ZY];rfl))
  ·have hn:=yes (by simp[bne,h1,h2]);refine WC.sound aa (cU @ez @mA @h1 @h2 ?_);obtain⟨mE,gj,kS⟩:=fS (n:=E.length) (cs:=aB E) (ds:=[.str yn,.sl ya.length (ya.flatMap a_) .au,.sl yk.length (aB yk) .au,.str yt]) nU tq.1.1 mg (cR E) rfl rfl (by decide) (by omega) (by simp only[maxLen];omega) (eK E) eN;refine VL.k_ gj kS ?_;refine ae @ez ?_;refine WC.sound aa (ae @ez ?_);exact ay.next (j+1,.own O3.next 4) ⟨cA.dS HK mg (cA.after mg),App.after HK.next,bf⟩ (hl:=(by dsimp only;rw[hn,dU,List.length_append,ZY];rfl))
 ·have hn:=nay (by simp[bne,h1]);refine WC.sound aa (aN @ez @mA @h1 ?_);refine WC.sound aa (ae @ez ?_);exact ay.next (j+1,tk) ⟨HK,mg,bf⟩ (hl:=(by dsimp only;rw[hn];rfl))
def iI (k:List Nd):Bs:=k.flatMap fun y=>bif y.nm==[]then y.tx else[]
def sG (x:Nd):Bs:=trimB (iI x.kids)
theorem Mg {k:List Nd} {j:Nat} (h:j<k.length):iI (k.take (j+1))=iI (k.take j)++bif k[j].nm==[]then k[j].tx else[]:=by
 unfold iI;rw[cQ _ _ h,List.flatMap_append,List.flatMap_cons,List.flatMap_nil,List.append_nil]
theorem HL {k:List Nd}:∀j,(iI (k.take j)).length<=(iI k).length:=fun j=>by
 have:iI k=iI (k.take j)++iI (k.drop j):=by unfold iI;rw[<-List.flatMap_append,List.take_append_drop]
 rw[this,List.length_append];omega
theorem ZZ (x:Nd) (O:VH) (hk:x.kids.length<=1000000) (ht:(iI x.kids).length<=1000000000):VF Tryz.prog 296 [.agg (c_ x)] O (aH fun m O'=>m= .str (sG x)/\O.Ge O'):=by
 obtain⟨n,a,k,t⟩:=x;simp only[Nd.kids]at hk ht;unfold sG;simp only[Nd.kids,c_];refine VF.bL 23 [.tmp 2] Tryz.func296 ?_;refine VC.ag aa (ae @ez ?_);refine VC.bx ?_;rintro O1 ⟨aU,dN,du⟩;refine VC.ag aa (ae @ez ?_);refine VC.join aa [3] (fun _:Unit=>[.str (iI k)]) (fun _ O'=>O.Ge O') ?_ ?_;rotate_left
 ·intro _ O9 bk;refine ae @ez ?_;refine ah.rt (Je (iI k) _ (Nat.le_trans ht (by decide))) ?_;rintro _ O8 ⟨rfl,rfl⟩;refine ae @ez ?_;exact bk
 refine VC.ag aa (ao @ez @dN ?_);refine VC.az ?_;refine VC.bq [3,9] [7,8] (fun j:Nat=>[.str (iI (k.take j)),mi j]) (fun j O'=>O.Ge O'/\j<=k.length) (fun j=>k.length - j) (0) ?_ ?_
 ·exact⟨aU,Nat.zero_le _⟩
 rintro j O2 ⟨aC,hj⟩;by_cases bf:j<k.length;rotate_left
 ·obtain rfl:j=k.length:=by omega
  rw[List.take_length];refine WC.sound aa (ae @ez ?_);exact aA.mk () aC
 have br:=bB lH k j bf;rw[<-pF]at br;have SH:=cR k;have i_:=Mg bf;have hle:=HL (k:=k) (j+1);have SI:=HL (k:=k) j;generalize k[j]=y at*;generalize iI (k.take j)=E at*;obtain⟨yn,ya,yk,yt⟩:=y;simp only[c_]at br;simp only[Nd.nm,Nd.tx]at i_;refine VC.ag aa (ae @ez ?_);refine VC.ag aa (ae @ez ?_);refine VC.bj (VC.az ?_);refine VC.ag aa (ao @ez @br ?_);refine VC.al ?_;rintro O3 ⟨aL,mA,iH⟩;cases h1:yn==[]
 ·rw[h1,cond_false,List.append_nil]at i_;refine WC.sound aa (aN @ez @mA @h1 ?_);refine WC.sound aa (ae @ez ?_);exact ay.next (j+1) ⟨aC.trans aL,bf⟩ (hl:=(by rw[i_];rfl))
 ·rw[h1,cond_true]at i_;rw[i_,List.length_append]at hle;refine WC.sound aa (aN @ez @mA @h1 ?_);refine WC.sound aa (ae @ez ?_);exact ay.next (j+1) ⟨aC.trans aL,bf⟩ (hl:=(by rw[i_];rfl))
set_option linter.defProp false in
def bo:=And.intro ez<|And.intro aeW<|And.intro ZI<|And.intro ZJ T65
def sH (e:Int) (w:Bs):MV:=.iface 371 (.agg [mi e,.str w])
theorem air {p:MV}:I3 371 (eA Tryz.prog 371) (some p)=some (.iface 371 p):=by rw[aeW.1.1];rfl
theorem lK (e:Int) (w:Bs) (O:VH):VF Tryz.prog 248 [mi e,.str w] O fun r O'=>O'=O/\match r with
  | .ret _=>False
  | .panic m=>m=sH e w:=by
 refine VF.dh 8 [] Tryz.func248 ?_;refine cU @bo @wi @wd @air ?_;refine VL.panic rfl rfl rfl ?_;refine ae @wd ?_;rfl
theorem adD (s:Bs) (O:VH):VF Tryz.prog 251 [.str s] O (aH fun m O'=>m=mb true/\O.Ge O'):=by
 refine VF.dh 3 [.tmp 2] Tryz.func251 ?_;refine ae @bo ?_;exact VH.Ge.refl _
def mh (s:Bs):Bool:=s==jY||s==kR
theorem Qx (s:Bs) (O:VH):VF Tryz.prog 300 [.str s] O (aH fun m O'=>m=mb (mh s)/\O.Ge O'):=by
 unfold mh;refine VF.dh 9 [.tmp 2] Tryz.func300 ?_;cases h1:s==jY<;>cases h2:s==kR
 all_goals
  simp only[jY,kR]at h1 h2;refine aN @bo @h1 @h2 ?_;exact VH.Ge.refl _
theorem VP (s:Bs) (O:VH) (hs:s.length<=maxLen):VF Tryz.prog 301 [.str s] O (aH fun m O'=>m=mb (zW ⟨s,s⟩)/\O.Ge O'):=by
 refine VF.dh 7 [.tmp 2] Tryz.func301 ?_;refine ae @bo ?_;refine ah.rt (Gl ⟨s,s⟩ _ hs hs) ?_;rintro _ O2 ⟨rfl,hg⟩;refine ae @bo ?_;exact hg
def Mh (n:Nat):Bs:=[UInt8.ofNat (48+n % 10)]
def B_:Nat->Nat->Bs
 | 0,_=>[]
 | k+1,n=>if n=0 then[]else B_ k (n / 10)++Mh n
def ll (n:Nat):Bs:=B_ (n+1) n
theorem xX:∀(k n:Nat),n<k->B_ k n=B_ (n+1) n
 | 0,n,h=>by omega
 | k+1,n,h=>by
   rw[B_,B_];split
   ·rfl
   ·rw[xX k (n / 10) (by omega),xX n (n / 10) (by omega)]
theorem Bb {n:Nat} (h:0<n):ll n=ll (n / 10)++Mh n:=by
 unfold ll;rw[B_,if_neg (by omega),xX n (n / 10) (by omega)]
theorem rN (n:Nat):(ll n).length<=n:=by
 induction n using Nat.strongRecOn with
 | _ n ih=>
   rcases Nat.eq_zero_or_pos n with rfl | h
   ·simp[ll,B_]
   ·rw[Bb h,List.length_append];have:=ih (n / 10) (by omega);simp only[Mh,List.length_cons,List.length_nil];omega
theorem Mi (d:Nat) (h:d<10):(([48,49,50,51,52,53,54,55,56,57]:Bs).drop d).take (d+1 - d)=[UInt8.ofNat (48+d)]:=by
 rw[show d+1 - d=1 by omega];rcases(show d=0\/d=1\/d=2\/d=3\/d=4\/d=5\/d=6\/d=7\/d=8\/d=9 by omega)with rfl | rfl | rfl | rfl | rfl | rfl | rfl | rfl | rfl | rfl<;>rfl
theorem EE (n:Nat) (O:VH) (hn:n<=1000000000):VF Tryz.prog 297 [mi n] O (aH fun m O'=>m= .str (ll n)/\O'=O):=by
 have EF:=rN n;refine VF.dh 17 [.tmp 2] Tryz.func297 ?_;refine ae @bo ?_;refine WC.iG [0,3] [] (fun x:Nat×Bs=>[mi x.1,.str x.2]) (fun x O'=>O'=O/\ll n=ll x.1++x.2/\x.1<=n) (fun x=>x.1) ((n,[])) ?_ ?_
 ·exact⟨rfl,by simp,Nat.le_refl _⟩
 rintro⟨k,s⟩ O2 ⟨eO,hk,xJ⟩;dsimp only at hk xJ ⊢;rw[eO];clear eO O2
 rcases Nat.eq_zero_or_pos k with rfl | hp
 ·have h0:ll 0=[]:=rfl;rw[h0,List.nil_append]at hk;refine ae @bo ?_;exact congrArg MV.str hk.symm
 ·have hd:=Mi (k % 10) (by omega);have hl:(ll n).length=(ll k).length+s.length:=by rw[hk,List.length_append]
  have hr:(k:Int).tmod 10=((k % 10:Nat):Int):=by rw[Int.tmod_eq_emod_of_nonneg (by omega)];rfl
  have hq:(k:Int).tdiv 10=((k / 10:Nat):Int):=by rw[Int.tdiv_eq_ediv_of_nonneg (by omega)];rfl
  refine cU @bo @hr @hq @hd ?_;refine ay.next (k / 10,Mh k++s) ⟨rfl,?_,by dsimp only;omega⟩;rw[hk,Bb hp,List.append_assoc]
theorem adE {e:Int} {w:Bs}:au (sH e w)=sH e w:=by simp only[sH,wu,ar]
def kh (x:Nd) (w:Bs):List MV:=c_ x++[.str w]
def Qy:Nd:=.mk [] [] [] []
def b_ (x:Nd) (w name:Bs):Except (Int×Bs) ((Nd×Bs)×Bool):=
 match cx x name with
 | []=>.ok ((Qy,w++[47]++name),false)
 | [y]=>.ok ((y,w++[47]++name),true)
 | _=>.error (20,w++[47]++name++[91,50,93])
def FQ {α :Type} (O:VH) (f:Except (Int×Bs) α) (R: α ->MV->Prop):fO->VH->Prop:=fun r O'=>O.Ge O'/\match r,f with
 | .ret m,.ok x=>R x m
 | .panic m,.error e=>m=sH e.1 e.2
 | _,_=>False
theorem rO (x:Nd) (w name:Bs) (O:VH) (hk:x.kids.length<=1000000) (hw:w.length<=1000000) (hn:name.length<=1000000):VF Tryz.prog 249 [.agg (kh x w),.str name] O (FQ O (b_ x w name) fun y m=>m= .tuple [.agg (kh y.1.1 y.1.2),mb y.2]):=by
 refine VF.fgR ?_;have pI:=CY x name;have kU:(cx x name).length<=1000000:=Nat.le_trans (List.length_filter_le _ _) hk
 have Gn:b_ x w name=match cx x name with
  | []=>.ok ((Qy,w++[47]++name),false)
  | [y]=>.ok ((y,w++[47]++name),true)
  | _=>.error (20,w++[47]++name++[91,50,93]):=rfl
 generalize b_ x w name=F at*;generalize cx x name=K at*;obtain⟨n,a,k,t⟩:=x;simp only[kh,c_,List.cons_append,List.nil_append]at pI ⊢;refine VF.bL 34 [.cell 4 373,.tmp 5] Tryz.func249 ?_;refine VC.ag aa (ae @bo ?_);refine VC.bx ?_;rintro O1 ⟨aU,Cr,du⟩;have fK:O1.hp O.next=some (.cells [.str n,.sl a.length (a.flatMap a_) .au,.sl k.length (aB k) .au,.str t,.str w]):=(aU.hp _ (Nat.lt_succ_self _)).trans (VH.aX _ _)
 replace Cr:O1.hp (O.next+1)=some (.cells [.str [],.sl 0 [] .nil,.sl 0 [] .nil,.str [],.str []]):=Cr
 have ais:O.Ge O1:=((VH.Ge.refl O).push _).trans aU
 replace du:O1.next=O.next+2:=du
 clear aU;refine VC.ag aa (ao @bo @fK ?_);refine ah.rt (pI O1 hk) ?_;rintro _ O2 ⟨tk,rfl,aC⟩;have ki:=aC.at fK;have se:=aC.at Cr;have gE:=ais.trans aC;refine ae @bo ?_;refine VC.ag aa (ao @bo @ki ?_)
 match K,Gn with
 | [],Gn=>
   subst Gn;refine WC.sound aa (aN @bo @se @List.length_nil.{0} ?_);refine⟨gE.set (by omega) _,?_⟩;simp only[kh,Qy,c_,wu,aY];rfl
 | [.mk yn ya yk yt],Gn=>
   subst Gn;have eN:=zX (.mk yn ya yk yt);simp only[c_]at eN;have cH:aB [.mk yn ya yk yt]=[.str yn,.sl ya.length (ya.flatMap a_) .au,.sl yk.length (aB yk) .au,.str yt]:=by rw[aB,aB,List.append_nil,c_]
   rw[cH];refine WC.sound aa (cU @bo @se @List.length_cons.{0} @List.length_nil.{0} ?_);refine⟨gE.set (by omega) _,?_⟩;show _=_;rw[c_,fT,eK];rfl
 | y::z::r,Gn=>
   subst Gn;simp only[List.length_cons]at kU;refine WC.sound aa (ao @bo @List.length_cons.{0} ?_);refine ah.p (lK _ _ _) ?_ ?_
   ·rintro m O3 ⟨_,h⟩;exact h.elim
   rintro m O3 ⟨rfl,rfl⟩;refine ae @bo ?_;exact⟨gE,adE⟩
def pJ (x:Nd) (w:Bs) (empty:Bool):Except (Int×Bs) Bs:=
 if 0<(cx x []).length\/1024<(sG x).length\/(sG x=[]/\empty=false)then .error (20,w)else .ok (sG x)
theorem Mk (x:Nd) (w:Bs) (empty:Bool) (O:VH) (hk:x.kids.length<=1000000) (ht:(iI x.kids).length<=1000000000):VF Tryz.prog 272 [.agg (kh x w),mb empty] O (FQ O (pJ x w empty) fun y m=>m= .str y):=by
 have pI:=CY x [];have Z0:=ZZ x;have kU:(cx x []).length<=1000000:=Nat.le_trans (List.length_filter_le _ _) hk;have Pl:(sG x).length<=1000000000:=Nat.le_trans (Qr _) ht;unfold pJ;generalize cx x []=K at*;generalize sG x=T at*;obtain⟨n,a,k,t⟩:=x;simp only[kh,c_,List.cons_append,List.nil_append]at pI Z0 ⊢;refine VF.bL 31 [.tmp 4] Tryz.func272 ?_;refine VC.ag aa (ae @bo ?_);refine VC.bx ?_;rintro O1 ⟨aU,fK,du⟩;refine VC.ag aa (ao @bo @fK ?_);refine ah.rt (Z0 O1 hk ht) ?_;rintro _ O2 ⟨rfl,aC⟩;have ki:=aC.at fK;have jB:=aC.next;refine ae @bo ?_;refine VC.ag aa (ao @bo @ki ?_);refine ah.rt (pI O2 hk) ?_;rintro _ O3 ⟨tk,rfl,aL⟩;have kV:=aL.at ki;have eB:=(aU.trans aC).trans aL;by_cases h1:0<K.length
 ·rw[if_pos (.inl h1)];refine ao @bo @kV ?_;refine ah.p (lK _ _ _) ?_ ?_
  ·rintro m O4 ⟨_,h⟩;exact h.elim
  rintro m O4 ⟨rfl,rfl⟩;refine ae @bo ?_;exact⟨eB,rfl⟩
 by_cases h2:1024<T.length
 ·rw[if_pos (.inr (.inl h2))];refine ao @bo @kV ?_;refine ah.p (lK _ _ _) ?_ ?_
  ·rintro m O4 ⟨_,h⟩;exact h.elim
  rintro m O4 ⟨rfl,rfl⟩;refine ae @bo ?_;exact⟨eB,rfl⟩
 cases T with
 | nil=>
   cases empty
   ·rw[if_pos (.inr (.inr ⟨rfl,rfl⟩))];refine cU @bo @kV (show(([]:List UInt8)==[])=true from rfl) @List.length_nil.{0} ?_;refine ah.p (lK _ _ _) ?_ ?_
    ·rintro m O4 ⟨_,h⟩;exact h.elim
    rintro m O4 ⟨rfl,rfl⟩;refine ae @bo ?_;exact⟨eB,rfl⟩
   ·rw[if_neg (fun h=>by rcases h with h | h | ⟨_,h⟩;exact h1 h;exact h2 h;cases h)];refine cU @bo @kV (show(([]:List UInt8)==[])=true from rfl) @List.length_nil.{0} ?_;refine WC.sound aa (ae @bo ?_);exact⟨eB,rfl⟩
 | cons c T=>
   rw[if_neg (fun h=>by rcases h with h | h | ⟨h,_⟩;exact h1 h;exact h2 h;cases h)];refine aN @bo @kV (show((c::T)==[])=false from rfl) ?_;refine WC.sound aa (ae @bo ?_);exact⟨eB,rfl⟩
def ja:List (Bs×Bs)->Nat
 | []=>0
 | x::r=>1+x.1.length+x.2.length+ja r
mutual
def kj:Nd->Nat
 | .mk n a k t=>1+n.length+t.length+ja a+jO k
def jO:List Nd->Nat
 | []=>0
 | x::r=>kj x+jO r
end
theorem z_ (n:Bs) (a:List (Bs×Bs)) (k:List Nd) (t:Bs):kj (.mk n a k t)=1+n.length+t.length+ja a+jO k:=by rw[kj]
theorem Ml (x:Nd):1<=kj x:=by cases x;rw[kj];omega
theorem Bc:∀k:List Nd,k.length<=jO k
 | []=>by simp
 | x::r=>by rw[jO,List.length_cons];have:=Bc r;have:=Ml x;omega
theorem HM:∀{k:List Nd} {x:Nd},x∈k->kj x<=jO k
 | y::r,x,h=>by
   rw[jO];rcases List.mem_cons.1 h with rfl | h
   ·omega
   ·have:=HM h;omega
theorem wg (x:Nd):jO x.kids<kj x:=by cases x;rw[kj,Nd.kids];omega
theorem jU (x:Nd):x.kids.length<=kj x:=Nat.le_trans (Bc _) (Nat.le_of_lt (wg x))
theorem EG:∀k:List Nd,(iI k).length<=jO k
 | []=>by simp[iI]
 | x::r=>by
   have ih:=EG r;unfold iI at ih ⊢;rw[List.flatMap_cons,List.length_append,jO]
   have:(bif x.nm==[]then x.tx else[]).length<=kj x:=by
    cases x with
    | mk n a k t=>
      rw[kj];cases(Nd.mk n a k t).nm==[]
      ·simp
      ·show t.length<=_;omega
   omega
theorem Qz {x y:Nd} {name:Bs} (h:y∈cx x name):kj y<kj x:=Nat.lt_of_le_of_lt (HM ((List.mem_filter.1 h).1)) (wg x)
def Jj (rP:Bool) (right:Bs->Bool) (wy:Bs) (b:Bool) (T:Except (Int×Bs) Bs):Except (Int×Bs) Bs:=
 match b,T with
 | false,_=>if rP then .error (20,wy)else .ok []
 | true,.error e=>.error e
 | true,.ok s=>if right s then .ok s else .error (20,wy)
def bK (x:Nd) (w name:Bs) (rP:Bool) (right:Bs->Bool):Except (Int×Bs) Bs:=
 match b_ x w name with
 | .error e=>.error e
 | .ok y=>Jj rP right y.1.2 y.2 (pJ y.1.1 y.1.2 false)
theorem rQ {x:Nd} {w name:Bs} {y:Nd} {wy:Bs} {b:Bool} (h:b_ x w name= .ok ((y,wy),b)):kj y<=kj x/\wy=w++[47]++name:=by
 unfold b_ at h;split at h
 ·injection h with h;injection h with h _;injection h with h1 h2
  subst h1;subst h2
  exact⟨by simp only[Qy,z_,ja,jO,List.length_nil];exact Ml x,rfl⟩
 ·rename_i z hz;injection h with h;injection h with h _;injection h with h1 h2
  subst h1;subst h2
  exact⟨Nat.le_of_lt (Qz (by rw[hz];simp)),rfl⟩
 ·cases h
theorem QA {y:Nd} {w:Bs} {e:Bool} {s:Bs} (h:pJ y w e= .ok s):s.length<=1024:=by
 unfold pJ at h;split at h
 ·cases h
 ·rename_i hn;injection h with h;subst h
  exact Nat.le_of_not_lt fun hh=>hn (.inr (.inl hh))
theorem pK (x:Nd) (w name:Bs) (rP:Bool) (right:Bs->Bool) (id:FuncId) (cs:List MV) (O:VH) (hx:kj x<=1000000) (hw:w.length<=10000) (hn:name.length<=10000) (hid:c9 Tryz.prog id=true)
  (hr:∀s O',O.Ge O'->s.length<=1024->VF Tryz.prog id ([.str s]++cs) O' (aH fun m lD=>m=mb (right s)/\O'.Ge lD)):
  VF Tryz.prog 250 [.agg (kh x w),.str name,mb rP,.func (.func id) [] cs] O (FQ O (bK x w name rP right) fun y m=>m= .str y):=by
 have uT:=rO x w name;have kU:=jU x;have uU:= @rQ x w name;have uV:∀e,b_ x w name= .error e->bK x w name rP right= .error e:=fun e h=>by unfold bK;rw[h]
 have nD:∀y wy b,b_ x w name= .ok ((y,wy),b)->bK x w name rP right=Jj rP right wy b (pJ y wy false):=fun y wy b h=>by unfold bK;rw[h]
 generalize bK x w name rP right=WE at*;generalize b_ x w name=F at*;obtain⟨n,a,k,t⟩:=x;generalize hW:kj (.mk n a k t)=W at*;simp only[kh,c_,List.cons_append,List.nil_append]at uT ⊢;refine VF.bL 34 [.tmp 8] Tryz.func250 ?_;refine VC.ag aa (ae @bo ?_);refine VC.bx ?_;rintro O1 ⟨aU,fK,du⟩;refine VC.ag aa ?_;refine ao @bo @fK ?_;refine ah.p (uT O1 (by omega) (by omega) (by omega)) ?_ ?_;rotate_left
 ·rintro m O2 ⟨aC,h⟩;cases F with
  | ok y=>exact h.elim
  | error e=>
    dsimp only at h;rw[uV e rfl];refine ae @bo ?_;exact⟨aU.trans aC,h⟩
 rintro m O2 ⟨aC,h⟩;cases F with
 | error e=>exact h.elim
 | ok y=>
 obtain⟨⟨y,wy⟩,b⟩:=y;dsimp only at h;subst h;obtain⟨Z1,uW⟩:=uU rfl;rw[nD _ _ _ rfl];clear uV nD;have nW:wy.length<=30000:=by rw[uW];simp only[List.length_append,List.length_cons,List.length_nil];omega
 clear uU uW;have ait:=jU y;have uK:=Nat.le_trans (EG y.kids) (Nat.le_of_lt (wg y));have Gk:=Mk y wy false;have Pl:= @QA y wy false;generalize pJ y wy false=T at*;obtain⟨yn,ya,yk,yt⟩:=y;simp only[kh,c_,List.cons_append,List.nil_append]at Gk ⊢;refine ae @bo ?_;refine VC.al ?_;rintro O3 ⟨aL,Mm,iH⟩;have eB:=(aU.trans aC).trans aL;cases b
 ·cases rP
  ·refine WC.sound aa (ae @bo ?_);exact⟨eB,rfl⟩
  ·refine WC.sound aa (ao @bo @Mm ?_);refine ah.p (lK _ _ _) ?_ ?_
   ·rintro m O9 ⟨_,h⟩;exact h.elim
   rintro m O9 ⟨rfl,rfl⟩;refine ae @bo ?_;exact⟨eB,rfl⟩
 ·refine WC.sound aa (ao @bo @Mm ?_);refine ah.p (Gk O3 (by omega) (by omega)) ?_ ?_;rotate_left
  ·rintro m O4 ⟨aZ,h⟩;cases T with
   | ok s=>exact h.elim
   | error e=>
     dsimp only at h;refine ae @bo ?_;exact⟨eB.trans aZ,h⟩
  rintro m O4 ⟨aZ,h⟩;cases T with
  | error e=>exact h.elim
  | ok s=>
  dsimp only at h;subst h;have Z2:=aZ.at Mm;have gZ:=eB.trans aZ;have ib:=aZ.next;refine ae @bo ?_;refine ah.rt (hr s O4 gZ (Pl rfl)) ?_ (hb:=hid);rintro _ O5 ⟨rfl,bz⟩;have hy5:=bz.at Z2;unfold Jj;dsimp only;cases right s
  ·refine ao @bo @hy5 ?_;refine ah.p (lK _ _ _) ?_ ?_
   ·rintro m O9 ⟨_,h⟩;exact h.elim
   rintro m O9 ⟨rfl,rfl⟩;refine ae @bo ?_;exact⟨gZ.trans bz,rfl⟩
  ·refine ao @bo @hy5 ?_;exact⟨gZ.trans bz,rfl⟩
section
variable {G H:Gh} {n:Sz} {D:List Deferred} {e e':Env} {a:Act} {P:Program} {tab:bV} {O O':VH} {w:World} {m m':MV} {u v:Value} {ops:Array Oper} {Q:VQ} {md:Md}
theorem ab.pair {brk:List Nat} {Ψ :Gh->Prop} {J:VH->Prop} {Z:Prop} {fuel i j:Nat} {listed:Array Bool}
  (h1:aI P n D ops i e O Q fun e' O'=>J O'/\ab P n D ops brk J Ψ Z fuel (listed.setIfInBounds i true) e' O' Q) (h2:aI P n D ops j e O Q fun e' O'=>J O'/\ab P n D ops brk J Ψ Z fuel (listed.setIfInBounds j true) e' O' Q) (hr:Region.ready .any ops listed=[i,j]:=by kernel_rfl):ab P n D ops brk J Ψ Z (fuel+1) listed e O Q:=by
 intro hΨ hZ hJ G a w hψ hw aS
 have key:∀x,(aI P n D ops x e O Q fun e' O'=>J O'/\ab P n D ops brk J Ψ Z fuel (listed.setIfInBounds x true) e' O' Q)->wpOp P ops (cg G n D Q) x (fun a' w'=>TE brk G J x w'/\iT P .any ops (cg G n D Q) (TE brk G J) fuel (listed.setIfInBounds x true) a' w') a w:=fun x h=>
  wpOp_mono (fun a' w' ⟨e',O',H,h1,h2,h3,h4,h5⟩=>⟨TE.mk ⟨H,O',h1,h2,h4⟩,jo (fun _ _ _=>cg.le h1) _ _ _ _ (fun k _ x hT=>hT.le h1) (h5 hΨ hZ h4 H a' w' (hΨ _ _ h1 hψ) h2 h3)⟩) (h G a w hw aS)
 refine jn hr (by simp) fun x hx=>?_
 simp only[List.mem_cons,List.not_mem_nil,or_false]at hx;rcases hx with rfl | rfl
 ·exact key _ h1
 ·exact key _ h2
theorem aI.jA {i:Nat} {l:List Oper} {d:Option Tmp} {f:Operand} {xs:Array Operand} {ts:Array TypeId} {ty:TypeId} {ps:String} {af:Array Edge} {g:Option (Nat×Bool)} {id:FuncId} {ms:List MV} {Φ :MV->VH->Prop} {K:Env->VH->Prop} (hR:VF P id ms O (aH Φ))
  (h:∀m O', Φ m O'->K (aV d m e) O') (ho:l[i]?=some (.mk d (.call {callee:=.value f,args:=xs,argTypes:=ts}) ty ps af g):=by exact rfl) (hg:aK ⟨l⟩ (.mk d (.call {callee:=.value f,args:=xs,argTypes:=ts}) ty ps af g) e=some true:=by exact rfl) (hf:ev e f=some (.func (.func id) [] []):=by exact rfl) (hm:fE e xs.toList=some ms:=by exact rfl) (hb:c9 P id=true:=by kernel_rfl) (hd:bh n d=true:=by exact rfl):aI P n D ⟨l⟩ i e O Q K:=
 aI.call (o:=.mk d (.call {callee:=.value f,args:=xs,argTypes:=ts}) ty ps af g) (by simpa using ho) hg rfl rfl hf hm (Enters.sr hb) hd (by simpa using hR) fun r O' hr=>by
  cases r with
  | ret m=>exact h m O' hr
  | panic m=>exact hr.elim
end
def CZ (w name:Bs) (i:Nat):Bs:=w++[47]++name++[91]++ll (i+1)++[93]
def pL (w name:Bs) (K:List Nd):List (Nd×Bs):=K.mapIdx fun i y=>(y,CZ w name i)
def tE (L:List (Nd×Bs)):List MV:=L.flatMap fun p=>kh p.1 p.2
def mS (x:Nd) (w name:Bs):Except (Int×Bs) (List (Nd×Bs)):=if 1024<(cx x name).length then .error (2,w)else .ok (pL w name (cx x name))
theorem EH (p:Nd×Bs):(kh p.1 p.2).length=5:=by rw[kh,List.length_append,lH];rfl
theorem wh (L:List (Nd×Bs)):(tE L).length=L.length*5:=aJ EH L
theorem Mn (x:Nd) (w:Bs):cI (kh x w)=kh x w:=by simp only[kh,wu,zX]
theorem HN (L:List (Nd×Bs)):cI (tE L)=tE L:=kD (fun p=>Mn p.1 p.2) L
theorem QB {w name:Bs} {K:List Nd} {j:Nat} (h:j<K.length):pL w name (K.take (j+1))=pL w name (K.take j)++[(K[j],CZ w name j)]:=by
 unfold pL;rw[cQ _ _ h,List.mapIdx_append];simp[List.length_take,Nat.min_eq_left (Nat.le_of_lt h)]
theorem HO (w name:Bs) (K:List Nd):(pL w name K).length=K.length:=by simp[pL]
theorem SJ (x:Nd) (w name:Bs) (O:VH) (hx:kj x<=1000000) (hw:w.length<=10000) (hn:name.length<=10000):
  VF Tryz.prog 275 [.agg (kh x w),.str name] O (FQ O (mS x w name) fun y m=>∃tk,m= .sl y.length (tE y) tk):=by
 have pI:=CY x name;have kU:=jU x;have hKl:(cx x name).length<=1000000:=Nat.le_trans (List.length_filter_le _ _) (by omega);unfold mS;generalize cx x name=K at*;obtain⟨n,a,k,t⟩:=x;generalize hW:kj (.mk n a k t)=W at*;simp only[kh,c_,List.cons_append,List.nil_append]at pI ⊢;refine VF.bL 43 [.tmp 4] Tryz.func275 ?_;refine VC.ag aa (ae @bo ?_);refine VC.bx ?_;rintro O1 ⟨aU,fK,du⟩;refine VC.ag aa (ao @bo @fK ?_);refine ah.rt (pI O1 (by omega)) ?_;rintro _ O2 ⟨tk,rfl,aC⟩;have ki:=aC.at fK;have jB:=aC.next;have gE:=aU.trans aC;refine ae @bo ?_;by_cases Mo:1024<K.length
 ·rw[if_pos Mo];refine VC.ag aa (ao @bo @ki ?_);refine ah.p (lK _ _ _) ?_ ?_
  ·rintro m O9 ⟨_,h⟩;exact h.elim
  rintro m O9 ⟨rfl,rfl⟩;refine ae @bo ?_;exact⟨gE,rfl⟩
 rw[if_neg Mo];refine VC.ag aa (ao @bo @ki ?_);refine VC.join aa [4] (fun tl:Tok=>[.sl (pL w name K).length (tE (pL w name K)) tl]) (fun tl O'=>O.Ge O') ?_ ?_;rotate_left
 ·intro tl O9 bk;refine ae @bo ?_;exact⟨bk,tl,rfl⟩
 refine VC.ag aa (ae @bo ?_);refine VC.az ?_;refine VC.bq [4,20] [1,2,18,19] (fun x:Nat×Tok=>[.sl (pL w name (K.take x.1)).length (tE (pL w name (K.take x.1))) x.2,mi x.1]) (fun x O'=>O2.Ge O'/\App O' O2.next 5 x.2/\x.1<=K.length) (fun x=>K.length - x.1) ((0,.nil)) ?_ ?_
 ·exact⟨VH.Ge.refl _,trivial,Nat.zero_le _⟩
 rintro⟨j,tl⟩ O3 ⟨aL,cB,hj⟩;dsimp only at cB hj ⊢;by_cases bf:j<K.length;rotate_left
 ·obtain rfl:j=K.length:=by omega
  rw[List.take_length];refine WC.sound aa (ae @bo ?_);exact aA.mk tl (gE.trans aL)
 have br:=bB lH K j bf;rw[<-pF]at br;have SH:=cR K;have i_:=QB (w:=w) (name:=name) bf;have Gm:(pL w name (K.take j)).length<=1000000:=by rw[HO,List.length_take];omega
 generalize K[j]=y at*;generalize pL w name (K.take j)=E at*;have EF:=rN (j+1);have eN:=Mn y (CZ w name j);obtain⟨yn,ya,yk,yt⟩:=y;simp only[kh,c_,List.cons_append,List.nil_append]at br eN;have kV:=aL.at ki;have iH:=aL.next;refine VC.ag aa (ae @bo ?_);refine VC.ag aa (ae @bo ?_);refine VC.bj (VC.az ?_);refine VC.ag aa (ao @bo @br ?_);refine VC.al ?_;rintro O4 ⟨aZ,mA,ib⟩;have iy:=aZ.at kV;have mT:=cB.ge aZ;have SK:=aL.trans aZ;have cY:((j:Int)+1)=((j+1:Nat):Int):=by omega
 refine VC.nB [15,16] ?_;refine ab.aw 0 ?_;refine ae @bo ?_;refine ab.aw 2 ?_;refine ae @bo ?_;refine ab.ld (m:=.str w) 3 ?_ ?_
 ·exact dq @bo @iy
 simp only[aj];refine ab.aw 4 ?_;refine ae @bo ?_;refine ab.aw 5 ?_;refine ae @bo ?_;refine ab.aw 6 ?_;refine ae @bo ?_;refine ab.aw 7 ?_;refine ae @bo ?_;refine ab.aw 8 ?_;refine ae @bo ?_;refine ab.aw 9 ?_;refine ao @bo @cY ?_;refine ab.pair (i:=1) (j:=10) ?_ ?_
 ·refine aI.o1 ?_;refine ao @bo @mA ?_;refine⟨VH.Ge.refl _,?_⟩;refine ab.call (i:=10) (EE (j+1) O4 (by omega)) ?_;rintro _ O5 ⟨rfl,eO⟩;simp only[aj];rw[eO];clear eO O5
  refine⟨VH.Ge.refl _,?_⟩;refine ab.aw 11 ?_;refine ae @bo ?_;refine ab.aw 12 ?_;refine ae @bo ?_;refine ab.aw 13 ?_;refine ae @bo ?_;refine ab.op (i:=14) ?_;refine ae @bo ?_;refine⟨VH.Ge.refl _,?_⟩;refine ab.bH [(15,.one),(16,.aw)] ?_;refine ae @bo ?_;obtain⟨mE,gj,kS⟩:=fS (n:=E.length) (cs:=tE E) (ds:=[.str yn,.sl ya.length (ya.flatMap a_) .au,.sl yk.length (aB yk) .au,.str yt,.str (w++[47]++name++[91]++ll (j+1)++[93])]) ZJ ZI.1.1 mT (wh E) rfl rfl (by decide) (by omega) (by simp only[maxLen];omega) (HN E) eN;refine VL.k_ gj kS ?_;refine ae @bo ?_;refine WC.sound aa (ae @bo ?_);exact ay.next (j+1,.own O4.next 5) ⟨cA.dS SK mT (cA.after mT),App.after SK.next,bf⟩ (hl:=(by dsimp only;rw[i_,List.length_append];unfold tE;rw[List.flatMap_append];rfl))
 ·refine aI.jA (EE (j+1) O4 (by omega)) ?_;rintro _ O5 ⟨rfl,eO⟩;rw[eO];clear eO O5
  simp only[aj];refine⟨VH.Ge.refl _,?_⟩;refine ab.aw 11 ?_;refine ae @bo ?_;refine ab.aw 12 ?_;refine ae @bo ?_;refine ab.op (i:=1) ?_;refine ao @bo @mA ?_;refine⟨VH.Ge.refl _,?_⟩;refine ab.aw 13 ?_;refine ae @bo ?_;refine ab.op (i:=14) ?_;refine ae @bo ?_;refine⟨VH.Ge.refl _,?_⟩;refine ab.bH [(15,.one),(16,.aw)] ?_;refine ae @bo ?_;obtain⟨mE,gj,kS⟩:=fS (n:=E.length) (cs:=tE E) (ds:=[.str yn,.sl ya.length (ya.flatMap a_) .au,.sl yk.length (aB yk) .au,.str yt,.str (w++[47]++name++[91]++ll (j+1)++[93])]) ZJ ZI.1.1 mT (wh E) rfl rfl (by decide) (by omega) (by simp only[maxLen];omega) (HN E) eN;refine VL.k_ gj kS ?_;refine ae @bo ?_;refine WC.sound aa (ae @bo ?_);exact ay.next (j+1,.own O4.next 5) ⟨cA.dS SK mT (cA.after mT),App.after SK.next,bf⟩ (hl:=(by dsimp only;rw[i_,List.length_append];unfold tE;rw[List.flatMap_append];rfl))
def kW (w:Bs):Nat×Bool:=
 if w=eY 1 then(1,true)else if w=eY 2 then(2,true)else if w=eY 3 then(3,true)else if w=eY 4 then(4,true)else if w=eY 5 then(5,true)else if w=eY 6 then(6,true)else(0,false)
def fa (w:Bs):Nat->Nat->Nat×Bool
 | 0,_=>(0,false)
 | k+1,j=>if j≠0/\eY j=w then(j,true)else fa w k (j+1)
theorem QC (w:Bs):kW w=fa w 7 0:=by
 unfold kW fa fa fa fa fa fa fa fa;simp only[eq_comm (a:=w)];simp
theorem Mp (w:Bs) (O:VH):VF Tryz.prog 298 [.str w] O (aH fun m O'=>m= .tuple [mi (kW w).1,mb (kW w).2]/\O'=O):=by
 rw[QC];refine VF.dh 18 [.tmp 2,.tmp 3] Tryz.func298 ?_;refine ae @bo ?_;refine WC.iG [5] [0] (fun j:Nat=>[mi j]) (fun j O'=>O'=O/\j<=7/\fa w 7 0=fa w (7 - j) j) (fun j=>7 - j) (0) ?_ ?_
 ·exact⟨rfl,Nat.zero_le _,rfl⟩
 rintro j O2 ⟨eO,hj,hs⟩;rw[eO];clear eO O2
 by_cases h7:j<7
 ·have c5:fa w (7 - j) j=if j≠0/\eY j=w then(j,true)else fa w (7 - (j+1)) (j+1):=by
   obtain⟨d,hd⟩:∃d,7 - j=d+1:=⟨6 - j,by omega⟩
   rw[hd,show 7 - (j+1)=d by omega];rfl
  rw[c5]at hs;by_cases h0:j=0
  ·rw[if_neg (fun h=>h.1 h0)]at hs;refine ae @bo ?_;exact ay.next (j+1) ⟨rfl,h7,hs⟩
  ·refine ae @bo ?_;refine ah.rt (SE j _) ?_;rintro _ O3 ⟨rfl,eO⟩;rw[eO];clear eO O3
   cases hw:eY j==w
   ·rw[if_neg (fun h=>by rw[h.2]at hw;simp at hw)]at hs;refine ao @bo @hw ?_;exact ay.next (j+1) ⟨rfl,h7,hs⟩
   ·rw[if_pos ⟨h0,eq_of_beq hw⟩]at hs;rw[hs];exact dq @bo @hw
 ·obtain rfl:j=7:=by omega
  rw[hs];refine ae @bo ?_;rfl
def dH (s p:Bs):Bool:=s.take p.length==p
theorem VS {s p:Bs} (h:¬p.length<=s.length):dH s p=false:=by
 unfold dH;rw[beq_eq_false_iff_ne];intro e;have:=congrArg List.length e;rw[List.length_take]at this;omega
theorem Gp (s p:Bs) (O:VH):VF Tryz.prog 137 [.str s,.str p] O (aH fun m O'=>m=mb (dH s p)/\O'=O):=by
 refine VF.dh 18 [.tmp 4] Tryz.func137 ?_;by_cases h:p.length<=s.length
 ·have e:(s.take p.length==p)=dH s p:=rfl;generalize dH s p=b at*;cases b
  ·exact dq @bo @e
  ·exact dq @bo @e
 ·rw[VS h];exact fp @bo
theorem mU (s p:Bs) (O:VH):VF Tryz.prog 103 [.str s,.str p] O (aH fun m O'=>m=mb (dH s p)/\O'=O):=by
 refine VF.dh 8 [.tmp 4] Tryz.func103 ?_;refine ae @bo ?_;refine ah.rt (Gp s p _) ?_;rintro _ O2 ⟨rfl,rfl⟩;exact fp @bo
set_option linter.defProp false in
def dY:=And.intro bo<|And.intro dG<|And.intro aeV ahV
section
variable {P:Program} {n:Sz} {D:List Deferred} {e:Env} {O:VH} {Q:VQ}
theorem ab.pM {brk:List Nat} {Ψ :Gh->Prop} {J:VH->Prop} {Z:Prop} {fuel i:Nat} {listed:Array Bool} {l:List Oper} {d:Option Tmp} {f:Operand} {xs:Array Operand} {ts:Array TypeId} {ty:TypeId} {ps:String} {af:Array Edge} {g:Option (Nat×Bool)} {id:FuncId} {ms cs:List MV} {R:fO->VH->Prop} (hR:VF P id (ms++cs) O R)
  (h:∀m O',R (.ret m) O'->J O'/\ab P n D ⟨l⟩ brk J Ψ Z fuel (listed.setIfInBounds i true) (aV d m e) O' Q) (h2:∀m O',R (.panic m) O'->Q (.panic m) (ky n e) O') (hr:Region.ready .any ⟨l⟩ listed=[i]:=by kernel_rfl) (ho:l[i]?=some (.mk d (.call {callee:=.value f,args:=xs,argTypes:=ts}) ty ps af g):=by exact rfl) (hg:aK ⟨l⟩ (.mk d (.call {callee:=.value f,args:=xs,argTypes:=ts}) ty ps af g) e=some true:=by exact rfl) (hf:ev e f=some (.func (.func id) [] cs):=by exact rfl) (hm:fE e xs.toList=some ms:=by exact rfl) (hb:c9 P id=true:=by kernel_rfl) (hd:bh n d=true:=by exact rfl):ab P n D ⟨l⟩ brk J Ψ Z (fuel+1) listed e O Q:=
 ab.one (aI.call (o:=.mk d (.call {callee:=.value f,args:=xs,argTypes:=ts}) ty ps af g) (by simpa using ho) hg rfl rfl hf hm (Enters.sr hb) hd (by simpa using hR) fun r O' hr=>by
  cases r with
  | ret m=>exact h m O' hr
  | panic m=>exact h2 m O' hr) (hr:=hr)
end
def idxFrom {α :Type} (p: α ->Bool):Nat->List α ->Int
 | _,[]=> -1
 | i,x::r=>if p x then i else idxFrom p (i+1) r
theorem Aa {α :Type} (p: α ->Bool):∀(L:List α) (i:Nat),decide (idxFrom p i L>=0)=L.any p
 | [],i=>rfl
 | x::r,i=>by
   rw[idxFrom,List.any_cons];cases h:p x
   ·simp[Aa p r]
   ·simp
theorem SL (L:List (Bs×Bs)) (tk:Tok) (id:FuncId) (cs:List MV) (p:Bs×Bs->Bool) (O:VH) (hid:c9 Tryz.prog id=true) (hc:∀x∈L,∀O',O.Ge O'->VF Tryz.prog id ([.agg (a_ x)]++cs) O' (aH fun m lD=>m=mb (p x)/\O'.Ge lD)) (hn:L.length<=1000000):
  VF Tryz.prog 227 [.sl L.length (L.flatMap a_) tk,.func (.func id) [] cs] O (aH fun m O'=>m=mi (idxFrom p 0 L)/\O.Ge O'):=by
 have dK:=aJ eZ L;refine VF.dh 19 [.tmp 4] Tryz.func227 ?_;refine ae @dY ?_;refine WC.iG [8] [0,1,7] (fun j:Nat=>[mi j]) (fun j O'=>O.Ge O'/\j<=L.length/\idxFrom p 0 L=idxFrom p j (L.drop j)) (fun j=>L.length - j) (0) ?_ ?_
 ·exact⟨VH.Ge.refl _,Nat.zero_le _,rfl⟩
 rintro j O2 ⟨aC,hj,cu⟩;by_cases h2:j<L.length
 ·have br:=bB eZ L j h2;have Z3:=hc L[j] (List.getElem_mem h2) O2 aC;rw[List.drop_eq_getElem_cons h2,idxFrom]at cu;generalize L[j]=y at*;refine ao @dY @br ?_;refine ah.rt Z3 ?_ (hb:=hid);rintro _ O3 ⟨rfl,aL⟩;cases hi:p y
  ·rw[hi]at cu;refine ae @dY ?_;exact ay.next (j+1) ⟨aC.trans aL,by omega,cu⟩
  ·rw[hi,if_pos rfl]at cu;rw[cu];refine ae @dY ?_;exact aC.trans aL
 ·obtain rfl:j=L.length:=by omega
  rw[List.drop_of_length_le (by omega)]at cu;rw[cu];refine ae @dY ?_;exact⟨rfl,aC⟩
theorem adF (L:List (Bs×Bs)) (tk:Tok) (id:FuncId) (cs:List MV) (p:Bs×Bs->Bool) (O:VH) (hid:c9 Tryz.prog id=true) (hc:∀x∈L,∀O',O.Ge O'->VF Tryz.prog id ([.agg (a_ x)]++cs) O' (aH fun m lD=>m=mb (p x)/\O'.Ge lD)) (hn:L.length<=1000000):
  VF Tryz.prog 273 [.sl L.length (L.flatMap a_) tk,.func (.func id) [] cs] O (aH fun m O'=>m=mb (L.any p)/\O.Ge O'):=by
 rw[<-Aa p L 0];refine VF.dh 9 [.tmp 4] Tryz.func273 ?_;refine ae @dY ?_;refine ah.rt (SL L tk id cs p O hid hc hn) ?_;rintro _ O2 ⟨rfl,aC⟩;refine ae @dY ?_;exact aC
theorem VT (x:Bs×Bs) (k:Nat) (yn:Bs) (a b c:MV) (O:VH) (hk:O.hp k=some (.cells [.str yn,a,b,c])) (xJ:k<O.next):VF Tryz.prog 274 [.agg (a_ x),.ptr k 0] O (aH fun m O'=>m=mb (x.1==yn)/\O.Ge O'):=by
 obtain⟨x1,x2⟩:=x;unfold a_;refine VF.bL 9 [.tmp 3] Tryz.func274 ?_;refine VC.ag aa (ae @dY ?_);refine VC.bx ?_;rintro O1 ⟨aU,fK,du⟩;have dN:=(aU.hp k xJ).trans hk;refine WC.sound aa (aN @dY @fK @dN ?_);exact aU
def sI (wy:Bs):List Nd->List (Bs×Bs)->Except (Int×Bs) (List (Bs×Bs))
 | [],L=>.ok L
 | k::r,L=>bif L.any (·.1==k.nm)then .error (20,wy++[47]++k.nm++[91,50,93])else match pJ k (wy++[47]++k.nm) true with
   | .error e=>.error e
   | .ok s=>sI wy r (L++[(k.nm,s)])
def kX (x:Nd) (w:Bs):Except (Int×Bs) (List (Bs×Bs)):=
 match b_ x w kT with
 | .error e=>.error e
 | .ok ((_,_),false)=>.ok []
 | .ok ((y,wy),true)=>if 1024<(cx y []).length then .error (2,wy)else sI wy (cx y []) []
theorem Z4 (x:Nd) (w:Bs) (O:VH) (hx:kj x<=1000000) (hw:w.length<=10000):
  VF Tryz.prog 252 [.agg (kh x w)] O (FQ O (kX x w) fun y m=>∃tk,m= .sl y.length (y.flatMap a_) tk):=by
 have uT:=rO x w kT;have kU:=jU x;have uU:= @rQ x w kT;have uV:∀e,b_ x w kT= .error e->kX x w= .error e:=fun e h=>by unfold kX;rw[h]
 have nD:∀y wy,b_ x w kT= .ok ((y,wy),false)->kX x w= .ok []:=fun y wy h=>by unfold kX;rw[h]
 have iJ:∀y wy,b_ x w kT= .ok ((y,wy),true)->kX x w=if 1024<(cx y []).length then .error (2,wy)else sI wy (cx y []) []:=fun y wy h=>by unfold kX;rw[h]
 generalize kX x w=PE at*;generalize b_ x w kT=F at*;obtain⟨n,a,k,t⟩:=x;generalize hW:kj (.mk n a k t)=W at*;simp only[kh,c_,List.cons_append,List.nil_append]at uT ⊢;refine VF.bL 55 [.tmp 2] Tryz.func252 ?_;refine VC.ag aa (ae @dY ?_);refine VC.bx ?_;rintro O1 ⟨aU,fK,du⟩;refine VC.ag aa (ao @dY @fK ?_);refine ah.p (uT O1 (by omega) (by omega) (by decide)) ?_ ?_;rotate_left
 ·rintro m O2 ⟨aC,h⟩;cases F with
  | ok y=>exact h.elim
  | error e=>
    dsimp only at h;rw[uV e rfl];refine ae @dY ?_;exact⟨aU.trans aC,h⟩
 rintro m O2 ⟨aC,h⟩;cases F with
 | error e=>exact h.elim
 | ok y=>
 obtain⟨⟨y,wy⟩,b⟩:=y;dsimp only at h;subst h;obtain⟨Z1,uW⟩:=uU rfl;have nW:wy.length<=30000:=by rw[uW];simp only[List.length_append,List.length_cons,List.length_nil];omega
 clear uU uW uV;have pI:=CY y [];have ait:=jU y;have hKm:∀z∈cx y [],kj z<=1000000:=fun z hz=>by have:=Qz hz;omega
 have hKl:(cx y []).length<=1000000:=Nat.le_trans (List.length_filter_le _ _) (by omega)
 replace iJ:b=true->PE=if 1024<(cx y []).length then .error (2,wy)else sI wy (cx y []) []:=fun h=>by subst h;exact iJ y wy rfl
 replace nD:b=false->PE= .ok []:=fun h=>by subst h;exact nD y wy rfl
 generalize cx y []=K at*;obtain⟨yn,ya,yk,yt⟩:=y;simp only[kh,c_,List.cons_append,List.nil_append]at pI ⊢;have gE:=aU.trans aC;refine ae @dY ?_;refine VC.al ?_;rintro O3 ⟨aL,Mm,iH⟩;have eB:=gE.trans aL;cases b
 ·rw[nD rfl];refine WC.sound aa (ae @dY ?_);exact⟨eB,.nil,rfl⟩
 replace iJ:=iJ rfl
 clear nD;refine VC.ag aa (ae @dY ?_);refine VC.ag aa (ao @dY @Mm ?_);refine ah.rt (pI O3 (by omega)) ?_;rintro _ O4 ⟨tk,rfl,aZ⟩;have Z2:=aZ.at Mm;have gZ:=eB.trans aZ;have ib:=aZ.next;refine ae @dY ?_;by_cases Mo:1024<K.length
 ·rw[if_pos Mo]at iJ;rw[iJ];refine VC.ag aa (ao @dY @Z2 ?_);refine ah.p (lK _ _ _) ?_ ?_
  ·rintro m O9 ⟨_,h⟩;exact h.elim
  rintro m O9 ⟨rfl,rfl⟩;refine ae @dY ?_;exact⟨gZ,rfl⟩
 rw[if_neg Mo]at iJ;refine VC.ag aa (ao @dY @Z2 ?_);refine VC.join aa [2] (fun x:List (Bs×Bs)×Tok=>[.sl x.1.length (x.1.flatMap a_) x.2]) (fun x O'=>O.Ge O'/\PE= .ok x.1) ?_ ?_;rotate_left
 ·rintro⟨L,tl⟩ O9 ⟨bk,hP⟩;rw[hP];refine ae @dY ?_;exact⟨bk,tl,rfl⟩
 refine VC.ag aa (ae @dY ?_);refine VC.az ?_;refine VC.bq [2,27] [3,25,26] (fun x:Nat×List (Bs×Bs)×Tok=>[.sl x.2.1.length (x.2.1.flatMap a_) x.2.2,mi x.1]) (fun x O'=>O4.Ge O'/\App O' O4.next 2 x.2.2/\x.1<=K.length/\x.2.1.length=x.1/\PE=sI wy (K.drop x.1) x.2.1) (fun x=>K.length - x.1) ((0,[],.nil)) ?_ ?_
 ·exact⟨VH.Ge.refl _,trivial,Nat.zero_le _,rfl,iJ⟩
 rintro⟨j,L,tl⟩ O5 ⟨bz,cB,hj,om,hP⟩;dsimp only at cB hj om hP ⊢;by_cases bf:j<K.length;rotate_left
 ·obtain rfl:j=K.length:=by omega
  rw[List.drop_of_length_le (Nat.le_refl _),sI]at hP;refine WC.sound aa (ae @dY ?_);exact aA.mk (L,tl) ⟨gZ.trans bz,hP⟩
 have br:=bB lH K j bf;rw[<-pF]at br;have SH:=cR K;rw[List.drop_eq_getElem_cons bf,sI]at hP;have Z5:=hKm K[j] (List.getElem_mem bf);generalize K[j]=z at*;have uK:=Mk z (wy++[47]++z.nm) true;have hkz:=jU z;have htz:=Nat.le_trans (EG z.kids) (Nat.le_of_lt (wg z))
 have aiu:z.nm.length<=1000000:=by cases z with
  | mk n a k t=>rw[z_]at Z5;show n.length<=_;omega
 generalize pJ z (wy++[47]++z.nm) true=T at*;obtain⟨zn,za,cM,zt⟩:=z;simp only[kh,c_,Nd.nm,List.cons_append,List.nil_append]at br uK hP aiu;have hy5:=bz.at Z2;have gD:=bz.next;refine VC.ag aa (ae @dY ?_);refine VC.ag aa (ae @dY ?_);refine VC.bj (VC.az ?_);refine VC.ag aa (ao @dY @br ?_);refine VC.al ?_;rintro O6 ⟨dL,mA,lS⟩;have Z6:=dL.at hy5;have nV:=cB.ge dL;have pN:=bz.trans dL;have cY:((j:Int)+1)=((j+1:Nat):Int):=by omega
 refine VC.ag aa (aN @dY @Z6 @mA ?_);refine VC.ag aa (ae @dY ?_);refine ah.rt (adF L tl 274 [.ptr O5.next 0] (fun q=>q.1==zn) O6 (by kernel_rfl) (fun q _ O' Jk=>VT q _ zn _ _ _ O' (Jk.at mA) (by have:=Jk.next;omega)) (by omega)) ?_;rintro _ O7 ⟨rfl,dM⟩;have Ca:=(gZ.trans pN).trans dM;have hy7:=dM.at Z6;have tT:=dM.at mA;have rM:=dM.next;have jP:=nV.ge dM;refine ae @dY ?_;cases jr:L.any fun q=>q.1==zn
 rotate_left
 ·rw[jr,cond_true]at hP;rw[hP];refine ae @dY ?_;refine ah.p (lK _ _ _) ?_ ?_
  ·rintro m O9 ⟨_,h⟩;exact h.elim
  rintro m O9 ⟨rfl,rfl⟩;refine ae @dY ?_;exact⟨Ca,rfl⟩
 rw[jr,cond_false]at hP;refine ae @dY ?_;refine VC.nB [9,10] ?_;refine ab.aw 0 ?_;refine ae @dY ?_;refine ab.aw 1 ?_;refine ae @dY ?_;refine ab.ld (m:=.str zn) 2 ?_ ?_
 ·exact dq @dY @tT
 simp only[aj];refine ab.aw 4 ?_;refine ae @dY ?_;refine ab.op (i:=3) ?_;refine ao @dY @tT ?_;refine⟨VH.Ge.refl _,?_⟩;refine ab.aw 5 ?_;refine ae @dY ?_;refine ab.pM (i:=6) (uK O7 (by omega) (by omega)) ?_ ?_;rotate_left
 ·rintro m O8 ⟨gY,h⟩;cases T with
  | ok s=>exact h.elim
  | error e=>
    dsimp only at h hP;rw[hP];refine ae @dY ?_;exact⟨Ca.trans gY,h⟩
 rintro m O8 ⟨gY,h⟩;cases T with
 | error e=>exact h.elim
 | ok s=>
 dsimp only at h hP;subst h;simp only[aj];refine⟨gY,?_⟩;refine ab.aw 7 ?_;refine ae @dY ?_;refine ab.op (i:=8) ?_;refine ae @dY ?_;refine⟨gY,?_⟩;refine ab.bH [(9,.one),(10,.aw)] ?_;refine ae @dY ?_;obtain⟨mE,gj,kS⟩:=fS (n:=L.length) (cs:=L.flatMap a_) (ds:=[.str zn,.str s]) (es:=a_ (zn,s)) zQ B7.1.1 (jP.ge gY) (aJ eZ L) rfl rfl (by decide) (by omega) (by simp only[maxLen];omega) (fT L) (by simp only[a_,wu]);refine VL.k_ gj kS ?_;refine ae @dY ?_;refine WC.sound aa (ae @dY ?_);exact ay.next (j+1,L++[(zn,s)],.own O8.next 2) ⟨cA.dS ((pN.trans dM).trans gY) (jP.ge gY) (cA.after (jP.ge gY)),App.after (by have:=gY.next;omega),bf,by dsimp only;rw[List.length_append,om];rfl,hP⟩ (hl:=(by dsimp only;rw[List.length_append,List.flatMap_append,cY];rfl))
section
variable {P:Program} {tab:bV} {n:Sz} {D:List Deferred} {md:Md} {ops:Array Oper} {Q:VQ} {f:Fl} {o:Oper} {L:List (Fl×Oper)} {e:Env} {O:VH} {r:Option (MV×VH)} {b:Bool} {c:Code}
theorem QD (h:WL P tab n D md ops Q L e O):WL P tab n D md ops Q L e O:=h
theorem QF (h:W2 P tab n D md ops Q f o L e O r):W2 P tab n D md ops Q f o L e O r:=h
theorem QG (h:W3 P tab n D md ops Q L e O b):W3 P tab n D md ops Q L e O b:=h
theorem QH (h:WC P tab n D c e O Q):WC P tab n D c e O Q:=h
end
section
variable {A1 A2 A3 A4 A5 A6 A7 P Q:Prop}
theorem gu (a1:A1) (q:Q) (h:A1->Q->P:=by intro a1 q;first | (with_reducible refine VC.ag aa ?_;refine ae a1 q) | (with_reducible refine WC.sound aa ?_;refine ae a1 q) | (first | with_reducible refine QD ?_ | with_reducible refine QF ?_ | with_reducible refine QG ?_ | with_reducible refine QH ?_);refine ae a1 q):P:=h a1 q
theorem pO (a1:A1) (a2:A2) (q:Q) (h:A1->A2->Q->P:=by intro a1 a2 q;first | (with_reducible refine VC.ag aa ?_;refine ao a1 a2 q) | (with_reducible refine WC.sound aa ?_;refine ao a1 a2 q) | (first | with_reducible refine QD ?_ | with_reducible refine QF ?_ | with_reducible refine QG ?_ | with_reducible refine QH ?_);refine ao a1 a2 q):P:=h a1 a2 q
theorem kg3 (a1:A1) (a2:A2) (a3:A3) (q:Q) (h:A1->A2->A3->Q->P:=by intro a1 a2 a3 q;first | (with_reducible refine VC.ag aa ?_;refine aN a1 a2 a3 q) | (with_reducible refine WC.sound aa ?_;refine aN a1 a2 a3 q) | (first | with_reducible refine QD ?_ | with_reducible refine QF ?_ | with_reducible refine QG ?_ | with_reducible refine QH ?_);refine aN a1 a2 a3 q):P:=h a1 a2 a3 q
theorem kg4 (a1:A1) (a2:A2) (a3:A3) (a4:A4) (q:Q) (h:A1->A2->A3->A4->Q->P:=by intro a1 a2 a3 a4 q;first | (with_reducible refine VC.ag aa ?_;refine cU a1 a2 a3 a4 q) | (with_reducible refine WC.sound aa ?_;refine cU a1 a2 a3 a4 q) | (first | with_reducible refine QD ?_ | with_reducible refine QF ?_ | with_reducible refine QG ?_ | with_reducible refine QH ?_);refine cU a1 a2 a3 a4 q):P:=h a1 a2 a3 a4 q
theorem kg5 (a1:A1) (a2:A2) (a3:A3) (a4:A4) (a5:A5) (q:Q) (h:A1->A2->A3->A4->A5->Q->P:=by intro a1 a2 a3 a4 a5 q;first | (with_reducible refine VC.ag aa ?_;refine ia a1 a2 a3 a4 a5 q) | (with_reducible refine WC.sound aa ?_;refine ia a1 a2 a3 a4 a5 q) | (first | with_reducible refine QD ?_ | with_reducible refine QF ?_ | with_reducible refine QG ?_ | with_reducible refine QH ?_);refine ia a1 a2 a3 a4 a5 q):P:=h a1 a2 a3 a4 a5 q
theorem kg6 (a1:A1) (a2:A2) (a3:A3) (a4:A4) (a5:A5) (a6:A6) (q:Q) (h:A1->A2->A3->A4->A5->A6->Q->P:=by intro a1 a2 a3 a4 a5 a6 q;first | (with_reducible refine VC.ag aa ?_;refine AW a1 a2 a3 a4 a5 a6 q) | (with_reducible refine WC.sound aa ?_;refine AW a1 a2 a3 a4 a5 a6 q) | (first | with_reducible refine QD ?_ | with_reducible refine QF ?_ | with_reducible refine QG ?_ | with_reducible refine QH ?_);refine AW a1 a2 a3 a4 a5 a6 q):P:=h a1 a2 a3 a4 a5 a6 q
end
section
variable {G H:Gh} {n:Sz} {D:List Deferred} {e e':Env} {a:Act} {P:Program} {tab:bV} {O O':VH} {w:World} {m m':MV} {u v:Value} {ops:Array Oper} {Q:VQ} {md:Md}
def Z7 (P:Program) (tab:bV) (rs:List ResultVar) (g:FuncId) (cap:List Operand) (t:Tmp) (k lo:Nat) (rest:Code) (R:fO->VH->Prop):VQ:=fun x e O=>match x with
 | .normal=>∃ms,fE e cap=some ms/\∀D,VC P ⟨k,lo⟩ D rest ((t,.func (.func g) [] ms)::e) O (LK P tab rs g ms R)
 | .ret=>iO R O (iw tab e O rs)
 | _=>False
theorem QI (ht:aM P tab) {el:TypeId} {te:cn} {B n' j:Nat} {L ds:List MV} {p q:MV} {dx:TypeDesc} {d:Option Tmp} {x y:Operand} {t tx ty:TypeId} {ps:String} {af:Array Edge} {g:Option (Nat×Bool)}
  (hr:GR O el te.size B p n' L) (hs:zA O te.size q=some (j,ds)) (hY:ds.all dE=true) (hu:(tab t).map cn.under=some (.slice el)) (he:tab el=some te) (uK:(tab tx).map cn.under=some dx) (D7:zB q dx) (hb:(n'+j)*te.bytes<=140737488355328) (hm:n'+j<=maxLen) (hB:B<=O.next)
  (hx:ev e x=some p) (hy:ev e y=some q):
  fQ P n D (.mk d (.call {callee:=.builtin .append,args:= #[x,y],argTypes:= #[t,tx]}) ty ps af g) e O (fun m O'=>GR O' el te.size B m (n'+j) (L++ds)/\bl O (gid p) O'/\(gid p=none->O.Ge O')/\((∃k c,m= .bm k 0 (n'+j) c/\(gid p=some k\/(O.next<=k/\j≠0)))\/(j=0/\m=p/\O'=O))):=by
 intro G a w hw hf;have mJ:=hf.ev hx;have wO:=hf.ev hy;have fc:=bA ht uK
 have fin:∀{m O' u w' H},(GR O' el te.size B m (n'+j) (L++ds)/\bl O (gid p) O'/\(gid p=none->O.Ge O')/\((∃k c,m= .bm k 0 (n'+j) c/\(gid p=some k\/(O.next<=k/\j≠0)))\/(j=0/\m=p/\O'=O)))->(Builtin.append_ #[t,tx] ty #[a.eval x,a.eval y]).run P w= .ok u w'->Gh.Le G H->WR H O' w'->VR H m u->
   ∃m O' u w' H,(GR O' el te.size B m (n'+j) (L++ds)/\bl O (gid p) O'/\(gid p=none->O.Ge O')/\((∃k c,m= .bm k 0 (n'+j) c/\(gid p=some k\/(O.next<=k/\j≠0)))\/(j=0/\m=p/\O'=O)))/\(execOp a.eval (.mk d (.call {callee:=.builtin .append,args:= #[x,y],argTypes:= #[t,tx]}) ty ps af g)).run P w= .ok (.value u) w'/\Gh.Le G H/\WR H O' w'/\VR H m u:=fun hM bU h1 h2 h3=>
  ⟨_,_,_,_,_,hM,by simp only[execOp,resolve,invoke,builtin,List.map_toArray,List.map_cons,List.map_nil,Sem.run_bind,Sem.run_pure,Result.andThen_ok]<;>simp[bU],h1,h2,h3⟩
 obtain⟨vs,oG,hv⟩:=zC (P:=P) hw hs wO fc D7 hY;have fP:ds.length=j*te.size:=by rw[<-hv.1];exact oG.newsLen
 rcases hr with⟨rfl,rfl,hp⟩ | ⟨k,c,rfl,zF,om,cH⟩
 ·have hA:∃A,a.eval x= .slice A 0 0/\(∀w',(Builtin.firstCells te.size 0 (.slice A 0 0)).run P w'= .ok #[] w'):=by
   generalize a.eval x=u at mJ
   have key:∀A:Option Addr,∀w',(Builtin.firstCells te.size 0 (.slice A 0 0)).run P w'= .ok #[] w':=fun A w'=>by
    cases A<;>simp[Builtin.firstCells,loadCells,loadCellsFrom]
   rcases hp with rfl | rfl
   ·cases mJ with
    | slnil=>exact⟨_,rfl,key _⟩
    | sl h1 h2 h3 h4 h5 h6=>exact h6.elim
   ·cases mJ with
    | sl h1 h2 h3 h4 h5 h6=>
      have h6:_=0:=h6;subst h6;exact⟨_,rfl,key _⟩
  obtain⟨A,hA,Lp⟩:=hA;have YB:gid p=none:=by rcases hp with rfl | rfl<;>rfl
  by_cases hj:j=0
  ·subst hj;have qO:ds=[]:=List.eq_nil_of_length_eq_zero (by simpa using fP);subst qO;refine fin (m:=p) (O':=O) (u:=a.eval x) (w':=w) (H:=G) ⟨.inl ⟨rfl,rfl,hp⟩,bl.refl _ _,fun _=>VH.Ge.refl _,.inr ⟨rfl,rfl,rfl⟩⟩ ?_ (Gh.Le.refl G) hw mJ;have iX:vs=[]:=by have:=hv.1;simpa using this
   subst iX;rw[hA];have eN:=bA ht hu;obtain⟨ti,z,i1,i2,_⟩:=(ht _ te he).info;rcases oG.kind with⟨e',hk⟩ | hk<;>cases A<;>simp[Builtin.append_,run_underlying eN,run_underlying hk,eV (ht _ te he),oG.len,oG.cells,storeCells]
  ·rw[hA]at fin;obtain⟨c',w',H,zs,g1,g2,g3,g4,g5,g6,g7⟩:=zD (P:=P) ht hw (n':=0) (c:=0) (A:=A) (L:=[]) (us:=[]) (ty:=ty) hu he fc hs D7 hY aO.nil (by simp) (Lp _) (by omega) hb hm wO;refine fin ⟨.inr ⟨O.next,c',rfl,g1,by rw[List.length_append,fP];simp,?_⟩,?_,fun _=>?_,.inl ⟨_,_,rfl,.inr ⟨Nat.le_refl _,hj⟩⟩⟩ g4 g5 g6 g7
   ·refine Row.xO (cs:=[]) (t:=el) ?_ hB;rw[List.length_append,g3,List.length_append,fP,List.length_nil,Nat.zero_add, <-Nat.add_mul]
    congr 1;omega
   ·rw[YB];exact bl.push.trans bl.push
   ·exact((VH.Ge.refl O).push _).push _
 ·obtain⟨sp,dP,gN⟩:=cH.cells;generalize oo:a.eval x=u at mJ;have YC:=mJ;cases YC with
  | bm hp hn hmx=>
    rename_i b;rw[oo]at fin;have hmul:(n'+j)*te.size=n'*te.size+j*te.size:=Nat.add_mul _ _ _;by_cases oh:n'+j<=c
    ·have hle:(n'+j)*te.size<=c*te.size:=Nat.mul_le_mul_right _ oh;obtain⟨w',A,g1,g2,g3⟩:=Lo (P:=P) (ty:=ty) ht hw hu he fc dP hs D7 hY oh (by rw[gN,fP];omega) mJ wO;rw[Nat.zero_add, <-om,zE]at g2
     have Ht:ds.length<=sp.length:=by
      rw[List.length_append]at gN;omega
     rw[List.take_of_length_le Ht]at g2;refine fin ⟨.inr ⟨k,c,rfl,oh,by rw[List.length_append,om,fP,hmul],cH.aeF ?_⟩,bl.set,(fun h=>by cases h),.inl ⟨_,_,rfl,.inl rfl⟩⟩ g1 (Gh.Le.refl G) g2 g3;rw[List.length_append,List.length_append,List.length_drop];rw[List.length_append]at gN;omega
    ·obtain⟨b',C,T,d1,d2,d3⟩:=hw.cells k _ dP;rw[hp]at d1;injection d1 with d1;subst d1
     have hL:=d3.take L.length;rw[List.take_left,List.take_take,Nat.min_eq_left (by rw[List.length_append];omega)]at hL
     have hold:(Builtin.firstCells te.size n' (.slice (some ⟨b,0,none⟩) n' c)).run P w.drew= .ok (C.toList.take L.length).toArray w.drew:=by
      refine run_firstCells_some (P:=P) w.drew te.size n' ⟨b,0,none⟩ n' c _ (by rw[hL.1,om]) fun i u hu=>?_
      rw[Addr.add_lit,Nat.zero_add];rw[List.getElem?_take]at hu;split at hu
      ·have jz:w.drew.heap[b]?=some (.cells C T.t T.fr):=d2;simp only[World.cell?,jz,Option.isSome_none,Bool.false_eq_true,if_false];simpa using hu
      ·cases hu
     obtain⟨c',w',H,zs,g1,g2,g3,g4,g5,g6,g7⟩:=zD (P:=P) (ty:=ty) ht hw (n':=n') (c:=c) (A:=some ⟨b,0,none⟩) (L:=L) hu he fc hs D7 hY hL om hold (by omega) hb hm wO;refine fin ⟨.inr ⟨O.next,c',rfl,g1,by rw[List.length_append,om,fP,hmul],?_⟩,(bl.push.trans bl.push).any,(fun h=>by cases h),.inl ⟨_,_,rfl,.inr ⟨Nat.le_refl _,by omega⟩⟩⟩ g4 g5 g6 g7;refine Row.xO (cs:=[]) (t:=el) ?_ hB;rw[List.length_append,g3,List.length_append,om,fP, <-hmul, <-Nat.add_mul]
     congr 1;omega
theorem VF.EI {f g:FuncId} {fn:Func} {A B rest:Code} {id k lo:Nat} {t:Tmp} {cap:Array Operand} {ty Zn:TypeId} {ps Zo:String} {af Zp:Array Edge} {args:List MV} {rs:List ResultVar} {R:fO->VH->Prop} (hf:P.funcs[f]?=some fn) (hE:Enters P g)
  (h:WC P tab ⟨k,0⟩ [] A (cf 0 args) O (qp (IZ P ⟨k,0⟩ [] B (Z7 P tab rs g cap.toList t k lo rest R)) (Z7 P tab rs g cap.toList t k lo rest R))) (ht:aM P tab:=by exact aa) (hb:fn.body=some (.seq A (.seq B (.seq (.region id ⟨[.mk (some t) (.makeFunc (.func g) #[] cap) ty ps af none,.mk none (.defer {callee:=.value (.tmp t),args:= #[],argTypes:= #[]}) Zn Zo Zp none]⟩ false) rest))):=by exact rfl) (hk:fn.ntmps=k:=by exact rfl) (hr:fn.results.toList=rs:=by exact rfl) (hn:args.length<=k:=by exact Nat.le_of_ble_eq_true rfl) (fl:t<k:=by decide):VF P f args O R:=by
 subst hk;intro G w vs hw hv;refine calls_of_wp_defers hf hb ?_
 have aS:FR G ⟨fn.ntmps,0⟩ [] (cf 0 args) {tmps:=vs.toArray++Array.replicate (fn.ntmps - vs.toArray.size) undef,defers:=[]}:=by
  have hl:=hv.1;refine⟨rfl,by simp;omega,fun t x hx=>?_⟩;rw[im,if_pos (Nat.zero_le _),Nat.sub_zero]at hx;obtain⟨u,h1,h2⟩:=hv.get hx;refine⟨u,?_,h2⟩;have eb:=(List.getElem?_eq_some_iff.1 h1).1;rw[Array.getElem?_append_left (by simpa using eb)];simpa using h1
 refine wp_seq (wp_mono (WC.sound ht h G _ w hw aS) ?_)
 have early:∀{e:Env} {a':Act} {w':World} {O':VH} {K:Gh},Gh.Le G K->WR K O' w'->FR K ⟨fn.ntmps,0⟩ [] e a'->iO R O' (iw tab e O' rs)->
   Leaves P fn a'.tmps (fun x w'=>∃r O' H,Gh.Le G H/\WR H O' w'/\ER H r x/\R r O') a'.defers .returning w':=by
  intro e a' w' O' K k1 k2 k3 q3;rw[k3.defers]
  have key:∃m,c8 tab fn e O'=some m/\R (.ret m) O':=by
   unfold c8;rw[hr, <-rF];generalize iw tab e O' rs=z at q3;unfold iO at q3;split at q3
   ·exact q3.elim
   ·exact⟨_,rfl,q3⟩
   ·rename_i l hl;refine⟨.tuple l,?_,q3⟩
    match l,hl with
    | [],_=>rfl
    | [m],hl=>exact absurd rfl (hl m)
    | _::_::_,_=>rfl
  obtain⟨m,h6,h7⟩:=key;obtain⟨u2,h8,h9⟩:=kN (P:=P) ht k2 k3 h6;exact⟨u2,h8,.ret m,O',K,k1,k2,h9,h7⟩
 rintro y a1 w1 ⟨x,e,O1,H,g1,g2,g3,g4,g5⟩
 cases y<;>cases x<;>first
  | exact False.elim g4
  | exact g5.elim
  | exact early g1 g2 g3 g5
  | skip
 refine wp_seq (wp_mono (g5 H a1 w1 g2 g3) ?_);rintro y a1 w1 ⟨x,e,O1,H2,g1',g2,g3,g4,g5⟩
 replace g1:=g1.trans g1'
 clear g1'
 cases y<;>cases x<;>first
  | exact False.elim g4
  | exact g5.elim
  | exact early g1 g2 g3 g5
  | skip
 obtain⟨ms,hm,P7⟩:=g5;have g3:FR H2 ⟨fn.ntmps,0⟩ [] e a1:=g3;have iX:=g3.fE hm;have FZ:cap.map a1.eval=(cap.toList.map a1.eval).toArray:=by apply Array.ext';simp
 generalize cap.toList.map a1.eval=us at iX FZ
 have P8:(execOp a1.eval (.mk (some t) (.makeFunc (.func g) #[] cap) ty ps af none)).run P w1= .ok (.value (.func (.func g) #[] us.toArray)) w1:=by
  simp[execOp,Instr.makeFunc,FZ]
 have hz:=g3.size;dsimp only at hz
 have hev:(a1.put (some t) (.func (.func g) #[] us.toArray)).eval (.tmp t)= .func (.func g) #[] us.toArray:=by
  simp[Act.eval,Act.put,hz,fl]
 have P9:(execOp (a1.put (some t) (.func (.func g) #[] us.toArray)).eval (.mk none (.defer {callee:=.value (.tmp t),args:= #[],argTypes:= #[]}) Zn Zo Zp none)).run P w1= .ok (.defer {target:=.fn (.func g) us.toArray,args:= #[]}) w1:=by
  simp[execOp,resolve,hev,Deferred.ofValue]
 refine wp_seq (wp_region ?_);have LJ:∀o1 o2:Oper,List.range (Array.mk [o1,o2]).size=[0,1]:=fun _ _=>rfl
 rw[LJ];have I1:∀(o1 o2:Oper) (tm:Array Value),o1.guard=none->Region.wanted o1 (yielded ⟨[o1,o2]⟩ tm)=true:=fun o1 o2 tm h=>by simp[Region.wanted,h]
 have oP:∀(o1 o2:Oper) (tm:Array Value),o2.guard=none->Region.wanted o2 (yielded ⟨[o1,o2]⟩ tm)=true:=fun o1 o2 tm h=>by simp[Region.wanted,h]
 simp only[wpOps,List.getElem?_toArray,List.getElem?_cons_zero,List.getElem?_cons_succ];rw[if_pos (I1 _ _ _ rfl)];refine .inl ?_;unfold Oper.wp;rw[P8,Oper.upon_value];simp only[wpOps,List.getElem?_toArray,List.getElem?_cons_zero,List.getElem?_cons_succ];rw[if_pos (oP _ _ _ rfl)];refine .inl ?_;first | unfold Oper.wp | skip
 rw[P9,Oper.upon_defer];have xN:FR H2 ⟨fn.ntmps,0⟩ [] ((t,.func (.func g) [] ms)::e) (a1.put (some t) (.func (.func g) #[] us.toArray)):=FR.put g3 fl (.func (fs:=[]) (us:=[]) rfl (fun i c u h=>by simp at h) iX.1 iX.2);generalize a1.put (some t) (.func (.func g) #[] us.toArray)=a2 at xN;have Cu:FR H2 ⟨fn.ntmps,lo⟩ [{target:=.fn (.func g) us.toArray,args:= #[]}] ((t,.func (.func g) [] ms)::e) {a2 with defers:={target:=.fn (.func g) us.toArray,args:= #[]}::a2.defers}:=⟨by rw[xN.defers],xN.size,xN.get⟩;show rest.wp P _ _ _;refine wp_mono (P7 _ H2 _ w1 g2 Cu) ?_;rintro y a' w' ⟨x,e',O',K,k1,k2,k3,k4,k5⟩
 have hinv:∀w:World,(invoke (.fn (.func g) us.toArray) #[]).run P w= .ok (.enter g us.toArray) w:=fun w=>by
  simp[invoke,hE us.toArray w]
 have fin:∀(u:FrameMode) (z:Option MV),u≠ .run->MR K z u->FR K ⟨fn.ntmps,lo⟩ [{target:=.fn (.func g) us.toArray,args:= #[]}] e' a'->fZ P g ms z O' (fun O'=>iO R O' (iw tab e' O' rs))->
   Leaves P fn a'.tmps (fun x w'=>∃r O' H,Gh.Le G H/\WR H O' w'/\ER H r x/\R r O') a'.defers u w':=by
  intro u z hu hmr Zq hd;rw[Zq.defers];refine leaves_cons hu (hinv _) ((hd K w' us u k2 (iX.mono k1) hmr).mono ?_);rintro r u' F3 ⟨⟨v,rfl⟩,hs,O2,K2,q1,q2,q3⟩;dsimp only;rw[hs]
  have key:∃m,c8 tab fn e' O2=some m/\R (.ret m) O2:=by
   unfold c8;rw[hr, <-rF];generalize iw tab e' O2 rs=z at q3;unfold iO at q3;split at q3
   ·exact q3.elim
   ·exact⟨_,rfl,q3⟩
   ·rename_i l hl;refine⟨.tuple l,?_,q3⟩
    match l,hl with
    | [],_=>rfl
    | [m],hl=>exact absurd rfl (hl m)
    | _::_::_,_=>rfl
  obtain⟨m,h6,h7⟩:=key;obtain⟨u2,h8,h9⟩:=kN (P:=P) ht q2 (Zq.mono q1) h6;exact⟨u2,h8,.ret m,O2,K2,(g1.trans k1).trans q1,q2,h9,h7⟩
 cases y with
 | normal=>cases x<;>first | exact False.elim k4 | exact fin .returning none (by simp) trivial k3 k5
 | ret=>cases x<;>first | exact False.elim k4 | exact fin .returning none (by simp) trivial k3 k5
 | panic c=>
   cases x with
   | panic m=>
     obtain⟨u,rfl,hvu⟩:=k4;exact fin (.panicking [⟨u,false,false⟩]) (some m) (by simp) hvu k3.2 k5
   | _=>exact False.elim k4
 | exit i=>cases x<;>first | exact False.elim k4 | exact k5.elim
 | goto i=>cases x<;>first | exact False.elim k4 | exact k5.elim
 | outgrown=>cases x<;>exact False.elim k4
theorem VL.agL (ht:aM P tab) {brk:List Nat} {el:TypeId} {te:cn} {B n' j:Nat} {L ds:List MV} {p q:MV} {dx:TypeDesc} {d:Option Tmp} {x y:Operand} {t tx ty:TypeId} {ps:String} {af:Array Edge} {g:Option (Nat×Bool)} {LL:List (Fl×Oper)} (hne:brk≠[])
  (pc:∀i,ops[i]?=some (.mk d (.call {callee:=.builtin .append,args:= #[x,y],argTypes:= #[t,tx]}) ty ps af g)->brk.contains i=true)
  (hr:GR O el te.size B p n' L) (hs:zA O te.size q=some (j,ds)) (hY:ds.all dE=true) (hu:(tab t).map cn.under=some (.slice el)) (he:tab el=some te) (uK:(tab tx).map cn.under=some dx) (D7:zB q dx) (hb:(n'+j)*te.bytes<=140737488355328) (hm:n'+j<=maxLen) (hB:B<=O.next)
  (hx:ev e x=some p) (hy:ev e y=some q) (hg:aK ops (.mk d (.call {callee:=.builtin .append,args:= #[x,y],argTypes:= #[t,tx]}) ty ps af g) e=some true) (hd:bh n d=true)
  (h:∀m O',GR O' el te.size B m (n'+j) (L++ds)->bl O (gid p) O'->(gid p=none->O.Ge O')->((∃k c,m= .bm k 0 (n'+j) c/\(gid p=some k\/(O.next<=k/\j≠0)))\/(j=0/\m=p/\O'=O))->WL P tab n D (.held brk) ops Q LL (aV d m e) O'):
  VL P n D (.held brk) ops ((.one,.mk d (.call {callee:=.builtin .append,args:= #[x,y],argTypes:= #[t,tx]}) ty ps af g)::LL) e O Q:=by
 refine VL.h_ hg hd (fun _ ae2 h=>by injection h with h;subst h;exact hne) (fun ae2 h=>by injection h with h;subst h;exact .inr hne) (QI ht hr hs hY hu he uK D7 hb hm hB hx hy) (fun ae2 h i hi=>by injection h with h;subst h;exact pc i hi) ?_;rintro m O' ⟨h1,h2,h3,h4⟩;exact WL.sound ht (h m O' h1 h2 h3 h4)
theorem bD.mv {brk:List Nat} {fuel:Nat} (i:Nat) {listed:Array Bool} {l:List Oper} {d:Option Tmp} {x:Operand} {ty:TypeId} {ps:String} {af:Array Edge} {g:Option (Nat×Bool)} (h:bD P n D ⟨l⟩ brk fuel (listed.setIfInBounds i true) (aV d m e) O Q) (ho:l[i]?=some (.mk d (.move x) ty ps af g):=by exact rfl) (hs:Region.noSelect ⟨l⟩=true:=by kernel_rfl) (hf:Region.free .any ⟨l⟩ listed i=true:=by kernel_rfl) (hr:(Region.ready .any ⟨l⟩ listed).contains i=true:=by kernel_rfl) (Mq:brk.contains i=true:=by kernel_rfl) (hg:aK ⟨l⟩ (.mk d (.move x) ty ps af g) e=some true:=by exact rfl) (hd:bh n d=true:=by exact rfl) (hx:ev e x=some m:=by exact rfl):bD P n D ⟨l⟩ brk (fuel+1) listed e O Q:=by
 intro G a w hw aS;have hu:=aS.ev hx;have bU:∀w:World,(execOp a.eval (.mk d (.move x) ty ps af g)).run P w= .ok (.value (a.eval x)) w:=fun w=>by simp[execOp]
 have CF:(⟨l⟩:Array Oper)[i]?=some (.mk d (.move x) ty ps af g):=by simpa using ho
 refine nM (S:=fun _=>True) (W:=fun _=>False) (brk:=fun _=>false) CF (Region.noSelect_spec hs) (gQ hd) (fun _ _ _ _=>trivial) (fun x _ hh=>by rw[Mq]at hh;cases hh) fuel listed a w (Region.free_spec CF hf) (fun _ _ _ h=>h.elim) (fun _ h=>h.elim) (fun _ _ _ h=>by cases h) (by simpa using hr) (.inl ⟨bd aS hg,fun x _=>bU x⟩) trivial (h G _ w hw (aS.aV hd hu))
theorem bD.bH (ix:List (Nat×Fl)) {brk:List Nat} {fuel:Nat} {listed:Array Bool} {l:List Oper} {L:List (Fl×Oper)} (h:WL P tab n D (.held brk) ⟨l⟩ Q L e O) (ht:aM P tab:=by exact aa) (hs:Region.noSelect ⟨l⟩=true:=by kernel_rfl) (hp:cz (.held brk) ⟨l⟩ fuel listed ix=true:=by kernel_rfl) (hL:nA l ix=some L:=by exact rfl):bD P n D ⟨l⟩ brk fuel listed e O Q:=
 (WL.sound ht h) fuel listed ix (sq hL) (fun _=>⟨hs,hp⟩)
theorem VC.gen {c:Code} (h:∀O3,O3=O->VC P n D c e O3 Q):VC P n D c e O Q:=h _ rfl
theorem WL.gen {L:List (Fl×Oper)} (h:∀O3,O3=O->WL P tab n D md ops Q L e O3):WL P tab n D md ops Q L e O:=h _ rfl
theorem gJ (a b:bW) {O1:VH} (h:O1=(O.push a).push b):O.Ge O1/\O1.next=O.next+2/\O1.hp O.next=some a/\O1.hp (O.next+1)=some b:=by
 subst h;exact⟨((VH.Ge.refl O).push _).push _,rfl,(VH.pd _ _ (show O.next≠O.next+1 by omega)).trans (VH.aX _ _),VH.aX _ _⟩
theorem lT (a b c:bW) {O1:VH} (h:O1=((O.push a).push b).push c):O.Ge O1/\O1.next=O.next+3/\O1.hp O.next=some a/\O1.hp (O.next+1)=some b/\O1.hp (O.next+2)=some c:=by
 subst h;obtain⟨h1,h2,h3,h4⟩:=gJ (O:=O) a b rfl;exact⟨h1.push _,rfl,(VH.pd _ _ (show O.next≠O.next+2 by omega)).trans h3,(VH.pd _ _ (show O.next+1≠O.next+2 by omega)).trans h4,VH.aX _ _⟩
theorem QJ (a b c d:bW) {O1:VH} (h:O1=(((O.push a).push b).push c).push d):O.Ge O1/\O1.next=O.next+4/\O1.hp O.next=some a/\O1.hp (O.next+1)=some b/\O1.hp (O.next+2)=some c/\O1.hp (O.next+3)=some d:=by
 subst h;obtain⟨h1,h2,h3,h4,h5⟩:=lT (O:=O) a b c rfl;exact⟨h1.push _,rfl,(VH.pd _ _ (show O.next≠O.next+3 by omega)).trans h3,(VH.pd _ _ (show O.next+1≠O.next+3 by omega)).trans h4,(VH.pd _ _ (show O.next+2≠O.next+3 by omega)).trans h5,VH.aX _ _⟩
theorem bD.Bd (i:Nat) {brk:List Nat} {fuel:Nat} {listed:Array Bool} {l:List Oper} {o:Oper} (h:zK (fun m O'=>bD P n D ⟨l⟩ brk fuel (listed.setIfInBounds i true) (aV o.dst m e) O' Q) (ir tab .rd o e O)) (ht:aM P tab:=by exact aa) (ho:l[i]?=some o:=by exact rfl) (hs:Region.noSelect ⟨l⟩=true:=by kernel_rfl) (hf:Region.free .any ⟨l⟩ listed i=true:=by kernel_rfl) (hr:(Region.ready .any ⟨l⟩ listed).contains i=true:=by kernel_rfl) (hb:lQ ⟨l⟩ brk listed i=true:=by kernel_rfl) (hg:aK ⟨l⟩ o e=some true:=by exact rfl) (hd:bh n o.dst=true:=by exact rfl):bD P n D ⟨l⟩ brk (fuel+1) listed e O Q:=by
 generalize hv:ir tab .rd o e O=v at h;cases v with
 | none=>exact h.elim
 | some p=>
   obtain⟨m,O'⟩:=p
   exact bD.take (by simpa using ho) hs hf hr hb hd (fun G a w hw aS=>by
    obtain⟨_,u,hu,bU⟩:=vZ (P:=P) ht hw aS (by simp) hv;exact⟨u,hu,.inl ⟨bd aS hg,bU⟩⟩) (by
    obtain rfl:=uy (by simp) hv;exact h)
theorem bD.fin {brk:List Nat} {fuel:Nat} {listed:Array Bool} (hb:((List.range listed.size).all fun j=>listed.getD j true||brk.contains j)=true) (h:bY P n D ops fuel listed e O Q):bD P n D ops brk fuel listed e O Q:=by
 intro G a w hw aS;refine mM _ _ _ _ (fun j hj x hs hh=>?_) (h G a w hw aS);rcases Nat.lt_or_ge j listed.size with hl | hl
 ·have:=List.all_eq_true.1 hb j (List.mem_range.2 hl);rw[hj,Bool.false_or]at this;rw[this]at hh;cases hh
 ·rw[Array.getD_eq_getD_getElem?,Array.getElem?_eq_none (by simpa using hl)]at hj;cases hj
theorem bY.SM {i:Nat} {fuel:Nat} {listed:Array Bool} {l:List Oper} {o:Oper} (h:zK (fun m O'=>bY P n D ⟨l⟩ fuel (listed.setIfInBounds i true) (aV o.dst m e) O' Q) (cT tab o e O)) (ht:aM P tab:=by exact aa) (ho:l[i]?=some o:=by exact rfl) (hr:Region.ready .any ⟨l⟩ listed=[i]:=by kernel_rfl) (hg:aK ⟨l⟩ o e=some true:=by exact rfl) (hd:bh n o.dst=true:=by exact rfl):bY P n D ⟨l⟩ (fuel+1) listed e O Q:=
 bY.all hr (by simp) fun j hj=>by
  obtain rfl:j=i:=by simpa using hj
  exact aI.o1 h (ht:=ht) (ho:=ho) (hg:=hg) (hd:=hd)
theorem bY.st {i:Nat} {fuel:Nat} {listed:Array Bool} {l:List Oper} {o:Oper} {M:MV->VH->Prop} (ho:l[i]?=some o) (hr:Region.ready .any ⟨l⟩ listed=[i]) (hg:aK ⟨l⟩ o e=some true) (hd:bh n o.dst=true) (hy:fQ P n D o e O M)
  (h:∀m O',M m O'->bY P n D ⟨l⟩ fuel (listed.setIfInBounds i true) (aV o.dst m e) O' Q):bY P n D ⟨l⟩ (fuel+1) listed e O Q:=
 bY.all hr (by simp) fun j hj=>by
  obtain rfl:j=i:=by simpa using hj
  exact aI.st hy h (ho:=ho) (hg:=hg) (hd:=hd)
theorem bY.two {i j:Nat} {fuel:Nat} {listed:Array Bool} (hr:Region.ready .any ops listed=[i,j])
  (h1:aI P n D ops i e O Q fun e' O'=>bY P n D ops fuel (listed.setIfInBounds i true) e' O' Q) (h2:aI P n D ops j e O Q fun e' O'=>bY P n D ops fuel (listed.setIfInBounds j true) e' O' Q):bY P n D ops (fuel+1) listed e O Q:=
 bY.all hr (by simp) fun x hx=>by
  simp only[List.mem_cons,List.not_mem_nil,or_false]at hx;rcases hx with rfl | rfl
  ·exact h1
  ·exact h2
theorem WR.VU (h:WR G O w) {k:Nat} {cs ds:List MV} (hk:O.hp k=some (.cells cs)) (hw:eD cs ds):WR G (O.set k (.cells ds)) w:=
 h.swap (by rw[hk];simp) (fun cs' e=>by
  injection e with e;subst e
  obtain⟨b,C,T,h1,h2,h3⟩:=h.cells k cs hk;exact⟨b,C,T,h1,h2,by rw[<-hw.1];exact hw.vrs h3⟩) (fun X e=>by cases e) (fun _ _ e=>by cases e) (fun e=>by cases e) (fun _ _ _ e=>by cases e)
theorem VC.VU {c:Code} {k:Nat} {cs ds:List MV} (hk:O.hp k=some (.cells cs)) (hw:eD cs ds) (h:VC P n D c e (O.set k (.cells ds)) Q):VC P n D c e O Q:=fun G a w hwr hf=>h G a w (hwr.VU hk hw) hf
theorem WR.wj (h:WR G O w) {k p o n c sz:Nat} {cs A E:List MV} (hk:O.hp k=some (.cells cs)) (hp:O.hp p=some (.cells (A++ .bm k o n c::E))) (lJ:p≠k) (hl:o+sz<=cs.length):∃H,Gh.Le G H/\WR H ((O.kill k).set p (.cells (A++ .sl n ((cs.drop o).take sz) .au::E))) w:=by
 obtain⟨b,C,T,h1,h2,h3⟩:=h.cells p _ hp;obtain⟨u,hu,hv⟩:=h3.get (i:=A.length) (c:=.bm k o n c) (by rw[List.getElem?_append_right (Nat.le_refl _),Nat.sub_self];rfl);obtain⟨H,h4,h5,h6⟩:=h.freeze hk hv hl;refine⟨H,h4,?_⟩;have Mr:(O.kill k).hp p=some (.cells (A++ .bm k o n c::E)):=(VH.kA _ lJ).trans hp;refine h5.swap (by rw[Mr];simp) (fun cs' e=>?_) (fun X e=>by cases e) (fun _ _ e=>by cases e) (fun e=>by cases e) (fun _ _ _ e=>by cases e);injection e with e;subst e
 refine⟨b,C,T,h4.bJ h1,h2,?_⟩;have h7:=h3.mono h4;refine⟨?_,fun i c' u' hc Dn=>?_⟩
 ·rw[List.length_append,List.length_cons]at h7 ⊢;have:=h7.1;rw[List.length_append,List.length_cons]at this;exact this
 ·have hlen:(A++MV.sl n ((cs.drop o).take sz) .au::E).length=(A++MV.bm k o n c::E).length:=by simp
  rw[hlen]at Dn;by_cases hi:i=A.length
  ·subst hi;rw[List.getElem?_append_right (Nat.le_refl _),Nat.sub_self]at hc;injection hc with hc;subst hc
   rw[hu]at Dn;injection Dn with Dn;subst Dn
   exact Wk.tok _ _ h6
  ·refine h7.2 i c' u' ?_ Dn;rcases Nat.lt_or_ge i A.length with eb | ik
   ·rw[List.getElem?_append_left eb]at hc ⊢;exact hc
   ·rw[List.getElem?_append_right ik]at hc ⊢;obtain⟨j,hj⟩:∃j,i - A.length=j+1:=⟨i - A.length - 1,by omega⟩
    rw[hj,List.getElem?_cons_succ]at hc ⊢;exact hc
theorem VC.wj {c0:Code} {k p o n' c sz:Nat} {cs A E:List MV} (hk:O.hp k=some (.cells cs)) (hp:O.hp p=some (.cells (A++ .bm k o n' c::E))) (lJ:p≠k) (hl:o+sz<=cs.length) (h:VC P n D c0 e ((O.kill k).set p (.cells (A++ .sl n' ((cs.drop o).take sz) .au::E))) Q):VC P n D c0 e O Q:=fun G a w hw hf=>by
 obtain⟨H,h1,h2⟩:=hw.wj hk hp lJ hl;exact wp_mono (h H a w h2 (hf.mono h1)) fun _ _ _=>cg.le h1
end
section
variable {G H:Gh} {n:Sz} {D:List Deferred} {e e':Env} {a:Act} {P:Program} {tab:bV} {O O':VH} {w:World} {m m':MV} {u v:Value} {ops:Array Oper} {Q:VQ} {md:Md}
theorem ab.aiv (i:Nat) {brk:List Nat} {Ψ :Gh->Prop} {J:VH->Prop} {Z:Prop} {fuel:Nat} {listed:Array Bool} {l:List Oper} {o:Oper} (h:zK (fun m O'=>ab P n D ⟨l⟩ brk J Ψ Z fuel (listed.setIfInBounds i true) (aV o.dst m e) O' Q) (ir tab .aw o e O)) (ht:aM P tab:=by exact aa) (ho:l[i]?=some o:=by exact rfl) (hs:Region.noSelect ⟨l⟩=true:=by kernel_rfl) (hf:Region.free .any ⟨l⟩ listed i=true:=by kernel_rfl) (hr:(Region.ready .any ⟨l⟩ listed).contains i=true:=by kernel_rfl) (Mq:brk.contains i=true:=by kernel_rfl) (hg:aK ⟨l⟩ o e=some true:=by exact rfl) (hd:bh n o.dst=true:=by exact rfl):ab P n D ⟨l⟩ brk J Ψ Z (fuel+1) listed e O Q:=by
 generalize hv:ir tab .aw o e O=v at h;cases v with
 | none=>exact h.elim
 | some p=>
   obtain⟨m,O'⟩:=p;obtain⟨h1,rfl⟩:=ny hv;intro hΨ hZ hJ G a w hψ hw aS;obtain⟨u,hu,bU⟩:=ui (P:=P) ht aS h1;have CF:(⟨l⟩:Array Oper)[i]?=some o:=by simpa using ho
   exact nM (S:=fun x=>SS G x) (W:=fun _=>False) (brk:=fun _=>false) CF (Region.noSelect_spec hs) (gQ hd) (fun _ _ _ hT=>hT.1) (fun x hx=>⟨hx,fun hh=>by rw[Mq]at hh;cases hh⟩) fuel listed a w (Region.free_spec CF hf) (fun _ _ _ h=>h.elim) (fun _ h=>h.elim) (fun _ _ _ h=>by cases h) (by simpa using hr) (.inl ⟨bd aS hg,fun x hx=>bU x hx⟩) hw.ss (h hΨ hZ hJ G _ w hψ hw (aS.aV hd hu))
theorem VC.sJ {id:Nat} (brk:List Nat) (J:VH->Prop) (hJ:J O) (h:ab P n D ops brk J (fun _=>True) True ops.size (Array.replicate ops.size false) e O Q) (hm:P.follows .mixedOrders=true:=by kernel_rfl):VC P n D (.region id ops true) e O Q:=
 fun G a w hw hf=>wp_region_any hm (kz _ _ _ _ (h (fun _ _ _ _=>trivial) trivial hJ G a _ trivial (hw.drawn _) hf))
def exP:MV->Bool
 | .ptr _ _=>true
 | .map _=>true
 | m=>exM m
theorem Z8 (hm:exP m=true) (h1:VR G m u) (hl:Gh.Le G H) (h2:VR H m v):v=u:=by
 cases m with
 | ptr k o=>
   cases h1 with
   | ptr a=>cases h2 with
     | ptr b=>rw[hl.bJ a]at b;injection b with b;rw[b]
 | map k=>
   cases h1 with
   | map a=>cases h2 with
     | map b=>rw[hl.bJ a]at b;injection b with b;rw[b]
 | _=>refine St ?_ h1 h2;exact hm
theorem ab.mC (i:Nat) {J:VH->Prop} {Ψ :Gh->Prop} {Z:Prop} {brk:List Nat} {fuel:Nat} {listed:Array Bool} {l:List Oper} {d:Option Tmp} {t:TypeId} {x:Operand} {ty:TypeId} {ps:String} {af:Array Edge} {g:Option (Nat×Bool)} {p:MV} (hv:∀O2,J O2->eM tab O2 t p=some m) (h:ab P n D ⟨l⟩ brk J Ψ Z fuel (listed.setIfInBounds i true) (aV d m e) O Q) (ht:aM P tab:=by exact aa) (ho:l[i]?=some (.mk d (.load t x) ty ps af g):=by exact rfl) (hs:Region.noSelect ⟨l⟩=true:=by kernel_rfl) (hf:Region.free .any ⟨l⟩ listed i=true:=by kernel_rfl) (hr:(Region.ready .any ⟨l⟩ listed).contains i=true:=by kernel_rfl) (hb:lQ ⟨l⟩ brk listed i=true:=by kernel_rfl) (hg:aK ⟨l⟩ (.mk d (.load t x) ty ps af g) e=some true:=by exact rfl) (hd:bh n d=true:=by exact rfl) (hx:ev e x=some p:=by exact rfl) (hm:exP m=true:=by exact rfl):ab P n D ⟨l⟩ brk J Ψ Z (fuel+1) listed e O Q:=by
 refine ab.take (o:=.mk d (.load t x) ty ps af g) (by simpa using ho) hs hf hr hb hd (fun G a w _ hJ _ hw aS=>?_) h;obtain⟨u0,Zm,_⟩:=nR (P:=P) ht hw (hv O hJ) (aS.ev hx);refine⟨u0,Zm,.inl ⟨bd aS hg,fun y hy=>?_⟩⟩;obtain⟨H,O2,g1,g2,g3⟩:=hy;obtain⟨r,g4,g5⟩:=nR (P:=P) ht g2 (hv O2 g3) ((aS.ev hx).mono g1);have:=g5 y g2.sx;have er:=Z8 hm Zm g1 g4;subst er;simp only[execOp,Sem.run_bind,this];rfl
def Ms (k1 k2:Nat) (X1 X2:Obj) (O':VH):Prop:=O'.hp k1=some (.obj X1)/\O'.hp k2=some (.obj X2)
def ΨFF (QK Mt:List MV) (X1 X2:Obj) (G:Gh):Prop:=kC QK X1 G/\kC Mt X2 G
theorem VC.C0 {id:Nat} (brk:List Nat) (k1 k2:Nat) {QK Mt:List MV} (dN:O.hp k1=some (.cells QK)) (bt:O.hp k2=some (.cells Mt))
  (h:∀X1 X2,ab P n D ops brk (Ms k1 k2 X1 X2) (ΨFF QK Mt X1 X2) True ops.size (Array.replicate ops.size false) e ((O.set k1 (.obj X1)).set k2 (.obj X2)) Q) (hne:k2≠k1:=by omega) (hm:P.follows .mixedOrders=true:=by kernel_rfl):VC P n D (.region id ops true) e O Q:=
 fun G a w hw hf=>by
  obtain⟨X1,fK,I1⟩:=(hw.drawn _).fix dN;obtain⟨X2,ki,oP⟩:=I1.fix (k:=k2) (cs:=Mt) ((VH.ak _ _ hne).trans bt);exact wp_region_any hm (kz _ _ _ _ (h X1 X2 (fun _ _ hl hx=>⟨kC.mono hl hx.1,kC.mono hl hx.2⟩) trivial ⟨(VH.ak _ _ (Ne.symm hne)).trans (VH.an _ _ _),VH.an _ _ _⟩ G a _ ⟨fK,ki⟩ oP hf))
theorem ab.pP (i:Nat) {J:VH->Prop} {Ψ :Gh->Prop} {Z:Prop} {brk:List Nat} {cs:List MV} {X:Obj} {fuel:Nat} {listed:Array Bool} {l:List Oper} {d:Option Tmp} {t:TypeId} {x:Operand} {ty:TypeId} {ps:String} {af:Array Edge} {g:Option (Nat×Bool)} {k off:Nat} (hJ:∀O',J O'->O'.hp k=some (.obj X)) (hΨ :∀G, Ψ G->kC cs X G) (hv:eM tab (O.set k (.cells cs)) t (.ptr k off)=some m) (h:ab P n D ⟨l⟩ brk J Ψ Z fuel (listed.setIfInBounds i true) (aV d m e) O Q) (ht:aM P tab:=by exact aa) (ho:l[i]?=some (.mk d (.load t x) ty ps af g):=by exact rfl) (hs:Region.noSelect ⟨l⟩=true:=by kernel_rfl) (hf:Region.free .any ⟨l⟩ listed i=true:=by kernel_rfl) (hr:(Region.ready .any ⟨l⟩ listed).contains i=true:=by kernel_rfl) (hb:lQ ⟨l⟩ brk listed i=true:=by kernel_rfl) (hg:aK ⟨l⟩ (.mk d (.load t x) ty ps af g) e=some true:=by exact rfl) (hd:bh n d=true:=by exact rfl) (hx:ev e x=some (.ptr k off):=by exact rfl):ab P n D ⟨l⟩ brk J Ψ Z (fuel+1) listed e O Q:=by
 refine ab.take (o:=.mk d (.load t x) ty ps af g) (by simpa using ho) hs hf hr hb hd (fun G a w _ hJO hψ hw aS=>?_) h;obtain⟨C,T,rfl,h3⟩:=hΨ G hψ;unfold eM at hv;simp only[cellsOf,VH.an]at hv;split at hv
 ·rename_i ti cs' off' Pk hc;injection hc with hc;injection hc with e1 e2;subst e1;subst e2
  obtain⟨r,ni,fy⟩:=Ei (P:=P) ht Pk hv h3;have Zu:=aS.ev hx;generalize Zv:a.eval x=xu at Zu;cases Zu with
  | ptr hp=>
    rename_i b;refine⟨r,ni,.inl ⟨bd aS hg,fun y hy=>?_⟩⟩;obtain⟨H,O2,g1,g2,g3⟩:=hy;obtain⟨b',ct,bZ⟩:=g2.obj k _ (hJ _ g3);rw[g1.bJ hp]at ct;injection ct with ct;subst ct
    have:=fy y b fun j v hj=>by
     rw[List.getElem?_take]at hj;split at hj
     ·simp only[World.cell?,bZ,Option.isSome_none,Bool.false_eq_true,if_false];simpa using hj
     ·cases hj
    simp only[execOp,Sem.run_bind,Zv,this];rfl
 ·cases hv
theorem ab.wm (ix:List (Nat×Fl)) {brk:List Nat} {k1 k2:Nat} {QK Mt:List MV} {X1 X2:Obj} {fuel:Nat} {listed:Array Bool} {l:List Oper} {L:List (Fl×Oper)}
  (h:WL P tab n D .any ⟨l⟩ Q L e ((O.set k1 (.cells QK)).set k2 (.cells Mt))) (ht:aM P tab:=by exact aa) (hb:((List.range listed.size).all fun j=>listed.getD j true||brk.contains j)=true:=by kernel_rfl) (hs:Region.noSelect ⟨l⟩=true:=by kernel_rfl) (hp:cz .any ⟨l⟩ fuel listed ix=true:=by kernel_rfl) (hL:nA l ix=some L:=by exact rfl) (hne:k2≠k1:=by omega):ab P n D ⟨l⟩ brk (Ms k1 k2 X1 X2) (ΨFF QK Mt X1 X2) True fuel listed e O Q:=by
 have h':=bY.bH ix h (ht:=ht) (hs:=hs) (hp:=hp) (hL:=hL);intro hΨ hZ hJ G a w hψ hw aS;refine mM _ _ _ _ (fun j hj x hs=>⟨hs,fun hh=>?_⟩) (h' G a w ((hw.w_ hJ.1 hψ.1).w_ (k:=k2) ((VH.ak _ _ hne).trans hJ.2) hψ.2) aS);rcases Nat.lt_or_ge j listed.size with hl | hl
 ·have:=List.all_eq_true.1 hb j (List.mem_range.2 hl);rw[hj,Bool.false_or]at this;rw[this]at hh;cases hh
 ·rw[Array.getD_eq_getD_getElem?,Array.getElem?_eq_none (by simpa using hl)]at hj;cases hj
theorem VC.Ab {id:Nat} (brk:List Nat) (k:Nat) {cs:List MV} (J0:VH->Prop) (hk:O.hp k=some (.cells cs)) (h0:∀X,J0 (O.set k (.obj X)))
  (h:∀X,ab P n D ops brk (fun O'=>O'.hp k=some (.obj X)/\J0 O') (kC cs X) True ops.size (Array.replicate ops.size false) e (O.set k (.obj X)) Q) (hm:P.follows .mixedOrders=true:=by kernel_rfl):VC P n D (.region id ops true) e O Q:=
 fun G a w hw hf=>by
  obtain⟨X,hx,oP⟩:=(hw.drawn _).fix hk;exact wp_region_any hm (kz _ _ _ _ (h X (fun _ _=>kC.mono) trivial ⟨VH.an _ _ _,h0 X⟩ G a _ hx oP hf))
theorem ab.jD (ix:List (Nat×Fl)) {brk:List Nat} {k:Nat} {cs:List MV} {X:Obj} {J0:VH->Prop} {fuel:Nat} {listed:Array Bool} {l:List Oper} {L:List (Fl×Oper)}
  (h:WL P tab n D .any ⟨l⟩ Q L e (O.set k (.cells cs))) (ht:aM P tab:=by exact aa) (hb:((List.range listed.size).all fun j=>listed.getD j true||brk.contains j)=true:=by kernel_rfl) (hs:Region.noSelect ⟨l⟩=true:=by kernel_rfl) (hp:cz .any ⟨l⟩ fuel listed ix=true:=by kernel_rfl) (hL:nA l ix=some L:=by exact rfl):ab P n D ⟨l⟩ brk (fun O'=>O'.hp k=some (.obj X)/\J0 O') (kC cs X) True fuel listed e O Q:=by
 have h':=bY.bH ix h (ht:=ht) (hs:=hs) (hp:=hp) (hL:=hL);intro hΨ hZ hJ G a w hψ hw aS;refine mM _ _ _ _ (fun j hj x hs=>⟨hs,fun hh=>?_⟩) (h' G a w (hw.w_ hJ.1 hψ) aS);rcases Nat.lt_or_ge j listed.size with hl | hl
 ·have:=List.all_eq_true.1 hb j (List.mem_range.2 hl);rw[hj,Bool.false_or]at this;rw[this]at hh;cases hh
 ·rw[Array.getD_eq_getD_getElem?,Array.getElem?_eq_none (by simpa using hl)]at hj;cases hj
end
set_option linter.defProp false in
def bG:=And.intro dY<|And.intro T4 T3
def kY (eg:Bool) (s:Bs):Bool:=(kW s).2&&(eg||(kW s).1 != 6)
theorem QL (eg:Bool) (O:VH):VF Tryz.prog 299 [mb eg] O (aH fun m O'=>m= .func (.func 316) [] [.ptr O.next 0]/\pC O [mb eg] O'):=by
 refine VF.bL 4 [.tmp 2] Tryz.func299 ?_;refine VC.ag aa (ae @bG ?_);refine VC.bx ?_;rintro O1 h1;refine WC.sound aa (ae @bG ?_);exact h1
theorem Mu (eg:Bool) (s:Bs) (b:Nat) (O:VH) (hb:O.hp b=some (.cells [mb eg])):VF Tryz.prog 316 ([.str s]++[.ptr b 0]) O (aH fun m O'=>m=mb (kY eg s)/\O.Ge O'):=by
 have hS:=Mp s O;have hF:kY eg s=((kW s).2&&(eg||(kW s).1 != 6)):=rfl;generalize kY eg s=W at*;generalize kW s=q at*;obtain⟨n,c⟩:=q;simp only[List.cons_append,List.nil_append];dsimp only at hF hS;simp only[aY]at hb;refine VF.dh 19 [.tmp 3] Tryz.func316 ?_;refine ae @bG ?_;refine ah.rt (hS) ?_;rintro _ O2 ⟨rfl,rfl⟩;subst hF;cases c
 ·refine ao @bG @hb ?_;exact VH.Ge.refl _
 ·cases eg
  ·by_cases h6:n=6
   ·subst h6;refine ao @bG @hb ?_;exact⟨rfl,VH.Ge.refl _⟩
   ·have h6':((n:Int)==6)=false:=by rw[beq_eq_false_iff_ne];omega
    have h6b:((n:Int) != 6)=true:=by rw[bne,h6'];rfl
    have h6n:(n != 6)=true:=by rw[bne_iff_ne];exact h6
    refine ia @bG @hb @h6' @h6b @h6n ?_;exact VH.Ge.refl _
  ·refine ao @bG @hb ?_;exact VH.Ge.refl _
structure DS (O:VH) (B:Nat) (E:List MV) (O':VH) (cs:List MV):Prop where
 dS:O.Ge O'
 le:O.next<=B
 x:O'.hp B=some (.cells E)
 d:O'.hp (B+1)=some (.cells cs)
 lt:B+1<O'.next
theorem DS.st {O O':VH} {B:Nat} {E cs cs':List MV} (h:DS O B E O' cs):DS O B E (O'.set (B+1) (.cells cs')) cs':=
 ⟨h.dS.set (by have:=h.le;omega) _,h.le,VH.sn h.x,VH.an _ _ _,h.lt⟩
theorem DS.ge {O O' O2:VH} {B:Nat} {E cs:List MV} (h:DS O B E O' cs) (k:O'.Ge O2):DS O B E O2 cs:=
 ⟨h.dS.trans k,h.le,(k.hp _ (by have:=h.lt;omega)).trans h.x,(k.hp _ h.lt).trans h.d,Nat.lt_of_lt_of_le h.lt k.next⟩
theorem DS.w_ {O O' O2:VH} {B:Nat} {E cs:List MV} {X:Obj} (h:DS O B E O' cs) (k:(O'.set B (.obj X)).Ge O2):DS O B E (O2.set B (.cells E)) cs:=by
 have e1:(O'.set B (.obj X)).next=O'.next:=rfl;have e2:(O2.set B (.cells E)).next=O2.next:=rfl;have h1:=h.le;have h2:=h.lt;have h3:=h.dS.next;have h4:=k.next;refine⟨⟨by omega,fun j hj=>?_⟩,h.le,VH.an _ _ _,?_,by omega⟩
 ·rw[VH.ak _ _ (by omega),k.hp j (by omega),VH.ak _ _ (by omega)];exact h.dS.hp j hj
 ·rw[VH.ak _ _ (by omega),k.hp _ (by omega),VH.ak _ _ (by omega)];exact h.d
theorem VC.ds {P:Program} {n:Sz} {D:List Deferred} {c:Code} {e:Env} {Q:VQ} {O O':VH} {B:Nat} {E cs cs':List MV} (h:DS O B E O' cs) (k:∀O3,DS O B E O3 cs'->VC P n D c e O3 Q):VC P n D c e (O'.set (B+1) (.cells cs')) Q:=k _ h.st
theorem VC.ds0 {P:Program} {n:Sz} {D:List Deferred} {c:Code} {e:Env} {Q:VQ} {O:VH} {E cs:List MV} (k:∀O3,DS O O.next E O3 cs->VC P n D c e O3 Q):VC P n D c e ((O.push (.cells E)).push (.cells cs)) Q:=
 k _ ⟨((VH.Ge.refl O).push _).push _,Nat.le_refl _,(VH.bp _ _ (Nat.lt_succ_self _)).trans (VH.aX _ _),VH.aX _ _,Nat.lt_succ_self _⟩
def dC:Bs->Bool:=fun _=>true
theorem sK (s:Bs) (O':VH):VF Tryz.prog 251 ([.str s]++[]) O' (aH fun m lD=>m=mb (dC s)/\O'.Ge lD):=adD s O'
theorem VV (s:Bs) (O':VH):VF Tryz.prog 300 ([.str s]++[]) O' (aH fun m lD=>m=mb (mh s)/\O'.Ge lD):=Qx s O'
def gU (s:Bs):Bool:=zW ⟨s,s⟩
theorem Mv (s:Bs) (O':VH) (hs:s.length<=1024):VF Tryz.prog 301 ([.str s]++[]) O' (aH fun m lD=>m=mb (gU s)/\O'.Ge lD):=VP s O' (by simp only[maxLen];omega)
def exE (k:Nd×Bs):Except (Int×Bs) fI:=
 match bK k.1 k.2 dQ true gU with
 | .error e=>.error e
 | .ok g=>match bK k.1 k.2 dF true gU with
   | .error e=>.error e
   | .ok a=>.ok ⟨g,a⟩
def xh:List (Nd×Bs)->List fI->Except (Int×Bs) (List fI)
 | [],X=>.ok X
 | k::r,X=>match exE k with
   | .error e=>.error e
   | .ok i=>xh r (X++[i])
def uX (x:Nd) (w:Bs):Except (Int×Bs) (List fI):=
 match b_ x w lB with
 | .error e=>.error e
 | .ok ((_,_),false)=>.ok []
 | .ok ((y,wy),true)=>match mS y wy tA with
   | .error e=>.error e
   | .ok l=>xh l []
def Z9 (s:Bs):Int:=if s=jY then 1 else if s=kR then 2 else 0
def ow (d:Dp):Except (Int×Bs) (List fI)->Except (Int×Bs) Dp
 | .error e=>.error e
 | .ok X=>.ok ⟨d.g,d.a,d.v,d.t,d.c,d.s,d.o,X⟩
def EJ (x:Nd) (w:Bs) (eg:Bool):Except (Int×Bs) Dp:=
 match bK x w dQ true dC with
 | .error e=>.error e
 | .ok g=>match bK x w dF true dC with
 | .error e=>.error e
 | .ok a=>match bK x w fj false dC with
 | .error e=>.error e
 | .ok v=>match bK x w zY false dC with
 | .error e=>.error e
 | .ok t=>match bK x w zZ false dC with
 | .error e=>.error e
 | .ok c=>match bK x w qu false (kY eg)with
 | .error e=>.error e
 | .ok s=>match bK x w me false mh with
 | .error e=>.error e
 | .ok o=>ow ⟨g,a,v,t,c,(kW s).1,Z9 o,[]⟩ (uX x w)
theorem HP {y:Nd} {wy nm:Bs} {L:List (Nd×Bs)} (h:mS y wy nm= .ok L):L.length<=1024/\∀p∈L,kj p.1<=kj y/\p.2.length<=wy.length+nm.length+1030:=by
 unfold mS at h;split at h
 ·cases h
 ·rename_i hn;injection h with h;subst h
  refine⟨by rw[HO];omega,fun p hp=>?_⟩;unfold pL at hp;obtain⟨i,hi,rfl⟩:=List.mem_mapIdx.1 hp;have hk:=Qz (List.getElem_mem hi);have EF:=rN (i+1);refine⟨Nat.le_of_lt hk,?_⟩;simp only[CZ,List.length_append,List.length_cons,List.length_nil];omega
theorem DS.agM {O O' O2:VH} {B k:Nat} {E cs:List MV} {x y:bW} (h:DS O B E O' cs) (hk:B+1<k) (g:(O'.set k x).Ge O2):DS O B E (O2.set k y) cs:=by
 have e1:(O'.set k x).next=O'.next:=rfl;have e2:(O2.set k y).next=O2.next:=rfl;have h1:=h.le;have h2:=h.lt;have h3:=h.dS.next;have h4:=g.next
 have key:∀j,j<O'.next->j≠k->(O2.set k y).hp j=O'.hp j:=fun j hj hn=>by
  rw[VH.ak _ _ hn,g.hp j (by omega),VH.ak _ _ hn]
 exact⟨⟨by omega,fun j hj=>(key j (by omega) (by omega)).trans (h.dS.hp j hj)⟩,h.le,(key _ (by omega) (by omega)).trans h.x,(key _ (by omega) (by omega)).trans h.d,by omega⟩
theorem DS.app {O O':VH} {B sz:Nat} {E cs:List MV} {tk:Tok} (h:DS O B E O' cs) (ha:App O' (B+2) sz tk):DS O B E (O'.after tk) cs:=by
 have k:=cA.after ha;have h1:=h.le;have h2:=h.lt;have h3:=h.dS.next;have key:∀j,j<B+2->(O'.after tk).hp j=O'.hp j:=fun j hj=>k.hp j (by omega) (fun e=>by have:=(App.pB ha e).1;omega)
 exact⟨⟨Nat.le_trans h3 k.next,fun j hj=>(key j (by omega)).trans (h.dS.hp j hj)⟩,h.le,(key _ (by omega)).trans h.x,(key _ (by omega)).trans h.d,Nat.lt_of_lt_of_le h2 k.next⟩
theorem App.nX {O:VH} {B sz k:Nat} {tk:Tok} {x:bW} (h:App O B sz tk) (hk:O.hp k≠some .tok):App (O.set k x) B sz tk:=by
 cases tk with
 | own t j=>exact⟨h.1,(VH.ak _ _ (fun e=>by subst e;exact hk h.2.1)).trans h.2.1,h.2.2.1,h.2.2.2⟩
 | nil=>trivial
 | full=>trivial
 | au=>exact h.elim
section
variable {P:Program} {n:Sz} {D:List Deferred} {e:Env} {O:VH} {Q:VQ}
theorem aI.pM {i:Nat} {l:List Oper} {d:Option Tmp} {f:Operand} {xs:Array Operand} {ts:Array TypeId} {ty:TypeId} {ps:String} {af:Array Edge} {g:Option (Nat×Bool)} {id:FuncId} {ms cs:List MV} {R:fO->VH->Prop} {K:Env->VH->Prop} (hR:VF P id (ms++cs) O R)
  (h:∀m O',R (.ret m) O'->K (aV d m e) O') (h2:∀m O',R (.panic m) O'->Q (.panic m) (ky n e) O') (ho:l[i]?=some (.mk d (.call {callee:=.value f,args:=xs,argTypes:=ts}) ty ps af g):=by exact rfl) (hg:aK ⟨l⟩ (.mk d (.call {callee:=.value f,args:=xs,argTypes:=ts}) ty ps af g) e=some true:=by exact rfl) (hf:ev e f=some (.func (.func id) [] cs):=by exact rfl) (hm:fE e xs.toList=some ms:=by exact rfl) (hb:c9 P id=true:=by kernel_rfl) (hd:bh n d=true:=by exact rfl):aI P n D ⟨l⟩ i e O Q K:=
 aI.call (o:=.mk d (.call {callee:=.value f,args:=xs,argTypes:=ts}) ty ps af g) (by simpa using ho) hg rfl rfl hf hm (Enters.sr hb) hd (by simpa using hR) fun r O' hr=>by
  cases r with
  | ret m=>exact h m O' hr
  | panic m=>exact h2 m O' hr
end
theorem agN (x:Nd) (w:Bs) (eg:Bool) (O:VH) (hx:kj x<=1000000) (Gq:w.length<=6000):
  VF Tryz.prog 276 [.agg (kh x w),mb eg] O (FQ O (EJ x w eg) fun y m=>m= .agg (aQ y)):=by
 have hw:w.length<=10000:=by omega
 refine VF.fgR ?_;have qR:=pK x w;have uT:=rO x w lB;have uU:= @rQ x w lB;obtain⟨PE,hP⟩:∃PE,EJ x w eg=PE:=⟨_,rfl⟩
 rw[hP];unfold EJ at hP
 have Gm:∃a b c d e,kh x w=[a,b,c,d,e]:=by
  cases x;simp only[kh,c_];exact⟨_,_,_,_,_,rfl⟩
 obtain⟨a,b,c,d,e,hE⟩:=Gm;simp only[hE]at qR uT ⊢;clear hE;refine VF.bL 66 [.cell 4 63] Tryz.func276 ?_;refine VC.ag aa (ae @bG ?_);refine VC.ds0 ?_;intro _ hd;have eo:=hd.x;have cJ:=hd.d;refine VC.ag aa (aN @bG @eo @cJ ?_);clear eo cJ;refine ah.p (qR dQ true dC 251 [] _ hx hw (by decide) (by kernel_rfl) (fun s O' _ _=>sK s O')) ?_ ?_;rotate_left
 ·rintro m O9 ⟨bk,h⟩;cases hF:bK x w dQ true dC with
  | ok s=>rw[hF]at h;exact h.elim
  | error e=>
    rw[hF]at h hP;dsimp only at h hP;rw[h, <-hP];refine ae @bG ?_;exact⟨hd.dS.trans bk,rfl⟩
 rintro m O1 ⟨bk,h⟩;cases QM:bK x w dQ true dC with
 | error e=>rw[QM]at h;exact h.elim
 | ok s1=>
 rw[QM]at h hP;dsimp only at h hP;subst h;have hb:=hd.ge bk;clear bk hd;have eo:=hb.x;have cJ:=hb.d;refine aN @bG @eo @cJ ?_;refine VC.ds hb ?_;clear eo cJ hb;intro _ hd;have eo:=hd.x;have cJ:=hd.d;refine VC.ag aa (aN @bG @eo @cJ ?_);clear eo cJ;refine ah.p (qR dF true dC 251 [] _ hx hw (by decide) (by kernel_rfl) (fun s O' _ _=>sK s O')) ?_ ?_;rotate_left
 ·rintro m O9 ⟨bk,h⟩;cases hF:bK x w dF true dC with
  | ok s=>rw[hF]at h;exact h.elim
  | error e=>
    rw[hF]at h hP;dsimp only at h hP;rw[h, <-hP];refine ae @bG ?_;exact⟨hd.dS.trans bk,rfl⟩
 rintro m O2 ⟨bk,h⟩;cases Jl:bK x w dF true dC with
 | error e=>rw[Jl]at h;exact h.elim
 | ok s2=>
 rw[Jl]at h hP;dsimp only at h hP;subst h;have hb:=hd.ge bk;clear bk hd;have eo:=hb.x;have cJ:=hb.d;refine aN @bG @eo @cJ ?_;refine VC.ds hb ?_;clear eo cJ hb;intro _ hd;have eo:=hd.x;have cJ:=hd.d;refine VC.ag aa (aN @bG @eo @cJ ?_);clear eo cJ;refine ah.p (qR fj false dC 251 [] _ hx hw (by decide) (by kernel_rfl) (fun s O' _ _=>sK s O')) ?_ ?_;rotate_left
 ·rintro m O9 ⟨bk,h⟩;cases hF:bK x w fj false dC with
  | ok s=>rw[hF]at h;exact h.elim
  | error e=>
    rw[hF]at h hP;dsimp only at h hP;rw[h, <-hP];refine ae @bG ?_;exact⟨hd.dS.trans bk,rfl⟩
 rintro m O3 ⟨bk,h⟩;cases QN:bK x w fj false dC with
 | error e=>rw[QN]at h;exact h.elim
 | ok s3=>
 rw[QN]at h hP;dsimp only at h hP;subst h;have hb:=hd.ge bk;clear bk hd;have eo:=hb.x;have cJ:=hb.d;refine aN @bG @eo @cJ ?_;refine VC.ds hb ?_;clear eo cJ hb;intro _ hd;have eo:=hd.x;have cJ:=hd.d;refine VC.ag aa (aN @bG @eo @cJ ?_);clear eo cJ;refine ah.p (qR zY false dC 251 [] _ hx hw (by decide) (by kernel_rfl) (fun s O' _ _=>sK s O')) ?_ ?_;rotate_left
 ·rintro m O9 ⟨bk,h⟩;cases hF:bK x w zY false dC with
  | ok s=>rw[hF]at h;exact h.elim
  | error e=>
    rw[hF]at h hP;dsimp only at h hP;rw[h, <-hP];refine ae @bG ?_;exact⟨hd.dS.trans bk,rfl⟩
 rintro m O4 ⟨bk,h⟩;cases Z_:bK x w zY false dC with
 | error e=>rw[Z_]at h;exact h.elim
 | ok s4=>
 rw[Z_]at h hP;dsimp only at h hP;subst h;have hb:=hd.ge bk;clear bk hd;have eo:=hb.x;have cJ:=hb.d;refine aN @bG @eo @cJ ?_;refine VC.ds hb ?_;clear eo cJ hb;intro _ hd;have eo:=hd.x;have cJ:=hd.d;refine VC.ag aa (aN @bG @eo @cJ ?_);clear eo cJ;refine ah.p (qR zZ false dC 251 [] _ hx hw (by decide) (by kernel_rfl) (fun s O' _ _=>sK s O')) ?_ ?_;rotate_left
 ·rintro m O9 ⟨bk,h⟩;cases hF:bK x w zZ false dC with
  | ok s=>rw[hF]at h;exact h.elim
  | error e=>
    rw[hF]at h hP;dsimp only at h hP;rw[h, <-hP];refine ae @bG ?_;exact⟨hd.dS.trans bk,rfl⟩
 rintro m O5 ⟨bk,h⟩;cases hF5:bK x w zZ false dC with
 | error e=>rw[hF5]at h;exact h.elim
 | ok s5=>
 rw[hF5]at h hP;dsimp only at h hP;subst h;have hb:=hd.ge bk;clear bk hd;have eo:=hb.x;have cJ:=hb.d;refine aN @bG @eo @cJ ?_;refine VC.ds hb ?_;clear eo cJ hb;intro O6 hd;have eo:=hd.x;refine VC.bj ?_;refine VC.po [7,8,9] (O.next) (eo) ?_;intro X;refine ab.aw 1 ?_;refine ae @bG ?_;refine ab.sB (m:=.agg [a,b,c,d,e]) 0 ?_ ?_
 ·exact fp @bG
 simp only[aj];refine ab.call (i:=2) (QL eg _) ?_;rintro _ O7 ⟨rfl,dM,tT,rM⟩;simp only[aj];refine⟨(dM.hp _ (by have:=hd.lt;show _<O6.next;omega)).trans (VH.an _ _ _),?_⟩;have hl6:=hd.lt;have aiw:O7.next=O6.next+1:=rM;have ae3:O7.hp O6.next=some (.cells [mb eg]):=tT;refine ab.jA (k:=O.next) (i:=3) (qR qu false (kY eg) 316 [.ptr O6.next 0] O7 hx hw (by decide) (by kernel_rfl) (fun s O' Jk _=>Mu eg s _ O' (Jk.at ae3))) ?_ ?_;rotate_left
 ·rintro m O8 ⟨gY,h⟩;have hX:=((dM.trans gY).hp _ (by show O.next<O6.next;omega)).trans (VH.an _ _ _);refine⟨hX,?_⟩;cases hF:bK x w qu false (kY eg)with
  | ok s=>rw[hF]at h;exact h.elim
  | error e=>
    rw[hF]at h hP;dsimp only at h hP;rw[h, <-hP];refine ae @bG ?_;exact⟨(hd.w_ (dM.trans gY)).dS,rfl⟩
 rintro m O8 ⟨gY,h⟩;have hX:=((dM.trans gY).hp _ (by show O.next<O6.next;omega)).trans (VH.an _ _ _);refine⟨hX,?_⟩;cases hF6:bK x w qu false (kY eg)with
 | error e=>rw[hF6]at h;exact h.elim
 | ok s6=>
 rw[hF6]at h hP;dsimp only at h hP;subst h;simp only[aj];refine ab.call (i:=4) (Mp s6 _) ?_;rintro _ O9 ⟨rfl,eO⟩;rw[eO];clear eO O9
 simp only[aj];refine⟨hX,?_⟩;have hb:=hd.w_ (dM.trans gY);have cJ:=(VH.ak O8 (.cells [a,b,c,d,e]) (by omega:O.next+1≠O.next)).symm.trans hb.d;refine ab.aw 5 ?_;refine ae @bG ?_;refine ab.aiv 7 ?_;refine ae @bG ?_;refine ab.aw 6 ?_;refine ae @bG ?_;refine ab.mO [(8,.aw),(9,.one)] ?_;refine ao @bG @cJ ?_;clear tT ae3 cJ hX eo;generalize kW s6=sc at*;refine VC.ds hb ?_;clear hb hd dM gY hl6 rM aiw;intro O9 hd;have eo:=hd.x;have cJ:=hd.d;refine VC.bu [2,4] (fun _:Int=>[.ptr O.next 0,.ptr (O.next+1) 0]) (fun o O'=>DS O O.next [a,b,c,d,e] O' [.str s1,.str s2,.str s3,.str s4,.str s5,mi sc.1,mi o,.sl 0 [] .nil]/\ow ⟨s1,s2,s3,s4,s5,sc.1,o,[]⟩ (uX x w)=PE) ?_ ?_
 ·refine VC.ag aa (aN @bG @eo @cJ ?_);clear eo cJ;refine ah.p (qR me false mh 300 [] _ hx hw (by decide) (by kernel_rfl) (fun s O' _ _=>VV s O')) ?_ ?_;rotate_left
  ·rintro m O9 ⟨bk,h⟩;cases hF:bK x w me false mh with
   | ok s=>rw[hF]at h;exact h.elim
   | error e=>
     rw[hF]at h hP;dsimp only at h hP;rw[h, <-hP];refine ae @bG ?_;exact⟨hd.dS.trans bk,rfl⟩
  rintro m OA ⟨bk,h⟩;cases hF7:bK x w me false mh with
  | error e=>rw[hF7]at h;exact h.elim
  | ok s7=>
  rw[hF7]at h hP;dsimp only at h hP;subst h;have hb:=hd.ge bk;clear bk hd;have eo:=hb.x;have cJ:=hb.d;refine aN @bG @eo @cJ ?_;have dP:=fun o:Int=>hb.st (cs':=[.str s1,.str s2,.str s3,.str s4,.str s5,mi sc.1,mi o,.sl 0 [] .nil])
  simp only[ar]at dP;unfold Z9 at hP;refine VC.az ?_;cases h1:s7==jY
  ·rw[if_neg (fun e=>by rw[e]at h1;exact absurd h1 (by decide))]at hP;cases h2:s7==kR
   ·rw[if_neg (fun e=>by rw[e]at h2;exact absurd h2 (by decide))]at hP;simp only[jY,kR]at h1 h2;refine WC.sound aa (cU @bG @cJ @h1 @h2 ?_);exact aA.mk 0 ⟨hb,hP⟩
   ·rw[if_pos (eq_of_beq h2)]at hP;simp only[jY,kR]at h1 h2;refine WC.sound aa (cU @bG @cJ @h1 @h2 ?_);exact aA.mk 2 ⟨dP 2,hP⟩
  ·rw[if_pos (eq_of_beq h1)]at hP;simp only[jY]at h1;refine WC.sound aa (aN @bG @cJ @h1 ?_);exact aA.mk 1 ⟨dP 1,hP⟩
 intro o OA ⟨hd,hP⟩;refine VC.bu [4] (fun _:List fI×Tok=>[.ptr (O.next+1) 0]) (fun x O'=>DS O O.next [a,b,c,d,e] O' [.str s1,.str s2,.str s3,.str s4,.str s5,mi sc.1,mi o,.sl x.1.length (x.1.flatMap bP) x.2]/\ .ok (⟨s1,s2,s3,s4,s5,sc.1,o,x.1⟩:Dp)=PE) ?_ ?_;rotate_left
 ·rintro⟨X,tk⟩ O9 ⟨hd,hP⟩;have cJ:=hd.d;simp only[ar]at cJ;refine WC.sound aa (ao @bG @cJ ?_);rw[<-hP];refine⟨hd.dS.set (by omega) _,?_⟩;simp only[aQ,ar,wu,mR]
 have eo:=hd.x;have cJ:=hd.d;have uV:∀e,b_ x w lB= .error e->uX x w= .error e:=fun e h=>by unfold uX;rw[h]
 have nD:∀y wy,b_ x w lB= .ok ((y,wy),false)->uX x w= .ok []:=fun y wy h=>by unfold uX;rw[h]
 have iJ:∀y wy,b_ x w lB= .ok ((y,wy),true)->uX x w=match mS y wy tA with
  | .error e=>.error e
  | .ok l=>xh l []:=fun y wy h=>by unfold uX;rw[h]
 generalize uX x w=DX at*;generalize b_ x w lB=F at*;refine VC.ag aa (aN @bG @eo @cJ ?_);clear eo cJ;refine ah.p (uT OA (by have:=jU x;omega) (by omega) (by decide)) ?_ ?_;rotate_left
 ·rintro m O2 ⟨aC,h⟩;cases F with
  | ok y=>exact h.elim
  | error e=>
    dsimp only at h;rw[uV e rfl]at hP;simp only[ow]at hP;rw[h, <-hP];refine ae @bG ?_;exact⟨hd.dS.trans aC,rfl⟩
 rintro m OB ⟨aC,h⟩;cases F with
 | error e=>exact h.elim
 | ok y=>
 obtain⟨⟨y,wy⟩,bb⟩:=y;dsimp only at h;subst h;obtain⟨Z1,uW⟩:=uU rfl;have nW:wy.length<=6011:=by rw[uW];simp only[List.length_append,List.length_cons,List.length_nil];omega
 have hb:=hd.ge aC;clear hd aC uU uW uV
 replace iJ:bb=true->DX=match mS y wy tA with
  | .error e=>.error e
  | .ok l=>xh l []:=fun h=>by subst h;exact iJ y wy rfl
 replace nD:bb=false->DX= .ok []:=fun h=>by subst h;exact nD y wy rfl
 have HQ:=SJ y wy tA;have SN:= @HP y wy tA;generalize mS y wy tA=LE at*;obtain⟨yn,ya,yk,yt⟩:=y;generalize hWy:kj (.mk yn ya yk yt)=Wy at*;simp only[kh,c_,List.cons_append,List.nil_append]at HQ ⊢;refine ae @bG ?_;refine VC.al ?_;rintro OC ⟨Mw,hyC,hnC⟩;have hd:=hb.ge Mw;clear hb Mw;cases bb
 ·rw[nD rfl]at hP;simp only[ow]at hP;refine WC.sound aa (ae @bG ?_);exact aA.mk ([],.nil) ⟨hd,hP⟩
 rw[iJ rfl]at hP;clear nD iJ;refine VC.ag aa (ae @bG ?_);refine WC.sound aa (ao @bG @hyC ?_);refine ah.p (HQ OC (by omega) (by omega) (by decide)) ?_ ?_;rotate_left
 ·rintro m O9 ⟨bk,h⟩;cases LE with
  | ok y=>exact h.elim
  | error e=>
    dsimp only at h;simp only[ow]at hP;rw[h, <-hP];refine ae @bG ?_;exact⟨hd.dS.trans bk,rfl⟩
 rintro m OD ⟨bk,h⟩;cases LE with
 | error e=>exact h.elim
 | ok L=>
 dsimp only at h hP;obtain⟨tL,rfl⟩:=h;obtain⟨om,hLm⟩:=SN rfl;have hb:=hd.ge bk;clear hd bk SN HQ hyC;refine ae @bG ?_;refine VC.bq [50] [4,48,49] (fun x:Nat×List fI×Tok=>[mi x.1]) (fun x O'=>DS O O.next [a,b,c,d,e] O' [.str s1,.str s2,.str s3,.str s4,.str s5,mi sc.1,mi o,.sl x.2.1.length (x.2.1.flatMap bP) x.2.2]/\App O' (O.next+2) 2 x.2.2/\x.1<=L.length/\x.2.1.length=x.1/\ow ⟨s1,s2,s3,s4,s5,sc.1,o,[]⟩ (xh (L.drop x.1) x.2.1)=PE) (fun x=>L.length - x.1) ((0,[],.nil)) ?_ ?_
 ·exact⟨hb,trivial,Nat.zero_le _,rfl,hP⟩
 rintro⟨j,X,tk⟩ O3 ⟨hd,cB,hj,Jg,hP⟩;dsimp only at hd cB hj Jg hP ⊢;by_cases bf:j<L.length;rotate_left
 ·obtain rfl:j=L.length:=by omega
  rw[List.drop_of_length_le (Nat.le_refl _),xh]at hP;refine WC.sound aa (ae @bG ?_);exact aA.mk (X,tk) ⟨hd,hP⟩
 have br:((tE L).drop (j*5)).take 5=kh L[j].1 L[j].2:=bB EH L j bf;have hL5:=wh L;rw[List.drop_eq_getElem_cons bf,xh]at hP;obtain⟨Z5,VW⟩:=hLm L[j] (List.getElem_mem bf);generalize L[j]=zz at*;obtain⟨z,wz⟩:=zz;dsimp only at Z5 VW;have nv:=fun O'=>pK z wz dQ true gU 301 [] O' (by omega) (by simp only[List.length_cons,List.length_nil]at VW;omega) (by decide) (by kernel_rfl) (fun s lD _ hs=>Mv s lD hs)
 have qI:=fun O'=>pK z wz dF true gU 301 [] O' (by omega) (by simp only[List.length_cons,List.length_nil]at VW;omega) (by decide) (by kernel_rfl) (fun s lD _ hs=>Mv s lD hs)
 unfold exE at hP;dsimp only at hP;generalize bK z wz dQ true gU=W1 at*;generalize bK z wz dF true gU=W2 at*;obtain⟨zn,za,cM,zt⟩:=z;simp only[kh,c_,List.cons_append,List.nil_append]at br nv qI;refine VC.ag aa (ae @bG ?_);refine VC.ag aa (ae @bG ?_);refine VC.bj (VC.az ?_);refine VC.ag aa (ao @bG @br ?_);refine VC.al ?_;rintro O4 ⟨aZ,jl,ib⟩;have hb:=hd.ge aZ;have mT:=cB.ge aZ;have gx:O.next+1<O3.next:=hd.lt;clear hd aZ cB;refine VC.po [8,9,10] (O3.next) (jl) ?_;intro XX;refine ab.aw 0 ?_;refine ae @bG ?_;refine ab.sB (m:=.agg [.str zn,.sl za.length (za.flatMap a_) .au,.sl cM.length (aB cM) .au,.str zt,.str wz]) 2 ?_ ?_
 ·exact fp @bG
 simp only[aj];refine ab.sB (m:=.agg [.str zn,.sl za.length (za.flatMap a_) .au,.sl cM.length (aB cM) .au,.str zt,.str wz]) 4 ?_ ?_
 ·exact fp @bG
 simp only[aj];have j_:=mT.nX (k:=O3.next) (x:=.obj XX) (by rw[jl];simp);have hXX:=VH.an O4 O3.next (.obj XX);have cJ:=(VH.ak O4 (.obj XX) (by omega:O.next+1≠O3.next)).trans hb.d;have lI:∀O9,(O4.set O3.next (.obj XX)).Ge O9->O.Ge O9:=fun O9 g=>((hb.dS.set (by omega) _).trans g)
 have fq:∀O9,(O4.set O3.next (.obj XX)).Ge O9->O9.hp O3.next=some (.obj XX)/\O9.hp (O.next+1)=some (.cells [.str s1,.str s2,.str s3,.str s4,.str s5,mi sc.1,mi o,.sl X.length (X.flatMap bP) tk]):=fun O9 g=>⟨(g.hp _ (by show O3.next<O4.next;omega)).trans hXX,(g.hp _ (by show O.next+1<O4.next;omega)).trans cJ⟩
 have Gr:=fun(O9:VH) (g:(O4.set O3.next (.obj XX)).Ge O9) (y:bW)=>hb.agM (k:=O3.next) gx g (y:=y)
 clear cJ;generalize O4.set O3.next (.obj XX)=O5 at*;refine ab.pair (i:=1) (j:=3) ?_ ?_
 ·refine aI.o1 ?_;refine ao @bG (fq _ (VH.Ge.refl _)).2 ?_;refine⟨(fq _ (VH.Ge.refl _)).1,?_⟩;have hG:=VH.Ge.refl O5;refine ab.pM (i:=3) (nv O5) ?_ ?_;rotate_left
  ·rintro m O9 ⟨bk,h⟩;cases W1 with
   | ok s=>exact h.elim
   | error e=>
     dsimp only at h hP;simp only[ow]at hP;rw[h, <-hP];refine ae @bG ?_;exact⟨lI _ (hG.trans bk),rfl⟩
  rintro m O6 ⟨bk,h⟩;cases W1 with
  | error e=>exact h.elim
  | ok sg=>
  dsimp only at h hP;subst h;simp only[aj]
  replace hG:=hG.trans bk
  clear bk;refine⟨(fq _ hG).1,?_⟩;refine ab.pM (i:=5) (qI O6) ?_ ?_;rotate_left
  ·rintro m O9 ⟨bk,h⟩;cases W2 with
   | ok s=>exact h.elim
   | error e=>
     dsimp only at h hP;simp only[ow]at hP;rw[h, <-hP];refine ae @bG ?_;exact⟨lI _ (hG.trans bk),rfl⟩
  rintro m OF ⟨bk,h⟩;cases W2 with
  | error e=>exact h.elim
  | ok sa=>
  dsimp only at h hP;subst h;simp only[aj]
  replace hG:=hG.trans bk
  clear bk;refine⟨(fq _ hG).1,?_⟩;refine ab.aw 6 ?_;refine ae @bG ?_;refine ab.op (i:=7) ?_;refine ae @bG ?_;refine⟨(fq _ hG).1,?_⟩;refine ab.mO [(8,.one),(9,.aw),(10,.one)] ?_;have EK:=Gr _ hG (.cells [.str zn,.sl za.length (za.flatMap a_) .au,.sl cM.length (aB cM) .au,.str zt,.str wz]);have uY:=(j_.ge hG).nX (k:=O3.next) (x:=.cells [.str zn,.sl za.length (za.flatMap a_) .au,.sl cM.length (aB cM) .au,.str zt,.str wz]) (by rw[(fq _ hG).1];simp);refine ae @bG ?_;obtain⟨mE,gj,kS⟩:=fS (n:=X.length) (cs:=X.flatMap bP) (ds:=[.str sg,.str sa]) (es:=bP ⟨sg,sa⟩) Em B6.1.1 uY (aJ mQ X) rfl rfl (by decide) (by omega) (by simp only[maxLen];omega) (mR X) (by simp only[bP,wu]);refine VL.k_ gj kS ?_;have EL:=EK.app uY;have EM:=EL.d;have EN:=EL.st (cs':=[.str s1,.str s2,.str s3,.str s4,.str s5,mi sc.1,mi o,.sl (X.length+1) (X.flatMap bP++bP ⟨sg,sa⟩) (.own OF.next 2)]);have uZ:=(App.after (B:=O.next+2) (sz:=2) (tk:=tk) (O:=OF.set O3.next (.cells [.str zn,.sl za.length (za.flatMap a_) .au,.sl cM.length (aB cM) .au,.str zt,.str wz])) (by have:=EK.lt;omega)).nX (k:=O.next+1) (x:=.cells [.str s1,.str s2,.str s3,.str s4,.str s5,mi sc.1,mi o,.sl (X.length+1) (X.flatMap bP++bP ⟨sg,sa⟩) (.own OF.next 2)]) (by rw[EM];simp);simp only[ar]at EN uZ;generalize (OF.set O3.next (.cells [.str zn,.sl za.length (za.flatMap a_) .au,.sl cM.length (aB cM) .au,.str zt,.str wz])).after tk=OG at*;refine ao @bG @EM ?_;have cY:((j:Int)+1)=((j+1:Nat):Int):=by omega
  have c5:(X++[(⟨sg,sa⟩:fI)]).flatMap bP=X.flatMap bP++bP ⟨sg,sa⟩:=by simp
  have CG:(X++[(⟨sg,sa⟩:fI)]).length=X.length+1:=by simp
  refine WC.sound aa (ao @bG @cY ?_);exact ay.next (j+1,X++[(⟨sg,sa⟩:fI)],.own OF.next 2) ⟨by dsimp only;rw[c5,CG];exact EN,uZ,bf,by dsimp only;rw[CG,Jg],hP⟩
 ·have hG:=VH.Ge.refl O5;refine aI.pM (nv O5) ?_ ?_;rotate_left
  ·rintro m O9 ⟨bk,h⟩;cases W1 with
   | ok s=>exact h.elim
   | error e=>
     dsimp only at h hP;simp only[ow]at hP;rw[h, <-hP];refine ae @bG ?_;exact⟨lI _ (hG.trans bk),rfl⟩
  rintro m O6 ⟨bk,h⟩;cases W1 with
  | error e=>exact h.elim
  | ok sg=>
  dsimp only at h hP;subst h;simp only[aj]
  replace hG:=hG.trans bk
  clear bk;refine⟨(fq _ hG).1,?_⟩;refine ab.pair (i:=1) (j:=5) ?_ ?_
  ·refine aI.o1 ?_;refine ao @bG (fq _ hG).2 ?_;refine⟨(fq _ hG).1,?_⟩;refine ab.pM (i:=5) (qI O6) ?_ ?_;rotate_left
   ·rintro m O9 ⟨bk,h⟩;cases W2 with
    | ok s=>exact h.elim
    | error e=>
      dsimp only at h hP;simp only[ow]at hP;rw[h, <-hP];refine ae @bG ?_;exact⟨lI _ (hG.trans bk),rfl⟩
   rintro m OF ⟨bk,h⟩;cases W2 with
   | error e=>exact h.elim
   | ok sa=>
   dsimp only at h hP;subst h;simp only[aj]
   replace hG:=hG.trans bk
   clear bk;refine⟨(fq _ hG).1,?_⟩;refine ab.aw 6 ?_;refine ae @bG ?_;refine ab.op (i:=7) ?_;refine ae @bG ?_;refine⟨(fq _ hG).1,?_⟩;refine ab.mO [(8,.one),(9,.aw),(10,.one)] ?_;have EK:=Gr _ hG (.cells [.str zn,.sl za.length (za.flatMap a_) .au,.sl cM.length (aB cM) .au,.str zt,.str wz]);have uY:=(j_.ge hG).nX (k:=O3.next) (x:=.cells [.str zn,.sl za.length (za.flatMap a_) .au,.sl cM.length (aB cM) .au,.str zt,.str wz]) (by rw[(fq _ hG).1];simp);refine ae @bG ?_;obtain⟨mE,gj,kS⟩:=fS (n:=X.length) (cs:=X.flatMap bP) (ds:=[.str sg,.str sa]) (es:=bP ⟨sg,sa⟩) Em B6.1.1 uY (aJ mQ X) rfl rfl (by decide) (by omega) (by simp only[maxLen];omega) (mR X) (by simp only[bP,wu]);refine VL.k_ gj kS ?_;have EL:=EK.app uY;have EM:=EL.d;have EN:=EL.st (cs':=[.str s1,.str s2,.str s3,.str s4,.str s5,mi sc.1,mi o,.sl (X.length+1) (X.flatMap bP++bP ⟨sg,sa⟩) (.own OF.next 2)]);have uZ:=(App.after (B:=O.next+2) (sz:=2) (tk:=tk) (O:=OF.set O3.next (.cells [.str zn,.sl za.length (za.flatMap a_) .au,.sl cM.length (aB cM) .au,.str zt,.str wz])) (by have:=EK.lt;omega)).nX (k:=O.next+1) (x:=.cells [.str s1,.str s2,.str s3,.str s4,.str s5,mi sc.1,mi o,.sl (X.length+1) (X.flatMap bP++bP ⟨sg,sa⟩) (.own OF.next 2)]) (by rw[EM];simp);simp only[ar]at EN uZ;generalize (OF.set O3.next (.cells [.str zn,.sl za.length (za.flatMap a_) .au,.sl cM.length (aB cM) .au,.str zt,.str wz])).after tk=OG at*;refine ao @bG @EM ?_;have cY:((j:Int)+1)=((j+1:Nat):Int):=by omega
   have c5:(X++[(⟨sg,sa⟩:fI)]).flatMap bP=X.flatMap bP++bP ⟨sg,sa⟩:=by simp
   have CG:(X++[(⟨sg,sa⟩:fI)]).length=X.length+1:=by simp
   refine WC.sound aa (ao @bG @cY ?_);exact ay.next (j+1,X++[(⟨sg,sa⟩:fI)],.own OF.next 2) ⟨by dsimp only;rw[c5,CG];exact EN,uZ,bf,by dsimp only;rw[CG,Jg],hP⟩
  ·refine aI.pM (qI O6) ?_ ?_;rotate_left
   ·rintro m O9 ⟨bk,h⟩;cases W2 with
    | ok s=>exact h.elim
    | error e=>
      dsimp only at h hP;simp only[ow]at hP;rw[h, <-hP];refine ae @bG ?_;exact⟨lI _ (hG.trans bk),rfl⟩
   rintro m OF ⟨bk,h⟩;cases W2 with
   | error e=>exact h.elim
   | ok sa=>
   dsimp only at h hP;subst h;simp only[aj]
   replace hG:=hG.trans bk
   clear bk;refine⟨(fq _ hG).1,?_⟩;refine ab.aw 6 ?_;refine ae @bG ?_;refine ab.pair (i:=1) (j:=7) ?_ ?_
   ·refine aI.o1 ?_;refine ao @bG (fq _ hG).2 ?_;refine⟨(fq _ hG).1,?_⟩;refine ab.op (i:=7) ?_;refine ae @bG ?_;refine⟨(fq _ hG).1,?_⟩;refine ab.mO [(8,.one),(9,.aw),(10,.one)] ?_;have EK:=Gr _ hG (.cells [.str zn,.sl za.length (za.flatMap a_) .au,.sl cM.length (aB cM) .au,.str zt,.str wz]);have uY:=(j_.ge hG).nX (k:=O3.next) (x:=.cells [.str zn,.sl za.length (za.flatMap a_) .au,.sl cM.length (aB cM) .au,.str zt,.str wz]) (by rw[(fq _ hG).1];simp);refine ae @bG ?_;obtain⟨mE,gj,kS⟩:=fS (n:=X.length) (cs:=X.flatMap bP) (ds:=[.str sg,.str sa]) (es:=bP ⟨sg,sa⟩) Em B6.1.1 uY (aJ mQ X) rfl rfl (by decide) (by omega) (by simp only[maxLen];omega) (mR X) (by simp only[bP,wu]);refine VL.k_ gj kS ?_;have EL:=EK.app uY;have EM:=EL.d;have EN:=EL.st (cs':=[.str s1,.str s2,.str s3,.str s4,.str s5,mi sc.1,mi o,.sl (X.length+1) (X.flatMap bP++bP ⟨sg,sa⟩) (.own OF.next 2)]);have uZ:=(App.after (B:=O.next+2) (sz:=2) (tk:=tk) (O:=OF.set O3.next (.cells [.str zn,.sl za.length (za.flatMap a_) .au,.sl cM.length (aB cM) .au,.str zt,.str wz])) (by have:=EK.lt;omega)).nX (k:=O.next+1) (x:=.cells [.str s1,.str s2,.str s3,.str s4,.str s5,mi sc.1,mi o,.sl (X.length+1) (X.flatMap bP++bP ⟨sg,sa⟩) (.own OF.next 2)]) (by rw[EM];simp);simp only[ar]at EN uZ;generalize (OF.set O3.next (.cells [.str zn,.sl za.length (za.flatMap a_) .au,.sl cM.length (aB cM) .au,.str zt,.str wz])).after tk=OG at*;refine ao @bG @EM ?_;have cY:((j:Int)+1)=((j+1:Nat):Int):=by omega
    have c5:(X++[(⟨sg,sa⟩:fI)]).flatMap bP=X.flatMap bP++bP ⟨sg,sa⟩:=by simp
    have CG:(X++[(⟨sg,sa⟩:fI)]).length=X.length+1:=by simp
    refine WC.sound aa (ao @bG @cY ?_);exact ay.next (j+1,X++[(⟨sg,sa⟩:fI)],.own OF.next 2) ⟨by dsimp only;rw[c5,CG];exact EN,uZ,bf,by dsimp only;rw[CG,Jg],hP⟩
   ·refine aI.o1 ?_;refine ae @bG ?_;refine⟨(fq _ hG).1,?_⟩;refine ab.op (i:=1) ?_;refine ao @bG (fq _ hG).2 ?_;refine⟨(fq _ hG).1,?_⟩;refine ab.mO [(8,.one),(9,.aw),(10,.one)] ?_;have EK:=Gr _ hG (.cells [.str zn,.sl za.length (za.flatMap a_) .au,.sl cM.length (aB cM) .au,.str zt,.str wz]);have uY:=(j_.ge hG).nX (k:=O3.next) (x:=.cells [.str zn,.sl za.length (za.flatMap a_) .au,.sl cM.length (aB cM) .au,.str zt,.str wz]) (by rw[(fq _ hG).1];simp);refine ae @bG ?_;obtain⟨mE,gj,kS⟩:=fS (n:=X.length) (cs:=X.flatMap bP) (ds:=[.str sg,.str sa]) (es:=bP ⟨sg,sa⟩) Em B6.1.1 uY (aJ mQ X) rfl rfl (by decide) (by omega) (by simp only[maxLen];omega) (mR X) (by simp only[bP,wu]);refine VL.k_ gj kS ?_;have EL:=EK.app uY;have EM:=EL.d;have EN:=EL.st (cs':=[.str s1,.str s2,.str s3,.str s4,.str s5,mi sc.1,mi o,.sl (X.length+1) (X.flatMap bP++bP ⟨sg,sa⟩) (.own OF.next 2)]);have uZ:=(App.after (B:=O.next+2) (sz:=2) (tk:=tk) (O:=OF.set O3.next (.cells [.str zn,.sl za.length (za.flatMap a_) .au,.sl cM.length (aB cM) .au,.str zt,.str wz])) (by have:=EK.lt;omega)).nX (k:=O.next+1) (x:=.cells [.str s1,.str s2,.str s3,.str s4,.str s5,mi sc.1,mi o,.sl (X.length+1) (X.flatMap bP++bP ⟨sg,sa⟩) (.own OF.next 2)]) (by rw[EM];simp);simp only[ar]at EN uZ;generalize (OF.set O3.next (.cells [.str zn,.sl za.length (za.flatMap a_) .au,.sl cM.length (aB cM) .au,.str zt,.str wz])).after tk=OG at*;refine ao @bG @EM ?_;have cY:((j:Int)+1)=((j+1:Nat):Int):=by omega
    have c5:(X++[(⟨sg,sa⟩:fI)]).flatMap bP=X.flatMap bP++bP ⟨sg,sa⟩:=by simp
    have CG:(X++[(⟨sg,sa⟩:fI)]).length=X.length+1:=by simp
    refine WC.sound aa (ao @bG @cY ?_);exact ay.next (j+1,X++[(⟨sg,sa⟩:fI)],.own OF.next 2) ⟨by dsimp only;rw[c5,CG];exact EN,uZ,bf,by dsimp only;rw[CG,Jg],hP⟩
set_option linter.defProp false in
def mj:=And.intro bG<|And.intro uO AX
def qS (eg:Bool):List (Nd×Bs)->List Dp->Except (Int×Bs) (List Dp)
 | [],D=>.ok D
 | k::r,D=>match EJ k.1 k.2 eg with
   | .error e=>.error e
   | .ok d=>qS eg r (D++[d])
def lE (x:Nd) (w:Bs) (eg:Bool):Except (Int×Bs) (List Dp):=
 match b_ x w lC with
 | .error e=>.error e
 | .ok ((_,_),false)=>.ok []
 | .ok ((y,wy),true)=>match mS y wy lh with
   | .error e=>.error e
   | .ok L=>qS eg L []
theorem SO (x:Nd) (w:Bs) (eg:Bool) (O:VH) (hx:kj x<=1000000) (hw:w.length<=4000):
  VF Tryz.prog 253 [.agg (kh x w),mb eg] O (FQ O (lE x w eg) fun y m=>∃tk,m= .sl y.length (y.flatMap aQ) tk):=by
 have uT:=rO x w lC;have kU:=jU x;have uU:= @rQ x w lC;have uV:∀e,b_ x w lC= .error e->lE x w eg= .error e:=fun e h=>by unfold lE;rw[h]
 have nD:∀y wy,b_ x w lC= .ok ((y,wy),false)->lE x w eg= .ok []:=fun y wy h=>by unfold lE;rw[h]
 have iJ:∀y wy,b_ x w lC= .ok ((y,wy),true)->lE x w eg=match mS y wy lh with
  | .error e=>.error e
  | .ok L=>qS eg L []:=fun y wy h=>by unfold lE;rw[h]
 generalize lE x w eg=PE at*;generalize b_ x w lC=F at*;obtain⟨n,a,k,t⟩:=x;generalize hW:kj (.mk n a k t)=W at*;simp only[kh,c_,List.cons_append,List.nil_append]at uT ⊢;refine VF.bL 31 [.tmp 4] Tryz.func253 ?_;refine VC.ag aa (ae @mj ?_);refine VC.bx ?_;rintro O1 ⟨aU,fK,du⟩;refine VC.ag aa (ao @mj @fK ?_);refine ah.p (uT O1 (by omega) (by omega) (by decide)) ?_ ?_;rotate_left
 ·rintro m O2 ⟨aC,h⟩;cases F with
  | ok y=>exact h.elim
  | error e=>
    dsimp only at h;rw[uV e rfl];refine ae @mj ?_;exact⟨aU.trans aC,h⟩
 rintro m O2 ⟨aC,h⟩;cases F with
 | error e=>exact h.elim
 | ok y=>
 obtain⟨⟨y,wy⟩,b⟩:=y;dsimp only at h;subst h;obtain⟨Z1,uW⟩:=uU rfl;have nW:wy.length<=4013:=by rw[uW];simp only[List.length_append,List.length_cons,List.length_nil];omega
 clear uU uW uV
 replace iJ:b=true->PE=match mS y wy lh with
  | .error e=>.error e
  | .ok L=>qS eg L []:=fun h=>by subst h;exact iJ y wy rfl
 replace nD:b=false->PE= .ok []:=fun h=>by subst h;exact nD y wy rfl
 have HQ:=SJ y wy lh;have SN:= @HP y wy lh;generalize mS y wy lh=LE at*;obtain⟨yn,ya,yk,yt⟩:=y;generalize hWy:kj (.mk yn ya yk yt)=Wy at*;simp only[kh,c_,List.cons_append,List.nil_append]at HQ ⊢;have gE:=aU.trans aC;refine ae @mj ?_;refine VC.al ?_;rintro O3 ⟨aL,Mm,iH⟩;have eB:=gE.trans aL;cases b
 ·rw[nD rfl];refine WC.sound aa (ae @mj ?_);exact⟨eB,.nil,rfl⟩
 replace iJ:=iJ rfl
 clear nD;refine VC.ag aa (ae @mj ?_);refine VC.join aa [4] (fun x:List Dp×Tok=>[.sl x.1.length (x.1.flatMap aQ) x.2]) (fun x O'=>O.Ge O'/\PE= .ok x.1) ?_ ?_;rotate_left
 ·rintro⟨L,tl⟩ O9 ⟨bk,hP⟩;rw[hP];refine ae @mj ?_;exact⟨bk,tl,rfl⟩
 refine VC.ag aa (ao @mj @Mm ?_);refine ah.p (HQ O3 (by omega) (by omega) (by decide)) ?_ ?_;rotate_left
 ·rintro m O9 ⟨bk,h⟩;cases LE with
  | ok y=>exact h.elim
  | error e=>
    dsimp only at h iJ;rw[h,iJ];refine ae @mj ?_;exact⟨eB.trans bk,rfl⟩
 rintro m O4 ⟨aZ,h⟩;cases LE with
 | error e=>exact h.elim
 | ok L=>
 dsimp only at h iJ;obtain⟨tL,rfl⟩:=h;obtain⟨om,hLm⟩:=SN rfl;have gZ:=eB.trans aZ;refine ae @mj ?_;refine VC.az ?_;refine VC.bq [4,19] [1,17,18] (fun x:Nat×List Dp×Tok=>[.sl x.2.1.length (x.2.1.flatMap aQ) x.2.2,mi x.1]) (fun x O'=>O4.Ge O'/\App O' O4.next 8 x.2.2/\x.1<=L.length/\x.2.1.length=x.1/\PE=qS eg (L.drop x.1) x.2.1) (fun x=>L.length - x.1) ((0,[],.nil)) ?_ ?_
 ·exact⟨VH.Ge.refl _,trivial,Nat.zero_le _,rfl,iJ⟩
 rintro⟨j,X,tk⟩ O5 ⟨bz,cB,hj,Jg,hP⟩;dsimp only at cB hj Jg hP ⊢;by_cases bf:j<L.length;rotate_left
 ·obtain rfl:j=L.length:=by omega
  rw[List.drop_of_length_le (Nat.le_refl _),qS]at hP;refine WC.sound aa (ae @mj ?_);exact aA.mk (X,tk) ⟨gZ.trans bz,hP⟩
 have br:((tE L).drop (j*5)).take 5=kh L[j].1 L[j].2:=bB EH L j bf;have hL5:=wh L;rw[List.drop_eq_getElem_cons bf,qS]at hP;obtain⟨Z5,VW⟩:=hLm L[j] (List.getElem_mem bf);generalize L[j]=zz at*;obtain⟨z,wz⟩:=zz;dsimp only at Z5 VW hP br;have tU:=fun O'=>agN z wz eg O' (by omega) (by simp only[List.length_cons,List.length_nil]at VW;omega)
 generalize EJ z wz eg=W1 at*;obtain⟨zn,za,cM,zt⟩:=z;simp only[kh,c_,List.cons_append,List.nil_append]at br tU;have gD:=bz.next;refine VC.ag aa (ae @mj ?_);refine VC.ag aa (ae @mj ?_);refine VC.bj (VC.az ?_);refine VC.ag aa (ao @mj @br ?_);refine VC.al ?_;rintro O6 ⟨dL,mA,lS⟩;have nV:=cB.ge dL;have pN:=bz.trans dL;refine WC.sound aa (ao @mj @mA ?_);refine ah.p (tU O6) ?_ ?_;rotate_left
 ·rintro m O9 ⟨bk,h⟩;cases W1 with
  | ok y=>exact h.elim
  | error e=>
    dsimp only at h hP;rw[h,hP];refine ae @mj ?_;exact⟨(gZ.trans pN).trans bk,rfl⟩
 rintro m O7 ⟨dM,h⟩;cases W1 with
 | error e=>exact h.elim
 | ok d=>
 dsimp only at h hP;subst h;have jP:=nV.ge dM;have ae4:=pN.trans dM;have cY:((j:Int)+1)=((j+1:Nat):Int):=by omega
 have hud:cI (aQ d)=aQ d:=by simpa using kQ [d]
 obtain⟨dg,da,dv,dt,dc,kB,dO,dx⟩:=d;have fP:(aQ ⟨dg,da,dv,dt,dc,kB,dO,dx⟩).length=8:=rfl;obtain⟨mE,gj,kS⟩:=fS (n:=X.length) (cs:=X.flatMap aQ) (ds:=aQ ⟨dg,da,dv,dt,dc,kB,dO,dx⟩) (es:=aQ ⟨dg,da,dv,dt,dc,kB,dO,dx⟩) uO AX.1.1 jP (aJ gd X) rfl rfl (by decide) (by omega) (by simp only[maxLen];omega) (kQ X) hud;simp only[aQ,ar]at gj kS ⊢;refine ae @mj ?_;refine VL.k_ gj kS ?_;refine ae @mj ?_;refine WC.sound aa (ao @mj @cY ?_);exact ay.next (j+1,X++[⟨dg,da,dv,dt,dc,kB,dO,dx⟩],.own O7.next 8) ⟨cA.dS ae4 jP (cA.after jP),App.after (by have:=ae4.next;omega),bf,by dsimp only;rw[List.length_append,Jg];rfl,hP⟩ (hl:=(by dsimp only;rw[List.flatMap_append,List.length_append];simp only[List.flatMap_cons,List.flatMap_nil,List.append_nil,aQ,ar];rfl))
set_option linter.defProp false in
def av:=And.intro bo<|And.intro aeX<|And.intro aih<|And.intro aii<|And.intro aik aif
def Ac (e:Int) (off:Nat):MV:=.iface 385 (.agg [mi e,mi off])
theorem aix {p:MV}:I3 385 (eA Tryz.prog 385) (some p)=some (.iface 385 p):=by rw[aeX.1.1];rfl
theorem iz (e:Int) (off:Nat) (O:VH):VF Tryz.prog 311 [mi e,mi off] O fun r O'=>O'=O/\match r with
  | .ret _=>False
  | .panic m=>m=Ac e off:=by
 refine VF.dh 8 [] Tryz.func311 ?_;refine cU @av @wi @wd @aix ?_;refine VL.panic rfl rfl rfl ?_;refine ae @wd ?_;rfl
def Rd (O:VH) (k:Nat) (t:Bs) (off:Nat) (X:MV):Prop:=k<O.next/\O.hp k=some (.cells [.str t,mi off,X])
theorem Rd.ge {O O':VH} {k off:Nat} {t:Bs} {X:MV} (h:Rd O k t off X) (g:O.Ge O'):Rd O' k t off X:=⟨Nat.lt_of_lt_of_le h.1 g.next,(g.hp _ h.1).trans h.2⟩
theorem Rd.set {O:VH} {k off off':Nat} {t t':Bs} {X X':MV} (h:Rd O k t off X):Rd (O.set k (.cells [.str t',mi off',X'])) k t' off' X':=⟨h.1,VH.an _ _ _⟩
theorem wo {O:VH} {k off:Nat} {t:Bs} {X:MV} (h:Rd O k t off X) (ho:off<=t.length):VF Tryz.prog 309 [.ptr k 0] O (aH fun m O'=>m= .str (t.drop off)/\O'=O):=by
 have hk:=h.2;simp only[ar]at hk;refine VF.bL 12 [.tmp 2] Tryz.func309 ?_;refine VC.ag aa (ae @av ?_);refine VC.bj ?_;refine WC.reads ?_;refine ao @av @hk ?_;refine WC.sound aa (ae @av ?_);trivial
theorem mV {O:VH} {k off:Nat} {t:Bs} {X:MV} (h:Rd O k t off X):VF Tryz.prog 263 [.ptr k 0] O (aH fun m O'=>m=mb (decide (t.length<=off))/\O'=O):=by
 have hk:=h.2;simp only[ar]at hk;refine VF.bL 13 [.tmp 2] Tryz.func263 ?_;refine VC.ag aa (ae @av ?_);refine VC.bj ?_;refine WC.reads ?_;by_cases h1:t.length<=off
 ·rw[decide_eq_true h1];refine ao @av @hk ?_;refine WC.sound aa (ae @av ?_);trivial
 ·rw[decide_eq_false h1];refine ao @av @hk ?_;refine WC.sound aa (ae @av ?_);trivial
theorem pQ {O:VH} {k off:Nat} {t:Bs} {X:MV} (p:Bs) (h:Rd O k t off X) (ho:off<=t.length):VF Tryz.prog 285 [.ptr k 0,.str p] O (aH fun m O'=>m=mb (dH (t.drop off) p)/\O'=O):=by
 refine VF.dh 9 [.tmp 4] Tryz.func285 ?_;refine ae @av ?_;refine ah.rt (wo h ho) ?_;rintro _ O2 ⟨rfl,eO⟩;rw[eO];clear eO O2
 refine ae @av ?_;refine ah.rt (mU (t.drop off) p _) ?_;rintro _ O2 ⟨rfl,eO⟩;rw[eO];clear eO O2
 exact fp @av
def TQ {α :Type} (O:VH) (k:Nat) (t:Bs) (X:MV) (f:Except (Int×Nat) (α ×Nat)) (R: α ->MV->Prop):fO->VH->Prop:=fun r O'=>bl O (some k) O'/\match r,f with
 | .ret m,.ok x=>R x.1 m/\Rd O' k t x.2 X
 | .panic m,.error e=>m=Ac e.1 e.2
 | _,_=>False
def iK (t:Bs) (off:Nat) (p:Bs):Except (Int×Nat) (Unit×Nat):=
 if t.length<=off then .error (13,off)else if dH (t.drop off) p then .ok ((),off+p.length)else .error (10,off)
theorem sL {O:VH} {k off:Nat} {t:Bs} {X:MV} (p:Bs) (h:Rd O k t off X) (ht:t.length<=1000000) (hp:p.length<=1000):VF Tryz.prog 290 [.ptr k 0,.str p] O (TQ O k t X (iK t off p) fun _ m=>m= .tuple []):=by
 have hk:=h.2;simp only[ar]at hk;unfold iK;refine VF.bL 37 [] Tryz.func290 ?_;refine VC.ag aa (ae @av ?_);refine ah.rt (mV h) ?_;rintro _ O2 ⟨rfl,eO⟩;rw[eO];clear eO O2
 by_cases h1:t.length<=off
 ·rw[decide_eq_true h1,if_pos h1];refine ao @av @hk ?_;refine ah.p (iz _ _ _) ?_ ?_
  ·rintro m O9 ⟨_,h⟩;exact h.elim
  rintro m O9 ⟨rfl,rfl⟩;refine ae @av ?_;exact⟨bl.refl _ _,rfl⟩
 rw[decide_eq_false h1,if_neg h1];refine ao @av @hk ?_;refine VC.ag aa (ao @av @hk ?_);refine ah.rt (pQ p h (by omega)) ?_;rintro _ O2 ⟨rfl,eO⟩;rw[eO];clear eO O2
 cases h2:dH (t.drop off) p
 ·refine ao @av @hk ?_;refine ah.p (iz _ _ _) ?_ ?_
  ·rintro m O9 ⟨_,h⟩;exact h.elim
  rintro m O9 ⟨rfl,rfl⟩;refine ae @av ?_;exact⟨bl.refl _ _,rfl⟩
 ·refine ao @av @hk ?_;refine WC.sound aa (ao @av @hk ?_);exact⟨bl.set,rfl,by simpa[ar]using h.set (t':=t) (off':=off+p.length) (X':=X)⟩
def jb (t:Bs) (off:Nat) (e:Int):Except (Int×Nat) (Bs×Nat):=
 if t.length<=off then .error (13,off)else if jN (t.drop off)=0 then .error (e,off)else .ok ((t.drop off).take (jN (t.drop off)),off+jN (t.drop off))
theorem Ad {O:VH} {k off:Nat} {t:Bs} {X:MV} (e:Int) (h:Rd O k t off X) (ht:t.length<=1000000):VF Tryz.prog 288 [.ptr k 0,mi e] O (TQ O k t X (jb t off e) fun y m=>m= .str y):=by
 have hk:=h.2;have EF:=B8 (t.drop off);rw[List.length_drop]at EF;have CH:=adC (t.drop off) O (Nat.le_trans (by rw[List.length_drop];omega:(t.drop off).length<=1000000) (by decide));simp only[ar]at hk;unfold jb;generalize jN (t.drop off)=n at*;refine VF.bL 58 [.tmp 4] Tryz.func288 ?_;refine VC.ag aa (ae @av ?_);refine VC.ag aa (ae @av ?_);refine ah.rt (mV h) ?_;rintro _ O2 ⟨rfl,eO⟩;rw[eO];clear eO O2
 by_cases h1:t.length<=off
 ·rw[decide_eq_true h1,if_pos h1];refine ao @av @hk ?_;refine ah.p (iz _ _ _) ?_ ?_
  ·rintro m O9 ⟨_,h⟩;exact h.elim
  rintro m O9 ⟨rfl,rfl⟩;refine ae @av ?_;exact⟨bl.refl _ _,rfl⟩
 rw[decide_eq_false h1,if_neg h1];refine ao @av @hk ?_;refine VC.ag aa (ao @av @hk ?_);refine ah.rt (wo h (by omega)) ?_;rintro _ O2 ⟨rfl,eO⟩;rw[eO];clear eO O2
 refine ae @av ?_;refine ah.rt (CH) ?_;rintro _ O2 ⟨rfl,eO⟩;rw[eO];clear eO O2
 refine ae @av ?_;by_cases h2:n=0
 ·rw[if_pos h2];refine VC.ag aa (aN @av @hk @h2 ?_);refine ah.p (iz _ _ _) ?_ ?_
  ·rintro m O9 ⟨_,h⟩;exact h.elim
  rintro m O9 ⟨rfl,rfl⟩;refine ae @av ?_;exact⟨bl.refl _ _,rfl⟩
 rw[if_neg h2];refine VC.ag aa (ao @av @hk ?_);refine VC.ag aa (ao @av @hk ?_);have hr:Rd (O.set k (.cells [.str t,mi (off+n:Nat),X])) k t (off+n) X:=h.set;have bt:=hr.2;have hu:bl O (some k) (O.set k (.cells [.str t,mi (off+n:Nat),X])):=bl.set;have kE:(off:Int)+(n:Int)=((off+n:Nat):Int):=by omega
 simp only[ar, <-kE]at hr bt hu;generalize O.set k (.cells [.str t,.v (.int .i64 ((off:Int)+(n:Int))),X])=O2 at*;have aaa:(off:Int)+(n:Int) - (n:Int)=(off:Int):=by omega
 have qT:((off:Int)+(n:Int)).toNat=off+n:=by omega
 refine VC.bj ?_;refine WC.reads ?_;refine cU @av @bt @aaa @qT ?_;refine WC.sound aa (ae @av ?_);exact⟨hu,by rw[show off+n - off=n by omega],hr⟩
def j4 (t:Bs) (off:Nat):Nat:=((t.drop off).takeWhile lG).length
theorem pR {O:VH} {k off:Nat} {t:Bs} {X:MV} (h:Rd O k t off X) (ht:t.length<=1000000) (ho:off<=t.length):VF Tryz.prog 289 [.ptr k 0] O (TQ O k t X (.ok (j4 t off,off+j4 t off)) fun y m=>m=mi y):=by
 have hk:=h.2;simp only[ar]at hk;refine VF.bL 44 [.tmp 2] Tryz.func289 ?_;refine VC.ag aa (ae @av ?_);refine VC.ag aa (ao @av @hk ?_);refine VC.bu [0,3] (fun _:Unit=>[.ptr k 0,mi off]) (fun _ O'=>bl O (some k) O'/\Rd O' k t (off+j4 t off) X) ?_ ?_;rotate_left
 ·rintro⟨⟩ O2 ⟨hu,hr⟩;have bt:=hr.2;have aaa:((off+j4 t off:Nat):Int) - (off:Int)=(j4 t off:Int):=by omega
  have uQ:j4 t off<=t.length:=by unfold j4;exact Nat.le_trans (nN _ _) (by rw[List.length_drop];omega)
  generalize j4 t off=n at*;simp only[ar]at bt;refine VC.ag aa (aN @av @bt @aaa ?_);refine WC.sound aa (ae @av ?_);exact⟨hu,rfl,hr⟩
 refine VC.az ?_;refine VC.bq [] [0,3] (fun o:Nat=>[]) (fun o O'=>bl O (some k) O'/\Rd O' k t o X/\off<=o/\o<=t.length/\off+j4 t off=o+j4 t o) (fun o=>t.length - o) (off) ?_ ?_
 ·exact⟨bl.refl _ _,h,Nat.le_refl _,ho,rfl⟩
 rintro o O2 ⟨hu,hr,ZP,ZQ,uQ⟩;have bt:=hr.2;simp only[ar]at bt;by_cases h1:t.length<=o
 ·have h0:j4 t o=0:=by unfold j4;rw[List.drop_of_length_le h1];rfl
  rw[h0,Nat.add_zero]at uQ;refine VC.bj (VC.bj ?_);refine VC.nB [4,5,6,7,8,9,10,11,12,13,14,15,16,17,18] ?_;refine ab.aw 0 ?_;refine ae @av ?_;refine ab.aw 1 ?_;refine ae @av ?_;refine ab.aw 2 ?_;refine ae @av ?_;refine ab.call (i:=3) (mV hr) ?_;rintro _ O3 ⟨rfl,eO⟩;simp only[aj];rw[eO];clear eO O3
  rw[decide_eq_true h1];refine⟨VH.Ge.refl _,?_⟩;refine ab.bH [(4,.aw),(5,.aw),(6,.aw),(7,.aw),(8,.aw),(9,.aw),(10,.aw),(11,.aw),(12,.aw),(13,.aw),(14,.aw),(15,.aw),(16,.aw),(17,.aw),(18,.aw)] ?_;refine ae @av ?_;refine WC.sound aa (ae @av ?_);exact aA.mk () ⟨hu,uQ▸hr⟩
 ·have h2:o<t.length:=by omega
  have hg:=List.getElem?_eq_getElem h2;have hd:=List.drop_eq_getElem_cons h2
  have uS:j4 t o=if lG t[o]then 1+j4 t (o+1)else 0:=by
   unfold j4;rw[hd];cases hb:lG t[o]
   ·rw[List.takeWhile_cons_of_neg (by simp[hb])];rfl
   ·rw[List.takeWhile_cons_of_pos hb,List.length_cons,if_pos rfl,Nat.add_comm]
  generalize t[o]=c at*;refine VC.bj (VC.bj ?_);refine VC.nB [] ?_;refine ab.aw 0 ?_;refine ae @av ?_;refine ab.aw 1 ?_;refine ae @av ?_;refine ab.aw 2 ?_;refine ae @av ?_;refine ab.call (i:=3) (mV hr) ?_;rintro _ O3 ⟨rfl,eO⟩;simp only[aj];rw[eO];clear eO O3
  rw[decide_eq_false h1];refine⟨VH.Ge.refl _,?_⟩;refine ab.aw 4 ?_;refine ae @av ?_;refine ab.aw 5 ?_;refine ae @av ?_;refine ab.aw 6 ?_;refine ae @av ?_;refine ab.aw 7 ?_;refine ae @av ?_;refine ab.aw 8 ?_;refine ae @av ?_;refine ab.aw 9 ?_;refine ae @av ?_;refine ab.ld (m:=.str t) 10 ?_ ?_
  ·exact dq @av @bt
  simp only[aj];refine ab.aw 11 ?_;refine ae @av ?_;refine ab.aw 12 ?_;refine ae @av ?_;refine ab.aw 13 ?_;refine ae @av ?_;refine ab.aw 14 ?_;refine ae @av ?_;refine ab.ld (m:=.v (.int .i64 o)) 15 ?_ ?_
  ·exact dq @av @bt
  simp only[aj];refine ab.aw 16 ?_;refine ao @av @hg ?_;refine ab.call (i:=17) (py c _) ?_;rintro _ O3 ⟨rfl,eO⟩;simp only[aj];rw[eO];clear eO O3
  refine⟨VH.Ge.refl _,?_⟩;refine ab.aw 18 ?_;refine ae @av ?_;refine ab.bH [] ?_;cases hb:lG c
  ·rw[hb,if_neg (by simp)]at uS;rw[uS,Nat.add_zero]at uQ;refine ae @av ?_;refine WC.sound aa (ae @av ?_);exact aA.mk () ⟨hu,uQ▸hr⟩
  ·rw[hb,if_pos rfl]at uS;refine ae @av ?_;refine WC.sound aa (ae @av ?_);refine WC.sound aa (ao @av @bt ?_);exact ay.next (o+1) ⟨hu.trans bl.set,by simpa[ar]using hr.set (t':=t) (off':=o+1) (X':=X),by omega,h2,by omega⟩
set_option linter.defProp false in
def dI:=And.intro av T69
theorem EO (s:List UInt8) (c:UInt8) (O:VH):en Tryz.prog 107 [.str s,fB c] O fun m O'=>m=mi (s.count c:Nat)/\O'=O:=by
 refine en.of (ex:=Extern.BytealgCount.count) Tryz.func107 (by kernel_rfl) (by kernel_rfl) (by kernel_rfl) (by kernel_rfl) fun G w vs hw hv=>?_
 obtain⟨u,us,rfl,h1,h2⟩:=hv.eh;obtain⟨u2,us2,rfl,h3,h4⟩:=h2.eh;rw[h4.ic];cases h1;have:=h3.iD;subst this;refine⟨_,Lib.run_countString _ _ w,?_⟩;have e:((c.toNat:Int).toNat).toUInt8=c:=by simp
 rw[e];exact .v rfl
theorem VZ (s:List UInt8) (c:UInt8) (O:VH):VF Tryz.prog 80 [.str s,.str [c]] O (aH fun m O'=>m=mi (s.count c:Nat)/\O'=O):=by
 refine VF.dh 34 [.tmp 4] Tryz.func80 ?_;refine aN @av @List.length_cons.{0} @List.length_nil.{0} ?_;refine ah.ext (EO s c O) rfl ?_;rintro _ O2 ⟨rfl,eO⟩;rw[eO];clear eO O2
 exact fp @av
def fD (s:Bs) (c:UInt8):Nat->Int
 | 0=> -1
 | n+1=>if s[n]?=some c then(n:Int)else fD s c n
theorem EP (s:Bs) (c:UInt8):∀n, -1<=fD s c n/\fD s c n<n
 | 0=>by simp[fD]
 | n+1=>by
   have:=EP s c n;unfold fD;split<;>omega
theorem mW (s:List UInt8) (c:UInt8) (O:VH) (hs:s.length<=1000000):VF Tryz.prog 293 [.str s,fB c] O (aH fun m O'=>m=mi (fD s c s.length)/\O'=O):=by
 refine VF.dh 19 [.tmp 4] Tryz.func293 ?_;refine ae @av ?_;refine WC.iG [5] [0,1] (fun j:Nat=>[mi ((j:Int) - 1)]) (fun j O'=>O'=O/\j<=s.length/\fD s c s.length=fD s c j) (fun j=>j) (s.length) ?_ ?_
 ·exact⟨rfl,Nat.le_refl _,rfl⟩
 rintro j O2 ⟨eO,hj,hl⟩;rw[eO];clear eO O2
 rcases j with _ | n
 ·refine ae @av ?_;rw[hl];rfl
 have hg:=List.getElem?_eq_getElem (show n<s.length by omega);have qT:(((n+1:Nat):Int) - 1).toNat=n:=by omega
 rw[show fD s c (n+1)=if s[n]?=some c then(n:Int)else fD s c n from rfl,hg]at hl;generalize hx:s[n]=d at*;by_cases hd:d=c
 ·rw[hd]at hl hg;rw[if_pos rfl]at hl;refine cU @av @hg @qT @aG ?_;rw[hl]
 ·have jz:¬((d.toNat:Int)=(c.toNat:Int)):=fun e=>hd (UInt8.toNat_inj.1 (by omega))
  rw[if_neg (by simpa using hd)]at hl;refine ia @av @hg @qT @aG @jz ?_;refine ay.next (n) ?_;exact⟨rfl,by omega,hl⟩
theorem Gs (s:List UInt8) (c:UInt8) (O:VH) (hs:s.length<=1000000):VF Tryz.prog 270 [.str s,.str [c]] O (aH fun m O'=>m=mi (fD s c s.length)/\O'=O):=by
 refine VF.dh 36 [.tmp 4] Tryz.func270 ?_;refine aN @av @List.length_cons.{0} @List.length_nil.{0} ?_;refine ah.rt (mW s c O hs) ?_;rintro _ O2 ⟨rfl,eO⟩;rw[eO];clear eO O2
 exact fp @av
theorem Be (s:List UInt8) (c:UInt8) (O:VH) (hs:s.length<=1000000):VF Tryz.prog 265 [.str s,fB c] O (aH fun m O'=>m=mi (fD s c s.length)/\O'=O):=by
 refine VF.dh 8 [.tmp 4] Tryz.func265 ?_;refine ae @av ?_;refine ah.rt (mW s c O hs) ?_;rintro _ O2 ⟨rfl,eO⟩;rw[eO];clear eO O2
 exact fp @av
def oR (t:Bs) (o:Nat):MV:=.agg [mi o,mi (1+((t.take o).count 10:Nat)),mi ((o:Int) - fD (t.take o) 10 (t.take o).length)]
theorem ae5 (t:Bs) (o:Nat) (O:VH) (ht:t.length<=1000000) (ho:o<=t.length):VF Tryz.prog 246 [.str t,mi o] O (aH fun m O'=>m=oR t o/\O.Ge O'):=by
 have hb:=EP (t.take o) 10 (t.take o).length;have hc:=List.count_le_length (a:=(10:UInt8)) (l:=t.take o);have eb:(t.take o).length<=1000000:=by rw[List.length_take];omega
 unfold oR;refine VF.dh 23 [.cell 4 69] Tryz.func246 ?_;have hmx:max (0:Int) (min (o:Int) ((t:List UInt8).length:Int))=(o:Int):=by omega
 have qT:((o:Int)).toNat=o:=by omega
 refine aN @dI @hmx @qT ?_;refine ah.rt (VZ (t.take o) 10 _) ?_;rintro _ O2 ⟨rfl,eO⟩;rw[eO];clear eO O2
 refine ae @dI ?_;refine ah.rt (Gs (t.take o) 10 _ eb) ?_;rintro _ O2 ⟨rfl,eO⟩;rw[eO];clear eO O2
 generalize fD (t.take o) 10 (t.take o).length=a at*;generalize (t.take o).count 10=b at*;refine ae @dI ?_;first | exact(VH.Ge.refl O).push _ | exact((VH.Ge.refl O).push _).set (Nat.le_refl _) _
open Go.Shelf
def Tryz.Jm:Go.Shelf.Ren:=⟨fun | 143=>81 | 219=>108 | 217=>139 | 225=>140 | 224=>141 | 267=>142 | 266=>169 | 314=>170 | n=>n,fun | 9=>9 | 3=>3 | 4=>4 | 5=>5 | 46=>202 | 146=>246 | 51=>128 | n=>n,fun | 1=>0 | n=>n⟩
theorem Tryz.aab:Go.Proofs.Lays.n143 Tryz.prog Tryz.Jm:={
 mixed:=by kernel_rfl
 f143:=Tryz.func81.trans (congrArg some (by kernel_rfl))
 f217:=Tryz.func139.trans (congrArg some (by kernel_rfl))
 f219:=Tryz.func108.trans (congrArg some (by kernel_rfl))
 f224:=Tryz.func141.trans (congrArg some (by kernel_rfl))
 f225:=Tryz.func140.trans (congrArg some (by kernel_rfl))
 f266:=Tryz.func169.trans (congrArg some (by kernel_rfl))
 f267:=Tryz.func142.trans (congrArg some (by kernel_rfl))
 f314:=Tryz.func170.trans (congrArg some (by kernel_rfl))
 t3:=Tryz.underlying3
 a3:=Tryz.isAgg3
 z3:=Tryz.sizeOf3
 v3:=Tryz.zeroValue3
 t4:=Tryz.underlying4
 a4:=Tryz.isAgg4
 z4:=Tryz.sizeOf4
 v4:=Tryz.zeroValue4
 t5:=Tryz.underlying5
 a5:=Tryz.isAgg5
 z5:=Tryz.sizeOf5
 v5:=Tryz.zeroValue5
 t9:=Tryz.underlying9
 a9:=Tryz.isAgg9
 z9:=Tryz.sizeOf9
 v9:=Tryz.zeroValue9
 t46:=Tryz.underlying202
 a46:=Tryz.isAgg202
 z46:=Tryz.sizeOf202
 v46:=Tryz.zeroValue202
 t51:=Tryz.underlying128
 a51:=Tryz.isAgg128
 z51:=Tryz.sizeOf128
 v51:=Tryz.zeroValue128
 t146:=Tryz.underlying246
 a146:=Tryz.isAgg246
 z146:=Tryz.sizeOf246
 v146:=Tryz.zeroValue246
 g1:=by kernel_rfl}
open Go.Lib in
theorem Tryz.strings_Index (s sub:ByteArray) (m:Int) (w:World) (hs:s.size<4294967281) (hm:w.cell? ⟨0,0,none⟩=some (.int .i64 m)):
  Calls Tryz.prog 81 #[.string s,.string sub] w fun e w'=>e= .returned (.int .i64 (Lib.index s.data.toList sub.data.toList))/\w'=w:=Any.strings_Index Tryz.aab s sub m w hs hm
theorem Mx (s p:List UInt8) (O:VH) (hs:s.length<4294967281):VF Tryz.prog 81 [.str s,.str p] O (aH fun m O'=>m=mi (Lib.index s p)/\O'=O):=by
 intro G w vs hw hv;obtain⟨u,us,rfl,h1,h2⟩:=hv.eh;obtain⟨u2,us2,rfl,h3,h4⟩:=h2.eh;rw[h4.ic];cases h1;cases h3;obtain⟨m,hm⟩:=hw.ahu (g:=0) (by decide);refine(Tryz.strings_Index ⟨⟨s⟩⟩ ⟨⟨p⟩⟩ m w hs hm).mono fun e w' ⟨he,xy⟩=>?_
 subst xy;subst he
 exact⟨.ret (mi (Lib.index s p)),O,G,Gh.Le.refl G,hw,.v rfl,rfl,rfl⟩
theorem index_le:∀(s p:Bs),Lib.index s p<=(s.length:Int)
 | [],p=>by unfold Lib.index;split<;>simp
 | b::l,p=>by
   have:=index_le l p;unfold Lib.index;rw[List.length_cons];split
   ·omega
   ·split<;>omega
theorem aac {f:UInt8->Bool}:∀(s:Bs) (j:Nat) (c:UInt8),s[j]?=some c->j<=(s.takeWhile f).length->if f c then j+1<=(s.takeWhile f).length else(s.takeWhile f).length=j
 | [],j,c,hj,_=>by simp at hj
 | d::s,0,c,hj,_=>by
   simp only[List.getElem?_cons_zero,Option.some.injEq]at hj;subst hj;cases h:f d<;>simp[List.takeWhile,h]
 | d::s,j+1,c,hj,h=>by
   rw[List.getElem?_cons_succ]at hj;cases hc:f d
   ·rw[List.takeWhile_cons_of_neg (by simp[hc])]at h;simp at h
   ·rw[List.takeWhile_cons_of_pos hc,List.length_cons]at h ⊢;have:=aac (f:=f) s j c hj (by omega);cases Lp:f c
    ·simp only[Lp,Bool.false_eq_true,if_false]at this ⊢;omega
    ·simp only[Lp,if_true]at this ⊢;omega
def pS (s p:Bs):Bs:=if 0<=Lib.index s p then s.take (Lib.index s p).toNat else s
def iU (t:Bs) (o:Nat) (p:Bs):Except (Int×Nat) (Bs×Nat):=
 if((pS (t.drop o) p).takeWhile mc).length<(pS (t.drop o) p).length then .error (10,o+((pS (t.drop o) p).takeWhile mc).length)
 else if Lib.index (t.drop o) p<0 then .error (13,t.length)else .ok (pS (t.drop o) p,o+(Lib.index (t.drop o) p).toNat+p.length)
theorem ES {O:VH} {k off:Nat} {t:Bs} {X:MV} (fr p:Bs) (h:Rd O k t off X) (ht:t.length<=1000000) (hp:p.length<=1000) (ho:off+fr.length<=t.length):
  VF Tryz.prog 286 [.ptr k 0,.str fr,.str p] O (TQ O k t X (iU t (off+fr.length) p) fun y m=>m= .str y):=by
 have hk:=h.2;have hr:Rd (O.set k (.cells [.str t,mi (off+fr.length:Nat),X])) k t (off+fr.length) X:=h.set;have hu:bl O (some k) (O.set k (.cells [.str t,mi (off+fr.length:Nat),X])):=bl.set;have kE:(off:Int)+(fr.length:Int)=((off+fr.length:Nat):Int):=by omega
 simp only[ar, <-kE]at hk hr hu;refine VF.bL 78 [.tmp 6] Tryz.func286 ?_;refine VC.ag aa (ae @av ?_);refine VC.ag aa (ao @av @hk ?_);generalize O.set k (.cells [.str t,.v (.int .i64 ((off:Int)+(fr.length:Int))),X])=O2 at*;generalize hoo:off+fr.length=o at*;have bt:=hr.2;simp only[ar]at bt;unfold iU;refine VC.ag aa (ae @av ?_);refine ah.rt (wo hr ho) ?_;rintro _ O3 ⟨rfl,eO⟩;rw[eO];clear eO O3
 refine ae @av ?_;refine ah.rt (Mx (t.drop o) p _ (by rw[List.length_drop];omega)) ?_;rintro _ O3 ⟨rfl,eO⟩;rw[eO];clear eO O3
 refine ae @av ?_;refine VC.ag aa (ae @av ?_);refine ah.rt (wo hr ho) ?_;rintro _ O3 ⟨rfl,eO⟩;rw[eO];clear eO O3
 refine ae @av ?_;have du:=Lib.index_ge (t.drop o) p;have jB:Lib.index (t.drop o) p<=((t.drop o).length:Int):=index_le _ _;have iX:pS (t.drop o) p=if 0<=Lib.index (t.drop o) p then(t.drop o).take (Lib.index (t.drop o) p).toNat else t.drop o:=rfl
 have CG:(pS (t.drop o) p).length<=1000000:=by
  rw[iX];split
  ·rw[List.length_take,List.length_drop];omega
  ·rw[List.length_drop];omega
 generalize pS (t.drop o) p=s at*;generalize Lib.index (t.drop o) p=n at*;refine VC.bu [0,2,7,8] (fun _:Unit=>[.ptr k 0,.str p,.v (.int .i64 n),.str s]) (fun _ O'=>O'=O2) ?_ ?_
 ·rw[List.length_drop]at jB;by_cases h0:0<=n
  ·rw[if_pos h0]at iX;subst iX;obtain⟨N,rfl⟩:=Int.eq_ofNat_of_zero_le h0;have hN:N<=(t.drop o).length:=by rw[List.length_drop];omega
   have qT:(N:Int).toNat=N:=rfl;refine ae @av ?_;refine WC.sound aa (ao @av @qT ?_);exact aA.mk () rfl
  ·rw[if_neg h0]at iX;subst iX;refine ao @av @h0 ?_;refine WC.sound aa (ae @av ?_);exact aA.mk () rfl
 rintro⟨⟩ O3 eO;rw[eO];clear eO O3
 refine VC.ag aa (ae @av ?_);clear iX;have htw:=nN mc s;refine VC.bq [38] [0,2,7,8,37] (fun j:Nat=>[mi j]) (fun j O'=>O'=O2/\j<=s.length/\j<=(s.takeWhile mc).length) (fun j=>s.length - j) (0) ?_ ?_
 ·exact⟨rfl,Nat.zero_le _,Nat.zero_le _⟩
 rintro j O3 ⟨eO,hj,hjt⟩;rw[eO];clear eO O3
 by_cases h1:j<s.length
 ·have hg:=List.getElem?_eq_getElem h1;have c5:=aac (f:=mc) s j _ hg hjt;generalize s[j]=c at*;cases hc:mc c
  ·rw[hc,if_neg (by simp)]at c5;rw[if_pos (by omega),c5];refine VC.ag aa (ae @av ?_);refine VC.ag aa (ae @av ?_);refine VC.ag aa (ao @av @hg ?_);refine ah.rt (wc c _) ?_;rintro _ O3 ⟨rfl,eO⟩;rw[eO];clear eO O3
   rw[hc];refine ao @av @bt ?_;refine ah.p (iz 10 (o+j) _) ?_ ?_
   ·rintro m O9 ⟨_,h⟩;exact h.elim
   rintro m O9 ⟨rfl,rfl⟩;refine ae @av ?_;exact⟨hu,rfl⟩
  ·rw[hc,if_pos rfl]at c5;refine VC.ag aa (ae @av ?_);refine VC.ag aa (ae @av ?_);refine VC.ag aa (ao @av @hg ?_);refine ah.rt (wc c _) ?_;rintro _ O3 ⟨rfl,eO⟩;rw[eO];clear eO O3
   rw[hc];refine ao @av @bt ?_;refine WC.sound aa (ae @av ?_);exact ay.next (j+1) ⟨rfl,h1,c5⟩
 ·have bf:j=s.length:=by omega
  subst bf;refine VC.ag aa (ae @av ?_);refine WC.sound aa (ae @av ?_);rw[if_neg (by omega)];by_cases h2:n<0
  ·rw[if_pos h2];refine VC.ag aa (ao @av @bt ?_);refine ah.p (iz 13 t.length _) ?_ ?_
   ·rintro m O9 ⟨_,h⟩;exact h.elim
   rintro m O9 ⟨rfl,rfl⟩;refine ae @av ?_;exact⟨hu,rfl⟩
  ·rw[if_neg h2];refine VC.ag aa (ao @av @bt ?_);have h3:(n.toNat:Int)=n:=by omega
   have h4:n<=1000000:=by rw[List.length_drop]at jB;omega
   refine VC.ag aa (ao @av @bt ?_);refine WC.sound aa (ae @av ?_);have eR:(o:Int)+(n+(p.length:Int))=((o+n.toNat+p.length:Nat):Int):=by omega
   rw[eR];exact⟨hu.trans bl.set,rfl,by simpa[ar]using hr.set (t':=t) (off':=o+n.toNat+p.length) (X':=X)⟩
def qU (s:Bs):Bool:=dH s [60,63,120,109,108]&&decide (5<s.length)&&(lG (s.getD 5 0)||s.getD 5 0==63)
theorem V0 {O:VH} {k off:Nat} {t:Bs} {X:MV} (h:Rd O k t off X) (ht:t.length<=1000000) (ho:off<=t.length):VF Tryz.prog 287 [.ptr k 0] O (aH fun m O'=>m=mb (qU (t.drop off))/\O'=O):=by
 unfold qU;refine VF.dh 25 [.tmp 2] Tryz.func287 ?_;refine ae @av ?_;refine ah.rt (wo h ho) ?_;rintro _ O2 ⟨rfl,eO⟩;rw[eO];clear eO O2
 have hl:(t.drop off).length<=1000000:=by rw[List.length_drop];omega
 generalize t.drop off=s at*;refine ae @av ?_;refine ah.rt (mU s [60,63,120,109,108] _) ?_;rintro _ O2 ⟨rfl,eO⟩;rw[eO];clear eO O2
 cases h1:dH s [60,63,120,109,108]
 ·exact fp @av
 by_cases h2:5<s.length
 ·have hg:=List.getElem?_eq_getElem h2;have hd:s.getD 5 0=s[5]:=by simp[List.getD,hg]
  rw[decide_eq_true h2,hd];generalize s[5]=c at*;refine ao @av @hg ?_;refine ah.rt (py c _) ?_;rintro _ O2 ⟨rfl,eO⟩;rw[eO];clear eO O2
  cases h3:lG c
  ·by_cases h4:c=63
   ·subst h4;refine aN @av @hg @aG ?_;rfl
   ·have h5:¬((c.toNat:Int)=63):=fun e=>h4 (UInt8.toNat_inj.1 (by simpa using(by omega:c.toNat=63)))
    rw[show(c==63)=false by simpa using h4];exact kt4 @av @hg @aG @h5
  ·exact fp @av
 ·rw[decide_eq_false h2];exact fp @av
section
variable {G:Gh} {O:VH} {w:World} {n:Sz} {D:List Deferred} {e:Env} {P:Program} {tab:bV} {ops:Array Oper} {Q:VQ} {u:Value}
def HR (k:Int):Bs:=(Utf8.encode k).data.toList
theorem V1 (ht:aM P tab) (h:WR G O w) {src dst el:TypeId} {tk:Tok} {k:Int} (hs:(tab src).map cn.under=some (.slice el)) (hd:(tab dst).map cn.under=some .string) (he:(tab el).map cn.under=some (.int .i32))
  (hx:VR G (.sl 1 [.v (.int .i32 k)] tk) u):gP P (convert src dst u) w G O (.str (HR k)):=by
 cases hx with
 | sl h1 h2 h3 h4 h5 h6=>
   rename_i us c b o
   have h7:us=[.int .i32 k]:=by
    match us,h1 with
    | [x],_=>rw[(h3 0 _ x rfl rfl).iD]
   subst h7;refine⟨_,w,G,?_,Gh.Le.refl G,h,.str,jx.refl _ _⟩;rw[run_convert_runes_string w src dst el _ _ _ (bA ht hs) (bA ht he) (bA ht hd)]
   have h8:=run_loadCells_list (P:=P) w ⟨b,o,none⟩ [Value.int .i32 k] (fun j v hv=>by
    rw[Addr.add_lit];exact h.d_ _ _ _ (h2 j v hv))
   rw[run_runesToString (P:=P) w ⟨b,o,none⟩ 1 c [k] h8]
   congr 2
theorem VL.ET (ht:aM P tab) {d:Option Tmp} {src dst el:TypeId} {x:Operand} {ty:TypeId} {ps:String} {af:Array Edge} {g:Option (Nat×Bool)} {L:List (Fl×Oper)} {k:Int} {tk:Tok}
  (hg:aK ops (.mk d (.convert src dst x) ty ps af g) e=some true) (hx:ev e x=some (.sl 1 [.v (.int .i32 k)] tk)) (hs:(tab src).map cn.under=some (.slice el)) (qO:(tab dst).map cn.under=some .string) (he:(tab el).map cn.under=some (.int .i32)) (hd:bh n d=true)
  (h:WL P tab n D .plain ops Q L (aV d (.str (HR k)) e) O):VL P n D .plain ops ((.one,.mk d (.convert src dst x) ty ps af g)::L) e O Q:=by
 refine VL.D3 (M:=fun m O'=>m= .str (HR k)/\O'=O) hg hd (fun G a w hw hf=>?_) ?_
 ·exact⟨_,_,⟨rfl,rfl⟩,df.of (V1 (P:=P) ht hw hs qO he (hf.ev hx)) (by simp[execOp])⟩
 ·rintro m O' ⟨rfl,rfl⟩;exact WL.sound ht h
end
set_option linter.defProp false in
def bE:=And.intro av<|And.intro Qk HE
def isLet (k:Nat):Bool:=decide (k=9\/k=10\/k=13\/(32<=k/\k<=1114111/\¬(55296<=k/\k<=57343)))
def Cb (k:Nat):Bs:=if isLet k then HR k else[]
theorem My {k:Nat} (h:isLet k=true):IntKind.i32.wrap (k:Int)=k:=by
 have hk:k<=1114111:=by
  simp only[isLet,decide_eq_true_eq]at h;omega
 clear h;simp only[IntKind.wrap,IntKind.signed,IntKind.bits];simp;omega
theorem V2 (k:Nat) (O:VH) (hk:k<=1000000000000):VF Tryz.prog 324 [mi k] O (aH fun m O'=>m= .tuple [.str (Cb k),mb (isLet k)]/\O'=O):=by
 have yes:isLet k=true->Cb k=HR k:=fun h=>by unfold Cb;rw[h];rfl
 have no:isLet k=false->Cb k=[]:=fun h=>by unfold Cb;rw[h];rfl
 have hw:= @My k;refine VF.dh 37 [.tmp 2,.tmp 3] Tryz.func324 ?_;by_cases h1:k=9
 ·have h0:isLet k=true:=decide_eq_true (.inl h1);subst h1;have hw:=hw h0;rw[yes h0,h0];refine ae @bE ?_;refine VL.ET aa rfl rfl (by rw[HE];rfl) (by rw[T9];rfl) (by rw[Qk];rfl) rfl ?_;refine ao @bE @hw ?_;trivial
 by_cases h2:k=10
 ·have h0:isLet k=true:=decide_eq_true (.inr (.inl h2));subst h2;have hw:=hw h0;rw[yes h0,h0];refine ae @bE ?_;refine VL.ET aa rfl rfl (by rw[HE];rfl) (by rw[T9];rfl) (by rw[Qk];rfl) rfl ?_;refine ao @bE @hw ?_;trivial
 by_cases h3:k=13
 ·have h0:isLet k=true:=decide_eq_true (.inr (.inr (.inl h3)));subst h3;have hw:=hw h0;rw[yes h0,h0];refine ae @bE ?_;refine VL.ET aa rfl rfl (by rw[HE];rfl) (by rw[T9];rfl) (by rw[Qk];rfl) rfl ?_;refine ao @bE @hw ?_;trivial
 by_cases h4:k<32
 ·have h0:isLet k=false:=by simp only[isLet,decide_eq_false_iff_not];omega
  rw[no h0,h0];refine ae @bE ?_;trivial
 by_cases h5:1114111<k
 ·have h0:isLet k=false:=by simp only[isLet,decide_eq_false_iff_not];omega
  rw[no h0,h0];refine ae @bE ?_;trivial
 by_cases h6:55296<=k
 ·by_cases h7:k<=57343
  ·have h0:isLet k=false:=by simp only[isLet,decide_eq_false_iff_not];omega
   rw[no h0,h0];refine ae @bE ?_;trivial
  ·have h0:isLet k=true:=by simp only[isLet,decide_eq_true_eq];omega
   have hw:=hw h0;rw[yes h0,h0];refine ae @bE ?_;refine VL.ET aa rfl rfl (by rw[HE];rfl) (by rw[T9];rfl) (by rw[Qk];rfl) rfl ?_;refine ao @bE @hw ?_;trivial
 ·have h0:isLet k=true:=by simp only[isLet,decide_eq_true_eq];omega
  have hw:=hw h0;rw[yes h0,h0];refine ae @bE ?_;refine VL.ET aa rfl rfl (by rw[HE];rfl) (by rw[T9];rfl) (by rw[Qk];rfl) rfl ?_;refine ao @bE @hw ?_;trivial
def rR (b:Nat) (c:UInt8):Int:=
 if pr c then(c.toNat:Int) - 48 else if b=16/\97<=c.toNat/\c.toNat<=102 then(c.toNat:Int) - 97+10 else if b=16/\65<=c.toNat/\c.toNat<=70 then(c.toNat:Int) - 65+10 else -1
theorem Mz (c:UInt8):pr c=decide (48<=c.toNat/\c.toNat<=57):=by unfold pr;rw[<-Bool.decide_and]
theorem HS (b:Nat) (c:UInt8) (O:VH):VF Tryz.prog 323 [fB c,mi b] O (aH fun m O'=>m=mi (rR b c)/\O'=O):=by
 have hc:c.toNat<256:=c.toNat_lt;have hd:=pw c O;unfold rR;refine VF.dh 41 [.tmp 4] Tryz.func323 ?_;refine ae @bE ?_;refine ah.rt (hd) ?_;rintro _ O2 ⟨rfl,eO⟩;rw[eO];clear eO O2
 cases h1:pr c;rotate_left
 ·rw[Mz,decide_eq_true_eq]at h1;refine ao @bE @aG ?_;first | trivial | rfl | (repeat (first | rw[if_pos (by omega)] | rw[if_neg (by omega)]))
 by_cases hb:b=16
 ·subst hb;by_cases h2:97<=c.toNat
  ·by_cases h3:c.toNat<=102
   ·refine ao @bE @aG ?_;first | trivial | rfl | (repeat (first | rw[if_pos (by omega)] | rw[if_neg (by omega)]))
   ·refine ao @bE @aG ?_;first | trivial | rfl | (repeat (first | rw[if_pos (by omega)] | rw[if_neg (by omega)]))
  ·by_cases h4:65<=c.toNat
   ·by_cases h5:c.toNat<=70
    ·refine ao @bE @aG ?_;first | trivial | rfl | (repeat (first | rw[if_pos (by omega)] | rw[if_neg (by omega)]))
    ·refine ao @bE @aG ?_;first | trivial | rfl | (repeat (first | rw[if_pos (by omega)] | rw[if_neg (by omega)]))
   ·refine ao @bE @aG ?_;first | trivial | rfl | (repeat (first | rw[if_pos (by omega)] | rw[if_neg (by omega)]))
 ·have bZ:((b:Int)==16)=false:=by simpa using(by omega:¬(b:Int)=16)
  refine aN @bE @aG @bZ ?_;first | trivial | rfl | (repeat (first | rw[if_pos (by omega)] | rw[if_neg (by omega)]))
def xi (b:Nat) (c:UInt8):Bool:=decide (0<=rR b c)
theorem V3 (b k:Nat) (c:UInt8) (O:VH) (hk:O.hp k=some (.cells [mi b])):VF Tryz.prog 322 ([fB c]++[.ptr k 0]) O (aH fun m O'=>m=mb (xi b c)/\O'=O):=by
 show VF _ _ [fB c,.ptr k 0] _ _;simp only[ar]at hk;unfold xi;refine VF.dh 8 [.tmp 3] Tryz.func322 ?_;refine ao @bE @hk ?_;refine ah.rt (HS b c O) ?_;rintro _ O2 ⟨rfl,eO⟩;rw[eO];clear eO O2
 by_cases h:0<=rR b c
 ·rw[decide_eq_true h];refine ae @bE ?_;first | trivial | rfl
 ·rw[decide_eq_false h];refine ao @bE @h ?_;first | trivial | rfl
theorem aad (f:FuncId) (cs:List MV) (p:UInt8->Bool) (s:List UInt8) (O:VH) (hs:s.length<=1000000000) (hf:∀c,VF Tryz.prog f ([fB c]++cs) O (aH fun m O'=>m=mb (p c)/\O'=O)) (hb:c9 Tryz.prog f=true):
  VF Tryz.prog 184 [.str s,.func (.func f) [] cs] O (aH fun m O'=>m=mi (s.takeWhile p).length/\O'=O):=by
 refine VF.dh 20 [.tmp 4] Tryz.func184 ?_;refine ae @fz ?_;refine WC.iG [5] [0,1] (fun j:Nat=>[mi j]) (fun j O'=>O'=O/\j<=s.length/\(s.takeWhile p).length=j+((s.drop j).takeWhile p).length) (fun j=>s.length - j) (0) ?_ ?_
 ·exact⟨rfl,Nat.zero_le _,by simp⟩
 rintro j O2 ⟨eO,hj,hw⟩;rw[eO];clear eO O2
 by_cases h2:j<s.length
 ·have hg:=List.getElem?_eq_getElem h2;have hd:=List.drop_eq_getElem_cons h2;generalize s[j]=c at*;refine ao @fz @hg ?_;refine ah.rt (hf c) ?_ (hb:=hb);rintro _ O3 ⟨rfl,eO⟩;rw[eO];clear eO O3
  cases hp:p c
  ·refine ao @fz @hg ?_;rw[hw,hd,List.takeWhile_cons_of_neg (by simp[hp])];trivial
  ·refine ao @fz @hg ?_;refine ay.next (j+1) ?_;refine⟨rfl,by omega,?_⟩;rw[hw,hd,List.takeWhile_cons_of_pos hp,List.length_cons];omega
 ·refine ae @fz ?_;rw[hw,List.drop_of_length_le (by omega)];trivial
def jv (s:Bs) (a:Nat):Bs×Nat×Nat:=if dH s [120]then(s.drop 1,a+1,16)else(s,a,10)
def rS (b:Nat) (l:Bs):Nat:=l.foldl (fun k c=>k*b+(rR b c).toNat) 0
def aae (s:Bs) (a b n:Nat):Bs×Nat×Int:=
 if 8<n then([],0,12)else if n=s.length then([],0,13)else if n=0\/s.getD n 0≠59 then([],0,12)
 else if isLet (rS b (s.take n))then(Cb (rS b (s.take n)),a+n+1,0)else([],0,12)
def u7 (s:Bs) (a:Nat):Bs×Nat×Int:=aae (jv s a).1 (jv s a).2.1 (jv s a).2.2 ((jv s a).1.takeWhile (xi (jv s a).2.2)).length
theorem MA {b:Nat} (hb:b<=16):∀(l:Bs) (k:Nat),l.foldl (fun k c=>k*b+(rR b c).toNat) k+1<=(k+1)*16 ^ l.length
 | [],k=>by simp
 | c::l,k=>by
   have hd:(rR b c).toNat<=15:=by
    unfold rR;split
    ·rename_i h;rw[Mz,decide_eq_true_eq]at h;omega
    repeat' split
    all_goals omega
   rw[List.foldl_cons,List.length_cons,Nat.pow_succ];refine Nat.le_trans (MA hb l _) ?_;have h1:k*b<=k*16:=Nat.mul_le_mul_left k hb;have h2:k*b+(rR b c).toNat+1<=(k+1)*16:=by omega
   calc _<=((k+1)*16)*16 ^ l.length:=Nat.mul_le_mul_right _ h2
    _=_:=by rw[Nat.mul_assoc,Nat.mul_comm 16]
theorem SP {b:Nat} (hb:b<=16) {l:Bs} (hl:l.length<=8):rS b l<=4294967296:=by
 have h1:=MA hb l 0;have h2:16 ^ l.length<=16 ^ 8:=Nat.pow_le_pow_right (by decide) hl;have h3:(16:Nat) ^ 8=4294967296:=by decide
 unfold rS;omega
theorem QO (b:Nat) (t:Bs) (j:Nat) (h:j<t.length):rS b (t.take (j+1))=rS b (t.take j)*b+(rR b t[j]).toNat:=by
 unfold rS;rw[cQ _ _ h,List.foldl_append];rfl
theorem SQ {p:UInt8->Bool}:∀(t:Bs) (j:Nat) (c:UInt8),j<(t.takeWhile p).length->t[j]?=some c->p c=true
 | [],j,c,h,_=>by simp at h
 | d::t,j,c,h,hj=>by
   cases hd:p d
   ·rw[List.takeWhile_cons_of_neg (by simp[hd])]at h;simp at h
   ·rw[List.takeWhile_cons_of_pos hd,List.length_cons]at h;cases j with
    | zero=>simp only[List.getElem?_cons_zero,Option.some.injEq]at hj;subst hj;exact hd
    | succ j=>exact SQ t j c (by omega) (by simpa using hj)
theorem V5 (s:Bs) (a:Nat) (O:VH) (hs:s.length<=1000000) (ha:a<=1000000):VF Tryz.prog 318 [.str s,mi a] O (aH fun m O'=>m= .tuple [.str (u7 s a).1,mi (u7 s a).2.1,mi (u7 s a).2.2]/\O.Ge O'):=by
 unfold u7;refine VF.bL 65 [.tmp 4,.tmp 5,.tmp 6] Tryz.func318 ?_;refine VC.ag aa (ae @bE ?_);refine VC.ag aa (ae @bE ?_);refine VC.al ?_;rintro O1 ⟨aU,dN,du⟩;refine VC.bu [0,1,7] (fun _:Unit=>[.str (jv s a).1,mi (jv s a).2.1,.ptr O.next 0]) (fun _ O'=>O.Ge O'/\O'.hp O.next=some (.cells [mi (jv s a).2.2])) ?_ ?_
 ·refine VC.ag aa (ae @bE ?_);refine ah.rt (mU s [120] _) ?_;rintro _ O2 ⟨rfl,eO⟩;rw[eO];clear eO O2
  unfold jv;cases h1:dH s [120]
  ·refine ae @bE ?_;refine WC.sound aa (ae @bE ?_);exact aA.mk () ⟨aU,dN⟩
  ·have h2:1<=s.length:=by
    cases s with
    | nil=>cases h1
    | cons c s=>simp
   refine ao @bE @dN ?_;refine WC.sound aa (ao @bE @dN ?_);exact aA.mk () ⟨aU.set (Nat.le_refl _) _,VH.an _ _ _⟩
 rintro⟨⟩ O2 ⟨aC,bt⟩;have dK:(jv s a).1.length<=1000000:=by unfold jv;split<;>simp<;>omega
 have hpa:(jv s a).2.1<=1000001:=by unfold jv;split<;>simp<;>omega
 have nE:(jv s a).2.2<=16:=by unfold jv;split<;>simp
 generalize jv s a=p at*;obtain⟨t,a2,b⟩:=p;dsimp only at*;have htw:=nN (xi b) t;refine VC.ag aa (ae @bE ?_);refine ah.rt (aad 322 [.ptr O.next 0] (xi b) t O2 (by omega) (fun c=>V3 b O.next c O2 bt) (by kernel_rfl)) ?_;rintro _ O3 ⟨rfl,eO⟩;rw[eO];clear eO O3
 have j8:= @SQ (xi b) t;generalize (t.takeWhile (xi b)).length=n at*;unfold aae;refine ae @bE ?_;refine VC.bj (VC.az ?_);by_cases h1:8<n
 ·rw[if_pos h1];refine WC.sound aa (ae @bE ?_);exact⟨rfl,aC⟩
 rw[if_neg h1];by_cases h2:n=t.length
 ·rw[if_pos h2];subst h2;refine WC.sound aa (ae @bE ?_);exact⟨rfl,aC⟩
 rw[if_neg h2];by_cases h3:n=0
 ·rw[if_pos (.inl h3)];subst h3;refine WC.sound aa (ao @bE @h2 ?_);exact⟨rfl,aC⟩
 have hnt:n<t.length:=by omega
 have hg:=List.getElem?_eq_getElem hnt;have hd:t.getD n 0=t[n]:=by simp[List.getD,hg]
 rw[hd];generalize t[n]=c at*;by_cases h4:c=59;rotate_left
 ·rw[if_pos (.inr h4)];have h5:¬((c.toNat:Int)=59):=fun e=>h4 (UInt8.toNat_inj.1 (by simpa using(by omega:c.toNat=59)))
  refine WC.sound aa (cU @bE @hg @aG @h5 ?_);exact⟨rfl,aC⟩
 rw[if_neg (fun h=>h.elim h3 (fun h=>h h4))];subst h4;have h5:((((59:UInt8).toNat:Nat):Int) != 59)=false:=rfl;refine WC.sound aa (cU @bE @hg @aG @h5 ?_);clear hg h5;refine VC.ag aa (ae @bE ?_);refine VC.ag aa (ae @bE ?_);simp only[ar]at bt;refine VC.bq [9,40] [0,1,7,8,39] (fun j:Nat=>[mi (rS b (t.take j)),mi j]) (fun j O'=>O'=O2/\j<=n) (fun j=>n - j) (0) ?_ ?_
 ·exact⟨rfl,Nat.zero_le _⟩
 rintro j O3 ⟨eO,hj⟩;rw[eO];clear eO O3
 have h8:(t.take j).length<=8:=by rw[List.length_take];omega
 have hv8:=SP nE h8;by_cases hjn:j<n
 ·have hjt:j<t.length:=by omega
  have hg:=List.getElem?_eq_getElem hjt;have V7:=j8 j _ hjn hg;have i_:=QO b t j hjt;have h9:rS b (t.take (j+1))<=4294967296:=SP nE (by rw[List.length_take];omega);generalize t[j]=c at*;simp only[xi,decide_eq_true_eq]at V7;generalize hV:rS b (t.take (j+1))=V at*;generalize rS b (t.take j)=v at*;have hdv:((rR b c).toNat:Int)=rR b c:=Int.toNat_of_nonneg V7;have hdc:=HS b c O2;generalize rR b c=d at*;obtain⟨d,rfl⟩:=Int.eq_ofNat_of_zero_le V7;have kE:(v:Int)*(b:Int)=((v*b:Nat):Int):=by rw[Int.natCast_mul]
  simp only[Int.toNat_natCast]at i_;generalize v*b=vb at*;refine VC.ag aa (ae @bE ?_);refine VC.ag aa (ae @bE ?_);refine VC.bj (VC.az ?_);refine VC.ag aa (ae @bE ?_);refine VC.nB [] ?_;refine ab.aw 0 ?_;refine ae @bE ?_;refine ab.ld (m:=.v (.int .i64 b)) 1 ?_ ?_
  ·exact dq @bE @bt
  simp only[aj];refine ab.aw 2 ?_;refine ao @bE @kE ?_;refine ab.aw 3 ?_;refine ae @bE ?_;refine ab.aw 4 ?_;refine ae @bE ?_;refine ab.aw 5 ?_;refine ao @bE @hg ?_;refine ab.ld (m:=.v (.int .i64 b)) 6 ?_ ?_
  ·exact dq @bE @bt
  simp only[aj];refine ab.call (i:=7) (hdc) ?_;rintro _ O3 ⟨rfl,eO⟩;simp only[aj];rw[eO];clear eO O3
  refine⟨VH.Ge.refl _,?_⟩;refine ab.aw 8 ?_;refine ao @bE @kE ?_;refine ab.aw 9 ?_;refine ao @bE @kE ?_;refine ab.bH [] ?_;refine ae @bE ?_;refine WC.sound aa (ae @bE ?_);exact ay.next (j+1) ⟨rfl,hjn⟩ (hl:=(by rw[hV,i_];rfl))
 ·obtain rfl:j=n:=by omega
  refine VC.ag aa (ae @bE ?_);refine WC.sound aa (ae @bE ?_);generalize rS b (t.take j)=v at*;refine VC.ag aa (ae @bE ?_);refine ah.rt (V2 v _ (by omega)) ?_;rintro _ O3 ⟨rfl,eO⟩;rw[eO];clear eO O3
  cases h6:isLet v
  ·rw[if_neg (by simp)];refine ae @bE ?_;refine WC.sound aa (ae @bE ?_);exact⟨rfl,aC⟩
  ·rw[if_pos rfl];refine ae @bE ?_;refine WC.sound aa (ae @bE ?_);exact⟨rfl,aC⟩
end Go.Proofs.YtoclnkfdahmnhaaGreatDoor
