import Derived.Test.YtoclnkfdahmnhaaGreatDoorMB
import Derived.ProofKit
import Derived.OpenShut
import Derived.Shelf.Strings.Search3
import Derived.Shelf.Strings.OnBuilder
import Derived.Test.YtoclnkfdahmnhaaGreatDoorProg
set_option linter.unusedVariables false
set_option linter.unusedSimpArgs false
namespace Go.Proofs.YtoclnkfdahmnhaaGreatDoor
open Go.RowKit Go.ChangeShapes
open _root_.List renaming length_append → yP, length_nil → Km, length_cons → Kn, nil_append → XO, append_nil → acs, getElem?_eq_getElem → acu, cons_append → acv, take_length → ags, flatMap_cons → agt, length_take → agu, length_drop → agv, getElem_mem → agw, drop_eq_getElem_cons → agx, flatMap_append → ahX, append_assoc → ahY, drop_of_length_le → ahZ, flatMap_nil → ah1, getElem?_append_right → ah2, takeWhile_cons_of_neg → ah3, takeWhile_cons_of_pos → ah4, length_filter_le → ah5, getElem?_cons_succ → ah7, length_map → akF, getElem?_cons_zero → alF, all_eq_true → alH, mem_cons → alI, getElem?_take → alL, getElem?_append_left → alN, getElem?_eq_some_iff → alO, map_append → alQ, mem_range → alU
open _root_.Nat renaming le_trans → TP, le_refl → XN, zero_le → acw, lt_of_lt_of_le → agr, lt_succ_self → ah0, zero_lt_one → ah6, zero_add → alD, le_of_lt → alE, lt_or_ge → alJ, eq_zero_or_pos → alK, add_mul → alR
open _root_.And renaming intro → RZ
open _root_.Bool renaming false_eq_true → alM, and_eq_true → alP, false_or → alV
open _root_.Array renaming getD_eq_getD_getElem? → alC, getElem?_eq_none → alG
def G0 (w:World):Gh:=⟨w,fun _=>none,fun b o=>w.cell? ⟨b,o,none⟩,fun _=>none⟩
def O0:VH:=⟨0,fun _=>none⟩
theorem wr0 (w:World) (hg:Kk w):WR (G0 w) O0 w where
 base:=Below.refl _ _
 ec _ _ _ h:=h
 oZ _ _:=⟨rfl,rfl,rfl⟩
 jW _ _ h:=by cases h
 inj _ _ _ _ _ h:=by cases h
 cells _ _ h:=by cases h
 map _ _ _ h:=by cases h
 tok _ h:=by cases h
 kL _ _ _ _ _ h:=by cases h
 nG _ _ _ _ h:=by cases h
 obj _ _ h:=by cases h
 pw:=hg
 ze _ _ h:=by cases h
def El {H:Type} (enc:TypeId×Value->H) (P:Program) (w:World) (sp:Nat->Bool) (held:Bool) (t:TypeId) (Φ :List MV->Prop):Prop:=
 ∀fuel cs x,DataW.trod enc P w 0 sp held fuel t cs=some x->∃ms,aO (G0 w) ms cs/\ Φ ms
section
variable {H:Type} {enc:TypeId×Value->H} {P:Program} {w:World} {sp:Nat->Bool} {held:Bool} {t e:TypeId}
theorem El.int {k:IntKind} (ht:P.underlying t=some (.int k)):El enc P w sp held t fun ms=>∃n,ms=[.v (.int k n)]/\(Lit.int k n).wf=true:=by
 intro fuel cs x h;obtain⟨n,rfl,rfl,hw⟩:=DataW.trod_int ht h;exact⟨_,aO.cons (.v rfl) aO.nil,n,rfl,hw⟩
theorem El.bool (ht:P.underlying t=some .bool):El enc P w sp held t fun ms=>∃b,ms=[.v (.bool b)]:=by
 intro fuel cs x h;obtain⟨n,rfl,rfl⟩:=DataW.trod_bool ht h;exact⟨_,aO.cons (.v rfl) aO.nil,n,rfl⟩
theorem El.str (ht:P.underlying t=some .string):El enc P w sp held t fun ms=>∃l:List UInt8,ms=[.str l]/\l.length<=maxLen:=by
 intro fuel cs x h;obtain⟨s,rfl,rfl,hs⟩:=DataW.trod_string ht h;exact⟨[.str s.data.toList],aO.cons (by cases s with | mk d=>cases d with | mk l=>exact .str) aO.nil,_,rfl,hs⟩
theorem Qf {w:World} {a:Addr} {v:Value} (h:w.cell? a=some v):a=⟨a.block,a.off,none⟩:=by
 unfold World.cell? at h;split at h
 ·split at h
  ·cases h
  ·rename_i hs;cases a with
   | mk b o s=>cases s with
     | none=>rfl
     | some x=>exact absurd rfl hs
 ·cases h
theorem El.slice (ht:P.underlying t=some (.slice e)) {Φ :List MV->Prop} (he:El enc P w sp held e Φ) (oB:0<P.cellsOf e):
  El enc P w sp held t fun ms=>∃(rows:List (List MV)) (tk:Tok),ms=[.sl rows.length rows.flatten tk]/\(∀r∈rows, Φ r)/\rows.length<=maxLen:=by
 intro fuel cs x h;rcases DataW.trod_slice ht h with⟨rfl,rfl⟩ | ⟨a,len,cap,elems,rest,n,rfl,rfl,rfl,_,sU,hm,hlen,Gp,_,_⟩
 ·exact⟨[.sl 0 [] .nil],aO.cons .slnil aO.nil,[],.nil,rfl,by simp,by simp⟩
 by_cases h0:len=0
 ·subst h0;exact⟨[.sl 0 [] .ar],aO.cons (.nX hm) aO.nil,[],.ar,rfl,by simp,by simp⟩
 have each:∀i,i<len->∃ms ci,w.cells? 0 (a.add (i*P.cellsOf e)) (P.cellsOf e)=some ci/\aO (G0 w) ms ci/\ Φ ms:=fun i hi=>by
  have h1:=Gp i hi;have h2:elems[i]?=some (elems[i]'(by omega)):=acu (by omega);rw[h2]at h1;obtain⟨ci,h3,h4⟩:=Option.bind_eq_some_iff.1 h1;obtain⟨ms,h5,h6⟩:=he _ _ _ h4;exact⟨ms,ci,h3,h5,h6⟩
 have ag7:a=⟨a.block,a.off,none⟩:=by
  obtain⟨_,ci,h1,_⟩:=each 0 (by omega);obtain⟨_,h2,h3⟩:=World.cells?_some h1;have h4:=h3 0 oB;rw[Nat.zero_mul]at h4;have h5:(a.add 0).add 0=a:=by simp[Addr.add]
  rw[h5]at h4;rw[acu (by omega)]at h4;exact Qf h4
 obtain⟨b,o,s⟩:=a;obtain rfl:s=none:=congrArg Addr.spot ag7
 have build:∀m,m<=len->∃(rows:List (List MV)) (us:List Value),rows.length=m/\us.length=m*P.cellsOf e/\aO (G0 w) rows.flatten us/\(∀p u,us[p]?=some u->w.cell? ⟨b,o+p,none⟩=some u)/\∀r∈rows, Φ r:=fun m=>by
  induction m with
  | zero=>exact fun _=>⟨[],[],rfl,by simp,aO.nil,fun p u hu=>by simp at hu,by simp⟩
  | succ m ih=>
    intro hm;obtain⟨rows,us,h1,h2,h3,h4,h5⟩:=ih (by omega);obtain⟨ms,ci,g1,g2,g3⟩:=each m (by omega);obtain⟨_,g4,g5⟩:=World.cells?_some g1;refine⟨rows++[ms],us++ci,by simp[h1],by rw[yP,h2,g4,alR,Nat.one_mul],?_,fun p u hu=>?_,fun r hr=>?_⟩
    ·rw[List.flatten_append,List.flatten_cons,List.flatten_nil,acs];exact aO.append h3 g2
    ·rcases alJ p us.length with hp | hp
     ·rw[alN hp]at hu;exact h4 p u hu
     ·rw[ah2 hp]at hu;have dL:=(alO.1 hu).1;have:=g5 (p - us.length) (by omega);rw[hu]at this;rw[<-this,Addr.add_lit,Addr.add_lit,h2,show o+m*P.cellsOf e+(p - m*P.cellsOf e)=o+p by omega]
    ·rcases List.mem_append.1 hr with hr | hr
     ·exact h5 r hr
     ·rw[List.mem_singleton.1 hr];exact g3
 obtain⟨rows,us,h1,h2,h3,h4,h5⟩:=build len (XN _);refine⟨[.sl rows.length rows.flatten .ar],aO.cons ?_ aO.nil,rows,.ar,rfl,h5,by omega⟩;rw[h1];exact .sl h3.1 (fun p u hu=>h4 p u hu) h3.2 sU hm trivial
theorem El.imp {Φ Ψ :List MV->Prop} (h:El enc P w sp held t Φ) (hi:∀ms, Φ ms-> Ψ ms):El enc P w sp held t Ψ :=fun fuel cs x hx=>by
 obtain⟨ms,h1,h2⟩:=h fuel cs x hx;exact⟨ms,h1,hi _ h2⟩
theorem El.arg {Φ :List MV->Prop} (h:El enc P w sp held t Φ) {v:Value} {d:DataW H} {ps:List MemPlace} (hd:DataW.Trod enc P w 0 sp held t v d ps) (hc:v.cells= #[v]):∃m,VR (G0 w) m v/\ Φ [m]:=by
 obtain⟨fuel,h1⟩:=hd;rw[hc]at h1;obtain⟨ms,h2,h3⟩:=h _ _ _ h1
 match ms,h2 with
 | [m],h2=>exact⟨m,h2.2 0 m v rfl rfl,h3⟩
 | [],h2=>exact absurd h2.1 (by simp)
 | _::_::_,h2=>exact absurd h2.1 (by simp)
end
def Qg:IntKind->Int->Prop
 | .i64,n=> -9223372036854775808<=n/\n<=9223372036854775807
 | .u64,n=>0<=n/\n<=18446744073709551615
 | .u8,n=>0<=n/\n<=255
 | k,n=>k.min<=n/\n<=k.max
theorem adI {k:IntKind} {n:Int} (h:(Lit.int k n).wf=true):Qg k n:=by
 simp only[Lit.wf,alP,decide_eq_true_eq]at h;cases k<;>exact h
section
variable {H:Type} {enc:TypeId×Value->H} {P:Program} {w:World} {sp:Nat->Bool} {held:Bool} {t e:TypeId}
theorem El.aiY {k:IntKind} (ht:P.underlying t=some (.int k)):El enc P w sp held t fun ms=>∃n,ms=[.v (.int k n)]/\Qg k n:=
 (El.int ht).imp fun _ ⟨n,h,hw⟩=>⟨n,h,adI hw⟩
theorem El.ag8 (ht:P.underlying t=some .bool):El enc P w sp held t fun ms=>∃b,ms=[mb b]/\True:=
 (El.bool ht).imp fun _ ⟨b,h⟩=>⟨b,h,trivial⟩
end
theorem VF.law {P:Program} {f:FuncId} {w:World} {ms:List MV} {vs:Array Value} (hg:Kk w) (hv:aO (G0 w) ms vs.toList) (h:VF P f ms O0 (aE fun m _=>m=mb true)):
  Calls P f vs w fun e w'=>e= .returned (.bool true)/\Below w.heap.size w w':=by
 have:=h (G0 w) w vs.toList (wr0 w hg) hv;refine this.mono ?_;rintro x w' ⟨r,O',G,h1,h2,h3,h4⟩;cases r with
 | panic m=>exact h4.elim
 | ret m=>
   have h4:m=mb true:=h4;subst h4;cases x with
   | returned v=>
     have h5:v= .bool true:=h3.iP;refine⟨by rw[h5],?_⟩;have:=h2.base;rw[h1.w0]at this;have hB:G.B=w.heap.size:=by unfold Gh.B;rw[h1.w0];rfl
     rw[hB]at this;exact this
   | panicked c=>exact h3.elim
   | outgrown=>exact h3.elim
set_option maxRecDepth 10000
theorem VE (w:List UInt8) (h:((w.all fun c=> !LY c)&&(w.all fun c=>w.all fun d=>pM c==pM d))=true):even w:=by
 simp only[alP,alH]at h;exact⟨fun c hc=>by simpa using h.1 c hc,fun c hc d hd=>by simpa using h.2 c hc d hd⟩
def okT (p:ZV):Prop:=even p.2.2/\(∀c∈p.2.2,lo c=c)/\(if p.2.1 then p.2.2.all pM=true/\p.2.2.dropWhile (· ==48)=p.2.2 else p.2.2.all (fun c=> !pM c)=true/\ag6 p.2.2 false=p.2.2)
def L3 (p:ZV):List UInt8:=(if p.2.1&&p.2.2==[]then[48]else[])++p.2.2
def ZW (p:ZV):List UInt8:=(if p.1 then 45 else 46)::L3 p
theorem VG {p:ZV} (h:okT p):even (L3 p):=by
 unfold L3;split
 ·rename_i hc;have:p.2.2=[]:=by simpa using(alP _ _▸hc:p.2.1=true/\(p.2.2==[])=true).2
  rw[this];exact VE _ rfl
 ·exact h.1
theorem chain:∀(r:List ZV) (_:∀p∈r,okT p) (w:List UInt8) (_:even w) (hy:Bool),tU hy [] (w++r.flatMap ZW)=(w,hy,false)::r.map fun p=>(L3 p,p.1,false)
 | [],_,w,hw,hy=>by
   have:=Bq w [] [] hy (by simpa using hw);simpa[VD]using this
 | p::r,h,w,hw,hy=>by
   have ih:=chain r (fun q hq=>h q (List.mem_cons_of_mem _ hq)) (L3 p) (VG (h p (by simp))) p.1;have h1:=Bq w [] ((p::r).flatMap ZW) hy (by simpa using hw);rw[h1,List.nil_append,List.flatMap_cons,ZW,List.cons_append,Qe (by cases p.1<;>rfl)];have hb:((if p.1 then 45 else 46:UInt8)==45)=p.1:=by cases p.1<;>rfl
   rw[hb,ih,List.map_cons]
set_option linter.defProp false in
def fI:=RZ T9<|RZ T3<|RZ T4<|RZ T5 tT
def lS (c:UInt8):Bool:=decide (c.toNat=32\/c.toNat=9\/c.toNat=10\/c.toNat=13)
def lD (c:UInt8):Bool:=decide ((65<=c.toNat/\c.toNat<=90)\/(97<=c.toNat/\c.toNat<=122)\/c.toNat=95)
def HH (c:UInt8):Bool:=decide (c.toNat=46\/c.toNat=45\/c.toNat=58)
def mw (c:UInt8):Bool:=decide (32<=c.toNat\/c.toNat=9\/c.toNat=10\/c.toNat=13)
theorem pP (c:UInt8) (O:VH):VF Tryz.prog 185 [fL c] O (aE fun m O'=>m=mb (lS c)/\O'=O):=by
 have hc:=c.toNat_lt;refine VF.dy 17 [.tmp 2] Tryz.func185 ?_;rcases(show c.toNat=32\/c.toNat=9\/c.toNat=10\/c.toNat=13\/(c.toNat≠32/\c.toNat≠9/\c.toNat≠10/\c.toNat≠13)from by omega)with h | h | h | h | ⟨h1,h2,h3,h4⟩
 ·refine ao @fI @aI ?_;simp[lS,h]
 ·refine ao @fI @aI ?_;simp[lS,h]
 ·refine ao @fI @aI ?_;simp[lS,h]
 ·refine ao @fI @aI ?_;simp[lS,h]
 ·refine ao @fI @aI ?_;simp[lS,h1,h2,h3,h4]
theorem Jc (f:FuncId) (p:UInt8->Bool) (s:List UInt8) (O:VH) (hs:s.length<=maxLen) (hf:∀c O,VF Tryz.prog f [fL c] O (aE fun m O'=>m=mb (p c)/\O'=O)) (hb:cR Tryz.prog f=true):
  VF Tryz.prog 184 [.str s,.func (.func f) [] []] O (aE fun m O'=>m=mi (s.takeWhile p).length/\O'=O):=by
 have hm:(s.length:Int)<=9223372036854775807:=by simp[maxLen]at hs;omega
 refine VF.dy 20 [.tmp 4] Tryz.func184 ?_;refine ae @fI ?_;refine WC.iS [5] [0,1] (fun j:Nat=>[mi j]) (fun j O'=>O'=O/\j<=s.length/\(s.takeWhile p).length=j+((s.drop j).takeWhile p).length) (fun j=>s.length - j) (0) ?_ ?_
 ·exact⟨rfl,acw _,by simp⟩
 rintro j O2 ⟨rfl,hj,hw⟩;by_cases h2:j<s.length
 ·have hg:=acu h2;have hd:=agx h2;generalize s[j]=c at*;refine ao @fI @hg ?_;refine ah.rt (hf c _) ?_ (hb:=hb);rintro _ O3 ⟨rfl,rfl⟩;cases hp:p c
  ·refine ao @fI @hg ?_;rw[hw,hd,ah3 (by simp[hp])];trivial
  ·refine ao @fI @hg ?_;refine ax.next (j+1) ?_;refine⟨rfl,by omega,?_⟩;rw[hw,hd,ah4 hp,Kn];omega
 ·refine ae @fI ?_;rw[hw,ahZ (by omega)];trivial
def Jd (p:UInt8->Bool) (l:List UInt8):List UInt8:=(l.reverse.dropWhile p).reverse
theorem VI (p:UInt8->Bool) (l:List UInt8) (a:UInt8):Jd p (l++[a])=if p a then Jd p l else l++[a]:=by
 unfold Jd;rw[List.reverse_append,List.reverse_singleton,List.singleton_append,List.dropWhile_cons];cases p a<;>simp
def trimB (s:List UInt8):List UInt8:=Jd lS (s.dropWhile lS)
theorem L4 (p:UInt8->Bool):∀s:List UInt8,s.drop (s.takeWhile p).length=s.dropWhile p
 | []=>rfl
 | c::s=>by
   cases h:p c
   ·rw[ah3 (by simp[h]),List.dropWhile_cons_of_neg (by simp[h])];rfl
   ·rw[ah4 h,List.dropWhile_cons_of_pos h,Kn,List.drop_succ_cons,L4 p s]
theorem nV (p:UInt8->Bool) (s:List UInt8):(s.takeWhile p).length<=s.length:=(List.takeWhile_sublist p).length_le
theorem Je (p:UInt8->Bool) (s:List UInt8):(s.dropWhile p).length<=s.length:=(List.dropWhile_sublist p).length_le
theorem ZX (p:UInt8->Bool) (s:List UInt8):(Jd p s).length<=s.length:=by
 unfold Jd;have:=Je p s.reverse;simp only[List.length_reverse]at this ⊢;exact this
theorem Qh (s:List UInt8):(trimB s).length<=s.length:=TP (ZX _ _) (Je _ _)
theorem Jf (s:List UInt8) (O:VH) (hs:s.length<=maxLen):VF Tryz.prog 158 [.str s] O (aE fun m O'=>m= .str (trimB s)/\O'=O):=by
 have hm:(s.length:Int)<=9223372036854775807:=by simp[maxLen]at hs;omega
 have OW:=nV lS s;have hdw:=L4 lS s;have hY:=Je lS s;unfold trimB;refine VF.dy 23 [.tmp 2] Tryz.func158 ?_;refine ae @fI ?_;refine ah.rt (Jc 185 lS s _ hs pP (by kernel_rfl)) ?_;rintro _ O2 ⟨rfl,rfl⟩;refine ao @fI @hdw ?_;generalize s.dropWhile lS=t at*;refine WC.iS [0] [] (fun k:Nat=>[.str (t.take k)]) (fun k O'=>O'=O2/\k<=t.length/\Jd lS t=Jd lS (t.take k)) (fun k=>k) t.length ?_ ?_ (h0:=(by rw[ags];rfl))
 ·exact⟨rfl,XN _,by rw[ags]⟩
 rintro k O3 ⟨rfl,hk,hr⟩;rw[hr];have hlen:(t.take k).length=k:=by rw[agu];omega
 rcases alK k with rfl | hk0
 ·have aiZ:(([]:List UInt8)==[])=true:=rfl;refine ao @fI @aiZ ?_;trivial
 ·obtain⟨k,rfl⟩:∃j,k=j+1:=⟨k - 1,by omega⟩
  have h2:k<t.length:=by omega
  have jm:=c6 t k h2;have bw:(t.take (k+1))[k]?=some t[k]:=by rw[alL,if_pos (by omega),acu h2]
  have hne:(t.take (k+1)==[])=false:=by rw[jm];cases t.take k<;>rfl
  have fl:=VI lS (t.take k) t[k];rw[<-jm]at fl;have F8:(t.take (k+1)).take k=t.take k:=by rw[List.take_take];congr 1;omega
  generalize t[k]=c at*;refine c_ @fI @hne @hlen @bw ?_;refine ah.rt (pP c _) ?_;rintro _ O4 ⟨rfl,rfl⟩;cases hb:lS c
  ·refine ae @fI ?_;rw[fl,hb];trivial
  ·rw[hb]at fl;refine aJ @fI @hlen @F8 ?_;exact ax.next k ⟨rfl,by omega,by rw[fl];rfl⟩
abbrev Bs:=List UInt8
theorem EB (c:UInt8) (O:VH):VF Tryz.prog 171 [fL c] O (aE fun m O'=>m=mb (lD c)/\O'=O):=by
 have hc:=c.toNat_lt;refine VF.dy 21 [.tmp 2] Tryz.func171 ?_;rcases(show c.toNat<65\/(65<=c.toNat/\c.toNat<=90)\/(90<c.toNat/\c.toNat<97/\c.toNat≠95)\/c.toNat=95\/(97<=c.toNat/\c.toNat<=122)\/122<c.toNat from by omega)with h | h | h | h | h | h
 ·rw[show lD c=false by simp[lD];omega];exact dq @fI @aI
 ·rw[show lD c=true by simp[lD];omega];exact dq @fI @aI
 ·rw[show lD c=false by simp[lD];omega];exact dq @fI @aI
 ·rw[show lD c=true by simp[lD];omega];exact dq @fI @aI
 ·rw[show lD c=true by simp[lD];omega];exact dq @fI @aI
 ·rw[show lD c=false by simp[lD];omega];exact dq @fI @aI
def jJ (c:UInt8):Bool:=lD c||pM c||HH c
theorem HI (c:UInt8) (O:VH):VF Tryz.prog 143 [fL c] O (aE fun m O'=>m=mb (jJ c)/\O'=O):=by
 have hc:=c.toNat_lt;refine VF.dy 21 [.tmp 2] Tryz.func143 ?_;refine ae @fI ?_;refine ah.rt (EB c _) ?_;rintro _ O2 ⟨rfl,rfl⟩;cases h1:lD c
 ·refine ae @fI ?_;refine ah.rt (pN c _) ?_;rintro _ O2 ⟨rfl,rfl⟩;cases h2:pM c
  ·rcases(show c.toNat=46\/c.toNat=45\/c.toNat=58\/(c.toNat≠46/\c.toNat≠45/\c.toNat≠58)from by omega)with h | h | h | h
   ·rw[show jJ c=true by simp[jJ,h1,h2,HH,h]];exact dq @fI @aI
   ·rw[show jJ c=true by simp[jJ,h1,h2,HH,h]];exact dq @fI @aI
   ·rw[show jJ c=true by simp[jJ,h1,h2,HH,h]];exact dq @fI @aI
   ·rw[show jJ c=false by simp[jJ,h1,h2,HH,h]];exact dq @fI @aI
  ·rw[show jJ c=true by simp[jJ,h1,h2]];exact dq @fI @aI
 ·rw[show jJ c=true by simp[jJ,h1]];exact dq @fI @aI
theorem wN (c:UInt8) (O:VH):VF Tryz.prog 310 [fL c] O (aE fun m O'=>m=mb (mw c)/\O'=O):=by
 have hc:=c.toNat_lt;refine VF.dy 9 [.tmp 2] Tryz.func310 ?_;by_cases h:32<=c.toNat
 ·rw[show mw c=true by simp[mw];omega];exact dq @fI @aI
 ·refine ao @fI @aI ?_;refine ah.rt (pP c _) ?_;rintro _ O2 ⟨rfl,rfl⟩;rw[show mw c=lS c by unfold mw lS;rw[decide_eq_decide];omega];exact dq @fI @aI
def jZ (s:Bs):Nat:=if lD (s.headD 0)&& !s.isEmpty then(s.takeWhile jJ).length else 0
theorem Cr (s:Bs):jZ s<=s.length:=by
 unfold jZ;split
 ·exact nV _ _
 ·exact acw _
theorem adJ (s:Bs) (O:VH) (hs:s.length<=maxLen):VF Tryz.prog 312 [.str s] O (aE fun m O'=>m=mi (jZ s)/\O'=O):=by
 refine VF.dy 13 [.tmp 2] Tryz.func312 ?_;cases s with
 | nil=>
   refine ao @fI (show(([]:List UInt8)==[])=true from rfl) ?_;rfl
 | cons c s=>
   refine aJ @fI (show((c::s)==[])=false from rfl) @aeW ?_;refine ah.rt (EB c _) ?_;rintro _ O2 ⟨rfl,rfl⟩;cases h1:lD c
   ·refine ae @fI ?_;simp[jZ,h1]
   ·rw[show jZ (c::s)=((c::s).takeWhile jJ).length by simp[jZ,h1]];refine ae @fI ?_;refine ah.rt (Jc 143 jJ (c::s) _ hs (fun c O=>HI c O) (by kernel_rfl)) ?_;rintro _ O2 ⟨rfl,rfl⟩;exact fe @fI
def lM (c:UInt8):Bool:=jJ c&&decide (c.toNat≠58)
theorem VJ (c:UInt8) (O:VH):VF Tryz.prog 110 [fL c] O (aE fun m O'=>m=mb (lM c)/\O'=O):=by
 have hc:=c.toNat_lt;refine VF.dy 9 [.tmp 2] Tryz.func110 ?_;refine ae @fI ?_;refine ah.rt (HI c _) ?_;rintro _ O2 ⟨rfl,rfl⟩;cases h1:jJ c
 ·rw[show lM c=false by simp[lM,h1]];exact fe @fI
 ·by_cases h:c.toNat=58
  ·rw[show lM c=false by simp[lM,h]];exact dq @fI @aI
  ·rw[show lM c=true by simp[lM,h1,h]];exact dq @fI @aI
def e_ (s:Bs):Bool:=s.all lM&&decide (1<=s.length)&&decide (s.length<=64)
theorem sV (s:Bs) (O:VH) (hs:s.length<=maxLen):VF Tryz.prog 83 [.str s] O (aE fun m O'=>m=mb (e_ s)/\O.Ge O'):=by
 have hm:(s.length:Int)<=9223372036854775807:=by simp[maxLen]at hs;omega
 have rY:=VH.aW O (.cells (s.map fL));have Ag:=(VH.Ge.refl O).push (.cells (s.map fL));refine VF.dy 24 [.tmp 2] Tryz.func83 ?_;refine ae @fI ?_;refine VL.bytes aa (el:=5) (l:=s) rfl rfl (by rw[T9];rfl) (by rw[tT];rfl) (by rw[T5];rfl) hs rfl fun cap h1 h2=>WL.sound aa ?_
 refine ae @fI ?_;refine WC.iS [8] [0,6,7] (fun j:Nat=>[mi j]) (fun j O'=>(O.push (.cells (s.map fL))).Ge O'/\j<=s.length/\(s.take j).all lM=true) (fun j=>s.length - j) (0) ?_ ?_
 ·exact⟨VH.Ge.refl _,acw _,rfl⟩
 rintro j O2 ⟨oU,hj,kC⟩;have xj:=(oU.hp O.next (ah0 _)).trans rY;by_cases h2:j<s.length
 ·have qy:=acu h2;have jm:(s.take (j+1)).all lM=lM s[j]:=by rw[c6 _ _ h2,List.all_append,kC];simp
  have fG:lM s[j]=false->e_ s=false:=fun h=>by
   unfold e_;rw[List.all_eq_false.2 ⟨s[j],agw h2,by simp[h]⟩];rfl
  generalize s[j]=c at*;refine aJ @fI @qy @xj ?_;refine ah.rt (VJ c _) ?_;rintro _ O3 ⟨rfl,rfl⟩;cases hb:lM c
  ·rw[fG hb];refine ae @fI ?_;exact Ag.trans oU
  ·refine ae @fI ?_;exact ax.next (j+1) ⟨oU,by omega,jm.trans hb⟩
 ·obtain rfl:j=s.length:=by omega
  rw[ags]at kC;unfold e_;rw[kC];by_cases h0:1<=s.length
  ·by_cases EA:s.length<=64
   ·rw[decide_eq_true h0,decide_eq_true EA];refine ae @fI ?_;exact Ag.trans oU
   ·rw[decide_eq_true h0,decide_eq_false EA];refine ae @fI ?_;exact Ag.trans oU
  ·rw[decide_eq_false h0];refine ae @fI ?_;exact Ag.trans oU
set_option linter.defProp false in
def nK:=RZ fI<|RZ Bp<|RZ Cp ZQ
structure Gv where
 g:Bs
 a:Bs
 v:Bs
 deriving DecidableEq
def bW (x:Gv):List MV:=[.str x.g,.str x.a,.str x.v]
structure fR where
 g:Bs
 a:Bs
 deriving DecidableEq
def bZ (x:fR):List MV:=[.str x.g,.str x.a]
structure Ky where
 g:Bs
 a:Bs
 t:Bs
 c:Bs
 deriving DecidableEq
def fY (x:Ky):List MV:=[.str x.g,.str x.a,.str x.t,.str x.c]
def Ah (x:Gv):Bool:=e_ x.g&&e_ x.a&&va x.v
theorem VK (x:Gv) (O:VH) (h1:x.g.length<=maxLen) (h2:x.a.length<=maxLen) (h3:x.v.length<=maxLen):VF Tryz.prog 61 [.agg (bW x)] O (aE fun m O'=>m=mb (Ah x)/\O.Ge O'):=by
 obtain⟨g,a,v⟩:=x;dsimp only at h1 h2 h3;unfold Ah bW;dsimp only;have hk:=VH.aW O (.cells [.str g,.str a,.str v]);have kh:=(VH.Ge.refl O).push (.cells [.str g,.str a,.str v]);have hn0:O.next<(O.push (.cells [.str g,.str a,.str v])).next:=ah0 _;refine VF.dy 16 [.tmp 2] Tryz.func61 ?_;refine ao @nK @hk ?_;generalize O.push (.cells [.str g,.str a,.str v])=O1 at*;refine ah.rt (sV g _ h1) ?_;rintro _ O2 ⟨rfl,ay⟩;have iq:=ay.next;cases e_ g
 ·refine ae @nK ?_;exact kh.trans ay
 ·refine aJ @nK @hk ay.hp ?_;refine ah.rt (sV a _ h2) ?_;rintro _ O3 ⟨rfl,aG⟩;have gm:=aG.next;cases e_ a
  ·refine ae @nK ?_;exact kh.trans (ay.trans aG)
  ·refine c_ @nK @hk ay.hp aG.hp ?_;refine ah.rt (Qd v _ h3) ?_;rintro _ O4 ⟨rfl,aY⟩;refine ae @nK ?_;exact kh.trans (ay.trans (aG.trans aY))
def wO (s:Bs):Bool:=s==[42]||e_ s
theorem HJ (s:Bs) (O:VH) (hs:s.length<=maxLen):VF Tryz.prog 321 [.str s] O (aE fun m O'=>m=mb (wO s)/\O.Ge O'):=by
 unfold wO;refine VF.dy 9 [.tmp 2] Tryz.func321 ?_;cases h:s==[42]
 ·refine ao @nK @h ?_;refine ah.rt (sV s _ hs) ?_;rintro _ O2 ⟨rfl,ay⟩;refine ae @nK ?_;exact ay
 ·refine ao @nK @h ?_;exact VH.Ge.refl _
def Ai (x:fR):Bool:=wO x.g&&wO x.a
theorem Gq (x:fR) (O:VH) (h1:x.g.length<=maxLen) (h2:x.a.length<=maxLen):VF Tryz.prog 317 [.agg (bZ x)] O (aE fun m O'=>m=mb (Ai x)/\O.Ge O'):=by
 obtain⟨g,a⟩:=x;dsimp only at h1 h2;unfold Ai bZ;dsimp only;have hk:=VH.aW O (.cells [.str g,.str a]);have kh:=(VH.Ge.refl O).push (.cells [.str g,.str a]);have hn0:O.next<(O.push (.cells [.str g,.str a])).next:=ah0 _;refine VF.dy 11 [.tmp 2] Tryz.func317 ?_;refine ao @nK @hk ?_;generalize O.push (.cells [.str g,.str a])=O1 at*;refine ah.rt (HJ g _ h1) ?_;rintro _ O2 ⟨rfl,ay⟩;have iq:=ay.next;cases wO g
 ·refine ae @nK ?_;exact kh.trans ay
 ·refine aJ @nK @hk ay.hp ?_;refine ah.rt (HJ a _ h2) ?_;rintro _ O3 ⟨rfl,aG⟩;refine ae @nK ?_;exact kh.trans (ay.trans aG)
def Cs (p x:fR):Bool:=(p.g==[42]||p.g==x.g)&&(p.a==[42]||p.a==x.a)
theorem Qi (p x:fR) (O:VH):VF Tryz.prog 97 [.agg (bZ p),.agg (bZ x)] O (aE fun m O'=>m=mb (Cs p x)/\O.Ge O'):=by
 obtain⟨g,a⟩:=p;obtain⟨g',a'⟩:=x;unfold Cs bZ;dsimp only;have kh:=((VH.Ge.refl O).push (.cells [.str g,.str a])).push (.cells [.str g',.str a']);refine VF.dy 27 [.tmp 4] Tryz.func97 ?_;cases h1:g==[42]<;>cases h2:g==g'<;>cases h3:a==[42]<;>cases h4:a==a'
 all_goals
  refine gQ @nK @h1 @h2 @h3 @h4 ?_;exact kh
def dS (n:Int):Bs:=if n=1 then[99,111,109,112,105,108,101]else if n=2 then[114,117,110,116,105,109,101]else if n=3 then[112,114,111,118,105,100,101,100]else if n=4 then[115,121,115,116,101,109]else if n=5 then[116,101,115,116]else if n=6 then[105,109,112,111,114,116]else[]
theorem Jg (n:Int) (O:VH):VF Tryz.prog 78 [mi n] O (aE fun m O'=>m= .str (dS n)/\O'=O):=by
 unfold dS;refine VF.dy 16 [.tmp 2] Tryz.func78 ?_;by_cases h1:n=1
 ·refine ae @nK ?_;simp[h1]
 by_cases h2:n=2
 ·refine ae @nK ?_;simp[h1,h2]
 by_cases h3:n=3
 ·refine ae @nK ?_;simp[h1,h2,h3]
 by_cases h4:n=4
 ·refine ae @nK ?_;simp[h1,h2,h3,h4]
 by_cases h5:n=5
 ·refine ae @nK ?_;simp[h1,h2,h3,h4,h5]
 by_cases h6:n=6
 ·refine ae @nK ?_;simp[h1,h2,h3,h4,h5,h6]
 rw[if_neg h1,if_neg h2,if_neg h3,if_neg h4,if_neg h5,if_neg h6];exact fe @nK
def L5 (o i:Int):Int:=if ¬(o=1\/o=2\/o=3\/o=5)then 0 else if i≠1/\i≠2 then 0 else if o=1 then i else o
theorem VN (o i:Int) (O:VH):VF Tryz.prog 129 [mi o,mi i] O (aE fun m O'=>m=mi (L5 o i)/\O'=O):=by
 refine VF.dy 23 [.tmp 4] Tryz.func129 ?_;rcases(show o=1\/o=2\/o=3\/o=5\/(o≠1/\o≠2/\o≠3/\o≠5)from by omega)with h | h | h | h | h
 rotate_right
 ·rw[show L5 o i=0 by simp[L5,h]];obtain⟨h1,h2,h3,h4⟩:=h;exact fe @nK
 all_goals
  subst h;rcases(show i=1\/i=2\/(i≠1/\i≠2)from by omega)with h | h | h
 all_goals
  refine ae @nK ?_;simp[L5,h]
def my (k:Ky):Bs:=k.g++[58]++k.a++[58]++k.t++(if k.c=[]then[]else[58]++k.c)
theorem L6 (k:Ky) (O:VH) (h1:k.g.length<=1000000) (h2:k.a.length<=1000000) (h3:k.t.length<=1000000) (h4:k.c.length<=1000000):VF Tryz.prog 77 [.agg (fY k)] O (aE fun m O'=>m= .str (my k)/\O.Ge O'):=by
 obtain⟨g,a,t,c⟩:=k;have kh:=(VH.Ge.refl O).push (.cells [.str g,.str a,.str t,.str c]);unfold my fY;dsimp only at h1 h2 h3 h4 ⊢;refine VF.dy 23 [.tmp 2] Tryz.func77 ?_;cases c with
 | nil=>
   refine aJ @nK (show(([]:List UInt8)==[])=true from rfl) @acs.{0} ?_;exact kh
 | cons b c=>
   simp only[Kn]at h4;refine ao @nK (show((b::c)==[])=false from rfl) ?_;exact⟨by simp,kh⟩
def Tok.id:Tok->Option Nat
 | .own t _=>some t
 | _=>none
structure cL (tk:Tok) (O O':VH):Prop where
 next:O.next<=O'.next
 hp:∀i,i<O.next->Tok.id tk≠some i->O'.hp i=O.hp i
def CT (O:VH) (tk tk':Tok):Prop:=tk'=tk\/∀i,Tok.id tk'=some i->O.next<=i
section
variable {O O0 O1 O2:VH} {tk t1 t2 w:Tok} {B sz:Nat}
theorem VH.Ge.k (h:O.Ge O1):cL tk O O1:=⟨h.next,fun i hi _=>h.hp i hi⟩
theorem cL.refl:cL tk O O:=⟨XN _,fun _ _ _=>rfl⟩
theorem CT.refl:CT O tk tk:=.inl rfl
theorem cL.trans (h:cL tk O O1) (hn:CT O tk t1) (k:cL t1 O1 O2):cL tk O O2:=⟨TP h.next k.next,fun i hi hne=>by
 have:Tok.id t1≠some i:=fun e=>by
  rcases hn with rfl | hn
  ·exact hne e
  ·have:=hn i e;omega
 rw[k.hp i (agr hi h.next) this,h.hp i hi hne]⟩
theorem cL.ge (h:cL tk O O1) (k:O1.Ge O2):cL tk O O2:=⟨TP h.next k.next,fun i hi hne=>by rw[k.hp i (agr hi h.next),h.hp i hi hne]⟩
theorem cL.pre (h:O.Ge O1) (k:cL tk O1 O2):cL tk O O2:=⟨TP h.next k.next,fun i hi hne=>by rw[k.hp i (agr hi h.next) hne,h.hp i hi]⟩
theorem CT.trans (h:CT O tk t1) (hle:O.next<=O1.next) (k:CT O1 t1 t2):CT O tk t2:=by
 rcases k with rfl | k
 ·exact h
 ·exact .inr fun i e=>TP hle (k i e)
theorem App.n8 (h:App O B sz tk) {i:Nat} (e:Tok.id tk=some i):B<=i/\i<O.next:=by
 cases tk with
 | own t k=>injection e with e;subst e;exact h.2.2
 | _=>cases e
theorem cL.app (h:cL tk O O1) (hw:App O B sz w) (hne:∀i,Tok.id tk=some i->Tok.id w≠some i):App O1 B sz w:=by
 cases w with
 | own t j=>
   obtain⟨h1,h2,h3,h4⟩:=hw;refine⟨h1,?_,h3,agr h4 h.next⟩;rw[h.hp t h4 (fun e=>hne t e rfl)];exact h2
 | nil=>trivial
 | full=>trivial
 | ar=>exact hw.elim
theorem cL.after (h:App O B sz tk):cL tk O (O.after tk):=⟨by rw[VH.dU];omega,fun i hi hne=>by
 cases tk with
 | own t k=>exact(VH.bA (O.kill t) _ hi).trans (VH.kN _ (fun e=>hne (by rw[e];rfl)))
 | _=>exact VH.bA _ _ hi⟩
theorem CT.after:CT O tk (.own O.next sz):=.inr fun i e=>by injection e with e;omega
theorem cL.ei (hg:O0.Ge O) (ha:App O O0.next sz tk) (k:cL tk O O1):O0.Ge O1:=⟨TP hg.next k.next,fun i hi=>by
 rw[k.hp i (agr hi hg.next) (fun e=>by have:=(ha.n8 e).1;omega),hg.hp i hi]⟩
theorem cL.CU (ha:App O O.next sz tk) (k:cL tk O O1):O.Ge O1:=cL.ei (VH.Ge.refl O) ha k
theorem App.ge (h:App O B sz tk) (k:O.Ge O1):App O1 B sz tk:=cL.app (tk:=.nil) (k.k) h (fun _ e=>by cases e)
theorem App.nil:App O B sz .nil:=trivial
end
theorem fZ {tab:bY} {O:VH} {t el:TypeId} {u:TypeDesc} {a b sz Yk:Nat} {z y:List MV} (h:tab t=some ⟨.slice el,a,b,z⟩) (h2:tab el=some ⟨u,sz,Yk,y⟩) {B n:Nat} {cs ds es:List MV} {tk:Tok} (ha:App O B sz tk)
  (hc:cs.length=n*sz) (hd:ds.length=sz) (hl:ds.all dK=true) (hs:0<sz) (hb:(n+1)*Yk<=140737488355328) (hm:n+1<=maxLen) (gk:cS cs=cs) (ri:cS ds=es):
  ∃m,iw tab O t (.sl n cs tk) (.sl 1 ds .full)=some (m,O.after tk)/\oT m= .sl (n+1) (cs++es) (.own O.next sz):=
 ⟨_,bj (tk':=.full) h h2 ha hc (by rw[hd,Nat.one_mul]) hl hs (by decide) hb hm,by rw[rV,m5,gk,ri]⟩
section
variable {P:Program} {n:Sz} {D:List Deferred} {c:Code} {e:Env} {O:VH} {Q:VQ} {z cs:List MV} {md:Md} {d:Option Tmp} {K:Env->VH->Prop} {fv:Option MV} {ms:Option (List MV)}
def pQ (O:VH) (cs:List MV) (O3:VH):Prop:=O.Ge O3/\O3.hp O.next=some (.cells cs)/\O3.next=O.next+1
theorem pQ.al:pQ O cs ((O.push (.cells z)).set O.next (.cells cs)):=⟨((VH.Ge.refl O).push _).set (XN _) _,VH.an _ _ _,rfl⟩
theorem pQ.bx:pQ O cs (O.push (.cells cs)):=⟨(VH.Ge.refl O).push _,VH.aW _ _,rfl⟩
theorem VC.al (h:∀O3,pQ O cs O3->VC P n D c e O3 Q):VC P n D c e ((O.push (.cells z)).set O.next (.cells cs)) Q:=h _ pQ.al
theorem VC.bx (h:∀O3,pQ O cs O3->VC P n D c e O3 Q):VC P n D c e (O.push (.cells cs)) Q:=h _ pQ.bx
theorem ah.bx (h:∀O3,pQ O cs O3->ah P n md Q d O3 K e fv ms):ah P n md Q d (O.push (.cells cs)) K e fv ms:=h _ pQ.bx
end
theorem List.pR {α :Type} {a b:List α} {k n:Nat} (h:a.length=k):(a++b).drop (k+n)=b.drop n:=by
 rw[<-h, <-List.drop_drop,List.drop_left]
theorem aQ {α :Type} {f: α ->List MV} {k:Nat} (hf:∀x,(f x).length=k) (L:List α):(L.flatMap f).length=L.length*k:=by
 induction L with
 | nil=>simp
 | cons x L ih=>rw[agt,yP,ih,hf,Kn,Nat.succ_mul,Nat.add_comm]
theorem bU {α :Type} {f: α ->List MV} {k:Nat} (hf:∀x,(f x).length=k):∀(L:List α) (i:Nat) (h:i<L.length),((L.flatMap f).drop (i*k)).take k=f L[i]
 | x::L,0,_=>by rw[Nat.zero_mul,List.drop_zero,agt,List.take_left' (hf x)];rfl
 | x::L,i+1,h=>by
   have:=bU hf L i (by simpa using h);rw[agt,Nat.succ_mul,Nat.add_comm,List.pR (hf x)];exact this
inductive Nd where
 | mk (name:Bs) (attrs:List (Bs×Bs)) (kids:List Nd) (text:Bs)
def bh (x:Bs×Bs):List MV:=[.str x.1,.str x.2]
mutual
def dh:Nd->List MV
 | .mk n a k t=>[.str n,.sl a.length (a.flatMap bh) .ar,.sl k.length (aC k) .ar,.str t]
def aC:List Nd->List MV
 | []=>[]
 | x::r=>dh x++aC r
end
theorem ee (L M:List Nd):aC (L++M)=aC L++aC M:=by
 induction L with
 | nil=>rw[XO,aC,XO]
 | cons x L ih=>rw[acv,aC,aC,ih,ahY]
theorem lT (x:Nd):(dh x).length=4:=by cases x;rw[dh];rfl
theorem c7 (L:List Nd):(aC L).length=L.length*4:=by
 induction L with
 | nil=>rw[aC];rfl
 | cons x L ih=>rw[aC,yP,lT,ih,Kn];omega
theorem fp (x:Bs×Bs):(bh x).length=2:=rfl
theorem m6 (x:fR):(bZ x).length=2:=rfl
theorem f_ (L:List (Bs×Bs)):cS (L.flatMap bh)=L.flatMap bh:=kP (fun x=>by simp only[bh,wu]) L
mutual
theorem Aj:∀x,cS (dh x)=dh x
 | .mk n a k t=>by
   simp only[dh,wu,f_];rw[eY k]
theorem eY:∀L,cS (aC L)=aC L
 | []=>by rw[aC,HB]
 | x::r=>by rw[aC,m5,Aj x,eY r]
end
structure Dp where
 g:Bs
 a:Bs
 v:Bs
 t:Bs
 c:Bs
 s:Int
 o:Int
 x:List fR
 deriving DecidableEq
def aS (d:Dp):List MV:=[.str d.g,.str d.a,.str d.v,.str d.t,.str d.c,mi d.s,mi d.o,.sl d.x.length (d.x.flatMap bZ) .ar]
theorem gB (x:Dp):(aS x).length=8:=rfl
structure Pm where
 hp:Bool
 par:Gv
 g:Bs
 a:Bs
 v:Bs
 pk:Bs
 props:List (Bs×Bs)
 eE:List Dp
 en:List Dp
 deriving DecidableEq
def gC (p:Pm):List MV:=[mb p.hp,.str p.par.g,.str p.par.a,.str p.par.v,.str p.g,.str p.a,.str p.v,.str p.pk,.sl p.props.length (p.props.flatMap bh) .ar,.sl p.eE.length (p.eE.flatMap aS) .ar,.sl p.en.length (p.en.flatMap aS) .ar]
theorem m7 (L:List fR):cS (L.flatMap bZ)=L.flatMap bZ:=kP (fun x=>by simp only[bZ,wu]) L
theorem lg (L:List Dp):cS (L.flatMap aS)=L.flatMap aS:=kP (fun x=>by simp only[aS,aq,wu,m7]) L
theorem VO (p:Pm):cS (gC p)=gC p:=by simp only[gC,a_,wu,f_,lg]
set_option linter.defProp false in
def gn:=RZ nK<|RZ tS<|RZ n7<|RZ Bo<|RZ u_<|RZ Ev aeZ
def eT (O:VH) (B sz:Nat) (tk:Tok) (O':VH) (tk':Tok):Prop:=cL tk O O'/\App O' B sz tk'/\CT O tk tk'
theorem eT.refl {O:VH} {B sz:Nat} {tk:Tok} (h:App O B sz tk):eT O B sz tk O tk:=⟨cL.refl,h,CT.refl⟩
theorem eT.trans {O O1 O2:VH} {B sz:Nat} {tk t1 t2:Tok} (h:eT O B sz tk O1 t1) (k:eT O1 B sz t1 O2 t2):eT O B sz tk O2 t2:=
 ⟨h.1.trans h.2.2 k.1,k.2.1,h.2.2.trans h.1.next k.2.2⟩
theorem eT.after {O:VH} {B sz:Nat} {tk:Tok} (h:App O B sz tk) (hB:B<=O.next):eT O B sz tk (O.after tk) (.own O.next sz):=⟨cL.after h,App.after hB,CT.after⟩
theorem eT.ge {O O1 O2:VH} {B sz:Nat} {tk t1:Tok} (h:eT O B sz tk O1 t1) (k:O1.Ge O2):eT O B sz tk O2 t1:=⟨h.1.ge k,h.2.1.ge k,h.2.2⟩
theorem eT.pre {O O1 O2:VH} {B sz:Nat} {tk t1:Tok} (g:O.Ge O1) (h:eT O1 B sz tk O2 t1):eT O B sz tk O2 t1:=⟨cL.pre g h.1,h.2.1,h.2.2.elim .inl fun k=>.inr fun i e=>TP g.next (k i e)⟩
theorem eT.ei {O O1:VH} {sz:Nat} {tk t1:Tok} (ha:App O O.next sz tk) (h:eT O O.next sz tk O1 t1):O.Ge O1:=cL.CU ha h.1
theorem App.less {O:VH} {B B' sz:Nat} {tk:Tok} (h:App O B sz tk) (hB:B'<=B):App O B' sz tk:=by
 cases tk with
 | own t k=>exact⟨h.1,h.2.1,TP hB h.2.2.1,h.2.2.2⟩
 | nil=>trivial
 | full=>trivial
 | ar=>exact h.elim
theorem App.set {O:VH} {B sz k:Nat} {tk:Tok} {x:cf} {cs:List MV} (h:App O B sz tk) (hk:O.hp k=some (.cells cs)):App (O.set k x) B sz tk:=by
 cases tk with
 | own t j=>exact⟨h.1,(VH.ak _ _ (fun e=>by subst e;rw[h.2.1]at hk;cases hk)).trans h.2.1,h.2.2.1,h.2.2.2⟩
 | nil=>trivial
 | full=>trivial
 | ar=>exact h.elim
theorem eT.fresh {O O1 O2:VH} {sz:Nat} {t1:Tok} (g:O.Ge O1) (h:eT O1 O1.next sz .nil O2 t1):eT O O.next sz .nil O2 t1:=
 ⟨cL.pre g h.1,h.2.1.less g.next,h.2.2.elim .inl fun k=>.inr fun i e=>TP g.next (k i e)⟩
def cc (L:List Nd) (n t:Bs):List Nd:=if t=[]then L else L++[.mk n [] [.mk [] [] [] t] []]
theorem di (L:List Nd) (n t:Bs):(cc L n t).length<=L.length+1:=by unfold cc;split<;>simp
theorem gd {O:VH} {B:Nat} (L:List Nd) (tk:Tok) (n t:Bs) (ha:App O B 4 tk) (hB:B<=O.next) (hL:L.length<=100000):VF Tryz.prog 70 [.sl L.length (aC L) tk,.str n,.str t] O (aE fun m O'=>∃tk',m= .sl (cc L n t).length (aC (cc L n t)) tk'/\eT O B 4 tk O' tk'):=by
 refine VF.fg ?_;refine VF.dy 18 [.tmp 6] Tryz.func70 ?_;unfold cc;cases t with
 | nil=>
   refine aJ @gn (show(([]:List UInt8)==[])=true from rfl) @eY ?_;exact⟨tk,rfl,eT.refl ha⟩
 | cons c t=>
   refine ao @gn (show((c::t)==[])=false from rfl) ?_;have cC:=bj (tk':=.full) (n:=L.length) (k:=1) (cs:=aC L) (ds:=[.str n,.sl 0 [] .nil,.sl 1 [.str [],.sl 0 [] .nil,.sl 0 [] .nil,.str (c::t)] .full,.str []]) n7 tS.1.1 ha (c7 L) rfl rfl (by decide) (by decide) (by omega) (by simp only[maxLen];omega);refine VL.app cC ?_;refine ao @gn @eY ?_;rw[if_neg (by simp)];refine⟨_,?_,eT.after ha hB⟩;rw[ee];simp only[aC,dh,ah1,acs,yP,Kn,Km,alD]
def jP (L:List Nd) (n:Bs) (K:List Nd):List Nd:=if K=[]then L else L++[.mk n [] K []]
theorem pS (L:List Nd) (n:Bs) (K:List Nd):(jP L n K).length<=L.length+1:=by unfold jP;split<;>simp
theorem rZ {O:VH} {B:Nat} (L:List Nd) (tk:Tok) (n:Bs) (K:List Nd) (tK:Tok) (ha:App O B 4 tk) (hB:B<=O.next) (hL:L.length<=100000) (hK:K.length<=100000):VF Tryz.prog 69 [.sl L.length (aC L) tk,.str n,.sl K.length (aC K) tK] O (aE fun m O'=>∃tk',m= .sl (jP L n K).length (aC (jP L n K)) tk'/\eT O B 4 tk O' tk'):=by
 refine VF.fg ?_;refine VF.dy 17 [.tmp 6] Tryz.func69 ?_;unfold jP;by_cases h:K=[]
 ·subst h;refine aJ @gn @eY @Km.{0} ?_;exact⟨tk,rfl,eT.refl ha⟩
 ·have h0:0<K.length:=List.length_pos_iff.2 h;refine ae @gn ?_;have cC:=bj (tk':=.full) (n:=L.length) (k:=1) (cs:=aC L) (ds:=[.str n,.sl 0 [] .nil,.sl K.length (aC K) tK,.str []]) n7 tS.1.1 ha (c7 L) rfl rfl (by decide) (by decide) (by omega) (by simp only[maxLen];omega);refine VL.app cC ?_;refine ao @gn @eY ?_;rw[if_neg h];refine⟨_,?_,eT.after ha hB⟩;rw[ee];simp only[aC,dh,ah1,acs,yP,Kn,Km,alD]
abbrev dW:Bs:=[103,114,111,117,112,73,100]
abbrev dM:Bs:=[97,114,116,105,102,97,99,116,73,100]
abbrev fA:Bs:=[118,101,114,115,105,111,110]
abbrev Ak:Bs:=[116,121,112,101]
abbrev Al:Bs:=[99,108,97,115,115,105,102,105,101,114]
abbrev qK:Bs:=[115,99,111,112,101]
abbrev mz:Bs:=[111,112,116,105,111,110,97,108]
abbrev ki:Bs:=[116,114,117,101]
abbrev lh:Bs:=[102,97,108,115,101]
abbrev tV:Bs:=[101,120,99,108,117,115,105,111,110]
abbrev lN:Bs:=[101,120,99,108,117,115,105,111,110,115]
abbrev lE:Bs:=[100,101,112,101,110,100,101,110,99,121]
abbrev lO:Bs:=[100,101,112,101,110,100,101,110,99,105,101,115]
def gM (i:fR):Nd:=.mk tV [] (cc (cc [] dW i.g) dM i.a) []
def yC (d:Dp):List Nd:=
 let k:=cc (cc (cc (cc (cc (cc [] dW d.g) dM d.a) fA d.v) Ak d.t) Al d.c) qK (dS d.s)
 if d.o=1 then cc k mz ki else if d.o=2 then cc k mz lh else k
def fa (d:Dp):Nd:=.mk lE [] (jP (yC d) lN (d.x.map gM)) []
def nW (L:List Nd) (D:List Dp):List Nd:=jP L lO (D.map fa)
theorem Am {O:VH} {B:Nat} (L:List Nd) (tl:Tok) (D:List Dp) (tD:Tok) (ha:App O B 4 tl) (hB:B<=O.next) (hL:L.length<=10000) (hD:D.length<=10000) (hx:∀d∈D,d.x.length<=10000):VF Tryz.prog 71 [.sl L.length (aC L) tl,.sl D.length (D.flatMap aS) tD] O (aE fun m O'=>∃tk',m= .sl (nW L D).length (aC (nW L D)) tk'/\eT O B 4 tl O' tk'):=by
 refine VF.fg ?_;have hlen:=aQ gB D;refine VF.bN 82 [.tmp 4] Tryz.func71 ?_;refine VC.ag aa (ae @gn ?_);refine VC.ag aa (ae @gn ?_);refine VC.join aa [0,5] (fun tk:Tok=>[.sl L.length (aC L) tl,.sl (D.map fa).length (aC (D.map fa)) tk]) (fun tk O'=>O.Ge O') ?_ ?_;rotate_left
 ·intro tk O9 bo;refine ae @gn ?_;refine ah.rt (rZ L tl lO (D.map fa) tk (ha.ge bo) (TP hB bo.next) (by omega) (by rw[akF];omega)) ?_;rintro _ Oz ⟨tz,rfl,gz⟩;refine ao @gn @eY ?_;exact⟨tz,rfl,eT.pre bo gz⟩
 refine VC.ag aa (ae @gn ?_);refine VC.az ?_;refine VC.bG [5,14] [0,12,13] (fun x:Nat×Tok=>[.sl ((D.take x.1).map fa).length (aC ((D.take x.1).map fa)) x.2,mi x.1]) (fun x O'=>O.Ge O'/\App O' O.next 4 x.2/\x.1<=D.length) (fun x=>D.length - x.1) ((0,.nil)) ?_ ?_
 ·exact⟨VH.Ge.refl _,trivial,acw _⟩
 rintro⟨j,ta⟩ O2 ⟨ay,cC,hj⟩;dsimp only at cC hj ⊢;by_cases h2:j<D.length;rotate_left
 ·obtain rfl:j=D.length:=by omega
  rw[ags];refine WC.sound aa (ae @gn ?_);exact aA.mk ta ay
 have bw:=bU gB D j h2;have jm:(D.take (j+1)).map fa=(D.take j).map fa++[fa D[j]]:=by rw[c6 _ _ h2,alQ];rfl
 have Bt:=hx D[j] (agw h2);have hAl:((D.take j).map fa).length<=10000:=by rw[akF,agu];omega
 generalize D[j]=d at*;generalize (D.take j).map fa=A at*;obtain⟨g,a,v,t,c,s,o,X⟩:=d;dsimp only at Bt;simp only[aS]at bw;refine VC.ag aa (ae @gn ?_);refine VC.ag aa (ae @gn ?_);refine VC.bB (VC.az ?_);refine VC.ag aa (ao @gn @bw ?_);refine VC.al ?_;rintro O3 ⟨aG,hk,gm⟩;have h0:eT O3 O3.next 4 .nil O3 .nil:=eT.refl App.nil;refine VC.ag aa (ae @gn ?_);refine VC.ag aa (ao @gn @hk ?_);refine ah.rt (gd [] _ dW g h0.2.1 h0.1.next (by first | omega | simp)) ?_;rintro _ OA ⟨t1,rfl,gw⟩;have h1:=h0.trans gw;have l1:=di [] dW g;clear gw;generalize eK1:cc [] dW g=K1 at*;have iy:=(eT.ei App.nil h1).hp;have hn:=h1.1.next;try simp only[Km]at l1
 refine ae @gn ?_;refine VC.ag aa (aJ @gn @hk @iy ?_);refine ah.rt (gd K1 _ dM a h1.2.1 h1.1.next (by first | omega | simp)) ?_;rintro _ OB ⟨t2,rfl,gw⟩;have ZY:=h1.trans gw;have l2:=di K1 dM a;clear gw;generalize eK2:cc K1 dM a=K2 at*;have iy:=(eT.ei App.nil ZY).hp;have hn:=ZY.1.next;try simp only[Km]at l2
 refine ae @gn ?_;refine VC.ag aa (aJ @gn @hk @iy ?_);refine ah.rt (gd K2 _ fA v ZY.2.1 ZY.1.next (by first | omega | simp)) ?_;rintro _ OC ⟨t3,rfl,gw⟩;have h3:=ZY.trans gw;have l3:=di K2 fA v;clear gw;generalize eK3:cc K2 fA v=K3 at*;have iy:=(eT.ei App.nil h3).hp;have hn:=h3.1.next;try simp only[Km]at l3
 refine ae @gn ?_;refine VC.ag aa (aJ @gn @hk @iy ?_);refine ah.rt (gd K3 _ Ak t h3.2.1 h3.1.next (by first | omega | simp)) ?_;rintro _ OD ⟨t4,rfl,gw⟩;have h4:=h3.trans gw;have l4:=di K3 Ak t;clear gw;generalize eK4:cc K3 Ak t=K4 at*;have iy:=(eT.ei App.nil h4).hp;have hn:=h4.1.next;try simp only[Km]at l4
 refine ae @gn ?_;refine VC.ag aa (aJ @gn @hk @iy ?_);refine ah.rt (gd K4 _ Al c h4.2.1 h4.1.next (by first | omega | simp)) ?_;rintro _ OE ⟨t5,rfl,gw⟩;have h5:=h4.trans gw;have l5:=di K4 Al c;clear gw;generalize eK5:cc K4 Al c=K5 at*;have iy:=(eT.ei App.nil h5).hp;have hn:=h5.1.next;try simp only[Km]at l5
 refine ae @gn ?_;refine VC.ag aa (aJ @gn @hk @iy ?_);refine ah.rt (Jg s _) ?_;rintro _ OF ⟨rfl,rfl⟩;refine ae @gn ?_;refine ah.rt (gd K5 _ qK (dS s) h5.2.1 h5.1.next (by first | omega | simp)) ?_;rintro _ OG ⟨t6,rfl,gw⟩;have h6:=h5.trans gw;have l6:=di K5 qK (dS s);clear gw;generalize eK6:cc K5 qK (dS s)=K6 at*;have iy:=(eT.ei App.nil h6).hp;have hn:=h6.1.next;try simp only[Km]at l6
 refine ae @gn ?_;have hK:yC ⟨g,a,v,t,c,s,o,X⟩=if o=1 then cc K6 mz ki else if o=2 then cc K6 mz lh else K6:=by rw[<-eK6, <-eK5, <-eK4, <-eK3, <-eK2, <-eK1];rfl
 clear eK6 eK5 eK4 eK3 eK2 eK1;have hl7:=di K6 mz ki;have Jh:=di K6 mz lh;refine VC.join aa [0,5,7,8,9,12,13,14] (fun tk:Tok=>[.sl L.length (aC L) tl,.sl A.length (aC A) ta,.ptr O2.next 0,.sl (yC ⟨g,a,v,t,c,s,o,X⟩).length (aC (yC ⟨g,a,v,t,c,s,o,X⟩)) tk,.sl 0 [] .nil,.sl D.length (D.flatMap aS) tD,mi D.length,mi j]) (fun tk O'=>eT O3 O3.next 4 .nil O' tk) ?_ ?_
 ·refine VC.ag aa (aJ @gn @hk @iy ?_);refine VC.az ?_;by_cases Ji:o=1
  ·rw[hK,if_pos Ji];refine WC.sound aa (ae @gn ?_);refine ah.rt (gd K6 _ mz ki h6.2.1 h6.1.next (by first | omega | simp)) ?_;rintro _ OH ⟨t7,rfl,gw⟩;have h7:=h6.trans gw;have l7:=di K6 mz ki;clear gw;generalize eK7:cc K6 mz ki=K7 at*;have iy:=(eT.ei App.nil h7).hp;have hn:=h7.1.next;try simp only[Km]at l7
   refine ae @gn ?_;exact aA.mk t7 h7
  ·rw[hK,if_neg Ji];by_cases Qj:o=2
   ·rw[if_pos Qj];refine WC.sound aa (ae @gn ?_);refine ah.rt (gd K6 _ mz lh h6.2.1 h6.1.next (by first | omega | simp)) ?_;rintro _ OH ⟨t7,rfl,gw⟩;have h7:=h6.trans gw;have l7:=di K6 mz lh;clear gw;generalize eK7:cc K6 mz lh=K7 at*;have iy:=(eT.ei App.nil h7).hp;have hn:=h7.1.next;try simp only[Km]at l7
    refine ae @gn ?_;exact aA.mk t7 h7
   ·rw[if_neg Qj];refine WC.sound aa (ae @gn ?_);exact aA.mk t6 h6
 have hKl:(yC ⟨g,a,v,t,c,s,o,X⟩).length<=7:=by rw[hK];split<;>first | omega | (split<;>omega)
 intro tk O4 h7;generalize hKd:yC ⟨g,a,v,t,c,s,o,X⟩=K at*;clear hK hl7 Jh h6 iy hn;have iy:=(eT.ei App.nil h7).hp;have hn:=h7.1.next;refine aJ @gn @hk @iy ?_;refine VC.ag1 [0,5,8,9,12,13,14] (fun tx:Tok=>[.sl L.length (aC L) tl,.sl A.length (aC A) ta,.sl K.length (aC K) tk,.sl (X.map gM).length (aC (X.map gM)) tx,.sl D.length (D.flatMap aS) tD,mi D.length,mi j]) (fun tx O'=>O4.Ge O') ?_ ?_
 ·have Jj:=aQ m6 X;refine WC.iS [9,56] [0,5,8,12,13,14,54,55] (fun x:Nat×Tok=>[.sl ((X.take x.1).map gM).length (aC ((X.take x.1).map gM)) x.2,mi x.1]) (fun x O'=>O4.Ge O'/\App O' O4.next 4 x.2/\x.1<=X.length) (fun x=>X.length - x.1) ((0,.nil)) ?_ ?_
  ·exact⟨VH.Ge.refl _,trivial,acw _⟩
  rintro⟨i,tx⟩ O5 ⟨bH,oF,hi⟩;dsimp only at oF hi ⊢;by_cases gG:i<X.length;rotate_left
  ·obtain rfl:i=X.length:=by omega
   rw[ags];refine ae @gn ?_;exact aA.mk tx bH
  have hxt:=bU m6 X i gG;have hsx:(X.take (i+1)).map gM=(X.take i).map gM++[gM X[i]]:=by rw[c6 _ _ gG,alQ];rfl
  have Gr:((X.take i).map gM).length<=10000:=by rw[akF,agu];omega
  generalize X[i]=y at*;generalize (X.take i).map gM=E at*;obtain⟨yg,ya⟩:=y;simp only[bZ]at hxt;refine ao @gn @hxt ?_;refine VC.al ?_;rintro O6 ⟨fJ,mO,n9⟩;refine VC.mZ [9,10] ?_;refine ab.av 0 ?_;refine ae @gn ?_;refine ab.av 1 ?_;refine ae @gn ?_;refine ab.av 4 ?_;refine ae @gn ?_;refine ab.ld (m:=.str yg) 2 ?_ ?_
  ·exact dq @gn @mO
  simp only[aj];refine ab.ld (m:=.str ya) 5 ?_ ?_
  ·exact dq @gn @mO
  simp only[aj];refine ab.call (i:=3) (gd [] .nil dW yg (App.nil (B:=O6.next)) (XN _) (by simp)) ?_;rintro _ O7 ⟨t7,rfl,g7⟩;simp only[aj];have l7:=di [] dW yg;generalize e7:cc [] dW yg=E1 at*;simp only[Km]at l7;refine⟨eT.ei App.nil g7,?_⟩;refine ab.call (i:=6) (gd E1 t7 dM ya g7.2.1 g7.1.next (by omega)) ?_;rintro _ O8 ⟨t8,rfl,g8⟩;simp only[aj];have l8:=di E1 dM ya;have he:gM ⟨yg,ya⟩= .mk tV [] (cc E1 dM ya) []:=by rw[<-e7];rfl
  generalize cc E1 dM ya=E2 at*;have h8:=eT.ei App.nil (g7.trans g8);refine⟨h8,?_⟩;refine ab.av 7 ?_;refine ae @gn ?_;refine ab.op (i:=8) ?_;refine ae @gn ?_;refine⟨h8,?_⟩;refine ab.bO [(9,.one),(10,.av)] ?_;have iI:=fJ.trans h8;have ZZ:=oF.ge iI;refine ae @gn ?_;obtain⟨mE,gD,ll⟩:=fZ (n:=E.length) (cs:=aC E) (ds:=[.str tV,.sl 0 [] .nil,.sl E2.length (aC E2) t8,.str []]) (es:=dh (gM ⟨yg,ya⟩)) n7 tS.1.1 ZZ (c7 E) rfl rfl (by decide) (by omega) (by simp only[maxLen];omega) (eY E) (by rw[he];simp only[wu,eY,dh];rfl);refine VL.lC gD ll ?_;refine ae @gn ?_;exact ax.next (i+1,.own O8.next 4) ⟨cL.ei (bH.trans iI) ZZ (cL.after ZZ),App.after (TP bH.next iI.next),gG⟩ (hl:=(by dsimp only;rw[hsx,ee,yP,aC,aC,acs];rfl))
 intro tx O5 bH;have h5:=h7.ge bH;refine ae @gn ?_;refine ah.rt (rZ K tk lN (X.map gM) tx h5.2.1 h5.1.next (by omega) (by rw[akF];omega)) ?_;rintro _ O6 ⟨tb,rfl,g6⟩;have h6:=h5.trans g6;have vc:=pS K lN (X.map gM);have F_:fa ⟨g,a,v,t,c,s,o,X⟩= .mk lE [] (jP K lN (X.map gM)) []:=by rw[<-hKd];rfl
 generalize jP K lN (X.map gM)=K9 at*;have Z0:=aG.trans (eT.ei App.nil h6);have n_:=cC.ge Z0;refine ae @gn ?_;obtain⟨mE,gD,ll⟩:=fZ (n:=A.length) (cs:=aC A) (ds:=[.str lE,.sl 0 [] .nil,.sl K9.length (aC K9) tb,.str []]) (es:=dh (fa ⟨g,a,v,t,c,s,o,X⟩)) n7 tS.1.1 n_ (c7 A) rfl rfl (by decide) (by omega) (by simp only[maxLen];omega) (eY A) (by rw[F_];simp only[wu,eY,dh];rfl);refine VL.lC gD ll ?_;refine ae @gn ?_;refine WC.sound aa (ae @gn ?_);exact ax.next (j+1,.own O6.next 4) ⟨cL.ei (ay.trans Z0) n_ (cL.after n_),App.after (TP ay.next Z0.next),h2⟩ (hl:=(by dsimp only;rw[jm,ee,yP,aC,aC,acs];rfl))
set_option linter.defProp false in
def dN:=RZ gn<|RZ LS<|RZ Ac Cq
abbrev vd:Bs:=[112,97,114,101,110,116]
abbrev xH:Bs:=[112,97,99,107,97,103,105,110,103]
abbrev lp:Bs:=[112,114,111,112,101,114,116,105,101,115]
abbrev r3:Bs:=[100,101,112,101,110,100,101,110,99,121,77,97,110,97,103,101,109,101,110,116]
abbrev gH:Bs:=[112,114,111,106,101,99,116]
def EC (p:Pm):List Nd:=if p.hp then jP [] vd (cc (cc (cc [] dW p.par.g) dM p.par.a) fA p.par.v)else[]
def Jk (p:Pm):List Nd:=cc (cc (cc (cc (EC p) dW p.g) dM p.a) fA p.v) xH p.pk
def ic (x:Bs×Bs):Nd:=.mk x.1 [] (if x.2=[]then[]else[.mk [] [] [] x.2]) []
def fE (p:Pm):Nd:=.mk gH [] (nW (jP (jP (Jk p) lp (p.props.map ic)) r3 (nW [] p.eE)) p.en) []
theorem L7 (L:List Nd) (D:List Dp):(nW L D).length<=L.length+1:=pS _ _ _
theorem Z1 {O:VH} (p:Pm) (hP:p.props.length<=10000) (hM:p.eE.length<=10000) (hD:p.en.length<=10000) (hx:∀d∈p.eE++p.en,d.x.length<=10000):VF Tryz.prog 49 [.agg (gC p)] O (aE fun m O'=>m= .agg (dh (fE p))/\O.Ge O'):=by
 refine VF.fg ?_;obtain⟨hp,⟨pg,pa,pv⟩,g,a,v,pk,P,M,D⟩:=p;dsimp only at hP hM hD hx;have hPl:=aQ fp P;simp only[gC];refine VF.bN 76 [.cell 2 112] Tryz.func49 ?_;refine VC.ag aa (ae @dN ?_);refine VC.bx ?_;rintro O1 ⟨aM,bJ,cW⟩;have hk:O1.hp O.next=some (.cells [mb hp,.str pg,.str pa,.str pv,.str g,.str a,.str v,.str pk,.sl P.length (P.flatMap bh) .ar,.sl M.length (M.flatMap aS) .ar,.sl D.length (D.flatMap aS) .ar]):=(aM.hp _ (ah0 _)).trans (VH.aW _ _)
 replace bJ:O1.hp (O.next+1)=some (.cells [.str [],.sl 0 [] .nil,.sl 0 [] .nil,.str []]):=bJ
 have jn:=((VH.Ge.refl O).push _).trans aM;have hn0:O1.next=O.next+2:=cW;simp only[a_]at hk;clear aM cW;have h0:eT O1 O1.next 4 .nil O1 .nil:=eT.refl App.nil;refine VC.ag aa (ae @dN ?_);have dL:(EC ⟨hp,⟨pg,pa,pv⟩,g,a,v,pk,P,M,D⟩).length<=1:=by unfold EC;split;exact pS _ _ _;simp
 have hh:Jk ⟨hp,⟨pg,pa,pv⟩,g,a,v,pk,P,M,D⟩=cc (cc (cc (cc (EC ⟨hp,⟨pg,pa,pv⟩,g,a,v,pk,P,M,D⟩) dW g) dM a) fA v) xH pk:=rfl;have hw:fE ⟨hp,⟨pg,pa,pv⟩,g,a,v,pk,P,M,D⟩= .mk gH [] (nW (jP (jP (Jk ⟨hp,⟨pg,pa,pv⟩,g,a,v,pk,P,M,D⟩) lp (P.map ic)) r3 (nW [] M)) D) []:=rfl;have hpp:EC ⟨hp,⟨pg,pa,pv⟩,g,a,v,pk,P,M,D⟩=if hp then jP [] vd (cc (cc (cc [] dW pg) dM pa) fA pv)else[]:=rfl
 rw[hh]at hw;clear hh;generalize fE ⟨hp,⟨pg,pa,pv⟩,g,a,v,pk,P,M,D⟩=W at*;generalize EC ⟨hp,⟨pg,pa,pv⟩,g,a,v,pk,P,M,D⟩=K0 at*;refine VC.bC [1,2,3,4] (fun tk:Tok=>[.ptr O.next 0,.ptr (O.next+1) 0,.sl K0.length (aC K0) tk,.sl 0 [] .nil]) (fun tk O'=>eT O1 O1.next 4 .nil O' tk) ?_ ?_
 ·cases hp
  ·refine VC.ag aa (ao @dN @hk ?_);rw[hpp];refine WC.sound aa (ae @dN ?_);exact aA.mk .nil h0
  ·refine VC.ag aa (ao @dN @hk ?_);rw[hpp];refine WC.sound aa (ae @dN ?_);refine VC.mZ [] ?_;refine ab.av 0 ?_;refine ae @dN ?_;refine ab.av 1 ?_;refine ae @dN ?_;refine ab.av 2 ?_;refine ae @dN ?_;refine ab.ld (m:=.str pg) 3 ?_ ?_
   ·exact dq @dN @hk
   simp only[aj];refine ab.av 5 ?_;refine ae @dN ?_;refine ab.av 6 ?_;refine ae @dN ?_;refine ab.ld (m:=.str pa) 7 ?_ ?_
   ·exact dq @dN @hk
   simp only[aj];refine ab.av 9 ?_;refine ae @dN ?_;refine ab.av 10 ?_;refine ae @dN ?_;refine ab.ld (m:=.str pv) 11 ?_ ?_
   ·exact dq @dN @hk
   simp only[aj];refine ab.call (i:=4) (gd [] .nil dW pg (App.nil (B:=O1.next)) (XN _) (by simp)) ?_;rintro _ O2 ⟨t2,rfl,g2⟩;simp only[aj];have l2:=di [] dW pg;generalize cc [] dW pg=E1 at*;simp only[Km]at l2;refine⟨eT.ei App.nil g2,?_⟩;refine ab.call (i:=8) (gd E1 t2 dM pa g2.2.1 g2.1.next (by omega)) ?_;rintro _ O3 ⟨t3,rfl,g3⟩;simp only[aj];have l3:=di E1 dM pa;generalize cc E1 dM pa=E2 at*
   replace g3:=g2.trans g3
   refine⟨eT.ei App.nil g3,?_⟩;refine ab.call (i:=12) (gd E2 t3 fA pv g3.2.1 g3.1.next (by omega)) ?_;rintro _ O4 ⟨t4,rfl,g4⟩;simp only[aj];have l4:=di E2 fA pv;generalize cc E2 fA pv=E3 at*
   replace g4:=g3.trans g4
   refine⟨eT.ei App.nil g4,?_⟩;refine ab.call (i:=13) (rZ [] .nil vd E3 t4 (App.nil (B:=O4.next)) (XN _) (by simp) (by omega)) ?_;rintro _ O5 ⟨t5,rfl,g5⟩;simp only[aj];refine⟨(eT.ei App.nil g4).trans (eT.ei App.nil g5),?_⟩;refine ab.av 14 ?_;refine ae @dN ?_;refine ab.bO [] ?_;refine ae @dN ?_;exact aA.mk t5 (eT.fresh (eT.ei App.nil g4) g5)
 intro tk O2 h2;have iy:=(eT.ei App.nil h2).hp;have hn:=h2.1.next;clear hpp;refine VC.ag aa (aJ @dN @hk @iy ?_);refine ah.rt (gd K0 _ dW g h2.2.1 h2.1.next (by first | omega | simp)) ?_;rintro _ OA ⟨t1,rfl,gw⟩;have h3:=h2.trans gw;have l1:=di K0 dW g;clear gw;generalize eK1:cc K0 dW g=K1 at*;have iy:=(eT.ei App.nil h3).hp;have hn:=h3.1.next;try simp only[Km]at l1
 refine ae @dN ?_;refine VC.ag aa (aJ @dN @hk @iy ?_);refine ah.rt (gd K1 _ dM a h3.2.1 h3.1.next (by first | omega | simp)) ?_;rintro _ OB ⟨t2,rfl,gw⟩;have h4:=h3.trans gw;have l2:=di K1 dM a;clear gw;generalize eK2:cc K1 dM a=K2 at*;have iy:=(eT.ei App.nil h4).hp;have hn:=h4.1.next;try simp only[Km]at l2
 refine ae @dN ?_;refine VC.ag aa (aJ @dN @hk @iy ?_);refine ah.rt (gd K2 _ fA v h4.2.1 h4.1.next (by first | omega | simp)) ?_;rintro _ OC ⟨t3,rfl,gw⟩;have h5:=h4.trans gw;have l3:=di K2 fA v;clear gw;generalize eK3:cc K2 fA v=K3 at*;have iy:=(eT.ei App.nil h5).hp;have hn:=h5.1.next;try simp only[Km]at l3
 refine ae @dN ?_;refine VC.ag aa (aJ @dN @hk @iy ?_);refine ah.rt (gd K3 _ xH pk h5.2.1 h5.1.next (by first | omega | simp)) ?_;rintro _ OD ⟨t4,rfl,gw⟩;have h6:=h5.trans gw;have l4:=di K3 xH pk;clear gw;generalize eK4:cc K3 xH pk=K4 at*;have iy:=(eT.ei App.nil h6).hp;have hn:=h6.1.next;try simp only[Km]at l4
 refine ae @dN ?_;clear eK1 eK2 eK3 eK4;refine VC.bC [1,2,3,4] (fun tp:Tok=>[.ptr O.next 0,.ptr (O.next+1) 0,.sl K4.length (aC K4) t4,.sl (P.map ic).length (aC (P.map ic)) tp]) (fun tp O'=>OD.Ge O') ?_ ?_
 ·refine VC.ag aa (aJ @dN @hk @iy ?_);refine VC.az ?_;refine VC.bG [4,43] [1,2,3,41,42] (fun x:Nat×Tok=>[.sl ((P.take x.1).map ic).length (aC ((P.take x.1).map ic)) x.2,mi x.1]) (fun x O'=>OD.Ge O'/\App O' OD.next 4 x.2/\x.1<=P.length) (fun x=>P.length - x.1) ((0,.nil)) ?_ ?_
  ·exact⟨VH.Ge.refl _,trivial,acw _⟩
  rintro⟨j,tp⟩ O3 ⟨aG,cC,hj⟩;dsimp only at cC hj ⊢;by_cases aX:j<P.length;rotate_left
  ·obtain rfl:j=P.length:=by omega
   rw[ags];refine WC.sound aa (ae @dN ?_);exact aA.mk tp aG
  have bw:=bU fp P j aX;have jm:(P.take (j+1)).map ic=(P.take j).map ic++[ic P[j]]:=by rw[c6 _ _ aX,alQ];rfl
  have Gr:((P.take j).map ic).length<=10000:=by rw[akF,agu];omega
  generalize P[j]=y at*;generalize (P.take j).map ic=E at*;obtain⟨yn,yv⟩:=y;simp only[bh]at bw;refine VC.ag aa (ae @dN ?_);refine VC.ag aa (ae @dN ?_);refine VC.bB (VC.az ?_);refine VC.ag aa (ao @dN @bw ?_);refine VC.al ?_;rintro O4 ⟨aY,mO,gI⟩;refine VC.ag aa (ao @dN @mO ?_);refine VC.al ?_;rintro O5 ⟨bH,yj,fS⟩;have hkz:O5.hp O3.next=some (.cells [.str yn,.str yv]):=bH.at mO;have jL:=(cC.ge aY).ge bH;have ED:=(aG.trans aY).trans bH;cases yv with
  | nil=>
    refine WC.sound aa (c_ @dN @hkz (show(([]:List UInt8)==[])=true from rfl) @yj ?_);obtain⟨mE,gD,ll⟩:=fZ (n:=E.length) (cs:=aC E) (ds:=[.str yn,.sl 0 [] .nil,.sl 0 [] .nil,.str []]) (es:=dh (ic (yn,[]))) n7 tS.1.1 jL (c7 E) rfl rfl (by decide) (by omega) (by simp only[maxLen];omega) (eY E) (by simp only[wu,ic,dh,if_true,Km,ah1,aC]);refine VL.lC gD ll ?_;refine ae @dN ?_;refine WC.sound aa (ae @dN ?_);exact ax.next (j+1,.own O5.next 4) ⟨cL.ei ED jL (cL.after jL),App.after ED.next,aX⟩ (hl:=(by dsimp only;rw[jm,ee,yP,aC,aC,acs];rfl))
  | cons c yv=>
    refine WC.sound aa (c_ @dN @hkz (show((c::yv)==[])=false from rfl) @yj ?_);have n_:=jL.set (x:=.cells [.str yn,.sl 0 [] .nil,.sl 1 [.str [],.sl 0 [] .nil,.sl 0 [] .nil,.str (c::yv)] .full,.str []]) yj;have afe:=ED.set (k:=O4.next) (by have:=aG.next;omega) (.cells [.str yn,.sl 0 [] .nil,.sl 1 [.str [],.sl 0 [] .nil,.sl 0 [] .nil,.str (c::yv)] .full,.str []]);generalize O5.set O4.next (.cells [.str yn,.sl 0 [] .nil,.sl 1 [.str [],.sl 0 [] .nil,.sl 0 [] .nil,.str (c::yv)] .full,.str []])=O6 at*;obtain⟨mE,gD,ll⟩:=fZ (n:=E.length) (cs:=aC E) (ds:=[.str yn,.sl 0 [] .nil,.sl 1 [.str [],.sl 0 [] .nil,.sl 0 [] .nil,.str (c::yv)] .full,.str []]) (es:=dh (ic (yn,c::yv))) n7 tS.1.1 n_ (c7 E) rfl rfl (by decide) (by omega) (by simp only[maxLen];omega) (eY E) (by simp only[wu,ic,dh,if_neg (List.cons_ne_nil c yv),Km,Kn,ah1,aC,acs,alD]);refine VL.lC gD ll ?_;refine ae @dN ?_;refine WC.sound aa (ae @dN ?_);exact ax.next (j+1,.own O6.next 4) ⟨cL.ei afe n_ (cL.after n_),App.after afe.next,aX⟩ (hl:=(by dsimp only;rw[jm,ee,yP,aC,aC,acs];rfl))
 intro tp O3 aG;have h7:=h6.ge aG;clear iy hn;have iy:=(eT.ei App.nil h7).hp;have hn:=h7.1.next;refine VC.ag aa (ae @dN ?_);refine ah.rt (rZ K4 t4 lp (P.map ic) tp h7.2.1 h7.1.next (by omega) (by rw[akF];omega)) ?_;rintro _ O4 ⟨t5,rfl,g8⟩;have h8:=h7.trans g8;have l5:=pS K4 lp (P.map ic);generalize jP K4 lp (P.map ic)=K5 at*;have ai0:=(eT.ei App.nil h8).hp;have EE:=h8.1.next;refine ae @dN ?_;refine VC.ag aa (aJ @dN @hk @ai0 ?_);refine ah.rt (Am [] .nil M .ar (App.nil (B:=O4.next)) (XN _) (by simp) hM (fun d hd=>hx d (List.mem_append_left _ hd))) ?_;rintro _ O5 ⟨t6,rfl,g9⟩;have l6:=L7 [] M;generalize nW [] M=K6 at*;simp only[Km]at l6;have h9:=h8.ge (eT.ei App.nil g9);refine ae @dN ?_;refine ah.rt (rZ K5 t5 r3 K6 t6 h9.2.1 h9.1.next (by omega) (by omega)) ?_;rintro _ O6 ⟨t7,rfl,g10⟩;have rb:=h9.trans g10;have l7:=pS K5 r3 K6;generalize jP K5 r3 K6=K7 at*;have ag9:=(eT.ei App.nil rb).hp;have HK:=rb.1.next;refine ae @dN ?_;refine VC.ag aa (aJ @dN @hk @ag9 ?_);refine ah.rt (Am K7 t7 D .ar rb.2.1 rb.1.next (by omega) hD (fun d hd=>hx d (List.mem_append_right _ hd))) ?_;rintro _ O7 ⟨t8,rfl,g11⟩;have X7:=rb.trans g11;generalize nW K7 D=K8 at*;have ag_:=(eT.ei App.nil X7).hp;have aff:=X7.1.next;have dz:=(ag_ _ (by omega)).trans bJ;refine ao @dN @dz ?_;refine WC.sound aa (ao @dN @eY ?_);exact⟨by rw[hw,dh];rfl,(jn.trans (eT.ei App.nil X7)).set (by omega) _⟩
set_option linter.defProp false in
def dE:=RZ Ad<|RZ dN<|RZ ae2<|RZ Ew<|RZ ae7 T69
theorem fm.trans {O O1 O2:VH} {b:Nat} {q q1 q2:Option Nat} (h:fm O b q O1 q1) (k:fm O1 b q1 O2 q2):fm O b q O2 q2:=
 ⟨TP h.next k.next,fun i hi hb hq=>by rw[k.hp i (agr hi h.next) hb (h.new i hi hq),h.hp i hi hb hq],fun i hi hq=>k.new i (agr hi h.next) (h.new i hi hq)⟩
theorem fm.lR {O O1:VH} {b:Nat} {q:Option Nat} (h:O.Ge O1):fm O b q O1 q:=⟨h.next,fun i hi _ _=>h.hp i hi,fun _ _ hq=>hq⟩
theorem fX.ge {O O':VH} {B b:Nat} {q:Option Nat} {s:List UInt8} (h:fX O B b q s) (u:O.Ge O'):fX O' B b q s:=h.yz (br.lR u)
theorem fm.CU {O O1 O2:VH} {b:Nat} {q:Option Nat} (h:O.Ge O1) (u:fm O1 b none O2 q) (hb:O.next<=b):O.Ge O2:=u.ge h hb (fun _ e=>by cases e)
theorem VH.Ge.SF {O O1 O2:VH} {q:Option Nat} (h:O.Ge O1) (u:br O1 q O2) (hq:∀i,q=some i->O.next<=i):O.Ge O2:=⟨TP h.next u.next,fun i hi=>(u.hp i (agr hi h.next) (fun e=>by have:=hq i e;omega)).trans (h.hp i hi)⟩
def oV (attr:Bool) (c:UInt8):Bs:=
 if c=38 then[38,97,109,112,59]else if c=60 then[38,108,116,59]else if c=62 then[38,103,116,59]else if c=13 then[38,35,49,51,59]
 else if attr&&c==34 then[38,113,117,111,116,59]else if attr&&c==9 then[38,35,57,59]else if attr&&c==10 then[38,35,49,48,59]else[c]
def mA (attr:Bool) (s:Bs):Bs:=s.flatMap (oV attr)
theorem VP (attr:Bool) (c:UInt8):(oV attr c).length<=6:=by
 unfold oV;repeat' split
 all_goals simp
theorem nL (attr:Bool) (s:Bs):(mA attr s).length<=6*s.length:=by
 induction s with
 | nil=>simp[mA]
 | cons c s ih=>
   have:=VP attr c;unfold mA at ih ⊢;rw[agt,yP,Kn];omega
theorem Bu (s:Bs) (attr:Bool) (O:VH) (hs:s.length<=1000000):VF Tryz.prog 66 [.str s,mb attr] O (aE fun m O'=>m= .str (mA attr s)/\O.Ge O'):=by
 have hsm:s.length<=maxLen:=TP hs (by decide);have hm:(s.length:Int)<=9223372036854775807:=by omega
 refine VF.dy 56 [.tmp 4] Tryz.func66 ?_;refine ae @dE ?_;have r4:=fX.fresh O (XN O.next);have kh:O.Ge ((O.push (.cells [.v (.pointer none),.sl 0 [] .nil])).push (.shape O.next 145 2)):=((VH.Ge.refl O).push _).push _;generalize ((O.push (.cells [.v (.pointer none),.sl 0 [] .nil])).push (.shape O.next 145 2))=O1 at*;refine VL.bytes aa (el:=5) (l:=s) rfl rfl (by rw[T9];rfl) (by rw[tT];rfl) (by rw[T5];rfl) hsm rfl fun cap h1 h2=>WL.sound aa ?_
 have rY:=VH.aW O1 (.cells (s.map fL));have aM:=(VH.Ge.refl O1).push (.cells (s.map fL));have cW:O1.next<(O1.push (.cells (s.map fL))).next:=ah0 _;have vc:=r4.hi;have cA:=r4.ge aM;have ue:fm O1 O.next none (O1.push (.cells (s.map fL))) none:=fm.lR aM;generalize O1.push (.cells (s.map fL))=O2 at*;refine ae @dE ?_;refine WC.iS [11] [1,5,9,10] (fun x:Nat×Option Nat=>[mi x.1]) (fun x O'=>fm O2 O.next none O' x.2/\fX O' O.next O.next x.2 (mA attr (s.take x.1))/\x.1<=s.length) (fun x=>s.length - x.1) ((0,none)) ?_ ?_
 ·exact⟨fm.lR (VH.Ge.refl _),cA,acw _⟩
 rintro⟨j,q⟩ O3 ⟨hu,hb,hj⟩;dsimp only at hu hb hj ⊢;have CV:=(hu.hp O1.next cW (by omega) (by simp)).trans rY;by_cases h3:j<s.length
 ·have qy:=acu h3;have jm:mA attr (s.take (j+1))=mA attr (s.take j)++oV attr s[j]:=by unfold mA;rw[c6 _ _ h3,ahX,agt,ah1,acs]
  have cO:(mA attr (s.take j)).length<=6000000:=by have:=nL attr (s.take j);rw[agu]at this;omega
  generalize mA attr (s.take j)=T at*;generalize s[j]=c at*;have hc:=c.toNat_lt;have key:∀(l:Bs) (q':Option Nat) (O4:VH),oV attr c=l->fX O4 O.next O.next q' (T++l)->fm O3 O.next q O4 q'->fm O2 O.next none O4 q'/\fX O4 O.next O.next q' (mA attr (s.take (j+1)))/\j+1<=s.length:=fun l q' O4 e h k=>⟨hu.trans k,by rw[jm,e];exact h,h3⟩
  have Jl:c=38 ↔ c.toNat=38:=⟨fun h=>by rw[h];rfl,fun h=>UInt8.toNat_inj.1 h⟩;have L8:c=60 ↔ c.toNat=60:=⟨fun h=>by rw[h];rfl,fun h=>UInt8.toNat_inj.1 h⟩;have Qk:c=62 ↔ c.toNat=62:=⟨fun h=>by rw[h];rfl,fun h=>UInt8.toNat_inj.1 h⟩;have VS:c=13 ↔ c.toNat=13:=⟨fun h=>by rw[h];rfl,fun h=>UInt8.toNat_inj.1 h⟩;have e34:c=34 ↔ c.toNat=34:=⟨fun h=>by rw[h];rfl,fun h=>UInt8.toNat_inj.1 h⟩;have e9:c=9 ↔ c.toNat=9:=⟨fun h=>by rw[h];rfl,fun h=>UInt8.toNat_inj.1 h⟩;have r5:c=10 ↔ c.toNat=10:=⟨fun h=>by rw[h];rfl,fun h=>UInt8.toNat_inj.1 h⟩;by_cases Z2:c.toNat=38
  ·refine c_ @dE @qy @CV @aI ?_;refine ah.rt (bQ [38,97,109,112,59] hb (by simp only[Kn,Km];omega)) ?_;rintro _ O4 ⟨rfl,q',cU,fq⟩;refine ae @dE ?_;exact ax.next (j+1,q') (key _ _ _ (by simp[oV,Jl,Z2]) cU fq)
  by_cases L9:c.toNat=60
  ·refine c_ @dE @qy @CV @aI ?_;refine ah.rt (bQ [38,108,116,59] hb (by simp only[Kn,Km];omega)) ?_;rintro _ O4 ⟨rfl,q',cU,fq⟩;refine ae @dE ?_;exact ax.next (j+1,q') (key _ _ _ (by simp[oV,Jl,L8,L9]) cU fq)
  by_cases h62:c.toNat=62
  ·refine c_ @dE @qy @CV @aI ?_;refine ah.rt (bQ [38,103,116,59] hb (by simp only[Kn,Km];omega)) ?_;rintro _ O4 ⟨rfl,q',cU,fq⟩;refine ae @dE ?_;exact ax.next (j+1,q') (key _ _ _ (by simp[oV,Jl,L8,Qk,h62]) cU fq)
  by_cases h13:c.toNat=13
  ·refine c_ @dE @qy @CV @aI ?_;refine ah.rt (bQ [38,35,49,51,59] hb (by simp only[Kn,Km];omega)) ?_;rintro _ O4 ⟨rfl,q',cU,fq⟩;refine ae @dE ?_;exact ax.next (j+1,q') (key _ _ _ (by simp[oV,Jl,L8,Qk,VS,h13]) cU fq)
  cases attr
  ·refine c_ @dE @qy @CV @aI ?_;refine ah.rt (sT c hb (by omega)) ?_;rintro _ O4 ⟨rfl,q',cU,fq⟩;refine ae @dE ?_;exact ax.next (j+1,q') (key _ _ _ (by simp[oV,Jl,L8,Qk,VS,Z2,L9,h62,h13]) cU fq)
  by_cases h34:c.toNat=34
  ·refine c_ @dE @qy @CV @aI ?_;refine ah.rt (bQ [38,113,117,111,116,59] hb (by simp only[Kn,Km];omega)) ?_;rintro _ O4 ⟨rfl,q',cU,fq⟩;refine ae @dE ?_;exact ax.next (j+1,q') (key _ _ _ (by simp[oV,Jl,L8,Qk,VS,e34,h34]) cU fq)
  by_cases h9:c.toNat=9
  ·refine c_ @dE @qy @CV @aI ?_;refine ah.rt (bQ [38,35,57,59] hb (by simp only[Kn,Km];omega)) ?_;rintro _ O4 ⟨rfl,q',cU,fq⟩;refine ae @dE ?_;exact ax.next (j+1,q') (key _ _ _ (by simp[oV,Jl,L8,Qk,VS,e34,e9,h9]) cU fq)
  by_cases rb:c.toNat=10
  ·refine c_ @dE @qy @CV @aI ?_;refine ah.rt (bQ [38,35,49,48,59] hb (by simp only[Kn,Km];omega)) ?_;rintro _ O4 ⟨rfl,q',cU,fq⟩;refine ae @dE ?_;exact ax.next (j+1,q') (key _ _ _ (by simp[oV,Jl,L8,Qk,VS,e34,e9,r5,rb]) cU fq)
  ·refine c_ @dE @qy @CV @aI ?_;refine ah.rt (sT c hb (by omega)) ?_;rintro _ O4 ⟨rfl,q',cU,fq⟩;refine ae @dE ?_;exact ax.next (j+1,q') (key _ _ _ (by simp[oV,Jl,L8,Qk,VS,e34,e9,r5,Z2,L9,h62,h13,h34,h9,rb]) cU fq)
 ·obtain rfl:j=s.length:=by omega
  rw[ags]at hb;have Gp:=nL attr s;refine ae @dE ?_;refine ah.rt (pO hb (by simp only[maxLen];omega)) ?_;rintro _ O4 ⟨rfl,fq⟩;refine ae @dE ?_;exact(fm.CU (kh.trans aM) hu (XN _)).SF fq hb.xG
structure Ql where
 k:Int
 n:Bs
 fM:List (Bs×Bs)
 t:Bs
 off:Nat
 line:Nat
 EF:Nat
 deriving DecidableEq
def EG (x:Ql):List MV:=[mi x.k,.str x.n,.sl x.fM.length (x.fM.flatMap bh) .ar,.str x.t,mi x.off,mi x.line,mi x.EF]
def oI (a:Bs×Bs):Bs:=[32]++a.1++[61,34]++mA true a.2++[34]
def EH (n:Bs) (L:List (Bs×Bs)) (e:Bs):Bs:=[60]++n++L.flatMap oI++e
theorem EI (a:Bs×Bs) (h1:a.1.length<=1000000) (h2:a.2.length<=1000000):(oI a).length<=7000004:=by
 have:=nL true a.2;simp only[oI,yP,Kn,Km];omega
theorem qL:∀L:List (Bs×Bs),(∀a∈L,a.1.length<=1000000/\a.2.length<=1000000)->(L.flatMap oI).length<=L.length*7000004
 | [],_=>by simp
 | a::L,h=>by
   have h1:=EI a (h a (by simp)).1 (h a (by simp)).2;have h2:=qL L fun x hx=>h x (List.mem_cons_of_mem _ hx)
   rw[agt,yP,Kn,Nat.succ_mul];omega
theorem Z3 {O:VH} {B b:Nat} {q:Option Nat} {s:Bs} (x:Ql) (e:Bs) (h:fX O B b q s) (hs:s.length<=10000000000000) (hn:x.n.length<=1000000) (he:e.length<=1000000) (hA:∀a∈x.fM,a.1.length<=1000000/\a.2.length<=1000000) (hl:x.fM.length<=1000000):
  VF Tryz.prog 87 [.ptr b 0,.agg (EG x),.str e] O (aE fun m O'=>∃q',fX O' B b q' (s++EH x.n x.fM e)/\fm O b q O' q'):=by
 obtain⟨k,n,L,t,off,line,EF⟩:=x;dsimp only at hn hA hl;have oE:=aQ fp L;simp only[EG];refine VF.bN 35 [] Tryz.func87 ?_;refine VC.ag aa (ae @dE ?_);refine VC.bx ?_;rintro O1 ⟨aM,hk,cW⟩;have cA:=h.ge aM;try simp only[aq]at hk
 refine VC.ag aa (ao @dE @hk ?_);refine ah.rt (bQ ([60]++n) cA (by simp only[yP,Kn,Km];omega)) ?_;rintro _ O2 ⟨rfl,q2,ct,dm⟩;have bJ:=(dm.hp O.next (by omega) (by have:=h.hi;omega) (h.SE _ (XN _))).trans hk;refine ae @dE ?_;refine VC.bC [0,2] (fun q:Option Nat=>[.ptr b 0,.str e]) (fun q' O'=>fm O b q O' q'/\fX O' B b q' (s++([60]++n)++L.flatMap oI)) ?_ ?_
 ·refine VC.ag aa (ao @dE @bJ ?_);refine VC.az ?_;refine VC.bG [16] [0,2,14,15] (fun x:Nat×Option Nat=>[mi x.1]) (fun x O'=>fm O b q O' x.2/\fX O' B b x.2 (s++([60]++n)++(L.take x.1).flatMap oI)/\x.1<=L.length) (fun x=>L.length - x.1) ((0,q2)) ?_ ?_
  ·exact⟨(fm.lR aM).trans dm,by simpa using ct,acw _⟩
  rintro⟨j,qj⟩ O3 ⟨cP,cg,hj⟩;dsimp only at cP cg hj ⊢;by_cases aX:j<L.length;rotate_left
  ·obtain rfl:j=L.length:=by omega
   rw[ags]at cg;refine WC.sound aa (ae @dE ?_);exact aA.mk qj ⟨cP,cg⟩
  have bw:=bU fp L j aX;have jm:(L.take (j+1)).flatMap oI=(L.take j).flatMap oI++oI L[j]:=by rw[c6 _ _ aX,ahX,agt,ah1,acs]
  have gh:=hA L[j] (agw aX);have dL:=EI L[j] gh.1 gh.2
  have hTl:((L.take j).flatMap oI).length<=7000004000000:=by
   have:=qL (L.take j) fun a ha=>hA a (List.mem_of_mem_take ha)
   rw[agu]at this;omega
  generalize L[j]=y at*;generalize (L.take j).flatMap oI=T at*;obtain⟨yn,yv⟩:=y;dsimp only at gh;simp only[bh]at bw;refine VC.ag aa (ae @dE ?_);refine VC.ag aa (ae @dE ?_);refine VC.bB (VC.az ?_);refine VC.ag aa (ao @dE @bw ?_);refine VC.al ?_;rintro O4 ⟨aY,mO,gI⟩;have cU:=cg.ge aY;refine VC.mZ [10] ?_;refine ab.av 0 ?_;refine ae @dE ?_;refine ab.av 1 ?_;refine ae @dE ?_;refine ab.ld (m:=.str yn) 2 ?_ ?_
  ·exact dq @dE @mO
  simp only[aj];refine ab.av 3 ?_;refine ae @dE ?_;refine ab.av 4 ?_;refine ae @dE ?_;refine ab.av 5 ?_;refine ae @dE ?_;refine ab.ld (m:=.str yv) 6 ?_ ?_
  ·exact dq @dE @mO
  simp only[aj];refine ab.call (i:=7) (Bu yv true _ gh.2) ?_;rintro _ O5 ⟨rfl,bH⟩;simp only[aj];refine⟨bH,?_⟩;have Gp:=nL true yv;have hae:oI (yn,yv)=[32]++yn++[61,34]++mA true yv++[34]:=rfl;generalize mA true yv=E at*;refine ab.av 8 ?_;refine ae @dE ?_;refine ab.av 9 ?_;refine ae @dE ?_;refine ab.bO [(10,.one)] ?_;refine ae @dE ?_;refine ah.rt (bQ ([32]++yn++[61,34]++E++[34]) (cU.ge bH) (by simp only[yP,Kn,Km];omega)) ?_;rintro _ O6 ⟨rfl,q6,jb,rk⟩;refine ae @dE ?_;refine WC.sound aa (ae @dE ?_);exact ax.next (j+1,q6) ⟨(cP.trans (fm.lR (aY.trans bH))).trans rk,by rw[jm,hae, <-ahY];exact jb,aX⟩
 rintro q3 O3 ⟨cP,cg⟩;have hTl:=qL L hA;refine WC.sound aa (ae @dE ?_);refine ah.rt (bQ e cg (by simp only[yP,Kn,Km];omega)) ?_;rintro _ O4 ⟨rfl,q4,cU,fq⟩;refine ae @dE ?_;refine⟨q4,?_,cP.trans fq⟩;simpa[EH,ahY]using cU
def yD (x:Ql):Bs:=
 if x.k=5 then[60,33,45,45]++x.t++[45,45,62]else if x.k=6 then[60,63,120,109,108]++x.t++[63,62]else if x.k=3 then[60,47]++x.n++[62]
 else if x.k=1 then EH x.n x.fM [62]else if x.k=2 then EH x.n x.fM [47,62]else if x.k=4 then mA false x.t else[]
structure Qm (x:Ql):Prop where
 n:x.n.length<=1000000
 t:x.t.length<=1000000
 a:∀a∈x.fM,a.1.length<=1000000/\a.2.length<=1000000
 l:x.fM.length<=1000000
theorem HL (n:Bs) (L:List (Bs×Bs)) (e:Bs) (hn:n.length<=1000000) (he:e.length<=10) (hA:∀a∈L,a.1.length<=1000000/\a.2.length<=1000000) (hl:L.length<=1000000):(EH n L e).length<=8000000000000:=by
 have:=qL L hA;simp only[EH,yP,Kn,Km];omega
theorem L_ (x:Ql) (h:Qm x):(yD x).length<=8000000000000:=by
 have h1:=h.n;have h2:=h.t;have h3:=HL x.n x.fM [62] h.n (by simp) h.a h.l;have h4:=HL x.n x.fM [47,62] h.n (by simp) h.a h.l;have h5:=nL false x.t;unfold yD;repeat' split
 all_goals first | omega | (simp only[yP,Kn,Km];omega)
theorem VT {O:VH} (x:Ql) (tk:Tok) (h:Qm x):VF Tryz.prog 67 [.sl 1 (EG x) tk] O (aE fun m O'=>m= .str (yD x)/\O.Ge O'):=by
 have dL:=L_ x h;have hn:=h.n;have ht:=h.t;have VU:∀l:Bs,l.length<=3000000->l.length<=140737488355328:=fun l h=>by omega
 have bw:(EG x++[]).length=7:=rfl;obtain⟨k,n,L,t,off,line,EF⟩:=x;dsimp only at hn ht;refine VF.bN 51 [.tmp 2] Tryz.func67 ?_;simp only[EG];refine VC.ag aa (ae @dE ?_);refine VC.ag aa (ae @dE ?_);have r4:=fX.fresh O (XN O.next);have kh:O.Ge ((O.push (.cells [.v (.pointer none),.sl 0 [] .nil])).push (.shape O.next 145 2)):=((VH.Ge.refl O).push _).push _;generalize ((O.push (.cells [.v (.pointer none),.sl 0 [] .nil])).push (.shape O.next 145 2))=O1 at*;refine VC.bC [3] (fun q:Option Nat=>[.ptr O.next 0]) (fun q O'=>O.Ge O'/\fX O' O.next O.next q (yD ⟨k,n,L,t,off,line,EF⟩)) ?_ ?_;rotate_left
 ·rintro q O2 ⟨ay,ct⟩;refine WC.sound aa (ae @dE ?_);refine ah.rt (pO ct (by simp only[maxLen];omega)) ?_;rintro _ O3 ⟨rfl,cP⟩;refine ae @dE ?_;exact ay.SF cP ct.xG
 refine VC.ag aa (ae @dE ?_);refine VC.az ?_;refine VC.bG [8] [3,6,7] (fun x:Bool×Option Nat=>[mi (if x.1 then 1 else 0)]) (fun x O'=>O.Ge O'/\fX O' O.next O.next x.2 (if x.1 then yD ⟨k,n,L,t,off,line,EF⟩else[])) (fun x=>if x.1 then 0 else 1) ((false,none)) ?_ ?_
 ·exact⟨kh,r4⟩
 rintro⟨j,q⟩ O2 ⟨ay,ct⟩;dsimp only at ct ⊢;cases j;rotate_left
 ·rw[if_pos rfl]at ct ⊢;refine WC.sound aa (ae @dE ?_);exact aA.mk q ⟨ay,ct⟩
 rw[if_neg (by decide)]at ct ⊢;refine VC.ag aa (ae @dE ?_);refine VC.ag aa (ae @dE ?_);refine VC.bB (VC.az ?_);refine VC.ag aa (ae @dE ?_);refine VC.al ?_;rintro O3 ⟨aG,hk,gm⟩;have cg:=ct.ge aG;have fin:∀(l:Bs) (q':Option Nat) (O4:VH),yD ⟨k,n,L,t,off,line,EF⟩=l->fX O4 O.next O.next q' ([]++l)->fm O3 O.next q O4 q'->O.Ge O4/\fX O4 O.next O.next q' (yD ⟨k,n,L,t,off,line,EF⟩):=fun l q' O4 e h k=>⟨k.ge (ay.trans aG) (XN _) cg.xG,by rw[e];exact h⟩
 by_cases h5:k=5
 ·subst h5;refine WC.sound aa (ao @dE @hk ?_);refine ah.rt (bQ ([60,33,45,45]++t++[45,45,62]) cg (by simp only[yP,Kn,Km];omega)) ?_;rintro _ O4 ⟨rfl,q',cU,fq⟩;refine ae @dE ?_;refine WC.sound aa (ae @dE ?_);exact ax.next (true,q') (fin _ _ _ rfl cU fq) (hm:=ah6)
 by_cases h6:k=6
 ·subst h6;refine WC.sound aa (ao @dE @hk ?_);refine ah.rt (bQ ([60,63,120,109,108]++t++[63,62]) cg (by simp only[yP,Kn,Km];omega)) ?_;rintro _ O4 ⟨rfl,q',cU,fq⟩;refine ae @dE ?_;refine WC.sound aa (ae @dE ?_);exact ax.next (true,q') (fin _ _ _ rfl cU fq) (hm:=ah6)
 by_cases h3:k=3
 ·subst h3;refine WC.sound aa (ao @dE @hk ?_);refine ah.rt (bQ ([60,47]++n++[62]) cg (by simp only[yP,Kn,Km];omega)) ?_;rintro _ O4 ⟨rfl,q',cU,fq⟩;refine ae @dE ?_;refine WC.sound aa (ae @dE ?_);exact ax.next (true,q') (fin _ _ _ rfl cU fq) (hm:=ah6)
 by_cases h1:k=1
 ·subst h1;refine WC.sound aa (ao @dE @hk ?_);refine ah.rt (Z3 ⟨1,n,L,t,off,line,EF⟩ [62] cg (by simp) hn (by simp) h.a h.l) ?_;rintro _ O4 ⟨q',cU,fq⟩;refine ae @dE ?_;refine WC.sound aa (ae @dE ?_);exact ax.next (true,q') (fin _ _ _ rfl cU fq) (hm:=ah6)
 by_cases h2:k=2
 ·subst h2;refine WC.sound aa (ao @dE @hk ?_);refine ah.rt (Z3 ⟨2,n,L,t,off,line,EF⟩ [47,62] cg (by simp) hn (by simp) h.a h.l) ?_;rintro _ O4 ⟨q',cU,fq⟩;refine ae @dE ?_;refine WC.sound aa (ae @dE ?_);exact ax.next (true,q') (fin _ _ _ rfl cU fq) (hm:=ah6)
 by_cases h4:k=4
 ·subst h4;have Gp:=nL false t;refine WC.sound aa (ao @dE @hk ?_);refine ah.rt (Bu t false _ ht) ?_;rintro _ O4 ⟨rfl,aY⟩;refine ae @dE ?_;refine ah.rt (bQ (mA false t) (cg.ge aY) (by simp only[Km];omega)) ?_;rintro _ O5 ⟨rfl,q',cZ,oa⟩;refine ae @dE ?_;refine WC.sound aa (ae @dE ?_);exact ax.next (true,q') (fin _ _ _ rfl cZ ((fm.lR aY).trans oa)) (hm:=ah6)
 ·have fG:yD ⟨k,n,L,t,off,line,EF⟩=[]:=by simp[yD,h1,h2,h3,h4,h5,h6]
  refine WC.sound aa (ao @dE @hk ?_);refine WC.sound aa (ae @dE ?_);exact ax.next (true,q) (fin _ _ _ fG (by simpa using cg) (fm.lR (VH.Ge.refl _))) (hm:=ah6)
theorem ai1:eL Tryz.t146.desc=false:=by kernel_rfl
set_option linter.defProp false in
def eM:=RZ dE<|RZ ait ai1
mutual
def ef:Nd->Nat
 | .mk _ _ k _=>1+bX k
def bX:List Nd->Nat
 | []=>0
 | x::r=>ef x+bX r
end
theorem EJ (n:Bs) (a:List (Bs×Bs)) (k:List Nd) (t:Bs):ef (.mk n a k t)=1+bX k:=by rw[ef]
mutual
def An:Nd->Prop
 | .mk n a k t=>n.length<=1000000/\t.length<=1000000/\(∀x∈a,x.1.length<=1000000/\x.2.length<=1000000)/\a.length<=1000000/\k.length<=1000000/\sW k
def sW:List Nd->Prop
 | []=>True
 | x::r=>An x/\sW r
end
mutual
def cu:Nd->Bs
 | .mk n a k t=>if n=[]then mA false t else yD ⟨if k.length=0 then 2 else 1,n,a,[],0,0,0⟩++aT k++(if k.length=0 then[]else[60,47]++n++[62])
def aT:List Nd->Bs
 | []=>[]
 | x::r=>cu x++aT r
end
theorem Ao:∀{k:List Nd} {x:Nd},x∈k->ef x<=bX k
 | y::r,x,h=>by
   rw[bX];rcases alI.1 h with rfl | h
   ·omega
   ·have:=Ao h;omega
theorem EK:∀{k:List Nd} {x:Nd},sW k->x∈k->An x
 | y::r,x,h,hx=>by
   rw[sW]at h;rcases alI.1 hx with rfl | hx
   ·exact h.1
   ·exact EK h.2 hx
theorem tW (L M:List Nd):aT (L++M)=aT L++aT M:=by
 induction L with
 | nil=>rw[XO,aT,XO]
 | cons x L ih=>rw[acv,aT,aT,ih,ahY]
theorem pU (L:List Nd):aC L=L.flatMap dh:=by
 induction L with
 | nil=>rw[aC];rfl
 | cons x L ih=>rw[aC,ih,agt]
theorem Z4:∀(N:Nat) (x:Nd) (O:VH) (B b lk:Nat) (q:Option Nat) (s:Bs),ef x<=N->fX O B b q s->O.hp lk=some (.cells [.func (.func 64) [] [.ptr b 0,.ptr lk 0]])->lk<O.next->lk≠b->q≠some lk->s.length+(cu x).length<=10000000000000->An x->
  VF Tryz.prog 64 [.agg (dh x),.ptr b 0,.ptr lk 0] O (aE fun m O'=>∃q',fX O' B b q' (s++cu x)/\fm O b q O' q')
 | 0,.mk n a k t=>fun O B b lk q s h=>by rw[EJ]at h;omega
 | N+1,.mk n a k t=>fun O B b lk q s hN h ey xe Bv oc hs cK=>by
   rw[EJ]at hN;rw[An]at cK;obtain⟨hn,ht,hA,hAl,kj,Gs⟩:=cK;rw[cu]at hs ⊢;rw[dh];refine VF.bN 48 [] Tryz.func64 ?_;refine VC.ag aa (ae @eM ?_);refine VC.bx ?_;rintro O1 ⟨aM,hk,cW⟩;have cA:=h.ge aM;have ak1:=(aM.hp _ xe).trans ey;cases n with
   | nil=>
     rw[if_pos rfl]at hs ⊢;refine VC.ag aa (aJ @eM @hk (show(([]:List UInt8)==[])=true from rfl) ?_);refine ah.rt (Bu t false _ ht) ?_;rintro _ O2 ⟨rfl,ay⟩;have Gp:=nL false t;refine ae @eM ?_;refine ah.rt (bQ (mA false t) (cA.ge ay) (by omega)) ?_;rintro _ O3 ⟨rfl,q',cg,cP⟩;refine ae @eM ?_;exact⟨q',cg,(fm.lR (aM.trans ay)).trans cP⟩
   | cons c n=>
     rw[if_neg (by simp)]at hs ⊢;have hnb:((c::n)==[])=false:=rfl;generalize EL:c::n=nm at*;have uw:Qm ⟨if k.length=0 then 2 else 1,nm,a,[],0,0,0⟩:=⟨hn,by simp,hA,hAl⟩;refine VC.ag aa (aJ @eM @hk @hnb ?_);refine VC.ag aa (aJ @eM @hk @hnb ?_);refine VC.al ?_;rintro O2 ⟨ay,hkt,iq⟩;have bJ:=(ay.hp O.next (by omega)).trans hk;refine VC.bC [1,2,3,4] (fun _:Unit=>[.ptr b 0,.ptr lk 0,.ptr O.next 0,.ptr O1.next 0]) (fun _ O'=>O.Ge O'/\O'.next=O2.next/\O'.hp O.next=some (.cells (dh (.mk nm a k t)))/\O'.hp O1.next=some (.cells (EG ⟨if k.length=0 then 2 else 1,nm,a,[],0,0,0⟩))) ?_ ?_
     ·have jn:=aM.trans ay;by_cases h0:k.length=0
      ·refine VC.ag aa (ao @eM @bJ ?_);refine WC.sound aa (ao @eM @h0 ?_);exact aA.mk () ⟨jn,rfl,by rw[bJ,dh],by rw[hkt];rfl⟩
      ·have h1:0<k.length:=by omega
       refine VC.ag aa (ao @eM @bJ ?_);refine WC.sound aa (ao @eM @hkt ?_);refine aA.mk () ⟨jn.set (by omega) _,rfl,?_,?_⟩
       ·rw[VH.ak _ _ (by omega),bJ,dh]
       ·rw[VH.an,if_neg h0];rfl
     rintro⟨⟩ O3 ⟨aG,gm,dz,afg⟩;have cg:=h.ge aG;simp only[dh]at dz;generalize hX:(⟨if k.length=0 then 2 else 1,nm,a,[],0,0,0⟩:Ql)=X at*;have ug:=L_ X uw;simp only[yP]at hs;have hXc:EG X=[mi X.k,.str X.n,.sl X.fM.length (X.fM.flatMap bh) .ar,.str X.t,mi X.off,mi X.line,mi X.EF]:=rfl;rw[hXc,aq,aq,aq,aq]at afg;refine VC.ag aa (ao @eM @afg ?_);refine ah.rt (VT X .full uw) ?_;rintro _ O4 ⟨rfl,aY⟩;refine ae @eM ?_;refine ah.rt (bQ (yD X) (cg.ge aY) (by omega)) ?_;rintro _ O5 ⟨rfl,q5,cZ,oa⟩;have SG:fm O b q O5 q5:=(fm.lR (aG.trans aY)).trans oa;have gq:=(oa.hp O.next (by have:=aY.next;omega) (by have:=h.hi;omega) (h.SE _ (XN _))).trans (aY.at dz);refine ae @eM ?_;have EM:q5≠some O.next:=oa.new O.next (by have:=aY.next;omega) (h.SE _ (XN _));have fS:O.next<O5.next:=by have:=oa.next;have:=aY.next;omega
     refine VC.bC [1,2,3] (fun q':Option Nat=>[.ptr b 0,.ptr lk 0,.ptr O.next 0]) (fun q' O'=>fm O5 b q5 O' q'/\fX O' B b q' (s++yD X++aT k)) ?_ ?_
     ·refine VC.ag aa (ao @eM @gq ?_);refine VC.az ?_;refine VC.bG [31] [1,2,3,29,30] (fun x:Nat×Option Nat=>[mi x.1]) (fun x O'=>fm O5 b q5 O' x.2/\fX O' B b x.2 (s++yD X++aT (k.take x.1))/\x.1<=k.length) (fun x=>k.length - x.1) ((0,q5)) ?_ ?_
      ·exact⟨fm.lR (VH.Ge.refl _),by simpa[aT]using cZ,acw _⟩
      rintro⟨j,qj⟩ O6 ⟨rk,jb,hj⟩;dsimp only at rk jb hj ⊢;by_cases aX:j<k.length;rotate_left
      ·obtain rfl:j=k.length:=by omega
       rw[ags]at jb;refine WC.sound aa (ae @eM ?_);exact aA.mk qj ⟨rk,jb⟩
      have bw:=bU lT k j aX;rw[<-pU]at bw;have SH:=c7 k;have jm:aT (k.take (j+1))=aT (k.take j)++cu k[j]:=by rw[c6 _ _ aX,tW,aT,aT,acs]
      have jC:(aT k).length=(aT (k.take j)).length+(cu k[j]).length+(aT (k.drop (j+1))).length:=by
       rw[<-yP, <-jm, <-yP, <-tW,List.take_append_drop]
      have oB:ef k[j]<=N:=by have:=Ao (agw aX);omega
      have EN:=EK Gs (agw aX);generalize k[j]=y at*;have yf:=SG.trans rk;have ai2:=(yf.hp lk xe Bv oc).trans ey;have ai3:=yf.new lk xe oc;have ih:=fun OO h1 h2 h3=>Z4 N y OO B b lk qj (s++yD X++aT (k.take j)) oB h1 h2 h3 Bv ai3 (by simp only[yP];omega) EN
      generalize aT (k.take j)=T at*;cases y with
      | mk yn ya yk yt=>
        simp only[dh]at bw ih;refine VC.ag aa (ae @eM ?_);refine VC.ag aa (ae @eM ?_);refine VC.bB (VC.az ?_);refine VC.ag aa (ao @eM @bw ?_);refine VC.al ?_;rintro O7 ⟨fC,mO,uh⟩;have afh:=(fC.hp lk (by have:=yf.next;omega)).trans ai2;refine WC.sound aa (aJ @eM @mO @afh ?_);refine ah.rt (ih O7 (jb.ge fC) afh (by have:=yf.next;omega)) ?_;rintro _ O8 ⟨q8,sS,qz⟩;refine ae @eM ?_;refine WC.sound aa (ae @eM ?_);exact ax.next (j+1,q8) ⟨(rk.trans (fm.lR fC)).trans qz,by rw[jm, <-ahY];exact sS,aX⟩
     rintro q6 O6 ⟨rk,jb⟩;have nM:=(rk.hp O.next fS (by have:=h.hi;omega) EM).trans gq;have Ma:=SG.trans rk;by_cases h0:k.length=0
     ·rw[if_pos h0];refine WC.sound aa (ao @eM @nM ?_);exact⟨q6,by simpa[ahY]using jb,Ma⟩
     ·rw[if_neg h0]at hs ⊢;simp only[yP,Kn,Km]at hs;refine WC.sound aa (ao @eM @nM ?_);refine ah.rt (bQ ([60,47]++nm++[62]) jb (by simp only[yP,Kn,Km];omega)) ?_;rintro _ O7 ⟨rfl,q7,yE,CW⟩;refine ae @eM ?_;exact⟨q7,by simpa[ahY]using yE,Ma.trans CW⟩
theorem VV (x:Nd) (O:VH) (hs:(cu x).length<=10000000000000) (cK:An x):VF Tryz.prog 48 [.agg (dh x)] O (aE fun m O'=>m= .str (cu x)/\O.Ge O'):=by
 have lay:=Z4 (ef x) x;generalize cu x=T at*;cases x with
 | mk n a k t=>
   simp only[dh]at lay ⊢;refine VF.bN 10 [.tmp 2] Tryz.func48 ?_;refine VC.ag aa (ae @eM ?_);refine VC.bx ?_;rintro O1 ⟨aM,hk,cW⟩;refine VC.ag aa (ae @eM ?_);have r4:=fX.fresh O1 (XN O1.next);have kh:O1.Ge ((O1.push (.cells [.v (.pointer none),.sl 0 [] .nil])).push (.shape O1.next 145 2)):=((VH.Ge.refl O1).push _).push _;have VW:=r4.hi;generalize ((O1.push (.cells [.v (.pointer none),.sl 0 [] .nil])).push (.shape O1.next 145 2))=O2 at*;refine VC.ag aa (ae @eM ?_);refine VC.ag aa (ae @eM ?_);refine VC.al ?_;rintro O3 ⟨aG,dz,gm⟩;have dY:=(aG.hp O.next (by have:=kh.next;omega)).trans ((kh.hp O.next (by omega)).trans hk);refine VC.ag aa (aJ @eM @dz @dY ?_);refine ah.rt (lay O3 O1.next O1.next O2.next none [] (XN _) (r4.ge aG) dz (by omega) (by omega) (by simp) (by simpa using hs) cK) ?_;rintro _ O4 ⟨q,cU,fq⟩;rw[XO]at cU;refine ae @eM ?_;refine WC.sound aa (ae @eM ?_);refine ah.rt (pO cU (by simp only[maxLen];omega)) ?_;rintro _ O5 ⟨rfl,oa⟩;refine ae @eM ?_;exact(fq.CU (aM.trans (kh.trans aG)) (by omega)).SF oa (fun i e=>by have:=cU.xG i e;omega)
def Nd.nm:Nd->Bs
 | .mk n _ _ _=>n
def Nd.kids:Nd->List Nd
 | .mk _ _ k _=>k
def Nd.tx:Nd->Bs
 | .mk _ _ _ t=>t
def ku (name:Bs) (y:Nd):Bool:=y.nm != []&&(name==[]||y.nm==name)
def cE (x:Nd) (name:Bs):List Nd:=x.kids.filter (ku name)
theorem Dl (x:Nd) (name:Bs) (O:VH) (hk:x.kids.length<=1000000):VF Tryz.prog 271 [.agg (dh x),.str name] O (aE fun m O'=>∃tk,m= .sl (cE x name).length (aC (cE x name)) tk/\O.Ge O'):=by
 obtain⟨n,a,k,t⟩:=x;simp only[Nd.kids]at hk;unfold cE;simp only[Nd.kids,dh];refine VF.bN 33 [.tmp 4] Tryz.func271 ?_;refine VC.ag aa (ae @eM ?_);refine VC.bx ?_;rintro O1 ⟨aM,dY,cW⟩;refine VC.join aa [4] (fun tk:Tok=>[.sl (k.filter (ku name)).length (aC (k.filter (ku name))) tk]) (fun tk O'=>O.Ge O') ?_ ?_;rotate_left
 ·intro tk O9 bo;refine ae @eM ?_;exact⟨tk,rfl,bo⟩
 refine VC.ag aa (ao @eM @dY ?_);refine VC.az ?_;refine VC.bG [4,10] [1,8,9] (fun x:Nat×Tok=>[.sl ((k.take x.1).filter (ku name)).length (aC ((k.take x.1).filter (ku name))) x.2,mi x.1]) (fun x O'=>O.Ge O'/\App O' O.next 4 x.2/\x.1<=k.length) (fun x=>k.length - x.1) ((0,.nil)) ?_ ?_
 ·exact⟨aM,trivial,acw _⟩
 rintro⟨j,tk⟩ O2 ⟨ay,cC,hj⟩;dsimp only at cC hj ⊢;by_cases aX:j<k.length;rotate_left
 ·obtain rfl:j=k.length:=by omega
  rw[ags];refine WC.sound aa (ae @eM ?_);exact aA.mk tk ay
 have bw:=bU lT k j aX;rw[<-pU]at bw;have SH:=c7 k
 have jm:(k.take (j+1)).filter (ku name)=(k.take j).filter (ku name)++if ku name k[j]then[k[j]]else[]:=by
  rw[c6 _ _ aX,List.filter_append]
  congr 1
  cases h:ku name k[j]<;>simp[h]
 have Gr:((k.take j).filter (ku name)).length<=1000000:=TP (ah5 _ _) (by rw[agu];omega);generalize k[j]=y at*;generalize (k.take j).filter (ku name)=E at*;obtain⟨yn,ya,yk,yt⟩:=y;have eW:=Aj (.mk yn ya yk yt);have Z5:=lT (.mk yn ya yk yt);have Z6:aC [.mk yn ya yk yt]=dh (.mk yn ya yk yt):=by rw[aC,aC,acs]
 simp only[dh]at bw eW Z5 Z6;refine VC.ag aa (ae @eM ?_);refine VC.ag aa (ae @eM ?_);refine VC.bB (VC.az ?_);refine VC.ag aa (ao @eM @bw ?_);refine VC.al ?_;rintro O3 ⟨aG,mO,gm⟩;have gV:=cC.ge aG;have HM:=ay.trans aG;have yes:ku name (.mk yn ya yk yt)=true->(k.take (j+1)).filter (ku name)=E++[.mk yn ya yk yt]:=fun h=>by rw[jm,h,if_pos rfl]
 have nay:ku name (.mk yn ya yk yt)=false->(k.take (j+1)).filter (ku name)=E:=fun h=>by rw[jm,h,if_neg (by simp),acs]
 have hik:ku name (.mk yn ya yk yt)=(yn != []&&(name==[]||yn==name)):=rfl;rw[hik]at yes nay;cases h1:yn==[]
 ·cases h2:name==[]
  ·cases h3:yn==name
   ·have hn:=nay (by simp[bne,h1,h2,h3]);refine WC.sound aa (gQ @eM @mO @h1 @h2 @h3 ?_);refine WC.sound aa (ae @eM ?_);exact ax.next (j+1,tk) ⟨HM,gV,aX⟩ (hl:=(by dsimp only;rw[hn];rfl))
   ·have hn:=yes (by simp[bne,h1,h2,h3]);refine WC.sound aa (gQ @eM @mO @h1 @h2 @h3 ?_);obtain⟨mE,gD,ll⟩:=fZ (n:=E.length) (cs:=aC E) (ds:=[.str yn,.sl ya.length (ya.flatMap bh) .ar,.sl yk.length (aC yk) .ar,.str yt]) n7 tS.1.1 gV (c7 E) rfl rfl (by decide) (by omega) (by simp only[maxLen];omega) (eY E) eW;refine VL.lC gD ll ?_;refine ae @eM ?_;refine WC.sound aa (ae @eM ?_);exact ax.next (j+1,.own O3.next 4) ⟨cL.ei HM gV (cL.after gV),App.after HM.next,aX⟩ (hl:=(by dsimp only;rw[hn,ee,yP,Z6];rfl))
  ·have hn:=yes (by simp[bne,h1,h2]);refine WC.sound aa (c_ @eM @mO @h1 @h2 ?_);obtain⟨mE,gD,ll⟩:=fZ (n:=E.length) (cs:=aC E) (ds:=[.str yn,.sl ya.length (ya.flatMap bh) .ar,.sl yk.length (aC yk) .ar,.str yt]) n7 tS.1.1 gV (c7 E) rfl rfl (by decide) (by omega) (by simp only[maxLen];omega) (eY E) eW;refine VL.lC gD ll ?_;refine ae @eM ?_;refine WC.sound aa (ae @eM ?_);exact ax.next (j+1,.own O3.next 4) ⟨cL.ei HM gV (cL.after gV),App.after HM.next,aX⟩ (hl:=(by dsimp only;rw[hn,ee,yP,Z6];rfl))
 ·have hn:=nay (by simp[bne,h1]);refine WC.sound aa (aJ @eM @mO @h1 ?_);refine WC.sound aa (ae @eM ?_);exact ax.next (j+1,tk) ⟨HM,gV,aX⟩ (hl:=(by dsimp only;rw[hn];rfl))
def iT (k:List Nd):Bs:=k.flatMap fun y=>bif y.nm==[]then y.tx else[]
def sX (x:Nd):Bs:=trimB (iT x.kids)
theorem Mb {k:List Nd} {j:Nat} (h:j<k.length):iT (k.take (j+1))=iT (k.take j)++bif k[j].nm==[]then k[j].tx else[]:=by
 unfold iT;rw[c6 _ _ h,ahX,agt,ah1,acs]
theorem HN {k:List Nd}:∀j,(iT (k.take j)).length<=(iT k).length:=fun j=>by
 have:iT k=iT (k.take j)++iT (k.drop j):=by unfold iT;rw[<-ahX,List.take_append_drop]
 rw[this,yP];omega
theorem Z7 (x:Nd) (O:VH) (hk:x.kids.length<=1000000) (ht:(iT x.kids).length<=1000000000):VF Tryz.prog 296 [.agg (dh x)] O (aE fun m O'=>m= .str (sX x)/\O.Ge O'):=by
 obtain⟨n,a,k,t⟩:=x;simp only[Nd.kids]at hk ht;unfold sX;simp only[Nd.kids,dh];refine VF.bN 23 [.tmp 2] Tryz.func296 ?_;refine VC.ag aa (ae @eM ?_);refine VC.bx ?_;rintro O1 ⟨aM,dY,cW⟩;refine VC.ag aa (ae @eM ?_);refine VC.join aa [3] (fun _:Unit=>[.str (iT k)]) (fun _ O'=>O.Ge O') ?_ ?_;rotate_left
 ·intro _ O9 bo;refine ae @eM ?_;refine ah.rt (Jf (iT k) _ (TP ht (by decide))) ?_;rintro _ O8 ⟨rfl,rfl⟩;refine ae @eM ?_;exact bo
 refine VC.ag aa (ao @eM @dY ?_);refine VC.az ?_;refine VC.bG [3,9] [7,8] (fun j:Nat=>[.str (iT (k.take j)),mi j]) (fun j O'=>O.Ge O'/\j<=k.length) (fun j=>k.length - j) (0) ?_ ?_
 ·exact⟨aM,acw _⟩
 rintro j O2 ⟨ay,hj⟩;by_cases aX:j<k.length;rotate_left
 ·obtain rfl:j=k.length:=by omega
  rw[ags];refine WC.sound aa (ae @eM ?_);exact aA.mk () ay
 have bw:=bU lT k j aX;rw[<-pU]at bw;have SH:=c7 k;have jm:=Mb aX;have hle:=HN (k:=k) (j+1);have SI:=HN (k:=k) j;generalize k[j]=y at*;generalize iT (k.take j)=E at*;obtain⟨yn,ya,yk,yt⟩:=y;simp only[dh]at bw;simp only[Nd.nm,Nd.tx]at jm;refine VC.ag aa (ae @eM ?_);refine VC.ag aa (ae @eM ?_);refine VC.bB (VC.az ?_);refine VC.ag aa (ao @eM @bw ?_);refine VC.al ?_;rintro O3 ⟨aG,mO,gm⟩;cases h1:yn==[]
 ·rw[h1,cond_false,acs]at jm;refine WC.sound aa (aJ @eM @mO @h1 ?_);refine WC.sound aa (ae @eM ?_);exact ax.next (j+1) ⟨ay.trans aG,aX⟩ (hl:=(by rw[jm];rfl))
 ·rw[h1,cond_true]at jm;rw[jm,yP]at hle;refine WC.sound aa (aJ @eM @mO @h1 ?_);refine WC.sound aa (ae @eM ?_);exact ax.next (j+1) ⟨ay.trans aG,aX⟩ (hl:=(by rw[jm];rfl))
set_option linter.defProp false in
def bz:=RZ eM<|RZ afc<|RZ ZS<|RZ ZT T65
def sY (e:Int) (w:Bs):MV:=.iface 371 (.agg [mi e,.str w])
theorem ai4 {p:MV}:I5 371 (eh Tryz.prog 371) (some p)=some (.iface 371 p):=by rw[afc.1.1];rfl
theorem lU (e:Int) (w:Bs) (O:VH):VF Tryz.prog 248 [mi e,.str w] O fun r O'=>O'=O/\match r with
  | .ret _=>False
  | .panic m=>m=sY e w:=by
 refine VF.dy 8 [] Tryz.func248 ?_;refine c_ @bz @wi @wd @ai4 ?_;refine VL.panic rfl rfl rfl ?_;refine ae @wd ?_;rfl
theorem adK (s:Bs) (O:VH):VF Tryz.prog 251 [.str s] O (aE fun m O'=>m=mb true/\O.Ge O'):=by
 refine VF.dy 3 [.tmp 2] Tryz.func251 ?_;refine ae @bz ?_;exact VH.Ge.refl _
def mC (s:Bs):Bool:=s==ki||s==lh
theorem Qn (s:Bs) (O:VH):VF Tryz.prog 300 [.str s] O (aE fun m O'=>m=mb (mC s)/\O.Ge O'):=by
 unfold mC;refine VF.dy 9 [.tmp 2] Tryz.func300 ?_;cases h1:s==ki<;>cases h2:s==lh
 all_goals
  simp only[ki,lh]at h1 h2;refine aJ @bz @h1 @h2 ?_;exact VH.Ge.refl _
theorem VZ (s:Bs) (O:VH) (hs:s.length<=maxLen):VF Tryz.prog 301 [.str s] O (aE fun m O'=>m=mb (Ai ⟨s,s⟩)/\O.Ge O'):=by
 refine VF.dy 7 [.tmp 2] Tryz.func301 ?_;refine ae @bz ?_;refine ah.rt (Gq ⟨s,s⟩ _ hs hs) ?_;rintro _ O2 ⟨rfl,hg⟩;refine ae @bz ?_;exact hg
def Mc (n:Nat):Bs:=[UInt8.ofNat (48+n % 10)]
def Ct:Nat->Nat->Bs
 | 0,_=>[]
 | k+1,n=>if n=0 then[]else Ct k (n / 10)++Mc n
def lF (n:Nat):Bs:=Ct (n+1) n
theorem yF:∀(k n:Nat),n<k->Ct k n=Ct (n+1) n
 | 0,n,h=>by omega
 | k+1,n,h=>by
   rw[Ct,Ct];split
   ·rfl
   ·rw[yF k (n / 10) (by omega),yF n (n / 10) (by omega)]
theorem Bw {n:Nat} (h:0<n):lF n=lF (n / 10)++Mc n:=by
 unfold lF;rw[Ct,if_neg (by omega),yF n (n / 10) (by omega)]
theorem r6 (n:Nat):(lF n).length<=n:=by
 induction n using Nat.strongRecOn with
 | _ n ih=>
   rcases alK n with rfl | h
   ·simp[lF,Ct]
   ·rw[Bw h,yP];have:=ih (n / 10) (by omega);simp only[Mc,Kn,Km];omega
theorem Me (d:Nat) (h:d<10):(([48,49,50,51,52,53,54,55,56,57]:Bs).drop d).take (d+1 - d)=[UInt8.ofNat (48+d)]:=by
 rw[show d+1 - d=1 by omega];rcases(show d=0\/d=1\/d=2\/d=3\/d=4\/d=5\/d=6\/d=7\/d=8\/d=9 by omega)with rfl | rfl | rfl | rfl | rfl | rfl | rfl | rfl | rfl | rfl<;>rfl
theorem EO (n:Nat) (O:VH) (hn:n<=1000000000):VF Tryz.prog 297 [mi n] O (aE fun m O'=>m= .str (lF n)/\O'=O):=by
 have yG:=r6 n;refine VF.dy 17 [.tmp 2] Tryz.func297 ?_;refine ae @bz ?_;refine WC.iS [0,3] [] (fun x:Nat×Bs=>[mi x.1,.str x.2]) (fun x O'=>O'=O/\lF n=lF x.1++x.2/\x.1<=n) (fun x=>x.1) ((n,[])) ?_ ?_
 ·exact⟨rfl,by simp,XN _⟩
 rintro⟨k,s⟩ O2 ⟨eO,hk,yj⟩;dsimp only at hk yj ⊢;rw[eO];clear eO O2
 rcases alK k with rfl | hp
 ·have h0:lF 0=[]:=rfl;rw[h0,XO]at hk;refine ae @bz ?_;exact congrArg MV.str hk.symm
 ·have hd:=Me (k % 10) (by omega);have hl:(lF n).length=(lF k).length+s.length:=by rw[hk,yP]
  have hr:(k:Int).tmod 10=((k % 10:Nat):Int):=by rw[Int.tmod_eq_emod_of_nonneg (by omega)];rfl
  have hq:(k:Int).tdiv 10=((k / 10:Nat):Int):=by rw[Int.tdiv_eq_ediv_of_nonneg (by omega)];rfl
  refine c_ @bz @hr @hq @hd ?_;refine ax.next (k / 10,Mc k++s) ⟨rfl,?_,by dsimp only;omega⟩;rw[hk,Bw hp,ahY]
theorem adL {e:Int} {w:Bs}:ar (sY e w)=sY e w:=by simp only[sY,wu,aq]
def kI (x:Nd) (w:Bs):List MV:=dh x++[.str w]
def Qo:Nd:=.mk [] [] [] []
def cw (x:Nd) (w name:Bs):Except (Int×Bs) ((Nd×Bs)×Bool):=
 match cE x name with
 | []=>.ok ((Qo,w++[47]++name),false)
 | [y]=>.ok ((y,w++[47]++name),true)
 | _=>.error (20,w++[47]++name++[91,50,93])
def FQ {α :Type} (O:VH) (f:Except (Int×Bs) α) (R: α ->MV->Prop):fU->VH->Prop:=fun r O'=>O.Ge O'/\match r,f with
 | .ret m,.ok x=>R x m
 | .panic m,.error e=>m=sY e.1 e.2
 | _,_=>False
theorem r7 (x:Nd) (w name:Bs) (O:VH) (hk:x.kids.length<=1000000) (hw:w.length<=1000000) (hn:name.length<=1000000):VF Tryz.prog 249 [.agg (kI x w),.str name] O (FQ O (cw x w name) fun y m=>m= .tuple [.agg (kI y.1.1 y.1.2),mb y.2]):=by
 refine VF.fgR ?_;have pW:=Dl x name;have kj:(cE x name).length<=1000000:=TP (ah5 _ _) hk
 have Qp:cw x w name=match cE x name with
  | []=>.ok ((Qo,w++[47]++name),false)
  | [y]=>.ok ((y,w++[47]++name),true)
  | _=>.error (20,w++[47]++name++[91,50,93]):=rfl
 generalize cw x w name=F at*;generalize cE x name=K at*;obtain⟨n,a,k,t⟩:=x;simp only[kI,dh,acv,XO]at pW ⊢;refine VF.bN 34 [.cell 4 373,.tmp 5] Tryz.func249 ?_;refine VC.ag aa (ae @bz ?_);refine VC.bx ?_;rintro O1 ⟨aM,CL,cW⟩;have ez:O1.hp O.next=some (.cells [.str n,.sl a.length (a.flatMap bh) .ar,.sl k.length (aC k) .ar,.str t,.str w]):=(aM.hp _ (ah0 _)).trans (VH.aW _ _)
 replace CL:O1.hp (O.next+1)=some (.cells [.str [],.sl 0 [] .nil,.sl 0 [] .nil,.str [],.str []]):=CL
 have ai5:O.Ge O1:=((VH.Ge.refl O).push _).trans aM
 replace cW:O1.next=O.next+2:=cW
 clear aM;refine VC.ag aa (ao @bz @ez ?_);refine ah.rt (pW O1 hk) ?_;rintro _ O2 ⟨tk,rfl,ay⟩;have jc:=ay.at ez;have sG:=ay.at CL;have gN:=ai5.trans ay;refine ae @bz ?_;refine VC.ag aa (ao @bz @jc ?_)
 match K,Qp with
 | [],Qp=>
   subst Qp;refine WC.sound aa (aJ @bz @sG @Km.{0} ?_);refine⟨gN.set (by omega) _,?_⟩;simp only[kI,Qo,dh,wu,a_];rfl
 | [.mk yn ya yk yt],Qp=>
   subst Qp;have eW:=Aj (.mk yn ya yk yt);simp only[dh]at eW;have cQ:aC [.mk yn ya yk yt]=[.str yn,.sl ya.length (ya.flatMap bh) .ar,.sl yk.length (aC yk) .ar,.str yt]:=by rw[aC,aC,acs,dh]
   rw[cQ];refine WC.sound aa (c_ @bz @sG @Kn.{0} @Km.{0} ?_);refine⟨gN.set (by omega) _,?_⟩;show _=_;rw[dh,f_,eY];rfl
 | y::z::r,Qp=>
   subst Qp;simp only[Kn]at kj;refine WC.sound aa (ao @bz @Kn.{0} ?_);refine ah.p (lU _ _ _) ?_ ?_
   ·rintro m O3 ⟨_,h⟩;exact h.elim
   rintro m O3 ⟨rfl,rfl⟩;refine ae @bz ?_;exact⟨gN,adL⟩
def pX (x:Nd) (w:Bs) (empty:Bool):Except (Int×Bs) Bs:=
 if 0<(cE x []).length\/1024<(sX x).length\/(sX x=[]/\empty=false)then .error (20,w)else .ok (sX x)
theorem Mf (x:Nd) (w:Bs) (empty:Bool) (O:VH) (hk:x.kids.length<=1000000) (ht:(iT x.kids).length<=1000000000):VF Tryz.prog 272 [.agg (kI x w),mb empty] O (FQ O (pX x w empty) fun y m=>m= .str y):=by
 have pW:=Dl x [];have Z8:=Z7 x;have kj:(cE x []).length<=1000000:=TP (ah5 _ _) hk;have OW:(sX x).length<=1000000000:=TP (Qh _) ht;unfold pX;generalize cE x []=K at*;generalize sX x=T at*;obtain⟨n,a,k,t⟩:=x;simp only[kI,dh,acv,XO]at pW Z8 ⊢;refine VF.bN 31 [.tmp 4] Tryz.func272 ?_;refine VC.ag aa (ae @bz ?_);refine VC.bx ?_;rintro O1 ⟨aM,ez,cW⟩;refine VC.ag aa (ao @bz @ez ?_);refine ah.rt (Z8 O1 hk ht) ?_;rintro _ O2 ⟨rfl,ay⟩;have jc:=ay.at ez;have iq:=ay.next;refine ae @bz ?_;refine VC.ag aa (ao @bz @jc ?_);refine ah.rt (pW O2 hk) ?_;rintro _ O3 ⟨tk,rfl,aG⟩;have lq:=aG.at jc;have eP:=(aM.trans ay).trans aG;by_cases h1:0<K.length
 ·rw[if_pos (.inl h1)];refine ao @bz @lq ?_;refine ah.p (lU _ _ _) ?_ ?_
  ·rintro m O4 ⟨_,h⟩;exact h.elim
  rintro m O4 ⟨rfl,rfl⟩;refine ae @bz ?_;exact⟨eP,rfl⟩
 by_cases h2:1024<T.length
 ·rw[if_pos (.inr (.inl h2))];refine ao @bz @lq ?_;refine ah.p (lU _ _ _) ?_ ?_
  ·rintro m O4 ⟨_,h⟩;exact h.elim
  rintro m O4 ⟨rfl,rfl⟩;refine ae @bz ?_;exact⟨eP,rfl⟩
 cases T with
 | nil=>
   cases empty
   ·rw[if_pos (.inr (.inr ⟨rfl,rfl⟩))];refine c_ @bz @lq (show(([]:List UInt8)==[])=true from rfl) @Km.{0} ?_;refine ah.p (lU _ _ _) ?_ ?_
    ·rintro m O4 ⟨_,h⟩;exact h.elim
    rintro m O4 ⟨rfl,rfl⟩;refine ae @bz ?_;exact⟨eP,rfl⟩
   ·rw[if_neg (fun h=>by rcases h with h | h | ⟨_,h⟩;exact h1 h;exact h2 h;cases h)];refine c_ @bz @lq (show(([]:List UInt8)==[])=true from rfl) @Km.{0} ?_;refine WC.sound aa (ae @bz ?_);exact⟨eP,rfl⟩
 | cons c T=>
   rw[if_neg (fun h=>by rcases h with h | h | ⟨h,_⟩;exact h1 h;exact h2 h;cases h)];refine aJ @bz @lq (show((c::T)==[])=false from rfl) ?_;refine WC.sound aa (ae @bz ?_);exact⟨eP,rfl⟩
def jo:List (Bs×Bs)->Nat
 | []=>0
 | x::r=>1+x.1.length+x.2.length+jo r
mutual
def kJ:Nd->Nat
 | .mk n a k t=>1+n.length+t.length+jo a+j4 k
def j4:List Nd->Nat
 | []=>0
 | x::r=>kJ x+j4 r
end
theorem Ap (n:Bs) (a:List (Bs×Bs)) (k:List Nd) (t:Bs):kJ (.mk n a k t)=1+n.length+t.length+jo a+j4 k:=by rw[kJ]
theorem Mg (x:Nd):1<=kJ x:=by cases x;rw[kJ];omega
theorem Bx:∀k:List Nd,k.length<=j4 k
 | []=>by simp
 | x::r=>by rw[j4,Kn];have:=Bx r;have:=Mg x;omega
theorem HO:∀{k:List Nd} {x:Nd},x∈k->kJ x<=j4 k
 | y::r,x,h=>by
   rw[j4];rcases alI.1 h with rfl | h
   ·omega
   ·have:=HO h;omega
theorem wP (x:Nd):j4 x.kids<kJ x:=by cases x;rw[kJ,Nd.kids];omega
theorem j8 (x:Nd):x.kids.length<=kJ x:=TP (Bx _) (alE (wP x))
theorem EP:∀k:List Nd,(iT k).length<=j4 k
 | []=>by simp[iT]
 | x::r=>by
   have ih:=EP r;unfold iT at ih ⊢;rw[agt,yP,j4]
   have:(bif x.nm==[]then x.tx else[]).length<=kJ x:=by
    cases x with
    | mk n a k t=>
      rw[kJ];cases(Nd.mk n a k t).nm==[]
      ·simp
      ·show t.length<=_;omega
   omega
theorem Qq {x y:Nd} {name:Bs} (h:y∈cE x name):kJ y<kJ x:=Nat.lt_of_le_of_lt (HO ((List.mem_filter.1 h).1)) (wP x)
def Jm (r8:Bool) (right:Bs->Bool) (wy:Bs) (b:Bool) (T:Except (Int×Bs) Bs):Except (Int×Bs) Bs:=
 match b,T with
 | false,_=>if r8 then .error (20,wy)else .ok []
 | true,.error e=>.error e
 | true,.ok s=>if right s then .ok s else .error (20,wy)
def bS (x:Nd) (w name:Bs) (r8:Bool) (right:Bs->Bool):Except (Int×Bs) Bs:=
 match cw x w name with
 | .error e=>.error e
 | .ok y=>Jm r8 right y.1.2 y.2 (pX y.1.1 y.1.2 false)
theorem r9 {x:Nd} {w name:Bs} {y:Nd} {wy:Bs} {b:Bool} (h:cw x w name= .ok ((y,wy),b)):kJ y<=kJ x/\wy=w++[47]++name:=by
 unfold cw at h;split at h
 ·injection h with h;injection h with h _;injection h with h1 h2
  subst h1;subst h2
  exact⟨by simp only[Qo,Ap,jo,j4,Km];exact Mg x,rfl⟩
 ·rename_i z hz;injection h with h;injection h with h _;injection h with h1 h2
  subst h1;subst h2
  exact⟨alE (Qq (by rw[hz];simp)),rfl⟩
 ·cases h
theorem Qr {y:Nd} {w:Bs} {e:Bool} {s:Bs} (h:pX y w e= .ok s):s.length<=1024:=by
 unfold pX at h;split at h
 ·cases h
 ·rename_i hn;injection h with h;subst h
  exact Nat.le_of_not_lt fun hh=>hn (.inr (.inl hh))
theorem pY (x:Nd) (w name:Bs) (r8:Bool) (right:Bs->Bool) (id:FuncId) (cs:List MV) (O:VH) (hx:kJ x<=1000000) (hw:w.length<=10000) (hn:name.length<=10000) (hid:cR Tryz.prog id=true)
  (hr:∀s O',O.Ge O'->s.length<=1024->VF Tryz.prog id ([.str s]++cs) O' (aE fun m kx=>m=mb (right s)/\O'.Ge kx)):
  VF Tryz.prog 250 [.agg (kI x w),.str name,mb r8,.func (.func id) [] cs] O (FQ O (bS x w name r8 right) fun y m=>m= .str y):=by
 have ve:=r7 x w name;have kj:=j8 x;have vf:= @r9 x w name;have vg:∀e,cw x w name= .error e->bS x w name r8 right= .error e:=fun e h=>by unfold bS;rw[h]
 have nN:∀y wy b,cw x w name= .ok ((y,wy),b)->bS x w name r8 right=Jm r8 right wy b (pX y wy false):=fun y wy b h=>by unfold bS;rw[h]
 generalize bS x w name r8 right=WE at*;generalize cw x w name=F at*;obtain⟨n,a,k,t⟩:=x;generalize hW:kJ (.mk n a k t)=W at*;simp only[kI,dh,acv,XO]at ve ⊢;refine VF.bN 34 [.tmp 8] Tryz.func250 ?_;refine VC.ag aa (ae @bz ?_);refine VC.bx ?_;rintro O1 ⟨aM,ez,cW⟩;refine VC.ag aa ?_;refine ao @bz @ez ?_;refine ah.p (ve O1 (by omega) (by omega) (by omega)) ?_ ?_;rotate_left
 ·rintro m O2 ⟨ay,h⟩;cases F with
  | ok y=>exact h.elim
  | error e=>
    dsimp only at h;rw[vg e rfl];refine ae @bz ?_;exact⟨aM.trans ay,h⟩
 rintro m O2 ⟨ay,h⟩;cases F with
 | error e=>exact h.elim
 | ok y=>
 obtain⟨⟨y,wy⟩,b⟩:=y;dsimp only at h;subst h;obtain⟨Z9,vh⟩:=vf rfl;rw[nN _ _ _ rfl];clear vg nN;have oJ:wy.length<=30000:=by rw[vh];simp only[yP,Kn,Km];omega
 clear vf vh;have ai6:=j8 y;have uZ:=TP (EP y.kids) (alE (wP y));have Gp:=Mf y wy false;have OW:= @Qr y wy false;generalize pX y wy false=T at*;obtain⟨yn,ya,yk,yt⟩:=y;simp only[kI,dh,acv,XO]at Gp ⊢;refine ae @bz ?_;refine VC.al ?_;rintro O3 ⟨aG,Mh,gm⟩;have eP:=(aM.trans ay).trans aG;cases b
 ·cases r8
  ·refine WC.sound aa (ae @bz ?_);exact⟨eP,rfl⟩
  ·refine WC.sound aa (ao @bz @Mh ?_);refine ah.p (lU _ _ _) ?_ ?_
   ·rintro m O9 ⟨_,h⟩;exact h.elim
   rintro m O9 ⟨rfl,rfl⟩;refine ae @bz ?_;exact⟨eP,rfl⟩
 ·refine WC.sound aa (ao @bz @Mh ?_);refine ah.p (Gp O3 (by omega) (by omega)) ?_ ?_;rotate_left
  ·rintro m O4 ⟨aY,h⟩;cases T with
   | ok s=>exact h.elim
   | error e=>
     dsimp only at h;refine ae @bz ?_;exact⟨eP.trans aY,h⟩
  rintro m O4 ⟨aY,h⟩;cases T with
  | error e=>exact h.elim
  | ok s=>
  dsimp only at h;subst h;have Qs:=aY.at Mh;have ig:=eP.trans aY;have gI:=aY.next;refine ae @bz ?_;refine ah.rt (hr s O4 ig (OW rfl)) ?_ (hb:=hid);rintro _ O5 ⟨rfl,bH⟩;have hy5:=bH.at Qs;unfold Jm;dsimp only;cases right s
  ·refine ao @bz @hy5 ?_;refine ah.p (lU _ _ _) ?_ ?_
   ·rintro m O9 ⟨_,h⟩;exact h.elim
   rintro m O9 ⟨rfl,rfl⟩;refine ae @bz ?_;exact⟨ig.trans bH,rfl⟩
  ·refine ao @bz @hy5 ?_;exact⟨ig.trans bH,rfl⟩
section
variable {G H:Gh} {n:Sz} {D:List Deferred} {e e':Env} {a:Act} {P:Program} {tab:bY} {O O':VH} {w:World} {m m':MV} {u v:Value} {ops:Array Oper} {Q:VQ} {md:Md}
theorem ab.pair {brk:List Nat} {Ψ :Gh->Prop} {J:VH->Prop} {Z:Prop} {fuel i j:Nat} {listed:Array Bool}
  (h1:aK P n D ops i e O Q fun e' O'=>J O'/\ab P n D ops brk J Ψ Z fuel (listed.setIfInBounds i true) e' O' Q) (h2:aK P n D ops j e O Q fun e' O'=>J O'/\ab P n D ops brk J Ψ Z fuel (listed.setIfInBounds j true) e' O' Q) (hr:Region.ready .any ops listed=[i,j]:=by kernel_rfl):ab P n D ops brk J Ψ Z (fuel+1) listed e O Q:=by
 intro hΨ hZ hJ G a w hψ hw aU
 have key:∀x,(aK P n D ops x e O Q fun e' O'=>J O'/\ab P n D ops brk J Ψ Z fuel (listed.setIfInBounds x true) e' O' Q)->wpOp P ops (cz G n D Q) x (fun a' w'=>TE brk G J x w'/\je P .any ops (cz G n D Q) (TE brk G J) fuel (listed.setIfInBounds x true) a' w') a w:=fun x h=>
  wpOp_mono (fun a' w' ⟨e',O',H,h1,h2,h3,h4,h5⟩=>⟨TE.mk ⟨H,O',h1,h2,h4⟩,jH (fun _ _ _=>cz.le h1) _ _ _ _ (fun k _ x hT=>hT.le h1) (h5 hΨ hZ h4 H a' w' (hΨ _ _ h1 hψ) h2 h3)⟩) (h G a w hw aU)
 refine jG hr (by simp) fun x hx=>?_
 simp only[alI,List.not_mem_nil,or_false]at hx;rcases hx with rfl | rfl
 ·exact key _ h1
 ·exact key _ h2
theorem aK.jj {i:Nat} {l:List Oper} {d:Option Tmp} {f:Operand} {xs:Array Operand} {ts:Array TypeId} {ty:TypeId} {ps:String} {af:Array Edge} {g:Option (Nat×Bool)} {id:FuncId} {ms:List MV} {Φ :MV->VH->Prop} {K:Env->VH->Prop} (hR:VF P id ms O (aE Φ))
  (h:∀m O', Φ m O'->K (aV d m e) O') (ho:l[i]?=some (.mk d (.call {callee:=.value f,args:=xs,argTypes:=ts}) ty ps af g):=by exact rfl) (hg:aN ⟨l⟩ (.mk d (.call {callee:=.value f,args:=xs,argTypes:=ts}) ty ps af g) e=some true:=by exact rfl) (hf:ev e f=some (.func (.func id) [] []):=by exact rfl) (hm:fP e xs.toList=some ms:=by exact rfl) (hb:cR P id=true:=by kernel_rfl) (hd:bp n d=true:=by exact rfl):aK P n D ⟨l⟩ i e O Q K:=
 aK.call (o:=.mk d (.call {callee:=.value f,args:=xs,argTypes:=ts}) ty ps af g) (by simpa using ho) hg rfl rfl hf hm (Enters.sN hb) hd (by simpa using hR) fun r O' hr=>by
  cases r with
  | ret m=>exact h m O' hr
  | panic m=>exact hr.elim
end
def Dm (w name:Bs) (i:Nat):Bs:=w++[47]++name++[91]++lF (i+1)++[93]
def pZ (w name:Bs) (K:List Nd):List (Nd×Bs):=K.mapIdx fun i y=>(y,Dm w name i)
def tX (L:List (Nd×Bs)):List MV:=L.flatMap fun p=>kI p.1 p.2
def m9 (x:Nd) (w name:Bs):Except (Int×Bs) (List (Nd×Bs)):=if 1024<(cE x name).length then .error (2,w)else .ok (pZ w name (cE x name))
theorem ES (p:Nd×Bs):(kI p.1 p.2).length=5:=by rw[kI,List.length_append,lT];rfl
theorem wQ (L:List (Nd×Bs)):(tX L).length=L.length*5:=aQ ES L
theorem Mi (x:Nd) (w:Bs):cS (kI x w)=kI x w:=by simp only[kI,wu,Aj]
theorem HP (L:List (Nd×Bs)):cS (tX L)=tX L:=kP (fun p=>Mi p.1 p.2) L
theorem Qt {w name:Bs} {K:List Nd} {j:Nat} (h:j<K.length):pZ w name (K.take (j+1))=pZ w name (K.take j)++[(K[j],Dm w name j)]:=by
 unfold pZ;rw[c6 _ _ h,List.mapIdx_append];simp[agu,Nat.min_eq_left (alE h)]
theorem HQ (w name:Bs) (K:List Nd):(pZ w name K).length=K.length:=by simp[pZ]
theorem SJ (x:Nd) (w name:Bs) (O:VH) (hx:kJ x<=1000000) (hw:w.length<=10000) (hn:name.length<=10000):
  VF Tryz.prog 275 [.agg (kI x w),.str name] O (FQ O (m9 x w name) fun y m=>∃tk,m= .sl y.length (tX y) tk):=by
 have pW:=Dl x name;have kj:=j8 x;have hKl:(cE x name).length<=1000000:=TP (ah5 _ _) (by omega);unfold m9;generalize cE x name=K at*;obtain⟨n,a,k,t⟩:=x;generalize hW:kJ (.mk n a k t)=W at*;simp only[kI,dh,acv,XO]at pW ⊢;refine VF.bN 43 [.tmp 4] Tryz.func275 ?_;refine VC.ag aa (ae @bz ?_);refine VC.bx ?_;rintro O1 ⟨aM,ez,cW⟩;refine VC.ag aa (ao @bz @ez ?_);refine ah.rt (pW O1 (by omega)) ?_;rintro _ O2 ⟨tk,rfl,ay⟩;have jc:=ay.at ez;have iq:=ay.next;have gN:=aM.trans ay;refine ae @bz ?_;by_cases Mk:1024<K.length
 ·rw[if_pos Mk];refine VC.ag aa (ao @bz @jc ?_);refine ah.p (lU _ _ _) ?_ ?_
  ·rintro m O9 ⟨_,h⟩;exact h.elim
  rintro m O9 ⟨rfl,rfl⟩;refine ae @bz ?_;exact⟨gN,rfl⟩
 rw[if_neg Mk];refine VC.ag aa (ao @bz @jc ?_);refine VC.join aa [4] (fun tl:Tok=>[.sl (pZ w name K).length (tX (pZ w name K)) tl]) (fun tl O'=>O.Ge O') ?_ ?_;rotate_left
 ·intro tl O9 bo;refine ae @bz ?_;exact⟨bo,tl,rfl⟩
 refine VC.ag aa (ae @bz ?_);refine VC.az ?_;refine VC.bG [4,20] [1,2,18,19] (fun x:Nat×Tok=>[.sl (pZ w name (K.take x.1)).length (tX (pZ w name (K.take x.1))) x.2,mi x.1]) (fun x O'=>O2.Ge O'/\App O' O2.next 5 x.2/\x.1<=K.length) (fun x=>K.length - x.1) ((0,.nil)) ?_ ?_
 ·exact⟨VH.Ge.refl _,trivial,acw _⟩
 rintro⟨j,tl⟩ O3 ⟨aG,cC,hj⟩;dsimp only at cC hj ⊢;by_cases aX:j<K.length;rotate_left
 ·obtain rfl:j=K.length:=by omega
  rw[ags];refine WC.sound aa (ae @bz ?_);exact aA.mk tl (gN.trans aG)
 have bw:=bU lT K j aX;rw[<-pU]at bw;have SH:=c7 K;have jm:=Qt (w:=w) (name:=name) aX;have Gr:(pZ w name (K.take j)).length<=1000000:=by rw[HQ,agu];omega
 generalize K[j]=y at*;generalize pZ w name (K.take j)=E at*;have yG:=r6 (j+1);have eW:=Mi y (Dm w name j);obtain⟨yn,ya,yk,yt⟩:=y;simp only[kI,dh,List.cons_append,List.nil_append]at bw eW;have lq:=aG.at jc;have gm:=aG.next;refine VC.ag aa (ae @bz ?_);refine VC.ag aa (ae @bz ?_);refine VC.bB (VC.az ?_);refine VC.ag aa (ao @bz @bw ?_);refine VC.al ?_;rintro O4 ⟨aY,mO,gI⟩;have eA:=aY.at lq;have lV:=cC.ge aY;have SK:=aG.trans aY;have cT:((j:Int)+1)=((j+1:Nat):Int):=by omega
 refine VC.mZ [15,16] ?_;refine ab.av 0 ?_;refine ae @bz ?_;refine ab.av 2 ?_;refine ae @bz ?_;refine ab.ld (m:=.str w) 3 ?_ ?_
 ·exact dq @bz @eA
 simp only[aj];refine ab.av 4 ?_;refine ae @bz ?_;refine ab.av 5 ?_;refine ae @bz ?_;refine ab.av 6 ?_;refine ae @bz ?_;refine ab.av 7 ?_;refine ae @bz ?_;refine ab.av 8 ?_;refine ae @bz ?_;refine ab.av 9 ?_;refine ao @bz @cT ?_;refine ab.pair (i:=1) (j:=10) ?_ ?_
 ·refine aK.o1 ?_;refine ao @bz @mO ?_;refine⟨VH.Ge.refl _,?_⟩;refine ab.call (i:=10) (EO (j+1) O4 (by omega)) ?_;rintro _ O5 ⟨rfl,eO⟩;simp only[aj];rw[eO];clear eO O5
  refine⟨VH.Ge.refl _,?_⟩;refine ab.av 11 ?_;refine ae @bz ?_;refine ab.av 12 ?_;refine ae @bz ?_;refine ab.av 13 ?_;refine ae @bz ?_;refine ab.op (i:=14) ?_;refine ae @bz ?_;refine⟨VH.Ge.refl _,?_⟩;refine ab.bO [(15,.one),(16,.av)] ?_;refine ae @bz ?_;obtain⟨mE,gD,ll⟩:=fZ (n:=E.length) (cs:=tX E) (ds:=[.str yn,.sl ya.length (ya.flatMap bh) .ar,.sl yk.length (aC yk) .ar,.str yt,.str (w++[47]++name++[91]++lF (j+1)++[93])]) ZT ZS.1.1 lV (wQ E) rfl rfl (by decide) (by omega) (by simp only[maxLen];omega) (HP E) eW;refine VL.lC gD ll ?_;refine ae @bz ?_;refine WC.sound aa (ae @bz ?_);exact ax.next (j+1,.own O4.next 5) ⟨cL.ei SK lV (cL.after lV),App.after SK.next,aX⟩ (hl:=(by dsimp only;rw[jm,yP];unfold tX;rw[ahX];rfl))
 ·refine aK.jj (EO (j+1) O4 (by omega)) ?_;rintro _ O5 ⟨rfl,eO⟩;rw[eO];clear eO O5
  simp only[aj];refine⟨VH.Ge.refl _,?_⟩;refine ab.av 11 ?_;refine ae @bz ?_;refine ab.av 12 ?_;refine ae @bz ?_;refine ab.op (i:=1) ?_;refine ao @bz @mO ?_;refine⟨VH.Ge.refl _,?_⟩;refine ab.av 13 ?_;refine ae @bz ?_;refine ab.op (i:=14) ?_;refine ae @bz ?_;refine⟨VH.Ge.refl _,?_⟩;refine ab.bO [(15,.one),(16,.av)] ?_;refine ae @bz ?_;obtain⟨mE,gD,ll⟩:=fZ (n:=E.length) (cs:=tX E) (ds:=[.str yn,.sl ya.length (ya.flatMap bh) .ar,.sl yk.length (aC yk) .ar,.str yt,.str (w++[47]++name++[91]++lF (j+1)++[93])]) ZT ZS.1.1 lV (wQ E) rfl rfl (by decide) (by omega) (by simp only[maxLen];omega) (HP E) eW;refine VL.lC gD ll ?_;refine ae @bz ?_;refine WC.sound aa (ae @bz ?_);exact ax.next (j+1,.own O4.next 5) ⟨cL.ei SK lV (cL.after lV),App.after SK.next,aX⟩ (hl:=(by dsimp only;rw[jm,yP];unfold tX;rw[ahX];rfl))
def lr (w:Bs):Nat×Bool:=
 if w=dS 1 then(1,true)else if w=dS 2 then(2,true)else if w=dS 3 then(3,true)else if w=dS 4 then(4,true)else if w=dS 5 then(5,true)else if w=dS 6 then(6,true)else(0,false)
def ft (w:Bs):Nat->Nat->Nat×Bool
 | 0,_=>(0,false)
 | k+1,j=>if j≠0/\dS j=w then(j,true)else ft w k (j+1)
theorem Qu (w:Bs):lr w=ft w 7 0:=by
 unfold lr ft ft ft ft ft ft ft ft;simp only[eq_comm (a:=w)];simp
theorem Ml (w:Bs) (O:VH):VF Tryz.prog 298 [.str w] O (aE fun m O'=>m= .tuple [mi (lr w).1,mb (lr w).2]/\O'=O):=by
 rw[Qu];refine VF.dy 18 [.tmp 2,.tmp 3] Tryz.func298 ?_;refine ae @bz ?_;refine WC.iS [5] [0] (fun j:Nat=>[mi j]) (fun j O'=>O'=O/\j<=7/\ft w 7 0=ft w (7 - j) j) (fun j=>7 - j) (0) ?_ ?_
 ·exact⟨rfl,acw _,rfl⟩
 rintro j O2 ⟨eO,hj,hs⟩;rw[eO];clear eO O2
 by_cases h7:j<7
 ·have dd:ft w (7 - j) j=if j≠0/\dS j=w then(j,true)else ft w (7 - (j+1)) (j+1):=by
   obtain⟨d,hd⟩:∃d,7 - j=d+1:=⟨6 - j,by omega⟩
   rw[hd,show 7 - (j+1)=d by omega];rfl
  rw[dd]at hs;by_cases h0:j=0
  ·rw[if_neg (fun h=>h.1 h0)]at hs;refine ae @bz ?_;exact ax.next (j+1) ⟨rfl,h7,hs⟩
  ·refine ae @bz ?_;refine ah.rt (Jg j _) ?_;rintro _ O3 ⟨rfl,eO⟩;rw[eO];clear eO O3
   cases hw:dS j==w
   ·rw[if_neg (fun h=>by rw[h.2]at hw;simp at hw)]at hs;refine ao @bz @hw ?_;exact ax.next (j+1) ⟨rfl,h7,hs⟩
   ·rw[if_pos ⟨h0,eq_of_beq hw⟩]at hs;rw[hs];exact dq @bz @hw
 ·obtain rfl:j=7:=by omega
  rw[hs];refine ae @bz ?_;rfl
def dP (s p:Bs):Bool:=s.take p.length==p
theorem V0 {s p:Bs} (h:¬p.length<=s.length):dP s p=false:=by
 unfold dP;rw[beq_eq_false_iff_ne];intro e;have:=congrArg List.length e;rw[agu]at this;omega
theorem Gt (s p:Bs) (O:VH):VF Tryz.prog 137 [.str s,.str p] O (aE fun m O'=>m=mb (dP s p)/\O'=O):=by
 refine VF.dy 18 [.tmp 4] Tryz.func137 ?_;by_cases h:p.length<=s.length
 ·have e:(s.take p.length==p)=dP s p:=rfl;generalize dP s p=b at*;cases b
  ·exact dq @bz @e
  ·exact dq @bz @e
 ·rw[V0 h];exact fe @bz
theorem m_ (s p:Bs) (O:VH):VF Tryz.prog 103 [.str s,.str p] O (aE fun m O'=>m=mb (dP s p)/\O'=O):=by
 refine VF.dy 8 [.tmp 4] Tryz.func103 ?_;refine ae @bz ?_;refine ah.rt (Gt s p _) ?_;rintro _ O2 ⟨rfl,rfl⟩;exact fe @bz
set_option linter.defProp false in
def eo:=RZ bz<|RZ dN<|RZ afb aiy
section
variable {P:Program} {n:Sz} {D:List Deferred} {e:Env} {O:VH} {Q:VQ}
theorem ab.p5 {brk:List Nat} {Ψ :Gh->Prop} {J:VH->Prop} {Z:Prop} {fuel i:Nat} {listed:Array Bool} {l:List Oper} {d:Option Tmp} {f:Operand} {xs:Array Operand} {ts:Array TypeId} {ty:TypeId} {ps:String} {af:Array Edge} {g:Option (Nat×Bool)} {id:FuncId} {ms cs:List MV} {R:fU->VH->Prop} (hR:VF P id (ms++cs) O R)
  (h:∀m O',R (.ret m) O'->J O'/\ab P n D ⟨l⟩ brk J Ψ Z fuel (listed.setIfInBounds i true) (aV d m e) O' Q) (h2:∀m O',R (.panic m) O'->Q (.panic m) (kM n e) O') (hr:Region.ready .any ⟨l⟩ listed=[i]:=by kernel_rfl) (ho:l[i]?=some (.mk d (.call {callee:=.value f,args:=xs,argTypes:=ts}) ty ps af g):=by exact rfl) (hg:aN ⟨l⟩ (.mk d (.call {callee:=.value f,args:=xs,argTypes:=ts}) ty ps af g) e=some true:=by exact rfl) (hf:ev e f=some (.func (.func id) [] cs):=by exact rfl) (hm:fP e xs.toList=some ms:=by exact rfl) (hb:cR P id=true:=by kernel_rfl) (hd:bp n d=true:=by exact rfl):ab P n D ⟨l⟩ brk J Ψ Z (fuel+1) listed e O Q:=
 ab.one (aK.call (o:=.mk d (.call {callee:=.value f,args:=xs,argTypes:=ts}) ty ps af g) (by simpa using ho) hg rfl rfl hf hm (Enters.sN hb) hd (by simpa using hR) fun r O' hr=>by
  cases r with
  | ret m=>exact h m O' hr
  | panic m=>exact h2 m O' hr) (hr:=hr)
end
def idxFrom {α :Type} (p: α ->Bool):Nat->List α ->Int
 | _,[]=> -1
 | i,x::r=>if p x then i else idxFrom p (i+1) r
theorem ET {α :Type} (p: α ->Bool):∀(L:List α) (i:Nat),decide (idxFrom p i L>=0)=L.any p
 | [],i=>rfl
 | x::r,i=>by
   rw[idxFrom,List.any_cons];cases h:p x
   ·simp[ET p r]
   ·simp
theorem SL (L:List (Bs×Bs)) (tk:Tok) (id:FuncId) (cs:List MV) (p:Bs×Bs->Bool) (O:VH) (hid:cR Tryz.prog id=true) (hc:∀x∈L,∀O',O.Ge O'->VF Tryz.prog id ([.agg (bh x)]++cs) O' (aE fun m kx=>m=mb (p x)/\O'.Ge kx)) (hn:L.length<=1000000):
  VF Tryz.prog 227 [.sl L.length (L.flatMap bh) tk,.func (.func id) [] cs] O (aE fun m O'=>m=mi (idxFrom p 0 L)/\O.Ge O'):=by
 have dL:=aQ fp L;refine VF.dy 19 [.tmp 4] Tryz.func227 ?_;refine ae @eo ?_;refine WC.iS [8] [0,1,7] (fun j:Nat=>[mi j]) (fun j O'=>O.Ge O'/\j<=L.length/\idxFrom p 0 L=idxFrom p j (L.drop j)) (fun j=>L.length - j) (0) ?_ ?_
 ·exact⟨VH.Ge.refl _,acw _,rfl⟩
 rintro j O2 ⟨ay,hj,cK⟩;by_cases h2:j<L.length
 ·have bw:=bU fp L j h2;have Z_:=hc L[j] (agw h2) O2 ay;rw[agx h2,idxFrom]at cK;generalize L[j]=y at*;refine ao @eo @bw ?_;refine ah.rt Z_ ?_ (hb:=hid);rintro _ O3 ⟨rfl,aG⟩;cases hi:p y
  ·rw[hi]at cK;refine ae @eo ?_;exact ax.next (j+1) ⟨ay.trans aG,by omega,cK⟩
  ·rw[hi,if_pos rfl]at cK;rw[cK];refine ae @eo ?_;exact ay.trans aG
 ·obtain rfl:j=L.length:=by omega
  rw[ahZ (by omega)]at cK;rw[cK];refine ae @eo ?_;exact⟨rfl,ay⟩
theorem adM (L:List (Bs×Bs)) (tk:Tok) (id:FuncId) (cs:List MV) (p:Bs×Bs->Bool) (O:VH) (hid:cR Tryz.prog id=true) (hc:∀x∈L,∀O',O.Ge O'->VF Tryz.prog id ([.agg (bh x)]++cs) O' (aE fun m kx=>m=mb (p x)/\O'.Ge kx)) (hn:L.length<=1000000):
  VF Tryz.prog 273 [.sl L.length (L.flatMap bh) tk,.func (.func id) [] cs] O (aE fun m O'=>m=mb (L.any p)/\O.Ge O'):=by
 rw[<-ET p L 0];refine VF.dy 9 [.tmp 4] Tryz.func273 ?_;refine ae @eo ?_;refine ah.rt (SL L tk id cs p O hid hc hn) ?_;rintro _ O2 ⟨rfl,ay⟩;refine ae @eo ?_;exact ay
theorem V1 (x:Bs×Bs) (k:Nat) (yn:Bs) (a b c:MV) (O:VH) (hk:O.hp k=some (.cells [.str yn,a,b,c])) (yj:k<O.next):VF Tryz.prog 274 [.agg (bh x),.ptr k 0] O (aE fun m O'=>m=mb (x.1==yn)/\O.Ge O'):=by
 obtain⟨x1,x2⟩:=x;unfold bh;refine VF.bN 9 [.tmp 3] Tryz.func274 ?_;refine VC.ag aa (ae @eo ?_);refine VC.bx ?_;rintro O1 ⟨aM,ez,cW⟩;have dY:=(aM.hp k yj).trans hk;refine WC.sound aa (aJ @eo @ez @dY ?_);exact aM
def sZ (wy:Bs):List Nd->List (Bs×Bs)->Except (Int×Bs) (List (Bs×Bs))
 | [],L=>.ok L
 | k::r,L=>bif L.any (·.1==k.nm)then .error (20,wy++[47]++k.nm++[91,50,93])else match pX k (wy++[47]++k.nm) true with
   | .error e=>.error e
   | .ok s=>sZ wy r (L++[(k.nm,s)])
def lu (x:Nd) (w:Bs):Except (Int×Bs) (List (Bs×Bs)):=
 match cw x w lp with
 | .error e=>.error e
 | .ok ((_,_),false)=>.ok []
 | .ok ((y,wy),true)=>if 1024<(cE y []).length then .error (2,wy)else sZ wy (cE y []) []
theorem aaa (x:Nd) (w:Bs) (O:VH) (hx:kJ x<=1000000) (hw:w.length<=10000):
  VF Tryz.prog 252 [.agg (kI x w)] O (FQ O (lu x w) fun y m=>∃tk,m= .sl y.length (y.flatMap bh) tk):=by
 have ve:=r7 x w lp;have kj:=j8 x;have vf:= @r9 x w lp;have vg:∀e,cw x w lp= .error e->lu x w= .error e:=fun e h=>by unfold lu;rw[h]
 have nN:∀y wy,cw x w lp= .ok ((y,wy),false)->lu x w= .ok []:=fun y wy h=>by unfold lu;rw[h]
 have iU:∀y wy,cw x w lp= .ok ((y,wy),true)->lu x w=if 1024<(cE y []).length then .error (2,wy)else sZ wy (cE y []) []:=fun y wy h=>by unfold lu;rw[h]
 generalize lu x w=PE at*;generalize cw x w lp=F at*;obtain⟨n,a,k,t⟩:=x;generalize hW:kJ (.mk n a k t)=W at*;simp only[kI,dh,acv,XO]at ve ⊢;refine VF.bN 55 [.tmp 2] Tryz.func252 ?_;refine VC.ag aa (ae @eo ?_);refine VC.bx ?_;rintro O1 ⟨aM,ez,cW⟩;refine VC.ag aa (ao @eo @ez ?_);refine ah.p (ve O1 (by omega) (by omega) (by decide)) ?_ ?_;rotate_left
 ·rintro m O2 ⟨ay,h⟩;cases F with
  | ok y=>exact h.elim
  | error e=>
    dsimp only at h;rw[vg e rfl];refine ae @eo ?_;exact⟨aM.trans ay,h⟩
 rintro m O2 ⟨ay,h⟩;cases F with
 | error e=>exact h.elim
 | ok y=>
 obtain⟨⟨y,wy⟩,b⟩:=y;dsimp only at h;subst h;obtain⟨Z9,vh⟩:=vf rfl;have oJ:wy.length<=30000:=by rw[vh];simp only[yP,Kn,Km];omega
 clear vf vh vg;have pW:=Dl y [];have ai6:=j8 y;have hKm:∀z∈cE y [],kJ z<=1000000:=fun z hz=>by have:=Qq hz;omega
 have hKl:(cE y []).length<=1000000:=TP (ah5 _ _) (by omega)
 replace iU:b=true->PE=if 1024<(cE y []).length then .error (2,wy)else sZ wy (cE y []) []:=fun h=>by subst h;exact iU y wy rfl
 replace nN:b=false->PE= .ok []:=fun h=>by subst h;exact nN y wy rfl
 generalize cE y []=K at*;obtain⟨yn,ya,yk,yt⟩:=y;simp only[kI,dh,acv,XO]at pW ⊢;have gN:=aM.trans ay;refine ae @eo ?_;refine VC.al ?_;rintro O3 ⟨aG,Mh,gm⟩;have eP:=gN.trans aG;cases b
 ·rw[nN rfl];refine WC.sound aa (ae @eo ?_);exact⟨eP,.nil,rfl⟩
 replace iU:=iU rfl
 clear nN;refine VC.ag aa (ae @eo ?_);refine VC.ag aa (ao @eo @Mh ?_);refine ah.rt (pW O3 (by omega)) ?_;rintro _ O4 ⟨tk,rfl,aY⟩;have Qs:=aY.at Mh;have ig:=eP.trans aY;have gI:=aY.next;refine ae @eo ?_;by_cases Mk:1024<K.length
 ·rw[if_pos Mk]at iU;rw[iU];refine VC.ag aa (ao @eo @Qs ?_);refine ah.p (lU _ _ _) ?_ ?_
  ·rintro m O9 ⟨_,h⟩;exact h.elim
  rintro m O9 ⟨rfl,rfl⟩;refine ae @eo ?_;exact⟨ig,rfl⟩
 rw[if_neg Mk]at iU;refine VC.ag aa (ao @eo @Qs ?_);refine VC.join aa [2] (fun x:List (Bs×Bs)×Tok=>[.sl x.1.length (x.1.flatMap bh) x.2]) (fun x O'=>O.Ge O'/\PE= .ok x.1) ?_ ?_;rotate_left
 ·rintro⟨L,tl⟩ O9 ⟨bo,hP⟩;rw[hP];refine ae @eo ?_;exact⟨bo,tl,rfl⟩
 refine VC.ag aa (ae @eo ?_);refine VC.az ?_;refine VC.bG [2,27] [3,25,26] (fun x:Nat×List (Bs×Bs)×Tok=>[.sl x.2.1.length (x.2.1.flatMap bh) x.2.2,mi x.1]) (fun x O'=>O4.Ge O'/\App O' O4.next 2 x.2.2/\x.1<=K.length/\x.2.1.length=x.1/\PE=sZ wy (K.drop x.1) x.2.1) (fun x=>K.length - x.1) ((0,[],.nil)) ?_ ?_
 ·exact⟨VH.Ge.refl _,trivial,acw _,rfl,iU⟩
 rintro⟨j,L,tl⟩ O5 ⟨bH,cC,hj,oE,hP⟩;dsimp only at cC hj oE hP ⊢;by_cases aX:j<K.length;rotate_left
 ·obtain rfl:j=K.length:=by omega
  rw[ahZ (XN _),sZ]at hP;refine WC.sound aa (ae @eo ?_);exact aA.mk (L,tl) ⟨ig.trans bH,hP⟩
 have bw:=bU lT K j aX;rw[<-pU]at bw;have SH:=c7 K;rw[agx aX,sZ]at hP;have hzW:=hKm K[j] (agw aX);generalize K[j]=z at*;have uZ:=Mf z (wy++[47]++z.nm) true;have hkz:=j8 z;have htz:=TP (EP z.kids) (alE (wP z))
 have ai7:z.nm.length<=1000000:=by cases z with
  | mk n a k t=>rw[Ap]at hzW;show n.length<=_;omega
 generalize pX z (wy++[47]++z.nm) true=T at*;obtain⟨zn,za,cV,zt⟩:=z;simp only[kI,dh,Nd.nm,List.cons_append,List.nil_append]at bw uZ hP ai7;have hy5:=bH.at Qs;have fS:=bH.next;refine VC.ag aa (ae @eo ?_);refine VC.ag aa (ae @eo ?_);refine VC.bB (VC.az ?_);refine VC.ag aa (ao @eo @bw ?_);refine VC.al ?_;rintro O6 ⟨fJ,mO,n9⟩;have hy6:=fJ.at hy5;have n_:=cC.ge fJ;have xI:=bH.trans fJ;have cT:((j:Int)+1)=((j+1:Nat):Int):=by omega
 refine VC.ag aa (aJ @eo @hy6 @mO ?_);refine VC.ag aa (ae @eo ?_);refine ah.rt (adM L tl 274 [.ptr O5.next 0] (fun q=>q.1==zn) O6 (by kernel_rfl) (fun q _ O' Jn=>V1 q _ zn _ _ _ O' (Jn.at mO) (by have:=Jn.next;omega)) (by omega)) ?_;rintro _ O7 ⟨rfl,fC⟩;have Cu:=(ig.trans xI).trans fC;have hy7:=fC.at hy6;have ui:=fC.at mO;have uh:=fC.next;have j5:=n_.ge fC;refine ae @eo ?_;cases kE:L.any fun q=>q.1==zn
 rotate_left
 ·rw[kE,cond_true]at hP;rw[hP];refine ae @eo ?_;refine ah.p (lU _ _ _) ?_ ?_
  ·rintro m O9 ⟨_,h⟩;exact h.elim
  rintro m O9 ⟨rfl,rfl⟩;refine ae @eo ?_;exact⟨Cu,rfl⟩
 rw[kE,cond_false]at hP;refine ae @eo ?_;refine VC.mZ [9,10] ?_;refine ab.av 0 ?_;refine ae @eo ?_;refine ab.av 1 ?_;refine ae @eo ?_;refine ab.ld (m:=.str zn) 2 ?_ ?_
 ·exact dq @eo @ui
 simp only[aj];refine ab.av 4 ?_;refine ae @eo ?_;refine ab.op (i:=3) ?_;refine ao @eo @ui ?_;refine⟨VH.Ge.refl _,?_⟩;refine ab.av 5 ?_;refine ae @eo ?_;refine ab.p5 (i:=6) (uZ O7 (by omega) (by omega)) ?_ ?_;rotate_left
 ·rintro m O8 ⟨iI,h⟩;cases T with
  | ok s=>exact h.elim
  | error e=>
    dsimp only at h hP;rw[hP];refine ae @eo ?_;exact⟨Cu.trans iI,h⟩
 rintro m O8 ⟨iI,h⟩;cases T with
 | error e=>exact h.elim
 | ok s=>
 dsimp only at h hP;subst h;simp only[aj];refine⟨iI,?_⟩;refine ab.av 7 ?_;refine ae @eo ?_;refine ab.op (i:=8) ?_;refine ae @eo ?_;refine⟨iI,?_⟩;refine ab.bO [(9,.one),(10,.av)] ?_;refine ae @eo ?_;obtain⟨mE,gD,ll⟩:=fZ (n:=L.length) (cs:=L.flatMap bh) (ds:=[.str zn,.str s]) (es:=bh (zn,s)) Ac Cq.1.1 (j5.ge iI) (aQ fp L) rfl rfl (by decide) (by omega) (by simp only[maxLen];omega) (f_ L) (by simp only[bh,wu]);refine VL.lC gD ll ?_;refine ae @eo ?_;refine WC.sound aa (ae @eo ?_);exact ax.next (j+1,L++[(zn,s)],.own O8.next 2) ⟨cL.ei ((xI.trans fC).trans iI) (j5.ge iI) (cL.after (j5.ge iI)),App.after (by have:=iI.next;omega),aX,by dsimp only;rw[yP,oE];rfl,hP⟩ (hl:=(by dsimp only;rw[yP,ahX,cT];rfl))
section
variable {P:Program} {tab:bY} {n:Sz} {D:List Deferred} {md:Md} {ops:Array Oper} {Q:VQ} {f:Fl} {o:Oper} {L:List (Fl×Oper)} {e:Env} {O:VH} {r:Option (MV×VH)} {b:Bool} {c:Code}
theorem Qv (h:WL P tab n D md ops Q L e O):WL P tab n D md ops Q L e O:=h
theorem Qw (h:W2 P tab n D md ops Q f o L e O r):W2 P tab n D md ops Q f o L e O r:=h
theorem Qx (h:W3 P tab n D md ops Q L e O b):W3 P tab n D md ops Q L e O b:=h
theorem Qy (h:WC P tab n D c e O Q):WC P tab n D c e O Q:=h
end
section
variable {A1 A2 A3 A4 A5 A6 A7 P Q:Prop}
theorem gJ (a1:A1) (q:Q) (h:A1->Q->P:=by intro a1 q;first | (with_reducible refine VC.ag aa ?_;refine ae a1 q) | (with_reducible refine WC.sound aa ?_;refine ae a1 q) | (first | with_reducible refine Qv ?_ | with_reducible refine Qw ?_ | with_reducible refine Qx ?_ | with_reducible refine Qy ?_);refine ae a1 q):P:=h a1 q
theorem p6 (a1:A1) (a2:A2) (q:Q) (h:A1->A2->Q->P:=by intro a1 a2 q;first | (with_reducible refine VC.ag aa ?_;refine ao a1 a2 q) | (with_reducible refine WC.sound aa ?_;refine ao a1 a2 q) | (first | with_reducible refine Qv ?_ | with_reducible refine Qw ?_ | with_reducible refine Qx ?_ | with_reducible refine Qy ?_);refine ao a1 a2 q):P:=h a1 a2 q
theorem kg3 (a1:A1) (a2:A2) (a3:A3) (q:Q) (h:A1->A2->A3->Q->P:=by intro a1 a2 a3 q;first | (with_reducible refine VC.ag aa ?_;refine aJ a1 a2 a3 q) | (with_reducible refine WC.sound aa ?_;refine aJ a1 a2 a3 q) | (first | with_reducible refine Qv ?_ | with_reducible refine Qw ?_ | with_reducible refine Qx ?_ | with_reducible refine Qy ?_);refine aJ a1 a2 a3 q):P:=h a1 a2 a3 q
theorem kg4 (a1:A1) (a2:A2) (a3:A3) (a4:A4) (q:Q) (h:A1->A2->A3->A4->Q->P:=by intro a1 a2 a3 a4 q;first | (with_reducible refine VC.ag aa ?_;refine c_ a1 a2 a3 a4 q) | (with_reducible refine WC.sound aa ?_;refine c_ a1 a2 a3 a4 q) | (first | with_reducible refine Qv ?_ | with_reducible refine Qw ?_ | with_reducible refine Qx ?_ | with_reducible refine Qy ?_);refine c_ a1 a2 a3 a4 q):P:=h a1 a2 a3 a4 q
theorem kg5 (a1:A1) (a2:A2) (a3:A3) (a4:A4) (a5:A5) (q:Q) (h:A1->A2->A3->A4->A5->Q->P:=by intro a1 a2 a3 a4 a5 q;first | (with_reducible refine VC.ag aa ?_;refine gQ a1 a2 a3 a4 a5 q) | (with_reducible refine WC.sound aa ?_;refine gQ a1 a2 a3 a4 a5 q) | (first | with_reducible refine Qv ?_ | with_reducible refine Qw ?_ | with_reducible refine Qx ?_ | with_reducible refine Qy ?_);refine gQ a1 a2 a3 a4 a5 q):P:=h a1 a2 a3 a4 a5 q
theorem kg6 (a1:A1) (a2:A2) (a3:A3) (a4:A4) (a5:A5) (a6:A6) (q:Q) (h:A1->A2->A3->A4->A5->A6->Q->P:=by intro a1 a2 a3 a4 a5 a6 q;first | (with_reducible refine VC.ag aa ?_;refine Bm a1 a2 a3 a4 a5 a6 q) | (with_reducible refine WC.sound aa ?_;refine Bm a1 a2 a3 a4 a5 a6 q) | (first | with_reducible refine Qv ?_ | with_reducible refine Qw ?_ | with_reducible refine Qx ?_ | with_reducible refine Qy ?_);refine Bm a1 a2 a3 a4 a5 a6 q):P:=h a1 a2 a3 a4 a5 a6 q
end
section
variable {G H:Gh} {n:Sz} {D:List Deferred} {e e':Env} {a:Act} {P:Program} {tab:bY} {O O':VH} {w:World} {m m':MV} {u v:Value} {ops:Array Oper} {Q:VQ} {md:Md}
def aab (P:Program) (tab:bY) (rs:List ResultVar) (g:FuncId) (cap:List Operand) (t:Tmp) (k lo:Nat) (rest:Code) (R:fU->VH->Prop):VQ:=fun x e O=>match x with
 | .normal=>∃ms,fP e cap=some ms/\∀D,VC P ⟨k,lo⟩ D rest ((t,.func (.func g) [] ms)::e) O (LD P tab rs g ms R)
 | .ret=>i_ R O (iF tab e O rs)
 | _=>False
theorem Qz (ht:aL P tab) {el:TypeId} {te:cy} {B n' j:Nat} {L ds:List MV} {p q:MV} {dx:TypeDesc} {d:Option Tmp} {x y:Operand} {t tx ty:TypeId} {ps:String} {af:Array Edge} {g:Option (Nat×Bool)}
  (hr:GR O el te.size B p n' L) (hs:zP O te.size q=some (j,ds)) (il:ds.all dK=true) (hu:(tab t).map cy.under=some (.slice el)) (he:tab el=some te) (uZ:(tab tx).map cy.under=some dx) (Ei:zQ q dx) (hb:(n'+j)*te.bytes<=140737488355328) (hm:n'+j<=maxLen) (hB:B<=O.next)
  (hx:ev e x=some p) (hy:ev e y=some q):
  fV P n D (.mk d (.call {callee:=.builtin .append,args:= #[x,y],argTypes:= #[t,tx]}) ty ps af g) e O (fun m O'=>GR O' el te.size B m (n'+j) (L++ds)/\br O (gid p) O'/\(gid p=none->O.Ge O')/\((∃k c,m= .bq k 0 (n'+j) c/\(gid p=some k\/(O.next<=k/\j≠0)))\/(j=0/\m=p/\O'=O))):=by
 intro G a w hw hf;have mX:=hf.ev hx;have xg:=hf.ev hy;have fx:=bE ht uZ
 have fin:∀{m O' u w' H},(GR O' el te.size B m (n'+j) (L++ds)/\br O (gid p) O'/\(gid p=none->O.Ge O')/\((∃k c,m= .bq k 0 (n'+j) c/\(gid p=some k\/(O.next<=k/\j≠0)))\/(j=0/\m=p/\O'=O)))->(Builtin.append_ #[t,tx] ty #[a.eval x,a.eval y]).run P w= .ok u w'->Gh.Le G H->WR H O' w'->VR H m u->
   ∃m O' u w' H,(GR O' el te.size B m (n'+j) (L++ds)/\br O (gid p) O'/\(gid p=none->O.Ge O')/\((∃k c,m= .bq k 0 (n'+j) c/\(gid p=some k\/(O.next<=k/\j≠0)))\/(j=0/\m=p/\O'=O)))/\(execOp a.eval (.mk d (.call {callee:=.builtin .append,args:= #[x,y],argTypes:= #[t,tx]}) ty ps af g)).run P w= .ok (.value u) w'/\Gh.Le G H/\WR H O' w'/\VR H m u:=fun hM cj h1 h2 h3=>
  ⟨_,_,_,_,_,hM,by simp only[execOp,resolve,invoke,builtin,List.map_toArray,List.map_cons,List.map_nil,Sem.run_bind,Sem.run_pure,Result.andThen_ok]<;>simp[cj],h1,h2,h3⟩
 obtain⟨vs,oS,hv⟩:=zR (P:=P) hw hs xg fx Ei il;have hY:ds.length=j*te.size:=by rw[<-hv.1];exact oS.newsLen
 rcases hr with⟨rfl,rfl,hp⟩ | ⟨k,c,rfl,zU,oE,cQ⟩
 ·have hA:∃A,a.eval x= .slice A 0 0/\(∀w',(Builtin.firstCells te.size 0 (.slice A 0 0)).run P w'= .ok #[] w'):=by
   generalize a.eval x=u at mX
   have key:∀A:Option Addr,∀w',(Builtin.firstCells te.size 0 (.slice A 0 0)).run P w'= .ok #[] w':=fun A w'=>by
    cases A<;>simp[Builtin.firstCells,loadCells,loadCellsFrom]
   rcases hp with rfl | rfl
   ·cases mX with
    | slnil=>exact⟨_,rfl,key _⟩
    | sl h1 h2 h3 h4 h5 h6=>exact h6.elim
   ·cases mX with
    | sl h1 h2 h3 h4 h5 h6=>
      have h6:_=0:=h6;subst h6;exact⟨_,rfl,key _⟩
  obtain⟨A,hA,Lg⟩:=hA;have YM:gid p=none:=by rcases hp with rfl | rfl<;>rfl
  by_cases hj:j=0
  ·subst hj;have ri:ds=[]:=List.eq_nil_of_length_eq_zero (by simpa using hY);subst ri;refine fin (m:=p) (O':=O) (u:=a.eval x) (w':=w) (H:=G) ⟨.inl ⟨rfl,rfl,hp⟩,br.refl _ _,fun _=>VH.Ge.refl _,.inr ⟨rfl,rfl,rfl⟩⟩ ?_ (Gh.Le.refl G) hw mX;have iO:vs=[]:=by have:=hv.1;simpa using this
   subst iO;rw[hA];have eW:=bE ht hu;obtain⟨ti,z,i1,i2,_⟩:=(ht _ te he).info;rcases oS.kind with⟨e',hk⟩ | hk<;>cases A<;>simp[Builtin.append_,run_underlying eW,run_underlying hk,fi (ht _ te he),oS.len,oS.cells,storeCells]
  ·rw[hA]at fin;obtain⟨c',w',H,zs,g1,g2,g3,g4,g5,g6,g7⟩:=zS (P:=P) ht hw (n':=0) (c:=0) (A:=A) (L:=[]) (us:=[]) (ty:=ty) hu he fx hs Ei il aO.nil (by simp) (Lg _) (by omega) hb hm xg;refine fin ⟨.inr ⟨O.next,c',rfl,g1,by rw[yP,hY];simp,?_⟩,?_,fun _=>?_,.inl ⟨_,_,rfl,.inr ⟨XN _,hj⟩⟩⟩ g4 g5 g6 g7
   ·refine Row.yy (cs:=[]) (t:=el) ?_ hB;rw[yP,g3,yP,hY,Km,alD, <-alR]
    congr 1;omega
   ·rw[YM];exact br.push.trans br.push
   ·exact((VH.Ge.refl O).push _).push _
 ·obtain⟨sp,gk,jX⟩:=cQ.cells;generalize oF:a.eval x=u at mX;have YN:=mX;cases YN with
  | bq hp hn hmx=>
    rename_i b;rw[oF]at fin;have hmul:(n'+j)*te.size=n'*te.size+j*te.size:=alR _ _ _;by_cases oD:n'+j<=c
    ·have hle:(n'+j)*te.size<=c*te.size:=Nat.mul_le_mul_right _ oD;obtain⟨w',A,g1,g2,g3⟩:=Lf (P:=P) (ty:=ty) ht hw hu he fx gk hs Ei il oD (by rw[jX,hY];omega) mX xg;rw[alD, <-oE,zT]at g2
     have Hu:ds.length<=sp.length:=by
      rw[yP]at jX;omega
     rw[List.take_of_length_le Hu]at g2;refine fin ⟨.inr ⟨k,c,rfl,oD,by rw[yP,oE,hY,hmul],cQ.aeV ?_⟩,br.set,(fun h=>by cases h),.inl ⟨_,_,rfl,.inl rfl⟩⟩ g1 (Gh.Le.refl G) g2 g3;rw[yP,yP,agv];rw[yP]at jX;omega
    ·obtain⟨b',C,T,d1,d2,d3⟩:=hw.cells k _ gk;rw[hp]at d1;injection d1 with d1;subst d1
     have hL:=d3.take L.length;rw[List.take_left,List.take_take,Nat.min_eq_left (by rw[yP];omega)]at hL
     have hold:(Builtin.firstCells te.size n' (.slice (some ⟨b,0,none⟩) n' c)).run P w.drew= .ok (C.toList.take L.length).toArray w.drew:=by
      refine run_firstCells_some (P:=P) w.drew te.size n' ⟨b,0,none⟩ n' c _ (by rw[hL.1,oE]) fun i u hu=>?_
      rw[Addr.add_lit,alD];rw[alL]at hu;split at hu
      ·have kf:w.drew.heap[b]?=some (.cells C T.t T.fr):=d2;simp only[World.cell?,kf,Option.isSome_none,alM,if_false];simpa using hu
      ·cases hu
     obtain⟨c',w',H,zs,g1,g2,g3,g4,g5,g6,g7⟩:=zS (P:=P) (ty:=ty) ht hw (n':=n') (c:=c) (A:=some ⟨b,0,none⟩) (L:=L) hu he fx hs Ei il hL oE hold (by omega) hb hm xg;refine fin ⟨.inr ⟨O.next,c',rfl,g1,by rw[yP,oE,hY,hmul],?_⟩,(br.push.trans br.push).any,(fun h=>by cases h),.inl ⟨_,_,rfl,.inr ⟨XN _,by omega⟩⟩⟩ g4 g5 g6 g7;refine Row.yy (cs:=[]) (t:=el) ?_ hB;rw[yP,g3,yP,oE,hY, <-hmul, <-alR]
     congr 1;omega
theorem VF.EU {f g:FuncId} {fn:Func} {A B rest:Code} {id k lo:Nat} {t:Tmp} {cap:Array Operand} {ty Zw:TypeId} {ps Zx:String} {af Zy:Array Edge} {args:List MV} {rs:List ResultVar} {R:fU->VH->Prop} (hf:P.funcs[f]?=some fn) (hE:Enters P g)
  (h:WC P tab ⟨k,0⟩ [] A (cx 0 args) O (qG (I2 P ⟨k,0⟩ [] B (aab P tab rs g cap.toList t k lo rest R)) (aab P tab rs g cap.toList t k lo rest R))) (ht:aL P tab:=by exact aa) (hb:fn.body=some (.seq A (.seq B (.seq (.region id ⟨[.mk (some t) (.makeFunc (.func g) #[] cap) ty ps af none,.mk none (.defer {callee:=.value (.tmp t),args:= #[],argTypes:= #[]}) Zw Zx Zy none]⟩ false) rest))):=by exact rfl) (hk:fn.ntmps=k:=by exact rfl) (hr:fn.results.toList=rs:=by exact rfl) (hn:args.length<=k:=by exact Nat.le_of_ble_eq_true rfl) (eR:t<k:=by decide):VF P f args O R:=by
 subst hk;intro G w vs hw hv;refine calls_of_wp_defers hf hb ?_
 have aU:FR G ⟨fn.ntmps,0⟩ [] (cx 0 args) {tmps:=vs.toArray++Array.replicate (fn.ntmps - vs.toArray.size) undef,defers:=[]}:=by
  have hl:=hv.1;refine⟨rfl,by simp;omega,fun t x hx=>?_⟩;rw[iA,if_pos (acw _),Nat.sub_zero]at hx;obtain⟨u,h1,h2⟩:=hv.get hx;refine⟨u,?_,h2⟩;have ew:=(alO.1 h1).1;rw[Array.getElem?_append_left (by simpa using ew)];simpa using h1
 refine wp_seq (wp_mono (WC.sound ht h G _ w hw aU) ?_)
 have early:∀{e:Env} {a':Act} {w':World} {O':VH} {K:Gh},Gh.Le G K->WR K O' w'->FR K ⟨fn.ntmps,0⟩ [] e a'->i_ R O' (iF tab e O' rs)->
   Leaves P fn a'.tmps (fun x w'=>∃r O' H,Gh.Le G H/\WR H O' w'/\ER H r x/\R r O') a'.defers .returning w':=by
  intro e a' w' O' K k1 k2 k3 q3;rw[k3.defers]
  have key:∃m,df tab fn e O'=some m/\R (.ret m) O':=by
   unfold df;rw[hr, <-rS];generalize iF tab e O' rs=z at q3;unfold i_ at q3;split at q3
   ·exact q3.elim
   ·exact⟨_,rfl,q3⟩
   ·rename_i l hl;refine⟨.tuple l,?_,q3⟩
    match l,hl with
    | [],_=>rfl
    | [m],hl=>exact absurd rfl (hl m)
    | _::_::_,_=>rfl
  obtain⟨m,h6,h7⟩:=key;obtain⟨u2,h8,h9⟩:=k8 (P:=P) ht k2 k3 h6;exact⟨u2,h8,.ret m,O',K,k1,k2,h9,h7⟩
 rintro y a1 w1 ⟨x,e,O1,H,g1,g2,g3,g4,g5⟩
 cases y<;>cases x<;>first
  | exact False.elim g4
  | exact g5.elim
  | exact early g1 g2 g3 g5
  | skip
 refine wp_seq (wp_mono (g5 H a1 w1 g2 g3) ?_);rintro y a1 w1 ⟨x,e,O1,H2,g1',g2,g3,g4,g5⟩
 replace g1:=g1.trans g1'
 clear g1'
 cases y<;>cases x<;>first
  | exact False.elim g4
  | exact g5.elim
  | exact early g1 g2 g3 g5
  | skip
 obtain⟨ms,hm,PU⟩:=g5;have g3:FR H2 ⟨fn.ntmps,0⟩ [] e a1:=g3;have iO:=g3.fP hm;have F5:cap.map a1.eval=(cap.toList.map a1.eval).toArray:=by apply Array.ext';simp
 generalize cap.toList.map a1.eval=us at iO F5
 have PV:(execOp a1.eval (.mk (some t) (.makeFunc (.func g) #[] cap) ty ps af none)).run P w1= .ok (.value (.func (.func g) #[] us.toArray)) w1:=by
  simp[execOp,Instr.makeFunc,F5]
 have hz:=g3.size;dsimp only at hz
 have hev:(a1.put (some t) (.func (.func g) #[] us.toArray)).eval (.tmp t)= .func (.func g) #[] us.toArray:=by
  simp[Act.eval,Act.put,hz,eR]
 have PW:(execOp (a1.put (some t) (.func (.func g) #[] us.toArray)).eval (.mk none (.defer {callee:=.value (.tmp t),args:= #[],argTypes:= #[]}) Zw Zx Zy none)).run P w1= .ok (.defer {target:=.fn (.func g) us.toArray,args:= #[]}) w1:=by
  simp[execOp,resolve,hev,Deferred.ofValue]
 refine wp_seq (wp_region ?_);have LC:∀o1 o2:Oper,List.range (Array.mk [o1,o2]).size=[0,1]:=fun _ _=>rfl
 rw[LC];have Es:∀(o1 o2:Oper) (tm:Array Value),o1.guard=none->Region.wanted o1 (yielded ⟨[o1,o2]⟩ tm)=true:=fun o1 o2 tm h=>by simp[Region.wanted,h]
 have qx:∀(o1 o2:Oper) (tm:Array Value),o2.guard=none->Region.wanted o2 (yielded ⟨[o1,o2]⟩ tm)=true:=fun o1 o2 tm h=>by simp[Region.wanted,h]
 simp only[wpOps,List.getElem?_toArray,alF,ah7];rw[if_pos (Es _ _ _ rfl)];refine .inl ?_;unfold Oper.wp;rw[PV,Oper.upon_value];simp only[wpOps,List.getElem?_toArray,alF,ah7];rw[if_pos (qx _ _ _ rfl)];refine .inl ?_;first | unfold Oper.wp | skip
 rw[PW,Oper.upon_defer];have yx:FR H2 ⟨fn.ntmps,0⟩ [] ((t,.func (.func g) [] ms)::e) (a1.put (some t) (.func (.func g) #[] us.toArray)):=FR.put g3 eR (.func (fs:=[]) (us:=[]) rfl (fun i c u h=>by simp at h) iO.1 iO.2);generalize a1.put (some t) (.func (.func g) #[] us.toArray)=a2 at yx;have CP:FR H2 ⟨fn.ntmps,lo⟩ [{target:=.fn (.func g) us.toArray,args:= #[]}] ((t,.func (.func g) [] ms)::e) {a2 with defers:={target:=.fn (.func g) us.toArray,args:= #[]}::a2.defers}:=⟨by rw[yx.defers],yx.size,yx.get⟩;show rest.wp P _ _ _;refine wp_mono (PU _ H2 _ w1 g2 CP) ?_;rintro y a' w' ⟨x,e',O',K,k1,k2,k3,k4,k5⟩
 have hinv:∀w:World,(invoke (.fn (.func g) us.toArray) #[]).run P w= .ok (.enter g us.toArray) w:=fun w=>by
  simp[invoke,hE us.toArray w]
 have fin:∀(u:FrameMode) (z:Option MV),u≠ .run->MR K z u->FR K ⟨fn.ntmps,lo⟩ [{target:=.fn (.func g) us.toArray,args:= #[]}] e' a'->gy P g ms z O' (fun O'=>i_ R O' (iF tab e' O' rs))->
   Leaves P fn a'.tmps (fun x w'=>∃r O' H,Gh.Le G H/\WR H O' w'/\ER H r x/\R r O') a'.defers u w':=by
  intro u z hu hmr Zz hd;rw[Zz.defers];refine leaves_cons hu (hinv _) ((hd K w' us u k2 (iO.mono k1) hmr).mono ?_);rintro r u' F9 ⟨⟨v,rfl⟩,hs,O2,K2,q1,q2,q3⟩;dsimp only;rw[hs]
  have key:∃m,df tab fn e' O2=some m/\R (.ret m) O2:=by
   unfold df;rw[hr, <-rS];generalize iF tab e' O2 rs=z at q3;unfold i_ at q3;split at q3
   ·exact q3.elim
   ·exact⟨_,rfl,q3⟩
   ·rename_i l hl;refine⟨.tuple l,?_,q3⟩
    match l,hl with
    | [],_=>rfl
    | [m],hl=>exact absurd rfl (hl m)
    | _::_::_,_=>rfl
  obtain⟨m,h6,h7⟩:=key;obtain⟨u2,h8,h9⟩:=k8 (P:=P) ht q2 (Zz.mono q1) h6;exact⟨u2,h8,.ret m,O2,K2,(g1.trans k1).trans q1,q2,h9,h7⟩
 cases y with
 | normal=>cases x<;>first | exact False.elim k4 | exact fin .returning none (by simp) trivial k3 k5
 | ret=>cases x<;>first | exact False.elim k4 | exact fin .returning none (by simp) trivial k3 k5
 | panic c=>
   cases x with
   | panic m=>
     obtain⟨u,rfl,hvu⟩:=k4;exact fin (.panicking [⟨u,false,false⟩]) (some m) (by simp) hvu k3.2 k5
   | _=>exact False.elim k4
 | exit i=>cases x<;>first | exact False.elim k4 | exact k5.elim
 | goto i=>cases x<;>first | exact False.elim k4 | exact k5.elim
 | outgrown=>cases x<;>exact False.elim k4
theorem VL.aha (ht:aL P tab) {brk:List Nat} {el:TypeId} {te:cy} {B n' j:Nat} {L ds:List MV} {p q:MV} {dx:TypeDesc} {d:Option Tmp} {x y:Operand} {t tx ty:TypeId} {ps:String} {af:Array Edge} {g:Option (Nat×Bool)} {LL:List (Fl×Oper)} (hne:brk≠[])
  (pD:∀i,ops[i]?=some (.mk d (.call {callee:=.builtin .append,args:= #[x,y],argTypes:= #[t,tx]}) ty ps af g)->brk.contains i=true)
  (hr:GR O el te.size B p n' L) (hs:zP O te.size q=some (j,ds)) (il:ds.all dK=true) (hu:(tab t).map cy.under=some (.slice el)) (he:tab el=some te) (uZ:(tab tx).map cy.under=some dx) (Ei:zQ q dx) (hb:(n'+j)*te.bytes<=140737488355328) (hm:n'+j<=maxLen) (hB:B<=O.next)
  (hx:ev e x=some p) (hy:ev e y=some q) (hg:aN ops (.mk d (.call {callee:=.builtin .append,args:= #[x,y],argTypes:= #[t,tx]}) ty ps af g) e=some true) (hd:bp n d=true)
  (h:∀m O',GR O' el te.size B m (n'+j) (L++ds)->br O (gid p) O'->(gid p=none->O.Ge O')->((∃k c,m= .bq k 0 (n'+j) c/\(gid p=some k\/(O.next<=k/\j≠0)))\/(j=0/\m=p/\O'=O))->WL P tab n D (.held brk) ops Q LL (aV d m e) O'):
  VL P n D (.held brk) ops ((.one,.mk d (.call {callee:=.builtin .append,args:= #[x,y],argTypes:= #[t,tx]}) ty ps af g)::LL) e O Q:=by
 refine VL.im hg hd (fun _ afi h=>by injection h with h;subst h;exact hne) (fun afi h=>by injection h with h;subst h;exact .inr hne) (Qz ht hr hs il hu he uZ Ei hb hm hB hx hy) (fun afi h i hi=>by injection h with h;subst h;exact pD i hi) ?_;rintro m O' ⟨h1,h2,h3,h4⟩;exact WL.sound ht (h m O' h1 h2 h3 h4)
theorem bL.mv {brk:List Nat} {fuel:Nat} (i:Nat) {listed:Array Bool} {l:List Oper} {d:Option Tmp} {x:Operand} {ty:TypeId} {ps:String} {af:Array Edge} {g:Option (Nat×Bool)} (h:bL P n D ⟨l⟩ brk fuel (listed.setIfInBounds i true) (aV d m e) O Q) (ho:l[i]?=some (.mk d (.move x) ty ps af g):=by exact rfl) (hs:Region.noSelect ⟨l⟩=true:=by kernel_rfl) (hf:Region.free .any ⟨l⟩ listed i=true:=by kernel_rfl) (hr:(Region.ready .any ⟨l⟩ listed).contains i=true:=by kernel_rfl) (CX:brk.contains i=true:=by kernel_rfl) (hg:aN ⟨l⟩ (.mk d (.move x) ty ps af g) e=some true:=by exact rfl) (hd:bp n d=true:=by exact rfl) (hx:ev e x=some m:=by exact rfl):bL P n D ⟨l⟩ brk (fuel+1) listed e O Q:=by
 intro G a w hw aU;have hu:=aU.ev hx;have cj:∀w:World,(execOp a.eval (.mk d (.move x) ty ps af g)).run P w= .ok (.value (a.eval x)) w:=fun w=>by simp[execOp]
 have CY:(⟨l⟩:Array Oper)[i]?=some (.mk d (.move x) ty ps af g):=by simpa using ho
 refine nU (S:=fun _=>True) (W:=fun _=>False) (brk:=fun _=>false) CY (Region.noSelect_spec hs) (g_ hd) (fun _ _ _ _=>trivial) (fun x _ hh=>by rw[CX]at hh;cases hh) fuel listed a w (Region.free_spec CY hf) (fun _ _ _ h=>h.elim) (fun _ h=>h.elim) (fun _ _ _ h=>by cases h) (by simpa using hr) (.inl ⟨bn aU hg,fun x _=>cj x⟩) trivial (h G _ w hw (aU.aV hd hu))
theorem bL.bO (ix:List (Nat×Fl)) {brk:List Nat} {fuel:Nat} {listed:Array Bool} {l:List Oper} {L:List (Fl×Oper)} (h:WL P tab n D (.held brk) ⟨l⟩ Q L e O) (ht:aL P tab:=by exact aa) (hs:Region.noSelect ⟨l⟩=true:=by kernel_rfl) (hp:cH (.held brk) ⟨l⟩ fuel listed ix=true:=by kernel_rfl) (hL:mW l ix=some L:=by exact rfl):bL P n D ⟨l⟩ brk fuel listed e O Q:=
 (WL.sound ht h) fuel listed ix (sM hL) (fun _=>⟨hs,hp⟩)
theorem VC.gen {c:Code} (h:∀O3,O3=O->VC P n D c e O3 Q):VC P n D c e O Q:=h _ rfl
theorem WL.gen {L:List (Fl×Oper)} (h:∀O3,O3=O->WL P tab n D md ops Q L e O3):WL P tab n D md ops Q L e O:=h _ rfl
theorem gj (a b:cf) {O1:VH} (h:O1=(O.push a).push b):O.Ge O1/\O1.next=O.next+2/\O1.hp O.next=some a/\O1.hp (O.next+1)=some b:=by
 subst h;exact⟨((VH.Ge.refl O).push _).push _,rfl,(VH.pE _ _ (show O.next≠O.next+1 by omega)).trans (VH.aW _ _),VH.aW _ _⟩
theorem lP (a b c:cf) {O1:VH} (h:O1=((O.push a).push b).push c):O.Ge O1/\O1.next=O.next+3/\O1.hp O.next=some a/\O1.hp (O.next+1)=some b/\O1.hp (O.next+2)=some c:=by
 subst h;obtain⟨h1,h2,h3,h4⟩:=gj (O:=O) a b rfl;exact⟨h1.push _,rfl,(VH.pE _ _ (show O.next≠O.next+2 by omega)).trans h3,(VH.pE _ _ (show O.next+1≠O.next+2 by omega)).trans h4,VH.aW _ _⟩
theorem QA (a b c d:cf) {O1:VH} (h:O1=(((O.push a).push b).push c).push d):O.Ge O1/\O1.next=O.next+4/\O1.hp O.next=some a/\O1.hp (O.next+1)=some b/\O1.hp (O.next+2)=some c/\O1.hp (O.next+3)=some d:=by
 subst h;obtain⟨h1,h2,h3,h4,h5⟩:=lP (O:=O) a b c rfl;exact⟨h1.push _,rfl,(VH.pE _ _ (show O.next≠O.next+3 by omega)).trans h3,(VH.pE _ _ (show O.next+1≠O.next+3 by omega)).trans h4,(VH.pE _ _ (show O.next+2≠O.next+3 by omega)).trans h5,VH.aW _ _⟩
theorem bL.By (i:Nat) {brk:List Nat} {fuel:Nat} {listed:Array Bool} {l:List Oper} {o:Oper} (h:zZ (fun m O'=>bL P n D ⟨l⟩ brk fuel (listed.setIfInBounds i true) (aV o.dst m e) O' Q) (iC tab .rd o e O)) (ht:aL P tab:=by exact aa) (ho:l[i]?=some o:=by exact rfl) (hs:Region.noSelect ⟨l⟩=true:=by kernel_rfl) (hf:Region.free .any ⟨l⟩ listed i=true:=by kernel_rfl) (hr:(Region.ready .any ⟨l⟩ listed).contains i=true:=by kernel_rfl) (hb:nI ⟨l⟩ brk listed i=true:=by kernel_rfl) (hg:aN ⟨l⟩ o e=some true:=by exact rfl) (hd:bp n o.dst=true:=by exact rfl):bL P n D ⟨l⟩ brk (fuel+1) listed e O Q:=by
 generalize hv:iC tab .rd o e O=v at h;cases v with
 | none=>exact h.elim
 | some p=>
   obtain⟨m,O'⟩:=p
   exact bL.take (by simpa using ho) hs hf hr hb hd (fun G a w hw aU=>by
    obtain⟨_,u,hu,cj⟩:=wI (P:=P) ht hw aU (by simp) hv;exact⟨u,hu,.inl ⟨bn aU hg,cj⟩⟩) (by
    obtain rfl:=uN (by simp) hv;exact h)
theorem bL.fin {brk:List Nat} {fuel:Nat} {listed:Array Bool} (hb:((List.range listed.size).all fun j=>listed.getD j true||brk.contains j)=true) (h:cn P n D ops fuel listed e O Q):bL P n D ops brk fuel listed e O Q:=by
 intro G a w hw aU;refine k_ _ _ _ _ (fun j hj x hs hh=>?_) (h G a w hw aU);rcases alJ j listed.size with hl | hl
 ·have:=alH.1 hb j (alU.2 hl);rw[hj,alV]at this;rw[this]at hh;cases hh
 ·rw[alC,alG (by simpa using hl)]at hj;cases hj
theorem cn.SM {i:Nat} {fuel:Nat} {listed:Array Bool} {l:List Oper} {o:Oper} (h:zZ (fun m O'=>cn P n D ⟨l⟩ fuel (listed.setIfInBounds i true) (aV o.dst m e) O' Q) (c8 tab o e O)) (ht:aL P tab:=by exact aa) (ho:l[i]?=some o:=by exact rfl) (hr:Region.ready .any ⟨l⟩ listed=[i]:=by kernel_rfl) (hg:aN ⟨l⟩ o e=some true:=by exact rfl) (hd:bp n o.dst=true:=by exact rfl):cn P n D ⟨l⟩ (fuel+1) listed e O Q:=
 cn.all hr (by simp) fun j hj=>by
  obtain rfl:j=i:=by simpa using hj
  exact aK.o1 h (ht:=ht) (ho:=ho) (hg:=hg) (hd:=hd)
theorem cn.st {i:Nat} {fuel:Nat} {listed:Array Bool} {l:List Oper} {o:Oper} {M:MV->VH->Prop} (ho:l[i]?=some o) (hr:Region.ready .any ⟨l⟩ listed=[i]) (hg:aN ⟨l⟩ o e=some true) (hd:bp n o.dst=true) (hy:fV P n D o e O M)
  (h:∀m O',M m O'->cn P n D ⟨l⟩ fuel (listed.setIfInBounds i true) (aV o.dst m e) O' Q):cn P n D ⟨l⟩ (fuel+1) listed e O Q:=
 cn.all hr (by simp) fun j hj=>by
  obtain rfl:j=i:=by simpa using hj
  exact aK.st hy h (ho:=ho) (hg:=hg) (hd:=hd)
theorem cn.two {i j:Nat} {fuel:Nat} {listed:Array Bool} (hr:Region.ready .any ops listed=[i,j])
  (h1:aK P n D ops i e O Q fun e' O'=>cn P n D ops fuel (listed.setIfInBounds i true) e' O' Q) (h2:aK P n D ops j e O Q fun e' O'=>cn P n D ops fuel (listed.setIfInBounds j true) e' O' Q):cn P n D ops (fuel+1) listed e O Q:=
 cn.all hr (by simp) fun x hx=>by
  simp only[alI,List.not_mem_nil,or_false]at hx;rcases hx with rfl | rfl
  ·exact h1
  ·exact h2
theorem WR.V2 (h:WR G O w) {k:Nat} {cs ds:List MV} (hk:O.hp k=some (.cells cs)) (hw:eS cs ds):WR G (O.set k (.cells ds)) w:=
 h.swap (by rw[hk];simp) (fun cs' e=>by
  injection e with e;subst e
  obtain⟨b,C,T,h1,h2,h3⟩:=h.cells k cs hk;exact⟨b,C,T,h1,h2,by rw[<-hw.1];exact hw.vrs h3⟩) (fun X e=>by cases e) (fun _ _ e=>by cases e) (fun e=>by cases e) (fun _ _ _ e=>by cases e)
theorem VC.V2 {c:Code} {k:Nat} {cs ds:List MV} (hk:O.hp k=some (.cells cs)) (hw:eS cs ds) (h:VC P n D c e (O.set k (.cells ds)) Q):VC P n D c e O Q:=fun G a w hwr hf=>h G a w (hwr.V2 hk hw) hf
theorem WR.wR (h:WR G O w) {k p o n c sz:Nat} {cs A E:List MV} (hk:O.hp k=some (.cells cs)) (hp:O.hp p=some (.cells (A++ .bq k o n c::E))) (jC:p≠k) (hl:o+sz<=cs.length):∃H,Gh.Le G H/\WR H ((O.kill k).set p (.cells (A++ .sl n ((cs.drop o).take sz) .ar::E))) w:=by
 obtain⟨b,C,T,h1,h2,h3⟩:=h.cells p _ hp;obtain⟨u,hu,hv⟩:=h3.get (i:=A.length) (c:=.bq k o n c) (by rw[ah2 (XN _),Nat.sub_self];rfl);obtain⟨H,h4,h5,h6⟩:=h.freeze hk hv hl;refine⟨H,h4,?_⟩;have Mm:(O.kill k).hp p=some (.cells (A++ .bq k o n c::E)):=(VH.kN _ jC).trans hp;refine h5.swap (by rw[Mm];simp) (fun cs' e=>?_) (fun X e=>by cases e) (fun _ _ e=>by cases e) (fun e=>by cases e) (fun _ _ _ e=>by cases e);injection e with e;subst e
 refine⟨b,C,T,h4.bR h1,h2,?_⟩;have h7:=h3.mono h4;refine⟨?_,fun i c' u' hc DB=>?_⟩
 ·rw[yP,Kn]at h7 ⊢;have:=h7.1;rw[yP,Kn]at this;exact this
 ·have hlen:(A++MV.sl n ((cs.drop o).take sz) .ar::E).length=(A++MV.bq k o n c::E).length:=by simp
  rw[hlen]at DB;by_cases hi:i=A.length
  ·subst hi;rw[ah2 (XN _),Nat.sub_self]at hc;injection hc with hc;subst hc
   rw[hu]at DB;injection DB with DB;subst DB
   exact Wk.tok _ _ h6
  ·refine h7.2 i c' u' ?_ DB;rcases alJ i A.length with ew | iy
   ·rw[alN ew]at hc ⊢;exact hc
   ·rw[ah2 iy]at hc ⊢;obtain⟨j,hj⟩:∃j,i - A.length=j+1:=⟨i - A.length - 1,by omega⟩
    rw[hj,ah7]at hc ⊢;exact hc
theorem VC.wR {c0:Code} {k p o n' c sz:Nat} {cs A E:List MV} (hk:O.hp k=some (.cells cs)) (hp:O.hp p=some (.cells (A++ .bq k o n' c::E))) (jC:p≠k) (hl:o+sz<=cs.length) (h:VC P n D c0 e ((O.kill k).set p (.cells (A++ .sl n' ((cs.drop o).take sz) .ar::E))) Q):VC P n D c0 e O Q:=fun G a w hw hf=>by
 obtain⟨H,h1,h2⟩:=hw.wR hk hp jC hl;exact wp_mono (h H a w h2 (hf.mono h1)) fun _ _ _=>cz.le h1
end
section
variable {G H:Gh} {n:Sz} {D:List Deferred} {e e':Env} {a:Act} {P:Program} {tab:bY} {O O':VH} {w:World} {m m':MV} {u v:Value} {ops:Array Oper} {Q:VQ} {md:Md}
theorem ab.ai8 (i:Nat) {brk:List Nat} {Ψ :Gh->Prop} {J:VH->Prop} {Z:Prop} {fuel:Nat} {listed:Array Bool} {l:List Oper} {o:Oper} (h:zZ (fun m O'=>ab P n D ⟨l⟩ brk J Ψ Z fuel (listed.setIfInBounds i true) (aV o.dst m e) O' Q) (iC tab .av o e O)) (ht:aL P tab:=by exact aa) (ho:l[i]?=some o:=by exact rfl) (hs:Region.noSelect ⟨l⟩=true:=by kernel_rfl) (hf:Region.free .any ⟨l⟩ listed i=true:=by kernel_rfl) (hr:(Region.ready .any ⟨l⟩ listed).contains i=true:=by kernel_rfl) (CX:brk.contains i=true:=by kernel_rfl) (hg:aN ⟨l⟩ o e=some true:=by exact rfl) (hd:bp n o.dst=true:=by exact rfl):ab P n D ⟨l⟩ brk J Ψ Z (fuel+1) listed e O Q:=by
 generalize hv:iC tab .av o e O=v at h;cases v with
 | none=>exact h.elim
 | some p=>
   obtain⟨m,O'⟩:=p;obtain⟨h1,rfl⟩:=nJ hv;intro hΨ hZ hJ G a w hψ hw aU;obtain⟨u,hu,cj⟩:=uz (P:=P) ht aU h1;have CY:(⟨l⟩:Array Oper)[i]?=some o:=by simpa using ho
   exact nU (S:=fun x=>SS G x) (W:=fun _=>False) (brk:=fun _=>false) CY (Region.noSelect_spec hs) (g_ hd) (fun _ _ _ hT=>hT.1) (fun x hx=>⟨hx,fun hh=>by rw[CX]at hh;cases hh⟩) fuel listed a w (Region.free_spec CY hf) (fun _ _ _ h=>h.elim) (fun _ h=>h.elim) (fun _ _ _ h=>by cases h) (by simpa using hr) (.inl ⟨bn aU hg,fun x hx=>cj x hx⟩) hw.ss (h hΨ hZ hJ G _ w hψ hw (aU.aV hd hu))
theorem VC.s8 {id:Nat} (brk:List Nat) (J:VH->Prop) (hJ:J O) (h:ab P n D ops brk J (fun _=>True) True ops.size (Array.replicate ops.size false) e O Q) (hm:P.follows .mixedOrders=true:=by kernel_rfl):VC P n D (.region id ops true) e O Q:=
 fun G a w hw hf=>wp_region_any hm (jF _ _ _ _ (h (fun _ _ _ _=>trivial) trivial hJ G a _ trivial (hw.drawn _) hf))
def exP:MV->Bool
 | .ptr _ _=>true
 | .map _=>true
 | m=>exM m
theorem aac (hm:exP m=true) (h1:VR G m u) (hl:Gh.Le G H) (h2:VR H m v):v=u:=by
 cases m with
 | ptr k o=>
   cases h1 with
   | ptr a=>cases h2 with
     | ptr b=>rw[hl.bR a]at b;injection b with b;rw[b]
 | map k=>
   cases h1 with
   | map a=>cases h2 with
     | map b=>rw[hl.bR a]at b;injection b with b;rw[b]
 | _=>refine Ss ?_ h1 h2;exact hm
theorem ab.mP (i:Nat) {J:VH->Prop} {Ψ :Gh->Prop} {Z:Prop} {brk:List Nat} {fuel:Nat} {listed:Array Bool} {l:List Oper} {d:Option Tmp} {t:TypeId} {x:Operand} {ty:TypeId} {ps:String} {af:Array Edge} {g:Option (Nat×Bool)} {p:MV} (hv:∀O2,J O2->eZ tab O2 t p=some m) (h:ab P n D ⟨l⟩ brk J Ψ Z fuel (listed.setIfInBounds i true) (aV d m e) O Q) (ht:aL P tab:=by exact aa) (ho:l[i]?=some (.mk d (.load t x) ty ps af g):=by exact rfl) (hs:Region.noSelect ⟨l⟩=true:=by kernel_rfl) (hf:Region.free .any ⟨l⟩ listed i=true:=by kernel_rfl) (hr:(Region.ready .any ⟨l⟩ listed).contains i=true:=by kernel_rfl) (hb:nI ⟨l⟩ brk listed i=true:=by kernel_rfl) (hg:aN ⟨l⟩ (.mk d (.load t x) ty ps af g) e=some true:=by exact rfl) (hd:bp n d=true:=by exact rfl) (hx:ev e x=some p:=by exact rfl) (hm:exP m=true:=by exact rfl):ab P n D ⟨l⟩ brk J Ψ Z (fuel+1) listed e O Q:=by
 refine ab.take (o:=.mk d (.load t x) ty ps af g) (by simpa using ho) hs hf hr hb hd (fun G a w _ hJ _ hw aU=>?_) h;obtain⟨u0,I3,_⟩:=n0 (P:=P) ht hw (hv O hJ) (aU.ev hx);refine⟨u0,I3,.inl ⟨bn aU hg,fun y hy=>?_⟩⟩;obtain⟨H,O2,g1,g2,g3⟩:=hy;obtain⟨r,g4,g5⟩:=n0 (P:=P) ht g2 (hv O2 g3) ((aU.ev hx).mono g1);have:=g5 y g2.sx;have er:=aac hm I3 g1 g4;subst er;simp only[execOp,Sem.run_bind,this];rfl
def Mn (k1 k2:Nat) (X1 X2:Obj) (O':VH):Prop:=O'.hp k1=some (.obj X1)/\O'.hp k2=some (.obj X2)
def ΨFF (QB Mo:List MV) (X1 X2:Obj) (G:Gh):Prop:=iH QB X1 G/\iH Mo X2 G
theorem VC.Dn {id:Nat} (brk:List Nat) (k1 k2:Nat) {QB Mo:List MV} (dY:O.hp k1=some (.cells QB)) (bJ:O.hp k2=some (.cells Mo))
  (h:∀X1 X2,ab P n D ops brk (Mn k1 k2 X1 X2) (ΨFF QB Mo X1 X2) True ops.size (Array.replicate ops.size false) e ((O.set k1 (.obj X1)).set k2 (.obj X2)) Q) (hne:k2≠k1:=by omega) (hm:P.follows .mixedOrders=true:=by kernel_rfl):VC P n D (.region id ops true) e O Q:=
 fun G a w hw hf=>by
  obtain⟨X1,ez,Es⟩:=(hw.drawn _).fix dY;obtain⟨X2,jc,qx⟩:=Es.fix (k:=k2) (cs:=Mo) ((VH.ak _ _ hne).trans bJ);exact wp_region_any hm (jF _ _ _ _ (h X1 X2 (fun _ _ hl hx=>⟨iH.mono hl hx.1,iH.mono hl hx.2⟩) trivial ⟨(VH.ak _ _ (Ne.symm hne)).trans (VH.an _ _ _),VH.an _ _ _⟩ G a _ ⟨ez,jc⟩ qx hf))
theorem ab.oe (i:Nat) {J:VH->Prop} {Ψ :Gh->Prop} {Z:Prop} {brk:List Nat} {cs:List MV} {X:Obj} {fuel:Nat} {listed:Array Bool} {l:List Oper} {d:Option Tmp} {t:TypeId} {x:Operand} {ty:TypeId} {ps:String} {af:Array Edge} {g:Option (Nat×Bool)} {k off:Nat} (hJ:∀O',J O'->O'.hp k=some (.obj X)) (hΨ :∀G, Ψ G->iH cs X G) (hv:eZ tab (O.set k (.cells cs)) t (.ptr k off)=some m) (h:ab P n D ⟨l⟩ brk J Ψ Z fuel (listed.setIfInBounds i true) (aV d m e) O Q) (ht:aL P tab:=by exact aa) (ho:l[i]?=some (.mk d (.load t x) ty ps af g):=by exact rfl) (hs:Region.noSelect ⟨l⟩=true:=by kernel_rfl) (hf:Region.free .any ⟨l⟩ listed i=true:=by kernel_rfl) (hr:(Region.ready .any ⟨l⟩ listed).contains i=true:=by kernel_rfl) (hb:nI ⟨l⟩ brk listed i=true:=by kernel_rfl) (hg:aN ⟨l⟩ (.mk d (.load t x) ty ps af g) e=some true:=by exact rfl) (hd:bp n d=true:=by exact rfl) (hx:ev e x=some (.ptr k off):=by exact rfl):ab P n D ⟨l⟩ brk J Ψ Z (fuel+1) listed e O Q:=by
 refine ab.take (o:=.mk d (.load t x) ty ps af g) (by simpa using ho) hs hf hr hb hd (fun G a w _ hJO hψ hw aU=>?_) h;obtain⟨C,T,rfl,h3⟩:=hΨ G hψ;unfold eZ at hv;simp only[cellsOf,VH.an]at hv;split at hv
 ·rename_i ti cs' off' OV hc;injection hc with hc;injection hc with e1 e2;subst e1;subst e2
  obtain⟨r,ny,fl⟩:=Et (P:=P) ht OV hv h3;have ZD:=aU.ev hx;generalize ZE:a.eval x=xu at ZD;cases ZD with
  | ptr hp=>
    rename_i b;refine⟨r,ny,.inl ⟨bn aU hg,fun y hy=>?_⟩⟩;obtain⟨H,O2,g1,g2,g3⟩:=hy;obtain⟨b',cA,ct⟩:=g2.obj k _ (hJ _ g3);rw[g1.bR hp]at cA;injection cA with cA;subst cA
    have:=fl y b fun j v hj=>by
     rw[alL]at hj;split at hj
     ·simp only[World.cell?,ct,Option.isSome_none,alM,if_false];simpa using hj
     ·cases hj
    simp only[execOp,Sem.run_bind,ZE,this];rfl
 ·cases hv
theorem ab.wS (ix:List (Nat×Fl)) {brk:List Nat} {k1 k2:Nat} {QB Mo:List MV} {X1 X2:Obj} {fuel:Nat} {listed:Array Bool} {l:List Oper} {L:List (Fl×Oper)}
  (h:WL P tab n D .any ⟨l⟩ Q L e ((O.set k1 (.cells QB)).set k2 (.cells Mo))) (ht:aL P tab:=by exact aa) (hb:((List.range listed.size).all fun j=>listed.getD j true||brk.contains j)=true:=by kernel_rfl) (hs:Region.noSelect ⟨l⟩=true:=by kernel_rfl) (hp:cH .any ⟨l⟩ fuel listed ix=true:=by kernel_rfl) (hL:mW l ix=some L:=by exact rfl) (hne:k2≠k1:=by omega):ab P n D ⟨l⟩ brk (Mn k1 k2 X1 X2) (ΨFF QB Mo X1 X2) True fuel listed e O Q:=by
 have h':=cn.bO ix h (ht:=ht) (hs:=hs) (hp:=hp) (hL:=hL);intro hΨ hZ hJ G a w hψ hw aU;refine k_ _ _ _ _ (fun j hj x hs=>⟨hs,fun hh=>?_⟩) (h' G a w ((hw.rU hJ.1 hψ.1).rU (k:=k2) ((VH.ak _ _ hne).trans hJ.2) hψ.2) aU);rcases alJ j listed.size with hl | hl
 ·have:=alH.1 hb j (alU.2 hl);rw[hj,alV]at this;rw[this]at hh;cases hh
 ·rw[alC,alG (by simpa using hl)]at hj;cases hj
theorem VC.Aq {id:Nat} (brk:List Nat) (k:Nat) {cs:List MV} (J0:VH->Prop) (hk:O.hp k=some (.cells cs)) (h0:∀X,J0 (O.set k (.obj X)))
  (h:∀X,ab P n D ops brk (fun O'=>O'.hp k=some (.obj X)/\J0 O') (iH cs X) True ops.size (Array.replicate ops.size false) e (O.set k (.obj X)) Q) (hm:P.follows .mixedOrders=true:=by kernel_rfl):VC P n D (.region id ops true) e O Q:=
 fun G a w hw hf=>by
  obtain⟨X,hx,qx⟩:=(hw.drawn _).fix hk;exact wp_region_any hm (jF _ _ _ _ (h X (fun _ _=>iH.mono) trivial ⟨VH.an _ _ _,h0 X⟩ G a _ hx qx hf))
theorem ab.jQ (ix:List (Nat×Fl)) {brk:List Nat} {k:Nat} {cs:List MV} {X:Obj} {J0:VH->Prop} {fuel:Nat} {listed:Array Bool} {l:List Oper} {L:List (Fl×Oper)}
  (h:WL P tab n D .any ⟨l⟩ Q L e (O.set k (.cells cs))) (ht:aL P tab:=by exact aa) (hb:((List.range listed.size).all fun j=>listed.getD j true||brk.contains j)=true:=by kernel_rfl) (hs:Region.noSelect ⟨l⟩=true:=by kernel_rfl) (hp:cH .any ⟨l⟩ fuel listed ix=true:=by kernel_rfl) (hL:mW l ix=some L:=by exact rfl):ab P n D ⟨l⟩ brk (fun O'=>O'.hp k=some (.obj X)/\J0 O') (iH cs X) True fuel listed e O Q:=by
 have h':=cn.bO ix h (ht:=ht) (hs:=hs) (hp:=hp) (hL:=hL);intro hΨ hZ hJ G a w hψ hw aU;refine k_ _ _ _ _ (fun j hj x hs=>⟨hs,fun hh=>?_⟩) (h' G a w (hw.rU hJ.1 hψ) aU);rcases alJ j listed.size with hl | hl
 ·have:=alH.1 hb j (alU.2 hl);rw[hj,alV]at this;rw[this]at hh;cases hh
 ·rw[alC,alG (by simpa using hl)]at hj;cases hj
end
set_option linter.defProp false in
def bP:=RZ eo<|RZ T4 T3
def lx (eE:Bool) (s:Bs):Bool:=(lr s).2&&(eE||(lr s).1 != 6)
theorem QC (eE:Bool) (O:VH):VF Tryz.prog 299 [mb eE] O (aE fun m O'=>m= .func (.func 316) [] [.ptr O.next 0]/\pQ O [mb eE] O'):=by
 refine VF.bN 4 [.tmp 2] Tryz.func299 ?_;refine VC.ag aa (ae @bP ?_);refine VC.bx ?_;rintro O1 h1;refine WC.sound aa (ae @bP ?_);exact h1
theorem Mp (eE:Bool) (s:Bs) (b:Nat) (O:VH) (hb:O.hp b=some (.cells [mb eE])):VF Tryz.prog 316 ([.str s]++[.ptr b 0]) O (aE fun m O'=>m=mb (lx eE s)/\O.Ge O'):=by
 have hS:=Ml s O;have hF:lx eE s=((lr s).2&&(eE||(lr s).1 != 6)):=rfl;generalize lx eE s=W at*;generalize lr s=q at*;obtain⟨n,c⟩:=q;simp only[acv,XO];dsimp only at hF hS;simp only[a_]at hb;refine VF.dy 19 [.tmp 3] Tryz.func316 ?_;refine ae @bP ?_;refine ah.rt (hS) ?_;rintro _ O2 ⟨rfl,rfl⟩;subst hF;cases c
 ·refine ao @bP @hb ?_;exact VH.Ge.refl _
 ·cases eE
  ·by_cases h6:n=6
   ·subst h6;refine ao @bP @hb ?_;exact⟨rfl,VH.Ge.refl _⟩
   ·have h6':((n:Int)==6)=false:=by rw[beq_eq_false_iff_ne];omega
    have h6b:((n:Int) != 6)=true:=by rw[bne,h6'];rfl
    have h6n:(n != 6)=true:=by rw[bne_iff_ne];exact h6
    refine gQ @bP @hb @h6' @h6b @h6n ?_;exact VH.Ge.refl _
  ·refine ao @bP @hb ?_;exact VH.Ge.refl _
structure DS (O:VH) (B:Nat) (E:List MV) (O':VH) (cs:List MV):Prop where
 ei:O.Ge O'
 le:O.next<=B
 x:O'.hp B=some (.cells E)
 d:O'.hp (B+1)=some (.cells cs)
 lt:B+1<O'.next
theorem DS.st {O O':VH} {B:Nat} {E cs cs':List MV} (h:DS O B E O' cs):DS O B E (O'.set (B+1) (.cells cs')) cs':=
 ⟨h.ei.set (by have:=h.le;omega) _,h.le,VH.sn h.x,VH.an _ _ _,h.lt⟩
theorem DS.ge {O O' O2:VH} {B:Nat} {E cs:List MV} (h:DS O B E O' cs) (k:O'.Ge O2):DS O B E O2 cs:=
 ⟨h.ei.trans k,h.le,(k.hp _ (by have:=h.lt;omega)).trans h.x,(k.hp _ h.lt).trans h.d,agr h.lt k.next⟩
theorem DS.rU {O O' O2:VH} {B:Nat} {E cs:List MV} {X:Obj} (h:DS O B E O' cs) (k:(O'.set B (.obj X)).Ge O2):DS O B E (O2.set B (.cells E)) cs:=by
 have e1:(O'.set B (.obj X)).next=O'.next:=rfl;have e2:(O2.set B (.cells E)).next=O2.next:=rfl;have h1:=h.le;have h2:=h.lt;have h3:=h.ei.next;have h4:=k.next;refine⟨⟨by omega,fun j hj=>?_⟩,h.le,VH.an _ _ _,?_,by omega⟩
 ·rw[VH.ak _ _ (by omega),k.hp j (by omega),VH.ak _ _ (by omega)];exact h.ei.hp j hj
 ·rw[VH.ak _ _ (by omega),k.hp _ (by omega),VH.ak _ _ (by omega)];exact h.d
theorem VC.ds {P:Program} {n:Sz} {D:List Deferred} {c:Code} {e:Env} {Q:VQ} {O O':VH} {B:Nat} {E cs cs':List MV} (h:DS O B E O' cs) (k:∀O3,DS O B E O3 cs'->VC P n D c e O3 Q):VC P n D c e (O'.set (B+1) (.cells cs')) Q:=k _ h.st
theorem VC.ds0 {P:Program} {n:Sz} {D:List Deferred} {c:Code} {e:Env} {Q:VQ} {O:VH} {E cs:List MV} (k:∀O3,DS O O.next E O3 cs->VC P n D c e O3 Q):VC P n D c e ((O.push (.cells E)).push (.cells cs)) Q:=
 k _ ⟨((VH.Ge.refl O).push _).push _,XN _,(VH.bA _ _ (ah0 _)).trans (VH.aW _ _),VH.aW _ _,ah0 _⟩
def dI:Bs->Bool:=fun _=>true
theorem s9 (s:Bs) (O':VH):VF Tryz.prog 251 ([.str s]++[]) O' (aE fun m kx=>m=mb (dI s)/\O'.Ge kx):=adK s O'
theorem V3 (s:Bs) (O':VH):VF Tryz.prog 300 ([.str s]++[]) O' (aE fun m kx=>m=mb (mC s)/\O'.Ge kx):=Qn s O'
def h_ (s:Bs):Bool:=Ai ⟨s,s⟩
theorem Mq (s:Bs) (O':VH) (hs:s.length<=1024):VF Tryz.prog 301 ([.str s]++[]) O' (aE fun m kx=>m=mb (h_ s)/\O'.Ge kx):=VZ s O' (by simp only[maxLen];omega)
def exE (k:Nd×Bs):Except (Int×Bs) fR:=
 match bS k.1 k.2 dW true h_ with
 | .error e=>.error e
 | .ok g=>match bS k.1 k.2 dM true h_ with
   | .error e=>.error e
   | .ok a=>.ok ⟨g,a⟩
def xJ:List (Nd×Bs)->List fR->Except (Int×Bs) (List fR)
 | [],X=>.ok X
 | k::r,X=>match exE k with
   | .error e=>.error e
   | .ok i=>xJ r (X++[i])
def vi (x:Nd) (w:Bs):Except (Int×Bs) (List fR):=
 match cw x w lN with
 | .error e=>.error e
 | .ok ((_,_),false)=>.ok []
 | .ok ((y,wy),true)=>match m9 y wy tV with
   | .error e=>.error e
   | .ok l=>xJ l []
def aad (s:Bs):Int:=if s=ki then 1 else if s=lh then 2 else 0
def oK (d:Dp):Except (Int×Bs) (List fR)->Except (Int×Bs) Dp
 | .error e=>.error e
 | .ok X=>.ok ⟨d.g,d.a,d.v,d.t,d.c,d.s,d.o,X⟩
def EV (x:Nd) (w:Bs) (eE:Bool):Except (Int×Bs) Dp:=
 match bS x w dW true dI with
 | .error e=>.error e
 | .ok g=>match bS x w dM true dI with
 | .error e=>.error e
 | .ok a=>match bS x w fA false dI with
 | .error e=>.error e
 | .ok v=>match bS x w Ak false dI with
 | .error e=>.error e
 | .ok t=>match bS x w Al false dI with
 | .error e=>.error e
 | .ok c=>match bS x w qK false (lx eE)with
 | .error e=>.error e
 | .ok s=>match bS x w mz false mC with
 | .error e=>.error e
 | .ok o=>oK ⟨g,a,v,t,c,(lr s).1,aad o,[]⟩ (vi x w)
theorem HR {y:Nd} {wy nm:Bs} {L:List (Nd×Bs)} (h:m9 y wy nm= .ok L):L.length<=1024/\∀p∈L,kJ p.1<=kJ y/\p.2.length<=wy.length+nm.length+1030:=by
 unfold m9 at h;split at h
 ·cases h
 ·rename_i hn;injection h with h;subst h
  refine⟨by rw[HQ];omega,fun p hp=>?_⟩;unfold pZ at hp;obtain⟨i,hi,rfl⟩:=List.mem_mapIdx.1 hp;have hk:=Qq (agw hi);have yG:=r6 (i+1);refine⟨alE hk,?_⟩;simp only[Dm,yP,Kn,Km];omega
theorem DS.ahb {O O' O2:VH} {B k:Nat} {E cs:List MV} {x y:cf} (h:DS O B E O' cs) (hk:B+1<k) (g:(O'.set k x).Ge O2):DS O B E (O2.set k y) cs:=by
 have e1:(O'.set k x).next=O'.next:=rfl;have e2:(O2.set k y).next=O2.next:=rfl;have h1:=h.le;have h2:=h.lt;have h3:=h.ei.next;have h4:=g.next
 have key:∀j,j<O'.next->j≠k->(O2.set k y).hp j=O'.hp j:=fun j hj hn=>by
  rw[VH.ak _ _ hn,g.hp j (by omega),VH.ak _ _ hn]
 exact⟨⟨by omega,fun j hj=>(key j (by omega) (by omega)).trans (h.ei.hp j hj)⟩,h.le,(key _ (by omega) (by omega)).trans h.x,(key _ (by omega) (by omega)).trans h.d,by omega⟩
theorem DS.app {O O':VH} {B sz:Nat} {E cs:List MV} {tk:Tok} (h:DS O B E O' cs) (ha:App O' (B+2) sz tk):DS O B E (O'.after tk) cs:=by
 have k:=cL.after ha;have h1:=h.le;have h2:=h.lt;have h3:=h.ei.next;have key:∀j,j<B+2->(O'.after tk).hp j=O'.hp j:=fun j hj=>k.hp j (by omega) (fun e=>by have:=(App.n8 ha e).1;omega)
 exact⟨⟨TP h3 k.next,fun j hj=>(key j (by omega)).trans (h.ei.hp j hj)⟩,h.le,(key _ (by omega)).trans h.x,(key _ (by omega)).trans h.d,agr h2 k.next⟩
theorem App.oh {O:VH} {B sz k:Nat} {tk:Tok} {x:cf} (h:App O B sz tk) (hk:O.hp k≠some .tok):App (O.set k x) B sz tk:=by
 cases tk with
 | own t j=>exact⟨h.1,(VH.ak _ _ (fun e=>by subst e;exact hk h.2.1)).trans h.2.1,h.2.2.1,h.2.2.2⟩
 | nil=>trivial
 | full=>trivial
 | ar=>exact h.elim
section
variable {P:Program} {n:Sz} {D:List Deferred} {e:Env} {O:VH} {Q:VQ}
theorem aK.p5 {i:Nat} {l:List Oper} {d:Option Tmp} {f:Operand} {xs:Array Operand} {ts:Array TypeId} {ty:TypeId} {ps:String} {af:Array Edge} {g:Option (Nat×Bool)} {id:FuncId} {ms cs:List MV} {R:fU->VH->Prop} {K:Env->VH->Prop} (hR:VF P id (ms++cs) O R)
  (h:∀m O',R (.ret m) O'->K (aV d m e) O') (h2:∀m O',R (.panic m) O'->Q (.panic m) (kM n e) O') (ho:l[i]?=some (.mk d (.call {callee:=.value f,args:=xs,argTypes:=ts}) ty ps af g):=by exact rfl) (hg:aN ⟨l⟩ (.mk d (.call {callee:=.value f,args:=xs,argTypes:=ts}) ty ps af g) e=some true:=by exact rfl) (hf:ev e f=some (.func (.func id) [] cs):=by exact rfl) (hm:fP e xs.toList=some ms:=by exact rfl) (hb:cR P id=true:=by kernel_rfl) (hd:bp n d=true:=by exact rfl):aK P n D ⟨l⟩ i e O Q K:=
 aK.call (o:=.mk d (.call {callee:=.value f,args:=xs,argTypes:=ts}) ty ps af g) (by simpa using ho) hg rfl rfl hf hm (Enters.sN hb) hd (by simpa using hR) fun r O' hr=>by
  cases r with
  | ret m=>exact h m O' hr
  | panic m=>exact h2 m O' hr
end
theorem ahc (x:Nd) (w:Bs) (eE:Bool) (O:VH) (hx:kJ x<=1000000) (hw6:w.length<=6000):
  VF Tryz.prog 276 [.agg (kI x w),mb eE] O (FQ O (EV x w eE) fun y m=>m= .agg (aS y)):=by
 have hw:w.length<=10000:=by omega
 refine VF.fgR ?_;have rq:=pY x w;have ve:=r7 x w lN;have vf:= @r9 x w lN;obtain⟨PE,hP⟩:∃PE,EV x w eE=PE:=⟨_,rfl⟩
 rw[hP];unfold EV at hP
 have Gr:∃a b c d e,kI x w=[a,b,c,d,e]:=by
  cases x;simp only[kI,dh];exact⟨_,_,_,_,_,rfl⟩
 obtain⟨a,b,c,d,e,hE⟩:=Gr;simp only[hE]at rq ve ⊢;clear hE;refine VF.bN 66 [.cell 4 63] Tryz.func276 ?_;refine VC.ag aa (ae @bP ?_);refine VC.ds0 ?_;intro _ hd;have eI:=hd.x;have cO:=hd.d;refine VC.ag aa (aJ @bP @eI @cO ?_);clear eI cO;refine ah.p (rq dW true dI 251 [] _ hx hw (by decide) (by kernel_rfl) (fun s O' _ _=>s9 s O')) ?_ ?_;rotate_left
 ·rintro m O9 ⟨bo,h⟩;cases hF:bS x w dW true dI with
  | ok s=>rw[hF]at h;exact h.elim
  | error e=>
    rw[hF]at h hP;dsimp only at h hP;rw[h, <-hP];refine ae @bP ?_;exact⟨hd.ei.trans bo,rfl⟩
 rintro m O1 ⟨bo,h⟩;cases QD:bS x w dW true dI with
 | error e=>rw[QD]at h;exact h.elim
 | ok s1=>
 rw[QD]at h hP;dsimp only at h hP;subst h;have hb:=hd.ge bo;clear bo hd;have eI:=hb.x;have cO:=hb.d;refine aJ @bP @eI @cO ?_;refine VC.ds hb ?_;clear eI cO hb;intro _ hd;have eI:=hd.x;have cO:=hd.d;refine VC.ag aa (aJ @bP @eI @cO ?_);clear eI cO;refine ah.p (rq dM true dI 251 [] _ hx hw (by decide) (by kernel_rfl) (fun s O' _ _=>s9 s O')) ?_ ?_;rotate_left
 ·rintro m O9 ⟨bo,h⟩;cases hF:bS x w dM true dI with
  | ok s=>rw[hF]at h;exact h.elim
  | error e=>
    rw[hF]at h hP;dsimp only at h hP;rw[h, <-hP];refine ae @bP ?_;exact⟨hd.ei.trans bo,rfl⟩
 rintro m O2 ⟨bo,h⟩;cases Jo:bS x w dM true dI with
 | error e=>rw[Jo]at h;exact h.elim
 | ok s2=>
 rw[Jo]at h hP;dsimp only at h hP;subst h;have hb:=hd.ge bo;clear bo hd;have eI:=hb.x;have cO:=hb.d;refine aJ @bP @eI @cO ?_;refine VC.ds hb ?_;clear eI cO hb;intro _ hd;have eI:=hd.x;have cO:=hd.d;refine VC.ag aa (aJ @bP @eI @cO ?_);clear eI cO;refine ah.p (rq fA false dI 251 [] _ hx hw (by decide) (by kernel_rfl) (fun s O' _ _=>s9 s O')) ?_ ?_;rotate_left
 ·rintro m O9 ⟨bo,h⟩;cases hF:bS x w fA false dI with
  | ok s=>rw[hF]at h;exact h.elim
  | error e=>
    rw[hF]at h hP;dsimp only at h hP;rw[h, <-hP];refine ae @bP ?_;exact⟨hd.ei.trans bo,rfl⟩
 rintro m O3 ⟨bo,h⟩;cases QF:bS x w fA false dI with
 | error e=>rw[QF]at h;exact h.elim
 | ok s3=>
 rw[QF]at h hP;dsimp only at h hP;subst h;have hb:=hd.ge bo;clear bo hd;have eI:=hb.x;have cO:=hb.d;refine aJ @bP @eI @cO ?_;refine VC.ds hb ?_;clear eI cO hb;intro _ hd;have eI:=hd.x;have cO:=hd.d;refine VC.ag aa (aJ @bP @eI @cO ?_);clear eI cO;refine ah.p (rq Ak false dI 251 [] _ hx hw (by decide) (by kernel_rfl) (fun s O' _ _=>s9 s O')) ?_ ?_;rotate_left
 ·rintro m O9 ⟨bo,h⟩;cases hF:bS x w Ak false dI with
  | ok s=>rw[hF]at h;exact h.elim
  | error e=>
    rw[hF]at h hP;dsimp only at h hP;rw[h, <-hP];refine ae @bP ?_;exact⟨hd.ei.trans bo,rfl⟩
 rintro m O4 ⟨bo,h⟩;cases hF4:bS x w Ak false dI with
 | error e=>rw[hF4]at h;exact h.elim
 | ok s4=>
 rw[hF4]at h hP;dsimp only at h hP;subst h;have hb:=hd.ge bo;clear bo hd;have eI:=hb.x;have cO:=hb.d;refine aJ @bP @eI @cO ?_;refine VC.ds hb ?_;clear eI cO hb;intro _ hd;have eI:=hd.x;have cO:=hd.d;refine VC.ag aa (aJ @bP @eI @cO ?_);clear eI cO;refine ah.p (rq Al false dI 251 [] _ hx hw (by decide) (by kernel_rfl) (fun s O' _ _=>s9 s O')) ?_ ?_;rotate_left
 ·rintro m O9 ⟨bo,h⟩;cases hF:bS x w Al false dI with
  | ok s=>rw[hF]at h;exact h.elim
  | error e=>
    rw[hF]at h hP;dsimp only at h hP;rw[h, <-hP];refine ae @bP ?_;exact⟨hd.ei.trans bo,rfl⟩
 rintro m O5 ⟨bo,h⟩;cases hF5:bS x w Al false dI with
 | error e=>rw[hF5]at h;exact h.elim
 | ok s5=>
 rw[hF5]at h hP;dsimp only at h hP;subst h;have hb:=hd.ge bo;clear bo hd;have eI:=hb.x;have cO:=hb.d;refine aJ @bP @eI @cO ?_;refine VC.ds hb ?_;clear eI cO hb;intro O6 hd;have eI:=hd.x;refine VC.bB ?_;refine VC.pK [7,8,9] (O.next) (eI) ?_;intro X;refine ab.av 1 ?_;refine ae @bP ?_;refine ab.sR (m:=.agg [a,b,c,d,e]) 0 ?_ ?_
 ·exact fe @bP
 simp only[aj];refine ab.call (i:=2) (QC eE _) ?_;rintro _ O7 ⟨rfl,fC,ui,uh⟩;simp only[aj];refine⟨(fC.hp _ (by have:=hd.lt;show _<O6.next;omega)).trans (VH.an _ _ _),?_⟩;have hl6:=hd.lt;have ai9:O7.next=O6.next+1:=uh;have afj:O7.hp O6.next=some (.cells [mb eE]):=ui;refine ab.jj (k:=O.next) (i:=3) (rq qK false (lx eE) 316 [.ptr O6.next 0] O7 hx hw (by decide) (by kernel_rfl) (fun s O' Jn _=>Mp eE s _ O' (Jn.at afj))) ?_ ?_;rotate_left
 ·rintro m O8 ⟨iI,h⟩;have hX:=((fC.trans iI).hp _ (by show O.next<O6.next;omega)).trans (VH.an _ _ _);refine⟨hX,?_⟩;cases hF:bS x w qK false (lx eE)with
  | ok s=>rw[hF]at h;exact h.elim
  | error e=>
    rw[hF]at h hP;dsimp only at h hP;rw[h, <-hP];refine ae @bP ?_;exact⟨(hd.rU (fC.trans iI)).ei,rfl⟩
 rintro m O8 ⟨iI,h⟩;have hX:=((fC.trans iI).hp _ (by show O.next<O6.next;omega)).trans (VH.an _ _ _);refine⟨hX,?_⟩;cases hF6:bS x w qK false (lx eE)with
 | error e=>rw[hF6]at h;exact h.elim
 | ok s6=>
 rw[hF6]at h hP;dsimp only at h hP;subst h;simp only[aj];refine ab.call (i:=4) (Ml s6 _) ?_;rintro _ O9 ⟨rfl,eO⟩;rw[eO];clear eO O9
 simp only[aj];refine⟨hX,?_⟩;have hb:=hd.rU (fC.trans iI);have cO:=(VH.ak O8 (.cells [a,b,c,d,e]) (by omega:O.next+1≠O.next)).symm.trans hb.d;refine ab.av 5 ?_;refine ae @bP ?_;refine ab.ai8 7 ?_;refine ae @bP ?_;refine ab.av 6 ?_;refine ae @bP ?_;refine ab.m4 [(8,.av),(9,.one)] ?_;refine ao @bP @cO ?_;clear ui afj cO hX eI;generalize lr s6=sc at*;refine VC.ds hb ?_;clear hb hd fC iI hl6 uh ai9;intro O9 hd;have eI:=hd.x;have cO:=hd.d;refine VC.bC [2,4] (fun _:Int=>[.ptr O.next 0,.ptr (O.next+1) 0]) (fun o O'=>DS O O.next [a,b,c,d,e] O' [.str s1,.str s2,.str s3,.str s4,.str s5,mi sc.1,mi o,.sl 0 [] .nil]/\oK ⟨s1,s2,s3,s4,s5,sc.1,o,[]⟩ (vi x w)=PE) ?_ ?_
 ·refine VC.ag aa (aJ @bP @eI @cO ?_);clear eI cO;refine ah.p (rq mz false mC 300 [] _ hx hw (by decide) (by kernel_rfl) (fun s O' _ _=>V3 s O')) ?_ ?_;rotate_left
  ·rintro m O9 ⟨bo,h⟩;cases hF:bS x w mz false mC with
   | ok s=>rw[hF]at h;exact h.elim
   | error e=>
     rw[hF]at h hP;dsimp only at h hP;rw[h, <-hP];refine ae @bP ?_;exact⟨hd.ei.trans bo,rfl⟩
  rintro m OA ⟨bo,h⟩;cases hF7:bS x w mz false mC with
  | error e=>rw[hF7]at h;exact h.elim
  | ok s7=>
  rw[hF7]at h hP;dsimp only at h hP;subst h;have hb:=hd.ge bo;clear bo hd;have eI:=hb.x;have cO:=hb.d;refine aJ @bP @eI @cO ?_;have gk:=fun o:Int=>hb.st (cs':=[.str s1,.str s2,.str s3,.str s4,.str s5,mi sc.1,mi o,.sl 0 [] .nil])
  simp only[aq]at gk;unfold aad at hP;refine VC.az ?_;cases h1:s7==ki
  ·rw[if_neg (fun e=>by rw[e]at h1;exact absurd h1 (by decide))]at hP;cases h2:s7==lh
   ·rw[if_neg (fun e=>by rw[e]at h2;exact absurd h2 (by decide))]at hP;simp only[ki,lh]at h1 h2;refine WC.sound aa (c_ @bP @cO @h1 @h2 ?_);exact aA.mk 0 ⟨hb,hP⟩
   ·rw[if_pos (eq_of_beq h2)]at hP;simp only[ki,lh]at h1 h2;refine WC.sound aa (c_ @bP @cO @h1 @h2 ?_);exact aA.mk 2 ⟨gk 2,hP⟩
  ·rw[if_pos (eq_of_beq h1)]at hP;simp only[ki]at h1;refine WC.sound aa (aJ @bP @cO @h1 ?_);exact aA.mk 1 ⟨gk 1,hP⟩
 intro o OA ⟨hd,hP⟩;refine VC.bC [4] (fun _:List fR×Tok=>[.ptr (O.next+1) 0]) (fun x O'=>DS O O.next [a,b,c,d,e] O' [.str s1,.str s2,.str s3,.str s4,.str s5,mi sc.1,mi o,.sl x.1.length (x.1.flatMap bZ) x.2]/\ .ok (⟨s1,s2,s3,s4,s5,sc.1,o,x.1⟩:Dp)=PE) ?_ ?_;rotate_left
 ·rintro⟨X,tk⟩ O9 ⟨hd,hP⟩;have cO:=hd.d;simp only[aq]at cO;refine WC.sound aa (ao @bP @cO ?_);rw[<-hP];refine⟨hd.ei.set (by omega) _,?_⟩;simp only[aS,aq,wu,m7]
 have eI:=hd.x;have cO:=hd.d;have vg:∀e,cw x w lN= .error e->vi x w= .error e:=fun e h=>by unfold vi;rw[h]
 have nN:∀y wy,cw x w lN= .ok ((y,wy),false)->vi x w= .ok []:=fun y wy h=>by unfold vi;rw[h]
 have iU:∀y wy,cw x w lN= .ok ((y,wy),true)->vi x w=match m9 y wy tV with
  | .error e=>.error e
  | .ok l=>xJ l []:=fun y wy h=>by unfold vi;rw[h]
 generalize vi x w=DX at*;generalize cw x w lN=F at*;refine VC.ag aa (aJ @bP @eI @cO ?_);clear eI cO;refine ah.p (ve OA (by have:=j8 x;omega) (by omega) (by decide)) ?_ ?_;rotate_left
 ·rintro m O2 ⟨ay,h⟩;cases F with
  | ok y=>exact h.elim
  | error e=>
    dsimp only at h;rw[vg e rfl]at hP;simp only[oK]at hP;rw[h, <-hP];refine ae @bP ?_;exact⟨hd.ei.trans ay,rfl⟩
 rintro m OB ⟨ay,h⟩;cases F with
 | error e=>exact h.elim
 | ok y=>
 obtain⟨⟨y,wy⟩,bb⟩:=y;dsimp only at h;subst h;obtain⟨Z9,vh⟩:=vf rfl;have oJ:wy.length<=6011:=by rw[vh];simp only[yP,Kn,Km];omega
 have hb:=hd.ge ay;clear hd ay vf vh vg
 replace iU:bb=true->DX=match m9 y wy tV with
  | .error e=>.error e
  | .ok l=>xJ l []:=fun h=>by subst h;exact iU y wy rfl
 replace nN:bb=false->DX= .ok []:=fun h=>by subst h;exact nN y wy rfl
 have HS:=SJ y wy tV;have SN:= @HR y wy tV;generalize m9 y wy tV=LE at*;obtain⟨yn,ya,yk,yt⟩:=y;generalize hWy:kJ (.mk yn ya yk yt)=Wy at*;simp only[kI,dh,acv,XO]at HS ⊢;refine ae @bP ?_;refine VC.al ?_;rintro OC ⟨Mr,hyC,hnC⟩;have hd:=hb.ge Mr;clear hb Mr;cases bb
 ·rw[nN rfl]at hP;simp only[oK]at hP;refine WC.sound aa (ae @bP ?_);exact aA.mk ([],.nil) ⟨hd,hP⟩
 rw[iU rfl]at hP;clear nN iU;refine VC.ag aa (ae @bP ?_);refine WC.sound aa (ao @bP @hyC ?_);refine ah.p (HS OC (by omega) (by omega) (by decide)) ?_ ?_;rotate_left
 ·rintro m O9 ⟨bo,h⟩;cases LE with
  | ok y=>exact h.elim
  | error e=>
    dsimp only at h;simp only[oK]at hP;rw[h, <-hP];refine ae @bP ?_;exact⟨hd.ei.trans bo,rfl⟩
 rintro m OD ⟨bo,h⟩;cases LE with
 | error e=>exact h.elim
 | ok L=>
 dsimp only at h hP;obtain⟨tL,rfl⟩:=h;obtain⟨oE,hLm⟩:=SN rfl;have hb:=hd.ge bo;clear hd bo SN HS hyC;refine ae @bP ?_;refine VC.bG [50] [4,48,49] (fun x:Nat×List fR×Tok=>[mi x.1]) (fun x O'=>DS O O.next [a,b,c,d,e] O' [.str s1,.str s2,.str s3,.str s4,.str s5,mi sc.1,mi o,.sl x.2.1.length (x.2.1.flatMap bZ) x.2.2]/\App O' (O.next+2) 2 x.2.2/\x.1<=L.length/\x.2.1.length=x.1/\oK ⟨s1,s2,s3,s4,s5,sc.1,o,[]⟩ (xJ (L.drop x.1) x.2.1)=PE) (fun x=>L.length - x.1) ((0,[],.nil)) ?_ ?_
 ·exact⟨hb,trivial,acw _,rfl,hP⟩
 rintro⟨j,X,tk⟩ O3 ⟨hd,cC,hj,Jj,hP⟩;dsimp only at hd cC hj Jj hP ⊢;by_cases aX:j<L.length;rotate_left
 ·obtain rfl:j=L.length:=by omega
  rw[ahZ (XN _),xJ]at hP;refine WC.sound aa (ae @bP ?_);exact aA.mk (X,tk) ⟨hd,hP⟩
 have bw:((tX L).drop (j*5)).take 5=kI L[j].1 L[j].2:=bU ES L j aX;have hL5:=wQ L;rw[agx aX,xJ]at hP;obtain⟨hzW,V5⟩:=hLm L[j] (agw aX);generalize L[j]=zz at*;obtain⟨z,wz⟩:=zz;dsimp only at hzW V5;have qA:=fun O'=>pY z wz dW true h_ 301 [] O' (by omega) (by simp only[Kn,Km]at V5;omega) (by decide) (by kernel_rfl) (fun s kx _ hs=>Mq s kx hs)
 have Ar:=fun O'=>pY z wz dM true h_ 301 [] O' (by omega) (by simp only[Kn,Km]at V5;omega) (by decide) (by kernel_rfl) (fun s kx _ hs=>Mq s kx hs)
 unfold exE at hP;dsimp only at hP;generalize bS z wz dW true h_=W1 at*;generalize bS z wz dM true h_=W2 at*;obtain⟨zn,za,cV,zt⟩:=z;simp only[kI,dh,acv,XO]at bw qA Ar;refine VC.ag aa (ae @bP ?_);refine VC.ag aa (ae @bP ?_);refine VC.bB (VC.az ?_);refine VC.ag aa (ao @bP @bw ?_);refine VC.al ?_;rintro O4 ⟨aY,jq,gI⟩;have hb:=hd.ge aY;have lV:=cC.ge aY;have gu:O.next+1<O3.next:=hd.lt;clear hd aY cC;refine VC.pK [8,9,10] (O3.next) (jq) ?_;intro XX;refine ab.av 0 ?_;refine ae @bP ?_;refine ab.sR (m:=.agg [.str zn,.sl za.length (za.flatMap bh) .ar,.sl cV.length (aC cV) .ar,.str zt,.str wz]) 2 ?_ ?_
 ·exact fe @bP
 simp only[aj];refine ab.sR (m:=.agg [.str zn,.sl za.length (za.flatMap bh) .ar,.sl cV.length (aC cV) .ar,.str zt,.str wz]) 4 ?_ ?_
 ·exact fe @bP
 simp only[aj];have jL:=lV.oh (k:=O3.next) (x:=.obj XX) (by rw[jq];simp);have hXX:=VH.an O4 O3.next (.obj XX);have cO:=(VH.ak O4 (.obj XX) (by omega:O.next+1≠O3.next)).trans hb.d;have jn:∀O9,(O4.set O3.next (.obj XX)).Ge O9->O.Ge O9:=fun O9 g=>((hb.ei.set (by omega) _).trans g)
 have fu:∀O9,(O4.set O3.next (.obj XX)).Ge O9->O9.hp O3.next=some (.obj XX)/\O9.hp (O.next+1)=some (.cells [.str s1,.str s2,.str s3,.str s4,.str s5,mi sc.1,mi o,.sl X.length (X.flatMap bZ) tk]):=fun O9 g=>⟨(g.hp _ (by show O3.next<O4.next;omega)).trans hXX,(g.hp _ (by show O.next+1<O4.next;omega)).trans cO⟩
 have Gu:=fun(O9:VH) (g:(O4.set O3.next (.obj XX)).Ge O9) (y:cf)=>hb.ahb (k:=O3.next) gu g (y:=y)
 clear cO;generalize O4.set O3.next (.obj XX)=O5 at*;refine ab.pair (i:=1) (j:=3) ?_ ?_
 ·refine aK.o1 ?_;refine ao @bP (fu _ (VH.Ge.refl _)).2 ?_;refine⟨(fu _ (VH.Ge.refl _)).1,?_⟩;have hG:=VH.Ge.refl O5;refine ab.p5 (i:=3) (qA O5) ?_ ?_;rotate_left
  ·rintro m O9 ⟨bo,h⟩;cases W1 with
   | ok s=>exact h.elim
   | error e=>
     dsimp only at h hP;simp only[oK]at hP;rw[h, <-hP];refine ae @bP ?_;exact⟨jn _ (hG.trans bo),rfl⟩
  rintro m O6 ⟨bo,h⟩;cases W1 with
  | error e=>exact h.elim
  | ok sg=>
  dsimp only at h hP;subst h;simp only[aj]
  replace hG:=hG.trans bo
  clear bo;refine⟨(fu _ hG).1,?_⟩;refine ab.p5 (i:=5) (Ar O6) ?_ ?_;rotate_left
  ·rintro m O9 ⟨bo,h⟩;cases W2 with
   | ok s=>exact h.elim
   | error e=>
     dsimp only at h hP;simp only[oK]at hP;rw[h, <-hP];refine ae @bP ?_;exact⟨jn _ (hG.trans bo),rfl⟩
  rintro m OF ⟨bo,h⟩;cases W2 with
  | error e=>exact h.elim
  | ok sa=>
  dsimp only at h hP;subst h;simp only[aj]
  replace hG:=hG.trans bo
  clear bo;refine⟨(fu _ hG).1,?_⟩;refine ab.av 6 ?_;refine ae @bP ?_;refine ab.op (i:=7) ?_;refine ae @bP ?_;refine⟨(fu _ hG).1,?_⟩;refine ab.m4 [(8,.one),(9,.av),(10,.one)] ?_;have EX:=Gu _ hG (.cells [.str zn,.sl za.length (za.flatMap bh) .ar,.sl cV.length (aC cV) .ar,.str zt,.str wz]);have vm:=(jL.ge hG).oh (k:=O3.next) (x:=.cells [.str zn,.sl za.length (za.flatMap bh) .ar,.sl cV.length (aC cV) .ar,.str zt,.str wz]) (by rw[(fu _ hG).1];simp);refine ae @bP ?_;obtain⟨mE,gD,ll⟩:=fZ (n:=X.length) (cs:=X.flatMap bZ) (ds:=[.str sg,.str sa]) (es:=bZ ⟨sg,sa⟩) Ev Cp.1.1 vm (aQ m6 X) rfl rfl (by decide) (by omega) (by simp only[maxLen];omega) (m7 X) (by simp only[bZ,wu]);refine VL.lC gD ll ?_;have EY:=EX.app vm;have EZ:=EY.d;have E0:=EY.st (cs':=[.str s1,.str s2,.str s3,.str s4,.str s5,mi sc.1,mi o,.sl (X.length+1) (X.flatMap bZ++bZ ⟨sg,sa⟩) (.own OF.next 2)]);have vo:=(App.after (B:=O.next+2) (sz:=2) (tk:=tk) (O:=OF.set O3.next (.cells [.str zn,.sl za.length (za.flatMap bh) .ar,.sl cV.length (aC cV) .ar,.str zt,.str wz])) (by have:=EX.lt;omega)).oh (k:=O.next+1) (x:=.cells [.str s1,.str s2,.str s3,.str s4,.str s5,mi sc.1,mi o,.sl (X.length+1) (X.flatMap bZ++bZ ⟨sg,sa⟩) (.own OF.next 2)]) (by rw[EZ];simp);simp only[aq]at E0 vo;generalize (OF.set O3.next (.cells [.str zn,.sl za.length (za.flatMap bh) .ar,.sl cV.length (aC cV) .ar,.str zt,.str wz])).after tk=OG at*;refine ao @bP @EZ ?_;have cT:((j:Int)+1)=((j+1:Nat):Int):=by omega
  have dd:(X++[(⟨sg,sa⟩:fR)]).flatMap bZ=X.flatMap bZ++bZ ⟨sg,sa⟩:=by simp
  have vq:(X++[(⟨sg,sa⟩:fR)]).length=X.length+1:=by simp
  refine WC.sound aa (ao @bP @cT ?_);exact ax.next (j+1,X++[(⟨sg,sa⟩:fR)],.own OF.next 2) ⟨by dsimp only;rw[dd,vq];exact E0,vo,aX,by dsimp only;rw[vq,Jj],hP⟩
 ·have hG:=VH.Ge.refl O5;refine aK.p5 (qA O5) ?_ ?_;rotate_left
  ·rintro m O9 ⟨bo,h⟩;cases W1 with
   | ok s=>exact h.elim
   | error e=>
     dsimp only at h hP;simp only[oK]at hP;rw[h, <-hP];refine ae @bP ?_;exact⟨jn _ (hG.trans bo),rfl⟩
  rintro m O6 ⟨bo,h⟩;cases W1 with
  | error e=>exact h.elim
  | ok sg=>
  dsimp only at h hP;subst h;simp only[aj]
  replace hG:=hG.trans bo
  clear bo;refine⟨(fu _ hG).1,?_⟩;refine ab.pair (i:=1) (j:=5) ?_ ?_
  ·refine aK.o1 ?_;refine ao @bP (fu _ hG).2 ?_;refine⟨(fu _ hG).1,?_⟩;refine ab.p5 (i:=5) (Ar O6) ?_ ?_;rotate_left
   ·rintro m O9 ⟨bo,h⟩;cases W2 with
    | ok s=>exact h.elim
    | error e=>
      dsimp only at h hP;simp only[oK]at hP;rw[h, <-hP];refine ae @bP ?_;exact⟨jn _ (hG.trans bo),rfl⟩
   rintro m OF ⟨bo,h⟩;cases W2 with
   | error e=>exact h.elim
   | ok sa=>
   dsimp only at h hP;subst h;simp only[aj]
   replace hG:=hG.trans bo
   clear bo;refine⟨(fu _ hG).1,?_⟩;refine ab.av 6 ?_;refine ae @bP ?_;refine ab.op (i:=7) ?_;refine ae @bP ?_;refine⟨(fu _ hG).1,?_⟩;refine ab.m4 [(8,.one),(9,.av),(10,.one)] ?_;have EX:=Gu _ hG (.cells [.str zn,.sl za.length (za.flatMap bh) .ar,.sl cV.length (aC cV) .ar,.str zt,.str wz]);have vm:=(jL.ge hG).oh (k:=O3.next) (x:=.cells [.str zn,.sl za.length (za.flatMap bh) .ar,.sl cV.length (aC cV) .ar,.str zt,.str wz]) (by rw[(fu _ hG).1];simp);refine ae @bP ?_;obtain⟨mE,gD,ll⟩:=fZ (n:=X.length) (cs:=X.flatMap bZ) (ds:=[.str sg,.str sa]) (es:=bZ ⟨sg,sa⟩) Ev Cp.1.1 vm (aQ m6 X) rfl rfl (by decide) (by omega) (by simp only[maxLen];omega) (m7 X) (by simp only[bZ,wu]);refine VL.lC gD ll ?_;have EY:=EX.app vm;have EZ:=EY.d;have E0:=EY.st (cs':=[.str s1,.str s2,.str s3,.str s4,.str s5,mi sc.1,mi o,.sl (X.length+1) (X.flatMap bZ++bZ ⟨sg,sa⟩) (.own OF.next 2)]);have vo:=(App.after (B:=O.next+2) (sz:=2) (tk:=tk) (O:=OF.set O3.next (.cells [.str zn,.sl za.length (za.flatMap bh) .ar,.sl cV.length (aC cV) .ar,.str zt,.str wz])) (by have:=EX.lt;omega)).oh (k:=O.next+1) (x:=.cells [.str s1,.str s2,.str s3,.str s4,.str s5,mi sc.1,mi o,.sl (X.length+1) (X.flatMap bZ++bZ ⟨sg,sa⟩) (.own OF.next 2)]) (by rw[EZ];simp);simp only[aq]at E0 vo;generalize (OF.set O3.next (.cells [.str zn,.sl za.length (za.flatMap bh) .ar,.sl cV.length (aC cV) .ar,.str zt,.str wz])).after tk=OG at*;refine ao @bP @EZ ?_;have cT:((j:Int)+1)=((j+1:Nat):Int):=by omega
   have dd:(X++[(⟨sg,sa⟩:fR)]).flatMap bZ=X.flatMap bZ++bZ ⟨sg,sa⟩:=by simp
   have vq:(X++[(⟨sg,sa⟩:fR)]).length=X.length+1:=by simp
   refine WC.sound aa (ao @bP @cT ?_);exact ax.next (j+1,X++[(⟨sg,sa⟩:fR)],.own OF.next 2) ⟨by dsimp only;rw[dd,vq];exact E0,vo,aX,by dsimp only;rw[vq,Jj],hP⟩
  ·refine aK.p5 (Ar O6) ?_ ?_;rotate_left
   ·rintro m O9 ⟨bo,h⟩;cases W2 with
    | ok s=>exact h.elim
    | error e=>
      dsimp only at h hP;simp only[oK]at hP;rw[h, <-hP];refine ae @bP ?_;exact⟨jn _ (hG.trans bo),rfl⟩
   rintro m OF ⟨bo,h⟩;cases W2 with
   | error e=>exact h.elim
   | ok sa=>
   dsimp only at h hP;subst h;simp only[aj]
   replace hG:=hG.trans bo
   clear bo;refine⟨(fu _ hG).1,?_⟩;refine ab.av 6 ?_;refine ae @bP ?_;refine ab.pair (i:=1) (j:=7) ?_ ?_
   ·refine aK.o1 ?_;refine ao @bP (fu _ hG).2 ?_;refine⟨(fu _ hG).1,?_⟩;refine ab.op (i:=7) ?_;refine ae @bP ?_;refine⟨(fu _ hG).1,?_⟩;refine ab.m4 [(8,.one),(9,.av),(10,.one)] ?_;have EX:=Gu _ hG (.cells [.str zn,.sl za.length (za.flatMap bh) .ar,.sl cV.length (aC cV) .ar,.str zt,.str wz]);have vm:=(jL.ge hG).oh (k:=O3.next) (x:=.cells [.str zn,.sl za.length (za.flatMap bh) .ar,.sl cV.length (aC cV) .ar,.str zt,.str wz]) (by rw[(fu _ hG).1];simp);refine ae @bP ?_;obtain⟨mE,gD,ll⟩:=fZ (n:=X.length) (cs:=X.flatMap bZ) (ds:=[.str sg,.str sa]) (es:=bZ ⟨sg,sa⟩) Ev Cp.1.1 vm (aQ m6 X) rfl rfl (by decide) (by omega) (by simp only[maxLen];omega) (m7 X) (by simp only[bZ,wu]);refine VL.lC gD ll ?_;have EY:=EX.app vm;have EZ:=EY.d;have E0:=EY.st (cs':=[.str s1,.str s2,.str s3,.str s4,.str s5,mi sc.1,mi o,.sl (X.length+1) (X.flatMap bZ++bZ ⟨sg,sa⟩) (.own OF.next 2)]);have vo:=(App.after (B:=O.next+2) (sz:=2) (tk:=tk) (O:=OF.set O3.next (.cells [.str zn,.sl za.length (za.flatMap bh) .ar,.sl cV.length (aC cV) .ar,.str zt,.str wz])) (by have:=EX.lt;omega)).oh (k:=O.next+1) (x:=.cells [.str s1,.str s2,.str s3,.str s4,.str s5,mi sc.1,mi o,.sl (X.length+1) (X.flatMap bZ++bZ ⟨sg,sa⟩) (.own OF.next 2)]) (by rw[EZ];simp);simp only[aq]at E0 vo;generalize (OF.set O3.next (.cells [.str zn,.sl za.length (za.flatMap bh) .ar,.sl cV.length (aC cV) .ar,.str zt,.str wz])).after tk=OG at*;refine ao @bP @EZ ?_;have cT:((j:Int)+1)=((j+1:Nat):Int):=by omega
    have dd:(X++[(⟨sg,sa⟩:fR)]).flatMap bZ=X.flatMap bZ++bZ ⟨sg,sa⟩:=by simp
    have vq:(X++[(⟨sg,sa⟩:fR)]).length=X.length+1:=by simp
    refine WC.sound aa (ao @bP @cT ?_);exact ax.next (j+1,X++[(⟨sg,sa⟩:fR)],.own OF.next 2) ⟨by dsimp only;rw[dd,vq];exact E0,vo,aX,by dsimp only;rw[vq,Jj],hP⟩
   ·refine aK.o1 ?_;refine ae @bP ?_;refine⟨(fu _ hG).1,?_⟩;refine ab.op (i:=1) ?_;refine ao @bP (fu _ hG).2 ?_;refine⟨(fu _ hG).1,?_⟩;refine ab.m4 [(8,.one),(9,.av),(10,.one)] ?_;have EX:=Gu _ hG (.cells [.str zn,.sl za.length (za.flatMap bh) .ar,.sl cV.length (aC cV) .ar,.str zt,.str wz]);have vm:=(jL.ge hG).oh (k:=O3.next) (x:=.cells [.str zn,.sl za.length (za.flatMap bh) .ar,.sl cV.length (aC cV) .ar,.str zt,.str wz]) (by rw[(fu _ hG).1];simp);refine ae @bP ?_;obtain⟨mE,gD,ll⟩:=fZ (n:=X.length) (cs:=X.flatMap bZ) (ds:=[.str sg,.str sa]) (es:=bZ ⟨sg,sa⟩) Ev Cp.1.1 vm (aQ m6 X) rfl rfl (by decide) (by omega) (by simp only[maxLen];omega) (m7 X) (by simp only[bZ,wu]);refine VL.lC gD ll ?_;have EY:=EX.app vm;have EZ:=EY.d;have E0:=EY.st (cs':=[.str s1,.str s2,.str s3,.str s4,.str s5,mi sc.1,mi o,.sl (X.length+1) (X.flatMap bZ++bZ ⟨sg,sa⟩) (.own OF.next 2)]);have vo:=(App.after (B:=O.next+2) (sz:=2) (tk:=tk) (O:=OF.set O3.next (.cells [.str zn,.sl za.length (za.flatMap bh) .ar,.sl cV.length (aC cV) .ar,.str zt,.str wz])) (by have:=EX.lt;omega)).oh (k:=O.next+1) (x:=.cells [.str s1,.str s2,.str s3,.str s4,.str s5,mi sc.1,mi o,.sl (X.length+1) (X.flatMap bZ++bZ ⟨sg,sa⟩) (.own OF.next 2)]) (by rw[EZ];simp);simp only[aq]at E0 vo;generalize (OF.set O3.next (.cells [.str zn,.sl za.length (za.flatMap bh) .ar,.sl cV.length (aC cV) .ar,.str zt,.str wz])).after tk=OG at*;refine ao @bP @EZ ?_;have cT:((j:Int)+1)=((j+1:Nat):Int):=by omega
    have dd:(X++[(⟨sg,sa⟩:fR)]).flatMap bZ=X.flatMap bZ++bZ ⟨sg,sa⟩:=by simp
    have vq:(X++[(⟨sg,sa⟩:fR)]).length=X.length+1:=by simp
    refine WC.sound aa (ao @bP @cT ?_);exact ax.next (j+1,X++[(⟨sg,sa⟩:fR)],.own OF.next 2) ⟨by dsimp only;rw[dd,vq];exact E0,vo,aX,by dsimp only;rw[vq,Jj],hP⟩
set_option linter.defProp false in
def mD:=RZ bP<|RZ u_ Bo
def ru (eE:Bool):List (Nd×Bs)->List Dp->Except (Int×Bs) (List Dp)
 | [],D=>.ok D
 | k::r,D=>match EV k.1 k.2 eE with
   | .error e=>.error e
   | .ok d=>ru eE r (D++[d])
def lQ (x:Nd) (w:Bs) (eE:Bool):Except (Int×Bs) (List Dp):=
 match cw x w lO with
 | .error e=>.error e
 | .ok ((_,_),false)=>.ok []
 | .ok ((y,wy),true)=>match m9 y wy lE with
   | .error e=>.error e
   | .ok L=>ru eE L []
theorem SO (x:Nd) (w:Bs) (eE:Bool) (O:VH) (hx:kJ x<=1000000) (hw:w.length<=4000):
  VF Tryz.prog 253 [.agg (kI x w),mb eE] O (FQ O (lQ x w eE) fun y m=>∃tk,m= .sl y.length (y.flatMap aS) tk):=by
 have ve:=r7 x w lO;have kj:=j8 x;have vf:= @r9 x w lO;have vg:∀e,cw x w lO= .error e->lQ x w eE= .error e:=fun e h=>by unfold lQ;rw[h]
 have nN:∀y wy,cw x w lO= .ok ((y,wy),false)->lQ x w eE= .ok []:=fun y wy h=>by unfold lQ;rw[h]
 have iU:∀y wy,cw x w lO= .ok ((y,wy),true)->lQ x w eE=match m9 y wy lE with
  | .error e=>.error e
  | .ok L=>ru eE L []:=fun y wy h=>by unfold lQ;rw[h]
 generalize lQ x w eE=PE at*;generalize cw x w lO=F at*;obtain⟨n,a,k,t⟩:=x;generalize hW:kJ (.mk n a k t)=W at*;simp only[kI,dh,acv,XO]at ve ⊢;refine VF.bN 31 [.tmp 4] Tryz.func253 ?_;refine VC.ag aa (ae @mD ?_);refine VC.bx ?_;rintro O1 ⟨aM,ez,cW⟩;refine VC.ag aa (ao @mD @ez ?_);refine ah.p (ve O1 (by omega) (by omega) (by decide)) ?_ ?_;rotate_left
 ·rintro m O2 ⟨ay,h⟩;cases F with
  | ok y=>exact h.elim
  | error e=>
    dsimp only at h;rw[vg e rfl];refine ae @mD ?_;exact⟨aM.trans ay,h⟩
 rintro m O2 ⟨ay,h⟩;cases F with
 | error e=>exact h.elim
 | ok y=>
 obtain⟨⟨y,wy⟩,b⟩:=y;dsimp only at h;subst h;obtain⟨Z9,vh⟩:=vf rfl;have oJ:wy.length<=4013:=by rw[vh];simp only[yP,Kn,Km];omega
 clear vf vh vg
 replace iU:b=true->PE=match m9 y wy lE with
  | .error e=>.error e
  | .ok L=>ru eE L []:=fun h=>by subst h;exact iU y wy rfl
 replace nN:b=false->PE= .ok []:=fun h=>by subst h;exact nN y wy rfl
 have HS:=SJ y wy lE;have SN:= @HR y wy lE;generalize m9 y wy lE=LE at*;obtain⟨yn,ya,yk,yt⟩:=y;generalize hWy:kJ (.mk yn ya yk yt)=Wy at*;simp only[kI,dh,acv,XO]at HS ⊢;have gN:=aM.trans ay;refine ae @mD ?_;refine VC.al ?_;rintro O3 ⟨aG,Mh,gm⟩;have eP:=gN.trans aG;cases b
 ·rw[nN rfl];refine WC.sound aa (ae @mD ?_);exact⟨eP,.nil,rfl⟩
 replace iU:=iU rfl
 clear nN;refine VC.ag aa (ae @mD ?_);refine VC.join aa [4] (fun x:List Dp×Tok=>[.sl x.1.length (x.1.flatMap aS) x.2]) (fun x O'=>O.Ge O'/\PE= .ok x.1) ?_ ?_;rotate_left
 ·rintro⟨L,tl⟩ O9 ⟨bo,hP⟩;rw[hP];refine ae @mD ?_;exact⟨bo,tl,rfl⟩
 refine VC.ag aa (ao @mD @Mh ?_);refine ah.p (HS O3 (by omega) (by omega) (by decide)) ?_ ?_;rotate_left
 ·rintro m O9 ⟨bo,h⟩;cases LE with
  | ok y=>exact h.elim
  | error e=>
    dsimp only at h iU;rw[h,iU];refine ae @mD ?_;exact⟨eP.trans bo,rfl⟩
 rintro m O4 ⟨aY,h⟩;cases LE with
 | error e=>exact h.elim
 | ok L=>
 dsimp only at h iU;obtain⟨tL,rfl⟩:=h;obtain⟨oE,hLm⟩:=SN rfl;have ig:=eP.trans aY;refine ae @mD ?_;refine VC.az ?_;refine VC.bG [4,19] [1,17,18] (fun x:Nat×List Dp×Tok=>[.sl x.2.1.length (x.2.1.flatMap aS) x.2.2,mi x.1]) (fun x O'=>O4.Ge O'/\App O' O4.next 8 x.2.2/\x.1<=L.length/\x.2.1.length=x.1/\PE=ru eE (L.drop x.1) x.2.1) (fun x=>L.length - x.1) ((0,[],.nil)) ?_ ?_
 ·exact⟨VH.Ge.refl _,trivial,acw _,rfl,iU⟩
 rintro⟨j,X,tk⟩ O5 ⟨bH,cC,hj,Jj,hP⟩;dsimp only at cC hj Jj hP ⊢;by_cases aX:j<L.length;rotate_left
 ·obtain rfl:j=L.length:=by omega
  rw[ahZ (XN _),ru]at hP;refine WC.sound aa (ae @mD ?_);exact aA.mk (X,tk) ⟨ig.trans bH,hP⟩
 have bw:((tX L).drop (j*5)).take 5=kI L[j].1 L[j].2:=bU ES L j aX;have hL5:=wQ L;rw[agx aX,ru]at hP;obtain⟨hzW,V5⟩:=hLm L[j] (agw aX);generalize L[j]=zz at*;obtain⟨z,wz⟩:=zz;dsimp only at hzW V5 hP bw;have As:=fun O'=>ahc z wz eE O' (by omega) (by simp only[Kn,Km]at V5;omega)
 generalize EV z wz eE=W1 at*;obtain⟨zn,za,cV,zt⟩:=z;simp only[kI,dh,acv,XO]at bw As;have fS:=bH.next;refine VC.ag aa (ae @mD ?_);refine VC.ag aa (ae @mD ?_);refine VC.bB (VC.az ?_);refine VC.ag aa (ao @mD @bw ?_);refine VC.al ?_;rintro O6 ⟨fJ,mO,n9⟩;have n_:=cC.ge fJ;have xI:=bH.trans fJ;refine WC.sound aa (ao @mD @mO ?_);refine ah.p (As O6) ?_ ?_;rotate_left
 ·rintro m O9 ⟨bo,h⟩;cases W1 with
  | ok y=>exact h.elim
  | error e=>
    dsimp only at h hP;rw[h,hP];refine ae @mD ?_;exact⟨(ig.trans xI).trans bo,rfl⟩
 rintro m O7 ⟨fC,h⟩;cases W1 with
 | error e=>exact h.elim
 | ok d=>
 dsimp only at h hP;subst h;have j5:=n_.ge fC;have afk:=xI.trans fC;have cT:((j:Int)+1)=((j+1:Nat):Int):=by omega
 have hud:cS (aS d)=aS d:=by simpa using lg [d]
 obtain⟨dg,da,dv,dt,dc,kO,dO,dx⟩:=d;have hY:(aS ⟨dg,da,dv,dt,dc,kO,dO,dx⟩).length=8:=rfl;obtain⟨mE,gD,ll⟩:=fZ (n:=X.length) (cs:=X.flatMap aS) (ds:=aS ⟨dg,da,dv,dt,dc,kO,dO,dx⟩) (es:=aS ⟨dg,da,dv,dt,dc,kO,dO,dx⟩) u_ Bo.1.1 j5 (aQ gB X) rfl rfl (by decide) (by omega) (by simp only[maxLen];omega) (lg X) hud;simp only[aS,aq]at gD ll ⊢;refine ae @mD ?_;refine VL.lC gD ll ?_;refine ae @mD ?_;refine WC.sound aa (ao @mD @cT ?_);exact ax.next (j+1,X++[⟨dg,da,dv,dt,dc,kO,dO,dx⟩],.own O7.next 8) ⟨cL.ei afk j5 (cL.after j5),App.after (by have:=afk.next;omega),aX,by dsimp only;rw[yP,Jj];rfl,hP⟩ (hl:=(by dsimp only;rw[ahX,yP];simp only[agt,ah1,acs,aS,aq];rfl))
set_option linter.defProp false in
def au:=RZ bz<|RZ afd<|RZ aiU<|RZ aiV<|RZ aiX aiT
def At (e:Int) (off:Nat):MV:=.iface 385 (.agg [mi e,mi off])
theorem ai_ {p:MV}:I5 385 (eh Tryz.prog 385) (some p)=some (.iface 385 p):=by rw[afd.1.1];rfl
theorem iJ (e:Int) (off:Nat) (O:VH):VF Tryz.prog 311 [mi e,mi off] O fun r O'=>O'=O/\match r with
  | .ret _=>False
  | .panic m=>m=At e off:=by
 refine VF.dy 8 [] Tryz.func311 ?_;refine c_ @au @wi @wd @ai_ ?_;refine VL.panic rfl rfl rfl ?_;refine ae @wd ?_;rfl
def Rd (O:VH) (k:Nat) (t:Bs) (off:Nat) (X:MV):Prop:=k<O.next/\O.hp k=some (.cells [.str t,mi off,X])
theorem Rd.ge {O O':VH} {k off:Nat} {t:Bs} {X:MV} (h:Rd O k t off X) (g:O.Ge O'):Rd O' k t off X:=⟨agr h.1 g.next,(g.hp _ h.1).trans h.2⟩
theorem Rd.set {O:VH} {k off off':Nat} {t t':Bs} {X X':MV} (h:Rd O k t off X):Rd (O.set k (.cells [.str t',mi off',X'])) k t' off' X':=⟨h.1,VH.an _ _ _⟩
theorem wT {O:VH} {k off:Nat} {t:Bs} {X:MV} (h:Rd O k t off X) (ho:off<=t.length):VF Tryz.prog 309 [.ptr k 0] O (aE fun m O'=>m= .str (t.drop off)/\O'=O):=by
 have hk:=h.2;simp only[aq]at hk;refine VF.bN 12 [.tmp 2] Tryz.func309 ?_;refine VC.ag aa (ae @au ?_);refine VC.bB ?_;refine WC.reads ?_;refine ao @au @hk ?_;refine WC.sound aa (ae @au ?_);trivial
theorem nc {O:VH} {k off:Nat} {t:Bs} {X:MV} (h:Rd O k t off X):VF Tryz.prog 263 [.ptr k 0] O (aE fun m O'=>m=mb (decide (t.length<=off))/\O'=O):=by
 have hk:=h.2;simp only[aq]at hk;refine VF.bN 13 [.tmp 2] Tryz.func263 ?_;refine VC.ag aa (ae @au ?_);refine VC.bB ?_;refine WC.reads ?_;by_cases h1:t.length<=off
 ·rw[decide_eq_true h1];refine ao @au @hk ?_;refine WC.sound aa (ae @au ?_);trivial
 ·rw[decide_eq_false h1];refine ao @au @hk ?_;refine WC.sound aa (ae @au ?_);trivial
theorem p7 {O:VH} {k off:Nat} {t:Bs} {X:MV} (p:Bs) (h:Rd O k t off X) (ho:off<=t.length):VF Tryz.prog 285 [.ptr k 0,.str p] O (aE fun m O'=>m=mb (dP (t.drop off) p)/\O'=O):=by
 refine VF.dy 9 [.tmp 4] Tryz.func285 ?_;refine ae @au ?_;refine ah.rt (wT h ho) ?_;rintro _ O2 ⟨rfl,eO⟩;rw[eO];clear eO O2
 refine ae @au ?_;refine ah.rt (m_ (t.drop off) p _) ?_;rintro _ O2 ⟨rfl,eO⟩;rw[eO];clear eO O2
 exact fe @au
def TQ {α :Type} (O:VH) (k:Nat) (t:Bs) (X:MV) (f:Except (Int×Nat) (α ×Nat)) (R: α ->MV->Prop):fU->VH->Prop:=fun r O'=>br O (some k) O'/\match r,f with
 | .ret m,.ok x=>R x.1 m/\Rd O' k t x.2 X
 | .panic m,.error e=>m=At e.1 e.2
 | _,_=>False
def iV (t:Bs) (off:Nat) (p:Bs):Except (Int×Nat) (Unit×Nat):=
 if t.length<=off then .error (13,off)else if dP (t.drop off) p then .ok ((),off+p.length)else .error (10,off)
theorem s_ {O:VH} {k off:Nat} {t:Bs} {X:MV} (p:Bs) (h:Rd O k t off X) (ht:t.length<=1000000) (hp:p.length<=1000):VF Tryz.prog 290 [.ptr k 0,.str p] O (TQ O k t X (iV t off p) fun _ m=>m= .tuple []):=by
 have hk:=h.2;simp only[aq]at hk;unfold iV;refine VF.bN 37 [] Tryz.func290 ?_;refine VC.ag aa (ae @au ?_);refine ah.rt (nc h) ?_;rintro _ O2 ⟨rfl,eO⟩;rw[eO];clear eO O2
 by_cases h1:t.length<=off
 ·rw[decide_eq_true h1,if_pos h1];refine ao @au @hk ?_;refine ah.p (iJ _ _ _) ?_ ?_
  ·rintro m O9 ⟨_,h⟩;exact h.elim
  rintro m O9 ⟨rfl,rfl⟩;refine ae @au ?_;exact⟨br.refl _ _,rfl⟩
 rw[decide_eq_false h1,if_neg h1];refine ao @au @hk ?_;refine VC.ag aa (ao @au @hk ?_);refine ah.rt (p7 p h (by omega)) ?_;rintro _ O2 ⟨rfl,eO⟩;rw[eO];clear eO O2
 cases h2:dP (t.drop off) p
 ·refine ao @au @hk ?_;refine ah.p (iJ _ _ _) ?_ ?_
  ·rintro m O9 ⟨_,h⟩;exact h.elim
  rintro m O9 ⟨rfl,rfl⟩;refine ae @au ?_;exact⟨br.refl _ _,rfl⟩
 ·refine ao @au @hk ?_;refine WC.sound aa (ao @au @hk ?_);exact⟨br.set,rfl,by simpa[aq]using h.set (t':=t) (off':=off+p.length) (X':=X)⟩
def jr (t:Bs) (off:Nat) (e:Int):Except (Int×Nat) (Bs×Nat):=
 if t.length<=off then .error (13,off)else if jZ (t.drop off)=0 then .error (e,off)else .ok ((t.drop off).take (jZ (t.drop off)),off+jZ (t.drop off))
theorem Au {O:VH} {k off:Nat} {t:Bs} {X:MV} (e:Int) (h:Rd O k t off X) (ht:t.length<=1000000):VF Tryz.prog 288 [.ptr k 0,mi e] O (TQ O k t X (jr t off e) fun y m=>m= .str y):=by
 have hk:=h.2;have yG:=Cr (t.drop off);rw[agv]at yG;have CZ:=adJ (t.drop off) O (TP (by rw[agv];omega:(t.drop off).length<=1000000) (by decide));simp only[aq]at hk;unfold jr;generalize jZ (t.drop off)=n at*;refine VF.bN 58 [.tmp 4] Tryz.func288 ?_;refine VC.ag aa (ae @au ?_);refine VC.ag aa (ae @au ?_);refine ah.rt (nc h) ?_;rintro _ O2 ⟨rfl,eO⟩;rw[eO];clear eO O2
 by_cases h1:t.length<=off
 ·rw[decide_eq_true h1,if_pos h1];refine ao @au @hk ?_;refine ah.p (iJ _ _ _) ?_ ?_
  ·rintro m O9 ⟨_,h⟩;exact h.elim
  rintro m O9 ⟨rfl,rfl⟩;refine ae @au ?_;exact⟨br.refl _ _,rfl⟩
 rw[decide_eq_false h1,if_neg h1];refine ao @au @hk ?_;refine VC.ag aa (ao @au @hk ?_);refine ah.rt (wT h (by omega)) ?_;rintro _ O2 ⟨rfl,eO⟩;rw[eO];clear eO O2
 refine ae @au ?_;refine ah.rt (CZ) ?_;rintro _ O2 ⟨rfl,eO⟩;rw[eO];clear eO O2
 refine ae @au ?_;by_cases h2:n=0
 ·rw[if_pos h2];refine VC.ag aa (aJ @au @hk @h2 ?_);refine ah.p (iJ _ _ _) ?_ ?_
  ·rintro m O9 ⟨_,h⟩;exact h.elim
  rintro m O9 ⟨rfl,rfl⟩;refine ae @au ?_;exact⟨br.refl _ _,rfl⟩
 rw[if_neg h2];refine VC.ag aa (ao @au @hk ?_);refine VC.ag aa (ao @au @hk ?_);have hr:Rd (O.set k (.cells [.str t,mi (off+n:Nat),X])) k t (off+n) X:=h.set;have bJ:=hr.2;have hu:br O (some k) (O.set k (.cells [.str t,mi (off+n:Nat),X])):=br.set;have kQ:(off:Int)+(n:Int)=((off+n:Nat):Int):=by omega
 simp only[aq, <-kQ]at hr bJ hu;generalize O.set k (.cells [.str t,.v (.int .i64 ((off:Int)+(n:Int))),X])=O2 at*;have aae:(off:Int)+(n:Int) - (n:Int)=(off:Int):=by omega
 have ry:((off:Int)+(n:Int)).toNat=off+n:=by omega
 refine VC.bB ?_;refine WC.reads ?_;refine c_ @au @bJ @aae @ry ?_;refine WC.sound aa (ae @au ?_);exact⟨hu,by rw[show off+n - off=n by omega],hr⟩
def ky (t:Bs) (off:Nat):Nat:=((t.drop off).takeWhile lS).length
theorem p8 {O:VH} {k off:Nat} {t:Bs} {X:MV} (h:Rd O k t off X) (ht:t.length<=1000000) (ho:off<=t.length):VF Tryz.prog 289 [.ptr k 0] O (TQ O k t X (.ok (ky t off,off+ky t off)) fun y m=>m=mi y):=by
 have hk:=h.2;simp only[aq]at hk;refine VF.bN 44 [.tmp 2] Tryz.func289 ?_;refine VC.ag aa (ae @au ?_);refine VC.ag aa (ao @au @hk ?_);refine VC.bC [0,3] (fun _:Unit=>[.ptr k 0,mi off]) (fun _ O'=>br O (some k) O'/\Rd O' k t (off+ky t off) X) ?_ ?_;rotate_left
 ·rintro⟨⟩ O2 ⟨hu,hr⟩;have bJ:=hr.2;have aae:((off+ky t off:Nat):Int) - (off:Int)=(ky t off:Int):=by omega
  have vc:ky t off<=t.length:=by unfold ky;exact TP (nV _ _) (by rw[agv];omega)
  generalize ky t off=n at*;simp only[aq]at bJ;refine VC.ag aa (aJ @au @bJ @aae ?_);refine WC.sound aa (ae @au ?_);exact⟨hu,rfl,hr⟩
 refine VC.az ?_;refine VC.bG [] [0,3] (fun o:Nat=>[]) (fun o O'=>br O (some k) O'/\Rd O' k t o X/\off<=o/\o<=t.length/\off+ky t off=o+ky t o) (fun o=>t.length - o) (off) ?_ ?_
 ·exact⟨br.refl _ _,h,XN _,ho,rfl⟩
 rintro o O2 ⟨hu,hr,Ji,Qj,vc⟩;have bJ:=hr.2;simp only[aq]at bJ;by_cases h1:t.length<=o
 ·have h0:ky t o=0:=by unfold ky;rw[ahZ h1];rfl
  rw[h0,Nat.add_zero]at vc;refine VC.bB (VC.bB ?_);refine VC.mZ [4,5,6,7,8,9,10,11,12,13,14,15,16,17,18] ?_;refine ab.av 0 ?_;refine ae @au ?_;refine ab.av 1 ?_;refine ae @au ?_;refine ab.av 2 ?_;refine ae @au ?_;refine ab.call (i:=3) (nc hr) ?_;rintro _ O3 ⟨rfl,eO⟩;simp only[aj];rw[eO];clear eO O3
  rw[decide_eq_true h1];refine⟨VH.Ge.refl _,?_⟩;refine ab.bO [(4,.av),(5,.av),(6,.av),(7,.av),(8,.av),(9,.av),(10,.av),(11,.av),(12,.av),(13,.av),(14,.av),(15,.av),(16,.av),(17,.av),(18,.av)] ?_;refine ae @au ?_;refine WC.sound aa (ae @au ?_);exact aA.mk () ⟨hu,vc▸hr⟩
 ·have h2:o<t.length:=by omega
  have hg:=acu h2;have hd:=agx h2
  have r4:ky t o=if lS t[o]then 1+ky t (o+1)else 0:=by
   unfold ky;rw[hd];cases hb:lS t[o]
   ·rw[ah3 (by simp[hb])];rfl
   ·rw[ah4 hb,Kn,if_pos rfl,Nat.add_comm]
  generalize t[o]=c at*;refine VC.bB (VC.bB ?_);refine VC.mZ [] ?_;refine ab.av 0 ?_;refine ae @au ?_;refine ab.av 1 ?_;refine ae @au ?_;refine ab.av 2 ?_;refine ae @au ?_;refine ab.call (i:=3) (nc hr) ?_;rintro _ O3 ⟨rfl,eO⟩;simp only[aj];rw[eO];clear eO O3
  rw[decide_eq_false h1];refine⟨VH.Ge.refl _,?_⟩;refine ab.av 4 ?_;refine ae @au ?_;refine ab.av 5 ?_;refine ae @au ?_;refine ab.av 6 ?_;refine ae @au ?_;refine ab.av 7 ?_;refine ae @au ?_;refine ab.av 8 ?_;refine ae @au ?_;refine ab.av 9 ?_;refine ae @au ?_;refine ab.ld (m:=.str t) 10 ?_ ?_
  ·exact dq @au @bJ
  simp only[aj];refine ab.av 11 ?_;refine ae @au ?_;refine ab.av 12 ?_;refine ae @au ?_;refine ab.av 13 ?_;refine ae @au ?_;refine ab.av 14 ?_;refine ae @au ?_;refine ab.ld (m:=.v (.int .i64 o)) 15 ?_ ?_
  ·exact dq @au @bJ
  simp only[aj];refine ab.av 16 ?_;refine ao @au @hg ?_;refine ab.call (i:=17) (pP c _) ?_;rintro _ O3 ⟨rfl,eO⟩;simp only[aj];rw[eO];clear eO O3
  refine⟨VH.Ge.refl _,?_⟩;refine ab.av 18 ?_;refine ae @au ?_;refine ab.bO [] ?_;cases hb:lS c
  ·rw[hb,if_neg (by simp)]at r4;rw[r4,Nat.add_zero]at vc;refine ae @au ?_;refine WC.sound aa (ae @au ?_);exact aA.mk () ⟨hu,vc▸hr⟩
  ·rw[hb,if_pos rfl]at r4;refine ae @au ?_;refine WC.sound aa (ae @au ?_);refine WC.sound aa (ao @au @bJ ?_);exact ax.next (o+1) ⟨hu.trans br.set,by simpa[aq]using hr.set (t':=t) (off':=o+1) (X':=X),by omega,h2,by omega⟩
set_option linter.defProp false in
def dQ:=RZ au T69
theorem E5 (s:List UInt8) (c:UInt8) (O:VH):eH Tryz.prog 107 [.str s,fL c] O fun m O'=>m=mi (s.count c:Nat)/\O'=O:=by
 refine eH.of (ex:=Extern.BytealgCount.count) Tryz.func107 (by kernel_rfl) (by kernel_rfl) (by kernel_rfl) (by kernel_rfl) fun G w vs hw hv=>?_
 obtain⟨u,us,rfl,h1,h2⟩:=hv.cD;obtain⟨u2,Qa,rfl,h3,h4⟩:=h2.cD;rw[h4.fF];cases h1;have:=h3.iP;subst this;refine⟨_,Lib.run_countString _ _ w,?_⟩;have e:((c.toNat:Int).toNat).toUInt8=c:=by simp
 rw[e];exact .v rfl
theorem V6 (s:List UInt8) (c:UInt8) (O:VH):VF Tryz.prog 80 [.str s,.str [c]] O (aE fun m O'=>m=mi (s.count c:Nat)/\O'=O):=by
 refine VF.dy 34 [.tmp 4] Tryz.func80 ?_;refine aJ @au @Kn.{0} @Km.{0} ?_;refine ah.ext (E5 s c O) rfl ?_;rintro _ O2 ⟨rfl,eO⟩;rw[eO];clear eO O2
 exact fe @au
def fN (s:Bs) (c:UInt8):Nat->Int
 | 0=> -1
 | n+1=>if s[n]?=some c then(n:Int)else fN s c n
theorem E6 (s:Bs) (c:UInt8):∀n, -1<=fN s c n/\fN s c n<n
 | 0=>by simp[fN]
 | n+1=>by
   have:=E6 s c n;unfold fN;split<;>omega
theorem nf (s:List UInt8) (c:UInt8) (O:VH) (hs:s.length<=1000000):VF Tryz.prog 293 [.str s,fL c] O (aE fun m O'=>m=mi (fN s c s.length)/\O'=O):=by
 refine VF.dy 19 [.tmp 4] Tryz.func293 ?_;refine ae @au ?_;refine WC.iS [5] [0,1] (fun j:Nat=>[mi ((j:Int) - 1)]) (fun j O'=>O'=O/\j<=s.length/\fN s c s.length=fN s c j) (fun j=>j) (s.length) ?_ ?_
 ·exact⟨rfl,XN _,rfl⟩
 rintro j O2 ⟨eO,hj,hl⟩;rw[eO];clear eO O2
 rcases j with _ | n
 ·refine ae @au ?_;rw[hl];rfl
 have hg:=acu (show n<s.length by omega);have ry:(((n+1:Nat):Int) - 1).toNat=n:=by omega
 rw[show fN s c (n+1)=if s[n]?=some c then(n:Int)else fN s c n from rfl,hg]at hl;generalize hx:s[n]=d at*;by_cases hd:d=c
 ·rw[hd]at hl hg;rw[if_pos rfl]at hl;refine c_ @au @hg @ry @aI ?_;rw[hl]
 ·have kf:¬((d.toNat:Int)=(c.toNat:Int)):=fun e=>hd (UInt8.toNat_inj.1 (by omega))
  rw[if_neg (by simpa using hd)]at hl;refine gQ @au @hg @ry @aI @kf ?_;refine ax.next (n) ?_;exact⟨rfl,by omega,hl⟩
theorem Gw (s:List UInt8) (c:UInt8) (O:VH) (hs:s.length<=1000000):VF Tryz.prog 270 [.str s,.str [c]] O (aE fun m O'=>m=mi (fN s c s.length)/\O'=O):=by
 refine VF.dy 36 [.tmp 4] Tryz.func270 ?_;refine aJ @au @Kn.{0} @Km.{0} ?_;refine ah.rt (nf s c O hs) ?_;rintro _ O2 ⟨rfl,eO⟩;rw[eO];clear eO O2
 exact fe @au
theorem Bz (s:List UInt8) (c:UInt8) (O:VH) (hs:s.length<=1000000):VF Tryz.prog 265 [.str s,fL c] O (aE fun m O'=>m=mi (fN s c s.length)/\O'=O):=by
 refine VF.dy 8 [.tmp 4] Tryz.func265 ?_;refine ae @au ?_;refine ah.rt (nf s c O hs) ?_;rintro _ O2 ⟨rfl,eO⟩;rw[eO];clear eO O2
 exact fe @au
def o5 (t:Bs) (o:Nat):MV:=.agg [mi o,mi (1+((t.take o).count 10:Nat)),mi ((o:Int) - fN (t.take o) 10 (t.take o).length)]
theorem afl (t:Bs) (o:Nat) (O:VH) (ht:t.length<=1000000) (ho:o<=t.length):VF Tryz.prog 246 [.str t,mi o] O (aE fun m O'=>m=o5 t o/\O.Ge O'):=by
 have hb:=E6 (t.take o) 10 (t.take o).length;have hc:=List.count_le_length (a:=(10:UInt8)) (l:=t.take o);have ew:(t.take o).length<=1000000:=by rw[List.length_take];omega
 unfold o5;refine VF.dy 23 [.cell 4 69] Tryz.func246 ?_;have hmx:max (0:Int) (min (o:Int) ((t:List UInt8).length:Int))=(o:Int):=by omega
 have ry:((o:Int)).toNat=o:=by omega
 refine aJ @dQ @hmx @ry ?_;refine ah.rt (V6 (t.take o) 10 _) ?_;rintro _ O2 ⟨rfl,eO⟩;rw[eO];clear eO O2
 refine ae @dQ ?_;refine ah.rt (Gw (t.take o) 10 _ ew) ?_;rintro _ O2 ⟨rfl,eO⟩;rw[eO];clear eO O2
 generalize fN (t.take o) 10 (t.take o).length=a at*;generalize (t.take o).count 10=b at*;refine ae @dQ ?_;first | exact(VH.Ge.refl O).push _ | exact((VH.Ge.refl O).push _).set (XN _) _
open Go.Shelf
def Tryz.Av:Go.Shelf.Ren:=⟨fun | 156=>57 | 165=>79 | 166=>65 | 169=>68 | 240=>85 | 241=>105 | 276=>113 | 277=>138 | n=>n,fun | 31=>51 | 9=>9 | 3=>3 | 4=>4 | 0=>0 | 20=>20 | 72=>145 | 76=>149 | 70=>142 | 37=>143 | 75=>148 | 127=>189 | 164=>210 | 5=>5 | 80=>156 | n=>n,fun | n=>n⟩
theorem Tryz.Ms:Go.Proofs.Lays.n156 Tryz.prog Tryz.Av:={
 mixed:=by kernel_rfl
 f156:=Tryz.func57.trans (congrArg some (by kernel_rfl))
 f165:=Tryz.func79.trans (congrArg some (by kernel_rfl))
 f166:=Tryz.func65.trans (congrArg some (by kernel_rfl))
 f169:=Tryz.func68.trans (congrArg some (by kernel_rfl))
 f240:=Tryz.func85.trans (congrArg some (by kernel_rfl))
 f241:=Tryz.func105.trans (congrArg some (by kernel_rfl))
 f276:=Tryz.func113.trans (congrArg some (by kernel_rfl))
 f277:=Tryz.func138.trans (congrArg some (by kernel_rfl))
 t0:=Tryz.underlying0
 a0:=Tryz.isAgg0
 z0:=Tryz.sizeOf0
 v0:=Tryz.zeroValue0
 t3:=Tryz.underlying3
 a3:=Tryz.isAgg3
 z3:=Tryz.sizeOf3
 v3:=Tryz.zeroValue3
 t4:=Tryz.underlying4
 a4:=Tryz.isAgg4
 z4:=Tryz.sizeOf4
 v4:=Tryz.zeroValue4
 t9:=Tryz.underlying9
 a9:=Tryz.isAgg9
 z9:=Tryz.sizeOf9
 v9:=Tryz.zeroValue9
 t20:=Tryz.underlying20
 a20:=Tryz.isAgg20
 z20:=Tryz.sizeOf20
 v20:=Tryz.zeroValue20
 t31:=Tryz.underlying51
 a31:=Tryz.isAgg51
 z31:=Tryz.sizeOf51
 v31:=Tryz.zeroValue51
 t37:=Tryz.underlying143
 a37:=Tryz.isAgg143
 z37:=Tryz.sizeOf143
 v37:=Tryz.zeroValue143
 t70:=Tryz.underlying142
 a70:=Tryz.isAgg142
 z70:=Tryz.sizeOf142
 v70:=Tryz.zeroValue142
 t72:=Tryz.underlying145
 a72:=Tryz.isAgg145
 z72:=Tryz.sizeOf145
 v72:=Tryz.zeroValue145
 t75:=Tryz.underlying148
 a75:=Tryz.isAgg148
 z75:=Tryz.sizeOf148
 v75:=Tryz.zeroValue148
 t76:=Tryz.underlying149
 a76:=Tryz.isAgg149
 z76:=Tryz.sizeOf149
 v76:=Tryz.zeroValue149
 t127:=Tryz.underlying189
 a127:=Tryz.isAgg189
 z127:=Tryz.sizeOf189
 v127:=Tryz.zeroValue189
 t164:=Tryz.underlying210
 a164:=Tryz.isAgg210
 z164:=Tryz.sizeOf210
 v164:=Tryz.zeroValue210}
theorem Tryz.p9:Builder.Extra Tryz.prog Tryz.Av:={
 sizeBuilder:=by kernel_rfl
 liesBuilder:=by kernel_rfl
 t5:=Tryz.underlying5
 a5:=Tryz.isAgg5
 z5:=Tryz.sizeOf5
 v5:=Tryz.zeroValue5
 infoByte:=by kernel_rfl
 cellsByte:=by kernel_rfl
 sizeByte:=by kernel_rfl
 neB5:=by decide}
open Go.RowKit in
theorem Tryz.strings_Join_none (a:Option Addr) (c:Nat) (sep:ByteArray) (w:World):
  Calls Tryz.prog 57 #[.slice a 0 c,.string sep] w fun e w'=>e= .returned (.string ⟨#[]⟩)/\w'=w:=Any.strings_Join_none Tryz.Ms Tryz.p9 a c sep w
open Go.RowKit in
theorem Tryz.strings_Join (bk o c:Nat) (xs:List ByteArray) (sep:ByteArray) (w:World) (sF:∀(j:Nat) x,xs[j]?=some x->w.cell? ⟨bk,o+j,none⟩=some (.string x)) (rY:bk<w.heap.size) (hN:xs.length<=140737488355328) (aja:xs.length<=c) (hlen:(Lib.join (xs.map (·.data.toList)) sep.data.toList).length<=140737488355328):
  Calls Tryz.prog 57 #[.slice (some ⟨bk,o,none⟩) xs.length c,.string sep] w fun e w'=>e= .returned (.string ⟨(Lib.join (xs.map (·.data.toList)) sep.data.toList).toArray⟩)/\Below w.heap.size w w':=Any.strings_Join Tryz.Ms Tryz.p9 bk o c xs sep w sF rY hN aja hlen
def Tryz.Jp:Go.Shelf.Ren:=⟨fun | 143=>81 | 219=>108 | 217=>139 | 225=>140 | 224=>141 | 267=>142 | 266=>169 | 314=>170 | n=>n,fun | 9=>9 | 3=>3 | 4=>4 | 5=>5 | 46=>202 | 146=>246 | 51=>128 | n=>n,fun | 1=>0 | n=>n⟩
theorem Tryz.aaf:Go.Proofs.Lays.n143 Tryz.prog Tryz.Jp:={
 mixed:=by kernel_rfl
 f143:=Tryz.func81.trans (congrArg some (by kernel_rfl))
 f217:=Tryz.func139.trans (congrArg some (by kernel_rfl))
 f219:=Tryz.func108.trans (congrArg some (by kernel_rfl))
 f224:=Tryz.func141.trans (congrArg some (by kernel_rfl))
 f225:=Tryz.func140.trans (congrArg some (by kernel_rfl))
 f266:=Tryz.func169.trans (congrArg some (by kernel_rfl))
 f267:=Tryz.func142.trans (congrArg some (by kernel_rfl))
 f314:=Tryz.func170.trans (congrArg some (by kernel_rfl))
 t3:=Tryz.underlying3
 a3:=Tryz.isAgg3
 z3:=Tryz.sizeOf3
 v3:=Tryz.zeroValue3
 t4:=Tryz.underlying4
 a4:=Tryz.isAgg4
 z4:=Tryz.sizeOf4
 v4:=Tryz.zeroValue4
 t5:=Tryz.underlying5
 a5:=Tryz.isAgg5
 z5:=Tryz.sizeOf5
 v5:=Tryz.zeroValue5
 t9:=Tryz.underlying9
 a9:=Tryz.isAgg9
 z9:=Tryz.sizeOf9
 v9:=Tryz.zeroValue9
 t46:=Tryz.underlying202
 a46:=Tryz.isAgg202
 z46:=Tryz.sizeOf202
 v46:=Tryz.zeroValue202
 t51:=Tryz.underlying128
 a51:=Tryz.isAgg128
 z51:=Tryz.sizeOf128
 v51:=Tryz.zeroValue128
 t146:=Tryz.underlying246
 a146:=Tryz.isAgg246
 z146:=Tryz.sizeOf246
 v146:=Tryz.zeroValue246
 g1:=by kernel_rfl}
open Go.RowKit Go.Lib in
theorem Tryz.strings_Index (s sub:ByteArray) (m:Int) (w:World) (hs:s.size<4294967281) (hm:w.cell? ⟨0,0,none⟩=some (.int .i64 m)):
  Calls Tryz.prog 81 #[.string s,.string sub] w fun e w'=>e= .returned (.int .i64 (Lib.index s.data.toList sub.data.toList))/\w'=w:=Any.strings_Index Tryz.aaf s sub m w hs hm
theorem Mt (s p:List UInt8) (O:VH) (hs:s.length<4294967281):VF Tryz.prog 81 [.str s,.str p] O (aE fun m O'=>m=mi (Lib.index s p)/\O'=O):=by
 intro G w vs hw hv;obtain⟨u,us,rfl,h1,h2⟩:=hv.cD;obtain⟨u2,Qa,rfl,h3,h4⟩:=h2.cD;rw[h4.fF];cases h1;cases h3;obtain⟨m,hm⟩:=hw.aeO (g:=0) (by decide);refine(Tryz.strings_Index ⟨⟨s⟩⟩ ⟨⟨p⟩⟩ m w hs hm).mono fun e w' ⟨he,qY⟩=>?_
 subst qY;subst he
 exact⟨.ret (mi (Lib.index s p)),O,G,Gh.Le.refl G,hw,.v rfl,rfl,rfl⟩
theorem index_le:∀(s p:Bs),Lib.index s p<=(s.length:Int)
 | [],p=>by unfold Lib.index;split<;>simp
 | b::l,p=>by
   have:=index_le l p;unfold Lib.index;rw[Kn];split
   ·omega
   ·split<;>omega
theorem aag {f:UInt8->Bool}:∀(s:Bs) (j:Nat) (c:UInt8),s[j]?=some c->j<=(s.takeWhile f).length->if f c then j+1<=(s.takeWhile f).length else(s.takeWhile f).length=j
 | [],j,c,hj,_=>by simp at hj
 | d::s,0,c,hj,_=>by
   simp only[alF,Option.some.injEq]at hj;subst hj;cases h:f d<;>simp[List.takeWhile,h]
 | d::s,j+1,c,hj,h=>by
   rw[ah7]at hj;cases hc:f d
   ·rw[ah3 (by simp[hc])]at h;simp at h
   ·rw[ah4 hc,Kn]at h ⊢;have:=aag (f:=f) s j c hj (by omega);cases Lg:f c
    ·simp only[Lg,alM,if_false]at this ⊢;omega
    ·simp only[Lg,if_true]at this ⊢;omega
def p_ (s p:Bs):Bs:=if 0<=Lib.index s p then s.take (Lib.index s p).toNat else s
def jf (t:Bs) (o:Nat) (p:Bs):Except (Int×Nat) (Bs×Nat):=
 if((p_ (t.drop o) p).takeWhile mw).length<(p_ (t.drop o) p).length then .error (10,o+((p_ (t.drop o) p).takeWhile mw).length)
 else if Lib.index (t.drop o) p<0 then .error (13,t.length)else .ok (p_ (t.drop o) p,o+(Lib.index (t.drop o) p).toNat+p.length)
theorem E7 {O:VH} {k off:Nat} {t:Bs} {X:MV} (fr p:Bs) (h:Rd O k t off X) (ht:t.length<=1000000) (hp:p.length<=1000) (ho:off+fr.length<=t.length):
  VF Tryz.prog 286 [.ptr k 0,.str fr,.str p] O (TQ O k t X (jf t (off+fr.length) p) fun y m=>m= .str y):=by
 have hk:=h.2;have hr:Rd (O.set k (.cells [.str t,mi (off+fr.length:Nat),X])) k t (off+fr.length) X:=h.set;have hu:br O (some k) (O.set k (.cells [.str t,mi (off+fr.length:Nat),X])):=br.set;have kQ:(off:Int)+(fr.length:Int)=((off+fr.length:Nat):Int):=by omega
 simp only[aq, <-kQ]at hk hr hu;refine VF.bN 78 [.tmp 6] Tryz.func286 ?_;refine VC.ag aa (ae @au ?_);refine VC.ag aa (ao @au @hk ?_);generalize O.set k (.cells [.str t,.v (.int .i64 ((off:Int)+(fr.length:Int))),X])=O2 at*;generalize hoo:off+fr.length=o at*;have bJ:=hr.2;simp only[aq]at bJ;unfold jf;refine VC.ag aa (ae @au ?_);refine ah.rt (wT hr ho) ?_;rintro _ O3 ⟨rfl,eO⟩;rw[eO];clear eO O3
 refine ae @au ?_;refine ah.rt (Mt (t.drop o) p _ (by rw[agv];omega)) ?_;rintro _ O3 ⟨rfl,eO⟩;rw[eO];clear eO O3
 refine ae @au ?_;refine VC.ag aa (ae @au ?_);refine ah.rt (wT hr ho) ?_;rintro _ O3 ⟨rfl,eO⟩;rw[eO];clear eO O3
 refine ae @au ?_;have cW:=Lib.index_ge (t.drop o) p;have iq:Lib.index (t.drop o) p<=((t.drop o).length:Int):=index_le _ _;have iO:p_ (t.drop o) p=if 0<=Lib.index (t.drop o) p then(t.drop o).take (Lib.index (t.drop o) p).toNat else t.drop o:=rfl
 have vq:(p_ (t.drop o) p).length<=1000000:=by
  rw[iO];split
  ·rw[agu,agv];omega
  ·rw[agv];omega
 generalize p_ (t.drop o) p=s at*;generalize Lib.index (t.drop o) p=n at*;refine VC.bC [0,2,7,8] (fun _:Unit=>[.ptr k 0,.str p,.v (.int .i64 n),.str s]) (fun _ O'=>O'=O2) ?_ ?_
 ·rw[agv]at iq;by_cases h0:0<=n
  ·rw[if_pos h0]at iO;subst iO;obtain⟨N,rfl⟩:=Int.eq_ofNat_of_zero_le h0;have hN:N<=(t.drop o).length:=by rw[agv];omega
   have ry:(N:Int).toNat=N:=rfl;refine ae @au ?_;refine WC.sound aa (ao @au @ry ?_);exact aA.mk () rfl
  ·rw[if_neg h0]at iO;subst iO;refine ao @au @h0 ?_;refine WC.sound aa (ae @au ?_);exact aA.mk () rfl
 rintro⟨⟩ O3 eO;rw[eO];clear eO O3
 refine VC.ag aa (ae @au ?_);clear iO;have htw:=nV mw s;refine VC.bG [38] [0,2,7,8,37] (fun j:Nat=>[mi j]) (fun j O'=>O'=O2/\j<=s.length/\j<=(s.takeWhile mw).length) (fun j=>s.length - j) (0) ?_ ?_
 ·exact⟨rfl,acw _,acw _⟩
 rintro j O3 ⟨eO,hj,hjt⟩;rw[eO];clear eO O3
 by_cases h1:j<s.length
 ·have hg:=acu h1;have dd:=aag (f:=mw) s j _ hg hjt;generalize s[j]=c at*;cases hc:mw c
  ·rw[hc,if_neg (by simp)]at dd;rw[if_pos (by omega),dd];refine VC.ag aa (ae @au ?_);refine VC.ag aa (ae @au ?_);refine VC.ag aa (ao @au @hg ?_);refine ah.rt (wN c _) ?_;rintro _ O3 ⟨rfl,eO⟩;rw[eO];clear eO O3
   rw[hc];refine ao @au @bJ ?_;refine ah.p (iJ 10 (o+j) _) ?_ ?_
   ·rintro m O9 ⟨_,h⟩;exact h.elim
   rintro m O9 ⟨rfl,rfl⟩;refine ae @au ?_;exact⟨hu,rfl⟩
  ·rw[hc,if_pos rfl]at dd;refine VC.ag aa (ae @au ?_);refine VC.ag aa (ae @au ?_);refine VC.ag aa (ao @au @hg ?_);refine ah.rt (wN c _) ?_;rintro _ O3 ⟨rfl,eO⟩;rw[eO];clear eO O3
   rw[hc];refine ao @au @bJ ?_;refine WC.sound aa (ae @au ?_);exact ax.next (j+1) ⟨rfl,h1,dd⟩
 ·have aX:j=s.length:=by omega
  subst aX;refine VC.ag aa (ae @au ?_);refine WC.sound aa (ae @au ?_);rw[if_neg (by omega)];by_cases h2:n<0
  ·rw[if_pos h2];refine VC.ag aa (ao @au @bJ ?_);refine ah.p (iJ 13 t.length _) ?_ ?_
   ·rintro m O9 ⟨_,h⟩;exact h.elim
   rintro m O9 ⟨rfl,rfl⟩;refine ae @au ?_;exact⟨hu,rfl⟩
  ·rw[if_neg h2];refine VC.ag aa (ao @au @bJ ?_);have h3:(n.toNat:Int)=n:=by omega
   have h4:n<=1000000:=by rw[agv]at iq;omega
   refine VC.ag aa (ao @au @bJ ?_);refine WC.sound aa (ae @au ?_);have eN:(o:Int)+(n+(p.length:Int))=((o+n.toNat+p.length:Nat):Int):=by omega
   rw[eN];exact⟨hu.trans br.set,rfl,by simpa[aq]using hr.set (t':=t) (off':=o+n.toNat+p.length) (X':=X)⟩
def rz (s:Bs):Bool:=dP s [60,63,120,109,108]&&decide (5<s.length)&&(lS (s.getD 5 0)||s.getD 5 0==63)
theorem V7 {O:VH} {k off:Nat} {t:Bs} {X:MV} (h:Rd O k t off X) (ht:t.length<=1000000) (ho:off<=t.length):VF Tryz.prog 287 [.ptr k 0] O (aE fun m O'=>m=mb (rz (t.drop off))/\O'=O):=by
 unfold rz;refine VF.dy 25 [.tmp 2] Tryz.func287 ?_;refine ae @au ?_;refine ah.rt (wT h ho) ?_;rintro _ O2 ⟨rfl,eO⟩;rw[eO];clear eO O2
 have hl:(t.drop off).length<=1000000:=by rw[agv];omega
 generalize t.drop off=s at*;refine ae @au ?_;refine ah.rt (m_ s [60,63,120,109,108] _) ?_;rintro _ O2 ⟨rfl,eO⟩;rw[eO];clear eO O2
 cases h1:dP s [60,63,120,109,108]
 ·exact fe @au
 by_cases h2:5<s.length
 ·have hg:=acu h2;have hd:s.getD 5 0=s[5]:=by simp[List.getD,hg]
  rw[decide_eq_true h2,hd];generalize s[5]=c at*;refine ao @au @hg ?_;refine ah.rt (pP c _) ?_;rintro _ O2 ⟨rfl,eO⟩;rw[eO];clear eO O2
  cases h3:lS c
  ·by_cases h4:c=63
   ·subst h4;refine aJ @au @hg @aI ?_;rfl
   ·have h5:¬((c.toNat:Int)=63):=fun e=>h4 (UInt8.toNat_inj.1 (by simpa using(by omega:c.toNat=63)))
    rw[show(c==63)=false by simpa using h4];exact kt4 @au @hg @aI @h5
  ·exact fe @au
 ·rw[decide_eq_false h2];exact fe @au
end Go.Proofs.YtoclnkfdahmnhaaGreatDoor
