import Derived.Test.YtoclnkfdahmnhaaGreatDoorRows
import Derived.Test.YtoclnkfdahmnhaaGreatDoorCards
import Derived.Test.YtoclnkfdahmnhaaGreatDoorTie
import Derived.LaidMore
import Derived.MakeChecks
import Derived.SevenTiedAt
import Derived.Stop.Joined
import Derived.Shelf.Vars
import Derived.HandedShaped
import Derived.Test.YtoclnkfdahmnhaaGreatDoorMG
import Derived.JoinedCond
set_option linter.unusedVariables false
set_option linter.unusedSimpArgs false
namespace Go.Proofs.YtoclnkfdahmnhaaGreatDoor.pathsBehind
open Go.ChangeShapes Go.WideShapes Go.ChangeAt Go.RowKit
theorem own:ownKnob Tryz.prog.godebug=none:=by kernel_rfl
theorem laidOut:laidOutB Tryz.prog=true:=by kernel_rfl
set_option maxRecDepth 20000 in
set_option linter.defProp false in
def el219 {H:Type} {enc:TypeId×Value->H} {w:World} {sp:Nat->Bool} {held:Bool}:=(jU.struct (enc:=enc) (P:=Tryz.prog) (w:=w) (sp:=sp) (held:=held) (t:=219) (N:=3) Tryz.underlying219 (by kernel_rfl) (jD.cons (n:=1) rfl (by kernel_rfl) (jU.bool Tryz.underlying4) (jD.cons (n:=1) rfl (by kernel_rfl) (jU.str Tryz.underlying9) (jD.one (n:=1) rfl (by kernel_rfl) (jU.bool Tryz.underlying4)))))
set_option maxRecDepth 20000 in
set_option linter.defProp false in
def el221 {H:Type} {enc:TypeId×Value->H} {w:World} {sp:Nat->Bool} {held:Bool}:=(jU.struct (enc:=enc) (P:=Tryz.prog) (w:=w) (sp:=sp) (held:=held) (t:=221) (N:=6) Tryz.underlying221 (by kernel_rfl) (jD.cons (n:=3) rfl (by kernel_rfl) el219 (jD.one (n:=3) rfl (by kernel_rfl) el219)))
set_option maxRecDepth 20000 in
set_option linter.defProp false in
def el31 {H:Type} {enc:TypeId×Value->H} {w:World} {sp:Nat->Bool} {held:Bool}:=(jU.slice (enc:=enc) (P:=Tryz.prog) (w:=w) (sp:=sp) (held:=held) (t:=31) Tryz.underlying31 (by decide+kernel) el221)
set_option maxRecDepth 20000 in
set_option linter.defProp false in
def el33 {H:Type} {enc:TypeId×Value->H} {w:World} {sp:Nat->Bool} {held:Bool}:=(jU.struct (enc:=enc) (P:=Tryz.prog) (w:=w) (sp:=sp) (held:=held) (t:=33) (N:=3) Tryz.underlying33 (by kernel_rfl) (jD.cons (n:=1) rfl (by kernel_rfl) (jU.bool Tryz.underlying4) (jD.cons (n:=1) rfl (by kernel_rfl) (jU.str Tryz.underlying9) (jD.one (n:=1) rfl (by kernel_rfl) el31))))
set_option maxRecDepth 20000 in
set_option linter.defProp false in
def el30 {H:Type} {enc:TypeId×Value->H} {w:World} {sp:Nat->Bool} {held:Bool}:=(jU.struct (enc:=enc) (P:=Tryz.prog) (w:=w) (sp:=sp) (held:=held) (t:=30) (N:=4) Tryz.underlying30 (by kernel_rfl) (jD.cons (n:=1) rfl (by kernel_rfl) (jU.str Tryz.underlying9) (jD.cons (n:=1) rfl (by kernel_rfl) (jU.str Tryz.underlying9) (jD.cons (n:=1) rfl (by kernel_rfl) (jU.str Tryz.underlying9) (jD.one (n:=1) rfl (by kernel_rfl) (jU.str Tryz.underlying9))))))
set_option maxRecDepth 20000 in
set_option linter.defProp false in
def el35 {H:Type} {enc:TypeId×Value->H} {w:World} {sp:Nat->Bool} {held:Bool}:=(jU.struct (enc:=enc) (P:=Tryz.prog) (w:=w) (sp:=sp) (held:=held) (t:=35) (N:=13) Tryz.underlying35 (by kernel_rfl) (jD.cons (n:=1) rfl (by kernel_rfl) (jU.int (k:=.i64) Tryz.underlying3) (jD.cons (n:=1) rfl (by kernel_rfl) (jU.int (k:=.i64) Tryz.underlying3) (jD.cons (n:=1) rfl (by kernel_rfl) (jU.int (k:=.i64) Tryz.underlying3) (jD.cons (n:=4) rfl (by kernel_rfl) el30 (jD.cons (n:=1) rfl (by kernel_rfl) (jU.str Tryz.underlying9) (jD.cons (n:=3) rfl (by kernel_rfl) el33 (jD.cons (n:=1) rfl (by kernel_rfl) (jU.int (k:=.i64) Tryz.underlying3) (jD.one (n:=1) rfl (by kernel_rfl) (jU.bool Tryz.underlying4))))))))))
set_option maxRecDepth 20000 in
set_option linter.defProp false in
def el22 {H:Type} {enc:TypeId×Value->H} {w:World} {sp:Nat->Bool} {held:Bool}:=(jU.slice (enc:=enc) (P:=Tryz.prog) (w:=w) (sp:=sp) (held:=held) (t:=22) Tryz.underlying22 (by decide+kernel) el35)
set_option maxRecDepth 20000 in
theorem contract (H:Type) (enc:TypeId×Value->H) (W:World) (base:Nat) (args:Array Value) (ds gs:List (DataW H)) (before:List MemPlace) (Iw:Kk W)
  (hval:∀(j:Nat) t v,Tryz.f8.params[j]?=some t->args[j]?=some v->Value.okWide Tryz.prog W .any base t v)
  (hW:DataW.Whole enc Tryz.prog Tryz.f8.params.toList Rows.pathsBehindSpec.vars false W args.toList ds gs before):
  Calls Tryz.prog 8 args W fun e W'=>∃v,e= .returned v/\Rows.pathsBehindSpec.post enc Tryz.prog Tryz.f8 false true false false W args v W':=by
 have hW':=hW;obtain⟨p,q,hA0,hV,rfl,hfz,TR⟩:=hW;have hA:DataW.TrodAll enc Tryz.prog W 0 (fun _=>true) true Tryz.f8.params.toList args.toList ds p:=hA0;rw[Tryz.params8]at hA hval;obtain⟨v0,vs0,d0,ds0,p0,q0,ik,rfl,rfl,h0,r0⟩:=trodAll_cons hA;obtain⟨rfl,rfl,rfl⟩:=trodAll_nil r0;obtain rfl:args= #[v0]:=by cases args;simp_all
 obtain⟨rfl,rfl⟩:=trodVars_none hV;have lt0:∀x∈p0,x.block<W.heap.size:=by obtain⟨m,hm⟩:=h0;exact DataW.trod_lt m _ _ _ hm
 have c0:v0.cells= #[v0]:=by obtain⟨a,l,c,rfl⟩:=okWide_slice Tryz.underlying22 (hval 0 22 v0 rfl rfl);rfl
 obtain⟨m0,y0,g0,e0,hp0⟩:=jU.arg el22 h0 c0;simp only[List.cons.injEq,and_true]at e0;subst e0;clear hA0;simp only[List.append_nil]at hW';refine(VF.law (vs:= #[v0]) Iw (aO.cons g0 aO.nil) (Kl y0 O0 hp0)).mono fun e W' ⟨he,hb⟩=>?_
 subst he;exact⟨_,rfl,_,_,_,[],_,[],hW',trodAll_mk1 (shut_bool Tryz.underlying4 _),(trodAll_cons_mk (Below.trod laidOut (by kernel_rfl) (of_decide_eq_true (by kernel_rfl)) h0 hb lt0) trodAll_mk0),rfl,hb.frame _,fun h=>by cases h⟩
theorem glok {w:World} (h:w.ShapedOpen Tryz.prog):Kk w:=by
 intro g hg;simp only[OI,List.mem_cons,List.not_mem_nil,or_false]at hg;rcases hg with rfl;all_goals exact cell_of_shapedOpen_int (t:=3) (zero:= #[.int .i64 0]) h (by decide+kernel) (by kernel_rfl) rfl (by kernel_rfl) (by kernel_rfl) Tryz.underlying3
theorem met (os:Os) (args:Array Value):laidMetH Tryz.prog Rows.pathsBehindRow.laid (({World.doorLaid Tryz.prog 2000 os with heap:=(World.doorLaid Tryz.prog 2000 os).heap.modify 1 fun | .cells _ t z=>.cells (Go.Pinned.utf8FirstZ.map fun n:Nat=>Value.int .u8 n).toArray t z | o=>o}).forCall (fun _ _=>0) ⟨#[],args,[]⟩).memory:=by
 rw[MakeChecks.laidMetH_plain _ _ _ (by kernel_rfl)];exact laidMet_of_run' 8 (by kernel_rfl) (by kernel_rfl)
set_option maxRecDepth 100000 in
theorem lifted (os:Os) (started:os.Started) (H:Type) (enc:TypeId×Value->H):
  ReturnsInHanded {} Tryz.checked os 8 .any (fun w args=>(Rows.pathsBehindSpec.pre enc Tryz.prog Tryz.f8 [] false w args/\laidMetH Tryz.prog Rows.pathsBehindRow.laid w)/\sizedMet enc Tryz.prog Tryz.f8 (OpenSpec.ofChange Rows.pathsBehindSpec) false w args) (Rows.pathsBehindSpec.post enc Tryz.prog Tryz.f8 false true false false):=by
 refine returnsInHanded_of_calls own started (by kernel_rfl)
  (ChangeSpec.witness_shaped (enc:=enc) (C:=Tryz.checked) (os:=os) (X:=fun w _=>laidMetH Tryz.prog Rows.pathsBehindRow.laid w) false ({World.doorLaid Tryz.prog 2000 os with heap:=(World.doorLaid Tryz.prog 2000 os).heap.modify 1 fun | .cells _ t z=>.cells (Go.Pinned.utf8FirstZ.map fun n:Nat=>Value.int .u8 n).toArray t z | o=>o}) #[.slice none 0 0] 8 rfl (World.shaped_of_RefB (by kernel_rfl) (by kernel_rfl)) (by kernel_rfl) (by kernel_rfl) (by kernel_rfl) (met os _)) ?_
 intro w tape i _ hsh _ cK hpre hholds;obtain⟨_,_,_,fn',hfn',_,_,_,_,hval⟩:=cK;have e:fn'=Tryz.f8:=Option.some.inj (hfn'.symm.trans Tryz.func8);subst e;obtain⟨⟨⟨ds,gs,before,hw,hc⟩,hx⟩,hz⟩:=hpre;have qY:=DataW.Whole.of_heap (w':=w.forCall tape i) (by rfl) hw;refine(contract H enc (w.forCall tape i) w.heap.size i.args ds gs before (glok hsh) hval qY).mono fun e W' ⟨v,he,hp⟩=>?_
 subst he;exact ChangeSpec.post_blind hp
theorem kName:Tryz.prog.funcNamed Rows.pathsBehindRow.func=some 8:=by kernel_rfl
theorem kRowed:mapsRowed Tryz.prog=true:=by kernel_rfl
theorem kInp:(Rows.pathsBehindRow.inPlace==Tryz.prog.inPlace 8)=true:=by kernel_rfl
theorem kUnf:(Rows.pathsBehindRow.unfollowed==Tryz.prog.unfollowed 8)=true:=by kernel_rfl
theorem kRec:(Rows.pathsBehindRow.recurses==Tryz.prog.recurses 8)=true:=by kernel_rfl
theorem kVars:(Rows.pathsBehindRow.named==Tryz.prog.varsNamed 8)=true:=by kernel_rfl
theorem kHeard:Tryz.prog.stopsHeard=true:=by kernel_rfl
theorem kEnter:Tryz.prog.mayEnter=true:=by kernel_rfl
theorem kLift:(Rows.pathsBehindRow.lifted==Tryz.prog.liftsFinal)=true:=by kernel_rfl
theorem kMake:(Tryz.prog.make==some Rows.pathsBehindRow.make)=true:=by kernel_rfl
theorem kMain:Tryz.prog.mainIs=some (((true, "87ec56aad57e50ea6c12723056e6b8818ace8ed1d866494a794d11f4691941f2")).1,((true, "87ec56aad57e50ea6c12723056e6b8818ace8ed1d866494a794d11f4691941f2")).2.toList):=by kernel_rfl
theorem kLooks:true=Tryz.prog.looks []:=by kernel_rfl
theorem kGoes:false=Rows.pathsBehindRow.goesBy Tryz.prog:=by kernel_rfl
theorem andMk {a b:Bool} (h1:a=true) (h2:b=true):(a&&b)=true:=by rw[h1,h2];rfl
theorem closed:joinedFacts Tryz.prog 8 Tryz.f8 Rows.pathsBehindSpec Rows.pathsBehindRow=true:=by
 unfold joinedFacts;repeat' with_reducible refine andMk ?_ ?_
 all_goals first | with_reducible exact laidOut | with_reducible exact kRowed | with_reducible exact kInp | with_reducible exact kUnf | with_reducible exact kRec | with_reducible exact kVars | with_reducible exact kHeard | with_reducible exact kEnter | with_reducible exact kLift | with_reducible exact kMake | kernel_rfl
theorem over:Rows.pathsBehindRow.holds Tryz.pinned (OpenSpec.ofChange Rows.pathsBehindSpec):=
 OpenClaim.holds_of_wide 8 Tryz.f8 rfl rfl rfl rfl rfl rfl rfl ⟨rfl,rfl,rfl,rfl,rfl⟩ rfl rfl rfl rfl rfl kName Tryz.func8 closed
  (of_decide_eq_true (by kernel_rfl)) (by unfold Func.isWrapper;first | (rw[if_pos (by decide+kernel)];kernel_rfl) | (rw[if_neg (by decide+kernel)];exact⟨rfl,rfl⟩))
  (fun os started H enc _=>lifted os started H enc)
theorem proved:Rows.PathsBehindCardSaid:=
 Claim7.holds_tied_plain_at .later [] [.data,.pinned] true (true, "87ec56aad57e50ea6c12723056e6b8818ace8ed1d866494a794d11f4691941f2") true
  over (fun _ h=>by cases h) (by kernel_rfl) (fun _ h=>by cases h) pathsBehind_row_tie rfl ⟨rfl,rfl⟩ kMain rfl
  (fun f fn hf hfn=>by
   obtain rfl:f=8:=Option.some.inj (kName.symm.trans hf) |>.symm;obtain rfl:fn=Tryz.f8:=(Option.some.inj (Tryz.func8.symm.trans hfn)).symm
   exact⟨kLooks,fun j t ht=>by
    rw[Tryz.params8]at ht;have hm:=Array.mem_of_getElem? ht;simp only[List.mem_toArray,List.mem_cons,List.not_mem_nil,or_false]at hm;rcases hm with rfl
    ·exact(show Tryz.prog.wantsStandIn 22=false by kernel_rfl)⟩)
  kGoes
end Go.Proofs.YtoclnkfdahmnhaaGreatDoor.pathsBehind
