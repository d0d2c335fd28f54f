import Derived.Test.YtjpadehgejlebaaGreatDoorRows
import Derived.Test.YtjpadehgejlebaaGreatDoorCards
import Derived.Test.YtjpadehgejlebaaGreatDoorTie
import Derived.LaidMore
import Derived.MakeChecks
import Derived.SevenTiedAt
import Derived.Stop.Joined
import Derived.Shelf.Vars
import Derived.HandedShaped
import Derived.Test.YtjpadehgejlebaaGreatDoorMH
import Derived.JoinedCond
set_option linter.unusedVariables false
set_option linter.unusedSimpArgs false
namespace Go.Proofs.YtjpadehgejlebaaGreatDoor.planWaves
open Go.ChangeShapes Go.WideShapes Go.ChangeAt Go.RowKit
theorem own:ownKnob Tryz.prog.godebug=none:=by kernel_rfl
theorem laidOut:laidOutB Tryz.prog=true:=by kernel_rfl
set_option maxRecDepth 20000 in
set_option linter.defProp false in
def el29 {H:Type} {enc:TypeId×Value->H} {w:World} {sp:Nat->Bool} {held:Bool}:=(G5.slice (enc:=enc) (P:=Tryz.prog) (w:=w) (sp:=sp) (held:=held) (t:=29) Tryz.underlying29 (by decide+kernel) (G5.int (k:=.i64) Tryz.underlying3))
set_option maxRecDepth 20000 in
set_option linter.defProp false in
def el25 {H:Type} {enc:TypeId×Value->H} {w:World} {sp:Nat->Bool} {held:Bool}:=(G5.slice (enc:=enc) (P:=Tryz.prog) (w:=w) (sp:=sp) (held:=held) (t:=25) Tryz.underlying25 (by decide+kernel) el29)
set_option maxRecDepth 20000 in
theorem contract (H:Type) (enc:TypeId×Value->H) (W:World) (base:Nat) (args:Array Value) (ds gs:List (DataW H)) (before:List MemPlace) (n9:OT W)
  (hval:∀(j:Nat) t v,Tryz.f5.params[j]?=some t->args[j]?=some v->Value.okWide Tryz.prog W .any base t v)
  (hW:DataW.Whole enc Tryz.prog Tryz.f5.params.toList Rows.planWavesSpec.vars false W args.toList ds gs before):
  Calls Tryz.prog 5 args W fun e W'=>∃v,e= .returned v/\Rows.planWavesSpec.post enc Tryz.prog Tryz.f5 false true false false W args v W':=by
 have hW':=hW;obtain⟨p,q,hA0,hV,rfl,hfz,eN⟩:=hW;have hA:DataW.TrodAll enc Tryz.prog W 0 (fun _=>true) true Tryz.f5.params.toList args.toList ds p:=hA0;rw[Tryz.params5]at hA hval;obtain⟨v0,vs0,d0,ds0,p0,q0,jH,rfl,rfl,h0,r0⟩:=trodAll_cons hA;obtain⟨rfl,rfl,rfl⟩:=trodAll_nil r0;obtain rfl:args= #[v0]:=by cases args;simp_all
 obtain⟨rfl,rfl⟩:=trodVars_none hV;have lt0:∀x∈p0,x.block<W.heap.size:=by obtain⟨m,hm⟩:=h0;exact DataW.trod_lt m _ _ _ hm
 have c0:v0.cells= #[v0]:=by obtain⟨a,l,c,rfl⟩:=okWide_slice Tryz.underlying25 (hval 0 25 v0 rfl rfl);rfl
 obtain⟨m0,y0,g0,e0,hp0⟩:=G5.arg el25 h0 c0;simp only[List.cons.injEq,and_true]at e0;subst e0;clear hA0;simp only[List.append_nil]at hW';refine(VF.law (vs:= #[v0]) n9 (aW.cons g0 aW.nil) (Tf y0 O0 hp0)).mono fun e W' ⟨he,hb⟩=>?_
 subst he;exact⟨_,rfl,_,_,_,[],_,[],hW',trodAll_mk1 (shut_bool Tryz.underlying4 _),(trodAll_cons_mk (Below.trod laidOut (by kernel_rfl) (of_decide_eq_true (by kernel_rfl)) h0 hb lt0) trodAll_mk0),rfl,hb.frame _,fun h=>by cases h⟩
theorem glok {w:World} (h:w.ShapedOpen Tryz.prog):OT w:=by
 intro g hg;simp only[Tg,List.mem_cons,List.not_mem_nil,or_false]at hg;rcases hg with rfl;all_goals exact cell_of_shapedOpen_int (t:=3) (zero:= #[.int .i64 0]) h (by decide+kernel) (by kernel_rfl) rfl (by kernel_rfl) (by kernel_rfl) Tryz.underlying3
theorem met (os:Os) (args:Array Value):laidMetH Tryz.prog Rows.planWavesRow.laid (({World.doorLaid Tryz.prog 2000 os with heap:=(World.doorLaid Tryz.prog 2000 os).heap.modify 1 fun | .cells _ t z=>.cells (Go.Pinned.utf8FirstZ.map fun n:Nat=>Value.int .u8 n).toArray t z | o=>o}).forCall (fun _ _=>0) ⟨#[],args,[]⟩).memory:=by
 rw[MakeChecks.laidMetH_plain _ _ _ (by kernel_rfl)];exact laidMet_of_run' 8 (by kernel_rfl) (by kernel_rfl)
set_option maxRecDepth 100000 in
theorem lifted (os:Os) (started:os.Started) (H:Type) (enc:TypeId×Value->H):
  ReturnsInHanded {} Tryz.checked os 5 .any (fun w args=>(Rows.planWavesSpec.pre enc Tryz.prog Tryz.f5 [] false w args/\laidMetH Tryz.prog Rows.planWavesRow.laid w)/\sizedMet enc Tryz.prog Tryz.f5 (OpenSpec.ofChange Rows.planWavesSpec) false w args) (Rows.planWavesSpec.post enc Tryz.prog Tryz.f5 false true false false):=by
 refine returnsInHanded_of_calls own started (by kernel_rfl)
  (ChangeSpec.witness_shaped (enc:=enc) (C:=Tryz.checked) (os:=os) (X:=fun w _=>laidMetH Tryz.prog Rows.planWavesRow.laid w) false ({World.doorLaid Tryz.prog 2000 os with heap:=(World.doorLaid Tryz.prog 2000 os).heap.modify 1 fun | .cells _ t z=>.cells (Go.Pinned.utf8FirstZ.map fun n:Nat=>Value.int .u8 n).toArray t z | o=>o}) #[.slice none 0 0] 8 rfl (World.shaped_of_RefB (by kernel_rfl) (by kernel_rfl)) (by kernel_rfl) (by kernel_rfl) (by kernel_rfl) (met os _)) ?_
 intro w tape i _ hsh _ dw hpre hholds;obtain⟨_,_,_,fn',hfn',_,_,_,_,hval⟩:=dw;have e:fn'=Tryz.f5:=Option.some.inj (hfn'.symm.trans Tryz.func5);subst e;obtain⟨⟨⟨ds,gs,before,hw,hc⟩,hx⟩,hz⟩:=hpre;have lI:=DataW.Whole.of_heap (w':=w.forCall tape i) (by rfl) hw;refine(contract H enc (w.forCall tape i) w.heap.size i.args ds gs before (glok hsh) hval lI).mono fun e W' ⟨v,he,hp⟩=>?_
 subst he;exact ChangeSpec.post_blind hp
theorem kName:Tryz.prog.funcNamed Rows.planWavesRow.func=some 5:=by kernel_rfl
theorem kRowed:mapsRowed Tryz.prog=true:=by kernel_rfl
theorem kInp:(Rows.planWavesRow.inPlace==Tryz.prog.inPlace 5)=true:=by kernel_rfl
theorem kUnf:(Rows.planWavesRow.unfollowed==Tryz.prog.unfollowed 5)=true:=by kernel_rfl
theorem kRec:(Rows.planWavesRow.recurses==Tryz.prog.recurses 5)=true:=by kernel_rfl
theorem kVars:(Rows.planWavesRow.named==Tryz.prog.varsNamed 5)=true:=by kernel_rfl
theorem kHeard:Tryz.prog.stopsHeard=true:=by kernel_rfl
theorem kEnter:Tryz.prog.mayEnter=true:=by kernel_rfl
theorem kLift:(Rows.planWavesRow.lifted==Tryz.prog.liftsFinal)=true:=by kernel_rfl
theorem kMake:(Tryz.prog.make==some Rows.planWavesRow.make)=true:=by kernel_rfl
theorem kMain:Tryz.prog.mainIs=some (((true, "ab52d475cff81ddae1b7a47742ba122ecfb9619a092dd623bed4b01bff5d3204")).1,((true, "ab52d475cff81ddae1b7a47742ba122ecfb9619a092dd623bed4b01bff5d3204")).2.toList):=by kernel_rfl
theorem kLooks:true=Tryz.prog.looks []:=by kernel_rfl
theorem kGoes:false=Rows.planWavesRow.goesBy Tryz.prog:=by kernel_rfl
theorem andMk {a b:Bool} (h1:a=true) (h2:b=true):(a&&b)=true:=by rw[h1,h2];rfl
theorem closed:joinedFacts Tryz.prog 5 Tryz.f5 Rows.planWavesSpec Rows.planWavesRow=true:=by
 unfold joinedFacts;repeat' with_reducible refine andMk ?_ ?_
 all_goals first | with_reducible exact laidOut | with_reducible exact kRowed | with_reducible exact kInp | with_reducible exact kUnf | with_reducible exact kRec | with_reducible exact kVars | with_reducible exact kHeard | with_reducible exact kEnter | with_reducible exact kLift | with_reducible exact kMake | kernel_rfl
theorem over:Rows.planWavesRow.holds Tryz.pinned (OpenSpec.ofChange Rows.planWavesSpec):=
 OpenClaim.holds_of_wide 5 Tryz.f5 rfl rfl rfl rfl rfl rfl rfl ⟨rfl,rfl,rfl,rfl,rfl⟩ rfl rfl rfl rfl rfl kName Tryz.func5 closed
  (of_decide_eq_true (by kernel_rfl)) (by unfold Func.isWrapper;first | (rw[if_pos (by decide+kernel)];kernel_rfl) | (rw[if_neg (by decide+kernel)];exact⟨rfl,rfl⟩))
  (fun os started H enc _=>lifted os started H enc)
theorem proved:Rows.PlanWavesCardSaid:=
 Claim7.holds_tied_plain_at .later [] [.data,.pinned] true (true, "ab52d475cff81ddae1b7a47742ba122ecfb9619a092dd623bed4b01bff5d3204") true
  over (fun _ h=>by cases h) (by kernel_rfl) (fun _ h=>by cases h) planWaves_row_tie rfl ⟨rfl,rfl⟩ kMain rfl
  (fun f fn hf Mp=>by
   obtain rfl:f=5:=Option.some.inj (kName.symm.trans hf) |>.symm;obtain rfl:fn=Tryz.f5:=(Option.some.inj (Tryz.func5.symm.trans Mp)).symm
   exact⟨kLooks,fun j t ht=>by
    rw[Tryz.params5]at ht;have hm:=Array.mem_of_getElem? ht;simp only[List.mem_toArray,List.mem_cons,List.not_mem_nil,or_false]at hm;rcases hm with rfl
    ·exact(show Tryz.prog.wantsStandIn 25=false by kernel_rfl)⟩)
  kGoes
end Go.Proofs.YtjpadehgejlebaaGreatDoor.planWaves
