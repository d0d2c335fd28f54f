import Derived.Test.YtnfdmplcieacjaaGreatDoorRows
import Derived.Test.YtnfdmplcieacjaaGreatDoorCards
import Derived.Test.YtnfdmplcieacjaaGreatDoorTie
import Derived.LaidMore
import Derived.MakeChecks
import Derived.SevenTiedAt
import Derived.Stop.Joined
import Derived.Shelf.Vars
import Derived.HandedShaped
import Derived.Test.YtnfdmplcieacjaaGreatDoorMH
import Derived.JoinedCond
set_option linter.unusedVariables false
set_option linter.unusedSimpArgs false
namespace Go.Proofs.YtnfdmplcieacjaaGreatDoor.collectRises
open Go.ChangeShapes Go.WideShapes Go.ChangeAt Go.RowKit
theorem own:ownKnob Tryz.prog.godebug=none:=by kernel_rfl
theorem laidOut:laidOutB Tryz.prog=true:=by kernel_rfl
set_option maxRecDepth 20000 in
set_option linter.defProp false in
def el24 {H:Type} {enc:TypeId×Value->H} {w:World} {sp:Nat->Bool} {held:Bool}:=(sI.struct (enc:=enc) (P:=Tryz.prog) (w:=w) (sp:=sp) (held:=held) (t:=24) (N:=3) Tryz.underlying24 (by kernel_rfl) (xA.cons (n:=1) rfl (by kernel_rfl) (sI.str Tryz.underlying9) (xA.cons (n:=1) rfl (by kernel_rfl) (sI.str Tryz.underlying9) (xA.one (n:=1) rfl (by kernel_rfl) (sI.str Tryz.underlying9)))))
set_option maxRecDepth 20000 in
set_option linter.defProp false in
def el57 {H:Type} {enc:TypeId×Value->H} {w:World} {sp:Nat->Bool} {held:Bool}:=(sI.struct (enc:=enc) (P:=Tryz.prog) (w:=w) (sp:=sp) (held:=held) (t:=57) (N:=4) Tryz.underlying57 (by kernel_rfl) (xA.cons (n:=3) rfl (by kernel_rfl) el24 (xA.one (n:=1) rfl (by kernel_rfl) (sI.str Tryz.underlying9))))
set_option maxRecDepth 20000 in
set_option linter.defProp false in
def el22 {H:Type} {enc:TypeId×Value->H} {w:World} {sp:Nat->Bool} {held:Bool}:=(sI.slice (enc:=enc) (P:=Tryz.prog) (w:=w) (sp:=sp) (held:=held) (t:=22) Tryz.underlying22 (by decide+kernel) el57)
set_option maxRecDepth 20000 in
theorem contract (H:Type) (enc:TypeId×Value->H) (W:World) (base:Nat) (args:Array Value) (ds gs:List (DataW H)) (before:List MemPlace) (D4:Rp W)
  (wC:∀(j:Nat) t v,Tryz.f3.params[j]?=some t->args[j]?=some v->Value.okWide Tryz.prog W .any base t v)
  (hW:DataW.Whole enc Tryz.prog Tryz.f3.params.toList Rows.collectRisesSpec.vars false W args.toList ds gs before):
  Calls Tryz.prog 3 args W fun e W'=>∃v,e= .returned v/\Rows.collectRisesSpec.post enc Tryz.prog Tryz.f3 false true false false W args v W':=by
 have hW':=hW;obtain⟨p,q,Rq,hV,rfl,hfz,hnd⟩:=hW;have hA:DataW.TrodAll enc Tryz.prog W 0 (fun _=>true) true Tryz.f3.params.toList args.toList ds p:=Rq;rw[Tryz.params3]at hA wC;obtain⟨v0,vs0,d0,ds0,p0,q0,jL,rfl,rfl,h0,r0⟩:=trodAll_cons hA;obtain⟨v1,vs1,d1,ds1,p1,q1,rfl,rfl,rfl,h1,r1⟩:=trodAll_cons r0;obtain⟨rfl,rfl,rfl⟩:=trodAll_nil r1;obtain rfl:args= #[v0,v1]:=by cases args;simp_all
 obtain⟨rfl,rfl⟩:=trodVars_none hV;have lt0:∀x∈p0,x.block<W.heap.size:=by obtain⟨m,hm⟩:=h0;exact DataW.trod_lt m _ _ _ hm
 have lt1:∀x∈p1,x.block<W.heap.size:=by obtain⟨m,hm⟩:=h1;exact DataW.trod_lt m _ _ _ hm
 have c0:v0.cells= #[v0]:=by obtain⟨a,l,c,rfl⟩:=okWide_slice Tryz.underlying22 (wC 0 22 v0 rfl rfl);rfl
 obtain⟨us1,rfl, -⟩:=okWide_struct Tryz.underlying24 (wC 1 24 v1 rfl rfl);obtain⟨m0,y0,g0,e0,hp0⟩:=sI.arg el22 h0 c0;simp only[List.cons.injEq,and_true]at e0;subst e0;obtain⟨y1,g1,rT⟩:=sI.aeu el24 h1;clear Rq;simp only[List.append_nil]at hW';refine(VF.law (vs:= #[v0,.agg us1]) D4 (aX.cons g0 (aX.cons g1 aX.nil)) (Wp y0 y1 O0 hp0 rT)).mono fun e W' ⟨he,hb⟩=>?_
 subst he;exact⟨_,rfl,_,_,_,[],_,[],hW',trodAll_mk1 (shut_bool Tryz.underlying4 _),(trodAll_cons_mk (Below.trod laidOut (by kernel_rfl) (of_decide_eq_true (by kernel_rfl)) h0 hb lt0) (trodAll_cons_mk (Below.trod laidOut (by kernel_rfl) (of_decide_eq_true (by kernel_rfl)) h1 hb lt1) trodAll_mk0)),rfl,hb.frame _,fun h=>by cases h⟩
theorem glok {w:World} (h:w.ShapedOpen Tryz.prog):Rp w:=by
 intro g hg;simp only[Wq,List.mem_cons,List.not_mem_nil,or_false]at hg;rcases hg with rfl;all_goals exact cell_of_shapedOpen_int (t:=3) (zero:= #[.int .i64 0]) h (by decide+kernel) (by kernel_rfl) rfl (by kernel_rfl) (by kernel_rfl) Tryz.underlying3
theorem met (os:Os) (args:Array Value):laidMetH Tryz.prog Rows.collectRisesRow.laid (({World.doorLaid Tryz.prog 2000 os with heap:=(World.doorLaid Tryz.prog 2000 os).heap.modify 1 fun | .cells _ t z=>.cells (Go.Pinned.utf8FirstZ.map fun n:Nat=>Value.int .u8 n).toArray t z | o=>o}).forCall (fun _ _=>0) ⟨#[],args,[]⟩).memory:=by
 rw[MakeChecks.laidMetH_plain _ _ _ (by kernel_rfl)];exact laidMet_of_run' 8 (by kernel_rfl) (by kernel_rfl)
set_option maxRecDepth 100000 in
theorem lifted (os:Os) (started:os.Started) (H:Type) (enc:TypeId×Value->H):
  ReturnsInHanded {} Tryz.checked os 3 .any (fun w args=>(Rows.collectRisesSpec.pre enc Tryz.prog Tryz.f3 [] false w args/\laidMetH Tryz.prog Rows.collectRisesRow.laid w)/\sizedMet enc Tryz.prog Tryz.f3 (OpenSpec.ofChange Rows.collectRisesSpec) false w args) (Rows.collectRisesSpec.post enc Tryz.prog Tryz.f3 false true false false):=by
 refine returnsInHanded_of_calls own started (by kernel_rfl)
  (ChangeSpec.witness_shaped (enc:=enc) (C:=Tryz.checked) (os:=os) (X:=fun w _=>laidMetH Tryz.prog Rows.collectRisesRow.laid w) false ({World.doorLaid Tryz.prog 2000 os with heap:=(World.doorLaid Tryz.prog 2000 os).heap.modify 1 fun | .cells _ t z=>.cells (Go.Pinned.utf8FirstZ.map fun n:Nat=>Value.int .u8 n).toArray t z | o=>o}) #[.slice none 0 0,.agg #[.string ⟨#[]⟩,.string ⟨#[]⟩,.string ⟨#[]⟩]] 8 rfl (World.shaped_of_RefB (by kernel_rfl) (by kernel_rfl)) (by kernel_rfl) (by kernel_rfl) (by kernel_rfl) (met os _)) ?_
 intro w tape i _ hsh _ bH Z0 hholds;obtain⟨_,_,_,fn',hfn',_,_,_,_,wC⟩:=bH;have e:fn'=Tryz.f3:=Option.some.inj (hfn'.symm.trans Tryz.func3);subst e;obtain⟨⟨⟨ds,gs,before,hw,hc⟩,hx⟩,hz⟩:=Z0;have D5:=DataW.Whole.of_heap (w':=w.forCall tape i) (by rfl) hw;refine(contract H enc (w.forCall tape i) w.heap.size i.args ds gs before (glok hsh) wC D5).mono fun e W' ⟨v,he,hp⟩=>?_
 subst he;exact ChangeSpec.post_blind hp
theorem kName:Tryz.prog.funcNamed Rows.collectRisesRow.func=some 3:=by kernel_rfl
theorem kRowed:mapsRowed Tryz.prog=true:=by kernel_rfl
theorem kInp:(Rows.collectRisesRow.inPlace==Tryz.prog.inPlace 3)=true:=by kernel_rfl
theorem kUnf:(Rows.collectRisesRow.unfollowed==Tryz.prog.unfollowed 3)=true:=by kernel_rfl
theorem kRec:(Rows.collectRisesRow.recurses==Tryz.prog.recurses 3)=true:=by kernel_rfl
theorem kVars:(Rows.collectRisesRow.named==Tryz.prog.varsNamed 3)=true:=by kernel_rfl
theorem kHeard:Tryz.prog.stopsHeard=true:=by kernel_rfl
theorem kEnter:Tryz.prog.mayEnter=true:=by kernel_rfl
theorem kLift:(Rows.collectRisesRow.lifted==Tryz.prog.liftsFinal)=true:=by kernel_rfl
theorem kMake:(Tryz.prog.make==some Rows.collectRisesRow.make)=true:=by kernel_rfl
theorem kMain:Tryz.prog.mainIs=some (((true, "9a1cbcbe08e88c7a8d3f42cce4fa3a4d88521ce5523eece9fd93f6c0ef6566d6")).1,((true, "9a1cbcbe08e88c7a8d3f42cce4fa3a4d88521ce5523eece9fd93f6c0ef6566d6")).2.toList):=by kernel_rfl
theorem kLooks:true=Tryz.prog.looks []:=by kernel_rfl
theorem kGoes:false=Rows.collectRisesRow.goesBy Tryz.prog:=by kernel_rfl
theorem andMk {a b:Bool} (h1:a=true) (h2:b=true):(a&&b)=true:=by rw[h1,h2];rfl
theorem closed:joinedFacts Tryz.prog 3 Tryz.f3 Rows.collectRisesSpec Rows.collectRisesRow=true:=by
 unfold joinedFacts;repeat' with_reducible refine andMk ?_ ?_
 all_goals first | with_reducible exact laidOut | with_reducible exact kRowed | with_reducible exact kInp | with_reducible exact kUnf | with_reducible exact kRec | with_reducible exact kVars | with_reducible exact kHeard | with_reducible exact kEnter | with_reducible exact kLift | with_reducible exact kMake | kernel_rfl
theorem over:Rows.collectRisesRow.holds Tryz.pinned (OpenSpec.ofChange Rows.collectRisesSpec):=
 OpenClaim.holds_of_wide 3 Tryz.f3 rfl rfl rfl rfl rfl rfl rfl ⟨rfl,rfl,rfl,rfl,rfl⟩ rfl rfl rfl rfl rfl kName Tryz.func3 closed
  (of_decide_eq_true (by kernel_rfl)) (by unfold Func.isWrapper;first | (rw[if_pos (by decide+kernel)];kernel_rfl) | (rw[if_neg (by decide+kernel)];exact⟨rfl,rfl⟩))
  (fun os started H enc _=>lifted os started H enc)
theorem proved:Rows.CollectRisesCardSaid:=
 Claim7.holds_tied_plain_at .later [] [.data,.pinned] true (true, "9a1cbcbe08e88c7a8d3f42cce4fa3a4d88521ce5523eece9fd93f6c0ef6566d6") true
  over (fun _ h=>by cases h) (by kernel_rfl) (fun _ h=>by cases h) collectRises_row_tie rfl ⟨rfl,rfl⟩ kMain rfl
  (fun f fn hf hfn=>by
   obtain rfl:f=3:=Option.some.inj (kName.symm.trans hf) |>.symm;obtain rfl:fn=Tryz.f3:=(Option.some.inj (Tryz.func3.symm.trans hfn)).symm
   exact⟨kLooks,fun j t ht=>by
    rw[Tryz.params3]at ht;have hm:=Array.mem_of_getElem? ht;simp only[List.mem_toArray,List.mem_cons,List.not_mem_nil,or_false]at hm;rcases hm with rfl | rfl
    ·exact(show Tryz.prog.wantsStandIn 22=false by kernel_rfl)
    ·exact(show Tryz.prog.wantsStandIn 24=false by kernel_rfl)⟩)
  kGoes
end Go.Proofs.YtnfdmplcieacjaaGreatDoor.collectRises
