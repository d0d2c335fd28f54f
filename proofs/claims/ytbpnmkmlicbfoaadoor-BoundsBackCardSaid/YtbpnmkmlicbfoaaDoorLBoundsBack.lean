/-
  BoundsBack: the statement: for every input that can be read the law returns true; the input reads behind the call as it did.
-/
import Derived.Test.YtbpnmkmlicbfoaaDoorRows
import Derived.Test.YtbpnmkmlicbfoaaDoorCards
import Derived.Test.YtbpnmkmlicbfoaaDoorTie
import Derived.LaidMore
import Derived.MakeChecks
import Derived.SevenTiedAt
import Derived.Stop.Joined
import Derived.Test.YtbpnmkmlicbfoaaDoorMO
import Derived.JoinedCond
set_option linter.unusedVariables false
set_option linter.unusedSimpArgs false
namespace Go.Proofs.YtbpnmkmlicbfoaaDoor.boundsBack
open Go.ChangeShapes Go.WideShapes Go.ChangeAt Go.RowKit

theorem own : ownKnob Tryd.prog.godebug = none := by kernel_rfl
theorem laidOut : laidOutB Tryd.prog = true := by kernel_rfl

set_option maxRecDepth 20000 in
theorem el55 {H : Type} {enc : TypeId × Value → H} {w : World} {sp : Nat → Bool} {held : Bool} : ElT enc Tryd.prog w sp held 55 (fun y : (Bool) × ((List UInt8) × (Bool)) => (fun b : Bool => [mb b]) y.1 ++ (fun y : (List UInt8) × (Bool) => (fun l : List UInt8 => [MV.str l]) y.1 ++ (fun b : Bool => [mb b]) y.2) y.2) (fun y : (Bool) × ((List UInt8) × (Bool)) => (fun _ : Bool => True) y.1 ∧ (fun y : (List UInt8) × (Bool) => (fun l : List UInt8 => l.length ≤ maxLen) y.1 ∧ (fun _ : Bool => True) y.2) y.2) :=
  ElT.struct (N := 3) Tryd.underlying55 (by kernel_rfl) (FldT.cons (n := 1) (f := (fun b : Bool => [mb b])) (p := (fun _ : Bool => True)) (f' := (fun y : (List UInt8) × (Bool) => (fun l : List UInt8 => [MV.str l]) y.1 ++ (fun b : Bool => [mb b]) y.2)) (p' := (fun y : (List UInt8) × (Bool) => (fun l : List UInt8 => l.length ≤ maxLen) y.1 ∧ (fun _ : Bool => True) y.2)) rfl (by kernel_rfl) (ElT.bool Tryd.underlying4) (FldT.cons (n := 1) (f := (fun l : List UInt8 => [MV.str l])) (p := (fun l : List UInt8 => l.length ≤ maxLen)) (f' := (fun b : Bool => [mb b])) (p' := (fun _ : Bool => True)) rfl (by kernel_rfl) (ElT.str Tryd.underlying9) (FldT.one (n := 1) rfl (by kernel_rfl) (ElT.bool Tryd.underlying4))))
set_option maxRecDepth 20000 in
theorem el57 {H : Type} {enc : TypeId × Value → H} {w : World} {sp : Nat → Bool} {held : Bool} : ElT enc Tryd.prog w sp held 57 (fun y : ((Bool) × ((List UInt8) × (Bool))) × ((Bool) × ((List UInt8) × (Bool))) => (fun y : (Bool) × ((List UInt8) × (Bool)) => (fun b : Bool => [mb b]) y.1 ++ (fun y : (List UInt8) × (Bool) => (fun l : List UInt8 => [MV.str l]) y.1 ++ (fun b : Bool => [mb b]) y.2) y.2) y.1 ++ (fun y : (Bool) × ((List UInt8) × (Bool)) => (fun b : Bool => [mb b]) y.1 ++ (fun y : (List UInt8) × (Bool) => (fun l : List UInt8 => [MV.str l]) y.1 ++ (fun b : Bool => [mb b]) y.2) y.2) y.2) (fun y : ((Bool) × ((List UInt8) × (Bool))) × ((Bool) × ((List UInt8) × (Bool))) => (fun y : (Bool) × ((List UInt8) × (Bool)) => (fun _ : Bool => True) y.1 ∧ (fun y : (List UInt8) × (Bool) => (fun l : List UInt8 => l.length ≤ maxLen) y.1 ∧ (fun _ : Bool => True) y.2) y.2) y.1 ∧ (fun y : (Bool) × ((List UInt8) × (Bool)) => (fun _ : Bool => True) y.1 ∧ (fun y : (List UInt8) × (Bool) => (fun l : List UInt8 => l.length ≤ maxLen) y.1 ∧ (fun _ : Bool => True) y.2) y.2) y.2) :=
  ElT.struct (N := 6) Tryd.underlying57 (by kernel_rfl) (FldT.cons (n := 3) (f := (fun y : (Bool) × ((List UInt8) × (Bool)) => (fun b : Bool => [mb b]) y.1 ++ (fun y : (List UInt8) × (Bool) => (fun l : List UInt8 => [MV.str l]) y.1 ++ (fun b : Bool => [mb b]) y.2) y.2)) (p := (fun y : (Bool) × ((List UInt8) × (Bool)) => (fun _ : Bool => True) y.1 ∧ (fun y : (List UInt8) × (Bool) => (fun l : List UInt8 => l.length ≤ maxLen) y.1 ∧ (fun _ : Bool => True) y.2) y.2)) (f' := (fun y : (Bool) × ((List UInt8) × (Bool)) => (fun b : Bool => [mb b]) y.1 ++ (fun y : (List UInt8) × (Bool) => (fun l : List UInt8 => [MV.str l]) y.1 ++ (fun b : Bool => [mb b]) y.2) y.2)) (p' := (fun y : (Bool) × ((List UInt8) × (Bool)) => (fun _ : Bool => True) y.1 ∧ (fun y : (List UInt8) × (Bool) => (fun l : List UInt8 => l.length ≤ maxLen) y.1 ∧ (fun _ : Bool => True) y.2) y.2)) rfl (by kernel_rfl) el55 (FldT.one (n := 3) rfl (by kernel_rfl) el55))
set_option maxRecDepth 20000 in
theorem el23 {H : Type} {enc : TypeId × Value → H} {w : World} {sp : Nat → Bool} {held : Bool} : ElT enc Tryd.prog w sp held 23 (fun y : List (((Bool) × ((List UInt8) × (Bool))) × ((Bool) × ((List UInt8) × (Bool)))) × Tok => [MV.sl y.1.length (y.1.flatMap (fun y : ((Bool) × ((List UInt8) × (Bool))) × ((Bool) × ((List UInt8) × (Bool))) => (fun y : (Bool) × ((List UInt8) × (Bool)) => (fun b : Bool => [mb b]) y.1 ++ (fun y : (List UInt8) × (Bool) => (fun l : List UInt8 => [MV.str l]) y.1 ++ (fun b : Bool => [mb b]) y.2) y.2) y.1 ++ (fun y : (Bool) × ((List UInt8) × (Bool)) => (fun b : Bool => [mb b]) y.1 ++ (fun y : (List UInt8) × (Bool) => (fun l : List UInt8 => [MV.str l]) y.1 ++ (fun b : Bool => [mb b]) y.2) y.2) y.2)) y.2]) (fun y : List (((Bool) × ((List UInt8) × (Bool))) × ((Bool) × ((List UInt8) × (Bool)))) × Tok => (∀ x ∈ y.1, (fun y : ((Bool) × ((List UInt8) × (Bool))) × ((Bool) × ((List UInt8) × (Bool))) => (fun y : (Bool) × ((List UInt8) × (Bool)) => (fun _ : Bool => True) y.1 ∧ (fun y : (List UInt8) × (Bool) => (fun l : List UInt8 => l.length ≤ maxLen) y.1 ∧ (fun _ : Bool => True) y.2) y.2) y.1 ∧ (fun y : (Bool) × ((List UInt8) × (Bool)) => (fun _ : Bool => True) y.1 ∧ (fun y : (List UInt8) × (Bool) => (fun l : List UInt8 => l.length ≤ maxLen) y.1 ∧ (fun _ : Bool => True) y.2) y.2) y.2) x) ∧ y.1.length ≤ maxLen) :=
  ElT.slice Tryd.underlying23 (by decide +kernel) el57
set_option maxRecDepth 20000 in
theorem el25 {H : Type} {enc : TypeId × Value → H} {w : World} {sp : Nat → Bool} {held : Bool} : ElT enc Tryd.prog w sp held 25 (fun y : (Bool) × ((List UInt8) × (List (((Bool) × ((List UInt8) × (Bool))) × ((Bool) × ((List UInt8) × (Bool)))) × Tok)) => (fun b : Bool => [mb b]) y.1 ++ (fun y : (List UInt8) × (List (((Bool) × ((List UInt8) × (Bool))) × ((Bool) × ((List UInt8) × (Bool)))) × Tok) => (fun l : List UInt8 => [MV.str l]) y.1 ++ (fun y : List (((Bool) × ((List UInt8) × (Bool))) × ((Bool) × ((List UInt8) × (Bool)))) × Tok => [MV.sl y.1.length (y.1.flatMap (fun y : ((Bool) × ((List UInt8) × (Bool))) × ((Bool) × ((List UInt8) × (Bool))) => (fun y : (Bool) × ((List UInt8) × (Bool)) => (fun b : Bool => [mb b]) y.1 ++ (fun y : (List UInt8) × (Bool) => (fun l : List UInt8 => [MV.str l]) y.1 ++ (fun b : Bool => [mb b]) y.2) y.2) y.1 ++ (fun y : (Bool) × ((List UInt8) × (Bool)) => (fun b : Bool => [mb b]) y.1 ++ (fun y : (List UInt8) × (Bool) => (fun l : List UInt8 => [MV.str l]) y.1 ++ (fun b : Bool => [mb b]) y.2) y.2) y.2)) y.2]) y.2) y.2) (fun y : (Bool) × ((List UInt8) × (List (((Bool) × ((List UInt8) × (Bool))) × ((Bool) × ((List UInt8) × (Bool)))) × Tok)) => (fun _ : Bool => True) y.1 ∧ (fun y : (List UInt8) × (List (((Bool) × ((List UInt8) × (Bool))) × ((Bool) × ((List UInt8) × (Bool)))) × Tok) => (fun l : List UInt8 => l.length ≤ maxLen) y.1 ∧ (fun y : List (((Bool) × ((List UInt8) × (Bool))) × ((Bool) × ((List UInt8) × (Bool)))) × Tok => (∀ x ∈ y.1, (fun y : ((Bool) × ((List UInt8) × (Bool))) × ((Bool) × ((List UInt8) × (Bool))) => (fun y : (Bool) × ((List UInt8) × (Bool)) => (fun _ : Bool => True) y.1 ∧ (fun y : (List UInt8) × (Bool) => (fun l : List UInt8 => l.length ≤ maxLen) y.1 ∧ (fun _ : Bool => True) y.2) y.2) y.1 ∧ (fun y : (Bool) × ((List UInt8) × (Bool)) => (fun _ : Bool => True) y.1 ∧ (fun y : (List UInt8) × (Bool) => (fun l : List UInt8 => l.length ≤ maxLen) y.1 ∧ (fun _ : Bool => True) y.2) y.2) y.2) x) ∧ y.1.length ≤ maxLen) y.2) y.2) :=
  ElT.struct (N := 3) Tryd.underlying25 (by kernel_rfl) (FldT.cons (n := 1) (f := (fun b : Bool => [mb b])) (p := (fun _ : Bool => True)) (f' := (fun y : (List UInt8) × (List (((Bool) × ((List UInt8) × (Bool))) × ((Bool) × ((List UInt8) × (Bool)))) × Tok) => (fun l : List UInt8 => [MV.str l]) y.1 ++ (fun y : List (((Bool) × ((List UInt8) × (Bool))) × ((Bool) × ((List UInt8) × (Bool)))) × Tok => [MV.sl y.1.length (y.1.flatMap (fun y : ((Bool) × ((List UInt8) × (Bool))) × ((Bool) × ((List UInt8) × (Bool))) => (fun y : (Bool) × ((List UInt8) × (Bool)) => (fun b : Bool => [mb b]) y.1 ++ (fun y : (List UInt8) × (Bool) => (fun l : List UInt8 => [MV.str l]) y.1 ++ (fun b : Bool => [mb b]) y.2) y.2) y.1 ++ (fun y : (Bool) × ((List UInt8) × (Bool)) => (fun b : Bool => [mb b]) y.1 ++ (fun y : (List UInt8) × (Bool) => (fun l : List UInt8 => [MV.str l]) y.1 ++ (fun b : Bool => [mb b]) y.2) y.2) y.2)) y.2]) y.2)) (p' := (fun y : (List UInt8) × (List (((Bool) × ((List UInt8) × (Bool))) × ((Bool) × ((List UInt8) × (Bool)))) × Tok) => (fun l : List UInt8 => l.length ≤ maxLen) y.1 ∧ (fun y : List (((Bool) × ((List UInt8) × (Bool))) × ((Bool) × ((List UInt8) × (Bool)))) × Tok => (∀ x ∈ y.1, (fun y : ((Bool) × ((List UInt8) × (Bool))) × ((Bool) × ((List UInt8) × (Bool))) => (fun y : (Bool) × ((List UInt8) × (Bool)) => (fun _ : Bool => True) y.1 ∧ (fun y : (List UInt8) × (Bool) => (fun l : List UInt8 => l.length ≤ maxLen) y.1 ∧ (fun _ : Bool => True) y.2) y.2) y.1 ∧ (fun y : (Bool) × ((List UInt8) × (Bool)) => (fun _ : Bool => True) y.1 ∧ (fun y : (List UInt8) × (Bool) => (fun l : List UInt8 => l.length ≤ maxLen) y.1 ∧ (fun _ : Bool => True) y.2) y.2) y.2) x) ∧ y.1.length ≤ maxLen) y.2)) rfl (by kernel_rfl) (ElT.bool Tryd.underlying4) (FldT.cons (n := 1) (f := (fun l : List UInt8 => [MV.str l])) (p := (fun l : List UInt8 => l.length ≤ maxLen)) (f' := (fun y : List (((Bool) × ((List UInt8) × (Bool))) × ((Bool) × ((List UInt8) × (Bool)))) × Tok => [MV.sl y.1.length (y.1.flatMap (fun y : ((Bool) × ((List UInt8) × (Bool))) × ((Bool) × ((List UInt8) × (Bool))) => (fun y : (Bool) × ((List UInt8) × (Bool)) => (fun b : Bool => [mb b]) y.1 ++ (fun y : (List UInt8) × (Bool) => (fun l : List UInt8 => [MV.str l]) y.1 ++ (fun b : Bool => [mb b]) y.2) y.2) y.1 ++ (fun y : (Bool) × ((List UInt8) × (Bool)) => (fun b : Bool => [mb b]) y.1 ++ (fun y : (List UInt8) × (Bool) => (fun l : List UInt8 => [MV.str l]) y.1 ++ (fun b : Bool => [mb b]) y.2) y.2) y.2)) y.2])) (p' := (fun y : List (((Bool) × ((List UInt8) × (Bool))) × ((Bool) × ((List UInt8) × (Bool)))) × Tok => (∀ x ∈ y.1, (fun y : ((Bool) × ((List UInt8) × (Bool))) × ((Bool) × ((List UInt8) × (Bool))) => (fun y : (Bool) × ((List UInt8) × (Bool)) => (fun _ : Bool => True) y.1 ∧ (fun y : (List UInt8) × (Bool) => (fun l : List UInt8 => l.length ≤ maxLen) y.1 ∧ (fun _ : Bool => True) y.2) y.2) y.1 ∧ (fun y : (Bool) × ((List UInt8) × (Bool)) => (fun _ : Bool => True) y.1 ∧ (fun y : (List UInt8) × (Bool) => (fun l : List UInt8 => l.length ≤ maxLen) y.1 ∧ (fun _ : Bool => True) y.2) y.2) y.2) x) ∧ y.1.length ≤ maxLen)) rfl (by kernel_rfl) (ElT.str Tryd.underlying9) (FldT.one (n := 1) rfl (by kernel_rfl) el23)))
set_option maxRecDepth 20000 in
theorem contract (H : Type) (enc : TypeId × Value → H) (W : World) (base : Nat) (args : Array Value) (ds gs : List (DataW H)) (before : List MemPlace)
    (hval : ∀ (j : Nat) t v, Tryd.f8.params[j]? = some t → args[j]? = some v → Value.okWide Tryd.prog W .any base t v)
    (hW : DataW.Whole enc Tryd.prog Tryd.f8.params.toList Rows.boundsBackSpec.vars false W args.toList ds gs before) :
    Calls Tryd.prog 8 args W fun e W' => ∃ v, e = .returned v ∧ Rows.boundsBackSpec.post enc Tryd.prog Tryd.f8 false true false false W args v W' := by
  have hW' := hW
  obtain ⟨p, q, hA0, hV, rfl, hfz, hnd⟩ := hW
  have hA : DataW.TrodAll enc Tryd.prog W 0 (fun _ => true) true Tryd.f8.params.toList args.toList ds p := hA0
  rw [Tryd.params8] at hA hval
  obtain ⟨v0, vs0, d0, ds0, p0, q0, hargs, rfl, rfl, h0, r0⟩ := trodAll_cons hA
  obtain ⟨rfl, rfl, rfl⟩ := trodAll_nil r0
  obtain rfl : args = #[v0] := by cases args; simp_all
  obtain ⟨rfl, rfl⟩ := trodVars_none hV
  have lt0 : ∀ x ∈ p0, x.block < W.heap.size := by obtain ⟨m, hm⟩ := h0; exact DataW.trod_lt m _ _ _ hm
  obtain ⟨us0, rfl, -⟩ := okWide_struct Tryd.underlying25 (hval 0 25 v0 rfl rfl)
  obtain ⟨y0, g0, hp0⟩ := ElT.argA el25 h0
  clear hA0
  simp only [List.append_nil] at hW'
  refine (VF.law (vs := #[.agg us0]) (VRs.cons g0 VRs.nil) (back5_law y0 O0 hp0)).mono fun e W' ⟨he, hb⟩ => ?_
  subst he
  exact ⟨_, rfl, _, _, _, [], _, [], hW', trodAll_mk1 (shut_bool Tryd.underlying4 _), (trodAll_cons_mk (Below.trod laidOut (by kernel_rfl) (of_decide_eq_true (by kernel_rfl)) h0 hb lt0) trodAll_mk0), rfl, hb.frame _, fun h => by cases h⟩

theorem met (os : Os) (args : Array Value) : laidMetH Tryd.prog Rows.boundsBackRow.laid (({ World.doorLaid Tryd.prog 2000 os with heap := (World.doorLaid Tryd.prog 2000 os).heap.modify 1 fun | .cells _ t z => .cells (Go.Pinned.utf8FirstZ.map fun n : Nat => Value.int .u8 n).toArray t z | o => o }).forCall (fun _ _ => 0) ⟨#[], args, []⟩).memory := by
  rw [MakeChecks.laidMetH_plain _ _ _ (by kernel_rfl)]
  exact laidMet_of_run' 8 (by kernel_rfl) (by kernel_rfl)
set_option maxRecDepth 100000 in
theorem lifted (os : Os) (started : os.Started) (H : Type) (enc : TypeId × Value → H) :
    ReturnsInHanded {} Tryd.checked os 8 .any (fun w args => (Rows.boundsBackSpec.pre enc Tryd.prog Tryd.f8 [] false w args ∧ laidMetH Tryd.prog Rows.boundsBackRow.laid w) ∧ sizedMet enc Tryd.prog Tryd.f8 (OpenSpec.ofChange Rows.boundsBackSpec) false w args) (Rows.boundsBackSpec.post enc Tryd.prog Tryd.f8 false true false false) := by
  refine returnsInHanded_of_change_and (C := Tryd.checked) (X := fun w _ => laidMetH Tryd.prog Rows.boundsBackRow.laid w) (fun _ _ _ hh h => h.of_heap hh) own started (by kernel_rfl) Tryd.func8
    (ChangeSpec.witness_shaped (enc := enc) (C := Tryd.checked) (os := os) (X := fun w _ => laidMetH Tryd.prog Rows.boundsBackRow.laid w) false ({ World.doorLaid Tryd.prog 2000 os with heap := (World.doorLaid Tryd.prog 2000 os).heap.modify 1 fun | .cells _ t z => .cells (Go.Pinned.utf8FirstZ.map fun n : Nat => Value.int .u8 n).toArray t z | o => o }) #[.agg #[.bool false, .string ⟨#[]⟩, .slice none 0 0]] 8 rfl (World.shaped_of_RefB (by kernel_rfl) (by kernel_rfl)) (by kernel_rfl) (by kernel_rfl) (by kernel_rfl) (met os _)) ?_
  intro W base args ds gs before hval hW _ _ _ _
  exact contract H enc W base args ds gs before hval hW
theorem over : Rows.boundsBackRow.holds Tryd.pinned (OpenSpec.ofChange Rows.boundsBackSpec) :=
  OpenClaim.holds_of_wide 8 Tryd.f8 rfl rfl rfl rfl rfl rfl rfl ⟨rfl, rfl, rfl, rfl, rfl⟩ rfl rfl rfl rfl rfl (by kernel_rfl) Tryd.func8 (by kernel_rfl)
    (of_decide_eq_true (by kernel_rfl)) (by unfold Func.isWrapper; first | (rw [if_pos (by decide +kernel)]; kernel_rfl) | (rw [if_neg (by decide +kernel)]; exact ⟨rfl, rfl⟩))
    (fun os started H enc _ => lifted os started H enc)
theorem proved : Rows.BoundsBackCardSaid :=
  Claim7.holds_tied_plain_at .later [] [.data, .pinned] true (true, "8cdc91aea900bd5fddcb6d3a06caf1c31615b93214b67db0aff81ac5daef0001") true
    over (fun _ h => by cases h) (by kernel_rfl) (fun _ h => by cases h) boundsBack_row_tie rfl ⟨rfl, rfl⟩ (by kernel_rfl) rfl
    (fun f fn hf hfn => by
      obtain rfl : f = 8 := Option.some.inj ((show Tryd.prog.funcNamed Rows.boundsBackRow.func = some 8 by kernel_rfl).symm.trans hf) |>.symm
      obtain rfl : fn = Tryd.f8 := (Option.some.inj (Tryd.func8.symm.trans hfn)).symm
      exact ⟨by kernel_rfl, fun j t ht => by
        rw [Tryd.params8] at ht
        have hm := Array.mem_of_getElem? ht
        simp only [List.mem_toArray, List.mem_cons, List.not_mem_nil, or_false] at hm
        rcases hm with rfl
        · exact (show Tryd.prog.wantsStandIn 25 = false by kernel_rfl)⟩)
    (by kernel_rfl)
end Go.Proofs.YtbpnmkmlicbfoaaDoor.boundsBack

