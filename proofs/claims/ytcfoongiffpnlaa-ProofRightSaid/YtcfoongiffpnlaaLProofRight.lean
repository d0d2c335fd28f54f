/-
  ProofRight: the statement: for every input that can be read the law returns true; the input reads behind the call as it did.
-/
import Derived.Test.YtcfoongiffpnlaaRows
import Derived.Test.YtcfoongiffpnlaaPrK
import Derived.Test.YtcfoongiffpnlaaBs
import Derived.JoinedCond
set_option linter.unusedVariables false
set_option linter.unusedSimpArgs false
namespace Go.Proofs.Ytcfoongiffpnlaa.proofRight
open Go.ChangeShapes Go.WideShapes Go.ChangeAt Go.RowKit

theorem own : ownKnob Try.prog.godebug = none := by kernel_rfl
theorem laidOut : laidOutB Try.prog = true := by kernel_rfl

theorem contract (H : Type) (enc : TypeId × Value → H) (W : World) (base : Nat) (args : Array Value) (ds gs : List (DataW H)) (before : List MemPlace)
    (hval : ∀ (j : Nat) t v, Try.f12.params[j]? = some t → args[j]? = some v → Value.okWide Try.prog W .any base t v)
    (hW : DataW.Whole enc Try.prog Try.f12.params.toList Rows.proofRightSpec.vars false W args.toList ds gs before) :
    Calls Try.prog 12 args W fun e W' => ∃ v, e = .returned v ∧ Rows.proofRightSpec.post enc Try.prog Try.f12 false true false false W args v W' := by
  have hW' := hW
  obtain ⟨p, q, hA0, hV, rfl, hfz, hnd⟩ := hW
  have hA : DataW.TrodAll enc Try.prog W 0 (fun _ => true) true Try.f12.params.toList args.toList ds p := hA0
  rw [Try.params12] at hA hval
  obtain ⟨v0, vs0, d0, ds0, p0, q0, hargs, rfl, rfl, h0, r0⟩ := trodAll_cons hA
  obtain ⟨v1, vs1, d1, ds1, p1, q1, rfl, rfl, rfl, h1, r1⟩ := trodAll_cons r0
  obtain ⟨rfl, rfl, rfl⟩ := trodAll_nil r1
  obtain rfl : args = #[v0, v1] := by cases args; simp_all
  obtain ⟨rfl, rfl⟩ := trodVars_none hV
  have lt0 : ∀ x ∈ p0, x.block < W.heap.size := by obtain ⟨m, hm⟩ := h0; exact DataW.trod_lt m _ _ _ hm
  have lt1 : ∀ x ∈ p1, x.block < W.heap.size := by obtain ⟨m, hm⟩ := h1; exact DataW.trod_lt m _ _ _ hm
  obtain ⟨us0, rfl, -⟩ := okWide_struct Try.underlying41 (hval 0 41 v0 rfl rfl)
  obtain ⟨us1, rfl, -⟩ := okWide_struct Try.underlying50 (hval 1 50 v1 rfl rfl)
  obtain ⟨ms0, g0, hp0⟩ := El.argA (El.struct (Φs := [(fun ms => ∃ y : Int, ms = [mi y] ∧ (InK .i64) y), (fun ms => ∃ y : List (List (Int) × Tok) × Tok, ms = [(fun y : List (List (Int) × Tok) × Tok => MV.sl y.1.length (y.1.map (fun y : List (Int) × Tok => MV.sl y.1.length (y.1.map mi) y.2)) y.2) y] ∧ ((fun y : List (List (Int) × Tok) × Tok => (∀ x ∈ y.1, ((fun y : List (Int) × Tok => (∀ x ∈ y.1, (InK .i64) x) ∧ y.1.length ≤ maxLen)) x) ∧ y.1.length ≤ maxLen)) y)]) Try.underlying41 (by kernel_rfl) (Flds.cons rfl (by kernel_rfl) (El.int2 (k := .i64) Try.underlying3) (Flds.cons rfl (by kernel_rfl) (El.row (f := (fun y : List (Int) × Tok => MV.sl y.1.length (y.1.map mi) y.2)) (p := (fun y : List (Int) × Tok => (∀ x ∈ y.1, (InK .i64) x) ∧ y.1.length ≤ maxLen)) Try.underlying24 (by kernel_rfl) (El.row (f := mi) (p := InK .i64) Try.underlying22 (by kernel_rfl) (El.int2 (k := .i64) Try.underlying3))) Flds.nil))) h0
  obtain ⟨m0_0, ms0_0, rfl, ⟨y0_0, e0_0, hp0_0⟩, hq0_0⟩ := hp0.cons
  simp only [List.cons.injEq, and_true] at e0_0
  subst e0_0
  obtain ⟨m0_1, ms0_1, rfl, ⟨y0_1, e0_1, hp0_1⟩, hq0_1⟩ := hq0_0.cons
  simp only [List.cons.injEq, and_true] at e0_1
  subst e0_1
  obtain rfl := hq0_1.nil
  obtain ⟨ms1, g1, hp1⟩ := El.argA (El.struct (Φs := [(fun ms => ∃ y : Int, ms = [mi y] ∧ (InK .i64) y), (fun ms => ∃ y : List (Bool) × Tok, ms = [(fun y : List (Bool) × Tok => MV.sl y.1.length (y.1.map mb) y.2) y] ∧ ((fun y : List (Bool) × Tok => (∀ x ∈ y.1, ((fun _ => True)) x) ∧ y.1.length ≤ maxLen)) y), (fun ms => ∃ y : List (List (Int) × Tok) × Tok, ms = [(fun y : List (List (Int) × Tok) × Tok => MV.sl y.1.length (y.1.map (fun y : List (Int) × Tok => MV.sl y.1.length (y.1.map mi) y.2)) y.2) y] ∧ ((fun y : List (List (Int) × Tok) × Tok => (∀ x ∈ y.1, ((fun y : List (Int) × Tok => (∀ x ∈ y.1, (InK .i64) x) ∧ y.1.length ≤ maxLen)) x) ∧ y.1.length ≤ maxLen)) y), (fun ms => ∃ y : Int, ms = [mi y] ∧ (InK .i64) y)]) Try.underlying50 (by kernel_rfl) (Flds.cons rfl (by kernel_rfl) (El.int2 (k := .i64) Try.underlying3) (Flds.cons rfl (by kernel_rfl) (El.row (f := mb) (p := (fun _ => True)) Try.underlying27 (by kernel_rfl) (El.bool2 Try.underlying4)) (Flds.cons rfl (by kernel_rfl) (El.row (f := (fun y : List (Int) × Tok => MV.sl y.1.length (y.1.map mi) y.2)) (p := (fun y : List (Int) × Tok => (∀ x ∈ y.1, (InK .i64) x) ∧ y.1.length ≤ maxLen)) Try.underlying24 (by kernel_rfl) (El.row (f := mi) (p := InK .i64) Try.underlying22 (by kernel_rfl) (El.int2 (k := .i64) Try.underlying3))) (Flds.cons rfl (by kernel_rfl) (El.int2 (k := .i64) Try.underlying3) Flds.nil))))) h1
  obtain ⟨m1_0, ms1_0, rfl, ⟨y1_0, e1_0, hp1_0⟩, hq1_0⟩ := hp1.cons
  simp only [List.cons.injEq, and_true] at e1_0
  subst e1_0
  obtain ⟨m1_1, ms1_1, rfl, ⟨y1_1, e1_1, hp1_1⟩, hq1_1⟩ := hq1_0.cons
  simp only [List.cons.injEq, and_true] at e1_1
  subst e1_1
  obtain ⟨m1_2, ms1_2, rfl, ⟨y1_2, e1_2, hp1_2⟩, hq1_2⟩ := hq1_1.cons
  simp only [List.cons.injEq, and_true] at e1_2
  subst e1_2
  obtain ⟨m1_3, ms1_3, rfl, ⟨y1_3, e1_3, hp1_3⟩, hq1_3⟩ := hq1_2.cons
  simp only [List.cons.injEq, and_true] at e1_3
  subst e1_3
  obtain rfl := hq1_3.nil
  clear hA0
  simp only [List.append_nil] at hW'
  refine (VF.law (vs := #[.agg us0, .agg us1]) (VRs.cons g0 (VRs.cons g1 VRs.nil)) (law12_v y0_0 y0_1.1 y0_1.2 y1_0 y1_1.1 y1_1.2 y1_2.1 y1_2.2 y1_3 O0 hp0_0 hp0_1.2 hp0_1.1 hp1_0 hp1_1.2 hp1_1.1 hp1_2.2 hp1_2.1 hp1_3)).mono fun e W' ⟨he, hb⟩ => ?_
  subst he
  exact ⟨_, rfl, _, _, _, [], _, [], hW', trodAll_mk1 (shut_bool Try.underlying4 _), (trodAll_cons_mk (Below.trod laidOut (by kernel_rfl) (of_decide_eq_true (by kernel_rfl)) h0 hb lt0) (trodAll_cons_mk (Below.trod laidOut (by kernel_rfl) (of_decide_eq_true (by kernel_rfl)) h1 hb lt1) trodAll_mk0)), rfl, hb.frame _, fun h => by cases h⟩

set_option maxRecDepth 100000 in
theorem lifted (os : Os) (started : os.Started) (H : Type) (enc : TypeId × Value → H) :
    ReturnsInHanded {} Try.checked os 12 .any (Rows.proofRightSpec.pre6 enc Try.prog Try.f12 Rows.proofRightRow.domain false) (Rows.proofRightSpec.post enc Try.prog Try.f12 false true false false) := by
  refine returnsInHanded_of_change (C := Try.checked) own started (by kernel_rfl) Try.func12
    (ChangeSpec.witness6 (enc := enc) (C := Try.checked) false ⟨#[], #[.agg #[.int .i64 0, .slice none 0 0], .agg #[.int .i64 0, .slice none 0 0, .slice none 0 0, .int .i64 0]], []⟩ 8 (by kernel_rfl) (by kernel_rfl) (by kernel_rfl) (by kernel_rfl)) ?_
  intro W base args ds gs before hval hW hcnd _
  exact contract H enc W base args ds gs before hval hW

theorem over : Rows.proofRightRow.holds Try.pinned (OpenSpec.ofChange Rows.proofRightSpec) :=
  OpenClaim.holds_of_wide 12 Try.f12 rfl rfl rfl rfl rfl rfl rfl ⟨rfl, rfl, rfl, rfl, rfl⟩ rfl rfl rfl rfl rfl (by kernel_rfl) Try.func12 (by kernel_rfl)
    (of_decide_eq_true (by kernel_rfl)) (by unfold Func.isWrapper; first | (rw [if_pos (by decide +kernel)]; kernel_rfl) | (rw [if_neg (by decide +kernel)]; exact ⟨rfl, rfl⟩))
    (fun os started H enc _ => lifted os started H enc)

theorem proved : Rows.ProofRightSaid := over
end Go.Proofs.Ytcfoongiffpnlaa.proofRight
