/-
  ProofMore: the statement: for every input that can be read the law returns true; the input reads behind the call as it did.
-/
import Derived.Test.YtcfoongiffpnlaaRows
import Derived.Test.YtcfoongiffpnlaaPrL
import Derived.Test.YtcfoongiffpnlaaBs
import Derived.JoinedCond
set_option linter.unusedVariables false
set_option linter.unusedSimpArgs false
namespace Go.Proofs.Ytcfoongiffpnlaa.proofMore
open Go.ChangeShapes Go.WideShapes Go.ChangeAt Go.RowKit

theorem own : ownKnob Try.prog.godebug = none := by kernel_rfl
theorem laidOut : laidOutB Try.prog = true := by kernel_rfl

theorem contract (H : Type) (enc : TypeId × Value → H) (W : World) (base : Nat) (args : Array Value) (ds gs : List (DataW H)) (before : List MemPlace)
    (hval : ∀ (j : Nat) t v, Try.f9.params[j]? = some t → args[j]? = some v → Value.okWide Try.prog W .any base t v)
    (hW : DataW.Whole enc Try.prog Try.f9.params.toList Rows.proofMoreSpec.vars false W args.toList ds gs before) :
    Calls Try.prog 9 args W fun e W' => ∃ v, e = .returned v ∧ Rows.proofMoreSpec.post enc Try.prog Try.f9 false true false false W args v W' := by
  have hW' := hW
  obtain ⟨p, q, hA0, hV, rfl, hfz, hnd⟩ := hW
  have hA : DataW.TrodAll enc Try.prog W 0 (fun _ => true) true Try.f9.params.toList args.toList ds p := hA0
  rw [Try.params9] at hA hval
  obtain ⟨v0, vs0, d0, ds0, p0, q0, hargs, rfl, rfl, h0, r0⟩ := trodAll_cons hA
  obtain ⟨v1, vs1, d1, ds1, p1, q1, rfl, rfl, rfl, h1, r1⟩ := trodAll_cons r0
  obtain ⟨v2, vs2, d2, ds2, p2, q2, rfl, rfl, rfl, h2, r2⟩ := trodAll_cons r1
  obtain ⟨rfl, rfl, rfl⟩ := trodAll_nil r2
  obtain rfl : args = #[v0, v1, v2] := by cases args; simp_all
  obtain ⟨rfl, rfl⟩ := trodVars_none hV
  have lt0 : ∀ x ∈ p0, x.block < W.heap.size := by obtain ⟨m, hm⟩ := h0; exact DataW.trod_lt m _ _ _ hm
  have lt1 : ∀ x ∈ p1, x.block < W.heap.size := by obtain ⟨m, hm⟩ := h1; exact DataW.trod_lt m _ _ _ hm
  have lt2 : ∀ x ∈ p2, x.block < W.heap.size := by obtain ⟨m, hm⟩ := h2; exact DataW.trod_lt m _ _ _ hm
  obtain ⟨us0, rfl, -⟩ := okWide_array Try.underlying43 (hval 0 43 v0 rfl rfl)
  have c1 : v1.cells = #[v1] := by obtain ⟨a, l, c, rfl⟩ := okWide_slice Try.underlying22 (hval 1 22 v1 rfl rfl); rfl
  have c2 : v2.cells = #[v2] := by obtain ⟨a, rfl⟩ := okWide_int Try.underlying3 (hval 2 3 v2 rfl rfl); rfl
  obtain ⟨ms0, g0, hp0⟩ := El.argA (El.array (Φs := [(fun ms => ∃ y : List (List (Int) × Tok) × Tok, ms = [(fun y : List (List (Int) × Tok) × Tok => MV.sl y.1.length (y.1.map (fun y : List (Int) × Tok => MV.sl y.1.length (y.1.map mi) y.2)) y.2) y] ∧ ((fun y : List (List (Int) × Tok) × Tok => (∀ x ∈ y.1, ((fun y : List (Int) × Tok => (∀ x ∈ y.1, (InK .i64) x) ∧ y.1.length ≤ maxLen)) x) ∧ y.1.length ≤ maxLen)) y), (fun ms => ∃ y : List (List (Int) × Tok) × Tok, ms = [(fun y : List (List (Int) × Tok) × Tok => MV.sl y.1.length (y.1.map (fun y : List (Int) × Tok => MV.sl y.1.length (y.1.map mi) y.2)) y.2) y] ∧ ((fun y : List (List (Int) × Tok) × Tok => (∀ x ∈ y.1, ((fun y : List (Int) × Tok => (∀ x ∈ y.1, (InK .i64) x) ∧ y.1.length ≤ maxLen)) x) ∧ y.1.length ≤ maxLen)) y)]) Try.underlying43 (by kernel_rfl) (by kernel_rfl) (El.row (f := (fun y : List (Int) × Tok => MV.sl y.1.length (y.1.map mi) y.2)) (p := (fun y : List (Int) × Tok => (∀ x ∈ y.1, (InK .i64) x) ∧ y.1.length ≤ maxLen)) Try.underlying24 (by kernel_rfl) (El.row (f := mi) (p := InK .i64) Try.underlying22 (by kernel_rfl) (El.int2 (k := .i64) Try.underlying3))) rfl) h0
  obtain ⟨m0_0, ms0_0, rfl, ⟨y0_0, e0_0, hp0_0⟩, hq0_0⟩ := hp0.cons
  simp only [List.cons.injEq, and_true] at e0_0
  subst e0_0
  obtain ⟨m0_1, ms0_1, rfl, ⟨y0_1, e0_1, hp0_1⟩, hq0_1⟩ := hq0_0.cons
  simp only [List.cons.injEq, and_true] at e0_1
  subst e0_1
  obtain rfl := hq0_1.nil
  obtain ⟨m1, g1, y1, e1, hp1⟩ := El.arg (El.row (f := mi) (p := InK .i64) Try.underlying22 (by kernel_rfl) (El.int2 (k := .i64) Try.underlying3)) h1 c1
  simp only [List.cons.injEq, and_true] at e1
  subst e1
  obtain ⟨m2, g2, y2, e2, hp2⟩ := El.arg (El.int2 (k := .i64) Try.underlying3) h2 c2
  simp only [List.cons.injEq, and_true] at e2
  subst e2
  clear hA0
  simp only [List.append_nil] at hW'
  refine (VF.law (vs := #[.agg us0, v1, v2]) (VRs.cons g0 (VRs.cons g1 (VRs.cons g2 VRs.nil))) (law9_v y0_0.1 y0_0.2 y0_1.1 y0_1.2 y1.1 y1.2 y2 O0 hp0_0.2 hp0_0.1 hp0_1.2 hp0_1.1 hp1.2 hp1.1 hp2)).mono fun e W' ⟨he, hb⟩ => ?_
  subst he
  exact ⟨_, rfl, _, _, _, [], _, [], hW', trodAll_mk1 (shut_bool Try.underlying4 _), (trodAll_cons_mk (Below.trod laidOut (by kernel_rfl) (of_decide_eq_true (by kernel_rfl)) h0 hb lt0) (trodAll_cons_mk (Below.trod laidOut (by kernel_rfl) (of_decide_eq_true (by kernel_rfl)) h1 hb lt1) (trodAll_cons_mk (Below.trod laidOut (by kernel_rfl) (of_decide_eq_true (by kernel_rfl)) h2 hb lt2) trodAll_mk0))), rfl, hb.frame _, fun h => by cases h⟩

set_option maxRecDepth 100000 in
theorem lifted (os : Os) (started : os.Started) (H : Type) (enc : TypeId × Value → H) :
    ReturnsInHanded {} Try.checked os 9 .any (Rows.proofMoreSpec.pre6 enc Try.prog Try.f9 Rows.proofMoreRow.domain false) (Rows.proofMoreSpec.post enc Try.prog Try.f9 false true false false) := by
  refine returnsInHanded_of_change (C := Try.checked) own started (by kernel_rfl) Try.func9
    (ChangeSpec.witness6 (enc := enc) (C := Try.checked) false ⟨#[], #[.agg #[.slice none 0 0, .slice none 0 0], .slice none 0 0, .int .i64 0], []⟩ 8 (by kernel_rfl) (by kernel_rfl) (by kernel_rfl) (by kernel_rfl)) ?_
  intro W base args ds gs before hval hW hcnd _
  exact contract H enc W base args ds gs before hval hW

theorem over : Rows.proofMoreRow.holds Try.pinned (OpenSpec.ofChange Rows.proofMoreSpec) :=
  OpenClaim.holds_of_wide 9 Try.f9 rfl rfl rfl rfl rfl rfl rfl ⟨rfl, rfl, rfl, rfl, rfl⟩ rfl rfl rfl rfl rfl (by kernel_rfl) Try.func9 (by kernel_rfl)
    (of_decide_eq_true (by kernel_rfl)) (by unfold Func.isWrapper; first | (rw [if_pos (by decide +kernel)]; kernel_rfl) | (rw [if_neg (by decide +kernel)]; exact ⟨rfl, rfl⟩))
    (fun os started H enc _ => lifted os started H enc)

theorem proved : Rows.ProofMoreSaid := over
end Go.Proofs.Ytcfoongiffpnlaa.proofMore
