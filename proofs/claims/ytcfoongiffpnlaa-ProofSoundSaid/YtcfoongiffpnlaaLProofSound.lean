/-
  ProofSound: the statement: for every input that can be read the law returns true; the input reads behind the call as it did.
-/
import Derived.Test.YtcfoongiffpnlaaRows
import Derived.Test.YtcfoongiffpnlaaPrJ
import Derived.Test.YtcfoongiffpnlaaBr
import Derived.JoinedCond
set_option linter.unusedVariables false
set_option linter.unusedSimpArgs false
namespace Go.Proofs.Ytcfoongiffpnlaa.proofSound
open Go.ChangeShapes Go.WideShapes Go.ChangeAt Go.RowKit

theorem own : ownKnob Try.prog.godebug = none := by kernel_rfl
theorem laidOut : laidOutB Try.prog = true := by kernel_rfl

theorem contract (H : Type) (enc : TypeId × Value → H) (W : World) (base : Nat) (args : Array Value) (ds gs : List (DataW H)) (before : List MemPlace)
    (hval : ∀ (j : Nat) t v, Try.f11.params[j]? = some t → args[j]? = some v → Value.okWide Try.prog W .any base t v)
    (hW : DataW.Whole enc Try.prog Try.f11.params.toList Rows.proofSoundSpec.vars false W args.toList ds gs before) :
    Calls Try.prog 11 args W fun e W' => ∃ v, e = .returned v ∧ Rows.proofSoundSpec.post enc Try.prog Try.f11 false true false false W args v W' := by
  have hW' := hW
  obtain ⟨p, q, hA0, hV, rfl, hfz, hnd⟩ := hW
  have hA : DataW.TrodAll enc Try.prog W 0 (fun _ => true) true Try.f11.params.toList args.toList ds p := hA0
  rw [Try.params11] at hA hval
  obtain ⟨v0, vs0, d0, ds0, p0, q0, hargs, rfl, rfl, h0, r0⟩ := trodAll_cons hA
  obtain ⟨v1, vs1, d1, ds1, p1, q1, rfl, rfl, rfl, h1, r1⟩ := trodAll_cons r0
  obtain ⟨v2, vs2, d2, ds2, p2, q2, rfl, rfl, rfl, h2, r2⟩ := trodAll_cons r1
  obtain ⟨rfl, rfl, rfl⟩ := trodAll_nil r2
  obtain rfl : args = #[v0, v1, v2] := by cases args; simp_all
  obtain ⟨rfl, rfl⟩ := trodVars_none hV
  have lt0 : ∀ x ∈ p0, x.block < W.heap.size := by obtain ⟨m, hm⟩ := h0; exact DataW.trod_lt m _ _ _ hm
  have lt1 : ∀ x ∈ p1, x.block < W.heap.size := by obtain ⟨m, hm⟩ := h1; exact DataW.trod_lt m _ _ _ hm
  have lt2 : ∀ x ∈ p2, x.block < W.heap.size := by obtain ⟨m, hm⟩ := h2; exact DataW.trod_lt m _ _ _ hm
  have c0 : v0.cells = #[v0] := by obtain ⟨a, l, c, rfl⟩ := okWide_slice Try.underlying24 (hval 0 24 v0 rfl rfl); rfl
  have c1 : v1.cells = #[v1] := by obtain ⟨a, l, c, rfl⟩ := okWide_slice Try.underlying22 (hval 1 22 v1 rfl rfl); rfl
  have c2 : v2.cells = #[v2] := by obtain ⟨a, l, c, rfl⟩ := okWide_slice Try.underlying27 (hval 2 27 v2 rfl rfl); rfl
  obtain ⟨m0, g0, y0, e0, hp0⟩ := El.arg (El.row (f := (fun y : List (Int) × Tok => MV.sl y.1.length (y.1.map mi) y.2)) (p := (fun y : List (Int) × Tok => (∀ x ∈ y.1, (InK .i64) x) ∧ y.1.length ≤ maxLen)) Try.underlying24 (by kernel_rfl) (El.row (f := mi) (p := InK .i64) Try.underlying22 (by kernel_rfl) (El.int2 (k := .i64) Try.underlying3))) h0 c0
  simp only [List.cons.injEq, and_true] at e0
  subst e0
  obtain ⟨m1, g1, y1, e1, hp1⟩ := El.arg (El.row (f := mi) (p := InK .i64) Try.underlying22 (by kernel_rfl) (El.int2 (k := .i64) Try.underlying3)) h1 c1
  simp only [List.cons.injEq, and_true] at e1
  subst e1
  obtain ⟨m2, g2, y2, e2, hp2⟩ := El.arg (El.row (f := mb) (p := (fun _ => True)) Try.underlying27 (by kernel_rfl) (El.bool2 Try.underlying4)) h2 c2
  simp only [List.cons.injEq, and_true] at e2
  subst e2
  clear hA0
  simp only [List.append_nil] at hW'
  refine (VF.law (vs := #[v0, v1, v2]) (VRs.cons g0 (VRs.cons g1 (VRs.cons g2 VRs.nil))) (law11_v y0.1 y0.2 y1.1 y1.2 y2.1 y2.2 O0 hp0.2 hp0.1 hp1.2 hp1.1 hp2.2 hp2.1)).mono fun e W' ⟨he, hb⟩ => ?_
  subst he
  exact ⟨_, rfl, _, _, _, [], _, [], hW', trodAll_mk1 (shut_bool Try.underlying4 _), (trodAll_cons_mk (Below.trod laidOut (by kernel_rfl) (of_decide_eq_true (by kernel_rfl)) h0 hb lt0) (trodAll_cons_mk (Below.trod laidOut (by kernel_rfl) (of_decide_eq_true (by kernel_rfl)) h1 hb lt1) (trodAll_cons_mk (Below.trod laidOut (by kernel_rfl) (of_decide_eq_true (by kernel_rfl)) h2 hb lt2) trodAll_mk0))), rfl, hb.frame _, fun h => by cases h⟩

set_option maxRecDepth 100000 in
theorem lifted (os : Os) (started : os.Started) (H : Type) (enc : TypeId × Value → H) :
    ReturnsInHanded {} Try.checked os 11 .any (Rows.proofSoundSpec.pre6 enc Try.prog Try.f11 Rows.proofSoundRow.domain false) (Rows.proofSoundSpec.post enc Try.prog Try.f11 false true false false) := by
  refine returnsInHanded_of_change (C := Try.checked) own started (by kernel_rfl) Try.func11
    (ChangeSpec.witness6 (enc := enc) (C := Try.checked) false ⟨#[], #[.slice none 0 0, .slice none 0 0, .slice none 0 0], []⟩ 8 (by kernel_rfl) (by kernel_rfl) (by kernel_rfl) (by kernel_rfl)) ?_
  intro W base args ds gs before hval hW hcnd _
  exact contract H enc W base args ds gs before hval hW

theorem over : Rows.proofSoundRow.holds Try.pinned (OpenSpec.ofChange Rows.proofSoundSpec) :=
  OpenClaim.holds_of_wide 11 Try.f11 rfl rfl rfl rfl rfl rfl rfl ⟨rfl, rfl, rfl, rfl, rfl⟩ rfl rfl rfl rfl rfl (by kernel_rfl) Try.func11 (by kernel_rfl)
    (of_decide_eq_true (by kernel_rfl)) (by unfold Func.isWrapper; first | (rw [if_pos (by decide +kernel)]; kernel_rfl) | (rw [if_neg (by decide +kernel)]; exact ⟨rfl, rfl⟩))
    (fun os started H enc _ => lifted os started H enc)

theorem proved : Rows.ProofSoundSaid := over
end Go.Proofs.Ytcfoongiffpnlaa.proofSound
