/-
  strings.Builder: copyCheck, WriteByte, WriteString, String, walked: the builder as a text that grows.
-/
import Derived.Test.YtjbpnhmjnkolbaaDoorVk
import Derived.Test.YtjbpnhmjnkolbaaDoorTy
set_option linter.unusedVariables false
set_option linter.unusedSimpArgs false
namespace Go.Proofs.YtjbpnhmjnkolbaaDoor
open Go.RowKit
set_option maxRecDepth 10000
set_option linter.defProp false in
def tsB := And.intro T9 <| And.intro T3 <| And.intro T4 <| And.intro T5 <| And.intro T37 <| And.intro T58 <| And.intro T60 <| And.intro T62 T86

/-- A builder in block b, its bytes in the row q (none: there are none yet), holding the text s. -/
structure Bld (O : VH) (B b : Nat) (q : Option Nat) (s : List UInt8) : Prop where
  cell : ∃ p buf, O.hp b = some (.cells [p, buf]) ∧ (p = .v (.pointer none) ∨ p = .ptr b 0) ∧ GR O 5 1 B buf s.length (s.map byM) ∧ gid buf = q ∧ buf ≠ .sl 0 [] .full
  ne : q ≠ some b
  shp : ∃ j, B ≤ j ∧ j < O.next ∧ O.hp j = some (.shape b 60 2)
  lo : B ≤ b
  hi : b < O.next
  nz : s = [] → q = none
/-- What writing into a builder turns. -/
structure BUpd (O : VH) (b : Nat) (q : Option Nat) (O' : VH) (q' : Option Nat) : Prop where
  next : O.next ≤ O'.next
  hp : ∀ i, i < O.next → i ≠ b → q ≠ some i → O'.hp i = O.hp i
  new : ∀ i, i < O.next → q ≠ some i → q' ≠ some i
theorem Bld.q_lt {O : VH} {B b : Nat} {q : Option Nat} {s : List UInt8} (h : Bld O B b q s) : ∀ i, O.next ≤ i → q ≠ some i := by
  intro i hi e
  obtain ⟨p, buf, _, _, hg, hq, _⟩ := h.cell
  rcases hg with ⟨_, _, rfl | rfl⟩ | ⟨k, c, rfl, _, _, hr⟩
  · rw [← hq] at e; cases e
  · rw [← hq] at e; cases e
  · rw [← hq] at e; injection e with e; have := hr.hi; omega
theorem Bld.q_lo {O : VH} {B b : Nat} {q : Option Nat} {s : List UInt8} (h : Bld O B b q s) : ∀ i, q = some i → B ≤ i := by
  intro i e
  obtain ⟨p, buf, _, _, hg, hq, _⟩ := h.cell
  rcases hg with ⟨_, _, rfl | rfl⟩ | ⟨k, c, rfl, _, _, hr⟩
  · rw [← hq] at e; cases e
  · rw [← hq] at e; cases e
  · rw [← hq] at e; injection e with e; rw [← e]; exact hr.lo
theorem BUpd.ge {O0 O O' : VH} {b : Nat} {q q' : Option Nat} (h : O0.Ge O) (u : BUpd O b q O' q') (hb : O0.next ≤ b) (hq : ∀ i, q = some i → O0.next ≤ i) : O0.Ge O' :=
  ⟨Nat.le_trans h.next u.next, fun i hi => (u.hp i (Nat.lt_of_lt_of_le hi h.next) (by omega) (fun e => by have := hq i e; omega)).trans (h.hp i hi)⟩
/-- A builder stands as it did where its blocks do. -/
theorem Bld.keep {O O' : VH} {B b : Nat} {q : Option Nat} {s : List UInt8} (h : Bld O B b q s) (hn : O.next ≤ O'.next) (hb : O'.hp b = O.hp b) (hq : ∀ i, q = some i → O'.hp i = O.hp i) (hs : ∀ j k t n, O.hp j = some (.shape k t n) → j < O.next → O'.hp j = O.hp j) : Bld O' B b q s := by
  obtain ⟨p, buf, h1, h2, h3, h4, h5⟩ := h.cell
  obtain ⟨j, j1, j2, j3⟩ := h.shp
  refine ⟨⟨p, buf, hb.trans h1, h2, ?_, h4, h5⟩, h.ne, ⟨j, j1, by omega, (hs j _ _ _ j3 j2).trans j3⟩, h.lo, by have := h.hi; omega, h.nz⟩
  rcases h3 with h3 | ⟨k, c, rfl, g1, g2, g3⟩
  · exact .inl h3
  · refine .inr ⟨k, c, rfl, g1, g2, ?_⟩
    obtain ⟨sp, r1, r2⟩ := g3.cells
    obtain ⟨i, i1, i2, i3⟩ := g3.shp
    exact ⟨⟨sp, (hq k h4.symm).trans r1, r2⟩, ⟨i, i1, by omega, (hs i _ _ _ i3 i2).trans i3⟩, g3.lo, by have := g3.hi; omega⟩
theorem Bld.keepN {O O' : VH} {B b : Nat} {q : Option Nat} {s : List UInt8} (h : Bld O B b q s) (u : Upd O none O') : Bld O' B b q s :=
  h.keep u.next (u.hp b h.hi (by simp)) (fun i hi => u.hp i (by
    rcases Nat.lt_or_ge i O.next with h' | h'
    · exact h'
    · exact absurd hi (h.q_lt i h')) (by simp)) fun j _ _ _ _ hl => u.hp j hl (by simp)
/-- Another block is turned. -/
theorem Bld.set {O : VH} {B b i : Nat} {q : Option Nat} {s : List UInt8} {cs : List MV} {x : VObj} (h : Bld O B b q s) (hi : O.hp i = some (.cells cs)) (hb : i ≠ b) (hq : q ≠ some i) : Bld (O.set i x) B b q s :=
  h.keep (Nat.le_refl _) (VH.set_ne _ _ (Ne.symm hb)) (fun k hk => VH.set_ne _ _ (fun e => hq (by rw [hk, e]))) fun j _ _ _ hj _ => VH.set_ne _ _ (fun e => by rw [e, hi] at hj; cases hj)
theorem Bld.fresh (O : VH) {B : Nat} (hB : B ≤ O.next) : Bld ((O.push (.cells [.v (.pointer none), .sl 0 [] .nil])).push (.shape O.next 60 2)) B O.next none [] :=
  ⟨⟨_, _, (VH.push_old _ _ (by show O.next < O.next + 1; omega)).trans (VH.push_new _ _), .inl rfl, .inl ⟨rfl, rfl, .inl rfl⟩, rfl, by simp⟩, by simp, ⟨O.next + 1, by omega, by show O.next + 1 < O.next + 1 + 1; omega, VH.push_new _ _⟩, hB, by show O.next < O.next + 1 + 1; omega, fun _ => rfl⟩

theorem NoEscape_x (k o : Nat) (O : VH) : ExtOk Tryd.prog 59 [.ptr k o] O fun m O' => m = .ptr k o ∧ O' = O := by
  refine ExtOk.of (ex := Extern.AbiNoEscape.same) Tryd.func59 (by kernel_rfl) (by kernel_rfl) (by kernel_rfl) (by kernel_rfl) fun G w vs hw hv => ?_
  obtain ⟨u, us, rfl, h1, h2⟩ := hv.inv_cons
  rw [h2.inv_nil]
  exact ⟨u, Lib.run_noEscape w u, h1⟩
/-- (*strings.Builder).copyCheck -/
theorem copyCheck_v {O : VH} {B b : Nat} {q : Option Nat} {s : List UInt8} (h : Bld O B b q s) : VF Tryd.prog 50 [.ptr b 0] O (Ret fun m O' => Bld O' B b q s ∧ BUpd O b q O' q) := by
  obtain ⟨p, buf, h1, h2, h3, h4, h5⟩ := h.cell
  obtain ⟨j, j1, j2, j3⟩ := h.shp
  have hb := h.hi
  refine VF.ofW (n := 20) (rs := []) tabOk Tryd.func50 rfl rfl rfl (Nat.le_of_ble_eq_true rfl) ?_
  simp only [argEnv, Nat.zero_add, Nat.reduceAdd]
  rcases h2 with rfl | rfl
  · simp (disch := first | omega | (simp only [ds] <;> omega) | fail) only [ws, undefM, Nat.reduceLT, Nat.reduceAdd, Nat.reduceMul, Nat.reduceSub, Nat.reduceBEq, Nat.reduceEqDiff, Int.reduceToNat, reduceIte, tsB, h1]
    refine VL.toU tabOk (.inl rfl) (el := 60) (by rw [ty58]; rfl) (by rw [ty86]; rfl) ty60 (by decide) j3 (by decide) rfl rfl rfl ?_
    simp (disch := first | omega | (simp only [ds] <;> omega) | fail) only [ws, undefM, Nat.reduceLT, Nat.reduceAdd, Nat.reduceMul, Nat.reduceSub, Nat.reduceBEq, Nat.reduceEqDiff, Int.reduceToNat, reduceIte]
    refine CallW.ext (NoEscape_x b 0 O) rfl ?_
    rintro _ O2 ⟨rfl, rfl⟩
    simp (disch := first | omega | (simp only [ds] <;> omega) | fail) only [ws, undefM, Nat.reduceLT, Nat.reduceAdd, Nat.reduceMul, Nat.reduceSub, Nat.reduceBEq, Nat.reduceEqDiff, Int.reduceToNat, reduceIte]
    refine VL.fromU tabOk (.inl rfl) (el := 60) (by rw [ty86]; rfl) (by rw [ty58]; rfl) ty60 j3 (by kernel_rfl) rfl rfl rfl ?_
    simp (disch := first | omega | (simp only [ds] <;> omega) | fail) only [ws, undefM, Nat.reduceLT, Nat.reduceAdd, Nat.reduceMul, Nat.reduceSub, Nat.reduceBEq, Nat.reduceEqDiff, Int.reduceToNat, reduceIte, tsB, h1]
    refine ⟨⟨⟨_, buf, VH.set_get _ _ _, .inr rfl, h3.keep Upd.set (by rw [h4]; exact h.ne) (fun k t n => by rw [h1]; simp), h4, h5⟩, h.ne, ⟨j, j1, j2, ?_⟩, h.lo, h.hi, h.nz⟩, ⟨Nat.le_refl _, fun i _ hi _ => VH.set_ne _ _ hi, fun _ _ h => h⟩⟩
    rw [VH.set_ne _ _ (fun e => by rw [e, h1] at j3; cases j3)]
    exact j3
  · simp (disch := first | omega | (simp only [ds] <;> omega) | fail) only [ws, undefM, Nat.reduceLT, Nat.reduceAdd, Nat.reduceMul, Nat.reduceSub, Nat.reduceBEq, Nat.reduceEqDiff, Int.reduceToNat, reduceIte, tsB, h1, vbin_psame (op := .neq) ty58 (s := 1) ty60]
    exact ⟨h, ⟨Nat.le_refl _, fun _ _ _ _ => rfl, fun _ _ h => h⟩⟩
/-- What an append to the builder's bytes comes to. -/
theorem Bld.grown {O O' : VH} {B b : Nat} {q : Option Nat} {s : List UInt8} {p buf m : MV} {n' z : Nat} {L : List UInt8} (h : Bld O B b q s) (h1 : O.hp b = some (.cells [p, buf])) (h2 : p = .v (.pointer none) ∨ p = .ptr b 0) (h4 : gid buf = q) (hg : GR O' 5 1 B m n' (L.map byM)) (hn : n' = L.length) (hu : Upd O (gid buf) O') (hnew : (∃ k c, m = .asl k 0 n' c ∧ (gid buf = some k ∨ (O.next ≤ k ∧ z ≠ 0))) ∨ m = buf) (hf : buf ≠ .sl 0 [] .full) (hz : L = [] → z = 0 ∧ s = []) :
    Bld (O'.set b (.cells [p, m])) B b (gid m) L ∧ BUpd O b q (O'.set b (.cells [p, m])) (gid m) := by
  subst hn
  obtain ⟨j, j1, j2, j3⟩ := h.shp
  have hb := h.hi
  have hm : m ≠ .sl 0 [] .full := by
    rcases hnew with ⟨k, c, rfl, _⟩ | rfl
    · simp
    · exact hf
  have hgn : ∀ i, i < O.next → q ≠ some i → gid m ≠ some i := fun i hi hq => by
    rcases hnew with ⟨k, c, rfl, hk⟩ | rfl
    · rcases hk with hk | hk
      · rw [← h4, hk] at hq; exact hq
      · intro e; injection e with e; have := hk.1; omega
    · rw [h4]; exact hq
  have hne : gid m ≠ some b := hgn b hb h.ne
  have hOb : O'.hp b = some (.cells [p, buf]) := (hu.hp b hb (by rw [h4]; exact h.ne)).trans h1
  have hqs : ∀ i k t n, O.hp i = some (.shape k t n) → i < O.next → O'.hp i = O.hp i := fun i k t n hi hl => hu.hp i hl fun e => by
    obtain ⟨p', buf', g1, g2, g3, g4, g5⟩ := h.cell
    rw [h1] at g1
    injection g1 with g1; injection g1 with g1; injection g1 with e1 e2; injection e2 with e2; subst e2
    rcases g3 with ⟨_, _, rfl | rfl⟩ | ⟨k2, c2, rfl, _, _, hr⟩
    · cases e
    · cases e
    · injection e with e
      subst e
      obtain ⟨sp, r1, _⟩ := hr.cells
      rw [r1] at hi; cases hi
  refine ⟨⟨⟨p, m, VH.set_get _ _ _, h2, hg.keep Upd.set hne (fun k t n => by rw [hOb]; simp), rfl, hm⟩, hne, ⟨j, j1, Nat.lt_of_lt_of_le j2 hu.next, ?_⟩, h.lo, Nat.lt_of_lt_of_le hb hu.next, fun hL => ?_⟩, ⟨hu.next, fun i hi hib hq => (VH.set_ne _ _ hib).trans (hu.hp i hi (by rw [h4]; exact hq)), hgn⟩⟩
  · rw [VH.set_ne _ _ (fun e => by rw [e, h1] at j3; cases j3)]
    exact (hqs j _ _ _ j3 j2).trans j3
  · obtain ⟨z0, s0⟩ := hz hL
    have hq := h.nz s0
    rw [hq] at h4
    rcases hnew with ⟨k, c, rfl, hk⟩ | rfl
    · rcases hk with hk | hk
      · rw [h4] at hk; cases hk
      · exact absurd z0 hk.2
    · exact h4
/-- (*strings.Builder).WriteByte -/
theorem WriteByte_v {O : VH} {B b : Nat} {q : Option Nat} {s : List UInt8} (c : UInt8) (h : Bld O B b q s) (hl : s.length + 1 ≤ 140737488355328) : VF Tryd.prog 34 [.ptr b 0, byM c] O (Ret fun m O' => m = .v .nilIface ∧ ∃ q', Bld O' B b q' (s ++ [c]) ∧ BUpd O b q O' q') := by
  refine VF.ofW (n := 17) (rs := [.tmp 4]) tabOk Tryd.func34 rfl rfl rfl (Nat.le_of_ble_eq_true rfl) ?_
  simp only [argEnv, Nat.zero_add, Nat.reduceAdd]
  simp (disch := first | omega | (simp only [ds] <;> omega) | fail) only [ws, undefM, Nat.reduceLT, Nat.reduceAdd, Nat.reduceMul, Nat.reduceSub, Nat.reduceBEq, Nat.reduceEqDiff, Int.reduceToNat, reduceIte, tsB]
  refine CallW.rt (copyCheck_v h) (by kernel_rfl) rfl rfl ?_
  rintro _ O1 ⟨h', u'⟩
  obtain ⟨p, buf, h1, h2, h3, h4, h5⟩ := h'.cell
  have hb := h'.hi
  simp (disch := first | omega | (simp only [ds] <;> omega) | fail) only [ws, undefM, Nat.reduceLT, Nat.reduceAdd, Nat.reduceMul, Nat.reduceSub, Nat.reduceBEq, Nat.reduceEqDiff, Int.reduceToNat, reduceIte, tsB, h1, byM_def]
  refine VL.grow tabOk (.inl rfl) (te := ⟨.int .u8, 1, 1, [.v (.int .u8 0)]⟩) (dx := .slice 5) (q := .sl 1 [byM c] .full) (j := 1) (ds := [byM c]) h3 rfl rfl (by rw [ty37]; rfl) ty5 (by rw [ty37]; rfl) trivial (by dsimp only; omega) (by simp only [maxLen]; omega) (by have := h'.lo; omega) rfl rfl rfl rfl ?_
  intro m O2 hg hu _ hnew
  have hg' : GR O2 5 1 B m (s.length + 1) ((s ++ [c]).map byM) := by rw [List.map_append]; exact hg
  have hr := h'.grown h1 h2 h4 hg' (by simp) hu (hnew.imp_right (·.2.1)) h5 (by simp)
  have hO : O2.hp b = some (.cells [p, buf]) := (hu.hp b hb (by rw [h4]; exact h'.ne)).trans h1
  have hlf : mcells m = [m] ∧ leafB m = true := by
    rcases hnew with ⟨k, cp, rfl, _⟩ | ⟨hj, _⟩
    · exact ⟨rfl, rfl⟩
    · cases hj
  have hst := stT_1 (O := O2) (k := b) (off := 1) (u := .slice 5) (b := 24) (z := [.sl 0 [] .nil]) (cs := [p, buf]) hlf.1 hlf.2 (by simp)
  simp (disch := first | omega | (simp only [ds] <;> omega) | fail) only [ws, undefM, Nat.reduceLT, Nat.reduceAdd, Nat.reduceMul, Nat.reduceSub, Nat.reduceBEq, Nat.reduceEqDiff, Int.reduceToNat, reduceIte, tsB, hO, hst]
  exact ⟨_, hr.1, ⟨Nat.le_trans u'.next hr.2.next, fun i hi hib hq => (hr.2.hp i (Nat.lt_of_lt_of_le hi u'.next) hib hq).trans (u'.hp i hi hib hq), fun i hi hq => hr.2.new i (Nat.lt_of_lt_of_le hi u'.next) hq⟩⟩
/-- (*strings.Builder).WriteString -/
theorem WriteString_v {O : VH} {B b : Nat} {q : Option Nat} {s : List UInt8} (l : List UInt8) (h : Bld O B b q s) (hl : s.length + l.length ≤ 140737488355328) : VF Tryd.prog 35 [.ptr b 0, .str l] O (Ret fun m O' => m = .tuple [mi l.length, .v .nilIface] ∧ ∃ q', Bld O' B b q' (s ++ l) ∧ BUpd O b q O' q') := by
  refine VF.ofW (n := 19) (rs := [.tmp 4, .tmp 5]) tabOk Tryd.func35 rfl rfl rfl (Nat.le_of_ble_eq_true rfl) ?_
  simp only [argEnv, Nat.zero_add, Nat.reduceAdd]
  simp (disch := first | omega | (simp only [ds] <;> omega) | fail) only [ws, undefM, Nat.reduceLT, Nat.reduceAdd, Nat.reduceMul, Nat.reduceSub, Nat.reduceBEq, Nat.reduceEqDiff, Int.reduceToNat, reduceIte, tsB]
  refine CallW.rt (copyCheck_v h) (by kernel_rfl) rfl rfl ?_
  rintro _ O1 ⟨h', u'⟩
  obtain ⟨p, buf, h1, h2, h3, h4, h5⟩ := h'.cell
  have hb := h'.hi
  simp (disch := first | omega | (simp only [ds] <;> omega) | fail) only [ws, undefM, Nat.reduceLT, Nat.reduceAdd, Nat.reduceMul, Nat.reduceSub, Nat.reduceBEq, Nat.reduceEqDiff, Int.reduceToNat, reduceIte, tsB, h1]
  refine VL.grow tabOk (.inl rfl) (te := ⟨.int .u8, 1, 1, [.v (.int .u8 0)]⟩) (dx := .string) (q := .str l) (j := l.length) (ds := l.map byM) h3 rfl (by rw [List.all_map]; exact List.all_eq_true.2 fun _ _ => rfl) (by rw [ty37]; rfl) ty5 (by rw [ty9]; rfl) trivial (by dsimp only; omega) (by simp only [maxLen]; omega) (by have := h'.lo; omega) rfl rfl rfl rfl ?_
  intro m O2 hg hu _ hnew
  have hg' : GR O2 5 1 B m (s.length + l.length) ((s ++ l).map byM) := by rw [List.map_append]; exact hg
  have hr := h'.grown h1 h2 h4 hg' (by simp) hu (hnew.imp_right (·.2.1)) h5 (by simp [and_comm])
  have hO : O2.hp b = some (.cells [p, buf]) := (hu.hp b hb (by rw [h4]; exact h'.ne)).trans h1
  have hlf : mcells m = [m] ∧ leafB m = true := by
    rcases hnew with ⟨k, cp, rfl, _⟩ | ⟨_, rfl, _⟩
    · exact ⟨rfl, rfl⟩
    · rcases h3 with ⟨_, _, rfl | rfl⟩ | ⟨k, c, rfl, _⟩ <;> exact ⟨rfl, rfl⟩
  have hst := stT_1 (O := O2) (k := b) (off := 1) (u := .slice 5) (b := 24) (z := [.sl 0 [] .nil]) (cs := [p, buf]) hlf.1 hlf.2 (by simp)
  simp (disch := first | omega | (simp only [ds] <;> omega) | fail) only [ws, undefM, Nat.reduceLT, Nat.reduceAdd, Nat.reduceMul, Nat.reduceSub, Nat.reduceBEq, Nat.reduceEqDiff, Int.reduceToNat, reduceIte, tsB, hO, hst]
  exact ⟨_, hr.1, ⟨Nat.le_trans u'.next hr.2.next, fun i hi hib hq => (hr.2.hp i (Nat.lt_of_lt_of_le hi u'.next) hib hq).trans (u'.hp i hi hib hq), fun i hi hq => hr.2.new i (Nat.lt_of_lt_of_le hi u'.next) hq⟩⟩
/-- (*strings.Builder).String -/
theorem BString_v {O : VH} {B b : Nat} {q : Option Nat} {s : List UInt8} (h : Bld O B b q s) (hm : s.length ≤ maxLen) : VF Tryd.prog 36 [.ptr b 0] O (Ret fun m O' => m = .str s ∧ Upd O q O') := by
  obtain ⟨p, buf, h1, h2, h3, h4, h5⟩ := h.cell
  have hb := h.hi
  refine VF.ofW (n := 14) (rs := [.tmp 2]) tabOk Tryd.func36 rfl rfl rfl (Nat.le_of_ble_eq_true rfl) ?_
  simp only [argEnv, Nat.zero_add, Nat.reduceAdd]
  simp (disch := first | omega | (simp only [ds] <;> omega) | fail) only [ws, undefM, Nat.reduceLT, Nat.reduceAdd, Nat.reduceMul, Nat.reduceSub, Nat.reduceBEq, Nat.reduceEqDiff, Int.reduceToNat, reduceIte]
  refine WC.plan tabOk (.held [10, 11]) [(0, .rd), (1, .rd), (2, .rd), (3, .rd), (4, .rd), (5, .rd), (6, .rd), (7, .rd), (8, .rd), (9, .rd), (10, .one), (11, .rd)] (by simp) (by kernel_rfl) (by kernel_rfl) (by kernel_rfl) rfl ?_
  have hO : O.hp b = some (.cells [p, buf]) := h1
  rcases h3 with ⟨e1, e2, rfl | rfl⟩ | ⟨k, c, rfl, g1, g2, g3⟩
  · have hs : s = [] := List.eq_nil_of_length_eq_zero e1
    subst hs
    simp (disch := first | omega | (simp only [ds] <;> omega) | fail) only [ws, undefM, Nat.reduceLT, Nat.reduceAdd, Nat.reduceMul, Nat.reduceSub, Nat.reduceBEq, Nat.reduceEqDiff, Int.reduceToNat, reduceIte, tsB, h1, vsdata]
    refine VL.ustr0 tabOk (by kernel_rfl) rfl rfl rfl rfl ?_
    simp (disch := first | omega | (simp only [ds] <;> omega) | fail) only [ws, undefM, Nat.reduceLT, Nat.reduceAdd, Nat.reduceMul, Nat.reduceSub, Nat.reduceBEq, Nat.reduceEqDiff, Int.reduceToNat, reduceIte, tsB]
    exact Upd.refl _ _
  · exact absurd rfl h5
  · have hs : s ≠ [] := fun e => by have := h.nz e; rw [← h4] at this; cases this
    have hc : c ≠ 0 := fun e => hs (List.eq_nil_of_length_eq_zero (by omega))
    have hsz : s.length ≤ maxLen := hm
    simp (disch := first | omega | (simp only [ds] <;> omega) | fail) only [ws, undefM, Nat.reduceLT, Nat.reduceAdd, Nat.reduceMul, Nat.reduceSub, Nat.reduceBEq, Nat.reduceEqDiff, Int.reduceToNat, reduceIte, tsB, h1, vsdata, hc]
    refine VL.ustr tabOk (by kernel_rfl) (el := 5) (by rw [ty79]; rfl) (by kernel_rfl) g3 hs hsz rfl rfl rfl rfl ?_
    simp (disch := first | omega | (simp only [ds] <;> omega) | fail) only [ws, undefM, Nat.reduceLT, Nat.reduceAdd, Nat.reduceMul, Nat.reduceSub, Nat.reduceBEq, Nat.reduceEqDiff, Int.reduceToNat, reduceIte, tsB]
    exact h4 ▸ Upd.kill
end Go.Proofs.YtjbpnhmjnkolbaaDoor
