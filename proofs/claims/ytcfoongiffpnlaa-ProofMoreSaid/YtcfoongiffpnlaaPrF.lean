/-
  The package proof: base.add, newBase, walked.
-/
import Derived.Test.YtcfoongiffpnlaaPrE
set_option linter.unusedVariables false
set_option linter.unusedSimpArgs false
namespace Go.Proofs.Ytcfoongiffpnlaa
open Go.RowKit

theorem lf_len (yes : List Int) (C : List Int) : (lf yes C).length ≤ C.length := by
  refine snoc_ind (p := fun C => (lf yes C).length ≤ C.length) (Nat.le_refl _) (fun l a ih => ?_) C
  rw [lf_snoc]
  split <;> simp <;> omega
theorem look_vals {O : VH} {bm : Nat} {mp : List (Int × Vs)} (hm : O.hp bm = some (mapI fV mp)) (n : Int) : vlookup (tyOf Try.prog) O 62 (.map bm) (.v (.int .i64 n)) false = some (.sl (valsOf mp n).1.length ((valsOf mp n).1.map mi) (valsOf mp n).2) := by
  rw [vlookup_I ty62 ty3 ty22 (z := .sl 0 [] .nil) rfl hm, valsOf]
  cases mfind mp n <;> rfl
theorem look_met {O : VH} {bm : Nat} {l : List Int} (hm : O.hp bm = some (mapI mb (metL l))) (n : Int) : vlookup (tyOf Try.prog) O 66 (.map bm) (.v (.int .i64 n)) false = some (mb (decide (n = 0 ∨ n ∈ l))) := by
  rw [vlookup_I ty66 ty3 ty4 (z := mb false) rfl hm, mfind_met]
  by_cases h : n = 0 ∨ n ∈ l
  · rw [if_pos h, decide_eq_true h]; rfl
  · rw [if_neg h, decide_eq_false h]; rfl
theorem Bs.push {O0 O : VH} {b bm : Nat} {cs : List Vs} {mp : List (Int × Vs)} {sh : List Int} {s1 s2 : Tok} {tl : List Tok} (h : Bs O0 b bm cs mp sh s1 s2 tl O) (y : VObj) : Bs O0 b bm cs mp sh s1 s2 tl (O.push y) :=
  ⟨h.ge.push _, ⟨h.lb.1, Nat.lt_succ_of_lt h.lb.2⟩, ⟨h.lm.1, Nat.lt_succ_of_lt h.lm.2⟩, h.ne, (VH.push_old _ _ h.lb.2).trans h.hb, (VH.push_old _ _ h.lm.2).trans h.hm, h.tk.push⟩
theorem Bs.set {O0 O : VH} {b bm : Nat} {cs : List Vs} {mp : List (Int × Vs)} {sh : List Int} {s1 s2 : Tok} {tl : List Tok} (h : Bs O0 b bm cs mp sh s1 s2 tl O) {k : Nat} {x : VObj} (y : VObj) (hk : O.hp k = some x) (hx : x ≠ .tok) (h0 : O0.next ≤ k) (h1 : b ≠ k) (h2 : bm ≠ k) : Bs O0 b bm cs mp sh s1 s2 tl (O.set k y) :=
  ⟨h.ge.set h0 _, h.lb, h.lm, h.ne, (VH.set_ne _ _ h1).trans h.hb, (VH.set_ne _ _ h2).trans h.hm, h.tk.set hk hx⟩
/-- An append to the slice whose token stands first. -/
theorem Bs.app {O0 O : VH} {b bm : Nat} {cs : List Vs} {mp : List (Int × Vs)} {sh : List Int} {s1 s2 s : Tok} {tl : List Tok} (h : Bs O0 b bm cs mp sh s1 s2 (s :: tl) O) : Bs O0 b bm cs mp sh s1 s2 (.own O.next 1 :: tl) (O.after s) := by
  have ha : App O O0.next 1 s := h.tk.app s (List.mem_cons_self ..)
  have hnx := VH.after_next O s
  exact ⟨h.ge.after ha (Nat.le_refl _), ⟨h.lb.1, by rw [hnx]; exact Nat.lt_succ_of_lt h.lb.2⟩, ⟨h.lm.1, by rw [hnx]; exact Nat.lt_succ_of_lt h.lm.2⟩, h.ne, VH.after_hp ha h.hb (by simp) h.lb.2, VH.after_hp ha h.hm (by simp [mapI]) h.lm.2, h.tk.after h.ge.next⟩
/-- One more place in the row of a literal. -/
theorem Bs.put {O0 O : VH} {b bm : Nat} {cs : List Vs} {mp : List (Int × Vs)} {sh : List Int} {s1 s2 : Tok} {tl : List Tok} (h : Bs O0 b bm cs mp sh s1 s2 tl O) (n x : Int) :
    App O O0.next 1 (valsOf mp n).2 ∧ Bs O0 b bm cs (mput mp n ((valsOf mp n).1 ++ [x], .own O.next 1)) sh s1 s2 tl ((O.after (valsOf mp n).2).set bm (mapI fV (mput mp n ((valsOf mp n).1 ++ [x], .own O.next 1)))) := by
  obtain ⟨rest, h1, h2⟩ := mput_toks mp n
  have hT : TokS O O0.next ((valsOf mp n).2 :: (tl ++ s1 :: s2 :: rest)) := by
    rcases h2 with ⟨h2, h3⟩ | h2
    · have := h.tk
      rw [h3] at this
      exact this.free (.inl h2)
    · refine h.tk.perm ?_
      have p1 : (tl ++ s1 :: s2 :: mp.map (·.2.2)).Perm (tl ++ s1 :: s2 :: ((valsOf mp n).2 :: rest)) := ((h2.cons _).cons _).append_left _
      refine p1.trans ?_
      have p2 : (tl ++ s1 :: s2 :: ((valsOf mp n).2 :: rest)) = (tl ++ [s1, s2]) ++ (valsOf mp n).2 :: rest := by simp
      have p3 : (valsOf mp n).2 :: (tl ++ s1 :: s2 :: rest) = (valsOf mp n).2 :: ((tl ++ [s1, s2]) ++ rest) := by simp
      rw [p2, p3]
      exact List.perm_middle
  have ha := hT.app _ (List.mem_cons_self ..)
  have hT2 := hT.after h.ge.next
  have hnx := VH.after_next O (valsOf mp n).2
  have hm2 := VH.after_hp ha h.hm (by simp [mapI]) h.lm.2
  refine ⟨ha, (h.ge.after ha (Nat.le_refl _)).set h.lm.1 _, ⟨h.lb.1, by show _ < (VH.after _ _).next; rw [hnx]; exact Nat.lt_succ_of_lt h.lb.2⟩, ⟨h.lm.1, by show _ < (VH.after _ _).next; rw [hnx]; exact Nat.lt_succ_of_lt h.lm.2⟩, h.ne, ?_, VH.set_get _ _ _, ?_⟩
  · rw [VH.set_ne _ _ h.ne]; exact VH.after_hp ha h.hb (by simp) h.lb.2
  · refine (hT2.set hm2 (by simp [mapI])).perm ?_
    have p1 := h1 ((valsOf mp n).1 ++ [x], .own O.next 1)
    have p2 : (tl ++ s1 :: s2 :: (mput mp n ((valsOf mp n).1 ++ [x], Tok.own O.next 1)).map (·.2.2)).Perm (tl ++ s1 :: s2 :: (Tok.own O.next 1 :: rest)) := ((p1.cons _).cons _).append_left _
    refine List.Perm.symm (p2.trans ?_)
    have p4 : (tl ++ s1 :: s2 :: (Tok.own O.next 1 :: rest)) = (tl ++ [s1, s2]) ++ Tok.own O.next 1 :: rest := by simp
    have p3 : Tok.own O.next 1 :: (tl ++ s1 :: s2 :: rest) = Tok.own O.next 1 :: ((tl ++ [s1, s2]) ++ rest) := by simp
    rw [p4, p3]
    exact List.perm_middle
/-- The struct stored anew, its slices' tokens turned. -/
theorem Bs.store {O0 O : VH} {b bm : Nat} {cs cs' : List Vs} {mp : List (Int × Vs)} {sh sh' : List Int} {s1 s2 s1' s2' : Tok} {tl tl' : List Tok} (h : Bs O0 b bm cs mp sh s1 s2 tl O) (hp : (tl ++ s1 :: s2 :: mp.map (·.2.2)).Perm (tl' ++ s1' :: s2' :: mp.map (·.2.2))) :
    Bs O0 b bm cs' mp sh' s1' s2' tl' (O.set b (.cells [.sl cs'.length (cs'.map clM) s1', .map bm, ints sh' s2'])) :=
  ⟨h.ge.set h.lb.1 _, h.lb, h.lm, h.ne, VH.set_get _ _ _, (VH.set_ne _ _ (Ne.symm h.ne)).trans h.hm, (h.tk.set h.hb (by simp)).perm hp⟩
theorem Bs.less {O0 O : VH} {b bm : Nat} {cs : List Vs} {mp : List (Int × Vs)} {sh : List Int} {s1 s2 s : Tok} {tl : List Tok} (h : Bs O0 b bm cs mp sh s1 s2 (s :: tl) O) : Bs O0 b bm cs mp sh s1 s2 tl O :=
  ⟨h.ge, h.lb, h.lm, h.ne, h.hb, h.hm, h.tk.tail⟩
theorem Bs.addShort {O0 O : VH} {b bm : Nat} {cs : List Vs} {mp : List (Int × Vs)} {sh : List Int} {s1 s2 : Tok} {tl : List Tok} (h : Bs O0 b bm cs mp sh s1 s2 tl O) (x : Int) :
    App O O0.next 1 s2 ∧ Bs O0 b bm cs mp (sh ++ [x]) s1 (.own O.next 1) tl ((O.after s2).set b (.cells [.sl cs.length (cs.map clM) s1, .map bm, ints (sh ++ [x]) (.own O.next 1)])) := by
  have e1 : tl ++ s1 :: s2 :: mp.map (·.2.2) = (tl ++ [s1]) ++ s2 :: mp.map (·.2.2) := by simp
  have hT : TokS O O0.next (s2 :: ((tl ++ [s1]) ++ mp.map (·.2.2))) := h.tk.perm (by rw [e1]; exact List.perm_middle)
  have ha := hT.app _ (List.mem_cons_self ..)
  have hT2 := hT.after h.ge.next
  have hnx := VH.after_next O s2
  have hb2 := VH.after_hp ha h.hb (by simp) h.lb.2
  have hm2 := VH.after_hp ha h.hm (by simp [mapI]) h.lm.2
  refine ⟨ha, (h.ge.after ha (Nat.le_refl _)).set h.lb.1 _, ⟨h.lb.1, by show _ < (VH.after _ _).next; rw [hnx]; exact Nat.lt_succ_of_lt h.lb.2⟩, ⟨h.lm.1, by show _ < (VH.after _ _).next; rw [hnx]; exact Nat.lt_succ_of_lt h.lm.2⟩, h.ne, VH.set_get _ _ _, (VH.set_ne _ _ (Ne.symm h.ne)).trans hm2, ?_⟩
  refine (hT2.set hb2 (by simp)).perm ?_
  have e2 : tl ++ s1 :: Tok.own O.next 1 :: mp.map (·.2.2) = (tl ++ [s1]) ++ Tok.own O.next 1 :: mp.map (·.2.2) := by simp
  rw [e2]
  exact List.perm_middle.symm
theorem Bs.addCl {O0 O : VH} {b bm : Nat} {cs : List Vs} {mp : List (Int × Vs)} {sh : List Int} {s1 s2 : Tok} {tl : List Tok} (h : Bs O0 b bm cs mp sh s1 s2 tl O) (y : Vs) :
    App O O0.next 1 s1 ∧ Bs O0 b bm (cs ++ [y]) mp sh (.own O.next 1) s2 tl ((O.after s1).set b (.cells [.sl (cs ++ [y]).length ((cs ++ [y]).map clM) (.own O.next 1), .map bm, ints sh s2])) := by
  have hT : TokS O O0.next (s1 :: (tl ++ s2 :: mp.map (·.2.2))) := h.tk.perm List.perm_middle
  have ha := hT.app _ (List.mem_cons_self ..)
  have hT2 := hT.after h.ge.next
  have hnx := VH.after_next O s1
  have hb2 := VH.after_hp ha h.hb (by simp) h.lb.2
  have hm2 := VH.after_hp ha h.hm (by simp [mapI]) h.lm.2
  refine ⟨ha, (h.ge.after ha (Nat.le_refl _)).set h.lb.1 _, ⟨h.lb.1, by show _ < (VH.after _ _).next; rw [hnx]; exact Nat.lt_succ_of_lt h.lb.2⟩, ⟨h.lm.1, by show _ < (VH.after _ _).next; rw [hnx]; exact Nat.lt_succ_of_lt h.lm.2⟩, h.ne, VH.set_get _ _ _, (VH.set_ne _ _ (Ne.symm h.ne)).trans hm2, ?_⟩
  exact (hT2.set hb2 (by simp)).perm List.perm_middle.symm
theorem InvIn.put {cs : List Vs} {mp : List (Int × Vs)} {l : List Int} {n : Int} (h : InvIn cs mp (· ∈ l)) (hn : n ∉ l) (t : Tok) : InvIn cs (mput mp n ((valsOf mp n).1 ++ [(cs.length : Int)], t)) (· ∈ l ++ [n]) := by
  refine ⟨fun j i => ?_, fun j => ?_, fun j hj => ?_⟩
  · rw [valsOf_put]
    by_cases e : n = j
    · subst e
      rw [if_pos rfl]
      simp only [List.mem_append, List.mem_singleton, h.mem]
      constructor
      · rintro ((h1 | ⟨h1, h2⟩) | h1)
        · exact .inl h1
        · exact absurd h1 hn
        · exact .inr ⟨.inr (by trivial), h1⟩
      · rintro (h1 | ⟨_, h1⟩)
        · exact .inl (.inl h1)
        · exact .inr h1
    · rw [if_neg e, h.mem]
      have : j ∈ l ++ [n] ↔ j ∈ l := by simp [Ne.symm e]
      rw [this]
  · rw [valsOf_put]
    by_cases e : n = j
    · subst e
      rw [if_pos rfl]
      have := h.len0 n hn
      simp; omega
    · rw [if_neg e]; exact h.len j
  · rw [valsOf_put]
    by_cases e : n = j
    · subst e; exact absurd (by simp) hj
    · rw [if_neg e]; exact h.len0 j fun h' => hj (by simp [h'])

theorem insert0 (O : VH) : vmapUpdate (tyOf Try.prog) (O.push (.map [] 0)) 66 (.map O.next) (.v (.int .i64 0)) (.v (.bool true)) = some ((O.push (.map [] 0)).set O.next (mapI mb (metL []))) :=
  vmapUpdate_I (tab := tyOf Try.prog) (f := mb) (l := []) ty66 ty3 (VH.push_new O (.map [] 0)) true (te := ⟨.bool, 1, 1, [.v (.bool false)]⟩)
theorem updMet {O : VH} {bm : Nat} {l : List Int} (hm : O.hp bm = some (mapI mb (metL l))) {n : Int} (h0 : n ≠ 0) (hn : n ∉ l) : vmapUpdate (tyOf Try.prog) O 66 (.map bm) (.v (.int .i64 n)) (.v (.bool true)) = some (O.set bm (mapI mb (metL (l ++ [n])))) := by
  have := vmapUpdate_I (tab := tyOf Try.prog) (f := mb) ty66 ty3 (k := n) hm true (te := ⟨.bool, 1, 1, [.v (.bool false)]⟩)
  rw [mput_met l n h0 hn] at this
  exact this
theorem updIn {O : VH} {bm : Nat} {mp : List (Int × Vs)} (hm : O.hp bm = some (mapI fV mp)) (n : Int) (v : List MV) (k : Nat) (y : Vs) (hk : k = y.1.length) (hv : v = y.1.map mi) : vmapUpdate (tyOf Try.prog) O 62 (.map bm) (.v (.int .i64 n)) (.sl k v y.2) = some (O.set bm (mapI fV (mput mp n y))) := by
  subst hk hv
  exact vmapUpdate_I (tab := tyOf Try.prog) (f := fV) ty62 ty3 (k := n) hm y (te := ⟨.slice 3, 1, 24, [.sl 0 [] .nil]⟩)

/-- (*proof.base).add -/
theorem add_v {O0 O : VH} {b : Nat} {cls : List (List Int)} (hB : Base O0 b cls O) (c : List Int) (tk : Tok) (hc : c.length ≤ 1000) (hcl : cls.length ≤ 1000) :
    VF Try.prog 38 [.ptr b 0, ints c tk] O (Ret fun m O' => m = .tuple [] ∧ Base O0 b (cls ++ [lf [] c]) O') := by
  obtain ⟨bm, cs, mp, sh, s1, s2, hBs, hIn, hSh, rfl⟩ := hB
  have hcs : cs.length ≤ 1000 := by simpa [rows] using hcl
  have hshl := hSh.len
  have hbmet : O0.next ≤ O.next ∧ b ≠ O.next ∧ bm ≠ O.next := ⟨hBs.ge.next, Nat.ne_of_lt hBs.lb.2, Nat.ne_of_lt hBs.lm.2⟩
  have hBs1 := (hBs.push (.map [] 0)).set (mapI mb (metL [])) (VH.push_new O (.map [] 0)) (by simp) hbmet.1 hbmet.2.1 hbmet.2.2
  have hmet := VH.set_get (O.push (.map [] 0)) O.next (mapI mb (metL []))
  have hlt : O.next < ((O.push (.map [] 0)).set O.next (mapI mb (metL []))).next := Nat.lt_succ_self _
  have hins := insert0 O
  refine VF.enter' tabOk Try.func38 (c := _) rfl (Nat.le_of_ble_eq_true rfl) ?_
  rw [show Try.f38.ntmps = 72 from rfl]
  simp only [argEnv, Nat.zero_add, Nat.reduceAdd]
  repeat' first
    | with_reducible refine VC.seq' ?_
    | with_reducible refine VC.block' ?_
    | with_reducible refine VC.skip ?_
    | with_reducible refine VC.label ?_
    | with_reducible refine VC.scope ?_
    | with_reducible refine VC.exit ?_
    | with_reducible refine VC.ret ?_
    | with_reducible refine VL.nil ?_
    | ((first | with_reducible apply VC.plainL | with_reducible apply VC.readsL (by kernel_rfl) (by kernel_rfl) (by kernel_rfl)); (with_reducible apply VL.run tabOk); (· (simp (disch := omega) only [vset, wset, ints, bools, strs, undefM, Nat.reduceLT, Nat.reduceAdd, Nat.reduceBEq, Int.reduceToNat, hins, vlen_sl ty22] <;> exact rfl)))
    | ((with_reducible apply VC.cond); (· (simp (disch := omega) only [vset, wset, ints, bools, strs, undefM, Nat.reduceLT, Nat.reduceAdd, Nat.reduceBEq, Int.reduceToNat, hins, vlen_sl ty22] <;> exact rfl)); all_goals (intro hcond; try simp only [decide_eq_true_eq, decide_eq_false_iff_not, beq_iff_eq, beq_eq_false_iff_ne, bne_iff_ne, bne_eq_false_iff_eq, ne_eq, reduceCtorEq] at hcond))
    | simp only [qset, Nat.reduceEqDiff, reduceIte]
    | ((apply EndQ.ret1 rfl); (· (simp only [look_cons, Nat.reduceBEq, cond_true, cond_false] <;> exact rfl)))
    | ((apply EndQ.ret2 rfl); (· (simp only [look_cons, Nat.reduceBEq, cond_true, cond_false] <;> exact rfl)); (· (simp only [look_cons, Nat.reduceBEq, cond_true, cond_false] <;> exact rfl)))
    | (refine EndQ.ret0 rfl ?_)
    | (refine EndQ.nor0 rfl ?_)
  clear hins
  generalize (O.push (.map [] 0)).set O.next (mapI mb (metL [])) = O1 at *
  generalize O.next = bmet at *
  apply VC.loopK [4, 12] [0, 5, 10, 11] (ms := fun s : Nat × Tok => [ints (lf [] (c.take s.1)) s.2, mi s.1]) (I := fun s O' => s.1 ≤ c.length ∧ ∃ mp, Bs O0 b bm cs mp sh s1 s2 [s.2] O' ∧ O'.hp bmet = some (mapI mb (metL (lf [] (c.take s.1)))) ∧ bmet < O'.next ∧ InvIn cs mp (· ∈ lf [] (c.take s.1))) (μ := fun s => c.length - s.1) (s0 := (0, .nil))
  · (simp (disch := omega) only [vset, wset, ints, bools, strs, undefM, Nat.reduceLT, Nat.reduceAdd, Nat.reduceBEq, Int.reduceToNat, Int.natCast_zero, List.take_zero, List.map_nil, List.any_nil, Bool.or_false, show lf [] [] = [] from rfl, List.length_nil] <;> exact rfl)
  · (simp only [vset, wset, ints, bools, strs, undefM, Nat.reduceLT, Nat.reduceAdd, Nat.reduceBEq, Int.reduceToNat] <;> exact rfl)
  · refine ⟨by simp, mp, ⟨hBs1.ge, hBs1.lb, hBs1.lm, hBs1.ne, hBs1.hb, hBs1.hm, hBs1.tk.free (.inl rfl)⟩, hmet, hlt, ?_⟩
    have : (fun x => x ∈ lf [] (c.take 0)) = (fun _ : Int => False) := by
      funext x; simp [lf]
    simp only [this]
    exact hIn
  clear hBs hBs1 hmet hlt hIn
  rintro ⟨i, s4⟩ O2 ⟨hi, mp, hB, hmet, hlt, hIn⟩
  dsimp only at hi hB hmet hIn
  have hll := lf_len [] (c.take i)
  rw [List.length_take] at hll
  by_cases h2 : i < c.length
  · have hs := lf_snoc [] (c.take i) c[i]
    rw [← take_snoc _ _ h2] at hs
    have hl1 := look_met hmet c[i]
    generalize lf [] (c.take i) = l at *
    by_cases hin : c[i] = 0 ∨ c[i] ∈ l
    · rw [decide_eq_true hin] at hl1
      rw [if_neg (by rintro ⟨a, _, b⟩; rcases hin with h | h; exact a h; exact b h)] at hs
      repeat' first
        | with_reducible refine VC.seq' ?_
        | with_reducible refine VC.block' ?_
        | with_reducible refine VC.skip ?_
        | with_reducible refine VC.label ?_
        | with_reducible refine VC.scope ?_
        | with_reducible refine VC.exit ?_
        | with_reducible refine VC.ret ?_
        | with_reducible refine VL.nil ?_
        | ((first | with_reducible apply VC.plainL | with_reducible apply VC.readsL (by kernel_rfl) (by kernel_rfl) (by kernel_rfl)); (with_reducible apply VL.run tabOk); (· (simp (disch := omega) only [vset, wset, ints, bools, strs, undefM, Nat.reduceLT, Nat.reduceAdd, Nat.reduceBEq, Int.reduceToNat, vix_sl ty22 ty3, vload_c ty3 rfl, hl1] <;> exact rfl)))
        | ((with_reducible apply VC.cond); (· (simp (disch := omega) only [vset, wset, ints, bools, strs, undefM, Nat.reduceLT, Nat.reduceAdd, Nat.reduceBEq, Int.reduceToNat, vix_sl ty22 ty3, vload_c ty3 rfl, hl1] <;> exact rfl)); all_goals (intro hcond; try simp only [decide_eq_true_eq, decide_eq_false_iff_not, beq_iff_eq, beq_eq_false_iff_ne, bne_iff_ne, bne_eq_false_iff_eq, ne_eq, reduceCtorEq] at hcond))
        | simp only [qset, Nat.reduceEqDiff, reduceIte]
        | ((apply EndQ.ret1 rfl); (· (simp only [look_cons, Nat.reduceBEq, cond_true, cond_false] <;> exact rfl)))
        | ((apply EndQ.ret2 rfl); (· (simp only [look_cons, Nat.reduceBEq, cond_true, cond_false] <;> exact rfl)); (· (simp only [look_cons, Nat.reduceBEq, cond_true, cond_false] <;> exact rfl)))
        | (refine EndQ.ret0 rfl ?_)
        | (refine EndQ.nor0 rfl ?_)
      refine ⟨?_, (i + 1, s4), ?_, ?_, by dsimp only; omega⟩
      · (simp only [vset, wset, ints, bools, strs, undefM, Nat.reduceLT, Nat.reduceAdd, Nat.reduceBEq, Int.reduceToNat] <;> exact rfl)
      · (simp (disch := omega) only [vset, wset, ints, bools, strs, undefM, Nat.reduceLT, Nat.reduceAdd, Nat.reduceBEq, Int.reduceToNat, Int.natCast_add, Int.cast_ofNat_Int, hs] <;> first | done | exact rfl)
      refine ⟨by dsimp only; omega, mp, hB, ?_, hlt, ?_⟩
      · dsimp only; rw [hs]; exact hmet
      · dsimp only; rw [hs]; exact hIn
    · rw [decide_eq_false hin] at hl1
      have h0 : c[i] ≠ 0 := fun h => hin (.inl h)
      have hnl : c[i] ∉ l := fun h => hin (.inr h)
      rw [if_pos ⟨h0, by simp, hnl⟩] at hs
      have hum := updMet hmet h0 hnl
      have hB1 := hB.set (mapI mb (metL (l ++ [c[i]]))) hmet (by simp [mapI]) hbmet.1 hbmet.2.1 hbmet.2.2
      have hmet1 := VH.set_get O2 bmet (mapI mb (metL (l ++ [c[i]])))
      have hn1 : (O2.set bmet (mapI mb (metL (l ++ [c[i]])))).next = O2.next := rfl
      generalize O2.set bmet (mapI mb (metL (l ++ [c[i]]))) = O3 at *
      have hap1 := vappend_app ty22 ty3 (tk' := .full) (cs := l.map mi) (n := l.length) (ds := [.v (.int .i64 c[i])]) (k := 1) (hB1.tk.app s4 (by simp)) (by simp) rfl rfl (by decide) (by decide) (by omega) (by simp [maxLen]; omega)
      have hB2 := hB1.app
      have hmet2 := VH.after_hp (hB1.tk.app s4 (by simp)) hmet1 (by simp [mapI]) (by omega)
      have hn2 : bmet < (O3.after s4).next := by rw [VH.after_next]; omega
      generalize O3.after s4 = O4 at *
      have hlk := look_vals hB2.hm c[i]
      obtain ⟨hav, hB3⟩ := hB2.put c[i] cs.length
      have hlv := hIn.len c[i]
      have hap2 := vappend_app ty22 ty3 (tk' := .full) (cs := (valsOf mp c[i]).1.map mi) (n := (valsOf mp c[i]).1.length) (ds := [.v (.int .i64 cs.length)]) (k := 1) hav (by simp) rfl rfl (by decide) (by decide) (by omega) (by simp [maxLen]; omega)
      have hm5 := VH.after_hp hav hB2.hm (by simp [mapI]) hB2.lm.2
      have hui := updIn hm5 c[i] ((valsOf mp c[i]).1.map mi ++ [.v (.int .i64 cs.length)]) ((valsOf mp c[i]).1.length + 1) ((valsOf mp c[i]).1 ++ [(cs.length : Int)], .own O4.next 1) (by simp) (by simp [mi])
      have hmet5 := VH.after_hp hav hmet2 (by simp [mapI]) hn2
      have hn5 : bmet < (O4.after (valsOf mp c[i]).2).next := by rw [VH.after_next]; omega
      repeat' first
        | with_reducible refine VC.seq' ?_
        | with_reducible refine VC.block' ?_
        | with_reducible refine VC.skip ?_
        | with_reducible refine VC.label ?_
        | with_reducible refine VC.scope ?_
        | with_reducible refine VC.exit ?_
        | with_reducible refine VC.ret ?_
        | with_reducible refine VL.nil ?_
        | ((first | with_reducible apply VC.plainL | with_reducible apply VC.readsL (by kernel_rfl) (by kernel_rfl) (by kernel_rfl)); (with_reducible apply VL.run tabOk); (· (simp (disch := omega) only [vset, wset, ints, bools, strs, undefM, Nat.reduceLT, Nat.reduceAdd, Nat.reduceBEq, Int.reduceToNat, vix_sl ty22 ty3, vload_c ty3 rfl, hl1, hum, vbs1v ty22 ty3, hap1] <;> exact rfl)))
        | ((with_reducible apply VC.cond); (· (simp (disch := omega) only [vset, wset, ints, bools, strs, undefM, Nat.reduceLT, Nat.reduceAdd, Nat.reduceBEq, Int.reduceToNat, vix_sl ty22 ty3, vload_c ty3 rfl, hl1, hum, vbs1v ty22 ty3, hap1] <;> exact rfl)); all_goals (intro hcond; try simp only [decide_eq_true_eq, decide_eq_false_iff_not, beq_iff_eq, beq_eq_false_iff_ne, bne_iff_ne, bne_eq_false_iff_eq, ne_eq, reduceCtorEq] at hcond))
        | simp only [qset, Nat.reduceEqDiff, reduceIte]
        | ((apply EndQ.ret1 rfl); (· (simp only [look_cons, Nat.reduceBEq, cond_true, cond_false] <;> exact rfl)))
        | ((apply EndQ.ret2 rfl); (· (simp only [look_cons, Nat.reduceBEq, cond_true, cond_false] <;> exact rfl)); (· (simp only [look_cons, Nat.reduceBEq, cond_true, cond_false] <;> exact rfl)))
        | (refine EndQ.ret0 rfl ?_)
        | (refine EndQ.nor0 rfl ?_)
      apply VC.drawnL (.held [18]) [(0, .rd), (1, .rd), (2, .rd), (3, .rd), (4, .rd), (5, .rd), (6, .rd), (7, .rd), (8, .rd), (9, .rd), (10, .rd), (11, .rd), (12, .rd), (13, .rd), (14, .rd), (15, .rd), (16, .one), (17, .one), (18, .one)] (by simp) (by kernel_rfl) (by kernel_rfl) (by kernel_rfl)
      · exact rfl
      apply VL.run tabOk
      · (simp (disch := omega) only [vset, wset, ints, bools, strs, undefM, Nat.reduceLT, Nat.reduceAdd, Nat.reduceBEq, Int.reduceToNat, vnil_p, fa64_0, fa64_1, vload_p ty62 rfl hB2.hb, vload_p ty24 rfl hB2.hb, hlk, vlen_sl ty24, vbs1v ty22 ty3, hap2, hui] <;> exact rfl)
      repeat' first
        | with_reducible refine VC.seq' ?_
        | with_reducible refine VC.block' ?_
        | with_reducible refine VC.skip ?_
        | with_reducible refine VC.label ?_
        | with_reducible refine VC.scope ?_
        | with_reducible refine VC.exit ?_
        | with_reducible refine VC.ret ?_
        | with_reducible refine VL.nil ?_
        | ((first | with_reducible apply VC.plainL | with_reducible apply VC.readsL (by kernel_rfl) (by kernel_rfl) (by kernel_rfl)); (with_reducible apply VL.run tabOk); (· (simp (disch := omega) only [vset, wset, ints, bools, strs, undefM, Nat.reduceLT, Nat.reduceAdd, Nat.reduceBEq, Int.reduceToNat] <;> exact rfl)))
        | ((with_reducible apply VC.cond); (· (simp (disch := omega) only [vset, wset, ints, bools, strs, undefM, Nat.reduceLT, Nat.reduceAdd, Nat.reduceBEq, Int.reduceToNat] <;> exact rfl)); all_goals (intro hcond; try simp only [decide_eq_true_eq, decide_eq_false_iff_not, beq_iff_eq, beq_eq_false_iff_ne, bne_iff_ne, bne_eq_false_iff_eq, ne_eq, reduceCtorEq] at hcond))
        | simp only [qset, Nat.reduceEqDiff, reduceIte]
        | ((apply EndQ.ret1 rfl); (· (simp only [look_cons, Nat.reduceBEq, cond_true, cond_false] <;> exact rfl)))
        | ((apply EndQ.ret2 rfl); (· (simp only [look_cons, Nat.reduceBEq, cond_true, cond_false] <;> exact rfl)); (· (simp only [look_cons, Nat.reduceBEq, cond_true, cond_false] <;> exact rfl)))
        | (refine EndQ.ret0 rfl ?_)
        | (refine EndQ.nor0 rfl ?_)
      refine ⟨?_, (i + 1, .own O3.next 1), ?_, ⟨by dsimp only; omega, _, hB3, ?_, hn5, ?_⟩, by dsimp only; omega⟩
      · (simp only [vset, wset, ints, bools, strs, undefM, Nat.reduceLT, Nat.reduceAdd, Nat.reduceBEq, Int.reduceToNat] <;> exact rfl)
      · dsimp only; rw [hs]
        (simp (disch := omega) only [vset, wset, ints, bools, strs, undefM, Nat.reduceLT, Nat.reduceAdd, Nat.reduceBEq, Int.reduceToNat, Int.natCast_add, Int.cast_ofNat_Int, List.map_append, List.length_append, List.length_cons, List.length_nil] <;> first | done | exact rfl)
      · dsimp only; rw [hs, VH.set_ne _ _ (Ne.symm hbmet.2.2)]; exact hmet5
      · dsimp only; rw [hs]; exact hIn.put hnl _
  · rw [List.take_of_length_le (by omega)] at hIn ⊢
    have hlc := lf_len [] c
    have hIn2 := hIn.next s4
    have hSh2 := hSh.next (lf [] c) s4
    have hrow : rows (cs ++ [(lf [] c, s4)]) = rows cs ++ [lf [] c] := by simp [rows]
    generalize lf [] c = l at *
    by_cases hs : l.length < 2
    · rw [if_pos hs] at hSh2
      obtain ⟨ha, hB3⟩ := hB.addShort cs.length
      have hap := vappend_app ty22 ty3 (tk' := .full) (cs := sh.map mi) (n := sh.length) (ds := [.v (.int .i64 cs.length)]) (k := 1) ha (by simp) rfl rfl (by decide) (by decide) (by omega) (by simp [maxLen]; omega)
      have hb3 := VH.after_hp ha hB.hb (by simp) hB.lb.2
      simp only [ints, List.map_append, List.length_append, List.map_cons, List.map_nil, List.length_cons, List.length_nil, mi_def] at hB3
      repeat' first
        | with_reducible refine VC.seq' ?_
        | with_reducible refine VC.block' ?_
        | with_reducible refine VC.skip ?_
        | with_reducible refine VC.label ?_
        | with_reducible refine VC.scope ?_
        | with_reducible refine VC.exit ?_
        | with_reducible refine VC.ret ?_
        | with_reducible refine VL.nil ?_
        | ((first | with_reducible apply VC.plainL | with_reducible apply VC.readsL (by kernel_rfl) (by kernel_rfl) (by kernel_rfl)); (with_reducible apply VL.run tabOk); (· (simp (disch := omega) only [vset, wset, ints, bools, strs, undefM, Nat.reduceLT, Nat.reduceAdd, Nat.reduceBEq, Int.reduceToNat, vlen_sl ty22] <;> exact rfl)))
        | ((with_reducible apply VC.cond); (· (simp (disch := omega) only [vset, wset, ints, bools, strs, undefM, Nat.reduceLT, Nat.reduceAdd, Nat.reduceBEq, Int.reduceToNat, vlen_sl ty22] <;> exact rfl)); all_goals (intro hcond; try simp only [decide_eq_true_eq, decide_eq_false_iff_not, beq_iff_eq, beq_eq_false_iff_ne, bne_iff_ne, bne_eq_false_iff_eq, ne_eq, reduceCtorEq] at hcond))
        | simp only [qset, Nat.reduceEqDiff, reduceIte]
        | ((apply EndQ.ret1 rfl); (· (simp only [look_cons, Nat.reduceBEq, cond_true, cond_false] <;> exact rfl)))
        | ((apply EndQ.ret2 rfl); (· (simp only [look_cons, Nat.reduceBEq, cond_true, cond_false] <;> exact rfl)); (· (simp only [look_cons, Nat.reduceBEq, cond_true, cond_false] <;> exact rfl)))
        | (refine EndQ.ret0 rfl ?_)
        | (refine EndQ.nor0 rfl ?_)
      apply VC.drawnL (.held [14]) [(0, .rd), (1, .rd), (2, .rd), (3, .rd), (4, .rd), (5, .rd), (6, .rd), (7, .rd), (8, .rd), (9, .rd), (10, .one), (11, .one), (12, .one), (13, .rd), (14, .one)] (by simp) (by kernel_rfl) (by kernel_rfl) (by kernel_rfl)
      · exact rfl
      apply VL.run tabOk
      · (simp (disch := omega) only [vset, wset, ints, bools, strs, undefM, Nat.reduceLT, Nat.reduceAdd, Nat.reduceBEq, Int.reduceToNat, vnil_p, fa64_0, fa64_2, vload_p ty24 rfl hB.hb, vload_p ty22 rfl hB.hb, vlen_sl ty24, vbs1v ty22 ty3, hap, vstore_psl (off := 2) ty22 hb3 (by simp)] <;> exact rfl)
      generalize (O2.after s2).set b (.cells [.sl cs.length (cs.map clM) s1, .map bm, .sl (sh.length + (0 + 1)) (sh.map mi ++ [.v (.int .i64 cs.length)]) (.own O2.next 1)]) = O5 at *
      obtain ⟨ha4, hB4⟩ := hB3.addCl (l, s4)
      have hap4 := vappend_app ty24 ty22 (tk' := .full) (cs := cs.map clM) (n := cs.length) (ds := [.sl l.length (l.map mi) s4]) (k := 1) ha4 (by simp) rfl rfl (by decide) (by decide) (by omega) (by simp [maxLen]; omega)
      have hb4 := VH.after_hp ha4 hB3.hb (by simp) hB3.lb.2
      have hb0 := hB3.hb
      repeat' first
        | with_reducible refine VC.seq' ?_
        | with_reducible refine VC.block' ?_
        | with_reducible refine VC.skip ?_
        | with_reducible refine VC.label ?_
        | with_reducible refine VC.scope ?_
        | with_reducible refine VC.exit ?_
        | with_reducible refine VC.ret ?_
        | with_reducible refine VL.nil ?_
        | ((first | with_reducible apply VC.plainL | with_reducible apply VC.readsL (by kernel_rfl) (by kernel_rfl) (by kernel_rfl)); (with_reducible apply VL.run tabOk); (· (simp (disch := omega) only [vset, wset, ints, bools, strs, undefM, Nat.reduceLT, Nat.reduceAdd, Nat.reduceBEq, Int.reduceToNat, vnil_p, fa64_0, vload_p ty24 rfl hb0, vbs1s ty24 ty22, hap4, vstore_psl (off := 0) ty24 hb4 (by simp)] <;> exact rfl)))
        | ((with_reducible apply VC.cond); (· (simp (disch := omega) only [vset, wset, ints, bools, strs, undefM, Nat.reduceLT, Nat.reduceAdd, Nat.reduceBEq, Int.reduceToNat, vnil_p, fa64_0, vload_p ty24 rfl hb0, vbs1s ty24 ty22, hap4, vstore_psl (off := 0) ty24 hb4 (by simp)] <;> exact rfl)); all_goals (intro hcond; try simp only [decide_eq_true_eq, decide_eq_false_iff_not, beq_iff_eq, beq_eq_false_iff_ne, bne_iff_ne, bne_eq_false_iff_eq, ne_eq, reduceCtorEq] at hcond))
        | simp only [qset, Nat.reduceEqDiff, reduceIte]
        | ((apply EndQ.ret1 rfl); (· (simp only [look_cons, Nat.reduceBEq, cond_true, cond_false] <;> exact rfl)))
        | ((apply EndQ.ret2 rfl); (· (simp only [look_cons, Nat.reduceBEq, cond_true, cond_false] <;> exact rfl)); (· (simp only [look_cons, Nat.reduceBEq, cond_true, cond_false] <;> exact rfl)))
        | (refine EndQ.ret0 rfl ?_)
        | (refine EndQ.nor0 rfl ?_)
      refine ⟨by trivial, bm, cs ++ [(l, s4)], mp, sh ++ [(cs.length : Int)], .own (VH.next O5) 1, .own O2.next 1, ?_, hIn2, hSh2, hrow⟩
      have hB5 := hB4.less
      simp only [ints, List.map_append, List.length_append, List.map_cons, List.map_nil, List.length_cons, List.length_nil, mi_def, clM] at hB5 ⊢
      exact hB5
    · rw [if_neg hs] at hSh2
      have hB3 := hB
      repeat' first
        | with_reducible refine VC.seq' ?_
        | with_reducible refine VC.block' ?_
        | with_reducible refine VC.skip ?_
        | with_reducible refine VC.label ?_
        | with_reducible refine VC.scope ?_
        | with_reducible refine VC.exit ?_
        | with_reducible refine VC.ret ?_
        | with_reducible refine VL.nil ?_
        | ((first | with_reducible apply VC.plainL | with_reducible apply VC.readsL (by kernel_rfl) (by kernel_rfl) (by kernel_rfl)); (with_reducible apply VL.run tabOk); (· (simp (disch := omega) only [vset, wset, ints, bools, strs, undefM, Nat.reduceLT, Nat.reduceAdd, Nat.reduceBEq, Int.reduceToNat, vlen_sl ty22] <;> exact rfl)))
        | ((with_reducible apply VC.cond); (· (simp (disch := omega) only [vset, wset, ints, bools, strs, undefM, Nat.reduceLT, Nat.reduceAdd, Nat.reduceBEq, Int.reduceToNat, vlen_sl ty22] <;> exact rfl)); all_goals (intro hcond; try simp only [decide_eq_true_eq, decide_eq_false_iff_not, beq_iff_eq, beq_eq_false_iff_ne, bne_iff_ne, bne_eq_false_iff_eq, ne_eq, reduceCtorEq] at hcond))
        | simp only [qset, Nat.reduceEqDiff, reduceIte]
        | ((apply EndQ.ret1 rfl); (· (simp only [look_cons, Nat.reduceBEq, cond_true, cond_false] <;> exact rfl)))
        | ((apply EndQ.ret2 rfl); (· (simp only [look_cons, Nat.reduceBEq, cond_true, cond_false] <;> exact rfl)); (· (simp only [look_cons, Nat.reduceBEq, cond_true, cond_false] <;> exact rfl)))
        | (refine EndQ.ret0 rfl ?_)
        | (refine EndQ.nor0 rfl ?_)
      obtain ⟨ha4, hB4⟩ := hB3.addCl (l, s4)
      have hap4 := vappend_app ty24 ty22 (tk' := .full) (cs := cs.map clM) (n := cs.length) (ds := [.sl l.length (l.map mi) s4]) (k := 1) ha4 (by simp) rfl rfl (by decide) (by decide) (by omega) (by simp [maxLen]; omega)
      have hb4 := VH.after_hp ha4 hB3.hb (by simp) hB3.lb.2
      have hb0 := hB3.hb
      repeat' first
        | with_reducible refine VC.seq' ?_
        | with_reducible refine VC.block' ?_
        | with_reducible refine VC.skip ?_
        | with_reducible refine VC.label ?_
        | with_reducible refine VC.scope ?_
        | with_reducible refine VC.exit ?_
        | with_reducible refine VC.ret ?_
        | with_reducible refine VL.nil ?_
        | ((first | with_reducible apply VC.plainL | with_reducible apply VC.readsL (by kernel_rfl) (by kernel_rfl) (by kernel_rfl)); (with_reducible apply VL.run tabOk); (· (simp (disch := omega) only [vset, wset, ints, bools, strs, undefM, Nat.reduceLT, Nat.reduceAdd, Nat.reduceBEq, Int.reduceToNat, vnil_p, fa64_0, vload_p ty24 rfl hb0, vbs1s ty24 ty22, hap4, vstore_psl (off := 0) ty24 hb4 (by simp)] <;> exact rfl)))
        | ((with_reducible apply VC.cond); (· (simp (disch := omega) only [vset, wset, ints, bools, strs, undefM, Nat.reduceLT, Nat.reduceAdd, Nat.reduceBEq, Int.reduceToNat, vnil_p, fa64_0, vload_p ty24 rfl hb0, vbs1s ty24 ty22, hap4, vstore_psl (off := 0) ty24 hb4 (by simp)] <;> exact rfl)); all_goals (intro hcond; try simp only [decide_eq_true_eq, decide_eq_false_iff_not, beq_iff_eq, beq_eq_false_iff_ne, bne_iff_ne, bne_eq_false_iff_eq, ne_eq, reduceCtorEq] at hcond))
        | simp only [qset, Nat.reduceEqDiff, reduceIte]
        | ((apply EndQ.ret1 rfl); (· (simp only [look_cons, Nat.reduceBEq, cond_true, cond_false] <;> exact rfl)))
        | ((apply EndQ.ret2 rfl); (· (simp only [look_cons, Nat.reduceBEq, cond_true, cond_false] <;> exact rfl)); (· (simp only [look_cons, Nat.reduceBEq, cond_true, cond_false] <;> exact rfl)))
        | (refine EndQ.ret0 rfl ?_)
        | (refine EndQ.nor0 rfl ?_)
      refine ⟨by trivial, bm, cs ++ [(l, s4)], mp, sh, .own (VH.next O2) 1, s2, ?_, hIn2, hSh2, hrow⟩
      have hB5 := hB4.less
      simp only [ints, List.map_append, List.length_append, List.map_cons, List.map_nil, List.length_cons, List.length_nil, mi_def, clM] at hB5 ⊢
      exact hB5

theorem bd64 (k : Nat) : vbuild (tyOf Try.prog) 64 [(1, .map k)] = some (.agg [.sl 0 [] .nil, .map k, .sl 0 [] .nil]) := by kernel_rfl
/-- proof.newBase -/
theorem newBase_v (cl : List Vs) (tk : Tok) (O : VH) (hn : cl.length ≤ 1000) (hl : ∀ C ∈ cl, C.1.length ≤ 1000) :
    VF Try.prog 35 [.sl cl.length (cl.map clM) tk] O (Ret fun m O' => ∃ b, m = .ptr b 0 ∧ O.next ≤ b ∧ Base O b ((rows cl).map (lf [])) O') := by
  have hB0 : Base O (O.next + 1) [] ((O.push (.map [] 0)).push (.cells [.sl 0 [] .nil, .map O.next, .sl 0 [] .nil])) := by
    refine ⟨O.next, [], [], [], .nil, .nil, ⟨((VH.Ge.refl O).push _).push _, ⟨Nat.le_succ _, Nat.lt_succ_self _⟩, ⟨Nat.le_refl _, Nat.lt_succ_of_lt (Nat.lt_succ_self _)⟩, Nat.succ_ne_self _, VH.push_new (O.push _) _, ?_, ?_⟩, ⟨fun n i => ?_, fun n => ?_, fun n _ => ?_⟩, ⟨fun i => ?_, Nat.le_refl _⟩, rfl⟩
    · exact (VH.push_old _ _ (Nat.lt_succ_self _)).trans (VH.push_new O _)
    · exact ⟨fun s hs => by simp at hs; subst hs; trivial, List.nodup_nil⟩
    · simp [valsOf, mfind]
    · simp [valsOf, mfind]
    · simp [valsOf, mfind]
    · simp
  refine VF.enter' tabOk Try.func35 (c := _) rfl (Nat.le_of_ble_eq_true rfl) ?_
  rw [show Try.f35.ntmps = 20 from rfl]
  simp only [argEnv, Nat.zero_add, Nat.reduceAdd]
  repeat' first
    | with_reducible refine VC.seq' ?_
    | with_reducible refine VC.block' ?_
    | with_reducible refine VC.skip ?_
    | with_reducible refine VC.label ?_
    | with_reducible refine VC.scope ?_
    | with_reducible refine VC.exit ?_
    | with_reducible refine VC.ret ?_
    | with_reducible refine VL.nil ?_
    | ((first | with_reducible apply VC.plainL | with_reducible apply VC.readsL (by kernel_rfl) (by kernel_rfl) (by kernel_rfl)); (with_reducible apply VL.run tabOk); (· (simp (disch := omega) only [vset, wset, ints, bools, strs, undefM, Nat.reduceLT, Nat.reduceAdd, Nat.reduceBEq, Int.reduceToNat, bd64, vlen_sl ty24] <;> exact rfl)))
    | ((with_reducible apply VC.cond); (· (simp (disch := omega) only [vset, wset, ints, bools, strs, undefM, Nat.reduceLT, Nat.reduceAdd, Nat.reduceBEq, Int.reduceToNat, bd64, vlen_sl ty24] <;> exact rfl)); all_goals (intro hcond; try simp only [decide_eq_true_eq, decide_eq_false_iff_not, beq_iff_eq, beq_eq_false_iff_ne, bne_iff_ne, bne_eq_false_iff_eq, ne_eq, reduceCtorEq] at hcond))
    | simp only [qset, Nat.reduceEqDiff, reduceIte]
    | ((apply EndQ.ret1 rfl); (· (simp only [look_cons, Nat.reduceBEq, cond_true, cond_false] <;> exact rfl)))
    | ((apply EndQ.ret2 rfl); (· (simp only [look_cons, Nat.reduceBEq, cond_true, cond_false] <;> exact rfl)); (· (simp only [look_cons, Nat.reduceBEq, cond_true, cond_false] <;> exact rfl)))
    | (refine EndQ.ret0 rfl ?_)
    | (refine EndQ.nor0 rfl ?_)
  generalize hb : O.next + 1 = b at *
  generalize (O.push (.map [] 0)).push (.cells [.sl 0 [] .nil, .map O.next, .sl 0 [] .nil]) = O1 at *
  apply VC.loopK [11] [3, 9, 10] (ms := fun j : Nat => [mi j]) (I := fun j O' => j ≤ cl.length ∧ Base O b (((rows cl).take j).map (lf [])) O') (μ := fun j => cl.length - j) (s0 := 0)
  · (simp (disch := omega) only [vset, wset, ints, bools, strs, undefM, Nat.reduceLT, Nat.reduceAdd, Nat.reduceBEq, Int.reduceToNat, Int.natCast_zero, List.take_zero, List.map_nil, List.any_nil, Bool.or_false] <;> exact rfl)
  · (simp only [vset, wset, ints, bools, strs, undefM, Nat.reduceLT, Nat.reduceAdd, Nat.reduceBEq, Int.reduceToNat] <;> exact rfl)
  · exact ⟨by omega, hB0⟩
  rintro j O2 ⟨hj, hB⟩
  by_cases h2 : j < cl.length
  · have hcj : (cl.map clM)[j]? = some (clM cl[j]) := by rw [List.getElem?_map, List.getElem?_eq_getElem h2]; rfl
    have hlen := hl _ (List.getElem_mem h2)
    have hsn : ((rows cl).take (j + 1)).map (lf []) = ((rows cl).take j).map (lf []) ++ [lf [] cl[j].1] := by
      rw [take_snoc _ _ (by simpa [rows] using h2), List.map_append]; simp [rows]
    have hA := add_v hB cl[j].1 cl[j].2 hlen (by simp [rows]; omega)
    repeat' first
      | with_reducible refine VC.seq' ?_
      | with_reducible refine VC.block' ?_
      | with_reducible refine VC.skip ?_
      | with_reducible refine VC.label ?_
      | with_reducible refine VC.scope ?_
      | with_reducible refine VC.exit ?_
      | with_reducible refine VC.ret ?_
      | with_reducible refine VL.nil ?_
      | ((first | with_reducible apply VC.plainL | with_reducible apply VC.readsL (by kernel_rfl) (by kernel_rfl) (by kernel_rfl)); (with_reducible apply VL.run tabOk); (· (simp (disch := omega) only [vset, wset, ints, bools, strs, undefM, Nat.reduceLT, Nat.reduceAdd, Nat.reduceBEq, Int.reduceToNat, vix_sl ty24 ty22, vload_c ty22 rfl, hcj, clM] <;> exact rfl)))
      | ((with_reducible apply VC.cond); (· (simp (disch := omega) only [vset, wset, ints, bools, strs, undefM, Nat.reduceLT, Nat.reduceAdd, Nat.reduceBEq, Int.reduceToNat, vix_sl ty24 ty22, vload_c ty22 rfl, hcj, clM] <;> exact rfl)); all_goals (intro hcond; try simp only [decide_eq_true_eq, decide_eq_false_iff_not, beq_iff_eq, beq_eq_false_iff_ne, bne_iff_ne, bne_eq_false_iff_eq, ne_eq, reduceCtorEq] at hcond))
      | simp only [qset, Nat.reduceEqDiff, reduceIte]
      | ((apply EndQ.ret1 rfl); (· (simp only [look_cons, Nat.reduceBEq, cond_true, cond_false] <;> exact rfl)))
      | ((apply EndQ.ret2 rfl); (· (simp only [look_cons, Nat.reduceBEq, cond_true, cond_false] <;> exact rfl)); (· (simp only [look_cons, Nat.reduceBEq, cond_true, cond_false] <;> exact rfl)))
      | (refine EndQ.ret0 rfl ?_)
      | (refine EndQ.nor0 rfl ?_)
    apply VL.callR (id := 38) (hE := Enters.of Try.func38 (by decide) (by decide)) (hR := hA)
    · exact rfl
    · (simp (disch := omega) only [vset, wset, ints, bools, strs, undefM, Nat.reduceLT, Nat.reduceAdd, Nat.reduceBEq, Int.reduceToNat] <;> exact rfl)
    · (simp (disch := omega) only [vset, wset, ints, bools, strs, undefM, Nat.reduceLT, Nat.reduceAdd, Nat.reduceBEq, Int.reduceToNat] <;> exact rfl)
    · exact rfl
    · exact rfl
    rintro _ O3 ⟨rfl, hB3⟩
    apply VL.run tabOk
    · (simp (disch := omega) only [vset, wset, ints, bools, strs, undefM, Nat.reduceLT, Nat.reduceAdd, Nat.reduceBEq, Int.reduceToNat] <;> exact rfl)
    repeat' first
      | with_reducible refine VC.seq' ?_
      | with_reducible refine VC.block' ?_
      | with_reducible refine VC.skip ?_
      | with_reducible refine VC.label ?_
      | with_reducible refine VC.scope ?_
      | with_reducible refine VC.exit ?_
      | with_reducible refine VC.ret ?_
      | with_reducible refine VL.nil ?_
      | ((first | with_reducible apply VC.plainL | with_reducible apply VC.readsL (by kernel_rfl) (by kernel_rfl) (by kernel_rfl)); (with_reducible apply VL.run tabOk); (· (simp (disch := omega) only [vset, wset, ints, bools, strs, undefM, Nat.reduceLT, Nat.reduceAdd, Nat.reduceBEq, Int.reduceToNat] <;> exact rfl)))
      | ((with_reducible apply VC.cond); (· (simp (disch := omega) only [vset, wset, ints, bools, strs, undefM, Nat.reduceLT, Nat.reduceAdd, Nat.reduceBEq, Int.reduceToNat] <;> exact rfl)); all_goals (intro hcond; try simp only [decide_eq_true_eq, decide_eq_false_iff_not, beq_iff_eq, beq_eq_false_iff_ne, bne_iff_ne, bne_eq_false_iff_eq, ne_eq, reduceCtorEq] at hcond))
      | simp only [qset, Nat.reduceEqDiff, reduceIte]
      | ((apply EndQ.ret1 rfl); (· (simp only [look_cons, Nat.reduceBEq, cond_true, cond_false] <;> exact rfl)))
      | ((apply EndQ.ret2 rfl); (· (simp only [look_cons, Nat.reduceBEq, cond_true, cond_false] <;> exact rfl)); (· (simp only [look_cons, Nat.reduceBEq, cond_true, cond_false] <;> exact rfl)))
      | (refine EndQ.ret0 rfl ?_)
      | (refine EndQ.nor0 rfl ?_)
    refine ⟨?_, j + 1, ?_, ?_, by dsimp only; omega⟩
    · (simp only [vset, wset, ints, bools, strs, undefM, Nat.reduceLT, Nat.reduceAdd, Nat.reduceBEq, Int.reduceToNat] <;> exact rfl)
    · (simp (disch := omega) only [vset, wset, ints, bools, strs, undefM, Nat.reduceLT, Nat.reduceAdd, Nat.reduceBEq, Int.reduceToNat, Int.natCast_add, Int.cast_ofNat_Int] <;> first | done | exact rfl)
    exact ⟨by omega, by rw [hsn]; exact hB3⟩
  · rw [List.take_of_length_le (by simp [rows]; omega)] at hB
    repeat' first
      | with_reducible refine VC.seq' ?_
      | with_reducible refine VC.block' ?_
      | with_reducible refine VC.skip ?_
      | with_reducible refine VC.label ?_
      | with_reducible refine VC.scope ?_
      | with_reducible refine VC.exit ?_
      | with_reducible refine VC.ret ?_
      | with_reducible refine VL.nil ?_
      | ((first | with_reducible apply VC.plainL | with_reducible apply VC.readsL (by kernel_rfl) (by kernel_rfl) (by kernel_rfl)); (with_reducible apply VL.run tabOk); (· (simp (disch := omega) only [vset, wset, ints, bools, strs, undefM, Nat.reduceLT, Nat.reduceAdd, Nat.reduceBEq, Int.reduceToNat] <;> exact rfl)))
      | ((with_reducible apply VC.cond); (· (simp (disch := omega) only [vset, wset, ints, bools, strs, undefM, Nat.reduceLT, Nat.reduceAdd, Nat.reduceBEq, Int.reduceToNat] <;> exact rfl)); all_goals (intro hcond; try simp only [decide_eq_true_eq, decide_eq_false_iff_not, beq_iff_eq, beq_eq_false_iff_ne, bne_iff_ne, bne_eq_false_iff_eq, ne_eq, reduceCtorEq] at hcond))
      | simp only [qset, Nat.reduceEqDiff, reduceIte]
      | ((apply EndQ.ret1 rfl); (· (simp only [look_cons, Nat.reduceBEq, cond_true, cond_false] <;> exact rfl)))
      | ((apply EndQ.ret2 rfl); (· (simp only [look_cons, Nat.reduceBEq, cond_true, cond_false] <;> exact rfl)); (· (simp only [look_cons, Nat.reduceBEq, cond_true, cond_false] <;> exact rfl)))
      | (refine EndQ.ret0 rfl ?_)
      | (refine EndQ.nor0 rfl ?_)
    exact ⟨b, rfl, by omega, hB⟩
theorem Base.ge {O0 O O' : VH} {b : Nat} {cls : List (List Int)} (h : Base O0 b cls O) (hg : O.Ge O') : Base O0 b cls O' := by
  obtain ⟨bm, cs, mp, sh, s1, s2, hB, r⟩ := h
  refine ⟨bm, cs, mp, sh, s1, s2, ⟨hB.ge.trans hg, ⟨hB.lb.1, Nat.lt_of_lt_of_le hB.lb.2 hg.next⟩, ⟨hB.lm.1, Nat.lt_of_lt_of_le hB.lm.2 hg.next⟩, hB.ne, (hg.hp _ hB.lb.2).trans hB.hb, (hg.hp _ hB.lm.2).trans hB.hm, ⟨fun s hs => ?_, hB.tk.nodup⟩⟩, r⟩
  have := hB.tk.app s hs
  cases s with
  | own t j => exact ⟨this.1, (hg.hp _ this.2.2.2).trans this.2.1, this.2.2.1, Nat.lt_of_lt_of_le this.2.2.2 hg.next⟩
  | _ => exact this
end Go.Proofs.Ytcfoongiffpnlaa
