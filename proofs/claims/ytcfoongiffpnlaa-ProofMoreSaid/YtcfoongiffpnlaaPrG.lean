/-
  The package proof: base.follows, Follows, walked.
-/
import Derived.Test.YtcfoongiffpnlaaPrF
set_option linter.unusedVariables false
set_option linter.unusedSimpArgs false
namespace Go.Proofs.Ytcfoongiffpnlaa
open Go.RowKit

/-! ### What is known on the way; p: how many of the taken have been looked at -/
structure Kn (cls : List (List Int)) (c : List Int) (p : Nat) (st : St) : Prop where
  y : Yes cls c st.1
  td : st.2.1 = st.1.drop p
  pl : p ≤ st.1.length
  bad : st.2.2 = true → Bad cls c
  con : st.2.2 = false → ∀ n ∈ st.1, -n ∉ st.1
/-- st2 goes on from st. -/
structure Ext (st st2 : St) : Prop where
  pre : ∃ l, st2.1 = st.1 ++ l
  bad : st2.2.2 = false → st.2.2 = false
theorem Ext.refl (st : St) : Ext st st := ⟨⟨[], by simp⟩, id⟩
theorem Ext.trans {a b c : St} (h : Ext a b) (k : Ext b c) : Ext a c := by
  obtain ⟨⟨l, hl⟩, h2⟩ := h
  obtain ⟨⟨m, hm⟩, k2⟩ := k
  exact ⟨⟨l ++ m, by rw [hm, hl, List.append_assoc]⟩, fun x => h2 (k2 x)⟩
theorem Ext.mem {a b : St} (h : Ext a b) {n : Int} (hn : n ∈ a.1) : n ∈ b.1 := by
  obtain ⟨⟨l, hl⟩, _⟩ := h
  rw [hl]; exact List.mem_append_left _ hn
theorem Ext.take {a b : St} (h : Ext a b) {p : Nat} (hp : p ≤ a.1.length) : b.1.take p = a.1.take p := by
  obtain ⟨⟨l, hl⟩, _⟩ := h
  rw [hl, List.take_append_of_le_length hp]
section
variable {cls : List (List Int)} {c : List Int} {p : Nat} {st : St}
theorem Kn.take (h : Kn cls c p st) {n : Int} (hU : n ∈ c.map (fun x => -x) ++ cls.flatten) (hu : UP cls c n) : Kn cls c p (takeS st n) ∧ Ext st (takeS st n) ∧ n ∈ (takeS st n).1 := by
  have hb2 : (st.2.2 || decide (-n ∈ st.1)) = true → Bad cls c := fun hb => by
    rw [Bool.or_eq_true] at hb
    rcases hb with hb | hb
    · exact h.bad hb
    · exact .inl ⟨n, hu, h.y.up _ (of_decide_eq_true hb)⟩
  by_cases hin : n ∈ st.1
  · refine ⟨⟨by simp only [takeS, if_pos hin]; exact h.y, by simp only [takeS, if_pos hin]; exact h.td, by simp only [takeS, if_pos hin]; exact h.pl, hb2, fun hb => ?_⟩, ⟨⟨[], by simp [takeS, hin]⟩, fun hb => ?_⟩, by simp only [takeS, if_pos hin]; exact hin⟩
    · simp only [takeS, Bool.or_eq_false_iff] at hb
      simp only [takeS, if_pos hin]; exact h.con hb.1
    · simp only [takeS, Bool.or_eq_false_iff] at hb; exact hb.1
  · refine ⟨⟨by simp only [takeS, if_neg hin]; exact h.y.snoc hin hU hu, by simp only [takeS, if_neg hin]; rw [List.drop_append_of_le_length h.pl, h.td], by simp only [takeS, if_neg hin, List.length_append]; have := h.pl; omega, hb2, fun hb => ?_⟩, ⟨⟨[n], by simp [takeS, hin]⟩, fun hb => ?_⟩, by simp only [takeS, if_neg hin]; simp⟩
    · simp only [takeS, Bool.or_eq_false_iff, decide_eq_false_iff_not] at hb
      simp only [takeS, if_neg hin]
      have hn0 := hu.ne
      intro m hm
      rw [List.mem_append, List.mem_singleton] at hm ⊢
      rintro (h1 | h1)
      · rcases hm with hm | rfl
        · exact h.con hb.1 m hm h1
        · exact hb.2 h1
      · rcases hm with hm | rfl
        · exact hb.2 (by rw [← h1, Int.neg_neg]; exact hm)
        · omega
    · simp only [takeS, Bool.or_eq_false_iff] at hb; exact hb.1
/-- What has been learnt of a clause that was looked at. -/
def Seen (p : Nat) (st : St) (C : List Int) : Prop := C ≠ [] ∧ ((∃ z ∈ C, z ∈ st.1) ∨ ∃ m1 ∈ C, ∃ m2 ∈ C, m1 ≠ m2 ∧ -m1 ∉ st.1.take p ∧ -m2 ∉ st.1.take p)
theorem Seen.ext {C : List Int} {st2 : St} (h : Seen p st C) (he : Ext st st2) (hp : p ≤ st.1.length) : Seen p st2 C := by
  refine ⟨h.1, ?_⟩
  rw [he.take hp]
  exact h.2.imp (fun ⟨z, h1, h2⟩ => ⟨z, h1, he.mem h2⟩) id
theorem Kn.look (h : Kn cls c p st) {C : List Int} (hC : C ∈ cls) (hnd : C.Nodup) (h0 : ∀ n ∈ C, n ≠ 0) : Kn cls c p (lookS st C) ∧ Ext st (lookS st C) ∧ ((lookS st C).2.2 = false → Seen p (lookS st C) C) := by
  have hlq : ∀ m, m ∈ lq st.1 C ↔ m ∈ C ∧ -m ∉ st.1 := fun m => by rw [lq, List.mem_filter]; simp
  unfold lookS
  match hL : lq st.1 C with
  | [] =>
    refine ⟨⟨h.y, h.td, h.pl, fun _ => .inr ⟨C, hC, fun m hm _ => h.y.up _ (Classical.not_not.1 fun hh => ?_)⟩, fun hb => by cases hb⟩, ⟨⟨[], by simp⟩, fun hb => by cases hb⟩, fun hb => by cases hb⟩
    have := (hlq m).2 ⟨hm, hh⟩
    rw [hL] at this; cases this
  | [x] =>
    have hx := (hlq x).1 (by rw [hL]; simp)
    have hu : UP cls c x := .unit hC hx.1 (h0 x hx.1) fun m hm _ hmx => h.y.up _ (Classical.not_not.1 fun hh => by
      have := (hlq m).2 ⟨hm, hh⟩
      rw [hL, List.mem_singleton] at this
      exact hmx this)
    obtain ⟨k1, k2, k3⟩ := h.take (List.mem_append_right _ (List.mem_flatten.2 ⟨C, hC, hx.1⟩)) hu
    exact ⟨k1, k2, fun _ => ⟨fun e => by rw [e] at hx; simp at hx, .inl ⟨x, hx.1, k3⟩⟩⟩
  | x :: y :: r =>
    have hx := (hlq x).1 (by rw [hL]; simp)
    have hy := (hlq y).1 (by rw [hL]; simp)
    have hxy : x ≠ y := by
      have : (lq st.1 C).Nodup := hnd.filter _
      rw [hL] at this
      intro e; subst e; simp at this
    exact ⟨h, Ext.refl _, fun _ => ⟨fun e => by rw [e] at hx; simp at hx, .inr ⟨x, hx.1, y, hy.1, hxy, fun hm => hx.2 (List.mem_of_mem_take hm), fun hm => hy.2 (List.mem_of_mem_take hm)⟩⟩⟩
/-- Each clause of which all but one literals have been refuted by what has been looked at is settled. -/
def Cl (cls : List (List Int)) (p : Nat) (st : St) : Prop := ∀ C ∈ cls, C ≠ [] ∧ ∀ x ∈ C, (∀ m ∈ C, m ≠ x → -m ∈ st.1.take p) → ∃ z ∈ C, z ∈ st.1
theorem Cl.ext {st2 : St} (h : Cl cls p st) (he : Ext st st2) (hp : p ≤ st.1.length) : Cl cls p st2 := by
  intro C hC
  refine ⟨(h C hC).1, fun x hx hall => ?_⟩
  rw [he.take hp] at hall
  obtain ⟨z, h1, h2⟩ := (h C hC).2 x hx hall
  exact ⟨z, h1, he.mem h2⟩
theorem Cl.next (h : Cl cls p st) {n : Int} (hn : st.1.take (p + 1) = st.1.take p ++ [n]) (hs : ∀ C ∈ cls, -n ∈ C → Seen (p + 1) st C) : Cl cls (p + 1) st := by
  intro C hC
  refine ⟨(h C hC).1, fun x hx hall => ?_⟩
  by_cases hin : -n ∈ C
  · rcases (hs C hC hin).2 with h1 | ⟨m1, a1, m2, a2, hne, b1, b2⟩
    · exact h1
    · exfalso
      by_cases e : m1 = x
      · exact b2 (hall m2 a2 fun e2 => hne (by rw [e, e2]))
      · exact b1 (hall m1 a1 e)
  · refine (h C hC).2 x hx fun m hm hmx => ?_
    have := hall m hm hmx
    rw [hn, List.mem_append, List.mem_singleton] at this
    rcases this with h1 | h1
    · exact h1
    · exact absurd (by rw [← h1, Int.neg_neg]; exact hm) hin
theorem Kn.done (h : Kn cls c p st) (hp : p = st.1.length) (hb : st.2.2 = false) (h0 : ∀ n ∈ c, n ≠ 0 → -n ∈ st.1) (hcl : Cl cls p st) (hz : ∀ C ∈ cls, ∀ n ∈ C, n ≠ 0) : ¬ Bad cls c := by
  have hcon := h.con hb
  subst hp
  refine not_bad (Y := (· ∈ st.1)) h0 (fun C hC x hx _ hall => ?_) (fun n a b => hcon n a b) fun C hC hall => ?_
  · obtain ⟨z, h1, h2⟩ := (hcl C hC).2 x hx fun m hm hmx => by
      rw [List.take_length]
      exact hall m hm (hz C hC m hm) hmx
    by_cases e : z = x
    · rw [← e]; exact h2
    · exact absurd (hall z h1 (h.y.up z h2).ne e) (hcon z h2)
  · obtain ⟨hne, h1⟩ := hcl C hC
    match C, hne with
    | x :: r, _ =>
      obtain ⟨z, h2, h3⟩ := h1 x (List.mem_cons_self ..) fun m hm hmx => by
        rw [List.take_length]
        exact hall m hm (hz _ hC m hm)
      exact hcon z h3 (hall z h2 (h.y.up z h3).ne)
end
theorem vslice_1 {tab : Tab} {t el : TypeId} {u : TypeDesc} {a b d : Nat} {z y : List MV} (h : tab t = some ⟨.slice el, a, b, z⟩) (h2 : tab el = some ⟨u, 1, d, y⟩) {n : Nat} {cs : List MV} (hc : cs.length = n) (hn : 1 ≤ n) (tk : Tok) :
    vslice tab t (.sl n cs tk) (some (.v (.int .i64 1))) none = some (.sl (n - 1) (cs.drop 1) (cutTok tk 1 true)) := by
  have hb0 : vbound 0 (some (.v (.int .i64 1))) = some 1 := by simp [vbound]
  have hb : vbound n none = some n := rfl
  simp only [vslice, h, h2, Option.map_some, hb0, hb]
  rw [if_neg (by simp), if_pos ⟨hn, Nat.le_refl _, by omega⟩]
  simp only [Nat.mul_one, beq_self_eq_true]
  rw [List.take_of_length_le (by simp; omega)]
theorem cut_app {O : VH} {B : Nat} {s : Tok} (h : App O B 1 s) (hs : s ≠ .nil) : App O B 1 (cutTok s 1 true) ∧ cutTok s 1 true ≠ .nil := by
  cases s with
  | nil => exact absurd rfl hs
  | full => exact ⟨trivial, by simp [cutTok]⟩
  | own t k =>
    obtain ⟨rfl, h2⟩ := h
    have : cutTok (.own t 1) 1 true = .own t 1 := rfl
    rw [this]
    exact ⟨⟨rfl, h2⟩, by simp⟩
  | unk => exact h.elim
theorem bd68 (b k : Nat) : vbuild (tyOf Try.prog) 68 [(0, .ptr b 0), (1, .map k)] = some (.agg [.ptr b 0, .map k, .sl 0 [] .nil, .v (.bool false)]) := by kernel_rfl
theorem getD_cs {cs : List Vs} {k : Nat} (h : k < cs.length) : cs.getD k ([], .nil) = cs[k] := by
  rw [List.getD_eq_getElem?_getD, List.getElem?_eq_getElem h]; rfl

theorem dd_nodup (L : List (List Int)) : ∀ C ∈ L.map (lf []), C.Nodup := fun C hC => by
  obtain ⟨D, _, rfl⟩ := List.mem_map.1 hC
  exact lf_nodup _ _
theorem dd_ne (L : List (List Int)) : ∀ C ∈ L.map (lf []), ∀ n ∈ C, n ≠ 0 := fun C hC n hn => by
  obtain ⟨D, _, rfl⟩ := List.mem_map.1 hC
  exact ((mem_lf _).1 hn).2.1
theorem bad_dd (L : List (List Int)) (c : List Int) : Bad (L.map (lf [])) c ↔ Bad L c := by
  constructor
  · refine Bad.more (fun C hC => ?_) fun n h _ => h
    obtain ⟨D, hD, rfl⟩ := List.mem_map.1 hC
    exact ⟨D, hD, fun m hm => by rw [mem_lf]; simp [hm]⟩
  · refine Bad.more (fun C hC => ⟨lf [] C, List.mem_map_of_mem hC, fun m hm => by rw [mem_lf]; simp [hm]⟩) fun n h _ => h
/-- (*proof.base).follows -/
theorem follows_v {O0 O : VH} {b : Nat} {cls : List (List Int)} (hB : Base O0 b cls O) (hnd : ∀ C ∈ cls, C.Nodup) (hz : ∀ C ∈ cls, ∀ n ∈ C, n ≠ 0) (hR : ∀ C ∈ cls, ∀ n ∈ C, InR n) (hlen : ∀ C ∈ cls, C.length ≤ 1000) (hcl : cls.length ≤ 1000)
    (c : List Int) (tk : Tok) (hc : c.length ≤ 1000) (hcR : ∀ n ∈ c, InR n) :
    VF Try.prog 36 [.ptr b 0, ints c tk] O (Ret fun m O' => ∃ r, m = mb r ∧ (r = true ↔ Bad cls c) ∧ O.Ge O') := by
  have hfl : cls.flatten.length ≤ 1000 * 1000 := by
    have := flat_len (l := cls) (K := 1000) hlen
    exact Nat.le_trans this (Nat.mul_le_mul hcl (Nat.le_refl _))
  obtain ⟨bm, cs, mp, sh, s1, s2, hBs, hIn, hSh, rfl⟩ := hB
  have hb : ∀ {O' : VH}, O.Ge O' → O'.hp b = some (.cells [.sl cs.length (cs.map clM) s1, .map bm, .sl sh.length (sh.map mi) s2]) := fun hg => (hg.hp _ hBs.lb.2).trans hBs.hb
  have hm : ∀ {O' : VH}, O.Ge O' → O'.hp bm = some (mapI fV mp) := fun hg => (hg.hp _ hBs.lm.2).trans hBs.hm
  have hcs : cs.length ≤ 1000 := by simpa [rows] using hcl
  have hshl := hSh.len
  have hmem : ∀ {k : Nat} (h : k < cs.length), cs[k].1 ∈ rows cs := fun h => List.mem_map_of_mem (List.getElem_mem h)
  clear hBs
  have hyl : ∀ {p : Nat} {st : St}, Kn (rows cs) c p st → st.1.length ≤ c.length + (rows cs).flatten.length ∧ st.2.1.length ≤ 10000000 := fun {p st} h => by
    have h1 := h.y.len
    have h2 := congrArg List.length h.td
    rw [List.length_drop] at h2
    omega
  have hyR : ∀ {p : Nat} {st : St}, Kn (rows cs) c p st → ∀ n ∈ st.1, InR n := fun h => h.y.inR hcR hR
  have hT0 : TkS O (O.next + 1) O.next b ([], [], false) ((O.push (.map [] 0)).push (.cells [.ptr b 0, .map O.next, .sl 0 [] .nil, .v (.bool false)])) :=
    ⟨((VH.Ge.refl O).push _).push _, ⟨Nat.le_succ _, Nat.lt_succ_self _⟩, ⟨Nat.le_refl _, Nat.lt_succ_of_lt (Nat.lt_succ_self _)⟩, Nat.succ_ne_self _, ⟨.nil, VH.push_new (O.push _) _, trivial, .inl rfl⟩, (VH.push_old _ _ (Nat.lt_succ_self _)).trans (VH.push_new O _)⟩
  have hK0 : Kn (rows cs) c 0 ([], [], false) := ⟨Yes.nil, rfl, Nat.le_refl _, (fun h => by cases h), (fun _ n hn => by cases hn)⟩
  refine VF.enter' tabOk Try.func36 (c := _) rfl (Nat.le_of_ble_eq_true rfl) ?_
  rw [show Try.f36.ntmps = 106 from rfl]
  simp only [argEnv, Nat.zero_add, Nat.reduceAdd]
  repeat' first
    | with_reducible refine VC.seq' ?_
    | with_reducible refine VC.block' ?_
    | with_reducible refine VC.skip ?_
    | with_reducible refine VC.label ?_
    | with_reducible refine VC.scope ?_
    | with_reducible refine VC.exit ?_
    | with_reducible refine VC.ret ?_
    | with_reducible refine VL.nil ?_
    | ((first | with_reducible apply VC.plainL | with_reducible apply VC.readsL (by kernel_rfl) (by kernel_rfl) (by kernel_rfl)); (with_reducible apply VL.run tabOk); (· (simp (disch := omega) only [vset, wset, ints, bools, strs, undefM, Nat.reduceLT, Nat.reduceAdd, Nat.reduceBEq, Int.reduceToNat, bd68, vlen_sl ty22] <;> exact rfl)))
    | ((with_reducible apply VC.cond); (· (simp (disch := omega) only [vset, wset, ints, bools, strs, undefM, Nat.reduceLT, Nat.reduceAdd, Nat.reduceBEq, Int.reduceToNat, bd68, vlen_sl ty22] <;> exact rfl)); all_goals (intro hcond; try simp only [decide_eq_true_eq, decide_eq_false_iff_not, beq_iff_eq, beq_eq_false_iff_ne, bne_iff_ne, bne_eq_false_iff_eq, ne_eq, reduceCtorEq] at hcond))
    | simp only [qset, Nat.reduceEqDiff, reduceIte]
    | ((apply EndQ.ret1 rfl); (· (simp only [look_cons, Nat.reduceBEq, cond_true, cond_false] <;> exact rfl)))
    | ((apply EndQ.ret2 rfl); (· (simp only [look_cons, Nat.reduceBEq, cond_true, cond_false] <;> exact rfl)); (· (simp only [look_cons, Nat.reduceBEq, cond_true, cond_false] <;> exact rfl)))
    | (refine EndQ.ret0 rfl ?_)
    | (refine EndQ.nor0 rfl ?_)
  generalize O.next + 1 = bt at *
  generalize O.next = bY at *
  generalize (O.push (.map [] 0)).push (.cells [.ptr b 0, .map bY, .sl 0 [] .nil, .v (.bool false)]) = O1 at *
  apply VC.loopK [19] [0, 5, 17, 18] (ms := fun j : Nat => [mi j]) (I := fun j O' => j ≤ c.length ∧ ∃ st, TkS O bt bY b st O' ∧ Kn (rows cs) c 0 st ∧ ∀ n ∈ c.take j, n ≠ 0 → -n ∈ st.1) (μ := fun j => c.length - j) (s0 := 0)
  · (simp (disch := omega) only [vset, wset, ints, bools, strs, undefM, Nat.reduceLT, Nat.reduceAdd, Nat.reduceBEq, Int.reduceToNat, Int.natCast_zero, List.take_zero, List.map_nil, List.any_nil, Bool.or_false] <;> exact rfl)
  · (simp only [vset, wset, ints, bools, strs, undefM, Nat.reduceLT, Nat.reduceAdd, Nat.reduceBEq, Int.reduceToNat] <;> exact rfl)
  · exact ⟨by omega, _, hT0, hK0, by simp⟩
  clear hT0 hK0
  rintro j O2 ⟨hj, st, hT, hK, hb0⟩
  by_cases h2 : j < c.length
  · have hcr := hcR _ (List.getElem_mem h2)
    simp only [InR] at hcr
    by_cases h0 : c[j] = 0
    · have hq : (c[j] != 0) = false := bneI_f h0
      repeat' first
        | with_reducible refine VC.seq' ?_
        | with_reducible refine VC.block' ?_
        | with_reducible refine VC.skip ?_
        | with_reducible refine VC.label ?_
        | with_reducible refine VC.scope ?_
        | with_reducible refine VC.exit ?_
        | with_reducible refine VC.ret ?_
        | with_reducible refine VL.nil ?_
        | ((first | with_reducible apply VC.plainL | with_reducible apply VC.readsL (by kernel_rfl) (by kernel_rfl) (by kernel_rfl)); (with_reducible apply VL.run tabOk); (· (simp (disch := omega) only [vset, wset, ints, bools, strs, undefM, Nat.reduceLT, Nat.reduceAdd, Nat.reduceBEq, Int.reduceToNat, vix_sl ty22 ty3, vload_c ty3 rfl, hq] <;> exact rfl)))
        | ((with_reducible apply VC.cond); (· (simp (disch := omega) only [vset, wset, ints, bools, strs, undefM, Nat.reduceLT, Nat.reduceAdd, Nat.reduceBEq, Int.reduceToNat, vix_sl ty22 ty3, vload_c ty3 rfl, hq] <;> exact rfl)); all_goals (intro hcond; try simp only [decide_eq_true_eq, decide_eq_false_iff_not, beq_iff_eq, beq_eq_false_iff_ne, bne_iff_ne, bne_eq_false_iff_eq, ne_eq, reduceCtorEq] at hcond))
        | simp only [qset, Nat.reduceEqDiff, reduceIte]
        | ((apply EndQ.ret1 rfl); (· (simp only [look_cons, Nat.reduceBEq, cond_true, cond_false] <;> exact rfl)))
        | ((apply EndQ.ret2 rfl); (· (simp only [look_cons, Nat.reduceBEq, cond_true, cond_false] <;> exact rfl)); (· (simp only [look_cons, Nat.reduceBEq, cond_true, cond_false] <;> exact rfl)))
        | (refine EndQ.ret0 rfl ?_)
        | (refine EndQ.nor0 rfl ?_)
      refine ⟨?_, j + 1, ?_, ?_, by dsimp only; omega⟩
      · (simp only [vset, wset, ints, bools, strs, undefM, Nat.reduceLT, Nat.reduceAdd, Nat.reduceBEq, Int.reduceToNat] <;> exact rfl)
      · (simp (disch := omega) only [vset, wset, ints, bools, strs, undefM, Nat.reduceLT, Nat.reduceAdd, Nat.reduceBEq, Int.reduceToNat, Int.natCast_add, Int.cast_ofNat_Int] <;> first | done | exact rfl)
      refine ⟨by omega, st, hT, hK, fun n hn hn0 => ?_⟩
      rw [take_snoc _ _ h2, List.mem_append, List.mem_singleton] at hn
      rcases hn with hn | rfl
      · exact hb0 n hn hn0
      · exact absurd h0 hn0
    · have hq : (c[j] != 0) = true := bneI_t h0
      have hTa := take_v hT (-c[j]) (by simp only [InR]; omega) (hyl hK).2
      obtain ⟨k1, k2, k3⟩ := hK.take (n := -c[j]) (List.mem_append_left _ (List.mem_map_of_mem (List.getElem_mem h2))) (.base (List.getElem_mem h2) h0)
      repeat' first
        | with_reducible refine VC.seq' ?_
        | with_reducible refine VC.block' ?_
        | with_reducible refine VC.skip ?_
        | with_reducible refine VC.label ?_
        | with_reducible refine VC.scope ?_
        | with_reducible refine VC.exit ?_
        | with_reducible refine VC.ret ?_
        | with_reducible refine VL.nil ?_
        | ((first | with_reducible apply VC.plainL | with_reducible apply VC.readsL (by kernel_rfl) (by kernel_rfl) (by kernel_rfl)); (with_reducible apply VL.run tabOk); (· (simp (disch := omega) only [vset, wset, ints, bools, strs, undefM, Nat.reduceLT, Nat.reduceAdd, Nat.reduceBEq, Int.reduceToNat, vix_sl ty22 ty3, vload_c ty3 rfl, hq] <;> exact rfl)))
        | ((with_reducible apply VC.cond); (· (simp (disch := omega) only [vset, wset, ints, bools, strs, undefM, Nat.reduceLT, Nat.reduceAdd, Nat.reduceBEq, Int.reduceToNat, vix_sl ty22 ty3, vload_c ty3 rfl, hq] <;> exact rfl)); all_goals (intro hcond; try simp only [decide_eq_true_eq, decide_eq_false_iff_not, beq_iff_eq, beq_eq_false_iff_ne, bne_iff_ne, bne_eq_false_iff_eq, ne_eq, reduceCtorEq] at hcond))
        | simp only [qset, Nat.reduceEqDiff, reduceIte]
        | ((apply EndQ.ret1 rfl); (· (simp only [look_cons, Nat.reduceBEq, cond_true, cond_false] <;> exact rfl)))
        | ((apply EndQ.ret2 rfl); (· (simp only [look_cons, Nat.reduceBEq, cond_true, cond_false] <;> exact rfl)); (· (simp only [look_cons, Nat.reduceBEq, cond_true, cond_false] <;> exact rfl)))
        | (refine EndQ.ret0 rfl ?_)
        | (refine EndQ.nor0 rfl ?_)
      apply VL.callR (id := 40) (hE := Enters.of Try.func40 (by decide) (by decide)) (hR := hTa)
      · exact rfl
      · (simp (disch := omega) only [vset, wset, ints, bools, strs, undefM, Nat.reduceLT, Nat.reduceAdd, Nat.reduceBEq, Int.reduceToNat] <;> exact rfl)
      · (simp (disch := omega) only [vset, wset, ints, bools, strs, undefM, Nat.reduceLT, Nat.reduceAdd, Nat.reduceBEq, Int.reduceToNat] <;> exact rfl)
      · exact rfl
      · exact rfl
      rintro _ O3 ⟨rfl, hT3⟩
      apply VL.run tabOk
      · (simp (disch := omega) only [vset, wset, ints, bools, strs, undefM, Nat.reduceLT, Nat.reduceAdd, Nat.reduceBEq, Int.reduceToNat] <;> exact rfl)
      repeat' first
        | with_reducible refine VC.seq' ?_
        | with_reducible refine VC.block' ?_
        | with_reducible refine VC.skip ?_
        | with_reducible refine VC.label ?_
        | with_reducible refine VC.scope ?_
        | with_reducible refine VC.exit ?_
        | with_reducible refine VC.ret ?_
        | with_reducible refine VL.nil ?_
        | ((first | with_reducible apply VC.plainL | with_reducible apply VC.readsL (by kernel_rfl) (by kernel_rfl) (by kernel_rfl)); (with_reducible apply VL.run tabOk); (· (simp (disch := omega) only [vset, wset, ints, bools, strs, undefM, Nat.reduceLT, Nat.reduceAdd, Nat.reduceBEq, Int.reduceToNat] <;> exact rfl)))
        | ((with_reducible apply VC.cond); (· (simp (disch := omega) only [vset, wset, ints, bools, strs, undefM, Nat.reduceLT, Nat.reduceAdd, Nat.reduceBEq, Int.reduceToNat] <;> exact rfl)); all_goals (intro hcond; try simp only [decide_eq_true_eq, decide_eq_false_iff_not, beq_iff_eq, beq_eq_false_iff_ne, bne_iff_ne, bne_eq_false_iff_eq, ne_eq, reduceCtorEq] at hcond))
        | simp only [qset, Nat.reduceEqDiff, reduceIte]
        | ((apply EndQ.ret1 rfl); (· (simp only [look_cons, Nat.reduceBEq, cond_true, cond_false] <;> exact rfl)))
        | ((apply EndQ.ret2 rfl); (· (simp only [look_cons, Nat.reduceBEq, cond_true, cond_false] <;> exact rfl)); (· (simp only [look_cons, Nat.reduceBEq, cond_true, cond_false] <;> exact rfl)))
        | (refine EndQ.ret0 rfl ?_)
        | (refine EndQ.nor0 rfl ?_)
      refine ⟨?_, j + 1, ?_, ?_, by dsimp only; omega⟩
      · (simp only [vset, wset, ints, bools, strs, undefM, Nat.reduceLT, Nat.reduceAdd, Nat.reduceBEq, Int.reduceToNat] <;> exact rfl)
      · (simp (disch := omega) only [vset, wset, ints, bools, strs, undefM, Nat.reduceLT, Nat.reduceAdd, Nat.reduceBEq, Int.reduceToNat, Int.natCast_add, Int.cast_ofNat_Int] <;> first | done | exact rfl)
      refine ⟨by omega, takeS st (-c[j]), hT3, k1, fun n hn hn0 => ?_⟩
      rw [take_snoc _ _ h2, List.mem_append, List.mem_singleton] at hn
      rcases hn with hn | rfl
      · exact k2.mem (hb0 n hn hn0)
      · exact k3
  obtain rfl : j = c.length := by omega
  rw [List.take_length] at hb0
  clear h2 hj
  have hbO := hb hT.ge
  repeat' first
    | with_reducible refine VC.seq' ?_
    | with_reducible refine VC.block' ?_
    | with_reducible refine VC.skip ?_
    | with_reducible refine VC.label ?_
    | with_reducible refine VC.scope ?_
    | with_reducible refine VC.exit ?_
    | with_reducible refine VC.ret ?_
    | with_reducible refine VL.nil ?_
    | ((first | with_reducible apply VC.plainL | with_reducible apply VC.readsL (by kernel_rfl) (by kernel_rfl) (by kernel_rfl)); (with_reducible apply VL.run tabOk); (· (simp (disch := omega) only [vset, wset, ints, bools, strs, undefM, Nat.reduceLT, Nat.reduceAdd, Nat.reduceBEq, Int.reduceToNat, vnil_p, fa64_2, vload_p ty22 rfl hbO, vlen_sl ty22] <;> exact rfl)))
    | ((with_reducible apply VC.cond); (· (simp (disch := omega) only [vset, wset, ints, bools, strs, undefM, Nat.reduceLT, Nat.reduceAdd, Nat.reduceBEq, Int.reduceToNat, vnil_p, fa64_2, vload_p ty22 rfl hbO, vlen_sl ty22] <;> exact rfl)); all_goals (intro hcond; try simp only [decide_eq_true_eq, decide_eq_false_iff_not, beq_iff_eq, beq_eq_false_iff_ne, bne_iff_ne, bne_eq_false_iff_eq, ne_eq, reduceCtorEq] at hcond))
    | simp only [qset, Nat.reduceEqDiff, reduceIte]
    | ((apply EndQ.ret1 rfl); (· (simp only [look_cons, Nat.reduceBEq, cond_true, cond_false] <;> exact rfl)))
    | ((apply EndQ.ret2 rfl); (· (simp only [look_cons, Nat.reduceBEq, cond_true, cond_false] <;> exact rfl)); (· (simp only [look_cons, Nat.reduceBEq, cond_true, cond_false] <;> exact rfl)))
    | (refine EndQ.ret0 rfl ?_)
    | (refine EndQ.nor0 rfl ?_)
  clear hbO
  apply VC.loopK [35] [0, 5, 33, 34] (ms := fun j : Nat => [mi j]) (I := fun j O' => j ≤ sh.length ∧ ∃ st, TkS O bt bY b st O' ∧ Kn (rows cs) c 0 st ∧ (∀ n ∈ c, n ≠ 0 → -n ∈ st.1) ∧ (st.2.2 = false → ∀ k : Nat, (k : Int) ∈ sh.take j → Seen 0 st (cs.getD k ([], .nil)).1)) (μ := fun j => sh.length - j) (s0 := 0)
  · (simp (disch := omega) only [vset, wset, ints, bools, strs, undefM, Nat.reduceLT, Nat.reduceAdd, Nat.reduceBEq, Int.reduceToNat, Int.natCast_zero, List.take_zero, List.map_nil, List.any_nil, Bool.or_false] <;> exact rfl)
  · (simp only [vset, wset, ints, bools, strs, undefM, Nat.reduceLT, Nat.reduceAdd, Nat.reduceBEq, Int.reduceToNat] <;> exact rfl)
  · exact ⟨by omega, st, hT, hK, hb0, by simp⟩
  clear hT hK hb0 st
  rintro j O3 ⟨hj, st, hT, hK, hb0, hsn⟩
  by_cases h2 : j < sh.length
  · obtain ⟨k, hk, hik, hk2⟩ := (hSh.mem _).1 (List.getElem_mem h2)
    rw [getD_cs hk] at hk2
    have hcj : (cs.map clM)[k]? = some (clM cs[k]) := by rw [List.getElem?_map, List.getElem?_eq_getElem hk]; rfl
    have hbO := hb hT.ge
    have hL := look_v hT cs[k].1 cs[k].2 (by have := hlen _ (hmem hk); omega) (hR _ (hmem hk)) (hyl hK).2
    obtain ⟨k1, k2, k3⟩ := hK.look (hmem hk) (hnd _ (hmem hk)) (hz _ (hmem hk))
    repeat' first
      | with_reducible refine VC.seq' ?_
      | with_reducible refine VC.block' ?_
      | with_reducible refine VC.skip ?_
      | with_reducible refine VC.label ?_
      | with_reducible refine VC.scope ?_
      | with_reducible refine VC.exit ?_
      | with_reducible refine VC.ret ?_
      | with_reducible refine VL.nil ?_
      | ((first | with_reducible apply VC.plainL | with_reducible apply VC.readsL (by kernel_rfl) (by kernel_rfl) (by kernel_rfl)); (with_reducible apply VL.run tabOk); (· (simp (disch := omega) only [vset, wset, ints, bools, strs, undefM, Nat.reduceLT, Nat.reduceAdd, Nat.reduceBEq, Int.reduceToNat, vix_sl ty22 ty3, vload_c ty3 rfl, vnil_p, fa64_0, vload_p ty24 rfl hbO, hik, vix_sl ty24 ty22, vload_c ty22 rfl, hcj, clM] <;> exact rfl)))
      | ((with_reducible apply VC.cond); (· (simp (disch := omega) only [vset, wset, ints, bools, strs, undefM, Nat.reduceLT, Nat.reduceAdd, Nat.reduceBEq, Int.reduceToNat, vix_sl ty22 ty3, vload_c ty3 rfl, vnil_p, fa64_0, vload_p ty24 rfl hbO, hik, vix_sl ty24 ty22, vload_c ty22 rfl, hcj, clM] <;> exact rfl)); all_goals (intro hcond; try simp only [decide_eq_true_eq, decide_eq_false_iff_not, beq_iff_eq, beq_eq_false_iff_ne, bne_iff_ne, bne_eq_false_iff_eq, ne_eq, reduceCtorEq] at hcond))
      | simp only [qset, Nat.reduceEqDiff, reduceIte]
      | ((apply EndQ.ret1 rfl); (· (simp only [look_cons, Nat.reduceBEq, cond_true, cond_false] <;> exact rfl)))
      | ((apply EndQ.ret2 rfl); (· (simp only [look_cons, Nat.reduceBEq, cond_true, cond_false] <;> exact rfl)); (· (simp only [look_cons, Nat.reduceBEq, cond_true, cond_false] <;> exact rfl)))
      | (refine EndQ.ret0 rfl ?_)
      | (refine EndQ.nor0 rfl ?_)
    apply VL.callR (id := 41) (hE := Enters.of Try.func41 (by decide) (by decide)) (hR := hL)
    · exact rfl
    · (simp (disch := omega) only [vset, wset, ints, bools, strs, undefM, Nat.reduceLT, Nat.reduceAdd, Nat.reduceBEq, Int.reduceToNat] <;> exact rfl)
    · (simp (disch := omega) only [vset, wset, ints, bools, strs, undefM, Nat.reduceLT, Nat.reduceAdd, Nat.reduceBEq, Int.reduceToNat] <;> exact rfl)
    · exact rfl
    · exact rfl
    rintro _ O4 ⟨rfl, hT4⟩
    apply VL.run tabOk
    · (simp (disch := omega) only [vset, wset, ints, bools, strs, undefM, Nat.reduceLT, Nat.reduceAdd, Nat.reduceBEq, Int.reduceToNat] <;> exact rfl)
    repeat' first
      | with_reducible refine VC.seq' ?_
      | with_reducible refine VC.block' ?_
      | with_reducible refine VC.skip ?_
      | with_reducible refine VC.label ?_
      | with_reducible refine VC.scope ?_
      | with_reducible refine VC.exit ?_
      | with_reducible refine VC.ret ?_
      | with_reducible refine VL.nil ?_
      | ((first | with_reducible apply VC.plainL | with_reducible apply VC.readsL (by kernel_rfl) (by kernel_rfl) (by kernel_rfl)); (with_reducible apply VL.run tabOk); (· (simp (disch := omega) only [vset, wset, ints, bools, strs, undefM, Nat.reduceLT, Nat.reduceAdd, Nat.reduceBEq, Int.reduceToNat] <;> exact rfl)))
      | ((with_reducible apply VC.cond); (· (simp (disch := omega) only [vset, wset, ints, bools, strs, undefM, Nat.reduceLT, Nat.reduceAdd, Nat.reduceBEq, Int.reduceToNat] <;> exact rfl)); all_goals (intro hcond; try simp only [decide_eq_true_eq, decide_eq_false_iff_not, beq_iff_eq, beq_eq_false_iff_ne, bne_iff_ne, bne_eq_false_iff_eq, ne_eq, reduceCtorEq] at hcond))
      | simp only [qset, Nat.reduceEqDiff, reduceIte]
      | ((apply EndQ.ret1 rfl); (· (simp only [look_cons, Nat.reduceBEq, cond_true, cond_false] <;> exact rfl)))
      | ((apply EndQ.ret2 rfl); (· (simp only [look_cons, Nat.reduceBEq, cond_true, cond_false] <;> exact rfl)); (· (simp only [look_cons, Nat.reduceBEq, cond_true, cond_false] <;> exact rfl)))
      | (refine EndQ.ret0 rfl ?_)
      | (refine EndQ.nor0 rfl ?_)
    refine ⟨?_, j + 1, ?_, ?_, by dsimp only; omega⟩
    · (simp only [vset, wset, ints, bools, strs, undefM, Nat.reduceLT, Nat.reduceAdd, Nat.reduceBEq, Int.reduceToNat] <;> exact rfl)
    · (simp (disch := omega) only [vset, wset, ints, bools, strs, undefM, Nat.reduceLT, Nat.reduceAdd, Nat.reduceBEq, Int.reduceToNat, Int.natCast_add, Int.cast_ofNat_Int] <;> first | done | exact rfl)
    refine ⟨by omega, lookS st cs[k].1, hT4, k1, fun n hn hn0 => k2.mem (hb0 n hn hn0), fun hf k' hk' => ?_⟩
    rw [take_snoc _ _ h2, List.mem_append, List.mem_singleton] at hk'
    rcases hk' with hk' | hk'
    · exact (hsn (k2.bad hf) k' hk').ext k2 (Nat.zero_le _)
    · rw [hik] at hk'
      obtain rfl : k' = k := by omega
      rw [getD_cs hk]
      exact k3 hf
  obtain rfl : j = sh.length := by omega
  rw [List.take_length] at hsn
  clear h2 hj
  have hcl0 : st.2.2 = false → Cl (rows cs) 0 st := fun hf C hC => by
    obtain ⟨k, hk, rfl⟩ := List.mem_iff_getElem.1 hC
    have hk' : k < cs.length := by simpa [rows] using hk
    have hrk : (rows cs)[k] = cs[k].1 := by simp [rows]
    rw [hrk]
    by_cases h2 : cs[k].1.length < 2
    · have hs := hsn hf k ((hSh.mem _).2 ⟨k, hk', rfl, by rw [getD_cs hk']; exact h2⟩)
      rw [getD_cs hk'] at hs
      refine ⟨hs.1, fun x hx _ => ?_⟩
      rcases hs.2 with h3 | ⟨m1, a1, m2, a2, hne, _⟩
      · exact h3
      · exfalso
        match hcc : cs[k].1, h2 with
        | [], _ => rw [hcc] at a1; cases a1
        | [y], _ => rw [hcc, List.mem_singleton] at a1 a2; exact hne (a1.trans a2.symm)
    · refine ⟨fun e => by rw [e] at h2; simp at h2, fun x hx hall => ?_⟩
      exfalso
      have hn := hnd _ (hmem hk')
      match hcc : cs[k].1, h2 with
      | [], h2 => simp at h2
      | [y], h2 => simp at h2
      | y :: z :: r, _ =>
        rw [hcc] at hx hall hn
        by_cases e : y = x
        · have := hall z (by simp) (fun e2 => by subst e; subst e2; simp at hn)
          simp at this
        · have := hall y (by simp) e
          simp at this
  clear hsn
  repeat' first
    | with_reducible refine VC.seq' ?_
    | with_reducible refine VC.block' ?_
    | with_reducible refine VC.skip ?_
    | with_reducible refine VC.label ?_
    | with_reducible refine VC.scope ?_
    | with_reducible refine VC.exit ?_
    | with_reducible refine VC.ret ?_
    | with_reducible refine VL.nil ?_
    | ((first | with_reducible apply VC.plainL | with_reducible apply VC.readsL (by kernel_rfl) (by kernel_rfl) (by kernel_rfl)); (with_reducible apply VL.run tabOk); (· (simp (disch := omega) only [vset, wset, ints, bools, strs, undefM, Nat.reduceLT, Nat.reduceAdd, Nat.reduceBEq, Int.reduceToNat] <;> exact rfl)))
    | ((with_reducible apply VC.cond); (· (simp (disch := omega) only [vset, wset, ints, bools, strs, undefM, Nat.reduceLT, Nat.reduceAdd, Nat.reduceBEq, Int.reduceToNat] <;> exact rfl)); all_goals (intro hcond; try simp only [decide_eq_true_eq, decide_eq_false_iff_not, beq_iff_eq, beq_eq_false_iff_ne, bne_iff_ne, bne_eq_false_iff_eq, ne_eq, reduceCtorEq] at hcond))
    | simp only [qset, Nat.reduceEqDiff, reduceIte]
    | ((apply EndQ.ret1 rfl); (· (simp only [look_cons, Nat.reduceBEq, cond_true, cond_false] <;> exact rfl)))
    | ((apply EndQ.ret2 rfl); (· (simp only [look_cons, Nat.reduceBEq, cond_true, cond_false] <;> exact rfl)); (· (simp only [look_cons, Nat.reduceBEq, cond_true, cond_false] <;> exact rfl)))
    | (refine EndQ.ret0 rfl ?_)
    | (refine EndQ.nor0 rfl ?_)
  apply VC.loopK [] [0, 5] (ms := fun _ : Nat => []) (I := fun p O' => ∃ st, TkS O bt bY b st O' ∧ Kn (rows cs) c p st ∧ (∀ n ∈ c, n ≠ 0 → -n ∈ st.1) ∧ (st.2.2 = false → Cl (rows cs) p st)) (μ := fun p => c.length + (rows cs).flatten.length - p) (s0 := 0)
  · (simp (disch := omega) only [vset, wset, ints, bools, strs, undefM, Nat.reduceLT, Nat.reduceAdd, Nat.reduceBEq, Int.reduceToNat, Int.natCast_zero, List.take_zero, List.map_nil, List.any_nil, Bool.or_false] <;> exact rfl)
  · (simp only [vset, wset, ints, bools, strs, undefM, Nat.reduceLT, Nat.reduceAdd, Nat.reduceBEq, Int.reduceToNat] <;> exact rfl)
  · exact ⟨st, hT, hK, hb0, hcl0⟩
  clear hT hK hb0 hcl0 st
  rintro p O4 ⟨st, hT, hK, hb0, hcl⟩
  obtain ⟨s, ht, happ, hnn⟩ := hT.ht
  have hyl2 := hyl hK
  by_cases hemp : st.2.1 = []
  · have hp : p = st.1.length := by
      have h1 := congrArg List.length hK.td
      rw [hemp, List.length_drop] at h1
      have := hK.pl
      simp at h1; omega
    have hge := hT.ge
    have hiff : st.2.2 = true ↔ Bad (rows cs) c := by
      cases hf : st.2.2 with
      | true => exact ⟨fun _ => hK.bad hf, fun _ => rfl⟩
      | false => exact ⟨(fun h => by cases h), fun h => absurd h (hK.done hp hf hb0 (hcl hf) hz)⟩
    rw [hemp] at ht
    repeat' first
      | with_reducible refine VC.seq' ?_
      | with_reducible refine VC.block' ?_
      | with_reducible refine VC.skip ?_
      | with_reducible refine VC.label ?_
      | with_reducible refine VC.scope ?_
      | with_reducible refine VC.exit ?_
      | with_reducible refine VC.ret ?_
      | with_reducible refine VL.nil ?_
      | ((first | with_reducible apply VC.plainL | with_reducible apply VC.readsL (by kernel_rfl) (by kernel_rfl) (by kernel_rfl)); (with_reducible apply VL.run tabOk); (· (simp (disch := omega) only [vset, wset, ints, bools, strs, undefM, Nat.reduceLT, Nat.reduceAdd, Nat.reduceBEq, Int.reduceToNat, vnil_p, fa68_2, fa68_3, vload_p ty22 rfl ht, vload_p ty4 rfl ht, vlen_sl ty22, List.length_nil] <;> exact rfl)))
      | ((with_reducible apply VC.cond); (· (simp (disch := omega) only [vset, wset, ints, bools, strs, undefM, Nat.reduceLT, Nat.reduceAdd, Nat.reduceBEq, Int.reduceToNat, vnil_p, fa68_2, fa68_3, vload_p ty22 rfl ht, vload_p ty4 rfl ht, vlen_sl ty22, List.length_nil] <;> exact rfl)); all_goals (intro hcond; try simp only [decide_eq_true_eq, decide_eq_false_iff_not, beq_iff_eq, beq_eq_false_iff_ne, bne_iff_ne, bne_eq_false_iff_eq, ne_eq, reduceCtorEq] at hcond))
      | simp only [qset, Nat.reduceEqDiff, reduceIte]
      | ((apply EndQ.ret1 rfl); (· (simp only [look_cons, Nat.reduceBEq, cond_true, cond_false] <;> exact rfl)))
      | ((apply EndQ.ret2 rfl); (· (simp only [look_cons, Nat.reduceBEq, cond_true, cond_false] <;> exact rfl)); (· (simp only [look_cons, Nat.reduceBEq, cond_true, cond_false] <;> exact rfl)))
      | (refine EndQ.ret0 rfl ?_)
      | (refine EndQ.nor0 rfl ?_)
    exact ⟨_, rfl, hiff, hge⟩
  have hpos : 0 < st.2.1.length := List.length_pos_iff.2 hemp
  cases hf : st.2.2 with
  | true =>
    have hge := hT.ge
    have hiff : true = true ↔ Bad (rows cs) c := ⟨fun _ => hK.bad hf, fun _ => rfl⟩
    rw [hf] at ht
    repeat' first
      | with_reducible refine VC.seq' ?_
      | with_reducible refine VC.block' ?_
      | with_reducible refine VC.skip ?_
      | with_reducible refine VC.label ?_
      | with_reducible refine VC.scope ?_
      | with_reducible refine VC.exit ?_
      | with_reducible refine VC.ret ?_
      | with_reducible refine VL.nil ?_
      | ((first | with_reducible apply VC.plainL | with_reducible apply VC.readsL (by kernel_rfl) (by kernel_rfl) (by kernel_rfl)); (with_reducible apply VL.run tabOk); (· (simp (disch := omega) only [vset, wset, ints, bools, strs, undefM, Nat.reduceLT, Nat.reduceAdd, Nat.reduceBEq, Int.reduceToNat, vnil_p, fa68_2, fa68_3, vload_p ty22 rfl ht, vload_p ty4 rfl ht, vlen_sl ty22] <;> exact rfl)))
      | ((with_reducible apply VC.cond); (· (simp (disch := omega) only [vset, wset, ints, bools, strs, undefM, Nat.reduceLT, Nat.reduceAdd, Nat.reduceBEq, Int.reduceToNat, vnil_p, fa68_2, fa68_3, vload_p ty22 rfl ht, vload_p ty4 rfl ht, vlen_sl ty22] <;> exact rfl)); all_goals (intro hcond; try simp only [decide_eq_true_eq, decide_eq_false_iff_not, beq_iff_eq, beq_eq_false_iff_ne, bne_iff_ne, bne_eq_false_iff_eq, ne_eq, reduceCtorEq] at hcond))
      | simp only [qset, Nat.reduceEqDiff, reduceIte]
      | ((apply EndQ.ret1 rfl); (· (simp only [look_cons, Nat.reduceBEq, cond_true, cond_false] <;> exact rfl)))
      | ((apply EndQ.ret2 rfl); (· (simp only [look_cons, Nat.reduceBEq, cond_true, cond_false] <;> exact rfl)); (· (simp only [look_cons, Nat.reduceBEq, cond_true, cond_false] <;> exact rfl)))
      | (refine EndQ.ret0 rfl ?_)
      | (refine EndQ.nor0 rfl ?_)
    exact ⟨true, rfl, hiff, hge⟩
  | false =>
    have hpl : p < st.1.length := by
      have h1 := congrArg List.length hK.td
      rw [List.length_drop] at h1
      omega
    have h0e : st.2.1[0] = st.1[p] := by
      have : st.2.1[0]? = st.1[p]? := by rw [hK.td, List.getElem?_drop]; rfl
      rw [List.getElem?_eq_getElem hpos, List.getElem?_eq_getElem hpl] at this
      exact Option.some.inj this
    have hnR := hyR hK _ (List.getElem_mem hpl)
    have hsl := vslice_1 ty22 ty3 (cs := st.2.1.map mi) (n := st.2.1.length) (by simp) hpos s
    obtain ⟨hcut, hcutn⟩ := cut_app happ (hnn.resolve_left hemp)
    have hdl : st.2.1.drop 1 = st.1.drop (p + 1) := by rw [hK.td, List.drop_drop]
    rw [← List.map_drop] at hsl
    have hT5 : TkS O bt bY b (st.1, st.2.1.drop 1, false) (O4.set bt (.cells [.ptr b 0, .map bY, .sl (st.2.1.length - 1) ((st.2.1.drop 1).map mi) (cutTok s 1 true), .v (.bool false)])) := by
      refine ⟨hT.ge.set hT.lt.1 _, hT.lt, hT.lm, hT.ne, ⟨cutTok s 1 true, (upd_same _ _ _).trans (by rw [ints, List.length_drop]; rfl), ?_, .inr hcutn⟩, ?_⟩
      · revert hcut
        generalize cutTok s 1 true = s'
        intro hcut
        cases s' with
        | own t k => exact ⟨hcut.1, (VH.set_ne _ _ (fun e => by subst e; rw [hcut.2.1] at ht; cases ht)).trans hcut.2.1, hcut.2.2⟩
        | _ => exact hcut
      · rw [VH.set_ne _ _ (Ne.symm hT.ne)]; exact hT.hm
    have hK5 : Kn (rows cs) c (p + 1) (st.1, st.2.1.drop 1, false) := ⟨hK.y, hdl, hpl, fun h => (by cases h), fun _ => hK.con hf⟩
    rw [hf] at ht
    simp only [InR] at hnR
    rw [← h0e] at hnR
    have hbO5 := hb hT5.ge
    have hmO5 := look_vals (hm hT5.ge) (-st.2.1[0])
    have hlv := hIn.len (-st.2.1[0])
    repeat' first
      | with_reducible refine VC.seq' ?_
      | with_reducible refine VC.block' ?_
      | with_reducible refine VC.skip ?_
      | with_reducible refine VC.label ?_
      | with_reducible refine VC.scope ?_
      | with_reducible refine VC.exit ?_
      | with_reducible refine VC.ret ?_
      | with_reducible refine VL.nil ?_
      | ((first | with_reducible apply VC.plainL | with_reducible apply VC.readsL (by kernel_rfl) (by kernel_rfl) (by kernel_rfl)); (with_reducible apply VL.run tabOk); (· (simp (disch := omega) only [vset, wset, ints, bools, strs, undefM, Nat.reduceLT, Nat.reduceAdd, Nat.reduceBEq, Int.reduceToNat, vnil_p, fa68_2, fa68_3, vload_p ty22 rfl ht, vload_p ty4 rfl ht, vlen_sl ty22, vix_sl ty22 ty3, vload_c ty3 rfl, hsl, vstore_psl (off := 2) ty22 ht (by simp)] <;> exact rfl)))
      | ((with_reducible apply VC.cond); (· (simp (disch := omega) only [vset, wset, ints, bools, strs, undefM, Nat.reduceLT, Nat.reduceAdd, Nat.reduceBEq, Int.reduceToNat, vnil_p, fa68_2, fa68_3, vload_p ty22 rfl ht, vload_p ty4 rfl ht, vlen_sl ty22, vix_sl ty22 ty3, vload_c ty3 rfl, hsl, vstore_psl (off := 2) ty22 ht (by simp)] <;> exact rfl)); all_goals (intro hcond; try simp only [decide_eq_true_eq, decide_eq_false_iff_not, beq_iff_eq, beq_eq_false_iff_ne, bne_iff_ne, bne_eq_false_iff_eq, ne_eq, reduceCtorEq] at hcond))
      | simp only [qset, Nat.reduceEqDiff, reduceIte]
      | ((apply EndQ.ret1 rfl); (· (simp only [look_cons, Nat.reduceBEq, cond_true, cond_false] <;> exact rfl)))
      | ((apply EndQ.ret2 rfl); (· (simp only [look_cons, Nat.reduceBEq, cond_true, cond_false] <;> exact rfl)); (· (simp only [look_cons, Nat.reduceBEq, cond_true, cond_false] <;> exact rfl)))
      | (refine EndQ.ret0 rfl ?_)
      | (refine EndQ.nor0 rfl ?_)
    generalize O4.set bt (.cells [.ptr b 0, .map bY, .sl (st.2.1.length - 1) ((st.2.1.drop 1).map mi) (cutTok s 1 true), .v (.bool false)]) = O5 at *
    repeat' first
      | with_reducible refine VC.seq' ?_
      | with_reducible refine VC.block' ?_
      | with_reducible refine VC.skip ?_
      | with_reducible refine VC.label ?_
      | with_reducible refine VC.scope ?_
      | with_reducible refine VC.exit ?_
      | with_reducible refine VC.ret ?_
      | with_reducible refine VL.nil ?_
      | ((first | with_reducible apply VC.plainL | with_reducible apply VC.readsL (by kernel_rfl) (by kernel_rfl) (by kernel_rfl)); (with_reducible apply VL.run tabOk); (· (simp (disch := omega) only [vset, wset, ints, bools, strs, undefM, Nat.reduceLT, Nat.reduceAdd, Nat.reduceBEq, Int.reduceToNat, vnil_p, fa64_1, vload_p ty62 rfl hbO5, hmO5, vlen_sl ty22] <;> exact rfl)))
      | ((with_reducible apply VC.cond); (· (simp (disch := omega) only [vset, wset, ints, bools, strs, undefM, Nat.reduceLT, Nat.reduceAdd, Nat.reduceBEq, Int.reduceToNat, vnil_p, fa64_1, vload_p ty62 rfl hbO5, hmO5, vlen_sl ty22] <;> exact rfl)); all_goals (intro hcond; try simp only [decide_eq_true_eq, decide_eq_false_iff_not, beq_iff_eq, beq_eq_false_iff_ne, bne_iff_ne, bne_eq_false_iff_eq, ne_eq, reduceCtorEq] at hcond))
      | simp only [qset, Nat.reduceEqDiff, reduceIte]
      | ((apply EndQ.ret1 rfl); (· (simp only [look_cons, Nat.reduceBEq, cond_true, cond_false] <;> exact rfl)))
      | ((apply EndQ.ret2 rfl); (· (simp only [look_cons, Nat.reduceBEq, cond_true, cond_false] <;> exact rfl)); (· (simp only [look_cons, Nat.reduceBEq, cond_true, cond_false] <;> exact rfl)))
      | (refine EndQ.ret0 rfl ?_)
      | (refine EndQ.nor0 rfl ?_)
    clear hsl ht
    apply VC.loopK [84] [0, 5, 82, 83] (ms := fun j : Nat => [mi j]) (I := fun j O' => j ≤ (valsOf mp (-st.2.1[0])).1.length ∧ ∃ st2, TkS O bt bY b st2 O' ∧ Kn (rows cs) c (p + 1) st2 ∧ Ext (st.1, st.2.1.drop 1, false) st2 ∧ st2.2.2 = false ∧ ∀ k : Nat, (k : Int) ∈ (valsOf mp (-st.2.1[0])).1.take j → Seen (p + 1) st2 (cs.getD k ([], .nil)).1) (μ := fun j => (valsOf mp (-st.2.1[0])).1.length - j) (s0 := 0)
    · (simp (disch := omega) only [vset, wset, ints, bools, strs, undefM, Nat.reduceLT, Nat.reduceAdd, Nat.reduceBEq, Int.reduceToNat, Int.natCast_zero, List.take_zero, List.map_nil, List.any_nil, Bool.or_false] <;> exact rfl)
    · (simp only [vset, wset, ints, bools, strs, undefM, Nat.reduceLT, Nat.reduceAdd, Nat.reduceBEq, Int.reduceToNat] <;> exact rfl)
    · exact ⟨by omega, _, hT5, hK5, Ext.refl _, rfl, by simp⟩
    clear hT5 hK5 hbO5 hmO5
    rintro j O6 ⟨hj, st2, hT6, hK6, hE, hf6, hsn⟩
    by_cases h2 : j < (valsOf mp (-st.2.1[0])).1.length
    · obtain ⟨k, hk, hik, hk2⟩ := ((hIn.mem _ _).1 (List.getElem_mem h2)).resolve_right (fun h => h.1)
      have hcj : (cs.map clM)[k]? = some (clM cs[k]) := by rw [List.getElem?_map, List.getElem?_eq_getElem hk]; rfl
      have hbO := hb hT6.ge
      have hL := look_v hT6 cs[k].1 cs[k].2 (by have := hlen _ (hmem hk); omega) (hR _ (hmem hk)) (hyl hK6).2
      obtain ⟨k1, k2, k3⟩ := hK6.look (hmem hk) (hnd _ (hmem hk)) (hz _ (hmem hk))
      repeat' first
        | with_reducible refine VC.seq' ?_
        | with_reducible refine VC.block' ?_
        | with_reducible refine VC.skip ?_
        | with_reducible refine VC.label ?_
        | with_reducible refine VC.scope ?_
        | with_reducible refine VC.exit ?_
        | with_reducible refine VC.ret ?_
        | with_reducible refine VL.nil ?_
        | ((first | with_reducible apply VC.plainL | with_reducible apply VC.readsL (by kernel_rfl) (by kernel_rfl) (by kernel_rfl)); (with_reducible apply VL.run tabOk); (· (simp (disch := omega) only [vset, wset, ints, bools, strs, undefM, Nat.reduceLT, Nat.reduceAdd, Nat.reduceBEq, Int.reduceToNat, vix_sl ty22 ty3, vload_c ty3 rfl, vnil_p, fa64_0, vload_p ty24 rfl hbO, hik, vix_sl ty24 ty22, vload_c ty22 rfl, hcj, clM] <;> exact rfl)))
        | ((with_reducible apply VC.cond); (· (simp (disch := omega) only [vset, wset, ints, bools, strs, undefM, Nat.reduceLT, Nat.reduceAdd, Nat.reduceBEq, Int.reduceToNat, vix_sl ty22 ty3, vload_c ty3 rfl, vnil_p, fa64_0, vload_p ty24 rfl hbO, hik, vix_sl ty24 ty22, vload_c ty22 rfl, hcj, clM] <;> exact rfl)); all_goals (intro hcond; try simp only [decide_eq_true_eq, decide_eq_false_iff_not, beq_iff_eq, beq_eq_false_iff_ne, bne_iff_ne, bne_eq_false_iff_eq, ne_eq, reduceCtorEq] at hcond))
        | simp only [qset, Nat.reduceEqDiff, reduceIte]
        | ((apply EndQ.ret1 rfl); (· (simp only [look_cons, Nat.reduceBEq, cond_true, cond_false] <;> exact rfl)))
        | ((apply EndQ.ret2 rfl); (· (simp only [look_cons, Nat.reduceBEq, cond_true, cond_false] <;> exact rfl)); (· (simp only [look_cons, Nat.reduceBEq, cond_true, cond_false] <;> exact rfl)))
        | (refine EndQ.ret0 rfl ?_)
        | (refine EndQ.nor0 rfl ?_)
      apply VL.callR (id := 41) (hE := Enters.of Try.func41 (by decide) (by decide)) (hR := hL)
      · exact rfl
      · (simp (disch := omega) only [vset, wset, ints, bools, strs, undefM, Nat.reduceLT, Nat.reduceAdd, Nat.reduceBEq, Int.reduceToNat] <;> exact rfl)
      · (simp (disch := omega) only [vset, wset, ints, bools, strs, undefM, Nat.reduceLT, Nat.reduceAdd, Nat.reduceBEq, Int.reduceToNat] <;> exact rfl)
      · exact rfl
      · exact rfl
      rintro _ O7 ⟨rfl, hT7⟩
      apply VL.run tabOk
      · (simp (disch := omega) only [vset, wset, ints, bools, strs, undefM, Nat.reduceLT, Nat.reduceAdd, Nat.reduceBEq, Int.reduceToNat] <;> exact rfl)
      obtain ⟨s7, ht7, -, -⟩ := hT7.ht
      cases hf7 : (lookS st2 cs[k].1).2.2 with
      | true =>
        have hge := hT7.ge
        have hiff : true = true ↔ Bad (rows cs) c := ⟨fun _ => k1.bad hf7, fun _ => rfl⟩
        rw [hf7] at ht7
        repeat' first
          | with_reducible refine VC.seq' ?_
          | with_reducible refine VC.block' ?_
          | with_reducible refine VC.skip ?_
          | with_reducible refine VC.label ?_
          | with_reducible refine VC.scope ?_
          | with_reducible refine VC.exit ?_
          | with_reducible refine VC.ret ?_
          | with_reducible refine VL.nil ?_
          | ((first | with_reducible apply VC.plainL | with_reducible apply VC.readsL (by kernel_rfl) (by kernel_rfl) (by kernel_rfl)); (with_reducible apply VL.run tabOk); (· (simp (disch := omega) only [vset, wset, ints, bools, strs, undefM, Nat.reduceLT, Nat.reduceAdd, Nat.reduceBEq, Int.reduceToNat, vnil_p, fa68_3, vload_p ty4 rfl ht7] <;> exact rfl)))
          | ((with_reducible apply VC.cond); (· (simp (disch := omega) only [vset, wset, ints, bools, strs, undefM, Nat.reduceLT, Nat.reduceAdd, Nat.reduceBEq, Int.reduceToNat, vnil_p, fa68_3, vload_p ty4 rfl ht7] <;> exact rfl)); all_goals (intro hcond; try simp only [decide_eq_true_eq, decide_eq_false_iff_not, beq_iff_eq, beq_eq_false_iff_ne, bne_iff_ne, bne_eq_false_iff_eq, ne_eq, reduceCtorEq] at hcond))
          | simp only [qset, Nat.reduceEqDiff, reduceIte]
          | ((apply EndQ.ret1 rfl); (· (simp only [look_cons, Nat.reduceBEq, cond_true, cond_false] <;> exact rfl)))
          | ((apply EndQ.ret2 rfl); (· (simp only [look_cons, Nat.reduceBEq, cond_true, cond_false] <;> exact rfl)); (· (simp only [look_cons, Nat.reduceBEq, cond_true, cond_false] <;> exact rfl)))
          | (refine EndQ.ret0 rfl ?_)
          | (refine EndQ.nor0 rfl ?_)
        exact ⟨true, rfl, hiff, hge⟩
      | false =>
        rw [hf7] at ht7
        repeat' first
          | with_reducible refine VC.seq' ?_
          | with_reducible refine VC.block' ?_
          | with_reducible refine VC.skip ?_
          | with_reducible refine VC.label ?_
          | with_reducible refine VC.scope ?_
          | with_reducible refine VC.exit ?_
          | with_reducible refine VC.ret ?_
          | with_reducible refine VL.nil ?_
          | ((first | with_reducible apply VC.plainL | with_reducible apply VC.readsL (by kernel_rfl) (by kernel_rfl) (by kernel_rfl)); (with_reducible apply VL.run tabOk); (· (simp (disch := omega) only [vset, wset, ints, bools, strs, undefM, Nat.reduceLT, Nat.reduceAdd, Nat.reduceBEq, Int.reduceToNat, vnil_p, fa68_3, vload_p ty4 rfl ht7] <;> exact rfl)))
          | ((with_reducible apply VC.cond); (· (simp (disch := omega) only [vset, wset, ints, bools, strs, undefM, Nat.reduceLT, Nat.reduceAdd, Nat.reduceBEq, Int.reduceToNat, vnil_p, fa68_3, vload_p ty4 rfl ht7] <;> exact rfl)); all_goals (intro hcond; try simp only [decide_eq_true_eq, decide_eq_false_iff_not, beq_iff_eq, beq_eq_false_iff_ne, bne_iff_ne, bne_eq_false_iff_eq, ne_eq, reduceCtorEq] at hcond))
          | simp only [qset, Nat.reduceEqDiff, reduceIte]
          | ((apply EndQ.ret1 rfl); (· (simp only [look_cons, Nat.reduceBEq, cond_true, cond_false] <;> exact rfl)))
          | ((apply EndQ.ret2 rfl); (· (simp only [look_cons, Nat.reduceBEq, cond_true, cond_false] <;> exact rfl)); (· (simp only [look_cons, Nat.reduceBEq, cond_true, cond_false] <;> exact rfl)))
          | (refine EndQ.ret0 rfl ?_)
          | (refine EndQ.nor0 rfl ?_)
        refine ⟨?_, j + 1, ?_, ?_, by dsimp only; omega⟩
        · (simp only [vset, wset, ints, bools, strs, undefM, Nat.reduceLT, Nat.reduceAdd, Nat.reduceBEq, Int.reduceToNat] <;> exact rfl)
        · (simp (disch := omega) only [vset, wset, ints, bools, strs, undefM, Nat.reduceLT, Nat.reduceAdd, Nat.reduceBEq, Int.reduceToNat, Int.natCast_add, Int.cast_ofNat_Int] <;> first | done | exact rfl)
        refine ⟨by omega, lookS st2 cs[k].1, hT7, k1, hE.trans k2, hf7, fun k' hk' => ?_⟩
        rw [take_snoc _ _ h2, List.mem_append, List.mem_singleton] at hk'
        rcases hk' with hk' | hk'
        · exact (hsn k' hk').ext k2 hK6.pl
        · rw [hik] at hk'
          obtain rfl : k' = k := by omega
          rw [getD_cs hk]
          exact k3 hf7
    · rw [List.take_of_length_le (by omega)] at hsn
      have hcl6 : Cl (rows cs) (p + 1) st2 := by
        have hpre := hE.take (p := p) (by show p ≤ st.1.length; omega)
        have hpre2 := hE.take (p := p + 1) hpl
        have h7 : Cl (rows cs) p st2 := (hcl hf).ext ⟨hE.pre, fun _ => hf⟩ (by omega)
        refine h7.next (n := st.2.1[0]) ?_ fun C hC hnC => ?_
        · rw [hpre2, hpre, h0e]; exact take_snoc _ _ hpl
        · obtain ⟨k, hk, rfl⟩ := List.mem_iff_getElem.1 hC
          have hk' : k < cs.length := by simpa [rows] using hk
          have hrk : (rows cs)[k] = cs[k].1 := by simp [rows]
          rw [hrk] at hnC ⊢
          have := hsn k ((hIn.mem _ _).2 (.inl ⟨k, hk', rfl, by rw [getD_cs hk']; exact hnC⟩))
          rwa [getD_cs hk'] at this
      repeat' first
        | with_reducible refine VC.seq' ?_
        | with_reducible refine VC.block' ?_
        | with_reducible refine VC.skip ?_
        | with_reducible refine VC.label ?_
        | with_reducible refine VC.scope ?_
        | with_reducible refine VC.exit ?_
        | with_reducible refine VC.ret ?_
        | with_reducible refine VL.nil ?_
        | ((first | with_reducible apply VC.plainL | with_reducible apply VC.readsL (by kernel_rfl) (by kernel_rfl) (by kernel_rfl)); (with_reducible apply VL.run tabOk); (· (simp (disch := omega) only [vset, wset, ints, bools, strs, undefM, Nat.reduceLT, Nat.reduceAdd, Nat.reduceBEq, Int.reduceToNat] <;> exact rfl)))
        | ((with_reducible apply VC.cond); (· (simp (disch := omega) only [vset, wset, ints, bools, strs, undefM, Nat.reduceLT, Nat.reduceAdd, Nat.reduceBEq, Int.reduceToNat] <;> exact rfl)); all_goals (intro hcond; try simp only [decide_eq_true_eq, decide_eq_false_iff_not, beq_iff_eq, beq_eq_false_iff_ne, bne_iff_ne, bne_eq_false_iff_eq, ne_eq, reduceCtorEq] at hcond))
        | simp only [qset, Nat.reduceEqDiff, reduceIte]
        | ((apply EndQ.ret1 rfl); (· (simp only [look_cons, Nat.reduceBEq, cond_true, cond_false] <;> exact rfl)))
        | ((apply EndQ.ret2 rfl); (· (simp only [look_cons, Nat.reduceBEq, cond_true, cond_false] <;> exact rfl)); (· (simp only [look_cons, Nat.reduceBEq, cond_true, cond_false] <;> exact rfl)))
        | (refine EndQ.ret0 rfl ?_)
        | (refine EndQ.nor0 rfl ?_)
      refine ⟨?_, p + 1, ?_, ⟨st2, hT6, hK6, fun n hn hn0 => hE.mem (hb0 n hn hn0), fun _ => hcl6⟩, by dsimp only; omega⟩
      · (simp only [vset, wset, ints, bools, strs, undefM, Nat.reduceLT, Nat.reduceAdd, Nat.reduceBEq, Int.reduceToNat] <;> exact rfl)
      · (simp only [vset, wset, ints, bools, strs, undefM, Nat.reduceLT, Nat.reduceAdd, Nat.reduceBEq, Int.reduceToNat] <;> exact rfl)

/-- proof.Follows -/
theorem Follows_v (cl : List Vs) (c : List Int) (tk tk2 : Tok) (O : VH) (hn : cl.length ≤ 1000) (hl : ∀ C ∈ cl, C.1.length ≤ 1000) (hcl : c.length ≤ 1000) (hC : ∀ C ∈ cl, ∀ n ∈ C.1, InR n) (hc : ∀ n ∈ c, InR n) :
    VF Try.prog 25 [.sl cl.length (cl.map clM) tk, ints c tk2] O (Ret fun m O' => ∃ r, m = mb r ∧ (r = true ↔ Bad (rows cl) c) ∧ O.Ge O') := by
  have hbad := bad_dd (rows cl) c
  have hrl : ((rows cl).map (lf [])).length ≤ 1000 := by simpa [rows] using hn
  refine VF.enter' tabOk Try.func25 (c := _) rfl (Nat.le_of_ble_eq_true rfl) ?_
  rw [show Try.f25.ntmps = 9 from rfl]
  simp only [argEnv, Nat.zero_add, Nat.reduceAdd]
  repeat' first
    | with_reducible refine VC.seq' ?_
    | with_reducible refine VC.block' ?_
    | with_reducible refine VC.skip ?_
    | with_reducible refine VC.label ?_
    | with_reducible refine VC.scope ?_
    | with_reducible refine VC.exit ?_
    | with_reducible refine VC.ret ?_
    | with_reducible refine VL.nil ?_
    | ((first | with_reducible apply VC.plainL | with_reducible apply VC.readsL (by kernel_rfl) (by kernel_rfl) (by kernel_rfl)); (with_reducible apply VL.run tabOk); (· (simp (disch := omega) only [vset, wset, ints, bools, strs, undefM, Nat.reduceLT, Nat.reduceAdd, Nat.reduceBEq, Int.reduceToNat] <;> exact rfl)))
    | ((with_reducible apply VC.cond); (· (simp (disch := omega) only [vset, wset, ints, bools, strs, undefM, Nat.reduceLT, Nat.reduceAdd, Nat.reduceBEq, Int.reduceToNat] <;> exact rfl)); all_goals (intro hcond; try simp only [decide_eq_true_eq, decide_eq_false_iff_not, beq_iff_eq, beq_eq_false_iff_ne, bne_iff_ne, bne_eq_false_iff_eq, ne_eq, reduceCtorEq] at hcond))
    | simp only [qset, Nat.reduceEqDiff, reduceIte]
    | ((apply EndQ.ret1 rfl); (· (simp only [look_cons, Nat.reduceBEq, cond_true, cond_false] <;> exact rfl)))
    | ((apply EndQ.ret2 rfl); (· (simp only [look_cons, Nat.reduceBEq, cond_true, cond_false] <;> exact rfl)); (· (simp only [look_cons, Nat.reduceBEq, cond_true, cond_false] <;> exact rfl)))
    | (refine EndQ.ret0 rfl ?_)
    | (refine EndQ.nor0 rfl ?_)
  apply VL.callR (id := 35) (hE := Enters.of Try.func35 (by decide) (by decide)) (hR := newBase_v cl tk O hn hl)
  · exact rfl
  · (simp (disch := omega) only [vset, wset, ints, bools, strs, undefM, Nat.reduceLT, Nat.reduceAdd, Nat.reduceBEq, Int.reduceToNat] <;> exact rfl)
  · (simp (disch := omega) only [vset, wset, ints, bools, strs, undefM, Nat.reduceLT, Nat.reduceAdd, Nat.reduceBEq, Int.reduceToNat] <;> exact rfl)
  · exact rfl
  · exact rfl
  rintro _ O2 ⟨b, rfl, hb, hB⟩
  apply VL.run tabOk
  · (simp (disch := omega) only [vset, wset, ints, bools, strs, undefM, Nat.reduceLT, Nat.reduceAdd, Nat.reduceBEq, Int.reduceToNat] <;> exact rfl)
  have hge : O.Ge O2 := by obtain ⟨_, _, _, _, _, _, h, _⟩ := hB; exact h.ge
  have hF := follows_v hB (dd_nodup _) (dd_ne _) (fun C hC' n hn' => by
    obtain ⟨D, hD, rfl⟩ := List.mem_map.1 hC'
    obtain ⟨y, hy, rfl⟩ := List.mem_map.1 hD
    exact hC y hy n ((mem_lf _).1 hn').1) (fun C hC' => by
    obtain ⟨D, hD, rfl⟩ := List.mem_map.1 hC'
    obtain ⟨y, hy, rfl⟩ := List.mem_map.1 hD
    exact Nat.le_trans (lf_len _ _) (hl y hy)) hrl c tk2 hcl hc
  apply VL.callR (id := 36) (hE := Enters.of Try.func36 (by decide) (by decide)) (hR := hF)
  · exact rfl
  · (simp (disch := omega) only [vset, wset, ints, bools, strs, undefM, Nat.reduceLT, Nat.reduceAdd, Nat.reduceBEq, Int.reduceToNat] <;> exact rfl)
  · (simp (disch := omega) only [vset, wset, ints, bools, strs, undefM, Nat.reduceLT, Nat.reduceAdd, Nat.reduceBEq, Int.reduceToNat] <;> exact rfl)
  · exact rfl
  · exact rfl
  rintro _ O3 ⟨r, rfl, hr, hge3⟩
  apply VL.run tabOk
  · (simp (disch := omega) only [vset, wset, ints, bools, strs, undefM, Nat.reduceLT, Nat.reduceAdd, Nat.reduceBEq, Int.reduceToNat] <;> exact rfl)
  repeat' first
    | with_reducible refine VC.seq' ?_
    | with_reducible refine VC.block' ?_
    | with_reducible refine VC.skip ?_
    | with_reducible refine VC.label ?_
    | with_reducible refine VC.scope ?_
    | with_reducible refine VC.exit ?_
    | with_reducible refine VC.ret ?_
    | with_reducible refine VL.nil ?_
    | ((first | with_reducible apply VC.plainL | with_reducible apply VC.readsL (by kernel_rfl) (by kernel_rfl) (by kernel_rfl)); (with_reducible apply VL.run tabOk); (· (simp (disch := omega) only [vset, wset, ints, bools, strs, undefM, Nat.reduceLT, Nat.reduceAdd, Nat.reduceBEq, Int.reduceToNat] <;> exact rfl)))
    | ((with_reducible apply VC.cond); (· (simp (disch := omega) only [vset, wset, ints, bools, strs, undefM, Nat.reduceLT, Nat.reduceAdd, Nat.reduceBEq, Int.reduceToNat] <;> exact rfl)); all_goals (intro hcond; try simp only [decide_eq_true_eq, decide_eq_false_iff_not, beq_iff_eq, beq_eq_false_iff_ne, bne_iff_ne, bne_eq_false_iff_eq, ne_eq, reduceCtorEq] at hcond))
    | simp only [qset, Nat.reduceEqDiff, reduceIte]
    | ((apply EndQ.ret1 rfl); (· (simp only [look_cons, Nat.reduceBEq, cond_true, cond_false] <;> exact rfl)))
    | ((apply EndQ.ret2 rfl); (· (simp only [look_cons, Nat.reduceBEq, cond_true, cond_false] <;> exact rfl)); (· (simp only [look_cons, Nat.reduceBEq, cond_true, cond_false] <;> exact rfl)))
    | (refine EndQ.ret0 rfl ?_)
    | (refine EndQ.nor0 rfl ?_)
  exact ⟨r, rfl, hr.trans hbad, hge.trans hge3⟩
end Go.Proofs.Ytcfoongiffpnlaa
