/-
  THE VALUE MACHINE, 6b: maps whose keys are numbers or texts.
-/
import Derived.Test.YtjbpnhmjnkolbaaDoorV6
import Derived.MapKept
set_option linter.unusedVariables false
set_option linter.unusedSimpArgs false
namespace Go.Proofs.YtjbpnhmjnkolbaaDoor
open Go.RowKit
open Go.MapKept (IsKey run_checkKey run_findKey run_setObj_map)

section
variable {G H : Gh} {n : Nat} {D : List Deferred} {e : Env} {a : Act} {P : Program} {tab : Tab} {O O' : VH} {w : World} {m m' : MV} {u v : Value}

theorem heap_put_other {w : World} {b j : Nat} (o : Obj) (h : j ≠ b) : ({ w with heap := w.heap.setIfInBounds b o } : World).heap[j]? = w.heap[j]? :=
  Array.getElem?_setIfInBounds_ne (Ne.symm h)
theorem heap_put_same {w : World} {b : Nat} {x : Obj} (o : Obj) (h : w.heap[b]? = some x) : ({ w with heap := w.heap.setIfInBounds b o } : World).heap[b]? = some o :=
  Array.getElem?_setIfInBounds_self_of_lt (lt_of_heap h)
theorem cell_put_other {w : World} {b : Nat} (o : Obj) {a : Addr} (h : a.block ≠ b) : ({ w with heap := w.heap.setIfInBounds b o } : World).cell? a = w.cell? a := by
  unfold World.cell?
  rw [heap_put_other o h]

abbrev MEs := List (MV × MV × Nat)
/-- How a map's entries stand. -/
structure MER (G : Gh) (es : MEs) (E : List MapEntry) : Prop where
  born : E.map (·.born) = es.map (·.2.2)
  key : VRs G (es.map (·.1)) (E.map (·.key))
  val : VRs G (es.map (·.2.1)) (E.map (·.val))
theorem MER.nil : MER G [] [] := ⟨rfl, VRs.nil, VRs.nil⟩
theorem MER.cons {x : MV × MV × Nat} {y : MapEntry} {es : MEs} {E : List MapEntry} (h1 : y.born = x.2.2) (h2 : VR G x.1 y.key) (h3 : VR G x.2.1 y.val) (h : MER G es E) : MER G (x :: es) (y :: E) :=
  ⟨by rw [List.map_cons, List.map_cons, h1, h.born], VRs.cons h2 h.key, VRs.cons h3 h.val⟩
theorem MER.inv_cons {x : MV × MV × Nat} {es : MEs} {E : List MapEntry} (h : MER G (x :: es) E) : ∃ y E', E = y :: E' ∧ y.born = x.2.2 ∧ VR G x.1 y.key ∧ VR G x.2.1 y.val ∧ MER G es E' := by
  cases E with
  | nil => have := h.born; simp at this
  | cons y E =>
    have h1 := h.born
    simp only [List.map_cons, List.cons.injEq] at h1
    exact ⟨y, E, rfl, h1.1, h.key.head, h.val.head, ⟨h1.2, h.key.tail, h.val.tail⟩⟩
theorem MER.inv_nil {E : List MapEntry} (h : MER G [] E) : E = [] := by
  cases E with
  | nil => rfl
  | cons y E => have := h.born; simp at this
theorem MER.append {es fs : MEs} {E F : List MapEntry} (h : MER G es E) (k : MER G fs F) : MER G (es ++ fs) (E ++ F) :=
  ⟨by simp [h.born, k.born], by simpa using VRs.append h.key k.key, by simpa using VRs.append h.val k.val⟩
theorem MER.mono (hl : G.Le H) {es : MEs} {E : List MapEntry} (h : MER G es E) : MER H es E := ⟨h.born, h.key.mono hl, h.val.mono hl⟩

theorem WR.setMap (h : WR G O w) {k b ck ck' : Nat} {es es' : MEs} {E' : Array MapEntry} {x : Obj} (hk : O.hp k = some (.map es ck)) (hp : G.phi k = some b) (hb : w.heap[b]? = some x) (hr : MER G es' E'.toList) :
    WR G (O.set k (.map es' ck')) { w with heap := w.heap.setIfInBounds b (.map E' ck') } := by
  have hne : ∀ j b', j ≠ k → O.hp j ≠ none → G.phi j = some b' → b' ≠ b := fun j b' hj lj hb' e => hj (h.inj j k b lj (by rw [hk]; simp) (e ▸ hb') hp)
  have hlv : ∀ j, upd O.hp k (some (.map es' ck')) j ≠ none → O.hp j ≠ none := fun j hn => by
    by_cases e : j = k
    · subst e; rw [hk]; simp
    · rwa [upd_other _ _ e] at hn
  have hsame := heap_put_same (.map E' ck') hb
  have hother : ∀ j, j ≠ b → ({ w with heap := w.heap.setIfInBounds b (.map E' ck') } : World).heap[j]? = w.heap[j]? := fun j hj => heap_put_other _ hj
  have hB := (h.plt k b hp).1
  have hnm : ∀ b' s, w.shape? b' = some s → b' ≠ b := fun b' s hs e => by
    subst e
    obtain ⟨b2, E, g1, g2, _⟩ := h.map k es ck hk
    rw [hp] at g1; injection g1 with g1; subst g1
    simp only [World.shape?, g2] at hs
    cases hs
  refine ⟨⟨h.base.os, h.base.tape, h.base.output, by simpa using h.base.size, fun j hj => ?_⟩, fun b' o u' hc' => ?_, fun j hj => ?_, fun j b' hj => ?_, fun j k' b' lj lk => h.inj j k' b' (hlv j lj) (hlv k' lk), fun j ds hj => ?_, fun j es2 ck2 hj => ?_, fun t ht => ?_, fun s t b' x y hs ht => ?_, h.shpOf id (upd_shape (by simp)) fun j b' s hj hs => shape_heap (fun x hx => by rw [hother _ (hnm b' s hs)]; exact hx) hs⟩
  · rw [hother j (by omega)]; exact h.base.block j hj
  · have hbb : b' ≠ b := fun e => by subst e; rw [(h.plt k b' hp).2.2 (by rw [hk]; simp) o] at hc'; cases hc'
    rw [cell_put_other _ (by exact hbb)]
    exact h.com b' o u' hc'
  · obtain ⟨d1, d2, d3⟩ := h.dom j hj
    refine ⟨d1, d2, ?_⟩
    show upd _ _ _ _ = _
    rw [upd_other _ _ (fun e => by subst e; rw [d3] at hk; cases hk)]; exact d3
  · obtain ⟨p1, p2, p3⟩ := h.plt j b' hj
    refine ⟨p1, by simpa using p2, fun hne => p3 ?_⟩
    have hne : upd O.hp k (some (.map es' ck')) j ≠ none := hne
    by_cases e : j = k
    · subst e; rw [hk]; simp
    · rwa [upd_other _ _ e] at hne
  · have hj : upd O.hp k (some (.map es' ck')) j = some (.cells ds) := hj
    by_cases e : j = k
    · subst e; rw [upd_same] at hj; cases hj
    · rw [upd_other _ _ e] at hj
      obtain ⟨b', C, T, d1, d2, d3⟩ := h.cells j ds hj
      exact ⟨b', C, T, d1, by rw [hother _ (hne j b' e (by rw [hj]; simp) d1)]; exact d2, d3⟩
  · have hj : upd O.hp k (some (.map es' ck')) j = some (.map es2 ck2) := hj
    by_cases e : j = k
    · subst e
      rw [upd_same] at hj
      injection hj with hj; injection hj with hj hj2; subst hj; subst hj2
      exact ⟨b, E', hp, hsame, hr.born, hr.key, hr.val⟩
    · rw [upd_other _ _ e] at hj
      obtain ⟨b', D, d1, d2, d3⟩ := h.map j es2 ck2 hj
      exact ⟨b', D, d1, by rw [hother _ (hne j b' e (by rw [hj]; simp) d1)]; exact d2, d3⟩
  · have ht : upd O.hp k (some (.map es' ck')) t = some .tok := ht
    have e : t ≠ k := fun e => by subst e; rw [upd_same] at ht; cases ht
    rw [upd_other _ _ e] at ht
    obtain ⟨b', f, k', r, D, T', d1, d2, d3, d4, d6, d7⟩ := h.tok t ht
    exact ⟨b', f, k', r, D, T', d1, d2, by rw [hother _ (fun e => d7 k (by rw [e]; exact hp))]; exact d3, d4, d6, d7⟩
  · have hs : upd O.hp k (some (.map es' ck')) s = some .tok := hs
    have ht : upd O.hp k (some (.map es' ck')) t = some .tok := ht
    have e : t ≠ k := fun e => by subst e; rw [upd_same] at ht; cases ht
    have e' : s ≠ k := fun e => by subst e; rw [upd_same] at hs; cases hs
    rw [upd_other _ _ e] at ht
    rw [upd_other _ _ e'] at hs
    exact h.tinj s t b' x y hs ht

/-- A new block that may be written: a map. -/
theorem WR.pushMap (h : WR G O w) : G.Le { G with phi := upd G.phi O.next (some w.heap.size) } ∧ WR { G with phi := upd G.phi O.next (some w.heap.size) } (O.push (.map [] 0)) (w.alloc (.map #[] 0)) := by
  have hle := Gh.Le.of_phi h.nextfree.1 w.heap.size
  have hg := h.grow (.map #[] 0)
  have hphi : ∀ k b, upd G.phi O.next (some w.heap.size) k = some b → (k = O.next ∧ b = w.heap.size) ∨ (k ≠ O.next ∧ G.phi k = some b) := fun k b hk => by
    by_cases e : k = O.next
    · subst e; rw [upd_same] at hk; injection hk with hk; exact .inl ⟨rfl, hk.symm⟩
    · rw [upd_other _ _ e] at hk; exact .inr ⟨e, hk⟩
  have hcomn : ∀ o, G.com w.heap.size o = none := h.com_size
  refine ⟨hle, hg.base, hg.com, fun k hk => ?_, fun k b hk => ?_, fun j k b lj lk hj hk => ?_, fun k ds hk => ?_, fun k es ck hk => ?_, fun t ht => ?_, fun s t b x y hs ht h1 h2 => ?_, h.shpOf hle.phi (upd_shape (by simp)) fun _ _ _ _ => shape_heap fun _ => heap_alloc_keep w _⟩
  · have hk : O.next + 1 ≤ k := hk
    obtain ⟨h1, h2, h3⟩ := h.dom k (by omega)
    exact ⟨by show upd _ _ _ _ = _; rw [upd_other _ _ (by omega)]; exact h1, h2, by show upd _ _ _ _ = _; rw [upd_other _ _ (by omega)]; exact h3⟩
  · rcases hphi k b hk with ⟨_, rfl⟩ | ⟨hk1, hk⟩
    · exact ⟨h.bsz, by simp, fun _ => hcomn⟩
    · obtain ⟨p1, p2, p3⟩ := hg.plt k b hk
      exact ⟨p1, p2, fun hne => p3 (by have hne : upd O.hp O.next (some (.map [] 0)) k ≠ none := hne; rwa [upd_other _ _ hk1] at hne)⟩
  · rcases hphi j b hj with ⟨rfl, rfl⟩ | ⟨hj1, hj⟩ <;> rcases hphi k _ hk with ⟨rfl, hb⟩ | ⟨hk1, hk⟩
    · rfl
    · have := (h.plt _ _ hk).2.1; omega
    · subst hb; have := (h.plt _ _ hj).2.1; omega
    · exact h.inj j k b (by have lj : upd O.hp O.next (some (.map [] 0)) j ≠ none := lj; rwa [upd_other _ _ hj1] at lj) (by have lk : upd O.hp O.next (some (.map [] 0)) k ≠ none := lk; rwa [upd_other _ _ hk1] at lk) hj hk
  · have hk : upd O.hp O.next (some (.map [] 0)) k = some (.cells ds) := hk
    by_cases e : k = O.next
    · subst e; rw [upd_same] at hk; cases hk
    · rw [upd_other _ _ e] at hk
      obtain ⟨b, C, T, h1, h2, h3⟩ := hg.cells k ds hk
      exact ⟨b, C, T, hle.phi h1, h2, h3.mono hle⟩
  · have hk : upd O.hp O.next (some (.map [] 0)) k = some (.map es ck) := hk
    by_cases e : k = O.next
    · subst e
      rw [upd_same] at hk
      injection hk with hk; injection hk with hk hk2; subst hk; subst hk2
      exact ⟨w.heap.size, #[], upd_same _ _ _, by rw [heap_alloc_eq, if_pos rfl], rfl, VRs.nil, VRs.nil⟩
    · rw [upd_other _ _ e] at hk
      obtain ⟨b, E, h1, h2, h3, h4, h5⟩ := hg.map k es ck hk
      exact ⟨b, E, hle.phi h1, h2, h3, h4.mono hle, h5.mono hle⟩
  · have ht : upd O.hp O.next (some (.map [] 0)) t = some .tok := ht
    by_cases e : t = O.next
    · subst e; rw [upd_same] at ht; cases ht
    · rw [upd_other _ _ e] at ht
      obtain ⟨b, f, k, r, D, T', h1, h2, h3, h4, h6, h7⟩ := hg.tok t ht
      obtain ⟨_, _, _, _, _, _, h1', _, h3', _⟩ := h.tok t ht
      refine ⟨b, f, k, r, D, T', h1, h2, h3, h4, h6, fun j hj => ?_⟩
      rcases hphi j b hj with ⟨_, rfl⟩ | ⟨_, hj⟩
      · rw [h1] at h1'; injection h1' with e1; injection e1 with e1 _; subst e1
        have := lt_of_heap h3'; omega
      · exact h7 j hj
  · have hs : upd O.hp O.next (some (.map [] 0)) s = some .tok := hs
    have ht : upd O.hp O.next (some (.map [] 0)) t = some .tok := ht
    have es : s ≠ O.next := fun e => by subst e; rw [upd_same] at hs; cases hs
    have et : t ≠ O.next := fun e => by subst e; rw [upd_same] at ht; cases ht
    rw [upd_other _ _ es] at hs
    rw [upd_other _ _ et] at ht
    exact h.tinj s t b x y hs ht h1 h2

theorem bytes_beq (a b : List UInt8) : ((⟨⟨a⟩⟩ : ByteArray) == ⟨⟨b⟩⟩) = (a == b) := by
  show ((⟨a⟩ : Array UInt8) == ⟨b⟩) = (a == b)
  rw [Bool.eq_iff_iff, beq_iff_eq, beq_iff_eq, Array.mk.injEq]
/-- Are two keys the same? -/
def sameM (d : TypeDesc) (x y : MV) : Option Bool :=
  match d, x, y with
  | .int _, .v (.int k a), .v (.int k' b) => if k = k' then some (a == b) else none
  | .string, .str a, .str b => some (a == b)
  | _, _, _ => none
theorem sameM_ok {d : TypeDesc} {x y : MV} {u v : Value} {b : Bool} (h : sameM d x y = some b) (hx : VR G x u) (hy : VR G y v) : Instr.sameNow d u v = some b ∧ (b = true → Instr.sameBits 10000 v u = true) := by
  unfold sameM at h
  split at h
  · split at h
    · rename_i he
      subst he
      injection h with h
      cases hx; cases hy
      refine ⟨by simp [Instr.sameNow, h], fun hb => ?_⟩
      rw [hb] at h
      have := eq_of_beq h
      subst this
      simp [Instr.sameBits]
    · cases h
  · injection h with h
    cases hx
    cases hy
    refine ⟨by rw [← h]; exact congrArg some (bytes_beq _ _), fun hb => ?_⟩
    rw [hb] at h
    have := eq_of_beq h
    subst this
    show ((_ : ByteArray) == _) = true
    rw [bytes_beq]; exact h
  · cases h
/-- The first entry of a key: its place, its value. -/
def vfind (d : TypeDesc) (k : MV) : MEs → Nat → Option (Option (Nat × MV))
  | [], _ => some none
  | e :: es, i => match sameM d k e.1 with
    | some true => some (some (i, e.2.1))
    | some false => vfind d k es (i + 1)
    | none => none
theorem vfind_ok {d : TypeDesc} {k : MV} {kv : Value} (hk : VR G k kv) : ∀ {es : MEs} {E : List MapEntry} {i : Nat} {r : Option (Nat × MV)}, vfind d k es i = some r → MER G es E →
    match r with
    | none => Instr.findNow d kv E i = some none
    | some (j, m) => ∃ v, Instr.findNow d kv E i = some (some (j, v)) ∧ VR G m v ∧ i ≤ j ∧ (E[j - i]?).map (fun e => Instr.sameBits 10000 e.key kv) = some true ∧ j - i < E.length
  | [], E, i, r, h, hr => by
    rw [hr.inv_nil]
    injection h with h; subst h
    rfl
  | x :: es, E, i, r, h, hr => by
    obtain ⟨y, E', rfl, h1, h2, h3, h4⟩ := hr.inv_cons
    rw [vfind] at h
    split at h
    · rename_i hs
      injection h with h; subst h
      obtain ⟨g1, g3⟩ := sameM_ok hs hk h2
      exact ⟨y.val, by simp [Instr.findNow, g1], h3, Nat.le_refl _, by simp [g3], by simp⟩
    · rename_i hs
      obtain ⟨g1, _⟩ := sameM_ok hs hk h2
      have ih := vfind_ok hk h h4
      cases r with
      | none => simp only [Instr.findNow, g1]; exact ih
      | some p =>
        obtain ⟨j, m⟩ := p
        obtain ⟨v, i1, i2, i3, i4, i5⟩ := ih
        refine ⟨v, by simp only [Instr.findNow, g1]; exact i1, i2, by omega, ?_, by simp; omega⟩
        rw [show j - i = (j - (i + 1)) + 1 by omega, List.getElem?_cons_succ]; exact i4
    · cases h
/-- Is the key one that we know? -/
def keyB (d : TypeDesc) (k : MV) : Bool :=
  match d, k with
  | .int k, .v (.int k' _) => decide (k' = k)
  | .string, .str _ => true
  | _, _ => false
theorem keyB_ok {d : TypeDesc} {k : MV} {kv : Value} (h : keyB d k = true) (hk : VR G k kv) : IsKey d kv := by
  unfold keyB at h
  split at h
  · cases hk; simpa [IsKey] using h
  · cases hk; simp [IsKey]
  · cases h

def vzeroM (i : TyI) : Option MV := if isAggB i.under then some (.agg i.zero) else i.zero[0]?
theorem run_zeroM {t : TypeId} {i : TyI} (h : TyOk P t i) (hm : vzeroM i = some m) : ∃ z, (∀ w, (zeroValue t).run P w = .ok z w) ∧ ∀ G, VR G m z := by
  obtain ⟨ti, z, h1, _, _, h4, h5, h6⟩ := h.info
  refine ⟨z, fun w => by simp [zeroValue, typeInfo, h1, h4], fun G => ?_⟩
  obtain ⟨w1, w2⟩ := h.whole ti z h1 h4
  have h6 := h6 G
  unfold vzeroM at hm
  split at hm
  · rename_i ha
    injection hm with hm; subst hm
    obtain ⟨cs, rfl⟩ := w1 ha
    exact VR.agg h6.1 h6.2
  · rename_i ha
    have ha : isAggB i.under = false := by simpa using ha
    rw [w2 ha] at h6
    obtain ⟨u, hu, hv⟩ := h6.get hm
    have : i.zero.length = 1 := by have := h6.1; simpa using this.symm
    have h0 : (0 : Nat) < 1 := by omega
    simp only [Array.toList, List.getElem?_cons_zero, Option.some.injEq] at hu
    subst hu
    exact hv

/-- A map's entries. -/
def mapOf (O : VH) : MV → Option MEs
  | .v (.map none) => some []
  | .map b => match O.hp b with
    | some (.map es _) => some es
    | _ => none
  | _ => none
def vlookup (tab : Tab) (O : VH) (t : TypeId) (x k : MV) (ok : Bool) : Option MV :=
  match (tab t).map TyI.under with
  | some (.map kt et) => match (tab kt).map TyI.under, tab et with
    | some kd, some te =>
      match keyB kd k, (mapOf O x).bind (vfind kd k · 0) with
      | true, some (some (_, m)) => some (if ok then .tuple [m, .v (.bool true)] else m)
      | true, some none => (vzeroM te).map fun z => if ok then .tuple [z, .v (.bool false)] else z
      | _, _ => none
    | _, _ => none
  | _ => none
theorem under_of2 (ht : TabOk P tab) {t : TypeId} {d : TypeDesc} (h : (tab t).map TyI.under = some d) : P.underlying t = some d := by
  obtain ⟨i, hi, hu⟩ := Option.map_eq_some_iff.1 h
  rw [← hu]; exact (ht t i hi).under
theorem vlookup_held (ht : TabOk P tab) (h : WR G O w) {t : TypeId} {x k : MV} {ok : Bool} {u kv : Value} (hv : vlookup tab O t x k ok = some m) (hx : VR G x u) (hk : VR G k kv) : ∃ r, VR G m r ∧ ∀ y, Sx G w y → (Instr.lookup t u kv ok).run P y = .ok r y := by
  unfold vlookup at hv
  split at hv
  · rename_i kt et hmt
    have hU := under_of2 ht hmt
    split at hv
    · rename_i kd te hkd hte
      have hK := under_of2 ht hkd
      have hrun : ∀ (es : MEs), mapOf O x = some es → ∃ E : Array MapEntry, MER G es E.toList ∧ ((u = .map none ∧ E = #[]) ∨ ∃ r ck, u = .map (some r) ∧ ∀ y, Sx G w y → y.heap[r]? = some (.map E ck)) := by
        intro es hes
        unfold mapOf at hes
        split at hes
        · injection hes with hes; subst hes
          cases hx
          exact ⟨#[], MER.nil, .inl ⟨rfl, rfl⟩⟩
        · rename_i b
          split at hes
          · rename_i es' ck hb
            injection hes with hes; subst hes
            cases hx with
            | map h1 =>
              obtain ⟨b', E, e1, e2, e3, e4, e5⟩ := h.map _ _ _ hb
              rw [h1] at e1; injection e1 with e1; subst e1
              exact ⟨E, ⟨e3, e4, e5⟩, .inr ⟨_, _, rfl, fun y hy => (hy.2 _ _ h1).trans e2⟩⟩
          · cases hes
        · cases hes
      split at hv
      · rename_i j m2 hkb hf
        injection hv with hv
        obtain ⟨es, h1, h2⟩ := Option.bind_eq_some_iff.1 hf
        obtain ⟨E, hE, hK2⟩ := hrun es h1
        obtain ⟨v, f1, f2, _⟩ := vfind_ok hk h2 hE
        have hkey := keyB_ok hkb hk
        refine ⟨if ok then .tuple #[v, .bool true] else v, ?_, fun y hy => ?_⟩
        rotate_left
        · rcases hK2 with ⟨rfl, rfl⟩ | ⟨r, ck, rfl, hb⟩
          · simp only [Instr.lookup, Sem.run_bind, run_underlying hU, Result.andThen_ok, run_checkKey hK hkey, run_findKey hK f1, Sem.run_pure]
          · simp only [Instr.lookup, Sem.run_bind, run_underlying hU, Result.andThen_ok, MapKept.run_getObj_map (hb y hy), run_checkKey hK hkey, run_findKey hK f1, Sem.run_pure]
        · subst hv
          cases ok
          · exact f2
          · exact VR.tuple (us := [v, .bool true]) rfl (VRs.cons f2 (VRs.cons (.v rfl) VRs.nil)).2
      · rename_i hkb hf
        obtain ⟨z, hz, hzm⟩ := Option.map_eq_some_iff.1 hv
        obtain ⟨es, h1, h2⟩ := Option.bind_eq_some_iff.1 hf
        obtain ⟨E, hE, hK2⟩ := hrun es h1
        have f1 := vfind_ok hk h2 hE
        have hkey := keyB_ok hkb hk
        obtain ⟨zv, z1, z2⟩ := run_zeroM (ht et te hte) hz
        refine ⟨if ok then .tuple #[zv, .bool false] else zv, ?_, fun y hy => ?_⟩
        rotate_left
        · rcases hK2 with ⟨rfl, rfl⟩ | ⟨r, ck, rfl, hb⟩
          · simp only [Instr.lookup, Sem.run_bind, run_underlying hU, Result.andThen_ok, run_checkKey hK hkey, run_findKey hK f1, Sem.run_pure, z1]
          · simp only [Instr.lookup, Sem.run_bind, run_underlying hU, Result.andThen_ok, MapKept.run_getObj_map (hb y hy), run_checkKey hK hkey, run_findKey hK f1, Sem.run_pure, z1]
        · subst hzm
          cases ok
          · exact z2 G
          · exact VR.tuple (us := [zv, .bool false]) rfl (VRs.cons (z2 G) (VRs.cons (.v rfl) VRs.nil)).2
      · cases hv
    · cases hv
  · cases hv

theorem vlookup_ok (ht : TabOk P tab) (h : WR G O w) {t : TypeId} {x k : MV} {ok : Bool} {u kv : Value} (hv : vlookup tab O t x k ok = some m) (hx : VR G x u) (hk : VR G k kv) : Here P (Instr.lookup t u kv ok) w G m := by
  obtain ⟨r, h1, h2⟩ := vlookup_held (P := P) ht h hv hx hk
  exact ⟨r, h2 w h.sx, h1⟩

def setAt (es : MEs) (i : Nat) (k v : MV) : MEs := es.modify i fun e => (k, v, e.2.2)
def vmapUpdate (tab : Tab) (O : VH) (t : TypeId) (x k y : MV) : Option VH :=
  match (tab t).map TyI.under, x with
  | some (.map kt _), .map b => match (tab kt).map TyI.under, O.hp b with
    | some kd, some (.map es ck) => match keyB kd k, vfind kd k es 0 with
      | true, some (some (i, _)) => some (O.set b (.map (setAt es i k y) ck))
      | true, some none => some (O.set b (.map (es ++ [(k, y, ck)]) (ck + 1)))
      | _, _ => none
    | _, _ => none
  | _, _ => none
theorem MER.modify {k y : MV} {kv yv : Value} (hk : VR G k kv) (hy : VR G y yv) : ∀ {es : MEs} {E : List MapEntry} (i : Nat), MER G es E → MER G (setAt es i k y) (E.modify i fun e => { e with key := kv, val := yv })
  | [], E, i, h => by rw [h.inv_nil]; simpa [setAt] using MER.nil
  | x :: es, E, i, h => by
    obtain ⟨z, E', rfl, h1, h2, h3, h4⟩ := h.inv_cons
    cases i with
    | zero => simp only [setAt, List.modify_zero_cons]; exact MER.cons h1 hk hy h4
    | succ i =>
      simp only [setAt, List.modify_succ_cons]
      exact MER.cons h1 h2 h3 (MER.modify hk hy i h4)
theorem vmapUpdate_ok (ht : TabOk P tab) (h : WR G O w) {t : TypeId} {x k y : MV} {u kv yv : Value} (hv : vmapUpdate tab O t x k y = some O') (hx : VR G x u) (hk : VR G k kv) (hy : VR G y yv) : GivesU P (Instr.mapUpdate t u kv yv) w G O' := by
  unfold vmapUpdate at hv
  split at hv
  · rename_i kt et b hmt
    have hU := under_of2 ht hmt
    split at hv
    · rename_i kd es ck hkd hb
      have hK := under_of2 ht hkd
      cases hx with
      | map h1 =>
        obtain ⟨b', E, e1, e2, e3, e4, e5⟩ := h.map _ _ _ hb
        rw [h1] at e1; injection e1 with e1; subst e1
        have hE : MER G es E.toList := ⟨e3, e4, e5⟩
        split at hv
        · rename_i i m hkb hf
          injection hv with hv; subst hv
          obtain ⟨v, f1, f2, f3, f4, f5⟩ := vfind_ok hk hf hE
          have hkey := keyB_ok hkb hk
          simp only [Nat.sub_zero] at f4 f5
          have hsz : i < E.size := by simpa using f5
          have hkk : Instr.sameBits 10000 (((E[i]?).map (·.key)).getD kv) kv = true := by
            rw [Array.getElem?_eq_getElem hsz]
            simp only [Array.getElem?_toList, Array.getElem?_eq_getElem hsz, Option.map_some, Option.some.injEq] at f4
            exact f4
          have hr : MER G (setAt es i k y) (E.modify i fun e => { e with key := kv, val := yv }).toList := by
            have := MER.modify hk hy i hE
            rwa [← Array.toList_modify] at this
          refine ⟨_, G, ?_, Gh.Le.refl G, h.setMap (ck' := ck) hb h1 e2 hr⟩
          simp only [Instr.mapUpdate, Sem.run_bind, run_underlying hU, Result.andThen_ok, MapKept.run_getObj_map e2, run_checkKey hK hkey, run_findKey hK f1]
          rw [Instr.keyThatStays, if_pos hkk]
          simp only [Sem.run_pure, Result.andThen_ok, run_setObj_map _ e2]
        · rename_i hkb hf
          injection hv with hv; subst hv
          have f1 := vfind_ok hk hf hE
          have hkey := keyB_ok hkb hk
          have hr : MER G (es ++ [(k, y, ck)]) (E.push { key := kv, val := yv, born := ck }).toList := by
            rw [Array.toList_push]
            exact hE.append (MER.cons rfl hk hy MER.nil)
          refine ⟨_, G, ?_, Gh.Le.refl G, h.setMap (ck' := ck + 1) hb h1 e2 hr⟩
          simp only [Instr.mapUpdate, Sem.run_bind, run_underlying hU, Result.andThen_ok, MapKept.run_getObj_map e2, run_checkKey hK hkey, run_findKey hK f1, run_setObj_map _ e2]
        · cases hv
    · cases hv
  · cases hv
theorem vmakeMap_ok (h : WR G O w) {t : TypeId} : Gives P (Instr.makeMap t none) w G (O.push (.map [] 0)) (.map O.next) := by
  obtain ⟨h1, h2⟩ := h.pushMap
  exact ⟨_, _, _, by simp [Instr.makeMap, newObj, Sem.run], h1, h2, .map (upd_same _ _ _), KeepB.alloc h _⟩
end
end Go.Proofs.YtjbpnhmjnkolbaaDoor
