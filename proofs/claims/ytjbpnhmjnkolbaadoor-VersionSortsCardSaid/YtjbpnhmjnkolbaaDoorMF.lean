/-
  Texts Vn Vp Vq Vr Br Bs Bt, one behind the other.
-/
import Derived.Test.YtjbpnhmjnkolbaaDoorME
import Derived.Recover
import Derived.WideLaws
import Derived.Laws.RangeString
import Derived.ProofKit
import Derived.OpenShut
/-
  THE VALUE MACHINE, 24: joins: where two ways meet, what holds is told anew; loads of plain values that come ahead of steps which leave what they read.
-/
set_option linter.unusedVariables false
set_option linter.unusedSimpArgs false
namespace Go.Proofs.YtjbpnhmjnkolbaaDoor
open Go.RowKit

section
variable {G H : Gh} {n : Sz} {D : List Deferred} {e : Env} {a : Act} {P : Program} {tab : Tab} {O O' B : VH} {w : World} {m m' : MV} {u v : Value} {ops : Array Oper} {Q : VQ} {md : Md} {c d : Code} {σ : Type}

/-! ### Joins -/
def JoinQ {σ : Type} (l : List Nat) (ms : σ → List MV) (I : σ → VH → Prop) (Q : VQ) : VQ := fun x e O => match x with
  | .normal => ∃ s, looks e l = some (ms s) ∧ I s O
  | x => Q x e O
theorem JoinQ_exit {l : List Nat} {ms : σ → List MV} {I : σ → VH → Prop} {i : Nat} : JoinQ l ms I Q (.exit i) e O = Q (.exit i) e O := rfl
theorem JoinQ_goto {l : List Nat} {ms : σ → List MV} {I : σ → VH → Prop} {i : Nat} : JoinQ l ms I Q (.goto i) e O = Q (.goto i) e O := rfl
theorem JoinQ_ret {l : List Nat} {ms : σ → List MV} {I : σ → VH → Prop} : JoinQ l ms I Q .ret e O = Q .ret e O := rfl
theorem JoinQ_panic {l : List Nat} {ms : σ → List MV} {I : σ → VH → Prop} : JoinQ l ms I Q (.panic m) e O = Q (.panic m) e O := rfl
theorem JoinQ.mk {l : List Nat} {ms : σ → List MV} {I : σ → VH → Prop} (s : σ) (h1 : looks e l = some (ms s)) (h2 : I s O) : JoinQ l ms I Q .normal e O := ⟨s, h1, h2⟩
/-- Where two ways meet: l, the slots that are known from there on. -/
theorem VC.join (ht : TabOk P tab) (l : List Nat) (ms : σ → List MV) (I : σ → VH → Prop) (h1 : VC P n D c e O (JoinQ l ms I Q)) (h2 : ∀ s O, I s O → WC P tab n D d (pairs l (ms s) []) O Q) : VC P n D (.seq c d) e O Q := by
  refine VC.seq (VC.mono ?_ h1)
  intro x e O h
  cases x with
  | normal =>
    obtain ⟨s, h3, h4⟩ := h
    exact VC.env (WC.sound ht (h2 s O h4)) (look_pairs (e0 := []) (fun t x h => by simp [look] at h) h3)
  | _ => exact h
theorem WC.join (ht : TabOk P tab) (l : List Nat) (ms : σ → List MV) (I : σ → VH → Prop) (h1 : WC P tab n D c e O (JoinQ l ms I Q)) (h2 : ∀ s O, I s O → VC P n D d (pairs l (ms s) []) O Q) : VC P n D (.seq c d) e O Q := by
  refine VC.seq (VC.mono ?_ (WC.sound ht h1))
  intro x e O h
  cases x with
  | normal =>
    obtain ⟨s, h3, h4⟩ := h
    exact VC.env (h2 s O h4) (look_pairs (e0 := []) (fun t x h => by simp [look] at h) h3)
  | _ => exact h
/-- The same, where what follows is told by name. -/
theorem VC.joinS {K : Env → VH → Prop} (l : List Nat) (ms : σ → List MV) (I : σ → VH → Prop) (h1 : VC P n D c e O (JoinQ l ms I Q)) (h2 : ∀ s O, I s O → K (pairs l (ms s) []) O) : VC P n D c e O (SeqW K Q) := by
  intro G a w hw hf
  refine wp_mono (h1 G a w hw hf) ?_
  rintro y a' w' ⟨x, e', O', H, g1, g2, g3, g4, g5⟩
  cases x with
  | normal =>
    obtain ⟨s, h3, h4⟩ := g5
    exact ⟨.normal, pairs l (ms s) [], O', H, g1, g2, g3.less (look_pairs (e0 := []) (fun t x h => by simp [look] at h) h3), g4, h2 s O' h4⟩
  | _ => exact ⟨_, e', O', H, g1, g2, g3, g4, g5⟩
/-! ### Piece by piece -/
def NextV (P : Program) (n : Sz) (D : List Deferred) (b : Code) (Q : VQ) : Env → VH → Prop := fun e O => VC P n D b e O Q
theorem NextV_eq {b : Code} : NextV P n D b Q e O = VC P n D b e O Q := rfl
/-- One piece by rewriting; then what follows. -/
theorem VC.seqV (ht : TabOk P tab) (h : WC P tab n D c e O (SeqW (NextV P n D d Q) Q)) : VC P n D (.seq c d) e O Q := by
  refine VC.seq (VC.mono ?_ (WC.sound ht h))
  intro x e O h
  cases x <;> exact h
theorem VC.seq0 (h : VC P n D c e O (SeqW (NextV P n D d Q) Q)) : VC P n D (.seq c d) e O Q := by
  refine VC.seq (VC.mono ?_ h)
  intro x e O h
  cases x <;> exact h
theorem VF.ofV (ht : TabOk P tab) {f : FuncId} {fn : Func} {c : Code} {args : List MV} {rs : List ResultVar} {R : VRes → VH → Prop} (hf : P.funcs[f]? = some fn) (hb : fn.body = some c) (hk : (⟨fn.ntmps, 0⟩ : Sz) = n) (hr : fn.results.toList = rs) (hn : args.length ≤ n.n)
    (h : VC P n [] c (argEnv 0 args) O (EndW tab rs R)) : VF P f args O R := by
  subst hk
  refine VF.enter ht hf hb hn (VC.mono ?_ h)
  intro x e O hx
  have key : RetW R O (vres tab e O rs) → ∃ m, vresults tab fn e O = some m ∧ R (.ret m) O := fun h => by
    unfold vresults
    rw [hr, ← vres_eq]
    generalize vres tab e O rs = z at h
    unfold RetW at h
    split at h
    · exact h.elim
    · exact ⟨_, rfl, h⟩
    · rename_i l hl
      refine ⟨.tuple l, ?_, h⟩
      match l, hl with
      | [], _ => rfl
      | [m], hl => exact absurd rfl (hl m)
      | _ :: _ :: _, _ => rfl
  cases x <;> first | exact key hx | exact hx
theorem VC.loopV {ks : List MV} (ls Ks : List Nat) (ms : σ → List MV) (I : σ → VH → Prop) (μ : σ → Nat) (s0 : σ) (h0 : looks e ls = some (ms s0)) (hk : looks e Ks = some ks) (hI : I s0 O)
    (step : ∀ s O, I s O → VC P n D c (pairs ls (ms s) (pairs Ks ks [])) O (RoundQ ls Ks ks ms I μ s Q)) : VC P n D (.loop c) e O Q := VC.loopK ls Ks ms I μ s0 h0 hk hI step
/-- Where a block's ends meet. -/
theorem VC.joinB {K : Env → VH → Prop} {id : Nat} (l : List Nat) (ms : σ → List MV) (I : σ → VH → Prop) (h1 : VC P n D c e O (BlockQ id (JoinQ l ms I Q))) (h2 : ∀ s O, I s O → K (pairs l (ms s) []) O) : VC P n D c e O (BlockQ id (SeqW K Q)) := by
  intro G a w hw hf
  refine wp_mono (h1 G a w hw hf) ?_
  rintro y a' w' ⟨x, e', O', H, g1, g2, g3, g4, g5⟩
  have nor : ∀ {x' : VX}, x' = .normal ∨ x' = .exit id → (∃ s, looks e' l = some (ms s) ∧ I s O') → FR H n D e' a' → XR H x' y → (∀ e O, K e O → BlockQ id (SeqW K Q) x' e O) → (∀ e, FR H n D e a' → FRX H n D x' e a') → VPost G n D (BlockQ id (SeqW K Q)) y a' w' := fun hx ⟨s, h3, h4⟩ hf' hy hK hF =>
    ⟨_, pairs l (ms s) [], O', H, g1, g2, hF _ (hf'.less (look_pairs (e0 := []) (fun t x h => by simp [look] at h) h3)), hy, hK _ _ (h2 s O' h4)⟩
  cases x with
  | normal => exact nor (.inl rfl) g5 g3 g4 (fun e O h => h) (fun e h => h)
  | exit i =>
    by_cases hi : i = id
    · subst hi
      simp only [BlockQ, if_true] at g5
      exact nor (.inr rfl) g5 g3 g4 (fun e O h => by simp only [BlockQ, if_true]; exact h) (fun e h => h)
    · refine ⟨.exit i, e', O', H, g1, g2, g3, g4, ?_⟩
      simp only [BlockQ, hi, if_false] at g5 ⊢
      exact g5
  | _ => exact ⟨_, e', O', H, g1, g2, g3, g4, g5⟩
/-! ### Loads ahead -/
/-- What is known exactly. -/
def ex1 : MV → Bool
  | .v _ => true
  | .str _ => true
  | _ => false
def exM : MV → Bool
  | .v _ => true
  | .str _ => true
  | .agg cs => cs.all ex1
  | _ => false
theorem ex1_any (h : ex1 m = true) (h1 : VR G m u) : VR H m u := by
  cases m with
  | v x => have := h1.v_inv; subst this; cases h1 with | v hp => exact .v hp
  | str l => cases h1; exact .str
  | _ => cases h
theorem ex1_det (h : ex1 m = true) (h1 : VR G m u) (h2 : VR H m v) : v = u := by
  cases m with
  | v x => rw [h1.v_inv, h2.v_inv]
  | str l => cases h1; cases h2; rfl
  | _ => cases h
theorem ex_any (h : exM m = true) (h1 : VR G m u) : VR H m u := by
  cases m with
  | v x => exact ex1_any (m := .v x) rfl h1
  | str l => exact ex1_any (m := .str l) rfl h1
  | agg cs =>
    cases h1 with
    | agg h2 h3 => exact .agg h2 fun i c u a b => ex1_any (List.all_eq_true.1 h c (List.mem_of_getElem? a)) (h3 i c u a b)
  | _ => cases h
theorem ex_det (h : exM m = true) (h1 : VR G m u) (h2 : VR H m v) : v = u := by
  cases m with
  | v x => exact ex1_det (m := .v x) rfl h1 h2
  | str l => exact ex1_det (m := .str l) rfl h1 h2
  | agg cs =>
    cases h1 with
    | agg h3 h4 =>
      cases h2 with
      | agg h5 h6 =>
        congr 2
        refine List.ext_getElem? fun i => ?_
        rename_i us vs
        rcases Nat.lt_or_ge i cs.length with hi | hi
        · have e1 := List.getElem?_eq_getElem (show i < us.length by omega)
          have e2 := List.getElem?_eq_getElem (show i < vs.length by omega)
          have e3 := List.getElem?_eq_getElem hi
          rw [e1, e2]
          congr 1
          exact ex1_det (List.all_eq_true.1 h _ (List.getElem_mem hi)) (h4 i _ _ e3 e1) (h6 i _ _ e3 e2)
        · rw [List.getElem?_eq_none (by omega), List.getElem?_eq_none (by omega)]
  | _ => cases h
/-- What J knows the world x holds. -/
def HoldB (G : Gh) (J : VH → Prop) (x : World) : Prop := ∃ H O', Gh.Le G H ∧ WR H O' x ∧ J O'
theorem HoldB.le {J : VH → Prop} (h : G.Le H) {x : World} (hb : HoldB H J x) : HoldB G J x := by
  obtain ⟨K, O', h1, h2, h3⟩ := hb
  exact ⟨K, O', h.trans h1, h2, h3⟩
theorem HoldB.ss {J : VH → Prop} {x : World} (h : HoldB G J x) : SS G x := by
  obtain ⟨K, O', h1, h2, _⟩ := h
  exact SS.le h1 h2.ss
def TE (brk : List Nat) (G : Gh) (J : VH → Prop) (j : Nat) (x : World) : Prop := SS G x ∧ (brk.contains j = false → HoldB G J x)
theorem TE.le {J : VH → Prop} {brk : List Nat} {j : Nat} {x : World} (h : G.Le H) (t : TE brk H J j x) : TE brk G J j x := ⟨SS.le h t.1, fun k => (t.2 k).le h⟩
theorem TE.mk {J : VH → Prop} {brk : List Nat} {j : Nat} {x : World} (h : HoldB G J x) : TE brk G J j x := ⟨h.ss, fun _ => h⟩
/-- Whatever order is drawn from here on, while loads of what J knows have come ahead of their places. -/
def VAnyE (P : Program) (n : Sz) (D : List Deferred) (ops : Array Oper) (brk : List Nat) (J : VH → Prop) (Ψ : Gh → Prop) (Z : Prop) (fuel : Nat) (listed : Array Bool) (e : Env) (O : VH) (Q : VQ) : Prop :=
  (∀ G H, Gh.Le G H → Ψ G → Ψ H) → Z → J O → ∀ G a w, Ψ G → WR G O w → FR G n D e a → wpAnyT P .any ops (VPost G n D Q) (TE brk G J) fuel listed a w
theorem VC.drawE {id : Nat} (brk : List Nat) (hm : P.follows .mixedOrders = true) (h : VAnyE P n D ops brk (fun O' => O.Ge O') (fun _ => True) (∀ k, O.next ≤ k → O.hp k = none) ops.size (Array.replicate ops.size false) e O Q) : VC P n D (.region id ops true) e O Q :=
  fun G a w hw hf => wp_region_any hm (wpAny_of_T _ _ _ _ (h (fun _ _ _ _ => trivial) (fun k hk => (hw.dom k hk).2.2) (VH.Ge.refl O) G a _ trivial (hw.drawn _) hf))
theorem VAnyE.take {J : VH → Prop} {Z : Prop} {brk : List Nat} {Ψ : Gh → Prop} {fuel i : Nat} {listed : Array Bool} {o : Oper} (ho : ops[i]? = some o) (hs : Region.noSelect ops = true) (hf : Region.free .any ops listed i = true) (hr : (Region.ready .any ops listed).contains i = true) (hb : waitB ops brk listed i = true)
    (hd : dstB n o.dst = true) (hy : ∀ G a w, Z → J O → Ψ G → WR G O w → FR G n D e a → ∃ u, VR G m u ∧ YieldsIf P ops (HoldB G J) o u a) (h : VAnyE P n D ops brk J Ψ Z fuel (listed.setIfInBounds i true) (putM o.dst m e) O Q) : VAnyE P n D ops brk J Ψ Z (fuel + 1) listed e O Q := by
  intro hΨ hZ hJ G a w hψ hw hfr
  obtain ⟨u, hu, hyi⟩ := hy G a w hZ hJ hψ hw hfr
  refine wpAnyT_first (S := HoldB G J) (W := fun j => ∃ k, j ∈ waitsF ops listed i k) (brk := fun j => brk.contains j) ho (Region.noSelect_spec hs) (panic_put hd) (fun j x hj hT => hT.2 hj) (fun x hx => TE.mk hx) fuel listed a w (Region.free_spec ho hf) waits_edge waits_un (waitB_ok hb) (by simpa using hr) hyi ⟨G, O, Gh.Le.refl G, hw, hJ⟩ (h hΨ hZ hJ G _ w hψ hw (hfr.putM hd hu))
/-- A step that is silent. -/
theorem VAnyE.sil (ht : TabOk P tab) (i : Nat) {brk : List Nat} {Ψ : Gh → Prop} {J : VH → Prop} {Z : Prop} {fuel : Nat} {listed : Array Bool} {l : List Oper} {o : Oper} (ho : l[i]? = some o) (hs : Region.noSelect ⟨l⟩ = true) (hf : Region.free .any ⟨l⟩ listed i = true) (hr : (Region.ready .any ⟨l⟩ listed).contains i = true) (hb : waitB ⟨l⟩ brk listed i = true)
    (hg : vguard ⟨l⟩ o e = some true) (hd : dstB n o.dst = true) (h : PreK (fun m O' => VAnyE P n D ⟨l⟩ brk J Ψ Z fuel (listed.setIfInBounds i true) (putM o.dst m e) O' Q) (vopF tab .sil o e O)) : VAnyE P n D ⟨l⟩ brk J Ψ Z (fuel + 1) listed e O Q := by
  generalize hv : vopF tab .sil o e O = v at h
  cases v with
  | none => exact h.elim
  | some p =>
    obtain ⟨m, O'⟩ := p
    obtain ⟨h1, rfl⟩ := vopS_sil hv
    refine VAnyE.take (by simpa using ho) hs hf hr hb hd (fun G a w _ _ _ hw hfr => ?_) h
    obtain ⟨u, hu, hrun⟩ := vsil_ok (P := P) ht hfr h1
    exact ⟨u, hu, .inl ⟨vguard_ok hfr hg, fun x hx => by
      obtain ⟨H, O2, h2, h3, _⟩ := hx
      exact hrun x (SS.le h2 h3.ss)⟩⟩
theorem VAnyE.skip (i : Nat) {brk : List Nat} {Ψ : Gh → Prop} {J : VH → Prop} {Z : Prop} {fuel : Nat} {listed : Array Bool} {l : List Oper} {o : Oper} (ho : l[i]? = some o) (hs : Region.noSelect ⟨l⟩ = true) (hf : Region.free .any ⟨l⟩ listed i = true) (hr : (Region.ready .any ⟨l⟩ listed).contains i = true) (hb : waitB ⟨l⟩ brk listed i = true)
    (hg : vguard ⟨l⟩ o e = some false) (hd : dstB n o.dst = true) (h : VAnyE P n D ⟨l⟩ brk J Ψ Z fuel (listed.setIfInBounds i true) (putM o.dst undefM e) O Q) : VAnyE P n D ⟨l⟩ brk J Ψ Z (fuel + 1) listed e O Q :=
  VAnyE.take (by simpa using ho) hs hf hr hb hd (fun G a w _ _ _ hw hfr => ⟨undef, undef_ok, .inr ⟨vguard_ok hfr hg, rfl⟩⟩) h
theorem vload_B {t : TypeId} {p : MV} (hB : B.Ge O) (hN : ∀ k, B.next ≤ k → B.hp k = none) (h : vload tab B t p = some m) : vload tab O t p = some m := by
  unfold vload at h ⊢
  have : ∀ {cs off}, cellsOf B p = some (cs, off) → cellsOf O p = some (cs, off) := fun {cs off} hc => by
    unfold cellsOf at hc ⊢
    split at hc
    · split at hc
      · rename_i hk
        have hlt := Nat.lt_of_not_le fun hle => by rw [hN _ hle] at hk; cases hk
        rw [hB.hp _ hlt, hk]; exact hc
      · cases hc
    · exact hc
    · cases hc
  split at h
  · rename_i i cs off hi hc
    rw [this hc, hi]
    exact h
  · cases h
/-- A load of what is known exactly. -/
theorem VAnyE.ld (ht : TabOk P tab) (i : Nat) {Ψ : Gh → Prop} {brk : List Nat} {fuel : Nat} {listed : Array Bool} {l : List Oper} {d : Option Tmp} {t : TypeId} {x : Operand} {ty : TypeId} {ps : String} {af : Array Edge} {g : Option (Nat × Bool)} {p : MV} (ho : l[i]? = some (.mk d (.load t x) ty ps af g)) (hs : Region.noSelect ⟨l⟩ = true) (hf : Region.free .any ⟨l⟩ listed i = true) (hr : (Region.ready .any ⟨l⟩ listed).contains i = true) (hb : waitB ⟨l⟩ brk listed i = true)
    (hg : vguard ⟨l⟩ (.mk d (.load t x) ty ps af g) e = some true) (hd : dstB n d = true) (hx : ev e x = some p) (hv : vload tab B t p = some m) (hm : exM m = true) (h : VAnyE P n D ⟨l⟩ brk (fun O' => B.Ge O') Ψ (∀ k, B.next ≤ k → B.hp k = none) fuel (listed.setIfInBounds i true) (putM d m e) O Q) : VAnyE P n D ⟨l⟩ brk (fun O' => B.Ge O') Ψ (∀ k, B.next ≤ k → B.hp k = none) (fuel + 1) listed e O Q := by
  refine VAnyE.take (o := .mk d (.load t x) ty ps af g) (by simpa using ho) hs hf hr hb hd (fun G a w hN hB _ hw hfr => ?_) h
  obtain ⟨u, w', K, hrun, h1, h2, h3, _⟩ := vload_ok (P := P) ht hw (vload_B hB hN hv) (hfr.ev hx)
  obtain ⟨u0, hu0⟩ : ∃ u0, VR G m u0 := ⟨u, ex_any hm h3⟩
  refine ⟨u0, hu0, .inl ⟨vguard_ok hfr hg, fun y hy => ?_⟩⟩
  obtain ⟨H, O2, g1, g2, g3⟩ := hy
  obtain ⟨r, g4, g5⟩ := vload_held (P := P) ht g2 (vload_B g3 hN hv) ((hfr.ev hx).mono g1)
  have := g5 y g2.sx
  have er := ex_det hm hu0 g4
  subst er
  simp only [execOp, Sem.run_bind, this]; rfl
theorem wpAnyT_of_H {Q : Exit → Act → World → Prop} {S : World → Prop} {T : Nat → World → Prop} : ∀ (fuel : Nat) (listed : Array Bool) (a : Act) (w : World), (∀ j, listed.getD j true = false → ∀ x, S x → T j x) → wpAnyH P .any ops Q S fuel listed a w → wpAnyT P .any ops Q T fuel listed a w := by
  intro fuel
  induction fuel with
  | zero => intro listed a w _ h; exact ⟨h.1, h.2⟩
  | succ fuel ih =>
    intro listed a w hT h
    refine ⟨h.1, fun i hi => ?_⟩
    have hun := (mem_ready.1 hi).1
    exact wpOp_mono (fun a' w' h' => ⟨hT i hun _ h'.1, ih _ _ _ (fun j hj x => hT j (by
      by_cases hij : i = j
      · subst hij; exact hun
      · rw [getD_set_ne true hij] at hj; exact hj) x) h'.2⟩) (h.2 i hi)
/-- All that is left may break what was known. -/
theorem VAnyE.fin {brk : List Nat} {Ψ : Gh → Prop} {J : VH → Prop} {Z : Prop} {fuel : Nat} {listed : Array Bool} (hb : ((List.range listed.size).all fun j => listed.getD j true || brk.contains j) = true) (h : VAny P n D ops fuel listed e O Q) : VAnyE P n D ops brk J Ψ Z fuel listed e O Q := by
  intro hΨ hZ hJ G a w hψ hw hfr
  refine wpAnyT_of_H _ _ _ _ (fun j hj x hs => ⟨hs, fun hh => ?_⟩) (h G a w hw hfr)
  rcases Nat.lt_or_ge j listed.size with hl | hl
  · have := List.all_eq_true.1 hb j (List.mem_range.2 hl)
    rw [hj, Bool.false_or] at this
    rw [this] at hh; cases hh
  · rw [Array.getD_eq_getD_getElem?, Array.getElem?_eq_none (by simpa using hl)] at hj
    cases hj
/-- One step alone, which leaves what B knows. -/
theorem VAnyE.one {brk : List Nat} {Ψ : Gh → Prop} {J : VH → Prop} {Z : Prop} {fuel i : Nat} {listed : Array Bool} (hr : Region.ready .any ops listed = [i])
    (h : VOne P n D ops i e O Q fun e' O' => J O' ∧ VAnyE P n D ops brk J Ψ Z fuel (listed.setIfInBounds i true) e' O' Q) : VAnyE P n D ops brk J Ψ Z (fuel + 1) listed e O Q := by
  intro hΨ hZ hJ G a w hψ hw hfr
  refine wpAnyT_all hr (by simp) fun j hj => ?_
  obtain rfl : j = i := by simpa using hj
  refine wpOp_mono (fun a' w' ⟨e', O', H, h1, h2, h3, h4, h5⟩ => ⟨TE.mk ⟨H, O', h1, h2, h4⟩, wpAnyT_imp (fun _ _ _ => VPost.le h1) _ _ _ _ (fun k _ x hT => hT.le h1) (h5 hΨ hZ h4 H a' w' (hΨ _ _ h1 hψ) h2 h3)⟩) (h G a w hw hfr)
theorem VAnyE.call {brk : List Nat} {Ψ : Gh → Prop} {J : VH → Prop} {Z : Prop} {fuel i : Nat} {listed : Array Bool} {l : List Oper} {d : Option Tmp} {f : Operand} {as : Array Operand} {ts : Array TypeId} {ty : TypeId} {ps : String} {af : Array Edge} {g : Option (Nat × Bool)} {id : FuncId} {ms : List MV} {Φ : MV → VH → Prop} (hr : Region.ready .any ⟨l⟩ listed = [i]) (ho : l[i]? = some (.mk d (.call { callee := .value f, args := as, argTypes := ts }) ty ps af g))
    (hg : vguard ⟨l⟩ (.mk d (.call { callee := .value f, args := as, argTypes := ts }) ty ps af g) e = some true) (hf : ev e f = some (.func (.func id) [] [])) (hm : evs e as.toList = some ms) (hb : callable P id = true) (hd : dstB n d = true) (hR : VF P id ms O (Ret Φ))
    (h : ∀ m O', Φ m O' → J O' ∧ VAnyE P n D ⟨l⟩ brk J Ψ Z fuel (listed.setIfInBounds i true) (putM d m e) O' Q) : VAnyE P n D ⟨l⟩ brk J Ψ Z (fuel + 1) listed e O Q :=
  VAnyE.one hr (VOne.call (o := .mk d (.call { callee := .value f, args := as, argTypes := ts }) ty ps af g) (by simpa using ho) hg rfl rfl hf hm (Enters.ofB hb) hd (by simpa using hR) fun r O' hr => by
    cases r with
    | ret m => exact h m O' hr
    | panic m => exact hr.elim)
theorem VAnyE.op (ht : TabOk P tab) {brk : List Nat} {Ψ : Gh → Prop} {J : VH → Prop} {Z : Prop} {fuel i : Nat} {listed : Array Bool} {l : List Oper} {o : Oper} (hr : Region.ready .any ⟨l⟩ listed = [i]) (ho : l[i]? = some o) (hg : vguard ⟨l⟩ o e = some true) (hd : dstB n o.dst = true)
    (h : PreK (fun m O' => J O' ∧ VAnyE P n D ⟨l⟩ brk J Ψ Z fuel (listed.setIfInBounds i true) (putM o.dst m e) O' Q) (vop tab o e O)) : VAnyE P n D ⟨l⟩ brk J Ψ Z (fuel + 1) listed e O Q :=
  VAnyE.one hr (VOne.o1 ht ho hg hd h)
theorem VAnyE.st {brk : List Nat} {Ψ : Gh → Prop} {J : VH → Prop} {Z : Prop} {fuel i : Nat} {listed : Array Bool} {l : List Oper} {o : Oper} {M : MV → VH → Prop} (hr : Region.ready .any ⟨l⟩ listed = [i]) (ho : l[i]? = some o) (hg : vguard ⟨l⟩ o e = some true) (hd : dstB n o.dst = true) (hy : YieldsM P n D o e O M)
    (h : ∀ m O', M m O' → J O' ∧ VAnyE P n D ⟨l⟩ brk J Ψ Z fuel (listed.setIfInBounds i true) (putM o.dst m e) O' Q) : VAnyE P n D ⟨l⟩ brk J Ψ Z (fuel + 1) listed e O Q :=
  VAnyE.one hr (VOne.st ho hg hd hy h)
/-- The rest by a plan. -/
theorem VAnyE.plan (ht : TabOk P tab) (ix : List (Nat × Fl)) {brk : List Nat} {Ψ : Gh → Prop} {J : VH → Prop} {Z : Prop} {fuel : Nat} {listed : Array Bool} {l : List Oper} {L : List (Fl × Oper)} (hb : ((List.range listed.size).all fun j => listed.getD j true || brk.contains j) = true) (hs : Region.noSelect ⟨l⟩ = true) (hp : planOk .any ⟨l⟩ fuel listed ix = true) (hL : pickL l ix = some L)
    (h : WL P tab n D .any ⟨l⟩ Q L e O) : VAnyE P n D ⟨l⟩ brk J Ψ Z fuel listed e O Q := VAnyE.fin hb (VAny.plan ht ix hs hp hL h)
end
set_option linter.defProp false in
def wk := And.intro @ws <| And.intro @NextV_eq <| And.intro @JoinQ_exit <| And.intro @JoinQ_goto <| And.intro @JoinQ_ret @JoinQ_panic
end Go.Proofs.YtjbpnhmjnkolbaaDoor

/-
  THE VALUE MACHINE, 26: interfaces that hold a value or none; panics; calls that are made behind a function's end, and what they catch.
-/
set_option linter.unusedVariables false
set_option linter.unusedSimpArgs false
namespace Go.Proofs.YtjbpnhmjnkolbaaDoor
open Go.RowKit

section
variable {G H : Gh} {n : Sz} {D : List Deferred} {e : Env} {a : Act} {P : Program} {tab : Tab} {O O' : VH} {w : World} {m m' : MV} {u v : Value} {ops : Array Oper} {Q : VQ} {md : Md}

/-! ### Interfaces -/
theorem methods_of {t : TypeId} {ms : Array (String × TypeId)} (hu : P.underlying t = some (.interface ms)) : P.underlying t = some (.interface (P.methodsAt t)) := by
  rw [hu, Program.methodsAt, hu]
theorem PureOp.ifHeld {d : Option Tmp} {op : BinOp} {t t' ty tv : TypeId} {x : Operand} {ps : String} {af : Array Edge} {g : Option (Nat × Bool)} {p : MV} {bb : Bool} {ms : Array (String × TypeId)} (hu : P.underlying t = some (.interface ms)) (hx : ev e x = some (.iface tv p)) (hop : (op = .eql ∧ bb = false) ∨ (op = .neq ∧ bb = true)) :
    PureOp P n D (.mk d (.binOp op t x (.const .nilIface) t') ty ps af g) e (.v (.bool bb)) := by
  intro G a hf
  have h1 := hf.ev hx
  generalize hv : a.eval x = v at h1
  have hc : a.eval (.const .nilIface) = .nilIface := rfl
  cases h1 with
  | iface h2 =>
    rename_i u
    refine YieldsS.of (s := do eqGuard op t x (.const .nilIface) (.iface tv u) .nilIface; binOp op t (.iface tv u) .nilIface) (GivesS.of (u := .bool bb) (fun w _ => ?_) (.v rfl)) (by simp [execOp, hv, hc])
    have hgd : (eqGuard op t x (.const .nilIface) (.iface tv u) .nilIface).run P w = .ok () w := by rcases hop with ⟨rfl, _⟩ | ⟨rfl, _⟩ <;> simp [eqGuard]
    rw [Sem.run_bind, hgd, Result.andThen_ok]
    rcases hop with ⟨rfl, rfl⟩ | ⟨rfl, rfl⟩
    · exact run_eql_held_nil w t tv u (methods_of hu)
    · exact run_neq_held_nil w t tv u (methods_of hu)
theorem PureOp.ifNil {d : Option Tmp} {op : BinOp} {t t' ty : TypeId} {x : Operand} {ps : String} {af : Array Edge} {g : Option (Nat × Bool)} {bb : Bool} {ms : Array (String × TypeId)} (hu : P.underlying t = some (.interface ms)) (hx : ev e x = some (.v .nilIface)) (hop : (op = .eql ∧ bb = true) ∨ (op = .neq ∧ bb = false)) :
    PureOp P n D (.mk d (.binOp op t x (.const .nilIface) t') ty ps af g) e (.v (.bool bb)) := by
  intro G a hf
  have h1 := (hf.ev hx).v_inv
  have hc : a.eval (.const .nilIface) = .nilIface := rfl
  refine YieldsS.of (s := do eqGuard op t x (.const .nilIface) .nilIface .nilIface; binOp op t .nilIface .nilIface) (GivesS.of (u := .bool bb) (fun w _ => ?_) (.v rfl)) (by simp [execOp, h1, hc])
  have hgd : (eqGuard op t x (.const .nilIface) .nilIface .nilIface).run P w = .ok () w := by rcases hop with ⟨rfl, _⟩ | ⟨rfl, _⟩ <;> cases x <;> simp [eqGuard]
  rw [Sem.run_bind, hgd, Result.andThen_ok]
  rcases hop with ⟨rfl, rfl⟩ | ⟨rfl, rfl⟩
  · exact run_eql_nil_nil w t (methods_of hu)
  · exact run_neq_nil_nil w t (methods_of hu)
/-- A type that is no interface, asked for and held. -/
theorem PureOp.asT {d : Option Tmp} {t s ty : TypeId} {x : Operand} {ps : String} {af : Array Edge} {g : Option (Nat × Bool)} {p : MV} {u : TypeDesc} (hu : P.underlying s = some u) (hi : ∀ ms, u ≠ .interface ms) (hx : ev e x = some (.iface s p)) :
    PureOp P n D (.mk d (.typeAssert x t s true) ty ps af g) e (.tuple [p, .v (.bool true)]) := by
  intro G a hf
  have h1 := hf.ev hx
  generalize hv : a.eval x = v at h1
  cases h1 with
  | iface h2 =>
    rename_i w0
    refine YieldsS.of (s := Instr.typeAssert (.iface s w0) t s true) (GivesS.of (u := .tuple #[w0, .bool true]) (fun w _ => ?_) ?_) (by simp [execOp, hv])
    · simp only [Instr.typeAssert, Sem.run_bind, run_underlying hu, Result.andThen_ok]
      cases u <;> first
        | rfl
        | simp
        | (rename_i ms; exact absurd rfl (hi ms))
    · exact VR.tuple (cs := [p, .v (.bool true)]) (us := [w0, .bool true]) rfl fun i c u hc hu => by
        match i with
        | 0 => simp at hc hu; subst hc; subst hu; exact h2
        | 1 => simp at hc hu; subst hc; subst hu; exact .v rfl
        | i + 2 => simp at hc
/-! ### Panics -/
theorem VL.panic {d : Option Tmp} {x : Operand} {ty t : TypeId} {ps : String} {af : Array Edge} {g : Option (Nat × Bool)} {L : List (Fl × Oper)} {p : MV} (hmd : md = .plain) (hx : ev e x = some (.iface t p)) (hg : vguard ops (.mk d (.panic x) ty ps af g) e = some true)
    (h : Q (.panic (.iface t p)) (lowE n e) O) : VL P n D md ops ((.one, .mk d (.panic x) ty ps af g) :: L) e O Q := by
  subst hmd
  intro fuel listed ix hf hp
  match ix, hf with
  | (i, g') :: ix, hf =>
    obtain ⟨rfl, ho, hf⟩ := hf
    intro G a w hw hfr
    have h1 := hfr.ev hx
    have hv0 : ∃ u, a.eval x = .iface t u := by
      generalize a.eval x = v at h1
      cases h1
      exact ⟨_, rfl⟩
    obtain ⟨u, hv⟩ := hv0
    have hrun : (execOp a.eval (.mk d (.panic x) ty ps af g)).run P w = .halt (.panic (.iface t u)) w := by
      simp [execOp, hv, Instr.panic, goPanic]
    simp only [List.map_cons, wpOps, ho, vguard_ok hfr hg, if_true]
    refine .inl ?_
    unfold Oper.wp
    rw [hrun]
    exact ⟨.panic (.iface t p), lowE n e, O, G, Gh.Le.refl G, hw, ⟨lowE_lt, hfr.less lowE_sub⟩, ⟨_, rfl, by rw [← hv]; exact h1⟩, h⟩
/-! ### Behind a function's end -/
/-- How a function leaves that has made a call to be made behind its end: none: it returns; some m: it panics. -/
def MR (G : Gh) : Option MV → FrameMode → Prop
  | none, .returning => True
  | some m, .panicking [⟨v, false, false⟩] => VR G m v
  | _, _ => False
/-- A function called behind another one's end: it lets that one return. -/
def VDef (P : Program) (g : FuncId) (args : List MV) (x : Option MV) (O : VH) (K : VH → Prop) : Prop :=
  ∀ G w vs u, WR G O w → VRs G args vs → MR G x u → CallsD P g vs.toArray u w fun r u' w' => (∃ v, r = .returned v) ∧ settle u' = .returning ∧ ∃ O' H, Gh.Le G H ∧ WR H O' w' ∧ K O'
/-- What recover hands over. -/
def recM : Option MV → MV
  | none => .v .nilIface
  | some m => m
/-- A function that begins by asking what there is to recover. -/
theorem VDef.rec (ht : TabOk P tab) {f : FuncId} {fn : Func} {c : Code} {id : Nat} {d : Tmp} {ty : TypeId} {ps : String} {af : Array Edge} {args : List MV} {x : Option MV} {K : VH → Prop} (hf : P.funcs[f]? = some fn)
    (hb : fn.body = some (.seq (.region id ⟨[.mk (some d) (.call { callee := .builtin .recover, args := #[], argTypes := #[] }) ty ps af none]⟩ false) c)) (hr : fn.results = #[]) (hn : args.length ≤ fn.ntmps) (hd : d < fn.ntmps)
    (h : WC P tab ⟨fn.ntmps, 0⟩ [] c ((d, recM x) :: argEnv 0 args) O fun y _ O' => match y with
      | .normal => K O'
      | .ret => K O'
      | _ => False) : VDef P f args x O K := by
  intro G w vs u hw hv hu
  refine callsD_of_wpS hf hb fun c0 cs hm => wpS_seq (wpS_region ?_)
  have hfr : FR G ⟨fn.ntmps, 0⟩ [] (argEnv 0 args) { tmps := vs.toArray ++ Array.replicate (fn.ntmps - vs.toArray.size) undef, defers := [] } := by
    have hl := hv.1
    refine ⟨rfl, by simp; omega, fun t x hx => ?_⟩
    rw [look_argEnv, if_pos (Nat.zero_le _), Nat.sub_zero] at hx
    obtain ⟨u, h1, h2⟩ := hv.get hx
    refine ⟨u, ?_, h2⟩
    have hlt := (List.getElem?_eq_some_iff.1 h1).1
    rw [Array.getElem?_append_left (by simpa using hlt)]
    simpa using h1
  generalize ({ tmps := vs.toArray ++ Array.replicate (fn.ntmps - vs.toArray.size) undef, defers := [] } : Act) = a at hfr
  have hrun : (execOp a.eval (.mk (some d) (.call { callee := .builtin .recover, args := #[], argTypes := #[] }) ty ps af none)).run P w = .ok .recover w := by
    simp [execOp, resolve, invoke, builtin]
  have go : ∀ (v : Value) (u' : FrameMode), VR G (recM x) v → settle u' = .returning → (c.wpS P (bodyPostS P fn c0 cs fun r u' w' => (∃ v, r = .returned v) ∧ settle u' = .returning ∧ ∃ O' H, Gh.Le G H ∧ WR H O' w' ∧ K O')) (a.put (some d) v) ({ c0 with mode := u' } :: cs) w := by
    intro v u' hvr hs
    refine wpS_of_wp ?_
    refine wp_mono (WC.sound ht h G _ w hw (FR.put hfr hd hvr)) ?_
    rintro y a' w' ⟨z, e', O', H, g1, g2, g3, g4, g5⟩
    have fin : FR H ⟨fn.ntmps, 0⟩ [] e' a' → K O' → bodyPostS P fn c0 cs (fun r u' w' => (∃ v, r = .returned v) ∧ settle u' = .returning ∧ ∃ O' H, Gh.Le G H ∧ WR H O' w' ∧ K O') .normal a' ({ c0 with mode := u' } :: cs) w' := fun hf' hk =>
      ⟨hf'.defers, u', rfl, .tuple #[], by simp [results, hr], ⟨_, rfl⟩, hs, O', H, g1, g2, hk⟩
    cases y <;> cases z <;> first
      | exact False.elim g4
      | exact fin g3 g5
      | exact g5.elim
  have hops : (List.range (Array.mk [Oper.mk (some d) (.call { callee := .builtin .recover, args := #[], argTypes := #[] }) ty ps af none]).size) = [0] := rfl
  rw [hops]
  simp only [wpOpsS, List.getElem?_toArray, List.getElem?_cons_zero, hrun]
  have hwant : Region.wanted (Oper.mk (some d) (.call { callee := .builtin .recover, args := #[], argTypes := #[] }) ty ps af none) (yielded ⟨[.mk (some d) (.call { callee := .builtin .recover, args := #[], argTypes := #[] }) ty ps af none]⟩ a.tmps) = true := rfl
  rw [if_pos hwant]
  subst hm
  match x, hmu : c0.mode, hu with
  | none, .returning, _ =>
    have hrec : recoverD (c0 :: cs) = none := by simp [recoverD, hmu]
    rw [hrec]
    have := go .nilIface .returning (.v rfl) rfl
    rw [show ({ c0 with mode := .returning } : Frame) = c0 from by rw [← hmu]] at this
    exact this
  | some m, .panicking [⟨v, false, false⟩], hvr =>
    have hrec : recoverD (c0 :: cs) = some (v, { c0 with mode := .panicking [⟨v, true, false⟩] } :: cs) := by simp [recoverD, hmu]
    rw [hrec]
    exact go v _ hvr (by simp [settle])
/-- A function that makes one call to be made behind its end: A comes ahead of it, rest behind. -/
def DefQ (P : Program) (tab : Tab) (rs : List ResultVar) (g : FuncId) (ms : List MV) (R : VRes → VH → Prop) : VQ := fun x e O => match x with
  | .normal => VDef P g ms none O fun O' => RetW R O' (vres tab e O' rs)
  | .ret => VDef P g ms none O fun O' => RetW R O' (vres tab e O' rs)
  | .panic m => VDef P g ms (some m) O fun O' => RetW R O' (vres tab e O' rs)
  | _ => False
theorem VF.deferred (ht : TabOk P tab) {f g : FuncId} {fn : Func} {A rest : Code} {id k lo : Nat} {t : Tmp} {cap : Array Operand} {ty ty' : TypeId} {ps ps' : String} {af af' : Array Edge} {args : List MV} {rs : List ResultVar} {R : VRes → VH → Prop} (hf : P.funcs[f]? = some fn)
    (hb : fn.body = some (.seq A (.seq (.region id ⟨[.mk (some t) (.makeFunc (.func g) #[] cap) ty ps af none, .mk none (.defer { callee := .value (.tmp t), args := #[], argTypes := #[] }) ty' ps' af' none]⟩ false) rest)))
    (hk : fn.ntmps = k) (hr : fn.results.toList = rs) (hn : args.length ≤ k) (htk : t < k) (hE : Enters P g)
    (h : WC P tab ⟨k, 0⟩ [] A (argEnv 0 args) O fun x e O' => match x with
      | .normal => ∃ ms, evs e cap.toList = some ms ∧ ∀ D, VC P ⟨k, lo⟩ D rest ((t, .func (.func g) [] ms) :: e) O' (DefQ P tab rs g ms R)
      | _ => False) : VF P f args O R := by
  subst hk
  intro G w vs hw hv
  refine calls_of_wp_defers hf hb ?_
  have hfr : FR G ⟨fn.ntmps, 0⟩ [] (argEnv 0 args) { tmps := vs.toArray ++ Array.replicate (fn.ntmps - vs.toArray.size) undef, defers := [] } := by
    have hl := hv.1
    refine ⟨rfl, by simp; omega, fun t x hx => ?_⟩
    rw [look_argEnv, if_pos (Nat.zero_le _), Nat.sub_zero] at hx
    obtain ⟨u, h1, h2⟩ := hv.get hx
    refine ⟨u, ?_, h2⟩
    have hlt := (List.getElem?_eq_some_iff.1 h1).1
    rw [Array.getElem?_append_left (by simpa using hlt)]
    simpa using h1
  refine wp_seq (wp_mono (WC.sound ht h G _ w hw hfr) ?_)
  rintro y a1 w1 ⟨x, e, O1, H, g1, g2, g3, g4, g5⟩
  cases y <;> cases x <;> first
    | exact False.elim g4
    | exact g5.elim
    | skip
  obtain ⟨ms, hm, hrest⟩ := g5
  have g3 : FR H ⟨fn.ntmps, 0⟩ [] e a1 := g3
  have hus := g3.evs hm
  have hcv : cap.map a1.eval = (cap.toList.map a1.eval).toArray := by apply Array.ext'; simp
  generalize cap.toList.map a1.eval = us at hus hcv
  have hrun1 : (execOp a1.eval (.mk (some t) (.makeFunc (.func g) #[] cap) ty ps af none)).run P w1 = .ok (.value (.func (.func g) #[] us.toArray)) w1 := by
    simp [execOp, Instr.makeFunc, hcv]
  have hz := g3.size
  dsimp only at hz
  have hev : (a1.put (some t) (.func (.func g) #[] us.toArray)).eval (.tmp t) = .func (.func g) #[] us.toArray := by
    simp [Act.eval, Act.put, hz, htk]
  have hrun2 : (execOp (a1.put (some t) (.func (.func g) #[] us.toArray)).eval (.mk none (.defer { callee := .value (.tmp t), args := #[], argTypes := #[] }) ty' ps' af' none)).run P w1 = .ok (.defer { target := .fn (.func g) us.toArray, args := #[] }) w1 := by
    simp [execOp, resolve, hev, Deferred.ofValue]
  refine wp_seq (wp_region ?_)
  have hops : ∀ o1 o2 : Oper, List.range (Array.mk [o1, o2]).size = [0, 1] := fun _ _ => rfl
  rw [hops]
  have hw1 : ∀ (o1 o2 : Oper) (tm : Array Value), o1.guard = none → Region.wanted o1 (yielded ⟨[o1, o2]⟩ tm) = true := fun o1 o2 tm h => by simp [Region.wanted, h]
  have hw2 : ∀ (o1 o2 : Oper) (tm : Array Value), o2.guard = none → Region.wanted o2 (yielded ⟨[o1, o2]⟩ tm) = true := fun o1 o2 tm h => by simp [Region.wanted, h]
  simp only [wpOps, List.getElem?_toArray, List.getElem?_cons_zero, List.getElem?_cons_succ]
  rw [if_pos (hw1 _ _ _ rfl)]
  refine .inl ?_
  unfold Oper.wp
  rw [hrun1, Oper.upon_value]
  simp only [wpOps, List.getElem?_toArray, List.getElem?_cons_zero, List.getElem?_cons_succ]
  rw [if_pos (hw2 _ _ _ rfl)]
  refine .inl ?_
  first | unfold Oper.wp | skip
  rw [hrun2, Oper.upon_defer]
  have hf2 : FR H ⟨fn.ntmps, 0⟩ [] ((t, .func (.func g) [] ms) :: e) (a1.put (some t) (.func (.func g) #[] us.toArray)) := FR.put g3 htk (.func (fs := []) (us := []) rfl (fun i c u h => by simp at h) hus.1 hus.2)
  generalize a1.put (some t) (.func (.func g) #[] us.toArray) = a2 at hf2
  have hf3 : FR H ⟨fn.ntmps, lo⟩ [{ target := .fn (.func g) us.toArray, args := #[] }] ((t, .func (.func g) [] ms) :: e) { a2 with defers := { target := .fn (.func g) us.toArray, args := #[] } :: a2.defers } := ⟨by rw [hf2.defers], hf2.size, hf2.get⟩
  show rest.wp P _ _ _
  refine wp_mono (hrest _ H _ w1 g2 hf3) ?_
  rintro y a' w' ⟨x, e', O', K, k1, k2, k3, k4, k5⟩
  have hinv : ∀ w : World, (invoke (.fn (.func g) us.toArray) #[]).run P w = .ok (.enter g us.toArray) w := fun w => by
    simp [invoke, hE us.toArray w]
  have fin : ∀ (u : FrameMode) (z : Option MV), u ≠ .run → MR K z u → FR K ⟨fn.ntmps, lo⟩ [{ target := .fn (.func g) us.toArray, args := #[] }] e' a' → VDef P g ms z O' (fun O' => RetW R O' (vres tab e' O' rs)) →
      Leaves P fn a'.tmps (fun x w' => ∃ r O' H, Gh.Le G H ∧ WR H O' w' ∧ ER H r x ∧ R r O') a'.defers u w' := by
    intro u z hu hmr hfa hd
    rw [hfa.defers]
    refine leaves_cons hu (hinv _) ((hd K w' us u k2 (hus.mono k1) hmr).mono ?_)
    rintro r u' w'' ⟨⟨v, rfl⟩, hs, O2, K2, q1, q2, q3⟩
    dsimp only
    rw [hs]
    have key : ∃ m, vresults tab fn e' O2 = some m ∧ R (.ret m) O2 := by
      unfold vresults
      rw [hr, ← vres_eq]
      generalize vres tab e' O2 rs = z at q3
      unfold RetW at q3
      split at q3
      · exact q3.elim
      · exact ⟨_, rfl, q3⟩
      · rename_i l hl
        refine ⟨.tuple l, ?_, q3⟩
        match l, hl with
        | [], _ => rfl
        | [m], hl => exact absurd rfl (hl m)
        | _ :: _ :: _, _ => rfl
    obtain ⟨m, h6, h7⟩ := key
    obtain ⟨u2, h8, h9⟩ := vresults_ok (P := P) ht q2 (hfa.mono q1) h6
    exact ⟨u2, h8, .ret m, O2, K2, (g1.trans k1).trans q1, q2, h9, h7⟩
  cases y with
  | normal => cases x <;> first | exact False.elim k4 | exact fin .returning none (by simp) trivial k3 k5
  | ret => cases x <;> first | exact False.elim k4 | exact fin .returning none (by simp) trivial k3 k5
  | panic c =>
    cases x with
    | panic m =>
      obtain ⟨u, rfl, hvu⟩ := k4
      exact fin (.panicking [⟨u, false, false⟩]) (some m) (by simp) hvu k3.2 k5
    | _ => exact False.elim k4
  | exit i => cases x <;> first | exact False.elim k4 | exact k5.elim
  | goto i => cases x <;> first | exact False.elim k4 | exact k5.elim
  | outgrown => cases x <;> exact False.elim k4
theorem lowE_nil : lowE n [] = [] := rfl
theorem lowE_cons {N L t : Nat} : lowE ⟨N, L⟩ ((t, m) :: e) = bif decide (t < L) then (t, m) :: lowE ⟨N, L⟩ e else lowE ⟨N, L⟩ e := rfl
theorem DefQ_normal {rs : List ResultVar} {g : FuncId} {ms : List MV} {R : VRes → VH → Prop} : DefQ P tab rs g ms R .normal e O = VDef P g ms none O fun O' => RetW R O' (vres tab e O' rs) := rfl
theorem DefQ_ret {rs : List ResultVar} {g : FuncId} {ms : List MV} {R : VRes → VH → Prop} : DefQ P tab rs g ms R .ret e O = VDef P g ms none O fun O' => RetW R O' (vres tab e O' rs) := rfl
theorem DefQ_panic {rs : List ResultVar} {g : FuncId} {ms : List MV} {R : VRes → VH → Prop} : DefQ P tab rs g ms R (.panic m) e O = VDef P g ms (some m) O fun O' => RetW R O' (vres tab e O' rs) := rfl
end
set_option linter.defProp false in
/-- The rewriting lemmas of a function that catches. -/
def wd := And.intro @dstB_lo <| And.intro @lowE_nil <| And.intro @lowE_cons <| And.intro @DefQ_normal <| And.intro @DefQ_ret <| And.intro @DefQ_panic <| And.intro @BlockQ_panic <| And.intro @RoundQ_panic @SeqW_panic
end Go.Proofs.YtjbpnhmjnkolbaaDoor

/-
  THE VALUE MACHINE, 27: what is kept as it stands: goes through a text, letter by letter; a letter as a text.
-/
set_option linter.unusedVariables false
set_option linter.unusedSimpArgs false
namespace Go.Proofs.YtjbpnhmjnkolbaaDoor
open Go.RowKit

section
variable {G H : Gh} {n : Sz} {D : List Deferred} {e : Env} {a : Act} {P : Program} {tab : Tab} {O O' : VH} {w : World} {m m' : MV} {u v : Value} {ops : Array Oper} {Q : VQ} {md : Md}

/-- A new block, kept as it stands. -/
theorem WR.pushObj (h : WR G O w) (X : Obj) : G.Le { G with phi := upd G.phi O.next (some w.heap.size) } ∧ WR { G with phi := upd G.phi O.next (some w.heap.size) } (O.push (.obj X)) (w.alloc X) := by
  have hle := Gh.Le.of_phi h.nextfree.1 w.heap.size
  have hg := h.grow X
  have hphi : ∀ k b, upd G.phi O.next (some w.heap.size) k = some b → (k = O.next ∧ b = w.heap.size) ∨ (k ≠ O.next ∧ G.phi k = some b) := fun k b hk => by
    by_cases e : k = O.next
    · subst e; rw [upd_same] at hk; injection hk with hk; exact .inl ⟨rfl, hk.symm⟩
    · rw [upd_other _ _ e] at hk; exact .inr ⟨e, hk⟩
  have hhp : ∀ j x, upd O.hp O.next (some (VObj.obj X)) j = some x → (j = O.next ∧ x = .obj X) ∨ (j ≠ O.next ∧ O.hp j = some x) := fun j x hj => by
    by_cases e : j = O.next
    · subst e; rw [upd_same] at hj; injection hj with hj; exact .inl ⟨rfl, hj.symm⟩
    · rw [upd_other _ _ e] at hj; exact .inr ⟨e, hj⟩
  refine ⟨hle, hg.base, hg.com, fun k hk => ?_, fun k b hk => ?_, fun j k b lj lk hj hk => ?_, fun k ds hk => ?_, fun k es ck hk => ?_, fun t ht => ?_, fun s t b x y hs ht h1 h2 => ?_, h.shpOf hle.phi (upd_shape (by simp)) fun _ _ _ _ => shape_heap fun _ => heap_alloc_keep w _, fun k x hk => ?_⟩
  · have hk : O.next + 1 ≤ k := hk
    obtain ⟨h1, h2, h3⟩ := h.dom k (by omega)
    exact ⟨by show upd _ _ _ _ = _; rw [upd_other _ _ (by omega)]; exact h1, h2, by show upd _ _ _ _ = _; rw [upd_other _ _ (by omega)]; exact h3⟩
  · rcases hphi k b hk with ⟨_, rfl⟩ | ⟨hk1, hk⟩
    · exact ⟨h.bsz, by simp, fun _ => h.com_size⟩
    · obtain ⟨p1, p2, p3⟩ := hg.plt k b hk
      exact ⟨p1, p2, fun hne => p3 (by have hne : upd O.hp O.next (some (.obj X)) k ≠ none := hne; rwa [upd_other _ _ hk1] at hne)⟩
  · rcases hphi j b hj with ⟨rfl, rfl⟩ | ⟨hj1, hj⟩ <;> rcases hphi k _ hk with ⟨rfl, hb⟩ | ⟨hk1, hk⟩
    · rfl
    · have := (h.plt _ _ hk).2.1; omega
    · subst hb; have := (h.plt _ _ hj).2.1; omega
    · exact h.inj j k b (by have lj : upd O.hp O.next (some (.obj X)) j ≠ none := lj; rwa [upd_other _ _ hj1] at lj) (by have lk : upd O.hp O.next (some (.obj X)) k ≠ none := lk; rwa [upd_other _ _ hk1] at lk) hj hk
  · rcases hhp k _ hk with ⟨_, e⟩ | ⟨_, hk⟩
    · cases e
    · obtain ⟨b, C, T, h1, h2, h3⟩ := hg.cells k ds hk
      exact ⟨b, C, T, hle.phi h1, h2, h3.mono hle⟩
  · rcases hhp k _ hk with ⟨_, e⟩ | ⟨_, hk⟩
    · cases e
    · obtain ⟨b, E, h1, h2, h3, h4, h5⟩ := hg.map k es ck hk
      exact ⟨b, E, hle.phi h1, h2, h3, h4.mono hle, h5.mono hle⟩
  · rcases hhp t _ ht with ⟨_, e⟩ | ⟨_, ht⟩
    · cases e
    · obtain ⟨b, f, k, r, C, T, h1, h2, h3, h4, h5, h6⟩ := hg.tok t ht
      refine ⟨b, f, k, r, C, T, h1, h2, h3, h4, h5, fun j hj => ?_⟩
      rcases hphi j b hj with ⟨_, rfl⟩ | ⟨_, hj⟩
      · exact absurd rfl (h.tok_ne_size ht h1)
      · exact h6 j hj
  · rcases hhp s _ hs with ⟨_, e⟩ | ⟨_, hs⟩
    · cases e
    · rcases hhp t _ ht with ⟨_, e⟩ | ⟨_, ht⟩
      · cases e
      · exact h.tinj s t b x y hs ht h1 h2
  · rcases hhp k _ hk with ⟨rfl, e⟩ | ⟨_, hk⟩
    · injection e with e; subst e
      exact ⟨w.heap.size, upd_same _ _ _, by rw [heap_alloc_eq, if_pos rfl]⟩
    · obtain ⟨b, h1, h2⟩ := hg.obj k x hk
      exact ⟨b, hle.phi h1, h2⟩
/-- What is kept turns. -/
theorem WR.setObj (h : WR G O w) {k b : Nat} {X Y : Obj} (hk : O.hp k = some (.obj X)) (hp : G.phi k = some b) (hX : ∀ C t fr, X ≠ .cells C t fr) : WR G (O.set k (.obj Y)) { w with heap := w.heap.setIfInBounds b Y } := by
  obtain ⟨b', h1, h2⟩ := h.obj k X hk
  rw [hp] at h1; injection h1 with h1; subst h1
  have hne : ∀ j b', j ≠ k → O.hp j ≠ none → G.phi j = some b' → b' ≠ b := fun j b' hj lj hb' e => hj (h.inj j k b lj (by rw [hk]; simp) (e ▸ hb') hp)
  have hlv : ∀ j, upd O.hp k (some (.obj Y)) j ≠ none → O.hp j ≠ none := fun j hn => by
    by_cases e : j = k
    · subst e; rw [hk]; simp
    · rwa [upd_other _ _ e] at hn
  have hsame := heap_put_same Y h2
  have hother : ∀ j, j ≠ b → ({ w with heap := w.heap.setIfInBounds b Y } : World).heap[j]? = w.heap[j]? := fun j hj => heap_put_other _ hj
  have hB := (h.plt k b hp).1
  have hhp : ∀ j x, (∀ y, x ≠ .obj y) → upd O.hp k (some (VObj.obj Y)) j = some x → j ≠ k ∧ O.hp j = some x := fun j x hx hj => by
    by_cases e : j = k
    · subst e; rw [upd_same] at hj; injection hj with hj; exact absurd hj.symm (hx _)
    · rw [upd_other _ _ e] at hj; exact ⟨e, hj⟩
  refine ⟨⟨h.base.os, h.base.tape, h.base.output, by simpa using h.base.size, fun j hj => ?_⟩, fun b' o u' hc' => ?_, fun j hj => ?_, fun j b' hj => ?_, fun j k' b' lj lk => h.inj j k' b' (hlv j lj) (hlv k' lk), fun j ds hj => ?_, fun j es2 ck2 hj => ?_, fun t ht => ?_, fun s t b' x y hs ht => ?_, h.shpOf id (upd_shape (by simp)) fun j b' s hj hs => shape_heap (fun x hx => by
      by_cases e : b' = b
      · subst e
        rw [h2] at hx; injection hx with hx; subst hx
        exfalso
        simp only [World.shape?, h2] at hs
        cases X <;> first
          | exact hX _ _ _ rfl
          | cases hs
      · rw [hother _ e]; exact hx) hs, fun j x hj => ?_⟩
  · rw [hother j (by have : j < G.B := hj; omega)]; exact h.base.block j hj
  · have hbb : b' ≠ b := fun e => by subst e; rw [(h.plt k b' hp).2.2 (by rw [hk]; simp) o] at hc'; cases hc'
    rw [cell_put_other _ (by exact hbb)]
    exact h.com b' o u' hc'
  · obtain ⟨d1, d2, d3⟩ := h.dom j hj
    refine ⟨d1, d2, ?_⟩
    show upd _ _ _ _ = _
    rw [upd_other _ _ (fun e => by subst e; rw [d3] at hk; cases hk)]; exact d3
  · obtain ⟨p1, p2, p3⟩ := h.plt j b' hj
    exact ⟨p1, by simpa using p2, fun hne => p3 (hlv j hne)⟩
  · obtain ⟨e, hj⟩ := hhp j _ (by simp) hj
    obtain ⟨b', D, T', d1, d2, d3⟩ := h.cells j ds hj
    exact ⟨b', D, T', d1, by rw [hother _ (hne j b' e (by rw [hj]; simp) d1)]; exact d2, d3⟩
  · obtain ⟨e, hj⟩ := hhp j _ (by simp) hj
    obtain ⟨b', E, d1, d2, d3⟩ := h.map j es2 ck2 hj
    exact ⟨b', E, d1, by rw [hother _ (hne j b' e (by rw [hj]; simp) d1)]; exact d2, d3⟩
  · obtain ⟨e, ht⟩ := hhp t _ (by simp) ht
    obtain ⟨b', f, k', r, D, T', d1, d2, d3, d4, d6, d7⟩ := h.tok t ht
    exact ⟨b', f, k', r, D, T', d1, d2, by rw [hother _ (fun e => d7 k (by rw [e]; exact hp))]; exact d3, d4, d6, d7⟩
  · obtain ⟨_, hs⟩ := hhp s _ (by simp) hs
    obtain ⟨_, ht⟩ := hhp t _ (by simp) ht
    exact h.tinj s t b' x y hs ht
  · have hj : upd O.hp k (some (.obj Y)) j = some (.obj x) := hj
    by_cases e : j = k
    · subst e
      rw [upd_same] at hj; injection hj with hj; injection hj with hj; subst hj
      exact ⟨b, hp, hsame⟩
    · rw [upd_other _ _ e] at hj
      obtain ⟨b', d1, d2⟩ := h.obj j x hj
      exact ⟨b', d1, by rw [hother _ (hne j b' e (by rw [hj]; simp) d1)]; exact d2⟩
/-! ### Through a text -/
theorem YieldsM.rangeS (ht : TabOk P tab) {d : Option Tmp} {t ty : TypeId} {x : Operand} {ps : String} {af : Array Edge} {g : Option (Nat × Bool)} {l : List UInt8} (hu : (tab t).map TyI.under = some .string) (hx : ev e x = some (.str l)) :
    YieldsM P n D (.mk d (.range t x) ty ps af g) e O fun m O' => m = .ptr O.next 0 ∧ O' = O.push (.obj (.stringIter ⟨⟨l⟩⟩ 0)) := by
  intro G a w hw hf
  have h1 := hf.ev hx
  generalize hv : a.eval x = v at h1
  cases h1
  obtain ⟨g1, g2⟩ := hw.pushObj (.stringIter ⟨⟨l⟩⟩ 0)
  exact ⟨_, _, _, _, _, ⟨rfl, rfl⟩, by simp only [execOp, hv, Sem.run_bind, run_range_string w t _ (under_of ht hu)]; rfl, g1, g2, .ptr (upd_same _ _ _)⟩
theorem YieldsM.nextS {d : Option Tmp} {ty : TypeId} {x : Operand} {ps : String} {af : Array Edge} {g : Option (Nat × Bool)} {l : List UInt8} {k p : Nat} (hx : ev e x = some (.ptr k 0)) (hk : O.hp k = some (.obj (.stringIter ⟨⟨l⟩⟩ p))) (hp : p < l.length) :
    YieldsM P n D (.mk d (.next x true) ty ps af g) e O fun m O' => m = .tuple [.v (.bool true), mi p, .v (.int .i32 (Utf8.decode ⟨⟨l⟩⟩ p).1)] ∧ O' = O.set k (.obj (.stringIter ⟨⟨l⟩⟩ (p + (Utf8.decode ⟨⟨l⟩⟩ p).2))) := by
  intro G a w hw hf
  have h1 := hf.ev hx
  generalize hv : a.eval x = v at h1
  cases h1 with
  | ptr hpb =>
    rename_i b
    obtain ⟨b', e1, e2⟩ := hw.obj k _ hk
    rw [hpb] at e1; injection e1 with e1; subst e1
    have hsz : p < (⟨⟨l⟩⟩ : ByteArray).size := hp
    have g2 := hw.setObj (Y := .stringIter ⟨⟨l⟩⟩ (p + (Utf8.decode ⟨⟨l⟩⟩ p).2)) hk hpb (by simp)
    refine ⟨_, _, .tuple #[.bool true, .int .i64 p, .int .i32 (Utf8.decode ⟨⟨l⟩⟩ p).1], _, G, ⟨rfl, rfl⟩, ?_, Gh.Le.refl G, g2, ?_⟩
    · simp only [execOp, hv, Sem.run_bind, Instr.next, getObj, setObj, Sem.run, e2, Result.andThen, hsz, if_true]; rfl
    · exact VR.tuple (cs := [.v (.bool true), mi p, .v (.int .i32 (Utf8.decode ⟨⟨l⟩⟩ p).1)]) (us := [.bool true, .int .i64 p, .int .i32 (Utf8.decode ⟨⟨l⟩⟩ p).1]) rfl fun i c u hc hu => by
        match i with
        | 0 => simp at hc hu; subst hc; subst hu; exact .v rfl
        | 1 => simp at hc hu; subst hc; subst hu; exact .v rfl
        | 2 => simp at hc hu; subst hc; subst hu; exact .v rfl
        | i + 3 => simp at hc
theorem YieldsM.nextE {d : Option Tmp} {ty : TypeId} {x : Operand} {ps : String} {af : Array Edge} {g : Option (Nat × Bool)} {l : List UInt8} {k p : Nat} (hx : ev e x = some (.ptr k 0)) (hk : O.hp k = some (.obj (.stringIter ⟨⟨l⟩⟩ p))) (hp : l.length ≤ p) :
    YieldsM P n D (.mk d (.next x true) ty ps af g) e O fun m O' => m = .tuple [.v (.bool false)] ∧ O' = O := by
  intro G a w hw hf
  have h1 := hf.ev hx
  generalize hv : a.eval x = v at h1
  cases h1 with
  | ptr hpb =>
    rename_i b
    obtain ⟨b', e1, e2⟩ := hw.obj k _ hk
    rw [hpb] at e1; injection e1 with e1; subst e1
    have hsz : ¬ p < (⟨⟨l⟩⟩ : ByteArray).size := by have : (⟨⟨l⟩⟩ : ByteArray).size = l.length := rfl; omega
    refine ⟨_, _, .tuple #[.bool false], _, G, ⟨rfl, rfl⟩, ?_, Gh.Le.refl G, hw, ?_⟩
    · simp only [execOp, hv, Sem.run_bind, Instr.next, getObj, Sem.run, e2, Result.andThen, hsz, if_false]; rfl
    · exact VR.tuple (cs := [.v (.bool false)]) (us := [.bool false]) rfl fun i c u hc hu => by
        match i with
        | 0 => simp at hc hu; subst hc; subst hu; exact .v rfl
        | i + 1 => simp at hc
/-- A letter as a text. -/
theorem PureOp.letter (ht : TabOk P tab) {d : Option Tmp} {src dst ty : TypeId} {x : Operand} {ps : String} {af : Array Edge} {g : Option (Nat × Bool)} {r : Int} (hs : (tab src).map TyI.under = some (.int .i32)) (hd : (tab dst).map TyI.under = some .string) (hx : ev e x = some (.v (.int .i32 r))) :
    PureOp P n D (.mk d (.convert src dst x) ty ps af g) e (.str (Utf8.encode r).data.toList) := by
  intro G a hf
  have h1 := (hf.ev hx).v_inv
  refine YieldsS.of (s := convert src dst (.int .i32 r)) (GivesS.of (u := .string (Utf8.encode r)) (fun w _ => ?_) .str) (by simp [execOp, h1])
  simp [convert, run_underlying (under_of ht hs), run_underlying (under_of ht hd), Conv.intToString]
section
variable {d : Option Tmp} {op : BinOp} {t t' ty : TypeId} {x y : Operand} {ps : String} {af : Array Edge} {g : Option (Nat × Bool)} {b : Bool} {p q : MV}
theorem vop_range : vop tab (.mk d (.range t x) ty ps af g) e O = none := rfl
theorem vop_next : vop tab (.mk d (.next x b) ty ps af g) e O = none := rfl
theorem vop_typeAssert : vop tab (.mk d (.typeAssert x t t' b) ty ps af g) e O = none := rfl
def mkIfT (t : TypeId) : Option TyI → Option MV → Option MV
  | some i, some p => match i.under with
    | .interface _ => none
    | _ => some (.iface t p)
  | _, _ => none
theorem vop_mkIf : vop tab (.mk d (.makeInterface t x) ty ps af g) e O = (mkIfT t (tab t) (ev e x)).map (·, O) := by
  unfold vop vsil vloud mkIfT
  dsimp only
  cases tab t with
  | none => rfl
  | some i =>
    cases ev e x with
    | none => obtain ⟨u, a, b, z⟩ := i; cases u <;> rfl
    | some p => obtain ⟨u, a, b, z⟩ := i; cases u <;> rfl
theorem vop_panic : vop tab (.mk d (.panic x) ty ps af g) e O = none := rfl
theorem vbin_ifn : vbin tab op t (.iface ty p) (.v .nilIface) = none := by cases op <;> rfl
theorem vbin_nif : vbin tab op t (.v .nilIface) (.iface ty p) = none := by cases op <;> rfl
theorem vex_t {cs : List MV} {i : Nat} : vextract (.tuple cs) i = cs[i]? := rfl
theorem cvT_let {r : Int} {a b a' b' : Nat} {z z' : List MV} : cvT (.v (.int .i32 r)) (some ⟨.int .i32, a, b, z⟩) (some ⟨.string, a', b', z'⟩) = none := rfl
theorem vbin_nn : vbin tab op t (.v .nilIface) (.v .nilIface) = none := by cases op <;> rfl
end
end
set_option linter.defProp false in
/-- At these a walk by rewriting stands still. -/
def wi := And.intro @vop_mkIf <| And.intro @vop_range <| And.intro @vop_next <| And.intro @vop_typeAssert <| And.intro @vop_panic <| And.intro @vbin_ifn <| And.intro @vbin_nif <| And.intro @vex_t <| And.intro @cvT_let @vbin_nn
end Go.Proofs.YtjbpnhmjnkolbaaDoor

/-
  THE VALUE MACHINE, 28: two loads, either of which may come first.
-/
set_option linter.unusedVariables false
set_option linter.unusedSimpArgs false
namespace Go.Proofs.YtjbpnhmjnkolbaaDoor
open Go.RowKit

section
variable {G H : Gh} {n : Sz} {D : List Deferred} {e e' : Env} {a : Act} {P : Program} {tab : Tab} {O O' : VH} {w : World} {m m' : MV} {u v : Value} {ops : Array Oper} {Q : VQ} {md : Md}

theorem VL.envAny {L : List (Fl × Oper)} (hl : ∀ t x, look e' t = some x → look e t = some x) (h : VL P n D .any ops L e' O Q) : VL P n D .any ops L e O Q :=
  fun fuel listed ix h1 h2 G a w hw hf => h fuel listed ix h1 h2 G a w hw (hf.less hl)
theorem VL.ld2 (ht : TabOk P tab) {d1 d2 : Nat} {t1 t2 ty1 ty2 : TypeId} {x1 x2 : Operand} {ps1 ps2 : String} {af1 af2 : Array Edge} {g1 g2 : Option (Nat × Bool)} {L : List (Fl × Oper)} {p1 p2 m1 m2 : MV}
    (hx1 : ev e x1 = some p1) (hl1 : vload tab O t1 p1 = some m1) (hx2 : ev e x2 = some p2) (hl2 : vload tab O t2 p2 = some m2)
    (hd1 : dstB n (some d1) = true) (hd2 : dstB n (some d2) = true) (hne : (d1 == d2) = false)
    (hg1 : vguard ops (.mk (some d1) (.load t1 x1) ty1 ps1 af1 g1) e = some true) (hg2 : vguard ops (.mk (some d2) (.load t2 x2) ty2 ps2 af2 g2) e = some true)
    (hg1' : vguard ops (.mk (some d1) (.load t1 x1) ty1 ps1 af1 g1) ((d2, m2) :: e) = some true) (hg2' : vguard ops (.mk (some d2) (.load t2 x2) ty2 ps2 af2 g2) ((d1, m1) :: e) = some true)
    (hx1' : ev ((d2, m2) :: e) x1 = some p1) (hx2' : ev ((d1, m1) :: e) x2 = some p2)
    (h : VL P n D .any ops L ((d2, m2) :: (d1, m1) :: e) O Q) : VL P n D .any ops ((.fk, .mk (some d1) (.load t1 x1) ty1 ps1 af1 g1) :: (.one, .mk (some d2) (.load t2 x2) ty2 ps2 af2 g2) :: L) e O Q := by
  refine VL.fork ht (O1 := O) (O2 := O) (O3 := O) (O4 := O) (mi := m1) (mj := m2) (mi' := m1) (mj' := m2) hg1 (by rw [vop_load, hx1, Option.bind_some, hl1]; rfl) hd1 hg2' (by rw [vop_load]; show ((ev ((d1, m1) :: e) x2).bind _) = _; rw [hx2', Option.bind_some, hl2]; rfl) hd2 hg2 (by rw [vop_load, hx2, Option.bind_some, hl2]; rfl) hg1' (by rw [vop_load]; show ((ev ((d2, m2) :: e) x1).bind _) = _; rw [hx1', Option.bind_some, hl1]; rfl) h (VL.envAny ?_ h)
  intro t x hx
  simp only [look, putM] at hx ⊢
  by_cases e1 : d1 = t
  · subst e1
    rw [hne] at hx
    simpa using hx
  · have e2 : (t == d1) = false := by simpa using fun e => e1 e.symm
    rw [e2] at hx ⊢
    exact hx

/-! ### A block that is known exactly while a region's order is drawn -/
def FxOk (cs : List MV) (X : Obj) (G : Gh) : Prop := ∃ C : Array Value, ∃ T : Fz C, X = .cells C T.t T.fr ∧ VRs G cs (C.toList.take cs.length)
theorem FxOk.mono {cs : List MV} {X : Obj} (h : G.Le H) (hx : FxOk cs X G) : FxOk cs X H := by
  obtain ⟨C, T, h1, h2⟩ := hx
  exact ⟨C, T, h1, h2.mono h⟩
theorem VH.set_or {x : VObj} {k j : Nat} : (j = k ∧ (O.set k x).hp j = some x) ∨ (j ≠ k ∧ (O.set k x).hp j = O.hp j) := by
  by_cases e : j = k
  · subst e; exact .inl ⟨rfl, VH.set_get _ _ _⟩
  · exact .inr ⟨e, VH.set_ne _ _ e⟩
theorem set_some {x : VObj} {k j : Nat} (hk : O.hp k ≠ none) (h : (O.set k x).hp j ≠ none) : O.hp j ≠ none := by
  rcases VH.set_or (O := O) (x := x) (k := k) (j := j) with ⟨rfl, _⟩ | ⟨_, e⟩
  · exact hk
  · rwa [e] at h
theorem WR.lt_next {k : Nat} (h : WR G O w) (hk : O.hp k ≠ none) : k < O.next := Nat.lt_of_not_le fun hle => hk (h.dom k hle).2.2
theorem WR.swap {k : Nat} {x : VObj} (h : WR G O w) (hk : O.hp k ≠ none) (hc : ∀ cs, x = .cells cs → ∃ b, ∃ C : Array Value, ∃ T : Fz C, G.phi k = some b ∧ w.heap[b]? = some (.cells C T.t T.fr) ∧ VRs G cs (C.toList.take cs.length))
    (ho : ∀ X, x = .obj X → ∃ b, G.phi k = some b ∧ w.heap[b]? = some X) (hm : ∀ es ck, x ≠ .map es ck) (ht : x ≠ .tok) (hs : ∀ j t n, x ≠ .shape j t n) : WR G (O.set k x) w where
  base := h.base
  com := h.com
  dom j hj := by
    obtain ⟨h1, h2, h3⟩ := h.dom j hj
    exact ⟨h1, h2, (VH.set_ne _ _ (fun e => by subst e; exact hk h3)).trans h3⟩
  plt j b hj := by
    obtain ⟨h1, h2, h3⟩ := h.plt j b hj
    exact ⟨h1, h2, fun hn => h3 (set_some hk hn)⟩
  inj i j b hi hj := h.inj i j b (set_some hk hi) (set_some hk hj)
  cells j cs hj := by
    rcases VH.set_or (O := O) (x := x) (k := k) (j := j) with ⟨rfl, e⟩ | ⟨_, e⟩
    · rw [e] at hj; injection hj with hj; exact hc cs hj
    · rw [e] at hj; exact h.cells j cs hj
  map j es ck hj := by
    rcases VH.set_or (O := O) (x := x) (k := k) (j := j) with ⟨rfl, e⟩ | ⟨_, e⟩
    · rw [e] at hj; injection hj with hj; exact absurd hj (hm _ _)
    · rw [e] at hj; exact h.map j es ck hj
  tok j hj := by
    rcases VH.set_or (O := O) (x := x) (k := k) (j := j) with ⟨rfl, e⟩ | ⟨_, e⟩
    · rw [e] at hj; injection hj with hj; exact absurd hj ht
    · rw [e] at hj; exact h.tok j hj
  tinj i j b y z hi hj := by
    rcases VH.set_or (O := O) (x := x) (k := k) (j := i) with ⟨rfl, e⟩ | ⟨_, e⟩
    · rw [e] at hi; injection hi with hi; exact absurd hi ht
    · rw [e] at hi
      rcases VH.set_or (O := O) (x := x) (k := k) (j := j) with ⟨rfl, e⟩ | ⟨_, e⟩
      · rw [e] at hj; injection hj with hj; exact absurd hj ht
      · rw [e] at hj; exact h.tinj i j b y z hi hj
  shp j k' t n hj := by
    rcases VH.set_or (O := O) (x := x) (k := k) (j := j) with ⟨rfl, e⟩ | ⟨_, e⟩
    · rw [e] at hj; injection hj with hj; exact absurd hj (hs _ _ _)
    · rw [e] at hj; exact h.shp j k' t n hj
  obj j y hj := by
    rcases VH.set_or (O := O) (x := x) (k := k) (j := j) with ⟨rfl, e⟩ | ⟨_, e⟩
    · rw [e] at hj; injection hj with hj; exact ho y hj
    · rw [e] at hj; exact h.obj j y hj
theorem WR.fix {k : Nat} {cs : List MV} (h : WR G O w) (hk : O.hp k = some (.cells cs)) : ∃ X, FxOk cs X G ∧ WR G (O.set k (.obj X)) w := by
  obtain ⟨b, C, T, h1, h2, h3⟩ := h.cells k cs hk
  exact ⟨_, ⟨C, T, rfl, h3⟩, h.swap (by rw [hk]; simp) (fun _ e => by cases e) (fun X e => by injection e with e; exact ⟨b, h1, by rw [h2, e]⟩) (fun _ _ e => by cases e) (fun e => by cases e) (fun _ _ _ e => by cases e)⟩
theorem WR.thaw {k : Nat} {cs : List MV} {X : Obj} (h : WR G O w) (hk : O.hp k = some (.obj X)) (hx : FxOk cs X G) : WR G (O.set k (.cells cs)) w := by
  obtain ⟨b, h1, h2⟩ := h.obj k X hk
  obtain ⟨C, T, rfl, h3⟩ := hx
  exact h.swap (by rw [hk]; simp) (fun cs' e => by injection e with e; subst e; exact ⟨b, C, T, h1, h2, h3⟩) (fun X e => by cases e) (fun _ _ e => by cases e) (fun e => by cases e) (fun _ _ _ e => by cases e)
theorem VC.drawF {id : Nat} (brk : List Nat) (k : Nat) {cs : List MV} (hk : O.hp k = some (.cells cs)) (hm : P.follows .mixedOrders = true) (h : ∀ X, VAnyE P n D ops brk (fun O' => O'.hp k = some (.obj X)) (FxOk cs X) True ops.size (Array.replicate ops.size false) e (O.set k (.obj X)) Q) : VC P n D (.region id ops true) e O Q :=
  fun G a w hw hf => by
    obtain ⟨X, hx, hw2⟩ := (hw.drawn _).fix hk
    exact wp_region_any hm (wpAny_of_T _ _ _ _ (h X (fun _ _ => FxOk.mono) trivial (VH.set_get _ _ _) G a _ hx hw2 hf))
theorem vcell_fix (ht : TabOk P tab) {t : TypeId} {i : TyI} {cs : List MV} {us : List Value} {off : Nat} (hi : tab t = some i) (hv : vcell (isAggB i.under) i.size cs off = some m) (hvs : VRs G cs us) :
    ∃ r, VR G m r ∧ ∀ y b, (∀ j v, us[j]? = some v → y.cell? ⟨b, j, none⟩ = some v) → (Instr.loadAt t (.pointer (some ⟨b, off, none⟩))).run P y = .ok r y := by
  have hty := ht t i hi
  simp only [Instr.loadAt, Instr.sureAddr, loadVar]
  unfold vcell at hv
  split at hv
  · rename_i hagg
    split at hv
    · rename_i hle
      injection hv with hv; subst hv
      have hvs' := (hvs.drop off).take i.size
      have hlen : ((us.drop off).take i.size).length = i.size := by simp [hvs.1]; omega
      refine ⟨_, .agg hvs'.1 hvs'.2, fun y b hy => ?_⟩
      have hcells : ∀ j v, ((us.drop off).take i.size)[j]? = some v → y.cell? ((⟨b, off, none⟩ : Addr).add j) = some v := by
        intro j v hj
        rw [Addr.add_lit]
        rw [List.getElem?_take] at hj
        split at hj
        · rw [List.getElem?_drop] at hj; exact hy _ v hj
        · cases hj
      have hload := run_loadCells_list (P := P) y ⟨b, off, none⟩ _ hcells
      rw [hlen] at hload
      simp [run_agg hty, hagg, run_sz hty, hload]
    · cases hv
  · rename_i hagg
    obtain ⟨v, hv1, hv2⟩ := hvs.get hv
    exact ⟨v, hv2, fun y b hy => by simp [run_agg hty, hagg, hy _ v hv1]⟩
/-- A load of what is known exactly. -/
theorem VAnyE.ldF (ht : TabOk P tab) (i : Nat) {brk : List Nat} {cs : List MV} {X : Obj} {fuel : Nat} {listed : Array Bool} {l : List Oper} {d : Option Tmp} {t : TypeId} {x : Operand} {ty : TypeId} {ps : String} {af : Array Edge} {g : Option (Nat × Bool)} {k off : Nat} (ho : l[i]? = some (.mk d (.load t x) ty ps af g)) (hs : Region.noSelect ⟨l⟩ = true) (hf : Region.free .any ⟨l⟩ listed i = true) (hr : (Region.ready .any ⟨l⟩ listed).contains i = true) (hb : waitB ⟨l⟩ brk listed i = true)
    (hg : vguard ⟨l⟩ (.mk d (.load t x) ty ps af g) e = some true) (hd : dstB n d = true) (hx : ev e x = some (.ptr k off)) (hv : vload tab (O.set k (.cells cs)) t (.ptr k off) = some m) (h : VAnyE P n D ⟨l⟩ brk (fun O' => O'.hp k = some (.obj X)) (FxOk cs X) True fuel (listed.setIfInBounds i true) (putM d m e) O Q) : VAnyE P n D ⟨l⟩ brk (fun O' => O'.hp k = some (.obj X)) (FxOk cs X) True (fuel + 1) listed e O Q := by
  refine VAnyE.take (o := .mk d (.load t x) ty ps af g) (by simpa using ho) hs hf hr hb hd (fun G a w _ hJ hψ hw hfr => ?_) h
  obtain ⟨C, T, rfl, h3⟩ := hψ
  unfold vload at hv
  simp only [cellsOf, VH.set_get] at hv
  split at hv
  · rename_i ti cs' off' hti hc
    injection hc with hc; injection hc with e1 e2; subst e1; subst e2
    obtain ⟨r, hr1, hr2⟩ := vcell_fix (P := P) ht hti hv h3
    have hxr := hfr.ev hx
    generalize hxe : a.eval x = xu at hxr
    cases hxr with
    | ptr hp =>
      rename_i b
      refine ⟨r, hr1, .inl ⟨vguard_ok hfr hg, fun y hy => ?_⟩⟩
      obtain ⟨H, O2, g1, g2, g3⟩ := hy
      obtain ⟨b', hb1, hb2⟩ := g2.obj k _ g3
      rw [g1.phi hp] at hb1; injection hb1 with hb1; subst hb1
      have := hr2 y b fun j v hj => by
        rw [List.getElem?_take] at hj
        split at hj
        · simp only [World.cell?, hb2, Option.isSome_none, Bool.false_eq_true, if_false]; simpa using hj
        · cases hj
      simp only [execOp, Sem.run_bind, hxe, this]; rfl
  · cases hv
theorem wpOp_Q {Q Q' : Exit → Act → World → Prop} {i : Nat} {K : Act → World → Prop} (hQ : ∀ y a w, Q y a w → Q' y a w) (h1 : wpOp P ops Q i K a w) : wpOp P ops Q' i K a w := by
  unfold wpOp at h1 ⊢
  split
  · rename_i ho; simp only [ho] at h1; exact h1
  · rename_i o ho
    simp only [ho] at h1
    split
    · rename_i hwn
      simp only [hwn, if_true] at h1
      refine h1.imp (fun h2 => ?_) (fun ⟨h2, a', w', h3⟩ => ⟨h2, a', w', hQ _ _ _ h3⟩)
      unfold Oper.wp at h2 ⊢
      generalize (execOp a.eval o).run P w = r at *
      cases r with
      | ok nx w' =>
        cases nx <;> simp only [Oper.upon] at h2 ⊢ <;> first
          | exact h2
          | (refine Calls.mono h2 fun x w'' he => ?_
             cases x with
             | returned v => exact he
             | panicked c => exact hQ _ _ _ he
             | outgrown => obtain ⟨a', w', h3⟩ := he; exact ⟨a', w', hQ _ _ _ h3⟩)
      | halt x w' => cases x <;> simp only [Oper.upon] at h2 ⊢ <;> first | exact h2 | exact hQ _ _ _ h2
    · rename_i hwn
      simp only [hwn] at h1; exact h1
/-- What holds at a panic, told of the block as it stands exactly. -/
def FixQ (k : Nat) (X : Obj) (cs : List MV) (Q : VQ) : VQ := fun x e O => match x with
  | .panic m => O.hp k = some (.obj X) ∧ Q (.panic m) e (O.set k (.cells cs))
  | _ => False
theorem FixQ.post {k : Nat} {X : Obj} {cs : List MV} {y : Exit} (hψ : FxOk cs X G) (h : VPost G n D (FixQ k X cs Q) y a w) : VPost G n D Q y a w := by
  obtain ⟨x, e, O, H, h1, h2, h3, h4, h5⟩ := h
  cases x with
  | panic m => exact ⟨_, e, _, H, h1, h2.thaw h5.1 (hψ.mono h1), h3, h4, h5.2⟩
  | _ => exact h5.elim
theorem VAnyE.callP {brk : List Nat} {k : Nat} {cs : List MV} {X : Obj} {fuel i : Nat} {listed : Array Bool} {l : List Oper} {d : Option Tmp} {f : Operand} {as : Array Operand} {ts : Array TypeId} {ty : TypeId} {ps : String} {af : Array Edge} {g : Option (Nat × Bool)} {id : FuncId} {ms : List MV} {R : VRes → VH → Prop} (hr : Region.ready .any ⟨l⟩ listed = [i]) (ho : l[i]? = some (.mk d (.call { callee := .value f, args := as, argTypes := ts }) ty ps af g))
    (hg : vguard ⟨l⟩ (.mk d (.call { callee := .value f, args := as, argTypes := ts }) ty ps af g) e = some true) (hf : ev e f = some (.func (.func id) [] [])) (hm : evs e as.toList = some ms) (hb : callable P id = true) (hd : dstB n d = true) (hR : VF P id ms O R)
    (h : ∀ m O', R (.ret m) O' → O'.hp k = some (.obj X) ∧ VAnyE P n D ⟨l⟩ brk (fun O' => O'.hp k = some (.obj X)) (FxOk cs X) True fuel (listed.setIfInBounds i true) (putM d m e) O' Q) (h2 : ∀ m O', R (.panic m) O' → O'.hp k = some (.obj X) ∧ Q (.panic m) (lowE n e) (O'.set k (.cells cs))) : VAnyE P n D ⟨l⟩ brk (fun O' => O'.hp k = some (.obj X)) (FxOk cs X) True (fuel + 1) listed e O Q := by
  intro hΨ hZ hJ G a w hψ hw hfr
  refine wpAnyT_all hr (by simp) fun j hj => ?_
  obtain rfl : j = i := by simpa using hj
  have h1 := VOne.call (Q := FixQ k X cs Q) (K := fun e' O' => O'.hp k = some (.obj X) ∧ VAnyE P n D ⟨l⟩ brk (fun O' => O'.hp k = some (.obj X)) (FxOk cs X) True fuel (listed.setIfInBounds j true) e' O' Q) (o := .mk d (.call { callee := .value f, args := as, argTypes := ts }) ty ps af g) (by simpa using ho) hg rfl rfl hf hm (Enters.ofB hb) hd (by simpa using hR) (fun r O' hr => by
    cases r with
    | ret m => exact h m O' hr
    | panic m => exact h2 m O' hr) G a w hw hfr
  refine wpOp_Q (fun _ _ _ => FixQ.post hψ) (wpOp_mono (fun a' w' ⟨e', O', H, h1, h2, h3, h4, h5⟩ => ⟨TE.mk ⟨H, O', h1, h2, h4⟩, wpAnyT_imp (fun _ _ _ => VPost.le h1) _ _ _ _ (fun k _ x hT => hT.le h1) (h5 hΨ hZ h4 H a' w' (hψ.mono h1) h2 h3)⟩) h1)
/-- All that is left may break what was known. -/
theorem VAnyE.thaw {brk : List Nat} {k : Nat} {cs : List MV} {X : Obj} {fuel : Nat} {listed : Array Bool} (hb : ((List.range listed.size).all fun j => listed.getD j true || brk.contains j) = true) (h : VAny P n D ops fuel listed e (O.set k (.cells cs)) Q) : VAnyE P n D ops brk (fun O' => O'.hp k = some (.obj X)) (FxOk cs X) True fuel listed e O Q := by
  intro hΨ hZ hJ G a w hψ hw hfr
  refine wpAnyT_of_H _ _ _ _ (fun j hj x hs => ⟨hs, fun hh => ?_⟩) (h G a w (hw.thaw hJ hψ) hfr)
  rcases Nat.lt_or_ge j listed.size with hl | hl
  · have := List.all_eq_true.1 hb j (List.mem_range.2 hl)
    rw [hj, Bool.false_or] at this
    rw [this] at hh; cases hh
  · rw [Array.getD_eq_getD_getElem?, Array.getElem?_eq_none (by simpa using hl)] at hj
    cases hj
theorem VAnyE.planF (ht : TabOk P tab) (ix : List (Nat × Fl)) {brk : List Nat} {k : Nat} {cs : List MV} {X : Obj} {fuel : Nat} {listed : Array Bool} {l : List Oper} {L : List (Fl × Oper)} (hb : ((List.range listed.size).all fun j => listed.getD j true || brk.contains j) = true) (hs : Region.noSelect ⟨l⟩ = true) (hp : planOk .any ⟨l⟩ fuel listed ix = true) (hL : pickL l ix = some L)
    (h : WL P tab n D .any ⟨l⟩ Q L e (O.set k (.cells cs))) : VAnyE P n D ⟨l⟩ brk (fun O' => O'.hp k = some (.obj X)) (FxOk cs X) True fuel listed e O Q := VAnyE.thaw hb (VAny.plan ht ix hs hp hL h)
end
end Go.Proofs.YtjbpnhmjnkolbaaDoor

/-
  THE VALUE MACHINE, 13: from a statement's inputs to the machine's values.
-/
set_option linter.unusedVariables false
set_option linter.unusedSimpArgs false
namespace Go.Proofs.YtjbpnhmjnkolbaaDoor
open Go.RowKit Go.ChangeShapes

/-- The heap at the call: nothing of it is written. -/
def G0 (w : World) : Gh := ⟨w, fun _ => none, fun b o => w.cell? ⟨b, o, none⟩, fun _ => none⟩
def O0 : VH := ⟨0, fun _ => none⟩
theorem wr0 (w : World) : WR (G0 w) O0 w where
  base := Below.refl _ _
  com _ _ _ h := h
  dom _ _ := ⟨rfl, rfl, rfl⟩
  plt _ _ h := by cases h
  inj _ _ _ _ _ h := by cases h
  cells _ _ h := by cases h
  map _ _ _ h := by cases h
  tok _ h := by cases h
  tinj _ _ _ _ _ h := by cases h
  shp _ _ _ _ h := by cases h
  obj _ _ h := by cases h

/-- What each value of a type is in the machine. -/
def El {H : Type} (enc : TypeId × Value → H) (P : Program) (w : World) (sp : Nat → Bool) (held : Bool) (t : TypeId) (Φ : List MV → Prop) : Prop :=
  ∀ fuel cs x, DataW.trod enc P w 0 sp held fuel t cs = some x → ∃ ms, VRs (G0 w) ms cs ∧ Φ ms
section
variable {H : Type} {enc : TypeId × Value → H} {P : Program} {w : World} {sp : Nat → Bool} {held : Bool} {t e : TypeId}
theorem El.int {k : IntKind} (ht : P.underlying t = some (.int k)) : El enc P w sp held t fun ms => ∃ n, ms = [.v (.int k n)] ∧ (Lit.int k n).wf = true := by
  intro fuel cs x h
  obtain ⟨n, rfl, rfl, hw⟩ := DataW.trod_int ht h
  exact ⟨_, VRs.cons (.v rfl) VRs.nil, n, rfl, hw⟩
theorem El.bool (ht : P.underlying t = some .bool) : El enc P w sp held t fun ms => ∃ b, ms = [.v (.bool b)] := by
  intro fuel cs x h
  obtain ⟨n, rfl, rfl⟩ := DataW.trod_bool ht h
  exact ⟨_, VRs.cons (.v rfl) VRs.nil, n, rfl⟩
theorem El.str (ht : P.underlying t = some .string) : El enc P w sp held t fun ms => ∃ l : List UInt8, ms = [.str l] ∧ l.length ≤ maxLen := by
  intro fuel cs x h
  obtain ⟨s, rfl, rfl, hs⟩ := DataW.trod_string ht h
  exact ⟨[.str s.data.toList], VRs.cons (by cases s with | mk d => cases d with | mk l => exact .str) VRs.nil, _, rfl, hs⟩
theorem cell_spot {w : World} {a : Addr} {v : Value} (h : w.cell? a = some v) : a = ⟨a.block, a.off, none⟩ := by
  unfold World.cell? at h
  split at h
  · split at h
    · cases h
    · rename_i hs
      cases a with
      | mk b o s => cases s with
        | none => rfl
        | some x => exact absurd rfl hs
  · cases h
theorem El.slice (ht : P.underlying t = some (.slice e)) {Φ : List MV → Prop} (he : El enc P w sp held e Φ) (hsz : 0 < P.cellsOf e) :
    El enc P w sp held t fun ms => ∃ (rows : List (List MV)) (tk : Tok), ms = [.sl rows.length rows.flatten tk] ∧ (∀ r ∈ rows, Φ r) ∧ rows.length ≤ maxLen := by
  intro fuel cs x h
  rcases DataW.trod_slice ht h with ⟨rfl, rfl⟩ | ⟨a, len, cap, elems, rest, n, rfl, rfl, rfl, _, hlc, hm, hlen, hel, _, _⟩
  · exact ⟨[.sl 0 [] .nil], VRs.cons .slnil VRs.nil, [], .nil, rfl, by simp, by simp⟩
  by_cases h0 : len = 0
  · subst h0
    exact ⟨[.sl 0 [] .unk], VRs.cons (.sl0 hm) VRs.nil, [], .unk, rfl, by simp, by simp⟩
  have each : ∀ i, i < len → ∃ ms ci, w.cells? 0 (a.add (i * P.cellsOf e)) (P.cellsOf e) = some ci ∧ VRs (G0 w) ms ci ∧ Φ ms := fun i hi => by
    have h1 := hel i hi
    have h2 : elems[i]? = some (elems[i]'(by omega)) := List.getElem?_eq_getElem (by omega)
    rw [h2] at h1
    obtain ⟨ci, h3, h4⟩ := Option.bind_eq_some_iff.1 h1
    obtain ⟨ms, h5, h6⟩ := he _ _ _ h4
    exact ⟨ms, ci, h3, h5, h6⟩
  have hspot : a = ⟨a.block, a.off, none⟩ := by
    obtain ⟨_, ci, h1, _⟩ := each 0 (by omega)
    obtain ⟨_, h2, h3⟩ := World.cells?_some h1
    have h4 := h3 0 hsz
    rw [Nat.zero_mul] at h4
    have h5 : (a.add 0).add 0 = a := by simp [Addr.add]
    rw [h5] at h4
    rw [List.getElem?_eq_getElem (by omega)] at h4
    exact cell_spot h4
  obtain ⟨b, o, s⟩ := a
  obtain rfl : s = none := congrArg Addr.spot hspot
  have build : ∀ m, m ≤ len → ∃ (rows : List (List MV)) (us : List Value), rows.length = m ∧ us.length = m * P.cellsOf e ∧ VRs (G0 w) rows.flatten us ∧ (∀ p u, us[p]? = some u → w.cell? ⟨b, o + p, none⟩ = some u) ∧ ∀ r ∈ rows, Φ r := fun m => by
    induction m with
    | zero => exact fun _ => ⟨[], [], rfl, by simp, VRs.nil, fun p u hu => by simp at hu, by simp⟩
    | succ m ih =>
      intro hm
      obtain ⟨rows, us, h1, h2, h3, h4, h5⟩ := ih (by omega)
      obtain ⟨ms, ci, g1, g2, g3⟩ := each m (by omega)
      obtain ⟨_, g4, g5⟩ := World.cells?_some g1
      refine ⟨rows ++ [ms], us ++ ci, by simp [h1], by rw [List.length_append, h2, g4, Nat.add_mul, Nat.one_mul], ?_, fun p u hu => ?_, fun r hr => ?_⟩
      · rw [List.flatten_append, List.flatten_cons, List.flatten_nil, List.append_nil]; exact VRs.append h3 g2
      · rcases Nat.lt_or_ge p us.length with hp | hp
        · rw [List.getElem?_append_left hp] at hu; exact h4 p u hu
        · rw [List.getElem?_append_right hp] at hu
          have hpl := (List.getElem?_eq_some_iff.1 hu).1
          have := g5 (p - us.length) (by omega)
          rw [hu] at this
          rw [← this, Addr.add_lit, Addr.add_lit, h2, show o + m * P.cellsOf e + (p - m * P.cellsOf e) = o + p by omega]
      · rcases List.mem_append.1 hr with hr | hr
        · exact h5 r hr
        · rw [List.mem_singleton.1 hr]; exact g3
  obtain ⟨rows, us, h1, h2, h3, h4, h5⟩ := build len (Nat.le_refl _)
  refine ⟨[.sl rows.length rows.flatten .unk], VRs.cons ?_ VRs.nil, rows, .unk, rfl, h5, by omega⟩
  rw [h1]
  exact .sl h3.1 (fun p u hu => h4 p u hu) h3.2 hlc hm trivial
theorem El.imp {Φ Ψ : List MV → Prop} (h : El enc P w sp held t Φ) (hi : ∀ ms, Φ ms → Ψ ms) : El enc P w sp held t Ψ := fun fuel cs x hx => by
  obtain ⟨ms, h1, h2⟩ := h fuel cs x hx
  exact ⟨ms, h1, hi _ h2⟩
/-- Rows of one cell each. -/
theorem rows_one {α : Type} {f : α → MV} {p : α → Prop} : ∀ {rows : List (List MV)}, (∀ r ∈ rows, ∃ x, r = [f x] ∧ p x) → ∃ xs : List α, rows.length = xs.length ∧ rows.flatten = xs.map f ∧ ∀ x ∈ xs, p x
  | [], _ => ⟨[], rfl, rfl, by simp⟩
  | r :: rows, h => by
    obtain ⟨xs, h1, h2, h3⟩ := rows_one fun r hr => h r (List.mem_cons_of_mem _ hr)
    obtain ⟨x, h4, h5⟩ := h r (List.mem_cons_self ..)
    exact ⟨x :: xs, by simp [h1], by rw [h4]; simp [h2], fun y hy => by
      rcases List.mem_cons.1 hy with rfl | hy
      · exact h5
      · exact h3 y hy⟩
/-- A row of values of one cell each. -/
theorem El.row {α : Type} {f : α → MV} {p : α → Prop} (ht : P.underlying t = some (.slice e)) (hsz : P.cellsOf e = 1) (he : El enc P w sp held e fun ms => ∃ x, ms = [f x] ∧ p x) :
    El enc P w sp held t fun ms => ∃ y : List α × Tok, ms = [.sl y.1.length (y.1.map f) y.2] ∧ ((∀ x ∈ y.1, p x) ∧ y.1.length ≤ maxLen) :=
  (El.slice ht he (by omega)).imp fun ms ⟨rows, tk, h1, h2, h3⟩ => by
    obtain ⟨xs, h4, h5, h6⟩ := rows_one h2
    exact ⟨(xs, tk), by rw [h1, h4, h5], h6, by show xs.length ≤ maxLen; omega⟩
/-- An argument. -/
theorem El.arg {Φ : List MV → Prop} (h : El enc P w sp held t Φ) {v : Value} {d : DataW H} {ps : List MemPlace} (hd : DataW.Trod enc P w 0 sp held t v d ps) (hc : v.cells = #[v]) : ∃ m, VR (G0 w) m v ∧ Φ [m] := by
  obtain ⟨fuel, h1⟩ := hd
  rw [hc] at h1
  obtain ⟨ms, h2, h3⟩ := h _ _ _ h1
  match ms, h2 with
  | [m], h2 => exact ⟨m, h2.2 0 m v rfl rfl, h3⟩
  | [], h2 => exact absurd h2.1 (by simp)
  | _ :: _ :: _, h2 => exact absurd h2.1 (by simp)
end
/-! ### What a number of a kind may be -/
def InK : IntKind → Int → Prop
  | .i64, n => -9223372036854775808 ≤ n ∧ n ≤ 9223372036854775807
  | .u64, n => 0 ≤ n ∧ n ≤ 18446744073709551615
  | .u8, n => 0 ≤ n ∧ n ≤ 255
  | k, n => k.min ≤ n ∧ n ≤ k.max
theorem inK_of {k : IntKind} {n : Int} (h : (Lit.int k n).wf = true) : InK k n := by
  simp only [Lit.wf, Bool.and_eq_true, decide_eq_true_eq] at h
  cases k <;> exact h
section
variable {H : Type} {enc : TypeId × Value → H} {P : Program} {w : World} {sp : Nat → Bool} {held : Bool} {t e : TypeId}
theorem El.int2 {k : IntKind} (ht : P.underlying t = some (.int k)) : El enc P w sp held t fun ms => ∃ n, ms = [.v (.int k n)] ∧ InK k n :=
  (El.int ht).imp fun _ ⟨n, h, hw⟩ => ⟨n, h, inK_of hw⟩
theorem El.bool2 (ht : P.underlying t = some .bool) : El enc P w sp held t fun ms => ∃ b, ms = [mb b] ∧ True :=
  (El.bool ht).imp fun _ ⟨b, h⟩ => ⟨b, h, trivial⟩
end
/-- A law that answers true: the run, from the machine's word. -/
theorem VF.law {P : Program} {f : FuncId} {w : World} {ms : List MV} {vs : Array Value} (hv : VRs (G0 w) ms vs.toList) (h : VF P f ms O0 (Ret fun m _ => m = mb true)) :
    Calls P f vs w fun e w' => e = .returned (.bool true) ∧ Below w.heap.size w w' := by
  have := h (G0 w) w vs.toList (wr0 w) hv
  refine this.mono ?_
  rintro x w' ⟨r, O', G, h1, h2, h3, h4⟩
  cases r with
  | panic m => exact h4.elim
  | ret m =>
    have h4 : m = mb true := h4
    subst h4
    cases x with
    | returned v =>
      have h5 : v = .bool true := h3.v_inv
      refine ⟨by rw [h5], ?_⟩
      have := h2.base
      rw [h1.w0] at this
      have hB : G.B = w.heap.size := by unfold Gh.B; rw [h1.w0]; rfl
      rw [hB] at this
      exact this
    | panicked c => exact h3.elim
    | outgrown => exact h3.elim
end Go.Proofs.YtjbpnhmjnkolbaaDoor

/-
  THE VALUE MACHINE, 16: structs and arrays as a statement's arguments.
-/
set_option linter.unusedVariables false
set_option linter.unusedSimpArgs false
namespace Go.Proofs.YtjbpnhmjnkolbaaDoor
open Go.RowKit Go.ChangeShapes

/-- Each cell is as told. -/
def AllP : List (List MV → Prop) → List MV → Prop
  | [], ms => ms = []
  | _ :: _, [] => False
  | Φ :: Φs, m :: ms => Φ [m] ∧ AllP Φs ms
theorem AllP.cons {Φ : List MV → Prop} {Φs : List (List MV → Prop)} : ∀ {ms : List MV}, AllP (Φ :: Φs) ms → ∃ m ms', ms = m :: ms' ∧ Φ [m] ∧ AllP Φs ms'
  | [], h => h.elim
  | m :: ms, h => ⟨m, ms, rfl, h.1, h.2⟩
theorem AllP.nil {ms : List MV} (h : AllP [] ms) : ms = [] := h
theorem cellsAll {w : World} : ∀ (Φs : List (List MV → Prop)) (us : List Value), us.length = Φs.length → (∀ i (h : i < us.length) (h2 : i < Φs.length), ∃ ms, VRs (G0 w) ms [us[i]] ∧ Φs[i] ms) → ∃ ms, VRs (G0 w) ms us ∧ AllP Φs ms
  | [], [], _, _ => ⟨[], VRs.nil, rfl⟩
  | [], _ :: _, h, _ => by simp at h
  | _ :: _, [], h, _ => by simp at h
  | Φ :: Φs, u :: us, h, hall => by
    obtain ⟨ms, h1, h2⟩ := hall 0 (by simp) (by simp)
    obtain ⟨ms', k1, k2⟩ := cellsAll Φs us (by simpa using h) fun i a b => by
      have := hall (i + 1) (by simpa using a) (by simpa using b)
      simpa using this
    match ms, h1, h2 with
    | [m], h1, h2 => exact ⟨m :: ms', VRs.cons h1.head k1, h2, k2⟩
    | [], h1, _ => exact absurd h1.1 (by simp)
    | _ :: _ :: _, h1, _ => exact absurd h1.1 (by simp)
section
variable {H : Type} {enc : TypeId × Value → H} {P : Program} {w : World} {sp : Nat → Bool} {held : Bool} {t e : TypeId}
/-- Fields of one cell each, one behind the other. -/
def Flds (enc : TypeId × Value → H) (P : Program) (w : World) (sp : Nat → Bool) (held : Bool) : List Field → Nat → List (List MV → Prop) → Prop
  | [], _, [] => True
  | f :: fs, k, Φ :: Φs => f.offset = k ∧ P.cellsOf f.type = 1 ∧ El enc P w sp held f.type Φ ∧ Flds enc P w sp held fs (k + 1) Φs
  | [], _, _ :: _ => False
  | _ :: _, _, [] => False
theorem Flds.nil {k : Nat} : Flds enc P w sp held [] k [] := trivial
theorem Flds.cons {f : Field} {fs : List Field} {k : Nat} {Φ : List MV → Prop} {Φs : List (List MV → Prop)} (a : f.offset = k) (b : P.cellsOf f.type = 1) (c : El enc P w sp held f.type Φ) (d : Flds enc P w sp held fs (k + 1) Φs) : Flds enc P w sp held (f :: fs) k (Φ :: Φs) := ⟨a, b, c, d⟩
theorem Flds.get : ∀ {fs : List Field} {k : Nat} {Φs : List (List MV → Prop)}, Flds enc P w sp held fs k Φs → fs.length = Φs.length ∧ ∀ i (h : i < fs.length) (h2 : i < Φs.length), fs[i].offset = k + i ∧ P.cellsOf fs[i].type = 1 ∧ El enc P w sp held fs[i].type Φs[i]
  | [], _, [], _ => ⟨rfl, fun i h => absurd h (by simp)⟩
  | [], _, _ :: _, h => h.elim
  | _ :: _, _, [], h => h.elim
  | f :: fs, k, Φ :: Φs, ⟨a, b, c, d⟩ => by
    obtain ⟨h1, h2⟩ := d.get
    refine ⟨by simp [h1], fun i h h' => ?_⟩
    cases i with
    | zero => exact ⟨a, b, c⟩
    | succ i =>
      obtain ⟨k1, k2, k3⟩ := h2 i (by simpa using h) (by simpa using h')
      exact ⟨by simp only [List.getElem_cons_succ]; omega, k2, k3⟩
theorem drop_take_one {α : Type} {l : List α} {i : Nat} (h : i < l.length) : (l.drop i).take 1 = [l[i]] := by
  rw [List.drop_eq_getElem_cons h]; rfl
theorem El.struct {fs : Array Field} {Φs : List (List MV → Prop)} (ht : P.underlying t = some (.struct fs)) (hsz : P.cellsOf t = Φs.length) (hf : Flds enc P w sp held fs.toList 0 Φs) : El enc P w sp held t (AllP Φs) := by
  intro fuel cs x h
  obtain ⟨xs, n, rfl, rfl, hl, hxl, hfi⟩ := DataW.trod_struct ht h
  obtain ⟨h1, h2⟩ := hf.get
  have hfs : fs.toList.length = fs.size := by simp
  refine cellsAll Φs cs (by omega) fun i a b => ?_
  obtain ⟨e1, e2, e3⟩ := h2 i (by omega) b
  have h5 := hfi i fs.toList[i] (by rw [← Array.getElem?_toList, List.getElem?_eq_getElem])
  rw [e1, e2, Nat.zero_add, drop_take_one a, List.getElem?_eq_getElem (by omega)] at h5
  exact e3 _ _ _ h5
theorem El.array {n : Nat} {Φ : List MV → Prop} {Φs : List (List MV → Prop)} (ht : P.underlying t = some (.array n e)) (hsz : P.cellsOf t = n) (he1 : P.cellsOf e = 1) (he : El enc P w sp held e Φ) (hΦ : Φs = List.replicate n Φ) : El enc P w sp held t (AllP Φs) := by
  intro fuel cs x h
  obtain ⟨xs, m, rfl, rfl, hl, hxl, hfi⟩ := DataW.trod_array ht h
  subst hΦ
  refine cellsAll _ cs (by simp; omega) fun i a b => ?_
  have h5 := hfi i (by omega)
  rw [he1, Nat.mul_one, drop_take_one a, List.getElem?_eq_getElem (by omega)] at h5
  rw [List.getElem_replicate]
  exact he _ _ _ h5
/-- An argument of several cells. -/
theorem El.argA {Φ : List MV → Prop} (h : El enc P w sp held t Φ) {us : Array Value} {d : DataW H} {ps : List MemPlace} (hd : DataW.Trod enc P w 0 sp held t (.agg us) d ps) : ∃ ms, VR (G0 w) (.agg ms) (.agg us) ∧ Φ ms := by
  obtain ⟨fuel, h1⟩ := hd
  obtain ⟨ms, h2, h3⟩ := h _ _ _ h1
  refine ⟨ms, ?_, h3⟩
  have : (Value.agg us) = .agg us.toList.toArray := by simp
  rw [this]
  exact .agg h2.1 h2.2
theorem okWide_array {n : Nat} {r : Reach} {base : Nat} {v : Value} (ht : P.underlying t = some (.array n e)) (h : Value.okWide P w r base t v) : ∃ cs, v = .agg cs ∧ cs.size = P.cellsOf t := by
  simp only [Value.okWide, ht] at h
  obtain ⟨cs, h1, h2, _⟩ := h
  exact ⟨cs, h1, h2⟩
end
end Go.Proofs.YtjbpnhmjnkolbaaDoor

/-
  THE VALUE MACHINE, 29: a statement's arguments of any shape, told by a value of Lean.
-/
set_option linter.unusedVariables false
set_option linter.unusedSimpArgs false
namespace Go.Proofs.YtjbpnhmjnkolbaaDoor
open Go.RowKit Go.ChangeShapes

section
variable {H : Type} {enc : TypeId × Value → H} {P : Program} {w : World} {sp : Nat → Bool} {held : Bool} {t e : TypeId} {α β : Type}
/-- What each value of a type is: the cells f tells of some y of which p holds. -/
def ElT (enc : TypeId × Value → H) (P : Program) (w : World) (sp : Nat → Bool) (held : Bool) (t : TypeId) (f : α → List MV) (p : α → Prop) : Prop := El enc P w sp held t fun ms => ∃ y, ms = f y ∧ p y
theorem ElT.int {k : IntKind} (ht : P.underlying t = some (.int k)) : ElT enc P w sp held t (fun n : Int => [.v (.int k n)]) (InK k) := El.int2 ht
theorem ElT.bool (ht : P.underlying t = some .bool) : ElT enc P w sp held t (fun b : Bool => [mb b]) (fun _ => True) := El.bool2 ht
theorem ElT.str (ht : P.underlying t = some .string) : ElT enc P w sp held t (fun l : List UInt8 => [.str l]) (fun l => l.length ≤ maxLen) := El.str ht
/-- Rows of rows that are told each by a value. -/
theorem rows_all {f : α → List MV} {p : α → Prop} : ∀ {rows : List (List MV)}, (∀ r ∈ rows, ∃ x, r = f x ∧ p x) → ∃ xs : List α, rows.length = xs.length ∧ rows.flatten = xs.flatMap f ∧ ∀ x ∈ xs, p x
  | [], _ => ⟨[], rfl, rfl, by simp⟩
  | r :: rows, h => by
    obtain ⟨xs, h1, h2, h3⟩ := rows_all fun r hr => h r (List.mem_cons_of_mem _ hr)
    obtain ⟨x, h4, h5⟩ := h r (List.mem_cons_self ..)
    exact ⟨x :: xs, by simp [h1], by rw [h4]; simp [h2], fun y hy => by
      rcases List.mem_cons.1 hy with rfl | hy
      · exact h5
      · exact h3 y hy⟩
theorem ElT.slice {f : α → List MV} {p : α → Prop} (ht : P.underlying t = some (.slice e)) (hsz : 0 < P.cellsOf e) (he : ElT enc P w sp held e f p) :
    ElT enc P w sp held t (fun y : List α × Tok => [.sl y.1.length (y.1.flatMap f) y.2]) (fun y => (∀ x ∈ y.1, p x) ∧ y.1.length ≤ maxLen) :=
  (El.slice ht he hsz).imp fun ms ⟨rows, tk, h1, h2, h3⟩ => by
    obtain ⟨xs, h4, h5, h6⟩ := rows_all h2
    exact ⟨(xs, tk), by rw [h1, h4, h5], h6, by show xs.length ≤ maxLen; omega⟩
/-- A struct's fields from some offset on. -/
def FldT (enc : TypeId × Value → H) (P : Program) (w : World) (sp : Nat → Bool) (held : Bool) (fs : List Field) (k N : Nat) (f : α → List MV) (p : α → Prop) : Prop :=
  ∀ cs : List Value, cs.length = N → (∀ g ∈ fs, k ≤ g.offset) ∧ ((∀ g ∈ fs, ∃ fuel x, DataW.trod enc P w 0 sp held fuel g.type ((cs.drop (g.offset - k)).take (P.cellsOf g.type)) = some x) → ∃ y, VRs (G0 w) (f y) cs ∧ p y)
theorem FldT.one {g : Field} {k n : Nat} {f : α → List MV} {p : α → Prop} (ho : g.offset = k) (hn : P.cellsOf g.type = n) (he : ElT enc P w sp held g.type f p) : FldT enc P w sp held [g] k n f p := by
  intro cs hcs
  refine ⟨fun g' hg => by rw [List.mem_singleton.1 hg]; omega, fun h => ?_⟩
  obtain ⟨fuel, x, hx⟩ := h g (by simp)
  rw [ho, Nat.sub_self, List.drop_zero, hn, List.take_of_length_le (by omega)] at hx
  obtain ⟨ms, h1, y, rfl, h3⟩ := he _ _ _ hx
  exact ⟨y, h1, h3⟩
theorem FldT.cons {g : Field} {fs : List Field} {k n N : Nat} {f : α → List MV} {p : α → Prop} {f' : β → List MV} {p' : β → Prop} (ho : g.offset = k) (hn : P.cellsOf g.type = n) (he : ElT enc P w sp held g.type f p) (hr : FldT enc P w sp held fs (k + n) N f' p') :
    FldT enc P w sp held (g :: fs) k (n + N) (fun y : α × β => f y.1 ++ f' y.2) (fun y => p y.1 ∧ p' y.2) := by
  intro cs hcs
  obtain ⟨ho', hr'⟩ := hr (cs.drop n) (by rw [List.length_drop]; omega)
  refine ⟨fun g' hg => ?_, fun h => ?_⟩
  · rcases List.mem_cons.1 hg with rfl | hg
    · omega
    · have := ho' g' hg; omega
  · obtain ⟨fuel, x, hx⟩ := h g (by simp)
    rw [ho, Nat.sub_self, List.drop_zero, hn] at hx
    obtain ⟨ms, h1, y, rfl, h3⟩ := he _ _ _ hx
    obtain ⟨z, h4, h5⟩ := hr' fun g' hg => by
      obtain ⟨fuel, x, hx⟩ := h g' (List.mem_cons_of_mem _ hg)
      have := ho' g' hg
      refine ⟨fuel, x, ?_⟩
      rw [List.drop_drop, show n + (g'.offset - (k + n)) = g'.offset - k by omega]
      exact hx
    refine ⟨(y, z), ?_, h3, h5⟩
    have := VRs.append h1 h4
    rwa [List.take_append_drop] at this
theorem ElT.struct {fs : Array Field} {N : Nat} {f : α → List MV} {p : α → Prop} (ht : P.underlying t = some (.struct fs)) (hsz : P.cellsOf t = N) (hf : FldT enc P w sp held fs.toList 0 N f p) : ElT enc P w sp held t f p := by
  intro fuel cs x h
  obtain ⟨xs, n, rfl, rfl, hl, hxl, hfi⟩ := DataW.trod_struct ht h
  obtain ⟨_, h2⟩ := hf cs (by omega)
  obtain ⟨y, h3, h4⟩ := h2 fun g hg => by
    obtain ⟨i, hi, rfl⟩ := List.getElem_of_mem hg
    have h5 := hfi i fs.toList[i] (by rw [← Array.getElem?_toList, List.getElem?_eq_getElem])
    have hsz' : fs.toList.length = fs.size := by simp
    rw [List.getElem?_eq_getElem (by omega)] at h5
    exact ⟨_, _, h5⟩
  exact ⟨_, h3, y, rfl, h4⟩
theorem ElT.array {n s : Nat} {f : α → List MV} {p : α → Prop} (ht : P.underlying t = some (.array n e)) (hsz : P.cellsOf t = n * s) (he1 : P.cellsOf e = s) (he : ElT enc P w sp held e f p) : ElT enc P w sp held t (fun ys : List α => ys.flatMap f) (fun ys => ys.length = n ∧ ∀ y ∈ ys, p y) := by
  intro fuel cs x h
  obtain ⟨xs, m, rfl, rfl, hl, hxl, hfi⟩ := DataW.trod_array ht h
  subst he1
  have build : ∀ j, j ≤ n → ∃ ys : List α, VRs (G0 w) (ys.flatMap f) (cs.take (j * P.cellsOf e)) ∧ ys.length = j ∧ ∀ y ∈ ys, p y := fun j => by
    induction j with
    | zero => exact fun _ => ⟨[], by rw [Nat.zero_mul]; exact VRs.nil, rfl, by simp⟩
    | succ j ih =>
      intro hj
      obtain ⟨ys, h1, h2, h3⟩ := ih (by omega)
      have h5 := hfi j (by omega)
      rw [List.getElem?_eq_getElem (by omega)] at h5
      obtain ⟨ms, h6, y, rfl, h7⟩ := he _ _ _ h5
      refine ⟨ys ++ [y], ?_, by simp [h2], fun z hz => ?_⟩
      · rw [List.flatMap_append, List.flatMap_cons, List.flatMap_nil, List.append_nil]
        have := VRs.append h1 h6
        rwa [show (j + 1) * P.cellsOf e = j * P.cellsOf e + P.cellsOf e from Nat.succ_mul _ _, List.take_add]
      · rcases List.mem_append.1 hz with hz | hz
        · exact h3 z hz
        · rw [List.mem_singleton.1 hz]; exact h7
  obtain ⟨ys, h1, h2, h3⟩ := build n (Nat.le_refl _)
  rw [List.take_of_length_le (by omega)] at h1
  exact ⟨_, h1, ys, rfl, h2, h3⟩
/-- An argument of one cell. -/
theorem ElT.arg {f : α → List MV} {p : α → Prop} (h : ElT enc P w sp held t f p) {v : Value} {d : DataW H} {ps : List MemPlace} (hd : DataW.Trod enc P w 0 sp held t v d ps) (hc : v.cells = #[v]) : ∃ m y, VR (G0 w) m v ∧ [m] = f y ∧ p y := by
  obtain ⟨m, h1, y, h2, h3⟩ := El.arg h hd hc
  exact ⟨m, y, h1, h2, h3⟩
/-- An argument of several cells. -/
theorem ElT.argA {f : α → List MV} {p : α → Prop} (h : ElT enc P w sp held t f p) {us : Array Value} {d : DataW H} {ps : List MemPlace} (hd : DataW.Trod enc P w 0 sp held t (.agg us) d ps) : ∃ y, VR (G0 w) (.agg (f y)) (.agg us) ∧ p y := by
  obtain ⟨ms, h1, y, rfl, h3⟩ := El.argA h hd
  exact ⟨y, h1, h3⟩
end
end Go.Proofs.YtjbpnhmjnkolbaaDoor
