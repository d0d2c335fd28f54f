/-
  THE VALUE MACHINE, 24: joins: where two ways meet, what holds is told anew; loads of plain values that come ahead of steps which leave what they read.
-/
import Derived.Test.YtjbpnhmjnkolbaaDoorVl
set_option linter.unusedVariables false
set_option linter.unusedSimpArgs false
namespace Go.Proofs.YtjbpnhmjnkolbaaDoor
open Go.RowKit

section
variable {G H : Gh} {n : Nat} {D : List Deferred} {e : Env} {a : Act} {P : Program} {tab : Tab} {O O' B : VH} {w : World} {m m' : MV} {u v : Value} {ops : Array Oper} {Q : VQ} {md : Md} {c d : Code} {σ : Type}

/-! ### Joins -/
def JoinQ {σ : Type} (l : List Nat) (ms : σ → List MV) (I : σ → VH → Prop) (Q : VQ) : VQ := fun x e O => match x with
  | .normal => ∃ s, looks e l = some (ms s) ∧ I s O
  | x => Q x e O
theorem JoinQ_exit {l : List Nat} {ms : σ → List MV} {I : σ → VH → Prop} {i : Nat} : JoinQ l ms I Q (.exit i) e O = Q (.exit i) e O := rfl
theorem JoinQ_goto {l : List Nat} {ms : σ → List MV} {I : σ → VH → Prop} {i : Nat} : JoinQ l ms I Q (.goto i) e O = Q (.goto i) e O := rfl
theorem JoinQ_ret {l : List Nat} {ms : σ → List MV} {I : σ → VH → Prop} : JoinQ l ms I Q .ret e O = Q .ret e O := rfl
theorem JoinQ_panic {l : List Nat} {ms : σ → List MV} {I : σ → VH → Prop} : JoinQ l ms I Q (.panic m) e O = Q (.panic m) e O := rfl
theorem JoinQ.mk {l : List Nat} {ms : σ → List MV} {I : σ → VH → Prop} (s : σ) (h1 : looks e l = some (ms s)) (h2 : I s O) : JoinQ l ms I Q .normal e O := ⟨s, h1, h2⟩
/-- Where two ways meet: l, the slots that are known from there on. -/
theorem VC.join (ht : TabOk P tab) (l : List Nat) (ms : σ → List MV) (I : σ → VH → Prop) (h1 : VC P n D c e O (JoinQ l ms I Q)) (h2 : ∀ s O, I s O → WC P tab n D d (pairs l (ms s) []) O Q) : VC P n D (.seq c d) e O Q := by
  refine VC.seq (VC.mono ?_ h1)
  intro x e O h
  cases x with
  | normal =>
    obtain ⟨s, h3, h4⟩ := h
    exact VC.env (WC.sound ht (h2 s O h4)) (look_pairs (e0 := []) (fun t x h => by simp [look] at h) h3)
  | _ => exact h
theorem WC.join (ht : TabOk P tab) (l : List Nat) (ms : σ → List MV) (I : σ → VH → Prop) (h1 : WC P tab n D c e O (JoinQ l ms I Q)) (h2 : ∀ s O, I s O → VC P n D d (pairs l (ms s) []) O Q) : VC P n D (.seq c d) e O Q := by
  refine VC.seq (VC.mono ?_ (WC.sound ht h1))
  intro x e O h
  cases x with
  | normal =>
    obtain ⟨s, h3, h4⟩ := h
    exact VC.env (h2 s O h4) (look_pairs (e0 := []) (fun t x h => by simp [look] at h) h3)
  | _ => exact h
/-- The same, where what follows is told by name. -/
theorem VC.joinS {K : Env → VH → Prop} (l : List Nat) (ms : σ → List MV) (I : σ → VH → Prop) (h1 : VC P n D c e O (JoinQ l ms I Q)) (h2 : ∀ s O, I s O → K (pairs l (ms s) []) O) : VC P n D c e O (SeqW K Q) := by
  intro G a w hw hf
  refine wp_mono (h1 G a w hw hf) ?_
  rintro y a' w' ⟨x, e', O', H, g1, g2, g3, g4, g5⟩
  cases x with
  | normal =>
    obtain ⟨s, h3, h4⟩ := g5
    exact ⟨.normal, pairs l (ms s) [], O', H, g1, g2, g3.less (look_pairs (e0 := []) (fun t x h => by simp [look] at h) h3), g4, h2 s O' h4⟩
  | _ => exact ⟨_, e', O', H, g1, g2, g3, g4, g5⟩
/-! ### Piece by piece -/
def NextV (P : Program) (n : Nat) (D : List Deferred) (b : Code) (Q : VQ) : Env → VH → Prop := fun e O => VC P n D b e O Q
theorem NextV_eq {b : Code} : NextV P n D b Q e O = VC P n D b e O Q := rfl
/-- One piece by rewriting; then what follows. -/
theorem VC.seqV (ht : TabOk P tab) (h : WC P tab n D c e O (SeqW (NextV P n D d Q) Q)) : VC P n D (.seq c d) e O Q := by
  refine VC.seq (VC.mono ?_ (WC.sound ht h))
  intro x e O h
  cases x <;> exact h
theorem VC.seq0 (h : VC P n D c e O (SeqW (NextV P n D d Q) Q)) : VC P n D (.seq c d) e O Q := by
  refine VC.seq (VC.mono ?_ h)
  intro x e O h
  cases x <;> exact h
theorem VF.ofV (ht : TabOk P tab) {f : FuncId} {fn : Func} {c : Code} {args : List MV} {rs : List ResultVar} {R : VRes → VH → Prop} (hf : P.funcs[f]? = some fn) (hb : fn.body = some c) (hk : fn.ntmps = n) (hr : fn.results.toList = rs) (hn : args.length ≤ n)
    (h : VC P n [] c (argEnv 0 args) O (EndW tab rs R)) : VF P f args O R := by
  subst hk
  refine VF.enter ht hf hb hn (VC.mono ?_ h)
  intro x e O hx
  have key : RetW R O (vres tab e O rs) → ∃ m, vresults tab fn e O = some m ∧ R (.ret m) O := fun h => by
    unfold vresults
    rw [hr, ← vres_eq]
    generalize vres tab e O rs = z at h
    unfold RetW at h
    split at h
    · exact h.elim
    · exact ⟨_, rfl, h⟩
    · rename_i l hl
      refine ⟨.tuple l, ?_, h⟩
      match l, hl with
      | [], _ => rfl
      | [m], hl => exact absurd rfl (hl m)
      | _ :: _ :: _, _ => rfl
  cases x <;> first | exact key hx | exact hx
theorem VC.loopV {ks : List MV} (ls Ks : List Nat) (ms : σ → List MV) (I : σ → VH → Prop) (μ : σ → Nat) (s0 : σ) (h0 : looks e ls = some (ms s0)) (hk : looks e Ks = some ks) (hI : I s0 O)
    (step : ∀ s O, I s O → VC P n D c (pairs ls (ms s) (pairs Ks ks [])) O (RoundQ ls Ks ks ms I μ s Q)) : VC P n D (.loop c) e O Q := VC.loopK ls Ks ms I μ s0 h0 hk hI step
/-- Where a block's ends meet. -/
theorem VC.joinB {K : Env → VH → Prop} {id : Nat} (l : List Nat) (ms : σ → List MV) (I : σ → VH → Prop) (h1 : VC P n D c e O (BlockQ id (JoinQ l ms I Q))) (h2 : ∀ s O, I s O → K (pairs l (ms s) []) O) : VC P n D c e O (BlockQ id (SeqW K Q)) := by
  intro G a w hw hf
  refine wp_mono (h1 G a w hw hf) ?_
  rintro y a' w' ⟨x, e', O', H, g1, g2, g3, g4, g5⟩
  have nor : ∀ {x' : VX}, x' = .normal ∨ x' = .exit id → (∃ s, looks e' l = some (ms s) ∧ I s O') → FR H n D e' a' → XR H x' y → (∀ e O, K e O → BlockQ id (SeqW K Q) x' e O) → (∀ e, FR H n D e a' → FRX H n D x' e a') → VPost G n D (BlockQ id (SeqW K Q)) y a' w' := fun hx ⟨s, h3, h4⟩ hf' hy hK hF =>
    ⟨_, pairs l (ms s) [], O', H, g1, g2, hF _ (hf'.less (look_pairs (e0 := []) (fun t x h => by simp [look] at h) h3)), hy, hK _ _ (h2 s O' h4)⟩
  cases x with
  | normal => exact nor (.inl rfl) g5 g3 g4 (fun e O h => h) (fun e h => h)
  | exit i =>
    by_cases hi : i = id
    · subst hi
      simp only [BlockQ, if_true] at g5
      exact nor (.inr rfl) g5 g3 g4 (fun e O h => by simp only [BlockQ, if_true]; exact h) (fun e h => h)
    · refine ⟨.exit i, e', O', H, g1, g2, g3, g4, ?_⟩
      simp only [BlockQ, hi, if_false] at g5 ⊢
      exact g5
  | _ => exact ⟨_, e', O', H, g1, g2, g3, g4, g5⟩
/-! ### Loads ahead -/
/-- What is known exactly. -/
def ex1 : MV → Bool
  | .v _ => true
  | .str _ => true
  | _ => false
def exM : MV → Bool
  | .v _ => true
  | .str _ => true
  | .agg cs => cs.all ex1
  | _ => false
theorem ex1_any (h : ex1 m = true) (h1 : VR G m u) : VR H m u := by
  cases m with
  | v x => have := h1.v_inv; subst this; cases h1 with | v hp => exact .v hp
  | str l => cases h1; exact .str
  | _ => cases h
theorem ex1_det (h : ex1 m = true) (h1 : VR G m u) (h2 : VR H m v) : v = u := by
  cases m with
  | v x => rw [h1.v_inv, h2.v_inv]
  | str l => cases h1; cases h2; rfl
  | _ => cases h
theorem ex_any (h : exM m = true) (h1 : VR G m u) : VR H m u := by
  cases m with
  | v x => exact ex1_any (m := .v x) rfl h1
  | str l => exact ex1_any (m := .str l) rfl h1
  | agg cs =>
    cases h1 with
    | agg h2 h3 => exact .agg h2 fun i c u a b => ex1_any (List.all_eq_true.1 h c (List.mem_of_getElem? a)) (h3 i c u a b)
  | _ => cases h
theorem ex_det (h : exM m = true) (h1 : VR G m u) (h2 : VR H m v) : v = u := by
  cases m with
  | v x => exact ex1_det (m := .v x) rfl h1 h2
  | str l => exact ex1_det (m := .str l) rfl h1 h2
  | agg cs =>
    cases h1 with
    | agg h3 h4 =>
      cases h2 with
      | agg h5 h6 =>
        congr 2
        refine List.ext_getElem? fun i => ?_
        rename_i us vs
        rcases Nat.lt_or_ge i cs.length with hi | hi
        · have e1 := List.getElem?_eq_getElem (show i < us.length by omega)
          have e2 := List.getElem?_eq_getElem (show i < vs.length by omega)
          have e3 := List.getElem?_eq_getElem hi
          rw [e1, e2]
          congr 1
          exact ex1_det (List.all_eq_true.1 h _ (List.getElem_mem hi)) (h4 i _ _ e3 e1) (h6 i _ _ e3 e2)
        · rw [List.getElem?_eq_none (by omega), List.getElem?_eq_none (by omega)]
  | _ => cases h
/-- What B knows the world x holds. -/
def HoldB (G : Gh) (B : VH) (x : World) : Prop := ∃ H O', Gh.Le G H ∧ WR H O' x ∧ B.Ge O'
theorem HoldB.le (h : G.Le H) {x : World} (hb : HoldB H B x) : HoldB G B x := by
  obtain ⟨K, O', h1, h2, h3⟩ := hb
  exact ⟨K, O', h.trans h1, h2, h3⟩
def TE (brk : List Nat) (G : Gh) (B : VH) (j : Nat) (x : World) : Prop := brk.contains j = false → HoldB G B x
/-- Whatever order is drawn from here on, while loads of what B knows have come ahead of their places. -/
def VAnyE (P : Program) (n : Nat) (D : List Deferred) (ops : Array Oper) (brk : List Nat) (B : VH) (fuel : Nat) (listed : Array Bool) (e : Env) (O : VH) (Q : VQ) : Prop :=
  B.Ge O → (∀ k, B.next ≤ k → B.hp k = none) → ∀ G a w, WR G O w → FR G n D e a → wpAnyT P .any ops (VPost G n D Q) (TE brk G B) fuel listed a w
theorem VC.drawE {id : Nat} (brk : List Nat) (hm : P.follows .mixedOrders = true) (h : VAnyE P n D ops brk O ops.size (Array.replicate ops.size false) e O Q) : VC P n D (.region id ops true) e O Q :=
  fun G a w hw hf => wp_region_any hm (wpAny_of_T _ _ _ _ (h (VH.Ge.refl O) (fun k hk => (hw.dom k hk).2.2) G a _ (hw.drawn _) hf))
theorem VAnyE.take {brk : List Nat} {fuel i : Nat} {listed : Array Bool} {o : Oper} (ho : ops[i]? = some o) (hs : Region.noSelect ops = true) (hf : Region.free .any ops listed i = true) (hr : (Region.ready .any ops listed).contains i = true) (hb : waitB ops brk listed i = true)
    (hd : dstB n o.dst = true) (hy : ∀ G a w, WR G O w → FR G n D e a → ∃ u, VR G m u ∧ YieldsIf P ops (HoldB G B) o u a) (h : VAnyE P n D ops brk B fuel (listed.setIfInBounds i true) (putM o.dst m e) O Q) : VAnyE P n D ops brk B (fuel + 1) listed e O Q := by
  intro hB hN G a w hw hfr
  obtain ⟨u, hu, hyi⟩ := hy G a w hw hfr
  refine wpAnyT_first (S := HoldB G B) (W := fun j => ∃ k, j ∈ waitsF ops listed i k) (brk := fun j => brk.contains j) ho (Region.noSelect_spec hs) panic_put (fun j x hj hT => hT hj) (fun x hx _ => hx) fuel listed a w (Region.free_spec ho hf) waits_edge waits_un (waitB_ok hb) (by simpa using hr) hyi ⟨G, O, Gh.Le.refl G, hw, hB⟩ (h hB hN G _ w hw (hfr.putM hd hu))
/-- A step that is silent. -/
theorem VAnyE.sil (ht : TabOk P tab) (i : Nat) {brk : List Nat} {fuel : Nat} {listed : Array Bool} {l : List Oper} {o : Oper} (ho : l[i]? = some o) (hs : Region.noSelect ⟨l⟩ = true) (hf : Region.free .any ⟨l⟩ listed i = true) (hr : (Region.ready .any ⟨l⟩ listed).contains i = true) (hb : waitB ⟨l⟩ brk listed i = true)
    (hg : vguard ⟨l⟩ o e = some true) (hd : dstB n o.dst = true) (h : PreK (fun m O' => VAnyE P n D ⟨l⟩ brk B fuel (listed.setIfInBounds i true) (putM o.dst m e) O' Q) (vopF tab .sil o e O)) : VAnyE P n D ⟨l⟩ brk B (fuel + 1) listed e O Q := by
  generalize hv : vopF tab .sil o e O = v at h
  cases v with
  | none => exact h.elim
  | some p =>
    obtain ⟨m, O'⟩ := p
    obtain ⟨h1, rfl⟩ := vopS_sil hv
    refine VAnyE.take (by simpa using ho) hs hf hr hb hd (fun G a w hw hfr => ?_) h
    obtain ⟨u, hu, hrun⟩ := vsil_ok (P := P) ht hfr h1
    exact ⟨u, hu, .inl ⟨vguard_ok hfr hg, fun x hx => by
      obtain ⟨H, O2, h2, h3, _⟩ := hx
      exact hrun x (SS.le h2 h3.ss)⟩⟩
theorem VAnyE.skip (i : Nat) {brk : List Nat} {fuel : Nat} {listed : Array Bool} {l : List Oper} {o : Oper} (ho : l[i]? = some o) (hs : Region.noSelect ⟨l⟩ = true) (hf : Region.free .any ⟨l⟩ listed i = true) (hr : (Region.ready .any ⟨l⟩ listed).contains i = true) (hb : waitB ⟨l⟩ brk listed i = true)
    (hg : vguard ⟨l⟩ o e = some false) (hd : dstB n o.dst = true) (h : VAnyE P n D ⟨l⟩ brk B fuel (listed.setIfInBounds i true) (putM o.dst undefM e) O Q) : VAnyE P n D ⟨l⟩ brk B (fuel + 1) listed e O Q :=
  VAnyE.take (by simpa using ho) hs hf hr hb hd (fun G a w hw hfr => ⟨undef, undef_ok, .inr ⟨vguard_ok hfr hg, rfl⟩⟩) h
theorem vload_B {t : TypeId} {p : MV} (hB : B.Ge O) (hN : ∀ k, B.next ≤ k → B.hp k = none) (h : vload tab B t p = some m) : vload tab O t p = some m := by
  unfold vload at h ⊢
  have : ∀ {cs off}, cellsOf B p = some (cs, off) → cellsOf O p = some (cs, off) := fun {cs off} hc => by
    unfold cellsOf at hc ⊢
    split at hc
    · split at hc
      · rename_i hk
        have hlt := Nat.lt_of_not_le fun hle => by rw [hN _ hle] at hk; cases hk
        rw [hB.hp _ hlt, hk]; exact hc
      · cases hc
    · exact hc
    · cases hc
  split at h
  · rename_i i cs off hi hc
    rw [this hc, hi]
    exact h
  · cases h
/-- A load of what B knows exactly. -/
theorem VAnyE.ld (ht : TabOk P tab) (i : Nat) {brk : List Nat} {fuel : Nat} {listed : Array Bool} {l : List Oper} {d : Option Tmp} {t : TypeId} {x : Operand} {ty : TypeId} {ps : String} {af : Array Edge} {g : Option (Nat × Bool)} {p : MV} (ho : l[i]? = some (.mk d (.load t x) ty ps af g)) (hs : Region.noSelect ⟨l⟩ = true) (hf : Region.free .any ⟨l⟩ listed i = true) (hr : (Region.ready .any ⟨l⟩ listed).contains i = true) (hb : waitB ⟨l⟩ brk listed i = true)
    (hg : vguard ⟨l⟩ (.mk d (.load t x) ty ps af g) e = some true) (hd : dstB n d = true) (hx : ev e x = some p) (hv : vload tab B t p = some m) (hm : exM m = true) (h : VAnyE P n D ⟨l⟩ brk B fuel (listed.setIfInBounds i true) (putM d m e) O Q) : VAnyE P n D ⟨l⟩ brk B (fuel + 1) listed e O Q := by
  intro hB hN
  refine VAnyE.take (o := .mk d (.load t x) ty ps af g) (by simpa using ho) hs hf hr hb hd (fun G a w hw hfr => ?_) h hB hN
  obtain ⟨u, w', K, hrun, h1, h2, h3, _⟩ := vload_ok (P := P) ht hw (vload_B hB hN hv) (hfr.ev hx)
  obtain ⟨u0, hu0⟩ : ∃ u0, VR G m u0 := ⟨u, ex_any hm h3⟩
  refine ⟨u0, hu0, .inl ⟨vguard_ok hfr hg, fun y hy => ?_⟩⟩
  obtain ⟨H, O2, g1, g2, g3⟩ := hy
  obtain ⟨r, g4, g5⟩ := vload_held (P := P) ht g2 (vload_B g3 hN hv) ((hfr.ev hx).mono g1)
  have := g5 y g2.sx
  have er := ex_det hm hu0 g4
  subst er
  simp only [execOp, Sem.run_bind, this]; rfl
theorem wpAnyT_of_H {Q : Exit → Act → World → Prop} {S : World → Prop} {T : Nat → World → Prop} : ∀ (fuel : Nat) (listed : Array Bool) (a : Act) (w : World), (∀ j, listed.getD j true = false → ∀ x, T j x) → wpAnyH P .any ops Q S fuel listed a w → wpAnyT P .any ops Q T fuel listed a w := by
  intro fuel
  induction fuel with
  | zero => intro listed a w _ h; exact ⟨h.1, h.2⟩
  | succ fuel ih =>
    intro listed a w hT h
    refine ⟨h.1, fun i hi => ?_⟩
    have hun := (mem_ready.1 hi).1
    exact wpOp_mono (fun a' w' h' => ⟨hT i hun _, ih _ _ _ (fun j hj x => hT j (by
      by_cases hij : i = j
      · subst hij; exact hun
      · rw [getD_set_ne true hij] at hj; exact hj) x) h'.2⟩) (h.2 i hi)
/-- All that is left may break what was known. -/
theorem VAnyE.fin {brk : List Nat} {fuel : Nat} {listed : Array Bool} (hb : ((List.range listed.size).all fun j => listed.getD j true || brk.contains j) = true) (h : VAny P n D ops fuel listed e O Q) : VAnyE P n D ops brk B fuel listed e O Q := by
  intro hB hN G a w hw hfr
  refine wpAnyT_of_H _ _ _ _ (fun j hj x hh => ?_) (h G a w hw hfr)
  rcases Nat.lt_or_ge j listed.size with hl | hl
  · have := List.all_eq_true.1 hb j (List.mem_range.2 hl)
    rw [hj, Bool.false_or] at this
    rw [this] at hh; cases hh
  · rw [Array.getD_eq_getD_getElem?, Array.getElem?_eq_none (by simpa using hl)] at hj
    cases hj
/-- One step alone, which leaves what B knows. -/
theorem VAnyE.one {brk : List Nat} {fuel i : Nat} {listed : Array Bool} (hr : Region.ready .any ops listed = [i])
    (h : VOne P n D ops i e O Q fun e' O' => B.Ge O' ∧ VAnyE P n D ops brk B fuel (listed.setIfInBounds i true) e' O' Q) : VAnyE P n D ops brk B (fuel + 1) listed e O Q := by
  intro hB hN G a w hw hfr
  refine wpAnyT_all hr (by simp) fun j hj => ?_
  obtain rfl : j = i := by simpa using hj
  refine wpOp_mono (fun a' w' ⟨e', O', H, h1, h2, h3, h4, h5⟩ => ⟨fun _ => ⟨H, O', h1, h2, h4⟩, wpAnyT_imp (fun _ _ _ => VPost.le h1) _ _ _ _ (fun k _ x hT hk' => HoldB.le h1 (hT hk')) (h5 h4 hN H a' w' h2 h3)⟩) (h G a w hw hfr)
theorem VAnyE.call {brk : List Nat} {fuel i : Nat} {listed : Array Bool} {l : List Oper} {d : Option Tmp} {f : Operand} {as : Array Operand} {ts : Array TypeId} {ty : TypeId} {ps : String} {af : Array Edge} {g : Option (Nat × Bool)} {id : FuncId} {ms : List MV} {Φ : MV → VH → Prop} (hr : Region.ready .any ⟨l⟩ listed = [i]) (ho : l[i]? = some (.mk d (.call { callee := .value f, args := as, argTypes := ts }) ty ps af g))
    (hg : vguard ⟨l⟩ (.mk d (.call { callee := .value f, args := as, argTypes := ts }) ty ps af g) e = some true) (hf : ev e f = some (.func (.func id) [] [])) (hm : evs e as.toList = some ms) (hb : callable P id = true) (hd : dstB n d = true) (hR : VF P id ms O (Ret Φ))
    (h : ∀ m O', Φ m O' → B.Ge O' ∧ VAnyE P n D ⟨l⟩ brk B fuel (listed.setIfInBounds i true) (putM d m e) O' Q) : VAnyE P n D ⟨l⟩ brk B (fuel + 1) listed e O Q :=
  VAnyE.one hr (VOne.call (o := .mk d (.call { callee := .value f, args := as, argTypes := ts }) ty ps af g) (by simpa using ho) hg rfl rfl hf hm (Enters.ofB hb) hd (by simpa using hR) fun r O' hr => by
    cases r with
    | ret m => exact h m O' hr
    | panic m => exact hr.elim)
theorem VAnyE.op (ht : TabOk P tab) {brk : List Nat} {fuel i : Nat} {listed : Array Bool} {l : List Oper} {o : Oper} (hr : Region.ready .any ⟨l⟩ listed = [i]) (ho : l[i]? = some o) (hg : vguard ⟨l⟩ o e = some true) (hd : dstB n o.dst = true)
    (h : PreK (fun m O' => B.Ge O' ∧ VAnyE P n D ⟨l⟩ brk B fuel (listed.setIfInBounds i true) (putM o.dst m e) O' Q) (vop tab o e O)) : VAnyE P n D ⟨l⟩ brk B (fuel + 1) listed e O Q :=
  VAnyE.one hr (VOne.o1 ht ho hg hd h)
theorem VAnyE.st {brk : List Nat} {fuel i : Nat} {listed : Array Bool} {l : List Oper} {o : Oper} {M : MV → VH → Prop} (hr : Region.ready .any ⟨l⟩ listed = [i]) (ho : l[i]? = some o) (hg : vguard ⟨l⟩ o e = some true) (hd : dstB n o.dst = true) (hy : YieldsM P n D o e O M)
    (h : ∀ m O', M m O' → B.Ge O' ∧ VAnyE P n D ⟨l⟩ brk B fuel (listed.setIfInBounds i true) (putM o.dst m e) O' Q) : VAnyE P n D ⟨l⟩ brk B (fuel + 1) listed e O Q :=
  VAnyE.one hr (VOne.st ho hg hd hy h)
/-- The rest by a plan. -/
theorem VAnyE.plan (ht : TabOk P tab) (ix : List (Nat × Fl)) {brk : List Nat} {fuel : Nat} {listed : Array Bool} {l : List Oper} {L : List (Fl × Oper)} (hb : ((List.range listed.size).all fun j => listed.getD j true || brk.contains j) = true) (hs : Region.noSelect ⟨l⟩ = true) (hp : planOk .any ⟨l⟩ fuel listed ix = true) (hL : pickL l ix = some L)
    (h : WL P tab n D .any ⟨l⟩ Q L e O) : VAnyE P n D ⟨l⟩ brk B fuel listed e O Q := VAnyE.fin hb (VAny.plan ht ix hs hp hL h)
end
set_option linter.defProp false in
def wk := And.intro @ws <| And.intro @NextV_eq <| And.intro @JoinQ_exit <| And.intro @JoinQ_goto <| And.intro @JoinQ_ret @JoinQ_panic
end Go.Proofs.YtjbpnhmjnkolbaaDoor
