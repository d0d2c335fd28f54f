/-
  THE VALUE MACHINE, 11: heaps that go on from one another; what may be appended to; small words.
-/
import Derived.Test.YtjbpnhmjnkolbaaDoorVa
set_option linter.unusedVariables false
set_option linter.unusedSimpArgs false
namespace Go.Proofs.YtjbpnhmjnkolbaaDoor
open Go.RowKit

def mi (x : Int) : MV := .v (.int .i64 x)
def mb (x : Bool) : MV := .v (.bool x)

/-- O' goes on from O: nothing that was there has turned. -/
structure VH.Ge (O O' : VH) : Prop where
  next : O.next ≤ O'.next
  hp : ∀ k, k < O.next → O'.hp k = O.hp k
section
variable {O O1 O2 : VH} {x : VObj} {k : Nat}
theorem VH.Ge.refl (O : VH) : O.Ge O := ⟨Nat.le_refl _, fun _ _ => rfl⟩
theorem VH.Ge.trans (h : O.Ge O1) (h2 : O1.Ge O2) : O.Ge O2 := ⟨Nat.le_trans h.next h2.next, fun k hk => (h2.hp k (Nat.lt_of_lt_of_le hk h.next)).trans (h.hp k hk)⟩
theorem VH.push_new (O : VH) (x : VObj) : (O.push x).hp O.next = some x := upd_same _ _ _
theorem VH.push_old (O : VH) (x : VObj) (h : k < O.next) : (O.push x).hp k = O.hp k := upd_other _ _ (by omega)
theorem VH.push_ne (O : VH) (x : VObj) (h : k ≠ O.next) : (O.push x).hp k = O.hp k := upd_other _ _ h
theorem VH.set_ne (O : VH) (x : VObj) {j : Nat} (h : j ≠ k) : (O.set k x).hp j = O.hp j := upd_other _ _ h
theorem VH.kill_ne (O : VH) {j : Nat} (h : j ≠ k) : (O.kill k).hp j = O.hp j := upd_other _ _ h
theorem VH.Ge.push (h : O.Ge O1) (x : VObj) : O.Ge (O1.push x) := h.trans ⟨Nat.le_succ _, fun _ hk => VH.push_old _ _ hk⟩
theorem VH.Ge.set (h : O.Ge O1) (hk : O.next ≤ k) (x : VObj) : O.Ge (O1.set k x) := ⟨h.next, fun j hj => (VH.set_ne _ _ (by omega)).trans (h.hp j hj)⟩
theorem VH.Ge.kill (h : O.Ge O1) (hk : O.next ≤ k) : O.Ge (O1.kill k) := ⟨h.next, fun j hj => (VH.kill_ne _ (by omega)).trans (h.hp j hj)⟩
theorem VH.next_push (O : VH) (x : VObj) : (O.push x).next = O.next + 1 := rfl
theorem VH.next_set (O : VH) (x : VObj) : (O.set k x).next = O.next := rfl
end

/-- To this slice may be appended; its token, if it has one, is at least B. -/
def App (O : VH) (B sz : Nat) : Tok → Prop
  | .nil => True
  | .full => True
  | .own t k => k = sz ∧ O.hp t = some .tok ∧ B ≤ t ∧ t < O.next
  | .unk => False
/-- What append leaves of the heap. -/
def VH.after (O : VH) : Tok → VH
  | .own t _ => (O.kill t).push .tok
  | _ => O.push .tok
theorem VH.after_next (O : VH) (tk : Tok) : (O.after tk).next = O.next + 1 := by cases tk <;> rfl
theorem VH.after_new (O : VH) (tk : Tok) : (O.after tk).hp O.next = some .tok := by
  cases tk <;> first | exact VH.push_new _ _ | exact VH.push_new (O.kill _) _
theorem App.after {O : VH} {B sz : Nat} {tk : Tok} (hB : B ≤ O.next) : App (O.after tk) B sz (.own O.next sz) := ⟨rfl, O.after_new tk, hB, by rw [O.after_next]; omega⟩
theorem VH.Ge.after {O O1 : VH} {B sz : Nat} {tk : Tok} (h : O.Ge O1) (ha : App O1 B sz tk) (hB : O.next ≤ B) : O.Ge (O1.after tk) := by
  cases tk with
  | own t k => exact (h.kill (Nat.le_trans hB ha.2.2.1)).push _
  | _ => exact h.push _
/-- A block that is no token's stands as it was behind an append. -/
theorem VH.after_hp {O : VH} {B sz : Nat} {tk : Tok} (ha : App O B sz tk) {k : Nat} {x : VObj} (hk : O.hp k = some x) (hx : x ≠ .tok) (hl : k < O.next) : (O.after tk).hp k = some x := by
  cases tk with
  | own t j =>
    refine (VH.push_old (O.kill t) _ hl).trans ?_
    rw [VH.kill_ne _ (fun e => by subst e; rw [ha.2.1] at hk; injection hk with hk; exact hx hk.symm)]
    exact hk
  | _ => exact (VH.push_old _ _ hl).trans hk
theorem vappend_app {tab : Tab} {O : VH} {t el : TypeId} {u : TypeDesc} {a b sz by' : Nat} {z y : List MV} (h : tab t = some ⟨.slice el, a, b, z⟩) (h2 : tab el = some ⟨u, sz, by', y⟩) {B n k : Nat} {cs ds : List MV} {tk tk' : Tok} (ha : App O B sz tk)
    (hc : cs.length = n * sz) (hd : ds.length = k * sz) (hl : ds.all leafB = true) (hs : 0 < sz) (hk : k ≠ 0) (hb : (n + k) * by' ≤ 140737488355328) (hm : n + k ≤ maxLen) :
    vappend tab O t (.sl n cs tk) (.sl k ds tk') = some (.sl (n + k) (cs ++ ds) (.own O.next sz), O.after tk) := by
  simp only [vappend, h, h2, Option.map_some]
  rw [if_pos ⟨hd, hl, hs⟩, if_neg hk, if_pos ⟨hc, hb, hm⟩]
  cases tk with
  | nil => rfl
  | full => rfl
  | own s j =>
    obtain ⟨rfl, h3, _⟩ := ha
    simp only [if_true, h3]
    rfl
  | unk => exact ha.elim

/-! ### Literals of one-cell elements -/
section
variable {tab : Tab} {t el : TypeId} {u : TypeDesc} {a b d : Nat} {z : List MV} {y m0 m1 m2 : MV}
theorem vbs0 (h : tab t = some ⟨.slice el, a, b, z⟩) (h2 : tab el = some ⟨u, 1, d, [y]⟩) : vbuildSlice tab t 0 [] = some (.sl 0 [] .full) := by
  simp [vbuildSlice, h, h2]
theorem vbs1 (h : tab t = some ⟨.slice el, a, b, z⟩) (h2 : tab el = some ⟨u, 1, d, [y]⟩) (e0 : mcells m0 = [m0]) : vbuildSlice tab t 1 [(0, m0)] = some (.sl 1 [m0] .full) := by
  simp [vbuildSlice, h, h2, vfill, vzeros, e0, setMany, maxLen, List.range_succ]
theorem vbs2 (h : tab t = some ⟨.slice el, a, b, z⟩) (h2 : tab el = some ⟨u, 1, d, [y]⟩) (e0 : mcells m0 = [m0]) (e1 : mcells m1 = [m1]) : vbuildSlice tab t 2 [(0, m0), (1, m1)] = some (.sl 2 [m0, m1] .full) := by
  simp [vbuildSlice, h, h2, vfill, vzeros, e0, e1, setMany, maxLen, List.range_succ]
theorem vbs3 (h : tab t = some ⟨.slice el, a, b, z⟩) (h2 : tab el = some ⟨u, 1, d, [y]⟩) (e0 : mcells m0 = [m0]) (e1 : mcells m1 = [m1]) (e2 : mcells m2 = [m2]) : vbuildSlice tab t 3 [(0, m0), (1, m1), (2, m2)] = some (.sl 3 [m0, m1, m2] .full) := by
  simp [vbuildSlice, h, h2, vfill, vzeros, e0, e1, e2, setMany, maxLen, List.range_succ]
end
section
variable {tab : Tab} {t el : TypeId} {u : TypeDesc} {a b d : Nat} {z : List MV} {y : MV} {v0 v1 v2 : Value}
theorem vbs1v (h : tab t = some ⟨.slice el, a, b, z⟩) (h2 : tab el = some ⟨u, 1, d, [y]⟩) : vbuildSlice tab t 1 [(0, .v v0)] = some (.sl 1 [.v v0] .full) := vbs1 h h2 rfl
theorem vbs2v (h : tab t = some ⟨.slice el, a, b, z⟩) (h2 : tab el = some ⟨u, 1, d, [y]⟩) : vbuildSlice tab t 2 [(0, .v v0), (1, .v v1)] = some (.sl 2 [.v v0, .v v1] .full) := vbs2 h h2 rfl rfl
theorem vbs3v (h : tab t = some ⟨.slice el, a, b, z⟩) (h2 : tab el = some ⟨u, 1, d, [y]⟩) : vbuildSlice tab t 3 [(0, .v v0), (1, .v v1), (2, .v v2)] = some (.sl 3 [.v v0, .v v1, .v v2] .full) := vbs3 h h2 rfl rfl rfl
end
theorem zp1 (i : Nat) (x : Operand) (m : MV) : zipParts #[(i, x)] [m] = [(i, m)] := rfl
theorem zp2 (i j : Nat) (x y : Operand) (m q : MV) : zipParts #[(i, x), (j, y)] [m, q] = [(i, m), (j, q)] := rfl
theorem zp3 (i j k : Nat) (x y z : Operand) (m q r : MV) : zipParts #[(i, x), (j, y), (k, z)] [m, q, r] = [(i, m), (j, q), (k, r)] := rfl
theorem mi_def (x : Int) : mi x = .v (.int .i64 x) := rfl
theorem mb_def (x : Bool) : mb x = .v (.bool x) := rfl
/-! ### Loops whose rounds are told by a state: of the slots only those of l are kept in mind -/
def looks (e : Env) : List Nat → Option (List MV)
  | [] => some []
  | t :: l => (look e t).bind fun m => (looks e l).map (m :: ·)
theorem looks_nil (e : Env) : looks e [] = some [] := rfl
theorem looks_cons (e : Env) (t : Nat) (l : List Nat) : looks e (t :: l) = (look e t).bind fun m => (looks e l).map (m :: ·) := rfl
def pair : List Nat → List MV → Env
  | t :: l, m :: ms => (t, m) :: pair l ms
  | _, _ => []
theorem pair_cons (t : Nat) (l : List Nat) (m : MV) (ms : List MV) : pair (t :: l) (m :: ms) = (t, m) :: pair l ms := rfl
theorem pair_nil (ms : List MV) : pair [] ms = [] := rfl
theorem look_pair {e : Env} : ∀ {l : List Nat} {ms : List MV}, looks e l = some ms → ∀ t x, look (pair l ms) t = some x → look e t = some x
  | [], ms, _, t, x, hx => by simp [pair, look] at hx
  | k :: l, ms, h, t, x, hx => by
    rw [looks_cons] at h
    obtain ⟨m, h1, h2⟩ := Option.bind_eq_some_iff.1 h
    obtain ⟨ms', h3, rfl⟩ := Option.map_eq_some_iff.1 h2
    rw [pair_cons, look_cons] at hx
    cases hb : t == k with
    | true =>
      rw [hb, cond_true] at hx
      injection hx with hx; subst hx
      have : t = k := by simpa using hb
      rw [this]; exact h1
    | false => rw [hb, cond_false] at hx; exact look_pair h3 t x hx
section
variable {n : Nat} {D : List Deferred} {e : Env} {P : Program} {O : VH} {Q : VQ} {c : Code}
theorem VC.loopS {σ : Type} (l : List Nat) (ms : σ → List MV) (I : σ → VH → Prop) (μ : σ → Nat) (s0 : σ) (h0 : looks e l = some (ms s0)) (hI : I s0 O)
    (step : ∀ s O, I s O → VC P n D c (pair l (ms s)) O fun x e' O' => match x with
      | .normal => ∃ s', looks e' l = some (ms s') ∧ I s' O' ∧ μ s' < μ s
      | x => Q x e' O') : VC P n D (.loop c) e O Q := by
  refine VC.loop (fun k e O => ∃ s, looks e l = some (ms s) ∧ I s O ∧ μ s = k) (k := μ s0) ⟨s0, h0, hI, rfl⟩ ?_
  rintro k e O ⟨s, h1, h2, rfl⟩
  refine VC.mono ?_ (VC.env (step s O h2) (look_pair h1))
  intro x e' O' h
  cases x <;> first
    | exact h
    | (obtain ⟨s', h3, h4, h5⟩ := h; exact ⟨_, h5, s', h3, h4, rfl⟩)
end
/-! ### The same rules with posts that have names: goals stay small -/
def SeqQ (P : Program) (n : Nat) (D : List Deferred) (d : Code) (Q : VQ) : VQ := fun x e O => match x with
  | .normal => VC P n D d e O Q
  | x => Q x e O
def BlockQ (id : Nat) (Q : VQ) : VQ := fun x e O => match x with
  | .exit i => if i = id then Q .normal e O else Q (.exit i) e O
  | x => Q x e O
def LoopQ {σ : Type} (l : List Nat) (ms : σ → List MV) (I : σ → VH → Prop) (μ : σ → Nat) (s : σ) (Q : VQ) : VQ := fun x e O => match x with
  | .normal => ∃ s', looks e l = some (ms s') ∧ I s' O ∧ μ s' < μ s
  | x => Q x e O
def EndQ (tab : Tab) (fn : Func) (R : VRes → VH → Prop) : VQ := fun x e O => match x with
  | .normal => ∃ m, vresults tab fn e O = some m ∧ R (.ret m) O
  | .ret => ∃ m, vresults tab fn e O = some m ∧ R (.ret m) O
  | .panic m => R (.panic m) O
  | _ => False
section
variable {n : Nat} {D : List Deferred} {e : Env} {P : Program} {O : VH} {Q : VQ} {c d : Code} {id i : Nat} {m : MV} {tab : Tab} {fn : Func} {R : VRes → VH → Prop}
theorem SeqQ_normal : SeqQ P n D d Q .normal e O = VC P n D d e O Q := rfl
theorem SeqQ_exit : SeqQ P n D d Q (.exit i) e O = Q (.exit i) e O := rfl
theorem SeqQ_goto : SeqQ P n D d Q (.goto i) e O = Q (.goto i) e O := rfl
theorem SeqQ_ret : SeqQ P n D d Q .ret e O = Q .ret e O := rfl
theorem SeqQ_panic : SeqQ P n D d Q (.panic m) e O = Q (.panic m) e O := rfl
theorem BlockQ_normal : BlockQ id Q .normal e O = Q .normal e O := rfl
theorem BlockQ_exit : BlockQ id Q (.exit i) e O = if i = id then Q .normal e O else Q (.exit i) e O := rfl
theorem BlockQ_goto : BlockQ id Q (.goto i) e O = Q (.goto i) e O := rfl
theorem BlockQ_ret : BlockQ id Q .ret e O = Q .ret e O := rfl
theorem BlockQ_panic : BlockQ id Q (.panic m) e O = Q (.panic m) e O := rfl
section
variable {σ : Type} {l : List Nat} {ms : σ → List MV} {I : σ → VH → Prop} {μ : σ → Nat} {s : σ}
theorem LoopQ_normal : LoopQ l ms I μ s Q .normal e O = ∃ s', looks e l = some (ms s') ∧ I s' O ∧ μ s' < μ s := rfl
theorem LoopQ_exit : LoopQ l ms I μ s Q (.exit i) e O = Q (.exit i) e O := rfl
theorem LoopQ_goto : LoopQ l ms I μ s Q (.goto i) e O = Q (.goto i) e O := rfl
theorem LoopQ_ret : LoopQ l ms I μ s Q .ret e O = Q .ret e O := rfl
theorem LoopQ_panic : LoopQ l ms I μ s Q (.panic m) e O = Q (.panic m) e O := rfl
end
theorem EndQ_normal : EndQ tab fn R .normal e O = ∃ m, vresults tab fn e O = some m ∧ R (.ret m) O := rfl
theorem EndQ_ret : EndQ tab fn R .ret e O = ∃ m, vresults tab fn e O = some m ∧ R (.ret m) O := rfl
theorem EndQ_panic : EndQ tab fn R (.panic m) e O = R (.panic m) O := rfl
theorem ScopeQ_normal : ScopeQ Q .normal e O = Q .normal e O := rfl
theorem ScopeQ_exit : ScopeQ Q (.exit i) e O = Q (.exit i) e O := rfl
theorem ScopeQ_ret : ScopeQ Q .ret e O = Q .ret e O := rfl
theorem ScopeQ_panic : ScopeQ Q (.panic m) e O = Q (.panic m) e O := rfl
theorem VC.seq' (h : VC P n D c e O (SeqQ P n D d Q)) : VC P n D (.seq c d) e O Q := VC.seq h
theorem VC.block' (h : VC P n D c e O (BlockQ id Q)) : VC P n D (.block id c) e O Q := VC.block h
theorem VC.loopS' {σ : Type} (l : List Nat) (ms : σ → List MV) (I : σ → VH → Prop) (μ : σ → Nat) (s0 : σ) (h0 : looks e l = some (ms s0)) (hI : I s0 O)
    (step : ∀ s O, I s O → VC P n D c (pair l (ms s)) O (LoopQ l ms I μ s Q)) : VC P n D (.loop c) e O Q := VC.loopS l ms I μ s0 h0 hI step
theorem VF.enter' (ht : TabOk P tab) {f : FuncId} {c : Code} {args : List MV} (hf : P.funcs[f]? = some fn) (hb : fn.body = some c) (hn : args.length ≤ fn.ntmps)
    (h : VC P fn.ntmps [] c (argEnv 0 args) O (EndQ tab fn R)) : VF P f args O R := VF.enter ht hf hb hn h
end
/-! ### A region's run, told so that rewriting does not look into what is not yet at hand -/
def vk3 (tab : Tab) (n : Nat) (ops : Array Oper) (l : List Oper) (e : Env) (O : VH) : Bool → Option (Env × VH)
  | true => vrunL tab n ops l e O
  | false => none
def vk2 (tab : Tab) (n : Nat) (ops : Array Oper) (d : Option Tmp) (l : List Oper) (e : Env) : Option (MV × VH) → Option (Env × VH)
  | some (m, O') => vk3 tab n ops l (putM d m e) O' (dstB n d)
  | none => none
def vk1 (tab : Tab) (n : Nat) (ops : Array Oper) (o : Oper) (l : List Oper) (e : Env) (O : VH) : Option Bool → Option (Env × VH)
  | some true => vk2 tab n ops o.dst l e (vop tab o e O)
  | some false => vk3 tab n ops l (putM o.dst undefM e) O (dstB n o.dst)
  | none => none
section
variable {tab : Tab} {n : Nat} {ops : Array Oper} {o : Oper} {l : List Oper} {e : Env} {O O' : VH} {d : Option Tmp} {m : MV}
theorem vrunK : vrunL tab n ops (o :: l) e O = vk1 tab n ops o l e O (vguard ops o e) := by
  rw [vrunL_cons]
  unfold vk1
  cases vguard ops o e with
  | none => rfl
  | some b =>
    cases b with
    | false => rw [Option.bind_some, if_neg (by decide)]; unfold vk3; cases dstB n o.dst <;> rfl
    | true =>
      rw [Option.bind_some, if_pos rfl]
      unfold vk2
      cases vop tab o e O with
      | none => rfl
      | some r => rw [Option.bind_some]; unfold vk3; cases dstB n o.dst <;> rfl
theorem vk1_true : vk1 tab n ops o l e O (some true) = vk2 tab n ops o.dst l e (vop tab o e O) := rfl
theorem vk1_false : vk1 tab n ops o l e O (some false) = vk3 tab n ops l (putM o.dst undefM e) O (dstB n o.dst) := rfl
theorem vk2_some : vk2 tab n ops d l e (some (m, O')) = vk3 tab n ops l (putM d m e) O' (dstB n d) := rfl
theorem vk3_true : vk3 tab n ops l e O true = vrunL tab n ops l e O := rfl
theorem putM_some (k : Nat) : putM (some k) m e = (k, m) :: e := rfl
theorem putM_none : putM none m e = e := rfl
theorem dstB_some (k : Nat) : dstB n (some k) = decide (k < n) := rfl
theorem dstB_none : dstB n none = true := rfl
end
section
variable {tab : Tab} {fn : Func} {R : VRes → VH → Prop} {e : Env} {O : VH} {m m' : MV} {t t' : Nat}
theorem EndQ.ret0 (hf : fn.results = #[]) (h : R (.ret (.tuple [])) O) : EndQ tab fn R .ret e O := ⟨_, by rw [vresults, hf]; rfl, h⟩
theorem EndQ.ret1 (hf : fn.results = #[.tmp t]) (hl : look e t = some m) (h : R (.ret m) O) : EndQ tab fn R .ret e O := ⟨_, by rw [vresults, hf]; simp [vresult, hl], h⟩
theorem EndQ.ret2 (hf : fn.results = #[.tmp t, .tmp t']) (hl : look e t = some m) (hl' : look e t' = some m') (h : R (.ret (.tuple [m, m'])) O) : EndQ tab fn R .ret e O := ⟨_, by rw [vresults, hf]; simp [vresult, hl, hl'], h⟩
theorem EndQ.nor0 (hf : fn.results = #[]) (h : R (.ret (.tuple [])) O) : EndQ tab fn R .normal e O := ⟨_, by rw [vresults, hf]; rfl, h⟩
end
end Go.Proofs.YtjbpnhmjnkolbaaDoor
