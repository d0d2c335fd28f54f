/-
  THE VALUE MACHINE, 10: what each operation comes to, for the walk's own rewriting; pruning.
-/
import Derived.Test.YtjbpnhmjnkolbaaDoorV9
set_option linter.unusedVariables false
set_option linter.unusedSimpArgs false
namespace Go.Proofs.YtjbpnhmjnkolbaaDoor
open Go.RowKit

section
variable {G H : Gh} {n : Nat} {D : List Deferred} {e e' : Env} {a : Act} {P : Program} {tab : Tab} {O O' : VH} {w : World} {m m' : MV} {u v : Value} {ops : Array Oper} {Q : VQ}
variable {d : Option Tmp} {t t' ty : TypeId} {p : String} {af : Array Edge} {g : Option (Nat × Bool)} {x y z : Operand}

theorem ev_tmp (k : Nat) : ev e (.tmp k) = look e k := rfl
theorem ev_int (k : IntKind) (i : Int) : ev e (.const (.int k i)) = some (.v (.int k i)) := rfl
theorem ev_bool (b : Bool) : ev e (.const (.bool b)) = some (.v (.bool b)) := rfl
theorem ev_str (s : ByteArray) : ev e (.const (.string s)) = some (.str s.data.toList) := rfl
theorem ev_nilsl : ev e (.const (.slice none 0 0)) = some (.sl 0 [] .nil) := rfl
theorem ev_nilptr : ev e (.const (.pointer none)) = some (.v (.pointer none)) := rfl
theorem ev_nilmap : ev e (.const (.map none)) = some (.v (.map none)) := rfl
theorem ev_niliface : ev e (.const .nilIface) = some (.v .nilIface) := rfl
theorem ev_nilfunc : ev e (.const .nilFunc) = some (.v .nilFunc) := rfl
theorem ev_func (f : FuncId) : ev e (.func f) = some (.func (.func f) [] []) := rfl
theorem look_same (k : Nat) (m : MV) (r : Env) : look ((k, m) :: r) k = some m := by simp [look]
theorem look_cons (k j : Nat) (m : MV) (r : Env) : look ((k, m) :: r) j = bif j == k then some m else look r j := rfl
theorem evs_nil : evs e [] = some [] := rfl
theorem evs_cons (x : Operand) (l : List Operand) : evs e (x :: l) = (ev e x).bind fun m => (evs e l).map (m :: ·) := by
  simp only [evs, List.mapM_cons, Option.bind_eq_bind]
  cases ev e x with
  | none => rfl
  | some m => cases List.mapM (ev e) l <;> rfl

private theorem sil {o : Oper} {r : Option MV} (h : vsil tab o e = r) (hl : vloud tab o e O = none) : vop tab o e O = r.map (·, O) := by
  unfold vop; rw [h]; cases r <;> simp [hl]
theorem vop_move : vop tab (.mk d (.move x) ty p af g) e O = (ev e x).map (·, O) := sil rfl rfl
theorem vop_assign : vop tab (.mk d (.assign x) ty p af g) e O = (ev e x).map (·, O) := sil rfl rfl
theorem vop_pick {c : Operand} {b : Bool} (h : ev e c = some (.v (.bool b))) : vop tab (.mk d (.pick c x y) ty p af g) e O = (if b then ev e x else ev e y).map (·, O) := by
  refine sil ?_ rfl
  simp [vsil, h]
theorem vop_nilCheck : vop tab (.mk d (.nilCheck x) ty p af g) e O = ((ev e x).bind vnil).map (·, O) := sil rfl rfl
theorem vop_binOp {op : BinOp} : vop tab (.mk d (.binOp op t x y t') ty p af g) e O = ((ev e x).bind fun q => (ev e y).bind fun r => vbin tab op t q r).map (·, O) := by
  refine sil ?_ rfl
  simp only [vsil]
  cases ev e x <;> first | rfl | (cases ev e y <;> rfl)
theorem vop_unOp {op : UnOp} : vop tab (.mk d (.unOp op t x) ty p af g) e O = ((ev e x).bind (vunary op)).map (·, O) := sil rfl rfl
theorem vop_convert : vop tab (.mk d (.convert t t' x) ty p af g) e O = ((ev e x).bind (vconv tab t t')).map (·, O) := sil rfl rfl
theorem vop_fieldAddr {f : Nat} : vop tab (.mk d (.fieldAddr t x f) ty p af g) e O = ((ev e x).bind (vfieldAddr tab t f)).map (·, O) := sil rfl rfl
theorem vop_field {f : Nat} : vop tab (.mk d (.field t x f) ty p af g) e O = ((ev e x).bind (vfield tab t · f)).map (·, O) := sil rfl rfl
theorem vop_indexAddr : vop tab (.mk d (.indexAddr t x y) ty p af g) e O = ((ev e x).bind fun q => (ev e y).bind fun r => vindexAddr tab t q r).map (·, O) := by
  refine sil ?_ rfl
  simp only [vsil]
  cases ev e x <;> first | rfl | (cases ev e y <;> rfl)
theorem vop_index : vop tab (.mk d (.index t x y) ty p af g) e O = ((ev e x).bind fun q => (ev e y).bind fun r => vindex tab t q r).map (·, O) := by
  refine sil ?_ rfl
  simp only [vsil]
  cases ev e x <;> first | rfl | (cases ev e y <;> rfl)
theorem vop_extract {i : Nat} : vop tab (.mk d (.extract x i) ty p af g) e O = ((ev e x).bind (vextract · i)).map (·, O) := sil rfl rfl
theorem vop_build {ps : Array (Nat × Operand)} : vop tab (.mk d (.build t ps) ty p af g) e O = ((evs e (ps.toList.map (·.2))).bind fun ms => vbuild tab t (zipParts ps ms)).map (·, O) := by
  refine sil ?_ rfl
  simp only [vsil]
  cases evs e (ps.toList.map (·.2)) <;> rfl
theorem vop_makeFunc {fn : Fn} {fs cs : Array Operand} : vop tab (.mk d (.makeFunc fn fs cs) ty p af g) e O = ((evs e fs.toList).bind fun q => (evs e cs.toList).map fun r => .func fn q r).map (·, O) := by
  refine sil ?_ rfl
  simp only [vsil]
  cases evs e fs.toList <;> first | rfl | (cases evs e cs.toList <;> rfl)
theorem vop_slice {lo hi : Option Operand} : vop tab (.mk d (.slice t x lo hi none) ty p af g) e O = ((ev e x).bind fun q => (vsil.evo e lo).bind fun l => (vsil.evo e hi).bind fun h => vslice tab t q l h).map (·, O) := by
  refine sil ?_ rfl
  simp only [vsil]
  cases ev e x <;> first | rfl | (cases vsil.evo e lo <;> first | rfl | (cases vsil.evo e hi <;> rfl))
theorem vop_slice3 {lo : Option Operand} {hi mx : Operand} : vop tab (.mk d (.slice t x lo (some hi) (some mx)) ty p af g) e O = ((ev e x).bind fun q => (vsil.evo e lo).bind fun l => (ev e hi).bind fun h => (ev e mx).bind (vslice3 tab t q l h)).map (·, O) := by
  refine sil ?_ rfl
  simp only [vsil, show vsil.evo e (some hi) = (ev e hi).map some from rfl]
  generalize vsil.evo e lo = z
  cases ev e x <;> cases z <;> cases ev e hi <;> rfl
theorem evo_none : vsil.evo e none = some none := rfl
theorem evo_some : vsil.evo e (some x) = (ev e x).map some := rfl
theorem vop_len : vop tab (.mk d (.call { callee := .builtin .len, args := #[x], argTypes := #[t] }) ty p af g) e O = (ev e x).bind fun q => match vlen tab t q with
    | some r => some (r, O)
    | none => (vmaplen tab O t q).map (·, O) := by
  simp only [vop, vsil, vloud]
  cases ev e x with
  | none => rfl
  | some q =>
    simp only [Option.bind_some]
    cases vlen tab t q <;> rfl
theorem vop_max {ts : Array TypeId} : vop tab (.mk d (.call { callee := .builtin .max, args := #[x, y], argTypes := ts }) ty p af g) e O = ((ev e x).bind fun q => (ev e y).bind fun r => vmax2 q r).map (·, O) := by
  refine sil ?_ rfl
  simp only [vsil]
  cases ev e x <;> first | rfl | (cases ev e y <;> rfl)
theorem vop_min {ts : Array TypeId} : vop tab (.mk d (.call { callee := .builtin .min, args := #[x, y], argTypes := ts }) ty p af g) e O = ((ev e x).bind fun q => (ev e y).bind fun r => vmin2 q r).map (·, O) := by
  refine sil ?_ rfl
  simp only [vsil]
  cases ev e x <;> first | rfl | (cases ev e y <;> rfl)
theorem vop_sdata {ts : Array TypeId} : vop tab (.mk d (.call { callee := .builtin .unsafeSliceData, args := #[x], argTypes := ts }) ty p af g) e O = ((ev e x).bind vsdata).map (·, O) := sil rfl (by simp only [vloud] <;> rfl)
theorem vop_append : vop tab (.mk d (.call { callee := .builtin .append, args := #[x, y], argTypes := #[t, t] }) ty p af g) e O = (ev e x).bind fun q => (ev e y).bind fun r => vappend tab O t q r := by
  simp only [vop, vsil, vloud, if_true]
  cases ev e x <;> first | rfl | (cases ev e y <;> rfl)
theorem vload_cptr {cs : List MV} {off : Nat} : vload tab O t (.cptr cs off) = vload tab O' t (.cptr cs off) := rfl
theorem vop_load : vop tab (.mk d (.load t x) ty p af g) e O = (ev e x).bind fun q => (vload tab O t q).map (·, O) := by
  simp only [vop, vsil, vloud]
  cases ev e x with
  | none => rfl
  | some q =>
    cases q <;> try rfl
    rename_i cs off
    simp only [Option.bind_some]
    rw [vload_cptr (O' := O)]
    cases vload tab O t (.cptr cs off) <;> rfl
theorem vop_store : vop tab (.mk d (.store t x y) ty p af g) e O = (ev e x).bind fun q => (ev e y).bind fun r => (vstore tab O t q r).map (.tuple [], ·) := by
  simp only [vop, vsil, vloud]
  cases ev e x <;> first | rfl | (cases ev e y <;> rfl)
theorem vop_box : vop tab (.mk d (.box t x) ty p af g) e O = (ev e x).map fun q => (.ptr O.next 0, O.push (.cells (mcells q))) := rfl
theorem vop_alloc : vop tab (.mk d (.alloc t) ty p af g) e O = (tab t).map fun i => (.ptr O.next 0, allocO O t i.size i.zero) := rfl
theorem vop_buildSlice {k : Nat} {ps : Array (Nat × Operand)} : vop tab (.mk d (.buildSlice t k ps) ty p af g) e O = (evs e (ps.toList.map (·.2))).bind fun ms => (vbuildSlice tab t k (zipParts ps ms)).map (·, O) := by
  simp only [vop, vsil, vloud]
  cases evs e (ps.toList.map (·.2)) <;> rfl
theorem vop_makeSlice : vop tab (.mk d (.makeSlice t x y) ty p af g) e O = (ev e x).bind fun q => (ev e y).bind fun r => vmakeSlice tab O t q r := by
  simp only [vop, vsil, vloud]
  cases ev e x <;> first | rfl | (cases ev e y <;> rfl)

theorem vop_makeMap : vop tab (.mk d (.makeMap t none) ty p af g) e O = some (.map O.next, O.push (.map [] 0)) := rfl
theorem vop_lookup {b : Bool} : vop tab (.mk d (.lookup t x y b) ty p af g) e O = (ev e x).bind fun q => (ev e y).bind fun r => (vlookup tab O t q r b).map (·, O) := by
  simp only [vop, vsil, vloud]
  cases ev e x <;> first | rfl | (cases ev e y <;> rfl)
theorem vop_mapUpdate {z : Operand} : vop tab (.mk d (.mapUpdate t x y z) ty p af g) e O = (ev e x).bind fun q => (ev e y).bind fun r => (ev e z).bind fun s => (vmapUpdate tab O t q r s).map (.tuple [], ·) := by
  simp only [vop, vsil, vloud]
  cases ev e x <;> first | rfl | (cases ev e y <;> first | rfl | (cases ev e z <;> rfl))
theorem vop_insert {z : Operand} : vop tab (.mk d (.insert t x y z) ty p af g) e O = (ev e x).bind fun q => (ev e y).bind fun r => (ev e z).bind fun s => (vmapUpdate tab O t q r s).map (.tuple [], ·) := by
  simp only [vop, vsil, vloud]
  cases ev e x <;> first | rfl | (cases ev e y <;> first | rfl | (cases ev e z <;> rfl))

section
variable {k : IntKind} {i j : Int}
theorem vbin_add : vbin tab .add t (.v (.int k i)) (.v (.int k j)) = some (.v (.int k (k.wrap (i + j)))) := by simp [vbin, vint]
theorem vbin_sub : vbin tab .sub t (.v (.int k i)) (.v (.int k j)) = some (.v (.int k (k.wrap (i - j)))) := by simp [vbin, vint]
theorem vbin_mul : vbin tab .mul t (.v (.int k i)) (.v (.int k j)) = some (.v (.int k (k.wrap (i * j)))) := by simp [vbin, vint]
theorem vbin_quo (h : j ≠ 0) : vbin tab .quo t (.v (.int k i)) (.v (.int k j)) = some (.v (.int k (k.wrap (i.tdiv j)))) := by simp [vbin, vint, h]
theorem vbin_rem (h : j ≠ 0) : vbin tab .rem t (.v (.int k i)) (.v (.int k j)) = some (.v (.int k (i.tmod j))) := by simp [vbin, vint, h]
theorem vbin_eql : vbin tab .eql t (.v (.int k i)) (.v (.int k j)) = some (.v (.bool (i == j))) := by simp [vbin, vint]
theorem vbin_neq : vbin tab .neq t (.v (.int k i)) (.v (.int k j)) = some (.v (.bool (i != j))) := by simp [vbin, vint]
theorem vbin_lss : vbin tab .lss t (.v (.int k i)) (.v (.int k j)) = some (.v (.bool (decide (i < j)))) := by simp [vbin, vint]
theorem vbin_leq : vbin tab .leq t (.v (.int k i)) (.v (.int k j)) = some (.v (.bool (decide (i ≤ j)))) := by simp [vbin, vint]
theorem vbin_gtr : vbin tab .gtr t (.v (.int k i)) (.v (.int k j)) = some (.v (.bool (decide (i > j)))) := by simp [vbin, vint]
theorem vbin_geq : vbin tab .geq t (.v (.int k i)) (.v (.int k j)) = some (.v (.bool (decide (i ≥ j)))) := by simp [vbin, vint]
theorem vun_neg : vunary .neg (.v (.int k i)) = some (.v (.int k (k.wrap (0 - i)))) := rfl
theorem vun_not {b : Bool} : vunary .not (.v (.bool b)) = some (.v (.bool !b)) := rfl
theorem wrap_i64 (h0 : -9223372036854775808 ≤ i) (h1 : i ≤ 9223372036854775807) : IntKind.i64.wrap i = i := by rw [IntKind.wrap_i64]; omega
end

/-- A row of operations one of which follows the other. -/
theorem vguard_none {r : Env} {q : Op} : vguard ops (.mk d q ty p af none) r = some true := rfl

/-- Only some slots are kept in mind. -/
def keep (l : List Nat) (e : Env) : Env := e.filter fun x => l.contains x.1
theorem look_keep (l : List Nat) : ∀ (e : Env) (t : Nat) (m : MV), look (keep l e) t = some m → look e t = some m
  | [], _, _, h => by simp [keep, look] at h
  | (k, x) :: r, t, m, h => by
    have ih := look_keep l r t m
    unfold keep at h ih
    rw [List.filter_cons] at h
    simp only [look_cons]
    split at h
    · simp only [look_cons] at h
      cases hb : t == k <;> rw [hb] at h <;> simp only [cond_true, cond_false] at h ⊢
      · exact ih h
      · exact h
    · rename_i hk
      cases hb : t == k <;> simp only [cond_true, cond_false]
      · exact ih h
      · exfalso
        have : t = k := by simpa using hb
        subst this
        have hn : ∀ (r : Env), look (List.filter (fun x => l.contains x.1) r) t ≠ some m := by
          intro r
          induction r with
          | nil => simp [look]
          | cons y r ih2 =>
            obtain ⟨k', x'⟩ := y
            rw [List.filter_cons]
            split
            · rename_i hk'
              simp only [look_cons]
              have : (t == k') = false := by
                simp only [beq_eq_false_iff_ne]
                rintro rfl
                exact hk hk'
              rw [this]; exact ih2
            · exact ih2
        exact hn r h
theorem VC.keep {c : Code} (l : List Nat) (h : VC P n D c (keep l e) O Q) : VC P n D c e O Q := VC.env h (look_keep l e)

/-- A row of operations, none of them a call of a Go function, reckoned at once. -/
def vrun (tab : Tab) (n : Nat) (ops : Array Oper) : List Nat → Env → VH → Option (Env × VH)
  | [], e, O => some (e, O)
  | i :: l, e, O => match ops[i]? with
    | none => none
    | some o => match vguard ops o e with
      | none => none
      | some true => match vop tab o e O with
        | none => none
        | some (m, O') => if dstB n o.dst then vrun tab n ops l (putM o.dst m e) O' else none
      | some false => if dstB n o.dst then vrun tab n ops l (putM o.dst undefM e) O else none
theorem VOps.run (ht : TabOk P tab) : ∀ {l : List Nat} {e : Env} {O : VH}, vrun tab n ops l e O = some (e', O') → Q .normal e' O' → VOps P n D ops l e O Q
  | [], e, O, h, hQ => by
    simp only [vrun, Option.some.injEq, Prod.mk.injEq] at h
    obtain ⟨rfl, rfl⟩ := h
    exact VOps.nil hQ
  | i :: l, e, O, h, hQ => by
    simp only [vrun] at h
    split at h
    · cases h
    · rename_i o ho
      split at h
      · cases h
      · rename_i hg
        split at h
        · cases h
        · rename_i m O2 hv
          split at h
          · rename_i hd
            exact VOps.step ht ho hg hv hd (VOps.run ht h hQ)
          · cases h
      · rename_i hg
        split at h
        · rename_i hd
          exact VOps.skip ho hg hd (VOps.run ht h hQ)
        · cases h
theorem VOps.runs (ht : TabOk P tab) : ∀ {l : List Nat} {l' : List Nat} {e : Env} {O : VH}, vrun tab n ops l e O = some (e', O') → VOps P n D ops l' e' O' Q → VOps P n D ops (l ++ l') e O Q
  | [], l', e, O, h, hQ => by
    simp only [vrun, Option.some.injEq, Prod.mk.injEq] at h
    obtain ⟨rfl, rfl⟩ := h
    exact hQ
  | i :: l, l', e, O, h, hQ => by
    simp only [vrun] at h
    split at h
    · cases h
    · rename_i o ho
      split at h
      · cases h
      · rename_i hg
        split at h
        · cases h
        · rename_i m O2 hv
          split at h
          · rename_i hd
            exact VOps.step ht ho hg hv hd (VOps.runs ht h hQ)
          · cases h
      · rename_i hg
        split at h
        · rename_i hd
          exact VOps.skip ho hg hd (VOps.runs ht h hQ)
        · cases h

/-- A whole region, reckoned at once. -/
def vrunL (tab : Tab) (n : Nat) (ops : Array Oper) : List Oper → Env → VH → Option (Env × VH)
  | [], e, O => some (e, O)
  | o :: l, e, O => (vguard ops o e).bind fun b => if b then (vop tab o e O).bind fun r => if dstB n o.dst then vrunL tab n ops l (putM o.dst r.1 e) r.2 else none
      else if dstB n o.dst then vrunL tab n ops l (putM o.dst undefM e) O else none
theorem vrunL_nil : vrunL tab n ops [] e O = some (e, O) := rfl
theorem vrunL_cons {o : Oper} {l : List Oper} : vrunL tab n ops (o :: l) e O = (vguard ops o e).bind fun b => if b then (vop tab o e O).bind fun r => if dstB n o.dst then vrunL tab n ops l (putM o.dst r.1 e) r.2 else none
      else if dstB n o.dst then vrunL tab n ops l (putM o.dst undefM e) O else none := rfl
theorem vguard_some {q : Op} {j : Nat} {b : Bool} : vguard ops (.mk d q ty p af (some (j, b))) e = match (ops[j]?).bind (·.dst) with
    | some k => match look e k with
      | some (.v (.bool c)) => some (c == b)
      | some (.tuple []) => some false
      | _ => none
    | none => none := rfl
theorem VOps.runL (ht : TabOk P tab) : ∀ (l : List Oper) (k : Nat) {l' : List Nat} {e : Env} {O : VH}, (∀ j, l[j]? = none ∨ l[j]? = ops[k + j]?) → vrunL tab n ops l e O = some (e', O') → VOps P n D ops l' e' O' Q → VOps P n D ops (List.range' k l.length ++ l') e O Q
  | [], k, l', e, O, hl, h, hQ => by
    simp only [vrunL, Option.some.injEq, Prod.mk.injEq] at h
    obtain ⟨rfl, rfl⟩ := h
    exact hQ
  | o :: l, k, l', e, O, hl, h, hQ => by
    have ho : ops[k]? = some o := by
      rcases hl 0 with h0 | h0
      · cases h0
      · simpa using h0.symm
    have hl' : ∀ j, l[j]? = none ∨ l[j]? = ops[k + 1 + j]? := fun j => by
      rcases hl (j + 1) with h0 | h0
      · exact .inl (by simpa using h0)
      · exact .inr (by rw [show k + 1 + j = k + (j + 1) from by omega]; simpa using h0)
    rw [vrunL_cons] at h
    obtain ⟨b, hg, h⟩ := Option.bind_eq_some_iff.1 h
    rw [List.length_cons, List.range'_succ, List.cons_append]
    cases b with
    | true =>
      rw [if_pos rfl] at h
      obtain ⟨⟨m, O2⟩, hv, h⟩ := Option.bind_eq_some_iff.1 h
      split at h
      · exact VOps.step ht ho hg hv ‹_› (VOps.runL ht l (k + 1) hl' h hQ)
      · cases h
    | false =>
      rw [if_neg (by decide)] at h
      split at h
      · exact VOps.skip ho hg ‹_› (VOps.runL ht l (k + 1) hl' h hQ)
      · cases h
theorem VC.regionRun (ht : TabOk P tab) {id : Nat} {l : List Oper} (h : vrunL tab n ⟨l⟩ l e O = some (e', O')) (hQ : Q .normal e' O') : VC P n D (.region id ⟨l⟩ false) e O Q := by
  refine VC.region ?_
  have := VOps.runL (D := D) (Q := Q) (ops := ⟨l⟩) ht l 0 (l' := []) (fun j => .inr (by simp)) h (VOps.nil hQ)
  rw [List.append_nil] at this
  rw [show (⟨l⟩ : Array Oper).size = l.length from rfl, List.range_eq_range']
  exact this
/-- A region's first operations; then one by itself; then the rest. -/
theorem VC.regionPre (ht : TabOk P tab) {id : Nat} {l : List Oper} (k : Nat) (h : vrunL tab n ⟨l⟩ (l.take k) e O = some (e', O')) (hQ : VOps P n D ⟨l⟩ (List.range' (l.take k).length (l.length - (l.take k).length)) e' O' Q) : VC P n D (.region id ⟨l⟩ false) e O Q := by
  refine VC.region ?_
  have := VOps.runL (D := D) (Q := Q) (ops := ⟨l⟩) ht (l.take k) 0 (fun j => by
    rw [List.getElem?_take, Nat.zero_add]
    split
    · exact .inr (by simp)
    · exact .inl rfl) h hQ
  rw [show (⟨l⟩ : Array Oper).size = l.length from rfl, List.range_eq_range']
  have hr : List.range' 0 l.length = List.range' 0 (l.take k).length ++ List.range' (l.take k).length (l.length - (l.take k).length) := by
    have := List.range'_append_1 (s := 0) (m := (l.take k).length) (n := l.length - (l.take k).length)
    rw [Nat.zero_add] at this
    rw [this]; congr 1; simp; omega
  rw [hr]
  exact this
theorem VOps.more (ht : TabOk P tab) {l : List Oper} {k c : Nat} (j : Nat) (h : vrunL tab n ⟨l⟩ ((l.drop k).take j) e O = some (e', O')) (hc : ((l.drop k).take j).length ≤ c) (hQ : VOps P n D ⟨l⟩ (List.range' (k + ((l.drop k).take j).length) (c - ((l.drop k).take j).length)) e' O' Q) : VOps P n D ⟨l⟩ (List.range' k c) e O Q := by
  have := VOps.runL (D := D) (Q := Q) (ops := ⟨l⟩) ht ((l.drop k).take j) k (fun i => by
    rw [List.getElem?_take]
    split
    · exact .inr (by simp [List.getElem?_drop])
    · exact .inl rfl) h hQ
  have hr := List.range'_append_1 (s := k) (m := ((l.drop k).take j).length) (n := c - ((l.drop k).take j).length)
  rw [hr] at this
  rw [show c = ((l.drop k).take j).length + (c - ((l.drop k).take j).length) from by omega]
  exact this
theorem VC.condT {c : Operand} {x y : Code} (hc : ev e c = some (.v (.bool true))) (h : VC P n D x e O Q) : VC P n D (.cond c x y) e O Q := VC.cond hc (fun _ => h) (fun h => by cases h)
theorem VC.condF {c : Operand} {x y : Code} (hc : ev e c = some (.v (.bool false))) (h : VC P n D y e O Q) : VC P n D (.cond c x y) e O Q := VC.cond hc (fun h => by cases h) (fun _ => h)

/-! ### What is used of types -/
section
variable {el : TypeId} {a b c d : Nat} {z y : List MV} {u : TypeDesc}
theorem vlen_sl {k : Nat} {cs : List MV} {tk : Tok} (h : tab t = some ⟨.slice el, a, b, z⟩) : vlen tab t (.sl k cs tk) = some (.v (.int .i64 k)) := by simp [vlen, h]
theorem vlen_asl {k o i j : Nat} (h : tab t = some ⟨.slice el, a, b, z⟩) : vlen tab t (.asl k o i j) = some (.v (.int .i64 i)) := by simp [vlen, h]
theorem vlen_str {l : List UInt8} (h : tab t = some ⟨.string, a, b, z⟩) : vlen tab t (.str l) = some (.v (.int .i64 l.length)) := by simp [vlen, h]
theorem vix_sl {k : Nat} {cs : List MV} {tk : Tok} {kk : IntKind} {i : Int} (h : tab t = some ⟨.slice el, a, b, z⟩) (h2 : tab el = some ⟨u, c, d, y⟩) (h0 : 0 ≤ i) (h1 : i < (k : Int)) :
    vindexAddr tab t (.sl k cs tk) (.v (.int kk i)) = some (.cptr cs (i.toNat * c)) := by simp [vindexAddr, h, h2, h0, h1]
theorem vix_asl {k o len cap : Nat} {kk : IntKind} {i : Int} (h : tab t = some ⟨.slice el, a, b, z⟩) (h2 : tab el = some ⟨u, c, d, y⟩) (h0 : 0 ≤ i) (h1 : i < (len : Int)) :
    vindexAddr tab t (.asl k o len cap) (.v (.int kk i)) = some (.ptr k (o + i.toNat * c)) := by simp [vindexAddr, h, h2, h0, h1]
theorem vload_c {cs : List MV} {off : Nat} (h : tab t = some ⟨u, c, d, y⟩) (hu : isAggB u = false) : vload tab O t (.cptr cs off) = cs[off]? := by simp [vload, cellsOf, h, vcell, hu]
theorem vload_p {cs : List MV} {k off : Nat} (h : tab t = some ⟨u, c, d, y⟩) (hu : isAggB u = false) (hk : O.hp k = some (.cells cs)) : vload tab O t (.ptr k off) = cs[off]? := by simp [vload, cellsOf, hk, h, vcell, hu]
theorem vload_pa {cs : List MV} {k off : Nat} (h : tab t = some ⟨u, c, d, y⟩) (hu : isAggB u = true) (hk : O.hp k = some (.cells cs)) (hl : off + c ≤ cs.length) : vload tab O t (.ptr k off) = some (.agg ((cs.drop off).take c)) := by simp [vload, cellsOf, hk, h, vcell, hu, hl]
theorem vstore_p {cs : List MV} {k off : Nat} {m : MV} (h : tab t = some ⟨u, 1, d, y⟩) (hm : mcells m = [m]) (hlf : leafB m = true) (hk : O.hp k = some (.cells cs)) (hl : off < cs.length) : vstore tab O t (.ptr k off) m = some (O.set k (.cells (cs.set off m))) := by
  simp [vstore, hk, h, hm, hlf, setMany]; omega
end
end
end Go.Proofs.YtjbpnhmjnkolbaaDoor
