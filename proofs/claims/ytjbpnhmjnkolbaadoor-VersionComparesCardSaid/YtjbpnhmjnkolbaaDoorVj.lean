/-
  THE VALUE MACHINE, 21: what each operation comes to, told by the types' rows alone, for the walk by rewriting.
-/
import Derived.Test.YtjbpnhmjnkolbaaDoorVi
set_option linter.unusedVariables false
set_option linter.unusedSimpArgs false
namespace Go.Proofs.YtjbpnhmjnkolbaaDoor
open Go.RowKit

section
variable {tab : Tab} {t t' el : TypeId} {O : VH} {a b c d a' b' k o n off : Nat} {z y z' : List MV} {u : TypeDesc} {cs ds : List MV} {tk : Tok} {l : List UInt8} {m q : MV} {i j : Int} {kk kk' : IntKind} {x : Value}

def lenT : Option TyI → MV → Option MV
  | some ⟨.string, _, _, _⟩, .str l => some (.v (.int .i64 l.length))
  | some ⟨.slice _, _, _, _⟩, .sl n _ _ => some (.v (.int .i64 n))
  | some ⟨.slice _, _, _, _⟩, .asl _ _ n _ => some (.v (.int .i64 n))
  | some ⟨.map _ _, _, _, _⟩, .v (.map none) => some (.v (.int .i64 0))
  | some ⟨.array n _, _, _, _⟩, _ => some (.v (.int .i64 n))
  | _, _ => none
theorem vlenT : vlen tab t m = lenT (tab t) m := by
  unfold vlen lenT
  cases tab t with
  | none => rfl
  | some r => obtain ⟨d, _, _, _⟩ := r; cases d <;> cases m <;> first | rfl | (rename_i v; cases v <;> first | rfl | (rename_i q; cases q <;> rfl))
theorem lenT_str : lenT (some ⟨.string, a, b, z⟩) (.str l) = some (.v (.int .i64 l.length)) := rfl
theorem lenT_sl : lenT (some ⟨.slice el, a, b, z⟩) (.sl n cs tk) = some (.v (.int .i64 n)) := rfl
theorem lenT_asl : lenT (some ⟨.slice el, a, b, z⟩) (.asl k o n c) = some (.v (.int .i64 n)) := rfl
theorem lenT_nil : lenT (some ⟨.map t t', a, b, z⟩) (.v (.map none)) = some (.v (.int .i64 0)) := rfl
theorem lenT_map : lenT (some ⟨.map t t', a, b, z⟩) (.map k) = none := rfl
theorem lenT_arr : lenT (some ⟨.array n el, a, b, z⟩) m = some (.v (.int .i64 n)) := by cases m <;> rfl
theorem len_some {m2 : MV} {s : Option (MV × VH)} : (match some m2 with
    | some r => some (r, O)
    | none => s) = some (m2, O) := rfl
def wlen (O : VH) (s : Option (MV × VH)) : Option MV → Option (MV × VH)
  | some r => some (r, O)
  | none => s
theorem wlen_some {s : Option (MV × VH)} : wlen O s (some m) = some (m, O) := rfl
theorem wlen_none {s : Option (MV × VH)} : wlen O s none = s := rfl
theorem vop_lenT {e : Env} {d : Option Tmp} {x : Operand} {ty : TypeId} {p : String} {af : Array Edge} {g : Option (Nat × Bool)} : vop tab (.mk d (.call { callee := .builtin .len, args := #[x], argTypes := #[t] }) ty p af g) e O = (ev e x).bind fun q => wlen O ((vmaplen tab O t q).map (·, O)) (lenT (tab t) q) := by
  rw [vop_len]
  cases ev e x with
  | none => rfl
  | some q =>
    simp only [Option.bind_some, vlenT]
    cases lenT (tab t) q <;> rfl

/-! ### Addresses -/
def ixT (tab : Tab) (m ix : MV) : Option TyI → Option MV
  | some r => match ix, r.under, m with
    | .v (.int _ i), .slice el, .sl n cells _ => match tab el with
      | some te => if 0 ≤ i ∧ i < (n : Int) then some (.cptr cells (i.toNat * te.size)) else none
      | none => none
    | .v (.int _ i), .slice el, .asl k o n _ => match tab el with
      | some te => if 0 ≤ i ∧ i < (n : Int) then some (.ptr k (o + i.toNat * te.size)) else none
      | none => none
    | .v (.int _ i), .array len el, x => match tab el with
      | some te => if 0 ≤ i ∧ i < (len : Int) then maddr (i.toNat * te.size) x else none
      | none => none
    | _, _, _ => none
  | none => none
theorem vixT : vindexAddr tab t m q = ixT tab m q (tab t) := by
  unfold vindexAddr ixT
  cases h : tab t with
  | none => cases q <;> first | rfl | (rename_i v; cases v <;> rfl)
  | some r =>
    obtain ⟨d, _, _, _⟩ := r
    cases q <;> first | rfl | skip
    rename_i v
    cases v <;> first | rfl | skip
    cases d <;> cases m <;> rfl
def ixS (i : Int) (n : Nat) (cs : List MV) : Option TyI → Option MV
  | some te => if 0 ≤ i ∧ i < (n : Int) then some (.cptr cs (i.toNat * te.size)) else none
  | none => none
def ixR (i : Int) (n k o : Nat) : Option TyI → Option MV
  | some te => if 0 ≤ i ∧ i < (n : Int) then some (.ptr k (o + i.toNat * te.size)) else none
  | none => none
def ixA (i : Int) (n : Nat) (m : MV) : Option TyI → Option MV
  | some te => if 0 ≤ i ∧ i < (n : Int) then maddr (i.toNat * te.size) m else none
  | none => none
theorem ixT_sl : ixT tab (.sl n cs tk) (.v (.int kk i)) (some ⟨.slice el, a, b, z⟩) = ixS i n cs (tab el) := by unfold ixT ixS; rfl
theorem ixT_asl : ixT tab (.asl k o n c) (.v (.int kk i)) (some ⟨.slice el, a, b, z⟩) = ixR i n k o (tab el) := by unfold ixT ixR; rfl
theorem ixT_arr : ixT tab m (.v (.int kk i)) (some ⟨.array n el, a, b, z⟩) = ixA i n m (tab el) := by unfold ixT ixA; cases m <;> rfl
theorem ixS_ok (h0 : 0 ≤ i) (h1 : i < (n : Int)) : ixS i n cs (some ⟨u, a, b, z⟩) = some (.cptr cs (i.toNat * a)) := if_pos ⟨h0, h1⟩
theorem ixR_ok (h0 : 0 ≤ i) (h1 : i < (n : Int)) : ixR i n k o (some ⟨u, a, b, z⟩) = some (.ptr k (o + i.toNat * a)) := if_pos ⟨h0, h1⟩
theorem ixA_ok (h0 : 0 ≤ i) (h1 : i < (n : Int)) : ixA i n m (some ⟨u, a, b, z⟩) = maddr (i.toNat * a) m := if_pos ⟨h0, h1⟩
theorem maddr_p : maddr a (.ptr k o) = some (.ptr k (o + a)) := rfl
theorem maddr_c : maddr a (.cptr cs o) = some (.cptr cs (o + a)) := rfl
def inT (l : List UInt8) (i : Int) : Option TyI → Option MV
  | some ⟨.string, _, _, _⟩ => if 0 ≤ i then (l[i.toNat]?).map byM else none
  | _ => none
theorem vinT : vindex tab t (.str l) (.v (.int kk i)) = inT l i (tab t) := by
  unfold vindex inT
  cases tab t with
  | none => rfl
  | some r => obtain ⟨d, _, _, _⟩ := r; cases d <;> rfl
theorem inT_ok (h : 0 ≤ i) : inT l i (some ⟨.string, a, b, z⟩) = (l[i.toNat]?).map byM := if_pos h

/-! ### Loads and stores -/
def ldT (off : Nat) : Option TyI → Option VObj → Option MV
  | some r, some (.cells cs) => vcell (isAggB r.under) r.size cs off
  | _, _ => none
theorem vldP : vload tab O t (.ptr k off) = ldT off (tab t) (O.hp k) := by
  unfold vload ldT
  simp only [cellsOf]
  cases tab t <;> first | rfl | (cases O.hp k <;> first | rfl | (rename_i x; cases x <;> rfl))
theorem vldC : vload tab O t (.cptr cs off) = ldT off (tab t) (some (.cells cs)) := by
  unfold vload ldT cellsOf
  cases tab t <;> rfl
theorem ldT_ok : ldT off (some ⟨u, a, b, z⟩) (some (.cells cs)) = vcell (isAggB u) a cs off := rfl
theorem vcell_f : vcell false a cs off = cs[off]? := rfl
theorem vcell_t (h : off + a ≤ cs.length) : vcell true a cs off = some (.agg ((cs.drop off).take a)) := by simp [vcell, h]
theorem agB_bool : isAggB .bool = false := rfl
theorem agB_int : isAggB (.int kk) = false := rfl
theorem agB_str : isAggB .string = false := rfl
theorem agB_ptr : isAggB (.pointer t) = false := rfl
theorem agB_sl : isAggB (.slice t) = false := rfl
theorem agB_map : isAggB (.map t t') = false := rfl
theorem agB_arr : isAggB (.array n t) = true := rfl
theorem agB_if {ms : Array (String × TypeId)} : isAggB (.interface ms) = false := rfl
theorem agB_fn {ps rs : Array TypeId} {v : Bool} : isAggB (.func ps rs v) = false := rfl
def stT (O : VH) (k off : Nat) (m : MV) : Option TyI → Option VObj → Option VH
  | some r, some (.cells cs) => if (mcells m).length = r.size ∧ (mcells m).all leafB = true ∧ off + r.size ≤ cs.length then some (O.set k (.cells (setMany cs off (mcells m)))) else none
  | _, _ => none
theorem vstT : vstore tab O t (.ptr k off) m = stT O k off m (tab t) (O.hp k) := by
  unfold vstore stT
  cases tab t with
  | none => rfl
  | some r =>
    simp only
    cases O.hp k with
    | none => rfl
    | some x => cases x <;> rfl
theorem stT_1 {m : MV} (hm : mcells m = [m]) (hl : leafB m = true) (h : off < cs.length) : stT O k off m (some ⟨u, 1, b, z⟩) (some (.cells cs)) = some (O.set k (.cells (cs.set off m))) := by
  show (if (mcells m).length = 1 ∧ (mcells m).all leafB = true ∧ off + 1 ≤ cs.length then some (O.set k (.cells (setMany cs off (mcells m)))) else none) = _
  rw [if_pos ⟨by rw [hm]; rfl, by rw [hm]; simpa using hl, by omega⟩, hm]; rfl
theorem stT_v (h : off < cs.length) : stT O k off (.v x) (some ⟨u, 1, b, z⟩) (some (.cells cs)) = some (O.set k (.cells (cs.set off (.v x)))) := stT_1 rfl rfl h
theorem stT_s (h : off < cs.length) : stT O k off (.str l) (some ⟨u, 1, b, z⟩) (some (.cells cs)) = some (O.set k (.cells (cs.set off (.str l)))) := stT_1 rfl rfl h
theorem stT_p (h : off < cs.length) : stT O k off (.ptr c o) (some ⟨u, 1, b, z⟩) (some (.cells cs)) = some (O.set k (.cells (cs.set off (.ptr c o)))) := stT_1 rfl rfl h
theorem stT_c (h : off < cs.length) : stT O k off (.cptr ds o) (some ⟨u, 1, b, z⟩) (some (.cells cs)) = some (O.set k (.cells (cs.set off (.cptr ds o)))) := stT_1 rfl rfl h
theorem stT_sl (h : off < cs.length) : stT O k off (.sl n ds tk) (some ⟨u, 1, b, z⟩) (some (.cells cs)) = some (O.set k (.cells (cs.set off (.sl n ds tk)))) := stT_1 rfl rfl h
theorem stT_asl (h : off < cs.length) : stT O k off (.asl c o n d) (some ⟨u, 1, b, z⟩) (some (.cells cs)) = some (O.set k (.cells (cs.set off (.asl c o n d)))) := stT_1 rfl rfl h
theorem stT_map (h : off < cs.length) : stT O k off (.map c) (some ⟨u, 1, b, z⟩) (some (.cells cs)) = some (O.set k (.cells (cs.set off (.map c)))) := stT_1 rfl rfl h
theorem stT_if (h : off < cs.length) : stT O k off (.iface t m) (some ⟨u, 1, b, z⟩) (some (.cells cs)) = some (O.set k (.cells (cs.set off (.iface t m)))) := stT_1 rfl rfl h
theorem stT_fn {fn : Fn} (h : off < cs.length) : stT O k off (.func fn ds z') (some ⟨u, 1, b, z⟩) (some (.cells cs)) = some (O.set k (.cells (cs.set off (.func fn ds z')))) := stT_1 rfl rfl h
theorem stT_agg (h1 : ds.length = a) (h2 : ds.all leafB = true) (h : off + a ≤ cs.length) : stT O k off (.agg ds) (some ⟨u, a, b, z⟩) (some (.cells cs)) = some (O.set k (.cells (setMany cs off ds))) := if_pos ⟨h1, h2, h⟩
theorem setMany_nil : setMany cs off [] = cs := rfl
theorem setMany_cons : setMany cs off (m :: ds) = setMany (cs.set off m) (off + 1) ds := rfl
theorem leaf_v : leafB (.v x) = true := rfl
theorem leaf_s : leafB (.str l) = true := rfl
theorem leaf_p : leafB (.ptr k o) = true := rfl
theorem leaf_c : leafB (.cptr cs o) = true := rfl
theorem leaf_sl : leafB (.sl n cs tk) = true := rfl
theorem leaf_asl : leafB (.asl k o n c) = true := rfl
theorem leaf_map : leafB (.map k) = true := rfl
theorem leaf_if : leafB (.iface t m) = true := rfl
theorem leaf_fn {fn : Fn} : leafB (.func fn cs ds) = true := rfl
/-! ### The heap -/
section
variable {X : VObj} {k' : Nat} {s : Nat}
theorem hp_set (h : k' = k) : (O.set k X).hp k' = some X := by subst h; exact VH.set_get _ _ _
theorem hp_set_ne (h : k' ≠ k) : (O.set k X).hp k' = O.hp k' := VH.set_ne _ _ h
theorem hp_push (h : k' = O.next) : (O.push X).hp k' = some X := by subst h; exact VH.push_new _ _
theorem hp_push_ne (h : k' ≠ O.next) : (O.push X).hp k' = O.hp k' := VH.push_ne _ _ h
theorem hp_kill_ne (h : k' ≠ k) : (O.kill k).hp k' = O.hp k' := VH.kill_ne _ h
theorem next_set : (O.set k X).next = O.next := rfl
theorem next_push : (O.push X).next = O.next + 1 := rfl
theorem next_kill : (O.kill k).next = O.next := rfl
end
theorem vop_allocT {e : Env} {d : Option Tmp} {ty : TypeId} {p : String} {af : Array Edge} {g : Option (Nat × Bool)} : vop tab (.mk d (.alloc t) ty p af g) e O = (tab t).map fun i => (.ptr O.next 0, allocO O t i.size i.zero) := rfl
def alB (O : VH) (t : TypeId) (n : Nat) (z : List MV) : Bool → VH
  | true => (O.push (.cells z)).push (.shape O.next t n)
  | false => O.push (.cells z)
theorem allocO_eq : allocO O t n z = alB O t n z (isBldB z) := by unfold allocO alB; cases isBldB z <;> rfl
theorem alB_t : alB O t n z true = (O.push (.cells z)).push (.shape O.next t n) := rfl
theorem alB_f : alB O t n z false = O.push (.cells z) := rfl
theorem bld_t : isBldB [.v (.pointer none), .sl 0 [] .nil] = true := rfl
theorem bld_0 : isBldB [] = false := rfl
theorem bld_1 : isBldB [m] = false := by unfold isBldB; split <;> first | rfl | simp_all
theorem bld_3 {m1 m2 m3 : MV} : isBldB (m1 :: m2 :: m3 :: z) = false := by unfold isBldB; split <;> first | rfl | simp_all
theorem bld_int : isBldB [.v (.int kk i), m] = false := by unfold isBldB; split <;> first | rfl | simp_all
theorem bld_bool {b : Bool} : isBldB [.v (.bool b), m] = false := by unfold isBldB; split <;> first | rfl | simp_all
theorem bld_str : isBldB [.str l, m] = false := by unfold isBldB; split <;> first | rfl | simp_all
theorem bld_sl : isBldB [.sl n cs tk, m] = false := by unfold isBldB; split <;> first | rfl | simp_all
theorem bld_s2 : isBldB [m, .str l] = false := by unfold isBldB; split <;> first | rfl | simp_all
theorem bld_v2 : isBldB [m, .v x] = false := by unfold isBldB; split <;> first | rfl | simp_all
/-! ### Slicing -/
def slT (tab : Tab) (x : MV) (l h : Option MV) : Option TyI → Option MV
  | some ⟨.string, _, _, _⟩ => match x with
    | .str s => match vbound 0 l, vbound s.length h with
      | some lo, some hi => if lo ≤ hi ∧ hi ≤ s.length then some (.str ((s.drop lo).take (hi - lo))) else none
      | _, _ => none
    | _ => none
  | some ⟨.slice el, _, _, _⟩ => match x with
    | .sl n cells tk => match tab el, vbound 0 l, vbound n h with
      | some te, some lo, some hi =>
        if lo = 0 ∧ hi = n then some (.sl n cells tk)
        else if lo ≤ hi ∧ hi ≤ n ∧ cells.length = n * te.size then some (.sl (hi - lo) ((cells.drop (lo * te.size)).take ((hi - lo) * te.size)) (cutTok tk te.size (hi == n))) else none
      | _, _, _ => none
    | .asl k o n c => match tab el, vbound 0 l, vbound n h with
      | some te, some lo, some hi => if lo ≤ hi ∧ hi ≤ c then some (.asl k (if c = lo then o else o + lo * te.size) (hi - lo) (c - lo)) else none
      | _, _, _ => none
    | _ => none
  | _ => none
theorem vslT {l h : Option MV} : vslice tab t m l h = slT tab m l h (tab t) := by
  unfold vslice slT
  cases tab t with
  | none => rfl
  | some r => obtain ⟨d, _, _, _⟩ := r; cases d <;> cases m <;> rfl
theorem slT_s (h0 : 0 ≤ i) (h1 : i ≤ j) (h2 : j ≤ (l.length : Int)) : slT tab (.str l) (some (.v (.int kk i))) (some (.v (.int kk' j))) (some ⟨.string, a, b, z⟩) = some (.str ((l.drop i.toNat).take (j.toNat - i.toNat))) := by
  have e1 : 0 ≤ j := by omega
  simp only [slT, vbound, if_pos h0, if_pos e1]
  rw [if_pos ⟨by omega, by omega⟩]
theorem slT_s1 (h0 : 0 ≤ i) (h1 : i ≤ (l.length : Int)) : slT tab (.str l) (some (.v (.int kk i))) none (some ⟨.string, a, b, z⟩) = some (.str (l.drop i.toNat)) := by
  simp only [slT, vbound, if_pos h0]
  rw [if_pos ⟨by omega, by omega⟩, List.take_of_length_le (by simp)]
theorem slT_s2 (h1 : 0 ≤ j) (h2 : j ≤ (l.length : Int)) : slT tab (.str l) none (some (.v (.int kk j))) (some ⟨.string, a, b, z⟩) = some (.str (l.take j.toNat)) := by
  simp only [slT, vbound, if_pos h1]
  rw [if_pos ⟨by omega, by omega⟩]; simp
def slA (k o lo hi c : Nat) : Option TyI → Option MV
  | some te => some (.asl k (if c = lo then o else o + lo * te.size) (hi - lo) (c - lo))
  | none => none
theorem slT_a (h0 : 0 ≤ i) (h1 : i ≤ j) (h2 : j ≤ (c : Int)) : slT tab (.asl k o n c) (some (.v (.int kk i))) (some (.v (.int kk' j))) (some ⟨.slice el, a, b, z⟩) = slA k o i.toNat j.toNat c (tab el) := by
  have e1 : 0 ≤ j := by omega
  simp only [slT, vbound, if_pos h0, if_pos e1, slA]
  cases tab el with
  | none => rfl
  | some te => simp only; rw [if_pos ⟨by omega, by omega⟩]
theorem slT_a1 (h0 : 0 ≤ i) (h1 : i ≤ (n : Int)) (h2 : n ≤ c) : slT tab (.asl k o n c) (some (.v (.int kk i))) none (some ⟨.slice el, a, b, z⟩) = slA k o i.toNat n c (tab el) := by
  simp only [slT, vbound, if_pos h0, slA]
  cases tab el with
  | none => rfl
  | some te => simp only; rw [if_pos ⟨by omega, h2⟩]
theorem slT_a2 (h1 : 0 ≤ j) (h2 : j ≤ (c : Int)) : slT tab (.asl k o n c) none (some (.v (.int kk j))) (some ⟨.slice el, a, b, z⟩) = slA k o 0 j.toNat c (tab el) := by
  simp only [slT, vbound, if_pos h1, slA]
  cases tab el with
  | none => rfl
  | some te => simp only; rw [if_pos ⟨by omega, by omega⟩]
theorem slA_0 : slA k o 0 n c (some ⟨u, a, b, z⟩) = some (.asl k o n c) := by
  simp only [slA]
  congr 2
  split <;> simp
theorem slA_ne {lo hi : Nat} (h : c ≠ lo) : slA k o lo hi c (some ⟨u, a, b, z⟩) = some (.asl k (o + lo * a) (hi - lo) (c - lo)) := by
  simp only [slA, if_neg h]
theorem slA_eq {lo hi : Nat} (h : c = lo) : slA k o lo hi c (some ⟨u, a, b, z⟩) = some (.asl k o (hi - lo) (c - lo)) := by
  simp only [slA, if_pos h]
def slS (n lo hi : Nat) (cs : List MV) (tk : Tok) : Option TyI → Option MV
  | some te => if lo = 0 ∧ hi = n then some (.sl n cs tk)
        else if lo ≤ hi ∧ hi ≤ n ∧ cs.length = n * te.size then some (.sl (hi - lo) ((cs.drop (lo * te.size)).take ((hi - lo) * te.size)) (cutTok tk te.size (hi == n))) else none
  | none => none
theorem slT_gen {l h : Option MV} {lo hi : Nat} (hl : vbound 0 l = some lo) (hh : vbound n h = some hi) : slT tab (.sl n cs tk) l h (some ⟨.slice el, a, b, z⟩) = slS n lo hi cs tk (tab el) := by
  show (match tab el, vbound 0 l, vbound n h with
      | some te, some lo, some hi =>
        if lo = 0 ∧ hi = n then some (MV.sl n cs tk)
        else if lo ≤ hi ∧ hi ≤ n ∧ cs.length = n * te.size then some (.sl (hi - lo) ((cs.drop (lo * te.size)).take ((hi - lo) * te.size)) (cutTok tk te.size (hi == n))) else none
      | _, _, _ => none) = _
  rw [hl, hh]; cases tab el <;> rfl
theorem slT_l (h0 : 0 ≤ i) (h1 : 0 ≤ j) : slT tab (.sl n cs tk) (some (.v (.int kk i))) (some (.v (.int kk' j))) (some ⟨.slice el, a, b, z⟩) = slS n i.toNat j.toNat cs tk (tab el) := slT_gen (if_pos h0) (if_pos h1)
theorem slT_l1 (h0 : 0 ≤ i) : slT tab (.sl n cs tk) (some (.v (.int kk i))) none (some ⟨.slice el, a, b, z⟩) = slS n i.toNat n cs tk (tab el) := slT_gen (if_pos h0) rfl
theorem slT_l2 (h0 : 0 ≤ j) : slT tab (.sl n cs tk) none (some (.v (.int kk j))) (some ⟨.slice el, a, b, z⟩) = slS n 0 j.toNat cs tk (tab el) := slT_gen rfl (if_pos h0)
theorem slT_l0 : slT tab (.sl n cs tk) none none (some ⟨.slice el, a, b, z⟩) = slS n 0 n cs tk (tab el) := slT_gen rfl rfl
theorem slS_all {lo hi : Nat} (h0 : lo = 0) (h1 : hi = n) : slS n lo hi cs tk (some ⟨u, a, b, z⟩) = some (.sl n cs tk) := if_pos ⟨h0, h1⟩
theorem slS_part {lo hi : Nat} (h : lo ≠ 0 ∨ hi ≠ n) (h1 : lo ≤ hi) (h2 : hi ≤ n) (h3 : cs.length = n * a) : slS n lo hi cs tk (some ⟨u, a, b, z⟩) = some (.sl (hi - lo) ((cs.drop (lo * a)).take ((hi - lo) * a)) (cutTok tk a (hi == n))) := by
  simp only [slS]
  rw [if_neg (by omega), if_pos ⟨h1, h2, h3⟩]
def sl3A (k o lo hi m c : Nat) : Option TyI → Option MV
  | some te => some (.asl k (if m = lo then o else o + lo * te.size) (hi - lo) (m - lo))
  | none => none
def sl3T (tab : Tab) (x : MV) (l : Option MV) (h mx : MV) : Option TyI → Option MV
  | some ⟨.slice el, _, _, _⟩ => vslice3 (fun s => if s = 0 then some ⟨.slice 1, 0, 0, []⟩ else tab el) 0 x l h mx
  | _ => none
theorem sl3_a (h : tab t = some ⟨.slice el, a, b, z⟩) (h' : tab el = some ⟨u, a', b', z'⟩) {m : Int} (h0 : 0 ≤ i) (h1 : i ≤ j) (h2 : j ≤ m) (h3 : m ≤ (c : Int)) : vslice3 tab t (.asl k o n c) (some (.v (.int kk i))) (.v (.int kk' j)) (.v (.int kk m)) = some (.asl k (if m.toNat = i.toNat then o else o + i.toNat * a') (j.toNat - i.toNat) (m.toNat - i.toNat)) := by
  simp only [vslice3, h, h', Option.map_some, vbound, if_pos h0]
  rw [if_pos ⟨by omega, by omega, by omega, by omega⟩, if_pos (by omega)]
/-! ### Conversions -/
def cvT (x : MV) : Option TyI → Option TyI → Option MV
  | some _, some ⟨.int k, _, _, _⟩ => match x with
    | .v (.int _ i) => some (.v (.int k (k.wrap i)))
    | _ => none
  | some ⟨.string, _, _, _⟩, some ⟨.string, _, _, _⟩ => match x with
    | .str l => some (.str l)
    | _ => none
  | _, _ => none
theorem vcvT : vconv tab t t' m = cvT m (tab t) (tab t') := by
  unfold vconv cvT
  cases tab t with
  | none => rfl
  | some r =>
    obtain ⟨d, _, _, _⟩ := r
    cases tab t' with
    | none => cases d <;> rfl
    | some r' =>
      obtain ⟨d', _, _, _⟩ := r'
      cases d' <;> first
        | (cases d <;> rfl)
        | (cases m <;> first | (cases d <;> rfl) | (rename_i v; cases v <;> cases d <;> rfl))
theorem cvT_int {k' : IntKind} {r : TyI} : cvT (.v (.int kk i)) (some r) (some ⟨.int k', a, b, z⟩) = some (.v (.int k' (k'.wrap i))) := rfl
theorem cvT_str : cvT (.str l) (some ⟨.string, a, b, z⟩) (some ⟨.string, a', b', z'⟩) = some (.str l) := rfl
theorem cvT_sb : cvT m (some ⟨.string, a, b, z⟩) (some ⟨.slice el, a', b', z'⟩) = none := rfl
theorem cvT_bs : cvT m (some ⟨.slice el, a, b, z⟩) (some ⟨.string, a', b', z'⟩) = none := rfl
theorem cvT_pu : cvT m (some ⟨.pointer el, a, b, z⟩) (some ⟨.unsafePointer, a', b', z'⟩) = none := rfl
theorem cvT_up : cvT m (some ⟨.unsafePointer, a, b, z⟩) (some ⟨.pointer el, a', b', z'⟩) = none := rfl
/-! ### Literals -/
def zipL : List (Nat × Operand) → List MV → List (Nat × MV)
  | (i, _) :: l, m :: ms => (i, m) :: zipL l ms
  | _, _ => []
theorem zipPartsL (l : List (Nat × Operand)) (ms : List MV) : zipParts l.toArray ms = zipL l ms := by
  unfold zipParts
  simp only
  induction l generalizing ms with
  | nil => cases ms <;> rfl
  | cons p l ih => cases ms with
    | nil => rfl
    | cons m ms => obtain ⟨i, x⟩ := p; simp only [List.map_cons, List.zip_cons_cons, zipL]; rw [ih]
theorem zipL_nil {ms : List MV} : zipL [] ms = [] := by cases ms <;> rfl
theorem zipL_cons {x : Operand} {l : List (Nat × Operand)} {ms : List MV} : zipL ((n, x) :: l) (m :: ms) = (n, m) :: zipL l ms := rfl
def flT (pl : Nat → Option (Nat × Nat)) (cs : List MV) (x : MV) (rest : List (Nat × MV)) : Option (Nat × Nat) → Option (List MV)
  | none => none
  | some (off, size) => if (mcells x).length = size ∧ off + size ≤ cs.length then vfill pl (setMany cs off (mcells x)) rest else none
def placeL (l : List (Nat × Nat)) (i : Nat) : Option (Nat × Nat) := l[i]?
theorem placeL_0 {p : Nat × Nat} {l : List (Nat × Nat)} : placeL (p :: l) 0 = some p := rfl
theorem placeL_s {p : Nat × Nat} {l : List (Nat × Nat)} : placeL (p :: l) (n + 1) = placeL l n := rfl
def placeR (a : Nat) (k : Nat) : Option (Nat × Nat) := some (k * a, a)
theorem placeR_eq : placeR a k = some (k * a, a) := rfl
theorem vfill_nil {pl : Nat → Option (Nat × Nat)} : vfill pl cs [] = some cs := rfl
theorem vfill_cons {pl : Nat → Option (Nat × Nat)} {rest : List (Nat × MV)} : vfill pl cs ((n, m) :: rest) = flT pl cs m rest (pl n) := by
  rw [vfill]; cases h : pl n <;> rfl
theorem flT_ok {pl : Nat → Option (Nat × Nat)} {rest : List (Nat × MV)} (h : (mcells m).length = a ∧ off + a ≤ cs.length) : flT pl cs m rest (some (off, a)) = vfill pl (setMany cs off (mcells m)) rest := if_pos h
def bsT (tab : Tab) (len : Nat) (parts : List (Nat × MV)) : Option TyI → Option MV
  | some ⟨.slice el, _, _, _⟩ => match tab el with
    | some te => if 0 < len * te.size ∧ len * te.size ≤ 16777216 ∧ 0 < te.zero.length ∧ len ≤ maxLen then
        (vfill (fun k => some (k * te.size, te.size)) (vzeros te.zero (len * te.size)) parts).map fun cs => .sl len cs .full
      else if len = 0 ∧ parts = [] then some (.sl 0 [] .full) else none
    | none => none
  | _ => none
theorem vbsT {parts : List (Nat × MV)} : vbuildSlice tab t n parts = bsT tab n parts (tab t) := by
  unfold vbuildSlice bsT
  cases tab t with
  | none => rfl
  | some r => obtain ⟨d, _, _, _⟩ := r; cases d <;> rfl
def bsE (n : Nat) (parts : List (Nat × MV)) : Option TyI → Option MV
  | some te => if 0 < n * te.size ∧ n * te.size ≤ 16777216 ∧ 0 < te.zero.length ∧ n ≤ maxLen then
        (vfill (fun k => some (k * te.size, te.size)) (vzeros te.zero (n * te.size)) parts).map fun cs => .sl n cs .full
      else if n = 0 ∧ parts = [] then some (.sl 0 [] .full) else none
  | none => none
theorem bsT_sl {parts : List (Nat × MV)} : bsT tab n parts (some ⟨.slice el, a, b, z⟩) = bsE n parts (tab el) := by unfold bsT bsE; rfl
theorem bsE_0 {r : TyI} : bsE 0 [] (some r) = some (.sl 0 [] .full) := by simp [bsE]
theorem vzeros_rep (h : z.length = a) (h0 : 0 < a) : ∀ n, vzeros z (n * a) = (List.replicate n z).flatten := by
  intro n
  induction n with
  | zero => simp [vzeros]
  | succ n ih =>
    rw [List.replicate_succ', List.flatten_append, ← ih]
    simp only [vzeros, Nat.succ_mul]
    rw [List.range_add, List.map_append]
    congr 1
    subst h
    simp only [List.map_map, List.flatten_cons, List.flatten_nil, List.append_nil]
    apply List.ext_getElem?
    intro i
    simp only [List.getElem?_map, List.getElem?_range]
    by_cases hi : i < z.length
    · simp [hi, Nat.mod_eq_of_lt hi]
    · simp [List.getElem?_eq_none (Nat.le_of_not_lt hi), hi]
def repL : Nat → List MV → List MV
  | 0, _ => []
  | n + 1, z => z ++ repL n z
theorem repL_eq : ∀ n, (List.replicate n z).flatten = repL n z
  | 0 => rfl
  | n + 1 => by rw [List.replicate_succ, List.flatten_cons, repL_eq n]; rfl
theorem repL_1 : repL 1 z = z := by simp [repL]
theorem repL_2 : repL 2 z = z ++ z := by simp [repL]
theorem repL_3 : repL 3 z = z ++ (z ++ z) := by simp [repL]
theorem repL_4 : repL 4 z = z ++ (z ++ (z ++ z)) := by simp [repL]
theorem repL_5 : repL 5 z = z ++ (z ++ (z ++ (z ++ z))) := by simp [repL]
theorem repL_6 : repL 6 z = z ++ (z ++ (z ++ (z ++ (z ++ z)))) := by simp [repL]
theorem repL_7 : repL 7 z = z ++ (z ++ (z ++ (z ++ (z ++ (z ++ z))))) := by simp [repL]
theorem repL_8 : repL 8 z = z ++ (z ++ (z ++ (z ++ (z ++ (z ++ (z ++ z)))))) := by simp [repL]
theorem bsE_ok {parts : List (Nat × MV)} (h : z.length = a) (h0 : 0 < n * a) (h1 : n * a ≤ 16777216) : bsE n parts (some ⟨u, a, b, z⟩) = (vfill (placeR a) (repL n z) parts).map (MV.sl n · .full) := by
  have ha : 0 < a := by rcases Nat.eq_zero_or_pos a with e | e; · subst e; omega
                        · exact e
  have hn : n ≤ maxLen := by
    have : n * 1 ≤ n * a := Nat.mul_le_mul_left _ ha
    simp [maxLen]; omega
  rw [← repL_eq, ← vzeros_rep h ha]
  exact if_pos ⟨h0, h1, by show 0 < z.length; omega, hn⟩
/-! ### Arithmetic -/
def bT (b : Bool) : Option TyI → Option MV
  | some ⟨.bool, _, _, _⟩ => some (.v (.bool b))
  | _ => none
theorem vbin_beq {a b : Bool} : vbin tab .eql t (.v (.bool a)) (.v (.bool b)) = bT (a == b) (tab t) := by
  simp only [vbin, bT]
  cases tab t with
  | none => rfl
  | some r => obtain ⟨d, _, _, _⟩ := r; cases d <;> rfl
theorem vbin_bne {a b : Bool} : vbin tab .neq t (.v (.bool a)) (.v (.bool b)) = bT (!(a == b)) (tab t) := by
  simp only [vbin, bT]
  cases tab t with
  | none => rfl
  | some r => obtain ⟨d, _, _, _⟩ := r; cases d <;> rfl
theorem bT_ok {p : Bool} : bT p (some ⟨.bool, a, b, z⟩) = some (.v (.bool p)) := rfl
def pT (b : Bool) : Option TyI → Option MV
  | some ⟨.pointer _, _, _, _⟩ => some (.v (.bool b))
  | _ => none
theorem pT_ok {p : Bool} : pT p (some ⟨.pointer el, a, b, z⟩) = some (.v (.bool p)) := rfl
theorem vptr_e {p : Bool} : vptr tab .eql t p = pT p (tab t) := by
  simp only [vptr, pT]
  cases tab t with
  | none => rfl
  | some r => obtain ⟨d, _, _, _⟩ := r; cases d <;> rfl
theorem vptr_n {p : Bool} : vptr tab .neq t p = pT (!p) (tab t) := by
  simp only [vptr, pT]
  cases tab t with
  | none => rfl
  | some r => obtain ⟨d, _, _, _⟩ := r; cases d <;> rfl
section
variable {op : BinOp} {la lb : List UInt8}
theorem vbin_pnn : vbin tab op t (.v (.pointer none)) (.v (.pointer none)) = vptr tab op t true := by cases op <;> rfl
theorem vbin_ppn : vbin tab op t (.ptr k o) (.v (.pointer none)) = vptr tab op t false := by cases op <;> rfl
theorem vbin_pnp : vbin tab op t (.v (.pointer none)) (.ptr k o) = vptr tab op t false := by cases op <;> rfl
theorem vbin_pcn : vbin tab op t (.cptr cs o) (.v (.pointer none)) = vptr tab op t false := by cases op <;> rfl
theorem vbin_pnc : vbin tab op t (.v (.pointer none)) (.cptr cs o) = vptr tab op t false := by cases op <;> rfl
theorem vbin_agg : vbin tab op t (.agg cs) (.agg ds) = none := by cases op <;> rfl
theorem vbin_seq : vbin tab .eql t (.str la) (.str lb) = some (.v (.bool (la == lb))) := rfl
theorem vbin_sne : vbin tab .neq t (.str la) (.str lb) = some (.v (.bool (!(la == lb)))) := rfl
theorem vbin_slt : vbin tab .lss t (.str la) (.str lb) = some (.v (.bool (Op.bytesLess la lb))) := rfl
theorem vbin_sle : vbin tab .leq t (.str la) (.str lb) = some (.v (.bool (Op.bytesLess la lb || la == lb))) := rfl
theorem vbin_sgt : vbin tab .gtr t (.str la) (.str lb) = some (.v (.bool (!(Op.bytesLess la lb || la == lb)))) := rfl
theorem vbin_sge : vbin tab .geq t (.str la) (.str lb) = some (.v (.bool (!(Op.bytesLess la lb)))) := rfl
theorem vbin_sadd (h : la.length + lb.length ≤ 9223372036854775807) : vbin tab .add t (.str la) (.str lb) = some (.str (la ++ lb)) := if_pos h
end
theorem vbin_psame (h : tab t = some ⟨.pointer el, a, b, z⟩) {s : Nat} (h' : tab el = some ⟨u, s + 1, b', z'⟩) {op : BinOp} : vbin tab op t (.ptr k o) (.ptr k o) = vptr tab op t true := by
  cases op <;> simp [vbin, h, h', vptr]
theorem byM_def (b : UInt8) : byM b = .v (.int .u8 b.toNat) := rfl
theorem tn_add {n k : Nat} : ((n : Int) + (k : Int)).toNat = n + k := by omega
theorem tn_add1 {n : Nat} : ((n : Int) + 1).toNat = n + 1 := by omega
theorem tn_add2 {n : Nat} : ((n : Int) + 2).toNat = n + 2 := by omega
theorem tn_sub1 {n : Nat} : ((n : Int) - 1).toNat = n - 1 := by omega
theorem cast_dec {n : Nat} : ((n + 1 : Nat) : Int) - 1 = n := by omega
theorem wrap_k {k : IntKind} {i : Int} (h : k.min ≤ i ∧ i ≤ k.max) : k.wrap i = i := by
  cases k <;> simp only [IntKind.min, IntKind.max, IntKind.signed, IntKind.bits] at h <;> simp only [IntKind.wrap, IntKind.signed, IntKind.bits] <;> simp at h ⊢ <;> omega
theorem wrapU8 (h0 : 0 ≤ i) (h1 : i ≤ 255) : IntKind.u8.wrap i = i := by
  simp only [IntKind.wrap, IntKind.signed, IntKind.bits]; simp; omega
theorem wrapU64 (h0 : 0 ≤ i) (h1 : i ≤ 18446744073709551615) : IntKind.u64.wrap i = i := by
  simp only [IntKind.wrap, IntKind.signed, IntKind.bits]; simp; omega
theorem vshr_ok (h : 0 ≤ j) : vbin tab .shr t (.v (.int kk i)) (.v (.int kk' j)) = some (.v (.int kk (i.fdiv (2 ^ (min j.toNat kk.bits))))) := by
  have : ¬ j < 0 := by omega
  simp [vbin, vshift, this]
theorem vand_ok : vbin tab .and t (.v (.int kk i)) (.v (.int kk j)) = some (.v (.int kk (kk.wrap (BitVec.ofInt kk.bits i &&& BitVec.ofInt kk.bits j).toNat))) := by simp [vbin, vint]
theorem vrem_ok (h : j ≠ 0) : vbin tab .rem t (.v (.int kk i)) (.v (.int kk j)) = some (.v (.int kk (i.tmod j))) := vbin_rem h
theorem vquo_ok (h : j ≠ 0) : vbin tab .quo t (.v (.int kk i)) (.v (.int kk j)) = some (.v (.int kk (kk.wrap (i.tdiv j)))) := vbin_quo h
end
end Go.Proofs.YtjbpnhmjnkolbaaDoor
