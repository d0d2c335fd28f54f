/-
  Texts VerV, one behind the other.
-/
import Derived.Test.YtjbpnhmjnkolbaaDoorMJ
/-
  ref.Parts, walked: rows beside one another; the first loop.
-/
set_option linter.unusedVariables false
set_option linter.unusedSimpArgs false
namespace Go.Proofs.YtjbpnhmjnkolbaaDoor
open Go.RowKit
set_option maxRecDepth 10000

theorem textS_M {n : Sz} {D : List Deferred} {e : Env} {P : Program} {tab : Tab} {O : VH} (ht : TabOk P tab) {d : Option Tmp} {src dst el : TypeId} {x : Operand} {ty : TypeId} {ps : String} {af : Array Edge} {g : Option (Nat × Bool)} {nn : Nat} {cs : List MV} {tk : Tok} {l : List UInt8}
    (hx : ev e x = some (.sl nn cs tk)) (hs : (tab src).map TyI.under = some (.slice el)) (hds : (tab dst).map TyI.under = some .string) (he : (tab el).map TyI.under = some (.int .u8)) (hn : nn = l.length) (hcs : cs = l.map byM) :
    YieldsM P n D (.mk d (.convert src dst x) ty ps af g) e O fun m O' => m = .str l ∧ O' = O := by
  subst hn hcs
  intro G a w hw hf
  obtain ⟨u, w', H, hr, h1, h2, h3, _⟩ := textS_ok (P := P) ht hw hs hds he (hf.ev hx)
  exact ⟨_, _, u, w', H, ⟨rfl, rfl⟩, by simp only [execOp, Sem.run_bind, hr]; rfl, h1, h2, h3⟩
theorem GR.other {O O' : VH} {el el' : TypeId} {sz sz' B B' n n' : Nat} {L L' : List MV} {p q : MV} (h : GR O el sz B q n L) (hp : GR O el' sz' B' p n' L') (hd : ∀ a, gid p = some a → gid q ≠ some a) (hu : Upd O (gid p) O') (hge : gid p = none → O.Ge O') : GR O' el sz B q n L := by
  rcases hp with ⟨_, _, rfl | rfl⟩ | ⟨k, c, rfl, _, _, hr⟩
  · exact h.keepN (Upd.ofGe (hge rfl))
  · exact h.keepN (Upd.ofGe (hge rfl))
  · refine h.keep hu (hd k rfl) fun k' t n e => ?_
    obtain ⟨sp, h1, _⟩ := hr.cells
    rw [h1] at e; cases e
theorem GR.hi {O : VH} {el : TypeId} {sz B n a : Nat} {L : List MV} {p : MV} (h : GR O el sz B p n L) (ha : gid p = some a) : B ≤ a ∧ a < O.next := by
  rcases h with ⟨_, _, rfl | rfl⟩ | ⟨k, c, rfl, _, _, hr⟩
  · cases ha
  · cases ha
  · injection ha with ha; subst ha; exact ⟨hr.lo, hr.hi⟩
/-- What stands below a row stands when it has grown. -/
theorem GR.below {O O' : VH} {el : TypeId} {sz B n i : Nat} {L : List MV} {p : MV} (h : GR O el sz B p n L) (hu : Upd O (gid p) O') (hge : gid p = none → O.Ge O') (hi : i < B) (hn : i < O.next) : O'.hp i = O.hp i := by
  cases hg : gid p with
  | none => exact (hge hg).hp i hn
  | some a =>
    have := (h.hi hg).1
    exact hu.hp i hn (by rw [hg]; intro e; injection e; omega)
theorem GR.geB {O O1 O' : VH} {el : TypeId} {sz B n : Nat} {L : List MV} {p : MV} (h : GR O1 el sz B p n L) (hg : O.Ge O1) (hu : Upd O1 (gid p) O') (hge : gid p = none → O1.Ge O') (hB : O.next ≤ B) : O.Ge O' := by
  cases hp : gid p with
  | none => exact hg.trans (hge hp)
  | some a => rw [hp] at hu; exact hu.ge hg (Nat.le_trans hB (h.hi hp).1)
/-- A part as the reference's first loop leaves it. -/
def rawM (q : Piece) : List MV := [mb (!q.1.all isD), mb q.2.1, .str q.1]
def nearM (q : Piece) : List MV := [mb q.2.2]
theorem raw_len (L : List Piece) : (L.flatMap rawM).length = L.length * 3 := by
  induction L with
  | nil => rfl
  | cons p L ih => rw [List.flatMap_cons, List.length_append, ih, List.length_cons]; simp [rawM]; omega
theorem near_len (L : List Piece) : (L.flatMap nearM).length = L.length * 1 := by
  induction L with
  | nil => rfl
  | cons p L ih => rw [List.flatMap_cons, List.length_append, ih, List.length_cons]; simp [nearM]; omega
theorem count_all (w : List UInt8) : (w.countP isD < w.length) ↔ w.all isD = false := by
  have h := List.countP_le_length (p := isD) (l := w)
  constructor
  · intro hl
    cases ha : w.all isD with
    | false => rfl
    | true =>
      rw [List.all_eq_true] at ha
      have := List.countP_eq_length.2 ha
      omega
  · intro ha
    rcases Nat.lt_or_eq_of_le h with h1 | h1
    · exact h1
    · have := List.countP_eq_length.1 h1
      rw [← List.all_eq_true] at this
      rw [this] at ha; cases ha
theorem isMk_lo (c : UInt8) : isMk (lo c) = isMk c := by
  unfold lo
  split
  · have h1 : c ≠ 46 := fun e => by subst e; revert ‹_ ∧ _›; decide
    have h2 : c ≠ 45 := fun e => by subst e; revert ‹_ ∧ _›; decide
    have h3 : UInt8.ofNat (c.toNat + 32) ≠ 46 := fun e => by
      have := congrArg UInt8.toNat e
      rw [UInt8.toNat_ofNat'] at this
      simp at this; omega
    have h4 : UInt8.ofNat (c.toNat + 32) ≠ 45 := fun e => by
      have := congrArg UInt8.toNat e
      rw [UInt8.toNat_ofNat'] at this
      simp at this; omega
    have b : ∀ x y : UInt8, x ≠ y → (x == y) = false := fun x y h => by simpa using h
    unfold isMk
    rw [b _ _ h1, b _ _ h2, b _ _ h3, b _ _ h4]
  · rfl
theorem isD_lo (c : UInt8) : isD (lo c) = isD c := by
  unfold lo
  split
  · unfold isD
    rw [UInt8.toNat_ofNat']
    have e : ∀ a b : Bool, (a = true ↔ b = true) → a = b := by decide
    apply e
    simp only [Bool.and_eq_true, decide_eq_true_eq]
    omega
  · rfl
/-- What the first loop holds: the pieces that are ready, the part's hyphen and text. -/
structure RS (O : VH) (B k : Nat) (C : List Piece) (w hy : Bool) (cur : List UInt8) (ml mn : MV) : Prop where
  row : GR O 30 3 B ml C.length (C.flatMap rawM)
  near : GR O 4 1 B mn C.length (C.flatMap nearM)
  apart : ∀ a, gid ml = some a → gid mn ≠ some a
  part : O.hp k = some (.cells [mb w, mb hy, .str cur])
  le : k < B
  bnd : B ≤ O.next
theorem RS.set {O : VH} {B k : Nat} {C : List Piece} {w w' hy hy' : Bool} {cur cur' : List UInt8} {ml mn : MV} (h : RS O B k C w hy cur ml mn) : RS (O.set k (.cells [mb w', mb hy', .str cur'])) B k C w' hy' cur' ml mn := by
  have hsh : ∀ k' t n, O.hp k ≠ some (.shape k' t n) := fun k' t n e => by rw [h.part] at e; cases e
  have hl := h.le
  exact ⟨h.row.keep Upd.set (fun e => by have := (h.row.hi e).1; omega) hsh, h.near.keep Upd.set (fun e => by have := (h.near.hi e).1; omega) hsh, h.apart, VH.set_get _ _ _, h.le, h.bnd⟩
def curS (l : List UInt8) (i fr : Nat) : List UInt8 := (l.drop fr).take (i - fr)
theorem curS_succ {l : List UInt8} {i fr : Nat} (h : fr ≤ i) (hi : i < l.length) : curS l (i + 1) fr = curS l i fr ++ [l.getD i 0] := by
  unfold curS
  rw [show i + 1 - fr = (i - fr) + 1 from by omega, List.take_add_one, List.getElem?_drop, show fr + (i - fr) = i from by omega, List.getElem?_eq_getElem hi, getD_at hi]; rfl
theorem curS_nil (l : List UInt8) (i : Nat) : curS l i i = [] := by simp [curS]
set_option linter.defProp false in
def tsV := And.intro T9 <| And.intro T3 <| And.intro T4 <| And.intro T5 <| And.intro T37 <| And.intro T55 <| And.intro T25 T30
def stM (L : List UInt8) (x : Nat × MV × MV) : List MV := [x.2.1, x.2.2, mi ((curS L x.1 (cutS L x.1).2.1).countP isD), mi x.1]
theorem wordF_steps (tx : List UInt8) (nb : Bool) :
    (let t1 := if tx == [103, 97] || (tx == [102, 105, 110, 97, 108] || tx == [114, 101, 108, 101, 97, 115, 101]) then [] else tx
     let t2 := if t1 == [99, 114] then [114, 99] else t1
     let t3 := if nb && t2 == [97] then [97, 108, 112, 104, 97] else t2
     let t4 := if nb && t3 == [98] then [98, 101, 116, 97] else t3
     if nb && t4 == [109] then [109, 105, 108, 101, 115, 116, 111, 110, 101] else t4) = wordF tx nb := by
  unfold wordF
  dsimp only
  by_cases h1 : (tx == [103, 97] || (tx == [102, 105, 110, 97, 108] || tx == [114, 101, 108, 101, 97, 115, 101])) = true
  · simp only [if_pos h1]; simp
  · simp only [if_neg h1]
    by_cases h2 : (tx == [99, 114]) = true
    · simp only [if_pos h2]; simp
    · simp only [if_neg h2]
      by_cases h3 : (nb && tx == [97]) = true
      · simp only [if_pos h3]; simp
      · simp only [if_neg h3]
        by_cases h4 : (nb && tx == [98]) = true
        · simp only [if_pos h4]; simp
        · simp only [if_neg h4]
/-- The row of parts while the second loop turns it: i parts are done. -/
def prR (q : Prt) : List MV := [mb (!q.2.1), mb q.1, .str q.2.2]
theorem prR_len (L : List Prt) : (L.flatMap prR).length = L.length * 3 := by
  induction L with
  | nil => rfl
  | cons p L ih => rw [List.flatMap_cons, List.length_append, ih, List.length_cons]; simp [prR]; omega
def ceS (C : List Piece) (sp : List MV) (i : Nat) : List MV := ((C.take i).map mkV).flatMap prR ++ ((C.drop i).flatMap rawM ++ sp)
theorem ceS_0 (C : List Piece) (sp : List MV) : ceS C sp 0 = C.flatMap rawM ++ sp := by simp [ceS]
theorem ceS_at {C : List Piece} {sp : List MV} {i : Nat} (h : i < C.length) : ceS C sp i = ((C.take i).map mkV).flatMap prR ++ (mb (!C[i].1.all isD) :: mb C[i].2.1 :: .str C[i].1 :: ((C.drop (i + 1)).flatMap rawM ++ sp)) := by
  rw [ceS, List.drop_eq_getElem_cons h]; rfl
theorem ceS_l {C : List Piece} {i : Nat} (h : i ≤ C.length) : (((C.take i).map mkV).flatMap prR).length = i * 3 := by rw [prR_len, List.length_map, List.length_take, Nat.min_eq_left h]
theorem ceS_set {C : List Piece} {sp : List MV} {i : Nat} (h : i < C.length) : (ceS C sp i).set (i * 3 + 2) (.str (mkV C[i]).2.2) = ceS C sp (i + 1) := by
  rw [ceS_at h, ceS, take_snoc _ _ h, List.map_append, List.flatMap_append, List.append_assoc, List.set_append_right _ _ (by rw [ceS_l (Nat.le_of_lt h)]; omega), ceS_l (Nat.le_of_lt h), show i * 3 + 2 - i * 3 = 2 from by omega]
  rfl
theorem ceS_get {C : List Piece} {sp : List MV} {i j : Nat} (h : i < C.length) : (ceS C sp i)[i * 3 + j]? = (mb (!C[i].1.all isD) :: mb C[i].2.1 :: .str C[i].1 :: ((C.drop (i + 1)).flatMap rawM ++ sp))[j]? := by
  rw [ceS_at h, List.getElem?_append_right (by rw [ceS_l (Nat.le_of_lt h)]; omega), ceS_l (Nat.le_of_lt h), show i * 3 + j - i * 3 = j from by omega]
theorem near_get (C : List Piece) (sp : List MV) (i : Nat) (h : i < C.length) : (C.flatMap nearM ++ sp)[i]? = some (mb C[i].2.2) := by
  rw [List.getElem?_append_left (by rw [near_len]; omega)]
  induction C generalizing i with
  | nil => cases h
  | cons p C ih =>
    cases i with
    | zero => rfl
    | succ i => exact ih i (by simpa using h)
/-! ### Nulls at an end, removed one by one -/
theorem hdH_trim : ∀ L : List Prt, hdH L = true → hdH (trimT L) = true
  | [], _ => rfl
  | q :: r, h => by
    rw [trimT_cons]
    split
    · rename_i hc
      rw [Bool.and_eq_true] at hc
      exact hc.2
    · exact h
theorem trim_rem (p : Prt) (B : List Prt) (hp : p.2.2 = []) (hB : hdH B = true) : ∀ A : List Prt, trimT (A ++ p :: B) = trimT (A ++ B)
  | [] => by rw [List.nil_append, trimT_cons, hp, hdH_trim B hB]; simp
  | a :: A => by rw [List.cons_append, trimT_cons, List.cons_append, trimT_cons, trim_rem p B hp hB A]
theorem tail_rem (p : Prt) (A B : List Prt) (hA : A ≠ []) (hp : p.2.2 = []) (hB : hdH B = true) : tailT (A ++ p :: B) = tailT (A ++ B) := by
  cases A with
  | nil => exact absurd rfl hA
  | cons a A => show a :: trimT (A ++ p :: B) = a :: trimT (A ++ B); rw [trim_rem p B hp hB]
def remB (L : List Prt) (i : Nat) : Bool := (L.getD i nullP).2.2 == [] && hdH (L.drop (i + 1))
theorem trim_fix : ∀ L : List Prt, (∀ i, i < L.length → remB L i = false) → trimT L = L
  | [], _ => rfl
  | p :: r, h => by
    have ih := trim_fix r fun i hi => by have := h (i + 1) (by simpa using hi); simpa [remB] using this
    have h0 := h 0 (by simp)
    have h1 : (p.2.2 == [] && hdH r) = false := by simpa [remB] using h0
    rw [trimT_cons, ih, h1]; simp
theorem tail_fix (L : List Prt) (h : ∀ i, 1 ≤ i → i < L.length → remB L i = false) : tailT L = L := by
  cases L with
  | nil => rfl
  | cons p r =>
    show p :: trimT r = p :: r
    rw [trim_fix r fun i hi => by have := h (i + 1) (by omega) (by simpa using hi); simpa [remB] using this]
theorem first_hy (s : List UInt8) : firstF ((cutF s).map mkV) = (cutF s).map mkV := by
  have key : ∀ (r : List UInt8) (hy : Bool) (cur : List UInt8), ∃ p q, cutR hy cur r = p :: q ∧ p.2.1 = hy := by
    intro r
    induction r with
    | nil => intro hy cur; exact ⟨_, _, rfl, rfl⟩
    | cons c r ih =>
      intro hy cur
      rw [cutR]
      split
      · exact ⟨_, _, rfl, rfl⟩
      · split
        · exact ih hy [c]
        · split
          · exact ih _ _
          · exact ⟨_, _, rfl, rfl⟩
  obtain ⟨p, q, h1, h2⟩ := key s false []
  rw [cutF_cutR, h1]
  show (false, (mkV p).2) :: q.map mkV = mkV p :: q.map mkV
  rw [show (mkV p) = (p.2.1, (mkV p).2) from rfl, h2]
section
variable {α : Type} {f : α → List MV} {k : Nat}
theorem fm_len (hk : ∀ x, (f x).length = k) : ∀ L : List α, (L.flatMap f).length = L.length * k
  | [] => by simp
  | a :: L => by rw [List.flatMap_cons, List.length_append, fm_len hk L, hk, List.length_cons, Nat.succ_mul]; omega
theorem fm_drop (hk : ∀ x, (f x).length = k) : ∀ (L : List α) (i : Nat), (L.flatMap f).drop (i * k) = (L.drop i).flatMap f
  | L, 0 => by simp
  | [], i + 1 => by simp
  | a :: L, i + 1 => by
    rw [List.flatMap_cons, Nat.succ_mul, Nat.add_comm, ← List.drop_drop, List.drop_left' (hk a), fm_drop hk L i]; rfl
theorem fm_take (hk : ∀ x, (f x).length = k) (L : List α) (i : Nat) : (L.flatMap f).take (i * k) = (L.take i).flatMap f := by
  induction L generalizing i with
  | nil => simp
  | cons a L ih =>
    cases i with
    | zero => simp
    | succ i =>
      rw [List.flatMap_cons, Nat.succ_mul, Nat.add_comm, List.take_append, hk, List.take_of_length_le (by rw [hk]; omega), show k + i * k - k = i * k from by omega, ih i]; rfl
theorem fm_get (hk : ∀ x, (f x).length = k) (L : List α) (i j : Nat) (h : i < L.length) (hj : j < k) : (L.flatMap f)[i * k + j]? = (f L[i])[j]? := by
  have h1 := fm_drop hk L i
  rw [List.drop_eq_getElem_cons h, List.flatMap_cons] at h1
  rw [← List.getElem?_drop, h1, List.getElem?_append_left (by rw [hk]; exact hj)]
end
theorem prR_leaf (L : List Prt) : (L.flatMap prR).all leafB = true := by
  induction L with
  | nil => rfl
  | cons p L ih => rw [List.flatMap_cons, List.all_append, ih]; rfl
set_option maxHeartbeats 2000000 in
theorem refParts_v (s : List UInt8) (O : VH) (hs : s.length ≤ 10000) : VF Tryd.prog 14 [.str s] O (Ret fun m O' => ∃ tk, m = .sl (partsV s).length ((partsV s).flatMap prR) tk ∧ O.Ge O') := by
  have hsl : (s.map lo).length = s.length := List.length_map _
  refine VF.ofV (n := ⟨235, 0⟩) (rs := [.tmp 2]) tabOk Tryd.func14 rfl rfl rfl (Nat.le_of_ble_eq_true rfl) ?_
  simp only [argEnv, Nat.zero_add, Nat.reduceAdd]
  refine VC.seqV tabOk ?_
  simp (disch := first | omega | (simp only [ds] <;> omega) | fail) only [wk, undefM, Nat.reduceLT, Nat.reduceAdd, Nat.reduceMul, Nat.reduceSub, Nat.reduceBEq, Nat.reduceEqDiff, Int.reduceToNat, reduceIte, tsV]
  refine VC.seqV tabOk ?_
  simp (disch := first | omega | (simp only [ds] <;> omega) | fail) only [wk, undefM, Nat.reduceLT, Nat.reduceAdd, Nat.reduceMul, Nat.reduceSub, Nat.reduceBEq, Nat.reduceEqDiff, Int.reduceToNat, reduceIte, tsV]
  refine VC.seqV tabOk ?_
  simp (disch := first | omega | (simp only [ds] <;> omega) | fail) only [wk, undefM, Nat.reduceLT, Nat.reduceAdd, Nat.reduceMul, Nat.reduceSub, Nat.reduceBEq, Nat.reduceEqDiff, Int.reduceToNat, reduceIte, tsV]
  refine VC.seqV tabOk ?_
  simp (disch := first | omega | (simp only [ds] <;> omega) | fail) only [wk, undefM, Nat.reduceLT, Nat.reduceAdd, Nat.reduceMul, Nat.reduceSub, Nat.reduceBEq, Nat.reduceEqDiff, Int.reduceToNat, reduceIte, tsV]
  refine VC.seqV tabOk ?_
  simp (disch := first | omega | (simp only [ds] <;> omega) | fail) only [wk, undefM, Nat.reduceLT, Nat.reduceAdd, Nat.reduceMul, Nat.reduceSub, Nat.reduceBEq, Nat.reduceEqDiff, Int.reduceToNat, reduceIte, tsV]
  refine WC.join tabOk [3, 4] (fun x : MV × MV => [x.1, x.2]) (fun x O' => O.Ge O' ∧ ∃ hy cur, RS O' (O.next + 1) O.next (cutF (s.map lo)) false hy cur x.1 x.2) ?_ ?_
  · simp (disch := first | omega | (simp only [ds] <;> omega) | fail) only [wk, undefM, Nat.reduceLT, Nat.reduceAdd, Nat.reduceMul, Nat.reduceSub, Nat.reduceBEq, Nat.reduceEqDiff, Int.reduceToNat, reduceIte, tsV]
    refine VC.loopV [3, 4, 6, 7] [0, 5] (fun x : Nat × MV × MV => [x.2.1, x.2.2, mi ((curS (s.map lo) x.1 (cutS (s.map lo) x.1).2.1).countP isD), mi x.1]) (fun x O' => x.1 ≤ s.length + 1 ∧ O.Ge O' ∧ RS O' (O.next + 1) O.next (cutS (s.map lo) x.1).1 false (cutS (s.map lo) x.1).2.2 (curS (s.map lo) x.1 (cutS (s.map lo) x.1).2.1) x.2.1 x.2.2) (fun x => s.length + 1 - x.1) ((0, .sl 0 [] .nil, .sl 0 [] .full)) rfl rfl ?_ ?_
    · refine ⟨Nat.zero_le _, ((VH.Ge.refl O).push _).set (Nat.le_refl _) _, ?_⟩
      exact ⟨.inl ⟨rfl, rfl, .inl rfl⟩, .inl ⟨rfl, rfl, .inr rfl⟩, fun a h => (by cases h), by rw [VH.set_get]; rfl, Nat.lt_succ_self _, Nat.le_refl _⟩
    rintro ⟨i, ml, mn⟩ O1 ⟨hi, hge, hrs⟩
    dsimp only at hi hrs ⊢
    have hb := (cutS_b (s.map lo) i).1
    have hb2 := (cutS_b (s.map lo) i).2
    have hsucc := cutS_succ (s.map lo) i
    have hcS : ((s.map lo).drop (cutS (s.map lo) i).2.1).take (i - (cutS (s.map lo) i).2.1) = curS (s.map lo) i (cutS (s.map lo) i).2.1 := rfl
    rw [hcS] at hsucc
    by_cases h1 : i ≤ s.length
    · have hrs0 := hrs
      obtain ⟨hrow, hnear, hapart, hpart, -, hBn⟩ := hrs
      rcases hcs : cutS (s.map lo) i with ⟨C, fr, hy⟩
      rw [hcs] at hrow hnear hpart hb hb2 hsucc hrs0
      dsimp only at hrow hnear hpart hb hb2 hsucc hrs0 ⊢
      have hclen : (curS (s.map lo) i fr).length = i - fr := by rw [curS, List.length_take, List.length_drop, hsl]; omega
      have hcs1 : fr ≤ i → i < s.length → curS (s.map lo) (i + 1) fr = curS (s.map lo) i fr ++ [(s.map lo).getD i 0] := fun h1 h2 => curS_succ h1 (by rw [hsl]; exact h2)
      have hcnt := count_all (curS (s.map lo) i fr)
      have hcnt2 := List.countP_le_length (p := isD) (l := curS (s.map lo) i fr)
      generalize hcur : curS (s.map lo) i fr = cur at *
      generalize hd : cur.countP isD = d at *
      have hword : (decide ((d : Int) < (cur.length : Int))) = !cur.all isD := by
        have : ((d : Int) < (cur.length : Int)) ↔ cur.all isD = false := by rw [← hcnt]; omega
        cases hca : cur.all isD <;> simp [this, hca]
      by_cases h2 : i < s.length
      · have hi2 : i < s.length := h2
        have hgi := List.getElem?_eq_getElem h2
        have hgl : (s.map lo).getD i 0 = lo s[i] := by rw [getD_at (by rw [hsl]; exact h2)]; simp
        rw [if_pos (by rw [hsl]; exact h2), hgl, isMk_lo] at hsucc
        rw [hgl] at hcs1
        generalize hc : s[i] = c at *
        by_cases e1 : c.toNat = 46
        · have ec : c = 46 := UInt8.toNat_inj.1 e1
          have hmk : isMk c = true := by rw [ec]; rfl
          have h45 : (lo c == 45) = false := by rw [ec]; rfl
          rw [if_pos hmk, h45] at hsucc
          refine WC.sound tabOk ?_
          simp (disch := first | omega | (simp only [ds] <;> omega) | fail) only [ws, undefM, Nat.reduceLT, Nat.reduceAdd, Nat.reduceMul, Nat.reduceSub, Nat.reduceBEq, Nat.reduceEqDiff, Int.reduceToNat, reduceIte, tsV, hpart, hgi, byM_def]
          refine WC.plan tabOk .any [(0, .sil), (1, .sil), (2, .sil), (3, .sil), (4, .one), (5, .sil), (6, .sil), (7, .sil), (8, .sil), (9, .sil), (10, .sil), (11, .sil), (13, .sil), (14, .sil), (15, .sil), (16, .sil), (12, .one), (17, .one), (18, .sil), (19, .sil), (20, .sil)] (by simp) (by kernel_rfl) (by kernel_rfl) (by kernel_rfl) rfl ?_
          simp (disch := first | omega | (simp only [ds] <;> omega) | fail) only [ws, undefM, Nat.reduceLT, Nat.reduceAdd, Nat.reduceMul, Nat.reduceSub, Nat.reduceBEq, Nat.reduceEqDiff, Int.reduceToNat, reduceIte, tsV, hpart, hgi, byM_def]
          simp (disch := first | omega | (simp only [ds] <;> omega) | fail) only [ws, undefM, Nat.reduceLT, Nat.reduceAdd, Nat.reduceMul, Nat.reduceSub, Nat.reduceBEq, Nat.reduceEqDiff, Int.reduceToNat, reduceIte, tsV, hpart, hword, hgi, byM_def]
          generalize hO2 : O1.set O.next _ = O2
          have hkn : O.next < O2.next := by rw [← hO2]; exact Nat.lt_of_lt_of_le (Nat.lt_succ_self _) hBn
          have hB2 : O.next + 1 ≤ O2.next := by rw [← hO2]; exact hBn
          have hrow2 : GR O2 30 3 (O.next + 1) ml C.length (C.flatMap rawM) := by rw [← hO2]; exact hrow.keep Upd.set (fun e => by have := (hrow.hi e).1; omega) (fun _ _ _ e => by rw [hpart] at e; cases e)
          have hnear2 : GR O2 4 1 (O.next + 1) mn C.length (C.flatMap nearM) := by rw [← hO2]; exact hnear.keep Upd.set (fun e => by have := (hnear.hi e).1; omega) (fun _ _ _ e => by rw [hpart] at e; cases e)
          have hk2 : O2.hp O.next = some (.cells [mb (!cur.all isD), mb hy, .str cur]) := by rw [← hO2, VH.set_get]; rfl
          have hgO2 : O.Ge O2 := by rw [← hO2]; exact hge.set (Nat.le_refl _) _
          clear hO2
          refine VL.grow tabOk (.inl rfl) (te := ⟨_, 3, 24, _⟩) (dx := .slice 30) (q := .sl 1 (rawM (cur, hy, false)) .full) (j := 1) (ds := rawM (cur, hy, false)) hrow2 rfl rfl (by rw [ty25]; rfl) ty30 (by rw [ty25]; rfl) trivial (by dsimp only; omega) (by simp only [maxLen]; omega) hB2 rfl rfl rfl rfl ?_
          intro m3 O3 hg3 hu3 hge3 hnew3
          have hnear3 := hnear2.other hrow2 hapart hu3 hge3
          have hk3 := (hrow2.below hu3 hge3 (Nat.lt_succ_self _) hkn).trans hk2
          have hn3 : O2.next ≤ O3.next := hu3.next
          have hgO3 : O.Ge O3 := hrow2.geB hgO2 hu3 hge3 (Nat.le_succ _)
          have hap3 : ∀ a, gid m3 = some a → gid mn ≠ some a := by
            intro a ha hb
            rcases hnew3 with ⟨k', c', rfl, h | h⟩ | ⟨h, _⟩
            · injection ha with ha; subst ha; exact hapart _ h hb
            · injection ha with ha; subst ha
              have := (hnear2.hi hb).2
              omega
            · cases h
          simp (disch := first | omega | (simp only [ds] <;> omega) | fail) only [ws, undefM, Nat.reduceLT, Nat.reduceAdd, Nat.reduceMul, Nat.reduceSub, Nat.reduceBEq, Nat.reduceEqDiff, Int.reduceToNat, reduceIte, tsV, hk3]
          refine VL.grow tabOk (.inl rfl) (te := ⟨_, 1, 1, _⟩) (dx := .slice 4) (q := .sl 1 (nearM (cur, hy, false)) .full) (j := 1) (ds := nearM (cur, hy, false)) hnear3 rfl rfl (by rw [ty55]; rfl) ty4 (by rw [ty55]; rfl) trivial (by dsimp only; omega) (by simp only [maxLen]; omega) (Nat.le_trans hB2 hn3) rfl rfl rfl rfl ?_
          intro m4 O4 hg4 hu4 hge4 hnew4
          have hrow4 := hg3.other hnear3 (fun a ha hb => hap3 a hb ha) hu4 hge4
          have hgO4 : O.Ge O4 := hnear3.geB hgO3 hu4 hge4 (Nat.le_succ _)
          have hk4 := (hnear3.below hu4 hge4 (Nat.lt_succ_self _) (Nat.lt_of_lt_of_le hkn hn3)).trans hk3
          have hap4 : ∀ a, gid m3 = some a → gid m4 ≠ some a := by
            intro a ha hb
            rcases hnew4 with ⟨k', c', rfl, h | h⟩ | ⟨h, _⟩
            · injection hb with hb; subst hb; exact hap3 _ ha h
            · injection hb with hb; subst hb
              have := (hg3.hi ha).2
              omega
            · cases h
          simp (disch := first | omega | (simp only [ds] <;> omega) | fail) only [ws, undefM, Nat.reduceLT, Nat.reduceAdd, Nat.reduceMul, Nat.reduceSub, Nat.reduceBEq, Nat.reduceEqDiff, Int.reduceToNat, reduceIte, tsV, hk4]
          simp (disch := first | omega | (simp only [ds] <;> omega) | fail) only [ws, undefM, Nat.reduceLT, Nat.reduceAdd, Nat.reduceMul, Nat.reduceSub, Nat.reduceBEq, Nat.reduceEqDiff, Int.reduceToNat, reduceIte, tsV, hk4, hgi, byM_def]
          refine RoundQ.next (i + 1, m3, m4) rfl ?_ ?_ (by dsimp only; omega)
          · simp only [hsucc, curS_nil, List.countP_nil]
            rfl
          · refine ⟨by omega, hgO4.set (Nat.le_refl _) _, ?_⟩
            simp only [hsucc, curS_nil]
            have : RS O4 (O.next + 1) O.next (C ++ [(cur, hy, false)]) _ hy cur m3 m4 := ⟨by simpa using hrow4, by simpa using hg4, hap4, hk4, Nat.lt_succ_self _, Nat.le_trans hB2 (Nat.le_trans hn3 hu4.next)⟩
            exact this.set
        · by_cases e2 : c.toNat = 45
          · have ec : c = 45 := UInt8.toNat_inj.1 e2
            have hmk : isMk c = true := by rw [ec]; rfl
            have h45 : (lo c == 45) = true := by rw [ec]; rfl
            rw [if_pos hmk, h45] at hsucc
            refine WC.sound tabOk ?_
            simp (disch := first | omega | (simp only [ds] <;> omega) | fail) only [ws, undefM, Nat.reduceLT, Nat.reduceAdd, Nat.reduceMul, Nat.reduceSub, Nat.reduceBEq, Nat.reduceEqDiff, Int.reduceToNat, reduceIte, tsV, hpart, hgi, byM_def]
            refine WC.plan tabOk .any [(0, .sil), (1, .sil), (2, .sil), (3, .sil), (4, .one), (5, .sil), (6, .sil), (7, .sil), (8, .sil), (9, .sil), (10, .sil), (11, .sil), (13, .sil), (14, .sil), (15, .sil), (16, .sil), (12, .one), (17, .one), (18, .sil), (19, .sil), (20, .sil)] (by simp) (by kernel_rfl) (by kernel_rfl) (by kernel_rfl) rfl ?_
            simp (disch := first | omega | (simp only [ds] <;> omega) | fail) only [ws, undefM, Nat.reduceLT, Nat.reduceAdd, Nat.reduceMul, Nat.reduceSub, Nat.reduceBEq, Nat.reduceEqDiff, Int.reduceToNat, reduceIte, tsV, hpart, hgi, byM_def]
            simp (disch := first | omega | (simp only [ds] <;> omega) | fail) only [ws, undefM, Nat.reduceLT, Nat.reduceAdd, Nat.reduceMul, Nat.reduceSub, Nat.reduceBEq, Nat.reduceEqDiff, Int.reduceToNat, reduceIte, tsV, hpart, hword, hgi, byM_def]
            generalize hO2 : O1.set O.next _ = O2
            have hkn : O.next < O2.next := by rw [← hO2]; exact Nat.lt_of_lt_of_le (Nat.lt_succ_self _) hBn
            have hB2 : O.next + 1 ≤ O2.next := by rw [← hO2]; exact hBn
            have hrow2 : GR O2 30 3 (O.next + 1) ml C.length (C.flatMap rawM) := by rw [← hO2]; exact hrow.keep Upd.set (fun e => by have := (hrow.hi e).1; omega) (fun _ _ _ e => by rw [hpart] at e; cases e)
            have hnear2 : GR O2 4 1 (O.next + 1) mn C.length (C.flatMap nearM) := by rw [← hO2]; exact hnear.keep Upd.set (fun e => by have := (hnear.hi e).1; omega) (fun _ _ _ e => by rw [hpart] at e; cases e)
            have hk2 : O2.hp O.next = some (.cells [mb (!cur.all isD), mb hy, .str cur]) := by rw [← hO2, VH.set_get]; rfl
            have hgO2 : O.Ge O2 := by rw [← hO2]; exact hge.set (Nat.le_refl _) _
            clear hO2
            refine VL.grow tabOk (.inl rfl) (te := ⟨_, 3, 24, _⟩) (dx := .slice 30) (q := .sl 1 (rawM (cur, hy, false)) .full) (j := 1) (ds := rawM (cur, hy, false)) hrow2 rfl rfl (by rw [ty25]; rfl) ty30 (by rw [ty25]; rfl) trivial (by dsimp only; omega) (by simp only [maxLen]; omega) hB2 rfl rfl rfl rfl ?_
            intro m3 O3 hg3 hu3 hge3 hnew3
            have hnear3 := hnear2.other hrow2 hapart hu3 hge3
            have hk3 := (hrow2.below hu3 hge3 (Nat.lt_succ_self _) hkn).trans hk2
            have hn3 : O2.next ≤ O3.next := hu3.next
            have hgO3 : O.Ge O3 := hrow2.geB hgO2 hu3 hge3 (Nat.le_succ _)
            have hap3 : ∀ a, gid m3 = some a → gid mn ≠ some a := by
              intro a ha hb
              rcases hnew3 with ⟨k', c', rfl, h | h⟩ | ⟨h, _⟩
              · injection ha with ha; subst ha; exact hapart _ h hb
              · injection ha with ha; subst ha
                have := (hnear2.hi hb).2
                omega
              · cases h
            simp (disch := first | omega | (simp only [ds] <;> omega) | fail) only [ws, undefM, Nat.reduceLT, Nat.reduceAdd, Nat.reduceMul, Nat.reduceSub, Nat.reduceBEq, Nat.reduceEqDiff, Int.reduceToNat, reduceIte, tsV, hk3]
            refine VL.grow tabOk (.inl rfl) (te := ⟨_, 1, 1, _⟩) (dx := .slice 4) (q := .sl 1 (nearM (cur, hy, false)) .full) (j := 1) (ds := nearM (cur, hy, false)) hnear3 rfl rfl (by rw [ty55]; rfl) ty4 (by rw [ty55]; rfl) trivial (by dsimp only; omega) (by simp only [maxLen]; omega) (Nat.le_trans hB2 hn3) rfl rfl rfl rfl ?_
            intro m4 O4 hg4 hu4 hge4 hnew4
            have hrow4 := hg3.other hnear3 (fun a ha hb => hap3 a hb ha) hu4 hge4
            have hgO4 : O.Ge O4 := hnear3.geB hgO3 hu4 hge4 (Nat.le_succ _)
            have hk4 := (hnear3.below hu4 hge4 (Nat.lt_succ_self _) (Nat.lt_of_lt_of_le hkn hn3)).trans hk3
            have hap4 : ∀ a, gid m3 = some a → gid m4 ≠ some a := by
              intro a ha hb
              rcases hnew4 with ⟨k', c', rfl, h | h⟩ | ⟨h, _⟩
              · injection hb with hb; subst hb; exact hap3 _ ha h
              · injection hb with hb; subst hb
                have := (hg3.hi ha).2
                omega
              · cases h
            simp (disch := first | omega | (simp only [ds] <;> omega) | fail) only [ws, undefM, Nat.reduceLT, Nat.reduceAdd, Nat.reduceMul, Nat.reduceSub, Nat.reduceBEq, Nat.reduceEqDiff, Int.reduceToNat, reduceIte, tsV, hk4]
            simp (disch := first | omega | (simp only [ds] <;> omega) | fail) only [ws, undefM, Nat.reduceLT, Nat.reduceAdd, Nat.reduceMul, Nat.reduceSub, Nat.reduceBEq, Nat.reduceEqDiff, Int.reduceToNat, reduceIte, tsV, hk4, hgi, byM_def]
            refine RoundQ.next (i + 1, m3, m4) rfl ?_ ?_ (by dsimp only; omega)
            · simp only [hsucc, curS_nil, List.countP_nil]
              rfl
            · refine ⟨by omega, hgO4.set (Nat.le_refl _) _, ?_⟩
              simp only [hsucc, curS_nil]
              have : RS O4 (O.next + 1) O.next (C ++ [(cur, hy, false)]) _ hy cur m3 m4 := ⟨by simpa using hrow4, by simpa using hg4, hap4, hk4, Nat.lt_succ_self _, Nat.le_trans hB2 (Nat.le_trans hn3 hu4.next)⟩
              exact this.set
          · have hmk : isMk c = false := by
              have e3 : c ≠ 46 := fun e => e1 (by rw [e]; rfl)
              have e4 : c ≠ 45 := fun e => e2 (by rw [e]; rfl)
              simp [isMk, e3, e4]
            rw [if_neg (by rw [hmk]; simp)] at hsucc
            refine VC.seqV tabOk ?_
            simp (disch := first | omega | (simp only [ds] <;> omega) | fail) only [wk, undefM, Nat.reduceLT, Nat.reduceAdd, Nat.reduceMul, Nat.reduceSub, Nat.reduceBEq, Nat.reduceEqDiff, Int.reduceToNat, reduceIte, tsV]
            refine VC.seq0 (VC.block' ?_)
            refine VC.seqV tabOk ?_
            simp (disch := first | omega | (simp only [ds] <;> omega) | fail) only [wk, undefM, Nat.reduceLT, Nat.reduceAdd, Nat.reduceMul, Nat.reduceSub, Nat.reduceBEq, Nat.reduceEqDiff, Int.reduceToNat, reduceIte, tsV, hgi, byM_def]
            refine WC.join tabOk [0, 3, 4, 5, 6, 7, 8, 9] (fun ch : Bool => [.str s, ml, mn, .ptr O.next 0, mi d, mi i, mb false, mb ch]) (fun ch O' => O' = O1 ∧ ch = (decide (fr < i) && isD c != isD ((s.map lo).getD (i - 1) 0))) ?_ ?_
            · simp (disch := first | omega | (simp only [ds] <;> omega) | fail) only [wk, undefM, Nat.reduceLT, Nat.reduceAdd, Nat.reduceMul, Nat.reduceSub, Nat.reduceBEq, Nat.reduceEqDiff, Int.reduceToNat, reduceIte]
              refine WC.plan tabOk .any [(0, .sil), (1, .sil), (2, .sil), (3, .sil), (4, .one), (5, .sil), (6, .sil), (7, .sil), (8, .sil), (9, .sil), (10, .sil), (11, .sil), (13, .sil), (14, .sil), (15, .sil), (16, .sil), (12, .one), (17, .one), (18, .sil), (19, .sil), (20, .sil)] (by simp) (by kernel_rfl) (by kernel_rfl) (by kernel_rfl) rfl ?_
              by_cases h3 : fr < i
              · have hi1 : i - 1 < s.length := by omega
                have hgi1 := List.getElem?_eq_getElem hi1
                have hgl1 : (s.map lo).getD (i - 1) 0 = lo s[i - 1] := by rw [getD_at (by rw [hsl]; exact hi1)]; simp
                rw [hgl1, isD_lo]
                generalize hc1 : s[i - 1] = c1 at *
                have hcp : 0 < cur.length := by omega
                have e5 : (i : Int) - 1 = ((i - 1 : Nat) : Int) := by omega
                simp (disch := first | omega | (simp only [ds] <;> omega) | fail) only [wk, undefM, Nat.reduceLT, Nat.reduceAdd, Nat.reduceMul, Nat.reduceSub, Nat.reduceBEq, Nat.reduceEqDiff, Int.reduceToNat, reduceIte, tsV, hpart, hgi, hgi1, byM_def, vlenT, e5]
                refine CallW.rt (digit_v c _) (by kernel_rfl) rfl rfl ?_
                rintro _ OX ⟨rfl, rfl⟩
                simp (disch := first | omega | (simp only [ds] <;> omega) | fail) only [wk, undefM, Nat.reduceLT, Nat.reduceAdd, Nat.reduceMul, Nat.reduceSub, Nat.reduceBEq, Nat.reduceEqDiff, Int.reduceToNat, reduceIte, tsV, hpart, hgi, hgi1, byM_def, vlenT, e5]
                refine CallW.rt (digit_v c1 _) (by kernel_rfl) rfl rfl ?_
                rintro _ OX ⟨rfl, rfl⟩
                simp (disch := first | omega | (simp only [ds] <;> omega) | fail) only [wk, undefM, Nat.reduceLT, Nat.reduceAdd, Nat.reduceMul, Nat.reduceSub, Nat.reduceBEq, Nat.reduceEqDiff, Int.reduceToNat, reduceIte, tsV, hpart, hgi, hgi1, byM_def, vlenT, e5]
                exact JoinQ.mk (!(isD c == isD c1)) rfl ⟨rfl, by simp [h3, bne]⟩
              · have hcp : cur.length = 0 := by omega
                simp (disch := first | omega | (simp only [ds] <;> omega) | fail) only [wk, undefM, Nat.reduceLT, Nat.reduceAdd, Nat.reduceMul, Nat.reduceSub, Nat.reduceBEq, Nat.reduceEqDiff, Int.reduceToNat, reduceIte, tsV, hpart, hgi, byM_def, vlenT]
                exact JoinQ.mk _ rfl ⟨rfl, by simp [h3]⟩
            rintro ch Oz ⟨eO, hch⟩
            rw [eO]
            clear eO Oz
            refine WC.join tabOk [0, 3, 4, 5, 6, 7, 8] (fun x : MV × MV × List Piece × Nat × Bool × List UInt8 => [.str s, x.1, x.2.1, .ptr O.next 0, mi (x.2.2.2.2.2.countP isD), mi i, mb false]) (fun x O' => O.Ge O' ∧ cutS (s.map lo) (i + 1) = (x.2.2.1, x.2.2.2.1, x.2.2.2.2.1) ∧ x.2.2.2.2.2 = curS (s.map lo) i x.2.2.2.1 ∧ x.2.2.2.1 ≤ i ∧ x.2.2.1.length ≤ i + 1 ∧ RS O' (O.next + 1) O.next x.2.2.1 false x.2.2.2.2.1 x.2.2.2.2.2 x.1 x.2.1) ?_ ?_
            · cases ch
              · simp (disch := first | omega | (simp only [ds] <;> omega) | fail) only [wk, undefM, Nat.reduceLT, Nat.reduceAdd, Nat.reduceMul, Nat.reduceSub, Nat.reduceBEq, Nat.reduceEqDiff, Int.reduceToNat, reduceIte, tsV]
                rw [isD_lo] at hsucc
                refine JoinQ.mk (ml, mn, C, fr, hy, cur) (by simp only [hd]; rfl) ⟨hge, ?_, hcur.symm, hb, by dsimp only; omega, hrs0⟩
                rw [hsucc, if_neg]
                rintro ⟨h3, h4⟩
                simp only [h3, decide_true, Bool.true_and] at hch
                exact h4 (by simpa using hch.symm)
              · have h3 : fr < i ∧ isD c ≠ isD ((s.map lo).getD (i - 1) 0) := by
                  have := hch.symm
                  simpa using this
                rw [isD_lo, if_pos h3] at hsucc
                simp (disch := first | omega | (simp only [ds] <;> omega) | fail) only [ws, undefM, Nat.reduceLT, Nat.reduceAdd, Nat.reduceMul, Nat.reduceSub, Nat.reduceBEq, Nat.reduceEqDiff, Int.reduceToNat, reduceIte, tsV, hpart, hword]
                generalize hO2 : O1.set O.next _ = O2
                have hkn : O.next < O2.next := by rw [← hO2]; exact Nat.lt_of_lt_of_le (Nat.lt_succ_self _) hBn
                have hB2 : O.next + 1 ≤ O2.next := by rw [← hO2]; exact hBn
                have hrow2 : GR O2 30 3 (O.next + 1) ml C.length (C.flatMap rawM) := by rw [← hO2]; exact hrow.keep Upd.set (fun e => by have := (hrow.hi e).1; omega) (fun _ _ _ e => by rw [hpart] at e; cases e)
                have hnear2 : GR O2 4 1 (O.next + 1) mn C.length (C.flatMap nearM) := by rw [← hO2]; exact hnear.keep Upd.set (fun e => by have := (hnear.hi e).1; omega) (fun _ _ _ e => by rw [hpart] at e; cases e)
                have hk2 : O2.hp O.next = some (.cells [mb (!cur.all isD), mb hy, .str cur]) := by rw [← hO2, VH.set_get]; rfl
                have hgO2 : O.Ge O2 := by rw [← hO2]; exact hge.set (Nat.le_refl _) _
                clear hO2
                refine VL.grow tabOk (.inl rfl) (te := ⟨_, 3, 24, _⟩) (dx := .slice 30) (q := .sl 1 (rawM (cur, hy, true)) .full) (j := 1) (ds := rawM (cur, hy, true)) hrow2 rfl rfl (by rw [ty25]; rfl) ty30 (by rw [ty25]; rfl) trivial (by dsimp only; omega) (by simp only [maxLen]; omega) hB2 rfl rfl rfl rfl ?_
                intro m3 O3 hg3 hu3 hge3 hnew3
                have hnear3 := hnear2.other hrow2 hapart hu3 hge3
                have hk3 := (hrow2.below hu3 hge3 (Nat.lt_succ_self _) hkn).trans hk2
                have hn3 : O2.next ≤ O3.next := hu3.next
                have hgO3 : O.Ge O3 := hrow2.geB hgO2 hu3 hge3 (Nat.le_succ _)
                have hap3 : ∀ a, gid m3 = some a → gid mn ≠ some a := by
                  intro a ha hb
                  rcases hnew3 with ⟨k', c', rfl, h | h⟩ | ⟨h, _⟩
                  · injection ha with ha; subst ha; exact hapart _ h hb
                  · injection ha with ha; subst ha
                    have := (hnear2.hi hb).2
                    omega
                  · cases h
                simp (disch := first | omega | (simp only [ds] <;> omega) | fail) only [ws, undefM, Nat.reduceLT, Nat.reduceAdd, Nat.reduceMul, Nat.reduceSub, Nat.reduceBEq, Nat.reduceEqDiff, Int.reduceToNat, reduceIte, tsV, hk3]
                refine VL.grow tabOk (.inl rfl) (te := ⟨_, 1, 1, _⟩) (dx := .slice 4) (q := .sl 1 (nearM (cur, hy, true)) .full) (j := 1) (ds := nearM (cur, hy, true)) hnear3 rfl rfl (by rw [ty55]; rfl) ty4 (by rw [ty55]; rfl) trivial (by dsimp only; omega) (by simp only [maxLen]; omega) (Nat.le_trans hB2 hn3) rfl rfl rfl rfl ?_
                intro m4 O4 hg4 hu4 hge4 hnew4
                have hrow4 := hg3.other hnear3 (fun a ha hb => hap3 a hb ha) hu4 hge4
                have hgO4 : O.Ge O4 := hnear3.geB hgO3 hu4 hge4 (Nat.le_succ _)
                have hk4 := (hnear3.below hu4 hge4 (Nat.lt_succ_self _) (Nat.lt_of_lt_of_le hkn hn3)).trans hk3
                have hap4 : ∀ a, gid m3 = some a → gid m4 ≠ some a := by
                  intro a ha hb
                  rcases hnew4 with ⟨k', c', rfl, h | h⟩ | ⟨h, _⟩
                  · injection hb with hb; subst hb; exact hap3 _ ha h
                  · injection hb with hb; subst hb
                    have := (hg3.hi ha).2
                    omega
                  · cases h
                simp (disch := first | omega | (simp only [ds] <;> omega) | fail) only [ws, undefM, Nat.reduceLT, Nat.reduceAdd, Nat.reduceMul, Nat.reduceSub, Nat.reduceBEq, Nat.reduceEqDiff, Int.reduceToNat, reduceIte, tsV, hk4]
                simp only [List.append_assoc] at hg4 hrow4
                have h4 : RS O4 (O.next + 1) O.next (C ++ [(cur, hy, true)]) _ hy cur m3 m4 := ⟨by simpa using hrow4, by simpa using hg4, hap4, hk4, Nat.lt_succ_self _, Nat.le_trans hB2 (Nat.le_trans hn3 hu4.next)⟩
                exact JoinQ.mk (m3, m4, C ++ [(cur, hy, true)], i, true, []) rfl ⟨hgO4.set (Nat.le_refl _) _, hsucc, (curS_nil _ _).symm, Nat.le_refl _, by simp; omega, h4.set⟩
            rintro ⟨ml', mn', C', fr', hy', cur'⟩ O2 ⟨hge2, hs2, hcu2, hfr2, hcl2, hrs2⟩
            dsimp only at hs2 hcu2 hfr2 hcl2 hrs2 ⊢
            clear hrs0 hrow hnear hapart hpart hBn hge
            have hpart := hrs2.part
            have hcp3 := List.countP_le_length (p := isD) (l := cur')
            have hcl3 : cur'.length ≤ i := by rw [hcu2, curS, List.length_take]; omega
            refine WC.sound tabOk ?_
            simp (disch := first | omega | (simp only [ds] <;> omega) | fail) only [wk, undefM, Nat.reduceLT, Nat.reduceAdd, Nat.reduceMul, Nat.reduceSub, Nat.reduceBEq, Nat.reduceEqDiff, Int.reduceToNat, reduceIte, tsV]
            have hset : cutS (s.map lo) (i + 1) = (C', fr', hy') := hs2
            have hcur3 : curS (s.map lo) (i + 1) fr' = cur' ++ [lo c] := by
              rw [curS_succ hfr2 (by rw [hsl]; exact hi2), ← hcu2, hgl]
            have hfin : i + 1 ≤ s.length + 1 ∧ O.Ge (O2.set O.next (.cells [mb false, mb hy', .str (cur' ++ [lo c])])) ∧ RS (O2.set O.next (.cells [mb false, mb hy', .str (cur' ++ [lo c])])) (O.next + 1) O.next (cutS (s.map lo) (i + 1)).1 false (cutS (s.map lo) (i + 1)).2.2 (curS (s.map lo) (i + 1) (cutS (s.map lo) (i + 1)).2.1) ml' mn' := by
              refine ⟨by omega, hge2.set (Nat.le_refl _) _, ?_⟩
              simp only [hset, hcur3]
              exact hrs2.set
            have hcnt3 : (curS (s.map lo) (i + 1) (cutS (s.map lo) (i + 1)).2.1).countP isD = cur'.countP isD + if isD c then 1 else 0 := by
              simp only [hset, hcur3, List.countP_append, List.countP_cons, List.countP_nil, isD_lo]
              simp
            refine VC.drawE [10] (by kernel_rfl) ?_
            refine VAnyE.sil tabOk 0 rfl (by kernel_rfl) (by kernel_rfl) (by kernel_rfl) (by kernel_rfl) rfl rfl ?_
            simp (disch := first | omega | (simp only [ds] <;> omega) | fail) only [wk, undefM, Nat.reduceLT, Nat.reduceAdd, Nat.reduceMul, Nat.reduceSub, Nat.reduceBEq, Nat.reduceEqDiff, Int.reduceToNat, reduceIte, PreK_some, putM_some, tsV]
            refine VAnyE.ld (m := .str cur') tabOk 1 rfl (by kernel_rfl) (by kernel_rfl) (by kernel_rfl) (by kernel_rfl) rfl rfl rfl ?_ rfl ?_
            · simp (disch := first | omega | (simp only [ds] <;> omega) | fail) only [wk, undefM, Nat.reduceLT, Nat.reduceAdd, Nat.reduceMul, Nat.reduceSub, Nat.reduceBEq, Nat.reduceEqDiff, Int.reduceToNat, reduceIte, tsV, hpart]
            simp only [putM_some]
            refine VAnyE.sil tabOk 2 rfl (by kernel_rfl) (by kernel_rfl) (by kernel_rfl) (by kernel_rfl) rfl rfl ?_
            simp (disch := first | omega | (simp only [ds] <;> omega) | fail) only [wk, undefM, Nat.reduceLT, Nat.reduceAdd, Nat.reduceMul, Nat.reduceSub, Nat.reduceBEq, Nat.reduceEqDiff, Int.reduceToNat, reduceIte, PreK_some, putM_some, tsV]
            refine VAnyE.sil tabOk 3 rfl (by kernel_rfl) (by kernel_rfl) (by kernel_rfl) (by kernel_rfl) rfl rfl ?_
            simp (disch := first | omega | (simp only [ds] <;> omega) | fail) only [wk, undefM, Nat.reduceLT, Nat.reduceAdd, Nat.reduceMul, Nat.reduceSub, Nat.reduceBEq, Nat.reduceEqDiff, Int.reduceToNat, reduceIte, PreK_some, putM_some, tsV]
            refine VAnyE.sil tabOk 4 rfl (by kernel_rfl) (by kernel_rfl) (by kernel_rfl) (by kernel_rfl) rfl rfl ?_
            simp (disch := first | omega | (simp only [ds] <;> omega) | fail) only [wk, undefM, Nat.reduceLT, Nat.reduceAdd, Nat.reduceMul, Nat.reduceSub, Nat.reduceBEq, Nat.reduceEqDiff, Int.reduceToNat, reduceIte, PreK_some, putM_some, tsV, hgi]
            refine VAnyE.call (i := 5) (by kernel_rfl) rfl rfl rfl rfl (by kernel_rfl) rfl (lower_v c _) ?_
            rintro _ OX ⟨rfl, rfl⟩
            simp only [putM_some]
            refine ⟨VH.Ge.refl _, ?_⟩
            refine VAnyE.op (i := 6) tabOk (by kernel_rfl) rfl rfl rfl ?_
            simp (disch := first | omega | (simp only [ds] <;> omega) | fail) only [wk, undefM, Nat.reduceLT, Nat.reduceAdd, Nat.reduceMul, Nat.reduceSub, Nat.reduceBEq, Nat.reduceEqDiff, Int.reduceToNat, reduceIte, PreK_some, putM_some, tsV]
            refine ⟨VH.Ge.refl _, ?_⟩
            refine VAnyE.st (i := 7) (by kernel_rfl) rfl rfl rfl (textS_M tabOk (el := 5) (l := [lo c]) rfl (by rw [ty37]; rfl) (by rw [ty9]; rfl) (by rw [ty5]; rfl) rfl rfl) ?_
            rintro _ _ ⟨rfl, rfl⟩
            refine ⟨VH.Ge.refl _, ?_⟩
            refine VAnyE.sil tabOk 8 rfl (by kernel_rfl) (by kernel_rfl) (by kernel_rfl) (by kernel_rfl) rfl rfl ?_
            simp (disch := first | omega | (simp only [ds] <;> omega) | fail) only [wk, undefM, Nat.reduceLT, Nat.reduceAdd, Nat.reduceMul, Nat.reduceSub, Nat.reduceBEq, Nat.reduceEqDiff, Int.reduceToNat, reduceIte, PreK_some, putM_some, tsV]
            refine VAnyE.sil tabOk 9 rfl (by kernel_rfl) (by kernel_rfl) (by kernel_rfl) (by kernel_rfl) rfl rfl ?_
            simp (disch := first | omega | (simp only [ds] <;> omega) | fail) only [wk, undefM, Nat.reduceLT, Nat.reduceAdd, Nat.reduceMul, Nat.reduceSub, Nat.reduceBEq, Nat.reduceEqDiff, Int.reduceToNat, reduceIte, PreK_some, putM_some, tsV]
            refine VAnyE.plan tabOk [(10, .one)] (by kernel_rfl) (by kernel_rfl) (by kernel_rfl) rfl ?_
            simp (disch := first | omega | (simp only [ds] <;> omega) | fail) only [wk, undefM, Nat.reduceLT, Nat.reduceAdd, Nat.reduceMul, Nat.reduceSub, Nat.reduceBEq, Nat.reduceEqDiff, Int.reduceToNat, reduceIte, tsV, hpart, hgi, byM_def]
            refine CallW.rt (digit_v c _) (by kernel_rfl) rfl rfl ?_
            rintro _ OX ⟨rfl, rfl⟩
            cases hdc : isD c
            · rw [hdc] at hcnt3
              simp (disch := first | omega | (simp only [ds] <;> omega) | fail) only [wk, undefM, Nat.reduceLT, Nat.reduceAdd, Nat.reduceMul, Nat.reduceSub, Nat.reduceBEq, Nat.reduceEqDiff, Int.reduceToNat, reduceIte, tsV, hdc]
              refine WC.sound tabOk ?_
              simp (disch := first | omega | (simp only [ds] <;> omega) | fail) only [wk, undefM, Nat.reduceLT, Nat.reduceAdd, Nat.reduceMul, Nat.reduceSub, Nat.reduceBEq, Nat.reduceEqDiff, Int.reduceToNat, reduceIte, tsV]
              refine RoundQ.next (i + 1, ml', mn') rfl ?_ hfin (by first | omega | (dsimp only; omega))
              simp only [hcnt3, if_true, Bool.false_eq_true, if_false, Nat.add_zero]; rfl
            · rw [hdc] at hcnt3
              simp (disch := first | omega | (simp only [ds] <;> omega) | fail) only [wk, undefM, Nat.reduceLT, Nat.reduceAdd, Nat.reduceMul, Nat.reduceSub, Nat.reduceBEq, Nat.reduceEqDiff, Int.reduceToNat, reduceIte, tsV, hdc]
              refine WC.sound tabOk ?_
              simp (disch := first | omega | (simp only [ds] <;> omega) | fail) only [wk, undefM, Nat.reduceLT, Nat.reduceAdd, Nat.reduceMul, Nat.reduceSub, Nat.reduceBEq, Nat.reduceEqDiff, Int.reduceToNat, reduceIte, tsV]
              refine RoundQ.next (i + 1, ml', mn') rfl ?_ hfin (by first | omega | (dsimp only; omega))
              simp only [hcnt3, if_true, Bool.false_eq_true, if_false, Nat.add_zero]; rfl
      · have hie : i = s.length := by omega
        rw [if_neg (by rw [hsl]; omega)] at hsucc
        subst hie
        refine WC.sound tabOk ?_
        simp (disch := first | omega | (simp only [ds] <;> omega) | fail) only [ws, undefM, Nat.reduceLT, Nat.reduceAdd, Nat.reduceMul, Nat.reduceSub, Nat.reduceBEq, Nat.reduceEqDiff, Int.reduceToNat, reduceIte, tsV, hpart]
        refine WC.plan tabOk .any [(0, .sil), (1, .sil), (2, .sil), (3, .sil), (4, .one), (5, .sil), (6, .sil), (7, .sil), (8, .sil), (9, .sil), (10, .sil), (11, .sil), (13, .sil), (14, .sil), (15, .sil), (16, .sil), (12, .one), (17, .one), (18, .sil), (19, .sil), (20, .sil)] (by simp) (by kernel_rfl) (by kernel_rfl) (by kernel_rfl) rfl ?_
        simp (disch := first | omega | (simp only [ds] <;> omega) | fail) only [ws, undefM, Nat.reduceLT, Nat.reduceAdd, Nat.reduceMul, Nat.reduceSub, Nat.reduceBEq, Nat.reduceEqDiff, Int.reduceToNat, reduceIte, tsV, hpart]
        simp (disch := first | omega | (simp only [ds] <;> omega) | fail) only [ws, undefM, Nat.reduceLT, Nat.reduceAdd, Nat.reduceMul, Nat.reduceSub, Nat.reduceBEq, Nat.reduceEqDiff, Int.reduceToNat, reduceIte, tsV, hpart, hword]
        generalize hO2 : O1.set O.next _ = O2
        have hkn : O.next < O2.next := by rw [← hO2]; exact Nat.lt_of_lt_of_le (Nat.lt_succ_self _) hBn
        have hB2 : O.next + 1 ≤ O2.next := by rw [← hO2]; exact hBn
        have hrow2 : GR O2 30 3 (O.next + 1) ml C.length (C.flatMap rawM) := by rw [← hO2]; exact hrow.keep Upd.set (fun e => by have := (hrow.hi e).1; omega) (fun _ _ _ e => by rw [hpart] at e; cases e)
        have hnear2 : GR O2 4 1 (O.next + 1) mn C.length (C.flatMap nearM) := by rw [← hO2]; exact hnear.keep Upd.set (fun e => by have := (hnear.hi e).1; omega) (fun _ _ _ e => by rw [hpart] at e; cases e)
        have hk2 : O2.hp O.next = some (.cells [mb (!cur.all isD), mb hy, .str cur]) := by rw [← hO2, VH.set_get]; rfl
        have hgO2 : O.Ge O2 := by rw [← hO2]; exact hge.set (Nat.le_refl _) _
        clear hO2
        refine VL.grow tabOk (.inl rfl) (te := ⟨_, 3, 24, _⟩) (dx := .slice 30) (q := .sl 1 (rawM (cur, hy, false)) .full) (j := 1) (ds := rawM (cur, hy, false)) hrow2 rfl rfl (by rw [ty25]; rfl) ty30 (by rw [ty25]; rfl) trivial (by dsimp only; omega) (by simp only [maxLen]; omega) hB2 rfl rfl rfl rfl ?_
        intro m3 O3 hg3 hu3 hge3 hnew3
        have hnear3 := hnear2.other hrow2 hapart hu3 hge3
        have hk3 := (hrow2.below hu3 hge3 (Nat.lt_succ_self _) hkn).trans hk2
        have hn3 : O2.next ≤ O3.next := hu3.next
        have hgO3 : O.Ge O3 := hrow2.geB hgO2 hu3 hge3 (Nat.le_succ _)
        have hap3 : ∀ a, gid m3 = some a → gid mn ≠ some a := by
          intro a ha hb
          rcases hnew3 with ⟨k', c', rfl, h | h⟩ | ⟨h, _⟩
          · injection ha with ha; subst ha; exact hapart _ h hb
          · injection ha with ha; subst ha
            have := (hnear2.hi hb).2
            omega
          · cases h
        simp (disch := first | omega | (simp only [ds] <;> omega) | fail) only [ws, undefM, Nat.reduceLT, Nat.reduceAdd, Nat.reduceMul, Nat.reduceSub, Nat.reduceBEq, Nat.reduceEqDiff, Int.reduceToNat, reduceIte, tsV, hk3]
        refine VL.grow tabOk (.inl rfl) (te := ⟨_, 1, 1, _⟩) (dx := .slice 4) (q := .sl 1 (nearM (cur, hy, false)) .full) (j := 1) (ds := nearM (cur, hy, false)) hnear3 rfl rfl (by rw [ty55]; rfl) ty4 (by rw [ty55]; rfl) trivial (by dsimp only; omega) (by simp only [maxLen]; omega) (Nat.le_trans hB2 hn3) rfl rfl rfl rfl ?_
        intro m4 O4 hg4 hu4 hge4 hnew4
        have hrow4 := hg3.other hnear3 (fun a ha hb => hap3 a hb ha) hu4 hge4
        have hgO4 : O.Ge O4 := hnear3.geB hgO3 hu4 hge4 (Nat.le_succ _)
        have hk4 := (hnear3.below hu4 hge4 (Nat.lt_succ_self _) (Nat.lt_of_lt_of_le hkn hn3)).trans hk3
        have hap4 : ∀ a, gid m3 = some a → gid m4 ≠ some a := by
          intro a ha hb
          rcases hnew4 with ⟨k', c', rfl, h | h⟩ | ⟨h, _⟩
          · injection hb with hb; subst hb; exact hap3 _ ha h
          · injection hb with hb; subst hb
            have := (hg3.hi ha).2
            omega
          · cases h
        simp (disch := first | omega | (simp only [ds] <;> omega) | fail) only [ws, undefM, Nat.reduceLT, Nat.reduceAdd, Nat.reduceMul, Nat.reduceSub, Nat.reduceBEq, Nat.reduceEqDiff, Int.reduceToNat, reduceIte, tsV, hk4]
        refine RoundQ.next (s.length + 1, m3, m4) rfl ?_ ?_ (by dsimp only; omega)
        · simp only [hsucc, curS_nil, List.countP_nil]
          rfl
        · refine ⟨by omega, hgO4.set (Nat.le_refl _) _, ?_⟩
          simp only [hsucc, curS_nil]
          have : RS O4 (O.next + 1) O.next (C ++ [(cur, hy, false)]) _ hy cur m3 m4 := ⟨by simpa using hrow4, by simpa using hg4, hap4, hk4, Nat.lt_succ_self _, Nat.le_trans hB2 (Nat.le_trans hn3 hu4.next)⟩
          exact this.set
    · have hie : i = s.length + 1 := by omega
      subst hie
      refine WC.sound tabOk ?_
      simp (disch := first | omega | (simp only [ds] <;> omega) | fail) only [wk, undefM, Nat.reduceLT, Nat.reduceAdd, Nat.reduceMul, Nat.reduceSub, Nat.reduceBEq, Nat.reduceEqDiff, Int.reduceToNat, reduceIte, tsV]
      have h := hrs
      rw [show (cutS (s.map lo) (s.length + 1)).1 = cutF (s.map lo) from by rw [cutF, hsl]] at h
      exact JoinQ.mk (ml, mn) rfl ⟨hge, _, _, h⟩
  rintro ⟨ml, mn⟩ O1 ⟨hge, hy, cur, hrow, hnear, hapart, hpart, -, hBn⟩
  dsimp only at hrow hnear hapart
  have hcl := cutF_len (s.map lo)
  have hct := cutF_text (s.map lo)
  have hne := cutF_ne (s.map lo)
  rw [hsl] at hcl hct
  have hfirst := first_hy (s.map lo)
  unfold partsV
  generalize cutF (s.map lo) = C at *
  rcases hrow with ⟨e1, _⟩ | ⟨k, c, rfl, hnc, hLl, hrow⟩
  · exact absurd (List.eq_nil_of_length_eq_zero e1) hne
  rcases hnear with ⟨e1, _⟩ | ⟨k2, c2, rfl, hnc2, hLl2, hnear⟩
  · exact absurd (List.eq_nil_of_length_eq_zero e1) hne
  have hkk : k ≠ k2 := fun e => hapart k rfl (by rw [e]; rfl)
  obtain ⟨sp, hk, hkl⟩ := hrow.cells
  obtain ⟨sp2, hk2, hkl2⟩ := hnear.cells
  have hlo := hrow.lo
  clear hapart hpart hBn hrow hnear
  refine WC.join tabOk [3] (fun _ : Unit => [.asl k 0 C.length c]) (fun _ O' => O.Ge O' ∧ O'.hp k = some (.cells (ceS C sp C.length))) ?_ ?_
  · simp (disch := first | omega | (simp only [ds] <;> omega) | fail) only [wk, undefM, Nat.reduceLT, Nat.reduceAdd, Nat.reduceMul, Nat.reduceSub, Nat.reduceBEq, Nat.reduceEqDiff, Int.reduceToNat, reduceIte, tsV]
    refine VC.loopV [110] [3, 4, 109] (fun i : Nat => [mi i]) (fun i O' => i ≤ C.length ∧ O.Ge O' ∧ O'.hp k2 = some (.cells (C.flatMap nearM ++ sp2)) ∧ O'.hp k = some (.cells (ceS C sp i))) (fun i => C.length - i) (0) rfl rfl ?_ ?_
    · exact ⟨Nat.zero_le _, hge, hk2, by rw [ceS_0]; exact hk⟩
    rintro i O2 ⟨hi, hge2, hk2', hk'⟩
    dsimp only
    by_cases h2 : i < C.length
    · have hc0 := ceS_get (sp := sp) (j := 0) h2
      have hc2 := ceS_get (sp := sp) (j := 2) h2
      have hset := ceS_set (sp := sp) h2
      have hng := near_get C sp2 i h2
      have htx := hct C[i] (List.getElem_mem h2)
      have hlen : (ceS C sp i).length = C.length * 3 + sp.length := by
        rw [ceS, List.length_append, ceS_l hi, List.length_append, raw_len, List.length_drop]; omega
      have hmk : (mkV C[i]).2.2 = if C[i].1.all isD then C[i].1.dropWhile (· == 48) else wordF C[i].1 C[i].2.2 := rfl
      generalize ceS C sp i = cs at *
      generalize C[i] = p at *
      obtain ⟨tx, hy', nb⟩ := p
      simp only [List.getElem?_cons_zero, List.getElem?_cons_succ, Nat.add_zero] at hc0 hc2
      dsimp only at hc0 hc2 hng htx hmk
      have hself : cs.set (i * 3 + 2) (.str tx) = cs := by
        apply List.ext_getElem?
        intro j
        rw [List.getElem?_set]
        split
        · rename_i hj
          subst hj
          rw [if_pos (by omega), hc2]
        · rfl
      refine VC.seqV tabOk ?_
      simp (disch := first | omega | (simp only [ds] <;> omega) | fail) only [wk, undefM, Nat.reduceLT, Nat.reduceAdd, Nat.reduceMul, Nat.reduceSub, Nat.reduceBEq, Nat.reduceEqDiff, Int.reduceToNat, reduceIte, tsV]
      refine VC.seqV tabOk ?_
      simp (disch := first | omega | (simp only [ds] <;> omega) | fail) only [wk, undefM, Nat.reduceLT, Nat.reduceAdd, Nat.reduceMul, Nat.reduceSub, Nat.reduceBEq, Nat.reduceEqDiff, Int.reduceToNat, reduceIte, tsV]
      refine VC.seq0 (VC.block' ?_)
      refine VC.seqV tabOk ?_
      simp (disch := first | omega | (simp only [ds] <;> omega) | fail) only [wk, undefM, Nat.reduceLT, Nat.reduceAdd, Nat.reduceMul, Nat.reduceSub, Nat.reduceBEq, Nat.reduceEqDiff, Int.reduceToNat, reduceIte, tsV]
      cases hall : tx.all isD
      · rw [hall] at hc0 hmk
        simp only [Bool.false_eq_true, if_false, Bool.not_false] at hc0 hmk
        refine VC.seqV tabOk ?_
        simp (disch := first | omega | (simp only [ds] <;> omega) | fail) only [wk, undefM, Nat.reduceLT, Nat.reduceAdd, Nat.reduceMul, Nat.reduceSub, Nat.reduceBEq, Nat.reduceEqDiff, Int.reduceToNat, reduceIte, tsV, hk', hc0]
        refine VC.seqV tabOk ?_
        simp (disch := first | omega | (simp only [ds] <;> omega) | fail) only [wk, undefM, Nat.reduceLT, Nat.reduceAdd, Nat.reduceMul, Nat.reduceSub, Nat.reduceBEq, Nat.reduceEqDiff, Int.reduceToNat, reduceIte, tsV, hk', hc2]
        refine WC.join tabOk [3, 4, 10, 11, 109, 110] (fun t : List UInt8 => [.asl k 0 C.length c, .asl k2 0 C.length c2, mi i, .str t, mi C.length, mi i]) (fun t O' => O' = O2 ∧ t = (if tx == [103, 97] || (tx == [102, 105, 110, 97, 108] || tx == [114, 101, 108, 101, 97, 115, 101]) then [] else tx)) ?_ ?_
        · cases h1 : tx == [103, 97] <;> cases h3 : tx == [102, 105, 110, 97, 108] <;> cases h4 : tx == [114, 101, 108, 101, 97, 115, 101]
          all_goals
            simp (disch := first | omega | (simp only [ds] <;> omega) | fail) only [wk, undefM, Nat.reduceLT, Nat.reduceAdd, Nat.reduceMul, Nat.reduceSub, Nat.reduceBEq, Nat.reduceEqDiff, Int.reduceToNat, reduceIte, tsV, h1, h3, h4]
            exact JoinQ.mk _ rfl ⟨rfl, by simp⟩
        rintro t1 Oz ⟨eO, ht1⟩
        rw [eO]; clear eO Oz
        refine WC.join tabOk [3, 4, 10, 11, 109, 110] (fun t : List UInt8 => [.asl k 0 C.length c, .asl k2 0 C.length c2, mi i, .str t, mi C.length, mi i]) (fun t O' => O' = O2 ∧ t = (if t1 == [99, 114] then [114, 99] else t1)) ?_ ?_
        · cases h1 : t1 == [99, 114]
          all_goals
            simp (disch := first | omega | (simp only [ds] <;> omega) | fail) only [wk, undefM, Nat.reduceLT, Nat.reduceAdd, Nat.reduceMul, Nat.reduceSub, Nat.reduceBEq, Nat.reduceEqDiff, Int.reduceToNat, reduceIte, tsV, h1]
            exact JoinQ.mk _ rfl ⟨rfl, by simp⟩
        rintro t2 Oz ⟨eO, ht2⟩
        rw [eO]; clear eO Oz
        refine WC.join tabOk [3, 4, 10, 11, 109, 110] (fun t : List UInt8 => [.asl k 0 C.length c, .asl k2 0 C.length c2, mi i, .str t, mi C.length, mi i]) (fun t O' => O' = O2 ∧ t = (if nb && t2 == [97] then [97, 108, 112, 104, 97] else t2)) ?_ ?_
        · cases nb <;> cases h1 : t2 == [97]
          all_goals
            simp (disch := first | omega | (simp only [ds] <;> omega) | fail) only [wk, undefM, Nat.reduceLT, Nat.reduceAdd, Nat.reduceMul, Nat.reduceSub, Nat.reduceBEq, Nat.reduceEqDiff, Int.reduceToNat, reduceIte, tsV, h1, hk2', hng]
            exact JoinQ.mk _ rfl ⟨rfl, by simp⟩
        rintro t3 Oz ⟨eO, ht3⟩
        rw [eO]; clear eO Oz
        refine WC.join tabOk [3, 4, 10, 11, 109, 110] (fun t : List UInt8 => [.asl k 0 C.length c, .asl k2 0 C.length c2, mi i, .str t, mi C.length, mi i]) (fun t O' => O' = O2 ∧ t = (if nb && t3 == [98] then [98, 101, 116, 97] else t3)) ?_ ?_
        · cases nb <;> cases h1 : t3 == [98]
          all_goals
            simp (disch := first | omega | (simp only [ds] <;> omega) | fail) only [wk, undefM, Nat.reduceLT, Nat.reduceAdd, Nat.reduceMul, Nat.reduceSub, Nat.reduceBEq, Nat.reduceEqDiff, Int.reduceToNat, reduceIte, tsV, h1, hk2', hng]
            exact JoinQ.mk _ rfl ⟨rfl, by simp⟩
        rintro t4 Oz ⟨eO, ht4⟩
        rw [eO]; clear eO Oz
        refine WC.join tabOk [3, 4, 10, 11, 109, 110] (fun t : List UInt8 => [.asl k 0 C.length c, .asl k2 0 C.length c2, mi i, .str t, mi C.length, mi i]) (fun t O' => O' = O2 ∧ t = (if nb && t4 == [109] then [109, 105, 108, 101, 115, 116, 111, 110, 101] else t4)) ?_ ?_
        · cases nb <;> cases h1 : t4 == [109]
          all_goals
            simp (disch := first | omega | (simp only [ds] <;> omega) | fail) only [wk, undefM, Nat.reduceLT, Nat.reduceAdd, Nat.reduceMul, Nat.reduceSub, Nat.reduceBEq, Nat.reduceEqDiff, Int.reduceToNat, reduceIte, tsV, h1, hk2', hng]
            exact JoinQ.mk _ rfl ⟨rfl, by simp⟩
        rintro t5 Oz ⟨eO, ht5⟩
        rw [eO]; clear eO Oz
        have ht : t5 = wordF tx nb := by rw [ht5, ht4, ht3, ht2, ht1]; exact wordF_steps tx nb
        refine WC.sound tabOk ?_
        simp (disch := first | omega | (simp only [ds] <;> omega) | fail) only [wk, undefM, Nat.reduceLT, Nat.reduceAdd, Nat.reduceMul, Nat.reduceSub, Nat.reduceBEq, Nat.reduceEqDiff, Int.reduceToNat, reduceIte, tsV, hk']
        refine WC.sound tabOk ?_
        simp (disch := first | omega | (simp only [ds] <;> omega) | fail) only [wk, undefM, Nat.reduceLT, Nat.reduceAdd, Nat.reduceMul, Nat.reduceSub, Nat.reduceBEq, Nat.reduceEqDiff, Int.reduceToNat, reduceIte, tsV]
        refine RoundQ.next (i + 1) rfl rfl ⟨by omega, hge2.set (Nat.le_trans (Nat.le_succ _) hlo) _, ?_, ?_⟩ (by omega)
        · rw [VH.set_ne _ _ hkk.symm]; exact hk2'
        · rw [VH.set_get, ← hset, hmk, ht]
      · rw [hall] at hc0 hmk
        simp only [if_true, Bool.not_true] at hc0 hmk
        rw [hmk] at hset
        refine WC.sound tabOk ?_
        simp (disch := first | omega | (simp only [ds] <;> omega) | fail) only [wk, undefM, Nat.reduceLT, Nat.reduceAdd, Nat.reduceMul, Nat.reduceSub, Nat.reduceBEq, Nat.reduceEqDiff, Int.reduceToNat, reduceIte, tsV, hk', hc0]
        refine VC.loopV [] [3, 4, 10, 109, 110] (fun t : List UInt8 => []) (fun t O' => O.Ge O' ∧ O'.hp k2 = some (.cells (C.flatMap nearM ++ sp2)) ∧ O'.hp k = some (.cells (cs.set (i * 3 + 2) (.str t))) ∧ t.dropWhile (· == 48) = tx.dropWhile (· == 48) ∧ t.length ≤ tx.length) (fun t => t.length) (tx) rfl rfl ?_ ?_
        · exact ⟨hge2, hk2', by rw [hself]; exact hk', rfl, Nat.le_refl _⟩
        rintro t O3 ⟨hge3, hk3, hk3', htd, htl⟩
        dsimp only
        have hget : (cs.set (i * 3 + 2) (.str t))[i * 3 + 2]? = some (.str t) := by rw [List.getElem?_set]; simp; omega
        have hout : t.dropWhile (· == 48) = t → RoundQ [110] [3, 4, 109] [.asl k 0 C.length c, .asl k2 0 C.length c2, mi C.length] (fun i : Nat => [mi i]) (fun i O' => i ≤ C.length ∧ O.Ge O' ∧ O'.hp k2 = some (.cells (C.flatMap nearM ++ sp2)) ∧ O'.hp k = some (.cells (ceS C sp i))) (fun i => C.length - i) i (BlockQ 2 (JoinQ [3] (fun _ : Unit => [.asl k 0 C.length c]) (fun _ O' => O.Ge O' ∧ O'.hp k = some (.cells (ceS C sp C.length))) (EndW (tyOf Tryd.prog) [.tmp 2] (Ret fun m O' => True)))) .normal (pairs [110, 3, 4, 109] [mi (i + 1 : Nat), .asl k 0 C.length c, .asl k2 0 C.length c2, mi C.length] []) O3 := fun h => by
          refine RoundQ.next (i + 1) rfl rfl ⟨by omega, hge3, hk3, ?_⟩ (by omega)
          rw [hk3', ← hset, ← htd, h]
        cases t with
        | nil =>
          refine WC.sound tabOk ?_
          simp (disch := first | omega | (simp only [ds] <;> omega) | fail) only [wk, undefM, Nat.reduceLT, Nat.reduceAdd, Nat.reduceMul, Nat.reduceSub, Nat.reduceBEq, Nat.reduceEqDiff, Int.reduceToNat, reduceIte, tsV, hk3', hget]
          refine WC.sound tabOk ?_
          simp (disch := first | omega | (simp only [ds] <;> omega) | fail) only [wk, undefM, Nat.reduceLT, Nat.reduceAdd, Nat.reduceMul, Nat.reduceSub, Nat.reduceBEq, Nat.reduceEqDiff, Int.reduceToNat, reduceIte, tsV]
          exact hout rfl
        | cons a t =>
          by_cases ha : a = 48
          · have ha2 : a.toNat = 48 := by rw [ha]; rfl
            simp only [List.length_cons] at htl
            refine WC.sound tabOk ?_
            simp (disch := first | omega | (simp only [ds] <;> omega) | fail) only [wk, undefM, Nat.reduceLT, Nat.reduceAdd, Nat.reduceMul, Nat.reduceSub, Nat.reduceBEq, Nat.reduceEqDiff, Int.reduceToNat, reduceIte, tsV, hk3', hget, byM_def]
            refine RoundQ.next t rfl rfl ⟨hge3.set (Nat.le_trans (Nat.le_succ _) hlo) _, by rw [VH.set_ne _ _ hkk.symm]; exact hk3, by rw [VH.set_get, List.set_set], by rw [← htd, ha]; simp, by omega⟩ (by simp)
          · have ha2 : a.toNat ≠ 48 := fun e => ha (UInt8.toNat_inj.1 e)
            refine WC.sound tabOk ?_
            simp (disch := first | omega | (simp only [ds] <;> omega) | fail) only [wk, undefM, Nat.reduceLT, Nat.reduceAdd, Nat.reduceMul, Nat.reduceSub, Nat.reduceBEq, Nat.reduceEqDiff, Int.reduceToNat, reduceIte, tsV, hk3', hget, byM_def]
            refine WC.sound tabOk ?_
            simp (disch := first | omega | (simp only [ds] <;> omega) | fail) only [wk, undefM, Nat.reduceLT, Nat.reduceAdd, Nat.reduceMul, Nat.reduceSub, Nat.reduceBEq, Nat.reduceEqDiff, Int.reduceToNat, reduceIte, tsV]
            exact hout (by simp [List.dropWhile_cons, ha])
    · obtain rfl : i = C.length := by omega
      refine WC.sound tabOk ?_
      simp (disch := first | omega | (simp only [ds] <;> omega) | fail) only [wk, undefM, Nat.reduceLT, Nat.reduceAdd, Nat.reduceMul, Nat.reduceSub, Nat.reduceBEq, Nat.reduceEqDiff, Int.reduceToNat, reduceIte, tsV]
      exact JoinQ.mk () rfl ⟨hge2, hk'⟩
  rintro ⟨⟩ O2 ⟨hge2, hk'⟩
  have hcells : ceS C sp C.length = (C.map mkV).flatMap prR ++ sp := by simp [ceS]
  have hl3 : ∀ x, (prR x).length = 3 := fun _ => rfl
  have hLn : ((C.map mkV).flatMap prR).length = C.length * 3 := by rw [fm_len hl3, List.length_map]
  refine VC.freeze 3 (sz := C.length * 3) rfl hk' (by rw [hcells, List.length_append, hLn]; omega) ?_
  rw [hcells, List.drop_zero, List.take_left' hLn]
  have hge3 := hge2.kill (Nat.le_trans (Nat.le_succ _) hlo)
  clear hge2 hk' hk hk2 hge
  generalize O2.kill k = O3 at *
  have hML : (C.map mkV).length = C.length := List.length_map _
  have hne2 : C.map mkV ≠ [] := by simpa using hne
  generalize (if c = C.length then Tok.full else Tok.unk) = tk0
  rw [← hML]
  refine WC.sound tabOk ?_
  simp (disch := first | omega | (simp only [ds] <;> omega) | fail) only [wk, undefM, Nat.reduceLT, Nat.reduceAdd, Nat.reduceMul, Nat.reduceSub, Nat.reduceBEq, Nat.reduceEqDiff, Int.reduceToNat, reduceIte, tsV]
  refine VC.loopV [3, 12] [] (fun x : List Prt × Tok × Bool => [.sl x.1.length (x.1.flatMap prR) x.2.1, mb x.2.2]) (fun x O' => O.Ge O' ∧ x.1 ≠ [] ∧ x.1.length ≤ C.length ∧ tailT x.1 = tailT (C.map mkV) ∧ (x.2.2 = false → tailT x.1 = x.1)) (fun x => if x.2.2 then x.1.length + 1 else 0) ((C.map mkV, tk0, true)) rfl rfl ?_ ?_
  · exact ⟨hge3, hne2, by simp, rfl, fun h => by cases h⟩
  rintro ⟨L, tk, gone⟩ O4 ⟨hge4, hne4, hll4, ht4, hg4⟩
  dsimp only at hne4 hll4 ht4 hg4 ⊢
  refine WC.sound tabOk ?_
  cases gone
  · simp (disch := first | omega | (simp only [ds] <;> omega) | fail) only [wk, undefM, Nat.reduceLT, Nat.reduceAdd, Nat.reduceMul, Nat.reduceSub, Nat.reduceBEq, Nat.reduceEqDiff, Int.reduceToNat, reduceIte, tsV]
    have := hg4 rfl
    rw [ht4, ← hfirst] at this
    exact ⟨tk, by rw [← this], hge4⟩
  have hpos : 0 < L.length := List.length_pos_iff.2 hne4
  simp (disch := first | omega | (simp only [ds] <;> omega) | fail) only [wk, undefM, Nat.reduceLT, Nat.reduceAdd, Nat.reduceMul, Nat.reduceSub, Nat.reduceBEq, Nat.reduceEqDiff, Int.reduceToNat, reduceIte, tsV]
  refine VC.loopV [3, 12, 13] [] (fun x : List Prt × Tok × Bool × Nat => [.sl x.1.length (x.1.flatMap prR) x.2.1, mb x.2.2.1, mi x.2.2.2]) (fun x O' => O.Ge O' ∧ x.1 ≠ [] ∧ x.1.length ≤ C.length ∧ tailT x.1 = tailT (C.map mkV) ∧ 1 ≤ x.2.2.2 ∧ x.2.2.2 ≤ L.length ∧ (x.2.2.1 = false → x.1 = L ∧ ∀ j, 1 ≤ j → j < x.2.2.2 → remB L j = false) ∧ (x.2.2.1 = true → x.1.length < L.length)) (fun x => L.length + 1 - x.2.2.2) ((L, tk, false, 1)) rfl rfl ?_ ?_
  · exact ⟨hge4, hne4, hll4, ht4, Nat.le_refl _, hpos, fun _ => ⟨rfl, fun j h1 h2 => by dsimp only at h2; omega⟩, fun h => by cases h⟩
  clear hge4 hne4 hll4 ht4 hge3
  rintro ⟨M, tk', g, i⟩ O5 ⟨hge5, hne5, hll5, ht5, hi1, hi2, hf5, ht5'⟩
  dsimp only at hge5 hne5 hll5 ht5 hi1 hi2 hf5 ht5' ⊢
  refine WC.sound tabOk ?_
  cases g
  · obtain ⟨rfl, hrem⟩ := hf5 rfl
    by_cases h2 : i < M.length
    · have hdl : (M.flatMap prR).length = M.length * 3 := fm_len hl3 M
      have hx2 := fm_get hl3 M i 2 h2 (by omega)
      have hgd : M.getD i nullP = M[i] := by rw [List.getD_eq_getElem?_getD, List.getElem?_eq_getElem h2]; rfl
      generalize hp : M[i] = p at *
      obtain ⟨ph, pn, pt⟩ := p
      simp only [prR, List.getElem?_cons_succ, List.getElem?_cons_zero] at hx2
      have hrem2 : remB M i = false → ∀ j, 1 ≤ j → j < i + 1 → remB M j = false := fun h j h3 h4 => by
        rcases Nat.lt_or_eq_of_le (Nat.le_of_lt_succ h4) with h5 | h5
        · exact hrem j h3 h5
        · rw [h5]; exact h
      have hlt : (M.take i).length = i := by rw [List.length_take]; omega
      have hA := fm_take hl3 M i
      have hB : ((M.flatMap prR).drop ((i + 1) * 3)).take ((M.length - (i + 1)) * 3) = (M.drop (i + 1)).flatMap prR := by
        rw [fm_drop hl3, List.take_of_length_le (by rw [fm_len hl3, List.length_drop]; omega)]
      have hOn : O.next ≤ O5.next := hge5.next
      cases hpt : pt == []
      · simp (disch := first | omega | (simp only [ds] <;> omega) | fail) only [wk, undefM, Nat.reduceLT, Nat.reduceAdd, Nat.reduceMul, Nat.reduceSub, Nat.reduceBEq, Nat.reduceEqDiff, Int.reduceToNat, reduceIte, tsV, hx2, hpt]
        exact RoundQ.next (M, tk', false, i + 1) rfl rfl ⟨hge5, hne5, hll5, ht5, by dsimp only; omega, by dsimp only; omega, fun _ => ⟨rfl, hrem2 (by unfold remB; rw [hgd]; show (pt == [] && _) = false; rw [hpt]; rfl)⟩, fun h => by cases h⟩ (by dsimp only; omega)
      · have hpt2 : pt = [] := by simpa using hpt
        by_cases hl : i + 1 = M.length
        · have hhd : hdH (M.drop (i + 1)) = true := by rw [List.drop_of_length_le (by omega)]; rfl
          simp (disch := first | omega | (simp only [ds] <;> omega) | fail) only [wk, undefM, Nat.reduceLT, Nat.reduceAdd, Nat.reduceMul, Nat.reduceSub, Nat.reduceBEq, Nat.reduceEqDiff, Int.reduceToNat, reduceIte, tsV, hx2, hpt]
          refine WC.plan tabOk .any [(1, .sil), (2, .sil), (3, .sil), (5, .sil), (6, .sil), (7, .sil), (8, .sil), (0, .one), (4, .one), (9, .one), (10, .sil)] (by simp) (by kernel_rfl) (by kernel_rfl) (by kernel_rfl) rfl ?_
          simp (disch := first | omega | (simp only [ds] <;> omega) | fail) only [wk, undefM, Nat.reduceLT, Nat.reduceAdd, Nat.reduceMul, Nat.reduceSub, Nat.reduceBEq, Nat.reduceEqDiff, Int.reduceToNat, reduceIte, tsV, hA, hB]
          refine VL.app tabOk (vappend_app (B := O.next) (tk := .full) ty25 ty30 trivial rfl (by rw [fm_len hl3, hlt]) (prR_leaf _) (by omega) (by omega) (by omega) (by simp only [maxLen]; omega)) rfl rfl rfl rfl ?_
          simp (disch := first | omega | (simp only [ds] <;> omega) | fail) only [wk, undefM, Nat.reduceLT, Nat.reduceAdd, Nat.reduceMul, Nat.reduceSub, Nat.reduceBEq, Nat.reduceEqDiff, Int.reduceToNat, reduceIte, tsV]
          have hge6 : O.Ge (O5.after .full) := hge5.push _
          obtain ⟨m7, O7, hv7, hge7, tk7, rfl⟩ : ∃ m7 O7, vappend (tyOf Tryd.prog) (O5.after .full) 25 (.sl i ((M.take i).flatMap prR) (.own O5.next 3)) (.sl (M.length - (i + 1)) ((M.drop (i + 1)).flatMap prR) (cutTok tk' 3 (M.length == M.length))) = some (m7, O7) ∧ O.Ge O7 ∧ ∃ tk7, m7 = .sl (M.take i ++ M.drop (i + 1)).length ((M.take i ++ M.drop (i + 1)).flatMap prR) tk7 := by
            rw [List.flatMap_append, List.length_append, hlt, List.length_drop]
            by_cases hz : M.length - (i + 1) = 0
            · refine ⟨_, _, ?_, hge6, .own O5.next 3, rfl⟩
              rw [hz, List.drop_of_length_le (by omega)]
              simp only [vappend, ty25, ty30, Option.map_some]
              simp
            · exact ⟨_, _, vappend_app (B := O.next) ty25 ty30 (App.after hOn) (by rw [fm_len hl3, hlt]) (by rw [fm_len hl3, List.length_drop]) (prR_leaf _) (by omega) hz (by omega) (by simp only [maxLen]; omega), hge6.after (B := O.next) (App.after hOn) (Nat.le_refl _), _, rfl⟩
          refine VL.app tabOk hv7 rfl rfl rfl rfl ?_
          simp (disch := first | omega | (simp only [ds] <;> omega) | fail) only [wk, undefM, Nat.reduceLT, Nat.reduceAdd, Nat.reduceMul, Nat.reduceSub, Nat.reduceBEq, Nat.reduceEqDiff, Int.reduceToNat, reduceIte, tsV]
          have hMM : M.take i ++ M.drop i = M := List.take_append_drop i M
          rw [List.drop_eq_getElem_cons h2, hp] at hMM
          have htr := tail_rem (ph, pn, pt) (M.take i) (M.drop (i + 1)) (by intro e; have := congrArg List.length e; rw [hlt] at this; simp at this; omega) hpt2 hhd
          rw [hMM] at htr
          have hlen7 : (M.take i ++ M.drop (i + 1)).length + 1 = M.length := by rw [List.length_append, hlt, List.length_drop]; omega
          exact RoundQ.next (M.take i ++ M.drop (i + 1), tk7, true, i + 1) rfl rfl ⟨hge7, fun e => by dsimp only at e; rw [e] at hlen7; simp at hlen7; omega, by dsimp only; omega, by rw [← htr]; exact ht5, by dsimp only; omega, by dsimp only; omega, (fun h => by cases h), fun _ => by dsimp only; omega⟩ (by dsimp only; omega)
        · have hl2 : i + 1 < M.length := by omega
          have hx1 := fm_get hl3 M (i + 1) 1 hl2 (by omega)
          have hdr := List.drop_eq_getElem_cons hl2
          generalize hq : M[i + 1] = q at *
          obtain ⟨qh, qn, qt⟩ := q
          simp only [prR, List.getElem?_cons_succ, List.getElem?_cons_zero] at hx1
          cases qh
          · simp (disch := first | omega | (simp only [ds] <;> omega) | fail) only [wk, undefM, Nat.reduceLT, Nat.reduceAdd, Nat.reduceMul, Nat.reduceSub, Nat.reduceBEq, Nat.reduceEqDiff, Int.reduceToNat, reduceIte, tsV, hx2, hpt, hx1]
            exact RoundQ.next (M, tk', false, i + 1) rfl rfl ⟨hge5, hne5, hll5, ht5, by dsimp only; omega, by dsimp only; omega, fun _ => ⟨rfl, hrem2 (by simp [remB, hdr, hdH])⟩, fun h => by cases h⟩ (by dsimp only; omega)
          · have hhd : hdH (M.drop (i + 1)) = true := by rw [hdr]; rfl
            simp (disch := first | omega | (simp only [ds] <;> omega) | fail) only [wk, undefM, Nat.reduceLT, Nat.reduceAdd, Nat.reduceMul, Nat.reduceSub, Nat.reduceBEq, Nat.reduceEqDiff, Int.reduceToNat, reduceIte, tsV, hx2, hpt, hx1]
            refine WC.plan tabOk .any [(1, .sil), (2, .sil), (3, .sil), (5, .sil), (6, .sil), (7, .sil), (8, .sil), (0, .one), (4, .one), (9, .one), (10, .sil)] (by simp) (by kernel_rfl) (by kernel_rfl) (by kernel_rfl) rfl ?_
            simp (disch := first | omega | (simp only [ds] <;> omega) | fail) only [wk, undefM, Nat.reduceLT, Nat.reduceAdd, Nat.reduceMul, Nat.reduceSub, Nat.reduceBEq, Nat.reduceEqDiff, Int.reduceToNat, reduceIte, tsV, hA, hB]
            refine VL.app tabOk (vappend_app (B := O.next) (tk := .full) ty25 ty30 trivial rfl (by rw [fm_len hl3, hlt]) (prR_leaf _) (by omega) (by omega) (by omega) (by simp only [maxLen]; omega)) rfl rfl rfl rfl ?_
            simp (disch := first | omega | (simp only [ds] <;> omega) | fail) only [wk, undefM, Nat.reduceLT, Nat.reduceAdd, Nat.reduceMul, Nat.reduceSub, Nat.reduceBEq, Nat.reduceEqDiff, Int.reduceToNat, reduceIte, tsV]
            have hge6 : O.Ge (O5.after .full) := hge5.push _
            obtain ⟨m7, O7, hv7, hge7, tk7, rfl⟩ : ∃ m7 O7, vappend (tyOf Tryd.prog) (O5.after .full) 25 (.sl i ((M.take i).flatMap prR) (.own O5.next 3)) (.sl (M.length - (i + 1)) ((M.drop (i + 1)).flatMap prR) (cutTok tk' 3 (M.length == M.length))) = some (m7, O7) ∧ O.Ge O7 ∧ ∃ tk7, m7 = .sl (M.take i ++ M.drop (i + 1)).length ((M.take i ++ M.drop (i + 1)).flatMap prR) tk7 := by
              rw [List.flatMap_append, List.length_append, hlt, List.length_drop]
              by_cases hz : M.length - (i + 1) = 0
              · refine ⟨_, _, ?_, hge6, .own O5.next 3, rfl⟩
                rw [hz, List.drop_of_length_le (by omega)]
                simp only [vappend, ty25, ty30, Option.map_some]
                simp
              · exact ⟨_, _, vappend_app (B := O.next) ty25 ty30 (App.after hOn) (by rw [fm_len hl3, hlt]) (by rw [fm_len hl3, List.length_drop]) (prR_leaf _) (by omega) hz (by omega) (by simp only [maxLen]; omega), hge6.after (B := O.next) (App.after hOn) (Nat.le_refl _), _, rfl⟩
            refine VL.app tabOk hv7 rfl rfl rfl rfl ?_
            simp (disch := first | omega | (simp only [ds] <;> omega) | fail) only [wk, undefM, Nat.reduceLT, Nat.reduceAdd, Nat.reduceMul, Nat.reduceSub, Nat.reduceBEq, Nat.reduceEqDiff, Int.reduceToNat, reduceIte, tsV]
            have hMM : M.take i ++ M.drop i = M := List.take_append_drop i M
            rw [List.drop_eq_getElem_cons h2, hp] at hMM
            have htr := tail_rem (ph, pn, pt) (M.take i) (M.drop (i + 1)) (by intro e; have := congrArg List.length e; rw [hlt] at this; simp at this; omega) hpt2 hhd
            rw [hMM] at htr
            have hlen7 : (M.take i ++ M.drop (i + 1)).length + 1 = M.length := by rw [List.length_append, hlt, List.length_drop]; omega
            exact RoundQ.next (M.take i ++ M.drop (i + 1), tk7, true, i + 1) rfl rfl ⟨hge7, fun e => by dsimp only at e; rw [e] at hlen7; simp at hlen7; omega, by dsimp only; omega, by rw [← htr]; exact ht5, by dsimp only; omega, by dsimp only; omega, (fun h => by cases h), fun _ => by dsimp only; omega⟩ (by dsimp only; omega)
    · obtain rfl : i = M.length := by omega
      simp (disch := first | omega | (simp only [ds] <;> omega) | fail) only [wk, undefM, Nat.reduceLT, Nat.reduceAdd, Nat.reduceMul, Nat.reduceSub, Nat.reduceBEq, Nat.reduceEqDiff, Int.reduceToNat, reduceIte, tsV]
      refine RoundQ.next (M, tk', false) rfl rfl ⟨hge5, hne5, hll5, ht5, fun _ => tail_fix M hrem⟩ (by simp)
  · have hlt := ht5' rfl
    by_cases h2 : i < M.length
    · simp (disch := first | omega | (simp only [ds] <;> omega) | fail) only [wk, undefM, Nat.reduceLT, Nat.reduceAdd, Nat.reduceMul, Nat.reduceSub, Nat.reduceBEq, Nat.reduceEqDiff, Int.reduceToNat, reduceIte, tsV]
      refine RoundQ.next (M, tk', true) rfl rfl ⟨hge5, hne5, hll5, ht5, fun h => by cases h⟩ (by simpa using hlt)
    · simp (disch := first | omega | (simp only [ds] <;> omega) | fail) only [wk, undefM, Nat.reduceLT, Nat.reduceAdd, Nat.reduceMul, Nat.reduceSub, Nat.reduceBEq, Nat.reduceEqDiff, Int.reduceToNat, reduceIte, tsV]
      refine RoundQ.next (M, tk', true) rfl rfl ⟨hge5, hne5, hll5, ht5, fun h => by cases h⟩ (by simpa using hlt)
end Go.Proofs.YtjbpnhmjnkolbaaDoor
