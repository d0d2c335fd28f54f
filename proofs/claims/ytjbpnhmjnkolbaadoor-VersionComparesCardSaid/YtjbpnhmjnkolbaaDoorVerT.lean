/-
  The law VersionNumbers: digits, walked.
-/
import Derived.Test.YtjbpnhmjnkolbaaDoorVerS
set_option linter.unusedVariables false
set_option linter.unusedSimpArgs false
namespace Go.Proofs.YtjbpnhmjnkolbaaDoor
open Go.RowKit
set_option maxRecDepth 10000

def ten : List UInt8 := [48, 49, 50, 51, 52, 53, 54, 55, 56, 57]
theorem ten_at (n : Nat) (h : n < 10) : (ten.drop n).take 1 = [UInt8.ofNat (48 + n)] := by
  have : ∀ n : Fin 10, (ten.drop n.1).take 1 = [UInt8.ofNat (48 + n.1)] := by decide
  exact this ⟨n, h⟩
def digitsF (n : Nat) : List UInt8 := if n < 10 then [UInt8.ofNat (48 + n)] else digitsF (n / 10) ++ [UInt8.ofNat (48 + n % 10)]
decreasing_by omega
set_option linter.defProp false in
def tsT := And.intro T9 <| And.intro T3 <| And.intro T4 <| And.intro T5 T40
theorem digitsF_len : ∀ n k : Nat, n < 10 ^ (k + 1) → (digitsF n).length ≤ k + 1
  | n, k, h => by
    rw [digitsF]
    split
    · simp
    · cases k with
      | zero => omega
      | succ k =>
        have := digitsF_len (n / 10) k (by rw [Nat.pow_succ] at h; omega)
        simp only [List.length_append, List.length_cons, List.length_nil]; omega
termination_by n => n
decreasing_by omega
/-- pomacelaw04.digits -/
theorem digits_v : ∀ (n : Nat) (O : VH), n < 18446744073709551616 → VF Tryd.prog 21 [.v (.int .u64 n)] O (Ret fun m O' => m = .str (digitsF n) ∧ O' = O) := by
  intro n
  induction n using Nat.strongRecOn with
  | _ n ih =>
    intro O hn
    rw [digitsF]
    refine VF.ofW (n := 16) (rs := [.tmp 2]) tabOk Tryd.func21 rfl rfl rfl (Nat.le_of_ble_eq_true rfl) ?_
    simp only [argEnv, Nat.zero_add, Nat.reduceAdd]
    by_cases h : n < 10
    · rw [if_pos h]
      have ht := ten_at n h
      unfold ten at ht
      simp (disch := first | omega | (simp only [ds] <;> omega) | fail) only [ws, undefM, Nat.reduceLT, Nat.reduceAdd, Nat.reduceMul, Nat.reduceSub, Nat.reduceBEq, Nat.reduceEqDiff, Int.reduceToNat, reduceIte, tsT]
      rw [show n + 1 - n = 1 from by omega, ht]
    · rw [if_neg h]
      have e1 : (n : Int).tdiv 10 = ((n / 10 : Nat) : Int) := by
        rw [Int.tdiv_eq_ediv_of_nonneg (by omega)]; omega
      have e2 : (n : Int).tmod 10 = ((n % 10 : Nat) : Int) := by
        rw [Int.tmod_eq_emod_of_nonneg (by omega)]; omega
      have hl : (digitsF (n / 10)).length ≤ 20 := digitsF_len (n / 10) 19 (by rw [show (10 : Nat) ^ (19 + 1) = 100000000000000000000 from rfl]; omega)
      have e3 : digitsF (n % 10) = [UInt8.ofNat (48 + n % 10)] := by rw [digitsF, if_pos (Nat.mod_lt _ (by omega))]
      simp (disch := first | omega | (simp only [ds] <;> omega) | fail) only [ws, undefM, Nat.reduceLT, Nat.reduceAdd, Nat.reduceMul, Nat.reduceSub, Nat.reduceBEq, Nat.reduceEqDiff, Int.reduceToNat, reduceIte, tsT, e1, e2]
      refine CallW.rt (ih (n / 10) (by omega) _ (by omega)) (by kernel_rfl) rfl rfl ?_
      rintro _ O1 ⟨rfl, rfl⟩
      simp (disch := first | omega | (simp only [ds] <;> omega) | fail) only [ws, undefM, Nat.reduceLT, Nat.reduceAdd, Nat.reduceMul, Nat.reduceSub, Nat.reduceBEq, Nat.reduceEqDiff, Int.reduceToNat, reduceIte, tsT, e1, e2]
      refine CallW.rt (ih (n % 10) (by omega) _ (by omega)) (by kernel_rfl) rfl rfl ?_
      rintro _ O1 ⟨rfl, rfl⟩
      simp (disch := first | omega | (simp only [ds] <;> omega) | fail) only [ws, undefM, Nat.reduceLT, Nat.reduceAdd, Nat.reduceMul, Nat.reduceSub, Nat.reduceBEq, Nat.reduceEqDiff, Int.reduceToNat, reduceIte, tsT, e3]
/-! ### What a text of digits is worth -/
def val : List UInt8 → Nat
  | [] => 0
  | c :: l => (c.toNat - 48) * 10 ^ l.length + val l
theorem val_app (l m : List UInt8) : val (l ++ m) = val l * 10 ^ m.length + val m := by
  induction l with
  | nil => simp [val]
  | cons c l ih =>
    rw [List.cons_append, val, val, ih, List.length_append, Nat.pow_add, Nat.add_mul, Nat.mul_assoc, Nat.add_assoc]
theorem isD_le {c : UInt8} (h : isD c = true) : 48 ≤ c.toNat ∧ c.toNat ≤ 57 := by simpa [isD] using h
theorem val_lt : ∀ l : List UInt8, l.all isD = true → val l < 10 ^ l.length
  | [], _ => by simp [val]
  | c :: l, h => by
    rw [List.all_cons, Bool.and_eq_true] at h
    have h1 := isD_le h.1
    have h2 := val_lt l h.2
    rw [val, List.length_cons, Nat.pow_succ]
    have h3 : (c.toNat - 48) * 10 ^ l.length ≤ 9 * 10 ^ l.length := Nat.mul_le_mul_right _ (by omega)
    omega
theorem val_ge (c : UInt8) (l : List UInt8) (hc : isD c = true) (h : c ≠ 48) : 10 ^ l.length ≤ val (c :: l) := by
  have h1 := isD_le hc
  have h0 : c.toNat ≠ 48 := fun e => h (UInt8.toNat_inj.1 (by rw [e]; rfl))
  have : 1 * 10 ^ l.length ≤ (c.toNat - 48) * 10 ^ l.length := Nat.mul_le_mul_right _ (by omega)
  rw [val]; omega
theorem val_strip : ∀ l : List UInt8, val (l.dropWhile (· == 48)) = val l
  | [] => rfl
  | c :: l => by
    by_cases h : c = 48
    · subst h
      have : (48 :: l : List UInt8).dropWhile (· == 48) = l.dropWhile (· == 48) := rfl
      rw [this, val_strip l, val]
      simp
    · have hn : (c :: l).dropWhile (· == 48) = c :: l := by simp [List.dropWhile_cons, h]
      rw [hn]
theorem cmpB_val : ∀ x y : List UInt8, x.length = y.length → x.all isD = true → y.all isD = true → cmpB x y = sgn (val x) (val y)
  | [], [], _, _, _ => rfl
  | [], _ :: _, h, _, _ => by simp at h
  | _ :: _, [], h, _, _ => by simp at h
  | a :: x, b :: y, h, h1, h2 => by
    simp only [List.length_cons, Nat.add_right_cancel_iff] at h
    rw [List.all_cons, Bool.and_eq_true] at h1 h2
    have ih := cmpB_val x y h h1.2 h2.2
    have l1 := val_lt x h1.2
    have l2 := val_lt y h2.2
    have d1 := isD_le h1.1
    have d2 := isD_le h2.1
    rw [cmpB_cons, val, val, h] at *
    generalize 10 ^ y.length = P at *
    by_cases c1 : a.toNat < b.toNat
    · rw [if_pos c1]
      have : (a.toNat - 48 + 1) * P ≤ (b.toNat - 48) * P := Nat.mul_le_mul_right _ (by omega)
      rw [Nat.add_mul, Nat.one_mul] at this
      rw [sgn, if_pos (by omega)]
    · rw [if_neg c1]
      by_cases c2 : b.toNat < a.toNat
      · rw [if_pos c2]
        have : (b.toNat - 48 + 1) * P ≤ (a.toNat - 48) * P := Nat.mul_le_mul_right _ (by omega)
        rw [Nat.add_mul, Nat.one_mul] at this
        rw [sgn, if_neg (by omega), if_pos (by omega)]
      · have e : a.toNat = b.toNat := by omega
        rw [if_neg c2, ih, e]
        unfold sgn
        generalize (b.toNat - 48) * P = Z
        by_cases c3 : (val x : Int) < val y
        · rw [if_pos c3, if_pos (by omega)]
        · rw [if_neg c3, if_neg (show ¬ ((Z + val x : Nat) : Int) < ((Z + val y : Nat) : Int) by omega)]
          by_cases c4 : (val y : Int) < val x
          · rw [if_pos c4, if_pos (by omega)]
          · rw [if_neg c4, if_neg (by omega)]
theorem sgn_lt {a b : Int} (h : a < b) : sgn a b = -1 := by rw [sgn, if_pos h]
theorem sgn_gt {a b : Int} (h : b < a) : sgn a b = 1 := by rw [sgn, if_neg (by omega), if_pos h]
theorem sgn_eq {a : Int} : sgn a a = 0 := by rw [sgn, if_neg (by omega), if_neg (by omega)]
/-- Two numbers without noughts at the front. -/
theorem cmpV_num (h : Bool) (x y : List UInt8) (hx : x.all isD = true) (hy : y.all isD = true) (nx : x.dropWhile (· == 48) = x) (ny : y.dropWhile (· == 48) = y) : cmpV (h, true, x) (h, true, y) = sgn (val x) (val y) := by
  have hd : ∀ (c : UInt8) (l : List UInt8), (c :: l).dropWhile (· == 48) = c :: l → c ≠ 48 := fun c l e h => by
    subst h
    have := (List.dropWhile_sublist (l := l) (· == 48)).length_le
    have e2 : (48 :: l : List UInt8).dropWhile (· == 48) = l.dropWhile (· == 48) := rfl
    rw [e2] at e
    rw [e] at this
    simp only [List.length_cons] at this
    omega
  have key : ∀ x y : List UInt8, x.all isD = true → y.all isD = true → y.dropWhile (· == 48) = y → x.length < y.length → val x < val y := fun x y hx hy ny hl => by
    cases y with
    | nil => simp at hl
    | cons c y =>
      have h1 := val_lt x hx
      rw [List.all_cons, Bool.and_eq_true] at hy
      have h2 := val_ge c y hy.1 (hd c y ny)
      have h3 : 10 ^ x.length ≤ 10 ^ y.length := Nat.pow_le_pow_right (by omega) (by simpa using Nat.lt_succ_iff.1 hl)
      omega
  have hlex : ∀ r : Int, r > 7 → (if r > 7 then (if sgn x.length y.length ≠ 0 then sgn x.length y.length else cmpB x y) else 0) = sgn (val x) (val y) := fun r hr => by
    rw [if_pos hr]
    rcases Nat.lt_trichotomy x.length y.length with hl | hl | hl
    · have := key x y hx hy ny hl
      rw [sgn_lt (show (x.length : Int) < y.length by omega), sgn_lt (show (val x : Int) < val y by omega)]; rfl
    · have e : sgn x.length y.length = 0 := by rw [sgn, if_neg (by omega), if_neg (by omega)]
      rw [e, if_neg (by simp)]
      exact cmpB_val x y hl hx hy
    · have := key y x hy hx nx hl
      rw [sgn_gt (show (y.length : Int) < x.length by omega), sgn_gt (show (val y : Int) < val x by omega)]; rfl
  cases x with
  | nil =>
    cases y with
    | nil => cases h <;> rfl
    | cons d y =>
      have := key [] (d :: y) rfl hy ny (by simp)
      have e : sgn (val []) (val (d :: y)) = -1 := sgn_lt (by omega)
      rw [e]; cases h <;> rfl
  | cons c x =>
    cases y with
    | nil =>
      have := key [] (c :: x) rfl hx nx (by simp)
      have e : sgn (val (c :: x)) (val []) = 1 := sgn_gt (by omega)
      rw [e]; cases h <;> rfl
    | cons d y =>
      have := hlex (if h then 8 else 9) (by cases h <;> decide)
      rw [← this]
      cases h <;> rfl
end Go.Proofs.YtjbpnhmjnkolbaaDoor
