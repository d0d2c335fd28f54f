/-
  THE VALUE MACHINE, 23: two steps of which either may come first, one of them a reading of bytes as a text.
-/
import Derived.Test.YtjbpnhmjnkolbaaDoorVk
set_option linter.unusedVariables false
set_option linter.unusedSimpArgs false
namespace Go.Proofs.YtjbpnhmjnkolbaaDoor
open Go.RowKit

section
variable {G H : Gh} {n : Nat} {D : List Deferred} {e : Env} {a : Act} {P : Program} {tab : Tab} {O O' : VH} {w : World} {m m' : MV} {u v : Value} {ops : Array Oper} {Q : VQ} {md : Md}

theorem textA_M (ht : TabOk P tab) {d : Option Tmp} {src dst el : TypeId} {x : Operand} {ty : TypeId} {ps : String} {af : Array Edge} {g : Option (Nat × Bool)} {k o nn c : Nat} {cs : List MV} {l : List UInt8}
    (hx : ev e x = some (.asl k o nn c)) (hs : (tab src).map TyI.under = some (.slice el)) (hds : (tab dst).map TyI.under = some .string) (he : (tab el).map TyI.under = some (.int .u8)) (hk : O.hp k = some (.cells cs)) (hn : nn = l.length) (hcs : (cs.drop o).take l.length = l.map byM) :
    YieldsM P n D (.mk d (.convert src dst x) ty ps af g) e O fun m O' => m = .str l ∧ O' = O := by
  subst hn
  intro G a w hw hf
  obtain ⟨u, w', H, hr, h1, h2, h3, _⟩ := textA_ok (P := P) ht hw hs hds he hk hcs (hf.ev hx)
  exact ⟨_, _, u, w', H, ⟨rfl, rfl⟩, by simp only [execOp, Sem.run_bind, hr]; rfl, h1, h2, h3⟩
/-- Two steps of which either may come first; the first one's answer is the same in both orders. -/
theorem VL.forkM (ht : TabOk P tab) {L : List (Fl × Oper)} {oi oj : Oper} {mi mj mj' : MV} {O2 O2' : VH}
    (hgi : vguard ops oi e = some true) (hyi : YieldsM P n D oi e O fun m O' => m = mi ∧ O' = O) (hdi : dstB n oi.dst = true) (hgj : vguard ops oj (putM oi.dst mi e) = some true) (hvj : vop tab oj (putM oi.dst mi e) O = some (mj, O2)) (hdj : dstB n oj.dst = true)
    (hgj' : vguard ops oj e = some true) (hvj' : vop tab oj e O = some (mj', O2')) (hgi' : vguard ops oi (putM oj.dst mj' e) = some true) (hyi' : YieldsM P n D oi (putM oj.dst mj' e) O2' fun m O' => m = mi ∧ O' = O2')
    (h1 : VL P n D .any ops L (putM oj.dst mj (putM oi.dst mi e)) O2 Q) (h2 : VL P n D .any ops L (putM oi.dst mi (putM oj.dst mj' e)) O2' Q) : VL P n D .any ops ((.fk, oi) :: (.one, oj) :: L) e O Q := by
  intro fuel listed ix hf hp
  match ix, hf with
  | (i, g) :: (j, g') :: ix, hf =>
    obtain ⟨rfl, hoi, rfl, hoj, hf⟩ := hf
    obtain ⟨q1, q2⟩ := hp (by simp)
    match fuel, q2 with
    | fuel + 1, q2 =>
      simp only [planOk, Bool.and_eq_true, Bool.or_eq_true, beq_iff_eq] at q2
      obtain ⟨⟨⟨r1, r2⟩, r3⟩, q3⟩ := q2
      match fuel, q3 with
      | fuel + 1, q3 =>
        simp only [planOk, Bool.and_eq_true, beq_iff_eq] at q3
        have k1 := h1 fuel ((listed.setIfInBounds i true).setIfInBounds j true) ix hf (fun _ => ⟨q1, q3.2⟩)
        have hne : i ≠ j := by
          rintro rfl
          have hm : i ∈ Region.ready .any ops (listed.setIfInBounds i true) := by rw [r2]; simp
          simp only [Region.ready, List.mem_filter, Bool.and_eq_true] at hm
          have hlt : i < ops.size := by simpa using hm.1
          have h0 := hm.2.1
          rcases Nat.lt_or_ge i listed.size with hl | hl
          · simp [hl] at h0
          · have : listed.setIfInBounds i true = listed := Array.setIfInBounds_eq_of_size_le hl
            rw [Array.getD_eq_getD_getElem?, Array.getElem?_eq_none (by simpa using hl)] at h0
            simp at h0
        have k2 := h2 fuel ((listed.setIfInBounds j true).setIfInBounds i true) ix hf (fun _ => ⟨q1, by
          rw [Array.setIfInBounds_comm _ _ (Ne.symm hne)]; exact q3.2⟩)
        have key : ∀ rs, Region.ready .any ops listed = rs → (∀ x ∈ rs, x = i ∨ x = j) → rs ≠ [] → VAny P n D ops (fuel + 1 + 1) listed e O Q := fun rs hr hmem hne2 =>
          VAny.all hr hne2 fun x hx => by
            rcases hmem x hx with rfl | rfl
            · refine VOne.stepM hoi hgi hdi hyi ?_
              rintro m O' ⟨rfl, rfl⟩
              exact VAny.all r2 (by simp) fun y hy => by
                obtain rfl : y = j := by simpa using hy
                exact VOne.op ht hoj hgj hvj hdj k1
            · exact VOne.op ht hoj hgj' hvj' hdj (VAny.all r3 (by simp) fun y hy => by
                obtain rfl : y = i := by simpa using hy
                refine VOne.stepM hoi hgi' hdi hyi' ?_
                rintro m O' ⟨rfl, rfl⟩
                exact k2)
        rcases r1 with r1 | r1
        · exact key _ r1 (by simp) (by simp)
        · exact key _ r1 (by intro x hx; simp only [List.mem_cons, List.not_mem_nil, or_false] at hx; exact hx.symm) (by simp)
def PreK (K : MV → VH → Prop) : Option (MV × VH) → Prop
  | some (m, O) => K m O
  | none => False
theorem PreK_some {K : MV → VH → Prop} : PreK K (some (m, O)) = K m O := rfl
theorem VAny.pre1 (ht : TabOk P tab) (i : Nat) {fuel : Nat} {listed : Array Bool} {l : List Oper} {o : Oper} (ho : l[i]? = some o) (hs : Region.noSelect ⟨l⟩ = true) (hf : Region.free .any ⟨l⟩ listed i = true) (hr : (Region.ready .any ⟨l⟩ listed).contains i = true)
    (hg : vguard ⟨l⟩ o e = some true) (hd : dstB n o.dst = true) (h : PreK (fun m O' => VAny P n D ⟨l⟩ fuel (listed.setIfInBounds i true) (putM o.dst m e) O' Q) (vopF tab .sil o e O)) : VAny P n D ⟨l⟩ (fuel + 1) listed e O Q := by
  generalize hv : vopF tab .sil o e O = v at h
  cases v with
  | none => exact h.elim
  | some p =>
    obtain ⟨m, O'⟩ := p
    obtain ⟨h1, rfl⟩ := vopS_sil hv
    exact VAny.silent ht (by simpa using ho) hs hf hr hg h1 hd h
theorem VOne.st {i : Nat} {l : List Oper} {o : Oper} {M : MV → VH → Prop} {K : Env → VH → Prop} (ho : l[i]? = some o) (hg : vguard ⟨l⟩ o e = some true) (hd : dstB n o.dst = true) (hy : YieldsM P n D o e O M) (h : ∀ m O', M m O' → K (putM o.dst m e) O') : VOne P n D ⟨l⟩ i e O Q K :=
  VOne.stepM (by simpa using ho) hg hd hy h
theorem VOne.o1 (ht : TabOk P tab) {i : Nat} {l : List Oper} {o : Oper} {K : Env → VH → Prop} (ho : l[i]? = some o) (hg : vguard ⟨l⟩ o e = some true) (hd : dstB n o.dst = true) (h : PreK (fun m O' => K (putM o.dst m e) O') (vop tab o e O)) : VOne P n D ⟨l⟩ i e O Q K := by
  generalize hv : vop tab o e O = v at h
  cases v with
  | none => exact h.elim
  | some p => exact VOne.op ht (by simpa using ho) hg hv hd h
theorem VAny.plan (ht : TabOk P tab) (ix : List (Nat × Fl)) {fuel : Nat} {listed : Array Bool} {l : List Oper} {L : List (Fl × Oper)} (hs : Region.noSelect ⟨l⟩ = true) (hp : planOk .any ⟨l⟩ fuel listed ix = true) (hL : pickL l ix = some L)
    (h : WL P tab n D .any ⟨l⟩ Q L e O) : VAny P n D ⟨l⟩ fuel listed e O Q := (WL.sound ht h) fuel listed ix (fits_pick hL) (fun _ => ⟨hs, hp⟩)
end
end Go.Proofs.YtjbpnhmjnkolbaaDoor
