/- Plain laws about lists of defects: validity, element by element. -/
import Derived.Test.YtfjbhmpnmpphoaaS
import Derived.Laws.BitsLemmas
namespace Go.Proofs.Ytfjbhmpnmpphoaa.Pure
open Go.Saw
set_option linter.unusedVariables false
/-- What is wrong with a defect. -/
def flaw (e : E41) : Int :=
  if e.1 < 1 ∨ 6 < e.1 then 10
  else if e.2.2.1 ≤ e.2.1 ∨ e.2.2.2.2.1 ≤ e.2.2.2.1 ∨ e.2.2.2.2.2.2 ≤ e.2.2.2.2.2.1 then 19
  else if -600 ≤ e.2.1 ∧ e.2.2.1 ≤ 600 ∧ -600 ≤ e.2.2.2.1 ∧ e.2.2.2.2.1 ≤ 600 ∧ 0 ≤ e.2.2.2.2.2.1 ∧ e.2.2.2.2.2.2 ≤ 20000 then 0 else 9
theorem flaw_a (e : E41) : defect_flawed.f e.1 e.2.1 e.2.2.1 e.2.2.2.1 e.2.2.2.2.1 e.2.2.2.2.2.1 e.2.2.2.2.2.2 = some (flaw e) := by
  obtain ⟨k, xa, xb, ya, yb, za, zb⟩ := e
  have hw : ∀ a b c d, a < b → defect_within.f a b c d = some (decide (c ≤ a ∧ b ≤ d)) := by
    intro a b c d h
    have e1 : mn a b = a := by unfold mn; split <;> omega
    have e2 : mx a b = b := by unfold mx; split <;> omega
    unfold defect_within.f
    rw [e1, e2]
    split
    · congr 1; rw [decide_eq_decide]; omega
    · congr 1; symm; rw [decide_eq_false_iff_not]; omega
  unfold defect_flawed.f defect_axes.f flaw
  simp only [Option.bind_some]
  by_cases h : xa < xb ∧ ya < yb ∧ za < zb
  · obtain ⟨h1, h2, h3⟩ := h
    rw [hw _ _ _ _ h1, hw _ _ _ _ h2, hw _ _ _ _ h3]
    simp only [Option.bind_some, decide_eq_true_eq]
    repeat' split
    all_goals first | rfl | (exfalso; omega)
  · repeat' split
    all_goals first | rfl | (exfalso; omega)
theorem idx_at {l : List E41} {i : Nat} {x : E41} (h : l[i]? = some x) : idx l (i : Int) = some x := by
  unfold idx; rw [if_neg (by omega)]; simpa using h
/-- The first error of a list. -/
def chkL : List E41 → Int
  | [] => 0
  | e :: r => if flaw e = 0 then chkL r else flaw e
def chk (l : List E41) : Int := if 64 < (l.length : Int) then 4 else chkL l
theorem check_loop (l : List E41) (hb : l.length < 4611686018427387904) (K : Nat) : ∀ (d i j : Nat), i + d = l.length → d < j → defect_Check.l0 K l j i = some (chkL (l.drop i))
  | 0, i, j, hd, hj => by
    obtain ⟨j, rfl⟩ : ∃ k, j = k + 1 := ⟨j - 1, by omega⟩
    simp only [defect_Check.l0]
    rw [if_neg (by omega), List.drop_eq_nil_of_le (by omega)]
    rfl
  | d + 1, i, j, hd, hj => by
    obtain ⟨j, rfl⟩ : ∃ k, j = k + 1 := ⟨j - 1, by omega⟩
    have hlt : i < l.length := by omega
    have ih := check_loop l hb K d (i + 1) j (by omega) (by omega)
    simp only [defect_Check.l0]
    rw [if_pos (by omega), idx_at (List.getElem?_eq_getElem hlt), Option.bind_some, flaw_a, Option.bind_some, List.drop_eq_getElem_cons hlt, w_in (by omega) (by omega)]
    simp only [chkL]
    have e : ((i : Int) + 1) = ((i + 1 : Nat) : Int) := by omega
    rw [e, ih]
    split <;> rfl
theorem check_a (l : List E41) : defect_Check.f 110 l = some (chk l) := by
  unfold defect_Check.f chk
  split
  · rfl
  · have := check_loop l (by omega) 110 l.length 0 110 (by omega) (by omega)
    simpa using this
/-- The reference's test of one defect. -/
theorem flaw_b {α : Type} (e : E41) (ok : Option Int) : (if e.1 < 1 then some 10 else (if 6 < e.1 then some 10 else ((sawmillref13_Empty.f e.2.1 e.2.2.1 e.2.2.2.1 e.2.2.2.2.1 e.2.2.2.2.2.1 e.2.2.2.2.2.2).bind fun x86 => (if x86 = true then some 19 else ((sawmillref13_Ranged.f e.2.1 e.2.2.1 e.2.2.2.1 e.2.2.2.2.1 e.2.2.2.2.2.1 e.2.2.2.2.2.2).bind fun x88 => (if x88 = true then ok else some 9)))))) = if flaw e = 0 then ok else some (flaw e) := by
  obtain ⟨k, xa, xb, ya, yb, za, zb⟩ := e
  have he : sawmillref13_Empty.f xa xb ya yb za zb = some (decide (xb ≤ xa ∨ yb ≤ ya ∨ zb ≤ za)) := by
    unfold sawmillref13_Empty.f
    repeat' split
    all_goals first | (congr 1; symm; rw [decide_eq_true_eq]; omega) | (congr 1; rw [decide_eq_decide]; omega)
  have hr : sawmillref13_Ranged.f xa xb ya yb za zb = some (decide (-600 ≤ xa ∧ xb ≤ 600 ∧ -600 ≤ ya ∧ yb ≤ 600 ∧ 0 ≤ za ∧ zb ≤ 20000)) := by
    have hin : ∀ a b c d, sawmillref13_in.f a b c d = some (decide (c ≤ a ∧ b ≤ d)) := by
      intro a b c d
      unfold sawmillref13_in.f
      split
      · congr 1; rw [decide_eq_decide]; omega
      · congr 1; symm; rw [decide_eq_false_iff_not]; omega
    unfold sawmillref13_Ranged.f
    simp only [hin, Option.bind_some, decide_eq_true_eq]
    repeat' split
    all_goals first | (congr 1; rw [decide_eq_decide]; omega) | (congr 1; symm; rw [decide_eq_false_iff_not]; omega)
  simp only [he, hr, Option.bind_some, decide_eq_true_eq]
  unfold flaw
  simp only []
  repeat' split
  all_goals first | rfl | (exfalso; omega)
theorem rcheck_loop (l : List E41) (hb : l.length < 4611686018427387904) (K : Nat) : ∀ (d i j : Nat), i + d = l.length → d < j → sawmillref13_Check.l0 K l j i = some (chkL (l.drop i))
  | 0, i, j, hd, hj => by
    obtain ⟨j, rfl⟩ : ∃ k, j = k + 1 := ⟨j - 1, by omega⟩
    simp only [sawmillref13_Check.l0]
    rw [if_neg (by omega), List.drop_eq_nil_of_le (by omega)]
    rfl
  | d + 1, i, j, hd, hj => by
    obtain ⟨j, rfl⟩ : ∃ k, j = k + 1 := ⟨j - 1, by omega⟩
    have hlt : i < l.length := by omega
    have ih := rcheck_loop l hb K d (i + 1) j (by omega) (by omega)
    simp only [sawmillref13_Check.l0]
    rw [if_pos (by omega), idx_at (List.getElem?_eq_getElem hlt), Option.bind_some, flaw_b (α := Unit), List.drop_eq_getElem_cons hlt, w_in (by omega) (by omega)]
    simp only [chkL]
    have e : ((i : Int) + 1) = ((i + 1 : Nat) : Int) := by omega
    rw [e, ih]
    split <;> rfl
theorem check_b (l : List E41) : sawmillref13_Check.f 110 l = some (chk l) := by
  unfold sawmillref13_Check.f chk
  split
  · rfl
  · have := rcheck_loop l (by omega) 110 l.length 0 110 (by omega) (by omega)
    simpa using this
instance decE : DecidableEq E41 := @instDecidableEqProd _ _ _ (@instDecidableEqProd _ _ _ (@instDecidableEqProd _ _ _ (@instDecidableEqProd _ _ _ (@instDecidableEqProd _ _ _ (@instDecidableEqProd _ _ _ inferInstance)))))
theorem same_loop (a b : List E41) (hb : a.length < 4611686018427387904) (hl : a.length = b.length) (K : Nat) : ∀ (d i j : Nat), i + d = a.length → d < j → sawmillref13_Same.l0 K a b j i = some (decide (a.drop i = b.drop i))
  | 0, i, j, hd, hj => by
    obtain ⟨j, rfl⟩ : ∃ k, j = k + 1 := ⟨j - 1, by omega⟩
    simp only [sawmillref13_Same.l0]
    rw [if_neg (by omega), List.drop_eq_nil_of_le (by omega), List.drop_eq_nil_of_le (by omega)]
    simp
  | d + 1, i, j, hd, hj => by
    obtain ⟨j, rfl⟩ : ∃ k, j = k + 1 := ⟨j - 1, by omega⟩
    have hlt : i < a.length := by omega
    have hlt' : i < b.length := by omega
    have ih := same_loop a b hb hl K d (i + 1) j (by omega) (by omega)
    simp only [sawmillref13_Same.l0]
    rw [if_pos (by omega), idx_at (List.getElem?_eq_getElem hlt), Option.bind_some, idx_at (List.getElem?_eq_getElem hlt'), Option.bind_some, List.drop_eq_getElem_cons hlt, List.drop_eq_getElem_cons hlt', w_in (by omega) (by omega)]
    have e : ((i : Int) + 1) = ((i + 1 : Nat) : Int) := by omega
    rw [e, ih]
    generalize a[i] = x
    generalize b[i] = y
    obtain ⟨x1, x2, x3, x4, x5, x6, x7⟩ := x
    obtain ⟨y1, y2, y3, y4, y5, y6, y7⟩ := y
    simp only [Bool.and_true, Bool.and_eq_true, beq_iff_eq, List.cons.injEq, Prod.mk.injEq]
    by_cases h : x1 = y1 ∧ ((x2 = y2 ∧ x3 = y3) ∧ (x4 = y4 ∧ x5 = y5) ∧ x6 = y6 ∧ x7 = y7)
    · rw [if_pos h]
      congr 1
      rw [decide_eq_decide]
      constructor
      · intro hh; exact ⟨⟨h.1, h.2.1.1, h.2.1.2, h.2.2.1.1, h.2.2.1.2, h.2.2.2.1, h.2.2.2.2⟩, hh⟩
      · intro hh; exact hh.2
    · rw [if_neg h]
      congr 1
      symm
      rw [decide_eq_false_iff_not]
      intro hh
      obtain ⟨⟨h1, h2, h3, h4, h5, h6, h7⟩, _⟩ := hh
      exact h ⟨h1, ⟨h2, h3⟩, ⟨h4, h5⟩, h6, h7⟩
/-- Two lists of defects are compared whole. -/
theorem same (a b : List E41) (hb : a.length ≤ 100) : sawmillref13_Same.f 110 a b = some (decide (a = b)) := by
  unfold sawmillref13_Same.f
  by_cases h : a.length = b.length
  · rw [if_pos (by omega)]
    have := same_loop a b (by omega) h 110 a.length 0 110 (by omega) (by omega)
    simpa using this
  · rw [if_neg (by omega)]
    congr 1
    symm
    rw [decide_eq_false_iff_not]
    intro e
    subst e
    exact h rfl
theorem and3 (n : Int) : Go.bits .and .i64 n 3 = n % 4 := by
  have h3 : (BitVec.ofInt 64 3).toNat = 2 ^ 2 - 1 := by decide
  have key : (BitVec.ofInt 64 n &&& BitVec.ofInt 64 3).toNat = (n % ((2 ^ 64 : Nat) : Int)).toNat % 2 ^ 2 := by
    rw [BitVec.toNat_and, BitVec.toNat_ofInt, h3, Nat.and_two_pow_sub_one_eq_mod]
  show IntKind.i64.wrap ((BitVec.ofInt 64 n &&& BitVec.ofInt 64 3).toNat : Nat) = n % 4
  rw [key, w_eq]
  omega
theorem quarters (n : Int) (h : -9223372036854775808 ≤ n ∧ n ≤ 9223372036854775807) : sawmillref09_Quarters.f n = some (n % 4) := by
  unfold sawmillref09_Quarters.f
  have h1 : -4 < Int.tmod n 4 ∧ Int.tmod n 4 < 4 := ⟨Int.lt_tmod_of_pos n (by omega), Int.tmod_lt_of_pos n (by omega)⟩
  have h2 : (n - Int.tmod n 4) % 4 = 0 := by
    have := Int.mul_tdiv_add_tmod n 4
    omega
  rw [w_in (by omega) (by omega), Int.tmod_eq_emod_of_nonneg (by omega)]
  congr 1
  omega
/-- A quarter of a turn. -/
def quarter (e : E41) : E41 := (e.1, IntKind.i64.wrap (0 - e.2.2.2.2.1), IntKind.i64.wrap (0 - e.2.2.2.1), e.2.1, e.2.2.1, e.2.2.2.2.2.1, e.2.2.2.2.2.2)
def turnN : Nat → E41 → E41
  | 0, e => e
  | n + 1, e => turnN n (quarter e)
theorem turn_in (K : Nat) (q : Int) (kont : Int → Int → Int → Int → Int → Option (List E41)) : ∀ (d : Nat) (i : Int) (j : Nat) (e : E41), 0 ≤ i → i + d = q % 4 → d < j →
    defect_Turn.l1 K q kont j i e.2.1 e.2.2.1 e.2.2.2.1 e.2.2.2.2.1 = kont (q % 4) (turnN d e).2.1 (turnN d e).2.2.1 (turnN d e).2.2.2.1 (turnN d e).2.2.2.2.1
  | 0, i, j, e, hi, hd, hj => by
    obtain ⟨j, rfl⟩ : ∃ k, j = k + 1 := ⟨j - 1, by omega⟩
    simp only [defect_Turn.l1, and3, turnN]
    rw [if_neg (by omega), show i = q % 4 by omega]
  | d + 1, i, j, e, hi, hd, hj => by
    obtain ⟨j, rfl⟩ : ∃ k, j = k + 1 := ⟨j - 1, by omega⟩
    simp only [defect_Turn.l1, and3, turnN]
    rw [if_pos (by omega), w_in (n := i + 1) (by omega) (by omega)]
    exact turn_in K q kont d (i + 1) j (quarter e) (by omega) (by omega) (by omega)
theorem rturn_in (K : Nat) (q : Int) (hq : -9223372036854775808 ≤ q ∧ q ≤ 9223372036854775807) (kont : Int → Int → Int → Int → Int → Int → Int → Option (List E41)) : ∀ (d : Nat) (i : Int) (j : Nat) (e : E41), 0 ≤ i → i + d = q % 4 → d < j →
    sawmillref13_Turn.l1 K q kont j i e.2.1 e.2.2.1 e.2.2.2.1 e.2.2.2.2.1 e.2.2.2.2.2.1 e.2.2.2.2.2.2 = kont (q % 4) (turnN d e).2.1 (turnN d e).2.2.1 (turnN d e).2.2.2.1 (turnN d e).2.2.2.2.1 (turnN d e).2.2.2.2.2.1 (turnN d e).2.2.2.2.2.2
  | 0, i, j, e, hi, hd, hj => by
    obtain ⟨j, rfl⟩ : ∃ k, j = k + 1 := ⟨j - 1, by omega⟩
    simp only [sawmillref13_Turn.l1, quarters q hq, Option.bind_some, turnN]
    rw [if_neg (by omega), show i = q % 4 by omega]
  | d + 1, i, j, e, hi, hd, hj => by
    obtain ⟨j, rfl⟩ : ∃ k, j = k + 1 := ⟨j - 1, by omega⟩
    simp only [sawmillref13_Turn.l1, quarters q hq, Option.bind_some, turnN]
    rw [if_pos (by omega), w_in (n := i + 1) (by omega) (by omega)]
    exact rturn_in K q hq kont d (i + 1) j (quarter e) (by omega) (by omega) (by omega)
theorem turnN_keep : ∀ (d : Nat) (e : E41), (turnN d e).1 = e.1 ∧ (turnN d e).2.2.2.2.2.1 = e.2.2.2.2.2.1 ∧ (turnN d e).2.2.2.2.2.2 = e.2.2.2.2.2.2
  | 0, e => ⟨rfl, rfl, rfl⟩
  | d + 1, e => by simpa [turnN, quarter] using turnN_keep d (quarter e)
theorem app_one {acc : List E41} {x : E41} (h : acc.length < 1000) : app 56 acc [x] = some (acc ++ [x]) := by
  unfold app
  rw [if_pos (by simp; omega)]
theorem turn_loop (l : List E41) (q : Int) (hl : l.length ≤ 100) : ∀ (d i j : Nat) (acc : List E41), i + d = l.length → d < j → acc.length = i → defect_Turn.l0 110 l q j acc i = some (acc ++ (l.drop i).map (turnN (q % 4).toNat))
  | 0, i, j, acc, hd, hj, ha => by
    obtain ⟨j, rfl⟩ : ∃ k, j = k + 1 := ⟨j - 1, by omega⟩
    simp only [defect_Turn.l0]
    rw [if_neg (by omega), List.drop_eq_nil_of_le (by omega)]
    simp
  | d + 1, i, j, acc, hd, hj, ha => by
    obtain ⟨j, rfl⟩ : ∃ k, j = k + 1 := ⟨j - 1, by omega⟩
    have hlt : i < l.length := by omega
    simp only [defect_Turn.l0]
    rw [if_pos (by omega), idx_at (List.getElem?_eq_getElem hlt), Option.bind_some, turn_in 110 q _ (q % 4).toNat 0 110 l[i] (by omega) (by omega) (by omega)]
    obtain ⟨k1, k2, k3⟩ := turnN_keep (q % 4).toNat l[i]
    rw [← k1, ← k2, ← k3, app_one (by omega), Option.bind_some, w_in (by omega) (by omega)]
    have e : ((i : Int) + 1) = ((i + 1 : Nat) : Int) := by omega
    rw [e, turn_loop l q hl d (i + 1) j _ (by omega) (by omega) (by simp [ha]), List.drop_eq_getElem_cons hlt, List.map_cons]
    simp
theorem rturn_loop (l : List E41) (q : Int) (hq : -9223372036854775808 ≤ q ∧ q ≤ 9223372036854775807) (hl : l.length ≤ 100) : ∀ (d i j : Nat) (acc : List E41), i + d = l.length → d < j → acc.length = i → sawmillref13_Turn.l0 110 l q j acc i = some (acc ++ (l.drop i).map (turnN (q % 4).toNat))
  | 0, i, j, acc, hd, hj, ha => by
    obtain ⟨j, rfl⟩ : ∃ k, j = k + 1 := ⟨j - 1, by omega⟩
    simp only [sawmillref13_Turn.l0]
    rw [if_neg (by omega), List.drop_eq_nil_of_le (by omega)]
    simp
  | d + 1, i, j, acc, hd, hj, ha => by
    obtain ⟨j, rfl⟩ : ∃ k, j = k + 1 := ⟨j - 1, by omega⟩
    have hlt : i < l.length := by omega
    simp only [sawmillref13_Turn.l0]
    rw [if_pos (by omega), idx_at (List.getElem?_eq_getElem hlt), Option.bind_some, rturn_in 110 q hq _ (q % 4).toNat 0 110 l[i] (by omega) (by omega) (by omega)]
    obtain ⟨k1, k2, k3⟩ := turnN_keep (q % 4).toNat l[i]
    rw [← k1, app_one (by omega), Option.bind_some, w_in (by omega) (by omega)]
    have e : ((i : Int) + 1) = ((i + 1 : Nat) : Int) := by omega
    rw [e, rturn_loop l q hq hl d (i + 1) j _ (by omega) (by omega) (by simp [ha]), List.drop_eq_getElem_cons hlt, List.map_cons]
    simp
def turn (l : List E41) (q : Int) : List E41 := if chk l = 0 then l.map (turnN (q % 4).toNat) else []
theorem turn_a (l : List E41) (q : Int) (hl : l.length ≤ 100) : defect_Turn.f 110 l q = some (turn l q) := by
  unfold defect_Turn.f turn
  rw [check_a, Option.bind_some]
  split
  · have := turn_loop l q hl l.length 0 110 [] (by omega) (by omega) rfl
    simpa using this
  · rfl
theorem turn_b (l : List E41) (q : Int) (hq : -9223372036854775808 ≤ q ∧ q ≤ 9223372036854775807) (hl : l.length ≤ 100) : sawmillref13_Turn.f 110 l q = some (turn l q) := by
  unfold sawmillref13_Turn.f turn
  rw [check_b, Option.bind_some]
  split
  · have := rturn_loop l q hq hl l.length 0 110 [] (by omega) (by omega) rfl
    simpa using this
  · rfl
theorem turn_len (l : List E41) (q : Int) : (turn l q).length ≤ l.length := by
  unfold turn; split <;> simp
end Go.Proofs.Ytfjbhmpnmpphoaa.Pure
