/- Plain laws about assignments: which boards fit which orders; tables. -/
import Derived.Test.YtbogdbbmmlaohaaS5
namespace Go.Proofs.Ytbogdbbmmlaohaa.Pure
open Go.Saw
set_option linter.unusedVariables false
def lenB (a b : Int) : Int := if a < 0 then 0 else if b ≤ a then 0 else if 20000 < b then 0 else b - a
def meanB (a b c : Int) : Int := if 0 ≤ a ∧ a ≤ 20000 ∧ 0 ≤ b ∧ b ≤ 20000 ∧ 0 ≤ c ∧ c ≤ 1099511627776 then (a + 2 * b) / 3 else 0
/-- What stands against a board for an order: 0, if it fits. -/
def fitE (x : E27) (b : E37) : Int :=
  if b.2.2.1.toList = x.2.1.toList then (if b.2.2.2.1 = x.2.2.1 then (if lenB b.2.2.2.2.2.2.2.2.1 b.2.2.2.2.2.2.2.2.2.1 = x.2.2.2.1 then (if b.2.2.2.2.2.2.2.2.2.2.2.2.2.2.2.2.1 = true then (if x.2.2.2.2.2.1 < meanB b.2.2.2.2.2.2.2.2.2.2.2.2.2.1 b.2.2.2.2.2.2.2.2.2.2.2.2.2.2.1 b.2.2.2.2.2.2.2.2.2.2.2.2.2.2.2.1 then 25 else if b.2.2.2.2.2.2.2.2.2.2.2.2.2.2.2.2.2 < 1 then 26 else if x.2.2.2.2.1 < b.2.2.2.2.2.2.2.2.2.2.2.2.2.2.2.2.2 then 26 else 0) else 14) else 20) else 8) else 24
theorem meanB_a (a b c : Int) : moist_Mean.f a b c = some (meanB a b c) ∧ sawmillref36_Mean.f a b c = some (meanB a b c) := by
  by_cases h : 0 ≤ a ∧ a ≤ 20000 ∧ 0 ≤ b ∧ b ≤ 20000 ∧ 0 ≤ c ∧ c ≤ 1099511627776
  · have e : IntKind.i64.wrap (Int.tdiv (IntKind.i64.wrap (a + (IntKind.i64.wrap (2 * b)))) 3) = meanB a b c := by
      unfold meanB
      rw [if_pos h, w_in (n := 2 * b) (by omega) (by omega), w_in (n := a + 2 * b) (by omega) (by omega), Int.tdiv_eq_ediv_of_nonneg (by omega), w_in (by omega) (by omega)]
    constructor
    · unfold moist_Mean.f moist_Check.f mn mx
      rw [if_neg (by split <;> omega), if_neg (by split <;> omega), if_neg (by omega), if_neg (by omega), Option.bind_some, if_pos rfl, e]
    · unfold sawmillref36_Mean.f sawmillref36_Check.f
      rw [if_neg (by omega), if_neg (by omega), if_neg (by omega), if_neg (by omega), if_neg (by omega), if_neg (by omega), Option.bind_some, if_pos rfl, e]
  · have e : meanB a b c = 0 := by unfold meanB; rw [if_neg h]
    rw [e]
    constructor
    · have : ∃ n, moist_Check.f a b c = some n ∧ n ≠ 0 := by
        unfold moist_Check.f mn mx
        repeat' split
        all_goals first | exact ⟨_, rfl, by decide⟩ | (exfalso; omega)
      obtain ⟨n, h1, h2⟩ := this
      unfold moist_Mean.f
      rw [h1, Option.bind_some, if_neg h2]
    · have : ∃ n, sawmillref36_Check.f a b c = some n ∧ n ≠ 0 := by
        unfold sawmillref36_Check.f
        repeat' split
        all_goals first | exact ⟨_, rfl, by decide⟩ | (exfalso; omega)
      obtain ⟨n, h1, h2⟩ := this
      unfold sawmillref36_Mean.f
      rw [h1, Option.bind_some, if_neg h2]
theorem lenB_a (b : E37) : board_Length.f b.1 b.2.1 b.2.2.1 b.2.2.2.1 b.2.2.2.2.1 b.2.2.2.2.2.1 b.2.2.2.2.2.2.1 b.2.2.2.2.2.2.2.1 b.2.2.2.2.2.2.2.2.1 b.2.2.2.2.2.2.2.2.2.1 b.2.2.2.2.2.2.2.2.2.2.1 b.2.2.2.2.2.2.2.2.2.2.2.1 b.2.2.2.2.2.2.2.2.2.2.2.2.1 b.2.2.2.2.2.2.2.2.2.2.2.2.2.1 b.2.2.2.2.2.2.2.2.2.2.2.2.2.2.1 b.2.2.2.2.2.2.2.2.2.2.2.2.2.2.2.1 b.2.2.2.2.2.2.2.2.2.2.2.2.2.2.2.2.1 b.2.2.2.2.2.2.2.2.2.2.2.2.2.2.2.2.2 = some (lenB b.2.2.2.2.2.2.2.2.1 b.2.2.2.2.2.2.2.2.2.1) ∧ sawmillref30_Length.f b.1 b.2.1 b.2.2.1 b.2.2.2.1 b.2.2.2.2.1 b.2.2.2.2.2.1 b.2.2.2.2.2.2.1 b.2.2.2.2.2.2.2.1 b.2.2.2.2.2.2.2.2.1 b.2.2.2.2.2.2.2.2.2.1 b.2.2.2.2.2.2.2.2.2.2.1 b.2.2.2.2.2.2.2.2.2.2.2.1 b.2.2.2.2.2.2.2.2.2.2.2.2.1 b.2.2.2.2.2.2.2.2.2.2.2.2.2.1 b.2.2.2.2.2.2.2.2.2.2.2.2.2.2.1 b.2.2.2.2.2.2.2.2.2.2.2.2.2.2.2.1 b.2.2.2.2.2.2.2.2.2.2.2.2.2.2.2.2.1 b.2.2.2.2.2.2.2.2.2.2.2.2.2.2.2.2.2 = some (lenB b.2.2.2.2.2.2.2.2.1 b.2.2.2.2.2.2.2.2.2.1) := by
  generalize b.2.2.2.2.2.2.2.2.1 = z1
  generalize b.2.2.2.2.2.2.2.2.2.1 = z2
  constructor
  · unfold board_Length.f board_size.f lenB
    split
    · rfl
    · split
      · rfl
      · split
        · rfl
        · rw [Option.bind_some, w_in (by omega) (by omega)]
  · have hw : sawmillref30_within.f z1 z2 0 20000 = some (decide (0 ≤ z1 ∧ z1 ≤ 20000 ∧ 0 ≤ z2 ∧ z2 ≤ 20000)) := by
      unfold sawmillref30_within.f
      repeat' split
      all_goals first | (congr 1; rw [decide_eq_decide]; omega) | (congr 1; symm; rw [decide_eq_false_iff_not]; omega)
    unfold sawmillref30_Length.f sawmillref30_length.f
    rw [hw, Option.bind_some]
    by_cases h : 0 ≤ z1 ∧ z1 ≤ 20000 ∧ 0 ≤ z2 ∧ z2 ≤ 20000
    · rw [if_pos (by simpa using h), Option.bind_some, w_in (by omega) (by omega)]
      congr 1
      unfold mx lenB
      repeat' split
      all_goals omega
    · rw [if_neg (by simpa using h)]
      congr 1
      unfold lenB
      repeat' split
      all_goals omega
theorem fits_a (x : E27) (b : E37) : order_Fits.f x.1 x.2.1 x.2.2.1 x.2.2.2.1 x.2.2.2.2.1 x.2.2.2.2.2.1 x.2.2.2.2.2.2.1 x.2.2.2.2.2.2.2.1 x.2.2.2.2.2.2.2.2.1 x.2.2.2.2.2.2.2.2.2.1 x.2.2.2.2.2.2.2.2.2.2 b.1 b.2.1 b.2.2.1 b.2.2.2.1 b.2.2.2.2.1 b.2.2.2.2.2.1 b.2.2.2.2.2.2.1 b.2.2.2.2.2.2.2.1 b.2.2.2.2.2.2.2.2.1 b.2.2.2.2.2.2.2.2.2.1 b.2.2.2.2.2.2.2.2.2.2.1 b.2.2.2.2.2.2.2.2.2.2.2.1 b.2.2.2.2.2.2.2.2.2.2.2.2.1 b.2.2.2.2.2.2.2.2.2.2.2.2.2.1 b.2.2.2.2.2.2.2.2.2.2.2.2.2.2.1 b.2.2.2.2.2.2.2.2.2.2.2.2.2.2.2.1 b.2.2.2.2.2.2.2.2.2.2.2.2.2.2.2.2.1 b.2.2.2.2.2.2.2.2.2.2.2.2.2.2.2.2.2 = some (fitE x b) := by
  unfold order_Fits.f fitE
  rw [(lenB_a b).1, Option.bind_some, (meanB_a _ _ _).1, Option.bind_some]
  repeat' split
  all_goals rfl
theorem fits_b (x : E27) (b : E37) : sawmillref46_Fits.f x.1 x.2.1 x.2.2.1 x.2.2.2.1 x.2.2.2.2.1 x.2.2.2.2.2.1 x.2.2.2.2.2.2.1 x.2.2.2.2.2.2.2.1 x.2.2.2.2.2.2.2.2.1 x.2.2.2.2.2.2.2.2.2.1 x.2.2.2.2.2.2.2.2.2.2 b.1 b.2.1 b.2.2.1 b.2.2.2.1 b.2.2.2.2.1 b.2.2.2.2.2.1 b.2.2.2.2.2.2.1 b.2.2.2.2.2.2.2.1 b.2.2.2.2.2.2.2.2.1 b.2.2.2.2.2.2.2.2.2.1 b.2.2.2.2.2.2.2.2.2.2.1 b.2.2.2.2.2.2.2.2.2.2.2.1 b.2.2.2.2.2.2.2.2.2.2.2.2.1 b.2.2.2.2.2.2.2.2.2.2.2.2.2.1 b.2.2.2.2.2.2.2.2.2.2.2.2.2.2.1 b.2.2.2.2.2.2.2.2.2.2.2.2.2.2.2.1 b.2.2.2.2.2.2.2.2.2.2.2.2.2.2.2.2.1 b.2.2.2.2.2.2.2.2.2.2.2.2.2.2.2.2.2 = some (fitE x b) := by
  unfold sawmillref46_Fits.f fitE
  rw [(lenB_a b).2, Option.bind_some, (meanB_a _ _ _).2, Option.bind_some]
  repeat' split
  all_goals rfl
def rowE (x : E27) (l : List E37) : List E4 := l.map fun b => fitE x b == 0
def tb (o : List E27) (l : List E37) : List (List E4) := o.map fun x => rowE x l
theorem map_take {α β : Type} {l : List α} {i : Nat} {x : α} (f : α → β) (h : l[i]? = some x) : (l.take i).map f ++ [f x] = (l.take (i + 1)).map f := by
  rw [take_at h, List.map_append]; rfl
theorem row_a (x : E27) (l : List E37) (hl : l.length ≤ 20) (kont : List E4 → Int → Option (List (List E4))) : assign_Table.l1 110 l x.1 x.2.1 x.2.2.1 x.2.2.2.1 x.2.2.2.2.1 x.2.2.2.2.2.1 x.2.2.2.2.2.2.1 x.2.2.2.2.2.2.2.1 x.2.2.2.2.2.2.2.2.1 x.2.2.2.2.2.2.2.2.2.1 x.2.2.2.2.2.2.2.2.2.2 kont 110 [] 0 = kont (rowE x l) l.length := by
  refine run l (fun k s q => assign_Table.l1 110 l x.1 x.2.1 x.2.2.1 x.2.2.2.1 x.2.2.2.2.1 x.2.2.2.2.2.1 x.2.2.2.2.2.2.1 x.2.2.2.2.2.2.2.1 x.2.2.2.2.2.2.2.2.1 x.2.2.2.2.2.2.2.2.2.1 x.2.2.2.2.2.2.2.2.2.2 kont k s q) (fun q => (l.take q).map fun b => fitE x b == 0) _ (by omega) (fun q b k hb => ?_) (fun k => ?_) 110 (by omega)
  · have hq := at_lt hb
    simp only [assign_Table.l1]
    rw [if_pos (by omega), idx_at hb, Option.bind_some, fits_a, Option.bind_some, app_small (by simp; omega), Option.bind_some, map_take (fun b => fitE x b == 0) hb]
  · simp only [assign_Table.l1]
    rw [if_neg (by omega), List.take_length]
    rfl
theorem table_a (o : List E27) (l : List E37) (ho : o.length ≤ 20) (hl : l.length ≤ 20) : assign_Table.f 110 o l = some (tb o l) := by
  unfold assign_Table.f tb
  refine run o (fun j s i => assign_Table.l0 110 o l j s i) (fun i => (o.take i).map fun x => rowE x l) _ (by omega) (fun i x j hx => ?_) (fun j => ?_) 110 (by omega)
  · have hi := at_lt hx
    simp only [assign_Table.l0]
    rw [if_pos (by omega), idx_at hx, Option.bind_some, row_a x l hl, app_small (by simp; omega), Option.bind_some, map_take (fun x => rowE x l) hx]
  · simp only [assign_Table.l0]
    rw [if_neg (by omega), List.take_length]
theorem set_mid {α : Type} {a : List α} {n : Nat} {f v : α} (i : Nat) (hi : a.length = i) (hn : 0 < n) : (a ++ List.replicate n f).set i v = a ++ [v] ++ List.replicate (n - 1) f := by
  subst hi
  obtain ⟨n, rfl⟩ : ∃ k, n = k + 1 := ⟨n - 1, by omega⟩
  rw [List.set_append_right _ _ (Nat.le_refl _), Nat.sub_self, List.replicate_succ, List.set_cons_zero]
  simp
theorem row_b (o : List E27) (i : Nat) (x : E27) (hx : o[i]? = some x) (l : List E37) (hl : l.length ≤ 20) (kont : Int → List E4 → Option (List (List E4))) : sawmillref48_Table.l1 110 o l i kont 110 0 (List.replicate l.length false) = kont l.length (rowE x l) := by
  have hz : List.replicate l.length false = ((l.take 0).map fun b => fitE x b == 0) ++ List.replicate (l.length - 0) false := by simp
  rw [hz]
  refine run l (fun k s q => sawmillref48_Table.l1 110 o l i kont k q s) (fun q => ((l.take q).map fun b => fitE x b == 0) ++ List.replicate (l.length - q) false) _ (by omega) (fun q b k hb => ?_) (fun k => ?_) 110 (by omega)
  · have hq := at_lt hb
    have hlen : ((l.take q).map fun b => fitE x b == 0).length = q := by rw [List.length_map, List.length_take]; omega
    simp only [sawmillref48_Table.l1]
    rw [if_pos (by omega), idx_at hx, Option.bind_some, idx_at hb, Option.bind_some, fits_b, Option.bind_some]
    have hix : ∃ v, idx (((l.take q).map fun b => fitE x b == 0) ++ List.replicate (l.length - q) false) (q : Int) = some v := by
      have hlt : q < (((l.take q).map fun b => fitE x b == 0) ++ List.replicate (l.length - q) false).length := by rw [List.length_append, hlen, List.length_replicate]; omega
      exact ⟨_, idx_at (List.getElem?_eq_getElem hlt)⟩
    obtain ⟨v, hv⟩ := hix
    rw [hv, Option.bind_some, show ((q : Nat) : Int).toNat = q by omega, set_mid q hlen (by omega), map_take (fun b => fitE x b == 0) hb, show l.length - q - 1 = l.length - (q + 1) by omega]
  · simp only [sawmillref48_Table.l1]
    rw [if_neg (by omega), List.take_length, Nat.sub_self, List.replicate_zero, List.append_nil]
    rfl
theorem table_b (o : List E27) (l : List E37) (ho : o.length ≤ 20) (hl : l.length ≤ 20) : sawmillref48_Table.f 110 o l = some (tb o l) := by
  unfold sawmillref48_Table.f tb
  refine run o (fun j s i => sawmillref48_Table.l0 110 o l j s i) (fun i => (o.take i).map fun x => rowE x l) _ (by omega) (fun i x j hx => ?_) (fun j => ?_) 110 (by omega)
  · have hi := at_lt hx
    have hmk : mk (l.length : Int) false = some (List.replicate l.length false) := by
      unfold mk
      rw [if_pos (by omega), Int.toNat_natCast]
    simp only [sawmillref48_Table.l0]
    rw [if_pos (by omega), hmk, Option.bind_some, row_b o i x hx l hl, app_small (by simp; omega), Option.bind_some, map_take (fun x => rowE x l) hx]
  · simp only [sawmillref48_Table.l0]
    rw [if_neg (by omega), List.take_length]
end Go.Proofs.Ytbogdbbmmlaohaa.Pure
