/- Plain laws about assignments: the form of a table, Counts, Valid, CountsOf. -/
import Derived.Test.YtbogdbbmmlaohaaS3
namespace Go.Proofs.Ytbogdbbmmlaohaa.Pure
open Go.Saw
set_option linter.unusedVariables false
def wid (f : List (List E4)) : Nat := (f[0]?.getD []).length
/-- The error of the form of a table. -/
def shp (f : List (List E4)) : Int := if 32 < f.length then 4 else if f.any (fun r => decide (512 < r.length)) = true then 4 else if f.any (fun r => decide (r.length ≠ wid f)) = true then 19 else 0
theorem any_drop {f : List (List E4)} {p : List E4 → Bool} {i : Nat} {r : List E4} (h : f[i]? = some r) : (f.drop i).any p = (p r || (f.drop (i + 1)).any p) := by
  obtain ⟨h1, h2⟩ := List.getElem?_eq_some_iff.1 h
  rw [List.drop_eq_getElem_cons h1, h2, List.any_cons]
theorem shaped_1 (K : Nat) (f : List (List E4)) (hf : f.length ≤ 32) (kont : Int → Option Int) : ∀ (d i j : Nat), i + d = f.length → d < j → assign_shaped.l1 K f kont j i = if (f.drop i).any (fun r => decide (r.length ≠ wid f)) = true then some 19 else kont f.length
  | 0, i, j, hd, hj => by
    obtain ⟨j, rfl⟩ : ∃ k, j = k + 1 := ⟨j - 1, by omega⟩
    obtain rfl : i = f.length := by omega
    simp only [assign_shaped.l1]
    rw [if_neg (by omega), List.drop_eq_nil_of_le (Nat.le_refl _)]
    rfl
  | d + 1, i, j, hd, hj => by
    obtain ⟨j, rfl⟩ : ∃ k, j = k + 1 := ⟨j - 1, by omega⟩
    have hi : i < f.length := by omega
    have h0 : 0 < f.length := by omega
    have hx := List.getElem?_eq_getElem hi
    have hz := idx_at (List.getElem?_eq_getElem h0)
    rw [show ((0 : Nat) : Int) = 0 from rfl] at hz
    have hw : wid f = (f[0]).length := by unfold wid; rw [List.getElem?_eq_getElem h0, Option.getD_some]
    simp only [assign_shaped.l1]
    rw [if_pos (by omega), idx_at hx, Option.bind_some, hz, Option.bind_some, w_in (by omega) (by omega), show (i : Int) + 1 = ((i + 1 : Nat) : Int) by omega, shaped_1 K f hf kont d (i + 1) j (by omega) (by omega), any_drop hx]
    by_cases e : (f[i]).length = wid f
    · rw [if_pos (by rw [e, hw])]
      simp [e]
    · rw [if_neg (by rw [← hw]; omega)]
      simp [e]
theorem shaped_0 (K : Nat) (hK : 33 ≤ K) (f : List (List E4)) (hf : f.length ≤ 32) : ∀ (d i j : Nat), i + d = f.length → d < j → assign_shaped.l0 K f j i = if (f.drop i).any (fun r => decide (512 < r.length)) = true then some 4 else if f.any (fun r => decide (r.length ≠ wid f)) = true then some 19 else some 0
  | 0, i, j, hd, hj => by
    obtain ⟨j, rfl⟩ : ∃ k, j = k + 1 := ⟨j - 1, by omega⟩
    obtain rfl : i = f.length := by omega
    simp only [assign_shaped.l0]
    have := shaped_1 K f hf (fun _ => some 0) f.length 0 K (by omega) (by omega)
    rw [show ((0 : Nat) : Int) = 0 from rfl, List.drop_zero] at this
    rw [if_neg (by omega), List.drop_eq_nil_of_le (Nat.le_refl _), this]
    rfl
  | d + 1, i, j, hd, hj => by
    obtain ⟨j, rfl⟩ : ∃ k, j = k + 1 := ⟨j - 1, by omega⟩
    have hi : i < f.length := by omega
    have hx := List.getElem?_eq_getElem hi
    simp only [assign_shaped.l0]
    rw [if_pos (by omega), idx_at hx, Option.bind_some, w_in (by omega) (by omega), show (i : Int) + 1 = ((i + 1 : Nat) : Int) by omega, shaped_0 K hK f hf d (i + 1) j (by omega) (by omega), any_drop hx]
    by_cases e : 512 < (f[i]).length
    · rw [if_pos (by omega)]
      simp [e]
    · rw [if_neg (by omega)]
      simp [e]
theorem shaped_a (f : List (List E4)) : assign_shaped.f 110 f = some (shp f) := by
  unfold assign_shaped.f shp
  by_cases h : 32 < f.length
  · rw [if_pos (by omega), if_pos h]
  · rw [if_neg (by omega), if_neg h]
    have := shaped_0 110 (by omega) f (by omega) f.length 0 110 (by omega) (by omega)
    rw [show ((0 : Nat) : Int) = 0 from rfl, List.drop_zero] at this
    rw [this]
    repeat' split
    all_goals rfl
theorem shp_ok {f : List (List E4)} (h : shp f = 0) : f.length ≤ 32 ∧ ∀ r ∈ f, r.length = wid f := by
  unfold shp at h
  split at h
  · omega
  · split at h
    · omega
    · split at h
      · omega
      · rename_i h1 h2 h3
        refine ⟨by omega, fun r hr => ?_⟩
        apply Classical.byContradiction
        intro hne
        exact h3 (List.any_eq_true.2 ⟨r, hr, by simpa using hne⟩)
theorem ok_shp {f : List (List E4)} (h : f.length ≤ 32) (hr : ∀ r ∈ f, r.length = wid f) (hw : wid f ≤ 512) : shp f = 0 := by
  unfold shp
  rw [if_neg (by omega), if_neg, if_neg]
  · intro hh
    obtain ⟨r, h1, h2⟩ := List.any_eq_true.1 hh
    rw [decide_eq_true_eq] at h2
    exact h2 (hr r h1)
  · intro hh
    obtain ⟨r, h1, h2⟩ := List.any_eq_true.1 hh
    rw [decide_eq_true_eq, hr r h1] at h2
    omega
/-- A table that is refused, or has short rows. -/
def Sm (f : List (List E4)) (k : Nat) : Prop := shp f ≠ 0 ∨ wid f ≤ k
theorem Tbl.of {f : List (List E4)} (h : shp f = 0) (hw : wid f ≤ 50) : Tbl f f.length (wid f) := by
  obtain ⟨h1, h2⟩ := shp_ok h
  refine ⟨rfl, h2, fun h0 => ?_, h1, by omega⟩
  unfold wid
  rw [List.getElem?_eq_none (by omega)]; rfl
theorem small_1 (K : Nat) (f : List (List E4)) (hf : f.length ≤ 32) (lg : Bool) (kont : Int → Option Bool) : ∀ (d i j : Nat), i + d = f.length → d < j → sawmilllaw48_small.l1 K f lg kont j i = if lg = false ∧ (f.drop i).any (fun r => decide (14 < r.length)) = true then some false else kont f.length
  | 0, i, j, hd, hj => by
    obtain ⟨j, rfl⟩ : ∃ k, j = k + 1 := ⟨j - 1, by omega⟩
    obtain rfl : i = f.length := by omega
    simp only [sawmilllaw48_small.l1]
    rw [if_neg (by omega), List.drop_eq_nil_of_le (Nat.le_refl _)]
    simp
  | d + 1, i, j, hd, hj => by
    obtain ⟨j, rfl⟩ : ∃ k, j = k + 1 := ⟨j - 1, by omega⟩
    have hi : i < f.length := by omega
    have hx := List.getElem?_eq_getElem hi
    simp only [sawmilllaw48_small.l1]
    rw [if_pos (by omega), idx_at hx, Option.bind_some, w_in (by omega) (by omega), show (i : Int) + 1 = ((i + 1 : Nat) : Int) by omega, small_1 K f hf lg kont d (i + 1) j (by omega) (by omega), any_drop hx]
    by_cases e : 14 < (f[i]).length
    · rw [if_pos (by omega)]
      cases lg <;> simp [e]
    · rw [if_neg (by omega)]
      cases lg <;> simp [e]
theorem small_0 (f : List (List E4)) (hf : f.length ≤ 32) : ∀ (d i j : Nat) (lg : Bool), i + d = f.length → d < j → (lg = true → f.any (fun r => decide (512 < r.length)) = true) →
      ∃ t, sawmilllaw48_small.l0 110 f j lg i = some t ∧ (t = true → f.any (fun r => decide (512 < r.length)) = true ∨ (f.length ≤ 8 ∧ f.any (fun r => decide (14 < r.length)) = false))
  | 0, i, j, lg, hd, hj, hl => by
    obtain ⟨j, rfl⟩ : ∃ k, j = k + 1 := ⟨j - 1, by omega⟩
    obtain rfl : i = f.length := by omega
    simp only [sawmilllaw48_small.l0]
    have := small_1 110 f hf lg (fun _ => if lg = true then some true else some (decide ((f.length : Int) ≤ 8))) f.length 0 110 (by omega) (by omega)
    rw [show ((0 : Nat) : Int) = 0 from rfl, List.drop_zero] at this
    rw [if_neg (by omega), this]
    cases lg with
    | true => exact ⟨true, by simp, fun _ => .inl (hl rfl)⟩
    | false =>
      by_cases h : f.any (fun r => decide (14 < r.length)) = true
      · rw [if_pos ⟨rfl, h⟩]; exact ⟨false, rfl, by simp⟩
      · rw [if_neg (fun hh => h hh.2), if_neg (by simp)]
        refine ⟨_, rfl, fun ht => .inr ⟨?_, by simpa using h⟩⟩
        rw [decide_eq_true_eq] at ht; omega
  | d + 1, i, j, lg, hd, hj, hl => by
    obtain ⟨j, rfl⟩ : ∃ k, j = k + 1 := ⟨j - 1, by omega⟩
    have hi : i < f.length := by omega
    have hx := List.getElem?_eq_getElem hi
    simp only [sawmilllaw48_small.l0]
    rw [if_pos (by omega), idx_at hx, Option.bind_some, w_in (by omega) (by omega), show (i : Int) + 1 = ((i + 1 : Nat) : Int) by omega]
    by_cases e : 1000 < ((f[i]).length : Int)
    · rw [if_pos e]; exact ⟨false, rfl, by simp⟩
    · rw [if_neg e]
      cases lg with
      | true => exact small_0 f hf d (i + 1) j true (by omega) (by omega) hl
      | false =>
        refine small_0 f hf d (i + 1) j _ (by omega) (by omega) fun h => ?_
        rw [decide_eq_true_eq] at h
        exact List.any_eq_true.2 ⟨f[i], List.getElem_mem hi, by rw [decide_eq_true_eq]; omega⟩
theorem small_a (f : List (List E4)) : ∃ t, sawmilllaw48_small.f 110 f = some t ∧ (t = true → shp f ≠ 0 ∨ (f.length ≤ 8 ∧ wid f ≤ 14)) := by
  unfold sawmilllaw48_small.f
  by_cases h : 32 < f.length
  · rw [if_pos (by omega)]
    refine ⟨_, rfl, fun _ => .inl ?_⟩
    unfold shp; rw [if_pos h]; decide
  · rw [if_neg (by omega)]
    obtain ⟨t, h1, h2⟩ := small_0 f (by omega) f.length 0 110 false (by omega) (by omega) (by simp)
    rw [show ((0 : Nat) : Int) = 0 from rfl] at h1
    refine ⟨t, h1, fun ht => ?_⟩
    rcases h2 ht with h3 | ⟨h3, h4⟩
    · left; unfold shp; rw [if_neg h, if_pos h3]; decide
    · right
      refine ⟨h3, ?_⟩
      unfold wid
      by_cases h0 : 0 < f.length
      · rw [List.getElem?_eq_getElem h0, Option.getD_some]
        apply Classical.byContradiction
        intro hgt
        rw [List.any_eq_true.2 ⟨f[0], List.getElem_mem h0, by rw [decide_eq_true_eq]; omega⟩] at h4
        cases h4
      · rw [List.getElem?_eq_none (by omega)]; simp
/-! ### Counts -/
def mo (most : List E3) (x : Nat) : Int := most[x]?.getD 0
theorem mo_idx {most : List E3} {x : Nat} (h : x < most.length) : idx most (x : Int) = some (mo most x) := by
  unfold mo
  rw [List.getElem?_eq_getElem h, Option.getD_some]
  exact idx_at (List.getElem?_eq_getElem h)
def cerr (f : List (List E4)) (most : List E3) : Int := if shp f ≠ 0 then shp f else if most.length ≠ f.length then 19 else if most.all (fun n => decide (0 ≤ n ∧ n ≤ 200)) = true then 0 else 9
theorem cerr_ok {f : List (List E4)} {most : List E3} (h : cerr f most = 0) : shp f = 0 ∧ most.length = f.length ∧ ∀ x : Nat, x < f.length → 0 ≤ mo most x ∧ mo most x ≤ 200 := by
  unfold cerr at h
  split at h
  · rename_i h1; exact absurd h h1
  · split at h
    · omega
    · split at h
      · rename_i h1 h2 h3
        refine ⟨by simpa using h1, by omega, fun x hx => ?_⟩
        have hlt : x < most.length := by omega
        have := List.all_eq_true.1 h3 most[x] (List.getElem_mem hlt)
        rw [decide_eq_true_eq] at this
        unfold mo
        rw [List.getElem?_eq_getElem hlt, Option.getD_some]
        exact this
      · omega
theorem ok_cerr {f : List (List E4)} {most : List E3} (h1 : shp f = 0) (h2 : most.length = f.length) (h3 : ∀ x ∈ most, 0 ≤ x ∧ x ≤ 200) : cerr f most = 0 := by
  unfold cerr
  rw [if_neg (by simpa using h1), if_neg (by simpa using h2), if_pos]
  exact List.all_eq_true.2 fun x hx => by rw [decide_eq_true_eq]; exact h3 x hx
theorem wanted_a (n : Int) : assign_wanted.f n = some (decide (0 ≤ n ∧ n ≤ 200)) := by
  unfold assign_wanted.f
  split
  · congr 1; rw [decide_eq_decide]; omega
  · congr 1; symm; rw [decide_eq_false_iff_not]; omega
theorem counts_loop (f : List (List E4)) (most : List E3) (hm : most.length ≤ 100) : ∀ (d i j : Nat), i + d = most.length → d < j → assign_Counts.l0 110 f most j i =
    if (most.drop i).all (fun n => decide (0 ≤ n ∧ n ≤ 200)) = true then (assign_fill.f 110 f most).bind fun b => some (b.1, 0) else some ([], 9)
  | 0, i, j, hd, hj => by
    obtain ⟨j, rfl⟩ : ∃ k, j = k + 1 := ⟨j - 1, by omega⟩
    obtain rfl : i = most.length := by omega
    simp only [assign_Counts.l0]
    rw [if_neg (by omega), List.drop_eq_nil_of_le (Nat.le_refl _), if_pos (by simp)]
  | d + 1, i, j, hd, hj => by
    obtain ⟨j, rfl⟩ : ∃ k, j = k + 1 := ⟨j - 1, by omega⟩
    have hi : i < most.length := by omega
    simp only [assign_Counts.l0]
    rw [if_pos (by omega), idx_at (List.getElem?_eq_getElem hi), Option.bind_some, wanted_a, Option.bind_some, w_in (by omega) (by omega), show (i : Int) + 1 = ((i + 1 : Nat) : Int) by omega, counts_loop f most hm d (i + 1) j (by omega) (by omega), List.drop_eq_getElem_cons hi, List.all_cons]
    by_cases e : 0 ≤ most[i] ∧ most[i] ≤ 200
    · rw [if_pos (by simpa using e)]
      simp [e]
    · rw [if_neg (by simpa using e)]
      simp [e]
theorem counts_err (f : List (List E4)) (most : List E3) (hm : most.length ≤ 100) (h : cerr f most ≠ 0) : assign_Counts.f 110 f most = some ([], cerr f most) := by
  unfold assign_Counts.f
  rw [shaped_a, Option.bind_some]
  unfold cerr at h ⊢
  by_cases h1 : shp f = 0
  · have n1 : ¬ shp f ≠ 0 := fun hh => hh h1
    rw [if_pos h1, if_neg n1]
    rw [if_neg n1] at h
    by_cases h2 : most.length = f.length
    · have n2 : ¬ most.length ≠ f.length := fun hh => hh h2
      rw [if_pos (show (most.length : Int) = f.length by omega), if_neg n2]
      rw [if_neg n2] at h
      have := counts_loop f most hm most.length 0 110 (by omega) (by omega)
      rw [show ((0 : Nat) : Int) = 0 from rfl, List.drop_zero] at this
      rw [this]
      by_cases h3 : most.all (fun n => decide (0 ≤ n ∧ n ≤ 200)) = true
      · rw [if_pos h3] at h; exact absurd rfl h
      · rw [if_neg h3, if_neg h3]
    · rw [if_neg (show ¬ (most.length : Int) = f.length by omega), if_pos h2]
  · rw [if_neg h1, if_pos h1]
/-- What is known of a table that is served. -/
structure Served (f : List (List E4)) (most : List E3) (T : Int → Option Int) : Prop where
  t : Tbl f f.length (wid f)
  fill : assign_fill.f 110 f most = some (cnts f.length (wid f) T, T)
  good : Good f f.length (wid f) T
  max : ∀ x : Nat, x < f.length → (num (wid f) 0 T (x : Int) : Int) ≤ mo most x ∧ MaxAt f f.length (wid f) (mo most) x T
theorem served (f : List (List E4)) (most : List E3) (ht : Tbl f f.length (wid f)) (hw : wid f ≤ 50) (hl : most.length = f.length) (hm : ∀ x : Nat, x < f.length → 0 ≤ mo most x ∧ mo most x ≤ 200) : ∃ T, Served f most T := by
  have hfew := ht.few
  obtain ⟨T, h1, h2, h3⟩ := fill_spec ht 110 (by omega) (by omega) most (mo most) (fun x hx => ⟨mo_idx (by omega), by have := (hm x hx).2; omega⟩) (fun x hx => (hm x hx).1)
  exact ⟨T, ht, h1, h2, h3⟩
theorem counts_ok (f : List (List E4)) (most : List E3) (hw : wid f ≤ 50) (h : cerr f most = 0) : ∃ T, assign_Counts.f 110 f most = some (cnts f.length (wid f) T, 0) ∧ Served f most T := by
  obtain ⟨h1, h2, h3⟩ := cerr_ok h
  have ht := Tbl.of h1 hw
  have hfew := ht.few
  obtain ⟨T, hs⟩ := served f most ht hw h2 h3
  refine ⟨T, ?_, hs⟩
  unfold assign_Counts.f
  rw [shaped_a, Option.bind_some, if_pos h1, if_pos (by omega)]
  have := counts_loop f most (by omega) most.length 0 110 (by omega) (by omega)
  rw [show ((0 : Nat) : Int) = 0 from rfl, List.drop_zero] at this
  rw [this, if_pos, hs.fill]
  · rfl
  · unfold cerr at h
    rw [if_neg (by simpa using h1), if_neg (by simpa using h2)] at h
    apply Classical.byContradiction
    intro hn
    rw [if_neg hn] at h; omega
/-! ### Assignments as lists -/
def aOf (to : List E3) : Nat → Int := fun b => to[b]?.getD (-1)
theorem aOf_idx {to : List E3} {b : Nat} (h : b < to.length) : idx to (b : Int) = some (aOf to b) := by
  unfold aOf
  rw [List.getElem?_eq_getElem h, Option.getD_some]
  exact idx_at (List.getElem?_eq_getElem h)
def cntsA (m n : Nat) (A : Nat → Int) : List E3 := (List.range m).map fun (x : Nat) => ((has n 0 A (x : Int) : Nat) : Int)
theorem cntsA_len (m n : Nat) (A : Nat → Int) : (cntsA m n A).length = m := by simp [cntsA]
theorem cntsA_at {m n : Nat} {A : Nat → Int} {x : Nat} (h : x < m) : (cntsA m n A)[x]? = some ((has n 0 A (x : Int) : Nat) : Int) := by
  unfold cntsA
  rw [List.getElem?_map, List.getElem?_range h]; rfl
theorem cntsA_ext {m n : Nat} {A : Nat → Int} {l : List E3} (hl : l.length = m) (h : ∀ x, x < m → l[x]? = some ((has n 0 A (x : Int) : Nat) : Int)) : l = cntsA m n A := by
  apply List.ext_getElem?
  intro x
  by_cases hx : x < m
  · rw [h x hx, cntsA_at hx]
  · rw [List.getElem?_eq_none (by omega), List.getElem?_eq_none (by rw [cntsA_len]; omega)]
theorem has_succ (n : Nat) (A : Nat → Int) (x : Int) : has (n + 1) 0 A x = has n 0 A x + (if A n = x then 1 else 0) := by
  unfold has
  rw [cnt_succ]
  simp
theorem cntsA_step {m i : Nat} {A : Nat → Int} {o : Nat} (ho : o < m) (h : A i = o) {v : Int} (hv : v = ((has i 0 A (o : Int) : Nat) : Int) + 1) : (cntsA m i A).set o v = cntsA m (i + 1) A := by
  refine cntsA_ext (by rw [List.length_set, cntsA_len]) fun x hx => ?_
  rw [has_succ, h]
  by_cases e : x = o
  · subst e
    rw [List.getElem?_set_self (by rw [cntsA_len]; exact hx), hv, if_pos rfl]; rfl
  · rw [List.getElem?_set_ne (fun h => e h.symm), cntsA_at hx, if_neg (show ¬ (o : Int) = x by omega), Nat.add_zero]
theorem cntsA_skip {m i : Nat} {A : Nat → Int} (h : A i < 0 ∨ (m : Int) ≤ A i) : cntsA m (i + 1) A = cntsA m i A := by
  refine cntsA_ext (cntsA_len _ _ _) fun x hx => ?_
  rw [cntsA_at hx, has_succ, if_neg (show ¬ A i = x by omega), Nat.add_zero]
theorem cntsA_zero (m : Nat) (A : Nat → Int) (hm : m ≤ 1000) : mk (m : Int) (0 : Int) = some (cntsA m 0 A) := by
  unfold mk
  rw [if_pos (by omega)]
  congr 1
  refine cntsA_ext (by simp) fun x hx => ?_
  rw [List.getElem?_replicate, if_pos (by omega)]; rfl
theorem has_top (n : Nat) (A : Nat → Int) (x : Int) : has n 0 A x ≤ n := cnt_top _ _
/-- CountsOf counts. -/
theorem countsOf_b (m : Nat) (hm : m ≤ 1000) (to : List E3) (hl : to.length ≤ 100) : sawmillref48_CountsOf.f 110 m to = some (cntsA m to.length (aOf to)) := by
  unfold sawmillref48_CountsOf.f
  rw [cntsA_zero m (aOf to) hm, Option.bind_some]
  refine runN to.length (fun j s i => sawmillref48_CountsOf.l0 110 m to j i s) (fun i => cntsA m i (aOf to)) _ (by omega) (fun i j hi => ?_) (fun j => ?_) to.length 0 110 (by omega) (by omega)
  · simp only [sawmillref48_CountsOf.l0]
    have htop := has_top i (aOf to) (aOf to i)
    rw [if_pos (by omega), aOf_idx hi, Option.bind_some]
    by_cases h0 : 0 ≤ aOf to i
    · rw [if_pos h0]
      by_cases h1 : aOf to i < m
      · obtain ⟨o, ho⟩ : ∃ o : Nat, aOf to i = o := ⟨(aOf to i).toNat, by omega⟩
        rw [if_pos h1, ho, idx_at (cntsA_at (by omega)), Option.bind_some, show ((o : Nat) : Int).toNat = o by omega, w_in (n := ((has i 0 (aOf to) (o : Int) : Nat) : Int) + 1) (by rw [ho] at htop; omega) (by rw [ho] at htop; omega), cntsA_step (by omega) ho rfl]
      · rw [if_neg h1, cntsA_skip (.inr (by omega))]
    · rw [if_neg h0, cntsA_skip (.inl (by omega))]
  · simp only [sawmillref48_CountsOf.l0]
    rw [if_neg (by omega)]
/-! ### Valid -/
/-- A valid assignment of the boards of a table. -/
structure VA (f : List (List E4)) (most : List E3) (A : Nat → Int) : Prop where
  good : GoodA f f.length (wid f) A
  most : ∀ x : Nat, x < f.length → (has (wid f) 0 A (x : Int) : Int) ≤ mo most x
theorem has_mono {i n : Nat} (h : i ≤ n) (A : Nat → Int) (x : Int) : has i 0 A x ≤ has n 0 A x := by
  induction n with
  | zero => obtain rfl : i = 0 := by omega
            exact Nat.le_refl _
  | succ n ih =>
    by_cases e : i = n + 1
    · rw [e]; exact Nat.le_refl _
    · have := ih (by omega)
      rw [has_succ]; omega
theorem valid_loop {f : List (List E4)} (t : Tbl f f.length (wid f)) (most to : List E3) (hm : most.length = f.length) (hto : to.length = wid f) :
    ∀ (d i j : Nat), i + d = wid f → d < j → (∀ b : Nat, b < i → aOf to b ≠ -1 → 0 ≤ aOf to b ∧ aOf to b < f.length ∧ fitB f (aOf to b) b = true) → (∀ x : Nat, x < f.length → (has i 0 (aOf to) (x : Int) : Int) ≤ mo most x) →
      ∃ r, assign_Valid.l0 110 f most to j i (cntsA f.length i (aOf to)) = some r ∧ (r = true ↔ VA f most (aOf to))
  | 0, i, j, hd, hj, hg, hc => by
    obtain ⟨j, rfl⟩ : ∃ k, j = k + 1 := ⟨j - 1, by omega⟩
    obtain rfl : i = wid f := by omega
    simp only [assign_Valid.l0]
    rw [if_neg (by omega)]
    exact ⟨true, rfl, fun _ => ⟨hg, hc⟩, fun _ => rfl⟩
  | d + 1, i, j, hd, hj, hg, hc => by
    obtain ⟨j, rfl⟩ : ∃ k, j = k + 1 := ⟨j - 1, by omega⟩
    have hfew := t.few
    have hi : i < to.length := by omega
    simp only [assign_Valid.l0]
    rw [if_pos (by omega), aOf_idx hi, Option.bind_some, w_in (n := (i : Int) + 1) (by omega) (by omega), show (i : Int) + 1 = ((i + 1 : Nat) : Int) by omega]
    by_cases h1 : aOf to i = -1
    · rw [if_pos h1]
      have := valid_loop t most to hm hto d (i + 1) j (by omega) (by omega) (fun b hb hne => by
        by_cases e : b = i
        · rw [e] at hne; exact absurd h1 hne
        · exact hg b (by omega) hne) (fun x hx => by
        have hs : has (i + 1) 0 (aOf to) x = has i 0 (aOf to) x := by rw [has_succ, if_neg (by omega), Nat.add_zero]
        rw [hs]; exact hc x hx)
      rw [cntsA_skip (.inl (by omega))] at this
      exact this
    · rw [if_neg h1]
      by_cases h2 : aOf to i < 0
      · rw [if_pos h2]
        exact ⟨false, rfl, by simp, fun h => absurd (h.good i (by omega) h1).1 (by omega)⟩
      · rw [if_neg h2]
        by_cases h3 : (f.length : Int) ≤ aOf to i
        · rw [if_pos h3]
          exact ⟨false, rfl, by simp, fun h => absurd (h.good i (by omega) h1).2.1 (by omega)⟩
        · rw [if_neg h3]
          obtain ⟨rr, hr1, _, hr2⟩ := t.row (o := aOf to i) (by omega) (by omega)
          rw [hr1, Option.bind_some, hr2 i (by omega) (by omega), Option.bind_some]
          by_cases h4 : fitB f (aOf to i) i = true
          · rw [if_pos h4]
            obtain ⟨o, ho⟩ : ∃ o : Nat, aOf to i = o := ⟨(aOf to i).toNat, by omega⟩
            have hom : o < f.length := by omega
            have htop := has_top i (aOf to) o
            rw [ho, idx_at (cntsA_at hom), Option.bind_some, show ((o : Nat) : Int).toNat = o by omega, w_in (n := ((has i 0 (aOf to) (o : Int) : Nat) : Int) + 1) (by omega) (by omega), cntsA_step hom ho rfl, idx_at (cntsA_at hom), Option.bind_some, mo_idx (by omega), Option.bind_some]
            have hs : has (i + 1) 0 (aOf to) (o : Int) = has i 0 (aOf to) (o : Int) + 1 := by rw [has_succ, if_pos ho]
            by_cases h5 : mo most o < ((has (i + 1) 0 (aOf to) (o : Int) : Nat) : Int)
            · rw [if_pos h5]
              refine ⟨false, rfl, by simp, fun h => ?_⟩
              have g1 := h.most o hom
              have g2 := has_mono (i := i + 1) (n := wid f) (by omega) (aOf to) (o : Int)
              omega
            · rw [if_neg h5]
              refine valid_loop t most to hm hto d (i + 1) j (by omega) (by omega) (fun b hb hne => ?_) (fun x hx => ?_)
              · by_cases e : b = i
                · subst e; exact ⟨by omega, by omega, h4⟩
                · exact hg b (by omega) hne
              · by_cases e : x = o
                · subst e; omega
                · have hs2 : has (i + 1) 0 (aOf to) (x : Int) = has i 0 (aOf to) (x : Int) := by rw [has_succ, if_neg (by omega), Nat.add_zero]
                  rw [hs2]; exact hc x hx
          · rw [if_neg h4]
            exact ⟨false, rfl, by simp, fun h => absurd (h.good i (by omega) h1).2.2 h4⟩
theorem valid_a (f : List (List E4)) (most to : List E3) (hw : shp f = 0 → wid f ≤ 50) (hm : most.length ≤ 100) : ∃ r, assign_Valid.f 110 f most to = some r ∧ (r = true ↔ cerr f most = 0 ∧ to.length = wid f ∧ VA f most (aOf to)) := by
  unfold assign_Valid.f
  by_cases h : cerr f most = 0
  · obtain ⟨h1, h2, h3⟩ := cerr_ok h
    obtain ⟨T, e, hs⟩ := counts_ok f most (hw h1) h
    have ht := hs.t
    have hfew := ht.few
    rw [e, Option.bind_some]
    simp only []
    rw [if_pos trivial, ht.col, Option.bind_some]
    by_cases hl : to.length = wid f
    · rw [if_pos (by omega), cntsA_zero f.length (aOf to) (by omega), Option.bind_some]
      obtain ⟨r, e1, e2⟩ := valid_loop ht most to h2 hl (wid f) 0 110 (by omega) (by omega) (fun b hb => by omega) (fun x hx => by have := (h3 x hx).1; show ((0 : Nat) : Int) ≤ _; omega)
      exact ⟨r, e1, e2.trans ⟨fun h4 => ⟨h, hl, h4⟩, fun h4 => h4.2.2⟩⟩
    · rw [if_neg (by omega)]
      exact ⟨false, rfl, by simp, fun h4 => absurd h4.2.1 hl⟩
  · rw [counts_err f most hm h, Option.bind_some]
    simp only []
    rw [if_neg h]
    exact ⟨false, rfl, by simp, fun h4 => absurd h4.1 h⟩
end Go.Proofs.Ytbogdbbmmlaohaa.Pure
