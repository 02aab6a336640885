/- The plain statement behind SizingShrinks: over whole numbers, lists and strings alone. -/
import Derived.Test.YtbgdgghijheopaaS2
import Derived.Test.YtbgdgghijheopaaWSizingShrinks
namespace Go.Proofs.Ytbgdgghijheopaa.Pure
open Go.Saw
set_option linter.unusedVariables false
theorem SizingShrinks (a0_0 : ByteArray) (a0_1 : ByteArray) (a0_2 : ByteArray) (a0_3 : Int) (a0_4 : Int) (a0_5 : Int) (a0_6 : Int) (a0_7 : Int) (a0_8 : Int) (a0_9 : Int) (a0_10 : Int) (a0_12 : Int) (a0_13 : Int) (a0_14 : Int) (a0_15 : Int) (a0_16 : Bool) (a0_17 : Int) (a1_0 : ByteArray) (a1_1 : Int) (a1_2 : Int) (a1_3 : Int) (a1_4 : Int) (a1_5 : Int) (a1_6 : Int) (a1_7 : Int) (a1_8 : Int) (a1_9 : Int) (a1_10 : Int) (a1_11 : Int) (a1_12 : Int) (wa0_0 : a0_0.size ≤ maxLen) (wa0_1 : a0_1.size ≤ maxLen) (wa0_2 : a0_2.size ≤ maxLen) (wa0_3 : (Lit.int .i64 a0_3).wf = true) (wa0_4 : (Lit.int .i64 a0_4).wf = true) (wa0_5 : (Lit.int .i64 a0_5).wf = true) (wa0_6 : (Lit.int .i64 a0_6).wf = true) (wa0_7 : (Lit.int .i64 a0_7).wf = true) (wa0_8 : (Lit.int .i64 a0_8).wf = true) (wa0_9 : (Lit.int .i64 a0_9).wf = true) (wa0_10 : (Lit.int .i64 a0_10).wf = true) (wa0_12 : (Lit.int .i64 a0_12).wf = true) (wa0_13 : (Lit.int .i64 a0_13).wf = true) (wa0_14 : (Lit.int .i64 a0_14).wf = true) (wa0_15 : (Lit.int .i64 a0_15).wf = true) (wa0_17 : (Lit.int .i64 a0_17).wf = true) (wa1_0 : a1_0.size ≤ maxLen) (wa1_1 : (Lit.int .i64 a1_1).wf = true) (wa1_2 : (Lit.int .i64 a1_2).wf = true) (wa1_3 : (Lit.int .i64 a1_3).wf = true) (wa1_4 : (Lit.int .i64 a1_4).wf = true) (wa1_5 : (Lit.int .i64 a1_5).wf = true) (wa1_6 : (Lit.int .i64 a1_6).wf = true) (wa1_7 : (Lit.int .i64 a1_7).wf = true) (wa1_8 : (Lit.int .i64 a1_8).wf = true) (wa1_9 : (Lit.int .i64 a1_9).wf = true) (wa1_10 : (Lit.int .i64 a1_10).wf = true) (wa1_11 : (Lit.int .i64 a1_11).wf = true) (wa1_12 : (Lit.int .i64 a1_12).wf = true) : ∃ K, sawmilllaw39_SizingShrinks.f K a0_0 a0_1 a0_2 a0_3 a0_4 a0_5 a0_6 a0_7 a0_8 a0_9 a0_10 a0_12 a0_13 a0_14 a0_15 a0_16 a0_17 a1_0 a1_1 a1_2 a1_3 a1_4 a1_5 a1_6 a1_7 a1_8 a1_9 a1_10 a1_11 a1_12 = some true := by
  refine ⟨250, ?_⟩
  unfold sawmilllaw39_SizingShrinks.f
  have hsym : dried a0_6 a0_7 a0_4 a0_5 a0_13 a0_14 a0_15 a1_12 = dried a0_4 a0_5 a0_6 a0_7 a0_13 a0_14 a0_15 a1_12 := by
    have e1 : mn (a0_7 - a0_6) (a0_5 - a0_4) = mn (a0_5 - a0_4) (a0_7 - a0_6) := by unfold mn; repeat' split <;> omega
    have e2 : mx (a0_7 - a0_6) (a0_5 - a0_4) = mx (a0_5 - a0_4) (a0_7 - a0_6) := by unfold mx; repeat' split <;> omega
    unfold dried
    rw [e1, e2]
    by_cases h : placed a0_4 a0_5 a0_6 a0_7
    · rw [if_pos h, if_pos (by unfold placed at h ⊢; omega)]
    · rw [if_neg h, if_neg (by unfold placed at h ⊢; omega)]
  simp only [dried_a, hsym, awake_yes, wood_eq, mean_a, Option.bind_some, decide_eq_true_eq, if_true]
  have hord : 0 ≤ (dried a0_4 a0_5 a0_6 a0_7 a0_13 a0_14 a0_15 a1_12).1 ∧ (dried a0_4 a0_5 a0_6 a0_7 a0_13 a0_14 a0_15 a1_12).1 ≤ (dried a0_4 a0_5 a0_6 a0_7 a0_13 a0_14 a0_15 a1_12).2 := by
    unfold dried
    split
    · rename_i h
      obtain ⟨h1, h2, h3, h4, h5, h6⟩ := h
      have b1 : 0 ≤ mn (a0_5 - a0_4) (a0_7 - a0_6) := by unfold mn; split <;> omega
      have b2 : mn (a0_5 - a0_4) (a0_7 - a0_6) ≤ mx (a0_5 - a0_4) (a0_7 - a0_6) := by unfold mn mx; repeat' split <;> omega
      have b3 : mx (a0_5 - a0_4) (a0_7 - a0_6) ≤ 20000 := by unfold mx; split <;> omega
      exact ⟨(shr_le b1 (by omega)).1, shr_size b1 b2 b3⟩
    · exact ⟨Int.le_refl _, Int.le_refl _⟩
  rw [if_neg (by omega), if_neg (by omega)]
  have hv : board_Volume.f a0_0 a0_1 a0_2 a0_3 a0_4 a0_5 a0_6 a0_7 a0_8 a0_9 a0_10 a0_12 a0_13 a0_14 a0_15 a0_16 a0_17 = some (if placed a0_4 a0_5 a0_6 a0_7 ∧ 0 ≤ a0_8 ∧ a0_8 < a0_9 ∧ a0_9 ≤ 20000 then (a0_5 - a0_4) * (a0_7 - a0_6) * (a0_9 - a0_8) else 0) := by
    have hbx : board_boxed.f a0_4 a0_5 a0_6 a0_7 a0_8 a0_9 = some (decide (placed a0_4 a0_5 a0_6 a0_7 ∧ 0 ≤ a0_8 ∧ a0_8 < a0_9 ∧ a0_9 ≤ 20000)) := by
      unfold board_boxed.f placed mn mx
      repeat' split
      all_goals first | (congr 1; symm; rw [decide_eq_false_iff_not]; omega) | (congr 1; rw [decide_eq_decide]; omega)
    unfold board_Volume.f
    rw [hbx, Option.bind_some]
    by_cases h : placed a0_4 a0_5 a0_6 a0_7 ∧ 0 ≤ a0_8 ∧ a0_8 < a0_9 ∧ a0_9 ≤ 20000
    · rw [if_pos h, if_pos (decide_eq_true h)]
      unfold board_size.f
      obtain ⟨⟨h1, h2, h3, h4, h5, h6⟩, h7, h8, h9⟩ := h
      simp only [Option.bind_some]
      rw [w_in (n := a0_5 - a0_4) (by omega) (by omega), w_in (n := a0_7 - a0_6) (by omega) (by omega), w_in (n := a0_9 - a0_8) (by omega) (by omega)]
      have p1 : 0 ≤ (a0_5 - a0_4) * (a0_7 - a0_6) := Int.mul_nonneg (by omega) (by omega)
      have p2 : (a0_5 - a0_4) * (a0_7 - a0_6) ≤ 1200 * 1200 := Int.mul_le_mul (by omega) (by omega) (by omega) (by omega)
      rw [w_in (n := (a0_5 - a0_4) * (a0_7 - a0_6)) (by omega) (by omega)]
      have p3 : 0 ≤ (a0_5 - a0_4) * (a0_7 - a0_6) * (a0_9 - a0_8) := Int.mul_nonneg p1 (by omega)
      have p4 : (a0_5 - a0_4) * (a0_7 - a0_6) * (a0_9 - a0_8) ≤ (1200 * 1200) * 20000 := Int.mul_le_mul p2 (by omega) (by omega) (by omega)
      rw [w_in (by omega) (by omega)]
    · rw [if_neg h, if_neg (by simpa using h)]
  rw [hv]
  simp only [Option.bind_some]
  by_cases hp : placed a0_4 a0_5 a0_6 a0_7 ∧ 0 ≤ a0_8 ∧ a0_8 < a0_9 ∧ a0_9 ≤ 20000
  case neg => rw [if_neg hp, if_pos rfl]
  have hp0 := hp
  obtain ⟨⟨h1, h2, h3, h4, h5, h6⟩, h7, h8, h9⟩ := hp0
  rw [if_pos hp]
  have p1 : 0 < (a0_5 - a0_4) * (a0_7 - a0_6) := Int.mul_pos (by omega) (by omega)
  have p3 : 0 < (a0_5 - a0_4) * (a0_7 - a0_6) * (a0_9 - a0_8) := Int.mul_pos p1 (by omega)
  rw [if_neg (by omega)]
  by_cases hk : 0 ≤ a1_12 ∧ a1_12 ≤ 200
  case neg => rw [if_neg hk]
  rw [if_pos hk]
  rw [w_in (n := a0_5 - a0_4) (by omega) (by omega), w_in (n := a0_7 - a0_6) (by omega) (by omega)]
  have hmm : mn (a0_5 - a0_4) (a0_7 - a0_6) * mx (a0_5 - a0_4) (a0_7 - a0_6) = (a0_5 - a0_4) * (a0_7 - a0_6) := by
    unfold mn mx
    repeat' split
    all_goals first | rfl | (exact Int.mul_comm _ _) | (exfalso; omega) | (congr 1 <;> omega)
  have b1 : 1 ≤ mn (a0_5 - a0_4) (a0_7 - a0_6) := by unfold mn; split <;> omega
  have b2 : mn (a0_5 - a0_4) (a0_7 - a0_6) ≤ mx (a0_5 - a0_4) (a0_7 - a0_6) := by unfold mn mx; repeat' split <;> omega
  have b3 : mx (a0_5 - a0_4) (a0_7 - a0_6) ≤ 1200 := by unfold mx; split <;> omega
  unfold sizing_Volume.f
  rw [dried_a, (len_eq _ _ _ _ _ _ _ _ _ _ _ _ _ _ _ _ _).1, if_pos (show 0 ≤ a0_8 ∧ a0_8 < a0_9 ∧ a0_9 ≤ 20000 from ⟨h7, h8, h9⟩)]
  simp only [Option.bind_some]
  have hd : dried a0_4 a0_5 a0_6 a0_7 a0_13 a0_14 a0_15 a1_12 = (shr a1_12 (mn (a0_5 - a0_4) (a0_7 - a0_6)) (mean a0_13 a0_14 a0_15), shr a1_12 (mx (a0_5 - a0_4) (a0_7 - a0_6)) (mean a0_13 a0_14 a0_15)) := by
    unfold dried; rw [if_pos ⟨h1, h2, h3, h4, h5, h6⟩]
  rw [hd]
  simp only []
  obtain ⟨t1, t2⟩ := shr_le (k := a1_12) (size := mn (a0_5 - a0_4) (a0_7 - a0_6)) (m := mean a0_13 a0_14 a0_15) (by omega) (by omega)
  obtain ⟨t3, t4⟩ := shr_le (k := a1_12) (size := mx (a0_5 - a0_4) (a0_7 - a0_6)) (m := mean a0_13 a0_14 a0_15) (by omega) (by omega)
  have u1 : 3000 ≤ mean a0_13 a0_14 a0_15 → shr a1_12 (mn (a0_5 - a0_4) (a0_7 - a0_6)) (mean a0_13 a0_14 a0_15) = mn (a0_5 - a0_4) (a0_7 - a0_6) := shr_moist_all
  have u2 : 3000 ≤ mean a0_13 a0_14 a0_15 → shr a1_12 (mx (a0_5 - a0_4) (a0_7 - a0_6)) (mean a0_13 a0_14 a0_15) = mx (a0_5 - a0_4) (a0_7 - a0_6) := shr_moist_all
  rw [← hmm]
  clear hmm hd hord hv hsym hp p1 p3
  generalize shr a1_12 (mn (a0_5 - a0_4) (a0_7 - a0_6)) (mean a0_13 a0_14 a0_15) = t at *
  generalize shr a1_12 (mx (a0_5 - a0_4) (a0_7 - a0_6)) (mean a0_13 a0_14 a0_15) = w at *
  generalize mn (a0_5 - a0_4) (a0_7 - a0_6) = a at *
  generalize mx (a0_5 - a0_4) (a0_7 - a0_6) = d at *
  generalize hl : a0_9 - a0_8 = l at *
  rw [if_neg (by omega), if_neg (by omega)]
  have q1 := Int.mul_nonneg t1 t3
  have q2 : t * w ≤ a * d := Int.mul_le_mul t2 t4 t3 (by omega)
  have q3 : a * d ≤ 1200 * 1200 := Int.mul_le_mul (by omega) b3 (by omega) (by omega)
  rw [w_in (n := t * w) (by omega) (by omega)]
  have q4 := Int.mul_nonneg q1 (show (0 : Int) ≤ l by omega)
  have q5 := Int.mul_le_mul_of_nonneg_right q2 (show (0 : Int) ≤ l by omega)
  have q6 : a * d * l ≤ (1200 * 1200) * 20000 := Int.mul_le_mul q3 (by omega) (by omega) (by omega)
  rw [w_in (n := t * w * l) (by omega) (by omega), if_neg (by omega)]
  by_cases hm : mean a0_13 a0_14 a0_15 < 3000
  · rw [if_pos hm]
  rw [if_neg hm, if_pos (u1 (by omega)), if_pos (u2 (by omega))]
end Go.Proofs.Ytbgdgghijheopaa.Pure
