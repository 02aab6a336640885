/- The plain statement behind SizingMoister: over whole numbers, lists and strings alone. -/
import Derived.Test.YtbgdgghijheopaaS2
import Derived.Test.YtbgdgghijheopaaWSizingMoister
namespace Go.Proofs.Ytbgdgghijheopaa.Pure
open Go.Saw
set_option linter.unusedVariables false
theorem SizingMoister (a0_0 : ByteArray) (a0_1 : ByteArray) (a0_2 : ByteArray) (a0_3 : Int) (a0_4 : Int) (a0_5 : Int) (a0_6 : Int) (a0_7 : Int) (a0_8 : Int) (a0_9 : Int) (a0_10 : Int) (a0_12 : Int) (a0_13 : Int) (a0_14 : Int) (a0_15 : Int) (a0_16 : Bool) (a0_17 : Int) (a1_0 : ByteArray) (a1_1 : Int) (a1_2 : Int) (a1_3 : Int) (a1_4 : Int) (a1_5 : Int) (a1_6 : Int) (a1_7 : Int) (a1_8 : Int) (a1_9 : Int) (a1_10 : Int) (a1_11 : Int) (a1_12 : Int) (a2_0 : Int) (a2_1 : Int) (wa0_0 : a0_0.size ≤ maxLen) (wa0_1 : a0_1.size ≤ maxLen) (wa0_2 : a0_2.size ≤ maxLen) (wa0_3 : (Lit.int .i64 a0_3).wf = true) (wa0_4 : (Lit.int .i64 a0_4).wf = true) (wa0_5 : (Lit.int .i64 a0_5).wf = true) (wa0_6 : (Lit.int .i64 a0_6).wf = true) (wa0_7 : (Lit.int .i64 a0_7).wf = true) (wa0_8 : (Lit.int .i64 a0_8).wf = true) (wa0_9 : (Lit.int .i64 a0_9).wf = true) (wa0_10 : (Lit.int .i64 a0_10).wf = true) (wa0_12 : (Lit.int .i64 a0_12).wf = true) (wa0_13 : (Lit.int .i64 a0_13).wf = true) (wa0_14 : (Lit.int .i64 a0_14).wf = true) (wa0_15 : (Lit.int .i64 a0_15).wf = true) (wa0_17 : (Lit.int .i64 a0_17).wf = true) (wa1_0 : a1_0.size ≤ maxLen) (wa1_1 : (Lit.int .i64 a1_1).wf = true) (wa1_2 : (Lit.int .i64 a1_2).wf = true) (wa1_3 : (Lit.int .i64 a1_3).wf = true) (wa1_4 : (Lit.int .i64 a1_4).wf = true) (wa1_5 : (Lit.int .i64 a1_5).wf = true) (wa1_6 : (Lit.int .i64 a1_6).wf = true) (wa1_7 : (Lit.int .i64 a1_7).wf = true) (wa1_8 : (Lit.int .i64 a1_8).wf = true) (wa1_9 : (Lit.int .i64 a1_9).wf = true) (wa1_10 : (Lit.int .i64 a1_10).wf = true) (wa1_11 : (Lit.int .i64 a1_11).wf = true) (wa1_12 : (Lit.int .i64 a1_12).wf = true) (wa2_0 : (Lit.int .i64 a2_0).wf = true) (wa2_1 : (Lit.int .i64 a2_1).wf = true) : ∃ K, sawmilllaw39_SizingMoister.f K a0_0 a0_1 a0_2 a0_3 a0_4 a0_5 a0_6 a0_7 a0_8 a0_9 a0_10 a0_12 a0_13 a0_14 a0_15 a0_16 a0_17 a1_0 a1_1 a1_2 a1_3 a1_4 a1_5 a1_6 a1_7 a1_8 a1_9 a1_10 a1_11 a1_12 a2_0 a2_1 = some true := by
  refine ⟨250, ?_⟩
  have hb1 := bounds_i64 wa0_14
  have hb2 := bounds_i64 wa1_12
  unfold sawmilllaw39_SizingMoister.f
  simp only [dried_a, awake_yes, wood_eq, chk_a, Option.bind_some, decide_eq_true_eq]
  by_cases c1 : a2_0 < 0
  · rw [if_pos c1]
  rw [if_neg c1]
  by_cases c2 : 20000 < a2_0
  · rw [if_pos c2]
  rw [if_neg c2]
  by_cases c3 : a2_1 < 0
  · rw [if_pos c3]
  rw [if_neg c3]
  by_cases c4 : 200 < a2_1
  · rw [if_pos c4]
  rw [if_neg c4]
  by_cases c5 : 0 ≤ a1_12 ∧ a1_12 ≤ 200
  case neg => rw [if_neg c5]
  rw [if_pos c5]
  by_cases c6 : chk a0_13 a0_14 a0_15 = 0
  case neg => rw [if_neg c6]
  rw [if_pos c6]
  have m1 := mean_in c6
  rw [w_in (n := a0_14 + a2_0) (by omega) (by omega), w_in (n := a1_12 + a2_1) (by omega) (by omega)]
  have a1 : chk a0_13 (a0_14 + a2_0) a0_15 = 0 → ¬ (dried a0_4 a0_5 a0_6 a0_7 a0_13 (a0_14 + a2_0) a0_15 a1_12).1 < (dried a0_4 a0_5 a0_6 a0_7 a0_13 a0_14 a0_15 a1_12).1 ∧ ¬ (dried a0_4 a0_5 a0_6 a0_7 a0_13 (a0_14 + a2_0) a0_15 a1_12).2 < (dried a0_4 a0_5 a0_6 a0_7 a0_13 a0_14 a0_15 a1_12).2 := by
    intro h
    have m2 := mean_in h
    have hm : mean a0_13 a0_14 a0_15 ≤ mean a0_13 (a0_14 + a2_0) a0_15 := by rw [m1.1, m2.1]; omega
    unfold dried
    split
    · exact ⟨Int.not_lt.mpr (shr_moist hm), Int.not_lt.mpr (shr_moist hm)⟩
    · exact ⟨Int.lt_irrefl _, Int.lt_irrefl _⟩
  have a2 : (0 ≤ a1_12 + a2_1 ∧ a1_12 + a2_1 ≤ 200) → (dried a0_4 a0_5 a0_6 a0_7 a0_13 a0_14 a0_15 (a1_12 + a2_1)).1 ≤ (dried a0_4 a0_5 a0_6 a0_7 a0_13 a0_14 a0_15 a1_12).1 ∧ (dried a0_4 a0_5 a0_6 a0_7 a0_13 a0_14 a0_15 (a1_12 + a2_1)).2 ≤ (dried a0_4 a0_5 a0_6 a0_7 a0_13 a0_14 a0_15 a1_12).2 := by
    intro h
    unfold dried
    split
    · exact ⟨shr_more c5.1 (by omega) h.2, shr_more c5.1 (by omega) h.2⟩
    · exact ⟨Int.le_refl _, Int.le_refl _⟩
  by_cases c7 : chk a0_13 (a0_14 + a2_0) a0_15 = 0
  · rw [if_pos c7, if_neg (a1 c7).1, if_neg (a1 c7).2]
    split
    · rename_i c8
      rw [if_pos (a2 c8).1, if_pos (a2 c8).2]
    · rfl
  · rw [if_neg c7]
    split
    · rename_i c8
      rw [if_pos (a2 c8).1, if_pos (a2 c8).2]
    · rfl
end Go.Proofs.Ytbgdgghijheopaa.Pure
