/- The plain statement behind SizingEnough: over whole numbers, lists and strings alone. -/
import Derived.Test.YtbgdgghijheopaaS2
import Derived.Test.YtbgdgghijheopaaWSizingEnough
namespace Go.Proofs.Ytbgdgghijheopaa.Pure
open Go.Saw
set_option linter.unusedVariables false
theorem SizingEnough (a0_0 : ByteArray) (a0_1 : Int) (a0_2 : Int) (a0_3 : Int) (a0_4 : Int) (a1_0 : ByteArray) (a1_1 : Int) (a1_2 : Int) (a1_3 : Int) (a1_4 : Int) (a1_5 : Int) (a1_6 : Int) (a1_7 : Int) (a1_8 : Int) (a1_9 : Int) (a1_10 : Int) (a1_11 : Int) (a1_12 : Int) (a2 : Int) (wa0_0 : a0_0.size ≤ maxLen) (wa0_1 : (Lit.int .i64 a0_1).wf = true) (wa0_2 : (Lit.int .i64 a0_2).wf = true) (wa0_3 : (Lit.int .i64 a0_3).wf = true) (wa0_4 : (Lit.int .i64 a0_4).wf = true) (wa1_0 : a1_0.size ≤ maxLen) (wa1_1 : (Lit.int .i64 a1_1).wf = true) (wa1_2 : (Lit.int .i64 a1_2).wf = true) (wa1_3 : (Lit.int .i64 a1_3).wf = true) (wa1_4 : (Lit.int .i64 a1_4).wf = true) (wa1_5 : (Lit.int .i64 a1_5).wf = true) (wa1_6 : (Lit.int .i64 a1_6).wf = true) (wa1_7 : (Lit.int .i64 a1_7).wf = true) (wa1_8 : (Lit.int .i64 a1_8).wf = true) (wa1_9 : (Lit.int .i64 a1_9).wf = true) (wa1_10 : (Lit.int .i64 a1_10).wf = true) (wa1_11 : (Lit.int .i64 a1_11).wf = true) (wa1_12 : (Lit.int .i64 a1_12).wf = true) (wa2 : (Lit.int .i64 a2).wf = true) : ∃ K, sawmilllaw39_SizingEnough.f K a0_0 a0_1 a0_2 a0_3 a0_4 a1_0 a1_1 a1_2 a1_3 a1_4 a1_5 a1_6 a1_7 a1_8 a1_9 a1_10 a1_11 a1_12 a2 = some true := by
  refine ⟨250, ?_⟩
  unfold sawmilllaw39_SizingEnough.f
  simp only [allow_a, awake_yes, Option.bind_some]
  by_cases c1 : a0_1 < 1
  · rw [if_pos c1]
  rw [if_neg c1]
  by_cases c2 : a0_2 < 1
  · rw [if_pos c2]
  rw [if_neg c2]
  by_cases c3 : 480 < a0_1
  · rw [if_pos c3]
  rw [if_neg c3]
  by_cases c4 : 480 < a0_2
  · rw [if_pos c4]
  rw [if_neg c4]
  by_cases c5 : a2 < 0
  · rw [if_pos c5]
  rw [if_neg c5]
  by_cases c6 : 20000 < a2
  · rw [if_pos c6]
  rw [if_neg c6]
  have ha : allow a0_1 a0_2 a1_12 a2 = srch a0_1 a0_2 a1_12 a2 201 0 := by unfold allow; rw [if_pos (by omega)]
  obtain ⟨s1, s2, s3, s4⟩ := srch_spec a0_1 a0_2 a1_12 a2 201 0 (by omega)
  rw [← ha] at s1 s2 s3 s4
  clear ha
  generalize allow a0_1 a0_2 a1_12 a2 = a at *
  have hm : mean a2 a2 0 = a2 := by
    have : chk a2 a2 0 = 0 := by unfold chk; rw [if_neg (by omega), if_neg (by omega)]
    rw [(mean_in this).1]; omega
  have under : ∀ b x, 0 ≤ b → b ≤ 200 → a0_1 ≤ a0_2 → sizing_Under.f (⟨#[]⟩ : ByteArray) (⟨#[]⟩ : ByteArray) (⟨#[]⟩ : ByteArray) 0 (IntKind.i64.wrap (0 - gr a0_1 b)) 0 0 (gr a0_2 b) 0 1000 0 0 a2 a2 0 false 0 a0_0 a0_1 a0_2 x a0_4 a1_0 a1_1 a1_2 a1_3 a1_4 a1_5 a1_6 a1_7 a1_8 a1_9 a1_10 a1_11 a1_12 = some (decide (¬ enough a0_1 a0_2 a1_12 a2 b)) := by
    intro b x h1 h2 h3
    have g1 := gr_in (n := a0_1) (by omega) (by omega) h1 h2
    have g2 := gr_in (n := a0_2) (by omega) (by omega) h1 h2
    have g3 := gr_mono h3 h1
    have g4 : gr a0_2 b ≤ gr 480 b := gr_mono (by omega) h1
    have g5 : gr 480 b ≤ 576 := by unfold gr; omega
    unfold sizing_Under.f
    have hpl : placed (0 - gr a0_1 b) 0 0 (gr a0_2 b) := by unfold placed; omega
    have hd : dried (0 - gr a0_1 b) 0 0 (gr a0_2 b) a2 a2 0 a1_12 = (shr a1_12 (mn (0 - (0 - gr a0_1 b)) (gr a0_2 b - 0)) (mean a2 a2 0), shr a1_12 (mx (0 - (0 - gr a0_1 b)) (gr a0_2 b - 0)) (mean a2 a2 0)) := if_pos hpl
    rw [w_in (n := 0 - gr a0_1 b) (by omega) (by omega), dried_a, Option.bind_some, hd, hm]
    have e1 : mn (0 - (0 - gr a0_1 b)) (gr a0_2 b - 0) = gr a0_1 b := by unfold mn; split <;> omega
    have e2 : mx (0 - (0 - gr a0_1 b)) (gr a0_2 b - 0) = gr a0_2 b := by unfold mx; split <;> omega
    rw [e1, e2]
    simp only []
    unfold enough
    split
    · congr 1; symm; rw [decide_eq_true_eq]; omega
    · congr 1; rw [decide_eq_decide]; omega
  rw [if_neg (by omega), if_neg (by omega)]
  have tail : 0 < a → a0_1 ≤ a0_2 → enough a0_1 a0_2 a1_12 a2 (a - 1) = False := by
    intro h1 h2
    exact eq_false (s4 (a - 1) (by omega) (by omega))
  by_cases c7 : a ≤ 200
  · rw [if_pos c7, green_eq _ _ (by omega) (by omega) (by omega) (by omega) s1 c7, Option.bind_some]
    by_cases c8 : a0_1 ≤ a0_2
    · rw [if_pos c8, under a _ s1 c7 c8, Option.bind_some, if_neg (by simp [s3 c7])]
      by_cases c9 : 0 < a
      · rw [if_pos c9, w_in (n := a - 1) (by omega) (by omega), green_eq _ _ (by omega) (by omega) (by omega) (by omega) (by omega) (by omega), Option.bind_some, under (a - 1) _ (by omega) (by omega) c8, Option.bind_some, if_pos (by simp [tail c9 c8])]
      · rw [if_neg c9]
    · rw [if_neg c8]
      by_cases c9 : 0 < a
      · rw [if_pos c9, w_in (n := a - 1) (by omega) (by omega), green_eq _ _ (by omega) (by omega) (by omega) (by omega) (by omega) (by omega), Option.bind_some]
      · rw [if_neg c9]
  · rw [if_neg c7, if_pos (by omega), w_in (n := a - 1) (by omega) (by omega), green_eq _ _ (by omega) (by omega) (by omega) (by omega) (by omega) (by omega), Option.bind_some]
    by_cases c8 : a0_1 ≤ a0_2
    · rw [if_pos c8, under (a - 1) _ (by omega) (by omega) c8, Option.bind_some, if_pos (by simp [tail (by omega) c8])]
    · rw [if_neg c8]
end Go.Proofs.Ytbgdgghijheopaa.Pure
