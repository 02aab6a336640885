/- The plain statement behind SizingNeeds: over whole numbers, lists and strings alone. -/
import Derived.Test.YtbgdgghijheopaaS2
import Derived.Test.YtbgdgghijheopaaWSizingNeeds
namespace Go.Proofs.Ytbgdgghijheopaa.Pure
open Go.Saw
set_option linter.unusedVariables false
theorem SizingNeeds (a0_0 : ByteArray) (a0_1 : Int) (a0_2 : Int) (a0_3 : Int) (a0_4 : Int) (a1_0 : ByteArray) (a1_1 : Int) (a1_2 : Int) (a1_3 : Int) (a1_4 : Int) (a1_5 : Int) (a1_6 : Int) (a1_7 : Int) (a1_8 : Int) (a1_9 : Int) (a1_10 : Int) (a1_11 : Int) (a1_12 : Int) (a2_0 : Int) (a2_1 : Int) (wa0_0 : a0_0.size ≤ maxLen) (wa0_1 : (Lit.int .i64 a0_1).wf = true) (wa0_2 : (Lit.int .i64 a0_2).wf = true) (wa0_3 : (Lit.int .i64 a0_3).wf = true) (wa0_4 : (Lit.int .i64 a0_4).wf = true) (wa1_0 : a1_0.size ≤ maxLen) (wa1_1 : (Lit.int .i64 a1_1).wf = true) (wa1_2 : (Lit.int .i64 a1_2).wf = true) (wa1_3 : (Lit.int .i64 a1_3).wf = true) (wa1_4 : (Lit.int .i64 a1_4).wf = true) (wa1_5 : (Lit.int .i64 a1_5).wf = true) (wa1_6 : (Lit.int .i64 a1_6).wf = true) (wa1_7 : (Lit.int .i64 a1_7).wf = true) (wa1_8 : (Lit.int .i64 a1_8).wf = true) (wa1_9 : (Lit.int .i64 a1_9).wf = true) (wa1_10 : (Lit.int .i64 a1_10).wf = true) (wa1_11 : (Lit.int .i64 a1_11).wf = true) (wa1_12 : (Lit.int .i64 a1_12).wf = true) (wa2_0 : (Lit.int .i64 a2_0).wf = true) (wa2_1 : (Lit.int .i64 a2_1).wf = true) : ∃ K, sawmilllaw39_SizingNeeds.f K a0_0 a0_1 a0_2 a0_3 a0_4 a1_0 a1_1 a1_2 a1_3 a1_4 a1_5 a1_6 a1_7 a1_8 a1_9 a1_10 a1_11 a1_12 a2_0 a2_1 = some true := by
  refine ⟨250, ?_⟩
  unfold sawmilllaw39_SizingNeeds.f
  simp only [allow_a, awake_yes, wood_eq, Option.bind_some, decide_eq_true_eq]
  split
  · rfl
  rename_i h1
  split
  · rename_i hk
    have hb := bounds_i64 wa2_0
    have e : IntKind.i64.wrap (Int.tdiv (IntKind.i64.wrap (a1_12 + 200)) 2) = (a1_12 + 200) / 2 := by
      rw [w_in (n := a1_12 + 200) (by omega) (by omega), Int.tdiv_eq_ediv_of_nonneg (by omega), w_in (by omega) (by omega)]
    rw [e]
    have m1 : allow a0_1 a0_2 a1_12 a2_1 ≤ allow a0_1 a0_2 a1_12 a2_0 := by
      unfold allow
      split
      · exact srch_mono fun a ha h => ⟨Int.le_trans h.1 (shr_moist (by omega)), Int.le_trans h.2 (shr_moist (by omega))⟩
      · exact Int.le_refl _
    have m2 : allow a0_1 a0_2 a1_12 a2_0 ≤ allow a0_1 a0_2 ((a1_12 + 200) / 2) a2_0 := by
      unfold allow
      split
      · exact srch_mono fun a ha h => ⟨Int.le_trans h.1 (shr_more (by omega) (by omega) (by omega)), Int.le_trans h.2 (shr_more (by omega) (by omega) (by omega))⟩
      · exact Int.le_refl _
    rw [if_pos m1, if_pos m2]
  · rfl
end Go.Proofs.Ytbgdgghijheopaa.Pure
