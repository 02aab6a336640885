/- The plain statement behind StrengthMoved: over whole numbers, lists and strings alone. -/
import Derived.Test.YtfjbhmpnmpphoaaS9
import Derived.Test.YtfjbhmpnmpphoaaWStrengthMoved
import Derived.Test.YtfjbhmpnmpphoaaR
namespace Go.Proofs.Ytfjbhmpnmpphoaa.Pure
open Go.Saw
set_option linter.unusedVariables false
theorem StrengthMoved (a0_0 : ByteArray) (a0_1 : ByteArray) (a0_2 : ByteArray) (a0_3 : Int) (a0_4 : Int) (a0_5 : Int) (a0_6 : Int) (a0_7 : Int) (a0_8 : Int) (a0_9 : Int) (a0_10 : Int) (a0_11 : List E41) (a0_12 : Int) (a0_13 : Int) (a0_14 : Int) (a0_15 : Int) (a0_16 : Bool) (a0_17 : Int) (a1_0 : ByteArray) (a1_1 : Int) (a1_2 : Int) (a1_3 : Int) (a1_4 : Int) (a1_5 : Int) (a1_6 : Int) (a1_7 : Int) (a1_8 : Int) (a1_9 : Int) (a1_10 : Int) (a1_11 : Int) (a1_12 : Int) (a2_0 : ByteArray) (a2_1 : ByteArray) (a2_2 : ByteArray) (a2_3 : Int) (a2_4 : Int) (a2_5 : Int) (a2_6 : Int) (a2_7 : Int) (a2_8 : Int) (a2_9 : Int) (a2_10 : Int) (a2_11 : List E41) (a2_12 : Int) (a2_13 : Int) (a2_14 : Int) (a2_15 : Int) (a2_16 : Bool) (a2_17 : Int) (wa0_0 : a0_0.size ≤ maxLen) (wa0_1 : a0_1.size ≤ maxLen) (wa0_2 : a0_2.size ≤ maxLen) (wa0_3 : (Lit.int .i64 a0_3).wf = true) (wa0_4 : (Lit.int .i64 a0_4).wf = true) (wa0_5 : (Lit.int .i64 a0_5).wf = true) (wa0_6 : (Lit.int .i64 a0_6).wf = true) (wa0_7 : (Lit.int .i64 a0_7).wf = true) (wa0_8 : (Lit.int .i64 a0_8).wf = true) (wa0_9 : (Lit.int .i64 a0_9).wf = true) (wa0_10 : (Lit.int .i64 a0_10).wf = true) (wa0_11 : ∀ x ∈ a0_11, wf41 x) (wa0_12 : (Lit.int .i64 a0_12).wf = true) (wa0_13 : (Lit.int .i64 a0_13).wf = true) (wa0_14 : (Lit.int .i64 a0_14).wf = true) (wa0_15 : (Lit.int .i64 a0_15).wf = true) (wa0_17 : (Lit.int .i64 a0_17).wf = true) (wa1_0 : a1_0.size ≤ maxLen) (wa1_1 : (Lit.int .i64 a1_1).wf = true) (wa1_2 : (Lit.int .i64 a1_2).wf = true) (wa1_3 : (Lit.int .i64 a1_3).wf = true) (wa1_4 : (Lit.int .i64 a1_4).wf = true) (wa1_5 : (Lit.int .i64 a1_5).wf = true) (wa1_6 : (Lit.int .i64 a1_6).wf = true) (wa1_7 : (Lit.int .i64 a1_7).wf = true) (wa1_8 : (Lit.int .i64 a1_8).wf = true) (wa1_9 : (Lit.int .i64 a1_9).wf = true) (wa1_10 : (Lit.int .i64 a1_10).wf = true) (wa1_11 : (Lit.int .i64 a1_11).wf = true) (wa1_12 : (Lit.int .i64 a1_12).wf = true) (wa2_0 : a2_0.size ≤ maxLen) (wa2_1 : a2_1.size ≤ maxLen) (wa2_2 : a2_2.size ≤ maxLen) (wa2_3 : (Lit.int .i64 a2_3).wf = true) (wa2_4 : (Lit.int .i64 a2_4).wf = true) (wa2_5 : (Lit.int .i64 a2_5).wf = true) (wa2_6 : (Lit.int .i64 a2_6).wf = true) (wa2_7 : (Lit.int .i64 a2_7).wf = true) (wa2_8 : (Lit.int .i64 a2_8).wf = true) (wa2_9 : (Lit.int .i64 a2_9).wf = true) (wa2_10 : (Lit.int .i64 a2_10).wf = true) (wa2_11 : ∀ x ∈ a2_11, wf41 x) (wa2_12 : (Lit.int .i64 a2_12).wf = true) (wa2_13 : (Lit.int .i64 a2_13).wf = true) (wa2_14 : (Lit.int .i64 a2_14).wf = true) (wa2_15 : (Lit.int .i64 a2_15).wf = true) (wa2_17 : (Lit.int .i64 a2_17).wf = true) : ∃ K, sawmilllaw41_StrengthMoved.f K a0_0 a0_1 a0_2 a0_3 a0_4 a0_5 a0_6 a0_7 a0_8 a0_9 a0_10 a0_11 a0_12 a0_13 a0_14 a0_15 a0_16 a0_17 a1_0 a1_1 a1_2 a1_3 a1_4 a1_5 a1_6 a1_7 a1_8 a1_9 a1_10 a1_11 a1_12 a2_0 a2_1 a2_2 a2_3 a2_4 a2_5 a2_6 a2_7 a2_8 a2_9 a2_10 a2_11 a2_12 a2_13 a2_14 a2_15 a2_16 a2_17 = some true := by
  have aw : ((sawmilllaw41_awake.f 110).bind fun x => some x) = some true := by rw [awake41]; rfl
  have b4 := bounds_i64 wa0_4
  have b5 := bounds_i64 wa0_5
  have b6 := bounds_i64 wa0_6
  have b7 := bounds_i64 wa0_7
  have key : sawmilllaw41_StrengthMoved.f 110 a0_0 a0_1 a0_2 a0_3 a0_4 a0_5 a0_6 a0_7 a0_8 a0_9 a0_10 a0_11 a0_12 a0_13 a0_14 a0_15 a0_16 a0_17 a1_0 a1_1 a1_2 a1_3 a1_4 a1_5 a1_6 a1_7 a1_8 a1_9 a1_10 a1_11 a1_12 a2_0 a2_1 a2_2 a2_3 a2_4 a2_5 a2_6 a2_7 a2_8 a2_9 a2_10 a2_11 a2_12 a2_13 a2_14 a2_15 a2_16 a2_17 = some true := by
    unfold sawmilllaw41_StrengthMoved.f
    have hfew : ∃ t, sawmilllaw41_few.f a0_0 a0_1 a0_2 a0_3 a0_4 a0_5 a0_6 a0_7 a0_8 a0_9 a0_10 a0_11 a0_12 a0_13 a0_14 a0_15 a0_16 a0_17 a1_0 a1_1 a1_2 a1_3 a1_4 a1_5 a1_6 a1_7 a1_8 a1_9 a1_10 a1_11 a1_12 = some t ∧ (t = true → a0_11.length ≤ 70) := by
      unfold sawmilllaw41_few.f
      split
      · exact ⟨_, rfl, fun _ => by omega⟩
      · exact ⟨_, rfl, by simp⟩
    obtain ⟨t, ht, hlen⟩ := hfew
    obtain ⟨r, hr, hr'⟩ := right_b a0_0 a0_1 a0_2 a0_3 a0_4 a0_5 a0_6 a0_7 a0_8 a0_9 a0_10 a0_11 a0_12 a0_13 a0_14 a0_15 a0_16 a0_17 a1_0 a1_1 a1_2 a1_3 a1_4 a1_5 a1_6 a1_7 a1_8 a1_9 a1_10 a1_11 a1_12
    rw [ht, Option.bind_some]
    cases t with
    | false => exact aw
    | true =>
      rw [if_pos rfl, hr, Option.bind_some]
      cases r with
      | false => exact aw
      | true =>
        obtain ⟨hc, hw, h1, h2, h3, hk, hq⟩ := hr' rfl
        rw [if_pos rfl]
        have n1 := ln_nonneg a0_4 a0_5 b4 b5
        have n2 := ln_nonneg a0_6 a0_7 b6 b7
        have hx : wid 0 (ln a0_4 a0_5) 0 (ln a0_6 a0_7) = wid a0_4 a0_5 a0_6 a0_7 := by
          unfold wid
          rw [ln_zero n1 (ln_top b4 b5), ln_zero n2 (ln_top b6 b7)]
        have hy : wid 0 (ln a0_6 a0_7) 0 (ln a0_4 a0_5) = wid a0_4 a0_5 a0_6 a0_7 := by
          unfold wid
          rw [ln_zero n1 (ln_top b4 b5), ln_zero n2 (ln_top b6 b7), mx_comm]
        rw [ln_b, Option.bind_some, ln_b, Option.bind_some, knots_a, Option.bind_some, knots_a, Option.bind_some, hx, if_pos rfl, stiff_a (h1 := h1) (h2 := h2) (h3 := h3), Option.bind_some, stiff_a (h1 := h1) (h2 := h2) (h3 := h3), Option.bind_some, hx, if_pos rfl, knots_a, Option.bind_some, hy, if_pos rfl]
        exact aw
  exact ⟨110, key⟩
end Go.Proofs.Ytfjbhmpnmpphoaa.Pure
