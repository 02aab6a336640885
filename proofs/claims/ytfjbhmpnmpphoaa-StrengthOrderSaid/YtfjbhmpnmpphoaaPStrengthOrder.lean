/- The plain statement behind StrengthOrder: over whole numbers, lists and strings alone. -/
import Derived.Test.YtfjbhmpnmpphoaaS9
import Derived.Test.YtfjbhmpnmpphoaaWStrengthOrder
import Derived.Test.YtfjbhmpnmpphoaaR
namespace Go.Proofs.Ytfjbhmpnmpphoaa.Pure
open Go.Saw
set_option linter.unusedVariables false
theorem StrengthOrder (a0_0 : ByteArray) (a0_1 : ByteArray) (a0_2 : ByteArray) (a0_3 : Int) (a0_4 : Int) (a0_5 : Int) (a0_6 : Int) (a0_7 : Int) (a0_8 : Int) (a0_9 : Int) (a0_10 : Int) (a0_11 : List E41) (a0_12 : Int) (a0_13 : Int) (a0_14 : Int) (a0_15 : Int) (a0_16 : Bool) (a0_17 : Int) (a1_0 : ByteArray) (a1_1 : Int) (a1_2 : Int) (a1_3 : Int) (a1_4 : Int) (a1_5 : Int) (a1_6 : Int) (a1_7 : Int) (a1_8 : Int) (a1_9 : Int) (a1_10 : Int) (a1_11 : Int) (a1_12 : Int) (a2_0 : Int) (a2_1 : Int) (a2_2 : Int) (a2_3 : Int) (a2_4 : Int) (a2_5 : Int) (a2_6 : Int) (wa0_0 : a0_0.size ≤ maxLen) (wa0_1 : a0_1.size ≤ maxLen) (wa0_2 : a0_2.size ≤ maxLen) (wa0_3 : (Lit.int .i64 a0_3).wf = true) (wa0_4 : (Lit.int .i64 a0_4).wf = true) (wa0_5 : (Lit.int .i64 a0_5).wf = true) (wa0_6 : (Lit.int .i64 a0_6).wf = true) (wa0_7 : (Lit.int .i64 a0_7).wf = true) (wa0_8 : (Lit.int .i64 a0_8).wf = true) (wa0_9 : (Lit.int .i64 a0_9).wf = true) (wa0_10 : (Lit.int .i64 a0_10).wf = true) (wa0_11 : ∀ x ∈ a0_11, wf41 x) (wa0_12 : (Lit.int .i64 a0_12).wf = true) (wa0_13 : (Lit.int .i64 a0_13).wf = true) (wa0_14 : (Lit.int .i64 a0_14).wf = true) (wa0_15 : (Lit.int .i64 a0_15).wf = true) (wa0_17 : (Lit.int .i64 a0_17).wf = true) (wa1_0 : a1_0.size ≤ maxLen) (wa1_1 : (Lit.int .i64 a1_1).wf = true) (wa1_2 : (Lit.int .i64 a1_2).wf = true) (wa1_3 : (Lit.int .i64 a1_3).wf = true) (wa1_4 : (Lit.int .i64 a1_4).wf = true) (wa1_5 : (Lit.int .i64 a1_5).wf = true) (wa1_6 : (Lit.int .i64 a1_6).wf = true) (wa1_7 : (Lit.int .i64 a1_7).wf = true) (wa1_8 : (Lit.int .i64 a1_8).wf = true) (wa1_9 : (Lit.int .i64 a1_9).wf = true) (wa1_10 : (Lit.int .i64 a1_10).wf = true) (wa1_11 : (Lit.int .i64 a1_11).wf = true) (wa1_12 : (Lit.int .i64 a1_12).wf = true) (wa2_0 : (Lit.int .i64 a2_0).wf = true) (wa2_1 : (Lit.int .i64 a2_1).wf = true) (wa2_2 : (Lit.int .i64 a2_2).wf = true) (wa2_3 : (Lit.int .i64 a2_3).wf = true) (wa2_4 : (Lit.int .i64 a2_4).wf = true) (wa2_5 : (Lit.int .i64 a2_5).wf = true) (wa2_6 : (Lit.int .i64 a2_6).wf = true) : ∃ K, sawmilllaw41_StrengthOrder.f K a0_0 a0_1 a0_2 a0_3 a0_4 a0_5 a0_6 a0_7 a0_8 a0_9 a0_10 a0_11 a0_12 a0_13 a0_14 a0_15 a0_16 a0_17 a1_0 a1_1 a1_2 a1_3 a1_4 a1_5 a1_6 a1_7 a1_8 a1_9 a1_10 a1_11 a1_12 a2_0 a2_1 a2_2 a2_3 a2_4 a2_5 a2_6 = some true := by
  have aw : ((sawmilllaw41_awake.f 110).bind fun x => some x) = some true := by rw [awake41]; rfl
  have key : sawmilllaw41_StrengthOrder.f 110 a0_0 a0_1 a0_2 a0_3 a0_4 a0_5 a0_6 a0_7 a0_8 a0_9 a0_10 a0_11 a0_12 a0_13 a0_14 a0_15 a0_16 a0_17 a1_0 a1_1 a1_2 a1_3 a1_4 a1_5 a1_6 a1_7 a1_8 a1_9 a1_10 a1_11 a1_12 a2_0 a2_1 a2_2 a2_3 a2_4 a2_5 a2_6 = some true := by
    unfold sawmilllaw41_StrengthOrder.f
    have hfew : ∃ t, sawmilllaw41_few.f a0_0 a0_1 a0_2 a0_3 a0_4 a0_5 a0_6 a0_7 a0_8 a0_9 a0_10 a0_11 a0_12 a0_13 a0_14 a0_15 a0_16 a0_17 a1_0 a1_1 a1_2 a1_3 a1_4 a1_5 a1_6 a1_7 a1_8 a1_9 a1_10 a1_11 a1_12 = some t ∧ (t = true → a0_11.length ≤ 70) := by
      unfold sawmilllaw41_few.f
      split
      · exact ⟨_, rfl, fun _ => by omega⟩
      · exact ⟨_, rfl, by simp⟩
    obtain ⟨t, ht, hlen⟩ := hfew
    obtain ⟨r, hr, hr'⟩ := right_b a0_0 a0_1 a0_2 a0_3 a0_4 a0_5 a0_6 a0_7 a0_8 a0_9 a0_10 a0_11 a0_12 a0_13 a0_14 a0_15 a0_16 a0_17 a1_0 a1_1 a1_2 a1_3 a1_4 a1_5 a1_6 a1_7 a1_8 a1_9 a1_10 a1_11 a1_12
    rw [ht, Option.bind_some]
    cases t with
    | false => exact aw
    | true =>
      rw [if_pos rfl, hr, Option.bind_some]
      cases r with
      | false => exact aw
      | true =>
        obtain ⟨hc, hw, h1, h2, h3, hk, hq⟩ := hr' rfl
        rw [if_pos rfl]
        have hW := wst_bound hc 150
        have kb := kn_bound hW hw
        obtain ⟨_, _, hm⟩ := mean_in h1 h2 h3
        have sb := stf_bound hk hq kb hm
        have w1 : 0 ≤ mn 20000 (IntKind.i64.wrap (a0_13 + 300)) ∧ mn 20000 (IntKind.i64.wrap (a0_13 + 300)) ≤ 20000 ∧ a0_13 ≤ mn 20000 (IntKind.i64.wrap (a0_13 + 300)) := by
          rw [w_in (n := a0_13 + 300) (by omega) (by omega)]
          unfold mn
          split <;> omega
        have w2 : 0 ≤ mn 20000 (IntKind.i64.wrap (a0_14 + 500)) ∧ mn 20000 (IntKind.i64.wrap (a0_14 + 500)) ≤ 20000 ∧ a0_14 ≤ mn 20000 (IntKind.i64.wrap (a0_14 + 500)) := by
          rw [w_in (n := a0_14 + 500) (by omega) (by omega)]
          unfold mn
          split <;> omega
        generalize mn 20000 (IntKind.i64.wrap (a0_13 + 300)) = m1 at w1 ⊢
        generalize mn 20000 (IntKind.i64.wrap (a0_14 + 500)) = m2 at w2 ⊢
        obtain ⟨v1, v2, v3⟩ := w1
        obtain ⟨u1, u2, u3⟩ := w2
        have w1 : 0 ≤ m1 ∧ m1 ≤ 20000 := ⟨v1, v2⟩
        have w2 : 0 ≤ m2 ∧ m2 ≤ 20000 := ⟨u1, u2⟩
        obtain ⟨_, _, hm'⟩ := mean_in w1 w2 h3
        have hmm : mean a0_13 a0_14 ≤ mean m1 m2 := by unfold mean; omega
        have wet : ∀ X : Option Bool, X = some true → ((strength_Stiffness.f 110 a0_0 a0_1 a0_2 a0_3 a0_4 a0_5 a0_6 a0_7 a0_8 a0_9 a0_10 a0_11 a0_12 m1 m2 a0_15 a0_16 a0_17 a1_0 a1_1 a1_2 a1_3 a1_4 a1_5 a1_6 a1_7 a1_8 a1_9 a1_10 a1_11 a1_12).bind fun x => if x ≤ stf a1_10 a1_11 (kn (wst a0_11 150) (wid a0_4 a0_5 a0_6 a0_7)) (mean a0_13 a0_14) then (strength_Knots.f 110 a0_0 a0_1 a0_2 a0_3 a0_4 a0_5 a0_6 a0_7 a0_8 a0_9 a0_10 a0_11 a0_12 m1 m2 a0_15 a0_16 a0_17).bind fun y => if y = kn (wst a0_11 150) (wid a0_4 a0_5 a0_6 a0_7) then X else some false else some false) = some true := by
          intro X hX
          rw [stiff_a (h1 := w1) (h2 := w2) (h3 := h3), Option.bind_some, if_pos (stf_mono hk hq kb hm kb hm' (Int.le_refl _) hmm), knots_a, Option.bind_some, if_pos rfl, hX]
        rw [stiff_a (h1 := h1) (h2 := h2) (h3 := h3), Option.bind_some, knots_a, Option.bind_some, if_neg (by omega), if_neg (by omega), if_neg (by omega), if_neg (by omega)]
        have e1 : app 56 ([] : List E41) a0_11 = some a0_11 := by
          unfold app; rw [if_pos (by have := hlen rfl; simp; omega)]; simp
        rw [e1, Option.bind_some, app_one (by have := hlen rfl; omega), Option.bind_some, check_b, Option.bind_some]
        by_cases hmore : chk (a0_11 ++ [(a2_0, a2_1, a2_2, a2_3, a2_4, a2_5, a2_6)]) = 0
        · have hW' := wst_bound hmore 150
          have kb' := kn_bound hW' hw
          have kmono := kn_mono hW hW' (wst_more hmore ⟨by omega, by omega⟩) hw
          have smono := stf_mono hk hq kb hm kb' hm kmono (Int.le_refl _)
          have hkb := knot_b (a2_0, a2_1, a2_2, a2_3, a2_4, a2_5, a2_6)
          simp only [] at hkb
          rw [if_pos hmore, stiff_a (h1 := h1) (h2 := h2) (h3 := h3), Option.bind_some, if_neg (by omega), knots_a, Option.bind_some, if_neg (by omega), hkb, Option.bind_some]
          by_cases hkn : isKnot (a2_0, a2_1, a2_2, a2_3, a2_4, a2_5, a2_6) = true
          · rw [if_pos hkn]
            exact wet _ aw
          · rw [if_neg hkn, wst_other hmore ⟨by omega, by omega⟩ (by simpa using hkn), if_pos rfl]
            exact wet _ aw
        · rw [if_neg hmore]
          exact wet _ aw
  exact ⟨110, key⟩
end Go.Proofs.Ytfjbhmpnmpphoaa.Pure
