/- The plain statement behind DefectWindows: over whole numbers, lists and strings alone. -/
import Derived.Test.YtfjbhmpnmpphoaaS8
import Derived.Test.YtfjbhmpnmpphoaaWDefectWindows
import Derived.Test.YtfjbhmpnmpphoaaR
namespace Go.Proofs.Ytfjbhmpnmpphoaa.Pure
open Go.Saw
set_option linter.unusedVariables false
theorem DefectWindows (a0 : List E41) (a1_0 : Int) (a1_1 : Int) (a1_2 : Int) (a1_3 : Int) (a1_4 : Int) (a1_5 : Int) (a1_6 : Int) (a2_0 : Int) (a2_1 : Int) (wa0 : ∀ x ∈ a0, wf41 x) (za0 : a0.length * 56 ≤ 140737488351232) (wa1_0 : (Lit.int .i64 a1_0).wf = true) (wa1_1 : (Lit.int .i64 a1_1).wf = true) (wa1_2 : (Lit.int .i64 a1_2).wf = true) (wa1_3 : (Lit.int .i64 a1_3).wf = true) (wa1_4 : (Lit.int .i64 a1_4).wf = true) (wa1_5 : (Lit.int .i64 a1_5).wf = true) (wa1_6 : (Lit.int .i64 a1_6).wf = true) (wa2_0 : (Lit.int .i64 a2_0).wf = true) (wa2_1 : (Lit.int .i64 a2_1).wf = true) : ∃ K, sawmilllaw13_DefectWindows.f K a0 a1_0 a1_1 a1_2 a1_3 a1_4 a1_5 a1_6 a2_0 a2_1 = some true := by
  have aw : ((sawmilllaw13_awake.f 110).bind fun x => some x) = some true := by rw [awake13]; rfl
  have key : sawmilllaw13_DefectWindows.f 110 a0 a1_0 a1_1 a1_2 a1_3 a1_4 a1_5 a1_6 a2_0 a2_1 = some true := by
    unfold sawmilllaw13_DefectWindows.f
    have e1 : app 56 ([] : List E41) a0 = some a0 := by
      unfold app; rw [if_pos (by simp; omega)]; simp
    have e2 : app 56 a0 ([(a1_0, a1_1, a1_2, a1_3, a1_4, a1_5, a1_6)] : List E41) = some (a0 ++ [(a1_0, a1_1, a1_2, a1_3, a1_4, a1_5, a1_6)]) := by
      unfold app; rw [if_pos (by simp; omega)]
    rw [e1, Option.bind_some, e2, Option.bind_some, check_b, Option.bind_some]
    generalize ((a1_0, a1_1, a1_2, a1_3, a1_4, a1_5, a1_6) : E41) = d
    by_cases hc : chk (a0 ++ [d]) = 0
    · rw [if_pos hc]
      obtain ⟨hc0, hd⟩ := fine_snoc hc
      obtain ⟨hl, hf⟩ := fine_of hc0
      by_cases h1 : mn a2_0 a2_1 < 1
      · rw [if_pos h1]; exact aw
      · rw [if_neg h1]
        by_cases h2 : 20000 < mx a2_0 a2_1
        · rw [if_pos h2]; exact aw
        · rw [if_neg h2, largest_a _ _ (by omega), Option.bind_some, largest_a _ _ (by omega), Option.bind_some]
          have hm : mn a2_0 a2_1 ≤ mx a2_0 a2_1 := by unfold mn mx; split <;> split <;> omega
          refine run0 a0 (fun j s i => sawmilllaw13_DefectWindows.l0 110 a0 a2_0 a2_1 (a0 ++ [d]) _ _ j s i) (fun i => tot isKnot (a0.take i)) _ (by omega) (fun i x j hx => ?_) (fun j => ?_)
          · have hi := at_lt hx
            have hb := tot_bound isKnot (a0.take i) fun e he => hf e (List.mem_of_mem_take he)
            rw [List.length_take] at hb
            have hs := size_in (hf x (List.mem_of_getElem? hx))
            simp only [sawmilllaw13_DefectWindows.l0]
            rw [if_pos (by omega), idx_at hx, Option.bind_some, take_at hx, tot_snoc]
            simp only [size_a, Option.bind_some]
            rw [w_in (n := _ + size x) (by omega) (by omega)]
            by_cases k1 : x.1 = 1
            · rw [if_pos k1, if_pos (by simp [isKnot, k1])]
            · rw [if_neg k1]
              by_cases k2 : x.1 = 2
              · rw [if_pos k2, if_pos (by simp [isKnot, k2])]
              · rw [if_neg k2, if_neg (by simp [isKnot, k1, k2]), Int.add_zero]
          · simp only [sawmilllaw13_DefectWindows.l0]
            rw [if_neg (by omega), List.take_length, worst_a, Option.bind_some, worst_a, Option.bind_some, worst_a, Option.bind_some]
            rw [if_pos (mx_le (wst_one hc0 ⟨by omega, by omega⟩ (.inl rfl)) (wst_one hc0 ⟨by omega, by omega⟩ (.inr rfl))), if_pos (wst_sum hc0 _).2, if_pos (wst_wider (by omega) hm (by omega)), if_pos (wst_more hc ⟨by omega, by omega⟩)]
            exact aw
    · rw [if_neg hc]
      exact aw
  exact ⟨110, key⟩
end Go.Proofs.Ytfjbhmpnmpphoaa.Pure
