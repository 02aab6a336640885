/- The plain statement behind DefectClip: over whole numbers, lists and strings alone. -/
import Derived.Test.YtfjbhmpnmpphoaaS6
import Derived.Test.YtfjbhmpnmpphoaaWDefectClip
import Derived.Test.YtfjbhmpnmpphoaaR
namespace Go.Proofs.Ytfjbhmpnmpphoaa.Pure
open Go.Saw
set_option linter.unusedVariables false
theorem DefectClip (a0 : List E41) (a1_0 : Int) (a1_1 : Int) (a1_2 : Int) (a1_3 : Int) (a1_4 : Int) (a1_5 : Int) (a2_0 : Int) (a2_1 : Int) (a2_2 : Int) (a2_3 : Int) (a2_4 : Int) (a2_5 : Int) (wa0 : ∀ x ∈ a0, wf41 x) (za0 : a0.length * 56 ≤ 140737488351232) (wa1_0 : (Lit.int .i64 a1_0).wf = true) (wa1_1 : (Lit.int .i64 a1_1).wf = true) (wa1_2 : (Lit.int .i64 a1_2).wf = true) (wa1_3 : (Lit.int .i64 a1_3).wf = true) (wa1_4 : (Lit.int .i64 a1_4).wf = true) (wa1_5 : (Lit.int .i64 a1_5).wf = true) (wa2_0 : (Lit.int .i64 a2_0).wf = true) (wa2_1 : (Lit.int .i64 a2_1).wf = true) (wa2_2 : (Lit.int .i64 a2_2).wf = true) (wa2_3 : (Lit.int .i64 a2_3).wf = true) (wa2_4 : (Lit.int .i64 a2_4).wf = true) (wa2_5 : (Lit.int .i64 a2_5).wf = true) : ∃ K, sawmilllaw13_DefectClip.f K a0 a1_0 a1_1 a1_2 a1_3 a1_4 a1_5 a2_0 a2_1 a2_2 a2_3 a2_4 a2_5 = some true := by
  have aw : ((sawmilllaw13_awake.f 110).bind fun x => some x) = some true := by rw [awake13]; rfl
  have key : sawmilllaw13_DefectClip.f 110 a0 a1_0 a1_1 a1_2 a1_3 a1_4 a1_5 a2_0 a2_1 a2_2 a2_3 a2_4 a2_5 = some true := by
    unfold sawmilllaw13_DefectClip.f
    rw [check_b, Option.bind_some]
    by_cases hc : chk a0 = 0
    · rw [if_pos hc]
      obtain ⟨t, ht, hfit⟩ := fits_eq a1_0 a1_1 a1_2 a1_3 a1_4 a1_5
      rw [ht, Option.bind_some]
      cases t with
      | false => exact aw
      | true =>
        have hb := hfit rfl
        obtain ⟨hx, ex⟩ := clip_fine hc hb
        obtain ⟨hl, hf⟩ := fine_of hc
        have hb' := hb
        obtain ⟨f2, f3, f4⟩ := hb'
        have hlx : (clip a0 a1_0 a1_1 a1_2 a1_3 a1_4 a1_5).length ≤ 64 := Nat.le_trans (clip_len _ _ _ _ _ _ _) hl
        rw [if_pos rfl, clip_a, Option.bind_some]
        unfold sawmilllaw13_box.f
        rw [w_in (n := a1_1 - a1_0) (by omega) (by omega), w_in (n := a1_3 - a1_2) (by omega) (by omega), w_in (n := a1_5 - a1_4) (by omega) (by omega), Option.bind_some, check_a, Option.bind_some, if_pos hx, clip_a, Option.bind_some]
        have hw : clip (clip a0 a1_0 a1_1 a1_2 a1_3 a1_4 a1_5) 0 (a1_1 - a1_0) 0 (a1_3 - a1_2) 0 (a1_5 - a1_4) = clip a0 a1_0 a1_1 a1_2 a1_3 a1_4 a1_5 := by
          rw [clip_do hx (bd_in (by omega)) (bd_in (by omega)) (bd_in (by omega))]
          refine fm_id fun e he => ?_
          rw [ex] at he
          obtain ⟨y, hy, hye⟩ := List.mem_filterMap.1 he
          obtain ⟨g, g1, g2, g3, g4, g5, g6⟩ := cut_fine hb (hf y hy) hye
          exact cut_whole g ⟨g1, g2⟩ ⟨g3, g4⟩ ⟨g5, g6⟩
        rw [hw, same _ _ (by omega), Option.bind_some, if_pos (by simp)]
        unfold sawmillref13_Meet.f
        simp only [met_b, Option.bind_some]
        have he : sawmillref13_Empty.f (met a2_0 a2_1 0 (a1_1 - a1_0)).1 (met a2_0 a2_1 0 (a1_1 - a1_0)).2 (met a2_2 a2_3 0 (a1_3 - a1_2)).1 (met a2_2 a2_3 0 (a1_3 - a1_2)).2 (met a2_4 a2_5 0 (a1_5 - a1_4)).1 (met a2_4 a2_5 0 (a1_5 - a1_4)).2 = some (!(decide (mx a2_0 0 < mn a2_1 (a1_1 - a1_0) ∧ mx a2_2 0 < mn a2_3 (a1_3 - a1_2) ∧ mx a2_4 0 < mn a2_5 (a1_5 - a1_4)))) := by
          unfold sawmillref13_Empty.f
          simp only [met_le]
          by_cases h1 : mx a2_0 0 < mn a2_1 (a1_1 - a1_0)
          · by_cases h2 : mx a2_2 0 < mn a2_3 (a1_3 - a1_2)
            · by_cases h3 : mx a2_4 0 < mn a2_5 (a1_5 - a1_4)
              · simp [h1, h2, h3]
              · simp [h1, h2, h3]
            · simp [h1, h2]
          · simp [h1]
        rw [he, Option.bind_some]
        by_cases hm : mx a2_0 0 < mn a2_1 (a1_1 - a1_0) ∧ mx a2_2 0 < mn a2_3 (a1_3 - a1_2) ∧ mx a2_4 0 < mn a2_5 (a1_5 - a1_4)
        · rw [if_neg (by simp [hm])]
          obtain ⟨m1, m2, m3⟩ := hm
          rw [met_eq m1, met_eq m2, met_eq m3]
          have k1 := ax_in m1
          have k2 := ax_in m2
          have k3 := ax_in m3
          simp only []
          generalize mx a2_0 0 = p1 at k1 ⊢
          generalize mn a2_1 (a1_1 - a1_0) = p2 at k1 ⊢
          generalize mx a2_2 0 = p3 at k2 ⊢
          generalize mn a2_3 (a1_3 - a1_2) = p4 at k2 ⊢
          generalize mx a2_4 0 = p5 at k3 ⊢
          generalize mn a2_5 (a1_5 - a1_4) = p6 at k3 ⊢
          unfold sawmillref13_Move.f sawmillref13_by.f
          simp only [Option.bind_some]
          rw [w_in (n := p1 + a1_0) (by omega) (by omega), w_in (n := p2 + a1_0) (by omega) (by omega), w_in (n := p3 + a1_2) (by omega) (by omega), w_in (n := p4 + a1_2) (by omega) (by omega), w_in (n := p5 + a1_4) (by omega) (by omega), w_in (n := p6 + a1_4) (by omega) (by omega)]
          rw [clip_a, Option.bind_some, clip_a, Option.bind_some]
          have hp : clip (clip a0 a1_0 a1_1 a1_2 a1_3 a1_4 a1_5) p1 p2 p3 p4 p5 p6 = clip a0 (p1 + a1_0) (p2 + a1_0) (p3 + a1_2) (p4 + a1_2) (p5 + a1_4) (p6 + a1_4) := by
            rw [clip_do hx (bd_in (by omega)) (bd_in (by omega)) (bd_in (by omega)), ex, clip_do hc (bd_in (by omega)) (bd_in (by omega)) (bd_in (by omega)), List.filterMap_filterMap]
            exact fm_congr fun e he => cut_twice hb ⟨by omega, by omega, by omega⟩ ⟨by omega, by omega, by omega⟩ ⟨by omega, by omega, by omega⟩ (hf e he)
          rw [hp, same _ _ (Nat.le_trans (clip_len _ _ _ _ _ _ _) (by omega)), Option.bind_some, if_pos (by simp)]
          exact aw
        · rw [if_pos (by simp only [decide_eq_false hm]; rfl)]
          exact aw
    · rw [if_neg hc]
      exact aw
  exact ⟨110, key⟩
end Go.Proofs.Ytfjbhmpnmpphoaa.Pure
