/- The plain statement behind DefectTurned: over whole numbers, lists and strings alone. -/
import Derived.Test.YtfjbhmpnmpphoaaS7
import Derived.Test.YtfjbhmpnmpphoaaWDefectTurned
import Derived.Test.YtfjbhmpnmpphoaaR
namespace Go.Proofs.Ytfjbhmpnmpphoaa.Pure
open Go.Saw
set_option linter.unusedVariables false
theorem DefectTurned (a0 : List E41) (a1_0 : Int) (a1_1 : Int) (a1_2 : Int) (a1_3 : Int) (a1_4 : Int) (a1_5 : Int) (a2_0 : Int) (a2_1 : Int) (wa0 : ∀ x ∈ a0, wf41 x) (za0 : a0.length * 56 ≤ 140737488351232) (wa1_0 : (Lit.int .i64 a1_0).wf = true) (wa1_1 : (Lit.int .i64 a1_1).wf = true) (wa1_2 : (Lit.int .i64 a1_2).wf = true) (wa1_3 : (Lit.int .i64 a1_3).wf = true) (wa1_4 : (Lit.int .i64 a1_4).wf = true) (wa1_5 : (Lit.int .i64 a1_5).wf = true) (wa2_0 : (Lit.int .i64 a2_0).wf = true) (wa2_1 : (Lit.int .i64 a2_1).wf = true) : ∃ K, sawmilllaw13_DefectTurned.f K a0 a1_0 a1_1 a1_2 a1_3 a1_4 a1_5 a2_0 a2_1 = some true := by
  have hq := bounds_i64 wa2_0
  have aw : ((sawmilllaw13_awake.f 110).bind fun x => some x) = some true := by rw [awake13]; rfl
  have key : sawmilllaw13_DefectTurned.f 110 a0 a1_0 a1_1 a1_2 a1_3 a1_4 a1_5 a2_0 a2_1 = some true := by
    unfold sawmilllaw13_DefectTurned.f
    rw [check_b, Option.bind_some]
    by_cases hc : chk a0 = 0
    · rw [if_pos hc]
      obtain ⟨t, ht, hfit⟩ := fits_eq a1_0 a1_1 a1_2 a1_3 a1_4 a1_5
      rw [ht, Option.bind_some]
      cases t with
      | false => exact aw
      | true =>
        have hb := hfit rfl
        obtain ⟨hl, hf⟩ := fine_of hc
        have hm : -8 < Int.tmod a2_0 8 ∧ Int.tmod a2_0 8 < 8 := ⟨Int.lt_tmod_of_pos a2_0 (by omega), Int.tmod_lt_of_pos a2_0 (by omega)⟩
        generalize Int.tmod a2_0 8 = q at hm ⊢
        have hlt : (turn a0 q).length ≤ 100 := Nat.le_trans (turn_len _ _) (by omega)
        rw [if_pos rfl, turn_a a0 q (by omega), Option.bind_some, check_a, Option.bind_some, if_pos (turn_fine hc q), worst_a, Option.bind_some, worst_a, Option.bind_some, if_pos (worst_turn hc q a2_1)]
        rw [w_in (n := 0 - q) (by omega) (by omega), w_in (n := 4 - q) (by omega) (by omega), turn_a _ _ hlt, Option.bind_some, turn_back hc q (0 - q) (by omega), same _ _ (by omega), Option.bind_some, if_pos (by simp)]
        rw [turn_a _ _ hlt, Option.bind_some, turn_back hc q (4 - q) (by omega), same _ _ (by omega), Option.bind_some, if_pos (by simp)]
        have hloop : ∀ (d : Nat) (j : Nat) (i : Int), i + d = 7 → 1 ≤ i → d < j → sawmilllaw13_DefectTurned.l0 110 a0 a1_0 a1_1 a1_2 a1_3 a1_4 a1_5 (turn a0 q) j i = some true := by
          intro d
          induction d with
          | zero =>
            intro j i hd hi hj
            obtain ⟨j, rfl⟩ : ∃ k, j = k + 1 := ⟨j - 1, by omega⟩
            have hb' := hb
            obtain ⟨f2, f3, f4⟩ := hb'
            simp only [sawmilllaw13_DefectTurned.l0]
            rw [if_neg (by omega), clip_a, Option.bind_some, turn_a a0 1 (by omega), Option.bind_some]
            unfold sawmilllaw13_box.f
            rw [w_in (n := 0 - a1_3) (by omega) (by omega), w_in (n := 0 - a1_2) (by omega) (by omega), Option.bind_some, Int.zero_sub, Int.zero_sub]
            simp only []
            rw [clip_a, Option.bind_some, clip_turn hc hb, if_pos (by simp)]
            have hlx : (clip a0 a1_0 a1_1 a1_2 a1_3 a1_4 a1_5).length ≤ 100 := Nat.le_trans (clip_len _ _ _ _ _ _ _) (by omega)
            generalize clip a0 a1_0 a1_1 a1_2 a1_3 a1_4 a1_5 = x at hlx ⊢
            refine run0 x (fun j (s : Unit) i => sawmilllaw13_DefectTurned.l1 110 a1_2 a1_3 x (x.map (side (a1_3 - a1_2))) _ j i) (fun _ => ()) _ hlx (fun i y j hy => ?_) (fun j => ?_)
            · have hi := at_lt hy
              have hy' : (x.map (side (a1_3 - a1_2)))[i]? = some (side (a1_3 - a1_2) y) := by rw [List.getElem?_map, hy]; rfl
              simp only [sawmilllaw13_DefectTurned.l1]
              rw [if_pos (by omega), idx_at hy, Option.bind_some, idx_at hy', Option.bind_some, w_in (n := a1_3 - a1_2) (by omega) (by omega)]
              rw [if_pos (by simp [side])]
            · simp only [sawmilllaw13_DefectTurned.l1]
              rw [if_neg (by omega)]
              exact aw
          | succ d ih =>
            intro j i hd hi hj
            obtain ⟨j, rfl⟩ : ∃ k, j = k + 1 := ⟨j - 1, by omega⟩
            simp only [sawmilllaw13_DefectTurned.l0]
            rw [if_pos (by omega), count_a _ _ hlt, Option.bind_some, count_a _ _ (by omega), Option.bind_some, if_pos (by rw [count_turn hc]), largest_a _ _ hlt, Option.bind_some, largest_a _ _ (by omega), Option.bind_some, if_pos (largest_turn hc q i), w_in (by omega) (by omega)]
            exact ih j (i + 1) (by omega) (by omega) (by omega)
        exact hloop 6 110 1 (by omega) (by omega) (by omega)
    · rw [if_neg hc]
      exact aw
  exact ⟨110, key⟩
end Go.Proofs.Ytfjbhmpnmpphoaa.Pure
