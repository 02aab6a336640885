/- The plain statement behind AssignFirst: over whole numbers, lists and strings alone. -/
import Derived.Test.YtbogdbbmmlaohaaS8
import Derived.Test.YtbogdbbmmlaohaaWAssignFirst
import Derived.Test.YtbogdbbmmlaohaaR
namespace Go.Proofs.Ytbogdbbmmlaohaa.Pure
open Go.Saw
set_option linter.unusedVariables false
theorem AssignFirst (a0_0 : List (List E4)) (a0_1 : List E3) (a0_2 : List E3) (a1 : List E3) (wa0_1 : ∀ x ∈ a0_1, wf3 x) (wa0_2 : ∀ x ∈ a0_2, wf3 x) (wa1 : ∀ x ∈ a1, wf3 x) (za1 : a1.length * 8 ≤ 140737488351232) : ∃ K, sawmilllaw48_AssignFirst.f K a0_0 a0_1 a0_2 a1 = some true := by
  have aw : ((sawmilllaw48_awake.f 110).bind fun x => some x) = some true := by rw [awake48]; rfl
  have key : sawmilllaw48_AssignFirst.f 110 a0_0 a0_1 a0_2 a1 = some true := by
    unfold sawmilllaw48_AssignFirst.f
    obtain ⟨t, ht, hsm⟩ := small_a a0_0
    rw [ht, Option.bind_some]
    cases t with
    | false => exact aw
    | true =>
      have hsm := hsm rfl
      rw [if_pos rfl]
      by_cases h1 : 50 < (a0_2.length : Int)
      · rw [if_pos h1]; exact aw
      · rw [if_neg h1]
        by_cases h2 : 50 < (a0_1.length : Int)
        · rw [if_pos h2]; exact aw
        · rw [if_neg h2]
          by_cases h3 : 100 < (a1.length : Int)
          · rw [if_pos h3]; exact aw
          · rw [if_neg h3]
            obtain ⟨e, he, hee⟩ := checked_a a0_0 a0_1 a0_2 (by omega)
            by_cases hL : Lst a0_0 a0_1 a0_2
            · obtain ⟨c1, c2, c3⟩ := cerr_ok hL.err
              have hm8 : a0_0.length ≤ 8 ∧ wid a0_0 ≤ 14 := by
                rcases hsm with h | h
                · exact absurd c1 h
                · exact h
              obtain ⟨T, lim, T0, b1, b2, b3, b4, b5, b6, b7, b8⟩ := best_spec a0_0 a0_1 a0_2 hm8.1 (by omega) hL
              have va := best_valid b2 b3 b5 b6
              obtain ⟨r, r1, r2⟩ := valid_a a0_0 a0_2 (outL (wid a0_0) T) (fun _ => by omega) (by omega)
              have hr : r = true := r2.2 ⟨hL.err, outL_len _ _, va⟩
              obtain ⟨q, q1, q2⟩ := valid_a a0_0 a0_2 a1 (fun _ => by omega) (by omega)
              rw [b1, Option.bind_some]
              simp only []
              have bv : ((assign_Valid.f 110 a0_0 a0_2 (outL (wid a0_0) T)).bind fun x => if x = true then (sawmilllaw48_awake.f 110).bind fun u => some u else some false) = some true := by
                rw [r1, Option.bind_some, if_pos hr]; exact aw
              rw [if_pos trivial, q1, Option.bind_some]
              cases q with
              | false => exact bv
              | true =>
                obtain ⟨_, v1, v2⟩ := q2.1 rfl
                have hol : (outL (wid a0_0) T).length = wid a0_0 := outL_len _ _
                rw [if_pos rfl, if_pos (by omega), countsOf_b a0_0.length (by omega) _ (by omega), Option.bind_some, countsOf_b a0_0.length (by omega) a1 (by omega), Option.bind_some, ints_a _ _ (by rw [cntsA_len]; omega), Option.bind_some]
                by_cases hc : cntsA a0_0.length (outL (wid a0_0) T).length (aOf (outL (wid a0_0) T)) = cntsA a0_0.length a1.length (aOf a1)
                · rw [if_pos (by simpa using hc)]
                  have hnum : ∀ y : Nat, y < a0_0.length → has (wid a0_0) 0 (aOf a1) (y : Int) = num (wid a0_0) 0 T (y : Int) := fun y hy => by
                    have h1 := cntsA_at (n := a1.length) (A := aOf a1) hy
                    rw [← hc, best_counts (T0 := T) (fun _ _ => rfl), cnts_at hy, v1] at h1
                    exact (Int.ofNat_inj.1 (Option.some.inj h1)).symm
                  have hloop : ∀ (d i j : Nat), i + d = wid a0_0 → d < j → (∀ y, y < i → aOf a1 y = hold T y) → sawmilllaw48_AssignFirst.l0 110 a1 (outL (wid a0_0) T) j i = some true := by
                    intro d
                    induction d with
                    | zero =>
                      intro i j hd hj heq
                      obtain ⟨j, rfl⟩ : ∃ k, j = k + 1 := ⟨j - 1, by omega⟩
                      simp only [sawmilllaw48_AssignFirst.l0]
                      rw [if_neg (by omega)]
                      exact aw
                    | succ d ih =>
                      intro i j hd hj heq
                      obtain ⟨j, rfl⟩ : ∃ k, j = k + 1 := ⟨j - 1, by omega⟩
                      have hi : i < wid a0_0 := by omega
                      simp only [sawmilllaw48_AssignFirst.l0]
                      rw [if_pos (by omega), idx_at (outL_at hi), Option.bind_some, aOf_idx (by omega), Option.bind_some, w_in (by omega) (by omega), show (i : Int) + 1 = ((i + 1 : Nat) : Int) by omega]
                      by_cases hh : hold T i = aOf a1 i
                      · rw [if_pos hh]
                        refine ih (i + 1) j (by omega) (by omega) fun y hy => ?_
                        by_cases ey : y = i
                        · subst ey; exact hh.symm
                        · exact heq y (by omega)
                      · rw [if_neg hh]
                        have hf := b4 i hi (aOf a1) v2.good (fun y hy => by
                          have s1 := has_split i (aOf a1) y (wid a0_0) (by omega)
                          have s2 := has_split i (fun y => hold T y) y (wid a0_0) (by omega)
                          have s3 := has_below (lo := i) (A := aOf a1) (B := fun y => hold T y) heq y
                          have s4 : has (wid a0_0) 0 (aOf a1) (y : Int) = has (wid a0_0) 0 (fun y => hold T y) (y : Int) := hnum y hy
                          show has _ _ _ _ = has _ _ _ _
                          omega) (fun h => hh h.symm)
                        rw [if_pos hf.1]
                        by_cases hneg : aOf a1 i < 0
                        · rw [if_pos hneg]; exact aw
                        · rw [if_neg hneg, if_pos (by rcases hf.2 with h | h; exact absurd h hneg; exact h)]; exact aw
                  exact hloop (wid a0_0) 0 110 (by omega) (by omega) (fun y hy => by omega)
                · rw [if_neg (by simpa using hc)]
                  exact bv
            · have hbest : assign_Best.f 110 a0_0 a0_1 a0_2 = some ([], e) := by
                unfold assign_Best.f
                rw [he, Option.bind_some, if_neg (fun h => hL (hee.1 h))]
              have hne : e ≠ 0 := fun h => hL (hee.1 h)
              rw [hbest, Option.bind_some]
              simp only []
              rw [if_neg hne]
              exact aw
  exact ⟨110, key⟩
end Go.Proofs.Ytbogdbbmmlaohaa.Pure
