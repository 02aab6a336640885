/- The plain statement behind AssignPriority: over whole numbers, lists and strings alone. -/
import Derived.Test.YtbogdbbmmlaohaaS8
import Derived.Test.YtbogdbbmmlaohaaWAssignPriority
import Derived.Test.YtbogdbbmmlaohaaR
namespace Go.Proofs.Ytbogdbbmmlaohaa.Pure
open Go.Saw
set_option linter.unusedVariables false
theorem AssignPriority (a0_0 : List (List E4)) (a0_1 : List E3) (a0_2 : List E3) (a1 : List E3) (wa0_1 : ∀ x ∈ a0_1, wf3 x) (wa0_2 : ∀ x ∈ a0_2, wf3 x) (wa1 : ∀ x ∈ a1, wf3 x) (za1 : a1.length * 8 ≤ 140737488351232) : ∃ K, sawmilllaw48_AssignPriority.f K a0_0 a0_1 a0_2 a1 = some true := by
  have aw : ((sawmilllaw48_awake.f 110).bind fun x => some x) = some true := by rw [awake48]; rfl
  have key : sawmilllaw48_AssignPriority.f 110 a0_0 a0_1 a0_2 a1 = some true := by
    unfold sawmilllaw48_AssignPriority.f
    obtain ⟨t, ht, hsm⟩ := small_a a0_0
    rw [ht, Option.bind_some]
    cases t with
    | false => exact aw
    | true =>
      have hsm := hsm rfl
      rw [if_pos rfl]
      by_cases h1 : 50 < (a0_2.length : Int)
      · rw [if_pos h1]; exact aw
      · rw [if_neg h1]
        by_cases h2 : 50 < (a0_1.length : Int)
        · rw [if_pos h2]; exact aw
        · rw [if_neg h2]
          by_cases h3 : 100 < (a1.length : Int)
          · rw [if_pos h3]; exact aw
          · rw [if_neg h3]
            obtain ⟨e, he, hee⟩ := checked_a a0_0 a0_1 a0_2 (by omega)
            by_cases hL : Lst a0_0 a0_1 a0_2
            · obtain ⟨c1, c2, c3⟩ := cerr_ok hL.err
              have hm8 : a0_0.length ≤ 8 ∧ wid a0_0 ≤ 14 := by
                rcases hsm with h | h
                · exact absurd c1 h
                · exact h
              obtain ⟨T1, e1, s1⟩ := counts_ok a0_0 a0_2 (by omega) hL.err
              obtain ⟨T, lim, T0, b1, b2, b3, b4, b5, b6, b7, b8⟩ := best_spec a0_0 a0_1 a0_2 hm8.1 (by omega) hL
              have va := best_valid b2 b3 b5 b6
              obtain ⟨r, r1, r2⟩ := valid_a a0_0 a0_2 (outL (wid a0_0) T) (fun _ => by omega) (by omega)
              have hr : r = true := r2.2 ⟨hL.err, outL_len _ _, va⟩
              rw [e1, Option.bind_some, b1, Option.bind_some]
              simp only []
              rw [if_pos trivial, if_pos trivial, r1, Option.bind_some, if_pos hr, if_pos (by rw [cnts_len]), countsOf_b a0_0.length (by omega) _ (by rw [outL_len]; omega), Option.bind_some, best_counts b3]
              -- what comes at the end
              have tail : ((assign_Valid.f 110 a0_0 a0_2 a1).bind fun x => if x = true then (sawmillref48_CountsOf.f 110 (a0_0.length : Int) a1).bind fun y => (sawmilllaw48_better.f 110 y (cnts a0_0.length (wid a0_0) T1)).bind fun z => if z = true then some false else (sawmilllaw48_awake.f 110).bind fun u => some u else (sawmilllaw48_awake.f 110).bind fun u => some u) = some true := by
                obtain ⟨q, q1, q2⟩ := valid_a a0_0 a0_2 a1 (fun _ => by omega) (by omega)
                rw [q1, Option.bind_some]
                cases q with
                | false => exact aw
                | true =>
                  obtain ⟨_, v1, v2⟩ := q2.1 rfl
                  rw [if_pos rfl, countsOf_b a0_0.length (by omega) a1 (by omega), Option.bind_some, v1, served_best s1 v2, Option.bind_some, if_neg (by simp)]
                  exact aw
              let c : Nat → Int := fun x => ((num (wid a0_0) 0 T1 (x : Int) : Nat) : Int)
              have hcl : (cnts a0_0.length (wid a0_0) T0).length = a0_0.length := cnts_len _ _ _
              refine runN a0_0.length (fun j s i => sawmilllaw48_AssignPriority.l0 110 a0_0 a0_1 a0_2 a1 (cnts a0_0.length (wid a0_0) T1) (cnts a0_0.length (wid a0_0) T0) j i s) (fun i => decide (∀ x, x < i → c x = 0 ∨ mo a0_1 x ≤ c x)) _ (by omega) (fun i j hi => ?_) (fun j => ?_) a0_0.length 0 110 (by omega) (by omega)
              · simp only [sawmilllaw48_AssignPriority.l0]
                have hll := hL.len
                have hci : ((num (wid a0_0) 0 T1 (i : Int) : Nat) : Int) = c i := rfl
                rw [if_pos (by omega), cnts_idx (T := T0) hi, cnts_idx (T := T1) hi, mo_idx (most := a0_1) (by omega), mo_idx (most := a0_2) (by omega)]
                simp only [Option.bind_some, hci]
                have hstep : decide (∀ x, x < i + 1 → c x = 0 ∨ mo a0_1 x ≤ c x) = (decide (∀ x, x < i → c x = 0 ∨ mo a0_1 x ≤ c x) && decide (c i = 0 ∨ mo a0_1 i ≤ c i)) := by
                  rw [Bool.eq_iff_iff]
                  simp only [decide_eq_true_eq, Bool.and_eq_true]
                  constructor
                  · intro h; exact ⟨fun x hx => h x (by omega), h i (by omega)⟩
                  · rintro ⟨h1, h2⟩ x hx
                    by_cases e : x = i
                    · subst e; exact h2
                    · exact h1 x (by omega)
                rw [hstep]
                generalize decide (∀ x, x < i → c x = 0 ∨ mo a0_1 x ≤ c x) = fl
                have h0 : ((num (wid a0_0) 0 T0 (i : Int) : Nat) : Int) ≤ mo a0_2 i := Int.le_trans (b5.max i hi).1 (b6 i hi)
                by_cases hg : ((num (wid a0_0) 0 T0 (i : Int) : Nat) : Int) = 0
                · rw [if_pos hg]
                  cases fl with
                  | false => simp
                  | true =>
                    rw [if_pos rfl]
                    by_cases hz : c i = 0
                    · rw [if_pos hz]; simp [hz]
                    · rw [if_neg hz]; simp [hz]
                · have hns : ¬ ((num (wid a0_0) 0 T0 (i : Int) : Nat) : Int) < mo a0_1 i := fun hlt => b7 ⟨i, hi, by omega, hlt⟩
                  rw [if_neg hg, if_neg hns, if_neg (show ¬ mo a0_2 i < ((num (wid a0_0) 0 T0 (i : Int) : Nat) : Int) from Int.not_lt.2 h0)]
                  cases fl with
                  | false => simp
                  | true =>
                    rw [if_pos rfl]
                    by_cases hz : c i = 0
                    · rw [if_pos hz]; simp [hz]
                    · rw [if_neg hz]; simp [hz]
              · simp only [sawmilllaw48_AssignPriority.l0]
                rw [if_neg (by omega)]
                by_cases hfl : ∀ x, x < a0_0.length → c x = 0 ∨ mo a0_1 x ≤ c x
                · have hT : T0 = T1 := b8 T1 s1.fill fun ⟨x, x1, x2, x3⟩ => by
                    have hx3 : c x < mo a0_1 x := x3
                    have hx2 : c x ≠ 0 := by show ((num (wid a0_0) 0 T1 (x : Int) : Nat) : Int) ≠ 0; omega
                    rcases hfl x x1 with h | h
                    · exact hx2 h
                    · omega
                  rw [if_pos (by simpa using hfl), hT, ints_a _ _ (by rw [cnts_len]; omega), Option.bind_some, if_pos (by simp)]
                  exact tail
                · rw [if_neg (by simpa using hfl)]
                  exact tail
            · have hbest : assign_Best.f 110 a0_0 a0_1 a0_2 = some ([], e) := by
                unfold assign_Best.f
                rw [he, Option.bind_some, if_neg (fun h => hL (hee.1 h))]
              have hne : e ≠ 0 := fun h => hL (hee.1 h)
              rw [hbest]
              by_cases hc : cerr a0_0 a0_2 = 0
              · obtain ⟨c1, c2, c3⟩ := cerr_ok hc
                obtain ⟨T1, e1, s1⟩ := counts_ok a0_0 a0_2 (by rcases hsm with h | h; exact absurd c1 h; omega) hc
                rw [e1, Option.bind_some, Option.bind_some]
                simp only []
                rw [if_pos trivial, if_neg hne]
                exact aw
              · rw [counts_err a0_0 a0_2 (by omega) hc, Option.bind_some, Option.bind_some]
                simp only []
                rw [if_neg hc, if_neg hne]
                exact aw
  exact ⟨110, key⟩
end Go.Proofs.Ytbogdbbmmlaohaa.Pure
