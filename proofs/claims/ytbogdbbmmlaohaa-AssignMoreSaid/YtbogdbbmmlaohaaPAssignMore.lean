/- The plain statement behind AssignMore: over whole numbers, lists and strings alone. -/
import Derived.Test.YtbogdbbmmlaohaaS5
import Derived.Test.YtbogdbbmmlaohaaWAssignMore
import Derived.Test.YtbogdbbmmlaohaaR
namespace Go.Proofs.Ytbogdbbmmlaohaa.Pure
open Go.Saw
set_option linter.unusedVariables false
theorem AssignMore (a0_0 : List (List E4)) (a0_1 : List E3) (a0_2 : List E3) (a1 : List E4) (a2 : Int) (wa0_1 : ∀ x ∈ a0_1, wf3 x) (wa0_2 : ∀ x ∈ a0_2, wf3 x) (wa1 : ∀ x ∈ a1, wf4 x) (za1 : a1.length * 1 ≤ 140737488351232) (wa2 : (Lit.int .u8 a2).wf = true) : ∃ K, sawmilllaw48_AssignMore.f K a0_0 a0_1 a0_2 a1 a2 = some true := by
  have aw : ((sawmilllaw48_awake.f 110).bind fun x => some x) = some true := by rw [awake48]; rfl
  have hu : 0 ≤ a2 ∧ a2 ≤ 255 := by
    have h : IntKind.u8.min ≤ a2 ∧ a2 ≤ IntKind.u8.max := by simpa [Lit.wf] using wa2
    exact h
  have key : sawmilllaw48_AssignMore.f 110 a0_0 a0_1 a0_2 a1 a2 = some true := by
    unfold sawmilllaw48_AssignMore.f
    obtain ⟨t, ht, hsm⟩ := small_a a0_0
    rw [ht, Option.bind_some]
    cases t with
    | false => exact aw
    | true =>
      have hsm := hsm rfl
      rw [if_pos rfl]
      by_cases h1 : 50 < (a0_2.length : Int)
      · rw [if_pos h1]; exact aw
      · rw [if_neg h1]
        by_cases h2 : 50 < (a1.length : Int)
        · rw [if_pos h2]; exact aw
        · rw [if_neg h2]
          by_cases h3 : (a0_0.length : Int) = 0
          · rw [if_pos h3]; exact aw
          · rw [if_neg h3]
            have h0 : 0 < a0_0.length := by omega
            have hz := idx_at (List.getElem?_eq_getElem h0)
            rw [show ((0 : Nat) : Int) = 0 from rfl] at hz
            have hwd : wid a0_0 = (a0_0[0]).length := by unfold wid; rw [List.getElem?_eq_getElem h0, Option.getD_some]
            rw [hz, Option.bind_some, ← hwd]
            by_cases h4 : 13 < (wid a0_0 : Int)
            · rw [if_pos h4]; exact aw
            · rw [if_neg h4]
              by_cases hc : cerr a0_0 a0_2 = 0
              · obtain ⟨c1, c2, c3⟩ := cerr_ok hc
                obtain ⟨T, e1, s⟩ := counts_ok a0_0 a0_2 (by omega) hc
                have hfew := s.t.few
                obtain ⟨w1, w2, w3⟩ := wide_tbl (a1 := a1) s.t (by omega)
                have hwl := wide_len a0_0 a1 a0_0.length
                rw [e1, Option.bind_some]
                simp only []
                rw [if_pos trivial, if_pos (by omega)]
                have hall : ∀ x ∈ a0_2, 0 ≤ x ∧ x ≤ 200 := fun x hx => by
                  obtain ⟨i, hi, rfl⟩ := List.getElem_of_mem hx
                  have := c3 i (by omega)
                  unfold mo at this
                  rw [List.getElem?_eq_getElem hi, Option.getD_some] at this
                  exact this
                refine runN a0_0.length (fun j s i => sawmilllaw48_AssignMore.l0 110 a0_0 a0_2 a1 a2 _ j s i) (fun i => wide a0_0 a1 i) _ (by omega) (fun i j hi => ?_) (fun j => ?_) a0_0.length 0 110 (by omega) (by omega)
                · simp only [sawmilllaw48_AssignMore.l0]
                  have hrl := s.t.cols _ (List.getElem_mem hi)
                  have hwi := wide_len a0_0 a1 i
                  rw [if_pos (by omega), idx_at (List.getElem?_eq_getElem hi), Option.bind_some, app_small (by simp only [List.length_nil]; omega), Option.bind_some, List.nil_append, wide_succ]
                  have hg : a0_0[i]?.getD [] = a0_0[i] := by rw [List.getElem?_eq_getElem hi, Option.getD_some]
                  rw [hg]
                  by_cases hb : i < a1.length
                  · have hbb : bb a1 i = a1[i] := by unfold bb; rw [List.getElem?_eq_getElem hb, Option.getD_some]
                    rw [if_pos (by omega), idx_at (List.getElem?_eq_getElem hb), Option.bind_some, app_small (by simp only [List.length_cons, List.length_nil]; omega), Option.bind_some, app_small (by simp only [List.length_cons, List.length_nil]; omega), Option.bind_some, hbb]
                  · have hbb : bb a1 i = false := by unfold bb; rw [List.getElem?_eq_none (by omega)]; rfl
                    rw [if_neg (by omega), app_small (by simp only [List.length_cons, List.length_nil]; omega), Option.bind_some, app_small (by simp only [List.length_cons, List.length_nil]; omega), Option.bind_some, hbb]
                · simp only [sawmilllaw48_AssignMore.l0]
                  have hcw : cerr (wide a0_0 a1 a0_0.length) a0_2 = 0 := ok_cerr (ok_shp (by omega) (fun r hr => by rw [w1 r hr, w2]) (by omega)) (by omega) hall
                  obtain ⟨T2, e2, s2⟩ := counts_ok _ a0_2 (by omega) hcw
                  rw [if_neg (by omega), e2, Option.bind_some, app_small (by simp only [List.length_nil]; omega), Option.bind_some, List.nil_append, if_neg (by omega), w_in (n := a2) (by omega) (by omega)]
                  have hat : 0 ≤ Int.tmod a2 (a0_2.length : Int) ∧ Int.tmod a2 (a0_2.length : Int) < a0_2.length := by
                    rw [Int.tmod_eq_emod_of_nonneg (by omega)]
                    exact ⟨Int.emod_nonneg _ (by omega), Int.emod_lt_of_pos _ (by omega)⟩
                  obtain ⟨q, hq⟩ : ∃ q : Nat, Int.tmod a2 (a0_2.length : Int) = q := ⟨(Int.tmod a2 (a0_2.length : Int)).toNat, by omega⟩
                  rw [hq] at hat ⊢
                  have hql : q < a0_2.length := by omega
                  have hmq := c3 q (by omega)
                  rw [mo_idx hql, Option.bind_some, w_in (n := mo a0_2 q + 1) (by omega) (by omega), show ((q : Nat) : Int).toNat = q by omega]
                  have hv : mo a0_2 q ≤ mn (mo a0_2 q + 1) 200 ∧ 0 ≤ mn (mo a0_2 q + 1) 200 ∧ mn (mo a0_2 q + 1) 200 ≤ 200 := by
                    unfold mn; split <;> omega
                  generalize mn (mo a0_2 q + 1) 200 = v at hv ⊢
                  have hcm : cerr a0_0 (a0_2.set q v) = 0 := ok_cerr c1 (by rw [List.length_set]; exact c2) fun x hx => by
                    rcases List.mem_or_eq_of_mem_set hx with hx | rfl
                    · exact hall x hx
                    · exact ⟨hv.2.1, hv.2.2⟩
                  obtain ⟨T3, e3, s3⟩ := counts_ok a0_0 (a0_2.set q v) (by omega) hcm
                  have hmo : ∀ x, x < a0_0.length → mo a0_2 x ≤ mo (a0_2.set q v) x := fun x hx => by
                    by_cases e : x = q
                    · subst e
                      have : mo (a0_2.set x v) x = v := by unfold mo; rw [List.getElem?_set_self hql, Option.getD_some]
                      rw [this]; exact hv.1
                    · have : mo (a0_2.set q v) x = mo a0_2 x := by unfold mo; rw [List.getElem?_set_ne (fun h => e h.symm)]
                      rw [this]; exact Int.le_refl _
                  rw [e3, Option.bind_some]
                  simp only []
                  rw [if_pos trivial, if_pos trivial, if_pos (by rw [cnts_len, cnts_len, hwl]), if_pos (by rw [cnts_len, cnts_len]), wider_best (by omega) s s2, Option.bind_some, if_neg (by simp), more_best s s3 hmo, Option.bind_some, if_neg (by simp)]
                  exact aw
              · rw [counts_err a0_0 a0_2 (by omega) hc, Option.bind_some]
                simp only []
                rw [if_neg hc, if_pos (by simp)]
                exact aw
  exact ⟨110, key⟩
end Go.Proofs.Ytbogdbbmmlaohaa.Pure
