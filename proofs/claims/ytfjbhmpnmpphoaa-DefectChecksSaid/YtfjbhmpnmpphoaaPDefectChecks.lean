/- The plain statement behind DefectChecks: over whole numbers, lists and strings alone. -/
import Derived.Test.YtfjbhmpnmpphoaaS4
import Derived.Test.YtfjbhmpnmpphoaaWDefectChecks
import Derived.Test.YtfjbhmpnmpphoaaR
namespace Go.Proofs.Ytfjbhmpnmpphoaa.Pure
open Go.Saw
set_option linter.unusedVariables false
theorem DefectChecks (a0 : List E41) (a1 : Int) (wa0 : ∀ x ∈ a0, wf41 x) (za0 : a0.length * 56 ≤ 140737488351232) (wa1 : (Lit.int .i64 a1).wf = true) : ∃ K, sawmilllaw13_DefectChecks.f K a0 a1 = some true := by
  have key : sawmilllaw13_DefectChecks.f 110 a0 a1 = some true := by
    unfold sawmilllaw13_DefectChecks.f sawmilllaw13_few.f
    rw [Option.bind_some]
    by_cases h : (a0.length : Int) ≤ 100
    · rw [if_pos (by simpa using h)]
      refine run0 a0 (fun j (s : Unit) i => sawmilllaw13_DefectChecks.l0 110 a0 a1 j i) (fun _ => ()) _ (by omega) (fun i x j hx => ?_) (fun j => ?_)
      · have hi := at_lt hx
        simp only [sawmilllaw13_DefectChecks.l0]
        rw [if_pos (by omega), idx_at hx, Option.bind_some, size_a, Option.bind_some, size_b, Option.bind_some, if_pos rfl]
      · simp only [sawmilllaw13_DefectChecks.l0]
        rw [if_neg (by omega), check_a, Option.bind_some, check_b, Option.bind_some, if_pos rfl, count_a _ _ (by omega), Option.bind_some, count_b _ _ (by omega), Option.bind_some, if_pos rfl, largest_a _ _ (by omega), Option.bind_some, largest_b _ _ (by omega), Option.bind_some, if_pos rfl, awake13]
        rfl
    · rw [if_neg (by simpa using h), awake13]
      rfl
  exact ⟨110, key⟩
end Go.Proofs.Ytfjbhmpnmpphoaa.Pure
