/- The plain statement behind DefectTurns: over whole numbers, lists and strings alone. -/
import Derived.Test.YtfjbhmpnmpphoaaS2
import Derived.Test.YtfjbhmpnmpphoaaWDefectTurns
import Derived.Test.YtfjbhmpnmpphoaaR
namespace Go.Proofs.Ytfjbhmpnmpphoaa.Pure
open Go.Saw
set_option linter.unusedVariables false
theorem DefectTurns (a0 : List E41) (a1 : Int) (wa0 : ∀ x ∈ a0, wf41 x) (za0 : a0.length * 56 ≤ 140737488351232) (wa1 : (Lit.int .i64 a1).wf = true) : ∃ K, sawmilllaw13_DefectTurns.f K a0 a1 = some true := by
  have hq := bounds_i64 wa1
  have key : sawmilllaw13_DefectTurns.f 110 a0 a1 = some true := by
    unfold sawmilllaw13_DefectTurns.f sawmilllaw13_few.f
    rw [Option.bind_some]
    by_cases h : (a0.length : Int) ≤ 100
    · rw [if_pos (by simpa using h), turn_a a0 a1 (by omega), Option.bind_some, turn_b a0 a1 hq (by omega), Option.bind_some, same _ _ (Nat.le_trans (turn_len a0 a1) (by omega)), Option.bind_some]
      simp [awake13]
    · rw [if_neg (by simpa using h), awake13]
      rfl
  exact ⟨110, key⟩
end Go.Proofs.Ytfjbhmpnmpphoaa.Pure
