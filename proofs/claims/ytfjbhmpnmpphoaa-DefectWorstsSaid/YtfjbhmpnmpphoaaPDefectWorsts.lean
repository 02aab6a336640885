/- The plain statement behind DefectWorsts: over whole numbers, lists and strings alone. -/
import Derived.Test.YtfjbhmpnmpphoaaS4
import Derived.Test.YtfjbhmpnmpphoaaWDefectWorsts
import Derived.Test.YtfjbhmpnmpphoaaR
namespace Go.Proofs.Ytfjbhmpnmpphoaa.Pure
open Go.Saw
set_option linter.unusedVariables false
theorem DefectWorsts (a0 : List E41) (a1 : Int) (wa0 : ∀ x ∈ a0, wf41 x) (za0 : a0.length * 56 ≤ 140737488351232) (wa1 : (Lit.int .i64 a1).wf = true) : ∃ K, sawmilllaw13_DefectWorsts.f K a0 a1 = some true := by
  have key : sawmilllaw13_DefectWorsts.f 110 a0 a1 = some true := by
    unfold sawmilllaw13_DefectWorsts.f sawmilllaw13_few.f
    rw [Option.bind_some]
    by_cases h : (a0.length : Int) ≤ 100
    · rw [if_pos (by simpa using h), worst_a, Option.bind_some, worst_b, Option.bind_some, if_pos rfl, awake13]
      rfl
    · rw [if_neg (by simpa using h), awake13]
      rfl
  exact ⟨110, key⟩
end Go.Proofs.Ytfjbhmpnmpphoaa.Pure
