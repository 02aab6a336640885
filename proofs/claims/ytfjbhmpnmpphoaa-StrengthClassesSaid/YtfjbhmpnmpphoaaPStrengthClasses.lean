/- The plain statement behind StrengthClasses: over whole numbers, lists and strings alone. -/
import Derived.Test.YtfjbhmpnmpphoaaS
import Derived.Test.YtfjbhmpnmpphoaaWStrengthClasses
import Derived.Test.YtfjbhmpnmpphoaaR
namespace Go.Proofs.Ytfjbhmpnmpphoaa.Pure
open Go.Saw
set_option linter.unusedVariables false
theorem StrengthClasses (a0 : Int) (a1 : Int) (wa0 : (Lit.int .i64 a0).wf = true) (wa1 : (Lit.int .i64 a1).wf = true) : ∃ K, sawmilllaw41_StrengthClasses.f K a0 a1 = some true := by
  refine ⟨110, ?_⟩
  have hn : sawmillref41_Name.f a1 = strength_Name.f a1 := rfl
  unfold sawmilllaw41_StrengthClasses.f
  rw [class_a, class_b, hn]
  simp only [Option.bind_some, if_true, awake41]
  cases h : strength_Name.f a1 with
  | none =>
    unfold strength_Name.f at h
    repeat' split at h
    all_goals cases h
  | some v => simp
end Go.Proofs.Ytfjbhmpnmpphoaa.Pure
