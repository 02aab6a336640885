/- The plain statement behind StrengthRanks: over whole numbers, lists and strings alone. -/
import Derived.Test.YtfjbhmpnmpphoaaS
import Derived.Test.YtfjbhmpnmpphoaaWStrengthRanks
import Derived.Test.YtfjbhmpnmpphoaaR
namespace Go.Proofs.Ytfjbhmpnmpphoaa.Pure
open Go.Saw
set_option linter.unusedVariables false
theorem StrengthRanks (a0 : Int) (a1 : Int) (wa0 : (Lit.int .i64 a0).wf = true) (wa1 : (Lit.int .i64 a1).wf = true) : ∃ K, sawmilllaw41_StrengthRanks.f K a0 a1 = some true := by
  have h : cls (mn a0 a1) = 0 ∨ cls (mn a0 a1) = 1 ∨ cls (mn a0 a1) = 2 ∨ cls (mn a0 a1) = 3 ∨ cls (mn a0 a1) = 4 := by unfold cls; repeat' split <;> omega
  have h' : cls (mx a0 a1) = 0 ∨ cls (mx a0 a1) = 1 ∨ cls (mx a0 a1) = 2 ∨ cls (mx a0 a1) = 3 ∨ cls (mx a0 a1) = 4 := by unfold cls; repeat' split <;> omega
  have hm : mn a0 a1 ≤ mx a0 a1 := by unfold mn mx; repeat' split <;> omega
  have ho : cls (mn a0 a1) ≠ 0 → cls (mx a0 a1) ≠ 0 ∧ cls (mx a0 a1) ≤ cls (mn a0 a1) := by
    generalize mn a0 a1 = x at *
    generalize mx a0 a1 = y at *
    unfold cls
    repeat' split
    all_goals omega
  have key : sawmilllaw41_StrengthRanks.f 110 a0 a1 = some true := by
    unfold sawmilllaw41_StrengthRanks.f
    rw [class_a, class_a]
    rcases h with h | h | h | h | h <;> rcases h' with h' | h' | h' | h' | h' <;> first | (rw [h, h'] at ho; exact absurd (ho (by decide)) (by decide)) | (rw [h, h']; kernel_rfl)
  exact ⟨110, key⟩
end Go.Proofs.Ytfjbhmpnmpphoaa.Pure
