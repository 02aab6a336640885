/- Plain laws about the strength and the defects: what the functions come to, over whole numbers and lists. -/
import Derived.Test.YtfjbhmpnmpphoaaF4
import Derived.Test.YtfjbhmpnmpphoaaR
import Derived.OpenShut
namespace Go.Proofs.Ytfjbhmpnmpphoaa.Pure
open Go.Saw
set_option linter.unusedVariables false
theorem w_eq (n : Int) : IntKind.i64.wrap n = (n + 9223372036854775808) % 18446744073709551616 - 9223372036854775808 := by
  simp [IntKind.wrap, IntKind.bits, IntKind.signed]
  split <;> omega
theorem w_in {n : Int} (h : -9223372036854775808 ≤ n) (h' : n ≤ 9223372036854775807) : IntKind.i64.wrap n = n := by rw [w_eq]; omega
theorem awake41 : sawmilllaw41_awake.f 110 = some true := by kernel_rfl
theorem awake13 : sawmilllaw13_awake.f 110 = some true := by kernel_rfl
def cls (n : Int) : Int := if 14000 ≤ n then 1 else if 11000 ≤ n then 2 else if 9000 ≤ n then 3 else if 7000 ≤ n then 4 else 0
theorem class_a (n : Int) : strength_Class.f n = some (cls n) := by
  unfold strength_Class.f strength_Class_1.f cls
  simp only [Option.bind_some, decide_eq_true_eq]
  repeat' split
  all_goals first | rfl | (exfalso; omega)
theorem class_b (n : Int) : sawmillref41_Class.f n = some (cls n) := by
  unfold sawmillref41_Class.f cls
  repeat' split
  all_goals first | rfl | (exfalso; omega)
end Go.Proofs.Ytfjbhmpnmpphoaa.Pure
