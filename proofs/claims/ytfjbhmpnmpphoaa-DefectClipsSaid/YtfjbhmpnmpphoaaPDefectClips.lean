/- The plain statement behind DefectClips: over whole numbers, lists and strings alone. -/
import Derived.Test.YtfjbhmpnmpphoaaS5
import Derived.Test.YtfjbhmpnmpphoaaWDefectClips
import Derived.Test.YtfjbhmpnmpphoaaR
namespace Go.Proofs.Ytfjbhmpnmpphoaa.Pure
open Go.Saw
set_option linter.unusedVariables false
theorem DefectClips (a0 : List E41) (a1_0 : Int) (a1_1 : Int) (a1_2 : Int) (a1_3 : Int) (a1_4 : Int) (a1_5 : Int) (wa0 : ∀ x ∈ a0, wf41 x) (za0 : a0.length * 56 ≤ 140737488351232) (wa1_0 : (Lit.int .i64 a1_0).wf = true) (wa1_1 : (Lit.int .i64 a1_1).wf = true) (wa1_2 : (Lit.int .i64 a1_2).wf = true) (wa1_3 : (Lit.int .i64 a1_3).wf = true) (wa1_4 : (Lit.int .i64 a1_4).wf = true) (wa1_5 : (Lit.int .i64 a1_5).wf = true) : ∃ K, sawmilllaw13_DefectClips.f K a0 a1_0 a1_1 a1_2 a1_3 a1_4 a1_5 = some true := by
  have key : sawmilllaw13_DefectClips.f 110 a0 a1_0 a1_1 a1_2 a1_3 a1_4 a1_5 = some true := by
    unfold sawmilllaw13_DefectClips.f sawmilllaw13_few.f
    rw [Option.bind_some]
    by_cases h : (a0.length : Int) ≤ 100
    · rw [if_pos (by simpa using h)]
      refine run0 a0 (fun j (s : Unit) i => sawmilllaw13_DefectClips.l0 110 a0 a1_0 a1_1 a1_2 a1_3 a1_4 a1_5 j i) (fun _ => ()) _ (by omega) (fun i x j hx => ?_) (fun j => ?_)
      · have hi := at_lt hx
        simp only [sawmilllaw13_DefectClips.l0]
        rw [if_pos (by omega), idx_at hx, Option.bind_some, touches_a, Option.bind_some, touches_b, Option.bind_some, if_pos rfl]
      · simp only [sawmilllaw13_DefectClips.l0]
        rw [if_neg (by omega), clip_a, Option.bind_some, clip_b, Option.bind_some, same _ _ (Nat.le_trans (clip_len _ _ _ _ _ _ _) (by omega)), Option.bind_some, if_pos (by simp), awake13]
        rfl
    · rw [if_neg (by simpa using h), awake13]
      rfl
  exact ⟨110, key⟩
end Go.Proofs.Ytfjbhmpnmpphoaa.Pure
