/- The plain statement behind AssignValids: over whole numbers, lists and strings alone. -/
import Derived.Test.YtbogdbbmmlaohaaSB
import Derived.Test.YtbogdbbmmlaohaaWAssignValids
import Derived.Test.YtbogdbbmmlaohaaR
namespace Go.Proofs.Ytbogdbbmmlaohaa.Pure
open Go.Saw
set_option linter.unusedVariables false
theorem AssignValids (a0_0 : List (List E4)) (a0_1 : List E3) (a0_2 : List E3) (a1 : List E3) (wa0_1 : ∀ x ∈ a0_1, wf3 x) (wa0_2 : ∀ x ∈ a0_2, wf3 x) (wa1 : ∀ x ∈ a1, wf3 x) (za1 : a1.length * 8 ≤ 140737488351232) : ∃ K, sawmilllaw48_AssignValids.f K a0_0 a0_1 a0_2 a1 = some true := by
  have aw : ((sawmilllaw48_awake.f 110).bind fun x => some x) = some true := by rw [awake48]; rfl
  have key : sawmilllaw48_AssignValids.f 110 a0_0 a0_1 a0_2 a1 = some true := by
    unfold sawmilllaw48_AssignValids.f
    obtain ⟨t, ht, hsm⟩ := small_a a0_0
    rw [ht, Option.bind_some]
    cases t with
    | false => exact aw
    | true =>
      have hsm := hsm rfl
      have hw : shp a0_0 = 0 → wid a0_0 ≤ 50 := fun h => by
        rcases hsm with h' | h'
        · exact absurd h h'
        · omega
      rw [if_pos rfl]
      by_cases h1 : 50 < (a0_2.length : Int)
      · rw [if_pos h1]; exact aw
      · rw [if_neg h1]
        by_cases h2 : 1000 < (a1.length : Int)
        · rw [if_pos h2]; exact aw
        · rw [if_neg h2]
          obtain ⟨r, r1, r2⟩ := valid_a a0_0 a0_2 a1 hw (by omega)
          obtain ⟨q, q1, q2⟩ := valid_b a0_0 a0_2 a1 hw (by omega)
          have e : r = q := by
            rw [Bool.eq_iff_iff]
            exact r2.trans q2.symm
          rw [r1, Option.bind_some, q1, Option.bind_some, if_pos e]
          exact aw
  exact ⟨110, key⟩
end Go.Proofs.Ytbogdbbmmlaohaa.Pure
