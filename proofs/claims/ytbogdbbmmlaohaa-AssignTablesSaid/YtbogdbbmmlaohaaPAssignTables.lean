/- The plain statement behind AssignTables: over whole numbers, lists and strings alone. -/
import Derived.Test.YtbogdbbmmlaohaaS9
import Derived.Test.YtbogdbbmmlaohaaWAssignTables
import Derived.Test.YtbogdbbmmlaohaaR
namespace Go.Proofs.Ytbogdbbmmlaohaa.Pure
open Go.Saw
set_option linter.unusedVariables false
theorem AssignTables (a0 : List E27) (a1 : List E37) (wa0 : ∀ x ∈ a0, wf27 x) (za0 : a0.length * 104 ≤ 140737488351232) (wa1 : ∀ x ∈ a1, wf37 x) (za1 : a1.length * 184 ≤ 140737488351232) : ∃ K, sawmilllaw48_AssignTables.f K a0 a1 = some true := by
  have aw : ((sawmilllaw48_awake.f 110).bind fun x => some x) = some true := by rw [awake48]; rfl
  have key : sawmilllaw48_AssignTables.f 110 a0 a1 = some true := by
    unfold sawmilllaw48_AssignTables.f
    by_cases h1 : 20 < (a0.length : Int)
    · rw [if_pos h1]; exact aw
    · rw [if_neg h1]
      by_cases h2 : 20 < (a1.length : Int)
      · rw [if_pos h2]; exact aw
      · rw [if_neg h2, table_a a0 a1 (by omega) (by omega), Option.bind_some, table_b a0 a1 (by omega) (by omega), Option.bind_some, if_pos rfl]
        have hl : (tb a0 a1).length = a0.length := by simp [tb]
        refine run (tb a0 a1) (fun j (s : Unit) i => sawmilllaw48_AssignTables.l0 110 (tb a0 a1) (tb a0 a1) j i) (fun _ => ()) _ (by omega) (fun i r j hr => ?_) (fun j => ?_) 110 (by omega)
        · have hi := at_lt hr
          have hrl : r.length = a1.length := by
            obtain ⟨x, hx, rfl⟩ := List.mem_map.1 (List.mem_of_getElem? hr)
            simp [rowE]
          simp only [sawmilllaw48_AssignTables.l0]
          rw [if_pos (by omega), idx_at hr, Option.bind_some, Option.bind_some, if_pos rfl]
          refine run r (fun k (s : Unit) q => sawmilllaw48_AssignTables.l1 110 r r _ k q) (fun _ => ()) _ (by omega) (fun q b k hb => ?_) (fun k => ?_) 110 (by omega)
          · have hq := at_lt hb
            simp only [sawmilllaw48_AssignTables.l1]
            rw [if_pos (by omega), idx_at hb, Option.bind_some, Option.bind_some, if_pos rfl]
          · simp only [sawmilllaw48_AssignTables.l1]
            rw [if_neg (by omega)]
        · simp only [sawmilllaw48_AssignTables.l0]
          rw [if_neg (by omega)]
          exact aw
  exact ⟨110, key⟩
end Go.Proofs.Ytbogdbbmmlaohaa.Pure
