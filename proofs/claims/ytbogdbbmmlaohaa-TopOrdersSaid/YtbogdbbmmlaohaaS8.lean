/- Plain laws about assignments: the best assignment is valid; its counts. -/
import Derived.Test.YtbogdbbmmlaohaaS7
namespace Go.Proofs.Ytbogdbbmmlaohaa.Pure
open Go.Saw
set_option linter.unusedVariables false
theorem has_congr {n lo : Nat} {A B : Nat → Int} (h : ∀ b, b < n → A b = B b) (y : Int) : has n lo A y = has n lo B y := by
  apply cnt_congr
  intro b hb
  rw [h b hb]
theorem best_valid {f : List (List E4)} {most lim : List E3} {T T0 : Int → Option Int} (hg : Good f f.length (wid f) T) (hn : ∀ y : Int, 0 ≤ y → num (wid f) 0 T y = num (wid f) 0 T0 y) (s : Served f lim T0) (hl : ∀ x : Nat, x < f.length → mo lim x ≤ mo most x) : VA f most (aOf (outL (wid f) T)) := by
  refine ⟨fun b hb hne => ?_, fun x hx => ?_⟩
  · rw [aOf_outL hb] at hne ⊢
    exact hg b hb hne
  · have e : has (wid f) 0 (aOf (outL (wid f) T)) (x : Int) = num (wid f) 0 T (x : Int) := has_congr (fun b hb => aOf_outL hb) _
    rw [e, hn x (by omega)]
    exact Int.le_trans (s.max x hx).1 (hl x hx)
theorem best_counts {f : List (List E4)} {T T0 : Int → Option Int} (hn : ∀ y : Int, 0 ≤ y → num (wid f) 0 T y = num (wid f) 0 T0 y) : cntsA f.length (outL (wid f) T).length (aOf (outL (wid f) T)) = cnts f.length (wid f) T0 := by
  rw [outL_len]
  refine cnts_ext (cntsA_len _ _ _) fun x hx => ?_
  have e : has (wid f) 0 (aOf (outL (wid f) T)) (x : Int) = num (wid f) 0 T (x : Int) := has_congr (fun b hb => aOf_outL hb) _
  rw [cntsA_at hx, e, hn x (by omega)]
end Go.Proofs.Ytbogdbbmmlaohaa.Pure
