/- Plain laws about assignments: the boards of orders, through the layers. -/
import Derived.Test.YtbogdbbmmlaohaaS8
import Derived.Test.YtbogdbbmmlaohaaS9
namespace Go.Proofs.Ytbogdbbmmlaohaa.Pure
open Go.Saw
set_option linter.unusedVariables false
/-- An order whose numbers are sound. -/
def OkO (x : E27) : Prop := (1 ≤ x.2.2.2.2.2.2.1 ∧ x.2.2.2.2.2.2.1 ≤ 200) ∧ (0 ≤ x.2.2.2.2.2.2.2.1 ∧ x.2.2.2.2.2.2.2.1 < x.2.2.2.2.2.2.1) ∧ 0 ≤ x.2.2.2.2.2.2.2.2.1 ∧ x.2.2.2.2.2.2.2.2.1 ≤ 200 - x.2.2.2.2.2.2.1
def leastE (x : E27) : Int := x.2.2.2.2.2.2.1 - x.2.2.2.2.2.2.2.1
def mostE (x : E27) : Int := x.2.2.2.2.2.2.1 + x.2.2.2.2.2.2.2.2.1
theorem sound_a {x : E27} (h : OkO x) : order_sound.f x.1 x.2.1 x.2.2.1 x.2.2.2.1 x.2.2.2.2.1 x.2.2.2.2.2.1 x.2.2.2.2.2.2.1 x.2.2.2.2.2.2.2.1 x.2.2.2.2.2.2.2.2.1 x.2.2.2.2.2.2.2.2.2.1 x.2.2.2.2.2.2.2.2.2.2 = some true := by
  unfold OkO at h
  unfold order_sound.f
  rw [if_neg (by omega), if_neg (by omega), if_pos (by omega), if_pos (by omega), if_pos (by omega), w_in (by omega) (by omega)]
  congr 1
  rw [decide_eq_true_eq]
  omega
theorem least_a {x : E27} (h : OkO x) : order_Least.f x.1 x.2.1 x.2.2.1 x.2.2.2.1 x.2.2.2.2.1 x.2.2.2.2.2.1 x.2.2.2.2.2.2.1 x.2.2.2.2.2.2.2.1 x.2.2.2.2.2.2.2.2.1 x.2.2.2.2.2.2.2.2.2.1 x.2.2.2.2.2.2.2.2.2.2 = some (leastE x) := by
  unfold order_Least.f leastE
  rw [sound_a h, Option.bind_some, if_pos rfl]
  unfold OkO at h
  rw [w_in (by omega) (by omega)]
theorem most_a {x : E27} (h : OkO x) : order_Most.f x.1 x.2.1 x.2.2.1 x.2.2.2.1 x.2.2.2.2.1 x.2.2.2.2.2.1 x.2.2.2.2.2.2.1 x.2.2.2.2.2.2.2.1 x.2.2.2.2.2.2.2.2.1 x.2.2.2.2.2.2.2.2.2.1 x.2.2.2.2.2.2.2.2.2.2 = some (mostE x) := by
  unfold order_Most.f mostE
  rw [sound_a h, Option.bind_some, if_pos rfl]
  unfold OkO at h
  rw [w_in (by omega) (by omega)]
theorem topcounts_l (K : Nat) (m : Int) (to : List E3) : ∀ (k : Nat) (i : Int) (s : List E3), sawmilltop_counts.l0 K m to k i s = sawmillref48_CountsOf.l0 K m to k i s
  | 0, _, _ => rfl
  | k + 1, i, s => by
    simp only [sawmilltop_counts.l0, sawmillref48_CountsOf.l0, topcounts_l K m to k]
theorem topcounts (m : Nat) (hm : m ≤ 1000) (to : List E3) (hl : to.length ≤ 100) : sawmilltop_counts.f 110 m to = some (cntsA m to.length (aOf to)) := by
  rw [← countsOf_b m hm to hl]
  unfold sawmilltop_counts.f sawmillref48_CountsOf.f
  simp only [topcounts_l]
theorem tb_len (o : List E27) (l : List E37) : (tb o l).length = o.length := by simp [tb]
theorem tb_wid {o : List E27} {l : List E37} (h : 0 < o.length) : wid (tb o l) = l.length ∧ ∀ r ∈ tb o l, r.length = l.length := by
  have hr : ∀ r ∈ tb o l, r.length = l.length := fun r hr => by
    obtain ⟨x, hx, rfl⟩ := List.mem_map.1 hr
    simp [rowE]
  refine ⟨?_, hr⟩
  have hlt : 0 < (tb o l).length := by rw [tb_len]; exact h
  unfold wid
  rw [List.getElem?_eq_getElem hlt, Option.getD_some]
  exact hr _ (List.getElem_mem hlt)
theorem tb_fit {o : List E27} {l : List E37} {i k : Nat} {x : E27} {b : E37} (hx : o[i]? = some x) (hb : l[k]? = some b) (h : fitB (tb o l) (i : Int) (k : Int) = true) : fitE x b = 0 := by
  unfold fitB tb rowE at h
  rw [Int.toNat_natCast, Int.toNat_natCast, List.getElem?_map, hx, Option.map_some, Option.getD_some, List.getElem?_map, hb, Option.map_some, Option.getD_some] at h
  simpa using h
end Go.Proofs.Ytbogdbbmmlaohaa.Pure
