/- Plain laws about lists of defects: clipping. -/
import Derived.Test.YtfjbhmpnmpphoaaS4
namespace Go.Proofs.Ytfjbhmpnmpphoaa.Pure
open Go.Saw
set_option linter.unusedVariables false
/-- A defect, cut to a box and moved. -/
def cutE (b1 b2 b3 b4 b5 b6 : Int) (e : E41) : Option E41 :=
  if mx e.2.1 b1 < mn e.2.2.1 b2 ∧ mx e.2.2.2.1 b3 < mn e.2.2.2.2.1 b4 ∧ mx e.2.2.2.2.2.1 b5 < mn e.2.2.2.2.2.2 b6 then
    some (e.1, IntKind.i64.wrap (mx e.2.1 b1 - b1), IntKind.i64.wrap (mn e.2.2.1 b2 - b1), IntKind.i64.wrap (mx e.2.2.2.1 b3 - b3), IntKind.i64.wrap (mn e.2.2.2.2.1 b4 - b3), IntKind.i64.wrap (mx e.2.2.2.2.2.1 b5 - b5), IntKind.i64.wrap (mn e.2.2.2.2.2.2 b6 - b5))
  else none
theorem met_le (a b c d : Int) : (met a b c d).2 ≤ (met a b c d).1 ↔ ¬ mx a c < mn b d := by
  have := met_lt a b c d
  omega
theorem met_eq {a b c d : Int} (h : mx a c < mn b d) : met a b c d = (mx a c, mn b d) := by
  unfold met; rw [if_neg (by omega)]
theorem common_a (e : E41) (b1 b2 b3 b4 b5 b6 : Int) : defect_common.f e.2.1 e.2.2.1 e.2.2.2.1 e.2.2.2.2.1 e.2.2.2.2.2.1 e.2.2.2.2.2.2 b1 b2 b3 b4 b5 b6 =
    if mx e.2.1 b1 < mn e.2.2.1 b2 ∧ mx e.2.2.2.1 b3 < mn e.2.2.2.2.1 b4 ∧ mx e.2.2.2.2.2.1 b5 < mn e.2.2.2.2.2.2 b6 then
      some (mx e.2.1 b1, mn e.2.2.1 b2, mx e.2.2.2.1 b3, mn e.2.2.2.2.1 b4, mx e.2.2.2.2.2.1 b5, mn e.2.2.2.2.2.2 b6, true)
    else some (0, 0, 0, 0, 0, 0, false) := by
  unfold defect_common.f defect_axes.f defect_boxOf.f
  simp only [Option.bind_some, met_a, met_le]
  by_cases h1 : mx e.2.1 b1 < mn e.2.2.1 b2
  · by_cases h2 : mx e.2.2.2.1 b3 < mn e.2.2.2.2.1 b4
    · by_cases h3 : mx e.2.2.2.2.2.1 b5 < mn e.2.2.2.2.2.2 b6
      · simp only [h1, h2, h3, met_eq, not_true_eq_false, if_false, and_self, if_true]
      · simp [h1, h2, h3]
    · simp [h1, h2]
  · simp [h1]
theorem touches_a (e : E41) (b1 b2 b3 b4 b5 b6 : Int) : defect_Touches.f e.1 e.2.1 e.2.2.1 e.2.2.2.1 e.2.2.2.2.1 e.2.2.2.2.2.1 e.2.2.2.2.2.2 b1 b2 b3 b4 b5 b6 = some (cutE b1 b2 b3 b4 b5 b6 e).isSome := by
  unfold defect_Touches.f cutE
  rw [common_a]
  split <;> rfl
theorem touches_b (e : E41) (b1 b2 b3 b4 b5 b6 : Int) : sawmillref13_Touches.f e.1 e.2.1 e.2.2.1 e.2.2.2.1 e.2.2.2.2.1 e.2.2.2.2.2.1 e.2.2.2.2.2.2 b1 b2 b3 b4 b5 b6 = some (cutE b1 b2 b3 b4 b5 b6 e).isSome := by
  unfold sawmillref13_Touches.f cutE sawmillref13_Meet.f sawmillref13_Empty.f
  simp only [Option.bind_some, met_b, met_le]
  by_cases h1 : mx e.2.1 b1 < mn e.2.2.1 b2
  · by_cases h2 : mx e.2.2.2.1 b3 < mn e.2.2.2.2.1 b4
    · by_cases h3 : mx e.2.2.2.2.2.1 b5 < mn e.2.2.2.2.2.2 b6
      · simp [h1, h2, h3]
      · simp [h1, h2, h3]
    · simp [h1, h2]
  · simp [h1]
theorem wrap_neg (a b : Int) : IntKind.i64.wrap (a + IntKind.i64.wrap (0 - b)) = IntKind.i64.wrap (a - b) := by
  simp only [w_eq]; omega
/-- Whether the ends of a span are small. -/
def bd (a b : Int) : Bool := decide (-1099511627776 ≤ a ∧ a ≤ 1099511627776 ∧ -1099511627776 ≤ b ∧ b ≤ 1099511627776)
theorem bd_a (a b : Int) : defect_within.f a b (-1099511627776) 1099511627776 = some (bd a b) := by
  unfold defect_within.f bd mn mx
  repeat' split
  all_goals first | (congr 1; rw [decide_eq_decide]; omega) | (congr 1; symm; rw [decide_eq_false_iff_not]; omega)
theorem bd_b (a b : Int) : sawmillref13_bounded.f a b = some (bd a b) := by
  unfold sawmillref13_bounded.f bd
  repeat' split
  all_goals first | (congr 1; rw [decide_eq_decide]; omega) | (congr 1; symm; rw [decide_eq_false_iff_not]; omega)
def clip (l : List E41) (b1 b2 b3 b4 b5 b6 : Int) : List E41 :=
  if chk l = 0 ∧ bd b1 b2 = true ∧ bd b3 b4 = true ∧ bd b5 b6 = true then l.filterMap (cutE b1 b2 b3 b4 b5 b6) else []
theorem fm_at {l : List E41} (f : E41 → Option E41) {i : Nat} {x : E41} (h : l[i]? = some x) : (l.take (i + 1)).filterMap f = (l.take i).filterMap f ++ (f x).toList := by
  rw [take_at h, List.filterMap_append]
  cases hf : f x <;> simp [hf]
theorem fm_len {l : List E41} (f : E41 → Option E41) (i : Nat) : ((l.take i).filterMap f).length ≤ l.length := Nat.le_trans (List.length_filterMap_le _ _) (by rw [List.length_take]; omega)
theorem clip_a (l : List E41) (b1 b2 b3 b4 b5 b6 : Int) : defect_Clip.f 110 l b1 b2 b3 b4 b5 b6 = some (clip l b1 b2 b3 b4 b5 b6) := by
  unfold defect_Clip.f defect_axes.f clip
  simp only [Option.bind_some, bd_a, check_a]
  by_cases h1 : bd b1 b2 = true
  · by_cases h2 : bd b3 b4 = true
    · by_cases h3 : bd b5 b6 = true
      · by_cases hc : chk l = 0
        · rw [if_pos h1, if_pos h2, if_pos h3, if_pos hc, if_pos ⟨hc, h1, h2, h3⟩]
          obtain ⟨hl, _⟩ := fine_of hc
          refine run0 l (fun j s i => defect_Clip.l0 110 l b1 b2 b3 b4 b5 b6 b1 b3 b5 j s i) (fun i => (l.take i).filterMap (cutE b1 b2 b3 b4 b5 b6)) _ (by omega) (fun i x j hx => ?_) (fun j => ?_)
          · have hi := at_lt hx
            have hlen := fm_len (l := l) (cutE b1 b2 b3 b4 b5 b6) i
            simp only [defect_Clip.l0]
            rw [if_pos (by omega), idx_at hx, Option.bind_some, common_a, fm_at _ hx]
            unfold cutE at hlen ⊢
            split
            · simp only [Option.bind_some, defect_axes.f, defect_boxOf.f, if_true, Option.toList_some]
              rw [app_one (by omega), Option.bind_some]
            · simp
          · simp only [defect_Clip.l0]
            rw [if_neg (by omega), List.take_length]
        · simp [h1, h2, h3, hc]
      · simp [h1, h2, h3]
    · simp [h1, h2]
  · simp [h1]
theorem clip_b (l : List E41) (b1 b2 b3 b4 b5 b6 : Int) : sawmillref13_Clip.f 110 l b1 b2 b3 b4 b5 b6 = some (clip l b1 b2 b3 b4 b5 b6) := by
  unfold sawmillref13_Clip.f clip
  simp only [Option.bind_some, bd_b, check_b]
  by_cases hc : chk l = 0
  · by_cases h1 : bd b1 b2 = true
    · by_cases h2 : bd b3 b4 = true
      · by_cases h3 : bd b5 b6 = true
        · rw [if_pos hc, if_pos h1, if_pos h2, if_pos h3, if_pos ⟨hc, h1, h2, h3⟩]
          obtain ⟨hl, _⟩ := fine_of hc
          refine run0 l (fun j s i => sawmillref13_Clip.l0 110 l b1 b2 b3 b4 b5 b6 j s i) (fun i => (l.take i).filterMap (cutE b1 b2 b3 b4 b5 b6)) _ (by omega) (fun i x j hx => ?_) (fun j => ?_)
          · have hi := at_lt hx
            have hlen := fm_len (l := l) (cutE b1 b2 b3 b4 b5 b6) i
            simp only [sawmillref13_Clip.l0]
            rw [if_pos (by omega), idx_at hx, Option.bind_some, touches_b, Option.bind_some, fm_at _ hx]
            unfold cutE at hlen ⊢
            split
            · rename_i hh
              obtain ⟨h1, h2, h3⟩ := hh
              simp only [Option.isSome_some, if_true, sawmillref13_Meet.f, met_b, Option.bind_some, sawmillref13_Move.f, sawmillref13_by.f, wrap_neg, Option.toList_some, met_eq h1, met_eq h2, met_eq h3]
              rw [app_one (by omega), Option.bind_some]
            · simp
          · simp only [sawmillref13_Clip.l0]
            rw [if_neg (by omega), List.take_length]
        · simp [h1, h2, h3, hc]
      · simp [h1, h2, hc]
    · simp [h1, hc]
  · simp [hc]
theorem clip_len (l : List E41) (b1 b2 b3 b4 b5 b6 : Int) : (clip l b1 b2 b3 b4 b5 b6).length ≤ l.length := by
  unfold clip
  split
  · exact List.length_filterMap_le _ _
  · simp
end Go.Proofs.Ytfjbhmpnmpphoaa.Pure
