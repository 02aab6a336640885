/- Plain laws about the worst window: it does not fall, and it lies between the greatest knot and the sum of all. -/
import Derived.Test.YtfjbhmpnmpphoaaS7
namespace Go.Proofs.Ytfjbhmpnmpphoaa.Pure
open Go.Saw
set_option linter.unusedVariables false
theorem wst_in {l : List E41} (hc : chk l = 0) {w : Int} (hw : 1 ≤ w ∧ w ≤ 20000) : wst l w = mxs (win w (l.filter isKnot)) (l.filter isKnot) := by
  unfold wst; rw [if_pos ⟨hc, hw⟩]
theorem knots_fine {l : List E41} (hc : chk l = 0) : ∀ e ∈ l.filter isKnot, Fine e := fun e he => (fine_of hc).2 e (List.mem_filter.1 he).1
theorem tot_app (q : E41 → Bool) (a b : List E41) : tot q (a ++ b) = tot q a + tot q b := by
  unfold tot
  rw [List.filter_append, List.map_append, List.sum_append]
theorem fine_snoc {l : List E41} {d : E41} (h : chk (l ++ [d]) = 0) : chk l = 0 ∧ Fine d := by
  obtain ⟨h1, h2⟩ := fine_of h
  rw [List.length_append] at h1
  exact ⟨of_fine (by omega) fun e he => h2 e (List.mem_append_left _ he), h2 d (by simp)⟩
theorem wst_wider {l : List E41} {v w : Int} (hv : 1 ≤ v) (hvw : v ≤ w) (hw : w ≤ 20000) : wst l v ≤ wst l w := by
  by_cases hc : chk l = 0
  · rw [wst_in hc ⟨hv, by omega⟩, wst_in hc ⟨by omega, hw⟩]
    have hf := knots_fine hc
    refine mxs_le (mxs_nonneg _ _) fun x hx => Int.le_trans ?_ (le_mxs (f := win w _) hx)
    unfold win
    refine tot_mono hf fun e he hh => ?_
    rw [hits_iff (hf e he) (by omega)] at hh ⊢
    omega
  · unfold wst
    rw [if_neg (fun h => hc h.1), if_neg (fun h => hc h.1)]
    exact Int.le_refl _
theorem wst_more {l : List E41} {d : E41} {w : Int} (h : chk (l ++ [d]) = 0) (hw : 1 ≤ w ∧ w ≤ 20000) : wst l w ≤ wst (l ++ [d]) w := by
  obtain ⟨hc, hd⟩ := fine_snoc h
  rw [wst_in hc hw, wst_in h hw]
  have hf := knots_fine h
  rw [List.filter_append] at hf ⊢
  refine mxs_le (mxs_nonneg _ _) fun x hx => Int.le_trans ?_ (le_mxs (f := win w _) (List.mem_append_left _ hx))
  unfold win
  rw [tot_app]
  have := (tot_bound (hits (x.2.2.2.2.2.1 + 1 - w) (x.2.2.2.2.2.1 + 1)) (List.filter isKnot [d]) fun e he => hf e (List.mem_append_right _ he)).1
  omega
theorem wst_other {l : List E41} {d : E41} {w : Int} (h : chk (l ++ [d]) = 0) (hw : 1 ≤ w ∧ w ≤ 20000) (hk : isKnot d = false) : wst (l ++ [d]) w = wst l w := by
  obtain ⟨hc, hd⟩ := fine_snoc h
  rw [wst_in hc hw, wst_in h hw, List.filter_append]
  have : List.filter isKnot [d] = [] := by simp [hk]
  rw [this, List.append_nil]
theorem wst_sum {l : List E41} (hc : chk l = 0) (w : Int) : 0 ≤ wst l w ∧ wst l w ≤ tot isKnot l := by
  obtain ⟨hl, hf'⟩ := fine_of hc
  have hs := (tot_bound isKnot l hf').1
  unfold wst
  split
  · have hf := knots_fine hc
    refine ⟨mxs_nonneg _ _, mxs_le hs fun x hx => ?_⟩
    unfold win
    rw [tot_filter]
    exact tot_mono hf' fun e he hh => by
      rw [Bool.and_eq_true] at hh
      exact hh.2
  · exact ⟨Int.le_refl _, hs⟩
theorem wst_bound {l : List E41} (hc : chk l = 0) (w : Int) : 0 ≤ wst l w ∧ wst l w ≤ 76800 := by
  obtain ⟨hl, hf⟩ := fine_of hc
  have h1 := wst_sum hc w
  have h2 := (tot_bound isKnot l hf).2
  omega
theorem wst_one {l : List E41} (hc : chk l = 0) {w : Int} (hw : 1 ≤ w ∧ w ≤ 20000) {k : Int} (hk : k = 1 ∨ k = 2) : mxs size (l.filter (ofKind k)) ≤ wst l w := by
  obtain ⟨hl, hf'⟩ := fine_of hc
  have hf := knots_fine hc
  rw [wst_in hc hw]
  refine mxs_le (mxs_nonneg _ _) fun x hx => ?_
  obtain ⟨h1, h2⟩ := List.mem_filter.1 hx
  have hx' : x ∈ l.filter isKnot := by
    refine List.mem_filter.2 ⟨h1, ?_⟩
    unfold ofKind at h2
    unfold isKnot
    have : x.1 = k := by simpa using h2
    rcases hk with rfl | rfl <;> simp [this]
  refine Int.le_trans ?_ (le_mxs (f := win w _) hx')
  unfold win
  refine tot_ge hf hx' ?_
  have hz := (hf x hx').z
  rw [hits_iff (hf x hx') (by omega)]
  omega
end Go.Proofs.Ytfjbhmpnmpphoaa.Pure
