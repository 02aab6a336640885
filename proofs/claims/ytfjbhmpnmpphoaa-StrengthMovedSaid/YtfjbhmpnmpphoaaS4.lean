/- Plain laws about lists of defects: the worst window. -/
import Derived.Test.YtfjbhmpnmpphoaaS3
namespace Go.Proofs.Ytfjbhmpnmpphoaa.Pure
open Go.Saw
set_option linter.unusedVariables false
theorem chkL_ok : ∀ l : List E41, chkL l = 0 ↔ ∀ e ∈ l, flaw e = 0
  | [] => by simp [chkL]
  | e :: r => by
    simp only [chkL]
    have ih := chkL_ok r
    split
    · rename_i h
      rw [ih]
      simp [h]
    · rename_i h
      constructor
      · intro h2; exact absurd h2 h
      · intro h2; exact absurd (h2 e List.mem_cons_self) h
theorem chk_ok (l : List E41) : chk l = 0 ↔ l.length ≤ 64 ∧ ∀ e ∈ l, flaw e = 0 := by
  unfold chk
  split
  · constructor
    · intro h; omega
    · rintro ⟨h, _⟩; omega
  · rw [chkL_ok]
    constructor
    · intro h; exact ⟨by omega, h⟩
    · rintro ⟨_, h⟩; exact h
/-- A defect without a flaw. -/
structure Fine (e : E41) : Prop where
  k : 1 ≤ e.1 ∧ e.1 ≤ 6
  x : -600 ≤ e.2.1 ∧ e.2.1 < e.2.2.1 ∧ e.2.2.1 ≤ 600
  y : -600 ≤ e.2.2.2.1 ∧ e.2.2.2.1 < e.2.2.2.2.1 ∧ e.2.2.2.2.1 ≤ 600
  z : 0 ≤ e.2.2.2.2.2.1 ∧ e.2.2.2.2.2.1 < e.2.2.2.2.2.2 ∧ e.2.2.2.2.2.2 ≤ 20000
theorem flaw_ok (e : E41) : flaw e = 0 ↔ Fine e := by
  unfold flaw
  constructor
  · intro h
    split at h
    · omega
    · split at h
      · omega
      · split at h
        · constructor <;> omega
        · omega
  · rintro ⟨h1, h2, h3, h4⟩
    rw [if_neg (by omega), if_neg (by omega), if_pos (by omega)]
theorem fine_of {l : List E41} (h : chk l = 0) : l.length ≤ 64 ∧ ∀ e ∈ l, Fine e := by
  obtain ⟨h1, h2⟩ := (chk_ok l).1 h
  exact ⟨h1, fun e he => (flaw_ok e).1 (h2 e he)⟩
theorem of_fine {l : List E41} (h : l.length ≤ 64) (h' : ∀ e ∈ l, Fine e) : chk l = 0 := (chk_ok l).2 ⟨h, fun e he => (flaw_ok e).2 (h' e he)⟩
theorem size_in {e : E41} (h : Fine e) : size e = mx (e.2.2.1 - e.2.1) (e.2.2.2.2.1 - e.2.2.2.1) ∧ 0 ≤ size e ∧ size e ≤ 1200 := by
  obtain ⟨_, h2, h3, _⟩ := h
  have : size e = mx (e.2.2.1 - e.2.1) (e.2.2.2.2.1 - e.2.2.2.1) := by
    unfold size
    rw [ln_in (by omega) (by omega), ln_in (by omega) (by omega), if_neg (by omega), if_neg (by omega)]
  refine ⟨this, ?_, ?_⟩ <;> rw [this] <;> unfold mx <;> split <;> omega
/-- Whether a defect meets a window. -/
def hits (a b : Int) (e : E41) : Bool := decide (mx e.2.2.2.2.2.1 a < mn e.2.2.2.2.2.2 b)
/-- The sum of the sizes of those with a property. -/
def tot (q : E41 → Bool) (l : List E41) : Int := ((l.filter q).map size).sum
theorem tot_snoc (q : E41 → Bool) (l : List E41) (x : E41) : tot q (l ++ [x]) = tot q l + if q x = true then size x else 0 := by
  unfold tot
  rw [List.filter_append, List.map_append, List.sum_append]
  by_cases h : q x = true <;> simp [h]
theorem tot_cons (q : E41 → Bool) (l : List E41) (x : E41) : tot q (x :: l) = (if q x = true then size x else 0) + tot q l := by
  unfold tot
  by_cases h : q x = true <;> simp [h]
theorem tot_bound (q : E41 → Bool) : ∀ (l : List E41), (∀ e ∈ l, Fine e) → 0 ≤ tot q l ∧ tot q l ≤ 1200 * (l.length : Int)
  | [], _ => by simp [tot]
  | x :: r, h => by
    obtain ⟨h1, h2⟩ := tot_bound q r fun e he => h e (List.mem_cons_of_mem _ he)
    obtain ⟨_, h3, h4⟩ := size_in (h x List.mem_cons_self)
    rw [tot_cons, List.length_cons]
    split <;> omega
theorem tot_mono {q q' : E41 → Bool} : ∀ {l : List E41}, (∀ e ∈ l, Fine e) → (∀ e ∈ l, q e = true → q' e = true) → tot q l ≤ tot q' l
  | [], _, _ => by simp [tot]
  | x :: r, h, h' => by
    have ih := tot_mono (q := q) (q' := q') (l := r) (fun e he => h e (List.mem_cons_of_mem _ he)) fun e he => h' e (List.mem_cons_of_mem _ he)
    obtain ⟨_, h3, h4⟩ := size_in (h x List.mem_cons_self)
    have h5 := h' x List.mem_cons_self
    rw [tot_cons, tot_cons]
    by_cases hq : q x = true
    · rw [if_pos hq, if_pos (h5 hq)]; omega
    · rw [if_neg hq]; split <;> omega
theorem tot_filter (q p : E41 → Bool) (l : List E41) : tot q (l.filter p) = tot (fun e => q e && p e) l := by
  unfold tot
  rw [List.filter_filter]
theorem tot_ge {q : E41 → Bool} {l : List E41} (h : ∀ e ∈ l, Fine e) {x : E41} (hx : x ∈ l) (hq : q x = true) : size x ≤ tot q l := by
  induction l with
  | nil => cases hx
  | cons y r ih =>
    rw [tot_cons]
    obtain ⟨_, h3, h4⟩ := size_in (h y List.mem_cons_self)
    have hb := (tot_bound q r fun e he => h e (List.mem_cons_of_mem _ he)).1
    rcases List.mem_cons.1 hx with rfl | hx
    · rw [if_pos hq]; omega
    · have := ih (fun e he => h e (List.mem_cons_of_mem _ he)) hx
      split <;> omega
/-- What the window that ends behind the beginning of a knot comes to. -/
def win (w : Int) (K : List E41) (e : E41) : Int := tot (hits (e.2.2.2.2.2.1 + 1 - w) (e.2.2.2.2.2.1 + 1)) K
def wst (l : List E41) (w : Int) : Int := if chk l = 0 ∧ 1 ≤ w ∧ w ≤ 20000 then mxs (win w (l.filter isKnot)) (l.filter isKnot) else 0
theorem worst_in (r : List E41) (w : Int) (hw : 1 ≤ w ∧ w ≤ 20000) (hl : r.length ≤ 64) (hf : ∀ e ∈ r, Fine e) (x : E41) (hx : Fine x) (kont : Int → Int → Option Int) :
    defect_Worst.l1 110 w r x.2.2.2.2.2.1 kont 110 0 0 = kont (win w r x) (r.length : Int) := by
  have hz := hx.z
  refine run0 r (fun j s i => defect_Worst.l1 110 w r x.2.2.2.2.2.1 kont j s i) (fun i => win w (r.take i) x) _ (by omega) (fun i y j hy => ?_) (fun j => ?_)
  · have hi := at_lt hy
    simp only [defect_Worst.l1]
    have ht : ∀ e ∈ r.take i, Fine e := fun e he => hf e (List.mem_of_mem_take he)
    have hb := tot_bound (hits (x.2.2.2.2.2.1 + 1 - w) (x.2.2.2.2.2.1 + 1)) (r.take i) ht
    rw [List.length_take] at hb
    have hfy : Fine y := hf y (List.mem_of_getElem? hy)
    have hs := size_in hfy
    rw [if_pos (by omega), idx_at hy, Option.bind_some, w_in (n := x.2.2.2.2.2.1 + 1) (by omega) (by omega), w_in (n := x.2.2.2.2.2.1 + 1 - w) (by omega) (by omega), met_a, Option.bind_some, take_at hy]
    simp only [met_lt, size_a, Option.bind_some]
    unfold win
    rw [tot_snoc]
    by_cases hh : mx y.2.2.2.2.2.1 (x.2.2.2.2.2.1 + 1 - w) < mn y.2.2.2.2.2.2 (x.2.2.2.2.2.1 + 1)
    · rw [if_pos hh, if_pos (by simpa [hits] using hh), w_in (n := _ + size y) (by omega) (by omega)]
    · rw [if_neg hh, if_neg (by simpa [hits] using hh), Int.add_zero]
  · simp only [defect_Worst.l1]
    rw [if_neg (by omega), List.take_length]
theorem worst_a (l : List E41) (w : Int) : defect_Worst.f 110 l w = some (wst l w) := by
  unfold defect_Worst.f wst
  rw [check_a, Option.bind_some]
  by_cases hc : chk l = 0
  · rw [if_pos hc]
    by_cases h1 : w < 1
    · rw [if_pos h1, if_neg (by omega)]
    · rw [if_neg h1]
      by_cases h2 : 20000 < w
      · rw [if_pos h2, if_neg (by omega)]
      · obtain ⟨hl, hf⟩ := fine_of hc
        rw [if_neg h2, if_pos ⟨hc, by omega, by omega⟩, sel_few (by omega), Option.bind_some]
        have hl' : (l.filter isKnot).length ≤ 64 := Nat.le_trans (List.length_filter_le _ _) hl
        have hf' : ∀ e ∈ l.filter isKnot, Fine e := fun e he => hf e (List.mem_filter.1 he).1
        generalize l.filter isKnot = r at hl' hf' ⊢
        refine run0 r (fun j s i => defect_Worst.l0 110 w r j s i) (fun i => mxs (win w r) (r.take i)) _ (by omega) (fun i x j hx => ?_) (fun j => ?_)
        · have hi := at_lt hx
          simp only [defect_Worst.l0]
          rw [if_pos (by omega), idx_at hx, Option.bind_some, worst_in r w ⟨by omega, by omega⟩ hl' hf' x (hf' x (List.mem_of_getElem? hx)), take_at hx, mxs_snoc]
        · simp only [defect_Worst.l0]
          rw [if_neg (by omega), List.take_length]
  · rw [if_neg hc, if_neg (fun h => hc h.1)]
theorem knot_b (e : E41) : sawmillref13_Knot.f e.1 e.2.1 e.2.2.1 e.2.2.2.1 e.2.2.2.2.1 e.2.2.2.2.2.1 e.2.2.2.2.2.2 = some (isKnot e) := by
  unfold sawmillref13_Knot.f isKnot
  split <;> rfl
theorem window_b (l : List E41) (a b : Int) (hl : l.length ≤ 64) (hf : ∀ e ∈ l, Fine e) : sawmillref13_window.f 110 l a b = some (tot (hits a b) (l.filter isKnot)) := by
  unfold sawmillref13_window.f
  refine run0 l (fun j s i => sawmillref13_window.l0 110 l a b j s i) (fun i => tot (hits a b) ((l.take i).filter isKnot)) _ (by omega) (fun i y j hy => ?_) (fun j => ?_)
  · have hi := at_lt hy
    simp only [sawmillref13_window.l0]
    have ht : ∀ e ∈ (l.take i).filter isKnot, Fine e := fun e he => hf e (List.mem_of_mem_take (List.mem_filter.1 he).1)
    have hb := tot_bound (hits a b) _ ht
    have hll : ((l.take i).filter isKnot).length ≤ i := Nat.le_trans (List.length_filter_le _ _) (by rw [List.length_take]; omega)
    have hs := size_in (hf y (List.mem_of_getElem? hy))
    rw [if_pos (by omega), idx_at hy, Option.bind_some, met_b, Option.bind_some, knot_b, Option.bind_some, filter_at _ hy]
    simp only [met_lt, size_b, Option.bind_some]
    by_cases hk : isKnot y = true
    · rw [if_pos hk, if_pos hk, tot_snoc]
      by_cases hh : mx y.2.2.2.2.2.1 a < mn y.2.2.2.2.2.2 b
      · rw [if_pos hh, if_pos (by simpa [hits] using hh), w_in (n := _ + size y) (by omega) (by omega)]
      · rw [if_neg hh, if_neg (by simpa [hits] using hh), Int.add_zero]
    · rw [if_neg hk, if_neg hk, List.append_nil]
  · simp only [sawmillref13_window.l0]
    rw [if_neg (by omega), List.take_length]
/-- The knot that begins last among those that a window meets. -/
theorem last_hit (a b : Int) : ∀ (K : List E41), (∀ e ∈ K, hits a b e = false) ∨ ∃ k ∈ K, hits a b k = true ∧ ∀ e ∈ K, hits a b e = true → e.2.2.2.2.2.1 ≤ k.2.2.2.2.2.1
  | [] => .inl (by simp)
  | x :: r => by
    by_cases hx : hits a b x = true
    · right
      rcases last_hit a b r with h | ⟨k, h1, h2, h3⟩
      · refine ⟨x, List.mem_cons_self, hx, fun e he hh => ?_⟩
        rcases List.mem_cons.1 he with rfl | he
        · exact Int.le_refl _
        · rw [h e he] at hh; cases hh
      · by_cases hc : x.2.2.2.2.2.1 ≤ k.2.2.2.2.2.1
        · refine ⟨k, List.mem_cons_of_mem _ h1, h2, fun e he hh => ?_⟩
          rcases List.mem_cons.1 he with rfl | he
          · exact hc
          · exact h3 e he hh
        · refine ⟨x, List.mem_cons_self, hx, fun e he hh => ?_⟩
          rcases List.mem_cons.1 he with rfl | he
          · exact Int.le_refl _
          · have := h3 e he hh; omega
    · rcases last_hit a b r with h | ⟨k, h1, h2, h3⟩
      · left
        intro e he
        rcases List.mem_cons.1 he with rfl | he
        · simpa using hx
        · exact h e he
      · right
        refine ⟨k, List.mem_cons_of_mem _ h1, h2, fun e he hh => ?_⟩
        rcases List.mem_cons.1 he with rfl | he
        · exact absurd hh hx
        · exact h3 e he hh
theorem hits_iff {a b : Int} {e : E41} (h : Fine e) (hab : a < b) : hits a b e = true ↔ e.2.2.2.2.2.1 < b ∧ a < e.2.2.2.2.2.2 := by
  have := h.z
  unfold hits mx mn
  rw [decide_eq_true_eq]
  repeat' split
  all_goals omega
/-- Any window is at most as bad as the worst one. -/
theorem any_window {K : List E41} (hf : ∀ e ∈ K, Fine e) (w : Int) (hw : 1 ≤ w) (a : Int) : tot (hits a (a + w)) K ≤ mxs (win w K) K := by
  rcases last_hit a (a + w) K with h | ⟨k, h1, h2, h3⟩
  · have : tot (hits a (a + w)) K = 0 := by
      unfold tot
      rw [List.filter_eq_nil_iff.2 (fun e he => by simp [h e he])]; rfl
    rw [this]
    exact mxs_nonneg _ _
  · refine Int.le_trans ?_ (le_mxs (f := win w K) h1)
    unfold win
    refine tot_mono hf fun e he hh => ?_
    have h4 := h3 e he hh
    rw [hits_iff (hf e he) (by omega)] at hh ⊢
    rw [hits_iff (hf k h1) (by omega)] at h2
    omega
theorem worst_b (l : List E41) (w : Int) : sawmillref13_Worst.f 110 l w = some (wst l w) := by
  unfold sawmillref13_Worst.f wst
  rw [check_b, Option.bind_some]
  by_cases hc : chk l = 0
  · rw [if_pos hc]
    by_cases h1 : w < 1
    · rw [if_pos h1, if_neg (by omega)]
    · rw [if_neg h1]
      by_cases h2 : 20000 < w
      · rw [if_pos h2, if_neg (by omega)]
      · obtain ⟨hl, hf⟩ := fine_of hc
        rw [if_neg h2, if_pos ⟨hc, by omega, by omega⟩]
        have hf' : ∀ e ∈ l.filter isKnot, Fine e := fun e he => hf e (List.mem_filter.1 he).1
        have key : sawmillref13_Worst.l0 110 l w 110 0 0 = some (mxs (win w (l.filter isKnot)) l) := by
          refine run0 l (fun j s i => sawmillref13_Worst.l0 110 l w j s i) (fun i => mxs (win w (l.filter isKnot)) (l.take i)) _ (by omega) (fun i x j hx => ?_) (fun j => ?_)
          · have hi := at_lt hx
            have hz := (hf x (List.mem_of_getElem? hx)).z
            simp only [sawmillref13_Worst.l0]
            rw [if_pos (by omega), idx_at hx, Option.bind_some, w_in (n := x.2.2.2.2.2.1 - w) (by omega) (by omega), w_in (n := x.2.2.2.2.2.1 - w + 1) (by omega) (by omega), w_in (n := x.2.2.2.2.2.1 - w + 1 + w) (by omega) (by omega), window_b l _ _ hl hf, Option.bind_some, take_at hx, mxs_snoc]
            unfold win
            rw [show x.2.2.2.2.2.1 - w + 1 + w = x.2.2.2.2.2.1 + 1 by omega, show x.2.2.2.2.2.1 - w + 1 = x.2.2.2.2.2.1 + 1 - w by omega]
          · simp only [sawmillref13_Worst.l0]
            rw [if_neg (by omega), List.take_length]
        rw [key]
        congr 1
        apply Int.le_antisymm
        · refine mxs_le (mxs_nonneg _ _) fun x hx => ?_
          have := any_window hf' w (by omega) (x.2.2.2.2.2.1 + 1 - w)
          rw [show x.2.2.2.2.2.1 + 1 - w + w = x.2.2.2.2.2.1 + 1 by omega] at this
          exact this
        · exact mxs_le (mxs_nonneg _ _) fun x hx => le_mxs (List.mem_filter.1 hx).1
  · rw [if_neg hc, if_neg (fun h => hc h.1)]
end Go.Proofs.Ytfjbhmpnmpphoaa.Pure
