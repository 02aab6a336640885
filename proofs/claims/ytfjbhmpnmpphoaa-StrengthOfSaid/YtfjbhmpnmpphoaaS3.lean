/- Plain laws about lists of defects: sizes, numbers, the greatest of a kind, the worst window. -/
import Derived.Test.YtfjbhmpnmpphoaaS2
namespace Go.Proofs.Ytfjbhmpnmpphoaa.Pure
open Go.Saw
set_option linter.unusedVariables false
/-- A loop over a list that runs to its end. -/
theorem run {β σ E : Type} (l : List E) (F : Nat → σ → Int → Option β) (st : Nat → σ) (fin : Option β) (hb : l.length < 4611686018427387904)
    (hs : ∀ i x j, l[i]? = some x → F (j + 1) (st i) i = F j (st (i + 1)) (IntKind.i64.wrap ((i : Int) + 1)))
    (he : ∀ j, F (j + 1) (st l.length) l.length = fin) : ∀ (d i j : Nat), i + d = l.length → d < j → F j (st i) i = fin
  | 0, i, j, hd, hj => by
    obtain ⟨j, rfl⟩ : ∃ k, j = k + 1 := ⟨j - 1, by omega⟩
    obtain rfl : i = l.length := by omega
    exact he j
  | d + 1, i, j, hd, hj => by
    obtain ⟨j, rfl⟩ : ∃ k, j = k + 1 := ⟨j - 1, by omega⟩
    rw [hs i l[i] j (List.getElem?_eq_getElem (by omega)), w_in (by omega) (by omega)]
    exact run l F st fin hb hs he d (i + 1) j (by omega) (by omega)
theorem run0 {β σ E : Type} (l : List E) (F : Nat → σ → Int → Option β) (st : Nat → σ) (fin : Option β) (hb : l.length ≤ 100)
    (hs : ∀ i x j, l[i]? = some x → F (j + 1) (st i) i = F j (st (i + 1)) (IntKind.i64.wrap ((i : Int) + 1)))
    (he : ∀ j, F (j + 1) (st l.length) l.length = fin) : F 110 (st 0) 0 = fin := run l F st fin (by omega) hs he l.length 0 110 (by omega) (by omega)
theorem take_at {E : Type} {l : List E} {i : Nat} {x : E} (h : l[i]? = some x) : l.take (i + 1) = l.take i ++ [x] := by
  obtain ⟨h1, h2⟩ := List.getElem?_eq_some_iff.1 h
  rw [List.take_succ_eq_append_getElem h1, h2]
theorem at_lt {E : Type} {l : List E} {i : Nat} {x : E} (h : l[i]? = some x) : i < l.length := (List.getElem?_eq_some_iff.1 h).1
/-- The length of a span. -/
def ln (a b : Int) : Int := if b ≤ a then 0 else if a < 0 then if IntKind.i64.wrap (9223372036854775807 + a) < b then 9223372036854775807 else IntKind.i64.wrap (b - a) else IntKind.i64.wrap (b - a)
theorem ln_a (a b : Int) : span_Len.f a b = some (ln a b) := by
  unfold span_Len.f span_empty.f ln
  simp only [Option.bind_some, decide_eq_true_eq]
  repeat' split
  all_goals rfl
theorem ln_b (a b : Int) : sawmillref03_Len.f a b = some (ln a b) := by
  unfold sawmillref03_Len.f ln
  repeat' split
  all_goals rfl
theorem ln_in {a b : Int} (h : -100000 ≤ a) (h' : b ≤ 100000) : ln a b = if b ≤ a then 0 else b - a := by
  unfold ln
  split
  · rfl
  · split
    · rw [w_in (n := 9223372036854775807 + a) (by omega) (by omega), if_neg (by omega), w_in (by omega) (by omega)]
    · rw [w_in (by omega) (by omega)]
/-- The size of a defect. -/
def size (e : E41) : Int := mx (ln e.2.1 e.2.2.1) (ln e.2.2.2.1 e.2.2.2.2.1)
theorem size_a (e : E41) : defect_Size.f e.1 e.2.1 e.2.2.1 e.2.2.2.1 e.2.2.2.2.1 e.2.2.2.2.2.1 e.2.2.2.2.2.2 = some (size e) := by
  unfold defect_Size.f size
  rw [ln_a, ln_a]; rfl
theorem size_b (e : E41) : sawmillref13_Size.f e.1 e.2.1 e.2.2.1 e.2.2.2.1 e.2.2.2.2.1 e.2.2.2.2.2.1 e.2.2.2.2.2.2 = some (size e) := by
  unfold sawmillref13_Size.f size
  rw [ln_b, ln_b]; rfl
/-- The common part of two spans. -/
def met (a b c d : Int) : Int × Int := if mn b d ≤ mx a c then (0, 0) else (mx a c, mn b d)
theorem met_b (a b c d : Int) : sawmillref03_Meet.f a b c d = some (met a b c d) := by
  unfold sawmillref03_Meet.f met
  split <;> rfl
theorem met_a (a b c d : Int) : span_Meet.f a b c d = some (met a b c d) := by
  unfold span_Meet.f span_empty.f met mn mx
  simp only [Option.bind_some, decide_eq_true_eq]
  repeat' split
  all_goals first | rfl | (exfalso; omega)
theorem met_lt (a b c d : Int) : (met a b c d).1 < (met a b c d).2 ↔ mx a c < mn b d := by
  unfold met
  split
  · simp; omega
  · simp
theorem sel_few {q : E41 → Bool} {l : List E41} (h : l.length ≤ 100) : sel q l = some (l.filter q) := by
  unfold sel
  rw [if_pos (by omega)]
theorem filter_at {l : List E41} (q : E41 → Bool) {i : Nat} {x : E41} (h : l[i]? = some x) : (l.take (i + 1)).filter q = (l.take i).filter q ++ if q x = true then [x] else [] := by
  rw [take_at h, List.filter_append]
  by_cases hx : q x = true <;> simp [hx]
theorem count_a (l : List E41) (k : Int) (h : l.length ≤ 100) : defect_Count.f l k = some ((l.filter (ofKind k)).length : Int) := by
  unfold defect_Count.f
  rw [sel_few h]; rfl
theorem count_b (l : List E41) (k : Int) (h : l.length ≤ 100) : sawmillref13_Count.f 110 l k = some ((l.filter (ofKind k)).length : Int) := by
  unfold sawmillref13_Count.f
  refine run0 l (fun j s i => sawmillref13_Count.l0 110 l k j s i) (fun i => (((l.take i).filter (ofKind k)).length : Int)) _ h (fun i x j hx => ?_) (fun j => ?_)
  · have hi := at_lt hx
    simp only [sawmillref13_Count.l0]
    rw [if_pos (by omega), idx_at hx, Option.bind_some, filter_at _ hx]
    have hl : ((l.take i).filter (ofKind k)).length ≤ i := Nat.le_trans (List.length_filter_le _ _) (by rw [List.length_take]; omega)
    by_cases hk : x.1 = k
    · rw [if_pos hk, if_pos (by simp [ofKind, hk]), w_in (n := (_ : Int) + 1) (by omega) (by omega)]
      simp
    · rw [if_neg hk, if_neg (by simp [ofKind, hk])]
      simp
  · simp only [sawmillref13_Count.l0]
    rw [if_neg (by omega), List.take_length]
/-- The greatest of some numbers, and 0. -/
def mxs {E : Type} (f : E → Int) (l : List E) : Int := l.foldl (fun n e => mx n (f e)) 0
theorem mxs_snoc {E : Type} (f : E → Int) (l : List E) (x : E) : mxs f (l ++ [x]) = mx (mxs f l) (f x) := by unfold mxs; rw [List.foldl_append]; rfl
theorem le_mx (a b : Int) : a ≤ mx a b ∧ b ≤ mx a b := by unfold mx; split <;> omega
theorem mx_le {a b c : Int} (h : a ≤ c) (h' : b ≤ c) : mx a b ≤ c := by unfold mx; split <;> omega
theorem foldl_le {E : Type} (f : E → Int) : ∀ (l : List E) (n c : Int), n ≤ c → (∀ x ∈ l, f x ≤ c) → l.foldl (fun n e => mx n (f e)) n ≤ c
  | [], n, c, h, _ => h
  | x :: r, n, c, h, h' => foldl_le f r _ c (mx_le h (h' x List.mem_cons_self)) fun y hy => h' y (List.mem_cons_of_mem _ hy)
theorem foldl_ge {E : Type} (f : E → Int) : ∀ (l : List E) (n : Int), n ≤ l.foldl (fun n e => mx n (f e)) n ∧ ∀ x ∈ l, f x ≤ l.foldl (fun n e => mx n (f e)) n
  | [], n => ⟨Int.le_refl _, by simp⟩
  | x :: r, n => by
    obtain ⟨h1, h2⟩ := foldl_ge f r (mx n (f x))
    obtain ⟨h3, h4⟩ := le_mx n (f x)
    refine ⟨Int.le_trans h3 h1, fun y hy => ?_⟩
    rcases List.mem_cons.1 hy with rfl | hy
    · exact Int.le_trans h4 h1
    · exact h2 y hy
theorem mxs_le {E : Type} {f : E → Int} {l : List E} {c : Int} (h0 : 0 ≤ c) (h : ∀ x ∈ l, f x ≤ c) : mxs f l ≤ c := foldl_le f l 0 c h0 h
theorem le_mxs {E : Type} {f : E → Int} {l : List E} {x : E} (h : x ∈ l) : f x ≤ mxs f l := (foldl_ge f l 0).2 x h
theorem mxs_nonneg {E : Type} (f : E → Int) (l : List E) : 0 ≤ mxs f l := (foldl_ge f l 0).1
theorem largest_a (l : List E41) (k : Int) (h : l.length ≤ 100) : defect_Largest.f 110 l k = some (mxs size (l.filter (ofKind k))) := by
  unfold defect_Largest.f
  rw [sel_few h, Option.bind_some]
  have hl : (l.filter (ofKind k)).length ≤ 100 := Nat.le_trans (List.length_filter_le _ _) h
  generalize l.filter (ofKind k) = r at hl ⊢
  refine run0 r (fun j s i => defect_Largest.l0 110 r j s i) (fun i => mxs size (r.take i)) _ hl (fun i x j hx => ?_) (fun j => ?_)
  · have hi := at_lt hx
    simp only [defect_Largest.l0]
    rw [if_pos (by omega), idx_at hx, Option.bind_some, size_a, Option.bind_some, take_at hx, mxs_snoc]
  · simp only [defect_Largest.l0]
    rw [if_neg (by omega), List.take_length]
theorem largest_b (l : List E41) (k : Int) (h : l.length ≤ 100) : sawmillref13_Largest.f 110 l k = some (mxs size (l.filter (ofKind k))) := by
  unfold sawmillref13_Largest.f
  refine run0 l (fun j s i => sawmillref13_Largest.l0 110 l k j s i) (fun i => mxs size ((l.take i).filter (ofKind k))) _ h (fun i x j hx => ?_) (fun j => ?_)
  · have hi := at_lt hx
    simp only [sawmillref13_Largest.l0]
    rw [if_pos (by omega), idx_at hx, Option.bind_some, filter_at _ hx]
    by_cases hk : x.1 = k
    · rw [if_pos hk, if_pos (by simp [ofKind, hk]), size_b, Option.bind_some, mxs_snoc]
    · rw [if_neg hk, if_neg (by simp [ofKind, hk]), List.append_nil]
  · simp only [sawmillref13_Largest.l0]
    rw [if_neg (by omega), List.take_length]
end Go.Proofs.Ytfjbhmpnmpphoaa.Pure
