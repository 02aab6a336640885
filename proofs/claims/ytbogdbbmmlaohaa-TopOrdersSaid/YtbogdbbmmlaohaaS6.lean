/- Plain laws about assignments: 'prefer' gives a board to an order where the counts allow it. -/
import Derived.Test.YtbogdbbmmlaohaaS5
namespace Go.Proofs.Ytbogdbbmmlaohaa.Pure
open Go.Saw
set_option linter.unusedVariables false
theorem holds_a {f : List (List E4)} {m n : Nat} (t : Tbl f m n) (K : Nat) (T : Int → Option Int) (x : Int) : ∀ (d i j : Nat), i + d = n → d < j →
    ∃ r, assign_market_holds.l0 K f T x j i = some r ∧ (r = true ↔ ∃ b : Nat, i ≤ b ∧ b < n ∧ hold T b = x)
  | 0, i, j, hd, hj => by
    obtain ⟨j, rfl⟩ : ∃ k, j = k + 1 := ⟨j - 1, by omega⟩
    simp only [assign_market_holds.l0]
    rw [t.col, Option.bind_some, if_neg (by omega)]
    exact ⟨false, rfl, by simp, fun ⟨b, h1, h2, _⟩ => by omega⟩
  | d + 1, i, j, hd, hj => by
    obtain ⟨j, rfl⟩ : ∃ k, j = k + 1 := ⟨j - 1, by omega⟩
    have hfew := t.few
    simp only [assign_market_holds.l0]
    rw [t.col, Option.bind_some, if_pos (by omega), hold_a, Option.bind_some, w_in (by omega) (by omega), show (i : Int) + 1 = ((i + 1 : Nat) : Int) by omega]
    by_cases h : hold T i = x
    · rw [if_pos h]; exact ⟨true, rfl, fun _ => ⟨i, Nat.le_refl _, by omega, h⟩, fun _ => rfl⟩
    · rw [if_neg h]
      obtain ⟨r, h1, h2⟩ := holds_a t K T x d (i + 1) j (by omega) (by omega)
      refine ⟨r, h1, h2.trans ⟨fun ⟨b, a1, a2, a3⟩ => ⟨b, by omega, a2, a3⟩, fun ⟨b, a1, a2, a3⟩ => ⟨b, ?_, a2, a3⟩⟩⟩
      by_cases e : b = i
      · subst e; exact absurd a3 h
      · omega
theorem size_a {f : List (List E4)} {m n : Nat} (t : Tbl f m n) (K : Nat) (T : Int → Option Int) (x : Int) (lo : Nat) (hlo : lo ≤ n) (hK : n < K) : assign_market_size.f K f T x lo = some ((num n lo T x : Nat) : Int) := by
  have hfew := t.few
  unfold assign_market_size.f
  have key : ∀ (d i j : Nat), lo ≤ i → i + d = n → d < j → assign_market_size.l0 K f T x j ((cnt i fun b => decide (lo ≤ b ∧ hold T b = x) : Nat) : Int) i = some ((num n lo T x : Nat) : Int) := by
    intro d
    induction d with
    | zero =>
      intro i j hi hd hj
      obtain ⟨j, rfl⟩ : ∃ k, j = k + 1 := ⟨j - 1, by omega⟩
      obtain rfl : i = n := by omega
      simp only [assign_market_size.l0]
      rw [t.col, Option.bind_some, if_neg (by omega)]
      rfl
    | succ d ih =>
      intro i j hi hd hj
      obtain ⟨j, rfl⟩ : ∃ k, j = k + 1 := ⟨j - 1, by omega⟩
      have ih := ih (i + 1) j (by omega) (by omega) (by omega)
      rw [cnt_succ] at ih
      have htop := cnt_top i fun b => decide (lo ≤ b ∧ hold T b = x)
      simp only [assign_market_size.l0]
      rw [t.col, Option.bind_some, if_pos (by omega), hold_a, Option.bind_some, w_in (n := (i : Int) + 1) (by omega) (by omega), show (i : Int) + 1 = ((i + 1 : Nat) : Int) by omega, w_in (n := _ + 1) (by omega) (by omega)]
      by_cases h : hold T i = x
      · rw [if_pos h]
        rw [if_pos (by rw [decide_eq_true_eq]; exact ⟨hi, h⟩)] at ih
        rw [← ih]; congr 1
      · rw [if_neg h]
        rw [if_neg (by rw [decide_eq_true_eq]; exact fun hh => h hh.2), Nat.add_zero] at ih
        exact ih
  have := key (n - lo) lo K (Nat.le_refl _) (by omega) (by omega)
  rw [cnt_none (n := lo) (fun b hb => by rw [decide_eq_false_iff_not]; omega)] at this
  exact this
theorem drop_a {f : List (List E4)} {m n : Nat} (t : Tbl f m n) (K : Nat) (T : Int → Option Int) (x : Int) : ∀ (d i j : Nat), i + d = n → d < j → (∃ b : Nat, i ≤ b ∧ b < n ∧ hold T b = x) →
    ∃ b : Nat, assign_market_drop.l0 K f T x j i = some (true, del T b) ∧ i ≤ b ∧ b < n ∧ hold T b = x
  | 0, i, j, hd, hj, ⟨b, h1, h2, _⟩ => by omega
  | d + 1, i, j, hd, hj, ⟨b, h1, h2, h3⟩ => by
    obtain ⟨j, rfl⟩ : ∃ k, j = k + 1 := ⟨j - 1, by omega⟩
    have hfew := t.few
    simp only [assign_market_drop.l0]
    rw [t.col, Option.bind_some, if_pos (by omega), hold_a, Option.bind_some, w_in (by omega) (by omega), show (i : Int) + 1 = ((i + 1 : Nat) : Int) by omega]
    by_cases h : hold T i = x
    · rw [if_pos h]; exact ⟨i, rfl, Nat.le_refl _, by omega, h⟩
    · rw [if_neg h]
      have : b ≠ i := fun e => by subst e; exact h h3
      obtain ⟨b', a1, a2, a3, a4⟩ := drop_a t K T x d (i + 1) j (by omega) (by omega) ⟨b, by omega, h2, h3⟩
      exact ⟨b', a1, by omega, a3, a4⟩
theorem has_pos {n lo : Nat} {A : Nat → Int} {x : Int} : 0 < has n lo A x ↔ ∃ b : Nat, lo ≤ b ∧ b < n ∧ A b = x := by
  constructor
  · intro h
    obtain ⟨b, h1, h2⟩ := cnt_pos h
    rw [decide_eq_true_eq] at h2
    exact ⟨b, h2.1, h1, h2.2⟩
  · rintro ⟨b, h1, h2, h3⟩
    have : cnt n (fun _ => false) < has n lo A x := cnt_lt (b := b) (fun _ _ h => by cases h) h2 rfl (by rw [decide_eq_true_eq]; exact ⟨h1, h3⟩)
    omega
/-- From lo on, and at lo itself. -/
theorem has_at {n lo : Nat} (h : lo < n) (A : Nat → Int) (x : Int) : has n lo A x = has n (lo + 1) A x + (if A lo = x then 1 else 0) := by
  have := cnt_set (n := n) (p := fun b => decide (lo + 1 ≤ b ∧ A b = x)) (q := fun b => decide (lo ≤ b ∧ A b = x)) (b := lo) h (fun y hy hne => by
    show decide _ = decide _
    rw [decide_eq_decide]
    constructor
    · rintro ⟨a, b⟩; exact ⟨by omega, b⟩
    · rintro ⟨a, b⟩; exact ⟨by omega, b⟩)
  simp only [decide_eq_true_eq, Nat.le_refl, true_and] at this
  rw [if_neg (show ¬ (lo + 1 ≤ lo ∧ A lo = x) from fun hh => by omega)] at this
  exact this
/-- A board that is given to an order which gives up one behind it. -/
theorem swap {f : List (List E4)} {m n : Nat} {T : Int → Option Int} (hg : Good f m n T) {b i : Nat} (hb : b < n) (hi : i < n) (hbi : b < i) {x : Int} (hx0 : 0 ≤ x) (hxm : x < m) (hf : fitB f x b = true) (h : hold T i = x) :
    Good f m n (upd (del T i) b x) ∧ hold (upd (del T i) b x) b = x ∧ (∀ y : Nat, y < b → hold (upd (del T i) b x) y = hold T y) ∧ ∀ y : Int, 0 ≤ y → num n 0 (upd (del T i) b x) y + (if hold T b = y then 1 else 0) = num n 0 T y := by
  refine ⟨hg.del.set hx0 hxm hf, by rw [hold_upd, if_pos rfl], fun y hy => ?_, fun y hy => ?_⟩
  · rw [hold_upd, if_neg (by omega), hold_del, if_neg (by omega)]
  · have h1 := num_set (T := T) (T' := del T i) (o := -1) hi (Nat.zero_le _) (by rw [hold_del, if_pos rfl]) (fun z _ hz => by rw [hold_del, if_neg (by omega)]) y
    have h2 := num_set (T := del T i) (T' := upd (del T i) b x) (o := x) hb (Nat.zero_le _) (by rw [hold_upd, if_pos rfl]) (fun z _ hz => by rw [hold_upd, if_neg (by omega)]) y
    rw [hold_del, if_neg (show ¬ (b : Int) = i by omega)] at h2
    rw [h, if_neg (show ¬ (-1 : Int) = y by omega)] at h1
    omega
structure Pref (f : List (List E4)) (m n : Nat) (T : Int → Option Int) (b : Nat) (x : Int) (T' : Int → Option Int) : Prop where
  good : Good f m n T'
  at_ : hold T' b = x
  num : ∀ y : Int, 0 ≤ y → num n 0 T' y = num n 0 T y
  stay : ∀ y : Nat, y < b → hold T' y = hold T y
theorem prefer_spec {f : List (List E4)} {m n : Nat} (t : Tbl f m n) (K : Nat) (hK : 2 * n + 3 ≤ K) (T : Int → Option Int) (hg : Good f m n T) (b : Nat) (hb : b < n) (x : Int) (hx0 : 0 ≤ x) (hxm : x < m) (hne : hold T b ≠ x) :
    ∃ r T', assign_market_prefer.f K f T b x = some (r, T') ∧ (r = true → Pref f m n T b x T') ∧ (r = false → T' = T ∧ ∀ A : Nat → Int, GoodA f m n A → (∀ y : Nat, y < m → has n b A y = num n b T y) → A b ≠ x) := by
  have hfew := t.few
  unfold assign_market_prefer.f
  obtain ⟨rr, hr1, _, hr2⟩ := t.row hx0 hxm
  obtain ⟨xn, rfl⟩ : ∃ k : Nat, x = k := ⟨x.toNat, by omega⟩
  rw [hr1, Option.bind_some, hr2 b (by omega) (by omega), Option.bind_some, w_in (by omega) (by omega), show (b : Int) + 1 = ((b + 1 : Nat) : Int) by omega]
  by_cases hf : fitB f xn b = true
  · rw [if_pos hf]
    have hh : ∃ r, assign_market_holds.f K f T xn ((b + 1 : Nat) : Int) = some r ∧ (r = true ↔ ∃ y : Nat, b + 1 ≤ y ∧ y < n ∧ hold T y = xn) := by
      unfold assign_market_holds.f
      exact holds_a t K T xn (n - (b + 1)) (b + 1) K (by omega) (by omega)
    obtain ⟨r, e1, e2⟩ := hh
    rw [e1, Option.bind_some]
    cases r with
    | false =>
      rw [if_neg (by simp)]
      refine ⟨false, T, rfl, by simp, fun _ => ⟨rfl, fun A h1 h2 h3 => ?_⟩⟩
      have h4 : 0 < has n b A xn := has_pos.2 ⟨b, Nat.le_refl _, hb, h3⟩
      rw [h2 xn (by omega)] at h4
      obtain ⟨y, y1, y2, y3⟩ := has_pos.1 h4
      by_cases e : y = b
      · subst e; exact hne y3
      · have := e2.2 ⟨y, by omega, y2, y3⟩
        cases this
    | true =>
      rw [if_pos rfl, hold_a, Option.bind_some]
      have hex := e2.1 rfl
      by_cases hn : hold T b = -1
      · rw [if_pos hn]
        obtain ⟨i, d1, d2, d3, d4⟩ := drop_a t K T xn (n - (b + 1)) (b + 1) K (by omega) (by omega) hex
        unfold assign_market_drop.f
        rw [d1, Option.bind_some]
        obtain ⟨s1, s2, s3, s4⟩ := swap hg hb d3 (by omega) hx0 hxm hf d4
        refine ⟨true, upd (del T i) b xn, rfl, fun _ => ⟨s1, s2, fun y hy => ?_, s3⟩, by simp⟩
        have := s4 y hy
        rw [hn, if_neg (show ¬ (-1 : Int) = y by omega)] at this
        exact this
      · rw [if_neg hn]
        obtain ⟨g1, g2, g3⟩ := hg b hb hn
        have hu := unseen_le n (b + 1) (fun _ => (none : Option Bool))
        obtain ⟨r2, S', T', f1, f2⟩ := find_spec t (fro := b + 1) (by omega) (last := (xn : Int)) (by omega) T hg K (hold T b) (fun _ => none) g1 g2 hne (by omega)
        rw [size_a t K T xn (b + 1) (by omega) (by omega), Option.bind_some, f1, Option.bind_some]
        cases r2 with
        | false =>
          rw [if_neg (by simp)]
          obtain ⟨rfl, e3⟩ : T' = T ∧ FailsTo n n (b + 1) f xn (hold T b) T (fun _ => none) S' := f2
          refine ⟨false, T', rfl, by simp, fun _ => ⟨rfl, fun A h1 h2 h3 => ?_⟩⟩
          have hRx : ofSet n T' S' (hold T' b) (b + 1) (xn : Int) = false := by
            apply Classical.byContradiction
            intro hh
            rcases ofSet_iff.1 (by simpa using hh) with e | ⟨y, y1, y2, y3, y4⟩
            · exact hne e.symm
            · exact (e3.all y y2 y1 (none_saw _) y3).2.1 y4
          refine not_both (n := n) (lo := b) (m := m) (A := A) (T := fun y => hold T' y) (R := ofSet n T' S' (hold T' b) (b + 1)) (b := b) h2 (fun y hy hl ha h0 => ?_) hb (Nat.le_refl _) (by rw [h3]; exact hRx) (ofSet_iff.2 (.inl rfl)) g1 g2
          by_cases e : y = b
          · subst e; rw [h3, hRx] at ha; cases ha
          · obtain ⟨a1, a2, a3⟩ := h1 y hy (by omega)
            obtain ⟨c1, c2, c3, c4⟩ := closed none_saw e3 hy (by omega) ha a3
            obtain ⟨k1, k2, _⟩ := hg y hy c2
            exact ⟨c4, k1, k2⟩
        | true =>
          rw [if_pos rfl]
          have wn : Wins m n (b + 1) f xn (hold T b) T (fun _ => none) T' := f2
          obtain ⟨w1, w2, tt, w3⟩ := wn
          have hTb : hold T' b = hold T b := by
            apply Classical.byContradiction
            intro hh
            have := (w1 b hb hh).1
            omega
          have hst : ∀ y : Nat, y < b → hold T' y = hold T y := fun y hy => by
            apply Classical.byContradiction
            intro hh
            have := (w1 y (by omega) hh).1
            omega
          rw [size_a t K T' xn (b + 1) (by omega) (by omega), Option.bind_some]
          have q1 := w3 (b + 1) (Nat.le_refl _) xn (by omega)
          rw [if_neg (show ¬ hold T b = (xn : Int) from hne)] at q1
          have hp : 0 < num n (b + 1) T xn := has_pos.2 hex
          by_cases hs : ((num n (b + 1) T' (xn : Int) : Nat) : Int) = ((num n (b + 1) T (xn : Int) : Nat) : Int)
          · rw [if_pos hs]
            have htt : tt = false := by
              cases tt with
              | false => rfl
              | true => rw [if_pos ⟨rfl, rfl⟩] at q1; omega
            subst htt
            obtain ⟨i, d1, d2, d3, d4⟩ := drop_a t K T' xn (n - (b + 1)) (b + 1) K (by omega) (by omega) (has_pos.1 (by omega : 0 < num n (b + 1) T' xn))
            unfold assign_market_drop.f
            rw [d1, Option.bind_some]
            obtain ⟨s1, s2, s3, s4⟩ := swap w2 hb d3 (by omega) hx0 hxm hf d4
            refine ⟨true, upd (del T' i) b xn, rfl, fun _ => ⟨s1, s2, fun y hy => ?_, fun y hy => (s3 y hy).trans (hst y hy)⟩, by simp⟩
            have h4 := s4 y hy
            have h5 := w3 0 (Nat.zero_le _) y hy
            rw [hTb] at h4
            rw [if_neg (show ¬ (false = true ∧ y = (xn : Int)) from fun hh => by cases hh.1)] at h5
            omega
          · rw [if_neg hs]
            have htt : tt = true := by
              cases tt with
              | true => rfl
              | false => rw [if_neg (show ¬ (false = true ∧ (xn : Int) = xn) from fun hh => by cases hh.1)] at q1; omega
            subst htt
            refine ⟨true, upd T' b xn, rfl, fun _ => ⟨w2.set hx0 hxm hf, by rw [hold_upd, if_pos rfl], fun y hy => ?_, fun y hy => by rw [hold_upd, if_neg (by omega)]; exact hst y hy⟩, by simp⟩
            have h5 := w3 0 (Nat.zero_le _) y hy
            have h4 := num_set (T := T') (T' := upd T' b (xn : Int)) (o := (xn : Int)) hb (Nat.zero_le _) (by rw [hold_upd, if_pos rfl]) (fun z _ hz => by rw [hold_upd, if_neg (by omega)]) y
            rw [hTb] at h4
            by_cases ey : y = (xn : Int)
            · subst ey
              rw [if_pos ⟨rfl, rfl⟩] at h5
              rw [if_pos rfl] at h4
              omega
            · rw [if_neg (fun hh => ey hh.2)] at h5
              rw [if_neg (show ¬ (xn : Int) = y from fun hh => ey hh.symm)] at h4
              omega
  · rw [if_neg hf]
    exact ⟨false, T, rfl, by simp, fun _ => ⟨rfl, fun A h1 h2 h3 => hf (by have := (h1 b hb (by omega)).2.2; rw [h3] at this; exact this)⟩⟩
end Go.Proofs.Ytbogdbbmmlaohaa.Pure
