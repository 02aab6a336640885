/- Plain laws about assignments: counting boards, and why a closed set of boards bounds every other assignment. -/
namespace Go.Proofs.Ytbogdbbmmlaohaa.Pure
/-- How many of the first n boards have a property. -/
def cnt (n : Nat) (p : Nat → Bool) : Nat := (List.range n).countP p
theorem cnt_zero (p : Nat → Bool) : cnt 0 p = 0 := rfl
theorem cnt_succ (n : Nat) (p : Nat → Bool) : cnt (n + 1) p = cnt n p + (if p n then 1 else 0) := by
  unfold cnt
  rw [List.range_succ, List.countP_append, List.countP_cons, List.countP_nil, Nat.zero_add]
theorem cnt_congr : ∀ {n : Nat} {p q : Nat → Bool}, (∀ b, b < n → p b = q b) → cnt n p = cnt n q
  | 0, _, _, _ => rfl
  | n + 1, p, q, h => by rw [cnt_succ, cnt_succ, cnt_congr fun b hb => h b (by omega), h n (by omega)]
theorem cnt_le : ∀ {n : Nat} {p q : Nat → Bool}, (∀ b, b < n → p b = true → q b = true) → cnt n p ≤ cnt n q
  | 0, _, _, _ => Nat.le_refl _
  | n + 1, p, q, h => by
    have ih := cnt_le (n := n) (p := p) (q := q) fun b hb => h b (by omega)
    have h1 := h n (by omega)
    rw [cnt_succ, cnt_succ]
    by_cases hp : p n = true
    · rw [if_pos hp, if_pos (h1 hp)]; omega
    · rw [if_neg hp]; omega
theorem cnt_lt : ∀ {n : Nat} {p q : Nat → Bool} {b : Nat}, (∀ b, b < n → p b = true → q b = true) → b < n → p b = false → q b = true → cnt n p < cnt n q
  | 0, _, _, _, _, hb, _, _ => by omega
  | n + 1, p, q, b, h, hb, h1, h2 => by
    rw [cnt_succ, cnt_succ]
    by_cases e : b = n
    · subst e
      have ih := cnt_le (n := b) (p := p) (q := q) fun b' hb' => h b' (by omega)
      rw [h1, h2]; simp; omega
    · have ih := cnt_lt (n := n) (p := p) (q := q) (b := b) (fun b hb => h b (by omega)) (by omega) h1 h2
      have h1 := h n (by omega)
      by_cases hp : p n = true
      · rw [if_pos hp, if_pos (h1 hp)]; omega
      · rw [if_neg hp]; omega
theorem cnt_none {n : Nat} {p : Nat → Bool} (h : ∀ b, b < n → p b = false) : cnt n p = 0 := by
  have : cnt n p = cnt n (fun _ => false) := cnt_congr h
  rw [this]
  clear this h
  induction n with
  | zero => rfl
  | succ n ih => rw [cnt_succ, ih]; rfl
theorem cnt_pos {n : Nat} {p : Nat → Bool} (h : 0 < cnt n p) : ∃ b, b < n ∧ p b = true := by
  apply Classical.byContradiction
  intro hn
  rw [cnt_none (fun b hb => by
    cases hp : p b with
    | false => rfl
    | true => exact absurd ⟨b, hb, hp⟩ hn)] at h
  omega
theorem cnt_or : ∀ (n : Nat) (p q : Nat → Bool), (∀ b, p b = true → q b = false) → cnt n (fun b => p b || q b) = cnt n p + cnt n q
  | 0, _, _, _ => rfl
  | n + 1, p, q, h => by
    rw [cnt_succ, cnt_succ, cnt_succ, cnt_or n p q h]
    have := h n
    cases hp : p n <;> cases hq : q n <;> simp_all <;> omega
/-- One board changes. -/
theorem cnt_set {n : Nat} {p q : Nat → Bool} {b : Nat} (hb : b < n) (h : ∀ x, x < n → x ≠ b → p x = q x) :
    cnt n q + (if p b then 1 else 0) = cnt n p + (if q b then 1 else 0) := by
  induction n with
  | zero => omega
  | succ n ih =>
    rw [cnt_succ, cnt_succ]
    by_cases e : b = n
    · subst e
      rw [cnt_congr (n := b) (p := p) (q := q) fun x hx => h x (by omega) (by omega)]
      omega
    · have := ih (by omega) fun x hx => h x (by omega)
      rw [h n (by omega) (by omega)]
      omega
/-- How many boards from lo on an order has. -/
def has (n lo : Nat) (A : Nat → Int) (x : Int) : Nat := cnt n fun b => decide (lo ≤ b ∧ A b = x)
/-- The boards of the orders of a set below m. -/
def hasR (n lo : Nat) (A : Nat → Int) (R : Int → Bool) (m : Nat) : Nat := cnt n fun b => decide (lo ≤ b ∧ R (A b) = true ∧ 0 ≤ A b ∧ A b < m)
theorem hasR_succ (n lo : Nat) (A : Nat → Int) (R : Int → Bool) (m : Nat) : hasR n lo A R (m + 1) = hasR n lo A R m + (if R m then has n lo A m else 0) := by
  unfold hasR has
  by_cases hR : R m = true
  · rw [if_pos hR, ← cnt_or]
    · apply cnt_congr
      intro b _
      rw [Bool.eq_iff_iff]
      simp only [Bool.or_eq_true, decide_eq_true_eq]
      constructor
      · rintro ⟨h1, h2, h3, h4⟩
        by_cases e : A b = m
        · exact .inr ⟨h1, e⟩
        · exact .inl ⟨h1, h2, h3, by omega⟩
      · rintro (⟨h1, h2, h3, h4⟩ | ⟨h1, h2⟩)
        · exact ⟨h1, h2, h3, by omega⟩
        · exact ⟨h1, by rw [h2]; exact hR, by omega, by omega⟩
    · intro b h
      rw [decide_eq_true_eq] at h
      rw [decide_eq_false_iff_not]
      omega
  · rw [if_neg hR, Nat.add_zero]
    apply cnt_congr
    intro b _
    rw [decide_eq_decide]
    constructor
    · rintro ⟨h1, h2, h3, h4⟩
      refine ⟨h1, h2, h3, ?_⟩
      by_cases e : A b = m
      · rw [e] at h2; exact absurd h2 hR
      · omega
    · rintro ⟨h1, h2, h3, h4⟩; exact ⟨h1, h2, h3, by omega⟩
theorem hasR_eq (n lo : Nat) (A T : Nat → Int) (R : Int → Bool) : ∀ (m : Nat), (∀ x : Nat, x < m → has n lo A x = has n lo T x) → hasR n lo A R m = hasR n lo T R m
  | 0, _ => by
    unfold hasR
    rw [cnt_none fun b _ => by rw [decide_eq_false_iff_not]; omega, cnt_none fun b _ => by rw [decide_eq_false_iff_not]; omega]
  | m + 1, h => by rw [hasR_succ, hasR_succ, hasR_eq n lo A T R m fun x hx => h x (by omega), h m (by omega)]
theorem hasR_le {n lo : Nat} {A T : Nat → Int} {R : Int → Bool} {m : Nat} (h : ∀ b, b < n → lo ≤ b → R (A b) = true → 0 ≤ A b → R (T b) = true ∧ 0 ≤ T b ∧ T b < m) : hasR n lo A R m ≤ hasR n lo T R m := by
  apply cnt_le
  intro b hb hp
  rw [decide_eq_true_eq] at hp ⊢
  exact ⟨hp.1, h b hb hp.1 hp.2.1 hp.2.2.1⟩
/-- No assignment that serves the orders before o alike gives more to o, where the boards of a closed set are all held. -/
theorem no_more {n : Nat} {A T : Nat → Int} {R : Int → Bool} {o : Nat} (ho : R o = true) (he : ∀ x : Nat, x < o → has n 0 A x = has n 0 T x) (h : ∀ b, b < n → R (A b) = true → 0 ≤ A b → R (T b) = true ∧ 0 ≤ T b ∧ T b ≤ o) :
    has n 0 A o ≤ has n 0 T o := by
  have h1 : hasR n 0 A R (o + 1) ≤ hasR n 0 T R (o + 1) := hasR_le fun b hb _ ha h0 => by
    obtain ⟨h2, h3, h4⟩ := h b hb ha h0
    exact ⟨h2, h3, by omega⟩
  rw [hasR_succ, hasR_succ, hasR_eq n 0 A T R o he, if_pos ho, if_pos ho] at h1
  omega
/-- Of two assignments with the same counts, neither has more boards of a set of orders. -/
theorem not_both {n lo m : Nat} {A T : Nat → Int} {R : Int → Bool} {b : Nat} (he : ∀ x : Nat, x < m → has n lo A x = has n lo T x) (h : ∀ b, b < n → lo ≤ b → R (A b) = true → 0 ≤ A b → R (T b) = true ∧ 0 ≤ T b ∧ T b < m)
    (hb : b < n) (hl : lo ≤ b) (h1 : R (A b) = false) (h2 : R (T b) = true) (h3 : 0 ≤ T b) (h4 : T b < m) : False := by
  have e := hasR_eq n lo A T R m he
  have : hasR n lo A R m < hasR n lo T R m := by
    apply cnt_lt (b := b) _ hb
    · rw [decide_eq_false_iff_not]; intro hh; rw [h1] at hh; simp at hh
    · rw [decide_eq_true_eq]; exact ⟨hl, h2, h3, h4⟩
    · intro b hb hp
      rw [decide_eq_true_eq] at hp ⊢
      exact ⟨hp.1, h b hb hp.1 hp.2.1 hp.2.2.1⟩
  omega
end Go.Proofs.Ytbogdbbmmlaohaa.Pure
