/- Plain laws about assignments: 'fill' serves the orders as well as can be, one after the other. -/
import Derived.Test.YtbogdbbmmlaohaaS2
namespace Go.Proofs.Ytbogdbbmmlaohaa.Pure
open Go.Saw
set_option linter.unusedVariables false
theorem cnt_top : ∀ (n : Nat) (p : Nat → Bool), cnt n p ≤ n
  | 0, _ => Nat.le_refl _
  | n + 1, p => by
    have := cnt_top n p
    rw [cnt_succ]; split <;> omega
/-- The numbers of all orders. -/
def cnts (m n : Nat) (T : Int → Option Int) : List E3 := (List.range m).map fun (x : Nat) => ((num n 0 T (x : Int) : Nat) : Int)
theorem cnts_len (m n : Nat) (T : Int → Option Int) : (cnts m n T).length = m := by simp [cnts]
theorem cnts_at {m n : Nat} {T : Int → Option Int} {x : Nat} (h : x < m) : (cnts m n T)[x]? = some ((num n 0 T (x : Int) : Nat) : Int) := by
  unfold cnts
  rw [List.getElem?_map, List.getElem?_range h]; rfl
theorem cnts_idx {m n : Nat} {T : Int → Option Int} {x : Nat} (h : x < m) : idx (cnts m n T) (x : Int) = some ((num n 0 T (x : Int) : Nat) : Int) := idx_at (cnts_at h)
theorem cnts_ext {m n : Nat} {T : Int → Option Int} {l : List E3} (hl : l.length = m) (h : ∀ x, x < m → l[x]? = some ((num n 0 T (x : Int) : Nat) : Int)) : l = cnts m n T := by
  apply List.ext_getElem?
  intro x
  by_cases hx : x < m
  · rw [h x hx, cnts_at hx]
  · rw [List.getElem?_eq_none (by omega), List.getElem?_eq_none (by rw [cnts_len]; omega)]
theorem cnts_set {m n : Nat} {T T' : Int → Option Int} {o : Nat} (ho : o < m) {v : Int} (hv : v = ((num n 0 T' (o : Int) : Nat) : Int)) (h : ∀ x : Nat, x < m → x ≠ o → num n 0 T' (x : Int) = num n 0 T (x : Int)) : (cnts m n T).set o v = cnts m n T' := by
  refine cnts_ext (by rw [List.length_set, cnts_len]) fun x hx => ?_
  by_cases e : x = o
  · subst e
    rw [List.getElem?_set_self (by rw [cnts_len]; exact hx), hv]
  · rw [List.getElem?_set_ne (fun h => e h.symm), cnts_at hx, h x hx e]
theorem cnts_eq {m n : Nat} {T T' : Int → Option Int} (h : ∀ x : Nat, x < m → num n 0 T' (x : Int) = num n 0 T (x : Int)) : cnts m n T' = cnts m n T :=
  cnts_ext (cnts_len _ _ _) fun x hx => by rw [cnts_at hx, h x hx]
/-- An assignment, as a function of the boards. -/
def GoodA (f : List (List E4)) (m n : Nat) (A : Nat → Int) : Prop := ∀ b : Nat, b < n → A b ≠ -1 → 0 ≤ A b ∧ A b < m ∧ fitB f (A b) b = true
theorem Good.a {f : List (List E4)} {m n : Nat} {T : Int → Option Int} (h : Good f m n T) : GoodA f m n fun b => hold T b := h
/-- No assignment that serves the orders before x alike gives more to x. -/
def MaxAt (f : List (List E4)) (m n : Nat) (mo : Nat → Int) (x : Nat) (T : Int → Option Int) : Prop :=
  ∀ A : Nat → Int, GoodA f m n A → (∀ y : Nat, y < m → (has n 0 A y : Int) ≤ mo y) → (∀ y : Nat, y < x → has n 0 A y = num n 0 T y) → has n 0 A x ≤ num n 0 T x
theorem MaxAt.of {f : List (List E4)} {m n : Nat} {mo : Nat → Int} {x : Nat} {T T' : Int → Option Int} (h : MaxAt f m n mo x T) (he : ∀ y : Nat, y ≤ x → num n 0 T' y = num n 0 T y) : MaxAt f m n mo x T' := by
  intro A h1 h2 h3
  rw [he x (Nat.le_refl _)]
  exact h A h1 h2 fun y hy => (h3 y hy).trans (he y (by omega))
/-- The orders whose boards were seen. -/
def ofSet (n : Nat) (T : Int → Option Int) (S : Int → Option Bool) (o : Int) (fro : Nat) : Int → Bool := fun x => decide (x = o) || (List.range n).any fun b => decide (fro ≤ b ∧ saw S b = true ∧ hold T b = x)
theorem ofSet_iff {n : Nat} {T : Int → Option Int} {S : Int → Option Bool} {o x : Int} {fro : Nat} : ofSet n T S o fro x = true ↔ x = o ∨ ∃ b : Nat, b < n ∧ fro ≤ b ∧ saw S b = true ∧ hold T b = x := by
  unfold ofSet
  simp only [Bool.or_eq_true, decide_eq_true_eq, List.any_eq_true, List.mem_range]
/-- The boards of the orders of a failed search. -/
theorem closed {n fro : Nat} {f : List (List E4)} {last o : Int} {T : Int → Option Int} {S S' : Int → Option Bool} (hS : ∀ b, saw S b = false) (h : FailsTo n n fro f last o T S S') {A : Nat → Int} {b : Nat} (hb : b < n) (hl : fro ≤ b)
    (ha : ofSet n T S' o fro (A b) = true) (hf : fitB f (A b) b = true) : saw S' b = true ∧ hold T b ≠ -1 ∧ hold T b ≠ last ∧ ofSet n T S' o fro (hold T b) = true := by
  have hs : saw S' b = true := by
    rcases ofSet_iff.1 ha with e | ⟨y, y1, y2, y3, y4⟩
    · rw [e] at hf; exact h.own b hl hb hf
    · obtain ⟨_, _, a3⟩ := h.all y y2 y1 (hS _) y3
      rcases a3 with a3 | a3
      · rw [← y4, a3] at hf; exact h.own b hl hb hf
      · rw [← y4] at hf; exact a3 b hl hb hf
  obtain ⟨a1, a2, _⟩ := h.all b hl hb (hS _) hs
  exact ⟨hs, a1, a2, ofSet_iff.2 (.inr ⟨b, hb, hl, hs, rfl⟩)⟩
theorem none_saw (b : Int) : saw (fun _ => (none : Option Bool)) b = false := rfl
theorem unseen_le (n fro : Nat) (S : Int → Option Bool) : unseen n fro S ≤ n := cnt_top _ _
theorem fill_in {f : List (List E4)} {m n : Nat} (t : Tbl f m n) (K : Nat) (hK : 2 * n + 3 ≤ K) (most : List E3) (mo : Nat → Int) (hmo : ∀ x : Nat, x < m → idx most (x : Int) = some (mo x) ∧ mo x ≤ 1000000) (kont : List E3 → (Int → Option Int) → Option (List E3 × (Int → Option Int))) (o : Nat) (ho : o < m) :
    ∀ (d j : Nat) (T : Int → Option Int), n + 1 ≤ num n 0 T (o : Int) + d → d < j → Good f m n T → (∀ b : Nat, b < n → hold T b ≤ o) → (num n 0 T (o : Int) : Int) ≤ mo o →
      ∃ T', assign_fill.l1 K f most o kont j (cnts m n T) T = kont (cnts m n T') T' ∧ Good f m n T' ∧ (∀ b : Nat, b < n → hold T' b ≤ o) ∧ (∀ x : Nat, x ≠ o → num n 0 T' (x : Int) = num n 0 T (x : Int)) ∧ (num n 0 T' (o : Int) : Int) ≤ mo o ∧ MaxAt f m n mo o T'
  | 0, j, T, hd, _, _, _, _ => by
    have : num n 0 T (o : Int) ≤ n := cnt_top _ _
    omega
  | d + 1, j, T, hd, hj, hg, hle, hmx => by
    obtain ⟨j, rfl⟩ : ∃ k, j = k + 1 := ⟨j - 1, by omega⟩
    have hfew := t.few
    have htop : num n 0 T (o : Int) ≤ n := cnt_top _ _
    simp only [assign_fill.l1]
    rw [cnts_idx ho, Option.bind_some, (hmo o ho).1, Option.bind_some]
    by_cases hlt : (num n 0 T (o : Int) : Int) < mo o
    · rw [if_pos hlt]
      have hu := unseen_le n 0 (fun _ => (none : Option Bool))
      obtain ⟨r, S', T', e1, e2⟩ := find_spec t (fro := 0) (Nat.zero_le _) (last := -2) (by omega) T hg K o (fun _ => none) (by omega) (by omega) (by omega) (by omega)
      rw [show ((0 : Nat) : Int) = 0 from rfl] at e1
      rw [e1, Option.bind_some]
      cases r with
      | true =>
        rw [if_pos rfl]
        have wn : Wins m n 0 f (-2) o T (fun _ => none) T' := e2
        obtain ⟨w1, w2, tt, w3⟩ := wn
        have w4 : ∀ x : Nat, num n 0 T' (x : Int) = num n 0 T (x : Int) + (if (o : Int) = x then 1 else 0) := by
          intro x
          have := w3 0 (Nat.le_refl _) x (by omega)
          rw [if_neg (show ¬ (tt = true ∧ (x : Int) = -2) from fun h => by omega)] at this
          exact this
        have w5 : num n 0 T' (o : Int) = num n 0 T (o : Int) + 1 := by rw [w4 o, if_pos rfl]
        have w6 : ∀ x : Nat, x ≠ o → num n 0 T' (x : Int) = num n 0 T (x : Int) := fun x hx => by rw [w4 x, if_neg (show ¬ (o : Int) = x by omega), Nat.add_zero]
        have w7 : ∀ b : Nat, b < n → hold T' b ≤ o := by
          intro b hb
          apply Classical.byContradiction
          intro hgt
          have h1 : hold T' b ≠ -1 := by omega
          obtain ⟨h2, h3, _⟩ := w2 b hb h1
          have h4 : 0 < num n 0 T' (hold T' b) := by
            have : cnt n (fun _ => false) < num n 0 T' (hold T' b) := cnt_lt (b := b) (fun _ _ h => by cases h) hb rfl (by rw [decide_eq_true_eq]; exact ⟨Nat.zero_le _, rfl⟩)
            omega
          obtain ⟨x, hx⟩ : ∃ x : Nat, hold T' b = x := ⟨(hold T' b).toNat, by omega⟩
          rw [hx, w6 x (by omega)] at h4
          obtain ⟨y, hy, hp⟩ := cnt_pos h4
          rw [decide_eq_true_eq] at hp
          have := hle y hy
          have h5 : hold T y = x := hp.2
          omega
        rw [show ((o : Nat) : Int).toNat = o from by omega, w_in (by omega) (by omega), cnts_set (T' := T') ho (by rw [w5]; omega) (fun x hx hne => w6 x hne)]
        obtain ⟨T2, f1, f2, f3, f4, f5, f6⟩ := fill_in t K hK most mo hmo kont o ho d j T' (by rw [w5]; omega) (by omega) w2 w7 (by rw [w5]; omega)
        exact ⟨T2, f1, f2, f3, fun x hx => (f4 x hx).trans (w6 x hx), f5, f6⟩
      | false =>
        rw [if_neg (by simp)]
        obtain ⟨rfl, e3⟩ : T' = T ∧ FailsTo n n 0 f (-2) o T (fun _ => none) S' := e2
        refine ⟨T', rfl, hg, hle, fun _ _ => rfl, hmx, fun A h1 h2 h3 => ?_⟩
        refine no_more (R := ofSet n T' S' o 0) (ofSet_iff.2 (.inl rfl)) h3 fun b hb ha h0 => ?_
        obtain ⟨a1, a2, a3⟩ := h1 b hb (by omega)
        obtain ⟨c1, c2, c3, c4⟩ := closed none_saw e3 hb (Nat.zero_le _) ha a3
        exact ⟨c4, (hg b hb c2).1, hle b hb⟩
    · rw [if_neg hlt]
      refine ⟨T, rfl, hg, hle, fun _ _ => rfl, hmx, fun A h1 h2 h3 => ?_⟩
      have := h2 o ho
      omega
theorem fill_out {f : List (List E4)} {m n : Nat} (t : Tbl f m n) (K : Nat) (hK : 2 * n + 3 ≤ K) (most : List E3) (mo : Nat → Int) (hmo : ∀ x : Nat, x < m → idx most (x : Int) = some (mo x) ∧ mo x ≤ 1000000) (h0 : ∀ x : Nat, x < m → 0 ≤ mo x) :
    ∀ (d o j : Nat) (T : Int → Option Int), o + d = m → d < j → Good f m n T → (∀ b : Nat, b < n → hold T b < o) → (∀ x : Nat, x < o → (num n 0 T (x : Int) : Int) ≤ mo x ∧ MaxAt f m n mo x T) →
      ∃ T', assign_fill.l0 K f most j o (cnts m n T) T = some (cnts m n T', T') ∧ Good f m n T' ∧ (∀ x : Nat, x < m → (num n 0 T' (x : Int) : Int) ≤ mo x ∧ MaxAt f m n mo x T')
  | 0, o, j, T, hd, hj, hg, hle, hx => by
    obtain ⟨j, rfl⟩ : ∃ k, j = k + 1 := ⟨j - 1, by omega⟩
    have := t.rows
    simp only [assign_fill.l0]
    rw [if_neg (by omega)]
    exact ⟨T, rfl, hg, fun x h => hx x (by omega)⟩
  | d + 1, o, j, T, hd, hj, hg, hle, hx => by
    obtain ⟨j, rfl⟩ : ∃ k, j = k + 1 := ⟨j - 1, by omega⟩
    have hr := t.rows
    have hfew := t.few
    simp only [assign_fill.l0]
    rw [if_pos (by omega)]
    have hz : num n 0 T (o : Int) = 0 := cnt_none fun b hb => by
      rw [decide_eq_false_iff_not]
      rintro ⟨_, h⟩
      have := hle b hb
      have h' : hold T b = o := h
      omega
    obtain ⟨T', e1, e2, e3, e4, e5, e6⟩ := fill_in t K hK most mo hmo (fun c T => assign_fill.l0 K f most j (IntKind.i64.wrap ((o : Int) + 1)) c T) o (by omega) (n + 1) K T (by omega) (by omega) hg (fun b hb => by have := hle b hb; omega) (by rw [hz]; exact h0 o (by omega))
    rw [e1, w_in (by omega) (by omega), show (o : Int) + 1 = ((o + 1 : Nat) : Int) by omega]
    refine fill_out t K hK most mo hmo h0 d (o + 1) j T' (by omega) (by omega) e2 (fun b hb => by have := e3 b hb; omega) fun x hxo => ?_
    by_cases e : x = o
    · subst e; exact ⟨e5, e6⟩
    · obtain ⟨h1, h2⟩ := hx x (by omega)
      exact ⟨by rw [e4 x e]; exact h1, h2.of fun y hy => e4 y (by omega)⟩
/-- What fill comes to. -/
theorem fill_spec {f : List (List E4)} {m n : Nat} (t : Tbl f m n) (K : Nat) (hK : 2 * n + 3 ≤ K) (hKm : m < K) (most : List E3) (mo : Nat → Int) (hmo : ∀ x : Nat, x < m → idx most (x : Int) = some (mo x) ∧ mo x ≤ 1000000) (h0 : ∀ x : Nat, x < m → 0 ≤ mo x) :
    ∃ T, assign_fill.f K f most = some (cnts m n T, T) ∧ Good f m n T ∧ (∀ x : Nat, x < m → (num n 0 T (x : Int) : Int) ≤ mo x ∧ MaxAt f m n mo x T) := by
  have hr := t.rows
  have hfew := t.few
  unfold assign_fill.f
  have hz : ∀ x, num n 0 (fun _ => none) x = 0 ∨ x = -1 := by
    intro x
    by_cases hx : x = -1
    · exact .inr hx
    · left
      refine cnt_none fun b hb => ?_
      rw [decide_eq_false_iff_not]
      rintro ⟨_, h⟩
      exact hx h.symm
  have hm : mk ((f.length : Int)) (0 : Int) = some (cnts m n (fun _ => none)) := by
    unfold mk
    rw [if_pos (by omega)]
    congr 1
    refine cnts_ext (by simp; omega) fun x hx => ?_
    rw [List.getElem?_replicate, if_pos (by omega)]
    rcases hz (x : Int) with h | h
    · rw [h]; rfl
    · omega
  rw [hm, Option.bind_some]
  exact fill_out t K hK most mo hmo h0 m 0 K (fun _ => none) (by omega) (by omega) (fun b _ h => absurd rfl h) (fun b _ => by show (-1 : Int) < _; omega) fun x hx => by omega
end Go.Proofs.Ytbogdbbmmlaohaa.Pure
