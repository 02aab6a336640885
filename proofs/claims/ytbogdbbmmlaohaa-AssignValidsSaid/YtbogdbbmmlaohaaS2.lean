/- Plain laws about assignments: what a search for one board more leaves. -/
import Derived.Test.YtbogdbbmmlaohaaS
import Derived.Test.YtbogdbbmmlaohaaM
namespace Go.Proofs.Ytbogdbbmmlaohaa.Pure
open Go.Saw
set_option linter.unusedVariables false
/-- A table of m orders and n boards. -/
structure Tbl (f : List (List E4)) (m n : Nat) : Prop where
  rows : f.length = m
  cols : ∀ r ∈ f, r.length = n
  none : m = 0 → n = 0
  few : m ≤ 32 ∧ n ≤ 100
def fitB (f : List (List E4)) (o b : Int) : Bool := ((f[o.toNat]?.getD [])[b.toNat]?).getD false
theorem Tbl.row {f : List (List E4)} {m n : Nat} (t : Tbl f m n) {o : Int} (h0 : 0 ≤ o) (h1 : o < m) : ∃ r, idx f o = some r ∧ r.length = n ∧ ∀ b : Int, 0 ≤ b → b < n → idx r b = some (fitB f o b) := by
  have hlt : o.toNat < f.length := by rw [t.rows]; omega
  refine ⟨f[o.toNat], ?_, t.cols _ (List.getElem_mem hlt), fun b hb0 hb1 => ?_⟩
  · unfold idx; rw [if_neg (by omega), List.getElem?_eq_getElem hlt]
  · have hl := t.cols _ (List.getElem_mem hlt)
    have hb : b.toNat < (f[o.toNat]).length := by rw [hl]; omega
    unfold idx fitB
    rw [if_neg (by omega), List.getElem?_eq_getElem hlt, Option.getD_some, List.getElem?_eq_getElem hb, Option.getD_some]
theorem Tbl.col {f : List (List E4)} {m n : Nat} (t : Tbl f m n) : assign_columns.f f = some (n : Int) := by
  unfold assign_columns.f
  by_cases h : f.length = 0
  · rw [if_pos (by omega), t.none (by rw [← t.rows]; exact h)]; rfl
  · rw [if_neg (by omega)]
    have hlt : 0 < f.length := by omega
    have := idx_at (List.getElem?_eq_getElem hlt)
    rw [show ((0 : Nat) : Int) = 0 from rfl] at this
    rw [this, Option.bind_some, t.cols _ (List.getElem_mem hlt)]
/-- The order of a board, or -1. -/
def hold (T : Int → Option Int) (b : Int) : Int := (T b).getD (-1)
theorem hold_a (f : List (List E4)) (T : Int → Option Int) (b : Int) : assign_market_holder.f f T b = some (hold T b) := by
  unfold assign_market_holder.f hold
  cases T b <;> rfl
def saw (S : Int → Option Bool) (b : Int) : Bool := (S b).getD false
theorem saw_upd (S : Int → Option Bool) (b x : Int) : saw (upd S b true) x = true ↔ x = b ∨ saw S x = true := by
  unfold saw upd; by_cases e : x = b <;> simp [e]
theorem hold_upd (T : Int → Option Int) (b o x : Int) : hold (upd T b o) x = if x = b then o else hold T x := by
  unfold hold upd; by_cases e : x = b <;> simp [e]
theorem hold_del (T : Int → Option Int) (b x : Int) : hold (del T b) x = if x = b then -1 else hold T x := by
  unfold hold del; by_cases e : x = b <;> simp [e]
/-- Every board goes to an order that it fits, or to none. -/
def Good (f : List (List E4)) (m n : Nat) (T : Int → Option Int) : Prop := ∀ b : Nat, b < n → hold T b ≠ -1 → 0 ≤ hold T b ∧ hold T b < m ∧ fitB f (hold T b) b = true
/-- How many boards from lo on an order has. -/
abbrev num (n lo : Nat) (T : Int → Option Int) (x : Int) : Nat := has n lo (fun b => hold T b) x
theorem Good.set {f : List (List E4)} {m n : Nat} {T : Int → Option Int} {b o : Int} (h : Good f m n T) (h0 : 0 ≤ o) (h1 : o < m) (hf : fitB f o b = true) : Good f m n (upd T b o) := by
  intro b' hb'
  rw [hold_upd]
  by_cases e : (b' : Int) = b
  · rw [if_pos e]
    intro _
    exact ⟨h0, h1, by rw [e]; exact hf⟩
  · rw [if_neg e]
    exact h b' hb'
theorem Good.del {f : List (List E4)} {m n : Nat} {T : Int → Option Int} {b : Int} (h : Good f m n T) : Good f m n (del T b) := by
  intro b' hb'
  rw [hold_del]
  by_cases e : (b' : Int) = b
  · rw [if_pos e]; intro h; exact absurd rfl h
  · rw [if_neg e]; exact h b' hb'
/-- One board goes to another order, or to none. -/
theorem num_set {n lo : Nat} {T T' : Int → Option Int} {b : Nat} {o : Int} (hb : b < n) (hl : lo ≤ b) (h1 : hold T' b = o) (h2 : ∀ y : Nat, y < n → y ≠ b → hold T' y = hold T y) (x : Int) :
    num n lo T' x + (if hold T b = x then 1 else 0) = num n lo T x + (if o = x then 1 else 0) := by
  have := cnt_set (n := n) (p := fun y => decide (lo ≤ y ∧ hold T y = x)) (q := fun y => decide (lo ≤ y ∧ hold T' y = x)) (b := b) hb (fun y hy hne => by
    show decide _ = decide _
    rw [h2 y hy hne])
  simp only [decide_eq_true_eq, h1, hl, true_and] at this
  exact this
/-- A board before lo does not count. -/
theorem num_same {n lo : Nat} {T T' : Int → Option Int} (h : ∀ y : Nat, y < n → lo ≤ y → hold T' y = hold T y) (x : Int) : num n lo T' x = num n lo T x := by
  apply cnt_congr
  intro y hy
  rw [decide_eq_decide]
  constructor
  · rintro ⟨h1, h2⟩; exact ⟨h1, (h y hy h1).symm.trans h2⟩
  · rintro ⟨h1, h2⟩; exact ⟨h1, (h y hy h1).trans h2⟩
/-- A search that has failed at the boards before k: nothing has moved. -/
structure FailsTo (k n fro : Nat) (f : List (List E4)) (last o : Int) (T : Int → Option Int) (S S' : Int → Option Bool) : Prop where
  see : ∀ b : Int, saw S b = true → saw S' b = true
  inn : ∀ b : Int, saw S b = false → saw S' b = true → ∃ y : Nat, b = y ∧ fro ≤ y ∧ y < n
  own : ∀ b : Nat, fro ≤ b → b < k → fitB f o b = true → saw S' b = true
  all : ∀ b : Nat, fro ≤ b → b < n → saw S b = false → saw S' b = true → hold T b ≠ -1 ∧ hold T b ≠ last ∧ (hold T b = o ∨ ∀ y : Nat, fro ≤ y → y < n → fitB f (hold T b) y = true → saw S' y = true)
/-- A search that succeeds: the order has one board more; only 'last' may have one less. -/
structure Wins (m n fro : Nat) (f : List (List E4)) (last o : Int) (T : Int → Option Int) (S : Int → Option Bool) (T' : Int → Option Int) : Prop where
  stay : ∀ b : Nat, b < n → hold T' b ≠ hold T b → fro ≤ b ∧ saw S b = false
  good : Good f m n T'
  num : ∃ t : Bool, ∀ lo : Nat, lo ≤ fro → ∀ x : Int, 0 ≤ x → num n lo T' x + (if t = true ∧ x = last then 1 else 0) = num n lo T x + (if o = x then 1 else 0)
def unseen (n fro : Nat) (S : Int → Option Bool) : Nat := cnt n fun b => decide (fro ≤ b ∧ saw S b = false)
def After (m n fro : Nat) (f : List (List E4)) (last o : Int) (T : Int → Option Int) (S : Int → Option Bool) (r : Bool) (S' : Int → Option Bool) (T' : Int → Option Int) : Prop :=
  if r = true then Wins m n fro f last o T S T' else T' = T ∧ FailsTo n n fro f last o T S S'
abbrev Rec := List (List E4) → (Int → Option Int) → Int → Int → Int → (Int → Option Bool) → Option (Bool × (Int → Option Bool) × (Int → Option Int))
theorem find_loop {f : List (List E4)} {m n fro : Nat} (t : Tbl f m n) {last : Int} (hlast : last ≠ -1) (k : Nat) (rec_ : Rec) (T : Int → Option Int) (hg : Good f m n T) (S : Int → Option Bool)
    (hrec : ∀ (o : Int) S2, 0 ≤ o → o < m → o ≠ last → unseen n fro S2 < unseen n fro S → ∃ r S' T', rec_ f T o fro last S2 = some (r, S', T') ∧ After m n fro f last o T S2 r S' T')
    (o : Int) (h0 : 0 ≤ o) (h1 : o < m) (hol : o ≠ last) : ∀ (d i j : Nat) (S1 : Int → Option Bool), fro ≤ i → i + d = n → d < j → FailsTo i n fro f last o T S S1 →
      ∃ r S' T', assign_market_find.l0 k f o fro last rec_ j i S1 T = some (r, S', T') ∧ After m n fro f last o T S r S' T'
  | 0, i, j, S1, hi, hd, hj, hf => by
    obtain ⟨j, rfl⟩ : ∃ k, j = k + 1 := ⟨j - 1, by omega⟩
    simp only [assign_market_find.l0]
    rw [t.col, Option.bind_some, if_neg (by omega)]
    obtain rfl : i = n := by omega
    exact ⟨false, S1, T, rfl, rfl, hf⟩
  | d + 1, i, j, S1, hi, hd, hj, hf => by
    obtain ⟨j, rfl⟩ : ∃ k, j = k + 1 := ⟨j - 1, by omega⟩
    have hin : i < n := by omega
    have hfew := t.few
    obtain ⟨rr, hr1, _, hr2⟩ := t.row h0 h1
    simp only [assign_market_find.l0]
    rw [t.col, Option.bind_some, if_pos (by omega), hr1, Option.bind_some, hr2 i (by omega) (by omega), Option.bind_some, w_in (by omega) (by omega), show (i : Int) + 1 = ((i + 1 : Nat) : Int) by omega]
    have next := fun S2 h => find_loop t hlast k rec_ T hg S hrec o h0 h1 hol d (i + 1) j S2 (by omega) (by omega) (by omega) h
    by_cases hfit : fitB f o i = true
    · rw [if_pos hfit]
      by_cases hs : saw S1 i = true
      · rw [if_pos (show (S1 (i : Int)).getD false = true from hs)]
        refine next S1 ⟨hf.see, hf.inn, fun b h2 h3 h4 => ?_, hf.all⟩
        by_cases e : b = i
        · rw [e]; exact hs
        · exact hf.own b h2 (by omega) h4
      · rw [if_neg (show ¬ (S1 (i : Int)).getD false = true from hs), hold_a, Option.bind_some]
        have hsk : saw S i = false := by
          cases hh : saw S i with
          | false => rfl
          | true => exact absurd (hf.see i hh) hs
        have up := saw_upd S1 i
        -- what is seen now
        have see2 : ∀ b : Int, saw S b = true → saw (upd S1 i true) b = true := fun b hb => (up b).2 (.inr (hf.see b hb))
        have inn2 : ∀ b : Int, saw S b = false → saw (upd S1 i true) b = true → ∃ y : Nat, b = y ∧ fro ≤ y ∧ y < n := fun b h2 h3 => by
          rcases (up b).1 h3 with rfl | h3
          · exact ⟨i, rfl, hi, hin⟩
          · exact hf.inn b h2 h3
        have own2 : ∀ b : Nat, fro ≤ b → b < i + 1 → fitB f o b = true → saw (upd S1 i true) b = true := fun b h2 h3 h4 => by
          rw [up]
          by_cases e : b = i
          · exact .inl (by omega)
          · exact .inr (hf.own b h2 (by omega) h4)
        by_cases ho : hold T i = o
        · rw [if_pos ho]
          refine next _ ⟨see2, inn2, own2, fun b h2 h3 h4 h5 => ?_⟩
          rcases (up b).1 h5 with e | h5
          · rw [e, ho]; exact ⟨by omega, hol, .inl rfl⟩
          · obtain ⟨a1, a2, a3⟩ := hf.all b h2 h3 h4 h5
            exact ⟨a1, a2, a3.imp id fun a3 y g1 g2 g3 => (up y).2 (.inr (a3 y g1 g2 g3))⟩
        · rw [if_neg ho]
          by_cases hn : hold T i = -1
          · rw [if_pos hn]
            refine ⟨true, _, _, rfl, ?_⟩
            show Wins _ _ _ _ _ _ _ _ _
            refine ⟨fun b hb hne => ?_, hg.set h0 h1 hfit, false, fun lo hlo x hx => ?_⟩
            · rw [hold_upd] at hne
              by_cases e : (b : Int) = i
              · obtain rfl : b = i := by omega
                exact ⟨hi, hsk⟩
              · rw [if_neg e] at hne; exact absurd rfl hne
            · have := num_set (T := T) (T' := upd T i o) (o := o) hin (Nat.le_trans hlo hi) (by rw [hold_upd, if_pos rfl]) (fun y _ hy => by rw [hold_upd, if_neg (by omega)]) x
              rw [hn, if_neg (show ¬ (-1 : Int) = x by omega)] at this
              simpa using this
          · rw [if_neg hn]
            by_cases hl : hold T i = last
            · rw [if_pos hl]
              refine ⟨true, _, _, rfl, ?_⟩
              show Wins _ _ _ _ _ _ _ _ _
              refine ⟨fun b hb hne => ?_, hg.set h0 h1 hfit, true, fun lo hlo x hx => ?_⟩
              · rw [hold_upd] at hne
                by_cases e : (b : Int) = i
                · obtain rfl : b = i := by omega
                  exact ⟨hi, hsk⟩
                · rw [if_neg e] at hne; exact absurd rfl hne
              · have := num_set (T := T) (T' := upd T i o) (o := o) hin (Nat.le_trans hlo hi) (by rw [hold_upd, if_pos rfl]) (fun y _ hy => by rw [hold_upd, if_neg (by omega)]) x
                rw [hl] at this
                simpa [eq_comm] using this
            · rw [if_neg hl]
              obtain ⟨g1, g2, g3⟩ := hg i hin hn
              have hlt : unseen n fro (upd S1 i true) < unseen n fro S := by
                apply cnt_lt (b := i) _ hin
                · rw [decide_eq_false_iff_not]
                  rintro ⟨_, h⟩
                  rw [(up i).2 (.inl rfl)] at h; cases h
                · rw [decide_eq_true_eq]; exact ⟨hi, hsk⟩
                · intro b hb h
                  rw [decide_eq_true_eq] at h ⊢
                  refine ⟨h.1, ?_⟩
                  cases hh : saw S b with
                  | false => rfl
                  | true => rw [see2 b hh] at h; cases h.2
              obtain ⟨r, S', T', e1, e2⟩ := hrec (hold T i) (upd S1 i true) g1 g2 hl hlt
              rw [e1, Option.bind_some]
              cases r with
              | true =>
                have wn : Wins m n fro f last (hold T i) T (upd S1 i true) T' := e2
                obtain ⟨w1, w2, tt, w3⟩ := wn
                refine ⟨true, S', upd T' i o, rfl, ?_⟩
                show Wins _ _ _ _ _ _ _ _ _
                have hTi : hold T' i = hold T i := by
                  apply Classical.byContradiction
                  intro hne
                  have := (w1 i hin hne).2
                  rw [(up i).2 (.inl rfl)] at this; cases this
                refine ⟨fun b hb hne => ?_, w2.set h0 h1 hfit, tt, fun lo hlo x hx => ?_⟩
                · rw [hold_upd] at hne
                  by_cases e : (b : Int) = i
                  · obtain rfl : b = i := by omega
                    exact ⟨hi, hsk⟩
                  · rw [if_neg e] at hne
                    obtain ⟨a1, a2⟩ := w1 b hb hne
                    refine ⟨a1, ?_⟩
                    cases hh : saw S b with
                    | false => rfl
                    | true => rw [see2 b hh] at a2; cases a2
                · have h3 := w3 lo hlo x hx
                  have := num_set (T := T') (T' := upd T' i o) (o := o) hin (Nat.le_trans hlo hi) (by rw [hold_upd, if_pos rfl]) (fun y _ hy => by rw [hold_upd, if_neg (by omega)]) x
                  rw [hTi] at this
                  omega
              | false =>
                obtain ⟨rfl, e3⟩ : T' = T ∧ FailsTo n n fro f last (hold T i) T (upd S1 i true) S' := e2
                refine next S' ⟨fun b hb => e3.see b (see2 b hb), fun b h2 h3 => ?_, fun b h2 h3 h4 => e3.see b (own2 b h2 h3 h4), fun b h2 h3 h4 h5 => ?_⟩
                · by_cases hh : saw (upd S1 i true) b = true
                  · exact inn2 b h2 hh
                  · exact e3.inn b (by simpa using hh) h3
                · by_cases hh : saw (upd S1 i true) b = true
                  · rcases (up b).1 hh with e | hh
                    · rw [e]; exact ⟨hn, hl, .inr fun y q1 q2 q3 => e3.own y q1 q2 q3⟩
                    · obtain ⟨a1, a2, a3⟩ := hf.all b h2 h3 h4 hh
                      exact ⟨a1, a2, a3.imp id fun a3 y q1 q2 q3 => e3.see y ((up y).2 (.inr (a3 y q1 q2 q3)))⟩
                  · obtain ⟨a1, a2, a3⟩ := e3.all b h2 h3 (by simpa using hh) h5
                    refine ⟨a1, a2, .inr fun y q1 q2 q3 => ?_⟩
                    rcases a3 with a3 | a3
                    · rw [a3] at q3; exact e3.own y q1 q2 q3
                    · exact a3 y q1 q2 q3
    · rw [if_neg hfit]
      refine next S1 ⟨hf.see, hf.inn, fun b h2 h3 h4 => ?_, hf.all⟩
      by_cases e : b = i
      · rw [e] at h4; exact absurd h4 hfit
      · exact hf.own b h2 (by omega) h4
theorem find_spec {f : List (List E4)} {m n fro : Nat} (t : Tbl f m n) (hfro : fro ≤ n) {last : Int} (hlast : last ≠ -1) (T : Int → Option Int) (hg : Good f m n T) : ∀ (K : Nat) (o : Int) (S : Int → Option Bool), 0 ≤ o → o < m → o ≠ last → unseen n fro S + n + 3 ≤ K →
    ∃ r S' T', assign_market_find.f K f T o fro last S = some (r, S', T') ∧ After m n fro f last o T S r S' T'
  | 0, o, S, _, _, _, h => by omega
  | K + 1, o, S, h0, h1, hol, h => by
    have := find_loop t hlast K (assign_market_find.f K) T hg S (fun o2 S2 a b c d => find_spec t hfro hlast T hg K o2 S2 a b c (by omega)) o h0 h1 hol (n - fro) fro K S (Nat.le_refl _) (by omega) (by omega)
      ⟨fun _ h => h, fun b h2 h3 => (by rw [h2] at h3; cases h3), fun b h2 h3 _ => (by omega), fun b _ _ h4 h5 => (by rw [h4] at h5; cases h5)⟩
    exact this
end Go.Proofs.Ytbogdbbmmlaohaa.Pure
