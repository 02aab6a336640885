/- Plain laws about assignments: 'Best'. -/
import Derived.Test.YtbogdbbmmlaohaaS6
namespace Go.Proofs.Ytbogdbbmmlaohaa.Pure
open Go.Saw
set_option linter.unusedVariables false
theorem checked_loop (least most : List E3) (hl : least.length = most.length) (hm : most.length ≤ 100) : ∀ (d i j : Nat), i + d = most.length → d < j →
    ∃ e, assign_checked.l0 110 least most j i = some e ∧ (e = 0 ↔ ∀ x : Nat, i ≤ x → x < most.length → (0 ≤ mo most x ∧ mo most x ≤ 200) ∧ 0 ≤ mo least x ∧ mo least x ≤ mo most x)
  | 0, i, j, hd, hj => by
    obtain ⟨j, rfl⟩ : ∃ k, j = k + 1 := ⟨j - 1, by omega⟩
    simp only [assign_checked.l0]
    rw [if_neg (by omega)]
    exact ⟨0, rfl, fun _ x h1 h2 => by omega, fun _ => rfl⟩
  | d + 1, i, j, hd, hj => by
    obtain ⟨j, rfl⟩ : ∃ k, j = k + 1 := ⟨j - 1, by omega⟩
    have hi : i < most.length := by omega
    simp only [assign_checked.l0]
    rw [if_pos (by omega), mo_idx hi, Option.bind_some, wanted_a, Option.bind_some, mo_idx (by omega), Option.bind_some, w_in (by omega) (by omega), show (i : Int) + 1 = ((i + 1 : Nat) : Int) by omega]
    by_cases h1 : 0 ≤ mo most i ∧ mo most i ≤ 200
    · rw [if_pos (by simpa using h1)]
      by_cases h2 : mo least i < 0
      · rw [if_pos h2]; exact ⟨9, rfl, by omega, fun h => by have := (h i (Nat.le_refl _) hi).2.1; omega⟩
      · rw [if_neg h2]
        by_cases h3 : mo most i < mo least i
        · rw [if_pos h3]; exact ⟨9, rfl, by omega, fun h => by have := (h i (Nat.le_refl _) hi).2.2; omega⟩
        · rw [if_neg h3]
          obtain ⟨e, e1, e2⟩ := checked_loop least most hl hm d (i + 1) j (by omega) (by omega)
          refine ⟨e, e1, e2.trans ⟨fun h x a b => ?_, fun h x a b => h x (by omega) b⟩⟩
          by_cases ex : x = i
          · subst ex; exact ⟨h1, by omega, by omega⟩
          · exact h x (by omega) b
    · rw [if_neg (by simpa using h1)]
      exact ⟨9, rfl, by omega, fun h => absurd (h i (Nat.le_refl _) hi).1 h1⟩
/-- Least numbers that go with the greatest. -/
structure Lst (f : List (List E4)) (least most : List E3) : Prop where
  err : cerr f most = 0
  len : least.length = f.length
  le : ∀ x : Nat, x < f.length → 0 ≤ mo least x ∧ mo least x ≤ mo most x
theorem checked_a (f : List (List E4)) (least most : List E3) (hm : most.length ≤ 100) : ∃ e, assign_checked.f 110 f least most = some e ∧ (e = 0 ↔ Lst f least most) := by
  unfold assign_checked.f
  rw [shaped_a, Option.bind_some]
  by_cases h1 : shp f = 0
  · rw [if_pos h1]
    by_cases h2 : least.length = f.length
    · rw [if_pos (by omega)]
      by_cases h3 : most.length = f.length
      · rw [if_pos (by omega)]
        obtain ⟨e, e1, e2⟩ := checked_loop least most (by omega) hm most.length 0 110 (by omega) (by omega)
        refine ⟨e, e1, e2.trans ⟨fun h => ⟨?_, h2, fun x hx => (h x (Nat.zero_le _) (by omega)).2⟩, fun h x _ hx => ⟨(cerr_ok h.err).2.2 x (by omega), h.le x (by omega)⟩⟩⟩
        refine ok_cerr h1 h3 fun v hv => ?_
        obtain ⟨i, hi, rfl⟩ := List.getElem_of_mem hv
        have := (h i (Nat.zero_le _) hi).1
        unfold mo at this
        rw [List.getElem?_eq_getElem hi, Option.getD_some] at this
        exact this
      · rw [if_neg (by omega)]
        exact ⟨19, rfl, by omega, fun h => absurd (cerr_ok h.err).2.1 h3⟩
    · rw [if_neg (by omega)]
      exact ⟨19, rfl, by omega, fun h => absurd h.len h2⟩
  · rw [if_neg h1]
    exact ⟨shp f, rfl, fun h => absurd h h1, fun h => absurd (cerr_ok h.err).1 h1⟩
def nz (m : Nat) (l : List E3) : Nat := cnt m fun x => decide (0 < mo l x)
def Short (f : List (List E4)) (least : List E3) (T : Int → Option Int) : Prop := ∃ x : Nat, x < f.length ∧ 0 < num (wid f) 0 T (x : Int) ∧ ((num (wid f) 0 T (x : Int) : Nat) : Int) < mo least x
theorem mo_set {l : List E3} {q : Nat} (h : q < l.length) (v : Int) (x : Nat) : mo (l.set q v) x = if x = q then v else mo l x := by
  unfold mo
  by_cases e : x = q
  · subst e; rw [if_pos rfl, List.getElem?_set_self h, Option.getD_some]
  · rw [if_neg e, List.getElem?_set_ne (fun hh => e hh.symm)]
theorem best_0 {f : List (List E4)} (t : Tbl f f.length (wid f)) (hw : wid f ≤ 50) (least most : List E3) (hl : least.length = f.length) : ∀ (d j : Nat) (lim : List E3) (T : Int → Option Int) (o : Nat), nz f.length lim * (f.length + 1) + (f.length - o) ≤ d → d < j → o ≤ f.length → lim.length = f.length → Served f lim T →
    (∀ x : Nat, x < f.length → 0 ≤ mo lim x ∧ mo lim x ≤ 200 ∧ mo lim x ≤ mo most x) → (∀ x : Nat, x < o → 0 < num (wid f) 0 T (x : Int) → mo least x ≤ ((num (wid f) 0 T (x : Int) : Nat) : Int)) →
      ∃ lim' T', assign_Best.l0 110 f least j lim T (cnts f.length (wid f) T) o = assign_Best.l1 110 f (wid f : Int) (fun c _ _ => some (c, 0)) 110 ([] : List E3) 0 T' ∧ Served f lim' T' ∧ (∀ x : Nat, x < f.length → mo lim' x ≤ mo most x) ∧ ¬ Short f least T' ∧ (¬ Short f least T → T' = T)
  | 0, j, lim, T, o, hd, hj, ho, hll, hs, hlm, hsh => by
    obtain ⟨j, rfl⟩ : ∃ k, j = k + 1 := ⟨j - 1, by omega⟩
    have hfew := t.few
    simp only [assign_Best.l0]
    rw [cnts_len, if_neg (by omega), t.col, Option.bind_some]
    exact ⟨lim, T, rfl, hs, fun x hx => (hlm x hx).2.2, fun ⟨x, x1, x2, x3⟩ => by have := hsh x (by omega) x2; omega, fun _ => rfl⟩
  | d + 1, j, lim, T, o, hd, hj, ho, hll, hs, hlm, hsh => by
    obtain ⟨j, rfl⟩ : ∃ k, j = k + 1 := ⟨j - 1, by omega⟩
    have hfew := t.few
    simp only [assign_Best.l0]
    rw [cnts_len]
    by_cases hoe : o < f.length
    · have htop : num (wid f) 0 T (o : Int) ≤ wid f := cnt_top _ _
      rw [if_pos (by omega), cnts_idx hoe, Option.bind_some, mo_idx (most := least) (by omega), Option.bind_some, w_in (n := (o : Int) + 1) (by omega) (by omega), show (o : Int) + 1 = ((o + 1 : Nat) : Int) by omega]
      have next := fun hh => best_0 t hw least most hl d j lim T (o + 1) (by omega) (by omega) (by omega) hll hs hlm hh
      by_cases h1 : (0 : Int) < ((num (wid f) 0 T (o : Int) : Nat) : Int)
      · rw [if_pos h1]
        by_cases h2 : ((num (wid f) 0 T (o : Int) : Nat) : Int) < mo least o
        · rw [if_pos h2, mo_idx (by omega), Option.bind_some, show ((o : Nat) : Int).toNat = o by omega]
          have hmx := (hs.max o hoe).1
          have hset := mo_set (l := lim) (q := o) (by omega) 0
          have hlm' : ∀ x : Nat, x < f.length → 0 ≤ mo (lim.set o 0) x ∧ mo (lim.set o 0) x ≤ 200 ∧ mo (lim.set o 0) x ≤ mo most x := fun x hx => by
            rw [hset x]
            have := hlm x hx
            split <;> omega
          obtain ⟨T2, hs2⟩ := served f (lim.set o 0) t hw (by rw [List.length_set]; exact hll) fun x hx => ⟨(hlm' x hx).1, (hlm' x hx).2.1⟩
          have hnz : nz f.length (lim.set o 0) + 1 = nz f.length lim := by
            have := cnt_set (n := f.length) (p := fun x => decide (0 < mo lim x)) (q := fun x => decide (0 < mo (lim.set o 0) x)) (b := o) hoe (fun y hy hne => by
              show decide _ = decide _
              rw [hset y, if_neg hne])
            simp only [decide_eq_true_eq, hset o, if_true] at this
            rw [if_pos (show 0 < mo lim o by omega), if_neg (by omega)] at this
            exact this
          rw [hs2.fill, Option.bind_some]
          have hmul : nz f.length lim * (f.length + 1) = nz f.length (lim.set o 0) * (f.length + 1) + (f.length + 1) := by
            rw [← hnz, Nat.add_mul, Nat.one_mul]
          obtain ⟨lim', T', e1, e2, e3, e4, e5⟩ := best_0 t hw least most hl d j (lim.set o 0) T2 0 (by omega) (by omega) (by omega) (by rw [List.length_set]; exact hll) hs2 hlm' (fun x hx => by omega)
          refine ⟨lim', T', e1, e2, e3, e4, fun hn => absurd ⟨o, hoe, by omega, h2⟩ hn⟩
        · rw [if_neg h2]
          exact next fun x hx hp => by
            by_cases e : x = o
            · subst e; omega
            · exact hsh x (by omega) hp
      · rw [if_neg h1]
        exact next fun x hx hp => by
          by_cases e : x = o
          · subst e; omega
          · exact hsh x (by omega) hp
    · rw [if_neg (by omega), t.col, Option.bind_some]
      exact ⟨lim, T, rfl, hs, fun x hx => (hlm x hx).2.2, fun ⟨x, x1, x2, x3⟩ => by have := hsh x (by omega) x2; omega, fun _ => rfl⟩
theorem has_split (lo : Nat) (A : Nat → Int) (y : Int) : ∀ (n : Nat), lo ≤ n → has n 0 A y = has lo 0 A y + has n lo A y
  | 0, h => by
    obtain rfl : lo = 0 := by omega
    rfl
  | n + 1, h => by
    by_cases e : lo = n + 1
    · subst e
      have : has (n + 1) (n + 1) A y = 0 := cnt_none fun b hb => by rw [decide_eq_false_iff_not]; omega
      omega
    · have ih := has_split lo A y n (by omega)
      rw [has_succ, ih]
      have : has (n + 1) lo A y = has n lo A y + if A n = y then 1 else 0 := by
        unfold has
        rw [cnt_succ]
        congr 1
        simp only [decide_eq_true_eq]
        by_cases e2 : A n = y
        · rw [if_pos ⟨by omega, e2⟩, if_pos e2]
        · rw [if_neg (fun hh => e2 hh.2), if_neg e2]
      omega
theorem has_below {lo : Nat} {A B : Nat → Int} (h : ∀ b, b < lo → A b = B b) (y : Int) : has lo 0 A y = has lo 0 B y := by
  apply cnt_congr
  intro b hb
  rw [h b hb]
/-- Nothing better comes at board b. -/
def FirstOn (f : List (List E4)) (m n b : Nat) (T : Int → Option Int) : Prop :=
  ∀ A : Nat → Int, GoodA f m n A → (∀ y : Nat, y < m → has n b A y = num n b T y) → A b ≠ hold T b → 0 ≤ hold T b ∧ (A b < 0 ∨ hold T b < A b)
theorem best_2 {f : List (List E4)} {m n : Nat} (t : Tbl f m n) (hn : n ≤ 50) (b : Nat) (hb : b < n) (kont : Int → (Int → Option Int) → Option (List E3 × Int)) : ∀ (d o j : Nat) (T : Int → Option Int), o + d = m → d < j → Good f m n T →
    (∀ x : Nat, x < o → hold T b ≠ x ∧ ∀ A : Nat → Int, GoodA f m n A → (∀ y : Nat, y < m → has n b A y = num n b T y) → A b ≠ x) →
      ∃ o' T', assign_Best.l2 110 f b kont j o T = kont o' T' ∧ Good f m n T' ∧ (∀ y : Int, 0 ≤ y → num n 0 T' y = num n 0 T y) ∧ (∀ y : Nat, y < b → hold T' y = hold T y) ∧ FirstOn f m n b T'
  | 0, o, j, T, hd, hj, hg, htr => by
    obtain ⟨j, rfl⟩ : ∃ k, j = k + 1 := ⟨j - 1, by omega⟩
    have hr := t.rows
    simp only [assign_Best.l2]
    rw [if_neg (by omega)]
    refine ⟨_, T, rfl, hg, fun _ _ => rfl, fun _ _ => rfl, fun A h1 h2 h3 => ?_⟩
    exfalso
    by_cases hA : A b = -1
    · have hne : hold T b ≠ -1 := fun h => h3 (by rw [hA, h])
      obtain ⟨g1, g2, _⟩ := hg b hb hne
      exact (htr (hold T b).toNat (by omega)).1 (by omega)
    · obtain ⟨a1, a2, _⟩ := h1 b hb hA
      exact (htr (A b).toNat (by omega)).2 A h1 h2 (by omega)
  | d + 1, o, j, T, hd, hj, hg, htr => by
    obtain ⟨j, rfl⟩ : ∃ k, j = k + 1 := ⟨j - 1, by omega⟩
    have hr := t.rows
    have hfew := t.few
    simp only [assign_Best.l2]
    rw [if_pos (by omega), hold_a, Option.bind_some, w_in (by omega) (by omega), show (o : Int) + 1 = ((o + 1 : Nat) : Int) by omega]
    by_cases he : (o : Int) = hold T b
    · rw [if_pos he]
      refine ⟨_, T, rfl, hg, fun _ _ => rfl, fun _ _ => rfl, fun A h1 h2 h3 => ⟨by omega, ?_⟩⟩
      by_cases hA : A b < 0
      · exact .inl hA
      · right
        apply Classical.byContradiction
        intro hlt
        exact (htr (A b).toNat (by omega)).2 A h1 h2 (by omega)
    · rw [if_neg he]
      obtain ⟨r, T', e1, e2, e3⟩ := prefer_spec t 110 (by omega) T hg b hb (o : Int) (by omega) (by omega) (fun h => he h.symm)
      rw [e1, Option.bind_some]
      cases r with
      | true =>
        obtain ⟨p1, p2, p3, p4⟩ := e2 rfl
        rw [if_pos rfl]
        refine ⟨_, T', rfl, p1, p3, p4, fun A h1 h2 h3 => ?_⟩
        rw [p2]
        refine ⟨by omega, ?_⟩
        by_cases hA : A b < 0
        · exact .inl hA
        · right
          apply Classical.byContradiction
          intro hlt
          rw [p2] at h3
          refine (htr (A b).toNat (by omega)).2 A h1 (fun y hy => ?_) (by omega)
          rw [h2 y hy]
          have s1 := has_split b (fun y => hold T' y) y n (by omega)
          have s2 := has_split b (fun y => hold T y) y n (by omega)
          have s3 := has_below (lo := b) (A := fun y => hold T' y) (B := fun y => hold T y) p4 y
          have s4 := p3 y (by omega)
          show has n b _ _ = has n b _ _
          have s4' : has n 0 (fun y => hold T' y) y = has n 0 (fun y => hold T y) y := s4
          omega
      | false =>
        obtain ⟨rfl, p2⟩ := e3 rfl
        rw [if_neg (by simp)]
        refine best_2 t hn b hb kont d (o + 1) j T' (by omega) (by omega) hg fun x hx => ?_
        by_cases e : x = o
        · subst e; exact ⟨fun h => he h.symm, p2⟩
        · exact htr x (by omega)
/-- The boards' orders, as a list. -/
def outL (n : Nat) (T : Int → Option Int) : List E3 := (List.range n).map fun (b : Nat) => hold T b
theorem outL_len (n : Nat) (T : Int → Option Int) : (outL n T).length = n := by simp [outL]
theorem outL_at {n b : Nat} {T : Int → Option Int} (h : b < n) : (outL n T)[b]? = some (hold T b) := by
  unfold outL
  rw [List.getElem?_map, List.getElem?_range h]; rfl
theorem outL_succ {n : Nat} {T T' : Int → Option Int} (h : ∀ y : Nat, y < n → hold T' y = hold T y) : outL n T ++ [hold T' n] = outL (n + 1) T' := by
  unfold outL
  rw [List.range_succ, List.map_append]
  congr 1
  exact List.map_congr_left fun y hy => (h y (List.mem_range.1 hy)).symm
theorem aOf_outL {n b : Nat} {T : Int → Option Int} (h : b < n) : aOf (outL n T) b = hold T b := by
  unfold aOf; rw [outL_at h, Option.getD_some]
theorem FirstOn.of {f : List (List E4)} {m n b : Nat} {T T' : Int → Option Int} (h : FirstOn f m n b T) (hb : b < n) (hs : ∀ y : Nat, y ≤ b → hold T' y = hold T y) (hn : ∀ y : Int, 0 ≤ y → num n 0 T' y = num n 0 T y) : FirstOn f m n b T' := by
  intro A h1 h2 h3
  rw [hs b (Nat.le_refl _)] at h3 ⊢
  refine h A h1 (fun y hy => ?_) h3
  rw [h2 y hy]
  have s1 := has_split b (fun y => hold T' y) y n (by omega)
  have s2 := has_split b (fun y => hold T y) y n (by omega)
  have s3 := has_below (lo := b) (A := fun y => hold T' y) (B := fun y => hold T y) (fun y hy => hs y (by omega)) y
  have s4 : has n 0 (fun y => hold T' y) y = has n 0 (fun y => hold T y) y := hn y (by omega)
  show has n b _ _ = has n b _ _
  omega
theorem best_1 {f : List (List E4)} {m n : Nat} (t : Tbl f m n) (hn : n ≤ 50) : ∀ (d i j : Nat) (T : Int → Option Int), i + d = n → d < j → Good f m n T → (∀ k : Nat, k < i → FirstOn f m n k T) →
    ∃ T', assign_Best.l1 110 f n (fun c _ _ => some (c, 0)) j (outL i T) i T = some (outL n T', 0) ∧ Good f m n T' ∧ (∀ y : Int, 0 ≤ y → num n 0 T' y = num n 0 T y) ∧ ∀ k : Nat, k < n → FirstOn f m n k T'
  | 0, i, j, T, hd, hj, hg, hfi => by
    obtain ⟨j, rfl⟩ : ∃ k, j = k + 1 := ⟨j - 1, by omega⟩
    obtain rfl : i = n := by omega
    simp only [assign_Best.l1]
    rw [if_neg (by omega)]
    exact ⟨T, rfl, hg, fun _ _ => rfl, hfi⟩
  | d + 1, i, j, T, hd, hj, hg, hfi => by
    obtain ⟨j, rfl⟩ : ∃ k, j = k + 1 := ⟨j - 1, by omega⟩
    have hfew := t.few
    simp only [assign_Best.l1]
    rw [if_pos (by omega)]
    obtain ⟨o', T', e1, e2, e3, e4, e5⟩ := best_2 t hn i (by omega) (fun (x69l2 : Int) (ztx10l0l2 : (Int → Option Int)) => (assign_market_holder.f f ztx10l0l2 (i : Int)).bind fun x2433 => ((app 8 (outL i T) ([x2433] : List E3)).bind fun y2442 => (assign_Best.l1 110 f (n : Int) (fun c _ _ => some (c, 0)) j y2442 (IntKind.i64.wrap ((i : Int) + 1)) ztx10l0l2))) m 0 110 T (by omega) (by omega) hg (fun x hx => by omega)
    rw [show ((0 : Nat) : Int) = 0 from rfl] at e1
    rw [e1, hold_a, Option.bind_some, app_small (by rw [outL_len]; simp; omega), Option.bind_some, outL_succ e4, w_in (by omega) (by omega), show (i : Int) + 1 = ((i + 1 : Nat) : Int) by omega]
    obtain ⟨T2, f1, f2, f3, f4⟩ := best_1 t hn d (i + 1) j T' (by omega) (by omega) e2 fun k hk => by
      by_cases e : k = i
      · subst e; exact e5
      · exact (hfi k (by omega)).of (by omega) (fun y hy => e4 y (by omega)) e3
    exact ⟨T2, f1, f2, fun y hy => (f3 y hy).trans (e3 y hy), f4⟩
/-- What Best comes to. -/
theorem best_spec (f : List (List E4)) (least most : List E3) (hm8 : f.length ≤ 8) (hw : wid f ≤ 50) (h : Lst f least most) :
    ∃ T lim T0, assign_Best.f 110 f least most = some (outL (wid f) T, 0) ∧ Good f f.length (wid f) T ∧ (∀ y : Int, 0 ≤ y → num (wid f) 0 T y = num (wid f) 0 T0 y) ∧ (∀ k : Nat, k < wid f → FirstOn f f.length (wid f) k T) ∧ Served f lim T0 ∧ (∀ x : Nat, x < f.length → mo lim x ≤ mo most x) ∧ ¬ Short f least T0 ∧ (∀ T1, assign_fill.f 110 f most = some (cnts f.length (wid f) T1, T1) → ¬ Short f least T1 → T0 = T1) := by
  obtain ⟨c1, c2, c3⟩ := cerr_ok h.err
  have t := Tbl.of c1 hw
  have hfew := t.few
  obtain ⟨e, e1, e2⟩ := checked_a f least most (by omega)
  obtain rfl := e2.2 h
  obtain ⟨T1, hs1⟩ := served f most t hw c2 c3
  unfold assign_Best.f
  rw [e1, Option.bind_some, if_pos rfl, app_small (by simp only [List.length_nil]; omega), Option.bind_some, List.nil_append, hs1.fill, Option.bind_some]
  have hz : nz f.length most ≤ f.length := cnt_top _ _
  have hmul : nz f.length most * (f.length + 1) ≤ 8 * 9 := Nat.mul_le_mul (by omega) (by omega)
  obtain ⟨lim, T0, b1, b2, b3, b4, b5⟩ := best_0 t hw least most h.len (8 * 9 + 8) 110 most T1 0 (by omega) (by omega) (by omega) c2 hs1 (fun x hx => ⟨(c3 x hx).1, (c3 x hx).2, Int.le_refl _⟩) (fun x hx => by omega)
  rw [show ((0 : Nat) : Int) = 0 from rfl] at b1
  obtain ⟨T, d1, d2, d3, d4⟩ := best_1 t hw (wid f) 0 110 T0 (by omega) (by omega) b2.good (fun k hk => by omega)
  refine ⟨T, lim, T0, b1.trans d1, d2, d3, d4, b2, b3, b4, fun T1' hf' hsh => ?_⟩
  have : T1' = T1 := by
    exact (Prod.mk.inj (Option.some.inj hf')).2.symm
  rw [this] at hsh ⊢
  exact b5 hsh
end Go.Proofs.Ytbogdbbmmlaohaa.Pure
