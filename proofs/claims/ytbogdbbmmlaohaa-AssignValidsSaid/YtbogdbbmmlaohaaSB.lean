/- Plain laws about assignments: the reference's counts come to an end; its Valid says the same. -/
import Derived.Test.YtbogdbbmmlaohaaS5
namespace Go.Proofs.Ytbogdbbmmlaohaa.Pure
open Go.Saw
set_option linter.unusedVariables false
theorem rows_1 (K : Nat) (f : List (List E4)) (kont : Int → Option Int) : ∀ (k : Nat) (i : Int), sawmillref48_rows.l1 K f kont k i = assign_shaped.l1 K f kont k i
  | 0, _ => rfl
  | k + 1, i => by simp only [sawmillref48_rows.l1, assign_shaped.l1, rows_1 K f kont k]
theorem rows_0 (K : Nat) (f : List (List E4)) : ∀ (k : Nat) (i : Int), sawmillref48_rows.l0 K f k i = assign_shaped.l0 K f k i
  | 0, _ => rfl
  | k + 1, i => by simp only [sawmillref48_rows.l0, assign_shaped.l0, rows_0 K f k, rows_1]
theorem rows_b (f : List (List E4)) : sawmillref48_rows.f 110 f = some (shp f) := by
  rw [← shaped_a]
  unfold sawmillref48_rows.f assign_shaped.f
  rw [rows_0]
theorem boards_b (f : List (List E4)) : sawmillref48_boards.f f = assign_columns.f f := rfl
def unL (n : Nat) (s : List E4) : Nat := cnt n fun k => decide (s[k]? = some false)
def free (n : Nat) (to : List E3) : Nat := cnt n fun k => decide (mo to k < 0)
structure Post (n m : Nat) (seen : List E4) (to : List E3) (r : Bool) (seen' : List E4) (to' : List E3) : Prop where
  sl : seen'.length = n
  tl : to'.length = n
  lt : ∀ k : Nat, k < n → mo to' k < m
  see : ∀ k : Nat, seen[k]? = some true → seen'[k]? = some true
  stay : ∀ k : Nat, seen[k]? = some true → mo to' k = mo to k
  win : r = true → free n to' < free n to
  lose : r = false → to' = to
abbrev RecA := List (List E4) → Int → List E3 → List E4 → Int → Option (Bool × List E4 × List E3)
theorem aug_loop {f : List (List E4)} {m n : Nat} (t : Tbl f m n) (K : Nat) (rec_ : RecA) (to : List E3) (htl : to.length = n) (htm : ∀ k : Nat, k < n → mo to k < m) (seen : List E4) (hsl : seen.length = n)
    (hrec : ∀ (o : Int) (s2 : List E4), 0 ≤ o → o < m → s2.length = n → unL n s2 < unL n seen → ∃ r s' to', rec_ f o to s2 0 = some (r, s', to') ∧ Post n m s2 to r s' to')
    (o : Int) (h0 : 0 ≤ o) (h1 : o < m) : ∀ (d i j : Nat) (s1 : List E4), i + d = n → d < j → s1.length = n → (∀ k : Nat, seen[k]? = some true → s1[k]? = some true) →
      ∃ r s' to', sawmillref48_augment.l0 K f o 0 rec_ j i s1 to = some (r, s', to') ∧ Post n m seen to r s' to'
  | 0, i, j, s1, hd, hj, hl, hs => by
    obtain ⟨j, rfl⟩ : ∃ k, j = k + 1 := ⟨j - 1, by omega⟩
    simp only [sawmillref48_augment.l0]
    rw [if_neg (by omega)]
    exact ⟨false, s1, to, rfl, hl, htl, htm, hs, fun _ _ => rfl, by simp, fun _ => rfl⟩
  | d + 1, i, j, s1, hd, hj, hl, hs => by
    obtain ⟨j, rfl⟩ : ∃ k, j = k + 1 := ⟨j - 1, by omega⟩
    have hfew := t.few
    have hin : i < n := by omega
    obtain ⟨rr, hr1, _, hr2⟩ := t.row h0 h1
    simp only [sawmillref48_augment.l0]
    rw [if_pos (by omega), hr1, Option.bind_some, hr2 i (by omega) (by omega), Option.bind_some, w_in (by omega) (by omega), show (i : Int) + 1 = ((i + 1 : Nat) : Int) by omega]
    have next := fun s2 a b => aug_loop t K rec_ to htl htm seen hsl hrec o h0 h1 d (i + 1) j s2 (by omega) (by omega) a b
    by_cases hf : fitB f o i = true
    · rw [if_pos hf, idx_at (List.getElem?_eq_getElem (by omega : i < s1.length)), Option.bind_some]
      by_cases hsi : s1[i] = true
      · rw [if_pos hsi]; exact next s1 hl hs
      · rw [if_neg hsi, mo_idx (by omega), Option.bind_some, show ((i : Nat) : Int).toNat = i by omega]
        have hsf : s1[i]? = some false := by rw [List.getElem?_eq_getElem (by omega)]; simpa using hsi
        have hs2 : ∀ k : Nat, (s1.set i true)[k]? = if k = i then some true else s1[k]? := fun k => by
          by_cases e : k = i
          · subst e; rw [if_pos rfl, List.getElem?_set_self (by omega)]
          · rw [if_neg e, List.getElem?_set_ne (fun hh => e hh.symm)]
        have hss : ∀ k : Nat, seen[k]? = some true → (s1.set i true)[k]? = some true := fun k hk => by
          rw [hs2 k]
          by_cases e : k = i
          · rw [if_pos e]
          · rw [if_neg e]; exact hs k hk
        have hni : ∀ k : Nat, seen[k]? = some true → k ≠ i := fun k hk e => by
          subst e
          rw [hs k hk] at hsf
          cases hsf
        have hset : ∀ (l : List E3) (k : Nat), l.length = n → mo (l.set i o) k = if k = i then o else mo l k := fun l k hll => by
          unfold mo
          by_cases e : k = i
          · subst e; rw [if_pos rfl, List.getElem?_set_self (by omega), Option.getD_some]
          · rw [if_neg e, List.getElem?_set_ne (fun hh => e hh.symm)]
        have hfree : ∀ l : List E3, l.length = n → free n (l.set i o) + (if mo l i < 0 then 1 else 0) = free n l := fun l hll => by
          have := cnt_set (n := n) (p := fun k => decide (mo l k < 0)) (q := fun k => decide (mo (l.set i o) k < 0)) (b := i) hin (fun y hy hne => by
            show decide _ = decide _
            rw [hset l y hll, if_neg hne])
          simp only [decide_eq_true_eq, hset l i hll, if_true] at this
          rw [if_neg (show ¬ o < 0 by omega)] at this
          exact this
        by_cases hneg : mo to i < 0
        · rw [if_pos hneg]
          refine ⟨true, s1.set i true, to.set i o, rfl, by rw [List.length_set]; exact hl, by rw [List.length_set]; exact htl, fun k hk => ?_, hss, fun k hk => by rw [hset to k htl, if_neg (hni k hk)], fun _ => ?_, by simp⟩
          · rw [hset to k htl]
            split
            · exact h1
            · exact htm k hk
          · have := hfree to htl
            rw [if_pos hneg] at this
            omega
        · rw [if_neg hneg]
          have hlt : unL n (s1.set i true) < unL n seen := by
            apply cnt_lt (b := i) _ hin
            · rw [decide_eq_false_iff_not, hs2 i, if_pos rfl]; simp
            · rw [decide_eq_true_eq]
              cases hh : seen[i]? with
              | none => rw [List.getElem?_eq_none_iff] at hh; omega
              | some b =>
                cases b with
                | false => rfl
                | true => exact absurd rfl (hni i hh)
            · intro k hk hp
              rw [decide_eq_true_eq] at hp ⊢
              cases hh : seen[k]? with
              | none => rw [List.getElem?_eq_none_iff] at hh; omega
              | some b =>
                cases b with
                | false => rfl
                | true => rw [hss k hh] at hp; cases hp
          obtain ⟨r, s', to', e1, p⟩ := hrec (mo to i) (s1.set i true) (by omega) (htm i hin) (by rw [List.length_set]; exact hl) hlt
          rw [e1, Option.bind_some]
          cases r with
          | true =>
            have hti : mo to' i = mo to i := p.stay i (by rw [hs2 i, if_pos rfl])
            have hpl := p.tl
            rw [if_pos rfl]
            simp only []
            rw [mo_idx (by omega), Option.bind_some]
            refine ⟨true, s', to'.set i o, rfl, p.sl, by rw [List.length_set]; exact p.tl, fun k hk => ?_, fun k hk => p.see k (hss k hk), fun k hk => by rw [hset to' k hpl, if_neg (hni k hk)]; exact p.stay k (hss k hk), fun _ => ?_, by simp⟩
            · rw [hset to' k hpl]
              split
              · exact h1
              · exact p.lt k hk
            · have h3 := hfree to' hpl
              rw [hti, if_neg hneg] at h3
              have h4 := p.win rfl
              omega
          | false =>
            obtain rfl := p.lose rfl
            rw [if_neg (by simp)]
            exact next s' p.sl fun k hk => p.see k (hss k hk)
    · rw [if_neg hf]; exact next s1 hl hs
theorem aug_spec {f : List (List E4)} {m n : Nat} (t : Tbl f m n) (to : List E3) (htl : to.length = n) (htm : ∀ k : Nat, k < n → mo to k < m) : ∀ (K : Nat) (o : Int) (seen : List E4), 0 ≤ o → o < m → seen.length = n → unL n seen + n + 3 ≤ K →
    ∃ r s' to', sawmillref48_augment.f K f o to seen 0 = some (r, s', to') ∧ Post n m seen to r s' to'
  | 0, _, _, _, _, _, h => by omega
  | K + 1, o, seen, h0, h1, hsl, h => by
    have := aug_loop t K (sawmillref48_augment.f K) to htl htm seen hsl (fun o2 s2 a b c d => aug_spec t to htl htm K o2 s2 a b c (by omega)) o h0 h1 n 0 K seen (by omega) (by omega) hsl (fun _ h => h)
    exact this
theorem rcounts_in {f : List (List E4)} {m n : Nat} (t : Tbl f m n) (hn : n ≤ 50) (most : List E3) (hm : most.length = m) (o : Nat) (ho : o < m) (kont : List E3 → List E3 → Option (List E3)) : ∀ (d j : Nat) (c to : List E3), free n to < d → d < j → c.length = m → to.length = n → (∀ k : Nat, k < n → mo to k < m) → (0 ≤ mo c o ∧ mo c o ≤ 1000 - free n to) →
    ∃ c' to', sawmillref48_counts.l1 110 f most o kont j c to = kont c' to' ∧ c'.length = m ∧ to'.length = n ∧ (∀ k : Nat, k < n → mo to' k < m) ∧ (∀ x : Nat, x ≠ o → mo c' x = mo c x)
  | 0, j, c, to, hd, _, _, _, _, _ => by omega
  | d + 1, j, c, to, hd, hj, hc, htl, htm, hb => by
    obtain ⟨j, rfl⟩ : ∃ k, j = k + 1 := ⟨j - 1, by omega⟩
    have hfew := t.few
    simp only [sawmillref48_counts.l1]
    rw [mo_idx (by omega), Option.bind_some, mo_idx (by omega), Option.bind_some]
    by_cases h : mo c o < mo most o
    · have hmk : mk (to.length : Int) false = some (List.replicate n false) := by
        unfold mk
        rw [if_pos (by omega), Int.toNat_natCast, htl]
      have hu : unL n (List.replicate n false) ≤ n := cnt_top _ _
      obtain ⟨r, s', to', e1, p⟩ := aug_spec t to htl htm 110 o (List.replicate n false) (by omega) (by omega) (by simp) (by omega)
      rw [if_pos h, hmk, Option.bind_some, e1, Option.bind_some]
      cases r with
      | true =>
        have hw := p.win rfl
        rw [if_pos rfl, w_in (by omega) (by omega), show ((o : Nat) : Int).toNat = o by omega]
        have hset : ∀ x : Nat, mo (c.set o (mo c o + 1)) x = if x = o then mo c o + 1 else mo c x := fun x => by
          unfold mo
          by_cases e : x = o
          · subst e; rw [if_pos rfl, List.getElem?_set_self (by omega), Option.getD_some]
          · rw [if_neg e, List.getElem?_set_ne (fun hh => e hh.symm)]
        obtain ⟨c2, to2, g1, g2, g3, g4, g5⟩ := rcounts_in t hn most hm o ho kont d j (c.set o (mo c o + 1)) to' (by omega) (by omega) (by rw [List.length_set]; exact hc) p.tl p.lt (by rw [hset o, if_pos rfl]; omega)
        exact ⟨c2, to2, g1, g2, g3, g4, fun x hx => by rw [g5 x hx, hset x, if_neg hx]⟩
      | false =>
        obtain rfl := p.lose rfl
        rw [if_neg (by simp)]
        exact ⟨c, to', rfl, hc, htl, htm, fun _ _ => rfl⟩
    · rw [if_neg h]
      exact ⟨c, to, rfl, hc, htl, htm, fun _ _ => rfl⟩
theorem rcounts_out {f : List (List E4)} {m n : Nat} (t : Tbl f m n) (hn : n ≤ 50) (most : List E3) (hm : most.length = m) : ∀ (d o j : Nat) (c to : List E3), o + d = m → d < j → c.length = m → to.length = n → (∀ k : Nat, k < n → mo to k < m) → (∀ x : Nat, o ≤ x → x < m → mo c x = 0) →
    ∃ c', sawmillref48_counts.l0 110 f most j o c to = some c'
  | 0, o, j, c, to, hd, hj, _, _, _, _ => by
    obtain ⟨j, rfl⟩ : ∃ k, j = k + 1 := ⟨j - 1, by omega⟩
    have hr := t.rows
    simp only [sawmillref48_counts.l0]
    rw [if_neg (by omega)]
    exact ⟨c, rfl⟩
  | d + 1, o, j, c, to, hd, hj, hc, htl, htm, hz => by
    obtain ⟨j, rfl⟩ : ∃ k, j = k + 1 := ⟨j - 1, by omega⟩
    have hr := t.rows
    have hfew := t.few
    have hfr : free n to ≤ n := cnt_top _ _
    simp only [sawmillref48_counts.l0]
    rw [if_pos (by omega)]
    have h0 := hz o (Nat.le_refl _) (by omega)
    obtain ⟨c2, to2, g1, g2, g3, g4, g5⟩ := rcounts_in t hn most hm o (by omega) (fun (a b : List E3) => sawmillref48_counts.l0 110 f most j (IntKind.i64.wrap ((o : Int) + 1)) a b) (n + 1) 110 c to (by omega) (by omega) hc htl htm (by omega)
    rw [g1, w_in (by omega) (by omega), show (o : Int) + 1 = ((o + 1 : Nat) : Int) by omega]
    exact rcounts_out t hn most hm d (o + 1) j c2 to2 (by omega) (by omega) g2 g3 g4 fun x h1 h2 => by rw [g5 x (by omega)]; exact hz x (by omega) h2
theorem none_b (n : Nat) (hn : n ≤ 100) : sawmillref48_none.f 110 n = some (List.replicate n (-1)) := by
  unfold sawmillref48_none.f
  have hmk : mk (n : Int) (0 : Int) = some (List.replicate n 0) := by
    unfold mk
    rw [if_pos (by omega), Int.toNat_natCast]
  rw [hmk, Option.bind_some]
  have hz : List.replicate n (0 : Int) = List.replicate 0 (-1) ++ List.replicate (n - 0) 0 := by simp
  rw [hz]
  refine runN n (fun k s q => sawmillref48_none.l0 110 n k q s) (fun q => List.replicate q (-1 : Int) ++ List.replicate (n - q) 0) _ (by omega) (fun q k hq => ?_) (fun k => ?_) n 0 110 (by omega) (by omega)
  · simp only [sawmillref48_none.l0]
    have hlt : q < (List.replicate q (-1 : Int) ++ List.replicate (n - q) 0).length := by simp; omega
    rw [if_pos (by omega), idx_at (List.getElem?_eq_getElem hlt), Option.bind_some, show ((q : Nat) : Int).toNat = q by omega]
    congr 1
    have hl : (List.replicate q (-1 : Int)).length = q := by simp
    obtain ⟨r, hr⟩ : ∃ r, n - q = r + 1 := ⟨n - q - 1, by omega⟩
    rw [List.set_append_right _ _ (by omega), hl, Nat.sub_self, hr, List.replicate_succ, List.set_cons_zero, List.replicate_succ', show n - (q + 1) = r by omega]
    simp
  · simp only [sawmillref48_none.l0]
    rw [if_neg (by omega), Nat.sub_self]
    simp
theorem mo_rep {n : Nat} {v : Int} {k : Nat} (h : k < n) : mo (List.replicate n v) k = v := by
  unfold mo
  rw [List.getElem?_replicate, if_pos h]; rfl
theorem rcounts_b {f : List (List E4)} (t : Tbl f f.length (wid f)) (hn : wid f ≤ 50) (most : List E3) (hm : most.length = f.length) : ∃ c, sawmillref48_counts.f 110 f most = some c := by
  have hfew := t.few
  have hmk : mk (f.length : Int) (0 : Int) = some (List.replicate f.length 0) := by
    unfold mk
    rw [if_pos (by omega), Int.toNat_natCast]
  unfold sawmillref48_counts.f
  rw [boards_b, t.col, Option.bind_some, none_b _ (by omega), Option.bind_some, hmk, Option.bind_some]
  exact rcounts_out t hn most hm f.length 0 110 _ _ (by omega) (by omega) (by simp) (by simp) (fun k hk => by rw [mo_rep hk]; omega) (fun x _ hx => mo_rep hx)
theorem rCounts_loop (f : List (List E4)) (most : List E3) (hm : most.length ≤ 100) : ∀ (d i j : Nat), i + d = most.length → d < j → sawmillref48_Counts.l0 110 f most j i =
    if (most.drop i).all (fun n => decide (0 ≤ n ∧ n ≤ 200)) = true then (sawmillref48_counts.f 110 f most).bind fun b => some (b, 0) else some ([], 9)
  | 0, i, j, hd, hj => by
    obtain ⟨j, rfl⟩ : ∃ k, j = k + 1 := ⟨j - 1, by omega⟩
    obtain rfl : i = most.length := by omega
    simp only [sawmillref48_Counts.l0]
    rw [if_neg (by omega), List.drop_eq_nil_of_le (Nat.le_refl _), if_pos (by simp)]
  | d + 1, i, j, hd, hj => by
    obtain ⟨j, rfl⟩ : ∃ k, j = k + 1 := ⟨j - 1, by omega⟩
    have hi : i < most.length := by omega
    simp only [sawmillref48_Counts.l0]
    rw [if_pos (by omega), idx_at (List.getElem?_eq_getElem hi), Option.bind_some, w_in (by omega) (by omega), show (i : Int) + 1 = ((i + 1 : Nat) : Int) by omega, rCounts_loop f most hm d (i + 1) j (by omega) (by omega), List.drop_eq_getElem_cons hi, List.all_cons]
    by_cases e : 0 ≤ most[i] ∧ most[i] ≤ 200
    · rw [if_neg (show ¬ most[i] < 0 from Int.not_lt.2 e.1), if_neg (show ¬ 200 < most[i] from Int.not_lt.2 e.2)]
      simp [e]
    · have he : decide (0 ≤ most[i] ∧ most[i] ≤ 200) = false := by rw [decide_eq_false_iff_not]; exact e
      rw [he, Bool.false_and, if_neg (show ¬ false = true by simp)]
      by_cases e1 : most[i] < 0
      · rw [if_pos e1]
      · rw [if_neg e1, if_pos]
        apply Classical.byContradiction
        intro e2
        exact e ⟨Int.not_lt.1 e1, Int.not_lt.1 e2⟩
/-- The reference's Counts: its error. -/
theorem rCounts_b (f : List (List E4)) (most : List E3) (hw : shp f = 0 → wid f ≤ 50) (hm : most.length ≤ 100) : ∃ c, sawmillref48_Counts.f 110 f most = some (c, cerr f most) := by
  unfold sawmillref48_Counts.f
  rw [rows_b, Option.bind_some]
  unfold cerr
  by_cases h1 : shp f = 0
  · have n1 : ¬ shp f ≠ 0 := fun hh => hh h1
    rw [if_pos h1, if_neg n1]
    by_cases h2 : most.length = f.length
    · have n2 : ¬ most.length ≠ f.length := fun hh => hh h2
      rw [if_pos (show (most.length : Int) = f.length by omega), if_neg n2]
      have := rCounts_loop f most hm most.length 0 110 (by omega) (by omega)
      rw [show ((0 : Nat) : Int) = 0 from rfl, List.drop_zero] at this
      rw [this]
      by_cases h3 : most.all (fun n => decide (0 ≤ n ∧ n ≤ 200)) = true
      · obtain ⟨c, hc⟩ := rcounts_b (Tbl.of h1 (hw h1)) (hw h1) most h2
        rw [if_pos h3, if_pos h3, hc]
        exact ⟨c, rfl⟩
      · rw [if_neg h3, if_neg h3]
        exact ⟨[], rfl⟩
    · rw [if_neg (show ¬ (most.length : Int) = f.length by omega), if_pos h2]
      exact ⟨[], rfl⟩
  · rw [if_neg h1, if_pos h1]
    exact ⟨[], rfl⟩
theorem rvalid_1 (most : List E3) (c : List E3) (hl : most.length = c.length) (hc : c.length ≤ 100) (kont : Int → Option Bool) (hk : kont c.length = some true) : ∀ (d i j : Nat), i + d = c.length → d < j →
    ∃ r, sawmillref48_Valid.l1 110 most c kont j i = some r ∧ (r = true ↔ ∀ x : Nat, i ≤ x → x < c.length → mo c x ≤ mo most x)
  | 0, i, j, hd, hj => by
    obtain ⟨j, rfl⟩ : ∃ k, j = k + 1 := ⟨j - 1, by omega⟩
    obtain rfl : i = c.length := by omega
    simp only [sawmillref48_Valid.l1]
    rw [if_neg (by omega)]
    exact ⟨true, hk, fun _ x h1 h2 => by omega, fun _ => rfl⟩
  | d + 1, i, j, hd, hj => by
    obtain ⟨j, rfl⟩ : ∃ k, j = k + 1 := ⟨j - 1, by omega⟩
    simp only [sawmillref48_Valid.l1]
    rw [if_pos (by omega), mo_idx (by omega), Option.bind_some, mo_idx (by omega), Option.bind_some, w_in (by omega) (by omega), show (i : Int) + 1 = ((i + 1 : Nat) : Int) by omega]
    by_cases h : mo most i < mo c i
    · rw [if_pos h]
      exact ⟨false, rfl, by simp, fun hh => by have := hh i (Nat.le_refl _) (by omega); omega⟩
    · rw [if_neg h]
      obtain ⟨r, e1, e2⟩ := rvalid_1 most c hl hc kont hk d (i + 1) j (by omega) (by omega)
      refine ⟨r, e1, e2.trans ⟨fun hh x a b => ?_, fun hh x a b => hh x (by omega) b⟩⟩
      by_cases e : x = i
      · subst e; omega
      · exact hh x (by omega) b
theorem rvalid_0 {f : List (List E4)} (t : Tbl f f.length (wid f)) (most to : List E3) (hm : most.length = f.length) (hto : to.length = wid f) : ∀ (d i j : Nat), i + d = wid f → d < j →
    ∃ r, sawmillref48_Valid.l0 110 f most to j i = some r ∧ (r = true ↔ (∀ b : Nat, i ≤ b → b < wid f → aOf to b ≠ -1 → 0 ≤ aOf to b ∧ aOf to b < f.length ∧ fitB f (aOf to b) b = true) ∧ ∀ x : Nat, x < f.length → (has (wid f) 0 (aOf to) (x : Int) : Int) ≤ mo most x)
  | 0, i, j, hd, hj => by
    obtain ⟨j, rfl⟩ : ∃ k, j = k + 1 := ⟨j - 1, by omega⟩
    have hfew := t.few
    obtain rfl : i = wid f := by omega
    simp only [sawmillref48_Valid.l0]
    rw [if_neg (by omega), countsOf_b f.length (by omega) to (by omega), Option.bind_some, hto]
    have hcl : (cntsA f.length (wid f) (aOf to)).length = f.length := cntsA_len _ _ _
    obtain ⟨r, e1, e2⟩ := rvalid_1 most (cntsA f.length (wid f) (aOf to)) (by omega) (by omega) (fun _ => some true) rfl f.length 0 110 (by omega) (by omega)
    refine ⟨r, e1, e2.trans ⟨fun h => ⟨fun b h1 h2 => by omega, fun x hx => ?_⟩, fun h x _ hx => ?_⟩⟩
    · have := h x (Nat.zero_le _) (by omega)
      unfold mo at this
      rw [cntsA_at hx, Option.getD_some] at this
      exact this
    · have h2 := h.2 x (by omega)
      have e : mo (cntsA f.length (wid f) (aOf to)) x = ((has (wid f) 0 (aOf to) (x : Int) : Nat) : Int) := by
        unfold mo
        rw [cntsA_at (by omega), Option.getD_some]
      rw [e]; exact h2
  | d + 1, i, j, hd, hj => by
    obtain ⟨j, rfl⟩ : ∃ k, j = k + 1 := ⟨j - 1, by omega⟩
    have hfew := t.few
    have hi : i < to.length := by omega
    obtain ⟨r, e1, e2⟩ := rvalid_0 t most to hm hto d (i + 1) j (by omega) (by omega)
    simp only [sawmillref48_Valid.l0]
    rw [if_pos (by omega), aOf_idx hi, Option.bind_some, w_in (n := (i : Int) + 1) (by omega) (by omega), show (i : Int) + 1 = ((i + 1 : Nat) : Int) by omega, e1]
    have step : (aOf to i ≠ -1 → 0 ≤ aOf to i ∧ aOf to i < f.length ∧ fitB f (aOf to i) i = true) → (r = true ↔ (∀ b : Nat, i ≤ b → b < wid f → aOf to b ≠ -1 → 0 ≤ aOf to b ∧ aOf to b < f.length ∧ fitB f (aOf to b) b = true) ∧ ∀ x : Nat, x < f.length → (has (wid f) 0 (aOf to) (x : Int) : Int) ≤ mo most x) := fun hok =>
      e2.trans ⟨fun h => ⟨fun b h1 h2 => by
        by_cases e : b = i
        · subst e; exact hok
        · exact h.1 b (by omega) h2, h.2⟩, fun h => ⟨fun b h1 h2 => h.1 b (by omega) h2, h.2⟩⟩
    by_cases h1 : aOf to i < -1
    · rw [if_pos h1]
      exact ⟨false, rfl, by simp, fun h => by have := (h.1 i (Nat.le_refl _) (by omega) (by omega)).1; omega⟩
    · rw [if_neg h1]
      by_cases h2 : (f.length : Int) ≤ aOf to i
      · rw [if_pos h2]
        exact ⟨false, rfl, by simp, fun h => by have := (h.1 i (Nat.le_refl _) (by omega) (by omega)).2.1; omega⟩
      · rw [if_neg h2]
        by_cases h3 : 0 ≤ aOf to i
        · obtain ⟨rr, hr1, _, hr2⟩ := t.row (o := aOf to i) h3 (by omega)
          rw [if_pos h3, hr1, Option.bind_some, hr2 i (by omega) (by omega), Option.bind_some]
          by_cases h4 : fitB f (aOf to i) i = true
          · rw [if_pos h4]
            exact ⟨r, rfl, step fun _ => ⟨h3, by omega, h4⟩⟩
          · rw [if_neg h4]
            exact ⟨false, rfl, by simp, fun h => absurd (h.1 i (Nat.le_refl _) (by omega) (by omega)).2.2 h4⟩
        · rw [if_neg h3]
          exact ⟨r, rfl, step fun hne => by omega⟩
theorem valid_b (f : List (List E4)) (most to : List E3) (hw : shp f = 0 → wid f ≤ 50) (hm : most.length ≤ 100) : ∃ r, sawmillref48_Valid.f 110 f most to = some r ∧ (r = true ↔ cerr f most = 0 ∧ to.length = wid f ∧ VA f most (aOf to)) := by
  unfold sawmillref48_Valid.f
  obtain ⟨c, hc⟩ := rCounts_b f most hw hm
  rw [hc, Option.bind_some]
  simp only []
  by_cases h : cerr f most = 0
  · obtain ⟨h1, h2, h3⟩ := cerr_ok h
    have ht := Tbl.of h1 (hw h1)
    rw [if_pos h, boards_b, ht.col, Option.bind_some]
    by_cases hl : to.length = wid f
    · rw [if_pos (by omega)]
      have hfew := ht.few
      obtain ⟨r, e1, e2⟩ := rvalid_0 ht most to h2 hl (wid f) 0 110 (by omega) (by omega)
      exact ⟨r, e1, e2.trans ⟨fun g => ⟨h, hl, fun b hb => g.1 b (Nat.zero_le _) hb, g.2⟩, fun g => ⟨fun b _ hb => g.2.2.good b hb, g.2.2.most⟩⟩⟩
    · rw [if_neg (by omega)]
      exact ⟨false, rfl, by simp, fun g => absurd g.2.1 hl⟩
  · rw [if_neg h]
    exact ⟨false, rfl, by simp, fun g => absurd g.1 h⟩
end Go.Proofs.Ytbogdbbmmlaohaa.Pure
