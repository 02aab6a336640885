/- Plain laws about assignments: comparing counts; a further board; a greater number. -/
import Derived.Test.YtbogdbbmmlaohaaS4
namespace Go.Proofs.Ytbogdbbmmlaohaa.Pure
open Go.Saw
set_option linter.unusedVariables false
theorem ints_loop (a b : List E3) (ha : a.length ≤ 100) (hl : a.length = b.length) : ∀ (d i j : Nat), i + d = a.length → d < j → sawmilllaw48_ints.l0 110 a b j i = some (decide (a.drop i = b.drop i))
  | 0, i, j, hd, hj => by
    obtain ⟨j, rfl⟩ : ∃ k, j = k + 1 := ⟨j - 1, by omega⟩
    simp only [sawmilllaw48_ints.l0]
    rw [if_neg (by omega), List.drop_eq_nil_of_le (by omega), List.drop_eq_nil_of_le (by omega)]
    simp
  | d + 1, i, j, hd, hj => by
    obtain ⟨j, rfl⟩ : ∃ k, j = k + 1 := ⟨j - 1, by omega⟩
    have hi : i < a.length := by omega
    have hi' : i < b.length := by omega
    simp only [sawmilllaw48_ints.l0]
    rw [if_pos (by omega), idx_at (List.getElem?_eq_getElem hi), Option.bind_some, idx_at (List.getElem?_eq_getElem hi'), Option.bind_some, w_in (by omega) (by omega), show (i : Int) + 1 = ((i + 1 : Nat) : Int) by omega, ints_loop a b ha hl d (i + 1) j (by omega) (by omega), List.drop_eq_getElem_cons hi, List.drop_eq_getElem_cons hi']
    by_cases e : a[i] = b[i]
    · rw [if_pos e]
      congr 1
      rw [decide_eq_decide, e]
      simp only [List.cons.injEq, true_and]
    · rw [if_neg e]
      congr 1
      symm
      rw [decide_eq_false_iff_not]
      exact fun h => e (List.cons.inj h).1
theorem ints_a (a b : List E3) (ha : a.length ≤ 100) : sawmilllaw48_ints.f 110 a b = some (decide (a = b)) := by
  unfold sawmilllaw48_ints.f
  by_cases h : a.length = b.length
  · rw [if_pos (by omega)]
    have := ints_loop a b ha h a.length 0 110 (by omega) (by omega)
    simpa using this
  · rw [if_neg (by omega)]
    congr 1
    symm
    rw [decide_eq_false_iff_not]
    intro e; subst e; exact h rfl
theorem better_not (a c : List E3) (ha : a.length ≤ 100) (hl : a.length = c.length) (h : ∀ x, x < a.length → (∀ y, y < x → a[y]? = c[y]?) → ∀ u v, a[x]? = some u → c[x]? = some v → u ≤ v) : sawmilllaw48_better.f 110 a c = some false := by
  unfold sawmilllaw48_better.f
  have : ∀ (d i j : Nat), i + d = a.length → d < j → (∀ y, y < i → a[y]? = c[y]?) → sawmilllaw48_better.l0 110 a c j i = some false := by
    intro d
    induction d with
    | zero =>
      intro i j hd hj he
      obtain ⟨j, rfl⟩ : ∃ k, j = k + 1 := ⟨j - 1, by omega⟩
      simp only [sawmilllaw48_better.l0]
      rw [if_neg (by omega)]
    | succ d ih =>
      intro i j hd hj he
      obtain ⟨j, rfl⟩ : ∃ k, j = k + 1 := ⟨j - 1, by omega⟩
      have hi : i < a.length := by omega
      have hi' : i < c.length := by omega
      simp only [sawmilllaw48_better.l0]
      rw [if_pos (by omega), if_pos (by omega), idx_at (List.getElem?_eq_getElem hi), Option.bind_some, idx_at (List.getElem?_eq_getElem hi'), Option.bind_some, w_in (by omega) (by omega), show (i : Int) + 1 = ((i + 1 : Nat) : Int) by omega]
      by_cases e : a[i] = c[i]
      · rw [if_pos e]
        refine ih (i + 1) j (by omega) (by omega) fun y hy => ?_
        by_cases ey : y = i
        · subst ey; rw [List.getElem?_eq_getElem hi, List.getElem?_eq_getElem hi', e]
        · exact he y (by omega)
      · rw [if_neg e]
        have := h i hi he _ _ (List.getElem?_eq_getElem hi) (List.getElem?_eq_getElem hi')
        congr 1
        rw [decide_eq_false_iff_not]
        exact Int.not_lt.2 this
  exact this a.length 0 110 (by omega) (by omega) (fun y hy => by omega)
/-- No valid assignment is better than what is served. -/
theorem served_best {f : List (List E4)} {most : List E3} {T : Int → Option Int} (s : Served f most T) {A : Nat → Int} (ha : VA f most A) : sawmilllaw48_better.f 110 (cntsA f.length (wid f) A) (cnts f.length (wid f) T) = some false := by
  have hfew := s.t.few
  refine better_not _ _ (by rw [cntsA_len]; omega) (by rw [cntsA_len, cnts_len]) fun x hx he u v hu hv => ?_
  rw [cntsA_len] at hx
  rw [cntsA_at hx] at hu
  rw [cnts_at hx] at hv
  cases hu; cases hv
  have := (s.max x hx).2 A ha.good ha.most fun y hy => by
    have := he y hy
    rw [cntsA_at (by omega), cnts_at (by omega)] at this
    exact Int.ofNat_inj.1 (Option.some.inj this)
  exact Int.ofNat_le.2 this
theorem Served.va {f : List (List E4)} {most : List E3} {T : Int → Option Int} (s : Served f most T) : VA f most fun b => hold T b := ⟨s.good.a, fun x hx => (s.max x hx).1⟩
theorem app_small {E : Type} {k : Nat} {l r : List E} (h : (l.length + r.length) * k ≤ 100000) : app k l r = some (l ++ r) := by
  unfold app; rw [if_pos (by omega)]
/-- A table with one board more. -/
def bb (a1 : List E4) (k : Nat) : Bool := a1[k]?.getD false
def wide (f : List (List E4)) (a1 : List E4) (i : Nat) : List (List E4) := (List.range i).map fun (k : Nat) => (f[k]?.getD []) ++ [bb a1 k]
theorem wide_len (f : List (List E4)) (a1 : List E4) (i : Nat) : (wide f a1 i).length = i := by simp [wide]
theorem wide_succ (f : List (List E4)) (a1 : List E4) (i : Nat) : wide f a1 (i + 1) = wide f a1 i ++ [(f[i]?.getD []) ++ [bb a1 i]] := by
  unfold wide; rw [List.range_succ, List.map_append]; rfl
theorem wide_at {f : List (List E4)} {a1 : List E4} {i x : Nat} (h : x < i) : (wide f a1 i)[x]? = some ((f[x]?.getD []) ++ [bb a1 x]) := by
  unfold wide
  rw [List.getElem?_map, List.getElem?_range h]; rfl
theorem wide_tbl {f : List (List E4)} {a1 : List E4} (ht : Tbl f f.length (wid f)) (h0 : f.length ≠ 0) : (∀ r ∈ wide f a1 f.length, r.length = wid f + 1) ∧ wid (wide f a1 f.length) = wid f + 1 ∧ ∀ (o b : Int), 0 ≤ o → o < f.length → 0 ≤ b → b < wid f → fitB (wide f a1 f.length) o b = fitB f o b := by
  have hrow : ∀ k, k < f.length → (f[k]?.getD []).length = wid f := fun k hk => by
    rw [List.getElem?_eq_getElem hk, Option.getD_some]; exact ht.cols _ (List.getElem_mem hk)
  have h1 : ∀ r ∈ wide f a1 f.length, r.length = wid f + 1 := fun r hr => by
    unfold wide at hr
    obtain ⟨k, hk, rfl⟩ := List.mem_map.1 hr
    rw [List.length_append, hrow k (List.mem_range.1 hk)]; rfl
  refine ⟨h1, ?_, fun o b ho0 ho1 hb0 hb1 => ?_⟩
  · have : (wide f a1 f.length)[0]? = some ((f[0]?.getD []) ++ [bb a1 0]) := wide_at (by omega)
    show ((wide f a1 f.length)[0]?.getD []).length = _
    rw [this, Option.getD_some, List.length_append, hrow 0 (by omega)]; rfl
  · unfold fitB
    rw [wide_at (by omega), Option.getD_some]
    have hlt : o.toNat < f.length := by omega
    rw [List.getElem?_append_left (by rw [hrow _ hlt]; omega)]
theorem hasOf_last {n : Nat} {A B : Nat → Int} (h : ∀ b, b < n → A b = B b) (hn : A n = -1) (x : Int) (hx : 0 ≤ x) : has (n + 1) 0 A x = has n 0 B x := by
  rw [has_succ, if_neg (by omega), Nat.add_zero]
  apply cnt_congr
  intro b hb
  rw [h b hb]
/-- One board more does not make the counts worse. -/
theorem wider_best {f : List (List E4)} {most : List E3} {T T' : Int → Option Int} {a1 : List E4} (h0 : f.length ≠ 0) (s : Served f most T) (s' : Served (wide f a1 f.length) most T') : sawmilllaw48_better.f 110 (cnts f.length (wid f) T) (cnts (wide f a1 f.length).length (wid (wide f a1 f.length)) T') = some false := by
  obtain ⟨w1, w2, w3⟩ := wide_tbl (a1 := a1) s.t h0
  have hlen := wide_len f a1 f.length
  let A : Nat → Int := fun b => if b < wid f then hold T b else -1
  have hA : ∀ b, b < wid f → A b = hold T b := fun b hb => if_pos hb
  have hn : A (wid f) = -1 := if_neg (Nat.lt_irrefl _)
  have hnum : ∀ x : Int, 0 ≤ x → has (wid f + 1) 0 A x = num (wid f) 0 T x := fun x hx => hasOf_last hA hn x hx
  have va : VA (wide f a1 f.length) most A := by
    refine ⟨fun b hb hne => ?_, fun x hx => ?_⟩
    · rw [w2] at hb
      by_cases e : b < wid f
      · rw [hA b e] at hne ⊢
        obtain ⟨g1, g2, g3⟩ := s.good b e hne
        exact ⟨g1, by rw [hlen]; exact g2, by rw [w3 _ _ g1 g2 (by omega) (by omega)]; exact g3⟩
      · obtain rfl : b = wid f := by omega
        exact absurd hn hne
    · rw [w2, hnum x (by omega)]
      exact (s.max x (by omega)).1
  have := served_best s' va
  have e : cntsA (wide f a1 f.length).length (wid (wide f a1 f.length)) A = cnts f.length (wid f) T := by
    symm
    refine cntsA_ext (by rw [cnts_len, hlen]) fun x hx => ?_
    rw [hlen] at hx
    rw [cnts_at hx, w2, hnum x (by omega)]
  rw [e] at this
  exact this
/-- A greater number does not make the counts worse. -/
theorem more_best {f : List (List E4)} {most more : List E3} {T T' : Int → Option Int} (s : Served f most T) (s' : Served f more T') (h : ∀ x, x < f.length → mo most x ≤ mo more x) : sawmilllaw48_better.f 110 (cnts f.length (wid f) T) (cnts f.length (wid f) T') = some false :=
  served_best s' (A := fun b => hold T b) ⟨s.good.a, fun x hx => Int.le_trans (s.max x hx).1 (h x hx)⟩
end Go.Proofs.Ytbogdbbmmlaohaa.Pure
