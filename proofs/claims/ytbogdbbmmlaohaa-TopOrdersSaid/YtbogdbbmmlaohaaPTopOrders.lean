/- The plain statement behind TopOrders: over whole numbers, lists and strings alone. -/
import Derived.Test.YtbogdbbmmlaohaaSA
import Derived.Test.YtbogdbbmmlaohaaWTopOrders
import Derived.Test.YtbogdbbmmlaohaaR
namespace Go.Proofs.Ytbogdbbmmlaohaa.Pure
open Go.Saw
set_option linter.unusedVariables false
theorem TopOrders (a0 : List E27) (a1 : List E37) (a2 : List E3) (wa0 : ∀ x ∈ a0, wf27 x) (za0 : a0.length * 104 ≤ 140737488351232) (wa1 : ∀ x ∈ a1, wf37 x) (za1 : a1.length * 184 ≤ 140737488351232) (wa2 : ∀ x ∈ a2, wf3 x) (za2 : a2.length * 8 ≤ 140737488351232) : ∃ K, sawmilltop_TopOrders.f K a0 a1 a2 = some true := by
  have aw : ((sawmilltop_ordersAwake.f 110).bind fun x => some x) = some true := by rw [ordersAwake]; rfl
  have key : sawmilltop_TopOrders.f 110 a0 a1 a2 = some true := by
    unfold sawmilltop_TopOrders.f
    by_cases h1 : (a0.length : Int) = 0
    · rw [if_pos h1]; exact aw
    · rw [if_neg h1]
      by_cases h2 : 8 < (a0.length : Int)
      · rw [if_pos h2]; exact aw
      · rw [if_neg h2]
        by_cases h3 : 16 < (a1.length : Int)
        · rw [if_pos h3]; exact aw
        · rw [if_neg h3]
          have hloop : ∀ (d i j : Nat), i + d = a0.length → d < j → (∀ x ∈ a0.take i, OkO x) → sawmilltop_TopOrders.l0 110 a0 a1 a2 j ((a0.take i).map leastE) ((a0.take i).map mostE) i = some true := by
            intro d
            induction d with
            | succ d ih =>
              intro i j hd hj hok
              obtain ⟨j, rfl⟩ : ∃ k, j = k + 1 := ⟨j - 1, by omega⟩
              have hi : i < a0.length := by omega
              have hx := List.getElem?_eq_getElem hi
              have hb := wa0 a0[i] (List.getElem_mem hi)
              simp only [sawmilltop_TopOrders.l0]
              rw [if_pos (by omega), idx_at hx, Option.bind_some]
              generalize a0[i] = x at hx hb ⊢
              by_cases g1 : x.2.2.2.2.2.2.1 < 1
              · rw [if_pos g1]; exact aw
              · rw [if_neg g1]
                by_cases g2 : 200 < x.2.2.2.2.2.2.1
                · rw [if_pos g2]; exact aw
                · rw [if_neg g2]
                  by_cases g3 : x.2.2.2.2.2.2.2.1 < 0
                  · rw [if_pos g3]; exact aw
                  · rw [if_neg g3]
                    by_cases g4 : x.2.2.2.2.2.2.1 ≤ x.2.2.2.2.2.2.2.1
                    · rw [if_pos g4]; exact aw
                    · rw [if_neg g4]
                      by_cases g5 : x.2.2.2.2.2.2.2.2.1 < 0
                      · rw [if_pos g5]; exact aw
                      · rw [if_neg g5, w_in (n := 200 - x.2.2.2.2.2.2.1) (by omega) (by omega)]
                        by_cases g6 : 200 - x.2.2.2.2.2.2.1 < x.2.2.2.2.2.2.2.2.1
                        · rw [if_pos g6]; exact aw
                        · rw [if_neg g6]
                          have hO : OkO x := ⟨⟨by omega, by omega⟩, ⟨by omega, by omega⟩, by omega, by omega⟩
                          by_cases g7 : 100 < (x.2.1.size : Int)
                          · rw [if_pos g7]; exact aw
                          · rw [if_neg g7, least_a hO, Option.bind_some, app_small (by simp; omega), Option.bind_some, most_a hO, Option.bind_some, app_small (by simp; omega), Option.bind_some, map_take leastE hx, map_take mostE hx, w_in (by omega) (by omega), show (i : Int) + 1 = ((i + 1 : Nat) : Int) by omega]
                            refine ih (i + 1) j (by omega) (by omega) fun y hy => ?_
                            rw [take_at hx] at hy
                            rcases List.mem_append.1 hy with hy | hy
                            · exact hok y hy
                            · simp at hy; subst hy; exact hO
            | zero =>
              intro i j hd hj hok
              obtain ⟨j, rfl⟩ : ∃ k, j = k + 1 := ⟨j - 1, by omega⟩
              obtain rfl : i = a0.length := by omega
              rw [List.take_length] at hok ⊢
              simp only [sawmilltop_TopOrders.l0]
              rw [if_neg (by omega)]
              have species : ∀ (kont : Int → Option Bool), kont (a1.length : Int) = some true → ∀ (d i j : Nat), i + d = a1.length → d < j → sawmilltop_TopOrders.l1 110 a1 kont j i = some true := by
                intro kont hk d
                induction d with
                | zero =>
                  intro i j hd hj
                  obtain ⟨j, rfl⟩ : ∃ k, j = k + 1 := ⟨j - 1, by omega⟩
                  obtain rfl : i = a1.length := by omega
                  simp only [sawmilltop_TopOrders.l1]
                  rw [if_neg (by omega)]
                  exact hk
                | succ d ih =>
                  intro i j hd hj
                  obtain ⟨j, rfl⟩ : ∃ k, j = k + 1 := ⟨j - 1, by omega⟩
                  have hi : i < a1.length := by omega
                  simp only [sawmilltop_TopOrders.l1]
                  rw [if_pos (by omega), idx_at (List.getElem?_eq_getElem hi), Option.bind_some, w_in (by omega) (by omega), show (i : Int) + 1 = ((i + 1 : Nat) : Int) by omega, ih (i + 1) j (by omega) (by omega)]
                  split
                  · exact aw
                  · rfl
              refine species _ ?_ a1.length 0 110 (by omega) (by omega)
              -- the table, the counts, the best assignment
              have hm : (tb a0 a1).length = a0.length := tb_len a0 a1
              obtain ⟨hw, hrows⟩ := tb_wid (o := a0) (l := a1) (by omega)
              have hshp : shp (tb a0 a1) = 0 := ok_shp (by omega) (fun r hr => by rw [hrows r hr, hw]) (by omega)
              have hml : (a0.map mostE).length = a0.length := by simp
              have hll : (a0.map leastE).length = a0.length := by simp
              have hmo : ∀ x, x < a0.length → ∃ y ∈ a0, mo (a0.map mostE) x = mostE y ∧ mo (a0.map leastE) x = leastE y := fun x hx => by
                refine ⟨a0[x], List.getElem_mem hx, ?_, ?_⟩
                · unfold mo; rw [List.getElem?_map, List.getElem?_eq_getElem hx]; rfl
                · unfold mo; rw [List.getElem?_map, List.getElem?_eq_getElem hx]; rfl
              have hb : ∀ y ∈ a0, (0 ≤ leastE y ∧ leastE y ≤ mostE y) ∧ 0 ≤ mostE y ∧ mostE y ≤ 200 := fun y hy => by
                have := hok y hy
                unfold OkO at this
                unfold leastE mostE
                omega
              have hcerr : cerr (tb a0 a1) (a0.map mostE) = 0 := ok_cerr hshp (by omega) fun v hv => by
                obtain ⟨y, hy, rfl⟩ := List.mem_map.1 hv
                exact (hb y hy).2
              have hL : Lst (tb a0 a1) (a0.map leastE) (a0.map mostE) := ⟨hcerr, by omega, fun x hx => by
                obtain ⟨y, hy, e1, e2⟩ := hmo x (by omega)
                rw [e1, e2]; exact (hb y hy).1⟩
              obtain ⟨T1, e1, s1⟩ := counts_ok (tb a0 a1) (a0.map mostE) (by omega) hcerr
              obtain ⟨T, lim, T0, b1, b2, b3, b4, b5, b6, b7, b8⟩ := best_spec (tb a0 a1) (a0.map leastE) (a0.map mostE) (by omega) (by omega) hL
              have va := best_valid b2 b3 b5 b6
              obtain ⟨r, r1, r2⟩ := valid_a (tb a0 a1) (a0.map mostE) (outL (wid (tb a0 a1)) T) (fun _ => by omega) (by omega)
              have hr : r = true := r2.2 ⟨hcerr, outL_len _ _, va⟩
              have hol : (outL (wid (tb a0 a1)) T).length = wid (tb a0 a1) := outL_len _ _
              have hcl : (cnts (tb a0 a1).length (wid (tb a0 a1)) T1).length = (tb a0 a1).length := cnts_len _ _ _
              rw [table_a a0 a1 (by omega) (by omega), Option.bind_some, e1, Option.bind_some, b1, Option.bind_some]
              simp only []
              have htc := topcounts a0.length (by omega) (outL (wid (tb a0 a1)) T) (by omega)
              rw [← hm, best_counts b3, hm] at htc
              rw [if_pos trivial, if_pos trivial, if_pos (by omega), if_pos (by omega), r1, Option.bind_some, if_pos hr, htc, Option.bind_some]
              refine runN a0.length (fun j (s : Unit) i => sawmilltop_TopOrders.l2 110 a0 (a0.map leastE) (cnts a0.length (wid (tb a0 a1)) T0) _ j i) (fun _ => ()) _ (by omega) (fun i j hi => ?_) (fun j => ?_) a0.length 0 110 (by omega) (by omega)
              · simp only [sawmilltop_TopOrders.l2]
                rw [if_pos (by omega), cnts_idx hi, Option.bind_some, mo_idx (by omega), Option.bind_some]
                by_cases hg : (0 : Int) < ((num (wid (tb a0 a1)) 0 T0 (i : Int) : Nat) : Int)
                · rw [if_pos hg, if_neg (fun hlt => b7 ⟨i, by omega, by omega, hlt⟩)]
                · rw [if_neg hg]
              · simp only [sawmilltop_TopOrders.l2]
                rw [if_neg (by omega)]
                refine runN (wid (tb a0 a1)) (fun j (s : Unit) i => sawmilltop_TopOrders.l3 110 a0 a1 (outL (wid (tb a0 a1)) T) _ j i) (fun _ => ()) _ (by omega) (fun i j hi => ?_) (fun j => ?_) (wid (tb a0 a1)) 0 110 (by omega) (by omega)
                · simp only [sawmilltop_TopOrders.l3]
                  rw [if_pos (by omega), idx_at (outL_at hi), Option.bind_some]
                  by_cases h0 : 0 ≤ hold T i
                  · obtain ⟨g1, g2, g3⟩ := b2 i hi (by omega)
                    obtain ⟨q, hq⟩ : ∃ q : Nat, hold T i = q := ⟨(hold T i).toNat, by omega⟩
                    rw [hq] at h0 g2 g3 ⊢
                    have hqx := List.getElem?_eq_getElem (l := a0) (i := q) (by omega)
                    have hib := List.getElem?_eq_getElem (l := a1) (i := i) (by omega)
                    rw [if_pos h0, idx_at hqx, Option.bind_some, idx_at hib, Option.bind_some, fits_a, Option.bind_some, if_pos (tb_fit hqx hib g3)]
                  · rw [if_neg h0]
                · simp only [sawmilltop_TopOrders.l3]
                  rw [if_neg (by omega)]
                  by_cases hl2 : (a2.length : Int) = a1.length
                  · rw [if_pos hl2]
                    obtain ⟨q, q1, q2⟩ := valid_a (tb a0 a1) (a0.map mostE) a2 (fun _ => by omega) (by omega)
                    rw [q1, Option.bind_some]
                    cases q with
                    | false => exact aw
                    | true =>
                      obtain ⟨_, v1, v2⟩ := q2.1 rfl
                      rw [if_pos rfl, topcounts a0.length (by omega) a2 (by omega), Option.bind_some, v1]
                      have h4 : ∀ (d i j : Nat), i + d = a0.length → d < j → (∀ y, y < i → has (wid (tb a0 a1)) 0 (aOf a2) (y : Int) = num (wid (tb a0 a1)) 0 T1 (y : Int)) → sawmilltop_TopOrders.l4 110 a0 (cnts (tb a0 a1).length (wid (tb a0 a1)) T1) (cntsA a0.length (wid (tb a0 a1)) (aOf a2)) (fun x20l4 => (sawmilltop_ordersAwake.f 110).bind fun x => some x) j i = some true := by
                        intro d
                        induction d with
                        | zero =>
                          intro i j hd hj heq
                          obtain ⟨j, rfl⟩ : ∃ k, j = k + 1 := ⟨j - 1, by omega⟩
                          simp only [sawmilltop_TopOrders.l4]
                          rw [if_neg (by omega)]
                          exact aw
                        | succ d ih =>
                          intro i j hd hj heq
                          obtain ⟨j, rfl⟩ : ∃ k, j = k + 1 := ⟨j - 1, by omega⟩
                          have hi : i < a0.length := by omega
                          have hmx := (s1.max i (by omega)).2 (aOf a2) v2.good v2.most heq
                          simp only [sawmilltop_TopOrders.l4]
                          rw [if_pos (by omega), idx_at (cntsA_at hi), Option.bind_some, cnts_idx (by omega), Option.bind_some, w_in (by omega) (by omega), show (i : Int) + 1 = ((i + 1 : Nat) : Int) by omega]
                          by_cases hh : has (wid (tb a0 a1)) 0 (aOf a2) (i : Int) = num (wid (tb a0 a1)) 0 T1 (i : Int)
                          · rw [if_pos (by rw [hh])]
                            refine ih (i + 1) j (by omega) (by omega) fun y hy => ?_
                            by_cases ey : y = i
                            · subst ey; exact hh
                            · exact heq y (by omega)
                          · rw [if_neg (fun h => hh (Int.ofNat_inj.1 h)), if_pos (Int.ofNat_lt.2 (by omega))]
                            exact aw
                      exact h4 a0.length 0 110 (by omega) (by omega) (fun y hy => by omega)
                  · rw [if_neg hl2]
                    exact aw
          exact hloop a0.length 0 110 (by omega) (by omega) (by simp)
  exact ⟨110, key⟩
end Go.Proofs.Ytbogdbbmmlaohaa.Pure
