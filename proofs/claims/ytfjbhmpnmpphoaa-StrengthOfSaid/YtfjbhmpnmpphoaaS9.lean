/- Plain laws about the strength of boards: knots and stiffness. -/
import Derived.Test.YtfjbhmpnmpphoaaS8
namespace Go.Proofs.Ytfjbhmpnmpphoaa.Pure
open Go.Saw
set_option linter.unusedVariables false
/-- The width of a board. -/
def wid (a b c d : Int) : Int := mx (ln a b) (ln c d)
theorem ln_nonneg (a b : Int) (ha : -9223372036854775808 ≤ a ∧ a ≤ 9223372036854775807) (hb : -9223372036854775808 ≤ b ∧ b ≤ 9223372036854775807) : 0 ≤ ln a b := by
  unfold ln
  split
  · omega
  · split
    · rw [w_in (n := 9223372036854775807 + a) (by omega) (by omega)]
      split
      · omega
      · rw [w_in (by omega) (by omega)]; omega
    · rw [w_in (by omega) (by omega)]; omega
theorem ln_top {a b : Int} (ha : -9223372036854775808 ≤ a ∧ a ≤ 9223372036854775807) (hb : -9223372036854775808 ≤ b ∧ b ≤ 9223372036854775807) : ln a b ≤ 9223372036854775807 := by
  unfold ln
  split
  · omega
  · split
    · rw [w_in (n := 9223372036854775807 + a) (by omega) (by omega)]
      split
      · omega
      · rw [w_in (by omega) (by omega)]; omega
    · rw [w_in (by omega) (by omega)]; omega
theorem ln_zero {n : Int} (h : 0 ≤ n) (h' : n ≤ 9223372036854775807) : ln 0 n = n := by
  unfold ln
  split
  · omega
  · rw [if_neg (by omega), w_in (by omega) (by omega), Int.sub_zero]
theorem mx_comm (a b : Int) : mx a b = mx b a := by unfold mx; split <;> split <;> omega
/-- The part of the width that the knots take. -/
def kn (W w : Int) : Int := if w < 1 then 0 else mn (IntKind.i64.wrap (Int.tdiv (IntKind.i64.wrap (W * 1000)) w)) 1000
theorem mn_comm (a b : Int) : mn a b = mn b a := by unfold mn; split <;> split <;> omega
theorem kn_in {W w : Int} (hW : 0 ≤ W ∧ W ≤ 76800) (hw : 1 ≤ w ∧ w ≤ 1200) : kn W w = mn (W * 1000 / w) 1000 ∧ 0 ≤ W * 1000 / w ∧ W * 1000 / w ≤ 76800000 := by
  have h1 : 0 ≤ W * 1000 / w := Int.ediv_nonneg (by omega) (by omega)
  have h2 : W * 1000 / w ≤ W * 1000 := Int.ediv_le_self _ (by omega)
  refine ⟨?_, h1, by omega⟩
  unfold kn
  rw [if_neg (by omega), w_in (n := W * 1000) (by omega) (by omega), Int.tdiv_eq_ediv_of_nonneg (by omega), w_in (by omega) (by omega)]
theorem kn_bound {W w : Int} (hW : 0 ≤ W ∧ W ≤ 76800) (hw : 1 ≤ w ∧ w ≤ 1200) : 0 ≤ kn W w ∧ kn W w ≤ 1000 := by
  obtain ⟨h1, h2, h3⟩ := kn_in hW hw
  rw [h1]
  unfold mn
  split <;> omega
theorem kn_mono {W W' w : Int} (hW : 0 ≤ W ∧ W ≤ 76800) (hW' : 0 ≤ W' ∧ W' ≤ 76800) (h : W ≤ W') (hw : 1 ≤ w ∧ w ≤ 1200) : kn W w ≤ kn W' w := by
  rw [(kn_in hW hw).1, (kn_in hW' hw).1]
  have : W * 1000 / w ≤ W' * 1000 / w := Int.ediv_le_ediv (by omega) (by omega)
  unfold mn
  split <;> split <;> omega
/-- The stiffness of wood with knots k and the moisture m. -/
def stf (stiff loss k m : Int) : Int := mx 0 (IntKind.i64.wrap (Int.tdiv (IntKind.i64.wrap ((IntKind.i64.wrap (Int.tdiv (IntKind.i64.wrap (stiff * (IntKind.i64.wrap (1000 - (IntKind.i64.wrap (Int.tdiv (IntKind.i64.wrap (loss * k)) 1000)))))) 1000)) * (IntKind.i64.wrap (10000 - (mx 0 (IntKind.i64.wrap (m - 1200))))))) 10000))
theorem stf_in {s q k m : Int} (hs : 1000 ≤ s ∧ s ≤ 30000) (hq : 0 ≤ q ∧ q ≤ 1000) (hk : 0 ≤ k ∧ k ≤ 1000) (hm : 0 ≤ m ∧ m ≤ 20000) :
    ∃ g n c : Int, g = q * k / 1000 ∧ 0 ≤ g ∧ g ≤ 1000 ∧ n = s * (1000 - g) / 1000 ∧ 0 ≤ n ∧ n ≤ s ∧ c = 10000 - mx 0 (m - 1200) ∧ -10000 ≤ c ∧ c ≤ 10000 ∧ (c ≤ 0 → stf s q k m = 0) ∧ (0 ≤ c → stf s q k m = n * c / 10000) := by
  have a1 : 0 ≤ q * k := Int.mul_nonneg hq.1 hk.1
  have a2 : q * k ≤ 1000 * 1000 := Int.mul_le_mul hq.2 hk.2 hk.1 (by omega)
  have b1 : 0 ≤ q * k / 1000 ∧ q * k / 1000 ≤ 1000 := by omega
  have e1 : IntKind.i64.wrap (Int.tdiv (IntKind.i64.wrap (q * k)) 1000) = q * k / 1000 := by
    rw [w_in (n := q * k) (by omega) (by omega), Int.tdiv_eq_ediv_of_nonneg a1, w_in (by omega) (by omega)]
  generalize hg : q * k / 1000 = g at b1 e1
  have a3 : 0 ≤ s * (1000 - g) := Int.mul_nonneg (by omega) (by omega)
  have a4 : s * (1000 - g) ≤ s * 1000 := Int.mul_le_mul_of_nonneg_left (by omega) (by omega)
  have b2 : 0 ≤ s * (1000 - g) / 1000 ∧ s * (1000 - g) / 1000 ≤ s := by omega
  have e2 : IntKind.i64.wrap (Int.tdiv (IntKind.i64.wrap (s * (IntKind.i64.wrap (1000 - g)))) 1000) = s * (1000 - g) / 1000 := by
    rw [w_in (n := 1000 - g) (by omega) (by omega), w_in (n := s * (1000 - g)) (by omega) (by omega), Int.tdiv_eq_ediv_of_nonneg a3, w_in (by omega) (by omega)]
  generalize hn : s * (1000 - g) / 1000 = n at b2 e2
  have b3 : 0 ≤ mx 0 (m - 1200) ∧ mx 0 (m - 1200) ≤ 18800 := by unfold mx; split <;> omega
  have e3 : IntKind.i64.wrap (10000 - (mx 0 (IntKind.i64.wrap (m - 1200)))) = 10000 - mx 0 (m - 1200) := by
    rw [w_in (n := m - 1200) (by omega) (by omega), w_in (by omega) (by omega)]
  generalize hc : 10000 - mx 0 (m - 1200) = c at e3
  have b4 : -10000 ≤ c ∧ c ≤ 10000 := by omega
  have es : stf s q k m = mx 0 (IntKind.i64.wrap (Int.tdiv (IntKind.i64.wrap (n * c)) 10000)) := by
    unfold stf
    rw [e1, e2, e3]
  have a5 : n * c ≤ 30000 * 10000 := Int.le_trans (Int.mul_le_mul_of_nonneg_left b4.2 b2.1) (Int.mul_le_mul_of_nonneg_right (by omega) (by omega))
  have a6 : -(30000 * 10000) ≤ n * c := by
    have h1 : n * -10000 ≤ n * c := Int.mul_le_mul_of_nonneg_left b4.1 b2.1
    omega
  refine ⟨g, n, c, rfl, b1.1, b1.2, hn.symm, b2.1, b2.2, rfl, b4.1, b4.2, fun h => ?_, fun h => ?_⟩
  · have h1 : n * c ≤ n * 0 := Int.mul_le_mul_of_nonneg_left h b2.1
    rw [Int.mul_zero] at h1
    have h2 : Int.tdiv (n * c) 10000 = -((-(n * c)) / 10000) := by
      rw [← Int.tdiv_eq_ediv_of_nonneg (by omega), Int.neg_tdiv, Int.neg_neg]
    rw [es, w_in (n := n * c) (by omega) (by omega), h2, w_in (by omega) (by omega)]
    unfold mx
    split <;> omega
  · have h1 : 0 ≤ n * c := Int.mul_nonneg b2.1 h
    rw [es, w_in (n := n * c) (by omega) (by omega), Int.tdiv_eq_ediv_of_nonneg h1, w_in (by omega) (by omega)]
    unfold mx
    split <;> omega
theorem stf_bound {s q k m : Int} (hs : 1000 ≤ s ∧ s ≤ 30000) (hq : 0 ≤ q ∧ q ≤ 1000) (hk : 0 ≤ k ∧ k ≤ 1000) (hm : 0 ≤ m ∧ m ≤ 20000) : 0 ≤ stf s q k m ∧ stf s q k m ≤ s := by
  obtain ⟨g, n, c, _, _, _, _, h1, h2, _, h3, h4, h5, h6⟩ := stf_in hs hq hk hm
  by_cases hc : c ≤ 0
  · rw [h5 hc]; omega
  · rw [h6 (by omega)]
    have a1 : 0 ≤ n * c := Int.mul_nonneg h1 (by omega)
    have a2 : n * c ≤ n * 10000 := Int.mul_le_mul_of_nonneg_left h4 h1
    omega
/-- More knots and more moisture do not make wood stiffer. -/
theorem stf_mono {s q k m k' m' : Int} (hs : 1000 ≤ s ∧ s ≤ 30000) (hq : 0 ≤ q ∧ q ≤ 1000) (hk : 0 ≤ k ∧ k ≤ 1000) (hm : 0 ≤ m ∧ m ≤ 20000) (hk' : 0 ≤ k' ∧ k' ≤ 1000) (hm' : 0 ≤ m' ∧ m' ≤ 20000) (h1 : k ≤ k') (h2 : m ≤ m') : stf s q k' m' ≤ stf s q k m := by
  have hb := stf_bound hs hq hk hm
  obtain ⟨g, n, c, eg, g0, g1, en, n0, n1, ec, c0, c1, h5, h6⟩ := stf_in hs hq hk hm
  obtain ⟨g', n', c', eg', g0', g1', en', n0', n1', ec', c0', c1', h5', h6'⟩ := stf_in hs hq hk' hm'
  by_cases hc : c' ≤ 0
  · rw [h5' hc]; omega
  · have hcc : c' ≤ c := by
      have : mx 0 (m - 1200) ≤ mx 0 (m' - 1200) := by unfold mx; split <;> split <;> omega
      omega
    rw [h6' (by omega), h6 (by omega)]
    have hgg : g ≤ g' := by
      have : q * k ≤ q * k' := Int.mul_le_mul_of_nonneg_left h1 hq.1
      omega
    have hnn : n' ≤ n := by
      have : s * (1000 - g') ≤ s * (1000 - g) := Int.mul_le_mul_of_nonneg_left (by omega) (by omega)
      omega
    have : n' * c' ≤ n * c := Int.mul_le_mul hnn hcc (by omega) n0
    omega
/-- The moisture of a board. -/
def mean (a b : Int) : Int := (a + 2 * b) / 3
theorem mean_in {a b c : Int} (ha : 0 ≤ a ∧ a ≤ 20000) (hb : 0 ≤ b ∧ b ≤ 20000) (hc : 0 ≤ c ∧ c ≤ 1099511627776) : moist_Mean.f a b c = some (mean a b) ∧ sawmillref36_Mean.f a b c = some (mean a b) ∧ 0 ≤ mean a b ∧ mean a b ≤ 20000 := by
  have e : IntKind.i64.wrap (Int.tdiv (IntKind.i64.wrap (a + (IntKind.i64.wrap (2 * b)))) 3) = mean a b := by
    unfold mean
    rw [w_in (n := 2 * b) (by omega) (by omega), w_in (n := a + 2 * b) (by omega) (by omega), Int.tdiv_eq_ediv_of_nonneg (by omega), w_in (by omega) (by omega)]
  have h1 : moist_Check.f a b c = some 0 := by
    unfold moist_Check.f mn mx
    rw [if_neg (by split <;> omega), if_neg (by split <;> omega), if_neg (by omega), if_neg (by omega)]
  have h2 : sawmillref36_Check.f a b c = some 0 := by
    unfold sawmillref36_Check.f
    rw [if_neg (by omega), if_neg (by omega), if_neg (by omega), if_neg (by omega), if_neg (by omega), if_neg (by omega)]
  refine ⟨?_, ?_, ?_, ?_⟩
  · unfold moist_Mean.f
    rw [h1, Option.bind_some, if_pos rfl, e]
  · unfold sawmillref36_Mean.f
    rw [h2, Option.bind_some, if_pos rfl, e]
  · unfold mean; omega
  · unfold mean; omega
theorem check36 {a b c : Int} : ∃ n, sawmillref36_Check.f a b c = some n ∧ (n = 0 → (0 ≤ a ∧ a ≤ 20000) ∧ (0 ≤ b ∧ b ≤ 20000) ∧ (0 ≤ c ∧ c ≤ 1099511627776)) := by
  unfold sawmillref36_Check.f
  repeat' split
  all_goals exact ⟨_, rfl, by omega⟩
theorem name_some (b : ByteArray) : ∃ t, sawmillref02_IsName.f 110 b = some t := by
  unfold sawmillref02_IsName.f
  split
  · exact ⟨_, rfl⟩
  · split
    · exact ⟨_, rfl⟩
    · have hloop : ∀ (d i j : Nat), i + d = b.size → d < j → ∃ t, sawmillref02_IsName.l0 110 b j i = some t := by
        intro d
        induction d with
        | zero =>
          intro i j hd hj
          obtain ⟨j, rfl⟩ : ∃ k, j = k + 1 := ⟨j - 1, by omega⟩
          simp only [sawmillref02_IsName.l0]
          rw [if_neg (by omega)]
          exact ⟨_, rfl⟩
        | succ d ih =>
          intro i j hd hj
          obtain ⟨j, rfl⟩ : ∃ k, j = k + 1 := ⟨j - 1, by omega⟩
          have ih := ih (i + 1) j (by omega) (by omega)
          have hlt : i < b.size := by omega
          simp only [sawmillref02_IsName.l0]
          obtain ⟨c, hc⟩ : ∃ c, sidx b (i : Int) = some c := by
            unfold sidx
            rw [if_pos (by omega), Int.toNat_natCast, getElem?_pos b i hlt]
            exact ⟨_, rfl⟩
          have hd : ∃ t, sawmillref02_digit.f c = some t := by
            unfold sawmillref02_digit.f
            split <;> exact ⟨_, rfl⟩
          obtain ⟨t, ht⟩ := hd
          rw [if_pos (by omega), hc, Option.bind_some, ht, w_in (by omega) (by omega), show (i : Int) + 1 = ((i + 1 : Nat) : Int) by omega]
          simp only [Option.bind_some]
          repeat' split
          all_goals first | exact ih | exact ⟨_, rfl⟩
      exact hloop b.size 0 110 (by omega) (by omega)
theorem valid_in (n : ByteArray) (b c d e f g h i j k l m : Int) : ∃ t, sawmillref34_valid.f n b c d e f g h i j k l m = some t ∧ (t = true → (1000 ≤ k ∧ k ≤ 30000) ∧ (0 ≤ l ∧ l ≤ 1000)) := by
  have hin : ∀ a b c, sawmillref34_from.f a b c = some (decide (b ≤ a ∧ a ≤ c)) := by
    intro a b c
    unfold sawmillref34_from.f
    split
    · congr 1; rw [decide_eq_decide]; omega
    · congr 1; symm; rw [decide_eq_false_iff_not]; omega
  unfold sawmillref34_valid.f
  simp only [hin, Option.bind_some, decide_eq_true_eq]
  repeat' split
  all_goals refine ⟨_, rfl, fun hh => ?_⟩
  all_goals first | omega | cases hh
theorem check34 (n : ByteArray) (b c d e f g h i j' k l m : Int) : ∃ t, sawmillref34_Check.f 110 ([(n, b, c, d, e, f, g, h, i, j', k, l, m)] : List E32) = some t ∧ (t = 0 → (1000 ≤ k ∧ k ≤ 30000) ∧ (0 ≤ l ∧ l ≤ 1000)) := by
  unfold sawmillref34_Check.f
  obtain ⟨t, ht⟩ := name_some n
  obtain ⟨v, hv, hv'⟩ := valid_in n b c d e f g h i j' k l m
  have h0 : idx ([(n, b, c, d, e, f, g, h, i, j', k, l, m)] : List E32) 0 = some (n, b, c, d, e, f, g, h, i, j', k, l, m) := rfl
  have h1 : ∀ j, sawmillref34_Check.l0 110 ([(n, b, c, d, e, f, g, h, i, j', k, l, m)] : List E32) (j + 1) 1 = some 0 := fun j => by
    rw [sawmillref34_Check.l0, if_neg (by simp)]
  have h2 : ∀ (kont : Int → Option Int) (j : Nat), sawmillref34_Check.l1 110 ([(n, b, c, d, e, f, g, h, i, j', k, l, m)] : List E32) 0 n kont (j + 1) 0 = kont 0 := fun kont j => by
    rw [sawmillref34_Check.l1, if_neg (by omega)]
  rw [if_neg (by simp), sawmillref34_Check.l0, if_pos (by simp), h0, Option.bind_some, ht, Option.bind_some]
  cases t with
  | false => exact ⟨6, by simp, by omega⟩
  | true =>
    rw [if_pos rfl, h2, hv, Option.bind_some]
    cases v with
    | false => exact ⟨9, by simp, by omega⟩
    | true => 
      rw [if_pos rfl, show IntKind.i64.wrap (0 + 1) = 1 by rw [w_eq]; rfl, h1]
      exact ⟨0, rfl, fun _ => hv' rfl⟩
/-- What is asked of a board and a species. -/
structure Rgt (l : List E41) (a b c d s1 s2 s3 k q : Int) : Prop where
  l : chk l = 0
  w : 1 ≤ wid a b c d ∧ wid a b c d ≤ 1200
  s1 : 0 ≤ s1 ∧ s1 ≤ 20000
  s2 : 0 ≤ s2 ∧ s2 ≤ 20000
  s3 : 0 ≤ s3 ∧ s3 ≤ 1099511627776
  k : 1000 ≤ k ∧ k ≤ 30000
  q : 0 ≤ q ∧ q ≤ 1000
theorem right_b (a0_0 a0_1 a0_2 : ByteArray) (a0_3 a0_4 a0_5 a0_6 a0_7 a0_8 a0_9 a0_10 : Int) (a0_11 : List E41) (a0_12 a0_13 a0_14 a0_15 : Int) (a0_16 : Bool) (a0_17 : Int) (a1_0 : ByteArray) (a1_1 a1_2 a1_3 a1_4 a1_5 a1_6 a1_7 a1_8 a1_9 a1_10 a1_11 a1_12 : Int) :
    ∃ t, sawmillref41_Right.f 110 a0_0 a0_1 a0_2 a0_3 a0_4 a0_5 a0_6 a0_7 a0_8 a0_9 a0_10 a0_11 a0_12 a0_13 a0_14 a0_15 a0_16 a0_17 a1_0 a1_1 a1_2 a1_3 a1_4 a1_5 a1_6 a1_7 a1_8 a1_9 a1_10 a1_11 a1_12 = some t ∧ (t = true → Rgt a0_11 a0_4 a0_5 a0_6 a0_7 a0_13 a0_14 a0_15 a1_10 a1_11) := by
  unfold sawmillref41_Right.f sawmillref41_Width.f
  obtain ⟨n, hn, hn'⟩ := check36 (a := a0_13) (b := a0_14) (c := a0_15)
  obtain ⟨t, ht, ht'⟩ := check34 a1_0 a1_1 a1_2 a1_3 a1_4 a1_5 a1_6 a1_7 a1_8 a1_9 a1_10 a1_11 a1_12
  rw [check_b, Option.bind_some, ln_b, Option.bind_some, ln_b, Option.bind_some, Option.bind_some, hn, Option.bind_some, ht, Option.bind_some]
  by_cases h1 : chk a0_11 = 0
  · rw [if_pos h1]
    by_cases h2 : 1 ≤ mx (ln a0_4 a0_5) (ln a0_6 a0_7)
    · rw [if_pos h2]
      by_cases h3 : mx (ln a0_4 a0_5) (ln a0_6 a0_7) ≤ 1200
      · rw [if_pos h3]
        by_cases h4 : n = 0
        · rw [if_pos h4]
          refine ⟨_, rfl, fun h => ?_⟩
          have h5 : t = 0 := by simpa using h
          obtain ⟨g1, g2, g3⟩ := hn' h4
          exact ⟨h1, ⟨h2, h3⟩, g1, g2, g3, (ht' h5).1, (ht' h5).2⟩
        · rw [if_neg h4]; exact ⟨_, rfl, by simp⟩
      · rw [if_neg h3]; exact ⟨_, rfl, by simp⟩
    · rw [if_neg h2]; exact ⟨_, rfl, by simp⟩
  · rw [if_neg h1]; exact ⟨_, rfl, by simp⟩
theorem knots_a (a0_0 a0_1 a0_2 : ByteArray) (a0_3 a0_4 a0_5 a0_6 a0_7 a0_8 a0_9 a0_10 : Int) (a0_11 : List E41) (a0_12 a0_13 a0_14 a0_15 : Int) (a0_16 : Bool) (a0_17 : Int) :
    strength_Knots.f 110 a0_0 a0_1 a0_2 a0_3 a0_4 a0_5 a0_6 a0_7 a0_8 a0_9 a0_10 a0_11 a0_12 a0_13 a0_14 a0_15 a0_16 a0_17 = some (kn (wst a0_11 150) (wid a0_4 a0_5 a0_6 a0_7)) := by
  unfold strength_Knots.f kn wid
  rw [ln_a, Option.bind_some, ln_a, Option.bind_some, worst_a, Option.bind_some]
  split
  · rfl
  · rw [if_neg (by omega)]
theorem knots_b (a0_0 a0_1 a0_2 : ByteArray) (a0_3 a0_4 a0_5 a0_6 a0_7 a0_8 a0_9 a0_10 : Int) (a0_11 : List E41) (a0_12 a0_13 a0_14 a0_15 : Int) (a0_16 : Bool) (a0_17 : Int) :
    sawmillref41_Knots.f 110 a0_0 a0_1 a0_2 a0_3 a0_4 a0_5 a0_6 a0_7 a0_8 a0_9 a0_10 a0_11 a0_12 a0_13 a0_14 a0_15 a0_16 a0_17 = some (kn (wst a0_11 150) (wid a0_4 a0_5 a0_6 a0_7)) := by
  unfold sawmillref41_Knots.f sawmillref41_Width.f kn wid
  rw [ln_b, Option.bind_some, ln_b, Option.bind_some, Option.bind_some, worst_b, Option.bind_some]
  split
  · rfl
  · rw [if_neg (by omega), mn_comm]
theorem stiff_a (a0_0 a0_1 a0_2 : ByteArray) (a0_3 a0_4 a0_5 a0_6 a0_7 a0_8 a0_9 a0_10 : Int) (a0_11 : List E41) (a0_12 a0_13 a0_14 a0_15 : Int) (a0_16 : Bool) (a0_17 : Int) (a1_0 : ByteArray) (a1_1 a1_2 a1_3 a1_4 a1_5 a1_6 a1_7 a1_8 a1_9 a1_10 a1_11 a1_12 : Int)
    (h1 : 0 ≤ a0_13 ∧ a0_13 ≤ 20000) (h2 : 0 ≤ a0_14 ∧ a0_14 ≤ 20000) (h3 : 0 ≤ a0_15 ∧ a0_15 ≤ 1099511627776) :
    strength_Stiffness.f 110 a0_0 a0_1 a0_2 a0_3 a0_4 a0_5 a0_6 a0_7 a0_8 a0_9 a0_10 a0_11 a0_12 a0_13 a0_14 a0_15 a0_16 a0_17 a1_0 a1_1 a1_2 a1_3 a1_4 a1_5 a1_6 a1_7 a1_8 a1_9 a1_10 a1_11 a1_12 = some (stf a1_10 a1_11 (kn (wst a0_11 150) (wid a0_4 a0_5 a0_6 a0_7)) (mean a0_13 a0_14)) := by
  unfold strength_Stiffness.f stf
  rw [knots_a, Option.bind_some, (mean_in h1 h2 h3).1, Option.bind_some]
theorem stiff_b (a0_0 a0_1 a0_2 : ByteArray) (a0_3 a0_4 a0_5 a0_6 a0_7 a0_8 a0_9 a0_10 : Int) (a0_11 : List E41) (a0_12 a0_13 a0_14 a0_15 : Int) (a0_16 : Bool) (a0_17 : Int) (a1_0 : ByteArray) (a1_1 a1_2 a1_3 a1_4 a1_5 a1_6 a1_7 a1_8 a1_9 a1_10 a1_11 a1_12 : Int)
    (h1 : 0 ≤ a0_13 ∧ a0_13 ≤ 20000) (h2 : 0 ≤ a0_14 ∧ a0_14 ≤ 20000) (h3 : 0 ≤ a0_15 ∧ a0_15 ≤ 1099511627776) :
    sawmillref41_Stiffness.f 110 a0_0 a0_1 a0_2 a0_3 a0_4 a0_5 a0_6 a0_7 a0_8 a0_9 a0_10 a0_11 a0_12 a0_13 a0_14 a0_15 a0_16 a0_17 a1_0 a1_1 a1_2 a1_3 a1_4 a1_5 a1_6 a1_7 a1_8 a1_9 a1_10 a1_11 a1_12 = some (stf a1_10 a1_11 (kn (wst a0_11 150) (wid a0_4 a0_5 a0_6 a0_7)) (mean a0_13 a0_14)) := by
  unfold sawmillref41_Stiffness.f stf
  rw [knots_b, Option.bind_some, (mean_in h1 h2 h3).2.1, Option.bind_some]
end Go.Proofs.Ytfjbhmpnmpphoaa.Pure
