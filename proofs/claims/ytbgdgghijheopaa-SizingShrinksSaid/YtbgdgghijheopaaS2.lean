/- Plain laws about the allowance, and about how sizes depend on moisture, shrinkage and size. -/
import Derived.Test.YtbgdgghijheopaaS
namespace Go.Proofs.Ytbgdgghijheopaa.Pure
open Go.Saw
set_option linter.unusedVariables false

theorem shr_in {k size m : Int} (h1 : 0 ≤ size) (h2 : size ≤ 20000) (h3 : 0 ≤ k) (h4 : k ≤ 200) : shr k size m = size - size * k * (3000 - mn (mx m 0) 3000) / 3000000 := by
  unfold shr; rw [if_neg (by omega)]
theorem shr_out {k size m : Int} (h : ¬ (0 ≤ k ∧ k ≤ 200)) : shr k size m = size := by
  unfold shr; rw [if_pos (by omega)]
theorem quo_bd {z : Int} (h1 : 0 ≤ z) (h2 : z ≤ 12000000000) : 0 ≤ z / 3000000 ∧ z / 3000000 ≤ 4000 := by omega
/-- Moister wood is not smaller. -/
theorem shr_moist {k size m m' : Int} (h : m ≤ m') : shr k size m ≤ shr k size m' := by
  by_cases hs : 0 ≤ size ∧ size ≤ 20000
  · by_cases hk : 0 ≤ k ∧ k ≤ 200
    · rw [shr_in hs.1 hs.2 hk.1 hk.2, shr_in hs.1 hs.2 hk.1 hk.2]
      have c1 := clamp_in m
      have c2 := clamp_in m'
      have c3 : mn (mx m 0) 3000 ≤ mn (mx m' 0) 3000 := by unfold mn mx; repeat' split <;> omega
      have a1 := Int.mul_nonneg hs.1 hk.1
      have : size * k * (3000 - mn (mx m' 0) 3000) ≤ size * k * (3000 - mn (mx m 0) 3000) := Int.mul_le_mul_of_nonneg_left (by omega) a1
      have := Int.ediv_le_ediv (c := 3000000) (by omega) this
      omega
    · rw [shr_out hk, shr_out hk]; exact Int.le_refl _
  · unfold shr; rw [if_pos (by omega), if_pos (by omega)]; exact Int.le_refl _
/-- Wood that shrinks more is not greater. -/
theorem shr_more {k k' size m : Int} (h0 : 0 ≤ k) (h : k ≤ k') (h1 : k' ≤ 200) : shr k' size m ≤ shr k size m := by
  by_cases hs : 0 ≤ size ∧ size ≤ 20000
  · rw [shr_in hs.1 hs.2 (by omega) h1, shr_in hs.1 hs.2 h0 (by omega)]
    have c1 := clamp_in m
    have a1 : size * k ≤ size * k' := Int.mul_le_mul_of_nonneg_left h hs.1
    have : size * k * (3000 - mn (mx m 0) 3000) ≤ size * k' * (3000 - mn (mx m 0) 3000) := Int.mul_le_mul_of_nonneg_right a1 (by omega)
    have := Int.ediv_le_ediv (c := 3000000) (by omega) this
    omega
  · unfold shr; rw [if_pos (by omega), if_pos (by omega)]; exact Int.le_refl _
/-- A greater size stays the greater one. -/
theorem shr_size {k size size' m : Int} (h0 : 0 ≤ size) (h : size ≤ size') (h1 : size' ≤ 20000) : shr k size m ≤ shr k size' m := by
  by_cases hk : 0 ≤ k ∧ k ≤ 200
  · rw [shr_in h0 (by omega) hk.1 hk.2, shr_in (by omega) h1 hk.1 hk.2]
    have c1 := clamp_in m
    generalize mn (mx m 0) 3000 = q at *
    have hc : k * (3000 - q) ≤ 3000000 := by
      have : k * (3000 - q) ≤ 200 * 3000 := Int.mul_le_mul hk.2 (by omega) (by omega) (by omega)
      omega
    rw [Int.mul_assoc, Int.mul_assoc]
    generalize k * (3000 - q) = c at *
    have e : size' * c = size * c + (size' - size) * c := by rw [← Int.add_mul]; congr 1; omega
    have : (size' - size) * c ≤ (size' - size) * 3000000 := Int.mul_le_mul_of_nonneg_left hc (by omega)
    have h3 : size' * c ≤ size * c + (size' - size) * 3000000 := by omega
    have := Int.ediv_le_ediv (c := 3000000) (by omega) h3
    rw [Int.add_mul_ediv_right _ _ (by omega)] at this
    omega
  · rw [shr_out hk, shr_out hk]; exact h
theorem shr_le {k size m : Int} (h0 : 0 ≤ size) (h1 : size ≤ 20000) : 0 ≤ shr k size m ∧ shr k size m ≤ size := by
  by_cases hk : 0 ≤ k ∧ k ≤ 200
  · have a := shr_size (k := k) (m := m) (Int.le_refl 0) h0 h1
    have z : shr k 0 m = 0 := by rw [shr_in (by omega) (by omega) hk.1 hk.2]; simp
    rw [z] at a
    refine ⟨a, ?_⟩
    rw [shr_in h0 h1 hk.1 hk.2]
    have c1 := clamp_in m
    obtain ⟨_, _, p3, p4⟩ := prod_in (d := 3000 - mn (mx m 0) 3000) h0 h1 hk.1 hk.2 (by omega) (by omega)
    have := quo_bd p3 p4
    omega
  · rw [shr_out hk]; omega
theorem shr_moist_all {k size m : Int} (h : 3000 ≤ m) : shr k size m = size := by
  unfold shr
  have : mn (mx m 0) 3000 = 3000 := by unfold mn mx; repeat' split <;> omega
  rw [this]
  split
  · rfl
  · simp

/-- The green size of a dimension at an allowance. -/
def gr (n a : Int) : Int := (n * (1000 + a) + 999) / 1000
theorem gr_mul {n a : Int} (h1 : 1 ≤ n) (h2 : n ≤ 600) (h3 : 0 ≤ a) (h4 : a ≤ 200) : 1000 ≤ n * (1000 + a) ∧ n * (1000 + a) ≤ 720000 := by
  constructor
  · have : 1 * 1000 ≤ n * (1000 + a) := Int.mul_le_mul h1 (by omega) (by omega) (by omega)
    omega
  · have : n * (1000 + a) ≤ 600 * 1200 := Int.mul_le_mul h2 (by omega) (by omega) (by omega)
    omega
theorem gr_in {n a : Int} (h1 : 1 ≤ n) (h2 : n ≤ 600) (h3 : 0 ≤ a) (h4 : a ≤ 200) : n ≤ gr n a ∧ gr n a ≤ 720 := by
  have := gr_mul h1 h2 h3 h4
  have h5 : n * 1000 ≤ n * (1000 + a) := Int.mul_le_mul_of_nonneg_left (by omega) (by omega)
  unfold gr
  generalize n * (1000 + a) = z at *
  omega
theorem gr_mono {n n' a : Int} (h : n ≤ n') (h3 : 0 ≤ a) : gr n a ≤ gr n' a := by
  have h5 : n * (1000 + a) ≤ n' * (1000 + a) := Int.mul_le_mul_of_nonneg_right h (by omega)
  unfold gr
  exact Int.ediv_le_ediv (by omega) (by omega)
theorem floor_eq {n : Int} (h : 0 ≤ n) (h' : n ≤ 1000000) : units_Floor.f n 1000 = some (n / 1000, true) := by
  have hf : ∀ a b, units_Floor_1.f a b = some false := fun _ _ => rfl
  have e1 : Int.tdiv n 1000 = n / 1000 := Int.tdiv_eq_ediv_of_nonneg h
  have e2 : Int.tmod n 1000 = n % 1000 := Int.tmod_eq_emod_of_nonneg h
  unfold units_Floor.f units_division_of__42.f
  simp only [hf, e1, e2, Option.bind_some]
  rw [w_in (n := n / 1000) (by omega) (by omega)]
  have e4 : decide (n % 1000 < 0) = decide ((1000 : Int) < 0) := by rw [decide_eq_decide]; omega
  simp only [e4]
  simp
theorem green_eq {T W a : Int} (n0 : ByteArray) (x : Int) (h1 : 1 ≤ T) (h2 : T ≤ 600) (h3 : 1 ≤ W) (h4 : W ≤ 600) (h5 : 0 ≤ a) (h6 : a ≤ 200) : product_Green.f n0 T W a x = some (gr T a, gr W a) := by
  have g1 := gr_mul h1 h2 h5 h6
  have g2 := gr_mul h3 h4 h5 h6
  unfold product_Green.f
  rw [if_neg (by unfold mn; split <;> omega), if_neg (by unfold mx; split <;> omega), if_neg (by omega), if_neg (by omega), w_in (n := 1000 + a) (by omega) (by omega), w_in (n := T * (1000 + a)) (by omega) (by omega), w_in (n := W * (1000 + a)) (by omega) (by omega)]
  unfold gr
  generalize T * (1000 + a) = t at *
  generalize W * (1000 + a) = w at *
  rw [w_in (n := t + 1000) (by omega) (by omega), w_in (n := w + 1000) (by omega) (by omega), w_in (n := t + 1000 - 1) (by omega) (by omega), w_in (n := w + 1000 - 1) (by omega) (by omega), floor_eq (by omega) (by omega), floor_eq (by omega) (by omega)]
  simp only [Option.bind_some]
  congr 2 <;> (congr 1; omega)
theorem green_ref {T W a : Int} (n0 : ByteArray) (x : Int) (h1 : 1 ≤ T) (h2 : T ≤ 600) (h3 : 1 ≤ W) (h4 : W ≤ 600) (h5 : 0 ≤ a) (h6 : a ≤ 200) : sawmillref19_Green.f n0 T W a x = some (gr T a, gr W a) := by
  have g1 := gr_mul h1 h2 h5 h6
  have g2 := gr_mul h3 h4 h5 h6
  have hs : sawmillref19_sized.f n0 T W a x = some true := by
    unfold sawmillref19_sized.f
    rw [if_pos h1, if_pos h2, if_pos h3]; simp [h4]
  unfold sawmillref19_Green.f
  rw [hs]
  simp only [Option.bind_some, if_true]
  rw [if_neg (by omega), if_neg (by omega), w_in (n := 1000 + a) (by omega) (by omega), w_in (n := T * (1000 + a)) (by omega) (by omega), w_in (n := W * (1000 + a)) (by omega) (by omega)]
  unfold gr
  generalize T * (1000 + a) = t at *
  generalize W * (1000 + a) = w at *
  rw [w_in (n := t + 999) (by omega) (by omega), w_in (n := w + 999) (by omega) (by omega), Int.tdiv_eq_ediv_of_nonneg (by omega), Int.tdiv_eq_ediv_of_nonneg (by omega), w_in (by omega) (by omega), w_in (by omega) (by omega)]

/-- Is an allowance enough? -/
def enough (T W k m a : Int) : Prop := T ≤ shr k (gr T a) m ∧ W ≤ shr k (gr W a) m
instance (T W k m a : Int) : Decidable (enough T W k m a) := by unfold enough; infer_instance
/-- The least allowance from 'a' on, of 'd' of them. -/
def srch (T W k m : Int) : Nat → Int → Int
  | 0, _ => 201
  | d + 1, a => if enough T W k m a then a else srch T W k m d (a + 1)
theorem srch_spec (T W k m : Int) : ∀ (d : Nat) (a : Int), a + d = 201 → a ≤ srch T W k m d a ∧ srch T W k m d a ≤ 201 ∧ (srch T W k m d a ≤ 200 → enough T W k m (srch T W k m d a)) ∧ ∀ b, a ≤ b → b < srch T W k m d a → ¬ enough T W k m b
  | 0, a, h => by
    simp only [srch]
    refine ⟨by omega, by omega, fun h => absurd h (by omega), fun b h1 h2 => absurd h1 (by omega)⟩
  | d + 1, a, h => by
    simp only [srch]
    by_cases e : enough T W k m a
    · rw [if_pos e]
      exact ⟨by omega, by omega, fun _ => e, fun b h1 h2 => absurd h1 (by omega)⟩
    · rw [if_neg e]
      obtain ⟨h1, h2, h3, h4⟩ := srch_spec T W k m d (a + 1) (by omega)
      refine ⟨by omega, h2, h3, fun b hb1 hb2 => ?_⟩
      by_cases hba : b = a
      · subst hba; exact e
      · exact h4 b (by omega) hb2
/-- What is enough in the second case whenever it is in the first one: the least is no greater. -/
theorem srch_mono {T W k m k' m' : Int} (h : ∀ a, 0 ≤ a → enough T W k m a → enough T W k' m' a) : srch T W k' m' 201 0 ≤ srch T W k m 201 0 := by
  obtain ⟨a1, a2, a3, _⟩ := srch_spec T W k m 201 0 (by omega)
  obtain ⟨b1, b2, _, b4⟩ := srch_spec T W k' m' 201 0 (by omega)
  by_cases e : srch T W k m 201 0 ≤ 200
  · rcases Int.lt_or_le (srch T W k m 201 0) (srch T W k' m' 201 0) with hlt | hge
    · exact absurd (h _ a1 (a3 e)) (b4 _ a1 hlt)
    · exact hge
  · omega
section
variable (n0 s0 : ByteArray) (T W x3 x4 s1 s2 s3 s4 s5 s6 s7 s8 s9 s10 s11 k m : Int)
theorem allow_loop (h1 : 1 ≤ T) (h2 : T ≤ 600) (h3 : 1 ≤ W) (h4 : W ≤ 600) (K : Nat) : ∀ (d : Nat) (a : Int) (j : Nat), 0 ≤ a → a + d = 201 → d < j → sizing_Allow.l0 K n0 T W x4 s0 s1 s2 s3 s4 s5 s6 s7 s8 s9 s10 s11 k m j a = some (srch T W k m d a)
  | 0, a, j, ha, hd, hj => by
    obtain ⟨j, rfl⟩ : ∃ i, j = i + 1 := ⟨j - 1, by omega⟩
    simp only [sizing_Allow.l0, srch]
    rw [if_neg (by omega)]
  | d + 1, a, j, ha, hd, hj => by
    obtain ⟨j, rfl⟩ : ∃ i, j = i + 1 := ⟨j - 1, by omega⟩
    have ih := allow_loop h1 h2 h3 h4 K d (a + 1) j (by omega) (by omega) (by omega)
    simp only [sizing_Allow.l0, srch]
    rw [if_pos (by omega), green_eq n0 x4 h1 h2 h3 h4 ha (by omega)]
    simp only [Option.bind_some, shr_a]
    rw [w_in (n := a + 1) (by omega) (by omega), ih]
    split
    · rw [if_neg (by unfold enough; omega)]
    · split
      · rw [if_neg (by unfold enough; omega)]
      · rw [if_pos (by unfold enough; omega)]
theorem allow_loop_ref (h1 : 1 ≤ T) (h2 : T ≤ 600) (h3 : 1 ≤ W) (h4 : W ≤ 600) (K : Nat) : ∀ (d : Nat) (a : Int) (j : Nat), 0 ≤ a → a + d = 201 → d < j → sawmillref39_Allow.l0 K T W s0 s1 s2 s3 s4 s5 s6 s7 s8 s9 s10 s11 k m j a = some (srch T W k m d a)
  | 0, a, j, ha, hd, hj => by
    obtain ⟨j, rfl⟩ : ∃ i, j = i + 1 := ⟨j - 1, by omega⟩
    simp only [sawmillref39_Allow.l0, srch]
    rw [if_neg (by omega)]
  | d + 1, a, j, ha, hd, hj => by
    obtain ⟨j, rfl⟩ : ∃ i, j = i + 1 := ⟨j - 1, by omega⟩
    have ih := allow_loop_ref h1 h2 h3 h4 K d (a + 1) j (by omega) (by omega) (by omega)
    simp only [sawmillref39_Allow.l0, srch]
    rw [if_pos (by omega), green_ref _ 0 h1 h2 h3 h4 ha (by omega)]
    simp only [Option.bind_some, shr_b]
    rw [w_in (n := a + 1) (by omega) (by omega), ih]
    split
    · split
      · rw [if_pos (by unfold enough; omega)]
      · rw [if_neg (by unfold enough; omega)]
    · rw [if_neg (by unfold enough; omega)]
/-- The allowance of a product. -/
def allow (T W k m : Int) : Int := if 1 ≤ T ∧ T ≤ 600 ∧ 1 ≤ W ∧ W ≤ 600 then srch T W k m 201 0 else 201
theorem allow_a : sizing_Allow.f 250 n0 T W x3 x4 s0 s1 s2 s3 s4 s5 s6 s7 s8 s9 s10 s11 k m = some (allow T W k m) := by
  unfold sizing_Allow.f allow
  by_cases h : 1 ≤ T ∧ T ≤ 600 ∧ 1 ≤ W ∧ W ≤ 600
  · obtain ⟨h1, h2, h3, h4⟩ := h
    rw [if_neg (by unfold mn; split <;> omega), if_neg (by unfold mx; split <;> omega), if_pos ⟨h1, h2, h3, h4⟩, allow_loop _ _ _ _ _ _ _ _ _ _ _ _ _ _ _ _ _ _ h1 h2 h3 h4 250 201 0 250 (by omega) (by omega) (by omega)]
  · rw [if_neg h]
    unfold mn mx
    repeat' split
    all_goals first | rfl | (exfalso; omega)
theorem allow_b : sawmillref39_Allow.f 250 n0 T W x3 x4 s0 s1 s2 s3 s4 s5 s6 s7 s8 s9 s10 s11 k m = some (allow T W k m) := by
  unfold sawmillref39_Allow.f allow
  by_cases h : 1 ≤ T ∧ T ≤ 600 ∧ 1 ≤ W ∧ W ≤ 600
  · obtain ⟨h1, h2, h3, h4⟩ := h
    rw [if_neg (by omega), if_neg (by omega), if_neg (by omega), if_neg (by omega), if_pos ⟨h1, h2, h3, h4⟩, allow_loop_ref _ _ _ _ _ _ _ _ _ _ _ _ _ _ _ _ h1 h2 h3 h4 250 201 0 250 (by omega) (by omega) (by omega)]
  · rw [if_neg h]
    repeat' split
    all_goals first | rfl | (exfalso; omega)
end
theorem wood_eq (s0 : ByteArray) (s1 s2 s3 s4 s5 s6 s7 s8 s9 s10 s11 k : Int) : sawmilllaw39_wood.f s0 s1 s2 s3 s4 s5 s6 s7 s8 s9 s10 s11 k = some (decide (0 ≤ k ∧ k ≤ 200)) := by
  unfold sawmilllaw39_wood.f
  split <;> first | (simp_all; done) | (simp_all; omega)
end Go.Proofs.Ytbgdgghijheopaa.Pure
