/- Plain laws about the sizing functions: what they come to, over whole numbers. -/
import Derived.Test.YtbgdgghijheopaaF1
import Derived.OpenShut
namespace Go.Proofs.Ytbgdgghijheopaa.Pure
open Go.Saw
set_option linter.unusedVariables false

theorem w_eq (n : Int) : IntKind.i64.wrap n = (n + 9223372036854775808) % 18446744073709551616 - 9223372036854775808 := by
  simp [IntKind.wrap, IntKind.bits, IntKind.signed]
  split <;> omega
theorem w_in {n : Int} (h : -9223372036854775808 ≤ n) (h' : n ≤ 9223372036854775807) : IntKind.i64.wrap n = n := by rw [w_eq]; omega
theorem w_bd (n : Int) : -9223372036854775808 ≤ IntKind.i64.wrap n ∧ IntKind.i64.wrap n ≤ 9223372036854775807 := by rw [w_eq]; omega

def chk (s c st : Int) : Int := if s < 0 ∨ 20000 < s ∨ c < 0 ∨ 20000 < c then 25 else if st < 0 ∨ 1099511627776 < st then 9 else 0
theorem chk_a (s c st : Int) : moist_Check.f s c st = some (chk s c st) := by
  unfold moist_Check.f chk mn mx
  repeat' split
  all_goals first | rfl | (exfalso; omega)
theorem chk_b (s c st : Int) : sawmillref36_Check.f s c st = some (chk s c st) := by
  unfold sawmillref36_Check.f chk
  repeat' split
  all_goals first | rfl | (exfalso; omega)
def mean (s c st : Int) : Int := if chk s c st = 0 then IntKind.i64.wrap (Int.tdiv (IntKind.i64.wrap (s + (IntKind.i64.wrap (2 * c)))) 3) else 0
theorem mean_a (s c st : Int) : moist_Mean.f s c st = some (mean s c st) := by
  unfold moist_Mean.f mean
  rw [chk_a, Option.bind_some]
  split <;> rfl
theorem mean_b (s c st : Int) : sawmillref36_Mean.f s c st = some (mean s c st) := by
  unfold sawmillref36_Mean.f mean
  rw [chk_b, Option.bind_some]
  split <;> rfl
theorem mean_in {s c st : Int} (h : chk s c st = 0) : mean s c st = (s + 2 * c) / 3 ∧ 0 ≤ s ∧ s ≤ 20000 ∧ 0 ≤ c ∧ c ≤ 20000 := by
  have h0 := h
  unfold chk at h
  split at h
  · cases h
  · rename_i h1
    have : 0 ≤ s ∧ s ≤ 20000 ∧ 0 ≤ c ∧ c ≤ 20000 := by omega
    unfold mean
    rw [if_pos h0, w_in (n := 2 * c) (by omega) (by omega), w_in (n := s + 2 * c) (by omega) (by omega), Int.tdiv_eq_ediv_of_nonneg (by omega), w_in (by omega) (by omega)]
    exact ⟨rfl, this⟩

/-- Are the ends of both spans in range, and is none empty? -/
def placed (x0 x1 y0 y1 : Int) : Prop := x0 < x1 ∧ -600 ≤ x0 ∧ x1 ≤ 600 ∧ y0 < y1 ∧ -600 ≤ y0 ∧ y1 ≤ 600
instance (x0 x1 y0 y1 : Int) : Decidable (placed x0 x1 y0 y1) := by unfold placed; infer_instance
theorem green_yes {x0 x1 y0 y1 : Int} (h : placed x0 x1 y0 y1) (a0 a1 a2 : ByteArray) (a3 a8 a9 a10 a12 a13 a14 a15 a17 : Int) (a16 : Bool) : sizing_green.f a0 a1 a2 a3 x0 x1 y0 y1 a8 a9 a10 a12 a13 a14 a15 a16 a17 = some (mn (x1 - x0) (y1 - y0), mx (x1 - x0) (y1 - y0), true) := by
  obtain ⟨h1, h2, h3, h4, h5, h6⟩ := h
  unfold sizing_green.f
  rw [if_neg (by omega), if_neg (by omega), if_neg (by unfold mn; split <;> omega), if_neg (by unfold mx; split <;> omega), w_in (by omega) (by omega), w_in (by omega) (by omega)]
theorem green_no {x0 x1 y0 y1 : Int} (h : ¬ placed x0 x1 y0 y1) (a0 a1 a2 : ByteArray) (a3 a8 a9 a10 a12 a13 a14 a15 a17 : Int) (a16 : Bool) : sizing_green.f a0 a1 a2 a3 x0 x1 y0 y1 a8 a9 a10 a12 a13 a14 a15 a16 a17 = some (0, 0, false) := by
  unfold placed at h
  unfold sizing_green.f mn mx
  repeat' split
  all_goals first | rfl | (exfalso; omega)
theorem sizes_yes {x0 x1 y0 y1 : Int} (h : placed x0 x1 y0 y1) (z0 z1 : Int) : sawmillref39_Sizes.f x0 x1 y0 y1 z0 z1 = some (mn (x1 - x0) (y1 - y0), mx (x1 - x0) (y1 - y0)) := by
  obtain ⟨h1, h2, h3, h4, h5, h6⟩ := h
  have e1 : sawmillref39_placed.f x0 x1 = some true := by unfold sawmillref39_placed.f; rw [if_pos h1, if_pos h2]; simp [h3]
  have e2 : sawmillref39_placed.f y0 y1 = some true := by unfold sawmillref39_placed.f; rw [if_pos h4, if_pos h5]; simp [h6]
  unfold sawmillref39_Sizes.f
  rw [e1, e2]
  simp only [Option.bind_some, if_true]
  rw [w_in (by omega) (by omega), w_in (by omega) (by omega)]
theorem sizes_no {x0 x1 y0 y1 : Int} (h : ¬ placed x0 x1 y0 y1) (z0 z1 : Int) : sawmillref39_Sizes.f x0 x1 y0 y1 z0 z1 = some (0, 0) := by
  have pl : ∀ a b, sawmillref39_placed.f a b = some (decide (a < b ∧ -600 ≤ a ∧ b ≤ 600)) := by
    intro a b
    unfold sawmillref39_placed.f
    repeat' split
    all_goals first | (simp_all; done) | (simp_all; omega)
  unfold placed at h
  unfold sawmillref39_Sizes.f
  rw [pl, pl]
  simp only [Option.bind_some, decide_eq_true_eq]
  repeat' split
  all_goals first | rfl | (exfalso; omega)

/-- What is left of a dimension: 'k' thousandths are lost. -/
def shr (k size m : Int) : Int :=
  if size < 0 ∨ 20000 < size ∨ k < 0 ∨ 200 < k then size
  else size - size * k * (3000 - mn (mx m 0) 3000) / 3000000
theorem clamp_in (m : Int) : 0 ≤ mn (mx m 0) 3000 ∧ mn (mx m 0) 3000 ≤ 3000 := by unfold mn mx; repeat' split <;> omega
theorem prod_in {size k d : Int} (h1 : 0 ≤ size) (h2 : size ≤ 20000) (h3 : 0 ≤ k) (h4 : k ≤ 200) (h5 : 0 ≤ d) (h6 : d ≤ 3000) : 0 ≤ size * k ∧ size * k ≤ 4000000 ∧ 0 ≤ size * k * d ∧ size * k * d ≤ 12000000000 := by
  have a1 := Int.mul_nonneg h1 h3
  have a2 : size * k ≤ 20000 * 200 := Int.mul_le_mul h2 h4 h3 (by omega)
  have a3 := Int.mul_nonneg a1 h5
  have a4 : size * k * d ≤ 4000000 * 3000 := Int.mul_le_mul (by omega) h6 h5 (by omega)
  exact ⟨a1, by omega, a3, by omega⟩
theorem shr_core {size k d : Int} (h1 : 0 ≤ size) (h2 : size ≤ 20000) (h3 : 0 ≤ k) (h4 : k ≤ 200) (h5 : 0 ≤ d) (h6 : d ≤ 3000) :
    IntKind.i64.wrap (size - IntKind.i64.wrap (Int.tdiv (IntKind.i64.wrap (IntKind.i64.wrap (size * k) * IntKind.i64.wrap d)) 3000000)) = size - size * k * d / 3000000 := by
  obtain ⟨a1, a2, a3, a4⟩ := prod_in h1 h2 h3 h4 h5 h6
  rw [w_in (n := size * k) (by omega) (by omega), w_in (n := d) (by omega) (by omega), w_in (n := size * k * d) (by omega) (by omega), Int.tdiv_eq_ediv_of_nonneg a3]
  generalize size * k * d = z at *
  rw [w_in (n := z / 3000000) (by omega) (by omega), w_in (by omega) (by omega)]
theorem shr_a (s0 : ByteArray) (s1 s2 s3 s4 s5 s6 s7 s8 s9 s10 s11 k size m : Int) : wood_Shrunk.f s0 s1 s2 s3 s4 s5 s6 s7 s8 s9 s10 s11 k size m = some (shr k size m) := by
  have hc : units_Clamp.f m 0 3000 = some (mn (mx m 0) 3000) := by
    unfold units_Clamp.f mn mx
    repeat' split
    all_goals first | rfl | (simp; omega) | (exfalso; omega)
  unfold wood_Shrunk.f shr
  by_cases h1 : size < 0
  · rw [if_pos h1, if_pos (.inl h1)]
  rw [if_neg h1]
  by_cases h2 : 20000 < size
  · rw [if_pos h2, if_pos (.inr (.inl h2))]
  rw [if_neg h2]
  by_cases h3 : k < 0
  · rw [if_pos h3, if_pos (.inr (.inr (.inl h3)))]
  rw [if_neg h3]
  by_cases h4 : 200 < k
  · rw [if_pos h4, if_pos (.inr (.inr (.inr h4)))]
  rw [if_neg h4, if_neg (by omega), hc, Option.bind_some]
  have := clamp_in m
  rw [shr_core (by omega) (by omega) (by omega) (by omega) (by omega) (by omega)]
theorem from_eq (a b c : Int) : sawmillref34_from.f a b c = some (decide (b ≤ a ∧ a ≤ c)) := by
  unfold sawmillref34_from.f
  split <;> first | (simp_all; done) | (simp_all; omega)
theorem shr_b (s0 : ByteArray) (s1 s2 s3 s4 s5 s6 s7 s8 s9 s10 s11 k size m : Int) : sawmillref34_Shrunk.f s0 s1 s2 s3 s4 s5 s6 s7 s8 s9 s10 s11 k size m = some (shr k size m) := by
  unfold sawmillref34_Shrunk.f shr
  rw [from_eq, from_eq]
  simp only [Option.bind_some, decide_eq_true_eq]
  have := clamp_in m
  by_cases h1 : 0 ≤ size ∧ size ≤ 20000
  · rw [if_pos h1]
    by_cases h2 : 0 ≤ k ∧ k ≤ 200
    · rw [if_pos h2, if_neg (by omega), shr_core (by omega) (by omega) (by omega) (by omega) (by omega) (by omega)]
    · rw [if_neg h2, if_pos (by omega)]
  · rw [if_neg h1, if_pos (by omega)]

/-- Thickness and width of a board. -/
def dried (x0 x1 y0 y1 s c st k : Int) : Int × Int :=
  if placed x0 x1 y0 y1 then (shr k (mn (x1 - x0) (y1 - y0)) (mean s c st), shr k (mx (x1 - x0) (y1 - y0)) (mean s c st)) else (0, 0)
section
variable (a0 a1 a2 : ByteArray) (a3 x0 x1 y0 y1 a8 a9 a10 a12 a13 a14 a15 a17 : Int) (a16 : Bool) (s0 : ByteArray) (s1 s2 s3 s4 s5 s6 s7 s8 s9 s10 s11 k : Int)
theorem dried_a : sizing_Dried.f a0 a1 a2 a3 x0 x1 y0 y1 a8 a9 a10 a12 a13 a14 a15 a16 a17 s0 s1 s2 s3 s4 s5 s6 s7 s8 s9 s10 s11 k = some (dried x0 x1 y0 y1 a13 a14 a15 k) := by
  unfold sizing_Dried.f dried
  by_cases h : placed x0 x1 y0 y1
  · rw [green_yes h, if_pos h]
    simp only [Option.bind_some, if_true, mean_a, shr_a]
  · rw [green_no h, if_neg h]
    simp
theorem dried_b : sawmillref39_Dried.f a0 a1 a2 a3 x0 x1 y0 y1 a8 a9 a10 a12 a13 a14 a15 a16 a17 s0 s1 s2 s3 s4 s5 s6 s7 s8 s9 s10 s11 k = some (dried x0 x1 y0 y1 a13 a14 a15 k) := by
  unfold sawmillref39_Dried.f dried
  by_cases h : placed x0 x1 y0 y1
  · rw [sizes_yes h, if_pos h]
    have h0 : ¬ mn (x1 - x0) (y1 - y0) = 0 := by obtain ⟨_, _, _, _, _, _⟩ := h; unfold mn; split <;> omega
    simp only [Option.bind_some, mean_b, shr_b, if_neg h0]
  · rw [sizes_no h, if_neg h]
    simp [mean_b]
end
theorem len_eq (a0 a1 a2 : ByteArray) (a3 x0 x1 y0 y1 a8 a9 a10 a12 a13 a14 a15 a17 : Int) (a16 : Bool) : board_Length.f a0 a1 a2 a3 x0 x1 y0 y1 a8 a9 a10 a12 a13 a14 a15 a16 a17 = some (if 0 ≤ a8 ∧ a8 < a9 ∧ a9 ≤ 20000 then a9 - a8 else 0) ∧
    sawmillref30_Length.f a0 a1 a2 a3 x0 x1 y0 y1 a8 a9 a10 a12 a13 a14 a15 a16 a17 = some (if 0 ≤ a8 ∧ a8 < a9 ∧ a9 ≤ 20000 then a9 - a8 else 0) := by
  constructor
  · unfold board_Length.f board_size.f
    by_cases h1 : a8 < 0
    · rw [if_pos h1, if_neg (by omega)]
    rw [if_neg h1]
    by_cases h2 : a9 ≤ a8
    · rw [if_pos h2, if_neg (by omega)]
    rw [if_neg h2]
    by_cases h3 : 20000 < a9
    · rw [if_pos h3, if_neg (by omega)]
    rw [if_neg h3, if_pos (by omega), Option.bind_some, w_in (by omega) (by omega)]
  · have hw : sawmillref30_within.f a8 a9 0 20000 = some (decide (0 ≤ a8 ∧ a8 ≤ 20000 ∧ 0 ≤ a9 ∧ a9 ≤ 20000)) := by
      unfold sawmillref30_within.f
      repeat' split
      all_goals first | (simp_all; done) | (simp_all; omega)
    unfold sawmillref30_Length.f sawmillref30_length.f
    rw [hw]
    simp only [Option.bind_some, decide_eq_true_eq]
    split
    · rw [w_in (by omega) (by omega)]
      unfold mx
      congr 1
      repeat' split
      all_goals omega
    · rw [if_neg (by omega)]
theorem awake_yes : sawmilllaw39_awake.f 250 = some true := by kernel_rfl
end Go.Proofs.Ytbgdgghijheopaa.Pure
