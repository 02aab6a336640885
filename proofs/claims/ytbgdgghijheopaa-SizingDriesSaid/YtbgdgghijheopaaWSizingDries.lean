/- Walks of functions of the seat: each call does what the Lean function of the same name says. Printed by the session's own program absgen.py. -/
import Derived.Test.YtbgdgghijheopaaF1
namespace Go.Proofs.Ytbgdgghijheopaa
open Go.Saw
set_option linter.unusedVariables false
set_option linter.unusedSimpArgs false

/-! ### sawmilllaw39_SizingDries: function 3 -/
def sawmilllaw39_SizingDries.f (K : Nat) (a0_0 : ByteArray) (a0_1 : ByteArray) (a0_2 : ByteArray) (a0_3 : Int) (a0_4 : Int) (a0_5 : Int) (a0_6 : Int) (a0_7 : Int) (a0_8 : Int) (a0_9 : Int) (a0_10 : Int) (a0_12 : Int) (a0_13 : Int) (a0_14 : Int) (a0_15 : Int) (a0_16 : Bool) (a0_17 : Int) (a1_0 : ByteArray) (a1_1 : Int) (a1_2 : Int) (a1_3 : Int) (a1_4 : Int) (a2_0 : ByteArray) (a2_1 : Int) (a2_2 : Int) (a2_3 : Int) (a2_4 : Int) (a2_5 : Int) (a2_6 : Int) (a2_7 : Int) (a2_8 : Int) (a2_9 : Int) (a2_10 : Int) (a2_11 : Int) (a2_12 : Int) : Option (Bool) := (sizing_Dried.f a0_0 a0_1 a0_2 a0_3 a0_4 a0_5 a0_6 a0_7 a0_8 a0_9 a0_10 a0_12 a0_13 a0_14 a0_15 a0_16 a0_17 a2_0 a2_1 a2_2 a2_3 a2_4 a2_5 a2_6 a2_7 a2_8 a2_9 a2_10 a2_11 a2_12).bind fun bx200 => ((sawmillref39_Dried.f a0_0 a0_1 a0_2 a0_3 a0_4 a0_5 a0_6 a0_7 a0_8 a0_9 a0_10 a0_12 a0_13 a0_14 a0_15 a0_16 a0_17 a2_0 a2_1 a2_2 a2_3 a2_4 a2_5 a2_6 a2_7 a2_8 a2_9 a2_10 a2_11 a2_12).bind fun bx201 => (if bx200.1 = bx201.1 then (if bx200.2 = bx201.2 then ((sizing_Under.f a0_0 a0_1 a0_2 a0_3 a0_4 a0_5 a0_6 a0_7 a0_8 a0_9 a0_10 a0_12 a0_13 a0_14 a0_15 a0_16 a0_17 a1_0 a1_1 a1_2 a1_3 a1_4 a2_0 a2_1 a2_2 a2_3 a2_4 a2_5 a2_6 a2_7 a2_8 a2_9 a2_10 a2_11 a2_12).bind fun x204 => ((sawmillref39_Under.f a0_0 a0_1 a0_2 a0_3 a0_4 a0_5 a0_6 a0_7 a0_8 a0_9 a0_10 a0_12 a0_13 a0_14 a0_15 a0_16 a0_17 a1_0 a1_1 a1_2 a1_3 a1_4 a2_0 a2_1 a2_2 a2_3 a2_4 a2_5 a2_6 a2_7 a2_8 a2_9 a2_10 a2_11 a2_12).bind fun x205 => (if x204 = x205 then ((sizing_Volume.f a0_0 a0_1 a0_2 a0_3 a0_4 a0_5 a0_6 a0_7 a0_8 a0_9 a0_10 a0_12 a0_13 a0_14 a0_15 a0_16 a0_17 a2_0 a2_1 a2_2 a2_3 a2_4 a2_5 a2_6 a2_7 a2_8 a2_9 a2_10 a2_11 a2_12).bind fun x207 => ((sawmillref39_Volume.f a0_0 a0_1 a0_2 a0_3 a0_4 a0_5 a0_6 a0_7 a0_8 a0_9 a0_10 a0_12 a0_13 a0_14 a0_15 a0_16 a0_17 a2_0 a2_1 a2_2 a2_3 a2_4 a2_5 a2_6 a2_7 a2_8 a2_9 a2_10 a2_11 a2_12).bind fun x208 => (if x207 = x208 then ((sawmilllaw39_awake.f K ).bind fun x210 => (some x210)) else (some false)))) else (some false)))) else (some false)) else (some false)))
set_option maxRecDepth 100000 in
theorem sawmilllaw39_SizingDries.calls (K : Nat) (a0_0 : ByteArray) (a0_1 : ByteArray) (a0_2 : ByteArray) (a0_3 : Int) (a0_4 : Int) (a0_5 : Int) (a0_6 : Int) (a0_7 : Int) (a0_8 : Int) (a0_9 : Int) (a0_10 : Int) (a0_12 : Int) (a0_13 : Int) (a0_14 : Int) (a0_15 : Int) (a0_16 : Bool) (a0_17 : Int) (a1_0 : ByteArray) (a1_1 : Int) (a1_2 : Int) (a1_3 : Int) (a1_4 : Int) (a2_0 : ByteArray) (a2_1 : Int) (a2_2 : Int) (a2_3 : Int) (a2_4 : Int) (a2_5 : Int) (a2_6 : Int) (a2_7 : Int) (a2_8 : Int) (a2_9 : Int) (a2_10 : Int) (a2_11 : Int) (a2_12 : Int)  (Aa0_11 : Option Addr) (na0_11 ca0_11 : Nat) (Aa1_5 : Option Addr) (na1_5 ca1_5 : Nat) (Aa1_6 : Option Addr) (na1_6 ca1_6 : Nat) (r1 : Bool) (w : World)   (h : sawmilllaw39_SizingDries.f K a0_0 a0_1 a0_2 a0_3 a0_4 a0_5 a0_6 a0_7 a0_8 a0_9 a0_10 a0_12 a0_13 a0_14 a0_15 a0_16 a0_17 a1_0 a1_1 a1_2 a1_3 a1_4 a2_0 a2_1 a2_2 a2_3 a2_4 a2_5 a2_6 a2_7 a2_8 a2_9 a2_10 a2_11 a2_12 = some r1) :
    Calls Try.prog 3 #[.agg #[.string a0_0, .string a0_1, .string a0_2, .int .i64 a0_3, .int .i64 a0_4, .int .i64 a0_5, .int .i64 a0_6, .int .i64 a0_7, .int .i64 a0_8, .int .i64 a0_9, .int .i64 a0_10, .slice Aa0_11 na0_11 ca0_11, .int .i64 a0_12, .int .i64 a0_13, .int .i64 a0_14, .int .i64 a0_15, .bool a0_16, .int .i64 a0_17], .agg #[.string a1_0, .int .i64 a1_1, .int .i64 a1_2, .int .i64 a1_3, .int .i64 a1_4, .slice Aa1_5 na1_5 ca1_5, .slice Aa1_6 na1_6 ca1_6], .agg #[.string a2_0, .int .i64 a2_1, .int .i64 a2_2, .int .i64 a2_3, .int .i64 a2_4, .int .i64 a2_5, .int .i64 a2_6, .int .i64 a2_7, .int .i64 a2_8, .int .i64 a2_9, .int .i64 a2_10, .int .i64 a2_11, .int .i64 a2_12]] w (Ret w (.bool r1)) := by
  have H := h
  clear h
  unfold sawmilllaw39_SizingDries.f at H
  refine Go.Saw.calls (args := [.agg #[.string a0_0, .string a0_1, .string a0_2, .int .i64 a0_3, .int .i64 a0_4, .int .i64 a0_5, .int .i64 a0_6, .int .i64 a0_7, .int .i64 a0_8, .int .i64 a0_9, .int .i64 a0_10, .slice Aa0_11 na0_11 ca0_11, .int .i64 a0_12, .int .i64 a0_13, .int .i64 a0_14, .int .i64 a0_15, .bool a0_16, .int .i64 a0_17], .agg #[.string a1_0, .int .i64 a1_1, .int .i64 a1_2, .int .i64 a1_3, .int .i64 a1_4, .slice Aa1_5 na1_5 ca1_5, .slice Aa1_6 na1_6 ca1_6], .agg #[.string a2_0, .int .i64 a2_1, .int .i64 a2_2, .int .i64 a2_3, .int .i64 a2_4, .int .i64 a2_5, .int .i64 a2_6, .int .i64 a2_7, .int .i64 a2_8, .int .i64 a2_9, .int .i64 a2_10, .int .i64 a2_11, .int .i64 a2_12]]) Try.func3 rfl Try.ntmps3 (by kernel_rfl) ?_
  refine J.seq ?_
  refine J.plain ?_
  refine LL.box 30 (.tmp 0) [.string a0_0, .string a0_1, .string a0_2, .int .i64 a0_3, .int .i64 a0_4, .int .i64 a0_5, .int .i64 a0_6, .int .i64 a0_7, .int .i64 a0_8, .int .i64 a0_9, .int .i64 a0_10, .slice Aa0_11 na0_11 ca0_11, .int .i64 a0_12, .int .i64 a0_13, .int .i64 a0_14, .int .i64 a0_15, .bool a0_16, .int .i64 a0_17] (by kernel_rfl) rfl (by kernel_rfl) (fun g197 => ?_)
  refine LL.box 33 (.tmp 1) [.string a1_0, .int .i64 a1_1, .int .i64 a1_2, .int .i64 a1_3, .int .i64 a1_4, .slice Aa1_5 na1_5 ca1_5, .slice Aa1_6 na1_6 ca1_6] (by kernel_rfl) rfl (by kernel_rfl) (fun g198 => ?_)
  refine LL.box 35 (.tmp 2) [.string a2_0, .int .i64 a2_1, .int .i64 a2_2, .int .i64 a2_3, .int .i64 a2_4, .int .i64 a2_5, .int .i64 a2_6, .int .i64 a2_7, .int .i64 a2_8, .int .i64 a2_9, .int .i64 a2_10, .int .i64 a2_11, .int .i64 a2_12] (by kernel_rfl) rfl (by kernel_rfl) (fun g199 => ?_)
  refine LL.op (.bool false) (by kernel_rfl) (fun w _ => by kernel_rfl) ?_
  refine LL.done (s' := [(3, .pointer (some ⟨g197, 0, none⟩)), (4, .pointer (some ⟨g198, 0, none⟩)), (5, .pointer (some ⟨g199, 0, none⟩)), (6, .bool false)]) [3, 4, 5, 6] (by kernel_rfl) ?_
  refine NN.then ?_
  refine J.seq ?_
  refine J.plain ?_
  refine LL.op (.agg #[.string a0_0, .string a0_1, .string a0_2, .int .i64 a0_3, .int .i64 a0_4, .int .i64 a0_5, .int .i64 a0_6, .int .i64 a0_7, .int .i64 a0_8, .int .i64 a0_9, .int .i64 a0_10, .slice Aa0_11 na0_11 ca0_11, .int .i64 a0_12, .int .i64 a0_13, .int .i64 a0_14, .int .i64 a0_15, .bool a0_16, .int .i64 a0_17]) (by kernel_rfl) (ld 2 g197 0 rfl (by kernel_rfl) rfl (by kernel_rfl)) ?_
  refine LL.op (.agg #[.string a2_0, .int .i64 a2_1, .int .i64 a2_2, .int .i64 a2_3, .int .i64 a2_4, .int .i64 a2_5, .int .i64 a2_6, .int .i64 a2_7, .int .i64 a2_8, .int .i64 a2_9, .int .i64 a2_10, .int .i64 a2_11, .int .i64 a2_12]) (by kernel_rfl) (ld 0 g199 0 rfl (by kernel_rfl) rfl (by kernel_rfl)) ?_
  obtain ⟨⟨x200_1, x200_2⟩, hx200, H⟩ := bind_some H
  (try dsimp only at H)
  refine LL.call 9 #[.agg #[.string a0_0, .string a0_1, .string a0_2, .int .i64 a0_3, .int .i64 a0_4, .int .i64 a0_5, .int .i64 a0_6, .int .i64 a0_7, .int .i64 a0_8, .int .i64 a0_9, .int .i64 a0_10, .slice Aa0_11 na0_11 ca0_11, .int .i64 a0_12, .int .i64 a0_13, .int .i64 a0_14, .int .i64 a0_15, .bool a0_16, .int .i64 a0_17], .agg #[.string a2_0, .int .i64 a2_1, .int .i64 a2_2, .int .i64 a2_3, .int .i64 a2_4, .int .i64 a2_5, .int .i64 a2_6, .int .i64 a2_7, .int .i64 a2_8, .int .i64 a2_9, .int .i64 a2_10, .int .i64 a2_11, .int .i64 a2_12]] (.tuple #[.int .i64 x200_1, .int .i64 x200_2]) (by kernel_rfl) (fun w => by kernel_rfl) (fun w hw => sizing_Dried.calls a0_0 a0_1 a0_2 a0_3 a0_4 a0_5 a0_6 a0_7 a0_8 a0_9 a0_10 a0_12 a0_13 a0_14 a0_15 a0_16 a0_17 a2_0 a2_1 a2_2 a2_3 a2_4 a2_5 a2_6 a2_7 a2_8 a2_9 a2_10 a2_11 a2_12  _ _ _ _ _ w   hx200) ?_
  refine LL.op (.tuple #[.int .i64 x200_1, .int .i64 x200_2]) (by kernel_rfl) (fun w _ => by kernel_rfl) ?_
  refine LL.op (.int .i64 x200_1) (by kernel_rfl) (fun w _ => by kernel_rfl) ?_
  refine LL.op (.int .i64 x200_2) (by kernel_rfl) (fun w _ => by kernel_rfl) ?_
  refine LL.op (.int .i64 x200_1) (by kernel_rfl) (fun w _ => by kernel_rfl) ?_
  refine LL.op (.int .i64 x200_2) (by kernel_rfl) (fun w _ => by kernel_rfl) ?_
  refine LL.done (s' := [(3, .pointer (some ⟨g197, 0, none⟩)), (4, .pointer (some ⟨g198, 0, none⟩)), (5, .pointer (some ⟨g199, 0, none⟩)), (6, .bool false), (7, .int .i64 x200_1), (8, .int .i64 x200_2)]) [3, 4, 5, 6, 7, 8] (by kernel_rfl) ?_
  refine NN.then ?_
  refine J.seq ?_
  refine J.plain ?_
  refine LL.op (.agg #[.string a0_0, .string a0_1, .string a0_2, .int .i64 a0_3, .int .i64 a0_4, .int .i64 a0_5, .int .i64 a0_6, .int .i64 a0_7, .int .i64 a0_8, .int .i64 a0_9, .int .i64 a0_10, .slice Aa0_11 na0_11 ca0_11, .int .i64 a0_12, .int .i64 a0_13, .int .i64 a0_14, .int .i64 a0_15, .bool a0_16, .int .i64 a0_17]) (by kernel_rfl) (ld 2 g197 0 rfl (by kernel_rfl) rfl (by kernel_rfl)) ?_
  refine LL.op (.agg #[.string a2_0, .int .i64 a2_1, .int .i64 a2_2, .int .i64 a2_3, .int .i64 a2_4, .int .i64 a2_5, .int .i64 a2_6, .int .i64 a2_7, .int .i64 a2_8, .int .i64 a2_9, .int .i64 a2_10, .int .i64 a2_11, .int .i64 a2_12]) (by kernel_rfl) (ld 0 g199 0 rfl (by kernel_rfl) rfl (by kernel_rfl)) ?_
  obtain ⟨⟨x201_1, x201_2⟩, hx201, H⟩ := bind_some H
  (try dsimp only at H)
  refine LL.call 10 #[.agg #[.string a0_0, .string a0_1, .string a0_2, .int .i64 a0_3, .int .i64 a0_4, .int .i64 a0_5, .int .i64 a0_6, .int .i64 a0_7, .int .i64 a0_8, .int .i64 a0_9, .int .i64 a0_10, .slice Aa0_11 na0_11 ca0_11, .int .i64 a0_12, .int .i64 a0_13, .int .i64 a0_14, .int .i64 a0_15, .bool a0_16, .int .i64 a0_17], .agg #[.string a2_0, .int .i64 a2_1, .int .i64 a2_2, .int .i64 a2_3, .int .i64 a2_4, .int .i64 a2_5, .int .i64 a2_6, .int .i64 a2_7, .int .i64 a2_8, .int .i64 a2_9, .int .i64 a2_10, .int .i64 a2_11, .int .i64 a2_12]] (.tuple #[.int .i64 x201_1, .int .i64 x201_2]) (by kernel_rfl) (fun w => by kernel_rfl) (fun w hw => sawmillref39_Dried.calls a0_0 a0_1 a0_2 a0_3 a0_4 a0_5 a0_6 a0_7 a0_8 a0_9 a0_10 a0_12 a0_13 a0_14 a0_15 a0_16 a0_17 a2_0 a2_1 a2_2 a2_3 a2_4 a2_5 a2_6 a2_7 a2_8 a2_9 a2_10 a2_11 a2_12  _ _ _ _ _ w   hx201) ?_
  refine LL.op (.tuple #[.int .i64 x201_1, .int .i64 x201_2]) (by kernel_rfl) (fun w _ => by kernel_rfl) ?_
  refine LL.op (.int .i64 x201_1) (by kernel_rfl) (fun w _ => by kernel_rfl) ?_
  refine LL.op (.int .i64 x201_2) (by kernel_rfl) (fun w _ => by kernel_rfl) ?_
  refine LL.op (.int .i64 x201_1) (by kernel_rfl) (fun w _ => by kernel_rfl) ?_
  refine LL.op (.int .i64 x201_2) (by kernel_rfl) (fun w _ => by kernel_rfl) ?_
  refine LL.done (s' := [(3, .pointer (some ⟨g197, 0, none⟩)), (4, .pointer (some ⟨g198, 0, none⟩)), (5, .pointer (some ⟨g199, 0, none⟩)), (6, .bool false), (7, .int .i64 x200_1), (8, .int .i64 x200_2), (9, .int .i64 x201_1), (10, .int .i64 x201_2)]) [3, 4, 5, 6, 7, 8, 9, 10] (by kernel_rfl) ?_
  refine NN.then ?_
  refine J.seq ?_
  refine J.drawn follows (by kernel_rfl) ?_
  refine QQ.op (.int .i64 x200_1) (by kernel_rfl) (fun w _ => by kernel_rfl) ?_
  refine QQ.op (.int .i64 x201_1) (by kernel_rfl) (fun w _ => by kernel_rfl) ?_
  refine QQ.op (.bool (x200_1 == x201_1)) (by kernel_rfl) (fun w _ => by kernel_rfl) ?_
  refine QQ.op (.bool (x200_1 == x201_1)) (by kernel_rfl) (fun w _ => by kernel_rfl) ?_
  rcases Bool.eq_false_or_eq_true ((x200_1 == x201_1)) with c202 | c202
  · rw [if_pos (eq_of_beq c202)] at H
    refine QQ.bool 26 ((x200_1 == x201_1)) true c202 (by kernel_rfl) ?_
    refine QQ.op (.int .i64 x200_2) (by kernel_rfl) (fun w _ => by kernel_rfl) ?_
    refine QQ.op (.int .i64 x201_2) (by kernel_rfl) (fun w _ => by kernel_rfl) ?_
    refine QQ.op (.bool (x200_2 == x201_2)) (by kernel_rfl) (fun w _ => by kernel_rfl) ?_
    refine QQ.op (.bool (x200_2 == x201_2)) (by kernel_rfl) (fun w _ => by kernel_rfl) ?_
    refine QQ.op (.bool (x200_2 == x201_2)) (by kernel_rfl) (fun w _ => by kernel_rfl) ?_
    rcases Bool.eq_false_or_eq_true ((x200_2 == x201_2)) with c203 | c203
    · rw [if_pos (eq_of_beq c203)] at H
      refine QQ.bool 31 ((x200_2 == x201_2)) true c203 (by kernel_rfl) ?_
      refine QQ.op (.agg #[.string a0_0, .string a0_1, .string a0_2, .int .i64 a0_3, .int .i64 a0_4, .int .i64 a0_5, .int .i64 a0_6, .int .i64 a0_7, .int .i64 a0_8, .int .i64 a0_9, .int .i64 a0_10, .slice Aa0_11 na0_11 ca0_11, .int .i64 a0_12, .int .i64 a0_13, .int .i64 a0_14, .int .i64 a0_15, .bool a0_16, .int .i64 a0_17]) (by kernel_rfl) (ld 2 g197 0 rfl (by kernel_rfl) rfl (by kernel_rfl)) ?_
      refine QQ.op (.agg #[.string a1_0, .int .i64 a1_1, .int .i64 a1_2, .int .i64 a1_3, .int .i64 a1_4, .slice Aa1_5 na1_5 ca1_5, .slice Aa1_6 na1_6 ca1_6]) (by kernel_rfl) (ld 1 g198 0 rfl (by kernel_rfl) rfl (by kernel_rfl)) ?_
      refine QQ.op (.agg #[.string a2_0, .int .i64 a2_1, .int .i64 a2_2, .int .i64 a2_3, .int .i64 a2_4, .int .i64 a2_5, .int .i64 a2_6, .int .i64 a2_7, .int .i64 a2_8, .int .i64 a2_9, .int .i64 a2_10, .int .i64 a2_11, .int .i64 a2_12]) (by kernel_rfl) (ld 0 g199 0 rfl (by kernel_rfl) rfl (by kernel_rfl)) ?_
      obtain ⟨x204, hx204, H⟩ := bind_some H
      refine QQ.call 11 #[.agg #[.string a0_0, .string a0_1, .string a0_2, .int .i64 a0_3, .int .i64 a0_4, .int .i64 a0_5, .int .i64 a0_6, .int .i64 a0_7, .int .i64 a0_8, .int .i64 a0_9, .int .i64 a0_10, .slice Aa0_11 na0_11 ca0_11, .int .i64 a0_12, .int .i64 a0_13, .int .i64 a0_14, .int .i64 a0_15, .bool a0_16, .int .i64 a0_17], .agg #[.string a1_0, .int .i64 a1_1, .int .i64 a1_2, .int .i64 a1_3, .int .i64 a1_4, .slice Aa1_5 na1_5 ca1_5, .slice Aa1_6 na1_6 ca1_6], .agg #[.string a2_0, .int .i64 a2_1, .int .i64 a2_2, .int .i64 a2_3, .int .i64 a2_4, .int .i64 a2_5, .int .i64 a2_6, .int .i64 a2_7, .int .i64 a2_8, .int .i64 a2_9, .int .i64 a2_10, .int .i64 a2_11, .int .i64 a2_12]] (.bool x204) (by kernel_rfl) (fun w => by kernel_rfl) (fun w hw => sizing_Under.calls a0_0 a0_1 a0_2 a0_3 a0_4 a0_5 a0_6 a0_7 a0_8 a0_9 a0_10 a0_12 a0_13 a0_14 a0_15 a0_16 a0_17 a1_0 a1_1 a1_2 a1_3 a1_4 a2_0 a2_1 a2_2 a2_3 a2_4 a2_5 a2_6 a2_7 a2_8 a2_9 a2_10 a2_11 a2_12  _ _ _ _ _ _ _ _ _ _ w   hx204) ?_
      refine QQ.op (.agg #[.string a0_0, .string a0_1, .string a0_2, .int .i64 a0_3, .int .i64 a0_4, .int .i64 a0_5, .int .i64 a0_6, .int .i64 a0_7, .int .i64 a0_8, .int .i64 a0_9, .int .i64 a0_10, .slice Aa0_11 na0_11 ca0_11, .int .i64 a0_12, .int .i64 a0_13, .int .i64 a0_14, .int .i64 a0_15, .bool a0_16, .int .i64 a0_17]) (by kernel_rfl) (ld 2 g197 0 rfl (by kernel_rfl) rfl (by kernel_rfl)) ?_
      refine QQ.op (.agg #[.string a1_0, .int .i64 a1_1, .int .i64 a1_2, .int .i64 a1_3, .int .i64 a1_4, .slice Aa1_5 na1_5 ca1_5, .slice Aa1_6 na1_6 ca1_6]) (by kernel_rfl) (ld 1 g198 0 rfl (by kernel_rfl) rfl (by kernel_rfl)) ?_
      refine QQ.op (.agg #[.string a2_0, .int .i64 a2_1, .int .i64 a2_2, .int .i64 a2_3, .int .i64 a2_4, .int .i64 a2_5, .int .i64 a2_6, .int .i64 a2_7, .int .i64 a2_8, .int .i64 a2_9, .int .i64 a2_10, .int .i64 a2_11, .int .i64 a2_12]) (by kernel_rfl) (ld 0 g199 0 rfl (by kernel_rfl) rfl (by kernel_rfl)) ?_
      obtain ⟨x205, hx205, H⟩ := bind_some H
      refine QQ.call 12 #[.agg #[.string a0_0, .string a0_1, .string a0_2, .int .i64 a0_3, .int .i64 a0_4, .int .i64 a0_5, .int .i64 a0_6, .int .i64 a0_7, .int .i64 a0_8, .int .i64 a0_9, .int .i64 a0_10, .slice Aa0_11 na0_11 ca0_11, .int .i64 a0_12, .int .i64 a0_13, .int .i64 a0_14, .int .i64 a0_15, .bool a0_16, .int .i64 a0_17], .agg #[.string a1_0, .int .i64 a1_1, .int .i64 a1_2, .int .i64 a1_3, .int .i64 a1_4, .slice Aa1_5 na1_5 ca1_5, .slice Aa1_6 na1_6 ca1_6], .agg #[.string a2_0, .int .i64 a2_1, .int .i64 a2_2, .int .i64 a2_3, .int .i64 a2_4, .int .i64 a2_5, .int .i64 a2_6, .int .i64 a2_7, .int .i64 a2_8, .int .i64 a2_9, .int .i64 a2_10, .int .i64 a2_11, .int .i64 a2_12]] (.bool x205) (by kernel_rfl) (fun w => by kernel_rfl) (fun w hw => sawmillref39_Under.calls a0_0 a0_1 a0_2 a0_3 a0_4 a0_5 a0_6 a0_7 a0_8 a0_9 a0_10 a0_12 a0_13 a0_14 a0_15 a0_16 a0_17 a1_0 a1_1 a1_2 a1_3 a1_4 a2_0 a2_1 a2_2 a2_3 a2_4 a2_5 a2_6 a2_7 a2_8 a2_9 a2_10 a2_11 a2_12  _ _ _ _ _ _ _ _ _ _ w   hx205) ?_
      refine QQ.op (.bool (x204 == x205)) (by kernel_rfl) (fun w _ => by kernel_rfl) ?_
      refine QQ.op (.bool (x204 == x205)) (by kernel_rfl) (fun w _ => by kernel_rfl) ?_
      refine QQ.op (.bool (x204 == x205)) (by kernel_rfl) (fun w _ => by kernel_rfl) ?_
      rcases Bool.eq_false_or_eq_true ((x204 == x205)) with c206 | c206
      · rw [if_pos (eq_of_beq c206)] at H
        refine QQ.bool 42 ((x204 == x205)) true c206 (by kernel_rfl) ?_
        refine QQ.op (.agg #[.string a0_0, .string a0_1, .string a0_2, .int .i64 a0_3, .int .i64 a0_4, .int .i64 a0_5, .int .i64 a0_6, .int .i64 a0_7, .int .i64 a0_8, .int .i64 a0_9, .int .i64 a0_10, .slice Aa0_11 na0_11 ca0_11, .int .i64 a0_12, .int .i64 a0_13, .int .i64 a0_14, .int .i64 a0_15, .bool a0_16, .int .i64 a0_17]) (by kernel_rfl) (ld 2 g197 0 rfl (by kernel_rfl) rfl (by kernel_rfl)) ?_
        refine QQ.op (.agg #[.string a2_0, .int .i64 a2_1, .int .i64 a2_2, .int .i64 a2_3, .int .i64 a2_4, .int .i64 a2_5, .int .i64 a2_6, .int .i64 a2_7, .int .i64 a2_8, .int .i64 a2_9, .int .i64 a2_10, .int .i64 a2_11, .int .i64 a2_12]) (by kernel_rfl) (ld 0 g199 0 rfl (by kernel_rfl) rfl (by kernel_rfl)) ?_
        obtain ⟨x207, hx207, H⟩ := bind_some H
        refine QQ.call 13 #[.agg #[.string a0_0, .string a0_1, .string a0_2, .int .i64 a0_3, .int .i64 a0_4, .int .i64 a0_5, .int .i64 a0_6, .int .i64 a0_7, .int .i64 a0_8, .int .i64 a0_9, .int .i64 a0_10, .slice Aa0_11 na0_11 ca0_11, .int .i64 a0_12, .int .i64 a0_13, .int .i64 a0_14, .int .i64 a0_15, .bool a0_16, .int .i64 a0_17], .agg #[.string a2_0, .int .i64 a2_1, .int .i64 a2_2, .int .i64 a2_3, .int .i64 a2_4, .int .i64 a2_5, .int .i64 a2_6, .int .i64 a2_7, .int .i64 a2_8, .int .i64 a2_9, .int .i64 a2_10, .int .i64 a2_11, .int .i64 a2_12]] (.int .i64 x207) (by kernel_rfl) (fun w => by kernel_rfl) (fun w hw => sizing_Volume.calls a0_0 a0_1 a0_2 a0_3 a0_4 a0_5 a0_6 a0_7 a0_8 a0_9 a0_10 a0_12 a0_13 a0_14 a0_15 a0_16 a0_17 a2_0 a2_1 a2_2 a2_3 a2_4 a2_5 a2_6 a2_7 a2_8 a2_9 a2_10 a2_11 a2_12  _ _ _ _ w   hx207) ?_
        refine QQ.op (.agg #[.string a0_0, .string a0_1, .string a0_2, .int .i64 a0_3, .int .i64 a0_4, .int .i64 a0_5, .int .i64 a0_6, .int .i64 a0_7, .int .i64 a0_8, .int .i64 a0_9, .int .i64 a0_10, .slice Aa0_11 na0_11 ca0_11, .int .i64 a0_12, .int .i64 a0_13, .int .i64 a0_14, .int .i64 a0_15, .bool a0_16, .int .i64 a0_17]) (by kernel_rfl) (ld 2 g197 0 rfl (by kernel_rfl) rfl (by kernel_rfl)) ?_
        refine QQ.op (.agg #[.string a2_0, .int .i64 a2_1, .int .i64 a2_2, .int .i64 a2_3, .int .i64 a2_4, .int .i64 a2_5, .int .i64 a2_6, .int .i64 a2_7, .int .i64 a2_8, .int .i64 a2_9, .int .i64 a2_10, .int .i64 a2_11, .int .i64 a2_12]) (by kernel_rfl) (ld 0 g199 0 rfl (by kernel_rfl) rfl (by kernel_rfl)) ?_
        obtain ⟨x208, hx208, H⟩ := bind_some H
        refine QQ.call 14 #[.agg #[.string a0_0, .string a0_1, .string a0_2, .int .i64 a0_3, .int .i64 a0_4, .int .i64 a0_5, .int .i64 a0_6, .int .i64 a0_7, .int .i64 a0_8, .int .i64 a0_9, .int .i64 a0_10, .slice Aa0_11 na0_11 ca0_11, .int .i64 a0_12, .int .i64 a0_13, .int .i64 a0_14, .int .i64 a0_15, .bool a0_16, .int .i64 a0_17], .agg #[.string a2_0, .int .i64 a2_1, .int .i64 a2_2, .int .i64 a2_3, .int .i64 a2_4, .int .i64 a2_5, .int .i64 a2_6, .int .i64 a2_7, .int .i64 a2_8, .int .i64 a2_9, .int .i64 a2_10, .int .i64 a2_11, .int .i64 a2_12]] (.int .i64 x208) (by kernel_rfl) (fun w => by kernel_rfl) (fun w hw => sawmillref39_Volume.calls a0_0 a0_1 a0_2 a0_3 a0_4 a0_5 a0_6 a0_7 a0_8 a0_9 a0_10 a0_12 a0_13 a0_14 a0_15 a0_16 a0_17 a2_0 a2_1 a2_2 a2_3 a2_4 a2_5 a2_6 a2_7 a2_8 a2_9 a2_10 a2_11 a2_12  _ _ _ _ w   hx208) ?_
        refine QQ.op (.bool (x207 == x208)) (by kernel_rfl) (fun w _ => by kernel_rfl) ?_
        refine QQ.op (.bool (x207 == x208)) (by kernel_rfl) (fun w _ => by kernel_rfl) ?_
        refine QQ.op (.bool (x207 == x208)) (by kernel_rfl) (fun w _ => by kernel_rfl) ?_
        rcases Bool.eq_false_or_eq_true ((x207 == x208)) with c209 | c209
        · rw [if_pos (eq_of_beq c209)] at H
          refine QQ.bool 51 ((x207 == x208)) true c209 (by kernel_rfl) ?_
          obtain ⟨x210, hx210, H⟩ := bind_some H
          refine QQ.call 15 #[] (.bool x210) (by kernel_rfl) (fun w => by kernel_rfl) (fun w hw => sawmilllaw39_awake.calls K    _ w   hx210) ?_
          refine QQ.op (.bool x210) (by kernel_rfl) (fun w _ => by kernel_rfl) ?_
          refine QQ.op (.bool x210) (by kernel_rfl) (fun w _ => by kernel_rfl) ?_
          refine QQ.done (s' := [(6, .bool x210)]) [6] (by kernel_rfl) ?_
          refine NN.then ?_
          refine J.ret ?_
          refine NN.fin1 6 (.bool x210) (by kernel_rfl) (by kernel_rfl) (.inl rfl) (fun w hi => hi.ret ?_)
          first | (cases H; rfl) | (obtain rfl := Option.some.inj H; rfl) | (simp only [Option.some.injEq, Prod.mk.injEq] at H; obtain ⟨rfl⟩ := H; rfl)
        · rw [if_neg (nebf c209)] at H
          refine QQ.bool 51 ((x207 == x208)) false c209 (by kernel_rfl) ?_
          refine QQ.off (by kernel_rfl) (by kernel_rfl) ?_
          refine QQ.op (.bool false) (by kernel_rfl) (fun w _ => by kernel_rfl) ?_
          refine QQ.op (.bool false) (by kernel_rfl) (fun w _ => by kernel_rfl) ?_
          refine QQ.done (s' := [(6, .bool false)]) [6] (by kernel_rfl) ?_
          refine NN.then ?_
          refine J.ret ?_
          refine NN.fin1 6 (.bool false) (by kernel_rfl) (by kernel_rfl) (.inl rfl) (fun w hi => hi.ret ?_)
          first | (cases H; rfl) | (obtain rfl := Option.some.inj H; rfl) | (simp only [Option.some.injEq, Prod.mk.injEq] at H; obtain ⟨rfl⟩ := H; rfl)
      · rw [if_neg (nebf c206)] at H
        refine QQ.bool 42 ((x204 == x205)) false c206 (by kernel_rfl) ?_
        refine QQ.off (by kernel_rfl) (by kernel_rfl) ?_
        refine QQ.off (by kernel_rfl) (by kernel_rfl) ?_
        refine QQ.off (by kernel_rfl) (by kernel_rfl) ?_
        refine QQ.off (by kernel_rfl) (by kernel_rfl) ?_
        refine QQ.off (by kernel_rfl) (by kernel_rfl) ?_
        refine QQ.off (by kernel_rfl) (by kernel_rfl) ?_
        refine QQ.off (by kernel_rfl) (by kernel_rfl) ?_
        refine QQ.op (.bool false) (by kernel_rfl) (fun w _ => by kernel_rfl) ?_
        refine QQ.op (.bool false) (by kernel_rfl) (fun w _ => by kernel_rfl) ?_
        refine QQ.off (by kernel_rfl) (by kernel_rfl) ?_
        refine QQ.op (.bool false) (by kernel_rfl) (fun w _ => by kernel_rfl) ?_
        refine QQ.op (.bool false) (by kernel_rfl) (fun w _ => by kernel_rfl) ?_
        refine QQ.done (s' := [(6, .bool false)]) [6] (by kernel_rfl) ?_
        refine NN.then ?_
        refine J.ret ?_
        refine NN.fin1 6 (.bool false) (by kernel_rfl) (by kernel_rfl) (.inl rfl) (fun w hi => hi.ret ?_)
        first | (cases H; rfl) | (obtain rfl := Option.some.inj H; rfl) | (simp only [Option.some.injEq, Prod.mk.injEq] at H; obtain ⟨rfl⟩ := H; rfl)
    · rw [if_neg (nebf c203)] at H
      refine QQ.bool 31 ((x200_2 == x201_2)) false c203 (by kernel_rfl) ?_
      refine QQ.off (by kernel_rfl) (by kernel_rfl) ?_
      refine QQ.off (by kernel_rfl) (by kernel_rfl) ?_
      refine QQ.off (by kernel_rfl) (by kernel_rfl) ?_
      refine QQ.off (by kernel_rfl) (by kernel_rfl) ?_
      refine QQ.off (by kernel_rfl) (by kernel_rfl) ?_
      refine QQ.off (by kernel_rfl) (by kernel_rfl) ?_
      refine QQ.off (by kernel_rfl) (by kernel_rfl) ?_
      refine QQ.off (by kernel_rfl) (by kernel_rfl) ?_
      refine QQ.off (by kernel_rfl) (by kernel_rfl) ?_
      refine QQ.op (.bool false) (by kernel_rfl) (fun w _ => by kernel_rfl) ?_
      refine QQ.op (.bool false) (by kernel_rfl) (fun w _ => by kernel_rfl) ?_
      refine QQ.off (by kernel_rfl) (by kernel_rfl) ?_
      refine QQ.off (by kernel_rfl) (by kernel_rfl) ?_
      refine QQ.off (by kernel_rfl) (by kernel_rfl) ?_
      refine QQ.off (by kernel_rfl) (by kernel_rfl) ?_
      refine QQ.off (by kernel_rfl) (by kernel_rfl) ?_
      refine QQ.off (by kernel_rfl) (by kernel_rfl) ?_
      refine QQ.off (by kernel_rfl) (by kernel_rfl) ?_
      refine QQ.op (.bool false) (by kernel_rfl) (fun w _ => by kernel_rfl) ?_
      refine QQ.op (.bool false) (by kernel_rfl) (fun w _ => by kernel_rfl) ?_
      refine QQ.off (by kernel_rfl) (by kernel_rfl) ?_
      refine QQ.op (.bool false) (by kernel_rfl) (fun w _ => by kernel_rfl) ?_
      refine QQ.op (.bool false) (by kernel_rfl) (fun w _ => by kernel_rfl) ?_
      refine QQ.done (s' := [(6, .bool false)]) [6] (by kernel_rfl) ?_
      refine NN.then ?_
      refine J.ret ?_
      refine NN.fin1 6 (.bool false) (by kernel_rfl) (by kernel_rfl) (.inl rfl) (fun w hi => hi.ret ?_)
      first | (cases H; rfl) | (obtain rfl := Option.some.inj H; rfl) | (simp only [Option.some.injEq, Prod.mk.injEq] at H; obtain ⟨rfl⟩ := H; rfl)
  · rw [if_neg (nebf c202)] at H
    refine QQ.bool 26 ((x200_1 == x201_1)) false c202 (by kernel_rfl) ?_
    refine QQ.off (by kernel_rfl) (by kernel_rfl) ?_
    refine QQ.off (by kernel_rfl) (by kernel_rfl) ?_
    refine QQ.off (by kernel_rfl) (by kernel_rfl) ?_
    refine QQ.op (.bool false) (by kernel_rfl) (fun w _ => by kernel_rfl) ?_
    refine QQ.op (.bool false) (by kernel_rfl) (fun w _ => by kernel_rfl) ?_
    refine QQ.off (by kernel_rfl) (by kernel_rfl) ?_
    refine QQ.off (by kernel_rfl) (by kernel_rfl) ?_
    refine QQ.off (by kernel_rfl) (by kernel_rfl) ?_
    refine QQ.off (by kernel_rfl) (by kernel_rfl) ?_
    refine QQ.off (by kernel_rfl) (by kernel_rfl) ?_
    refine QQ.off (by kernel_rfl) (by kernel_rfl) ?_
    refine QQ.off (by kernel_rfl) (by kernel_rfl) ?_
    refine QQ.off (by kernel_rfl) (by kernel_rfl) ?_
    refine QQ.off (by kernel_rfl) (by kernel_rfl) ?_
    refine QQ.op (.bool false) (by kernel_rfl) (fun w _ => by kernel_rfl) ?_
    refine QQ.op (.bool false) (by kernel_rfl) (fun w _ => by kernel_rfl) ?_
    refine QQ.off (by kernel_rfl) (by kernel_rfl) ?_
    refine QQ.off (by kernel_rfl) (by kernel_rfl) ?_
    refine QQ.off (by kernel_rfl) (by kernel_rfl) ?_
    refine QQ.off (by kernel_rfl) (by kernel_rfl) ?_
    refine QQ.off (by kernel_rfl) (by kernel_rfl) ?_
    refine QQ.off (by kernel_rfl) (by kernel_rfl) ?_
    refine QQ.off (by kernel_rfl) (by kernel_rfl) ?_
    refine QQ.op (.bool false) (by kernel_rfl) (fun w _ => by kernel_rfl) ?_
    refine QQ.op (.bool false) (by kernel_rfl) (fun w _ => by kernel_rfl) ?_
    refine QQ.off (by kernel_rfl) (by kernel_rfl) ?_
    refine QQ.op (.bool false) (by kernel_rfl) (fun w _ => by kernel_rfl) ?_
    refine QQ.op (.bool false) (by kernel_rfl) (fun w _ => by kernel_rfl) ?_
    refine QQ.done (s' := [(6, .bool false)]) [6] (by kernel_rfl) ?_
    refine NN.then ?_
    refine J.ret ?_
    refine NN.fin1 6 (.bool false) (by kernel_rfl) (by kernel_rfl) (.inl rfl) (fun w hi => hi.ret ?_)
    first | (cases H; rfl) | (obtain rfl := Option.some.inj H; rfl) | (simp only [Option.some.injEq, Prod.mk.injEq] at H; obtain ⟨rfl⟩ := H; rfl)

end Go.Proofs.Ytbgdgghijheopaa
