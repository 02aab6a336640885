/- Walks of functions of the seat: each call does what the Lean function of the same name says. Printed by the session's own program absgen.py. -/
import Derived.Test.YtfjbhmpnmpphoaaF4
namespace Go.Proofs.Ytfjbhmpnmpphoaa
open Go.Saw
set_option linter.unusedVariables false
set_option linter.unusedSimpArgs false

/-! ### sawmilllaw41_StrengthOrder: function 5 -/
def sawmilllaw41_StrengthOrder.f (K : Nat) (a0_0 : ByteArray) (a0_1 : ByteArray) (a0_2 : ByteArray) (a0_3 : Int) (a0_4 : Int) (a0_5 : Int) (a0_6 : Int) (a0_7 : Int) (a0_8 : Int) (a0_9 : Int) (a0_10 : Int) (a0_11 : List E41) (a0_12 : Int) (a0_13 : Int) (a0_14 : Int) (a0_15 : Int) (a0_16 : Bool) (a0_17 : Int) (a1_0 : ByteArray) (a1_1 : Int) (a1_2 : Int) (a1_3 : Int) (a1_4 : Int) (a1_5 : Int) (a1_6 : Int) (a1_7 : Int) (a1_8 : Int) (a1_9 : Int) (a1_10 : Int) (a1_11 : Int) (a1_12 : Int) (a2_0 : Int) (a2_1 : Int) (a2_2 : Int) (a2_3 : Int) (a2_4 : Int) (a2_5 : Int) (a2_6 : Int) : Option (Bool) := (sawmilllaw41_few.f a0_0 a0_1 a0_2 a0_3 a0_4 a0_5 a0_6 a0_7 a0_8 a0_9 a0_10 a0_11 a0_12 a0_13 a0_14 a0_15 a0_16 a0_17 a1_0 a1_1 a1_2 a1_3 a1_4 a1_5 a1_6 a1_7 a1_8 a1_9 a1_10 a1_11 a1_12).bind fun x734 => (if x734 = true then ((sawmillref41_Right.f K a0_0 a0_1 a0_2 a0_3 a0_4 a0_5 a0_6 a0_7 a0_8 a0_9 a0_10 a0_11 a0_12 a0_13 a0_14 a0_15 a0_16 a0_17 a1_0 a1_1 a1_2 a1_3 a1_4 a1_5 a1_6 a1_7 a1_8 a1_9 a1_10 a1_11 a1_12).bind fun x736 => (if x736 = true then ((strength_Stiffness.f K a0_0 a0_1 a0_2 a0_3 a0_4 a0_5 a0_6 a0_7 a0_8 a0_9 a0_10 a0_11 a0_12 a0_13 a0_14 a0_15 a0_16 a0_17 a1_0 a1_1 a1_2 a1_3 a1_4 a1_5 a1_6 a1_7 a1_8 a1_9 a1_10 a1_11 a1_12).bind fun x738 => ((strength_Knots.f K a0_0 a0_1 a0_2 a0_3 a0_4 a0_5 a0_6 a0_7 a0_8 a0_9 a0_10 a0_11 a0_12 a0_13 a0_14 a0_15 a0_16 a0_17).bind fun x739 => (if x738 < 0 then (some false) else (if a1_10 < x738 then (some false) else (if x739 < 0 then (some false) else (if 1000 < x739 then (some false) else ((app 56 ([] : List E41) a0_11).bind fun y748 => ((app 56 y748 ([(a2_0, a2_1, a2_2, a2_3, a2_4, a2_5, a2_6)] : List E41)).bind fun y762 => ((sawmillref13_Check.f K y762).bind fun x773 => (if x773 = 0 then ((strength_Stiffness.f K a0_0 a0_1 a0_2 a0_3 a0_4 a0_5 a0_6 a0_7 a0_8 a0_9 a0_10 y762 a0_12 a0_13 a0_14 a0_15 a0_16 a0_17 a1_0 a1_1 a1_2 a1_3 a1_4 a1_5 a1_6 a1_7 a1_8 a1_9 a1_10 a1_11 a1_12).bind fun x775 => (if x738 < x775 then (some false) else ((strength_Knots.f K a0_0 a0_1 a0_2 a0_3 a0_4 a0_5 a0_6 a0_7 a0_8 a0_9 a0_10 y762 a0_12 a0_13 a0_14 a0_15 a0_16 a0_17).bind fun x777 => (if x777 < x739 then (some false) else ((sawmillref13_Knot.f a2_0 a2_1 a2_2 a2_3 a2_4 a2_5 a2_6).bind fun x779 => (if x779 = true then ((strength_Stiffness.f K a0_0 a0_1 a0_2 a0_3 a0_4 a0_5 a0_6 a0_7 a0_8 a0_9 a0_10 a0_11 a0_12 (mn 20000 (IntKind.i64.wrap (a0_13 + 300))) (mn 20000 (IntKind.i64.wrap (a0_14 + 500))) a0_15 a0_16 a0_17 a1_0 a1_1 a1_2 a1_3 a1_4 a1_5 a1_6 a1_7 a1_8 a1_9 a1_10 a1_11 a1_12).bind fun x782 => (if x782 ≤ x738 then ((strength_Knots.f K a0_0 a0_1 a0_2 a0_3 a0_4 a0_5 a0_6 a0_7 a0_8 a0_9 a0_10 a0_11 a0_12 (mn 20000 (IntKind.i64.wrap (a0_13 + 300))) (mn 20000 (IntKind.i64.wrap (a0_14 + 500))) a0_15 a0_16 a0_17).bind fun x784 => (if x784 = x739 then ((sawmilllaw41_awake.f K ).bind fun x786 => (some x786)) else (some false))) else (some false))) else (if x777 = x739 then ((strength_Stiffness.f K a0_0 a0_1 a0_2 a0_3 a0_4 a0_5 a0_6 a0_7 a0_8 a0_9 a0_10 a0_11 a0_12 (mn 20000 (IntKind.i64.wrap (a0_13 + 300))) (mn 20000 (IntKind.i64.wrap (a0_14 + 500))) a0_15 a0_16 a0_17 a1_0 a1_1 a1_2 a1_3 a1_4 a1_5 a1_6 a1_7 a1_8 a1_9 a1_10 a1_11 a1_12).bind fun x789 => (if x789 ≤ x738 then ((strength_Knots.f K a0_0 a0_1 a0_2 a0_3 a0_4 a0_5 a0_6 a0_7 a0_8 a0_9 a0_10 a0_11 a0_12 (mn 20000 (IntKind.i64.wrap (a0_13 + 300))) (mn 20000 (IntKind.i64.wrap (a0_14 + 500))) a0_15 a0_16 a0_17).bind fun x791 => (if x791 = x739 then ((sawmilllaw41_awake.f K ).bind fun x793 => (some x793)) else (some false))) else (some false))) else (some false)))))))) else ((strength_Stiffness.f K a0_0 a0_1 a0_2 a0_3 a0_4 a0_5 a0_6 a0_7 a0_8 a0_9 a0_10 a0_11 a0_12 (mn 20000 (IntKind.i64.wrap (a0_13 + 300))) (mn 20000 (IntKind.i64.wrap (a0_14 + 500))) a0_15 a0_16 a0_17 a1_0 a1_1 a1_2 a1_3 a1_4 a1_5 a1_6 a1_7 a1_8 a1_9 a1_10 a1_11 a1_12).bind fun x795 => (if x795 ≤ x738 then ((strength_Knots.f K a0_0 a0_1 a0_2 a0_3 a0_4 a0_5 a0_6 a0_7 a0_8 a0_9 a0_10 a0_11 a0_12 (mn 20000 (IntKind.i64.wrap (a0_13 + 300))) (mn 20000 (IntKind.i64.wrap (a0_14 + 500))) a0_15 a0_16 a0_17).bind fun x797 => (if x797 = x739 then ((sawmilllaw41_awake.f K ).bind fun x799 => (some x799)) else (some false))) else (some false))))))))))))) else ((sawmilllaw41_awake.f K ).bind fun x907 => (some x907)))) else ((sawmilllaw41_awake.f K ).bind fun x908 => (some x908)))
set_option maxRecDepth 100000 in
theorem sawmilllaw41_StrengthOrder.calls (K : Nat) (a0_0 : ByteArray) (a0_1 : ByteArray) (a0_2 : ByteArray) (a0_3 : Int) (a0_4 : Int) (a0_5 : Int) (a0_6 : Int) (a0_7 : Int) (a0_8 : Int) (a0_9 : Int) (a0_10 : Int) (a0_11 : List E41) (a0_12 : Int) (a0_13 : Int) (a0_14 : Int) (a0_15 : Int) (a0_16 : Bool) (a0_17 : Int) (a1_0 : ByteArray) (a1_1 : Int) (a1_2 : Int) (a1_3 : Int) (a1_4 : Int) (a1_5 : Int) (a1_6 : Int) (a1_7 : Int) (a1_8 : Int) (a1_9 : Int) (a1_10 : Int) (a1_11 : Int) (a1_12 : Int) (a2_0 : Int) (a2_1 : Int) (a2_2 : Int) (a2_3 : Int) (a2_4 : Int) (a2_5 : Int) (a2_6 : Int)  (Aa0_11 : Option Addr) (ca0_11 : Nat)  (r1 : Bool) (w : World)   (ha0_11 : KRow (Cx.start w) enc41 7 a0_11 Aa0_11) (h : sawmilllaw41_StrengthOrder.f K a0_0 a0_1 a0_2 a0_3 a0_4 a0_5 a0_6 a0_7 a0_8 a0_9 a0_10 a0_11 a0_12 a0_13 a0_14 a0_15 a0_16 a0_17 a1_0 a1_1 a1_2 a1_3 a1_4 a1_5 a1_6 a1_7 a1_8 a1_9 a1_10 a1_11 a1_12 a2_0 a2_1 a2_2 a2_3 a2_4 a2_5 a2_6 = some r1) :
    Calls Try.prog 5 #[.agg #[.string a0_0, .string a0_1, .string a0_2, .int .i64 a0_3, .int .i64 a0_4, .int .i64 a0_5, .int .i64 a0_6, .int .i64 a0_7, .int .i64 a0_8, .int .i64 a0_9, .int .i64 a0_10, .slice Aa0_11 a0_11.length ca0_11, .int .i64 a0_12, .int .i64 a0_13, .int .i64 a0_14, .int .i64 a0_15, .bool a0_16, .int .i64 a0_17], .agg #[.string a1_0, .int .i64 a1_1, .int .i64 a1_2, .int .i64 a1_3, .int .i64 a1_4, .int .i64 a1_5, .int .i64 a1_6, .int .i64 a1_7, .int .i64 a1_8, .int .i64 a1_9, .int .i64 a1_10, .int .i64 a1_11, .int .i64 a1_12], .agg #[.int .i64 a2_0, .int .i64 a2_1, .int .i64 a2_2, .int .i64 a2_3, .int .i64 a2_4, .int .i64 a2_5, .int .i64 a2_6]] w (Ret w (.bool r1)) := by
  have H := h
  clear h
  unfold sawmilllaw41_StrengthOrder.f at H
  refine Go.Saw.calls (args := [.agg #[.string a0_0, .string a0_1, .string a0_2, .int .i64 a0_3, .int .i64 a0_4, .int .i64 a0_5, .int .i64 a0_6, .int .i64 a0_7, .int .i64 a0_8, .int .i64 a0_9, .int .i64 a0_10, .slice Aa0_11 a0_11.length ca0_11, .int .i64 a0_12, .int .i64 a0_13, .int .i64 a0_14, .int .i64 a0_15, .bool a0_16, .int .i64 a0_17], .agg #[.string a1_0, .int .i64 a1_1, .int .i64 a1_2, .int .i64 a1_3, .int .i64 a1_4, .int .i64 a1_5, .int .i64 a1_6, .int .i64 a1_7, .int .i64 a1_8, .int .i64 a1_9, .int .i64 a1_10, .int .i64 a1_11, .int .i64 a1_12], .agg #[.int .i64 a2_0, .int .i64 a2_1, .int .i64 a2_2, .int .i64 a2_3, .int .i64 a2_4, .int .i64 a2_5, .int .i64 a2_6]]) Try.func5 rfl Try.ntmps5 (by kernel_rfl) ?_
  refine J.seq ?_
  refine J.plain ?_
  refine LL.box 30 (.tmp 0) [.string a0_0, .string a0_1, .string a0_2, .int .i64 a0_3, .int .i64 a0_4, .int .i64 a0_5, .int .i64 a0_6, .int .i64 a0_7, .int .i64 a0_8, .int .i64 a0_9, .int .i64 a0_10, .slice Aa0_11 a0_11.length ca0_11, .int .i64 a0_12, .int .i64 a0_13, .int .i64 a0_14, .int .i64 a0_15, .bool a0_16, .int .i64 a0_17] (by kernel_rfl) rfl (by kernel_rfl) (fun g731 => ?_)
  refine LL.box 32 (.tmp 1) [.string a1_0, .int .i64 a1_1, .int .i64 a1_2, .int .i64 a1_3, .int .i64 a1_4, .int .i64 a1_5, .int .i64 a1_6, .int .i64 a1_7, .int .i64 a1_8, .int .i64 a1_9, .int .i64 a1_10, .int .i64 a1_11, .int .i64 a1_12] (by kernel_rfl) rfl (by kernel_rfl) (fun g732 => ?_)
  refine LL.box 41 (.tmp 2) [.int .i64 a2_0, .int .i64 a2_1, .int .i64 a2_2, .int .i64 a2_3, .int .i64 a2_4, .int .i64 a2_5, .int .i64 a2_6] (by kernel_rfl) rfl (by kernel_rfl) (fun g733 => ?_)
  refine LL.op (.bool false) (by kernel_rfl) (fun w _ => by kernel_rfl) ?_
  refine LL.done (s' := [(3, .pointer (some ⟨g731, 0, none⟩)), (4, .pointer (some ⟨g732, 0, none⟩)), (5, .pointer (some ⟨g733, 0, none⟩)), (6, .bool false)]) [3, 4, 5, 6] (by kernel_rfl) ?_
  refine NN.then ?_
  refine J.seq ?_
  refine J.seq ?_
  refine J.plain ?_
  refine LL.op (.agg #[.string a0_0, .string a0_1, .string a0_2, .int .i64 a0_3, .int .i64 a0_4, .int .i64 a0_5, .int .i64 a0_6, .int .i64 a0_7, .int .i64 a0_8, .int .i64 a0_9, .int .i64 a0_10, .slice Aa0_11 a0_11.length ca0_11, .int .i64 a0_12, .int .i64 a0_13, .int .i64 a0_14, .int .i64 a0_15, .bool a0_16, .int .i64 a0_17]) (by kernel_rfl) (ld 2 g731 0 rfl (by kernel_rfl) rfl (by kernel_rfl)) ?_
  refine LL.op (.agg #[.string a1_0, .int .i64 a1_1, .int .i64 a1_2, .int .i64 a1_3, .int .i64 a1_4, .int .i64 a1_5, .int .i64 a1_6, .int .i64 a1_7, .int .i64 a1_8, .int .i64 a1_9, .int .i64 a1_10, .int .i64 a1_11, .int .i64 a1_12]) (by kernel_rfl) (ld 1 g732 0 rfl (by kernel_rfl) rfl (by kernel_rfl)) ?_
  obtain ⟨x734, hx734, H⟩ := bind_some H
  refine LL.call 15 #[.agg #[.string a0_0, .string a0_1, .string a0_2, .int .i64 a0_3, .int .i64 a0_4, .int .i64 a0_5, .int .i64 a0_6, .int .i64 a0_7, .int .i64 a0_8, .int .i64 a0_9, .int .i64 a0_10, .slice Aa0_11 a0_11.length ca0_11, .int .i64 a0_12, .int .i64 a0_13, .int .i64 a0_14, .int .i64 a0_15, .bool a0_16, .int .i64 a0_17], .agg #[.string a1_0, .int .i64 a1_1, .int .i64 a1_2, .int .i64 a1_3, .int .i64 a1_4, .int .i64 a1_5, .int .i64 a1_6, .int .i64 a1_7, .int .i64 a1_8, .int .i64 a1_9, .int .i64 a1_10, .int .i64 a1_11, .int .i64 a1_12]] (.bool x734) (by kernel_rfl) (fun w => by kernel_rfl) (fun w hw => sawmilllaw41_few.calls a0_0 a0_1 a0_2 a0_3 a0_4 a0_5 a0_6 a0_7 a0_8 a0_9 a0_10 a0_11 a0_12 a0_13 a0_14 a0_15 a0_16 a0_17 a1_0 a1_1 a1_2 a1_3 a1_4 a1_5 a1_6 a1_7 a1_8 a1_9 a1_10 a1_11 a1_12  _ _ _ w  (ha0_11.at hw) hx734) ?_
  refine LL.op (.bool (!x734)) (by kernel_rfl) (fun w _ => by kernel_rfl) ?_
  refine LL.op (.bool (!x734)) (by kernel_rfl) (fun w _ => by kernel_rfl) ?_
  rcases Bool.eq_false_or_eq_true (x734) with c735 | c735
  · rw [if_pos (c735)] at H
    refine LL.bool 15 (!x734) false (by rw [show (!x734) = !(x734) from rfl, c735]; rfl) (by kernel_rfl) ?_
    refine LL.op (.agg #[.string a0_0, .string a0_1, .string a0_2, .int .i64 a0_3, .int .i64 a0_4, .int .i64 a0_5, .int .i64 a0_6, .int .i64 a0_7, .int .i64 a0_8, .int .i64 a0_9, .int .i64 a0_10, .slice Aa0_11 a0_11.length ca0_11, .int .i64 a0_12, .int .i64 a0_13, .int .i64 a0_14, .int .i64 a0_15, .bool a0_16, .int .i64 a0_17]) (by kernel_rfl) (ld 2 g731 0 rfl (by kernel_rfl) rfl (by kernel_rfl)) ?_
    refine LL.op (.agg #[.string a1_0, .int .i64 a1_1, .int .i64 a1_2, .int .i64 a1_3, .int .i64 a1_4, .int .i64 a1_5, .int .i64 a1_6, .int .i64 a1_7, .int .i64 a1_8, .int .i64 a1_9, .int .i64 a1_10, .int .i64 a1_11, .int .i64 a1_12]) (by kernel_rfl) (ld 1 g732 0 rfl (by kernel_rfl) rfl (by kernel_rfl)) ?_
    obtain ⟨x736, hx736, H⟩ := bind_some H
    refine LL.call 16 #[.agg #[.string a0_0, .string a0_1, .string a0_2, .int .i64 a0_3, .int .i64 a0_4, .int .i64 a0_5, .int .i64 a0_6, .int .i64 a0_7, .int .i64 a0_8, .int .i64 a0_9, .int .i64 a0_10, .slice Aa0_11 a0_11.length ca0_11, .int .i64 a0_12, .int .i64 a0_13, .int .i64 a0_14, .int .i64 a0_15, .bool a0_16, .int .i64 a0_17], .agg #[.string a1_0, .int .i64 a1_1, .int .i64 a1_2, .int .i64 a1_3, .int .i64 a1_4, .int .i64 a1_5, .int .i64 a1_6, .int .i64 a1_7, .int .i64 a1_8, .int .i64 a1_9, .int .i64 a1_10, .int .i64 a1_11, .int .i64 a1_12]] (.bool x736) (by kernel_rfl) (fun w => by kernel_rfl) (fun w hw => sawmillref41_Right.calls K a0_0 a0_1 a0_2 a0_3 a0_4 a0_5 a0_6 a0_7 a0_8 a0_9 a0_10 a0_11 a0_12 a0_13 a0_14 a0_15 a0_16 a0_17 a1_0 a1_1 a1_2 a1_3 a1_4 a1_5 a1_6 a1_7 a1_8 a1_9 a1_10 a1_11 a1_12  _ _ _ w  (ha0_11.at hw) hx736) ?_
    refine LL.op (.bool (!x736)) (by kernel_rfl) (fun w _ => by kernel_rfl) ?_
    refine LL.op (.bool (!x736)) (by kernel_rfl) (fun w _ => by kernel_rfl) ?_
    refine LL.done (s' := [(3, .pointer (some ⟨g731, 0, none⟩)), (4, .pointer (some ⟨g732, 0, none⟩)), (5, .pointer (some ⟨g733, 0, none⟩)), (6, .bool false), (20, .bool (!x736))]) [3, 4, 5, 6, 20] (by kernel_rfl) ?_
    refine NN.then ?_
    rcases Bool.eq_false_or_eq_true (x736) with c737 | c737
    · rw [if_pos (c737)] at H
      refine J.condF (b := !x736) (by rw [show (!x736) = !(x736) from rfl, c737]; rfl) (by kernel_rfl) (by kernel_rfl) ?_
      refine J.skip ?_
      refine NN.then ?_
      refine J.seq ?_
      refine J.drawn follows (by kernel_rfl) ?_
      refine QQ.op (.agg #[.string a0_0, .string a0_1, .string a0_2, .int .i64 a0_3, .int .i64 a0_4, .int .i64 a0_5, .int .i64 a0_6, .int .i64 a0_7, .int .i64 a0_8, .int .i64 a0_9, .int .i64 a0_10, .slice Aa0_11 a0_11.length ca0_11, .int .i64 a0_12, .int .i64 a0_13, .int .i64 a0_14, .int .i64 a0_15, .bool a0_16, .int .i64 a0_17]) (by kernel_rfl) (ld 2 g731 0 rfl (by kernel_rfl) rfl (by kernel_rfl)) ?_
      refine QQ.op (.agg #[.string a1_0, .int .i64 a1_1, .int .i64 a1_2, .int .i64 a1_3, .int .i64 a1_4, .int .i64 a1_5, .int .i64 a1_6, .int .i64 a1_7, .int .i64 a1_8, .int .i64 a1_9, .int .i64 a1_10, .int .i64 a1_11, .int .i64 a1_12]) (by kernel_rfl) (ld 1 g732 0 rfl (by kernel_rfl) rfl (by kernel_rfl)) ?_
      obtain ⟨x738, hx738, H⟩ := bind_some H
      refine QQ.call 20 #[.agg #[.string a0_0, .string a0_1, .string a0_2, .int .i64 a0_3, .int .i64 a0_4, .int .i64 a0_5, .int .i64 a0_6, .int .i64 a0_7, .int .i64 a0_8, .int .i64 a0_9, .int .i64 a0_10, .slice Aa0_11 a0_11.length ca0_11, .int .i64 a0_12, .int .i64 a0_13, .int .i64 a0_14, .int .i64 a0_15, .bool a0_16, .int .i64 a0_17], .agg #[.string a1_0, .int .i64 a1_1, .int .i64 a1_2, .int .i64 a1_3, .int .i64 a1_4, .int .i64 a1_5, .int .i64 a1_6, .int .i64 a1_7, .int .i64 a1_8, .int .i64 a1_9, .int .i64 a1_10, .int .i64 a1_11, .int .i64 a1_12]] (.int .i64 x738) (by kernel_rfl) (fun w => by kernel_rfl) (fun w hw => strength_Stiffness.calls K a0_0 a0_1 a0_2 a0_3 a0_4 a0_5 a0_6 a0_7 a0_8 a0_9 a0_10 a0_11 a0_12 a0_13 a0_14 a0_15 a0_16 a0_17 a1_0 a1_1 a1_2 a1_3 a1_4 a1_5 a1_6 a1_7 a1_8 a1_9 a1_10 a1_11 a1_12  _ _ _ w  (ha0_11.at hw) hx738) ?_
      refine QQ.op (.agg #[.string a0_0, .string a0_1, .string a0_2, .int .i64 a0_3, .int .i64 a0_4, .int .i64 a0_5, .int .i64 a0_6, .int .i64 a0_7, .int .i64 a0_8, .int .i64 a0_9, .int .i64 a0_10, .slice Aa0_11 a0_11.length ca0_11, .int .i64 a0_12, .int .i64 a0_13, .int .i64 a0_14, .int .i64 a0_15, .bool a0_16, .int .i64 a0_17]) (by kernel_rfl) (ld 2 g731 0 rfl (by kernel_rfl) rfl (by kernel_rfl)) ?_
      obtain ⟨x739, hx739, H⟩ := bind_some H
      refine QQ.call 18 #[.agg #[.string a0_0, .string a0_1, .string a0_2, .int .i64 a0_3, .int .i64 a0_4, .int .i64 a0_5, .int .i64 a0_6, .int .i64 a0_7, .int .i64 a0_8, .int .i64 a0_9, .int .i64 a0_10, .slice Aa0_11 a0_11.length ca0_11, .int .i64 a0_12, .int .i64 a0_13, .int .i64 a0_14, .int .i64 a0_15, .bool a0_16, .int .i64 a0_17]] (.int .i64 x739) (by kernel_rfl) (fun w => by kernel_rfl) (fun w hw => strength_Knots.calls K a0_0 a0_1 a0_2 a0_3 a0_4 a0_5 a0_6 a0_7 a0_8 a0_9 a0_10 a0_11 a0_12 a0_13 a0_14 a0_15 a0_16 a0_17  _ _ _ w  (ha0_11.at hw) hx739) ?_
      refine QQ.op (.int .i64 x738) (by kernel_rfl) (fun w _ => by kernel_rfl) ?_
      refine QQ.op (.int .i64 x739) (by kernel_rfl) (fun w _ => by kernel_rfl) ?_
      refine QQ.done (s' := [(3, .pointer (some ⟨g731, 0, none⟩)), (4, .pointer (some ⟨g732, 0, none⟩)), (5, .pointer (some ⟨g733, 0, none⟩)), (6, .bool false), (7, .int .i64 x738), (8, .int .i64 x739)]) [3, 4, 5, 6, 7, 8] (by kernel_rfl) ?_
      refine NN.then ?_
      refine J.seq ?_
      refine J.seq ?_
      refine J.plain ?_
      refine LL.op (.int .i64 x738) (by kernel_rfl) (fun w _ => by kernel_rfl) ?_
      refine LL.op (.bool (decide (x738 < 0))) (by kernel_rfl) (fun w _ => by kernel_rfl) ?_
      refine LL.op (.bool (decide (x738 < 0))) (by kernel_rfl) (fun w _ => by kernel_rfl) ?_
      rcases Bool.eq_false_or_eq_true (decide (x738 < 0)) with c740 | c740
      · rw [if_pos (of_decide_eq_true c740)] at H
        refine LL.bool 29 (decide (x738 < 0)) true c740 (by kernel_rfl) ?_
        refine LL.off (by kernel_rfl) (by kernel_rfl) ?_
        refine LL.off (by kernel_rfl) (by kernel_rfl) ?_
        refine LL.off (by kernel_rfl) (by kernel_rfl) ?_
        refine LL.off (by kernel_rfl) (by kernel_rfl) ?_
        refine LL.op (.bool true) (by kernel_rfl) (fun w _ => by kernel_rfl) ?_
        refine LL.op (.bool true) (by kernel_rfl) (fun w _ => by kernel_rfl) ?_
        refine LL.off (by kernel_rfl) (by kernel_rfl) ?_
        refine LL.off (by kernel_rfl) (by kernel_rfl) ?_
        refine LL.op (.bool true) (by kernel_rfl) (fun w _ => by kernel_rfl) ?_
        refine LL.op (.bool true) (by kernel_rfl) (fun w _ => by kernel_rfl) ?_
        refine LL.off (by kernel_rfl) (by kernel_rfl) ?_
        refine LL.off (by kernel_rfl) (by kernel_rfl) ?_
        refine LL.op (.bool true) (by kernel_rfl) (fun w _ => by kernel_rfl) ?_
        refine LL.done (s' := [(3, .pointer (some ⟨g731, 0, none⟩)), (4, .pointer (some ⟨g732, 0, none⟩)), (5, .pointer (some ⟨g733, 0, none⟩)), (6, .bool false), (7, .int .i64 x738), (8, .int .i64 x739), (42, .bool true)]) [3, 4, 5, 6, 7, 8, 42] (by kernel_rfl) ?_
        refine NN.then ?_
        refine J.condT (b := true) rfl (by kernel_rfl) (by kernel_rfl) ?_
        refine J.seq ?_
        refine J.plain ?_
        refine LL.op (.bool false) (by kernel_rfl) (fun w _ => by kernel_rfl) ?_
        refine LL.done (s' := [(3, .pointer (some ⟨g731, 0, none⟩)), (4, .pointer (some ⟨g732, 0, none⟩)), (5, .pointer (some ⟨g733, 0, none⟩)), (6, .bool false), (7, .int .i64 x738), (8, .int .i64 x739)]) [3, 4, 5, 6, 7, 8] (by kernel_rfl) ?_
        refine NN.then ?_
        refine J.ret ?_
        refine NN.then_ret ?_
        refine NN.fin1 6 (.bool false) (by kernel_rfl) (by kernel_rfl) (.inl rfl) (fun w hi => hi.ret ?_)
        first | (cases H; rfl) | (obtain rfl := Option.some.inj H; rfl) | (simp only [Option.some.injEq, Prod.mk.injEq] at H; obtain ⟨rfl⟩ := H; rfl)
      · rw [if_neg (of_decide_eq_false c740)] at H
        refine LL.bool 29 (decide (x738 < 0)) false c740 (by kernel_rfl) ?_
        refine LL.op (.int .i64 x738) (by kernel_rfl) (fun w _ => by kernel_rfl) ?_
        refine LL.op (.pointer (some ⟨g732, 10, none⟩)) (by kernel_rfl) (fun w _ => by kernel_rfl) ?_
        refine LL.op (.int .i64 a1_10) (by kernel_rfl) (ld 1 g732 10 rfl (by kernel_rfl) rfl (by kernel_rfl)) ?_
        refine LL.op (.bool (decide (a1_10 < x738))) (by kernel_rfl) (fun w _ => by kernel_rfl) ?_
        refine LL.op (.bool (decide (a1_10 < x738))) (by kernel_rfl) (fun w _ => by kernel_rfl) ?_
        refine LL.op (.bool (decide (a1_10 < x738))) (by kernel_rfl) (fun w _ => by kernel_rfl) ?_
        rcases Bool.eq_false_or_eq_true (decide (a1_10 < x738)) with c741 | c741
        · rw [if_pos (of_decide_eq_true c741)] at H
          refine LL.bool 35 (decide (a1_10 < x738)) true c741 (by kernel_rfl) ?_
          refine LL.off (by kernel_rfl) (by kernel_rfl) ?_
          refine LL.off (by kernel_rfl) (by kernel_rfl) ?_
          refine LL.op (.bool true) (by kernel_rfl) (fun w _ => by kernel_rfl) ?_
          refine LL.op (.bool true) (by kernel_rfl) (fun w _ => by kernel_rfl) ?_
          refine LL.off (by kernel_rfl) (by kernel_rfl) ?_
          refine LL.off (by kernel_rfl) (by kernel_rfl) ?_
          refine LL.op (.bool true) (by kernel_rfl) (fun w _ => by kernel_rfl) ?_
          refine LL.done (s' := [(3, .pointer (some ⟨g731, 0, none⟩)), (4, .pointer (some ⟨g732, 0, none⟩)), (5, .pointer (some ⟨g733, 0, none⟩)), (6, .bool false), (7, .int .i64 x738), (8, .int .i64 x739), (42, .bool true)]) [3, 4, 5, 6, 7, 8, 42] (by kernel_rfl) ?_
          refine NN.then ?_
          refine J.condT (b := true) rfl (by kernel_rfl) (by kernel_rfl) ?_
          refine J.seq ?_
          refine J.plain ?_
          refine LL.op (.bool false) (by kernel_rfl) (fun w _ => by kernel_rfl) ?_
          refine LL.done (s' := [(3, .pointer (some ⟨g731, 0, none⟩)), (4, .pointer (some ⟨g732, 0, none⟩)), (5, .pointer (some ⟨g733, 0, none⟩)), (6, .bool false), (7, .int .i64 x738), (8, .int .i64 x739)]) [3, 4, 5, 6, 7, 8] (by kernel_rfl) ?_
          refine NN.then ?_
          refine J.ret ?_
          refine NN.then_ret ?_
          refine NN.fin1 6 (.bool false) (by kernel_rfl) (by kernel_rfl) (.inl rfl) (fun w hi => hi.ret ?_)
          first | (cases H; rfl) | (obtain rfl := Option.some.inj H; rfl) | (simp only [Option.some.injEq, Prod.mk.injEq] at H; obtain ⟨rfl⟩ := H; rfl)
        · rw [if_neg (of_decide_eq_false c741)] at H
          refine LL.bool 35 (decide (a1_10 < x738)) false c741 (by kernel_rfl) ?_
          refine LL.op (.int .i64 x739) (by kernel_rfl) (fun w _ => by kernel_rfl) ?_
          refine LL.op (.bool (decide (x739 < 0))) (by kernel_rfl) (fun w _ => by kernel_rfl) ?_
          refine LL.op (.bool (decide (x739 < 0))) (by kernel_rfl) (fun w _ => by kernel_rfl) ?_
          refine LL.op (.bool (decide (x739 < 0))) (by kernel_rfl) (fun w _ => by kernel_rfl) ?_
          rcases Bool.eq_false_or_eq_true (decide (x739 < 0)) with c742 | c742
          · rw [if_pos (of_decide_eq_true c742)] at H
            refine LL.bool 39 (decide (x739 < 0)) true c742 (by kernel_rfl) ?_
            refine LL.off (by kernel_rfl) (by kernel_rfl) ?_
            refine LL.off (by kernel_rfl) (by kernel_rfl) ?_
            refine LL.op (.bool true) (by kernel_rfl) (fun w _ => by kernel_rfl) ?_
            refine LL.done (s' := [(3, .pointer (some ⟨g731, 0, none⟩)), (4, .pointer (some ⟨g732, 0, none⟩)), (5, .pointer (some ⟨g733, 0, none⟩)), (6, .bool false), (7, .int .i64 x738), (8, .int .i64 x739), (42, .bool true)]) [3, 4, 5, 6, 7, 8, 42] (by kernel_rfl) ?_
            refine NN.then ?_
            refine J.condT (b := true) rfl (by kernel_rfl) (by kernel_rfl) ?_
            refine J.seq ?_
            refine J.plain ?_
            refine LL.op (.bool false) (by kernel_rfl) (fun w _ => by kernel_rfl) ?_
            refine LL.done (s' := [(3, .pointer (some ⟨g731, 0, none⟩)), (4, .pointer (some ⟨g732, 0, none⟩)), (5, .pointer (some ⟨g733, 0, none⟩)), (6, .bool false), (7, .int .i64 x738), (8, .int .i64 x739)]) [3, 4, 5, 6, 7, 8] (by kernel_rfl) ?_
            refine NN.then ?_
            refine J.ret ?_
            refine NN.then_ret ?_
            refine NN.fin1 6 (.bool false) (by kernel_rfl) (by kernel_rfl) (.inl rfl) (fun w hi => hi.ret ?_)
            first | (cases H; rfl) | (obtain rfl := Option.some.inj H; rfl) | (simp only [Option.some.injEq, Prod.mk.injEq] at H; obtain ⟨rfl⟩ := H; rfl)
          · rw [if_neg (of_decide_eq_false c742)] at H
            refine LL.bool 39 (decide (x739 < 0)) false c742 (by kernel_rfl) ?_
            refine LL.op (.int .i64 x739) (by kernel_rfl) (fun w _ => by kernel_rfl) ?_
            refine LL.op (.bool (decide (1000 < x739))) (by kernel_rfl) (fun w _ => by kernel_rfl) ?_
            refine LL.op (.bool (decide (1000 < x739))) (by kernel_rfl) (fun w _ => by kernel_rfl) ?_
            refine LL.done (s' := [(3, .pointer (some ⟨g731, 0, none⟩)), (4, .pointer (some ⟨g732, 0, none⟩)), (5, .pointer (some ⟨g733, 0, none⟩)), (6, .bool false), (7, .int .i64 x738), (8, .int .i64 x739), (42, .bool (decide (1000 < x739)))]) [3, 4, 5, 6, 7, 8, 42] (by kernel_rfl) ?_
            refine NN.then ?_
            rcases Bool.eq_false_or_eq_true (decide (1000 < x739)) with c743 | c743
            · rw [if_pos (of_decide_eq_true c743)] at H
              refine J.condT (b := decide (1000 < x739)) c743 (by kernel_rfl) (by kernel_rfl) ?_
              refine J.seq ?_
              refine J.plain ?_
              refine LL.op (.bool false) (by kernel_rfl) (fun w _ => by kernel_rfl) ?_
              refine LL.done (s' := [(3, .pointer (some ⟨g731, 0, none⟩)), (4, .pointer (some ⟨g732, 0, none⟩)), (5, .pointer (some ⟨g733, 0, none⟩)), (6, .bool false), (7, .int .i64 x738), (8, .int .i64 x739)]) [3, 4, 5, 6, 7, 8] (by kernel_rfl) ?_
              refine NN.then ?_
              refine J.ret ?_
              refine NN.then_ret ?_
              refine NN.fin1 6 (.bool false) (by kernel_rfl) (by kernel_rfl) (.inl rfl) (fun w hi => hi.ret ?_)
              first | (cases H; rfl) | (obtain rfl := Option.some.inj H; rfl) | (simp only [Option.some.injEq, Prod.mk.injEq] at H; obtain ⟨rfl⟩ := H; rfl)
            · rw [if_neg (of_decide_eq_false c743)] at H
              refine J.condF (b := decide (1000 < x739)) c743 (by kernel_rfl) (by kernel_rfl) ?_
              refine J.skip ?_
              refine NN.then ?_
              refine J.seq ?_
              refine J.plain ?_
              refine LL.op (.agg #[.string a0_0, .string a0_1, .string a0_2, .int .i64 a0_3, .int .i64 a0_4, .int .i64 a0_5, .int .i64 a0_6, .int .i64 a0_7, .int .i64 a0_8, .int .i64 a0_9, .int .i64 a0_10, .slice Aa0_11 a0_11.length ca0_11, .int .i64 a0_12, .int .i64 a0_13, .int .i64 a0_14, .int .i64 a0_15, .bool a0_16, .int .i64 a0_17]) (by kernel_rfl) (ld 2 g731 0 rfl (by kernel_rfl) rfl (by kernel_rfl)) ?_
              refine LL.alloc 30 [.string (⟨#[]⟩ : ByteArray), .string (⟨#[]⟩ : ByteArray), .string (⟨#[]⟩ : ByteArray), .int .i64 0, .int .i64 0, .int .i64 0, .int .i64 0, .int .i64 0, .int .i64 0, .int .i64 0, .int .i64 0, .slice none 0 0, .int .i64 0, .int .i64 0, .int .i64 0, .int .i64 0, .bool false, .int .i64 0] (by kernel_rfl) rfl (by kernel_rfl) (fun g744 => ?_)
              refine LL.store 0 g744 0 30 (.tmp 9) (.tmp 43) [.string a0_0, .string a0_1, .string a0_2, .int .i64 a0_3, .int .i64 a0_4, .int .i64 a0_5, .int .i64 a0_6, .int .i64 a0_7, .int .i64 a0_8, .int .i64 a0_9, .int .i64 a0_10, .slice Aa0_11 a0_11.length ca0_11, .int .i64 a0_12, .int .i64 a0_13, .int .i64 a0_14, .int .i64 a0_15, .bool a0_16, .int .i64 a0_17] (bs' := [(g744, cl [.string a0_0, .string a0_1, .string a0_2, .int .i64 a0_3, .int .i64 a0_4, .int .i64 a0_5, .int .i64 a0_6, .int .i64 a0_7, .int .i64 a0_8, .int .i64 a0_9, .int .i64 a0_10, .slice Aa0_11 a0_11.length ca0_11, .int .i64 a0_12, .int .i64 a0_13, .int .i64 a0_14, .int .i64 a0_15, .bool a0_16, .int .i64 a0_17] 30), (g733, cl [.int .i64 a2_0, .int .i64 a2_1, .int .i64 a2_2, .int .i64 a2_3, .int .i64 a2_4, .int .i64 a2_5, .int .i64 a2_6] 41), (g732, cl [.string a1_0, .int .i64 a1_1, .int .i64 a1_2, .int .i64 a1_3, .int .i64 a1_4, .int .i64 a1_5, .int .i64 a1_6, .int .i64 a1_7, .int .i64 a1_8, .int .i64 a1_9, .int .i64 a1_10, .int .i64 a1_11, .int .i64 a1_12] 32), (g731, cl [.string a0_0, .string a0_1, .string a0_2, .int .i64 a0_3, .int .i64 a0_4, .int .i64 a0_5, .int .i64 a0_6, .int .i64 a0_7, .int .i64 a0_8, .int .i64 a0_9, .int .i64 a0_10, .slice Aa0_11 a0_11.length ca0_11, .int .i64 a0_12, .int .i64 a0_13, .int .i64 a0_14, .int .i64 a0_15, .bool a0_16, .int .i64 a0_17] 30)]) rfl (by kernel_rfl) rfl (by kernel_rfl) rfl (by kernel_rfl) ?_
              refine LL.done (s' := [(3, .pointer (some ⟨g731, 0, none⟩)), (4, .pointer (some ⟨g732, 0, none⟩)), (5, .pointer (some ⟨g733, 0, none⟩)), (6, .bool false), (7, .int .i64 x738), (8, .int .i64 x739), (9, .pointer (some ⟨g744, 0, none⟩))]) [3, 4, 5, 6, 7, 8, 9] (by kernel_rfl) ?_
              refine NN.then ?_
              refine J.seq ?_
              refine J.heldBut [(g733, cl [.int .i64 a2_0, .int .i64 a2_1, .int .i64 a2_2, .int .i64 a2_3, .int .i64 a2_4, .int .i64 a2_5, .int .i64 a2_6] 41), (g732, cl [.string a1_0, .int .i64 a1_1, .int .i64 a1_2, .int .i64 a1_3, .int .i64 a1_4, .int .i64 a1_5, .int .i64 a1_6, .int .i64 a1_7, .int .i64 a1_8, .int .i64 a1_9, .int .i64 a1_10, .int .i64 a1_11, .int .i64 a1_12] 32), (g731, cl [.string a0_0, .string a0_1, .string a0_2, .int .i64 a0_3, .int .i64 a0_4, .int .i64 a0_5, .int .i64 a0_6, .int .i64 a0_7, .int .i64 a0_8, .int .i64 a0_9, .int .i64 a0_10, .slice Aa0_11 a0_11.length ca0_11, .int .i64 a0_12, .int .i64 a0_13, .int .i64 a0_14, .int .i64 a0_15, .bool a0_16, .int .i64 a0_17] 30)] follows ?_
              refine HH.take 1 (.pointer (some ⟨g731, 11, none⟩)) rfl (by kernel_rfl) (by kernel_rfl) (fun _ h => h.sub (List.Sublist.cons _ (List.Sublist.refl _))) (fun w _ => by kernel_rfl) ?_
              refine HH.take 2 (.slice Aa0_11 a0_11.length ca0_11) rfl (by kernel_rfl) (by kernel_rfl) (fun _ h => h.sub (List.Sublist.cons _ (List.Sublist.refl _))) (ld 2 g731 11 rfl (by kernel_rfl) rfl (by kernel_rfl)) ?_
              refine HH.take 4 (.agg #[.int .i64 a2_0, .int .i64 a2_1, .int .i64 a2_2, .int .i64 a2_3, .int .i64 a2_4, .int .i64 a2_5, .int .i64 a2_6]) rfl (by kernel_rfl) (by kernel_rfl) (fun _ h => h.sub (List.Sublist.cons _ (List.Sublist.refl _))) (ld 0 g733 0 rfl (by kernel_rfl) rfl (by kernel_rfl)) ?_
              refine HH.all2 0 5 (by kernel_rfl) ?_ ?_
              · skip
                refine HS.lit0 26 41 7 enc41 rfl (by kernel_rfl) rfl (by kernel_rfl) (fun _ h => h.sub (List.Sublist.cons _ (List.Sublist.refl _))) (fun A745 o746 => ?_)
                refine HH.all2 3 5 (by kernel_rfl) ?_ ?_
                · skip
                  obtain ⟨y748, hy748, H⟩ := bind_some H
                  refine HS.app (l2 := a0_11) (cap := 0) (c2 := ca0_11) [(g744, cl [.string a0_0, .string a0_1, .string a0_2, .int .i64 a0_3, .int .i64 a0_4, .int .i64 a0_5, .int .i64 a0_6, .int .i64 a0_7, .int .i64 a0_8, .int .i64 a0_9, .int .i64 a0_10, .slice Aa0_11 a0_11.length ca0_11, .int .i64 a0_12, .int .i64 a0_13, .int .i64 a0_14, .int .i64 a0_15, .bool a0_16, .int .i64 a0_17] 30), (g733, cl [.int .i64 a2_0, .int .i64 a2_1, .int .i64 a2_2, .int .i64 a2_3, .int .i64 a2_4, .int .i64 a2_5, .int .i64 a2_6] 41), (g732, cl [.string a1_0, .int .i64 a1_1, .int .i64 a1_2, .int .i64 a1_3, .int .i64 a1_4, .int .i64 a1_5, .int .i64 a1_6, .int .i64 a1_7, .int .i64 a1_8, .int .i64 a1_9, .int .i64 a1_10, .int .i64 a1_11, .int .i64 a1_12] 32), (g731, cl [.string a0_0, .string a0_1, .string a0_2, .int .i64 a0_3, .int .i64 a0_4, .int .i64 a0_5, .int .i64 a0_6, .int .i64 a0_7, .int .i64 a0_8, .int .i64 a0_9, .int .i64 a0_10, .slice Aa0_11 a0_11.length ca0_11, .int .i64 a0_12, .int .i64 a0_13, .int .i64 a0_14, .int .i64 a0_15, .bool a0_16, .int .i64 a0_17] 30)] (.tmp 44) (.tmp 46) el26 ok41 o746 ha0_11 hy748 rfl (by kernel_rfl) rfl (by kernel_rfl) (by kernel_rfl) (fun _ h => h.sub (List.Sublist.cons _ (List.Sublist.refl _))) (fun A749 c750 ba751 o752 => ?_)
                  refine HH.all1 5 (by kernel_rfl) ?_
                  refine HS.lit 26 1 #[(0, .tmp 48)] [.int .i64 a2_0, .int .i64 a2_1, .int .i64 a2_2, .int .i64 a2_3, .int .i64 a2_4, .int .i64 a2_5, .int .i64 a2_6] 41 ([(a2_0, a2_1, a2_2, a2_3, a2_4, a2_5, a2_6)] : List E41) rfl (by kernel_rfl) rfl (by kernel_rfl) ok41.len rfl rfl (fun _ h => h.sub ((List.Sublist.cons _ (List.Sublist.refl _)).trans (List.sublist_append_left _ _))) (fun R754 F755 A756 c757 le758 k759 fr760 => ?_)
                  refine HH.all1 6 (by kernel_rfl) ?_
                  obtain ⟨y762, hy762, H⟩ := bind_some H
                  refine HS.app (l2 := ([(a2_0, a2_1, a2_2, a2_3, a2_4, a2_5, a2_6)] : List E41)) (cap := c750) (c2 := c757) [(g744, cl [.string a0_0, .string a0_1, .string a0_2, .int .i64 a0_3, .int .i64 a0_4, .int .i64 a0_5, .int .i64 a0_6, .int .i64 a0_7, .int .i64 a0_8, .int .i64 a0_9, .int .i64 a0_10, .slice Aa0_11 a0_11.length ca0_11, .int .i64 a0_12, .int .i64 a0_13, .int .i64 a0_14, .int .i64 a0_15, .bool a0_16, .int .i64 a0_17] 30), (g733, cl [.int .i64 a2_0, .int .i64 a2_1, .int .i64 a2_2, .int .i64 a2_3, .int .i64 a2_4, .int .i64 a2_5, .int .i64 a2_6] 41), (g732, cl [.string a1_0, .int .i64 a1_1, .int .i64 a1_2, .int .i64 a1_3, .int .i64 a1_4, .int .i64 a1_5, .int .i64 a1_6, .int .i64 a1_7, .int .i64 a1_8, .int .i64 a1_9, .int .i64 a1_10, .int .i64 a1_11, .int .i64 a1_12] 32), (g731, cl [.string a0_0, .string a0_1, .string a0_2, .int .i64 a0_3, .int .i64 a0_4, .int .i64 a0_5, .int .i64 a0_6, .int .i64 a0_7, .int .i64 a0_8, .int .i64 a0_9, .int .i64 a0_10, .slice Aa0_11 a0_11.length ca0_11, .int .i64 a0_12, .int .i64 a0_13, .int .i64 a0_14, .int .i64 a0_15, .bool a0_16, .int .i64 a0_17] 30)] (.tmp 47) (.tmp 49) el26 ok41 o752 k759 hy762 rfl (by kernel_rfl) rfl (by kernel_rfl) (by kernel_rfl) (fun _ h => (h.sub (List.Sublist.cons _ (List.Sublist.refl _))).back le758) (fun A763 c764 ba765 o766 => ?_)
                  refine HH.take 7 (.pointer (some ⟨g744, 11, none⟩)) rfl (by kernel_rfl) (by kernel_rfl) (fun _ h => (h.sub ((List.Sublist.cons _ (List.Sublist.refl _)).trans (List.sublist_append_left _ _))).back le758) (fun w _ => by kernel_rfl) ?_
                  refine HH.all1 8 (by kernel_rfl) ?_
                  refine HS.store 0 g744 11 26 (.tmp 51) (.tmp 50) [.string a0_0, .string a0_1, .string a0_2, .int .i64 a0_3, .int .i64 a0_4, .int .i64 a0_5, .int .i64 a0_6, .int .i64 a0_7, .int .i64 a0_8, .int .i64 a0_9, .int .i64 a0_10, .slice A763 y762.length c764, .int .i64 a0_12, .int .i64 a0_13, .int .i64 a0_14, .int .i64 a0_15, .bool a0_16, .int .i64 a0_17] (bs' := [(g744, cl [.string a0_0, .string a0_1, .string a0_2, .int .i64 a0_3, .int .i64 a0_4, .int .i64 a0_5, .int .i64 a0_6, .int .i64 a0_7, .int .i64 a0_8, .int .i64 a0_9, .int .i64 a0_10, .slice A763 y762.length c764, .int .i64 a0_12, .int .i64 a0_13, .int .i64 a0_14, .int .i64 a0_15, .bool a0_16, .int .i64 a0_17] 30), (g733, cl [.int .i64 a2_0, .int .i64 a2_1, .int .i64 a2_2, .int .i64 a2_3, .int .i64 a2_4, .int .i64 a2_5, .int .i64 a2_6] 41), (g732, cl [.string a1_0, .int .i64 a1_1, .int .i64 a1_2, .int .i64 a1_3, .int .i64 a1_4, .int .i64 a1_5, .int .i64 a1_6, .int .i64 a1_7, .int .i64 a1_8, .int .i64 a1_9, .int .i64 a1_10, .int .i64 a1_11, .int .i64 a1_12] 32), (g731, cl [.string a0_0, .string a0_1, .string a0_2, .int .i64 a0_3, .int .i64 a0_4, .int .i64 a0_5, .int .i64 a0_6, .int .i64 a0_7, .int .i64 a0_8, .int .i64 a0_9, .int .i64 a0_10, .slice Aa0_11 a0_11.length ca0_11, .int .i64 a0_12, .int .i64 a0_13, .int .i64 a0_14, .int .i64 a0_15, .bool a0_16, .int .i64 a0_17] 30)] ++ ba765) rfl rfl (by kernel_rfl) rfl (by kernel_rfl) rfl (by kernel_rfl) (fun _ h => (h.sub ((List.Sublist.cons _ (List.Sublist.refl _)).trans (List.sublist_append_left _ _))).back le758) ?_
                  refine HH.done (s' := [(3, .pointer (some ⟨g731, 0, none⟩)), (4, .pointer (some ⟨g732, 0, none⟩)), (5, .pointer (some ⟨g733, 0, none⟩)), (6, .bool false), (7, .int .i64 x738), (8, .int .i64 x739), (9, .pointer (some ⟨g744, 0, none⟩))]) [3, 4, 5, 6, 7, 8, 9] (by kernel_rfl) (by kernel_rfl) ?_
                  refine NN.then ?_
                  refine J.seq ?_
                  refine J.seq ?_
                  refine J.plain ?_
                  refine LL.op (.pointer (some ⟨g744, 11, none⟩)) (by kernel_rfl) (fun w _ => by kernel_rfl) ?_
                  refine LL.op (.slice A763 y762.length c764) (by kernel_rfl) (ld 0 g744 11 rfl (by kernel_rfl) rfl (by kernel_rfl)) ?_
                  refine LL.freeze (pre := [(g744, cl [.string a0_0, .string a0_1, .string a0_2, .int .i64 a0_3, .int .i64 a0_4, .int .i64 a0_5, .int .i64 a0_6, .int .i64 a0_7, .int .i64 a0_8, .int .i64 a0_9, .int .i64 a0_10, .slice A763 y762.length c764, .int .i64 a0_12, .int .i64 a0_13, .int .i64 a0_14, .int .i64 a0_15, .bool a0_16, .int .i64 a0_17] 30), (g733, cl [.int .i64 a2_0, .int .i64 a2_1, .int .i64 a2_2, .int .i64 a2_3, .int .i64 a2_4, .int .i64 a2_5, .int .i64 a2_6] 41), (g732, cl [.string a1_0, .int .i64 a1_1, .int .i64 a1_2, .int .i64 a1_3, .int .i64 a1_4, .int .i64 a1_5, .int .i64 a1_6, .int .i64 a1_7, .int .i64 a1_8, .int .i64 a1_9, .int .i64 a1_10, .int .i64 a1_11, .int .i64 a1_12] 32), (g731, cl [.string a0_0, .string a0_1, .string a0_2, .int .i64 a0_3, .int .i64 a0_4, .int .i64 a0_5, .int .i64 a0_6, .int .i64 a0_7, .int .i64 a0_8, .int .i64 a0_9, .int .i64 a0_10, .slice Aa0_11 a0_11.length ca0_11, .int .i64 a0_12, .int .i64 a0_13, .int .i64 a0_14, .int .i64 a0_15, .bool a0_16, .int .i64 a0_17] 30)]) ok41 o766 (fun R768 F769 le770 k771 fr772 => ?_)
                  obtain ⟨x773, hx773, H⟩ := bind_some H
                  refine LL.call 26 #[.slice A763 y762.length c764] (.int .i64 x773) (by kernel_rfl) (fun w => by kernel_rfl) (fun w hw => sawmillref13_Check.calls K y762  _ _ _ w  (k771.at hw) hx773) ?_
                  refine LL.op (.bool (x773 == 0)) (by kernel_rfl) (fun w _ => by kernel_rfl) ?_
                  refine LL.op (.bool (x773 == 0)) (by kernel_rfl) (fun w _ => by kernel_rfl) ?_
                  rcases Bool.eq_false_or_eq_true ((x773 == 0)) with c774 | c774
                  · rw [if_pos (eq_of_beq c774)] at H
                    refine LL.bool 56 ((x773 == 0)) true c774 (by kernel_rfl) ?_
                    refine LL.op (.agg #[.string a0_0, .string a0_1, .string a0_2, .int .i64 a0_3, .int .i64 a0_4, .int .i64 a0_5, .int .i64 a0_6, .int .i64 a0_7, .int .i64 a0_8, .int .i64 a0_9, .int .i64 a0_10, .slice A763 y762.length c764, .int .i64 a0_12, .int .i64 a0_13, .int .i64 a0_14, .int .i64 a0_15, .bool a0_16, .int .i64 a0_17]) (by kernel_rfl) (ld 0 g744 0 rfl (by kernel_rfl) rfl (by kernel_rfl)) ?_
                    refine LL.op (.agg #[.string a1_0, .int .i64 a1_1, .int .i64 a1_2, .int .i64 a1_3, .int .i64 a1_4, .int .i64 a1_5, .int .i64 a1_6, .int .i64 a1_7, .int .i64 a1_8, .int .i64 a1_9, .int .i64 a1_10, .int .i64 a1_11, .int .i64 a1_12]) (by kernel_rfl) (ld 2 g732 0 rfl (by kernel_rfl) rfl (by kernel_rfl)) ?_
                    obtain ⟨x775, hx775, H⟩ := bind_some H
                    refine LL.call 20 #[.agg #[.string a0_0, .string a0_1, .string a0_2, .int .i64 a0_3, .int .i64 a0_4, .int .i64 a0_5, .int .i64 a0_6, .int .i64 a0_7, .int .i64 a0_8, .int .i64 a0_9, .int .i64 a0_10, .slice A763 y762.length c764, .int .i64 a0_12, .int .i64 a0_13, .int .i64 a0_14, .int .i64 a0_15, .bool a0_16, .int .i64 a0_17], .agg #[.string a1_0, .int .i64 a1_1, .int .i64 a1_2, .int .i64 a1_3, .int .i64 a1_4, .int .i64 a1_5, .int .i64 a1_6, .int .i64 a1_7, .int .i64 a1_8, .int .i64 a1_9, .int .i64 a1_10, .int .i64 a1_11, .int .i64 a1_12]] (.int .i64 x775) (by kernel_rfl) (fun w => by kernel_rfl) (fun w hw => strength_Stiffness.calls K a0_0 a0_1 a0_2 a0_3 a0_4 a0_5 a0_6 a0_7 a0_8 a0_9 a0_10 y762 a0_12 a0_13 a0_14 a0_15 a0_16 a0_17 a1_0 a1_1 a1_2 a1_3 a1_4 a1_5 a1_6 a1_7 a1_8 a1_9 a1_10 a1_11 a1_12  _ _ _ w  (k771.at hw) hx775) ?_
                    refine LL.op (.int .i64 x738) (by kernel_rfl) (fun w _ => by kernel_rfl) ?_
                    refine LL.op (.bool (decide (x738 < x775))) (by kernel_rfl) (fun w _ => by kernel_rfl) ?_
                    refine LL.op (.bool (decide (x738 < x775))) (by kernel_rfl) (fun w _ => by kernel_rfl) ?_
                    rcases Bool.eq_false_or_eq_true (decide (x738 < x775)) with c776 | c776
                    · rw [if_pos (of_decide_eq_true c776)] at H
                      refine LL.bool 62 (decide (x738 < x775)) true c776 (by kernel_rfl) ?_
                      refine LL.off (by kernel_rfl) (by kernel_rfl) ?_
                      refine LL.off (by kernel_rfl) (by kernel_rfl) ?_
                      refine LL.off (by kernel_rfl) (by kernel_rfl) ?_
                      refine LL.off (by kernel_rfl) (by kernel_rfl) ?_
                      refine LL.op (.bool true) (by kernel_rfl) (fun w _ => by kernel_rfl) ?_
                      refine LL.op (.bool true) (by kernel_rfl) (fun w _ => by kernel_rfl) ?_
                      refine LL.off (by kernel_rfl) (by kernel_rfl) ?_
                      refine LL.off (by kernel_rfl) (by kernel_rfl) ?_
                      refine LL.off (by kernel_rfl) (by kernel_rfl) ?_
                      refine LL.off (by kernel_rfl) (by kernel_rfl) ?_
                      refine LL.off (by kernel_rfl) (by kernel_rfl) ?_
                      refine LL.off (by kernel_rfl) (by kernel_rfl) ?_
                      refine LL.off (by kernel_rfl) (by kernel_rfl) ?_
                      refine LL.off (by kernel_rfl) (by kernel_rfl) ?_
                      refine LL.off (by kernel_rfl) (by kernel_rfl) ?_
                      refine LL.op (.bool true) (by kernel_rfl) (fun w _ => by kernel_rfl) ?_
                      refine LL.op (.bool true) (by kernel_rfl) (fun w _ => by kernel_rfl) ?_
                      refine LL.done (s' := [(3, .pointer (some ⟨g731, 0, none⟩)), (4, .pointer (some ⟨g732, 0, none⟩)), (6, .bool false), (7, .int .i64 x738), (8, .int .i64 x739), (79, .bool true)]) [3, 4, 6, 7, 8, 79] (by kernel_rfl) ?_
                      refine NN.then ?_
                      refine J.condT (b := true) rfl (by kernel_rfl) (by kernel_rfl) ?_
                      refine J.seq ?_
                      refine J.plain ?_
                      refine LL.op (.bool false) (by kernel_rfl) (fun w _ => by kernel_rfl) ?_
                      refine LL.done (s' := [(3, .pointer (some ⟨g731, 0, none⟩)), (4, .pointer (some ⟨g732, 0, none⟩)), (6, .bool false), (7, .int .i64 x738), (8, .int .i64 x739)]) [3, 4, 6, 7, 8] (by kernel_rfl) ?_
                      refine NN.then ?_
                      refine J.ret ?_
                      refine NN.then_ret ?_
                      refine NN.fin1 6 (.bool false) (by kernel_rfl) (by kernel_rfl) (.inl rfl) (fun w hi => hi.ret ?_)
                      first | (cases H; rfl) | (obtain rfl := Option.some.inj H; rfl) | (simp only [Option.some.injEq, Prod.mk.injEq] at H; obtain ⟨rfl⟩ := H; rfl)
                    · rw [if_neg (of_decide_eq_false c776)] at H
                      refine LL.bool 62 (decide (x738 < x775)) false c776 (by kernel_rfl) ?_
                      refine LL.op (.agg #[.string a0_0, .string a0_1, .string a0_2, .int .i64 a0_3, .int .i64 a0_4, .int .i64 a0_5, .int .i64 a0_6, .int .i64 a0_7, .int .i64 a0_8, .int .i64 a0_9, .int .i64 a0_10, .slice A763 y762.length c764, .int .i64 a0_12, .int .i64 a0_13, .int .i64 a0_14, .int .i64 a0_15, .bool a0_16, .int .i64 a0_17]) (by kernel_rfl) (ld 0 g744 0 rfl (by kernel_rfl) rfl (by kernel_rfl)) ?_
                      obtain ⟨x777, hx777, H⟩ := bind_some H
                      refine LL.call 18 #[.agg #[.string a0_0, .string a0_1, .string a0_2, .int .i64 a0_3, .int .i64 a0_4, .int .i64 a0_5, .int .i64 a0_6, .int .i64 a0_7, .int .i64 a0_8, .int .i64 a0_9, .int .i64 a0_10, .slice A763 y762.length c764, .int .i64 a0_12, .int .i64 a0_13, .int .i64 a0_14, .int .i64 a0_15, .bool a0_16, .int .i64 a0_17]] (.int .i64 x777) (by kernel_rfl) (fun w => by kernel_rfl) (fun w hw => strength_Knots.calls K a0_0 a0_1 a0_2 a0_3 a0_4 a0_5 a0_6 a0_7 a0_8 a0_9 a0_10 y762 a0_12 a0_13 a0_14 a0_15 a0_16 a0_17  _ _ _ w  (k771.at hw) hx777) ?_
                      refine LL.op (.int .i64 x739) (by kernel_rfl) (fun w _ => by kernel_rfl) ?_
                      refine LL.op (.bool (decide (x777 < x739))) (by kernel_rfl) (fun w _ => by kernel_rfl) ?_
                      refine LL.op (.bool (decide (x777 < x739))) (by kernel_rfl) (fun w _ => by kernel_rfl) ?_
                      refine LL.op (.bool (decide (x777 < x739))) (by kernel_rfl) (fun w _ => by kernel_rfl) ?_
                      rcases Bool.eq_false_or_eq_true (decide (x777 < x739)) with c778 | c778
                      · rw [if_pos (of_decide_eq_true c778)] at H
                        refine LL.bool 68 (decide (x777 < x739)) true c778 (by kernel_rfl) ?_
                        refine LL.off (by kernel_rfl) (by kernel_rfl) ?_
                        refine LL.off (by kernel_rfl) (by kernel_rfl) ?_
                        refine LL.off (by kernel_rfl) (by kernel_rfl) ?_
                        refine LL.off (by kernel_rfl) (by kernel_rfl) ?_
                        refine LL.off (by kernel_rfl) (by kernel_rfl) ?_
                        refine LL.off (by kernel_rfl) (by kernel_rfl) ?_
                        refine LL.off (by kernel_rfl) (by kernel_rfl) ?_
                        refine LL.off (by kernel_rfl) (by kernel_rfl) ?_
                        refine LL.off (by kernel_rfl) (by kernel_rfl) ?_
                        refine LL.op (.bool true) (by kernel_rfl) (fun w _ => by kernel_rfl) ?_
                        refine LL.op (.bool true) (by kernel_rfl) (fun w _ => by kernel_rfl) ?_
                        refine LL.done (s' := [(3, .pointer (some ⟨g731, 0, none⟩)), (4, .pointer (some ⟨g732, 0, none⟩)), (6, .bool false), (7, .int .i64 x738), (8, .int .i64 x739), (79, .bool true)]) [3, 4, 6, 7, 8, 79] (by kernel_rfl) ?_
                        refine NN.then ?_
                        refine J.condT (b := true) rfl (by kernel_rfl) (by kernel_rfl) ?_
                        refine J.seq ?_
                        refine J.plain ?_
                        refine LL.op (.bool false) (by kernel_rfl) (fun w _ => by kernel_rfl) ?_
                        refine LL.done (s' := [(3, .pointer (some ⟨g731, 0, none⟩)), (4, .pointer (some ⟨g732, 0, none⟩)), (6, .bool false), (7, .int .i64 x738), (8, .int .i64 x739)]) [3, 4, 6, 7, 8] (by kernel_rfl) ?_
                        refine NN.then ?_
                        refine J.ret ?_
                        refine NN.then_ret ?_
                        refine NN.fin1 6 (.bool false) (by kernel_rfl) (by kernel_rfl) (.inl rfl) (fun w hi => hi.ret ?_)
                        first | (cases H; rfl) | (obtain rfl := Option.some.inj H; rfl) | (simp only [Option.some.injEq, Prod.mk.injEq] at H; obtain ⟨rfl⟩ := H; rfl)
                      · rw [if_neg (of_decide_eq_false c778)] at H
                        refine LL.bool 68 (decide (x777 < x739)) false c778 (by kernel_rfl) ?_
                        refine LL.op (.agg #[.int .i64 a2_0, .int .i64 a2_1, .int .i64 a2_2, .int .i64 a2_3, .int .i64 a2_4, .int .i64 a2_5, .int .i64 a2_6]) (by kernel_rfl) (ld 1 g733 0 rfl (by kernel_rfl) rfl (by kernel_rfl)) ?_
                        obtain ⟨x779, hx779, H⟩ := bind_some H
                        refine LL.call 27 #[.agg #[.int .i64 a2_0, .int .i64 a2_1, .int .i64 a2_2, .int .i64 a2_3, .int .i64 a2_4, .int .i64 a2_5, .int .i64 a2_6]] (.bool x779) (by kernel_rfl) (fun w => by kernel_rfl) (fun w hw => sawmillref13_Knot.calls a2_0 a2_1 a2_2 a2_3 a2_4 a2_5 a2_6   _ w   hx779) ?_
                        refine LL.op (.bool (!x779)) (by kernel_rfl) (fun w _ => by kernel_rfl) ?_
                        refine LL.op (.bool (!x779)) (by kernel_rfl) (fun w _ => by kernel_rfl) ?_
                        rcases Bool.eq_false_or_eq_true (x779) with c780 | c780
                        · rw [if_pos (c780)] at H
                          refine LL.bool 72 (!x779) false (by rw [show (!x779) = !(x779) from rfl, c780]; rfl) (by kernel_rfl) ?_
                          refine LL.off (by kernel_rfl) (by kernel_rfl) ?_
                          refine LL.off (by kernel_rfl) (by kernel_rfl) ?_
                          refine LL.off (by kernel_rfl) (by kernel_rfl) ?_
                          refine LL.off (by kernel_rfl) (by kernel_rfl) ?_
                          refine LL.op (.bool false) (by kernel_rfl) (fun w _ => by kernel_rfl) ?_
                          refine LL.op (.bool false) (by kernel_rfl) (fun w _ => by kernel_rfl) ?_
                          refine LL.op (.bool false) (by kernel_rfl) (fun w _ => by kernel_rfl) ?_
                          refine LL.done (s' := [(3, .pointer (some ⟨g731, 0, none⟩)), (4, .pointer (some ⟨g732, 0, none⟩)), (6, .bool false), (7, .int .i64 x738), (8, .int .i64 x739), (79, .bool false)]) [3, 4, 6, 7, 8, 79] (by kernel_rfl) ?_
                          refine NN.then ?_
                          refine J.condF (b := false) rfl (by kernel_rfl) (by kernel_rfl) ?_
                          refine J.skip ?_
                          refine NN.then ?_
                          refine J.seq ?_
                          refine J.plain ?_
                          refine LL.op (.agg #[.string a0_0, .string a0_1, .string a0_2, .int .i64 a0_3, .int .i64 a0_4, .int .i64 a0_5, .int .i64 a0_6, .int .i64 a0_7, .int .i64 a0_8, .int .i64 a0_9, .int .i64 a0_10, .slice Aa0_11 a0_11.length ca0_11, .int .i64 a0_12, .int .i64 a0_13, .int .i64 a0_14, .int .i64 a0_15, .bool a0_16, .int .i64 a0_17]) (by kernel_rfl) (ld 3 g731 0 rfl (by kernel_rfl) rfl (by kernel_rfl)) ?_
                          refine LL.alloc 30 [.string (⟨#[]⟩ : ByteArray), .string (⟨#[]⟩ : ByteArray), .string (⟨#[]⟩ : ByteArray), .int .i64 0, .int .i64 0, .int .i64 0, .int .i64 0, .int .i64 0, .int .i64 0, .int .i64 0, .int .i64 0, .slice none 0 0, .int .i64 0, .int .i64 0, .int .i64 0, .int .i64 0, .bool false, .int .i64 0] (by kernel_rfl) rfl (by kernel_rfl) (fun g781 => ?_)
                          refine LL.store 0 g781 0 30 (.tmp 10) (.tmp 80) [.string a0_0, .string a0_1, .string a0_2, .int .i64 a0_3, .int .i64 a0_4, .int .i64 a0_5, .int .i64 a0_6, .int .i64 a0_7, .int .i64 a0_8, .int .i64 a0_9, .int .i64 a0_10, .slice Aa0_11 a0_11.length ca0_11, .int .i64 a0_12, .int .i64 a0_13, .int .i64 a0_14, .int .i64 a0_15, .bool a0_16, .int .i64 a0_17] (bs' := [(g781, cl [.string a0_0, .string a0_1, .string a0_2, .int .i64 a0_3, .int .i64 a0_4, .int .i64 a0_5, .int .i64 a0_6, .int .i64 a0_7, .int .i64 a0_8, .int .i64 a0_9, .int .i64 a0_10, .slice Aa0_11 a0_11.length ca0_11, .int .i64 a0_12, .int .i64 a0_13, .int .i64 a0_14, .int .i64 a0_15, .bool a0_16, .int .i64 a0_17] 30), (g744, cl [.string a0_0, .string a0_1, .string a0_2, .int .i64 a0_3, .int .i64 a0_4, .int .i64 a0_5, .int .i64 a0_6, .int .i64 a0_7, .int .i64 a0_8, .int .i64 a0_9, .int .i64 a0_10, .slice A763 y762.length c764, .int .i64 a0_12, .int .i64 a0_13, .int .i64 a0_14, .int .i64 a0_15, .bool a0_16, .int .i64 a0_17] 30), (g733, cl [.int .i64 a2_0, .int .i64 a2_1, .int .i64 a2_2, .int .i64 a2_3, .int .i64 a2_4, .int .i64 a2_5, .int .i64 a2_6] 41), (g732, cl [.string a1_0, .int .i64 a1_1, .int .i64 a1_2, .int .i64 a1_3, .int .i64 a1_4, .int .i64 a1_5, .int .i64 a1_6, .int .i64 a1_7, .int .i64 a1_8, .int .i64 a1_9, .int .i64 a1_10, .int .i64 a1_11, .int .i64 a1_12] 32), (g731, cl [.string a0_0, .string a0_1, .string a0_2, .int .i64 a0_3, .int .i64 a0_4, .int .i64 a0_5, .int .i64 a0_6, .int .i64 a0_7, .int .i64 a0_8, .int .i64 a0_9, .int .i64 a0_10, .slice Aa0_11 a0_11.length ca0_11, .int .i64 a0_12, .int .i64 a0_13, .int .i64 a0_14, .int .i64 a0_15, .bool a0_16, .int .i64 a0_17] 30)]) rfl (by kernel_rfl) rfl (by kernel_rfl) rfl (by kernel_rfl) ?_
                          refine LL.done (s' := [(4, .pointer (some ⟨g732, 0, none⟩)), (6, .bool false), (7, .int .i64 x738), (8, .int .i64 x739), (10, .pointer (some ⟨g781, 0, none⟩))]) [4, 6, 7, 8, 10] (by kernel_rfl) ?_
                          refine NN.then ?_
                          refine J.seq ?_
                          refine J.plain ?_
                          refine LL.op (.pointer (some ⟨g781, 13, none⟩)) (by kernel_rfl) (fun w _ => by kernel_rfl) ?_
                          refine LL.op (.pointer (some ⟨g781, 14, none⟩)) (by kernel_rfl) (fun w _ => by kernel_rfl) ?_
                          refine LL.op (.int .i64 a0_14) (by kernel_rfl) (ld 0 g781 14 rfl (by kernel_rfl) rfl (by kernel_rfl)) ?_
                          refine LL.op (.int .i64 (IntKind.i64.wrap (a0_14 + 500))) (by kernel_rfl) (fun w _ => by kernel_rfl) ?_
                          refine LL.op (.int .i64 (mn 20000 (IntKind.i64.wrap (a0_14 + 500)))) (by kernel_rfl) (fun w _ => by kernel_rfl) ?_
                          refine LL.op (.pointer (some ⟨g781, 13, none⟩)) (by kernel_rfl) (fun w _ => by kernel_rfl) ?_
                          refine LL.op (.pointer (some ⟨g781, 14, none⟩)) (by kernel_rfl) (fun w _ => by kernel_rfl) ?_
                          refine LL.store 0 g781 14 3 (.tmp 87) (.tmp 85) [.string a0_0, .string a0_1, .string a0_2, .int .i64 a0_3, .int .i64 a0_4, .int .i64 a0_5, .int .i64 a0_6, .int .i64 a0_7, .int .i64 a0_8, .int .i64 a0_9, .int .i64 a0_10, .slice Aa0_11 a0_11.length ca0_11, .int .i64 a0_12, .int .i64 a0_13, .int .i64 (mn 20000 (IntKind.i64.wrap (a0_14 + 500))), .int .i64 a0_15, .bool a0_16, .int .i64 a0_17] (bs' := [(g781, cl [.string a0_0, .string a0_1, .string a0_2, .int .i64 a0_3, .int .i64 a0_4, .int .i64 a0_5, .int .i64 a0_6, .int .i64 a0_7, .int .i64 a0_8, .int .i64 a0_9, .int .i64 a0_10, .slice Aa0_11 a0_11.length ca0_11, .int .i64 a0_12, .int .i64 a0_13, .int .i64 (mn 20000 (IntKind.i64.wrap (a0_14 + 500))), .int .i64 a0_15, .bool a0_16, .int .i64 a0_17] 30), (g744, cl [.string a0_0, .string a0_1, .string a0_2, .int .i64 a0_3, .int .i64 a0_4, .int .i64 a0_5, .int .i64 a0_6, .int .i64 a0_7, .int .i64 a0_8, .int .i64 a0_9, .int .i64 a0_10, .slice A763 y762.length c764, .int .i64 a0_12, .int .i64 a0_13, .int .i64 a0_14, .int .i64 a0_15, .bool a0_16, .int .i64 a0_17] 30), (g733, cl [.int .i64 a2_0, .int .i64 a2_1, .int .i64 a2_2, .int .i64 a2_3, .int .i64 a2_4, .int .i64 a2_5, .int .i64 a2_6] 41), (g732, cl [.string a1_0, .int .i64 a1_1, .int .i64 a1_2, .int .i64 a1_3, .int .i64 a1_4, .int .i64 a1_5, .int .i64 a1_6, .int .i64 a1_7, .int .i64 a1_8, .int .i64 a1_9, .int .i64 a1_10, .int .i64 a1_11, .int .i64 a1_12] 32), (g731, cl [.string a0_0, .string a0_1, .string a0_2, .int .i64 a0_3, .int .i64 a0_4, .int .i64 a0_5, .int .i64 a0_6, .int .i64 a0_7, .int .i64 a0_8, .int .i64 a0_9, .int .i64 a0_10, .slice Aa0_11 a0_11.length ca0_11, .int .i64 a0_12, .int .i64 a0_13, .int .i64 a0_14, .int .i64 a0_15, .bool a0_16, .int .i64 a0_17] 30)]) rfl (by kernel_rfl) rfl (by kernel_rfl) rfl (by kernel_rfl) ?_
                          refine LL.done (s' := [(4, .pointer (some ⟨g732, 0, none⟩)), (6, .bool false), (7, .int .i64 x738), (8, .int .i64 x739), (10, .pointer (some ⟨g781, 0, none⟩))]) [4, 6, 7, 8, 10] (by kernel_rfl) ?_
                          refine NN.then ?_
                          refine J.seq ?_
                          refine J.plain ?_
                          refine LL.op (.pointer (some ⟨g781, 13, none⟩)) (by kernel_rfl) (fun w _ => by kernel_rfl) ?_
                          refine LL.op (.pointer (some ⟨g781, 13, none⟩)) (by kernel_rfl) (fun w _ => by kernel_rfl) ?_
                          refine LL.op (.int .i64 a0_13) (by kernel_rfl) (ld 0 g781 13 rfl (by kernel_rfl) rfl (by kernel_rfl)) ?_
                          refine LL.op (.int .i64 (IntKind.i64.wrap (a0_13 + 300))) (by kernel_rfl) (fun w _ => by kernel_rfl) ?_
                          refine LL.op (.int .i64 (mn 20000 (IntKind.i64.wrap (a0_13 + 300)))) (by kernel_rfl) (fun w _ => by kernel_rfl) ?_
                          refine LL.op (.pointer (some ⟨g781, 13, none⟩)) (by kernel_rfl) (fun w _ => by kernel_rfl) ?_
                          refine LL.op (.pointer (some ⟨g781, 13, none⟩)) (by kernel_rfl) (fun w _ => by kernel_rfl) ?_
                          refine LL.store 0 g781 13 3 (.tmp 94) (.tmp 92) [.string a0_0, .string a0_1, .string a0_2, .int .i64 a0_3, .int .i64 a0_4, .int .i64 a0_5, .int .i64 a0_6, .int .i64 a0_7, .int .i64 a0_8, .int .i64 a0_9, .int .i64 a0_10, .slice Aa0_11 a0_11.length ca0_11, .int .i64 a0_12, .int .i64 (mn 20000 (IntKind.i64.wrap (a0_13 + 300))), .int .i64 (mn 20000 (IntKind.i64.wrap (a0_14 + 500))), .int .i64 a0_15, .bool a0_16, .int .i64 a0_17] (bs' := [(g781, cl [.string a0_0, .string a0_1, .string a0_2, .int .i64 a0_3, .int .i64 a0_4, .int .i64 a0_5, .int .i64 a0_6, .int .i64 a0_7, .int .i64 a0_8, .int .i64 a0_9, .int .i64 a0_10, .slice Aa0_11 a0_11.length ca0_11, .int .i64 a0_12, .int .i64 (mn 20000 (IntKind.i64.wrap (a0_13 + 300))), .int .i64 (mn 20000 (IntKind.i64.wrap (a0_14 + 500))), .int .i64 a0_15, .bool a0_16, .int .i64 a0_17] 30), (g744, cl [.string a0_0, .string a0_1, .string a0_2, .int .i64 a0_3, .int .i64 a0_4, .int .i64 a0_5, .int .i64 a0_6, .int .i64 a0_7, .int .i64 a0_8, .int .i64 a0_9, .int .i64 a0_10, .slice A763 y762.length c764, .int .i64 a0_12, .int .i64 a0_13, .int .i64 a0_14, .int .i64 a0_15, .bool a0_16, .int .i64 a0_17] 30), (g733, cl [.int .i64 a2_0, .int .i64 a2_1, .int .i64 a2_2, .int .i64 a2_3, .int .i64 a2_4, .int .i64 a2_5, .int .i64 a2_6] 41), (g732, cl [.string a1_0, .int .i64 a1_1, .int .i64 a1_2, .int .i64 a1_3, .int .i64 a1_4, .int .i64 a1_5, .int .i64 a1_6, .int .i64 a1_7, .int .i64 a1_8, .int .i64 a1_9, .int .i64 a1_10, .int .i64 a1_11, .int .i64 a1_12] 32), (g731, cl [.string a0_0, .string a0_1, .string a0_2, .int .i64 a0_3, .int .i64 a0_4, .int .i64 a0_5, .int .i64 a0_6, .int .i64 a0_7, .int .i64 a0_8, .int .i64 a0_9, .int .i64 a0_10, .slice Aa0_11 a0_11.length ca0_11, .int .i64 a0_12, .int .i64 a0_13, .int .i64 a0_14, .int .i64 a0_15, .bool a0_16, .int .i64 a0_17] 30)]) rfl (by kernel_rfl) rfl (by kernel_rfl) rfl (by kernel_rfl) ?_
                          refine LL.done (s' := [(4, .pointer (some ⟨g732, 0, none⟩)), (6, .bool false), (7, .int .i64 x738), (8, .int .i64 x739), (10, .pointer (some ⟨g781, 0, none⟩))]) [4, 6, 7, 8, 10] (by kernel_rfl) ?_
                          refine NN.then ?_
                          refine J.seq ?_
                          refine J.plain ?_
                          refine LL.op (.agg #[.string a0_0, .string a0_1, .string a0_2, .int .i64 a0_3, .int .i64 a0_4, .int .i64 a0_5, .int .i64 a0_6, .int .i64 a0_7, .int .i64 a0_8, .int .i64 a0_9, .int .i64 a0_10, .slice Aa0_11 a0_11.length ca0_11, .int .i64 a0_12, .int .i64 (mn 20000 (IntKind.i64.wrap (a0_13 + 300))), .int .i64 (mn 20000 (IntKind.i64.wrap (a0_14 + 500))), .int .i64 a0_15, .bool a0_16, .int .i64 a0_17]) (by kernel_rfl) (ld 0 g781 0 rfl (by kernel_rfl) rfl (by kernel_rfl)) ?_
                          refine LL.op (.agg #[.string a1_0, .int .i64 a1_1, .int .i64 a1_2, .int .i64 a1_3, .int .i64 a1_4, .int .i64 a1_5, .int .i64 a1_6, .int .i64 a1_7, .int .i64 a1_8, .int .i64 a1_9, .int .i64 a1_10, .int .i64 a1_11, .int .i64 a1_12]) (by kernel_rfl) (ld 3 g732 0 rfl (by kernel_rfl) rfl (by kernel_rfl)) ?_
                          obtain ⟨x782, hx782, H⟩ := bind_some H
                          refine LL.call 20 #[.agg #[.string a0_0, .string a0_1, .string a0_2, .int .i64 a0_3, .int .i64 a0_4, .int .i64 a0_5, .int .i64 a0_6, .int .i64 a0_7, .int .i64 a0_8, .int .i64 a0_9, .int .i64 a0_10, .slice Aa0_11 a0_11.length ca0_11, .int .i64 a0_12, .int .i64 (mn 20000 (IntKind.i64.wrap (a0_13 + 300))), .int .i64 (mn 20000 (IntKind.i64.wrap (a0_14 + 500))), .int .i64 a0_15, .bool a0_16, .int .i64 a0_17], .agg #[.string a1_0, .int .i64 a1_1, .int .i64 a1_2, .int .i64 a1_3, .int .i64 a1_4, .int .i64 a1_5, .int .i64 a1_6, .int .i64 a1_7, .int .i64 a1_8, .int .i64 a1_9, .int .i64 a1_10, .int .i64 a1_11, .int .i64 a1_12]] (.int .i64 x782) (by kernel_rfl) (fun w => by kernel_rfl) (fun w hw => strength_Stiffness.calls K a0_0 a0_1 a0_2 a0_3 a0_4 a0_5 a0_6 a0_7 a0_8 a0_9 a0_10 a0_11 a0_12 (mn 20000 (IntKind.i64.wrap (a0_13 + 300))) (mn 20000 (IntKind.i64.wrap (a0_14 + 500))) a0_15 a0_16 a0_17 a1_0 a1_1 a1_2 a1_3 a1_4 a1_5 a1_6 a1_7 a1_8 a1_9 a1_10 a1_11 a1_12  _ _ _ w  (((ha0_11.le le758).le le770).at hw) hx782) ?_
                          refine LL.op (.int .i64 x738) (by kernel_rfl) (fun w _ => by kernel_rfl) ?_
                          refine LL.op (.bool (decide (x782 ≤ x738))) (by kernel_rfl) (fun w _ => by kernel_rfl) ?_
                          refine LL.op (.bool (decide (x782 ≤ x738))) (by kernel_rfl) (fun w _ => by kernel_rfl) ?_
                          rcases Bool.eq_false_or_eq_true (decide (x782 ≤ x738)) with c783 | c783
                          · rw [if_pos (of_decide_eq_true c783)] at H
                            refine LL.bool 100 (decide (x782 ≤ x738)) true c783 (by kernel_rfl) ?_
                            refine LL.op (.agg #[.string a0_0, .string a0_1, .string a0_2, .int .i64 a0_3, .int .i64 a0_4, .int .i64 a0_5, .int .i64 a0_6, .int .i64 a0_7, .int .i64 a0_8, .int .i64 a0_9, .int .i64 a0_10, .slice Aa0_11 a0_11.length ca0_11, .int .i64 a0_12, .int .i64 (mn 20000 (IntKind.i64.wrap (a0_13 + 300))), .int .i64 (mn 20000 (IntKind.i64.wrap (a0_14 + 500))), .int .i64 a0_15, .bool a0_16, .int .i64 a0_17]) (by kernel_rfl) (ld 0 g781 0 rfl (by kernel_rfl) rfl (by kernel_rfl)) ?_
                            obtain ⟨x784, hx784, H⟩ := bind_some H
                            refine LL.call 18 #[.agg #[.string a0_0, .string a0_1, .string a0_2, .int .i64 a0_3, .int .i64 a0_4, .int .i64 a0_5, .int .i64 a0_6, .int .i64 a0_7, .int .i64 a0_8, .int .i64 a0_9, .int .i64 a0_10, .slice Aa0_11 a0_11.length ca0_11, .int .i64 a0_12, .int .i64 (mn 20000 (IntKind.i64.wrap (a0_13 + 300))), .int .i64 (mn 20000 (IntKind.i64.wrap (a0_14 + 500))), .int .i64 a0_15, .bool a0_16, .int .i64 a0_17]] (.int .i64 x784) (by kernel_rfl) (fun w => by kernel_rfl) (fun w hw => strength_Knots.calls K a0_0 a0_1 a0_2 a0_3 a0_4 a0_5 a0_6 a0_7 a0_8 a0_9 a0_10 a0_11 a0_12 (mn 20000 (IntKind.i64.wrap (a0_13 + 300))) (mn 20000 (IntKind.i64.wrap (a0_14 + 500))) a0_15 a0_16 a0_17  _ _ _ w  (((ha0_11.le le758).le le770).at hw) hx784) ?_
                            refine LL.op (.int .i64 x739) (by kernel_rfl) (fun w _ => by kernel_rfl) ?_
                            refine LL.op (.bool (x784 == x739)) (by kernel_rfl) (fun w _ => by kernel_rfl) ?_
                            refine LL.op (.bool (x784 == x739)) (by kernel_rfl) (fun w _ => by kernel_rfl) ?_
                            refine LL.op (.bool (x784 == x739)) (by kernel_rfl) (fun w _ => by kernel_rfl) ?_
                            rcases Bool.eq_false_or_eq_true ((x784 == x739)) with c785 | c785
                            · rw [if_pos (eq_of_beq c785)] at H
                              refine LL.bool 106 ((x784 == x739)) true c785 (by kernel_rfl) ?_
                              obtain ⟨x786, hx786, H⟩ := bind_some H
                              refine LL.call 17 #[] (.bool x786) (by kernel_rfl) (fun w => by kernel_rfl) (fun w hw => sawmilllaw41_awake.calls K    _ w   hx786) ?_
                              refine LL.op (.bool x786) (by kernel_rfl) (fun w _ => by kernel_rfl) ?_
                              refine LL.op (.bool x786) (by kernel_rfl) (fun w _ => by kernel_rfl) ?_
                              refine LL.done (s' := [(6, .bool x786)]) [6] (by kernel_rfl) ?_
                              refine NN.then ?_
                              refine J.ret ?_
                              refine NN.fin1 6 (.bool x786) (by kernel_rfl) (by kernel_rfl) (.inl rfl) (fun w hi => hi.ret ?_)
                              first | (cases H; rfl) | (obtain rfl := Option.some.inj H; rfl) | (simp only [Option.some.injEq, Prod.mk.injEq] at H; obtain ⟨rfl⟩ := H; rfl)
                            · rw [if_neg (nebf c785)] at H
                              refine LL.bool 106 ((x784 == x739)) false c785 (by kernel_rfl) ?_
                              refine LL.off (by kernel_rfl) (by kernel_rfl) ?_
                              refine LL.op (.bool false) (by kernel_rfl) (fun w _ => by kernel_rfl) ?_
                              refine LL.op (.bool false) (by kernel_rfl) (fun w _ => by kernel_rfl) ?_
                              refine LL.done (s' := [(6, .bool false)]) [6] (by kernel_rfl) ?_
                              refine NN.then ?_
                              refine J.ret ?_
                              refine NN.fin1 6 (.bool false) (by kernel_rfl) (by kernel_rfl) (.inl rfl) (fun w hi => hi.ret ?_)
                              first | (cases H; rfl) | (obtain rfl := Option.some.inj H; rfl) | (simp only [Option.some.injEq, Prod.mk.injEq] at H; obtain ⟨rfl⟩ := H; rfl)
                          · rw [if_neg (of_decide_eq_false c783)] at H
                            refine LL.bool 100 (decide (x782 ≤ x738)) false c783 (by kernel_rfl) ?_
                            refine LL.off (by kernel_rfl) (by kernel_rfl) ?_
                            refine LL.off (by kernel_rfl) (by kernel_rfl) ?_
                            refine LL.off (by kernel_rfl) (by kernel_rfl) ?_
                            refine LL.off (by kernel_rfl) (by kernel_rfl) ?_
                            refine LL.op (.bool false) (by kernel_rfl) (fun w _ => by kernel_rfl) ?_
                            refine LL.op (.bool false) (by kernel_rfl) (fun w _ => by kernel_rfl) ?_
                            refine LL.off (by kernel_rfl) (by kernel_rfl) ?_
                            refine LL.op (.bool false) (by kernel_rfl) (fun w _ => by kernel_rfl) ?_
                            refine LL.op (.bool false) (by kernel_rfl) (fun w _ => by kernel_rfl) ?_
                            refine LL.done (s' := [(6, .bool false)]) [6] (by kernel_rfl) ?_
                            refine NN.then ?_
                            refine J.ret ?_
                            refine NN.fin1 6 (.bool false) (by kernel_rfl) (by kernel_rfl) (.inl rfl) (fun w hi => hi.ret ?_)
                            first | (cases H; rfl) | (obtain rfl := Option.some.inj H; rfl) | (simp only [Option.some.injEq, Prod.mk.injEq] at H; obtain ⟨rfl⟩ := H; rfl)
                        · rw [if_neg (nebt c780)] at H
                          refine LL.bool 72 (!x779) true (by rw [show (!x779) = !(x779) from rfl, c780]; rfl) (by kernel_rfl) ?_
                          refine LL.op (.agg #[.string a0_0, .string a0_1, .string a0_2, .int .i64 a0_3, .int .i64 a0_4, .int .i64 a0_5, .int .i64 a0_6, .int .i64 a0_7, .int .i64 a0_8, .int .i64 a0_9, .int .i64 a0_10, .slice A763 y762.length c764, .int .i64 a0_12, .int .i64 a0_13, .int .i64 a0_14, .int .i64 a0_15, .bool a0_16, .int .i64 a0_17]) (by kernel_rfl) (ld 0 g744 0 rfl (by kernel_rfl) rfl (by kernel_rfl)) ?_
                          refine LL.call 18 #[.agg #[.string a0_0, .string a0_1, .string a0_2, .int .i64 a0_3, .int .i64 a0_4, .int .i64 a0_5, .int .i64 a0_6, .int .i64 a0_7, .int .i64 a0_8, .int .i64 a0_9, .int .i64 a0_10, .slice A763 y762.length c764, .int .i64 a0_12, .int .i64 a0_13, .int .i64 a0_14, .int .i64 a0_15, .bool a0_16, .int .i64 a0_17]] (.int .i64 x777) (by kernel_rfl) (fun w => by kernel_rfl) (fun w hw => strength_Knots.calls K a0_0 a0_1 a0_2 a0_3 a0_4 a0_5 a0_6 a0_7 a0_8 a0_9 a0_10 y762 a0_12 a0_13 a0_14 a0_15 a0_16 a0_17  _ _ _ w  (k771.at hw) hx777) ?_
                          refine LL.op (.int .i64 x739) (by kernel_rfl) (fun w _ => by kernel_rfl) ?_
                          refine LL.op (.bool (!(x777 == x739))) (by kernel_rfl) (fun w _ => by kernel_rfl) ?_
                          refine LL.op (.bool (!(x777 == x739))) (by kernel_rfl) (fun w _ => by kernel_rfl) ?_
                          refine LL.op (.bool (!(x777 == x739))) (by kernel_rfl) (fun w _ => by kernel_rfl) ?_
                          refine LL.op (.bool (!(x777 == x739))) (by kernel_rfl) (fun w _ => by kernel_rfl) ?_
                          refine LL.done (s' := [(3, .pointer (some ⟨g731, 0, none⟩)), (4, .pointer (some ⟨g732, 0, none⟩)), (6, .bool false), (7, .int .i64 x738), (8, .int .i64 x739), (79, .bool (!(x777 == x739)))]) [3, 4, 6, 7, 8, 79] (by kernel_rfl) ?_
                          refine NN.then ?_
                          rcases Bool.eq_false_or_eq_true ((x777 == x739)) with c787 | c787
                          · rw [if_pos (eq_of_beq c787)] at H
                            refine J.condF (b := !(x777 == x739)) (by rw [show (!(x777 == x739)) = !((x777 == x739)) from rfl, c787]; rfl) (by kernel_rfl) (by kernel_rfl) ?_
                            refine J.skip ?_
                            refine NN.then ?_
                            refine J.seq ?_
                            refine J.plain ?_
                            refine LL.op (.agg #[.string a0_0, .string a0_1, .string a0_2, .int .i64 a0_3, .int .i64 a0_4, .int .i64 a0_5, .int .i64 a0_6, .int .i64 a0_7, .int .i64 a0_8, .int .i64 a0_9, .int .i64 a0_10, .slice Aa0_11 a0_11.length ca0_11, .int .i64 a0_12, .int .i64 a0_13, .int .i64 a0_14, .int .i64 a0_15, .bool a0_16, .int .i64 a0_17]) (by kernel_rfl) (ld 3 g731 0 rfl (by kernel_rfl) rfl (by kernel_rfl)) ?_
                            refine LL.alloc 30 [.string (⟨#[]⟩ : ByteArray), .string (⟨#[]⟩ : ByteArray), .string (⟨#[]⟩ : ByteArray), .int .i64 0, .int .i64 0, .int .i64 0, .int .i64 0, .int .i64 0, .int .i64 0, .int .i64 0, .int .i64 0, .slice none 0 0, .int .i64 0, .int .i64 0, .int .i64 0, .int .i64 0, .bool false, .int .i64 0] (by kernel_rfl) rfl (by kernel_rfl) (fun g788 => ?_)
                            refine LL.store 0 g788 0 30 (.tmp 10) (.tmp 80) [.string a0_0, .string a0_1, .string a0_2, .int .i64 a0_3, .int .i64 a0_4, .int .i64 a0_5, .int .i64 a0_6, .int .i64 a0_7, .int .i64 a0_8, .int .i64 a0_9, .int .i64 a0_10, .slice Aa0_11 a0_11.length ca0_11, .int .i64 a0_12, .int .i64 a0_13, .int .i64 a0_14, .int .i64 a0_15, .bool a0_16, .int .i64 a0_17] (bs' := [(g788, cl [.string a0_0, .string a0_1, .string a0_2, .int .i64 a0_3, .int .i64 a0_4, .int .i64 a0_5, .int .i64 a0_6, .int .i64 a0_7, .int .i64 a0_8, .int .i64 a0_9, .int .i64 a0_10, .slice Aa0_11 a0_11.length ca0_11, .int .i64 a0_12, .int .i64 a0_13, .int .i64 a0_14, .int .i64 a0_15, .bool a0_16, .int .i64 a0_17] 30), (g744, cl [.string a0_0, .string a0_1, .string a0_2, .int .i64 a0_3, .int .i64 a0_4, .int .i64 a0_5, .int .i64 a0_6, .int .i64 a0_7, .int .i64 a0_8, .int .i64 a0_9, .int .i64 a0_10, .slice A763 y762.length c764, .int .i64 a0_12, .int .i64 a0_13, .int .i64 a0_14, .int .i64 a0_15, .bool a0_16, .int .i64 a0_17] 30), (g733, cl [.int .i64 a2_0, .int .i64 a2_1, .int .i64 a2_2, .int .i64 a2_3, .int .i64 a2_4, .int .i64 a2_5, .int .i64 a2_6] 41), (g732, cl [.string a1_0, .int .i64 a1_1, .int .i64 a1_2, .int .i64 a1_3, .int .i64 a1_4, .int .i64 a1_5, .int .i64 a1_6, .int .i64 a1_7, .int .i64 a1_8, .int .i64 a1_9, .int .i64 a1_10, .int .i64 a1_11, .int .i64 a1_12] 32), (g731, cl [.string a0_0, .string a0_1, .string a0_2, .int .i64 a0_3, .int .i64 a0_4, .int .i64 a0_5, .int .i64 a0_6, .int .i64 a0_7, .int .i64 a0_8, .int .i64 a0_9, .int .i64 a0_10, .slice Aa0_11 a0_11.length ca0_11, .int .i64 a0_12, .int .i64 a0_13, .int .i64 a0_14, .int .i64 a0_15, .bool a0_16, .int .i64 a0_17] 30)]) rfl (by kernel_rfl) rfl (by kernel_rfl) rfl (by kernel_rfl) ?_
                            refine LL.done (s' := [(4, .pointer (some ⟨g732, 0, none⟩)), (6, .bool false), (7, .int .i64 x738), (8, .int .i64 x739), (10, .pointer (some ⟨g788, 0, none⟩))]) [4, 6, 7, 8, 10] (by kernel_rfl) ?_
                            refine NN.then ?_
                            refine J.seq ?_
                            refine J.plain ?_
                            refine LL.op (.pointer (some ⟨g788, 13, none⟩)) (by kernel_rfl) (fun w _ => by kernel_rfl) ?_
                            refine LL.op (.pointer (some ⟨g788, 14, none⟩)) (by kernel_rfl) (fun w _ => by kernel_rfl) ?_
                            refine LL.op (.int .i64 a0_14) (by kernel_rfl) (ld 0 g788 14 rfl (by kernel_rfl) rfl (by kernel_rfl)) ?_
                            refine LL.op (.int .i64 (IntKind.i64.wrap (a0_14 + 500))) (by kernel_rfl) (fun w _ => by kernel_rfl) ?_
                            refine LL.op (.int .i64 (mn 20000 (IntKind.i64.wrap (a0_14 + 500)))) (by kernel_rfl) (fun w _ => by kernel_rfl) ?_
                            refine LL.op (.pointer (some ⟨g788, 13, none⟩)) (by kernel_rfl) (fun w _ => by kernel_rfl) ?_
                            refine LL.op (.pointer (some ⟨g788, 14, none⟩)) (by kernel_rfl) (fun w _ => by kernel_rfl) ?_
                            refine LL.store 0 g788 14 3 (.tmp 87) (.tmp 85) [.string a0_0, .string a0_1, .string a0_2, .int .i64 a0_3, .int .i64 a0_4, .int .i64 a0_5, .int .i64 a0_6, .int .i64 a0_7, .int .i64 a0_8, .int .i64 a0_9, .int .i64 a0_10, .slice Aa0_11 a0_11.length ca0_11, .int .i64 a0_12, .int .i64 a0_13, .int .i64 (mn 20000 (IntKind.i64.wrap (a0_14 + 500))), .int .i64 a0_15, .bool a0_16, .int .i64 a0_17] (bs' := [(g788, cl [.string a0_0, .string a0_1, .string a0_2, .int .i64 a0_3, .int .i64 a0_4, .int .i64 a0_5, .int .i64 a0_6, .int .i64 a0_7, .int .i64 a0_8, .int .i64 a0_9, .int .i64 a0_10, .slice Aa0_11 a0_11.length ca0_11, .int .i64 a0_12, .int .i64 a0_13, .int .i64 (mn 20000 (IntKind.i64.wrap (a0_14 + 500))), .int .i64 a0_15, .bool a0_16, .int .i64 a0_17] 30), (g744, cl [.string a0_0, .string a0_1, .string a0_2, .int .i64 a0_3, .int .i64 a0_4, .int .i64 a0_5, .int .i64 a0_6, .int .i64 a0_7, .int .i64 a0_8, .int .i64 a0_9, .int .i64 a0_10, .slice A763 y762.length c764, .int .i64 a0_12, .int .i64 a0_13, .int .i64 a0_14, .int .i64 a0_15, .bool a0_16, .int .i64 a0_17] 30), (g733, cl [.int .i64 a2_0, .int .i64 a2_1, .int .i64 a2_2, .int .i64 a2_3, .int .i64 a2_4, .int .i64 a2_5, .int .i64 a2_6] 41), (g732, cl [.string a1_0, .int .i64 a1_1, .int .i64 a1_2, .int .i64 a1_3, .int .i64 a1_4, .int .i64 a1_5, .int .i64 a1_6, .int .i64 a1_7, .int .i64 a1_8, .int .i64 a1_9, .int .i64 a1_10, .int .i64 a1_11, .int .i64 a1_12] 32), (g731, cl [.string a0_0, .string a0_1, .string a0_2, .int .i64 a0_3, .int .i64 a0_4, .int .i64 a0_5, .int .i64 a0_6, .int .i64 a0_7, .int .i64 a0_8, .int .i64 a0_9, .int .i64 a0_10, .slice Aa0_11 a0_11.length ca0_11, .int .i64 a0_12, .int .i64 a0_13, .int .i64 a0_14, .int .i64 a0_15, .bool a0_16, .int .i64 a0_17] 30)]) rfl (by kernel_rfl) rfl (by kernel_rfl) rfl (by kernel_rfl) ?_
                            refine LL.done (s' := [(4, .pointer (some ⟨g732, 0, none⟩)), (6, .bool false), (7, .int .i64 x738), (8, .int .i64 x739), (10, .pointer (some ⟨g788, 0, none⟩))]) [4, 6, 7, 8, 10] (by kernel_rfl) ?_
                            refine NN.then ?_
                            refine J.seq ?_
                            refine J.plain ?_
                            refine LL.op (.pointer (some ⟨g788, 13, none⟩)) (by kernel_rfl) (fun w _ => by kernel_rfl) ?_
                            refine LL.op (.pointer (some ⟨g788, 13, none⟩)) (by kernel_rfl) (fun w _ => by kernel_rfl) ?_
                            refine LL.op (.int .i64 a0_13) (by kernel_rfl) (ld 0 g788 13 rfl (by kernel_rfl) rfl (by kernel_rfl)) ?_
                            refine LL.op (.int .i64 (IntKind.i64.wrap (a0_13 + 300))) (by kernel_rfl) (fun w _ => by kernel_rfl) ?_
                            refine LL.op (.int .i64 (mn 20000 (IntKind.i64.wrap (a0_13 + 300)))) (by kernel_rfl) (fun w _ => by kernel_rfl) ?_
                            refine LL.op (.pointer (some ⟨g788, 13, none⟩)) (by kernel_rfl) (fun w _ => by kernel_rfl) ?_
                            refine LL.op (.pointer (some ⟨g788, 13, none⟩)) (by kernel_rfl) (fun w _ => by kernel_rfl) ?_
                            refine LL.store 0 g788 13 3 (.tmp 94) (.tmp 92) [.string a0_0, .string a0_1, .string a0_2, .int .i64 a0_3, .int .i64 a0_4, .int .i64 a0_5, .int .i64 a0_6, .int .i64 a0_7, .int .i64 a0_8, .int .i64 a0_9, .int .i64 a0_10, .slice Aa0_11 a0_11.length ca0_11, .int .i64 a0_12, .int .i64 (mn 20000 (IntKind.i64.wrap (a0_13 + 300))), .int .i64 (mn 20000 (IntKind.i64.wrap (a0_14 + 500))), .int .i64 a0_15, .bool a0_16, .int .i64 a0_17] (bs' := [(g788, cl [.string a0_0, .string a0_1, .string a0_2, .int .i64 a0_3, .int .i64 a0_4, .int .i64 a0_5, .int .i64 a0_6, .int .i64 a0_7, .int .i64 a0_8, .int .i64 a0_9, .int .i64 a0_10, .slice Aa0_11 a0_11.length ca0_11, .int .i64 a0_12, .int .i64 (mn 20000 (IntKind.i64.wrap (a0_13 + 300))), .int .i64 (mn 20000 (IntKind.i64.wrap (a0_14 + 500))), .int .i64 a0_15, .bool a0_16, .int .i64 a0_17] 30), (g744, cl [.string a0_0, .string a0_1, .string a0_2, .int .i64 a0_3, .int .i64 a0_4, .int .i64 a0_5, .int .i64 a0_6, .int .i64 a0_7, .int .i64 a0_8, .int .i64 a0_9, .int .i64 a0_10, .slice A763 y762.length c764, .int .i64 a0_12, .int .i64 a0_13, .int .i64 a0_14, .int .i64 a0_15, .bool a0_16, .int .i64 a0_17] 30), (g733, cl [.int .i64 a2_0, .int .i64 a2_1, .int .i64 a2_2, .int .i64 a2_3, .int .i64 a2_4, .int .i64 a2_5, .int .i64 a2_6] 41), (g732, cl [.string a1_0, .int .i64 a1_1, .int .i64 a1_2, .int .i64 a1_3, .int .i64 a1_4, .int .i64 a1_5, .int .i64 a1_6, .int .i64 a1_7, .int .i64 a1_8, .int .i64 a1_9, .int .i64 a1_10, .int .i64 a1_11, .int .i64 a1_12] 32), (g731, cl [.string a0_0, .string a0_1, .string a0_2, .int .i64 a0_3, .int .i64 a0_4, .int .i64 a0_5, .int .i64 a0_6, .int .i64 a0_7, .int .i64 a0_8, .int .i64 a0_9, .int .i64 a0_10, .slice Aa0_11 a0_11.length ca0_11, .int .i64 a0_12, .int .i64 a0_13, .int .i64 a0_14, .int .i64 a0_15, .bool a0_16, .int .i64 a0_17] 30)]) rfl (by kernel_rfl) rfl (by kernel_rfl) rfl (by kernel_rfl) ?_
                            refine LL.done (s' := [(4, .pointer (some ⟨g732, 0, none⟩)), (6, .bool false), (7, .int .i64 x738), (8, .int .i64 x739), (10, .pointer (some ⟨g788, 0, none⟩))]) [4, 6, 7, 8, 10] (by kernel_rfl) ?_
                            refine NN.then ?_
                            refine J.seq ?_
                            refine J.plain ?_
                            refine LL.op (.agg #[.string a0_0, .string a0_1, .string a0_2, .int .i64 a0_3, .int .i64 a0_4, .int .i64 a0_5, .int .i64 a0_6, .int .i64 a0_7, .int .i64 a0_8, .int .i64 a0_9, .int .i64 a0_10, .slice Aa0_11 a0_11.length ca0_11, .int .i64 a0_12, .int .i64 (mn 20000 (IntKind.i64.wrap (a0_13 + 300))), .int .i64 (mn 20000 (IntKind.i64.wrap (a0_14 + 500))), .int .i64 a0_15, .bool a0_16, .int .i64 a0_17]) (by kernel_rfl) (ld 0 g788 0 rfl (by kernel_rfl) rfl (by kernel_rfl)) ?_
                            refine LL.op (.agg #[.string a1_0, .int .i64 a1_1, .int .i64 a1_2, .int .i64 a1_3, .int .i64 a1_4, .int .i64 a1_5, .int .i64 a1_6, .int .i64 a1_7, .int .i64 a1_8, .int .i64 a1_9, .int .i64 a1_10, .int .i64 a1_11, .int .i64 a1_12]) (by kernel_rfl) (ld 3 g732 0 rfl (by kernel_rfl) rfl (by kernel_rfl)) ?_
                            obtain ⟨x789, hx789, H⟩ := bind_some H
                            refine LL.call 20 #[.agg #[.string a0_0, .string a0_1, .string a0_2, .int .i64 a0_3, .int .i64 a0_4, .int .i64 a0_5, .int .i64 a0_6, .int .i64 a0_7, .int .i64 a0_8, .int .i64 a0_9, .int .i64 a0_10, .slice Aa0_11 a0_11.length ca0_11, .int .i64 a0_12, .int .i64 (mn 20000 (IntKind.i64.wrap (a0_13 + 300))), .int .i64 (mn 20000 (IntKind.i64.wrap (a0_14 + 500))), .int .i64 a0_15, .bool a0_16, .int .i64 a0_17], .agg #[.string a1_0, .int .i64 a1_1, .int .i64 a1_2, .int .i64 a1_3, .int .i64 a1_4, .int .i64 a1_5, .int .i64 a1_6, .int .i64 a1_7, .int .i64 a1_8, .int .i64 a1_9, .int .i64 a1_10, .int .i64 a1_11, .int .i64 a1_12]] (.int .i64 x789) (by kernel_rfl) (fun w => by kernel_rfl) (fun w hw => strength_Stiffness.calls K a0_0 a0_1 a0_2 a0_3 a0_4 a0_5 a0_6 a0_7 a0_8 a0_9 a0_10 a0_11 a0_12 (mn 20000 (IntKind.i64.wrap (a0_13 + 300))) (mn 20000 (IntKind.i64.wrap (a0_14 + 500))) a0_15 a0_16 a0_17 a1_0 a1_1 a1_2 a1_3 a1_4 a1_5 a1_6 a1_7 a1_8 a1_9 a1_10 a1_11 a1_12  _ _ _ w  (((ha0_11.le le758).le le770).at hw) hx789) ?_
                            refine LL.op (.int .i64 x738) (by kernel_rfl) (fun w _ => by kernel_rfl) ?_
                            refine LL.op (.bool (decide (x789 ≤ x738))) (by kernel_rfl) (fun w _ => by kernel_rfl) ?_
                            refine LL.op (.bool (decide (x789 ≤ x738))) (by kernel_rfl) (fun w _ => by kernel_rfl) ?_
                            rcases Bool.eq_false_or_eq_true (decide (x789 ≤ x738)) with c790 | c790
                            · rw [if_pos (of_decide_eq_true c790)] at H
                              refine LL.bool 100 (decide (x789 ≤ x738)) true c790 (by kernel_rfl) ?_
                              refine LL.op (.agg #[.string a0_0, .string a0_1, .string a0_2, .int .i64 a0_3, .int .i64 a0_4, .int .i64 a0_5, .int .i64 a0_6, .int .i64 a0_7, .int .i64 a0_8, .int .i64 a0_9, .int .i64 a0_10, .slice Aa0_11 a0_11.length ca0_11, .int .i64 a0_12, .int .i64 (mn 20000 (IntKind.i64.wrap (a0_13 + 300))), .int .i64 (mn 20000 (IntKind.i64.wrap (a0_14 + 500))), .int .i64 a0_15, .bool a0_16, .int .i64 a0_17]) (by kernel_rfl) (ld 0 g788 0 rfl (by kernel_rfl) rfl (by kernel_rfl)) ?_
                              obtain ⟨x791, hx791, H⟩ := bind_some H
                              refine LL.call 18 #[.agg #[.string a0_0, .string a0_1, .string a0_2, .int .i64 a0_3, .int .i64 a0_4, .int .i64 a0_5, .int .i64 a0_6, .int .i64 a0_7, .int .i64 a0_8, .int .i64 a0_9, .int .i64 a0_10, .slice Aa0_11 a0_11.length ca0_11, .int .i64 a0_12, .int .i64 (mn 20000 (IntKind.i64.wrap (a0_13 + 300))), .int .i64 (mn 20000 (IntKind.i64.wrap (a0_14 + 500))), .int .i64 a0_15, .bool a0_16, .int .i64 a0_17]] (.int .i64 x791) (by kernel_rfl) (fun w => by kernel_rfl) (fun w hw => strength_Knots.calls K a0_0 a0_1 a0_2 a0_3 a0_4 a0_5 a0_6 a0_7 a0_8 a0_9 a0_10 a0_11 a0_12 (mn 20000 (IntKind.i64.wrap (a0_13 + 300))) (mn 20000 (IntKind.i64.wrap (a0_14 + 500))) a0_15 a0_16 a0_17  _ _ _ w  (((ha0_11.le le758).le le770).at hw) hx791) ?_
                              refine LL.op (.int .i64 x739) (by kernel_rfl) (fun w _ => by kernel_rfl) ?_
                              refine LL.op (.bool (x791 == x739)) (by kernel_rfl) (fun w _ => by kernel_rfl) ?_
                              refine LL.op (.bool (x791 == x739)) (by kernel_rfl) (fun w _ => by kernel_rfl) ?_
                              refine LL.op (.bool (x791 == x739)) (by kernel_rfl) (fun w _ => by kernel_rfl) ?_
                              rcases Bool.eq_false_or_eq_true ((x791 == x739)) with c792 | c792
                              · rw [if_pos (eq_of_beq c792)] at H
                                refine LL.bool 106 ((x791 == x739)) true c792 (by kernel_rfl) ?_
                                obtain ⟨x793, hx793, H⟩ := bind_some H
                                refine LL.call 17 #[] (.bool x793) (by kernel_rfl) (fun w => by kernel_rfl) (fun w hw => sawmilllaw41_awake.calls K    _ w   hx793) ?_
                                refine LL.op (.bool x793) (by kernel_rfl) (fun w _ => by kernel_rfl) ?_
                                refine LL.op (.bool x793) (by kernel_rfl) (fun w _ => by kernel_rfl) ?_
                                refine LL.done (s' := [(6, .bool x793)]) [6] (by kernel_rfl) ?_
                                refine NN.then ?_
                                refine J.ret ?_
                                refine NN.fin1 6 (.bool x793) (by kernel_rfl) (by kernel_rfl) (.inl rfl) (fun w hi => hi.ret ?_)
                                first | (cases H; rfl) | (obtain rfl := Option.some.inj H; rfl) | (simp only [Option.some.injEq, Prod.mk.injEq] at H; obtain ⟨rfl⟩ := H; rfl)
                              · rw [if_neg (nebf c792)] at H
                                refine LL.bool 106 ((x791 == x739)) false c792 (by kernel_rfl) ?_
                                refine LL.off (by kernel_rfl) (by kernel_rfl) ?_
                                refine LL.op (.bool false) (by kernel_rfl) (fun w _ => by kernel_rfl) ?_
                                refine LL.op (.bool false) (by kernel_rfl) (fun w _ => by kernel_rfl) ?_
                                refine LL.done (s' := [(6, .bool false)]) [6] (by kernel_rfl) ?_
                                refine NN.then ?_
                                refine J.ret ?_
                                refine NN.fin1 6 (.bool false) (by kernel_rfl) (by kernel_rfl) (.inl rfl) (fun w hi => hi.ret ?_)
                                first | (cases H; rfl) | (obtain rfl := Option.some.inj H; rfl) | (simp only [Option.some.injEq, Prod.mk.injEq] at H; obtain ⟨rfl⟩ := H; rfl)
                            · rw [if_neg (of_decide_eq_false c790)] at H
                              refine LL.bool 100 (decide (x789 ≤ x738)) false c790 (by kernel_rfl) ?_
                              refine LL.off (by kernel_rfl) (by kernel_rfl) ?_
                              refine LL.off (by kernel_rfl) (by kernel_rfl) ?_
                              refine LL.off (by kernel_rfl) (by kernel_rfl) ?_
                              refine LL.off (by kernel_rfl) (by kernel_rfl) ?_
                              refine LL.op (.bool false) (by kernel_rfl) (fun w _ => by kernel_rfl) ?_
                              refine LL.op (.bool false) (by kernel_rfl) (fun w _ => by kernel_rfl) ?_
                              refine LL.off (by kernel_rfl) (by kernel_rfl) ?_
                              refine LL.op (.bool false) (by kernel_rfl) (fun w _ => by kernel_rfl) ?_
                              refine LL.op (.bool false) (by kernel_rfl) (fun w _ => by kernel_rfl) ?_
                              refine LL.done (s' := [(6, .bool false)]) [6] (by kernel_rfl) ?_
                              refine NN.then ?_
                              refine J.ret ?_
                              refine NN.fin1 6 (.bool false) (by kernel_rfl) (by kernel_rfl) (.inl rfl) (fun w hi => hi.ret ?_)
                              first | (cases H; rfl) | (obtain rfl := Option.some.inj H; rfl) | (simp only [Option.some.injEq, Prod.mk.injEq] at H; obtain ⟨rfl⟩ := H; rfl)
                          · rw [if_neg (nebf c787)] at H
                            refine J.condT (b := !(x777 == x739)) (by rw [show (!(x777 == x739)) = !((x777 == x739)) from rfl, c787]; rfl) (by kernel_rfl) (by kernel_rfl) ?_
                            refine J.seq ?_
                            refine J.plain ?_
                            refine LL.op (.bool false) (by kernel_rfl) (fun w _ => by kernel_rfl) ?_
                            refine LL.done (s' := [(3, .pointer (some ⟨g731, 0, none⟩)), (4, .pointer (some ⟨g732, 0, none⟩)), (6, .bool false), (7, .int .i64 x738), (8, .int .i64 x739)]) [3, 4, 6, 7, 8] (by kernel_rfl) ?_
                            refine NN.then ?_
                            refine J.ret ?_
                            refine NN.then_ret ?_
                            refine NN.fin1 6 (.bool false) (by kernel_rfl) (by kernel_rfl) (.inl rfl) (fun w hi => hi.ret ?_)
                            first | (cases H; rfl) | (obtain rfl := Option.some.inj H; rfl) | (simp only [Option.some.injEq, Prod.mk.injEq] at H; obtain ⟨rfl⟩ := H; rfl)
                  · rw [if_neg (nebf c774)] at H
                    refine LL.bool 56 ((x773 == 0)) false c774 (by kernel_rfl) ?_
                    refine LL.off (by kernel_rfl) (by kernel_rfl) ?_
                    refine LL.off (by kernel_rfl) (by kernel_rfl) ?_
                    refine LL.off (by kernel_rfl) (by kernel_rfl) ?_
                    refine LL.off (by kernel_rfl) (by kernel_rfl) ?_
                    refine LL.off (by kernel_rfl) (by kernel_rfl) ?_
                    refine LL.off (by kernel_rfl) (by kernel_rfl) ?_
                    refine LL.off (by kernel_rfl) (by kernel_rfl) ?_
                    refine LL.off (by kernel_rfl) (by kernel_rfl) ?_
                    refine LL.off (by kernel_rfl) (by kernel_rfl) ?_
                    refine LL.off (by kernel_rfl) (by kernel_rfl) ?_
                    refine LL.off (by kernel_rfl) (by kernel_rfl) ?_
                    refine LL.off (by kernel_rfl) (by kernel_rfl) ?_
                    refine LL.off (by kernel_rfl) (by kernel_rfl) ?_
                    refine LL.off (by kernel_rfl) (by kernel_rfl) ?_
                    refine LL.off (by kernel_rfl) (by kernel_rfl) ?_
                    refine LL.off (by kernel_rfl) (by kernel_rfl) ?_
                    refine LL.off (by kernel_rfl) (by kernel_rfl) ?_
                    refine LL.off (by kernel_rfl) (by kernel_rfl) ?_
                    refine LL.off (by kernel_rfl) (by kernel_rfl) ?_
                    refine LL.off (by kernel_rfl) (by kernel_rfl) ?_
                    refine LL.off (by kernel_rfl) (by kernel_rfl) ?_
                    refine LL.off (by kernel_rfl) (by kernel_rfl) ?_
                    refine LL.op (.bool false) (by kernel_rfl) (fun w _ => by kernel_rfl) ?_
                    refine LL.done (s' := [(3, .pointer (some ⟨g731, 0, none⟩)), (4, .pointer (some ⟨g732, 0, none⟩)), (6, .bool false), (7, .int .i64 x738), (8, .int .i64 x739), (79, .bool false)]) [3, 4, 6, 7, 8, 79] (by kernel_rfl) ?_
                    refine NN.then ?_
                    refine J.condF (b := false) rfl (by kernel_rfl) (by kernel_rfl) ?_
                    refine J.skip ?_
                    refine NN.then ?_
                    refine J.seq ?_
                    refine J.plain ?_
                    refine LL.op (.agg #[.string a0_0, .string a0_1, .string a0_2, .int .i64 a0_3, .int .i64 a0_4, .int .i64 a0_5, .int .i64 a0_6, .int .i64 a0_7, .int .i64 a0_8, .int .i64 a0_9, .int .i64 a0_10, .slice Aa0_11 a0_11.length ca0_11, .int .i64 a0_12, .int .i64 a0_13, .int .i64 a0_14, .int .i64 a0_15, .bool a0_16, .int .i64 a0_17]) (by kernel_rfl) (ld 3 g731 0 rfl (by kernel_rfl) rfl (by kernel_rfl)) ?_
                    refine LL.alloc 30 [.string (⟨#[]⟩ : ByteArray), .string (⟨#[]⟩ : ByteArray), .string (⟨#[]⟩ : ByteArray), .int .i64 0, .int .i64 0, .int .i64 0, .int .i64 0, .int .i64 0, .int .i64 0, .int .i64 0, .int .i64 0, .slice none 0 0, .int .i64 0, .int .i64 0, .int .i64 0, .int .i64 0, .bool false, .int .i64 0] (by kernel_rfl) rfl (by kernel_rfl) (fun g794 => ?_)
                    refine LL.store 0 g794 0 30 (.tmp 10) (.tmp 80) [.string a0_0, .string a0_1, .string a0_2, .int .i64 a0_3, .int .i64 a0_4, .int .i64 a0_5, .int .i64 a0_6, .int .i64 a0_7, .int .i64 a0_8, .int .i64 a0_9, .int .i64 a0_10, .slice Aa0_11 a0_11.length ca0_11, .int .i64 a0_12, .int .i64 a0_13, .int .i64 a0_14, .int .i64 a0_15, .bool a0_16, .int .i64 a0_17] (bs' := [(g794, cl [.string a0_0, .string a0_1, .string a0_2, .int .i64 a0_3, .int .i64 a0_4, .int .i64 a0_5, .int .i64 a0_6, .int .i64 a0_7, .int .i64 a0_8, .int .i64 a0_9, .int .i64 a0_10, .slice Aa0_11 a0_11.length ca0_11, .int .i64 a0_12, .int .i64 a0_13, .int .i64 a0_14, .int .i64 a0_15, .bool a0_16, .int .i64 a0_17] 30), (g744, cl [.string a0_0, .string a0_1, .string a0_2, .int .i64 a0_3, .int .i64 a0_4, .int .i64 a0_5, .int .i64 a0_6, .int .i64 a0_7, .int .i64 a0_8, .int .i64 a0_9, .int .i64 a0_10, .slice A763 y762.length c764, .int .i64 a0_12, .int .i64 a0_13, .int .i64 a0_14, .int .i64 a0_15, .bool a0_16, .int .i64 a0_17] 30), (g733, cl [.int .i64 a2_0, .int .i64 a2_1, .int .i64 a2_2, .int .i64 a2_3, .int .i64 a2_4, .int .i64 a2_5, .int .i64 a2_6] 41), (g732, cl [.string a1_0, .int .i64 a1_1, .int .i64 a1_2, .int .i64 a1_3, .int .i64 a1_4, .int .i64 a1_5, .int .i64 a1_6, .int .i64 a1_7, .int .i64 a1_8, .int .i64 a1_9, .int .i64 a1_10, .int .i64 a1_11, .int .i64 a1_12] 32), (g731, cl [.string a0_0, .string a0_1, .string a0_2, .int .i64 a0_3, .int .i64 a0_4, .int .i64 a0_5, .int .i64 a0_6, .int .i64 a0_7, .int .i64 a0_8, .int .i64 a0_9, .int .i64 a0_10, .slice Aa0_11 a0_11.length ca0_11, .int .i64 a0_12, .int .i64 a0_13, .int .i64 a0_14, .int .i64 a0_15, .bool a0_16, .int .i64 a0_17] 30)]) rfl (by kernel_rfl) rfl (by kernel_rfl) rfl (by kernel_rfl) ?_
                    refine LL.done (s' := [(4, .pointer (some ⟨g732, 0, none⟩)), (6, .bool false), (7, .int .i64 x738), (8, .int .i64 x739), (10, .pointer (some ⟨g794, 0, none⟩))]) [4, 6, 7, 8, 10] (by kernel_rfl) ?_
                    refine NN.then ?_
                    refine J.seq ?_
                    refine J.plain ?_
                    refine LL.op (.pointer (some ⟨g794, 13, none⟩)) (by kernel_rfl) (fun w _ => by kernel_rfl) ?_
                    refine LL.op (.pointer (some ⟨g794, 14, none⟩)) (by kernel_rfl) (fun w _ => by kernel_rfl) ?_
                    refine LL.op (.int .i64 a0_14) (by kernel_rfl) (ld 0 g794 14 rfl (by kernel_rfl) rfl (by kernel_rfl)) ?_
                    refine LL.op (.int .i64 (IntKind.i64.wrap (a0_14 + 500))) (by kernel_rfl) (fun w _ => by kernel_rfl) ?_
                    refine LL.op (.int .i64 (mn 20000 (IntKind.i64.wrap (a0_14 + 500)))) (by kernel_rfl) (fun w _ => by kernel_rfl) ?_
                    refine LL.op (.pointer (some ⟨g794, 13, none⟩)) (by kernel_rfl) (fun w _ => by kernel_rfl) ?_
                    refine LL.op (.pointer (some ⟨g794, 14, none⟩)) (by kernel_rfl) (fun w _ => by kernel_rfl) ?_
                    refine LL.store 0 g794 14 3 (.tmp 87) (.tmp 85) [.string a0_0, .string a0_1, .string a0_2, .int .i64 a0_3, .int .i64 a0_4, .int .i64 a0_5, .int .i64 a0_6, .int .i64 a0_7, .int .i64 a0_8, .int .i64 a0_9, .int .i64 a0_10, .slice Aa0_11 a0_11.length ca0_11, .int .i64 a0_12, .int .i64 a0_13, .int .i64 (mn 20000 (IntKind.i64.wrap (a0_14 + 500))), .int .i64 a0_15, .bool a0_16, .int .i64 a0_17] (bs' := [(g794, cl [.string a0_0, .string a0_1, .string a0_2, .int .i64 a0_3, .int .i64 a0_4, .int .i64 a0_5, .int .i64 a0_6, .int .i64 a0_7, .int .i64 a0_8, .int .i64 a0_9, .int .i64 a0_10, .slice Aa0_11 a0_11.length ca0_11, .int .i64 a0_12, .int .i64 a0_13, .int .i64 (mn 20000 (IntKind.i64.wrap (a0_14 + 500))), .int .i64 a0_15, .bool a0_16, .int .i64 a0_17] 30), (g744, cl [.string a0_0, .string a0_1, .string a0_2, .int .i64 a0_3, .int .i64 a0_4, .int .i64 a0_5, .int .i64 a0_6, .int .i64 a0_7, .int .i64 a0_8, .int .i64 a0_9, .int .i64 a0_10, .slice A763 y762.length c764, .int .i64 a0_12, .int .i64 a0_13, .int .i64 a0_14, .int .i64 a0_15, .bool a0_16, .int .i64 a0_17] 30), (g733, cl [.int .i64 a2_0, .int .i64 a2_1, .int .i64 a2_2, .int .i64 a2_3, .int .i64 a2_4, .int .i64 a2_5, .int .i64 a2_6] 41), (g732, cl [.string a1_0, .int .i64 a1_1, .int .i64 a1_2, .int .i64 a1_3, .int .i64 a1_4, .int .i64 a1_5, .int .i64 a1_6, .int .i64 a1_7, .int .i64 a1_8, .int .i64 a1_9, .int .i64 a1_10, .int .i64 a1_11, .int .i64 a1_12] 32), (g731, cl [.string a0_0, .string a0_1, .string a0_2, .int .i64 a0_3, .int .i64 a0_4, .int .i64 a0_5, .int .i64 a0_6, .int .i64 a0_7, .int .i64 a0_8, .int .i64 a0_9, .int .i64 a0_10, .slice Aa0_11 a0_11.length ca0_11, .int .i64 a0_12, .int .i64 a0_13, .int .i64 a0_14, .int .i64 a0_15, .bool a0_16, .int .i64 a0_17] 30)]) rfl (by kernel_rfl) rfl (by kernel_rfl) rfl (by kernel_rfl) ?_
                    refine LL.done (s' := [(4, .pointer (some ⟨g732, 0, none⟩)), (6, .bool false), (7, .int .i64 x738), (8, .int .i64 x739), (10, .pointer (some ⟨g794, 0, none⟩))]) [4, 6, 7, 8, 10] (by kernel_rfl) ?_
                    refine NN.then ?_
                    refine J.seq ?_
                    refine J.plain ?_
                    refine LL.op (.pointer (some ⟨g794, 13, none⟩)) (by kernel_rfl) (fun w _ => by kernel_rfl) ?_
                    refine LL.op (.pointer (some ⟨g794, 13, none⟩)) (by kernel_rfl) (fun w _ => by kernel_rfl) ?_
                    refine LL.op (.int .i64 a0_13) (by kernel_rfl) (ld 0 g794 13 rfl (by kernel_rfl) rfl (by kernel_rfl)) ?_
                    refine LL.op (.int .i64 (IntKind.i64.wrap (a0_13 + 300))) (by kernel_rfl) (fun w _ => by kernel_rfl) ?_
                    refine LL.op (.int .i64 (mn 20000 (IntKind.i64.wrap (a0_13 + 300)))) (by kernel_rfl) (fun w _ => by kernel_rfl) ?_
                    refine LL.op (.pointer (some ⟨g794, 13, none⟩)) (by kernel_rfl) (fun w _ => by kernel_rfl) ?_
                    refine LL.op (.pointer (some ⟨g794, 13, none⟩)) (by kernel_rfl) (fun w _ => by kernel_rfl) ?_
                    refine LL.store 0 g794 13 3 (.tmp 94) (.tmp 92) [.string a0_0, .string a0_1, .string a0_2, .int .i64 a0_3, .int .i64 a0_4, .int .i64 a0_5, .int .i64 a0_6, .int .i64 a0_7, .int .i64 a0_8, .int .i64 a0_9, .int .i64 a0_10, .slice Aa0_11 a0_11.length ca0_11, .int .i64 a0_12, .int .i64 (mn 20000 (IntKind.i64.wrap (a0_13 + 300))), .int .i64 (mn 20000 (IntKind.i64.wrap (a0_14 + 500))), .int .i64 a0_15, .bool a0_16, .int .i64 a0_17] (bs' := [(g794, cl [.string a0_0, .string a0_1, .string a0_2, .int .i64 a0_3, .int .i64 a0_4, .int .i64 a0_5, .int .i64 a0_6, .int .i64 a0_7, .int .i64 a0_8, .int .i64 a0_9, .int .i64 a0_10, .slice Aa0_11 a0_11.length ca0_11, .int .i64 a0_12, .int .i64 (mn 20000 (IntKind.i64.wrap (a0_13 + 300))), .int .i64 (mn 20000 (IntKind.i64.wrap (a0_14 + 500))), .int .i64 a0_15, .bool a0_16, .int .i64 a0_17] 30), (g744, cl [.string a0_0, .string a0_1, .string a0_2, .int .i64 a0_3, .int .i64 a0_4, .int .i64 a0_5, .int .i64 a0_6, .int .i64 a0_7, .int .i64 a0_8, .int .i64 a0_9, .int .i64 a0_10, .slice A763 y762.length c764, .int .i64 a0_12, .int .i64 a0_13, .int .i64 a0_14, .int .i64 a0_15, .bool a0_16, .int .i64 a0_17] 30), (g733, cl [.int .i64 a2_0, .int .i64 a2_1, .int .i64 a2_2, .int .i64 a2_3, .int .i64 a2_4, .int .i64 a2_5, .int .i64 a2_6] 41), (g732, cl [.string a1_0, .int .i64 a1_1, .int .i64 a1_2, .int .i64 a1_3, .int .i64 a1_4, .int .i64 a1_5, .int .i64 a1_6, .int .i64 a1_7, .int .i64 a1_8, .int .i64 a1_9, .int .i64 a1_10, .int .i64 a1_11, .int .i64 a1_12] 32), (g731, cl [.string a0_0, .string a0_1, .string a0_2, .int .i64 a0_3, .int .i64 a0_4, .int .i64 a0_5, .int .i64 a0_6, .int .i64 a0_7, .int .i64 a0_8, .int .i64 a0_9, .int .i64 a0_10, .slice Aa0_11 a0_11.length ca0_11, .int .i64 a0_12, .int .i64 a0_13, .int .i64 a0_14, .int .i64 a0_15, .bool a0_16, .int .i64 a0_17] 30)]) rfl (by kernel_rfl) rfl (by kernel_rfl) rfl (by kernel_rfl) ?_
                    refine LL.done (s' := [(4, .pointer (some ⟨g732, 0, none⟩)), (6, .bool false), (7, .int .i64 x738), (8, .int .i64 x739), (10, .pointer (some ⟨g794, 0, none⟩))]) [4, 6, 7, 8, 10] (by kernel_rfl) ?_
                    refine NN.then ?_
                    refine J.seq ?_
                    refine J.plain ?_
                    refine LL.op (.agg #[.string a0_0, .string a0_1, .string a0_2, .int .i64 a0_3, .int .i64 a0_4, .int .i64 a0_5, .int .i64 a0_6, .int .i64 a0_7, .int .i64 a0_8, .int .i64 a0_9, .int .i64 a0_10, .slice Aa0_11 a0_11.length ca0_11, .int .i64 a0_12, .int .i64 (mn 20000 (IntKind.i64.wrap (a0_13 + 300))), .int .i64 (mn 20000 (IntKind.i64.wrap (a0_14 + 500))), .int .i64 a0_15, .bool a0_16, .int .i64 a0_17]) (by kernel_rfl) (ld 0 g794 0 rfl (by kernel_rfl) rfl (by kernel_rfl)) ?_
                    refine LL.op (.agg #[.string a1_0, .int .i64 a1_1, .int .i64 a1_2, .int .i64 a1_3, .int .i64 a1_4, .int .i64 a1_5, .int .i64 a1_6, .int .i64 a1_7, .int .i64 a1_8, .int .i64 a1_9, .int .i64 a1_10, .int .i64 a1_11, .int .i64 a1_12]) (by kernel_rfl) (ld 3 g732 0 rfl (by kernel_rfl) rfl (by kernel_rfl)) ?_
                    obtain ⟨x795, hx795, H⟩ := bind_some H
                    refine LL.call 20 #[.agg #[.string a0_0, .string a0_1, .string a0_2, .int .i64 a0_3, .int .i64 a0_4, .int .i64 a0_5, .int .i64 a0_6, .int .i64 a0_7, .int .i64 a0_8, .int .i64 a0_9, .int .i64 a0_10, .slice Aa0_11 a0_11.length ca0_11, .int .i64 a0_12, .int .i64 (mn 20000 (IntKind.i64.wrap (a0_13 + 300))), .int .i64 (mn 20000 (IntKind.i64.wrap (a0_14 + 500))), .int .i64 a0_15, .bool a0_16, .int .i64 a0_17], .agg #[.string a1_0, .int .i64 a1_1, .int .i64 a1_2, .int .i64 a1_3, .int .i64 a1_4, .int .i64 a1_5, .int .i64 a1_6, .int .i64 a1_7, .int .i64 a1_8, .int .i64 a1_9, .int .i64 a1_10, .int .i64 a1_11, .int .i64 a1_12]] (.int .i64 x795) (by kernel_rfl) (fun w => by kernel_rfl) (fun w hw => strength_Stiffness.calls K a0_0 a0_1 a0_2 a0_3 a0_4 a0_5 a0_6 a0_7 a0_8 a0_9 a0_10 a0_11 a0_12 (mn 20000 (IntKind.i64.wrap (a0_13 + 300))) (mn 20000 (IntKind.i64.wrap (a0_14 + 500))) a0_15 a0_16 a0_17 a1_0 a1_1 a1_2 a1_3 a1_4 a1_5 a1_6 a1_7 a1_8 a1_9 a1_10 a1_11 a1_12  _ _ _ w  (((ha0_11.le le758).le le770).at hw) hx795) ?_
                    refine LL.op (.int .i64 x738) (by kernel_rfl) (fun w _ => by kernel_rfl) ?_
                    refine LL.op (.bool (decide (x795 ≤ x738))) (by kernel_rfl) (fun w _ => by kernel_rfl) ?_
                    refine LL.op (.bool (decide (x795 ≤ x738))) (by kernel_rfl) (fun w _ => by kernel_rfl) ?_
                    rcases Bool.eq_false_or_eq_true (decide (x795 ≤ x738)) with c796 | c796
                    · rw [if_pos (of_decide_eq_true c796)] at H
                      refine LL.bool 100 (decide (x795 ≤ x738)) true c796 (by kernel_rfl) ?_
                      refine LL.op (.agg #[.string a0_0, .string a0_1, .string a0_2, .int .i64 a0_3, .int .i64 a0_4, .int .i64 a0_5, .int .i64 a0_6, .int .i64 a0_7, .int .i64 a0_8, .int .i64 a0_9, .int .i64 a0_10, .slice Aa0_11 a0_11.length ca0_11, .int .i64 a0_12, .int .i64 (mn 20000 (IntKind.i64.wrap (a0_13 + 300))), .int .i64 (mn 20000 (IntKind.i64.wrap (a0_14 + 500))), .int .i64 a0_15, .bool a0_16, .int .i64 a0_17]) (by kernel_rfl) (ld 0 g794 0 rfl (by kernel_rfl) rfl (by kernel_rfl)) ?_
                      obtain ⟨x797, hx797, H⟩ := bind_some H
                      refine LL.call 18 #[.agg #[.string a0_0, .string a0_1, .string a0_2, .int .i64 a0_3, .int .i64 a0_4, .int .i64 a0_5, .int .i64 a0_6, .int .i64 a0_7, .int .i64 a0_8, .int .i64 a0_9, .int .i64 a0_10, .slice Aa0_11 a0_11.length ca0_11, .int .i64 a0_12, .int .i64 (mn 20000 (IntKind.i64.wrap (a0_13 + 300))), .int .i64 (mn 20000 (IntKind.i64.wrap (a0_14 + 500))), .int .i64 a0_15, .bool a0_16, .int .i64 a0_17]] (.int .i64 x797) (by kernel_rfl) (fun w => by kernel_rfl) (fun w hw => strength_Knots.calls K a0_0 a0_1 a0_2 a0_3 a0_4 a0_5 a0_6 a0_7 a0_8 a0_9 a0_10 a0_11 a0_12 (mn 20000 (IntKind.i64.wrap (a0_13 + 300))) (mn 20000 (IntKind.i64.wrap (a0_14 + 500))) a0_15 a0_16 a0_17  _ _ _ w  (((ha0_11.le le758).le le770).at hw) hx797) ?_
                      refine LL.op (.int .i64 x739) (by kernel_rfl) (fun w _ => by kernel_rfl) ?_
                      refine LL.op (.bool (x797 == x739)) (by kernel_rfl) (fun w _ => by kernel_rfl) ?_
                      refine LL.op (.bool (x797 == x739)) (by kernel_rfl) (fun w _ => by kernel_rfl) ?_
                      refine LL.op (.bool (x797 == x739)) (by kernel_rfl) (fun w _ => by kernel_rfl) ?_
                      rcases Bool.eq_false_or_eq_true ((x797 == x739)) with c798 | c798
                      · rw [if_pos (eq_of_beq c798)] at H
                        refine LL.bool 106 ((x797 == x739)) true c798 (by kernel_rfl) ?_
                        obtain ⟨x799, hx799, H⟩ := bind_some H
                        refine LL.call 17 #[] (.bool x799) (by kernel_rfl) (fun w => by kernel_rfl) (fun w hw => sawmilllaw41_awake.calls K    _ w   hx799) ?_
                        refine LL.op (.bool x799) (by kernel_rfl) (fun w _ => by kernel_rfl) ?_
                        refine LL.op (.bool x799) (by kernel_rfl) (fun w _ => by kernel_rfl) ?_
                        refine LL.done (s' := [(6, .bool x799)]) [6] (by kernel_rfl) ?_
                        refine NN.then ?_
                        refine J.ret ?_
                        refine NN.fin1 6 (.bool x799) (by kernel_rfl) (by kernel_rfl) (.inl rfl) (fun w hi => hi.ret ?_)
                        first | (cases H; rfl) | (obtain rfl := Option.some.inj H; rfl) | (simp only [Option.some.injEq, Prod.mk.injEq] at H; obtain ⟨rfl⟩ := H; rfl)
                      · rw [if_neg (nebf c798)] at H
                        refine LL.bool 106 ((x797 == x739)) false c798 (by kernel_rfl) ?_
                        refine LL.off (by kernel_rfl) (by kernel_rfl) ?_
                        refine LL.op (.bool false) (by kernel_rfl) (fun w _ => by kernel_rfl) ?_
                        refine LL.op (.bool false) (by kernel_rfl) (fun w _ => by kernel_rfl) ?_
                        refine LL.done (s' := [(6, .bool false)]) [6] (by kernel_rfl) ?_
                        refine NN.then ?_
                        refine J.ret ?_
                        refine NN.fin1 6 (.bool false) (by kernel_rfl) (by kernel_rfl) (.inl rfl) (fun w hi => hi.ret ?_)
                        first | (cases H; rfl) | (obtain rfl := Option.some.inj H; rfl) | (simp only [Option.some.injEq, Prod.mk.injEq] at H; obtain ⟨rfl⟩ := H; rfl)
                    · rw [if_neg (of_decide_eq_false c796)] at H
                      refine LL.bool 100 (decide (x795 ≤ x738)) false c796 (by kernel_rfl) ?_
                      refine LL.off (by kernel_rfl) (by kernel_rfl) ?_
                      refine LL.off (by kernel_rfl) (by kernel_rfl) ?_
                      refine LL.off (by kernel_rfl) (by kernel_rfl) ?_
                      refine LL.off (by kernel_rfl) (by kernel_rfl) ?_
                      refine LL.op (.bool false) (by kernel_rfl) (fun w _ => by kernel_rfl) ?_
                      refine LL.op (.bool false) (by kernel_rfl) (fun w _ => by kernel_rfl) ?_
                      refine LL.off (by kernel_rfl) (by kernel_rfl) ?_
                      refine LL.op (.bool false) (by kernel_rfl) (fun w _ => by kernel_rfl) ?_
                      refine LL.op (.bool false) (by kernel_rfl) (fun w _ => by kernel_rfl) ?_
                      refine LL.done (s' := [(6, .bool false)]) [6] (by kernel_rfl) ?_
                      refine NN.then ?_
                      refine J.ret ?_
                      refine NN.fin1 6 (.bool false) (by kernel_rfl) (by kernel_rfl) (.inl rfl) (fun w hi => hi.ret ?_)
                      first | (cases H; rfl) | (obtain rfl := Option.some.inj H; rfl) | (simp only [Option.some.injEq, Prod.mk.injEq] at H; obtain ⟨rfl⟩ := H; rfl)
                · skip
                  refine HS.lit 26 1 #[(0, .tmp 48)] [.int .i64 a2_0, .int .i64 a2_1, .int .i64 a2_2, .int .i64 a2_3, .int .i64 a2_4, .int .i64 a2_5, .int .i64 a2_6] 41 ([(a2_0, a2_1, a2_2, a2_3, a2_4, a2_5, a2_6)] : List E41) rfl (by kernel_rfl) rfl (by kernel_rfl) ok41.len rfl rfl (fun _ h => h.sub (List.Sublist.cons _ (List.Sublist.refl _))) (fun R800 F801 A802 c803 le804 k805 fr806 => ?_)
                  refine HH.all1 3 (by kernel_rfl) ?_
                  obtain ⟨y808, hy808, H⟩ := bind_some H
                  refine HS.app (l2 := a0_11) (cap := 0) (c2 := ca0_11) [(g744, cl [.string a0_0, .string a0_1, .string a0_2, .int .i64 a0_3, .int .i64 a0_4, .int .i64 a0_5, .int .i64 a0_6, .int .i64 a0_7, .int .i64 a0_8, .int .i64 a0_9, .int .i64 a0_10, .slice Aa0_11 a0_11.length ca0_11, .int .i64 a0_12, .int .i64 a0_13, .int .i64 a0_14, .int .i64 a0_15, .bool a0_16, .int .i64 a0_17] 30), (g733, cl [.int .i64 a2_0, .int .i64 a2_1, .int .i64 a2_2, .int .i64 a2_3, .int .i64 a2_4, .int .i64 a2_5, .int .i64 a2_6] 41), (g732, cl [.string a1_0, .int .i64 a1_1, .int .i64 a1_2, .int .i64 a1_3, .int .i64 a1_4, .int .i64 a1_5, .int .i64 a1_6, .int .i64 a1_7, .int .i64 a1_8, .int .i64 a1_9, .int .i64 a1_10, .int .i64 a1_11, .int .i64 a1_12] 32), (g731, cl [.string a0_0, .string a0_1, .string a0_2, .int .i64 a0_3, .int .i64 a0_4, .int .i64 a0_5, .int .i64 a0_6, .int .i64 a0_7, .int .i64 a0_8, .int .i64 a0_9, .int .i64 a0_10, .slice Aa0_11 a0_11.length ca0_11, .int .i64 a0_12, .int .i64 a0_13, .int .i64 a0_14, .int .i64 a0_15, .bool a0_16, .int .i64 a0_17] 30)] (.tmp 44) (.tmp 46) el26 ok41 o746 (ha0_11.le le804) hy808 rfl (by kernel_rfl) rfl (by kernel_rfl) (by kernel_rfl) (fun _ h => (h.sub (List.Sublist.cons _ (List.Sublist.refl _))).back le804) (fun A809 c810 ba811 o812 => ?_)
                  refine HH.all1 6 (by kernel_rfl) ?_
                  obtain ⟨y814, hy814, H⟩ := bind_some H
                  refine HS.app (l2 := ([(a2_0, a2_1, a2_2, a2_3, a2_4, a2_5, a2_6)] : List E41)) (cap := c810) (c2 := c803) [(g744, cl [.string a0_0, .string a0_1, .string a0_2, .int .i64 a0_3, .int .i64 a0_4, .int .i64 a0_5, .int .i64 a0_6, .int .i64 a0_7, .int .i64 a0_8, .int .i64 a0_9, .int .i64 a0_10, .slice Aa0_11 a0_11.length ca0_11, .int .i64 a0_12, .int .i64 a0_13, .int .i64 a0_14, .int .i64 a0_15, .bool a0_16, .int .i64 a0_17] 30), (g733, cl [.int .i64 a2_0, .int .i64 a2_1, .int .i64 a2_2, .int .i64 a2_3, .int .i64 a2_4, .int .i64 a2_5, .int .i64 a2_6] 41), (g732, cl [.string a1_0, .int .i64 a1_1, .int .i64 a1_2, .int .i64 a1_3, .int .i64 a1_4, .int .i64 a1_5, .int .i64 a1_6, .int .i64 a1_7, .int .i64 a1_8, .int .i64 a1_9, .int .i64 a1_10, .int .i64 a1_11, .int .i64 a1_12] 32), (g731, cl [.string a0_0, .string a0_1, .string a0_2, .int .i64 a0_3, .int .i64 a0_4, .int .i64 a0_5, .int .i64 a0_6, .int .i64 a0_7, .int .i64 a0_8, .int .i64 a0_9, .int .i64 a0_10, .slice Aa0_11 a0_11.length ca0_11, .int .i64 a0_12, .int .i64 a0_13, .int .i64 a0_14, .int .i64 a0_15, .bool a0_16, .int .i64 a0_17] 30)] (.tmp 47) (.tmp 49) el26 ok41 o812 k805 hy814 rfl (by kernel_rfl) rfl (by kernel_rfl) (by kernel_rfl) (fun _ h => (h.sub (List.Sublist.cons _ (List.Sublist.refl _))).back le804) (fun A815 c816 ba817 o818 => ?_)
                  refine HH.take 7 (.pointer (some ⟨g744, 11, none⟩)) rfl (by kernel_rfl) (by kernel_rfl) (fun _ h => (h.sub ((List.Sublist.cons _ (List.Sublist.refl _)).trans (List.sublist_append_left _ _))).back le804) (fun w _ => by kernel_rfl) ?_
                  refine HH.all1 8 (by kernel_rfl) ?_
                  refine HS.store 0 g744 11 26 (.tmp 51) (.tmp 50) [.string a0_0, .string a0_1, .string a0_2, .int .i64 a0_3, .int .i64 a0_4, .int .i64 a0_5, .int .i64 a0_6, .int .i64 a0_7, .int .i64 a0_8, .int .i64 a0_9, .int .i64 a0_10, .slice A815 y814.length c816, .int .i64 a0_12, .int .i64 a0_13, .int .i64 a0_14, .int .i64 a0_15, .bool a0_16, .int .i64 a0_17] (bs' := [(g744, cl [.string a0_0, .string a0_1, .string a0_2, .int .i64 a0_3, .int .i64 a0_4, .int .i64 a0_5, .int .i64 a0_6, .int .i64 a0_7, .int .i64 a0_8, .int .i64 a0_9, .int .i64 a0_10, .slice A815 y814.length c816, .int .i64 a0_12, .int .i64 a0_13, .int .i64 a0_14, .int .i64 a0_15, .bool a0_16, .int .i64 a0_17] 30), (g733, cl [.int .i64 a2_0, .int .i64 a2_1, .int .i64 a2_2, .int .i64 a2_3, .int .i64 a2_4, .int .i64 a2_5, .int .i64 a2_6] 41), (g732, cl [.string a1_0, .int .i64 a1_1, .int .i64 a1_2, .int .i64 a1_3, .int .i64 a1_4, .int .i64 a1_5, .int .i64 a1_6, .int .i64 a1_7, .int .i64 a1_8, .int .i64 a1_9, .int .i64 a1_10, .int .i64 a1_11, .int .i64 a1_12] 32), (g731, cl [.string a0_0, .string a0_1, .string a0_2, .int .i64 a0_3, .int .i64 a0_4, .int .i64 a0_5, .int .i64 a0_6, .int .i64 a0_7, .int .i64 a0_8, .int .i64 a0_9, .int .i64 a0_10, .slice Aa0_11 a0_11.length ca0_11, .int .i64 a0_12, .int .i64 a0_13, .int .i64 a0_14, .int .i64 a0_15, .bool a0_16, .int .i64 a0_17] 30)] ++ ba817) rfl rfl (by kernel_rfl) rfl (by kernel_rfl) rfl (by kernel_rfl) (fun _ h => (h.sub ((List.Sublist.cons _ (List.Sublist.refl _)).trans (List.sublist_append_left _ _))).back le804) ?_
                  refine HH.done (s' := [(3, .pointer (some ⟨g731, 0, none⟩)), (4, .pointer (some ⟨g732, 0, none⟩)), (5, .pointer (some ⟨g733, 0, none⟩)), (6, .bool false), (7, .int .i64 x738), (8, .int .i64 x739), (9, .pointer (some ⟨g744, 0, none⟩))]) [3, 4, 5, 6, 7, 8, 9] (by kernel_rfl) (by kernel_rfl) ?_
                  refine NN.then ?_
                  refine J.seq ?_
                  refine J.seq ?_
                  refine J.plain ?_
                  refine LL.op (.pointer (some ⟨g744, 11, none⟩)) (by kernel_rfl) (fun w _ => by kernel_rfl) ?_
                  refine LL.op (.slice A815 y814.length c816) (by kernel_rfl) (ld 0 g744 11 rfl (by kernel_rfl) rfl (by kernel_rfl)) ?_
                  refine LL.freeze (pre := [(g744, cl [.string a0_0, .string a0_1, .string a0_2, .int .i64 a0_3, .int .i64 a0_4, .int .i64 a0_5, .int .i64 a0_6, .int .i64 a0_7, .int .i64 a0_8, .int .i64 a0_9, .int .i64 a0_10, .slice A815 y814.length c816, .int .i64 a0_12, .int .i64 a0_13, .int .i64 a0_14, .int .i64 a0_15, .bool a0_16, .int .i64 a0_17] 30), (g733, cl [.int .i64 a2_0, .int .i64 a2_1, .int .i64 a2_2, .int .i64 a2_3, .int .i64 a2_4, .int .i64 a2_5, .int .i64 a2_6] 41), (g732, cl [.string a1_0, .int .i64 a1_1, .int .i64 a1_2, .int .i64 a1_3, .int .i64 a1_4, .int .i64 a1_5, .int .i64 a1_6, .int .i64 a1_7, .int .i64 a1_8, .int .i64 a1_9, .int .i64 a1_10, .int .i64 a1_11, .int .i64 a1_12] 32), (g731, cl [.string a0_0, .string a0_1, .string a0_2, .int .i64 a0_3, .int .i64 a0_4, .int .i64 a0_5, .int .i64 a0_6, .int .i64 a0_7, .int .i64 a0_8, .int .i64 a0_9, .int .i64 a0_10, .slice Aa0_11 a0_11.length ca0_11, .int .i64 a0_12, .int .i64 a0_13, .int .i64 a0_14, .int .i64 a0_15, .bool a0_16, .int .i64 a0_17] 30)]) ok41 o818 (fun R820 F821 le822 k823 fr824 => ?_)
                  obtain ⟨x825, hx825, H⟩ := bind_some H
                  refine LL.call 26 #[.slice A815 y814.length c816] (.int .i64 x825) (by kernel_rfl) (fun w => by kernel_rfl) (fun w hw => sawmillref13_Check.calls K y814  _ _ _ w  (k823.at hw) hx825) ?_
                  refine LL.op (.bool (x825 == 0)) (by kernel_rfl) (fun w _ => by kernel_rfl) ?_
                  refine LL.op (.bool (x825 == 0)) (by kernel_rfl) (fun w _ => by kernel_rfl) ?_
                  rcases Bool.eq_false_or_eq_true ((x825 == 0)) with c826 | c826
                  · rw [if_pos (eq_of_beq c826)] at H
                    refine LL.bool 56 ((x825 == 0)) true c826 (by kernel_rfl) ?_
                    refine LL.op (.agg #[.string a0_0, .string a0_1, .string a0_2, .int .i64 a0_3, .int .i64 a0_4, .int .i64 a0_5, .int .i64 a0_6, .int .i64 a0_7, .int .i64 a0_8, .int .i64 a0_9, .int .i64 a0_10, .slice A815 y814.length c816, .int .i64 a0_12, .int .i64 a0_13, .int .i64 a0_14, .int .i64 a0_15, .bool a0_16, .int .i64 a0_17]) (by kernel_rfl) (ld 0 g744 0 rfl (by kernel_rfl) rfl (by kernel_rfl)) ?_
                    refine LL.op (.agg #[.string a1_0, .int .i64 a1_1, .int .i64 a1_2, .int .i64 a1_3, .int .i64 a1_4, .int .i64 a1_5, .int .i64 a1_6, .int .i64 a1_7, .int .i64 a1_8, .int .i64 a1_9, .int .i64 a1_10, .int .i64 a1_11, .int .i64 a1_12]) (by kernel_rfl) (ld 2 g732 0 rfl (by kernel_rfl) rfl (by kernel_rfl)) ?_
                    obtain ⟨x827, hx827, H⟩ := bind_some H
                    refine LL.call 20 #[.agg #[.string a0_0, .string a0_1, .string a0_2, .int .i64 a0_3, .int .i64 a0_4, .int .i64 a0_5, .int .i64 a0_6, .int .i64 a0_7, .int .i64 a0_8, .int .i64 a0_9, .int .i64 a0_10, .slice A815 y814.length c816, .int .i64 a0_12, .int .i64 a0_13, .int .i64 a0_14, .int .i64 a0_15, .bool a0_16, .int .i64 a0_17], .agg #[.string a1_0, .int .i64 a1_1, .int .i64 a1_2, .int .i64 a1_3, .int .i64 a1_4, .int .i64 a1_5, .int .i64 a1_6, .int .i64 a1_7, .int .i64 a1_8, .int .i64 a1_9, .int .i64 a1_10, .int .i64 a1_11, .int .i64 a1_12]] (.int .i64 x827) (by kernel_rfl) (fun w => by kernel_rfl) (fun w hw => strength_Stiffness.calls K a0_0 a0_1 a0_2 a0_3 a0_4 a0_5 a0_6 a0_7 a0_8 a0_9 a0_10 y814 a0_12 a0_13 a0_14 a0_15 a0_16 a0_17 a1_0 a1_1 a1_2 a1_3 a1_4 a1_5 a1_6 a1_7 a1_8 a1_9 a1_10 a1_11 a1_12  _ _ _ w  (k823.at hw) hx827) ?_
                    refine LL.op (.int .i64 x738) (by kernel_rfl) (fun w _ => by kernel_rfl) ?_
                    refine LL.op (.bool (decide (x738 < x827))) (by kernel_rfl) (fun w _ => by kernel_rfl) ?_
                    refine LL.op (.bool (decide (x738 < x827))) (by kernel_rfl) (fun w _ => by kernel_rfl) ?_
                    rcases Bool.eq_false_or_eq_true (decide (x738 < x827)) with c828 | c828
                    · rw [if_pos (of_decide_eq_true c828)] at H
                      refine LL.bool 62 (decide (x738 < x827)) true c828 (by kernel_rfl) ?_
                      refine LL.off (by kernel_rfl) (by kernel_rfl) ?_
                      refine LL.off (by kernel_rfl) (by kernel_rfl) ?_
                      refine LL.off (by kernel_rfl) (by kernel_rfl) ?_
                      refine LL.off (by kernel_rfl) (by kernel_rfl) ?_
                      refine LL.op (.bool true) (by kernel_rfl) (fun w _ => by kernel_rfl) ?_
                      refine LL.op (.bool true) (by kernel_rfl) (fun w _ => by kernel_rfl) ?_
                      refine LL.off (by kernel_rfl) (by kernel_rfl) ?_
                      refine LL.off (by kernel_rfl) (by kernel_rfl) ?_
                      refine LL.off (by kernel_rfl) (by kernel_rfl) ?_
                      refine LL.off (by kernel_rfl) (by kernel_rfl) ?_
                      refine LL.off (by kernel_rfl) (by kernel_rfl) ?_
                      refine LL.off (by kernel_rfl) (by kernel_rfl) ?_
                      refine LL.off (by kernel_rfl) (by kernel_rfl) ?_
                      refine LL.off (by kernel_rfl) (by kernel_rfl) ?_
                      refine LL.off (by kernel_rfl) (by kernel_rfl) ?_
                      refine LL.op (.bool true) (by kernel_rfl) (fun w _ => by kernel_rfl) ?_
                      refine LL.op (.bool true) (by kernel_rfl) (fun w _ => by kernel_rfl) ?_
                      refine LL.done (s' := [(3, .pointer (some ⟨g731, 0, none⟩)), (4, .pointer (some ⟨g732, 0, none⟩)), (6, .bool false), (7, .int .i64 x738), (8, .int .i64 x739), (79, .bool true)]) [3, 4, 6, 7, 8, 79] (by kernel_rfl) ?_
                      refine NN.then ?_
                      refine J.condT (b := true) rfl (by kernel_rfl) (by kernel_rfl) ?_
                      refine J.seq ?_
                      refine J.plain ?_
                      refine LL.op (.bool false) (by kernel_rfl) (fun w _ => by kernel_rfl) ?_
                      refine LL.done (s' := [(3, .pointer (some ⟨g731, 0, none⟩)), (4, .pointer (some ⟨g732, 0, none⟩)), (6, .bool false), (7, .int .i64 x738), (8, .int .i64 x739)]) [3, 4, 6, 7, 8] (by kernel_rfl) ?_
                      refine NN.then ?_
                      refine J.ret ?_
                      refine NN.then_ret ?_
                      refine NN.fin1 6 (.bool false) (by kernel_rfl) (by kernel_rfl) (.inl rfl) (fun w hi => hi.ret ?_)
                      first | (cases H; rfl) | (obtain rfl := Option.some.inj H; rfl) | (simp only [Option.some.injEq, Prod.mk.injEq] at H; obtain ⟨rfl⟩ := H; rfl)
                    · rw [if_neg (of_decide_eq_false c828)] at H
                      refine LL.bool 62 (decide (x738 < x827)) false c828 (by kernel_rfl) ?_
                      refine LL.op (.agg #[.string a0_0, .string a0_1, .string a0_2, .int .i64 a0_3, .int .i64 a0_4, .int .i64 a0_5, .int .i64 a0_6, .int .i64 a0_7, .int .i64 a0_8, .int .i64 a0_9, .int .i64 a0_10, .slice A815 y814.length c816, .int .i64 a0_12, .int .i64 a0_13, .int .i64 a0_14, .int .i64 a0_15, .bool a0_16, .int .i64 a0_17]) (by kernel_rfl) (ld 0 g744 0 rfl (by kernel_rfl) rfl (by kernel_rfl)) ?_
                      obtain ⟨x829, hx829, H⟩ := bind_some H
                      refine LL.call 18 #[.agg #[.string a0_0, .string a0_1, .string a0_2, .int .i64 a0_3, .int .i64 a0_4, .int .i64 a0_5, .int .i64 a0_6, .int .i64 a0_7, .int .i64 a0_8, .int .i64 a0_9, .int .i64 a0_10, .slice A815 y814.length c816, .int .i64 a0_12, .int .i64 a0_13, .int .i64 a0_14, .int .i64 a0_15, .bool a0_16, .int .i64 a0_17]] (.int .i64 x829) (by kernel_rfl) (fun w => by kernel_rfl) (fun w hw => strength_Knots.calls K a0_0 a0_1 a0_2 a0_3 a0_4 a0_5 a0_6 a0_7 a0_8 a0_9 a0_10 y814 a0_12 a0_13 a0_14 a0_15 a0_16 a0_17  _ _ _ w  (k823.at hw) hx829) ?_
                      refine LL.op (.int .i64 x739) (by kernel_rfl) (fun w _ => by kernel_rfl) ?_
                      refine LL.op (.bool (decide (x829 < x739))) (by kernel_rfl) (fun w _ => by kernel_rfl) ?_
                      refine LL.op (.bool (decide (x829 < x739))) (by kernel_rfl) (fun w _ => by kernel_rfl) ?_
                      refine LL.op (.bool (decide (x829 < x739))) (by kernel_rfl) (fun w _ => by kernel_rfl) ?_
                      rcases Bool.eq_false_or_eq_true (decide (x829 < x739)) with c830 | c830
                      · rw [if_pos (of_decide_eq_true c830)] at H
                        refine LL.bool 68 (decide (x829 < x739)) true c830 (by kernel_rfl) ?_
                        refine LL.off (by kernel_rfl) (by kernel_rfl) ?_
                        refine LL.off (by kernel_rfl) (by kernel_rfl) ?_
                        refine LL.off (by kernel_rfl) (by kernel_rfl) ?_
                        refine LL.off (by kernel_rfl) (by kernel_rfl) ?_
                        refine LL.off (by kernel_rfl) (by kernel_rfl) ?_
                        refine LL.off (by kernel_rfl) (by kernel_rfl) ?_
                        refine LL.off (by kernel_rfl) (by kernel_rfl) ?_
                        refine LL.off (by kernel_rfl) (by kernel_rfl) ?_
                        refine LL.off (by kernel_rfl) (by kernel_rfl) ?_
                        refine LL.op (.bool true) (by kernel_rfl) (fun w _ => by kernel_rfl) ?_
                        refine LL.op (.bool true) (by kernel_rfl) (fun w _ => by kernel_rfl) ?_
                        refine LL.done (s' := [(3, .pointer (some ⟨g731, 0, none⟩)), (4, .pointer (some ⟨g732, 0, none⟩)), (6, .bool false), (7, .int .i64 x738), (8, .int .i64 x739), (79, .bool true)]) [3, 4, 6, 7, 8, 79] (by kernel_rfl) ?_
                        refine NN.then ?_
                        refine J.condT (b := true) rfl (by kernel_rfl) (by kernel_rfl) ?_
                        refine J.seq ?_
                        refine J.plain ?_
                        refine LL.op (.bool false) (by kernel_rfl) (fun w _ => by kernel_rfl) ?_
                        refine LL.done (s' := [(3, .pointer (some ⟨g731, 0, none⟩)), (4, .pointer (some ⟨g732, 0, none⟩)), (6, .bool false), (7, .int .i64 x738), (8, .int .i64 x739)]) [3, 4, 6, 7, 8] (by kernel_rfl) ?_
                        refine NN.then ?_
                        refine J.ret ?_
                        refine NN.then_ret ?_
                        refine NN.fin1 6 (.bool false) (by kernel_rfl) (by kernel_rfl) (.inl rfl) (fun w hi => hi.ret ?_)
                        first | (cases H; rfl) | (obtain rfl := Option.some.inj H; rfl) | (simp only [Option.some.injEq, Prod.mk.injEq] at H; obtain ⟨rfl⟩ := H; rfl)
                      · rw [if_neg (of_decide_eq_false c830)] at H
                        refine LL.bool 68 (decide (x829 < x739)) false c830 (by kernel_rfl) ?_
                        refine LL.op (.agg #[.int .i64 a2_0, .int .i64 a2_1, .int .i64 a2_2, .int .i64 a2_3, .int .i64 a2_4, .int .i64 a2_5, .int .i64 a2_6]) (by kernel_rfl) (ld 1 g733 0 rfl (by kernel_rfl) rfl (by kernel_rfl)) ?_
                        obtain ⟨x831, hx831, H⟩ := bind_some H
                        refine LL.call 27 #[.agg #[.int .i64 a2_0, .int .i64 a2_1, .int .i64 a2_2, .int .i64 a2_3, .int .i64 a2_4, .int .i64 a2_5, .int .i64 a2_6]] (.bool x831) (by kernel_rfl) (fun w => by kernel_rfl) (fun w hw => sawmillref13_Knot.calls a2_0 a2_1 a2_2 a2_3 a2_4 a2_5 a2_6   _ w   hx831) ?_
                        refine LL.op (.bool (!x831)) (by kernel_rfl) (fun w _ => by kernel_rfl) ?_
                        refine LL.op (.bool (!x831)) (by kernel_rfl) (fun w _ => by kernel_rfl) ?_
                        rcases Bool.eq_false_or_eq_true (x831) with c832 | c832
                        · rw [if_pos (c832)] at H
                          refine LL.bool 72 (!x831) false (by rw [show (!x831) = !(x831) from rfl, c832]; rfl) (by kernel_rfl) ?_
                          refine LL.off (by kernel_rfl) (by kernel_rfl) ?_
                          refine LL.off (by kernel_rfl) (by kernel_rfl) ?_
                          refine LL.off (by kernel_rfl) (by kernel_rfl) ?_
                          refine LL.off (by kernel_rfl) (by kernel_rfl) ?_
                          refine LL.op (.bool false) (by kernel_rfl) (fun w _ => by kernel_rfl) ?_
                          refine LL.op (.bool false) (by kernel_rfl) (fun w _ => by kernel_rfl) ?_
                          refine LL.op (.bool false) (by kernel_rfl) (fun w _ => by kernel_rfl) ?_
                          refine LL.done (s' := [(3, .pointer (some ⟨g731, 0, none⟩)), (4, .pointer (some ⟨g732, 0, none⟩)), (6, .bool false), (7, .int .i64 x738), (8, .int .i64 x739), (79, .bool false)]) [3, 4, 6, 7, 8, 79] (by kernel_rfl) ?_
                          refine NN.then ?_
                          refine J.condF (b := false) rfl (by kernel_rfl) (by kernel_rfl) ?_
                          refine J.skip ?_
                          refine NN.then ?_
                          refine J.seq ?_
                          refine J.plain ?_
                          refine LL.op (.agg #[.string a0_0, .string a0_1, .string a0_2, .int .i64 a0_3, .int .i64 a0_4, .int .i64 a0_5, .int .i64 a0_6, .int .i64 a0_7, .int .i64 a0_8, .int .i64 a0_9, .int .i64 a0_10, .slice Aa0_11 a0_11.length ca0_11, .int .i64 a0_12, .int .i64 a0_13, .int .i64 a0_14, .int .i64 a0_15, .bool a0_16, .int .i64 a0_17]) (by kernel_rfl) (ld 3 g731 0 rfl (by kernel_rfl) rfl (by kernel_rfl)) ?_
                          refine LL.alloc 30 [.string (⟨#[]⟩ : ByteArray), .string (⟨#[]⟩ : ByteArray), .string (⟨#[]⟩ : ByteArray), .int .i64 0, .int .i64 0, .int .i64 0, .int .i64 0, .int .i64 0, .int .i64 0, .int .i64 0, .int .i64 0, .slice none 0 0, .int .i64 0, .int .i64 0, .int .i64 0, .int .i64 0, .bool false, .int .i64 0] (by kernel_rfl) rfl (by kernel_rfl) (fun g833 => ?_)
                          refine LL.store 0 g833 0 30 (.tmp 10) (.tmp 80) [.string a0_0, .string a0_1, .string a0_2, .int .i64 a0_3, .int .i64 a0_4, .int .i64 a0_5, .int .i64 a0_6, .int .i64 a0_7, .int .i64 a0_8, .int .i64 a0_9, .int .i64 a0_10, .slice Aa0_11 a0_11.length ca0_11, .int .i64 a0_12, .int .i64 a0_13, .int .i64 a0_14, .int .i64 a0_15, .bool a0_16, .int .i64 a0_17] (bs' := [(g833, cl [.string a0_0, .string a0_1, .string a0_2, .int .i64 a0_3, .int .i64 a0_4, .int .i64 a0_5, .int .i64 a0_6, .int .i64 a0_7, .int .i64 a0_8, .int .i64 a0_9, .int .i64 a0_10, .slice Aa0_11 a0_11.length ca0_11, .int .i64 a0_12, .int .i64 a0_13, .int .i64 a0_14, .int .i64 a0_15, .bool a0_16, .int .i64 a0_17] 30), (g744, cl [.string a0_0, .string a0_1, .string a0_2, .int .i64 a0_3, .int .i64 a0_4, .int .i64 a0_5, .int .i64 a0_6, .int .i64 a0_7, .int .i64 a0_8, .int .i64 a0_9, .int .i64 a0_10, .slice A815 y814.length c816, .int .i64 a0_12, .int .i64 a0_13, .int .i64 a0_14, .int .i64 a0_15, .bool a0_16, .int .i64 a0_17] 30), (g733, cl [.int .i64 a2_0, .int .i64 a2_1, .int .i64 a2_2, .int .i64 a2_3, .int .i64 a2_4, .int .i64 a2_5, .int .i64 a2_6] 41), (g732, cl [.string a1_0, .int .i64 a1_1, .int .i64 a1_2, .int .i64 a1_3, .int .i64 a1_4, .int .i64 a1_5, .int .i64 a1_6, .int .i64 a1_7, .int .i64 a1_8, .int .i64 a1_9, .int .i64 a1_10, .int .i64 a1_11, .int .i64 a1_12] 32), (g731, cl [.string a0_0, .string a0_1, .string a0_2, .int .i64 a0_3, .int .i64 a0_4, .int .i64 a0_5, .int .i64 a0_6, .int .i64 a0_7, .int .i64 a0_8, .int .i64 a0_9, .int .i64 a0_10, .slice Aa0_11 a0_11.length ca0_11, .int .i64 a0_12, .int .i64 a0_13, .int .i64 a0_14, .int .i64 a0_15, .bool a0_16, .int .i64 a0_17] 30)]) rfl (by kernel_rfl) rfl (by kernel_rfl) rfl (by kernel_rfl) ?_
                          refine LL.done (s' := [(4, .pointer (some ⟨g732, 0, none⟩)), (6, .bool false), (7, .int .i64 x738), (8, .int .i64 x739), (10, .pointer (some ⟨g833, 0, none⟩))]) [4, 6, 7, 8, 10] (by kernel_rfl) ?_
                          refine NN.then ?_
                          refine J.seq ?_
                          refine J.plain ?_
                          refine LL.op (.pointer (some ⟨g833, 13, none⟩)) (by kernel_rfl) (fun w _ => by kernel_rfl) ?_
                          refine LL.op (.pointer (some ⟨g833, 14, none⟩)) (by kernel_rfl) (fun w _ => by kernel_rfl) ?_
                          refine LL.op (.int .i64 a0_14) (by kernel_rfl) (ld 0 g833 14 rfl (by kernel_rfl) rfl (by kernel_rfl)) ?_
                          refine LL.op (.int .i64 (IntKind.i64.wrap (a0_14 + 500))) (by kernel_rfl) (fun w _ => by kernel_rfl) ?_
                          refine LL.op (.int .i64 (mn 20000 (IntKind.i64.wrap (a0_14 + 500)))) (by kernel_rfl) (fun w _ => by kernel_rfl) ?_
                          refine LL.op (.pointer (some ⟨g833, 13, none⟩)) (by kernel_rfl) (fun w _ => by kernel_rfl) ?_
                          refine LL.op (.pointer (some ⟨g833, 14, none⟩)) (by kernel_rfl) (fun w _ => by kernel_rfl) ?_
                          refine LL.store 0 g833 14 3 (.tmp 87) (.tmp 85) [.string a0_0, .string a0_1, .string a0_2, .int .i64 a0_3, .int .i64 a0_4, .int .i64 a0_5, .int .i64 a0_6, .int .i64 a0_7, .int .i64 a0_8, .int .i64 a0_9, .int .i64 a0_10, .slice Aa0_11 a0_11.length ca0_11, .int .i64 a0_12, .int .i64 a0_13, .int .i64 (mn 20000 (IntKind.i64.wrap (a0_14 + 500))), .int .i64 a0_15, .bool a0_16, .int .i64 a0_17] (bs' := [(g833, cl [.string a0_0, .string a0_1, .string a0_2, .int .i64 a0_3, .int .i64 a0_4, .int .i64 a0_5, .int .i64 a0_6, .int .i64 a0_7, .int .i64 a0_8, .int .i64 a0_9, .int .i64 a0_10, .slice Aa0_11 a0_11.length ca0_11, .int .i64 a0_12, .int .i64 a0_13, .int .i64 (mn 20000 (IntKind.i64.wrap (a0_14 + 500))), .int .i64 a0_15, .bool a0_16, .int .i64 a0_17] 30), (g744, cl [.string a0_0, .string a0_1, .string a0_2, .int .i64 a0_3, .int .i64 a0_4, .int .i64 a0_5, .int .i64 a0_6, .int .i64 a0_7, .int .i64 a0_8, .int .i64 a0_9, .int .i64 a0_10, .slice A815 y814.length c816, .int .i64 a0_12, .int .i64 a0_13, .int .i64 a0_14, .int .i64 a0_15, .bool a0_16, .int .i64 a0_17] 30), (g733, cl [.int .i64 a2_0, .int .i64 a2_1, .int .i64 a2_2, .int .i64 a2_3, .int .i64 a2_4, .int .i64 a2_5, .int .i64 a2_6] 41), (g732, cl [.string a1_0, .int .i64 a1_1, .int .i64 a1_2, .int .i64 a1_3, .int .i64 a1_4, .int .i64 a1_5, .int .i64 a1_6, .int .i64 a1_7, .int .i64 a1_8, .int .i64 a1_9, .int .i64 a1_10, .int .i64 a1_11, .int .i64 a1_12] 32), (g731, cl [.string a0_0, .string a0_1, .string a0_2, .int .i64 a0_3, .int .i64 a0_4, .int .i64 a0_5, .int .i64 a0_6, .int .i64 a0_7, .int .i64 a0_8, .int .i64 a0_9, .int .i64 a0_10, .slice Aa0_11 a0_11.length ca0_11, .int .i64 a0_12, .int .i64 a0_13, .int .i64 a0_14, .int .i64 a0_15, .bool a0_16, .int .i64 a0_17] 30)]) rfl (by kernel_rfl) rfl (by kernel_rfl) rfl (by kernel_rfl) ?_
                          refine LL.done (s' := [(4, .pointer (some ⟨g732, 0, none⟩)), (6, .bool false), (7, .int .i64 x738), (8, .int .i64 x739), (10, .pointer (some ⟨g833, 0, none⟩))]) [4, 6, 7, 8, 10] (by kernel_rfl) ?_
                          refine NN.then ?_
                          refine J.seq ?_
                          refine J.plain ?_
                          refine LL.op (.pointer (some ⟨g833, 13, none⟩)) (by kernel_rfl) (fun w _ => by kernel_rfl) ?_
                          refine LL.op (.pointer (some ⟨g833, 13, none⟩)) (by kernel_rfl) (fun w _ => by kernel_rfl) ?_
                          refine LL.op (.int .i64 a0_13) (by kernel_rfl) (ld 0 g833 13 rfl (by kernel_rfl) rfl (by kernel_rfl)) ?_
                          refine LL.op (.int .i64 (IntKind.i64.wrap (a0_13 + 300))) (by kernel_rfl) (fun w _ => by kernel_rfl) ?_
                          refine LL.op (.int .i64 (mn 20000 (IntKind.i64.wrap (a0_13 + 300)))) (by kernel_rfl) (fun w _ => by kernel_rfl) ?_
                          refine LL.op (.pointer (some ⟨g833, 13, none⟩)) (by kernel_rfl) (fun w _ => by kernel_rfl) ?_
                          refine LL.op (.pointer (some ⟨g833, 13, none⟩)) (by kernel_rfl) (fun w _ => by kernel_rfl) ?_
                          refine LL.store 0 g833 13 3 (.tmp 94) (.tmp 92) [.string a0_0, .string a0_1, .string a0_2, .int .i64 a0_3, .int .i64 a0_4, .int .i64 a0_5, .int .i64 a0_6, .int .i64 a0_7, .int .i64 a0_8, .int .i64 a0_9, .int .i64 a0_10, .slice Aa0_11 a0_11.length ca0_11, .int .i64 a0_12, .int .i64 (mn 20000 (IntKind.i64.wrap (a0_13 + 300))), .int .i64 (mn 20000 (IntKind.i64.wrap (a0_14 + 500))), .int .i64 a0_15, .bool a0_16, .int .i64 a0_17] (bs' := [(g833, cl [.string a0_0, .string a0_1, .string a0_2, .int .i64 a0_3, .int .i64 a0_4, .int .i64 a0_5, .int .i64 a0_6, .int .i64 a0_7, .int .i64 a0_8, .int .i64 a0_9, .int .i64 a0_10, .slice Aa0_11 a0_11.length ca0_11, .int .i64 a0_12, .int .i64 (mn 20000 (IntKind.i64.wrap (a0_13 + 300))), .int .i64 (mn 20000 (IntKind.i64.wrap (a0_14 + 500))), .int .i64 a0_15, .bool a0_16, .int .i64 a0_17] 30), (g744, cl [.string a0_0, .string a0_1, .string a0_2, .int .i64 a0_3, .int .i64 a0_4, .int .i64 a0_5, .int .i64 a0_6, .int .i64 a0_7, .int .i64 a0_8, .int .i64 a0_9, .int .i64 a0_10, .slice A815 y814.length c816, .int .i64 a0_12, .int .i64 a0_13, .int .i64 a0_14, .int .i64 a0_15, .bool a0_16, .int .i64 a0_17] 30), (g733, cl [.int .i64 a2_0, .int .i64 a2_1, .int .i64 a2_2, .int .i64 a2_3, .int .i64 a2_4, .int .i64 a2_5, .int .i64 a2_6] 41), (g732, cl [.string a1_0, .int .i64 a1_1, .int .i64 a1_2, .int .i64 a1_3, .int .i64 a1_4, .int .i64 a1_5, .int .i64 a1_6, .int .i64 a1_7, .int .i64 a1_8, .int .i64 a1_9, .int .i64 a1_10, .int .i64 a1_11, .int .i64 a1_12] 32), (g731, cl [.string a0_0, .string a0_1, .string a0_2, .int .i64 a0_3, .int .i64 a0_4, .int .i64 a0_5, .int .i64 a0_6, .int .i64 a0_7, .int .i64 a0_8, .int .i64 a0_9, .int .i64 a0_10, .slice Aa0_11 a0_11.length ca0_11, .int .i64 a0_12, .int .i64 a0_13, .int .i64 a0_14, .int .i64 a0_15, .bool a0_16, .int .i64 a0_17] 30)]) rfl (by kernel_rfl) rfl (by kernel_rfl) rfl (by kernel_rfl) ?_
                          refine LL.done (s' := [(4, .pointer (some ⟨g732, 0, none⟩)), (6, .bool false), (7, .int .i64 x738), (8, .int .i64 x739), (10, .pointer (some ⟨g833, 0, none⟩))]) [4, 6, 7, 8, 10] (by kernel_rfl) ?_
                          refine NN.then ?_
                          refine J.seq ?_
                          refine J.plain ?_
                          refine LL.op (.agg #[.string a0_0, .string a0_1, .string a0_2, .int .i64 a0_3, .int .i64 a0_4, .int .i64 a0_5, .int .i64 a0_6, .int .i64 a0_7, .int .i64 a0_8, .int .i64 a0_9, .int .i64 a0_10, .slice Aa0_11 a0_11.length ca0_11, .int .i64 a0_12, .int .i64 (mn 20000 (IntKind.i64.wrap (a0_13 + 300))), .int .i64 (mn 20000 (IntKind.i64.wrap (a0_14 + 500))), .int .i64 a0_15, .bool a0_16, .int .i64 a0_17]) (by kernel_rfl) (ld 0 g833 0 rfl (by kernel_rfl) rfl (by kernel_rfl)) ?_
                          refine LL.op (.agg #[.string a1_0, .int .i64 a1_1, .int .i64 a1_2, .int .i64 a1_3, .int .i64 a1_4, .int .i64 a1_5, .int .i64 a1_6, .int .i64 a1_7, .int .i64 a1_8, .int .i64 a1_9, .int .i64 a1_10, .int .i64 a1_11, .int .i64 a1_12]) (by kernel_rfl) (ld 3 g732 0 rfl (by kernel_rfl) rfl (by kernel_rfl)) ?_
                          obtain ⟨x834, hx834, H⟩ := bind_some H
                          refine LL.call 20 #[.agg #[.string a0_0, .string a0_1, .string a0_2, .int .i64 a0_3, .int .i64 a0_4, .int .i64 a0_5, .int .i64 a0_6, .int .i64 a0_7, .int .i64 a0_8, .int .i64 a0_9, .int .i64 a0_10, .slice Aa0_11 a0_11.length ca0_11, .int .i64 a0_12, .int .i64 (mn 20000 (IntKind.i64.wrap (a0_13 + 300))), .int .i64 (mn 20000 (IntKind.i64.wrap (a0_14 + 500))), .int .i64 a0_15, .bool a0_16, .int .i64 a0_17], .agg #[.string a1_0, .int .i64 a1_1, .int .i64 a1_2, .int .i64 a1_3, .int .i64 a1_4, .int .i64 a1_5, .int .i64 a1_6, .int .i64 a1_7, .int .i64 a1_8, .int .i64 a1_9, .int .i64 a1_10, .int .i64 a1_11, .int .i64 a1_12]] (.int .i64 x834) (by kernel_rfl) (fun w => by kernel_rfl) (fun w hw => strength_Stiffness.calls K a0_0 a0_1 a0_2 a0_3 a0_4 a0_5 a0_6 a0_7 a0_8 a0_9 a0_10 a0_11 a0_12 (mn 20000 (IntKind.i64.wrap (a0_13 + 300))) (mn 20000 (IntKind.i64.wrap (a0_14 + 500))) a0_15 a0_16 a0_17 a1_0 a1_1 a1_2 a1_3 a1_4 a1_5 a1_6 a1_7 a1_8 a1_9 a1_10 a1_11 a1_12  _ _ _ w  (((ha0_11.le le804).le le822).at hw) hx834) ?_
                          refine LL.op (.int .i64 x738) (by kernel_rfl) (fun w _ => by kernel_rfl) ?_
                          refine LL.op (.bool (decide (x834 ≤ x738))) (by kernel_rfl) (fun w _ => by kernel_rfl) ?_
                          refine LL.op (.bool (decide (x834 ≤ x738))) (by kernel_rfl) (fun w _ => by kernel_rfl) ?_
                          rcases Bool.eq_false_or_eq_true (decide (x834 ≤ x738)) with c835 | c835
                          · rw [if_pos (of_decide_eq_true c835)] at H
                            refine LL.bool 100 (decide (x834 ≤ x738)) true c835 (by kernel_rfl) ?_
                            refine LL.op (.agg #[.string a0_0, .string a0_1, .string a0_2, .int .i64 a0_3, .int .i64 a0_4, .int .i64 a0_5, .int .i64 a0_6, .int .i64 a0_7, .int .i64 a0_8, .int .i64 a0_9, .int .i64 a0_10, .slice Aa0_11 a0_11.length ca0_11, .int .i64 a0_12, .int .i64 (mn 20000 (IntKind.i64.wrap (a0_13 + 300))), .int .i64 (mn 20000 (IntKind.i64.wrap (a0_14 + 500))), .int .i64 a0_15, .bool a0_16, .int .i64 a0_17]) (by kernel_rfl) (ld 0 g833 0 rfl (by kernel_rfl) rfl (by kernel_rfl)) ?_
                            obtain ⟨x836, hx836, H⟩ := bind_some H
                            refine LL.call 18 #[.agg #[.string a0_0, .string a0_1, .string a0_2, .int .i64 a0_3, .int .i64 a0_4, .int .i64 a0_5, .int .i64 a0_6, .int .i64 a0_7, .int .i64 a0_8, .int .i64 a0_9, .int .i64 a0_10, .slice Aa0_11 a0_11.length ca0_11, .int .i64 a0_12, .int .i64 (mn 20000 (IntKind.i64.wrap (a0_13 + 300))), .int .i64 (mn 20000 (IntKind.i64.wrap (a0_14 + 500))), .int .i64 a0_15, .bool a0_16, .int .i64 a0_17]] (.int .i64 x836) (by kernel_rfl) (fun w => by kernel_rfl) (fun w hw => strength_Knots.calls K a0_0 a0_1 a0_2 a0_3 a0_4 a0_5 a0_6 a0_7 a0_8 a0_9 a0_10 a0_11 a0_12 (mn 20000 (IntKind.i64.wrap (a0_13 + 300))) (mn 20000 (IntKind.i64.wrap (a0_14 + 500))) a0_15 a0_16 a0_17  _ _ _ w  (((ha0_11.le le804).le le822).at hw) hx836) ?_
                            refine LL.op (.int .i64 x739) (by kernel_rfl) (fun w _ => by kernel_rfl) ?_
                            refine LL.op (.bool (x836 == x739)) (by kernel_rfl) (fun w _ => by kernel_rfl) ?_
                            refine LL.op (.bool (x836 == x739)) (by kernel_rfl) (fun w _ => by kernel_rfl) ?_
                            refine LL.op (.bool (x836 == x739)) (by kernel_rfl) (fun w _ => by kernel_rfl) ?_
                            rcases Bool.eq_false_or_eq_true ((x836 == x739)) with c837 | c837
                            · rw [if_pos (eq_of_beq c837)] at H
                              refine LL.bool 106 ((x836 == x739)) true c837 (by kernel_rfl) ?_
                              obtain ⟨x838, hx838, H⟩ := bind_some H
                              refine LL.call 17 #[] (.bool x838) (by kernel_rfl) (fun w => by kernel_rfl) (fun w hw => sawmilllaw41_awake.calls K    _ w   hx838) ?_
                              refine LL.op (.bool x838) (by kernel_rfl) (fun w _ => by kernel_rfl) ?_
                              refine LL.op (.bool x838) (by kernel_rfl) (fun w _ => by kernel_rfl) ?_
                              refine LL.done (s' := [(6, .bool x838)]) [6] (by kernel_rfl) ?_
                              refine NN.then ?_
                              refine J.ret ?_
                              refine NN.fin1 6 (.bool x838) (by kernel_rfl) (by kernel_rfl) (.inl rfl) (fun w hi => hi.ret ?_)
                              first | (cases H; rfl) | (obtain rfl := Option.some.inj H; rfl) | (simp only [Option.some.injEq, Prod.mk.injEq] at H; obtain ⟨rfl⟩ := H; rfl)
                            · rw [if_neg (nebf c837)] at H
                              refine LL.bool 106 ((x836 == x739)) false c837 (by kernel_rfl) ?_
                              refine LL.off (by kernel_rfl) (by kernel_rfl) ?_
                              refine LL.op (.bool false) (by kernel_rfl) (fun w _ => by kernel_rfl) ?_
                              refine LL.op (.bool false) (by kernel_rfl) (fun w _ => by kernel_rfl) ?_
                              refine LL.done (s' := [(6, .bool false)]) [6] (by kernel_rfl) ?_
                              refine NN.then ?_
                              refine J.ret ?_
                              refine NN.fin1 6 (.bool false) (by kernel_rfl) (by kernel_rfl) (.inl rfl) (fun w hi => hi.ret ?_)
                              first | (cases H; rfl) | (obtain rfl := Option.some.inj H; rfl) | (simp only [Option.some.injEq, Prod.mk.injEq] at H; obtain ⟨rfl⟩ := H; rfl)
                          · rw [if_neg (of_decide_eq_false c835)] at H
                            refine LL.bool 100 (decide (x834 ≤ x738)) false c835 (by kernel_rfl) ?_
                            refine LL.off (by kernel_rfl) (by kernel_rfl) ?_
                            refine LL.off (by kernel_rfl) (by kernel_rfl) ?_
                            refine LL.off (by kernel_rfl) (by kernel_rfl) ?_
                            refine LL.off (by kernel_rfl) (by kernel_rfl) ?_
                            refine LL.op (.bool false) (by kernel_rfl) (fun w _ => by kernel_rfl) ?_
                            refine LL.op (.bool false) (by kernel_rfl) (fun w _ => by kernel_rfl) ?_
                            refine LL.off (by kernel_rfl) (by kernel_rfl) ?_
                            refine LL.op (.bool false) (by kernel_rfl) (fun w _ => by kernel_rfl) ?_
                            refine LL.op (.bool false) (by kernel_rfl) (fun w _ => by kernel_rfl) ?_
                            refine LL.done (s' := [(6, .bool false)]) [6] (by kernel_rfl) ?_
                            refine NN.then ?_
                            refine J.ret ?_
                            refine NN.fin1 6 (.bool false) (by kernel_rfl) (by kernel_rfl) (.inl rfl) (fun w hi => hi.ret ?_)
                            first | (cases H; rfl) | (obtain rfl := Option.some.inj H; rfl) | (simp only [Option.some.injEq, Prod.mk.injEq] at H; obtain ⟨rfl⟩ := H; rfl)
                        · rw [if_neg (nebt c832)] at H
                          refine LL.bool 72 (!x831) true (by rw [show (!x831) = !(x831) from rfl, c832]; rfl) (by kernel_rfl) ?_
                          refine LL.op (.agg #[.string a0_0, .string a0_1, .string a0_2, .int .i64 a0_3, .int .i64 a0_4, .int .i64 a0_5, .int .i64 a0_6, .int .i64 a0_7, .int .i64 a0_8, .int .i64 a0_9, .int .i64 a0_10, .slice A815 y814.length c816, .int .i64 a0_12, .int .i64 a0_13, .int .i64 a0_14, .int .i64 a0_15, .bool a0_16, .int .i64 a0_17]) (by kernel_rfl) (ld 0 g744 0 rfl (by kernel_rfl) rfl (by kernel_rfl)) ?_
                          refine LL.call 18 #[.agg #[.string a0_0, .string a0_1, .string a0_2, .int .i64 a0_3, .int .i64 a0_4, .int .i64 a0_5, .int .i64 a0_6, .int .i64 a0_7, .int .i64 a0_8, .int .i64 a0_9, .int .i64 a0_10, .slice A815 y814.length c816, .int .i64 a0_12, .int .i64 a0_13, .int .i64 a0_14, .int .i64 a0_15, .bool a0_16, .int .i64 a0_17]] (.int .i64 x829) (by kernel_rfl) (fun w => by kernel_rfl) (fun w hw => strength_Knots.calls K a0_0 a0_1 a0_2 a0_3 a0_4 a0_5 a0_6 a0_7 a0_8 a0_9 a0_10 y814 a0_12 a0_13 a0_14 a0_15 a0_16 a0_17  _ _ _ w  (k823.at hw) hx829) ?_
                          refine LL.op (.int .i64 x739) (by kernel_rfl) (fun w _ => by kernel_rfl) ?_
                          refine LL.op (.bool (!(x829 == x739))) (by kernel_rfl) (fun w _ => by kernel_rfl) ?_
                          refine LL.op (.bool (!(x829 == x739))) (by kernel_rfl) (fun w _ => by kernel_rfl) ?_
                          refine LL.op (.bool (!(x829 == x739))) (by kernel_rfl) (fun w _ => by kernel_rfl) ?_
                          refine LL.op (.bool (!(x829 == x739))) (by kernel_rfl) (fun w _ => by kernel_rfl) ?_
                          refine LL.done (s' := [(3, .pointer (some ⟨g731, 0, none⟩)), (4, .pointer (some ⟨g732, 0, none⟩)), (6, .bool false), (7, .int .i64 x738), (8, .int .i64 x739), (79, .bool (!(x829 == x739)))]) [3, 4, 6, 7, 8, 79] (by kernel_rfl) ?_
                          refine NN.then ?_
                          rcases Bool.eq_false_or_eq_true ((x829 == x739)) with c839 | c839
                          · rw [if_pos (eq_of_beq c839)] at H
                            refine J.condF (b := !(x829 == x739)) (by rw [show (!(x829 == x739)) = !((x829 == x739)) from rfl, c839]; rfl) (by kernel_rfl) (by kernel_rfl) ?_
                            refine J.skip ?_
                            refine NN.then ?_
                            refine J.seq ?_
                            refine J.plain ?_
                            refine LL.op (.agg #[.string a0_0, .string a0_1, .string a0_2, .int .i64 a0_3, .int .i64 a0_4, .int .i64 a0_5, .int .i64 a0_6, .int .i64 a0_7, .int .i64 a0_8, .int .i64 a0_9, .int .i64 a0_10, .slice Aa0_11 a0_11.length ca0_11, .int .i64 a0_12, .int .i64 a0_13, .int .i64 a0_14, .int .i64 a0_15, .bool a0_16, .int .i64 a0_17]) (by kernel_rfl) (ld 3 g731 0 rfl (by kernel_rfl) rfl (by kernel_rfl)) ?_
                            refine LL.alloc 30 [.string (⟨#[]⟩ : ByteArray), .string (⟨#[]⟩ : ByteArray), .string (⟨#[]⟩ : ByteArray), .int .i64 0, .int .i64 0, .int .i64 0, .int .i64 0, .int .i64 0, .int .i64 0, .int .i64 0, .int .i64 0, .slice none 0 0, .int .i64 0, .int .i64 0, .int .i64 0, .int .i64 0, .bool false, .int .i64 0] (by kernel_rfl) rfl (by kernel_rfl) (fun g840 => ?_)
                            refine LL.store 0 g840 0 30 (.tmp 10) (.tmp 80) [.string a0_0, .string a0_1, .string a0_2, .int .i64 a0_3, .int .i64 a0_4, .int .i64 a0_5, .int .i64 a0_6, .int .i64 a0_7, .int .i64 a0_8, .int .i64 a0_9, .int .i64 a0_10, .slice Aa0_11 a0_11.length ca0_11, .int .i64 a0_12, .int .i64 a0_13, .int .i64 a0_14, .int .i64 a0_15, .bool a0_16, .int .i64 a0_17] (bs' := [(g840, cl [.string a0_0, .string a0_1, .string a0_2, .int .i64 a0_3, .int .i64 a0_4, .int .i64 a0_5, .int .i64 a0_6, .int .i64 a0_7, .int .i64 a0_8, .int .i64 a0_9, .int .i64 a0_10, .slice Aa0_11 a0_11.length ca0_11, .int .i64 a0_12, .int .i64 a0_13, .int .i64 a0_14, .int .i64 a0_15, .bool a0_16, .int .i64 a0_17] 30), (g744, cl [.string a0_0, .string a0_1, .string a0_2, .int .i64 a0_3, .int .i64 a0_4, .int .i64 a0_5, .int .i64 a0_6, .int .i64 a0_7, .int .i64 a0_8, .int .i64 a0_9, .int .i64 a0_10, .slice A815 y814.length c816, .int .i64 a0_12, .int .i64 a0_13, .int .i64 a0_14, .int .i64 a0_15, .bool a0_16, .int .i64 a0_17] 30), (g733, cl [.int .i64 a2_0, .int .i64 a2_1, .int .i64 a2_2, .int .i64 a2_3, .int .i64 a2_4, .int .i64 a2_5, .int .i64 a2_6] 41), (g732, cl [.string a1_0, .int .i64 a1_1, .int .i64 a1_2, .int .i64 a1_3, .int .i64 a1_4, .int .i64 a1_5, .int .i64 a1_6, .int .i64 a1_7, .int .i64 a1_8, .int .i64 a1_9, .int .i64 a1_10, .int .i64 a1_11, .int .i64 a1_12] 32), (g731, cl [.string a0_0, .string a0_1, .string a0_2, .int .i64 a0_3, .int .i64 a0_4, .int .i64 a0_5, .int .i64 a0_6, .int .i64 a0_7, .int .i64 a0_8, .int .i64 a0_9, .int .i64 a0_10, .slice Aa0_11 a0_11.length ca0_11, .int .i64 a0_12, .int .i64 a0_13, .int .i64 a0_14, .int .i64 a0_15, .bool a0_16, .int .i64 a0_17] 30)]) rfl (by kernel_rfl) rfl (by kernel_rfl) rfl (by kernel_rfl) ?_
                            refine LL.done (s' := [(4, .pointer (some ⟨g732, 0, none⟩)), (6, .bool false), (7, .int .i64 x738), (8, .int .i64 x739), (10, .pointer (some ⟨g840, 0, none⟩))]) [4, 6, 7, 8, 10] (by kernel_rfl) ?_
                            refine NN.then ?_
                            refine J.seq ?_
                            refine J.plain ?_
                            refine LL.op (.pointer (some ⟨g840, 13, none⟩)) (by kernel_rfl) (fun w _ => by kernel_rfl) ?_
                            refine LL.op (.pointer (some ⟨g840, 14, none⟩)) (by kernel_rfl) (fun w _ => by kernel_rfl) ?_
                            refine LL.op (.int .i64 a0_14) (by kernel_rfl) (ld 0 g840 14 rfl (by kernel_rfl) rfl (by kernel_rfl)) ?_
                            refine LL.op (.int .i64 (IntKind.i64.wrap (a0_14 + 500))) (by kernel_rfl) (fun w _ => by kernel_rfl) ?_
                            refine LL.op (.int .i64 (mn 20000 (IntKind.i64.wrap (a0_14 + 500)))) (by kernel_rfl) (fun w _ => by kernel_rfl) ?_
                            refine LL.op (.pointer (some ⟨g840, 13, none⟩)) (by kernel_rfl) (fun w _ => by kernel_rfl) ?_
                            refine LL.op (.pointer (some ⟨g840, 14, none⟩)) (by kernel_rfl) (fun w _ => by kernel_rfl) ?_
                            refine LL.store 0 g840 14 3 (.tmp 87) (.tmp 85) [.string a0_0, .string a0_1, .string a0_2, .int .i64 a0_3, .int .i64 a0_4, .int .i64 a0_5, .int .i64 a0_6, .int .i64 a0_7, .int .i64 a0_8, .int .i64 a0_9, .int .i64 a0_10, .slice Aa0_11 a0_11.length ca0_11, .int .i64 a0_12, .int .i64 a0_13, .int .i64 (mn 20000 (IntKind.i64.wrap (a0_14 + 500))), .int .i64 a0_15, .bool a0_16, .int .i64 a0_17] (bs' := [(g840, cl [.string a0_0, .string a0_1, .string a0_2, .int .i64 a0_3, .int .i64 a0_4, .int .i64 a0_5, .int .i64 a0_6, .int .i64 a0_7, .int .i64 a0_8, .int .i64 a0_9, .int .i64 a0_10, .slice Aa0_11 a0_11.length ca0_11, .int .i64 a0_12, .int .i64 a0_13, .int .i64 (mn 20000 (IntKind.i64.wrap (a0_14 + 500))), .int .i64 a0_15, .bool a0_16, .int .i64 a0_17] 30), (g744, cl [.string a0_0, .string a0_1, .string a0_2, .int .i64 a0_3, .int .i64 a0_4, .int .i64 a0_5, .int .i64 a0_6, .int .i64 a0_7, .int .i64 a0_8, .int .i64 a0_9, .int .i64 a0_10, .slice A815 y814.length c816, .int .i64 a0_12, .int .i64 a0_13, .int .i64 a0_14, .int .i64 a0_15, .bool a0_16, .int .i64 a0_17] 30), (g733, cl [.int .i64 a2_0, .int .i64 a2_1, .int .i64 a2_2, .int .i64 a2_3, .int .i64 a2_4, .int .i64 a2_5, .int .i64 a2_6] 41), (g732, cl [.string a1_0, .int .i64 a1_1, .int .i64 a1_2, .int .i64 a1_3, .int .i64 a1_4, .int .i64 a1_5, .int .i64 a1_6, .int .i64 a1_7, .int .i64 a1_8, .int .i64 a1_9, .int .i64 a1_10, .int .i64 a1_11, .int .i64 a1_12] 32), (g731, cl [.string a0_0, .string a0_1, .string a0_2, .int .i64 a0_3, .int .i64 a0_4, .int .i64 a0_5, .int .i64 a0_6, .int .i64 a0_7, .int .i64 a0_8, .int .i64 a0_9, .int .i64 a0_10, .slice Aa0_11 a0_11.length ca0_11, .int .i64 a0_12, .int .i64 a0_13, .int .i64 a0_14, .int .i64 a0_15, .bool a0_16, .int .i64 a0_17] 30)]) rfl (by kernel_rfl) rfl (by kernel_rfl) rfl (by kernel_rfl) ?_
                            refine LL.done (s' := [(4, .pointer (some ⟨g732, 0, none⟩)), (6, .bool false), (7, .int .i64 x738), (8, .int .i64 x739), (10, .pointer (some ⟨g840, 0, none⟩))]) [4, 6, 7, 8, 10] (by kernel_rfl) ?_
                            refine NN.then ?_
                            refine J.seq ?_
                            refine J.plain ?_
                            refine LL.op (.pointer (some ⟨g840, 13, none⟩)) (by kernel_rfl) (fun w _ => by kernel_rfl) ?_
                            refine LL.op (.pointer (some ⟨g840, 13, none⟩)) (by kernel_rfl) (fun w _ => by kernel_rfl) ?_
                            refine LL.op (.int .i64 a0_13) (by kernel_rfl) (ld 0 g840 13 rfl (by kernel_rfl) rfl (by kernel_rfl)) ?_
                            refine LL.op (.int .i64 (IntKind.i64.wrap (a0_13 + 300))) (by kernel_rfl) (fun w _ => by kernel_rfl) ?_
                            refine LL.op (.int .i64 (mn 20000 (IntKind.i64.wrap (a0_13 + 300)))) (by kernel_rfl) (fun w _ => by kernel_rfl) ?_
                            refine LL.op (.pointer (some ⟨g840, 13, none⟩)) (by kernel_rfl) (fun w _ => by kernel_rfl) ?_
                            refine LL.op (.pointer (some ⟨g840, 13, none⟩)) (by kernel_rfl) (fun w _ => by kernel_rfl) ?_
                            refine LL.store 0 g840 13 3 (.tmp 94) (.tmp 92) [.string a0_0, .string a0_1, .string a0_2, .int .i64 a0_3, .int .i64 a0_4, .int .i64 a0_5, .int .i64 a0_6, .int .i64 a0_7, .int .i64 a0_8, .int .i64 a0_9, .int .i64 a0_10, .slice Aa0_11 a0_11.length ca0_11, .int .i64 a0_12, .int .i64 (mn 20000 (IntKind.i64.wrap (a0_13 + 300))), .int .i64 (mn 20000 (IntKind.i64.wrap (a0_14 + 500))), .int .i64 a0_15, .bool a0_16, .int .i64 a0_17] (bs' := [(g840, cl [.string a0_0, .string a0_1, .string a0_2, .int .i64 a0_3, .int .i64 a0_4, .int .i64 a0_5, .int .i64 a0_6, .int .i64 a0_7, .int .i64 a0_8, .int .i64 a0_9, .int .i64 a0_10, .slice Aa0_11 a0_11.length ca0_11, .int .i64 a0_12, .int .i64 (mn 20000 (IntKind.i64.wrap (a0_13 + 300))), .int .i64 (mn 20000 (IntKind.i64.wrap (a0_14 + 500))), .int .i64 a0_15, .bool a0_16, .int .i64 a0_17] 30), (g744, cl [.string a0_0, .string a0_1, .string a0_2, .int .i64 a0_3, .int .i64 a0_4, .int .i64 a0_5, .int .i64 a0_6, .int .i64 a0_7, .int .i64 a0_8, .int .i64 a0_9, .int .i64 a0_10, .slice A815 y814.length c816, .int .i64 a0_12, .int .i64 a0_13, .int .i64 a0_14, .int .i64 a0_15, .bool a0_16, .int .i64 a0_17] 30), (g733, cl [.int .i64 a2_0, .int .i64 a2_1, .int .i64 a2_2, .int .i64 a2_3, .int .i64 a2_4, .int .i64 a2_5, .int .i64 a2_6] 41), (g732, cl [.string a1_0, .int .i64 a1_1, .int .i64 a1_2, .int .i64 a1_3, .int .i64 a1_4, .int .i64 a1_5, .int .i64 a1_6, .int .i64 a1_7, .int .i64 a1_8, .int .i64 a1_9, .int .i64 a1_10, .int .i64 a1_11, .int .i64 a1_12] 32), (g731, cl [.string a0_0, .string a0_1, .string a0_2, .int .i64 a0_3, .int .i64 a0_4, .int .i64 a0_5, .int .i64 a0_6, .int .i64 a0_7, .int .i64 a0_8, .int .i64 a0_9, .int .i64 a0_10, .slice Aa0_11 a0_11.length ca0_11, .int .i64 a0_12, .int .i64 a0_13, .int .i64 a0_14, .int .i64 a0_15, .bool a0_16, .int .i64 a0_17] 30)]) rfl (by kernel_rfl) rfl (by kernel_rfl) rfl (by kernel_rfl) ?_
                            refine LL.done (s' := [(4, .pointer (some ⟨g732, 0, none⟩)), (6, .bool false), (7, .int .i64 x738), (8, .int .i64 x739), (10, .pointer (some ⟨g840, 0, none⟩))]) [4, 6, 7, 8, 10] (by kernel_rfl) ?_
                            refine NN.then ?_
                            refine J.seq ?_
                            refine J.plain ?_
                            refine LL.op (.agg #[.string a0_0, .string a0_1, .string a0_2, .int .i64 a0_3, .int .i64 a0_4, .int .i64 a0_5, .int .i64 a0_6, .int .i64 a0_7, .int .i64 a0_8, .int .i64 a0_9, .int .i64 a0_10, .slice Aa0_11 a0_11.length ca0_11, .int .i64 a0_12, .int .i64 (mn 20000 (IntKind.i64.wrap (a0_13 + 300))), .int .i64 (mn 20000 (IntKind.i64.wrap (a0_14 + 500))), .int .i64 a0_15, .bool a0_16, .int .i64 a0_17]) (by kernel_rfl) (ld 0 g840 0 rfl (by kernel_rfl) rfl (by kernel_rfl)) ?_
                            refine LL.op (.agg #[.string a1_0, .int .i64 a1_1, .int .i64 a1_2, .int .i64 a1_3, .int .i64 a1_4, .int .i64 a1_5, .int .i64 a1_6, .int .i64 a1_7, .int .i64 a1_8, .int .i64 a1_9, .int .i64 a1_10, .int .i64 a1_11, .int .i64 a1_12]) (by kernel_rfl) (ld 3 g732 0 rfl (by kernel_rfl) rfl (by kernel_rfl)) ?_
                            obtain ⟨x841, hx841, H⟩ := bind_some H
                            refine LL.call 20 #[.agg #[.string a0_0, .string a0_1, .string a0_2, .int .i64 a0_3, .int .i64 a0_4, .int .i64 a0_5, .int .i64 a0_6, .int .i64 a0_7, .int .i64 a0_8, .int .i64 a0_9, .int .i64 a0_10, .slice Aa0_11 a0_11.length ca0_11, .int .i64 a0_12, .int .i64 (mn 20000 (IntKind.i64.wrap (a0_13 + 300))), .int .i64 (mn 20000 (IntKind.i64.wrap (a0_14 + 500))), .int .i64 a0_15, .bool a0_16, .int .i64 a0_17], .agg #[.string a1_0, .int .i64 a1_1, .int .i64 a1_2, .int .i64 a1_3, .int .i64 a1_4, .int .i64 a1_5, .int .i64 a1_6, .int .i64 a1_7, .int .i64 a1_8, .int .i64 a1_9, .int .i64 a1_10, .int .i64 a1_11, .int .i64 a1_12]] (.int .i64 x841) (by kernel_rfl) (fun w => by kernel_rfl) (fun w hw => strength_Stiffness.calls K a0_0 a0_1 a0_2 a0_3 a0_4 a0_5 a0_6 a0_7 a0_8 a0_9 a0_10 a0_11 a0_12 (mn 20000 (IntKind.i64.wrap (a0_13 + 300))) (mn 20000 (IntKind.i64.wrap (a0_14 + 500))) a0_15 a0_16 a0_17 a1_0 a1_1 a1_2 a1_3 a1_4 a1_5 a1_6 a1_7 a1_8 a1_9 a1_10 a1_11 a1_12  _ _ _ w  (((ha0_11.le le804).le le822).at hw) hx841) ?_
                            refine LL.op (.int .i64 x738) (by kernel_rfl) (fun w _ => by kernel_rfl) ?_
                            refine LL.op (.bool (decide (x841 ≤ x738))) (by kernel_rfl) (fun w _ => by kernel_rfl) ?_
                            refine LL.op (.bool (decide (x841 ≤ x738))) (by kernel_rfl) (fun w _ => by kernel_rfl) ?_
                            rcases Bool.eq_false_or_eq_true (decide (x841 ≤ x738)) with c842 | c842
                            · rw [if_pos (of_decide_eq_true c842)] at H
                              refine LL.bool 100 (decide (x841 ≤ x738)) true c842 (by kernel_rfl) ?_
                              refine LL.op (.agg #[.string a0_0, .string a0_1, .string a0_2, .int .i64 a0_3, .int .i64 a0_4, .int .i64 a0_5, .int .i64 a0_6, .int .i64 a0_7, .int .i64 a0_8, .int .i64 a0_9, .int .i64 a0_10, .slice Aa0_11 a0_11.length ca0_11, .int .i64 a0_12, .int .i64 (mn 20000 (IntKind.i64.wrap (a0_13 + 300))), .int .i64 (mn 20000 (IntKind.i64.wrap (a0_14 + 500))), .int .i64 a0_15, .bool a0_16, .int .i64 a0_17]) (by kernel_rfl) (ld 0 g840 0 rfl (by kernel_rfl) rfl (by kernel_rfl)) ?_
                              obtain ⟨x843, hx843, H⟩ := bind_some H
                              refine LL.call 18 #[.agg #[.string a0_0, .string a0_1, .string a0_2, .int .i64 a0_3, .int .i64 a0_4, .int .i64 a0_5, .int .i64 a0_6, .int .i64 a0_7, .int .i64 a0_8, .int .i64 a0_9, .int .i64 a0_10, .slice Aa0_11 a0_11.length ca0_11, .int .i64 a0_12, .int .i64 (mn 20000 (IntKind.i64.wrap (a0_13 + 300))), .int .i64 (mn 20000 (IntKind.i64.wrap (a0_14 + 500))), .int .i64 a0_15, .bool a0_16, .int .i64 a0_17]] (.int .i64 x843) (by kernel_rfl) (fun w => by kernel_rfl) (fun w hw => strength_Knots.calls K a0_0 a0_1 a0_2 a0_3 a0_4 a0_5 a0_6 a0_7 a0_8 a0_9 a0_10 a0_11 a0_12 (mn 20000 (IntKind.i64.wrap (a0_13 + 300))) (mn 20000 (IntKind.i64.wrap (a0_14 + 500))) a0_15 a0_16 a0_17  _ _ _ w  (((ha0_11.le le804).le le822).at hw) hx843) ?_
                              refine LL.op (.int .i64 x739) (by kernel_rfl) (fun w _ => by kernel_rfl) ?_
                              refine LL.op (.bool (x843 == x739)) (by kernel_rfl) (fun w _ => by kernel_rfl) ?_
                              refine LL.op (.bool (x843 == x739)) (by kernel_rfl) (fun w _ => by kernel_rfl) ?_
                              refine LL.op (.bool (x843 == x739)) (by kernel_rfl) (fun w _ => by kernel_rfl) ?_
                              rcases Bool.eq_false_or_eq_true ((x843 == x739)) with c844 | c844
                              · rw [if_pos (eq_of_beq c844)] at H
                                refine LL.bool 106 ((x843 == x739)) true c844 (by kernel_rfl) ?_
                                obtain ⟨x845, hx845, H⟩ := bind_some H
                                refine LL.call 17 #[] (.bool x845) (by kernel_rfl) (fun w => by kernel_rfl) (fun w hw => sawmilllaw41_awake.calls K    _ w   hx845) ?_
                                refine LL.op (.bool x845) (by kernel_rfl) (fun w _ => by kernel_rfl) ?_
                                refine LL.op (.bool x845) (by kernel_rfl) (fun w _ => by kernel_rfl) ?_
                                refine LL.done (s' := [(6, .bool x845)]) [6] (by kernel_rfl) ?_
                                refine NN.then ?_
                                refine J.ret ?_
                                refine NN.fin1 6 (.bool x845) (by kernel_rfl) (by kernel_rfl) (.inl rfl) (fun w hi => hi.ret ?_)
                                first | (cases H; rfl) | (obtain rfl := Option.some.inj H; rfl) | (simp only [Option.some.injEq, Prod.mk.injEq] at H; obtain ⟨rfl⟩ := H; rfl)
                              · rw [if_neg (nebf c844)] at H
                                refine LL.bool 106 ((x843 == x739)) false c844 (by kernel_rfl) ?_
                                refine LL.off (by kernel_rfl) (by kernel_rfl) ?_
                                refine LL.op (.bool false) (by kernel_rfl) (fun w _ => by kernel_rfl) ?_
                                refine LL.op (.bool false) (by kernel_rfl) (fun w _ => by kernel_rfl) ?_
                                refine LL.done (s' := [(6, .bool false)]) [6] (by kernel_rfl) ?_
                                refine NN.then ?_
                                refine J.ret ?_
                                refine NN.fin1 6 (.bool false) (by kernel_rfl) (by kernel_rfl) (.inl rfl) (fun w hi => hi.ret ?_)
                                first | (cases H; rfl) | (obtain rfl := Option.some.inj H; rfl) | (simp only [Option.some.injEq, Prod.mk.injEq] at H; obtain ⟨rfl⟩ := H; rfl)
                            · rw [if_neg (of_decide_eq_false c842)] at H
                              refine LL.bool 100 (decide (x841 ≤ x738)) false c842 (by kernel_rfl) ?_
                              refine LL.off (by kernel_rfl) (by kernel_rfl) ?_
                              refine LL.off (by kernel_rfl) (by kernel_rfl) ?_
                              refine LL.off (by kernel_rfl) (by kernel_rfl) ?_
                              refine LL.off (by kernel_rfl) (by kernel_rfl) ?_
                              refine LL.op (.bool false) (by kernel_rfl) (fun w _ => by kernel_rfl) ?_
                              refine LL.op (.bool false) (by kernel_rfl) (fun w _ => by kernel_rfl) ?_
                              refine LL.off (by kernel_rfl) (by kernel_rfl) ?_
                              refine LL.op (.bool false) (by kernel_rfl) (fun w _ => by kernel_rfl) ?_
                              refine LL.op (.bool false) (by kernel_rfl) (fun w _ => by kernel_rfl) ?_
                              refine LL.done (s' := [(6, .bool false)]) [6] (by kernel_rfl) ?_
                              refine NN.then ?_
                              refine J.ret ?_
                              refine NN.fin1 6 (.bool false) (by kernel_rfl) (by kernel_rfl) (.inl rfl) (fun w hi => hi.ret ?_)
                              first | (cases H; rfl) | (obtain rfl := Option.some.inj H; rfl) | (simp only [Option.some.injEq, Prod.mk.injEq] at H; obtain ⟨rfl⟩ := H; rfl)
                          · rw [if_neg (nebf c839)] at H
                            refine J.condT (b := !(x829 == x739)) (by rw [show (!(x829 == x739)) = !((x829 == x739)) from rfl, c839]; rfl) (by kernel_rfl) (by kernel_rfl) ?_
                            refine J.seq ?_
                            refine J.plain ?_
                            refine LL.op (.bool false) (by kernel_rfl) (fun w _ => by kernel_rfl) ?_
                            refine LL.done (s' := [(3, .pointer (some ⟨g731, 0, none⟩)), (4, .pointer (some ⟨g732, 0, none⟩)), (6, .bool false), (7, .int .i64 x738), (8, .int .i64 x739)]) [3, 4, 6, 7, 8] (by kernel_rfl) ?_
                            refine NN.then ?_
                            refine J.ret ?_
                            refine NN.then_ret ?_
                            refine NN.fin1 6 (.bool false) (by kernel_rfl) (by kernel_rfl) (.inl rfl) (fun w hi => hi.ret ?_)
                            first | (cases H; rfl) | (obtain rfl := Option.some.inj H; rfl) | (simp only [Option.some.injEq, Prod.mk.injEq] at H; obtain ⟨rfl⟩ := H; rfl)
                  · rw [if_neg (nebf c826)] at H
                    refine LL.bool 56 ((x825 == 0)) false c826 (by kernel_rfl) ?_
                    refine LL.off (by kernel_rfl) (by kernel_rfl) ?_
                    refine LL.off (by kernel_rfl) (by kernel_rfl) ?_
                    refine LL.off (by kernel_rfl) (by kernel_rfl) ?_
                    refine LL.off (by kernel_rfl) (by kernel_rfl) ?_
                    refine LL.off (by kernel_rfl) (by kernel_rfl) ?_
                    refine LL.off (by kernel_rfl) (by kernel_rfl) ?_
                    refine LL.off (by kernel_rfl) (by kernel_rfl) ?_
                    refine LL.off (by kernel_rfl) (by kernel_rfl) ?_
                    refine LL.off (by kernel_rfl) (by kernel_rfl) ?_
                    refine LL.off (by kernel_rfl) (by kernel_rfl) ?_
                    refine LL.off (by kernel_rfl) (by kernel_rfl) ?_
                    refine LL.off (by kernel_rfl) (by kernel_rfl) ?_
                    refine LL.off (by kernel_rfl) (by kernel_rfl) ?_
                    refine LL.off (by kernel_rfl) (by kernel_rfl) ?_
                    refine LL.off (by kernel_rfl) (by kernel_rfl) ?_
                    refine LL.off (by kernel_rfl) (by kernel_rfl) ?_
                    refine LL.off (by kernel_rfl) (by kernel_rfl) ?_
                    refine LL.off (by kernel_rfl) (by kernel_rfl) ?_
                    refine LL.off (by kernel_rfl) (by kernel_rfl) ?_
                    refine LL.off (by kernel_rfl) (by kernel_rfl) ?_
                    refine LL.off (by kernel_rfl) (by kernel_rfl) ?_
                    refine LL.off (by kernel_rfl) (by kernel_rfl) ?_
                    refine LL.op (.bool false) (by kernel_rfl) (fun w _ => by kernel_rfl) ?_
                    refine LL.done (s' := [(3, .pointer (some ⟨g731, 0, none⟩)), (4, .pointer (some ⟨g732, 0, none⟩)), (6, .bool false), (7, .int .i64 x738), (8, .int .i64 x739), (79, .bool false)]) [3, 4, 6, 7, 8, 79] (by kernel_rfl) ?_
                    refine NN.then ?_
                    refine J.condF (b := false) rfl (by kernel_rfl) (by kernel_rfl) ?_
                    refine J.skip ?_
                    refine NN.then ?_
                    refine J.seq ?_
                    refine J.plain ?_
                    refine LL.op (.agg #[.string a0_0, .string a0_1, .string a0_2, .int .i64 a0_3, .int .i64 a0_4, .int .i64 a0_5, .int .i64 a0_6, .int .i64 a0_7, .int .i64 a0_8, .int .i64 a0_9, .int .i64 a0_10, .slice Aa0_11 a0_11.length ca0_11, .int .i64 a0_12, .int .i64 a0_13, .int .i64 a0_14, .int .i64 a0_15, .bool a0_16, .int .i64 a0_17]) (by kernel_rfl) (ld 3 g731 0 rfl (by kernel_rfl) rfl (by kernel_rfl)) ?_
                    refine LL.alloc 30 [.string (⟨#[]⟩ : ByteArray), .string (⟨#[]⟩ : ByteArray), .string (⟨#[]⟩ : ByteArray), .int .i64 0, .int .i64 0, .int .i64 0, .int .i64 0, .int .i64 0, .int .i64 0, .int .i64 0, .int .i64 0, .slice none 0 0, .int .i64 0, .int .i64 0, .int .i64 0, .int .i64 0, .bool false, .int .i64 0] (by kernel_rfl) rfl (by kernel_rfl) (fun g846 => ?_)
                    refine LL.store 0 g846 0 30 (.tmp 10) (.tmp 80) [.string a0_0, .string a0_1, .string a0_2, .int .i64 a0_3, .int .i64 a0_4, .int .i64 a0_5, .int .i64 a0_6, .int .i64 a0_7, .int .i64 a0_8, .int .i64 a0_9, .int .i64 a0_10, .slice Aa0_11 a0_11.length ca0_11, .int .i64 a0_12, .int .i64 a0_13, .int .i64 a0_14, .int .i64 a0_15, .bool a0_16, .int .i64 a0_17] (bs' := [(g846, cl [.string a0_0, .string a0_1, .string a0_2, .int .i64 a0_3, .int .i64 a0_4, .int .i64 a0_5, .int .i64 a0_6, .int .i64 a0_7, .int .i64 a0_8, .int .i64 a0_9, .int .i64 a0_10, .slice Aa0_11 a0_11.length ca0_11, .int .i64 a0_12, .int .i64 a0_13, .int .i64 a0_14, .int .i64 a0_15, .bool a0_16, .int .i64 a0_17] 30), (g744, cl [.string a0_0, .string a0_1, .string a0_2, .int .i64 a0_3, .int .i64 a0_4, .int .i64 a0_5, .int .i64 a0_6, .int .i64 a0_7, .int .i64 a0_8, .int .i64 a0_9, .int .i64 a0_10, .slice A815 y814.length c816, .int .i64 a0_12, .int .i64 a0_13, .int .i64 a0_14, .int .i64 a0_15, .bool a0_16, .int .i64 a0_17] 30), (g733, cl [.int .i64 a2_0, .int .i64 a2_1, .int .i64 a2_2, .int .i64 a2_3, .int .i64 a2_4, .int .i64 a2_5, .int .i64 a2_6] 41), (g732, cl [.string a1_0, .int .i64 a1_1, .int .i64 a1_2, .int .i64 a1_3, .int .i64 a1_4, .int .i64 a1_5, .int .i64 a1_6, .int .i64 a1_7, .int .i64 a1_8, .int .i64 a1_9, .int .i64 a1_10, .int .i64 a1_11, .int .i64 a1_12] 32), (g731, cl [.string a0_0, .string a0_1, .string a0_2, .int .i64 a0_3, .int .i64 a0_4, .int .i64 a0_5, .int .i64 a0_6, .int .i64 a0_7, .int .i64 a0_8, .int .i64 a0_9, .int .i64 a0_10, .slice Aa0_11 a0_11.length ca0_11, .int .i64 a0_12, .int .i64 a0_13, .int .i64 a0_14, .int .i64 a0_15, .bool a0_16, .int .i64 a0_17] 30)]) rfl (by kernel_rfl) rfl (by kernel_rfl) rfl (by kernel_rfl) ?_
                    refine LL.done (s' := [(4, .pointer (some ⟨g732, 0, none⟩)), (6, .bool false), (7, .int .i64 x738), (8, .int .i64 x739), (10, .pointer (some ⟨g846, 0, none⟩))]) [4, 6, 7, 8, 10] (by kernel_rfl) ?_
                    refine NN.then ?_
                    refine J.seq ?_
                    refine J.plain ?_
                    refine LL.op (.pointer (some ⟨g846, 13, none⟩)) (by kernel_rfl) (fun w _ => by kernel_rfl) ?_
                    refine LL.op (.pointer (some ⟨g846, 14, none⟩)) (by kernel_rfl) (fun w _ => by kernel_rfl) ?_
                    refine LL.op (.int .i64 a0_14) (by kernel_rfl) (ld 0 g846 14 rfl (by kernel_rfl) rfl (by kernel_rfl)) ?_
                    refine LL.op (.int .i64 (IntKind.i64.wrap (a0_14 + 500))) (by kernel_rfl) (fun w _ => by kernel_rfl) ?_
                    refine LL.op (.int .i64 (mn 20000 (IntKind.i64.wrap (a0_14 + 500)))) (by kernel_rfl) (fun w _ => by kernel_rfl) ?_
                    refine LL.op (.pointer (some ⟨g846, 13, none⟩)) (by kernel_rfl) (fun w _ => by kernel_rfl) ?_
                    refine LL.op (.pointer (some ⟨g846, 14, none⟩)) (by kernel_rfl) (fun w _ => by kernel_rfl) ?_
                    refine LL.store 0 g846 14 3 (.tmp 87) (.tmp 85) [.string a0_0, .string a0_1, .string a0_2, .int .i64 a0_3, .int .i64 a0_4, .int .i64 a0_5, .int .i64 a0_6, .int .i64 a0_7, .int .i64 a0_8, .int .i64 a0_9, .int .i64 a0_10, .slice Aa0_11 a0_11.length ca0_11, .int .i64 a0_12, .int .i64 a0_13, .int .i64 (mn 20000 (IntKind.i64.wrap (a0_14 + 500))), .int .i64 a0_15, .bool a0_16, .int .i64 a0_17] (bs' := [(g846, cl [.string a0_0, .string a0_1, .string a0_2, .int .i64 a0_3, .int .i64 a0_4, .int .i64 a0_5, .int .i64 a0_6, .int .i64 a0_7, .int .i64 a0_8, .int .i64 a0_9, .int .i64 a0_10, .slice Aa0_11 a0_11.length ca0_11, .int .i64 a0_12, .int .i64 a0_13, .int .i64 (mn 20000 (IntKind.i64.wrap (a0_14 + 500))), .int .i64 a0_15, .bool a0_16, .int .i64 a0_17] 30), (g744, cl [.string a0_0, .string a0_1, .string a0_2, .int .i64 a0_3, .int .i64 a0_4, .int .i64 a0_5, .int .i64 a0_6, .int .i64 a0_7, .int .i64 a0_8, .int .i64 a0_9, .int .i64 a0_10, .slice A815 y814.length c816, .int .i64 a0_12, .int .i64 a0_13, .int .i64 a0_14, .int .i64 a0_15, .bool a0_16, .int .i64 a0_17] 30), (g733, cl [.int .i64 a2_0, .int .i64 a2_1, .int .i64 a2_2, .int .i64 a2_3, .int .i64 a2_4, .int .i64 a2_5, .int .i64 a2_6] 41), (g732, cl [.string a1_0, .int .i64 a1_1, .int .i64 a1_2, .int .i64 a1_3, .int .i64 a1_4, .int .i64 a1_5, .int .i64 a1_6, .int .i64 a1_7, .int .i64 a1_8, .int .i64 a1_9, .int .i64 a1_10, .int .i64 a1_11, .int .i64 a1_12] 32), (g731, cl [.string a0_0, .string a0_1, .string a0_2, .int .i64 a0_3, .int .i64 a0_4, .int .i64 a0_5, .int .i64 a0_6, .int .i64 a0_7, .int .i64 a0_8, .int .i64 a0_9, .int .i64 a0_10, .slice Aa0_11 a0_11.length ca0_11, .int .i64 a0_12, .int .i64 a0_13, .int .i64 a0_14, .int .i64 a0_15, .bool a0_16, .int .i64 a0_17] 30)]) rfl (by kernel_rfl) rfl (by kernel_rfl) rfl (by kernel_rfl) ?_
                    refine LL.done (s' := [(4, .pointer (some ⟨g732, 0, none⟩)), (6, .bool false), (7, .int .i64 x738), (8, .int .i64 x739), (10, .pointer (some ⟨g846, 0, none⟩))]) [4, 6, 7, 8, 10] (by kernel_rfl) ?_
                    refine NN.then ?_
                    refine J.seq ?_
                    refine J.plain ?_
                    refine LL.op (.pointer (some ⟨g846, 13, none⟩)) (by kernel_rfl) (fun w _ => by kernel_rfl) ?_
                    refine LL.op (.pointer (some ⟨g846, 13, none⟩)) (by kernel_rfl) (fun w _ => by kernel_rfl) ?_
                    refine LL.op (.int .i64 a0_13) (by kernel_rfl) (ld 0 g846 13 rfl (by kernel_rfl) rfl (by kernel_rfl)) ?_
                    refine LL.op (.int .i64 (IntKind.i64.wrap (a0_13 + 300))) (by kernel_rfl) (fun w _ => by kernel_rfl) ?_
                    refine LL.op (.int .i64 (mn 20000 (IntKind.i64.wrap (a0_13 + 300)))) (by kernel_rfl) (fun w _ => by kernel_rfl) ?_
                    refine LL.op (.pointer (some ⟨g846, 13, none⟩)) (by kernel_rfl) (fun w _ => by kernel_rfl) ?_
                    refine LL.op (.pointer (some ⟨g846, 13, none⟩)) (by kernel_rfl) (fun w _ => by kernel_rfl) ?_
                    refine LL.store 0 g846 13 3 (.tmp 94) (.tmp 92) [.string a0_0, .string a0_1, .string a0_2, .int .i64 a0_3, .int .i64 a0_4, .int .i64 a0_5, .int .i64 a0_6, .int .i64 a0_7, .int .i64 a0_8, .int .i64 a0_9, .int .i64 a0_10, .slice Aa0_11 a0_11.length ca0_11, .int .i64 a0_12, .int .i64 (mn 20000 (IntKind.i64.wrap (a0_13 + 300))), .int .i64 (mn 20000 (IntKind.i64.wrap (a0_14 + 500))), .int .i64 a0_15, .bool a0_16, .int .i64 a0_17] (bs' := [(g846, cl [.string a0_0, .string a0_1, .string a0_2, .int .i64 a0_3, .int .i64 a0_4, .int .i64 a0_5, .int .i64 a0_6, .int .i64 a0_7, .int .i64 a0_8, .int .i64 a0_9, .int .i64 a0_10, .slice Aa0_11 a0_11.length ca0_11, .int .i64 a0_12, .int .i64 (mn 20000 (IntKind.i64.wrap (a0_13 + 300))), .int .i64 (mn 20000 (IntKind.i64.wrap (a0_14 + 500))), .int .i64 a0_15, .bool a0_16, .int .i64 a0_17] 30), (g744, cl [.string a0_0, .string a0_1, .string a0_2, .int .i64 a0_3, .int .i64 a0_4, .int .i64 a0_5, .int .i64 a0_6, .int .i64 a0_7, .int .i64 a0_8, .int .i64 a0_9, .int .i64 a0_10, .slice A815 y814.length c816, .int .i64 a0_12, .int .i64 a0_13, .int .i64 a0_14, .int .i64 a0_15, .bool a0_16, .int .i64 a0_17] 30), (g733, cl [.int .i64 a2_0, .int .i64 a2_1, .int .i64 a2_2, .int .i64 a2_3, .int .i64 a2_4, .int .i64 a2_5, .int .i64 a2_6] 41), (g732, cl [.string a1_0, .int .i64 a1_1, .int .i64 a1_2, .int .i64 a1_3, .int .i64 a1_4, .int .i64 a1_5, .int .i64 a1_6, .int .i64 a1_7, .int .i64 a1_8, .int .i64 a1_9, .int .i64 a1_10, .int .i64 a1_11, .int .i64 a1_12] 32), (g731, cl [.string a0_0, .string a0_1, .string a0_2, .int .i64 a0_3, .int .i64 a0_4, .int .i64 a0_5, .int .i64 a0_6, .int .i64 a0_7, .int .i64 a0_8, .int .i64 a0_9, .int .i64 a0_10, .slice Aa0_11 a0_11.length ca0_11, .int .i64 a0_12, .int .i64 a0_13, .int .i64 a0_14, .int .i64 a0_15, .bool a0_16, .int .i64 a0_17] 30)]) rfl (by kernel_rfl) rfl (by kernel_rfl) rfl (by kernel_rfl) ?_
                    refine LL.done (s' := [(4, .pointer (some ⟨g732, 0, none⟩)), (6, .bool false), (7, .int .i64 x738), (8, .int .i64 x739), (10, .pointer (some ⟨g846, 0, none⟩))]) [4, 6, 7, 8, 10] (by kernel_rfl) ?_
                    refine NN.then ?_
                    refine J.seq ?_
                    refine J.plain ?_
                    refine LL.op (.agg #[.string a0_0, .string a0_1, .string a0_2, .int .i64 a0_3, .int .i64 a0_4, .int .i64 a0_5, .int .i64 a0_6, .int .i64 a0_7, .int .i64 a0_8, .int .i64 a0_9, .int .i64 a0_10, .slice Aa0_11 a0_11.length ca0_11, .int .i64 a0_12, .int .i64 (mn 20000 (IntKind.i64.wrap (a0_13 + 300))), .int .i64 (mn 20000 (IntKind.i64.wrap (a0_14 + 500))), .int .i64 a0_15, .bool a0_16, .int .i64 a0_17]) (by kernel_rfl) (ld 0 g846 0 rfl (by kernel_rfl) rfl (by kernel_rfl)) ?_
                    refine LL.op (.agg #[.string a1_0, .int .i64 a1_1, .int .i64 a1_2, .int .i64 a1_3, .int .i64 a1_4, .int .i64 a1_5, .int .i64 a1_6, .int .i64 a1_7, .int .i64 a1_8, .int .i64 a1_9, .int .i64 a1_10, .int .i64 a1_11, .int .i64 a1_12]) (by kernel_rfl) (ld 3 g732 0 rfl (by kernel_rfl) rfl (by kernel_rfl)) ?_
                    obtain ⟨x847, hx847, H⟩ := bind_some H
                    refine LL.call 20 #[.agg #[.string a0_0, .string a0_1, .string a0_2, .int .i64 a0_3, .int .i64 a0_4, .int .i64 a0_5, .int .i64 a0_6, .int .i64 a0_7, .int .i64 a0_8, .int .i64 a0_9, .int .i64 a0_10, .slice Aa0_11 a0_11.length ca0_11, .int .i64 a0_12, .int .i64 (mn 20000 (IntKind.i64.wrap (a0_13 + 300))), .int .i64 (mn 20000 (IntKind.i64.wrap (a0_14 + 500))), .int .i64 a0_15, .bool a0_16, .int .i64 a0_17], .agg #[.string a1_0, .int .i64 a1_1, .int .i64 a1_2, .int .i64 a1_3, .int .i64 a1_4, .int .i64 a1_5, .int .i64 a1_6, .int .i64 a1_7, .int .i64 a1_8, .int .i64 a1_9, .int .i64 a1_10, .int .i64 a1_11, .int .i64 a1_12]] (.int .i64 x847) (by kernel_rfl) (fun w => by kernel_rfl) (fun w hw => strength_Stiffness.calls K a0_0 a0_1 a0_2 a0_3 a0_4 a0_5 a0_6 a0_7 a0_8 a0_9 a0_10 a0_11 a0_12 (mn 20000 (IntKind.i64.wrap (a0_13 + 300))) (mn 20000 (IntKind.i64.wrap (a0_14 + 500))) a0_15 a0_16 a0_17 a1_0 a1_1 a1_2 a1_3 a1_4 a1_5 a1_6 a1_7 a1_8 a1_9 a1_10 a1_11 a1_12  _ _ _ w  (((ha0_11.le le804).le le822).at hw) hx847) ?_
                    refine LL.op (.int .i64 x738) (by kernel_rfl) (fun w _ => by kernel_rfl) ?_
                    refine LL.op (.bool (decide (x847 ≤ x738))) (by kernel_rfl) (fun w _ => by kernel_rfl) ?_
                    refine LL.op (.bool (decide (x847 ≤ x738))) (by kernel_rfl) (fun w _ => by kernel_rfl) ?_
                    rcases Bool.eq_false_or_eq_true (decide (x847 ≤ x738)) with c848 | c848
                    · rw [if_pos (of_decide_eq_true c848)] at H
                      refine LL.bool 100 (decide (x847 ≤ x738)) true c848 (by kernel_rfl) ?_
                      refine LL.op (.agg #[.string a0_0, .string a0_1, .string a0_2, .int .i64 a0_3, .int .i64 a0_4, .int .i64 a0_5, .int .i64 a0_6, .int .i64 a0_7, .int .i64 a0_8, .int .i64 a0_9, .int .i64 a0_10, .slice Aa0_11 a0_11.length ca0_11, .int .i64 a0_12, .int .i64 (mn 20000 (IntKind.i64.wrap (a0_13 + 300))), .int .i64 (mn 20000 (IntKind.i64.wrap (a0_14 + 500))), .int .i64 a0_15, .bool a0_16, .int .i64 a0_17]) (by kernel_rfl) (ld 0 g846 0 rfl (by kernel_rfl) rfl (by kernel_rfl)) ?_
                      obtain ⟨x849, hx849, H⟩ := bind_some H
                      refine LL.call 18 #[.agg #[.string a0_0, .string a0_1, .string a0_2, .int .i64 a0_3, .int .i64 a0_4, .int .i64 a0_5, .int .i64 a0_6, .int .i64 a0_7, .int .i64 a0_8, .int .i64 a0_9, .int .i64 a0_10, .slice Aa0_11 a0_11.length ca0_11, .int .i64 a0_12, .int .i64 (mn 20000 (IntKind.i64.wrap (a0_13 + 300))), .int .i64 (mn 20000 (IntKind.i64.wrap (a0_14 + 500))), .int .i64 a0_15, .bool a0_16, .int .i64 a0_17]] (.int .i64 x849) (by kernel_rfl) (fun w => by kernel_rfl) (fun w hw => strength_Knots.calls K a0_0 a0_1 a0_2 a0_3 a0_4 a0_5 a0_6 a0_7 a0_8 a0_9 a0_10 a0_11 a0_12 (mn 20000 (IntKind.i64.wrap (a0_13 + 300))) (mn 20000 (IntKind.i64.wrap (a0_14 + 500))) a0_15 a0_16 a0_17  _ _ _ w  (((ha0_11.le le804).le le822).at hw) hx849) ?_
                      refine LL.op (.int .i64 x739) (by kernel_rfl) (fun w _ => by kernel_rfl) ?_
                      refine LL.op (.bool (x849 == x739)) (by kernel_rfl) (fun w _ => by kernel_rfl) ?_
                      refine LL.op (.bool (x849 == x739)) (by kernel_rfl) (fun w _ => by kernel_rfl) ?_
                      refine LL.op (.bool (x849 == x739)) (by kernel_rfl) (fun w _ => by kernel_rfl) ?_
                      rcases Bool.eq_false_or_eq_true ((x849 == x739)) with c850 | c850
                      · rw [if_pos (eq_of_beq c850)] at H
                        refine LL.bool 106 ((x849 == x739)) true c850 (by kernel_rfl) ?_
                        obtain ⟨x851, hx851, H⟩ := bind_some H
                        refine LL.call 17 #[] (.bool x851) (by kernel_rfl) (fun w => by kernel_rfl) (fun w hw => sawmilllaw41_awake.calls K    _ w   hx851) ?_
                        refine LL.op (.bool x851) (by kernel_rfl) (fun w _ => by kernel_rfl) ?_
                        refine LL.op (.bool x851) (by kernel_rfl) (fun w _ => by kernel_rfl) ?_
                        refine LL.done (s' := [(6, .bool x851)]) [6] (by kernel_rfl) ?_
                        refine NN.then ?_
                        refine J.ret ?_
                        refine NN.fin1 6 (.bool x851) (by kernel_rfl) (by kernel_rfl) (.inl rfl) (fun w hi => hi.ret ?_)
                        first | (cases H; rfl) | (obtain rfl := Option.some.inj H; rfl) | (simp only [Option.some.injEq, Prod.mk.injEq] at H; obtain ⟨rfl⟩ := H; rfl)
                      · rw [if_neg (nebf c850)] at H
                        refine LL.bool 106 ((x849 == x739)) false c850 (by kernel_rfl) ?_
                        refine LL.off (by kernel_rfl) (by kernel_rfl) ?_
                        refine LL.op (.bool false) (by kernel_rfl) (fun w _ => by kernel_rfl) ?_
                        refine LL.op (.bool false) (by kernel_rfl) (fun w _ => by kernel_rfl) ?_
                        refine LL.done (s' := [(6, .bool false)]) [6] (by kernel_rfl) ?_
                        refine NN.then ?_
                        refine J.ret ?_
                        refine NN.fin1 6 (.bool false) (by kernel_rfl) (by kernel_rfl) (.inl rfl) (fun w hi => hi.ret ?_)
                        first | (cases H; rfl) | (obtain rfl := Option.some.inj H; rfl) | (simp only [Option.some.injEq, Prod.mk.injEq] at H; obtain ⟨rfl⟩ := H; rfl)
                    · rw [if_neg (of_decide_eq_false c848)] at H
                      refine LL.bool 100 (decide (x847 ≤ x738)) false c848 (by kernel_rfl) ?_
                      refine LL.off (by kernel_rfl) (by kernel_rfl) ?_
                      refine LL.off (by kernel_rfl) (by kernel_rfl) ?_
                      refine LL.off (by kernel_rfl) (by kernel_rfl) ?_
                      refine LL.off (by kernel_rfl) (by kernel_rfl) ?_
                      refine LL.op (.bool false) (by kernel_rfl) (fun w _ => by kernel_rfl) ?_
                      refine LL.op (.bool false) (by kernel_rfl) (fun w _ => by kernel_rfl) ?_
                      refine LL.off (by kernel_rfl) (by kernel_rfl) ?_
                      refine LL.op (.bool false) (by kernel_rfl) (fun w _ => by kernel_rfl) ?_
                      refine LL.op (.bool false) (by kernel_rfl) (fun w _ => by kernel_rfl) ?_
                      refine LL.done (s' := [(6, .bool false)]) [6] (by kernel_rfl) ?_
                      refine NN.then ?_
                      refine J.ret ?_
                      refine NN.fin1 6 (.bool false) (by kernel_rfl) (by kernel_rfl) (.inl rfl) (fun w hi => hi.ret ?_)
                      first | (cases H; rfl) | (obtain rfl := Option.some.inj H; rfl) | (simp only [Option.some.injEq, Prod.mk.injEq] at H; obtain ⟨rfl⟩ := H; rfl)
              · skip
                refine HS.lit 26 1 #[(0, .tmp 48)] [.int .i64 a2_0, .int .i64 a2_1, .int .i64 a2_2, .int .i64 a2_3, .int .i64 a2_4, .int .i64 a2_5, .int .i64 a2_6] 41 ([(a2_0, a2_1, a2_2, a2_3, a2_4, a2_5, a2_6)] : List E41) rfl (by kernel_rfl) rfl (by kernel_rfl) ok41.len rfl rfl (fun _ h => h.sub (List.Sublist.cons _ (List.Sublist.refl _))) (fun R852 F853 A854 c855 le856 k857 fr858 => ?_)
                refine HH.all1 0 (by kernel_rfl) ?_
                refine HS.lit0 26 41 7 enc41 rfl (by kernel_rfl) rfl (by kernel_rfl) (fun _ h => (h.sub (List.Sublist.cons _ (List.Sublist.refl _))).back le856) (fun A860 o861 => ?_)
                refine HH.all1 3 (by kernel_rfl) ?_
                obtain ⟨y863, hy863, H⟩ := bind_some H
                refine HS.app (l2 := a0_11) (cap := 0) (c2 := ca0_11) [(g744, cl [.string a0_0, .string a0_1, .string a0_2, .int .i64 a0_3, .int .i64 a0_4, .int .i64 a0_5, .int .i64 a0_6, .int .i64 a0_7, .int .i64 a0_8, .int .i64 a0_9, .int .i64 a0_10, .slice Aa0_11 a0_11.length ca0_11, .int .i64 a0_12, .int .i64 a0_13, .int .i64 a0_14, .int .i64 a0_15, .bool a0_16, .int .i64 a0_17] 30), (g733, cl [.int .i64 a2_0, .int .i64 a2_1, .int .i64 a2_2, .int .i64 a2_3, .int .i64 a2_4, .int .i64 a2_5, .int .i64 a2_6] 41), (g732, cl [.string a1_0, .int .i64 a1_1, .int .i64 a1_2, .int .i64 a1_3, .int .i64 a1_4, .int .i64 a1_5, .int .i64 a1_6, .int .i64 a1_7, .int .i64 a1_8, .int .i64 a1_9, .int .i64 a1_10, .int .i64 a1_11, .int .i64 a1_12] 32), (g731, cl [.string a0_0, .string a0_1, .string a0_2, .int .i64 a0_3, .int .i64 a0_4, .int .i64 a0_5, .int .i64 a0_6, .int .i64 a0_7, .int .i64 a0_8, .int .i64 a0_9, .int .i64 a0_10, .slice Aa0_11 a0_11.length ca0_11, .int .i64 a0_12, .int .i64 a0_13, .int .i64 a0_14, .int .i64 a0_15, .bool a0_16, .int .i64 a0_17] 30)] (.tmp 44) (.tmp 46) el26 ok41 o861 (ha0_11.le le856) hy863 rfl (by kernel_rfl) rfl (by kernel_rfl) (by kernel_rfl) (fun _ h => (h.sub (List.Sublist.cons _ (List.Sublist.refl _))).back le856) (fun A864 c865 ba866 o867 => ?_)
                refine HH.all1 6 (by kernel_rfl) ?_
                obtain ⟨y869, hy869, H⟩ := bind_some H
                refine HS.app (l2 := ([(a2_0, a2_1, a2_2, a2_3, a2_4, a2_5, a2_6)] : List E41)) (cap := c865) (c2 := c855) [(g744, cl [.string a0_0, .string a0_1, .string a0_2, .int .i64 a0_3, .int .i64 a0_4, .int .i64 a0_5, .int .i64 a0_6, .int .i64 a0_7, .int .i64 a0_8, .int .i64 a0_9, .int .i64 a0_10, .slice Aa0_11 a0_11.length ca0_11, .int .i64 a0_12, .int .i64 a0_13, .int .i64 a0_14, .int .i64 a0_15, .bool a0_16, .int .i64 a0_17] 30), (g733, cl [.int .i64 a2_0, .int .i64 a2_1, .int .i64 a2_2, .int .i64 a2_3, .int .i64 a2_4, .int .i64 a2_5, .int .i64 a2_6] 41), (g732, cl [.string a1_0, .int .i64 a1_1, .int .i64 a1_2, .int .i64 a1_3, .int .i64 a1_4, .int .i64 a1_5, .int .i64 a1_6, .int .i64 a1_7, .int .i64 a1_8, .int .i64 a1_9, .int .i64 a1_10, .int .i64 a1_11, .int .i64 a1_12] 32), (g731, cl [.string a0_0, .string a0_1, .string a0_2, .int .i64 a0_3, .int .i64 a0_4, .int .i64 a0_5, .int .i64 a0_6, .int .i64 a0_7, .int .i64 a0_8, .int .i64 a0_9, .int .i64 a0_10, .slice Aa0_11 a0_11.length ca0_11, .int .i64 a0_12, .int .i64 a0_13, .int .i64 a0_14, .int .i64 a0_15, .bool a0_16, .int .i64 a0_17] 30)] (.tmp 47) (.tmp 49) el26 ok41 o867 k857 hy869 rfl (by kernel_rfl) rfl (by kernel_rfl) (by kernel_rfl) (fun _ h => (h.sub (List.Sublist.cons _ (List.Sublist.refl _))).back le856) (fun A870 c871 ba872 o873 => ?_)
                refine HH.take 7 (.pointer (some ⟨g744, 11, none⟩)) rfl (by kernel_rfl) (by kernel_rfl) (fun _ h => (h.sub ((List.Sublist.cons _ (List.Sublist.refl _)).trans (List.sublist_append_left _ _))).back le856) (fun w _ => by kernel_rfl) ?_
                refine HH.all1 8 (by kernel_rfl) ?_
                refine HS.store 0 g744 11 26 (.tmp 51) (.tmp 50) [.string a0_0, .string a0_1, .string a0_2, .int .i64 a0_3, .int .i64 a0_4, .int .i64 a0_5, .int .i64 a0_6, .int .i64 a0_7, .int .i64 a0_8, .int .i64 a0_9, .int .i64 a0_10, .slice A870 y869.length c871, .int .i64 a0_12, .int .i64 a0_13, .int .i64 a0_14, .int .i64 a0_15, .bool a0_16, .int .i64 a0_17] (bs' := [(g744, cl [.string a0_0, .string a0_1, .string a0_2, .int .i64 a0_3, .int .i64 a0_4, .int .i64 a0_5, .int .i64 a0_6, .int .i64 a0_7, .int .i64 a0_8, .int .i64 a0_9, .int .i64 a0_10, .slice A870 y869.length c871, .int .i64 a0_12, .int .i64 a0_13, .int .i64 a0_14, .int .i64 a0_15, .bool a0_16, .int .i64 a0_17] 30), (g733, cl [.int .i64 a2_0, .int .i64 a2_1, .int .i64 a2_2, .int .i64 a2_3, .int .i64 a2_4, .int .i64 a2_5, .int .i64 a2_6] 41), (g732, cl [.string a1_0, .int .i64 a1_1, .int .i64 a1_2, .int .i64 a1_3, .int .i64 a1_4, .int .i64 a1_5, .int .i64 a1_6, .int .i64 a1_7, .int .i64 a1_8, .int .i64 a1_9, .int .i64 a1_10, .int .i64 a1_11, .int .i64 a1_12] 32), (g731, cl [.string a0_0, .string a0_1, .string a0_2, .int .i64 a0_3, .int .i64 a0_4, .int .i64 a0_5, .int .i64 a0_6, .int .i64 a0_7, .int .i64 a0_8, .int .i64 a0_9, .int .i64 a0_10, .slice Aa0_11 a0_11.length ca0_11, .int .i64 a0_12, .int .i64 a0_13, .int .i64 a0_14, .int .i64 a0_15, .bool a0_16, .int .i64 a0_17] 30)] ++ ba872) rfl rfl (by kernel_rfl) rfl (by kernel_rfl) rfl (by kernel_rfl) (fun _ h => (h.sub ((List.Sublist.cons _ (List.Sublist.refl _)).trans (List.sublist_append_left _ _))).back le856) ?_
                refine HH.done (s' := [(3, .pointer (some ⟨g731, 0, none⟩)), (4, .pointer (some ⟨g732, 0, none⟩)), (5, .pointer (some ⟨g733, 0, none⟩)), (6, .bool false), (7, .int .i64 x738), (8, .int .i64 x739), (9, .pointer (some ⟨g744, 0, none⟩))]) [3, 4, 5, 6, 7, 8, 9] (by kernel_rfl) (by kernel_rfl) ?_
                refine NN.then ?_
                refine J.seq ?_
                refine J.seq ?_
                refine J.plain ?_
                refine LL.op (.pointer (some ⟨g744, 11, none⟩)) (by kernel_rfl) (fun w _ => by kernel_rfl) ?_
                refine LL.op (.slice A870 y869.length c871) (by kernel_rfl) (ld 0 g744 11 rfl (by kernel_rfl) rfl (by kernel_rfl)) ?_
                refine LL.freeze (pre := [(g744, cl [.string a0_0, .string a0_1, .string a0_2, .int .i64 a0_3, .int .i64 a0_4, .int .i64 a0_5, .int .i64 a0_6, .int .i64 a0_7, .int .i64 a0_8, .int .i64 a0_9, .int .i64 a0_10, .slice A870 y869.length c871, .int .i64 a0_12, .int .i64 a0_13, .int .i64 a0_14, .int .i64 a0_15, .bool a0_16, .int .i64 a0_17] 30), (g733, cl [.int .i64 a2_0, .int .i64 a2_1, .int .i64 a2_2, .int .i64 a2_3, .int .i64 a2_4, .int .i64 a2_5, .int .i64 a2_6] 41), (g732, cl [.string a1_0, .int .i64 a1_1, .int .i64 a1_2, .int .i64 a1_3, .int .i64 a1_4, .int .i64 a1_5, .int .i64 a1_6, .int .i64 a1_7, .int .i64 a1_8, .int .i64 a1_9, .int .i64 a1_10, .int .i64 a1_11, .int .i64 a1_12] 32), (g731, cl [.string a0_0, .string a0_1, .string a0_2, .int .i64 a0_3, .int .i64 a0_4, .int .i64 a0_5, .int .i64 a0_6, .int .i64 a0_7, .int .i64 a0_8, .int .i64 a0_9, .int .i64 a0_10, .slice Aa0_11 a0_11.length ca0_11, .int .i64 a0_12, .int .i64 a0_13, .int .i64 a0_14, .int .i64 a0_15, .bool a0_16, .int .i64 a0_17] 30)]) ok41 o873 (fun R875 F876 le877 k878 fr879 => ?_)
                obtain ⟨x880, hx880, H⟩ := bind_some H
                refine LL.call 26 #[.slice A870 y869.length c871] (.int .i64 x880) (by kernel_rfl) (fun w => by kernel_rfl) (fun w hw => sawmillref13_Check.calls K y869  _ _ _ w  (k878.at hw) hx880) ?_
                refine LL.op (.bool (x880 == 0)) (by kernel_rfl) (fun w _ => by kernel_rfl) ?_
                refine LL.op (.bool (x880 == 0)) (by kernel_rfl) (fun w _ => by kernel_rfl) ?_
                rcases Bool.eq_false_or_eq_true ((x880 == 0)) with c881 | c881
                · rw [if_pos (eq_of_beq c881)] at H
                  refine LL.bool 56 ((x880 == 0)) true c881 (by kernel_rfl) ?_
                  refine LL.op (.agg #[.string a0_0, .string a0_1, .string a0_2, .int .i64 a0_3, .int .i64 a0_4, .int .i64 a0_5, .int .i64 a0_6, .int .i64 a0_7, .int .i64 a0_8, .int .i64 a0_9, .int .i64 a0_10, .slice A870 y869.length c871, .int .i64 a0_12, .int .i64 a0_13, .int .i64 a0_14, .int .i64 a0_15, .bool a0_16, .int .i64 a0_17]) (by kernel_rfl) (ld 0 g744 0 rfl (by kernel_rfl) rfl (by kernel_rfl)) ?_
                  refine LL.op (.agg #[.string a1_0, .int .i64 a1_1, .int .i64 a1_2, .int .i64 a1_3, .int .i64 a1_4, .int .i64 a1_5, .int .i64 a1_6, .int .i64 a1_7, .int .i64 a1_8, .int .i64 a1_9, .int .i64 a1_10, .int .i64 a1_11, .int .i64 a1_12]) (by kernel_rfl) (ld 2 g732 0 rfl (by kernel_rfl) rfl (by kernel_rfl)) ?_
                  obtain ⟨x882, hx882, H⟩ := bind_some H
                  refine LL.call 20 #[.agg #[.string a0_0, .string a0_1, .string a0_2, .int .i64 a0_3, .int .i64 a0_4, .int .i64 a0_5, .int .i64 a0_6, .int .i64 a0_7, .int .i64 a0_8, .int .i64 a0_9, .int .i64 a0_10, .slice A870 y869.length c871, .int .i64 a0_12, .int .i64 a0_13, .int .i64 a0_14, .int .i64 a0_15, .bool a0_16, .int .i64 a0_17], .agg #[.string a1_0, .int .i64 a1_1, .int .i64 a1_2, .int .i64 a1_3, .int .i64 a1_4, .int .i64 a1_5, .int .i64 a1_6, .int .i64 a1_7, .int .i64 a1_8, .int .i64 a1_9, .int .i64 a1_10, .int .i64 a1_11, .int .i64 a1_12]] (.int .i64 x882) (by kernel_rfl) (fun w => by kernel_rfl) (fun w hw => strength_Stiffness.calls K a0_0 a0_1 a0_2 a0_3 a0_4 a0_5 a0_6 a0_7 a0_8 a0_9 a0_10 y869 a0_12 a0_13 a0_14 a0_15 a0_16 a0_17 a1_0 a1_1 a1_2 a1_3 a1_4 a1_5 a1_6 a1_7 a1_8 a1_9 a1_10 a1_11 a1_12  _ _ _ w  (k878.at hw) hx882) ?_
                  refine LL.op (.int .i64 x738) (by kernel_rfl) (fun w _ => by kernel_rfl) ?_
                  refine LL.op (.bool (decide (x738 < x882))) (by kernel_rfl) (fun w _ => by kernel_rfl) ?_
                  refine LL.op (.bool (decide (x738 < x882))) (by kernel_rfl) (fun w _ => by kernel_rfl) ?_
                  rcases Bool.eq_false_or_eq_true (decide (x738 < x882)) with c883 | c883
                  · rw [if_pos (of_decide_eq_true c883)] at H
                    refine LL.bool 62 (decide (x738 < x882)) true c883 (by kernel_rfl) ?_
                    refine LL.off (by kernel_rfl) (by kernel_rfl) ?_
                    refine LL.off (by kernel_rfl) (by kernel_rfl) ?_
                    refine LL.off (by kernel_rfl) (by kernel_rfl) ?_
                    refine LL.off (by kernel_rfl) (by kernel_rfl) ?_
                    refine LL.op (.bool true) (by kernel_rfl) (fun w _ => by kernel_rfl) ?_
                    refine LL.op (.bool true) (by kernel_rfl) (fun w _ => by kernel_rfl) ?_
                    refine LL.off (by kernel_rfl) (by kernel_rfl) ?_
                    refine LL.off (by kernel_rfl) (by kernel_rfl) ?_
                    refine LL.off (by kernel_rfl) (by kernel_rfl) ?_
                    refine LL.off (by kernel_rfl) (by kernel_rfl) ?_
                    refine LL.off (by kernel_rfl) (by kernel_rfl) ?_
                    refine LL.off (by kernel_rfl) (by kernel_rfl) ?_
                    refine LL.off (by kernel_rfl) (by kernel_rfl) ?_
                    refine LL.off (by kernel_rfl) (by kernel_rfl) ?_
                    refine LL.off (by kernel_rfl) (by kernel_rfl) ?_
                    refine LL.op (.bool true) (by kernel_rfl) (fun w _ => by kernel_rfl) ?_
                    refine LL.op (.bool true) (by kernel_rfl) (fun w _ => by kernel_rfl) ?_
                    refine LL.done (s' := [(3, .pointer (some ⟨g731, 0, none⟩)), (4, .pointer (some ⟨g732, 0, none⟩)), (6, .bool false), (7, .int .i64 x738), (8, .int .i64 x739), (79, .bool true)]) [3, 4, 6, 7, 8, 79] (by kernel_rfl) ?_
                    refine NN.then ?_
                    refine J.condT (b := true) rfl (by kernel_rfl) (by kernel_rfl) ?_
                    refine J.seq ?_
                    refine J.plain ?_
                    refine LL.op (.bool false) (by kernel_rfl) (fun w _ => by kernel_rfl) ?_
                    refine LL.done (s' := [(3, .pointer (some ⟨g731, 0, none⟩)), (4, .pointer (some ⟨g732, 0, none⟩)), (6, .bool false), (7, .int .i64 x738), (8, .int .i64 x739)]) [3, 4, 6, 7, 8] (by kernel_rfl) ?_
                    refine NN.then ?_
                    refine J.ret ?_
                    refine NN.then_ret ?_
                    refine NN.fin1 6 (.bool false) (by kernel_rfl) (by kernel_rfl) (.inl rfl) (fun w hi => hi.ret ?_)
                    first | (cases H; rfl) | (obtain rfl := Option.some.inj H; rfl) | (simp only [Option.some.injEq, Prod.mk.injEq] at H; obtain ⟨rfl⟩ := H; rfl)
                  · rw [if_neg (of_decide_eq_false c883)] at H
                    refine LL.bool 62 (decide (x738 < x882)) false c883 (by kernel_rfl) ?_
                    refine LL.op (.agg #[.string a0_0, .string a0_1, .string a0_2, .int .i64 a0_3, .int .i64 a0_4, .int .i64 a0_5, .int .i64 a0_6, .int .i64 a0_7, .int .i64 a0_8, .int .i64 a0_9, .int .i64 a0_10, .slice A870 y869.length c871, .int .i64 a0_12, .int .i64 a0_13, .int .i64 a0_14, .int .i64 a0_15, .bool a0_16, .int .i64 a0_17]) (by kernel_rfl) (ld 0 g744 0 rfl (by kernel_rfl) rfl (by kernel_rfl)) ?_
                    obtain ⟨x884, hx884, H⟩ := bind_some H
                    refine LL.call 18 #[.agg #[.string a0_0, .string a0_1, .string a0_2, .int .i64 a0_3, .int .i64 a0_4, .int .i64 a0_5, .int .i64 a0_6, .int .i64 a0_7, .int .i64 a0_8, .int .i64 a0_9, .int .i64 a0_10, .slice A870 y869.length c871, .int .i64 a0_12, .int .i64 a0_13, .int .i64 a0_14, .int .i64 a0_15, .bool a0_16, .int .i64 a0_17]] (.int .i64 x884) (by kernel_rfl) (fun w => by kernel_rfl) (fun w hw => strength_Knots.calls K a0_0 a0_1 a0_2 a0_3 a0_4 a0_5 a0_6 a0_7 a0_8 a0_9 a0_10 y869 a0_12 a0_13 a0_14 a0_15 a0_16 a0_17  _ _ _ w  (k878.at hw) hx884) ?_
                    refine LL.op (.int .i64 x739) (by kernel_rfl) (fun w _ => by kernel_rfl) ?_
                    refine LL.op (.bool (decide (x884 < x739))) (by kernel_rfl) (fun w _ => by kernel_rfl) ?_
                    refine LL.op (.bool (decide (x884 < x739))) (by kernel_rfl) (fun w _ => by kernel_rfl) ?_
                    refine LL.op (.bool (decide (x884 < x739))) (by kernel_rfl) (fun w _ => by kernel_rfl) ?_
                    rcases Bool.eq_false_or_eq_true (decide (x884 < x739)) with c885 | c885
                    · rw [if_pos (of_decide_eq_true c885)] at H
                      refine LL.bool 68 (decide (x884 < x739)) true c885 (by kernel_rfl) ?_
                      refine LL.off (by kernel_rfl) (by kernel_rfl) ?_
                      refine LL.off (by kernel_rfl) (by kernel_rfl) ?_
                      refine LL.off (by kernel_rfl) (by kernel_rfl) ?_
                      refine LL.off (by kernel_rfl) (by kernel_rfl) ?_
                      refine LL.off (by kernel_rfl) (by kernel_rfl) ?_
                      refine LL.off (by kernel_rfl) (by kernel_rfl) ?_
                      refine LL.off (by kernel_rfl) (by kernel_rfl) ?_
                      refine LL.off (by kernel_rfl) (by kernel_rfl) ?_
                      refine LL.off (by kernel_rfl) (by kernel_rfl) ?_
                      refine LL.op (.bool true) (by kernel_rfl) (fun w _ => by kernel_rfl) ?_
                      refine LL.op (.bool true) (by kernel_rfl) (fun w _ => by kernel_rfl) ?_
                      refine LL.done (s' := [(3, .pointer (some ⟨g731, 0, none⟩)), (4, .pointer (some ⟨g732, 0, none⟩)), (6, .bool false), (7, .int .i64 x738), (8, .int .i64 x739), (79, .bool true)]) [3, 4, 6, 7, 8, 79] (by kernel_rfl) ?_
                      refine NN.then ?_
                      refine J.condT (b := true) rfl (by kernel_rfl) (by kernel_rfl) ?_
                      refine J.seq ?_
                      refine J.plain ?_
                      refine LL.op (.bool false) (by kernel_rfl) (fun w _ => by kernel_rfl) ?_
                      refine LL.done (s' := [(3, .pointer (some ⟨g731, 0, none⟩)), (4, .pointer (some ⟨g732, 0, none⟩)), (6, .bool false), (7, .int .i64 x738), (8, .int .i64 x739)]) [3, 4, 6, 7, 8] (by kernel_rfl) ?_
                      refine NN.then ?_
                      refine J.ret ?_
                      refine NN.then_ret ?_
                      refine NN.fin1 6 (.bool false) (by kernel_rfl) (by kernel_rfl) (.inl rfl) (fun w hi => hi.ret ?_)
                      first | (cases H; rfl) | (obtain rfl := Option.some.inj H; rfl) | (simp only [Option.some.injEq, Prod.mk.injEq] at H; obtain ⟨rfl⟩ := H; rfl)
                    · rw [if_neg (of_decide_eq_false c885)] at H
                      refine LL.bool 68 (decide (x884 < x739)) false c885 (by kernel_rfl) ?_
                      refine LL.op (.agg #[.int .i64 a2_0, .int .i64 a2_1, .int .i64 a2_2, .int .i64 a2_3, .int .i64 a2_4, .int .i64 a2_5, .int .i64 a2_6]) (by kernel_rfl) (ld 1 g733 0 rfl (by kernel_rfl) rfl (by kernel_rfl)) ?_
                      obtain ⟨x886, hx886, H⟩ := bind_some H
                      refine LL.call 27 #[.agg #[.int .i64 a2_0, .int .i64 a2_1, .int .i64 a2_2, .int .i64 a2_3, .int .i64 a2_4, .int .i64 a2_5, .int .i64 a2_6]] (.bool x886) (by kernel_rfl) (fun w => by kernel_rfl) (fun w hw => sawmillref13_Knot.calls a2_0 a2_1 a2_2 a2_3 a2_4 a2_5 a2_6   _ w   hx886) ?_
                      refine LL.op (.bool (!x886)) (by kernel_rfl) (fun w _ => by kernel_rfl) ?_
                      refine LL.op (.bool (!x886)) (by kernel_rfl) (fun w _ => by kernel_rfl) ?_
                      rcases Bool.eq_false_or_eq_true (x886) with c887 | c887
                      · rw [if_pos (c887)] at H
                        refine LL.bool 72 (!x886) false (by rw [show (!x886) = !(x886) from rfl, c887]; rfl) (by kernel_rfl) ?_
                        refine LL.off (by kernel_rfl) (by kernel_rfl) ?_
                        refine LL.off (by kernel_rfl) (by kernel_rfl) ?_
                        refine LL.off (by kernel_rfl) (by kernel_rfl) ?_
                        refine LL.off (by kernel_rfl) (by kernel_rfl) ?_
                        refine LL.op (.bool false) (by kernel_rfl) (fun w _ => by kernel_rfl) ?_
                        refine LL.op (.bool false) (by kernel_rfl) (fun w _ => by kernel_rfl) ?_
                        refine LL.op (.bool false) (by kernel_rfl) (fun w _ => by kernel_rfl) ?_
                        refine LL.done (s' := [(3, .pointer (some ⟨g731, 0, none⟩)), (4, .pointer (some ⟨g732, 0, none⟩)), (6, .bool false), (7, .int .i64 x738), (8, .int .i64 x739), (79, .bool false)]) [3, 4, 6, 7, 8, 79] (by kernel_rfl) ?_
                        refine NN.then ?_
                        refine J.condF (b := false) rfl (by kernel_rfl) (by kernel_rfl) ?_
                        refine J.skip ?_
                        refine NN.then ?_
                        refine J.seq ?_
                        refine J.plain ?_
                        refine LL.op (.agg #[.string a0_0, .string a0_1, .string a0_2, .int .i64 a0_3, .int .i64 a0_4, .int .i64 a0_5, .int .i64 a0_6, .int .i64 a0_7, .int .i64 a0_8, .int .i64 a0_9, .int .i64 a0_10, .slice Aa0_11 a0_11.length ca0_11, .int .i64 a0_12, .int .i64 a0_13, .int .i64 a0_14, .int .i64 a0_15, .bool a0_16, .int .i64 a0_17]) (by kernel_rfl) (ld 3 g731 0 rfl (by kernel_rfl) rfl (by kernel_rfl)) ?_
                        refine LL.alloc 30 [.string (⟨#[]⟩ : ByteArray), .string (⟨#[]⟩ : ByteArray), .string (⟨#[]⟩ : ByteArray), .int .i64 0, .int .i64 0, .int .i64 0, .int .i64 0, .int .i64 0, .int .i64 0, .int .i64 0, .int .i64 0, .slice none 0 0, .int .i64 0, .int .i64 0, .int .i64 0, .int .i64 0, .bool false, .int .i64 0] (by kernel_rfl) rfl (by kernel_rfl) (fun g888 => ?_)
                        refine LL.store 0 g888 0 30 (.tmp 10) (.tmp 80) [.string a0_0, .string a0_1, .string a0_2, .int .i64 a0_3, .int .i64 a0_4, .int .i64 a0_5, .int .i64 a0_6, .int .i64 a0_7, .int .i64 a0_8, .int .i64 a0_9, .int .i64 a0_10, .slice Aa0_11 a0_11.length ca0_11, .int .i64 a0_12, .int .i64 a0_13, .int .i64 a0_14, .int .i64 a0_15, .bool a0_16, .int .i64 a0_17] (bs' := [(g888, cl [.string a0_0, .string a0_1, .string a0_2, .int .i64 a0_3, .int .i64 a0_4, .int .i64 a0_5, .int .i64 a0_6, .int .i64 a0_7, .int .i64 a0_8, .int .i64 a0_9, .int .i64 a0_10, .slice Aa0_11 a0_11.length ca0_11, .int .i64 a0_12, .int .i64 a0_13, .int .i64 a0_14, .int .i64 a0_15, .bool a0_16, .int .i64 a0_17] 30), (g744, cl [.string a0_0, .string a0_1, .string a0_2, .int .i64 a0_3, .int .i64 a0_4, .int .i64 a0_5, .int .i64 a0_6, .int .i64 a0_7, .int .i64 a0_8, .int .i64 a0_9, .int .i64 a0_10, .slice A870 y869.length c871, .int .i64 a0_12, .int .i64 a0_13, .int .i64 a0_14, .int .i64 a0_15, .bool a0_16, .int .i64 a0_17] 30), (g733, cl [.int .i64 a2_0, .int .i64 a2_1, .int .i64 a2_2, .int .i64 a2_3, .int .i64 a2_4, .int .i64 a2_5, .int .i64 a2_6] 41), (g732, cl [.string a1_0, .int .i64 a1_1, .int .i64 a1_2, .int .i64 a1_3, .int .i64 a1_4, .int .i64 a1_5, .int .i64 a1_6, .int .i64 a1_7, .int .i64 a1_8, .int .i64 a1_9, .int .i64 a1_10, .int .i64 a1_11, .int .i64 a1_12] 32), (g731, cl [.string a0_0, .string a0_1, .string a0_2, .int .i64 a0_3, .int .i64 a0_4, .int .i64 a0_5, .int .i64 a0_6, .int .i64 a0_7, .int .i64 a0_8, .int .i64 a0_9, .int .i64 a0_10, .slice Aa0_11 a0_11.length ca0_11, .int .i64 a0_12, .int .i64 a0_13, .int .i64 a0_14, .int .i64 a0_15, .bool a0_16, .int .i64 a0_17] 30)]) rfl (by kernel_rfl) rfl (by kernel_rfl) rfl (by kernel_rfl) ?_
                        refine LL.done (s' := [(4, .pointer (some ⟨g732, 0, none⟩)), (6, .bool false), (7, .int .i64 x738), (8, .int .i64 x739), (10, .pointer (some ⟨g888, 0, none⟩))]) [4, 6, 7, 8, 10] (by kernel_rfl) ?_
                        refine NN.then ?_
                        refine J.seq ?_
                        refine J.plain ?_
                        refine LL.op (.pointer (some ⟨g888, 13, none⟩)) (by kernel_rfl) (fun w _ => by kernel_rfl) ?_
                        refine LL.op (.pointer (some ⟨g888, 14, none⟩)) (by kernel_rfl) (fun w _ => by kernel_rfl) ?_
                        refine LL.op (.int .i64 a0_14) (by kernel_rfl) (ld 0 g888 14 rfl (by kernel_rfl) rfl (by kernel_rfl)) ?_
                        refine LL.op (.int .i64 (IntKind.i64.wrap (a0_14 + 500))) (by kernel_rfl) (fun w _ => by kernel_rfl) ?_
                        refine LL.op (.int .i64 (mn 20000 (IntKind.i64.wrap (a0_14 + 500)))) (by kernel_rfl) (fun w _ => by kernel_rfl) ?_
                        refine LL.op (.pointer (some ⟨g888, 13, none⟩)) (by kernel_rfl) (fun w _ => by kernel_rfl) ?_
                        refine LL.op (.pointer (some ⟨g888, 14, none⟩)) (by kernel_rfl) (fun w _ => by kernel_rfl) ?_
                        refine LL.store 0 g888 14 3 (.tmp 87) (.tmp 85) [.string a0_0, .string a0_1, .string a0_2, .int .i64 a0_3, .int .i64 a0_4, .int .i64 a0_5, .int .i64 a0_6, .int .i64 a0_7, .int .i64 a0_8, .int .i64 a0_9, .int .i64 a0_10, .slice Aa0_11 a0_11.length ca0_11, .int .i64 a0_12, .int .i64 a0_13, .int .i64 (mn 20000 (IntKind.i64.wrap (a0_14 + 500))), .int .i64 a0_15, .bool a0_16, .int .i64 a0_17] (bs' := [(g888, cl [.string a0_0, .string a0_1, .string a0_2, .int .i64 a0_3, .int .i64 a0_4, .int .i64 a0_5, .int .i64 a0_6, .int .i64 a0_7, .int .i64 a0_8, .int .i64 a0_9, .int .i64 a0_10, .slice Aa0_11 a0_11.length ca0_11, .int .i64 a0_12, .int .i64 a0_13, .int .i64 (mn 20000 (IntKind.i64.wrap (a0_14 + 500))), .int .i64 a0_15, .bool a0_16, .int .i64 a0_17] 30), (g744, cl [.string a0_0, .string a0_1, .string a0_2, .int .i64 a0_3, .int .i64 a0_4, .int .i64 a0_5, .int .i64 a0_6, .int .i64 a0_7, .int .i64 a0_8, .int .i64 a0_9, .int .i64 a0_10, .slice A870 y869.length c871, .int .i64 a0_12, .int .i64 a0_13, .int .i64 a0_14, .int .i64 a0_15, .bool a0_16, .int .i64 a0_17] 30), (g733, cl [.int .i64 a2_0, .int .i64 a2_1, .int .i64 a2_2, .int .i64 a2_3, .int .i64 a2_4, .int .i64 a2_5, .int .i64 a2_6] 41), (g732, cl [.string a1_0, .int .i64 a1_1, .int .i64 a1_2, .int .i64 a1_3, .int .i64 a1_4, .int .i64 a1_5, .int .i64 a1_6, .int .i64 a1_7, .int .i64 a1_8, .int .i64 a1_9, .int .i64 a1_10, .int .i64 a1_11, .int .i64 a1_12] 32), (g731, cl [.string a0_0, .string a0_1, .string a0_2, .int .i64 a0_3, .int .i64 a0_4, .int .i64 a0_5, .int .i64 a0_6, .int .i64 a0_7, .int .i64 a0_8, .int .i64 a0_9, .int .i64 a0_10, .slice Aa0_11 a0_11.length ca0_11, .int .i64 a0_12, .int .i64 a0_13, .int .i64 a0_14, .int .i64 a0_15, .bool a0_16, .int .i64 a0_17] 30)]) rfl (by kernel_rfl) rfl (by kernel_rfl) rfl (by kernel_rfl) ?_
                        refine LL.done (s' := [(4, .pointer (some ⟨g732, 0, none⟩)), (6, .bool false), (7, .int .i64 x738), (8, .int .i64 x739), (10, .pointer (some ⟨g888, 0, none⟩))]) [4, 6, 7, 8, 10] (by kernel_rfl) ?_
                        refine NN.then ?_
                        refine J.seq ?_
                        refine J.plain ?_
                        refine LL.op (.pointer (some ⟨g888, 13, none⟩)) (by kernel_rfl) (fun w _ => by kernel_rfl) ?_
                        refine LL.op (.pointer (some ⟨g888, 13, none⟩)) (by kernel_rfl) (fun w _ => by kernel_rfl) ?_
                        refine LL.op (.int .i64 a0_13) (by kernel_rfl) (ld 0 g888 13 rfl (by kernel_rfl) rfl (by kernel_rfl)) ?_
                        refine LL.op (.int .i64 (IntKind.i64.wrap (a0_13 + 300))) (by kernel_rfl) (fun w _ => by kernel_rfl) ?_
                        refine LL.op (.int .i64 (mn 20000 (IntKind.i64.wrap (a0_13 + 300)))) (by kernel_rfl) (fun w _ => by kernel_rfl) ?_
                        refine LL.op (.pointer (some ⟨g888, 13, none⟩)) (by kernel_rfl) (fun w _ => by kernel_rfl) ?_
                        refine LL.op (.pointer (some ⟨g888, 13, none⟩)) (by kernel_rfl) (fun w _ => by kernel_rfl) ?_
                        refine LL.store 0 g888 13 3 (.tmp 94) (.tmp 92) [.string a0_0, .string a0_1, .string a0_2, .int .i64 a0_3, .int .i64 a0_4, .int .i64 a0_5, .int .i64 a0_6, .int .i64 a0_7, .int .i64 a0_8, .int .i64 a0_9, .int .i64 a0_10, .slice Aa0_11 a0_11.length ca0_11, .int .i64 a0_12, .int .i64 (mn 20000 (IntKind.i64.wrap (a0_13 + 300))), .int .i64 (mn 20000 (IntKind.i64.wrap (a0_14 + 500))), .int .i64 a0_15, .bool a0_16, .int .i64 a0_17] (bs' := [(g888, cl [.string a0_0, .string a0_1, .string a0_2, .int .i64 a0_3, .int .i64 a0_4, .int .i64 a0_5, .int .i64 a0_6, .int .i64 a0_7, .int .i64 a0_8, .int .i64 a0_9, .int .i64 a0_10, .slice Aa0_11 a0_11.length ca0_11, .int .i64 a0_12, .int .i64 (mn 20000 (IntKind.i64.wrap (a0_13 + 300))), .int .i64 (mn 20000 (IntKind.i64.wrap (a0_14 + 500))), .int .i64 a0_15, .bool a0_16, .int .i64 a0_17] 30), (g744, cl [.string a0_0, .string a0_1, .string a0_2, .int .i64 a0_3, .int .i64 a0_4, .int .i64 a0_5, .int .i64 a0_6, .int .i64 a0_7, .int .i64 a0_8, .int .i64 a0_9, .int .i64 a0_10, .slice A870 y869.length c871, .int .i64 a0_12, .int .i64 a0_13, .int .i64 a0_14, .int .i64 a0_15, .bool a0_16, .int .i64 a0_17] 30), (g733, cl [.int .i64 a2_0, .int .i64 a2_1, .int .i64 a2_2, .int .i64 a2_3, .int .i64 a2_4, .int .i64 a2_5, .int .i64 a2_6] 41), (g732, cl [.string a1_0, .int .i64 a1_1, .int .i64 a1_2, .int .i64 a1_3, .int .i64 a1_4, .int .i64 a1_5, .int .i64 a1_6, .int .i64 a1_7, .int .i64 a1_8, .int .i64 a1_9, .int .i64 a1_10, .int .i64 a1_11, .int .i64 a1_12] 32), (g731, cl [.string a0_0, .string a0_1, .string a0_2, .int .i64 a0_3, .int .i64 a0_4, .int .i64 a0_5, .int .i64 a0_6, .int .i64 a0_7, .int .i64 a0_8, .int .i64 a0_9, .int .i64 a0_10, .slice Aa0_11 a0_11.length ca0_11, .int .i64 a0_12, .int .i64 a0_13, .int .i64 a0_14, .int .i64 a0_15, .bool a0_16, .int .i64 a0_17] 30)]) rfl (by kernel_rfl) rfl (by kernel_rfl) rfl (by kernel_rfl) ?_
                        refine LL.done (s' := [(4, .pointer (some ⟨g732, 0, none⟩)), (6, .bool false), (7, .int .i64 x738), (8, .int .i64 x739), (10, .pointer (some ⟨g888, 0, none⟩))]) [4, 6, 7, 8, 10] (by kernel_rfl) ?_
                        refine NN.then ?_
                        refine J.seq ?_
                        refine J.plain ?_
                        refine LL.op (.agg #[.string a0_0, .string a0_1, .string a0_2, .int .i64 a0_3, .int .i64 a0_4, .int .i64 a0_5, .int .i64 a0_6, .int .i64 a0_7, .int .i64 a0_8, .int .i64 a0_9, .int .i64 a0_10, .slice Aa0_11 a0_11.length ca0_11, .int .i64 a0_12, .int .i64 (mn 20000 (IntKind.i64.wrap (a0_13 + 300))), .int .i64 (mn 20000 (IntKind.i64.wrap (a0_14 + 500))), .int .i64 a0_15, .bool a0_16, .int .i64 a0_17]) (by kernel_rfl) (ld 0 g888 0 rfl (by kernel_rfl) rfl (by kernel_rfl)) ?_
                        refine LL.op (.agg #[.string a1_0, .int .i64 a1_1, .int .i64 a1_2, .int .i64 a1_3, .int .i64 a1_4, .int .i64 a1_5, .int .i64 a1_6, .int .i64 a1_7, .int .i64 a1_8, .int .i64 a1_9, .int .i64 a1_10, .int .i64 a1_11, .int .i64 a1_12]) (by kernel_rfl) (ld 3 g732 0 rfl (by kernel_rfl) rfl (by kernel_rfl)) ?_
                        obtain ⟨x889, hx889, H⟩ := bind_some H
                        refine LL.call 20 #[.agg #[.string a0_0, .string a0_1, .string a0_2, .int .i64 a0_3, .int .i64 a0_4, .int .i64 a0_5, .int .i64 a0_6, .int .i64 a0_7, .int .i64 a0_8, .int .i64 a0_9, .int .i64 a0_10, .slice Aa0_11 a0_11.length ca0_11, .int .i64 a0_12, .int .i64 (mn 20000 (IntKind.i64.wrap (a0_13 + 300))), .int .i64 (mn 20000 (IntKind.i64.wrap (a0_14 + 500))), .int .i64 a0_15, .bool a0_16, .int .i64 a0_17], .agg #[.string a1_0, .int .i64 a1_1, .int .i64 a1_2, .int .i64 a1_3, .int .i64 a1_4, .int .i64 a1_5, .int .i64 a1_6, .int .i64 a1_7, .int .i64 a1_8, .int .i64 a1_9, .int .i64 a1_10, .int .i64 a1_11, .int .i64 a1_12]] (.int .i64 x889) (by kernel_rfl) (fun w => by kernel_rfl) (fun w hw => strength_Stiffness.calls K a0_0 a0_1 a0_2 a0_3 a0_4 a0_5 a0_6 a0_7 a0_8 a0_9 a0_10 a0_11 a0_12 (mn 20000 (IntKind.i64.wrap (a0_13 + 300))) (mn 20000 (IntKind.i64.wrap (a0_14 + 500))) a0_15 a0_16 a0_17 a1_0 a1_1 a1_2 a1_3 a1_4 a1_5 a1_6 a1_7 a1_8 a1_9 a1_10 a1_11 a1_12  _ _ _ w  (((ha0_11.le le856).le le877).at hw) hx889) ?_
                        refine LL.op (.int .i64 x738) (by kernel_rfl) (fun w _ => by kernel_rfl) ?_
                        refine LL.op (.bool (decide (x889 ≤ x738))) (by kernel_rfl) (fun w _ => by kernel_rfl) ?_
                        refine LL.op (.bool (decide (x889 ≤ x738))) (by kernel_rfl) (fun w _ => by kernel_rfl) ?_
                        rcases Bool.eq_false_or_eq_true (decide (x889 ≤ x738)) with c890 | c890
                        · rw [if_pos (of_decide_eq_true c890)] at H
                          refine LL.bool 100 (decide (x889 ≤ x738)) true c890 (by kernel_rfl) ?_
                          refine LL.op (.agg #[.string a0_0, .string a0_1, .string a0_2, .int .i64 a0_3, .int .i64 a0_4, .int .i64 a0_5, .int .i64 a0_6, .int .i64 a0_7, .int .i64 a0_8, .int .i64 a0_9, .int .i64 a0_10, .slice Aa0_11 a0_11.length ca0_11, .int .i64 a0_12, .int .i64 (mn 20000 (IntKind.i64.wrap (a0_13 + 300))), .int .i64 (mn 20000 (IntKind.i64.wrap (a0_14 + 500))), .int .i64 a0_15, .bool a0_16, .int .i64 a0_17]) (by kernel_rfl) (ld 0 g888 0 rfl (by kernel_rfl) rfl (by kernel_rfl)) ?_
                          obtain ⟨x891, hx891, H⟩ := bind_some H
                          refine LL.call 18 #[.agg #[.string a0_0, .string a0_1, .string a0_2, .int .i64 a0_3, .int .i64 a0_4, .int .i64 a0_5, .int .i64 a0_6, .int .i64 a0_7, .int .i64 a0_8, .int .i64 a0_9, .int .i64 a0_10, .slice Aa0_11 a0_11.length ca0_11, .int .i64 a0_12, .int .i64 (mn 20000 (IntKind.i64.wrap (a0_13 + 300))), .int .i64 (mn 20000 (IntKind.i64.wrap (a0_14 + 500))), .int .i64 a0_15, .bool a0_16, .int .i64 a0_17]] (.int .i64 x891) (by kernel_rfl) (fun w => by kernel_rfl) (fun w hw => strength_Knots.calls K a0_0 a0_1 a0_2 a0_3 a0_4 a0_5 a0_6 a0_7 a0_8 a0_9 a0_10 a0_11 a0_12 (mn 20000 (IntKind.i64.wrap (a0_13 + 300))) (mn 20000 (IntKind.i64.wrap (a0_14 + 500))) a0_15 a0_16 a0_17  _ _ _ w  (((ha0_11.le le856).le le877).at hw) hx891) ?_
                          refine LL.op (.int .i64 x739) (by kernel_rfl) (fun w _ => by kernel_rfl) ?_
                          refine LL.op (.bool (x891 == x739)) (by kernel_rfl) (fun w _ => by kernel_rfl) ?_
                          refine LL.op (.bool (x891 == x739)) (by kernel_rfl) (fun w _ => by kernel_rfl) ?_
                          refine LL.op (.bool (x891 == x739)) (by kernel_rfl) (fun w _ => by kernel_rfl) ?_
                          rcases Bool.eq_false_or_eq_true ((x891 == x739)) with c892 | c892
                          · rw [if_pos (eq_of_beq c892)] at H
                            refine LL.bool 106 ((x891 == x739)) true c892 (by kernel_rfl) ?_
                            obtain ⟨x893, hx893, H⟩ := bind_some H
                            refine LL.call 17 #[] (.bool x893) (by kernel_rfl) (fun w => by kernel_rfl) (fun w hw => sawmilllaw41_awake.calls K    _ w   hx893) ?_
                            refine LL.op (.bool x893) (by kernel_rfl) (fun w _ => by kernel_rfl) ?_
                            refine LL.op (.bool x893) (by kernel_rfl) (fun w _ => by kernel_rfl) ?_
                            refine LL.done (s' := [(6, .bool x893)]) [6] (by kernel_rfl) ?_
                            refine NN.then ?_
                            refine J.ret ?_
                            refine NN.fin1 6 (.bool x893) (by kernel_rfl) (by kernel_rfl) (.inl rfl) (fun w hi => hi.ret ?_)
                            first | (cases H; rfl) | (obtain rfl := Option.some.inj H; rfl) | (simp only [Option.some.injEq, Prod.mk.injEq] at H; obtain ⟨rfl⟩ := H; rfl)
                          · rw [if_neg (nebf c892)] at H
                            refine LL.bool 106 ((x891 == x739)) false c892 (by kernel_rfl) ?_
                            refine LL.off (by kernel_rfl) (by kernel_rfl) ?_
                            refine LL.op (.bool false) (by kernel_rfl) (fun w _ => by kernel_rfl) ?_
                            refine LL.op (.bool false) (by kernel_rfl) (fun w _ => by kernel_rfl) ?_
                            refine LL.done (s' := [(6, .bool false)]) [6] (by kernel_rfl) ?_
                            refine NN.then ?_
                            refine J.ret ?_
                            refine NN.fin1 6 (.bool false) (by kernel_rfl) (by kernel_rfl) (.inl rfl) (fun w hi => hi.ret ?_)
                            first | (cases H; rfl) | (obtain rfl := Option.some.inj H; rfl) | (simp only [Option.some.injEq, Prod.mk.injEq] at H; obtain ⟨rfl⟩ := H; rfl)
                        · rw [if_neg (of_decide_eq_false c890)] at H
                          refine LL.bool 100 (decide (x889 ≤ x738)) false c890 (by kernel_rfl) ?_
                          refine LL.off (by kernel_rfl) (by kernel_rfl) ?_
                          refine LL.off (by kernel_rfl) (by kernel_rfl) ?_
                          refine LL.off (by kernel_rfl) (by kernel_rfl) ?_
                          refine LL.off (by kernel_rfl) (by kernel_rfl) ?_
                          refine LL.op (.bool false) (by kernel_rfl) (fun w _ => by kernel_rfl) ?_
                          refine LL.op (.bool false) (by kernel_rfl) (fun w _ => by kernel_rfl) ?_
                          refine LL.off (by kernel_rfl) (by kernel_rfl) ?_
                          refine LL.op (.bool false) (by kernel_rfl) (fun w _ => by kernel_rfl) ?_
                          refine LL.op (.bool false) (by kernel_rfl) (fun w _ => by kernel_rfl) ?_
                          refine LL.done (s' := [(6, .bool false)]) [6] (by kernel_rfl) ?_
                          refine NN.then ?_
                          refine J.ret ?_
                          refine NN.fin1 6 (.bool false) (by kernel_rfl) (by kernel_rfl) (.inl rfl) (fun w hi => hi.ret ?_)
                          first | (cases H; rfl) | (obtain rfl := Option.some.inj H; rfl) | (simp only [Option.some.injEq, Prod.mk.injEq] at H; obtain ⟨rfl⟩ := H; rfl)
                      · rw [if_neg (nebt c887)] at H
                        refine LL.bool 72 (!x886) true (by rw [show (!x886) = !(x886) from rfl, c887]; rfl) (by kernel_rfl) ?_
                        refine LL.op (.agg #[.string a0_0, .string a0_1, .string a0_2, .int .i64 a0_3, .int .i64 a0_4, .int .i64 a0_5, .int .i64 a0_6, .int .i64 a0_7, .int .i64 a0_8, .int .i64 a0_9, .int .i64 a0_10, .slice A870 y869.length c871, .int .i64 a0_12, .int .i64 a0_13, .int .i64 a0_14, .int .i64 a0_15, .bool a0_16, .int .i64 a0_17]) (by kernel_rfl) (ld 0 g744 0 rfl (by kernel_rfl) rfl (by kernel_rfl)) ?_
                        refine LL.call 18 #[.agg #[.string a0_0, .string a0_1, .string a0_2, .int .i64 a0_3, .int .i64 a0_4, .int .i64 a0_5, .int .i64 a0_6, .int .i64 a0_7, .int .i64 a0_8, .int .i64 a0_9, .int .i64 a0_10, .slice A870 y869.length c871, .int .i64 a0_12, .int .i64 a0_13, .int .i64 a0_14, .int .i64 a0_15, .bool a0_16, .int .i64 a0_17]] (.int .i64 x884) (by kernel_rfl) (fun w => by kernel_rfl) (fun w hw => strength_Knots.calls K a0_0 a0_1 a0_2 a0_3 a0_4 a0_5 a0_6 a0_7 a0_8 a0_9 a0_10 y869 a0_12 a0_13 a0_14 a0_15 a0_16 a0_17  _ _ _ w  (k878.at hw) hx884) ?_
                        refine LL.op (.int .i64 x739) (by kernel_rfl) (fun w _ => by kernel_rfl) ?_
                        refine LL.op (.bool (!(x884 == x739))) (by kernel_rfl) (fun w _ => by kernel_rfl) ?_
                        refine LL.op (.bool (!(x884 == x739))) (by kernel_rfl) (fun w _ => by kernel_rfl) ?_
                        refine LL.op (.bool (!(x884 == x739))) (by kernel_rfl) (fun w _ => by kernel_rfl) ?_
                        refine LL.op (.bool (!(x884 == x739))) (by kernel_rfl) (fun w _ => by kernel_rfl) ?_
                        refine LL.done (s' := [(3, .pointer (some ⟨g731, 0, none⟩)), (4, .pointer (some ⟨g732, 0, none⟩)), (6, .bool false), (7, .int .i64 x738), (8, .int .i64 x739), (79, .bool (!(x884 == x739)))]) [3, 4, 6, 7, 8, 79] (by kernel_rfl) ?_
                        refine NN.then ?_
                        rcases Bool.eq_false_or_eq_true ((x884 == x739)) with c894 | c894
                        · rw [if_pos (eq_of_beq c894)] at H
                          refine J.condF (b := !(x884 == x739)) (by rw [show (!(x884 == x739)) = !((x884 == x739)) from rfl, c894]; rfl) (by kernel_rfl) (by kernel_rfl) ?_
                          refine J.skip ?_
                          refine NN.then ?_
                          refine J.seq ?_
                          refine J.plain ?_
                          refine LL.op (.agg #[.string a0_0, .string a0_1, .string a0_2, .int .i64 a0_3, .int .i64 a0_4, .int .i64 a0_5, .int .i64 a0_6, .int .i64 a0_7, .int .i64 a0_8, .int .i64 a0_9, .int .i64 a0_10, .slice Aa0_11 a0_11.length ca0_11, .int .i64 a0_12, .int .i64 a0_13, .int .i64 a0_14, .int .i64 a0_15, .bool a0_16, .int .i64 a0_17]) (by kernel_rfl) (ld 3 g731 0 rfl (by kernel_rfl) rfl (by kernel_rfl)) ?_
                          refine LL.alloc 30 [.string (⟨#[]⟩ : ByteArray), .string (⟨#[]⟩ : ByteArray), .string (⟨#[]⟩ : ByteArray), .int .i64 0, .int .i64 0, .int .i64 0, .int .i64 0, .int .i64 0, .int .i64 0, .int .i64 0, .int .i64 0, .slice none 0 0, .int .i64 0, .int .i64 0, .int .i64 0, .int .i64 0, .bool false, .int .i64 0] (by kernel_rfl) rfl (by kernel_rfl) (fun g895 => ?_)
                          refine LL.store 0 g895 0 30 (.tmp 10) (.tmp 80) [.string a0_0, .string a0_1, .string a0_2, .int .i64 a0_3, .int .i64 a0_4, .int .i64 a0_5, .int .i64 a0_6, .int .i64 a0_7, .int .i64 a0_8, .int .i64 a0_9, .int .i64 a0_10, .slice Aa0_11 a0_11.length ca0_11, .int .i64 a0_12, .int .i64 a0_13, .int .i64 a0_14, .int .i64 a0_15, .bool a0_16, .int .i64 a0_17] (bs' := [(g895, cl [.string a0_0, .string a0_1, .string a0_2, .int .i64 a0_3, .int .i64 a0_4, .int .i64 a0_5, .int .i64 a0_6, .int .i64 a0_7, .int .i64 a0_8, .int .i64 a0_9, .int .i64 a0_10, .slice Aa0_11 a0_11.length ca0_11, .int .i64 a0_12, .int .i64 a0_13, .int .i64 a0_14, .int .i64 a0_15, .bool a0_16, .int .i64 a0_17] 30), (g744, cl [.string a0_0, .string a0_1, .string a0_2, .int .i64 a0_3, .int .i64 a0_4, .int .i64 a0_5, .int .i64 a0_6, .int .i64 a0_7, .int .i64 a0_8, .int .i64 a0_9, .int .i64 a0_10, .slice A870 y869.length c871, .int .i64 a0_12, .int .i64 a0_13, .int .i64 a0_14, .int .i64 a0_15, .bool a0_16, .int .i64 a0_17] 30), (g733, cl [.int .i64 a2_0, .int .i64 a2_1, .int .i64 a2_2, .int .i64 a2_3, .int .i64 a2_4, .int .i64 a2_5, .int .i64 a2_6] 41), (g732, cl [.string a1_0, .int .i64 a1_1, .int .i64 a1_2, .int .i64 a1_3, .int .i64 a1_4, .int .i64 a1_5, .int .i64 a1_6, .int .i64 a1_7, .int .i64 a1_8, .int .i64 a1_9, .int .i64 a1_10, .int .i64 a1_11, .int .i64 a1_12] 32), (g731, cl [.string a0_0, .string a0_1, .string a0_2, .int .i64 a0_3, .int .i64 a0_4, .int .i64 a0_5, .int .i64 a0_6, .int .i64 a0_7, .int .i64 a0_8, .int .i64 a0_9, .int .i64 a0_10, .slice Aa0_11 a0_11.length ca0_11, .int .i64 a0_12, .int .i64 a0_13, .int .i64 a0_14, .int .i64 a0_15, .bool a0_16, .int .i64 a0_17] 30)]) rfl (by kernel_rfl) rfl (by kernel_rfl) rfl (by kernel_rfl) ?_
                          refine LL.done (s' := [(4, .pointer (some ⟨g732, 0, none⟩)), (6, .bool false), (7, .int .i64 x738), (8, .int .i64 x739), (10, .pointer (some ⟨g895, 0, none⟩))]) [4, 6, 7, 8, 10] (by kernel_rfl) ?_
                          refine NN.then ?_
                          refine J.seq ?_
                          refine J.plain ?_
                          refine LL.op (.pointer (some ⟨g895, 13, none⟩)) (by kernel_rfl) (fun w _ => by kernel_rfl) ?_
                          refine LL.op (.pointer (some ⟨g895, 14, none⟩)) (by kernel_rfl) (fun w _ => by kernel_rfl) ?_
                          refine LL.op (.int .i64 a0_14) (by kernel_rfl) (ld 0 g895 14 rfl (by kernel_rfl) rfl (by kernel_rfl)) ?_
                          refine LL.op (.int .i64 (IntKind.i64.wrap (a0_14 + 500))) (by kernel_rfl) (fun w _ => by kernel_rfl) ?_
                          refine LL.op (.int .i64 (mn 20000 (IntKind.i64.wrap (a0_14 + 500)))) (by kernel_rfl) (fun w _ => by kernel_rfl) ?_
                          refine LL.op (.pointer (some ⟨g895, 13, none⟩)) (by kernel_rfl) (fun w _ => by kernel_rfl) ?_
                          refine LL.op (.pointer (some ⟨g895, 14, none⟩)) (by kernel_rfl) (fun w _ => by kernel_rfl) ?_
                          refine LL.store 0 g895 14 3 (.tmp 87) (.tmp 85) [.string a0_0, .string a0_1, .string a0_2, .int .i64 a0_3, .int .i64 a0_4, .int .i64 a0_5, .int .i64 a0_6, .int .i64 a0_7, .int .i64 a0_8, .int .i64 a0_9, .int .i64 a0_10, .slice Aa0_11 a0_11.length ca0_11, .int .i64 a0_12, .int .i64 a0_13, .int .i64 (mn 20000 (IntKind.i64.wrap (a0_14 + 500))), .int .i64 a0_15, .bool a0_16, .int .i64 a0_17] (bs' := [(g895, cl [.string a0_0, .string a0_1, .string a0_2, .int .i64 a0_3, .int .i64 a0_4, .int .i64 a0_5, .int .i64 a0_6, .int .i64 a0_7, .int .i64 a0_8, .int .i64 a0_9, .int .i64 a0_10, .slice Aa0_11 a0_11.length ca0_11, .int .i64 a0_12, .int .i64 a0_13, .int .i64 (mn 20000 (IntKind.i64.wrap (a0_14 + 500))), .int .i64 a0_15, .bool a0_16, .int .i64 a0_17] 30), (g744, cl [.string a0_0, .string a0_1, .string a0_2, .int .i64 a0_3, .int .i64 a0_4, .int .i64 a0_5, .int .i64 a0_6, .int .i64 a0_7, .int .i64 a0_8, .int .i64 a0_9, .int .i64 a0_10, .slice A870 y869.length c871, .int .i64 a0_12, .int .i64 a0_13, .int .i64 a0_14, .int .i64 a0_15, .bool a0_16, .int .i64 a0_17] 30), (g733, cl [.int .i64 a2_0, .int .i64 a2_1, .int .i64 a2_2, .int .i64 a2_3, .int .i64 a2_4, .int .i64 a2_5, .int .i64 a2_6] 41), (g732, cl [.string a1_0, .int .i64 a1_1, .int .i64 a1_2, .int .i64 a1_3, .int .i64 a1_4, .int .i64 a1_5, .int .i64 a1_6, .int .i64 a1_7, .int .i64 a1_8, .int .i64 a1_9, .int .i64 a1_10, .int .i64 a1_11, .int .i64 a1_12] 32), (g731, cl [.string a0_0, .string a0_1, .string a0_2, .int .i64 a0_3, .int .i64 a0_4, .int .i64 a0_5, .int .i64 a0_6, .int .i64 a0_7, .int .i64 a0_8, .int .i64 a0_9, .int .i64 a0_10, .slice Aa0_11 a0_11.length ca0_11, .int .i64 a0_12, .int .i64 a0_13, .int .i64 a0_14, .int .i64 a0_15, .bool a0_16, .int .i64 a0_17] 30)]) rfl (by kernel_rfl) rfl (by kernel_rfl) rfl (by kernel_rfl) ?_
                          refine LL.done (s' := [(4, .pointer (some ⟨g732, 0, none⟩)), (6, .bool false), (7, .int .i64 x738), (8, .int .i64 x739), (10, .pointer (some ⟨g895, 0, none⟩))]) [4, 6, 7, 8, 10] (by kernel_rfl) ?_
                          refine NN.then ?_
                          refine J.seq ?_
                          refine J.plain ?_
                          refine LL.op (.pointer (some ⟨g895, 13, none⟩)) (by kernel_rfl) (fun w _ => by kernel_rfl) ?_
                          refine LL.op (.pointer (some ⟨g895, 13, none⟩)) (by kernel_rfl) (fun w _ => by kernel_rfl) ?_
                          refine LL.op (.int .i64 a0_13) (by kernel_rfl) (ld 0 g895 13 rfl (by kernel_rfl) rfl (by kernel_rfl)) ?_
                          refine LL.op (.int .i64 (IntKind.i64.wrap (a0_13 + 300))) (by kernel_rfl) (fun w _ => by kernel_rfl) ?_
                          refine LL.op (.int .i64 (mn 20000 (IntKind.i64.wrap (a0_13 + 300)))) (by kernel_rfl) (fun w _ => by kernel_rfl) ?_
                          refine LL.op (.pointer (some ⟨g895, 13, none⟩)) (by kernel_rfl) (fun w _ => by kernel_rfl) ?_
                          refine LL.op (.pointer (some ⟨g895, 13, none⟩)) (by kernel_rfl) (fun w _ => by kernel_rfl) ?_
                          refine LL.store 0 g895 13 3 (.tmp 94) (.tmp 92) [.string a0_0, .string a0_1, .string a0_2, .int .i64 a0_3, .int .i64 a0_4, .int .i64 a0_5, .int .i64 a0_6, .int .i64 a0_7, .int .i64 a0_8, .int .i64 a0_9, .int .i64 a0_10, .slice Aa0_11 a0_11.length ca0_11, .int .i64 a0_12, .int .i64 (mn 20000 (IntKind.i64.wrap (a0_13 + 300))), .int .i64 (mn 20000 (IntKind.i64.wrap (a0_14 + 500))), .int .i64 a0_15, .bool a0_16, .int .i64 a0_17] (bs' := [(g895, cl [.string a0_0, .string a0_1, .string a0_2, .int .i64 a0_3, .int .i64 a0_4, .int .i64 a0_5, .int .i64 a0_6, .int .i64 a0_7, .int .i64 a0_8, .int .i64 a0_9, .int .i64 a0_10, .slice Aa0_11 a0_11.length ca0_11, .int .i64 a0_12, .int .i64 (mn 20000 (IntKind.i64.wrap (a0_13 + 300))), .int .i64 (mn 20000 (IntKind.i64.wrap (a0_14 + 500))), .int .i64 a0_15, .bool a0_16, .int .i64 a0_17] 30), (g744, cl [.string a0_0, .string a0_1, .string a0_2, .int .i64 a0_3, .int .i64 a0_4, .int .i64 a0_5, .int .i64 a0_6, .int .i64 a0_7, .int .i64 a0_8, .int .i64 a0_9, .int .i64 a0_10, .slice A870 y869.length c871, .int .i64 a0_12, .int .i64 a0_13, .int .i64 a0_14, .int .i64 a0_15, .bool a0_16, .int .i64 a0_17] 30), (g733, cl [.int .i64 a2_0, .int .i64 a2_1, .int .i64 a2_2, .int .i64 a2_3, .int .i64 a2_4, .int .i64 a2_5, .int .i64 a2_6] 41), (g732, cl [.string a1_0, .int .i64 a1_1, .int .i64 a1_2, .int .i64 a1_3, .int .i64 a1_4, .int .i64 a1_5, .int .i64 a1_6, .int .i64 a1_7, .int .i64 a1_8, .int .i64 a1_9, .int .i64 a1_10, .int .i64 a1_11, .int .i64 a1_12] 32), (g731, cl [.string a0_0, .string a0_1, .string a0_2, .int .i64 a0_3, .int .i64 a0_4, .int .i64 a0_5, .int .i64 a0_6, .int .i64 a0_7, .int .i64 a0_8, .int .i64 a0_9, .int .i64 a0_10, .slice Aa0_11 a0_11.length ca0_11, .int .i64 a0_12, .int .i64 a0_13, .int .i64 a0_14, .int .i64 a0_15, .bool a0_16, .int .i64 a0_17] 30)]) rfl (by kernel_rfl) rfl (by kernel_rfl) rfl (by kernel_rfl) ?_
                          refine LL.done (s' := [(4, .pointer (some ⟨g732, 0, none⟩)), (6, .bool false), (7, .int .i64 x738), (8, .int .i64 x739), (10, .pointer (some ⟨g895, 0, none⟩))]) [4, 6, 7, 8, 10] (by kernel_rfl) ?_
                          refine NN.then ?_
                          refine J.seq ?_
                          refine J.plain ?_
                          refine LL.op (.agg #[.string a0_0, .string a0_1, .string a0_2, .int .i64 a0_3, .int .i64 a0_4, .int .i64 a0_5, .int .i64 a0_6, .int .i64 a0_7, .int .i64 a0_8, .int .i64 a0_9, .int .i64 a0_10, .slice Aa0_11 a0_11.length ca0_11, .int .i64 a0_12, .int .i64 (mn 20000 (IntKind.i64.wrap (a0_13 + 300))), .int .i64 (mn 20000 (IntKind.i64.wrap (a0_14 + 500))), .int .i64 a0_15, .bool a0_16, .int .i64 a0_17]) (by kernel_rfl) (ld 0 g895 0 rfl (by kernel_rfl) rfl (by kernel_rfl)) ?_
                          refine LL.op (.agg #[.string a1_0, .int .i64 a1_1, .int .i64 a1_2, .int .i64 a1_3, .int .i64 a1_4, .int .i64 a1_5, .int .i64 a1_6, .int .i64 a1_7, .int .i64 a1_8, .int .i64 a1_9, .int .i64 a1_10, .int .i64 a1_11, .int .i64 a1_12]) (by kernel_rfl) (ld 3 g732 0 rfl (by kernel_rfl) rfl (by kernel_rfl)) ?_
                          obtain ⟨x896, hx896, H⟩ := bind_some H
                          refine LL.call 20 #[.agg #[.string a0_0, .string a0_1, .string a0_2, .int .i64 a0_3, .int .i64 a0_4, .int .i64 a0_5, .int .i64 a0_6, .int .i64 a0_7, .int .i64 a0_8, .int .i64 a0_9, .int .i64 a0_10, .slice Aa0_11 a0_11.length ca0_11, .int .i64 a0_12, .int .i64 (mn 20000 (IntKind.i64.wrap (a0_13 + 300))), .int .i64 (mn 20000 (IntKind.i64.wrap (a0_14 + 500))), .int .i64 a0_15, .bool a0_16, .int .i64 a0_17], .agg #[.string a1_0, .int .i64 a1_1, .int .i64 a1_2, .int .i64 a1_3, .int .i64 a1_4, .int .i64 a1_5, .int .i64 a1_6, .int .i64 a1_7, .int .i64 a1_8, .int .i64 a1_9, .int .i64 a1_10, .int .i64 a1_11, .int .i64 a1_12]] (.int .i64 x896) (by kernel_rfl) (fun w => by kernel_rfl) (fun w hw => strength_Stiffness.calls K a0_0 a0_1 a0_2 a0_3 a0_4 a0_5 a0_6 a0_7 a0_8 a0_9 a0_10 a0_11 a0_12 (mn 20000 (IntKind.i64.wrap (a0_13 + 300))) (mn 20000 (IntKind.i64.wrap (a0_14 + 500))) a0_15 a0_16 a0_17 a1_0 a1_1 a1_2 a1_3 a1_4 a1_5 a1_6 a1_7 a1_8 a1_9 a1_10 a1_11 a1_12  _ _ _ w  (((ha0_11.le le856).le le877).at hw) hx896) ?_
                          refine LL.op (.int .i64 x738) (by kernel_rfl) (fun w _ => by kernel_rfl) ?_
                          refine LL.op (.bool (decide (x896 ≤ x738))) (by kernel_rfl) (fun w _ => by kernel_rfl) ?_
                          refine LL.op (.bool (decide (x896 ≤ x738))) (by kernel_rfl) (fun w _ => by kernel_rfl) ?_
                          rcases Bool.eq_false_or_eq_true (decide (x896 ≤ x738)) with c897 | c897
                          · rw [if_pos (of_decide_eq_true c897)] at H
                            refine LL.bool 100 (decide (x896 ≤ x738)) true c897 (by kernel_rfl) ?_
                            refine LL.op (.agg #[.string a0_0, .string a0_1, .string a0_2, .int .i64 a0_3, .int .i64 a0_4, .int .i64 a0_5, .int .i64 a0_6, .int .i64 a0_7, .int .i64 a0_8, .int .i64 a0_9, .int .i64 a0_10, .slice Aa0_11 a0_11.length ca0_11, .int .i64 a0_12, .int .i64 (mn 20000 (IntKind.i64.wrap (a0_13 + 300))), .int .i64 (mn 20000 (IntKind.i64.wrap (a0_14 + 500))), .int .i64 a0_15, .bool a0_16, .int .i64 a0_17]) (by kernel_rfl) (ld 0 g895 0 rfl (by kernel_rfl) rfl (by kernel_rfl)) ?_
                            obtain ⟨x898, hx898, H⟩ := bind_some H
                            refine LL.call 18 #[.agg #[.string a0_0, .string a0_1, .string a0_2, .int .i64 a0_3, .int .i64 a0_4, .int .i64 a0_5, .int .i64 a0_6, .int .i64 a0_7, .int .i64 a0_8, .int .i64 a0_9, .int .i64 a0_10, .slice Aa0_11 a0_11.length ca0_11, .int .i64 a0_12, .int .i64 (mn 20000 (IntKind.i64.wrap (a0_13 + 300))), .int .i64 (mn 20000 (IntKind.i64.wrap (a0_14 + 500))), .int .i64 a0_15, .bool a0_16, .int .i64 a0_17]] (.int .i64 x898) (by kernel_rfl) (fun w => by kernel_rfl) (fun w hw => strength_Knots.calls K a0_0 a0_1 a0_2 a0_3 a0_4 a0_5 a0_6 a0_7 a0_8 a0_9 a0_10 a0_11 a0_12 (mn 20000 (IntKind.i64.wrap (a0_13 + 300))) (mn 20000 (IntKind.i64.wrap (a0_14 + 500))) a0_15 a0_16 a0_17  _ _ _ w  (((ha0_11.le le856).le le877).at hw) hx898) ?_
                            refine LL.op (.int .i64 x739) (by kernel_rfl) (fun w _ => by kernel_rfl) ?_
                            refine LL.op (.bool (x898 == x739)) (by kernel_rfl) (fun w _ => by kernel_rfl) ?_
                            refine LL.op (.bool (x898 == x739)) (by kernel_rfl) (fun w _ => by kernel_rfl) ?_
                            refine LL.op (.bool (x898 == x739)) (by kernel_rfl) (fun w _ => by kernel_rfl) ?_
                            rcases Bool.eq_false_or_eq_true ((x898 == x739)) with c899 | c899
                            · rw [if_pos (eq_of_beq c899)] at H
                              refine LL.bool 106 ((x898 == x739)) true c899 (by kernel_rfl) ?_
                              obtain ⟨x900, hx900, H⟩ := bind_some H
                              refine LL.call 17 #[] (.bool x900) (by kernel_rfl) (fun w => by kernel_rfl) (fun w hw => sawmilllaw41_awake.calls K    _ w   hx900) ?_
                              refine LL.op (.bool x900) (by kernel_rfl) (fun w _ => by kernel_rfl) ?_
                              refine LL.op (.bool x900) (by kernel_rfl) (fun w _ => by kernel_rfl) ?_
                              refine LL.done (s' := [(6, .bool x900)]) [6] (by kernel_rfl) ?_
                              refine NN.then ?_
                              refine J.ret ?_
                              refine NN.fin1 6 (.bool x900) (by kernel_rfl) (by kernel_rfl) (.inl rfl) (fun w hi => hi.ret ?_)
                              first | (cases H; rfl) | (obtain rfl := Option.some.inj H; rfl) | (simp only [Option.some.injEq, Prod.mk.injEq] at H; obtain ⟨rfl⟩ := H; rfl)
                            · rw [if_neg (nebf c899)] at H
                              refine LL.bool 106 ((x898 == x739)) false c899 (by kernel_rfl) ?_
                              refine LL.off (by kernel_rfl) (by kernel_rfl) ?_
                              refine LL.op (.bool false) (by kernel_rfl) (fun w _ => by kernel_rfl) ?_
                              refine LL.op (.bool false) (by kernel_rfl) (fun w _ => by kernel_rfl) ?_
                              refine LL.done (s' := [(6, .bool false)]) [6] (by kernel_rfl) ?_
                              refine NN.then ?_
                              refine J.ret ?_
                              refine NN.fin1 6 (.bool false) (by kernel_rfl) (by kernel_rfl) (.inl rfl) (fun w hi => hi.ret ?_)
                              first | (cases H; rfl) | (obtain rfl := Option.some.inj H; rfl) | (simp only [Option.some.injEq, Prod.mk.injEq] at H; obtain ⟨rfl⟩ := H; rfl)
                          · rw [if_neg (of_decide_eq_false c897)] at H
                            refine LL.bool 100 (decide (x896 ≤ x738)) false c897 (by kernel_rfl) ?_
                            refine LL.off (by kernel_rfl) (by kernel_rfl) ?_
                            refine LL.off (by kernel_rfl) (by kernel_rfl) ?_
                            refine LL.off (by kernel_rfl) (by kernel_rfl) ?_
                            refine LL.off (by kernel_rfl) (by kernel_rfl) ?_
                            refine LL.op (.bool false) (by kernel_rfl) (fun w _ => by kernel_rfl) ?_
                            refine LL.op (.bool false) (by kernel_rfl) (fun w _ => by kernel_rfl) ?_
                            refine LL.off (by kernel_rfl) (by kernel_rfl) ?_
                            refine LL.op (.bool false) (by kernel_rfl) (fun w _ => by kernel_rfl) ?_
                            refine LL.op (.bool false) (by kernel_rfl) (fun w _ => by kernel_rfl) ?_
                            refine LL.done (s' := [(6, .bool false)]) [6] (by kernel_rfl) ?_
                            refine NN.then ?_
                            refine J.ret ?_
                            refine NN.fin1 6 (.bool false) (by kernel_rfl) (by kernel_rfl) (.inl rfl) (fun w hi => hi.ret ?_)
                            first | (cases H; rfl) | (obtain rfl := Option.some.inj H; rfl) | (simp only [Option.some.injEq, Prod.mk.injEq] at H; obtain ⟨rfl⟩ := H; rfl)
                        · rw [if_neg (nebf c894)] at H
                          refine J.condT (b := !(x884 == x739)) (by rw [show (!(x884 == x739)) = !((x884 == x739)) from rfl, c894]; rfl) (by kernel_rfl) (by kernel_rfl) ?_
                          refine J.seq ?_
                          refine J.plain ?_
                          refine LL.op (.bool false) (by kernel_rfl) (fun w _ => by kernel_rfl) ?_
                          refine LL.done (s' := [(3, .pointer (some ⟨g731, 0, none⟩)), (4, .pointer (some ⟨g732, 0, none⟩)), (6, .bool false), (7, .int .i64 x738), (8, .int .i64 x739)]) [3, 4, 6, 7, 8] (by kernel_rfl) ?_
                          refine NN.then ?_
                          refine J.ret ?_
                          refine NN.then_ret ?_
                          refine NN.fin1 6 (.bool false) (by kernel_rfl) (by kernel_rfl) (.inl rfl) (fun w hi => hi.ret ?_)
                          first | (cases H; rfl) | (obtain rfl := Option.some.inj H; rfl) | (simp only [Option.some.injEq, Prod.mk.injEq] at H; obtain ⟨rfl⟩ := H; rfl)
                · rw [if_neg (nebf c881)] at H
                  refine LL.bool 56 ((x880 == 0)) false c881 (by kernel_rfl) ?_
                  refine LL.off (by kernel_rfl) (by kernel_rfl) ?_
                  refine LL.off (by kernel_rfl) (by kernel_rfl) ?_
                  refine LL.off (by kernel_rfl) (by kernel_rfl) ?_
                  refine LL.off (by kernel_rfl) (by kernel_rfl) ?_
                  refine LL.off (by kernel_rfl) (by kernel_rfl) ?_
                  refine LL.off (by kernel_rfl) (by kernel_rfl) ?_
                  refine LL.off (by kernel_rfl) (by kernel_rfl) ?_
                  refine LL.off (by kernel_rfl) (by kernel_rfl) ?_
                  refine LL.off (by kernel_rfl) (by kernel_rfl) ?_
                  refine LL.off (by kernel_rfl) (by kernel_rfl) ?_
                  refine LL.off (by kernel_rfl) (by kernel_rfl) ?_
                  refine LL.off (by kernel_rfl) (by kernel_rfl) ?_
                  refine LL.off (by kernel_rfl) (by kernel_rfl) ?_
                  refine LL.off (by kernel_rfl) (by kernel_rfl) ?_
                  refine LL.off (by kernel_rfl) (by kernel_rfl) ?_
                  refine LL.off (by kernel_rfl) (by kernel_rfl) ?_
                  refine LL.off (by kernel_rfl) (by kernel_rfl) ?_
                  refine LL.off (by kernel_rfl) (by kernel_rfl) ?_
                  refine LL.off (by kernel_rfl) (by kernel_rfl) ?_
                  refine LL.off (by kernel_rfl) (by kernel_rfl) ?_
                  refine LL.off (by kernel_rfl) (by kernel_rfl) ?_
                  refine LL.off (by kernel_rfl) (by kernel_rfl) ?_
                  refine LL.op (.bool false) (by kernel_rfl) (fun w _ => by kernel_rfl) ?_
                  refine LL.done (s' := [(3, .pointer (some ⟨g731, 0, none⟩)), (4, .pointer (some ⟨g732, 0, none⟩)), (6, .bool false), (7, .int .i64 x738), (8, .int .i64 x739), (79, .bool false)]) [3, 4, 6, 7, 8, 79] (by kernel_rfl) ?_
                  refine NN.then ?_
                  refine J.condF (b := false) rfl (by kernel_rfl) (by kernel_rfl) ?_
                  refine J.skip ?_
                  refine NN.then ?_
                  refine J.seq ?_
                  refine J.plain ?_
                  refine LL.op (.agg #[.string a0_0, .string a0_1, .string a0_2, .int .i64 a0_3, .int .i64 a0_4, .int .i64 a0_5, .int .i64 a0_6, .int .i64 a0_7, .int .i64 a0_8, .int .i64 a0_9, .int .i64 a0_10, .slice Aa0_11 a0_11.length ca0_11, .int .i64 a0_12, .int .i64 a0_13, .int .i64 a0_14, .int .i64 a0_15, .bool a0_16, .int .i64 a0_17]) (by kernel_rfl) (ld 3 g731 0 rfl (by kernel_rfl) rfl (by kernel_rfl)) ?_
                  refine LL.alloc 30 [.string (⟨#[]⟩ : ByteArray), .string (⟨#[]⟩ : ByteArray), .string (⟨#[]⟩ : ByteArray), .int .i64 0, .int .i64 0, .int .i64 0, .int .i64 0, .int .i64 0, .int .i64 0, .int .i64 0, .int .i64 0, .slice none 0 0, .int .i64 0, .int .i64 0, .int .i64 0, .int .i64 0, .bool false, .int .i64 0] (by kernel_rfl) rfl (by kernel_rfl) (fun g901 => ?_)
                  refine LL.store 0 g901 0 30 (.tmp 10) (.tmp 80) [.string a0_0, .string a0_1, .string a0_2, .int .i64 a0_3, .int .i64 a0_4, .int .i64 a0_5, .int .i64 a0_6, .int .i64 a0_7, .int .i64 a0_8, .int .i64 a0_9, .int .i64 a0_10, .slice Aa0_11 a0_11.length ca0_11, .int .i64 a0_12, .int .i64 a0_13, .int .i64 a0_14, .int .i64 a0_15, .bool a0_16, .int .i64 a0_17] (bs' := [(g901, cl [.string a0_0, .string a0_1, .string a0_2, .int .i64 a0_3, .int .i64 a0_4, .int .i64 a0_5, .int .i64 a0_6, .int .i64 a0_7, .int .i64 a0_8, .int .i64 a0_9, .int .i64 a0_10, .slice Aa0_11 a0_11.length ca0_11, .int .i64 a0_12, .int .i64 a0_13, .int .i64 a0_14, .int .i64 a0_15, .bool a0_16, .int .i64 a0_17] 30), (g744, cl [.string a0_0, .string a0_1, .string a0_2, .int .i64 a0_3, .int .i64 a0_4, .int .i64 a0_5, .int .i64 a0_6, .int .i64 a0_7, .int .i64 a0_8, .int .i64 a0_9, .int .i64 a0_10, .slice A870 y869.length c871, .int .i64 a0_12, .int .i64 a0_13, .int .i64 a0_14, .int .i64 a0_15, .bool a0_16, .int .i64 a0_17] 30), (g733, cl [.int .i64 a2_0, .int .i64 a2_1, .int .i64 a2_2, .int .i64 a2_3, .int .i64 a2_4, .int .i64 a2_5, .int .i64 a2_6] 41), (g732, cl [.string a1_0, .int .i64 a1_1, .int .i64 a1_2, .int .i64 a1_3, .int .i64 a1_4, .int .i64 a1_5, .int .i64 a1_6, .int .i64 a1_7, .int .i64 a1_8, .int .i64 a1_9, .int .i64 a1_10, .int .i64 a1_11, .int .i64 a1_12] 32), (g731, cl [.string a0_0, .string a0_1, .string a0_2, .int .i64 a0_3, .int .i64 a0_4, .int .i64 a0_5, .int .i64 a0_6, .int .i64 a0_7, .int .i64 a0_8, .int .i64 a0_9, .int .i64 a0_10, .slice Aa0_11 a0_11.length ca0_11, .int .i64 a0_12, .int .i64 a0_13, .int .i64 a0_14, .int .i64 a0_15, .bool a0_16, .int .i64 a0_17] 30)]) rfl (by kernel_rfl) rfl (by kernel_rfl) rfl (by kernel_rfl) ?_
                  refine LL.done (s' := [(4, .pointer (some ⟨g732, 0, none⟩)), (6, .bool false), (7, .int .i64 x738), (8, .int .i64 x739), (10, .pointer (some ⟨g901, 0, none⟩))]) [4, 6, 7, 8, 10] (by kernel_rfl) ?_
                  refine NN.then ?_
                  refine J.seq ?_
                  refine J.plain ?_
                  refine LL.op (.pointer (some ⟨g901, 13, none⟩)) (by kernel_rfl) (fun w _ => by kernel_rfl) ?_
                  refine LL.op (.pointer (some ⟨g901, 14, none⟩)) (by kernel_rfl) (fun w _ => by kernel_rfl) ?_
                  refine LL.op (.int .i64 a0_14) (by kernel_rfl) (ld 0 g901 14 rfl (by kernel_rfl) rfl (by kernel_rfl)) ?_
                  refine LL.op (.int .i64 (IntKind.i64.wrap (a0_14 + 500))) (by kernel_rfl) (fun w _ => by kernel_rfl) ?_
                  refine LL.op (.int .i64 (mn 20000 (IntKind.i64.wrap (a0_14 + 500)))) (by kernel_rfl) (fun w _ => by kernel_rfl) ?_
                  refine LL.op (.pointer (some ⟨g901, 13, none⟩)) (by kernel_rfl) (fun w _ => by kernel_rfl) ?_
                  refine LL.op (.pointer (some ⟨g901, 14, none⟩)) (by kernel_rfl) (fun w _ => by kernel_rfl) ?_
                  refine LL.store 0 g901 14 3 (.tmp 87) (.tmp 85) [.string a0_0, .string a0_1, .string a0_2, .int .i64 a0_3, .int .i64 a0_4, .int .i64 a0_5, .int .i64 a0_6, .int .i64 a0_7, .int .i64 a0_8, .int .i64 a0_9, .int .i64 a0_10, .slice Aa0_11 a0_11.length ca0_11, .int .i64 a0_12, .int .i64 a0_13, .int .i64 (mn 20000 (IntKind.i64.wrap (a0_14 + 500))), .int .i64 a0_15, .bool a0_16, .int .i64 a0_17] (bs' := [(g901, cl [.string a0_0, .string a0_1, .string a0_2, .int .i64 a0_3, .int .i64 a0_4, .int .i64 a0_5, .int .i64 a0_6, .int .i64 a0_7, .int .i64 a0_8, .int .i64 a0_9, .int .i64 a0_10, .slice Aa0_11 a0_11.length ca0_11, .int .i64 a0_12, .int .i64 a0_13, .int .i64 (mn 20000 (IntKind.i64.wrap (a0_14 + 500))), .int .i64 a0_15, .bool a0_16, .int .i64 a0_17] 30), (g744, cl [.string a0_0, .string a0_1, .string a0_2, .int .i64 a0_3, .int .i64 a0_4, .int .i64 a0_5, .int .i64 a0_6, .int .i64 a0_7, .int .i64 a0_8, .int .i64 a0_9, .int .i64 a0_10, .slice A870 y869.length c871, .int .i64 a0_12, .int .i64 a0_13, .int .i64 a0_14, .int .i64 a0_15, .bool a0_16, .int .i64 a0_17] 30), (g733, cl [.int .i64 a2_0, .int .i64 a2_1, .int .i64 a2_2, .int .i64 a2_3, .int .i64 a2_4, .int .i64 a2_5, .int .i64 a2_6] 41), (g732, cl [.string a1_0, .int .i64 a1_1, .int .i64 a1_2, .int .i64 a1_3, .int .i64 a1_4, .int .i64 a1_5, .int .i64 a1_6, .int .i64 a1_7, .int .i64 a1_8, .int .i64 a1_9, .int .i64 a1_10, .int .i64 a1_11, .int .i64 a1_12] 32), (g731, cl [.string a0_0, .string a0_1, .string a0_2, .int .i64 a0_3, .int .i64 a0_4, .int .i64 a0_5, .int .i64 a0_6, .int .i64 a0_7, .int .i64 a0_8, .int .i64 a0_9, .int .i64 a0_10, .slice Aa0_11 a0_11.length ca0_11, .int .i64 a0_12, .int .i64 a0_13, .int .i64 a0_14, .int .i64 a0_15, .bool a0_16, .int .i64 a0_17] 30)]) rfl (by kernel_rfl) rfl (by kernel_rfl) rfl (by kernel_rfl) ?_
                  refine LL.done (s' := [(4, .pointer (some ⟨g732, 0, none⟩)), (6, .bool false), (7, .int .i64 x738), (8, .int .i64 x739), (10, .pointer (some ⟨g901, 0, none⟩))]) [4, 6, 7, 8, 10] (by kernel_rfl) ?_
                  refine NN.then ?_
                  refine J.seq ?_
                  refine J.plain ?_
                  refine LL.op (.pointer (some ⟨g901, 13, none⟩)) (by kernel_rfl) (fun w _ => by kernel_rfl) ?_
                  refine LL.op (.pointer (some ⟨g901, 13, none⟩)) (by kernel_rfl) (fun w _ => by kernel_rfl) ?_
                  refine LL.op (.int .i64 a0_13) (by kernel_rfl) (ld 0 g901 13 rfl (by kernel_rfl) rfl (by kernel_rfl)) ?_
                  refine LL.op (.int .i64 (IntKind.i64.wrap (a0_13 + 300))) (by kernel_rfl) (fun w _ => by kernel_rfl) ?_
                  refine LL.op (.int .i64 (mn 20000 (IntKind.i64.wrap (a0_13 + 300)))) (by kernel_rfl) (fun w _ => by kernel_rfl) ?_
                  refine LL.op (.pointer (some ⟨g901, 13, none⟩)) (by kernel_rfl) (fun w _ => by kernel_rfl) ?_
                  refine LL.op (.pointer (some ⟨g901, 13, none⟩)) (by kernel_rfl) (fun w _ => by kernel_rfl) ?_
                  refine LL.store 0 g901 13 3 (.tmp 94) (.tmp 92) [.string a0_0, .string a0_1, .string a0_2, .int .i64 a0_3, .int .i64 a0_4, .int .i64 a0_5, .int .i64 a0_6, .int .i64 a0_7, .int .i64 a0_8, .int .i64 a0_9, .int .i64 a0_10, .slice Aa0_11 a0_11.length ca0_11, .int .i64 a0_12, .int .i64 (mn 20000 (IntKind.i64.wrap (a0_13 + 300))), .int .i64 (mn 20000 (IntKind.i64.wrap (a0_14 + 500))), .int .i64 a0_15, .bool a0_16, .int .i64 a0_17] (bs' := [(g901, cl [.string a0_0, .string a0_1, .string a0_2, .int .i64 a0_3, .int .i64 a0_4, .int .i64 a0_5, .int .i64 a0_6, .int .i64 a0_7, .int .i64 a0_8, .int .i64 a0_9, .int .i64 a0_10, .slice Aa0_11 a0_11.length ca0_11, .int .i64 a0_12, .int .i64 (mn 20000 (IntKind.i64.wrap (a0_13 + 300))), .int .i64 (mn 20000 (IntKind.i64.wrap (a0_14 + 500))), .int .i64 a0_15, .bool a0_16, .int .i64 a0_17] 30), (g744, cl [.string a0_0, .string a0_1, .string a0_2, .int .i64 a0_3, .int .i64 a0_4, .int .i64 a0_5, .int .i64 a0_6, .int .i64 a0_7, .int .i64 a0_8, .int .i64 a0_9, .int .i64 a0_10, .slice A870 y869.length c871, .int .i64 a0_12, .int .i64 a0_13, .int .i64 a0_14, .int .i64 a0_15, .bool a0_16, .int .i64 a0_17] 30), (g733, cl [.int .i64 a2_0, .int .i64 a2_1, .int .i64 a2_2, .int .i64 a2_3, .int .i64 a2_4, .int .i64 a2_5, .int .i64 a2_6] 41), (g732, cl [.string a1_0, .int .i64 a1_1, .int .i64 a1_2, .int .i64 a1_3, .int .i64 a1_4, .int .i64 a1_5, .int .i64 a1_6, .int .i64 a1_7, .int .i64 a1_8, .int .i64 a1_9, .int .i64 a1_10, .int .i64 a1_11, .int .i64 a1_12] 32), (g731, cl [.string a0_0, .string a0_1, .string a0_2, .int .i64 a0_3, .int .i64 a0_4, .int .i64 a0_5, .int .i64 a0_6, .int .i64 a0_7, .int .i64 a0_8, .int .i64 a0_9, .int .i64 a0_10, .slice Aa0_11 a0_11.length ca0_11, .int .i64 a0_12, .int .i64 a0_13, .int .i64 a0_14, .int .i64 a0_15, .bool a0_16, .int .i64 a0_17] 30)]) rfl (by kernel_rfl) rfl (by kernel_rfl) rfl (by kernel_rfl) ?_
                  refine LL.done (s' := [(4, .pointer (some ⟨g732, 0, none⟩)), (6, .bool false), (7, .int .i64 x738), (8, .int .i64 x739), (10, .pointer (some ⟨g901, 0, none⟩))]) [4, 6, 7, 8, 10] (by kernel_rfl) ?_
                  refine NN.then ?_
                  refine J.seq ?_
                  refine J.plain ?_
                  refine LL.op (.agg #[.string a0_0, .string a0_1, .string a0_2, .int .i64 a0_3, .int .i64 a0_4, .int .i64 a0_5, .int .i64 a0_6, .int .i64 a0_7, .int .i64 a0_8, .int .i64 a0_9, .int .i64 a0_10, .slice Aa0_11 a0_11.length ca0_11, .int .i64 a0_12, .int .i64 (mn 20000 (IntKind.i64.wrap (a0_13 + 300))), .int .i64 (mn 20000 (IntKind.i64.wrap (a0_14 + 500))), .int .i64 a0_15, .bool a0_16, .int .i64 a0_17]) (by kernel_rfl) (ld 0 g901 0 rfl (by kernel_rfl) rfl (by kernel_rfl)) ?_
                  refine LL.op (.agg #[.string a1_0, .int .i64 a1_1, .int .i64 a1_2, .int .i64 a1_3, .int .i64 a1_4, .int .i64 a1_5, .int .i64 a1_6, .int .i64 a1_7, .int .i64 a1_8, .int .i64 a1_9, .int .i64 a1_10, .int .i64 a1_11, .int .i64 a1_12]) (by kernel_rfl) (ld 3 g732 0 rfl (by kernel_rfl) rfl (by kernel_rfl)) ?_
                  obtain ⟨x902, hx902, H⟩ := bind_some H
                  refine LL.call 20 #[.agg #[.string a0_0, .string a0_1, .string a0_2, .int .i64 a0_3, .int .i64 a0_4, .int .i64 a0_5, .int .i64 a0_6, .int .i64 a0_7, .int .i64 a0_8, .int .i64 a0_9, .int .i64 a0_10, .slice Aa0_11 a0_11.length ca0_11, .int .i64 a0_12, .int .i64 (mn 20000 (IntKind.i64.wrap (a0_13 + 300))), .int .i64 (mn 20000 (IntKind.i64.wrap (a0_14 + 500))), .int .i64 a0_15, .bool a0_16, .int .i64 a0_17], .agg #[.string a1_0, .int .i64 a1_1, .int .i64 a1_2, .int .i64 a1_3, .int .i64 a1_4, .int .i64 a1_5, .int .i64 a1_6, .int .i64 a1_7, .int .i64 a1_8, .int .i64 a1_9, .int .i64 a1_10, .int .i64 a1_11, .int .i64 a1_12]] (.int .i64 x902) (by kernel_rfl) (fun w => by kernel_rfl) (fun w hw => strength_Stiffness.calls K a0_0 a0_1 a0_2 a0_3 a0_4 a0_5 a0_6 a0_7 a0_8 a0_9 a0_10 a0_11 a0_12 (mn 20000 (IntKind.i64.wrap (a0_13 + 300))) (mn 20000 (IntKind.i64.wrap (a0_14 + 500))) a0_15 a0_16 a0_17 a1_0 a1_1 a1_2 a1_3 a1_4 a1_5 a1_6 a1_7 a1_8 a1_9 a1_10 a1_11 a1_12  _ _ _ w  (((ha0_11.le le856).le le877).at hw) hx902) ?_
                  refine LL.op (.int .i64 x738) (by kernel_rfl) (fun w _ => by kernel_rfl) ?_
                  refine LL.op (.bool (decide (x902 ≤ x738))) (by kernel_rfl) (fun w _ => by kernel_rfl) ?_
                  refine LL.op (.bool (decide (x902 ≤ x738))) (by kernel_rfl) (fun w _ => by kernel_rfl) ?_
                  rcases Bool.eq_false_or_eq_true (decide (x902 ≤ x738)) with c903 | c903
                  · rw [if_pos (of_decide_eq_true c903)] at H
                    refine LL.bool 100 (decide (x902 ≤ x738)) true c903 (by kernel_rfl) ?_
                    refine LL.op (.agg #[.string a0_0, .string a0_1, .string a0_2, .int .i64 a0_3, .int .i64 a0_4, .int .i64 a0_5, .int .i64 a0_6, .int .i64 a0_7, .int .i64 a0_8, .int .i64 a0_9, .int .i64 a0_10, .slice Aa0_11 a0_11.length ca0_11, .int .i64 a0_12, .int .i64 (mn 20000 (IntKind.i64.wrap (a0_13 + 300))), .int .i64 (mn 20000 (IntKind.i64.wrap (a0_14 + 500))), .int .i64 a0_15, .bool a0_16, .int .i64 a0_17]) (by kernel_rfl) (ld 0 g901 0 rfl (by kernel_rfl) rfl (by kernel_rfl)) ?_
                    obtain ⟨x904, hx904, H⟩ := bind_some H
                    refine LL.call 18 #[.agg #[.string a0_0, .string a0_1, .string a0_2, .int .i64 a0_3, .int .i64 a0_4, .int .i64 a0_5, .int .i64 a0_6, .int .i64 a0_7, .int .i64 a0_8, .int .i64 a0_9, .int .i64 a0_10, .slice Aa0_11 a0_11.length ca0_11, .int .i64 a0_12, .int .i64 (mn 20000 (IntKind.i64.wrap (a0_13 + 300))), .int .i64 (mn 20000 (IntKind.i64.wrap (a0_14 + 500))), .int .i64 a0_15, .bool a0_16, .int .i64 a0_17]] (.int .i64 x904) (by kernel_rfl) (fun w => by kernel_rfl) (fun w hw => strength_Knots.calls K a0_0 a0_1 a0_2 a0_3 a0_4 a0_5 a0_6 a0_7 a0_8 a0_9 a0_10 a0_11 a0_12 (mn 20000 (IntKind.i64.wrap (a0_13 + 300))) (mn 20000 (IntKind.i64.wrap (a0_14 + 500))) a0_15 a0_16 a0_17  _ _ _ w  (((ha0_11.le le856).le le877).at hw) hx904) ?_
                    refine LL.op (.int .i64 x739) (by kernel_rfl) (fun w _ => by kernel_rfl) ?_
                    refine LL.op (.bool (x904 == x739)) (by kernel_rfl) (fun w _ => by kernel_rfl) ?_
                    refine LL.op (.bool (x904 == x739)) (by kernel_rfl) (fun w _ => by kernel_rfl) ?_
                    refine LL.op (.bool (x904 == x739)) (by kernel_rfl) (fun w _ => by kernel_rfl) ?_
                    rcases Bool.eq_false_or_eq_true ((x904 == x739)) with c905 | c905
                    · rw [if_pos (eq_of_beq c905)] at H
                      refine LL.bool 106 ((x904 == x739)) true c905 (by kernel_rfl) ?_
                      obtain ⟨x906, hx906, H⟩ := bind_some H
                      refine LL.call 17 #[] (.bool x906) (by kernel_rfl) (fun w => by kernel_rfl) (fun w hw => sawmilllaw41_awake.calls K    _ w   hx906) ?_
                      refine LL.op (.bool x906) (by kernel_rfl) (fun w _ => by kernel_rfl) ?_
                      refine LL.op (.bool x906) (by kernel_rfl) (fun w _ => by kernel_rfl) ?_
                      refine LL.done (s' := [(6, .bool x906)]) [6] (by kernel_rfl) ?_
                      refine NN.then ?_
                      refine J.ret ?_
                      refine NN.fin1 6 (.bool x906) (by kernel_rfl) (by kernel_rfl) (.inl rfl) (fun w hi => hi.ret ?_)
                      first | (cases H; rfl) | (obtain rfl := Option.some.inj H; rfl) | (simp only [Option.some.injEq, Prod.mk.injEq] at H; obtain ⟨rfl⟩ := H; rfl)
                    · rw [if_neg (nebf c905)] at H
                      refine LL.bool 106 ((x904 == x739)) false c905 (by kernel_rfl) ?_
                      refine LL.off (by kernel_rfl) (by kernel_rfl) ?_
                      refine LL.op (.bool false) (by kernel_rfl) (fun w _ => by kernel_rfl) ?_
                      refine LL.op (.bool false) (by kernel_rfl) (fun w _ => by kernel_rfl) ?_
                      refine LL.done (s' := [(6, .bool false)]) [6] (by kernel_rfl) ?_
                      refine NN.then ?_
                      refine J.ret ?_
                      refine NN.fin1 6 (.bool false) (by kernel_rfl) (by kernel_rfl) (.inl rfl) (fun w hi => hi.ret ?_)
                      first | (cases H; rfl) | (obtain rfl := Option.some.inj H; rfl) | (simp only [Option.some.injEq, Prod.mk.injEq] at H; obtain ⟨rfl⟩ := H; rfl)
                  · rw [if_neg (of_decide_eq_false c903)] at H
                    refine LL.bool 100 (decide (x902 ≤ x738)) false c903 (by kernel_rfl) ?_
                    refine LL.off (by kernel_rfl) (by kernel_rfl) ?_
                    refine LL.off (by kernel_rfl) (by kernel_rfl) ?_
                    refine LL.off (by kernel_rfl) (by kernel_rfl) ?_
                    refine LL.off (by kernel_rfl) (by kernel_rfl) ?_
                    refine LL.op (.bool false) (by kernel_rfl) (fun w _ => by kernel_rfl) ?_
                    refine LL.op (.bool false) (by kernel_rfl) (fun w _ => by kernel_rfl) ?_
                    refine LL.off (by kernel_rfl) (by kernel_rfl) ?_
                    refine LL.op (.bool false) (by kernel_rfl) (fun w _ => by kernel_rfl) ?_
                    refine LL.op (.bool false) (by kernel_rfl) (fun w _ => by kernel_rfl) ?_
                    refine LL.done (s' := [(6, .bool false)]) [6] (by kernel_rfl) ?_
                    refine NN.then ?_
                    refine J.ret ?_
                    refine NN.fin1 6 (.bool false) (by kernel_rfl) (by kernel_rfl) (.inl rfl) (fun w hi => hi.ret ?_)
                    first | (cases H; rfl) | (obtain rfl := Option.some.inj H; rfl) | (simp only [Option.some.injEq, Prod.mk.injEq] at H; obtain ⟨rfl⟩ := H; rfl)
    · rw [if_neg (nebt c737)] at H
      refine J.condT (b := !x736) (by rw [show (!x736) = !(x736) from rfl, c737]; rfl) (by kernel_rfl) (by kernel_rfl) ?_
      refine J.seq ?_
      refine J.plain ?_
      obtain ⟨x907, hx907, H⟩ := bind_some H
      refine LL.call 17 #[] (.bool x907) (by kernel_rfl) (fun w => by kernel_rfl) (fun w hw => sawmilllaw41_awake.calls K    _ w   hx907) ?_
      refine LL.op (.bool x907) (by kernel_rfl) (fun w _ => by kernel_rfl) ?_
      refine LL.done (s' := [(3, .pointer (some ⟨g731, 0, none⟩)), (4, .pointer (some ⟨g732, 0, none⟩)), (5, .pointer (some ⟨g733, 0, none⟩)), (6, .bool x907)]) [3, 4, 5, 6] (by kernel_rfl) ?_
      refine NN.then ?_
      refine J.ret ?_
      refine NN.then_ret ?_
      refine NN.fin1 6 (.bool x907) (by kernel_rfl) (by kernel_rfl) (.inl rfl) (fun w hi => hi.ret ?_)
      first | (cases H; rfl) | (obtain rfl := Option.some.inj H; rfl) | (simp only [Option.some.injEq, Prod.mk.injEq] at H; obtain ⟨rfl⟩ := H; rfl)
  · rw [if_neg (nebt c735)] at H
    refine LL.bool 15 (!x734) true (by rw [show (!x734) = !(x734) from rfl, c735]; rfl) (by kernel_rfl) ?_
    refine LL.off (by kernel_rfl) (by kernel_rfl) ?_
    refine LL.off (by kernel_rfl) (by kernel_rfl) ?_
    refine LL.off (by kernel_rfl) (by kernel_rfl) ?_
    refine LL.off (by kernel_rfl) (by kernel_rfl) ?_
    refine LL.op (.bool true) (by kernel_rfl) (fun w _ => by kernel_rfl) ?_
    refine LL.done (s' := [(3, .pointer (some ⟨g731, 0, none⟩)), (4, .pointer (some ⟨g732, 0, none⟩)), (5, .pointer (some ⟨g733, 0, none⟩)), (6, .bool false), (20, .bool true)]) [3, 4, 5, 6, 20] (by kernel_rfl) ?_
    refine NN.then ?_
    refine J.condT (b := true) rfl (by kernel_rfl) (by kernel_rfl) ?_
    refine J.seq ?_
    refine J.plain ?_
    obtain ⟨x908, hx908, H⟩ := bind_some H
    refine LL.call 17 #[] (.bool x908) (by kernel_rfl) (fun w => by kernel_rfl) (fun w hw => sawmilllaw41_awake.calls K    _ w   hx908) ?_
    refine LL.op (.bool x908) (by kernel_rfl) (fun w _ => by kernel_rfl) ?_
    refine LL.done (s' := [(3, .pointer (some ⟨g731, 0, none⟩)), (4, .pointer (some ⟨g732, 0, none⟩)), (5, .pointer (some ⟨g733, 0, none⟩)), (6, .bool x908)]) [3, 4, 5, 6] (by kernel_rfl) ?_
    refine NN.then ?_
    refine J.ret ?_
    refine NN.then_ret ?_
    refine NN.fin1 6 (.bool x908) (by kernel_rfl) (by kernel_rfl) (.inl rfl) (fun w hi => hi.ret ?_)
    first | (cases H; rfl) | (obtain rfl := Option.some.inj H; rfl) | (simp only [Option.some.injEq, Prod.mk.injEq] at H; obtain ⟨rfl⟩ := H; rfl)

end Go.Proofs.Ytfjbhmpnmpphoaa
