/- Walks of functions of the seat: each call does what the Lean function of the same name says. Printed by the session's own program absgen.py. -/
import Derived.Test.YtfjbhmpnmpphoaaF3
namespace Go.Proofs.Ytfjbhmpnmpphoaa
open Go.Saw
set_option linter.unusedVariables false
set_option linter.unusedSimpArgs false

/-! ### sawmilllaw41_awake: function 17 -/
def sawmilllaw41_awake.f (K : Nat)  : Option (Bool) := (sawmilllaw41_example.f ).bind fun bx568 => ((strength_Knots.f K bx568.1 bx568.2.1 bx568.2.2.1 bx568.2.2.2.1 bx568.2.2.2.2.1 bx568.2.2.2.2.2.1 bx568.2.2.2.2.2.2.1 bx568.2.2.2.2.2.2.2.1 bx568.2.2.2.2.2.2.2.2.1 bx568.2.2.2.2.2.2.2.2.2.1 bx568.2.2.2.2.2.2.2.2.2.2.1 bx568.2.2.2.2.2.2.2.2.2.2.2.1 bx568.2.2.2.2.2.2.2.2.2.2.2.2.1 bx568.2.2.2.2.2.2.2.2.2.2.2.2.2.1 bx568.2.2.2.2.2.2.2.2.2.2.2.2.2.2.1 bx568.2.2.2.2.2.2.2.2.2.2.2.2.2.2.2.1 bx568.2.2.2.2.2.2.2.2.2.2.2.2.2.2.2.2.1 bx568.2.2.2.2.2.2.2.2.2.2.2.2.2.2.2.2.2.1).bind fun x578 => (if x578 = 300 then ((strength_Stiffness.f K bx568.1 bx568.2.1 bx568.2.2.1 bx568.2.2.2.1 bx568.2.2.2.2.1 bx568.2.2.2.2.2.1 bx568.2.2.2.2.2.2.1 bx568.2.2.2.2.2.2.2.1 bx568.2.2.2.2.2.2.2.2.1 bx568.2.2.2.2.2.2.2.2.2.1 bx568.2.2.2.2.2.2.2.2.2.2.1 bx568.2.2.2.2.2.2.2.2.2.2.2.1 bx568.2.2.2.2.2.2.2.2.2.2.2.2.1 bx568.2.2.2.2.2.2.2.2.2.2.2.2.2.1 bx568.2.2.2.2.2.2.2.2.2.2.2.2.2.2.1 bx568.2.2.2.2.2.2.2.2.2.2.2.2.2.2.2.1 bx568.2.2.2.2.2.2.2.2.2.2.2.2.2.2.2.2.1 bx568.2.2.2.2.2.2.2.2.2.2.2.2.2.2.2.2.2.1 bx568.2.2.2.2.2.2.2.2.2.2.2.2.2.2.2.2.2.2.1 bx568.2.2.2.2.2.2.2.2.2.2.2.2.2.2.2.2.2.2.2.1 bx568.2.2.2.2.2.2.2.2.2.2.2.2.2.2.2.2.2.2.2.2.1 bx568.2.2.2.2.2.2.2.2.2.2.2.2.2.2.2.2.2.2.2.2.2.1 bx568.2.2.2.2.2.2.2.2.2.2.2.2.2.2.2.2.2.2.2.2.2.2.1 bx568.2.2.2.2.2.2.2.2.2.2.2.2.2.2.2.2.2.2.2.2.2.2.2.1 bx568.2.2.2.2.2.2.2.2.2.2.2.2.2.2.2.2.2.2.2.2.2.2.2.2.1 bx568.2.2.2.2.2.2.2.2.2.2.2.2.2.2.2.2.2.2.2.2.2.2.2.2.2.1 bx568.2.2.2.2.2.2.2.2.2.2.2.2.2.2.2.2.2.2.2.2.2.2.2.2.2.2.1 bx568.2.2.2.2.2.2.2.2.2.2.2.2.2.2.2.2.2.2.2.2.2.2.2.2.2.2.2.1 bx568.2.2.2.2.2.2.2.2.2.2.2.2.2.2.2.2.2.2.2.2.2.2.2.2.2.2.2.2.1 bx568.2.2.2.2.2.2.2.2.2.2.2.2.2.2.2.2.2.2.2.2.2.2.2.2.2.2.2.2.2.1 bx568.2.2.2.2.2.2.2.2.2.2.2.2.2.2.2.2.2.2.2.2.2.2.2.2.2.2.2.2.2.2).bind fun x580 => (if x580 = 8789 then ((strength_Class.f 11000).bind fun x582 => (if x582 = 2 then ((strength_Name.f 2).bind fun x584 => (if x584.toList = (⟨#[67, 50, 52]⟩ : ByteArray).toList then ((strength_Class.f 6999).bind fun x586 => ((strength_Name.f x586).bind fun x587 => (some (x587.toList == (⟨#[]⟩ : ByteArray).toList)))) else (some false))) else (some false))) else (some false))) else (some false)))
set_option maxRecDepth 100000 in
theorem sawmilllaw41_awake.calls (K : Nat)     (r1 : Bool) (w : World)    (h : sawmilllaw41_awake.f K  = some r1) :
    Calls Try.prog 17 #[] w (Ret w (.bool r1)) := by
  have H := h
  clear h
  unfold sawmilllaw41_awake.f at H
  refine Go.Saw.calls (args := []) Try.func17 rfl Try.ntmps17 (by kernel_rfl) ?_
  refine J.seq ?_
  refine J.plain ?_
  refine LL.op (.bool false) (by kernel_rfl) (fun w _ => by kernel_rfl) ?_
  refine LL.done (s' := [(0, .bool false)]) [0] (by kernel_rfl) ?_
  refine NN.then ?_
  refine J.seq ?_
  refine J.plain ?_
  obtain ⟨⟨x568_1, x568_2, x568_3, x568_4, x568_5, x568_6, x568_7, x568_8, x568_9, x568_10, x568_11, x568_12, x568_13, x568_14, x568_15, x568_16, x568_17, x568_18, x568_19, x568_20, x568_21, x568_22, x568_23, x568_24, x568_25, x568_26, x568_27, x568_28, x568_29, x568_30, x568_31⟩, hx568, H⟩ := bind_some H
  (try dsimp only at H)
  refine LL.callR (enc := enc41) (m := 7) (l := x568_12) 55 #[] (fun A_ c_ => .tuple #[.agg #[.string x568_1, .string x568_2, .string x568_3, .int .i64 x568_4, .int .i64 x568_5, .int .i64 x568_6, .int .i64 x568_7, .int .i64 x568_8, .int .i64 x568_9, .int .i64 x568_10, .int .i64 x568_11, .slice A_ x568_12.length c_, .int .i64 x568_13, .int .i64 x568_14, .int .i64 x568_15, .int .i64 x568_16, .bool x568_17, .int .i64 x568_18], .agg #[.string x568_19, .int .i64 x568_20, .int .i64 x568_21, .int .i64 x568_22, .int .i64 x568_23, .int .i64 x568_24, .int .i64 x568_25, .int .i64 x568_26, .int .i64 x568_27, .int .i64 x568_28, .int .i64 x568_29, .int .i64 x568_30, .int .i64 x568_31]]) (by kernel_rfl) (fun w => by kernel_rfl) (fun w hw => sawmilllaw41_example.calls    _ _ _ _ _ _ _ _ _ _ _ _ _ _ _ _ _ _ _ _ _ _ _ _ _ _ _ _ _ _ _ w   hx568) (fun R569 F570 A571 c572 le573 k574 fr575 => ?_)
  refine LL.op (.tuple #[.agg #[.string x568_1, .string x568_2, .string x568_3, .int .i64 x568_4, .int .i64 x568_5, .int .i64 x568_6, .int .i64 x568_7, .int .i64 x568_8, .int .i64 x568_9, .int .i64 x568_10, .int .i64 x568_11, .slice A571 x568_12.length c572, .int .i64 x568_13, .int .i64 x568_14, .int .i64 x568_15, .int .i64 x568_16, .bool x568_17, .int .i64 x568_18], .agg #[.string x568_19, .int .i64 x568_20, .int .i64 x568_21, .int .i64 x568_22, .int .i64 x568_23, .int .i64 x568_24, .int .i64 x568_25, .int .i64 x568_26, .int .i64 x568_27, .int .i64 x568_28, .int .i64 x568_29, .int .i64 x568_30, .int .i64 x568_31]]) (by kernel_rfl) (fun w _ => by kernel_rfl) ?_
  refine LL.op (.agg #[.string x568_1, .string x568_2, .string x568_3, .int .i64 x568_4, .int .i64 x568_5, .int .i64 x568_6, .int .i64 x568_7, .int .i64 x568_8, .int .i64 x568_9, .int .i64 x568_10, .int .i64 x568_11, .slice A571 x568_12.length c572, .int .i64 x568_13, .int .i64 x568_14, .int .i64 x568_15, .int .i64 x568_16, .bool x568_17, .int .i64 x568_18]) (by kernel_rfl) (fun w _ => by kernel_rfl) ?_
  refine LL.op (.agg #[.string x568_19, .int .i64 x568_20, .int .i64 x568_21, .int .i64 x568_22, .int .i64 x568_23, .int .i64 x568_24, .int .i64 x568_25, .int .i64 x568_26, .int .i64 x568_27, .int .i64 x568_28, .int .i64 x568_29, .int .i64 x568_30, .int .i64 x568_31]) (by kernel_rfl) (fun w _ => by kernel_rfl) ?_
  refine LL.alloc 30 [.string (⟨#[]⟩ : ByteArray), .string (⟨#[]⟩ : ByteArray), .string (⟨#[]⟩ : ByteArray), .int .i64 0, .int .i64 0, .int .i64 0, .int .i64 0, .int .i64 0, .int .i64 0, .int .i64 0, .int .i64 0, .slice none 0 0, .int .i64 0, .int .i64 0, .int .i64 0, .int .i64 0, .bool false, .int .i64 0] (by kernel_rfl) rfl (by kernel_rfl) (fun g576 => ?_)
  refine LL.alloc 32 [.string (⟨#[]⟩ : ByteArray), .int .i64 0, .int .i64 0, .int .i64 0, .int .i64 0, .int .i64 0, .int .i64 0, .int .i64 0, .int .i64 0, .int .i64 0, .int .i64 0, .int .i64 0, .int .i64 0] (by kernel_rfl) rfl (by kernel_rfl) (fun g577 => ?_)
  refine LL.store 1 g576 0 30 (.tmp 1) (.tmp 5) [.string x568_1, .string x568_2, .string x568_3, .int .i64 x568_4, .int .i64 x568_5, .int .i64 x568_6, .int .i64 x568_7, .int .i64 x568_8, .int .i64 x568_9, .int .i64 x568_10, .int .i64 x568_11, .slice A571 x568_12.length c572, .int .i64 x568_13, .int .i64 x568_14, .int .i64 x568_15, .int .i64 x568_16, .bool x568_17, .int .i64 x568_18] (bs' := [(g577, cl [.string (⟨#[]⟩ : ByteArray), .int .i64 0, .int .i64 0, .int .i64 0, .int .i64 0, .int .i64 0, .int .i64 0, .int .i64 0, .int .i64 0, .int .i64 0, .int .i64 0, .int .i64 0, .int .i64 0] 32), (g576, cl [.string x568_1, .string x568_2, .string x568_3, .int .i64 x568_4, .int .i64 x568_5, .int .i64 x568_6, .int .i64 x568_7, .int .i64 x568_8, .int .i64 x568_9, .int .i64 x568_10, .int .i64 x568_11, .slice A571 x568_12.length c572, .int .i64 x568_13, .int .i64 x568_14, .int .i64 x568_15, .int .i64 x568_16, .bool x568_17, .int .i64 x568_18] 30)]) rfl (by kernel_rfl) rfl (by kernel_rfl) rfl (by kernel_rfl) ?_
  refine LL.store 0 g577 0 32 (.tmp 2) (.tmp 6) [.string x568_19, .int .i64 x568_20, .int .i64 x568_21, .int .i64 x568_22, .int .i64 x568_23, .int .i64 x568_24, .int .i64 x568_25, .int .i64 x568_26, .int .i64 x568_27, .int .i64 x568_28, .int .i64 x568_29, .int .i64 x568_30, .int .i64 x568_31] (bs' := [(g577, cl [.string x568_19, .int .i64 x568_20, .int .i64 x568_21, .int .i64 x568_22, .int .i64 x568_23, .int .i64 x568_24, .int .i64 x568_25, .int .i64 x568_26, .int .i64 x568_27, .int .i64 x568_28, .int .i64 x568_29, .int .i64 x568_30, .int .i64 x568_31] 32), (g576, cl [.string x568_1, .string x568_2, .string x568_3, .int .i64 x568_4, .int .i64 x568_5, .int .i64 x568_6, .int .i64 x568_7, .int .i64 x568_8, .int .i64 x568_9, .int .i64 x568_10, .int .i64 x568_11, .slice A571 x568_12.length c572, .int .i64 x568_13, .int .i64 x568_14, .int .i64 x568_15, .int .i64 x568_16, .bool x568_17, .int .i64 x568_18] 30)]) rfl (by kernel_rfl) rfl (by kernel_rfl) rfl (by kernel_rfl) ?_
  refine LL.done (s' := [(0, .bool false), (1, .pointer (some ⟨g576, 0, none⟩)), (2, .pointer (some ⟨g577, 0, none⟩))]) [0, 1, 2] (by kernel_rfl) ?_
  refine NN.then ?_
  refine J.seq ?_
  refine J.plain ?_
  refine LL.op (.agg #[.string x568_1, .string x568_2, .string x568_3, .int .i64 x568_4, .int .i64 x568_5, .int .i64 x568_6, .int .i64 x568_7, .int .i64 x568_8, .int .i64 x568_9, .int .i64 x568_10, .int .i64 x568_11, .slice A571 x568_12.length c572, .int .i64 x568_13, .int .i64 x568_14, .int .i64 x568_15, .int .i64 x568_16, .bool x568_17, .int .i64 x568_18]) (by kernel_rfl) (ld 1 g576 0 rfl (by kernel_rfl) rfl (by kernel_rfl)) ?_
  obtain ⟨x578, hx578, H⟩ := bind_some H
  refine LL.call 18 #[.agg #[.string x568_1, .string x568_2, .string x568_3, .int .i64 x568_4, .int .i64 x568_5, .int .i64 x568_6, .int .i64 x568_7, .int .i64 x568_8, .int .i64 x568_9, .int .i64 x568_10, .int .i64 x568_11, .slice A571 x568_12.length c572, .int .i64 x568_13, .int .i64 x568_14, .int .i64 x568_15, .int .i64 x568_16, .bool x568_17, .int .i64 x568_18]] (.int .i64 x578) (by kernel_rfl) (fun w => by kernel_rfl) (fun w hw => strength_Knots.calls K x568_1 x568_2 x568_3 x568_4 x568_5 x568_6 x568_7 x568_8 x568_9 x568_10 x568_11 x568_12 x568_13 x568_14 x568_15 x568_16 x568_17 x568_18  _ _ _ w  (k574.at hw) hx578) ?_
  refine LL.op (.bool (x578 == 300)) (by kernel_rfl) (fun w _ => by kernel_rfl) ?_
  refine LL.op (.bool (x578 == 300)) (by kernel_rfl) (fun w _ => by kernel_rfl) ?_
  rcases Bool.eq_false_or_eq_true ((x578 == 300)) with c579 | c579
  · rw [if_pos (eq_of_beq c579)] at H
    refine LL.bool 10 ((x578 == 300)) true c579 (by kernel_rfl) ?_
    refine LL.op (.agg #[.string x568_1, .string x568_2, .string x568_3, .int .i64 x568_4, .int .i64 x568_5, .int .i64 x568_6, .int .i64 x568_7, .int .i64 x568_8, .int .i64 x568_9, .int .i64 x568_10, .int .i64 x568_11, .slice A571 x568_12.length c572, .int .i64 x568_13, .int .i64 x568_14, .int .i64 x568_15, .int .i64 x568_16, .bool x568_17, .int .i64 x568_18]) (by kernel_rfl) (ld 1 g576 0 rfl (by kernel_rfl) rfl (by kernel_rfl)) ?_
    refine LL.op (.agg #[.string x568_19, .int .i64 x568_20, .int .i64 x568_21, .int .i64 x568_22, .int .i64 x568_23, .int .i64 x568_24, .int .i64 x568_25, .int .i64 x568_26, .int .i64 x568_27, .int .i64 x568_28, .int .i64 x568_29, .int .i64 x568_30, .int .i64 x568_31]) (by kernel_rfl) (ld 0 g577 0 rfl (by kernel_rfl) rfl (by kernel_rfl)) ?_
    obtain ⟨x580, hx580, H⟩ := bind_some H
    refine LL.call 20 #[.agg #[.string x568_1, .string x568_2, .string x568_3, .int .i64 x568_4, .int .i64 x568_5, .int .i64 x568_6, .int .i64 x568_7, .int .i64 x568_8, .int .i64 x568_9, .int .i64 x568_10, .int .i64 x568_11, .slice A571 x568_12.length c572, .int .i64 x568_13, .int .i64 x568_14, .int .i64 x568_15, .int .i64 x568_16, .bool x568_17, .int .i64 x568_18], .agg #[.string x568_19, .int .i64 x568_20, .int .i64 x568_21, .int .i64 x568_22, .int .i64 x568_23, .int .i64 x568_24, .int .i64 x568_25, .int .i64 x568_26, .int .i64 x568_27, .int .i64 x568_28, .int .i64 x568_29, .int .i64 x568_30, .int .i64 x568_31]] (.int .i64 x580) (by kernel_rfl) (fun w => by kernel_rfl) (fun w hw => strength_Stiffness.calls K x568_1 x568_2 x568_3 x568_4 x568_5 x568_6 x568_7 x568_8 x568_9 x568_10 x568_11 x568_12 x568_13 x568_14 x568_15 x568_16 x568_17 x568_18 x568_19 x568_20 x568_21 x568_22 x568_23 x568_24 x568_25 x568_26 x568_27 x568_28 x568_29 x568_30 x568_31  _ _ _ w  (k574.at hw) hx580) ?_
    refine LL.op (.bool (x580 == 8789)) (by kernel_rfl) (fun w _ => by kernel_rfl) ?_
    refine LL.op (.bool (x580 == 8789)) (by kernel_rfl) (fun w _ => by kernel_rfl) ?_
    refine LL.op (.bool (x580 == 8789)) (by kernel_rfl) (fun w _ => by kernel_rfl) ?_
    rcases Bool.eq_false_or_eq_true ((x580 == 8789)) with c581 | c581
    · rw [if_pos (eq_of_beq c581)] at H
      refine LL.bool 16 ((x580 == 8789)) true c581 (by kernel_rfl) ?_
      obtain ⟨x582, hx582, H⟩ := bind_some H
      refine LL.call 22 #[.int .i64 11000] (.int .i64 x582) (by kernel_rfl) (fun w => by kernel_rfl) (fun w hw => strength_Class.calls 11000   _ w   hx582) ?_
      refine LL.op (.bool (x582 == 2)) (by kernel_rfl) (fun w _ => by kernel_rfl) ?_
      refine LL.op (.bool (x582 == 2)) (by kernel_rfl) (fun w _ => by kernel_rfl) ?_
      refine LL.op (.bool (x582 == 2)) (by kernel_rfl) (fun w _ => by kernel_rfl) ?_
      rcases Bool.eq_false_or_eq_true ((x582 == 2)) with c583 | c583
      · rw [if_pos (eq_of_beq c583)] at H
        refine LL.bool 20 ((x582 == 2)) true c583 (by kernel_rfl) ?_
        obtain ⟨x584, hx584, H⟩ := bind_some H
        refine LL.call 24 #[.int .i64 2] (.string x584) (by kernel_rfl) (fun w => by kernel_rfl) (fun w hw => strength_Name.calls 2   _ w   hx584) ?_
        refine LL.op (.bool (x584.toList == (⟨#[67, 50, 52]⟩ : ByteArray).toList)) (by kernel_rfl) (fun w _ => by kernel_rfl) ?_
        refine LL.op (.bool (x584.toList == (⟨#[67, 50, 52]⟩ : ByteArray).toList)) (by kernel_rfl) (fun w _ => by kernel_rfl) ?_
        refine LL.op (.bool (x584.toList == (⟨#[67, 50, 52]⟩ : ByteArray).toList)) (by kernel_rfl) (fun w _ => by kernel_rfl) ?_
        rcases Bool.eq_false_or_eq_true ((x584.toList == (⟨#[67, 50, 52]⟩ : ByteArray).toList)) with c585 | c585
        · rw [if_pos (eq_of_beq c585)] at H
          refine LL.bool 24 ((x584.toList == (⟨#[67, 50, 52]⟩ : ByteArray).toList)) true c585 (by kernel_rfl) ?_
          obtain ⟨x586, hx586, H⟩ := bind_some H
          refine LL.call 22 #[.int .i64 6999] (.int .i64 x586) (by kernel_rfl) (fun w => by kernel_rfl) (fun w hw => strength_Class.calls 6999   _ w   hx586) ?_
          obtain ⟨x587, hx587, H⟩ := bind_some H
          refine LL.call 24 #[.int .i64 x586] (.string x587) (by kernel_rfl) (fun w => by kernel_rfl) (fun w hw => strength_Name.calls x586   _ w   hx587) ?_
          refine LL.op (.bool (x587.toList == (⟨#[]⟩ : ByteArray).toList)) (by kernel_rfl) (fun w _ => by kernel_rfl) ?_
          refine LL.op (.bool (x587.toList == (⟨#[]⟩ : ByteArray).toList)) (by kernel_rfl) (fun w _ => by kernel_rfl) ?_
          refine LL.op (.bool (x587.toList == (⟨#[]⟩ : ByteArray).toList)) (by kernel_rfl) (fun w _ => by kernel_rfl) ?_
          refine LL.done (s' := [(0, .bool (x587.toList == (⟨#[]⟩ : ByteArray).toList))]) [0] (by kernel_rfl) ?_
          refine NN.then ?_
          refine J.ret ?_
          refine NN.fin1 0 (.bool (x587.toList == (⟨#[]⟩ : ByteArray).toList)) (by kernel_rfl) (by kernel_rfl) (.inl rfl) (fun w hi => hi.ret ?_)
          first | (cases H; rfl) | (obtain rfl := Option.some.inj H; rfl) | (simp only [Option.some.injEq, Prod.mk.injEq] at H; obtain ⟨rfl⟩ := H; rfl)
        · rw [if_neg (nebf c585)] at H
          refine LL.bool 24 ((x584.toList == (⟨#[67, 50, 52]⟩ : ByteArray).toList)) false c585 (by kernel_rfl) ?_
          refine LL.off (by kernel_rfl) (by kernel_rfl) ?_
          refine LL.off (by kernel_rfl) (by kernel_rfl) ?_
          refine LL.off (by kernel_rfl) (by kernel_rfl) ?_
          refine LL.op (.bool false) (by kernel_rfl) (fun w _ => by kernel_rfl) ?_
          refine LL.op (.bool false) (by kernel_rfl) (fun w _ => by kernel_rfl) ?_
          refine LL.done (s' := [(0, .bool false)]) [0] (by kernel_rfl) ?_
          refine NN.then ?_
          refine J.ret ?_
          refine NN.fin1 0 (.bool false) (by kernel_rfl) (by kernel_rfl) (.inl rfl) (fun w hi => hi.ret ?_)
          first | (cases H; rfl) | (obtain rfl := Option.some.inj H; rfl) | (simp only [Option.some.injEq, Prod.mk.injEq] at H; obtain ⟨rfl⟩ := H; rfl)
      · rw [if_neg (nebf c583)] at H
        refine LL.bool 20 ((x582 == 2)) false c583 (by kernel_rfl) ?_
        refine LL.off (by kernel_rfl) (by kernel_rfl) ?_
        refine LL.off (by kernel_rfl) (by kernel_rfl) ?_
        refine LL.op (.bool false) (by kernel_rfl) (fun w _ => by kernel_rfl) ?_
        refine LL.op (.bool false) (by kernel_rfl) (fun w _ => by kernel_rfl) ?_
        refine LL.off (by kernel_rfl) (by kernel_rfl) ?_
        refine LL.off (by kernel_rfl) (by kernel_rfl) ?_
        refine LL.off (by kernel_rfl) (by kernel_rfl) ?_
        refine LL.op (.bool false) (by kernel_rfl) (fun w _ => by kernel_rfl) ?_
        refine LL.op (.bool false) (by kernel_rfl) (fun w _ => by kernel_rfl) ?_
        refine LL.done (s' := [(0, .bool false)]) [0] (by kernel_rfl) ?_
        refine NN.then ?_
        refine J.ret ?_
        refine NN.fin1 0 (.bool false) (by kernel_rfl) (by kernel_rfl) (.inl rfl) (fun w hi => hi.ret ?_)
        first | (cases H; rfl) | (obtain rfl := Option.some.inj H; rfl) | (simp only [Option.some.injEq, Prod.mk.injEq] at H; obtain ⟨rfl⟩ := H; rfl)
    · rw [if_neg (nebf c581)] at H
      refine LL.bool 16 ((x580 == 8789)) false c581 (by kernel_rfl) ?_
      refine LL.off (by kernel_rfl) (by kernel_rfl) ?_
      refine LL.off (by kernel_rfl) (by kernel_rfl) ?_
      refine LL.op (.bool false) (by kernel_rfl) (fun w _ => by kernel_rfl) ?_
      refine LL.op (.bool false) (by kernel_rfl) (fun w _ => by kernel_rfl) ?_
      refine LL.off (by kernel_rfl) (by kernel_rfl) ?_
      refine LL.off (by kernel_rfl) (by kernel_rfl) ?_
      refine LL.op (.bool false) (by kernel_rfl) (fun w _ => by kernel_rfl) ?_
      refine LL.op (.bool false) (by kernel_rfl) (fun w _ => by kernel_rfl) ?_
      refine LL.off (by kernel_rfl) (by kernel_rfl) ?_
      refine LL.off (by kernel_rfl) (by kernel_rfl) ?_
      refine LL.off (by kernel_rfl) (by kernel_rfl) ?_
      refine LL.op (.bool false) (by kernel_rfl) (fun w _ => by kernel_rfl) ?_
      refine LL.op (.bool false) (by kernel_rfl) (fun w _ => by kernel_rfl) ?_
      refine LL.done (s' := [(0, .bool false)]) [0] (by kernel_rfl) ?_
      refine NN.then ?_
      refine J.ret ?_
      refine NN.fin1 0 (.bool false) (by kernel_rfl) (by kernel_rfl) (.inl rfl) (fun w hi => hi.ret ?_)
      first | (cases H; rfl) | (obtain rfl := Option.some.inj H; rfl) | (simp only [Option.some.injEq, Prod.mk.injEq] at H; obtain ⟨rfl⟩ := H; rfl)
  · rw [if_neg (nebf c579)] at H
    refine LL.bool 10 ((x578 == 300)) false c579 (by kernel_rfl) ?_
    refine LL.off (by kernel_rfl) (by kernel_rfl) ?_
    refine LL.off (by kernel_rfl) (by kernel_rfl) ?_
    refine LL.off (by kernel_rfl) (by kernel_rfl) ?_
    refine LL.off (by kernel_rfl) (by kernel_rfl) ?_
    refine LL.op (.bool false) (by kernel_rfl) (fun w _ => by kernel_rfl) ?_
    refine LL.op (.bool false) (by kernel_rfl) (fun w _ => by kernel_rfl) ?_
    refine LL.off (by kernel_rfl) (by kernel_rfl) ?_
    refine LL.off (by kernel_rfl) (by kernel_rfl) ?_
    refine LL.op (.bool false) (by kernel_rfl) (fun w _ => by kernel_rfl) ?_
    refine LL.op (.bool false) (by kernel_rfl) (fun w _ => by kernel_rfl) ?_
    refine LL.off (by kernel_rfl) (by kernel_rfl) ?_
    refine LL.off (by kernel_rfl) (by kernel_rfl) ?_
    refine LL.op (.bool false) (by kernel_rfl) (fun w _ => by kernel_rfl) ?_
    refine LL.op (.bool false) (by kernel_rfl) (fun w _ => by kernel_rfl) ?_
    refine LL.off (by kernel_rfl) (by kernel_rfl) ?_
    refine LL.off (by kernel_rfl) (by kernel_rfl) ?_
    refine LL.off (by kernel_rfl) (by kernel_rfl) ?_
    refine LL.op (.bool false) (by kernel_rfl) (fun w _ => by kernel_rfl) ?_
    refine LL.op (.bool false) (by kernel_rfl) (fun w _ => by kernel_rfl) ?_
    refine LL.done (s' := [(0, .bool false)]) [0] (by kernel_rfl) ?_
    refine NN.then ?_
    refine J.ret ?_
    refine NN.fin1 0 (.bool false) (by kernel_rfl) (by kernel_rfl) (.inl rfl) (fun w hi => hi.ret ?_)
    first | (cases H; rfl) | (obtain rfl := Option.some.inj H; rfl) | (simp only [Option.some.injEq, Prod.mk.injEq] at H; obtain ⟨rfl⟩ := H; rfl)

/-! ### sawmilllaw13_awake: function 30 -/
def sawmilllaw13_awake.f (K : Nat)  : Option (Bool) := (sawmilllaw13_box.f 10 30 0 5 100 140).bind fun bx588 => ((sawmilllaw13_box.f 0 10 0 10 0 10).bind fun bx597 => ((sawmilllaw13_box.f 0 20 0 10 100 120).bind fun bx598 => ((sawmilllaw13_box.f 0 1 0 30 140 150).bind fun bx599 => ((sawmilllaw13_box.f 20 60 0 40 120 900).bind fun bx608 => ((defect_Check.f K ([(1, bx588.1, bx588.2.1, bx588.2.2.1, bx588.2.2.2.1, bx588.2.2.2.2.1, bx588.2.2.2.2.2)] : List E41)).bind fun x610 => (if x610 = 0 then ((defect_Check.f K ([(7, 0, 0, 0, 0, 0, 0)] : List E41)).bind fun x620 => (if x620 = 10 then ((idx ([(1, bx588.1, bx588.2.1, bx588.2.2.1, bx588.2.2.2.1, bx588.2.2.2.2.1, bx588.2.2.2.2.2)] : List E41) 0).bind fun be630 => ((defect_Touches.f be630.1 be630.2.1 be630.2.2.1 be630.2.2.2.1 be630.2.2.2.2.1 be630.2.2.2.2.2.1 be630.2.2.2.2.2.2 bx608.1 bx608.2.1 bx608.2.2.1 bx608.2.2.2.1 bx608.2.2.2.2.1 bx608.2.2.2.2.2).bind fun x631 => (if x631 = true then ((defect_Clip.f K ([(1, bx588.1, bx588.2.1, bx588.2.2.1, bx588.2.2.2.1, bx588.2.2.2.2.1, bx588.2.2.2.2.2)] : List E41) bx608.1 bx608.2.1 bx608.2.2.1 bx608.2.2.2.1 bx608.2.2.2.2.1 bx608.2.2.2.2.2).bind fun x633 => ((sawmilllaw13_box.f 0 10 0 5 0 20).bind fun bx641 => ((sawmillref13_Same.f K x633 ([(1, bx641.1, bx641.2.1, bx641.2.2.1, bx641.2.2.2.1, bx641.2.2.2.2.1, bx641.2.2.2.2.2)] : List E41)).bind fun x650 => (if x650 = true then ((defect_Turn.f K ([(1, bx588.1, bx588.2.1, bx588.2.2.1, bx588.2.2.2.1, bx588.2.2.2.2.1, bx588.2.2.2.2.2)] : List E41) 1).bind fun x667 => ((sawmilllaw13_box.f (-5) 0 10 30 100 140).bind fun bx675 => ((sawmillref13_Same.f K x667 ([(1, bx675.1, bx675.2.1, bx675.2.2.1, bx675.2.2.2.1, bx675.2.2.2.2.1, bx675.2.2.2.2.2)] : List E41)).bind fun x684 => (if x684 = true then ((defect_Count.f ([(1, bx597.1, bx597.2.1, bx597.2.2.1, bx597.2.2.2.1, bx597.2.2.2.2.1, bx597.2.2.2.2.2), (2, bx598.1, bx598.2.1, bx598.2.2.1, bx598.2.2.2.1, bx598.2.2.2.2.1, bx598.2.2.2.2.2), (1, bx599.1, bx599.2.1, bx599.2.2.1, bx599.2.2.2.1, bx599.2.2.2.2.1, bx599.2.2.2.2.2)] : List E41) 1).bind fun x701 => (if x701 = 2 then ((idx ([(1, bx597.1, bx597.2.1, bx597.2.2.1, bx597.2.2.2.1, bx597.2.2.2.2.1, bx597.2.2.2.2.2), (2, bx598.1, bx598.2.1, bx598.2.2.1, bx598.2.2.2.1, bx598.2.2.2.2.1, bx598.2.2.2.2.2), (1, bx599.1, bx599.2.1, bx599.2.2.1, bx599.2.2.2.1, bx599.2.2.2.2.1, bx599.2.2.2.2.2)] : List E41) 2).bind fun be703 => ((defect_Size.f be703.1 be703.2.1 be703.2.2.1 be703.2.2.2.1 be703.2.2.2.2.1 be703.2.2.2.2.2.1 be703.2.2.2.2.2.2).bind fun x704 => (if x704 = 30 then ((defect_Largest.f K ([(1, bx597.1, bx597.2.1, bx597.2.2.1, bx597.2.2.2.1, bx597.2.2.2.2.1, bx597.2.2.2.2.2), (2, bx598.1, bx598.2.1, bx598.2.2.1, bx598.2.2.2.1, bx598.2.2.2.2.1, bx598.2.2.2.2.2), (1, bx599.1, bx599.2.1, bx599.2.2.1, bx599.2.2.2.1, bx599.2.2.2.2.1, bx599.2.2.2.2.2)] : List E41) 2).bind fun x706 => (if x706 = 20 then ((defect_Worst.f K ([(1, bx597.1, bx597.2.1, bx597.2.2.1, bx597.2.2.2.1, bx597.2.2.2.2.1, bx597.2.2.2.2.2), (2, bx598.1, bx598.2.1, bx598.2.2.1, bx598.2.2.2.1, bx598.2.2.2.2.1, bx598.2.2.2.2.2), (1, bx599.1, bx599.2.1, bx599.2.2.1, bx599.2.2.2.1, bx599.2.2.2.2.1, bx599.2.2.2.2.2)] : List E41) 100).bind fun x708 => (some (x708 == 50))) else (some false))) else (some false)))) else (some false))) else (some false))))) else (some false))))) else (some false)))) else (some false))) else (some false)))))))
set_option maxRecDepth 100000 in
theorem sawmilllaw13_awake.calls (K : Nat)     (r1 : Bool) (w : World)    (h : sawmilllaw13_awake.f K  = some r1) :
    Calls Try.prog 30 #[] w (Ret w (.bool r1)) := by
  have H := h
  clear h
  unfold sawmilllaw13_awake.f at H
  refine Go.Saw.calls (args := []) Try.func30 rfl Try.ntmps30 (by kernel_rfl) ?_
  refine J.seq ?_
  refine J.plain ?_
  refine LL.op (.bool false) (by kernel_rfl) (fun w _ => by kernel_rfl) ?_
  refine LL.done (s' := [(0, .bool false)]) [0] (by kernel_rfl) ?_
  refine NN.then ?_
  refine J.seq ?_
  refine J.plain ?_
  obtain ⟨⟨x588_1, x588_2, x588_3, x588_4, x588_5, x588_6⟩, hx588, H⟩ := bind_some H
  (try dsimp only at H)
  refine LL.call 48 #[.int .i64 10, .int .i64 30, .int .i64 0, .int .i64 5, .int .i64 100, .int .i64 140] (.agg #[.int .i64 x588_1, .int .i64 x588_2, .int .i64 x588_3, .int .i64 x588_4, .int .i64 x588_5, .int .i64 x588_6]) (by kernel_rfl) (fun w => by kernel_rfl) (fun w hw => sawmilllaw13_box.calls 10 30 0 5 100 140   _ _ _ _ _ _ w   hx588) ?_
  refine LL.op (.agg #[.int .i64 1, .int .i64 x588_1, .int .i64 x588_2, .int .i64 x588_3, .int .i64 x588_4, .int .i64 x588_5, .int .i64 x588_6]) (by kernel_rfl) (fun w _ => by kernel_rfl) ?_
  refine LL.lit 26 1 #[(0, .tmp 5)] [.int .i64 1, .int .i64 x588_1, .int .i64 x588_2, .int .i64 x588_3, .int .i64 x588_4, .int .i64 x588_5, .int .i64 x588_6] 41 ([(1, x588_1, x588_2, x588_3, x588_4, x588_5, x588_6)] : List E41) (by kernel_rfl) rfl (by kernel_rfl) ok41.len rfl rfl (fun R589 F590 A591 c592 le593 k594 fr595 => ?_)
  refine LL.op (.slice A591 1 c592) (by kernel_rfl) (fun w _ => by kernel_rfl) ?_
  refine LL.done (s' := [(0, .bool false), (1, .slice A591 1 c592)]) [0, 1] (by kernel_rfl) ?_
  refine NN.then ?_
  refine J.seq ?_
  refine J.plain ?_
  obtain ⟨⟨x597_1, x597_2, x597_3, x597_4, x597_5, x597_6⟩, hx597, H⟩ := bind_some H
  (try dsimp only at H)
  refine LL.call 48 #[.int .i64 0, .int .i64 10, .int .i64 0, .int .i64 10, .int .i64 0, .int .i64 10] (.agg #[.int .i64 x597_1, .int .i64 x597_2, .int .i64 x597_3, .int .i64 x597_4, .int .i64 x597_5, .int .i64 x597_6]) (by kernel_rfl) (fun w => by kernel_rfl) (fun w hw => sawmilllaw13_box.calls 0 10 0 10 0 10   _ _ _ _ _ _ w   hx597) ?_
  refine LL.op (.agg #[.int .i64 1, .int .i64 x597_1, .int .i64 x597_2, .int .i64 x597_3, .int .i64 x597_4, .int .i64 x597_5, .int .i64 x597_6]) (by kernel_rfl) (fun w _ => by kernel_rfl) ?_
  obtain ⟨⟨x598_1, x598_2, x598_3, x598_4, x598_5, x598_6⟩, hx598, H⟩ := bind_some H
  (try dsimp only at H)
  refine LL.call 48 #[.int .i64 0, .int .i64 20, .int .i64 0, .int .i64 10, .int .i64 100, .int .i64 120] (.agg #[.int .i64 x598_1, .int .i64 x598_2, .int .i64 x598_3, .int .i64 x598_4, .int .i64 x598_5, .int .i64 x598_6]) (by kernel_rfl) (fun w => by kernel_rfl) (fun w hw => sawmilllaw13_box.calls 0 20 0 10 100 120   _ _ _ _ _ _ w   hx598) ?_
  refine LL.op (.agg #[.int .i64 2, .int .i64 x598_1, .int .i64 x598_2, .int .i64 x598_3, .int .i64 x598_4, .int .i64 x598_5, .int .i64 x598_6]) (by kernel_rfl) (fun w _ => by kernel_rfl) ?_
  obtain ⟨⟨x599_1, x599_2, x599_3, x599_4, x599_5, x599_6⟩, hx599, H⟩ := bind_some H
  (try dsimp only at H)
  refine LL.call 48 #[.int .i64 0, .int .i64 1, .int .i64 0, .int .i64 30, .int .i64 140, .int .i64 150] (.agg #[.int .i64 x599_1, .int .i64 x599_2, .int .i64 x599_3, .int .i64 x599_4, .int .i64 x599_5, .int .i64 x599_6]) (by kernel_rfl) (fun w => by kernel_rfl) (fun w hw => sawmilllaw13_box.calls 0 1 0 30 140 150   _ _ _ _ _ _ w   hx599) ?_
  refine LL.op (.agg #[.int .i64 1, .int .i64 x599_1, .int .i64 x599_2, .int .i64 x599_3, .int .i64 x599_4, .int .i64 x599_5, .int .i64 x599_6]) (by kernel_rfl) (fun w _ => by kernel_rfl) ?_
  refine LL.lit 26 3 #[(0, .tmp 8), (1, .tmp 10), (2, .tmp 12)] [.int .i64 1, .int .i64 x597_1, .int .i64 x597_2, .int .i64 x597_3, .int .i64 x597_4, .int .i64 x597_5, .int .i64 x597_6, .int .i64 2, .int .i64 x598_1, .int .i64 x598_2, .int .i64 x598_3, .int .i64 x598_4, .int .i64 x598_5, .int .i64 x598_6, .int .i64 1, .int .i64 x599_1, .int .i64 x599_2, .int .i64 x599_3, .int .i64 x599_4, .int .i64 x599_5, .int .i64 x599_6] 41 ([(1, x597_1, x597_2, x597_3, x597_4, x597_5, x597_6), (2, x598_1, x598_2, x598_3, x598_4, x598_5, x598_6), (1, x599_1, x599_2, x599_3, x599_4, x599_5, x599_6)] : List E41) (by kernel_rfl) rfl (by kernel_rfl) ok41.len rfl rfl (fun R600 F601 A602 c603 le604 k605 fr606 => ?_)
  refine LL.op (.slice A602 3 c603) (by kernel_rfl) (fun w _ => by kernel_rfl) ?_
  refine LL.done (s' := [(0, .bool false), (1, .slice A591 1 c592), (2, .slice A602 3 c603)]) [0, 1, 2] (by kernel_rfl) ?_
  refine NN.then ?_
  refine J.seq ?_
  refine J.plain ?_
  obtain ⟨⟨x608_1, x608_2, x608_3, x608_4, x608_5, x608_6⟩, hx608, H⟩ := bind_some H
  (try dsimp only at H)
  refine LL.call 48 #[.int .i64 20, .int .i64 60, .int .i64 0, .int .i64 40, .int .i64 120, .int .i64 900] (.agg #[.int .i64 x608_1, .int .i64 x608_2, .int .i64 x608_3, .int .i64 x608_4, .int .i64 x608_5, .int .i64 x608_6]) (by kernel_rfl) (fun w => by kernel_rfl) (fun w hw => sawmilllaw13_box.calls 20 60 0 40 120 900   _ _ _ _ _ _ w   hx608) ?_
  refine LL.alloc 25 [.int .i64 0, .int .i64 0, .int .i64 0, .int .i64 0, .int .i64 0, .int .i64 0] (by kernel_rfl) rfl (by kernel_rfl) (fun g609 => ?_)
  refine LL.store 0 g609 0 25 (.tmp 3) (.tmp 14) [.int .i64 x608_1, .int .i64 x608_2, .int .i64 x608_3, .int .i64 x608_4, .int .i64 x608_5, .int .i64 x608_6] (bs' := [(g609, cl [.int .i64 x608_1, .int .i64 x608_2, .int .i64 x608_3, .int .i64 x608_4, .int .i64 x608_5, .int .i64 x608_6] 25)]) rfl (by kernel_rfl) rfl (by kernel_rfl) rfl (by kernel_rfl) ?_
  refine LL.done (s' := [(0, .bool false), (1, .slice A591 1 c592), (2, .slice A602 3 c603), (3, .pointer (some ⟨g609, 0, none⟩))]) [0, 1, 2, 3] (by kernel_rfl) ?_
  refine NN.then ?_
  refine J.seq ?_
  obtain ⟨x610, hx610, H⟩ := bind_some H
  refine J.held follows ?_
  refine HH.take 0 (.slice A591 1 c592) rfl (by kernel_rfl) (by kernel_rfl) (fun _ h => h) (fun w _ => by kernel_rfl) ?_
  refine HH.all1 1 (by kernel_rfl) ?_
  refine HS.call 33 #[.slice A591 1 c592] (.int .i64 x610) rfl (by kernel_rfl) (fun w => by kernel_rfl) (fun _ h => h) (fun w hw => defect_Check.calls K ([(1, x588_1, x588_2, x588_3, x588_4, x588_5, x588_6)] : List E41)  _ _ _ w  ((k594.le le604).at hw) hx610) ?_
  refine HH.take 2 (.bool (x610 == 0)) rfl (by kernel_rfl) (by kernel_rfl) (fun _ h => h) (fun w _ => by kernel_rfl) ?_
  refine HH.take 3 (.bool (x610 == 0)) rfl (by kernel_rfl) (by kernel_rfl) (fun _ h => h) (fun w _ => by kernel_rfl) ?_
  rcases Bool.eq_false_or_eq_true ((x610 == 0)) with c611 | c611
  · rw [if_pos (eq_of_beq c611)] at H
    refine HH.bool 18 ((x610 == 0)) true c611 (by kernel_rfl) ?_
    obtain ⟨x620, hx620, H⟩ := bind_some H
    refine HH.take 4 (.agg #[.int .i64 7, .int .i64 0, .int .i64 0, .int .i64 0, .int .i64 0, .int .i64 0, .int .i64 0]) rfl (by kernel_rfl) (by kernel_rfl) (fun _ h => h) (fun w _ => by kernel_rfl) ?_
    refine HH.all1 5 (by kernel_rfl) ?_
    refine HS.lit 26 1 #[(0, .tmp 19)] [.int .i64 7, .int .i64 0, .int .i64 0, .int .i64 0, .int .i64 0, .int .i64 0, .int .i64 0] 41 ([(7, 0, 0, 0, 0, 0, 0)] : List E41) rfl (by kernel_rfl) rfl (by kernel_rfl) ok41.len rfl rfl (fun _ h => h) (fun R621 F622 A623 c624 le625 k626 fr627 => ?_)
    refine HH.all1 6 (by kernel_rfl) ?_
    refine HS.call 33 #[.slice A623 1 c624] (.int .i64 x620) rfl (by kernel_rfl) (fun w => by kernel_rfl) (fun _ h => (h).back le625) (fun w hw => defect_Check.calls K ([(7, 0, 0, 0, 0, 0, 0)] : List E41)  _ _ _ w  (k626.at hw) hx620) ?_
    refine HH.take 7 (.bool (x620 == 10)) rfl (by kernel_rfl) (by kernel_rfl) (fun _ h => (h).back le625) (fun w _ => by kernel_rfl) ?_
    refine HH.take 8 (.bool (x620 == 10)) rfl (by kernel_rfl) (by kernel_rfl) (fun _ h => (h).back le625) (fun w _ => by kernel_rfl) ?_
    refine HH.take 9 (.bool (x620 == 10)) rfl (by kernel_rfl) (by kernel_rfl) (fun _ h => (h).back le625) (fun w _ => by kernel_rfl) ?_
    rcases Bool.eq_false_or_eq_true ((x620 == 10)) with c629 | c629
    · rw [if_pos (eq_of_beq c629)] at H
      refine HH.bool 24 ((x620 == 10)) true c629 (by kernel_rfl) ?_
      obtain ⟨⟨e630_1, e630_2, e630_3, e630_4, e630_5, e630_6, e630_7⟩, he630, H⟩ := bind_some H
      (try dsimp only at H)
      obtain ⟨x631, hx631, H⟩ := bind_some H
      refine HH.take 10 (.slice A591 1 c592) rfl (by kernel_rfl) (by kernel_rfl) (fun _ h => (h).back le625) (fun w _ => by kernel_rfl) ?_
      refine HH.take 11 (.pointer (rp A591 ((0 : Int).toNat * 7 + 0))) rfl (by kernel_rfl) (by kernel_rfl) (fun _ h => (h).back le625) (idxR (cp := c592) (ik := .i64) (k594.le le604) he630 rfl (by kernel_rfl) (by kernel_rfl) (by kernel_rfl)) ?_
      refine HH.take 12 (.agg #[.int .i64 e630_1, .int .i64 e630_2, .int .i64 e630_3, .int .i64 e630_4, .int .i64 e630_5, .int .i64 e630_6, .int .i64 e630_7]) rfl (by kernel_rfl) (by kernel_rfl) (fun _ h => (h).back le625) (ldR (off := 0) (k594.le le604) he630 rfl (by kernel_rfl) (by kernel_rfl)) ?_
      refine HH.take 13 (.agg #[.int .i64 x608_1, .int .i64 x608_2, .int .i64 x608_3, .int .i64 x608_4, .int .i64 x608_5, .int .i64 x608_6]) rfl (by kernel_rfl) (by kernel_rfl) (fun _ h => (h).back le625) (ld 0 g609 0 rfl (by kernel_rfl) rfl (by kernel_rfl)) ?_
      refine HH.all1 14 (by kernel_rfl) ?_
      refine HS.call 38 #[.agg #[.int .i64 e630_1, .int .i64 e630_2, .int .i64 e630_3, .int .i64 e630_4, .int .i64 e630_5, .int .i64 e630_6, .int .i64 e630_7], .agg #[.int .i64 x608_1, .int .i64 x608_2, .int .i64 x608_3, .int .i64 x608_4, .int .i64 x608_5, .int .i64 x608_6]] (.bool x631) rfl (by kernel_rfl) (fun w => by kernel_rfl) (fun _ h => (h).back le625) (fun w hw => defect_Touches.calls e630_1 e630_2 e630_3 e630_4 e630_5 e630_6 e630_7 x608_1 x608_2 x608_3 x608_4 x608_5 x608_6   _ w   hx631) ?_
      refine HH.take 15 (.bool x631) rfl (by kernel_rfl) (by kernel_rfl) (fun _ h => (h).back le625) (fun w _ => by kernel_rfl) ?_
      refine HH.take 16 (.bool x631) rfl (by kernel_rfl) (by kernel_rfl) (fun _ h => (h).back le625) (fun w _ => by kernel_rfl) ?_
      rcases Bool.eq_false_or_eq_true (x631) with c632 | c632
      · rw [if_pos (c632)] at H
        refine HH.bool 31 (x631) true c632 (by kernel_rfl) ?_
        obtain ⟨x633, hx633, H⟩ := bind_some H
        obtain ⟨⟨x641_1, x641_2, x641_3, x641_4, x641_5, x641_6⟩, hx641, H⟩ := bind_some H
        (try dsimp only at H)
        obtain ⟨x650, hx650, H⟩ := bind_some H
        refine HH.take 17 (.slice A591 1 c592) rfl (by kernel_rfl) (by kernel_rfl) (fun _ h => (h).back le625) (fun w _ => by kernel_rfl) ?_
        refine HH.take 18 (.agg #[.int .i64 x608_1, .int .i64 x608_2, .int .i64 x608_3, .int .i64 x608_4, .int .i64 x608_5, .int .i64 x608_6]) rfl (by kernel_rfl) (by kernel_rfl) (fun _ h => (h).back le625) (ld 0 g609 0 rfl (by kernel_rfl) rfl (by kernel_rfl)) ?_
        refine HH.all1 19 (by kernel_rfl) ?_
        refine HS.callR (enc := enc41) (m := 7) (l := x633) 41 #[.slice A591 1 c592, .agg #[.int .i64 x608_1, .int .i64 x608_2, .int .i64 x608_3, .int .i64 x608_4, .int .i64 x608_5, .int .i64 x608_6]] (fun A_ c_ => .slice A_ x633.length c_) rfl (by kernel_rfl) (fun w => by kernel_rfl) (fun _ h => (h).back le625) (fun w hw => defect_Clip.calls K ([(1, x588_1, x588_2, x588_3, x588_4, x588_5, x588_6)] : List E41) x608_1 x608_2 x608_3 x608_4 x608_5 x608_6  _ _ _ w  (((k594.le le604).le le625).at hw) hx633) (fun R651 F652 A653 c654 le655 k656 fr657 => ?_)
        refine HH.all1 20 (by kernel_rfl) ?_
        refine HS.call 48 #[.int .i64 0, .int .i64 10, .int .i64 0, .int .i64 5, .int .i64 0, .int .i64 20] (.agg #[.int .i64 x641_1, .int .i64 x641_2, .int .i64 x641_3, .int .i64 x641_4, .int .i64 x641_5, .int .i64 x641_6]) rfl (by kernel_rfl) (fun w => by kernel_rfl) (fun _ h => ((h).back le655).back le625) (fun w hw => sawmilllaw13_box.calls 0 10 0 5 0 20   _ _ _ _ _ _ w   hx641) ?_
        refine HH.take 21 (.agg #[.int .i64 1, .int .i64 x641_1, .int .i64 x641_2, .int .i64 x641_3, .int .i64 x641_4, .int .i64 x641_5, .int .i64 x641_6]) rfl (by kernel_rfl) (by kernel_rfl) (fun _ h => ((h).back le655).back le625) (fun w _ => by kernel_rfl) ?_
        refine HH.all1 22 (by kernel_rfl) ?_
        refine HS.lit 26 1 #[(0, .tmp 36)] [.int .i64 1, .int .i64 x641_1, .int .i64 x641_2, .int .i64 x641_3, .int .i64 x641_4, .int .i64 x641_5, .int .i64 x641_6] 41 ([(1, x641_1, x641_2, x641_3, x641_4, x641_5, x641_6)] : List E41) rfl (by kernel_rfl) rfl (by kernel_rfl) ok41.len rfl rfl (fun _ h => ((h).back le655).back le625) (fun R658 F659 A660 c661 le662 k663 fr664 => ?_)
        refine HH.all1 23 (by kernel_rfl) ?_
        refine HS.call 40 #[.slice A653 x633.length c654, .slice A660 1 c661] (.bool x650) rfl (by kernel_rfl) (fun w => by kernel_rfl) (fun _ h => (((h).back le662).back le655).back le625) (fun w hw => sawmillref13_Same.calls K x633 ([(1, x641_1, x641_2, x641_3, x641_4, x641_5, x641_6)] : List E41)  _ _ _ _ _ w  ((k656.le le662).at hw) (k663.at hw) hx650) ?_
        refine HH.take 24 (.bool x650) rfl (by kernel_rfl) (by kernel_rfl) (fun _ h => (((h).back le662).back le655).back le625) (fun w _ => by kernel_rfl) ?_
        refine HH.take 25 (.bool x650) rfl (by kernel_rfl) (by kernel_rfl) (fun _ h => (((h).back le662).back le655).back le625) (fun w _ => by kernel_rfl) ?_
        rcases Bool.eq_false_or_eq_true (x650) with c666 | c666
        · rw [if_pos (c666)] at H
          refine HH.bool 40 (x650) true c666 (by kernel_rfl) ?_
          obtain ⟨x667, hx667, H⟩ := bind_some H
          obtain ⟨⟨x675_1, x675_2, x675_3, x675_4, x675_5, x675_6⟩, hx675, H⟩ := bind_some H
          (try dsimp only at H)
          obtain ⟨x684, hx684, H⟩ := bind_some H
          refine HH.take 26 (.slice A591 1 c592) rfl (by kernel_rfl) (by kernel_rfl) (fun _ h => (((h).back le662).back le655).back le625) (fun w _ => by kernel_rfl) ?_
          refine HH.all1 27 (by kernel_rfl) ?_
          refine HS.callR (enc := enc41) (m := 7) (l := x667) 43 #[.slice A591 1 c592, .int .i64 1] (fun A_ c_ => .slice A_ x667.length c_) rfl (by kernel_rfl) (fun w => by kernel_rfl) (fun _ h => (((h).back le662).back le655).back le625) (fun w hw => defect_Turn.calls K ([(1, x588_1, x588_2, x588_3, x588_4, x588_5, x588_6)] : List E41) 1  _ _ _ w  (((((k594.le le604).le le625).le le655).le le662).at hw) hx667) (fun R685 F686 A687 c688 le689 k690 fr691 => ?_)
          refine HH.all1 28 (by kernel_rfl) ?_
          refine HS.call 48 #[.int .i64 (-5), .int .i64 0, .int .i64 10, .int .i64 30, .int .i64 100, .int .i64 140] (.agg #[.int .i64 x675_1, .int .i64 x675_2, .int .i64 x675_3, .int .i64 x675_4, .int .i64 x675_5, .int .i64 x675_6]) rfl (by kernel_rfl) (fun w => by kernel_rfl) (fun _ h => ((((h).back le689).back le662).back le655).back le625) (fun w hw => sawmilllaw13_box.calls (-5) 0 10 30 100 140   _ _ _ _ _ _ w   hx675) ?_
          refine HH.take 29 (.agg #[.int .i64 1, .int .i64 x675_1, .int .i64 x675_2, .int .i64 x675_3, .int .i64 x675_4, .int .i64 x675_5, .int .i64 x675_6]) rfl (by kernel_rfl) (by kernel_rfl) (fun _ h => ((((h).back le689).back le662).back le655).back le625) (fun w _ => by kernel_rfl) ?_
          refine HH.all1 30 (by kernel_rfl) ?_
          refine HS.lit 26 1 #[(0, .tmp 44)] [.int .i64 1, .int .i64 x675_1, .int .i64 x675_2, .int .i64 x675_3, .int .i64 x675_4, .int .i64 x675_5, .int .i64 x675_6] 41 ([(1, x675_1, x675_2, x675_3, x675_4, x675_5, x675_6)] : List E41) rfl (by kernel_rfl) rfl (by kernel_rfl) ok41.len rfl rfl (fun _ h => ((((h).back le689).back le662).back le655).back le625) (fun R692 F693 A694 c695 le696 k697 fr698 => ?_)
          refine HH.all1 31 (by kernel_rfl) ?_
          refine HS.call 40 #[.slice A687 x667.length c688, .slice A694 1 c695] (.bool x684) rfl (by kernel_rfl) (fun w => by kernel_rfl) (fun _ h => (((((h).back le696).back le689).back le662).back le655).back le625) (fun w hw => sawmillref13_Same.calls K x667 ([(1, x675_1, x675_2, x675_3, x675_4, x675_5, x675_6)] : List E41)  _ _ _ _ _ w  ((k690.le le696).at hw) (k697.at hw) hx684) ?_
          refine HH.take 32 (.bool x684) rfl (by kernel_rfl) (by kernel_rfl) (fun _ h => (((((h).back le696).back le689).back le662).back le655).back le625) (fun w _ => by kernel_rfl) ?_
          refine HH.take 33 (.bool x684) rfl (by kernel_rfl) (by kernel_rfl) (fun _ h => (((((h).back le696).back le689).back le662).back le655).back le625) (fun w _ => by kernel_rfl) ?_
          rcases Bool.eq_false_or_eq_true (x684) with c700 | c700
          · rw [if_pos (c700)] at H
            refine HH.bool 48 (x684) true c700 (by kernel_rfl) ?_
            obtain ⟨x701, hx701, H⟩ := bind_some H
            refine HH.take 34 (.slice A602 3 c603) rfl (by kernel_rfl) (by kernel_rfl) (fun _ h => (((((h).back le696).back le689).back le662).back le655).back le625) (fun w _ => by kernel_rfl) ?_
            refine HH.all1 35 (by kernel_rfl) ?_
            refine HS.call 34 #[.slice A602 3 c603, .int .i64 1] (.int .i64 x701) rfl (by kernel_rfl) (fun w => by kernel_rfl) (fun _ h => (((((h).back le696).back le689).back le662).back le655).back le625) (fun w hw => defect_Count.calls ([(1, x597_1, x597_2, x597_3, x597_4, x597_5, x597_6), (2, x598_1, x598_2, x598_3, x598_4, x598_5, x598_6), (1, x599_1, x599_2, x599_3, x599_4, x599_5, x599_6)] : List E41) 1  _ _ _ w  ((((((k605.le le625).le le655).le le662).le le689).le le696).at hw) hx701) ?_
            refine HH.take 36 (.bool (x701 == 2)) rfl (by kernel_rfl) (by kernel_rfl) (fun _ h => (((((h).back le696).back le689).back le662).back le655).back le625) (fun w _ => by kernel_rfl) ?_
            refine HH.take 37 (.bool (x701 == 2)) rfl (by kernel_rfl) (by kernel_rfl) (fun _ h => (((((h).back le696).back le689).back le662).back le655).back le625) (fun w _ => by kernel_rfl) ?_
            refine HH.take 38 (.bool (x701 == 2)) rfl (by kernel_rfl) (by kernel_rfl) (fun _ h => (((((h).back le696).back le689).back le662).back le655).back le625) (fun w _ => by kernel_rfl) ?_
            rcases Bool.eq_false_or_eq_true ((x701 == 2)) with c702 | c702
            · rw [if_pos (eq_of_beq c702)] at H
              refine HH.bool 53 ((x701 == 2)) true c702 (by kernel_rfl) ?_
              obtain ⟨⟨e703_1, e703_2, e703_3, e703_4, e703_5, e703_6, e703_7⟩, he703, H⟩ := bind_some H
              (try dsimp only at H)
              obtain ⟨x704, hx704, H⟩ := bind_some H
              refine HH.take 39 (.slice A602 3 c603) rfl (by kernel_rfl) (by kernel_rfl) (fun _ h => (((((h).back le696).back le689).back le662).back le655).back le625) (fun w _ => by kernel_rfl) ?_
              refine HH.take 40 (.pointer (rp A602 ((2 : Int).toNat * 7 + 0))) rfl (by kernel_rfl) (by kernel_rfl) (fun _ h => (((((h).back le696).back le689).back le662).back le655).back le625) (idxR (cp := c603) (ik := .i64) k605 he703 rfl (by kernel_rfl) (by kernel_rfl) (by kernel_rfl)) ?_
              refine HH.take 41 (.agg #[.int .i64 e703_1, .int .i64 e703_2, .int .i64 e703_3, .int .i64 e703_4, .int .i64 e703_5, .int .i64 e703_6, .int .i64 e703_7]) rfl (by kernel_rfl) (by kernel_rfl) (fun _ h => (((((h).back le696).back le689).back le662).back le655).back le625) (ldR (off := 0) k605 he703 rfl (by kernel_rfl) (by kernel_rfl)) ?_
              refine HH.all1 42 (by kernel_rfl) ?_
              refine HS.call 31 #[.agg #[.int .i64 e703_1, .int .i64 e703_2, .int .i64 e703_3, .int .i64 e703_4, .int .i64 e703_5, .int .i64 e703_6, .int .i64 e703_7]] (.int .i64 x704) rfl (by kernel_rfl) (fun w => by kernel_rfl) (fun _ h => (((((h).back le696).back le689).back le662).back le655).back le625) (fun w hw => defect_Size.calls e703_1 e703_2 e703_3 e703_4 e703_5 e703_6 e703_7   _ w   hx704) ?_
              refine HH.take 43 (.bool (x704 == 30)) rfl (by kernel_rfl) (by kernel_rfl) (fun _ h => (((((h).back le696).back le689).back le662).back le655).back le625) (fun w _ => by kernel_rfl) ?_
              refine HH.take 44 (.bool (x704 == 30)) rfl (by kernel_rfl) (by kernel_rfl) (fun _ h => (((((h).back le696).back le689).back le662).back le655).back le625) (fun w _ => by kernel_rfl) ?_
              refine HH.take 45 (.bool (x704 == 30)) rfl (by kernel_rfl) (by kernel_rfl) (fun _ h => (((((h).back le696).back le689).back le662).back le655).back le625) (fun w _ => by kernel_rfl) ?_
              rcases Bool.eq_false_or_eq_true ((x704 == 30)) with c705 | c705
              · rw [if_pos (eq_of_beq c705)] at H
                refine HH.bool 60 ((x704 == 30)) true c705 (by kernel_rfl) ?_
                obtain ⟨x706, hx706, H⟩ := bind_some H
                refine HH.take 46 (.slice A602 3 c603) rfl (by kernel_rfl) (by kernel_rfl) (fun _ h => (((((h).back le696).back le689).back le662).back le655).back le625) (fun w _ => by kernel_rfl) ?_
                refine HH.all1 47 (by kernel_rfl) ?_
                refine HS.call 36 #[.slice A602 3 c603, .int .i64 2] (.int .i64 x706) rfl (by kernel_rfl) (fun w => by kernel_rfl) (fun _ h => (((((h).back le696).back le689).back le662).back le655).back le625) (fun w hw => defect_Largest.calls K ([(1, x597_1, x597_2, x597_3, x597_4, x597_5, x597_6), (2, x598_1, x598_2, x598_3, x598_4, x598_5, x598_6), (1, x599_1, x599_2, x599_3, x599_4, x599_5, x599_6)] : List E41) 2  _ _ _ w  ((((((k605.le le625).le le655).le le662).le le689).le le696).at hw) hx706) ?_
                refine HH.take 48 (.bool (x706 == 20)) rfl (by kernel_rfl) (by kernel_rfl) (fun _ h => (((((h).back le696).back le689).back le662).back le655).back le625) (fun w _ => by kernel_rfl) ?_
                refine HH.take 49 (.bool (x706 == 20)) rfl (by kernel_rfl) (by kernel_rfl) (fun _ h => (((((h).back le696).back le689).back le662).back le655).back le625) (fun w _ => by kernel_rfl) ?_
                refine HH.take 50 (.bool (x706 == 20)) rfl (by kernel_rfl) (by kernel_rfl) (fun _ h => (((((h).back le696).back le689).back le662).back le655).back le625) (fun w _ => by kernel_rfl) ?_
                rcases Bool.eq_false_or_eq_true ((x706 == 20)) with c707 | c707
                · rw [if_pos (eq_of_beq c707)] at H
                  refine HH.bool 65 ((x706 == 20)) true c707 (by kernel_rfl) ?_
                  obtain ⟨x708, hx708, H⟩ := bind_some H
                  refine HH.take 51 (.slice A602 3 c603) rfl (by kernel_rfl) (by kernel_rfl) (fun _ h => (((((h).back le696).back le689).back le662).back le655).back le625) (fun w _ => by kernel_rfl) ?_
                  refine HH.all1 52 (by kernel_rfl) ?_
                  refine HS.call 45 #[.slice A602 3 c603, .int .i64 100] (.int .i64 x708) rfl (by kernel_rfl) (fun w => by kernel_rfl) (fun _ h => (((((h).back le696).back le689).back le662).back le655).back le625) (fun w hw => defect_Worst.calls K ([(1, x597_1, x597_2, x597_3, x597_4, x597_5, x597_6), (2, x598_1, x598_2, x598_3, x598_4, x598_5, x598_6), (1, x599_1, x599_2, x599_3, x599_4, x599_5, x599_6)] : List E41) 100  _ _ _ w  ((((((k605.le le625).le le655).le le662).le le689).le le696).at hw) hx708) ?_
                  refine HH.take 53 (.bool (x708 == 50)) rfl (by kernel_rfl) (by kernel_rfl) (fun _ h => (((((h).back le696).back le689).back le662).back le655).back le625) (fun w _ => by kernel_rfl) ?_
                  refine HH.take 54 (.bool (x708 == 50)) rfl (by kernel_rfl) (by kernel_rfl) (fun _ h => (((((h).back le696).back le689).back le662).back le655).back le625) (fun w _ => by kernel_rfl) ?_
                  refine HH.take 55 (.bool (x708 == 50)) rfl (by kernel_rfl) (by kernel_rfl) (fun _ h => (((((h).back le696).back le689).back le662).back le655).back le625) (fun w _ => by kernel_rfl) ?_
                  refine HH.done (s' := [(0, .bool (x708 == 50))]) [0] (by kernel_rfl) (by kernel_rfl) ?_
                  refine NN.then ?_
                  refine J.ret ?_
                  refine NN.fin1 0 (.bool (x708 == 50)) (by kernel_rfl) (by kernel_rfl) (.inl rfl) (fun w hi => hi.ret ?_)
                  first | (cases H; rfl) | (obtain rfl := Option.some.inj H; rfl) | (simp only [Option.some.injEq, Prod.mk.injEq] at H; obtain ⟨rfl⟩ := H; rfl)
                · rw [if_neg (nebf c707)] at H
                  refine HH.bool 65 ((x706 == 20)) false c707 (by kernel_rfl) ?_
                  refine HH.off 51 rfl (by kernel_rfl) (by kernel_rfl) (by kernel_rfl) (fun _ h => (((((h).back le696).back le689).back le662).back le655).back le625) ?_
                  refine HH.off 52 rfl (by kernel_rfl) (by kernel_rfl) (by kernel_rfl) (fun _ h => (((((h).back le696).back le689).back le662).back le655).back le625) ?_
                  refine HH.off 53 rfl (by kernel_rfl) (by kernel_rfl) (by kernel_rfl) (fun _ h => (((((h).back le696).back le689).back le662).back le655).back le625) ?_
                  refine HH.take 54 (.bool false) rfl (by kernel_rfl) (by kernel_rfl) (fun _ h => (((((h).back le696).back le689).back le662).back le655).back le625) (fun w _ => by kernel_rfl) ?_
                  refine HH.take 55 (.bool false) rfl (by kernel_rfl) (by kernel_rfl) (fun _ h => (((((h).back le696).back le689).back le662).back le655).back le625) (fun w _ => by kernel_rfl) ?_
                  refine HH.done (s' := [(0, .bool false)]) [0] (by kernel_rfl) (by kernel_rfl) ?_
                  refine NN.then ?_
                  refine J.ret ?_
                  refine NN.fin1 0 (.bool false) (by kernel_rfl) (by kernel_rfl) (.inl rfl) (fun w hi => hi.ret ?_)
                  first | (cases H; rfl) | (obtain rfl := Option.some.inj H; rfl) | (simp only [Option.some.injEq, Prod.mk.injEq] at H; obtain ⟨rfl⟩ := H; rfl)
              · rw [if_neg (nebf c705)] at H
                refine HH.bool 60 ((x704 == 30)) false c705 (by kernel_rfl) ?_
                refine HH.off 46 rfl (by kernel_rfl) (by kernel_rfl) (by kernel_rfl) (fun _ h => (((((h).back le696).back le689).back le662).back le655).back le625) ?_
                refine HH.off 47 rfl (by kernel_rfl) (by kernel_rfl) (by kernel_rfl) (fun _ h => (((((h).back le696).back le689).back le662).back le655).back le625) ?_
                refine HH.off 48 rfl (by kernel_rfl) (by kernel_rfl) (by kernel_rfl) (fun _ h => (((((h).back le696).back le689).back le662).back le655).back le625) ?_
                refine HH.take 49 (.bool false) rfl (by kernel_rfl) (by kernel_rfl) (fun _ h => (((((h).back le696).back le689).back le662).back le655).back le625) (fun w _ => by kernel_rfl) ?_
                refine HH.take 50 (.bool false) rfl (by kernel_rfl) (by kernel_rfl) (fun _ h => (((((h).back le696).back le689).back le662).back le655).back le625) (fun w _ => by kernel_rfl) ?_
                refine HH.off 51 rfl (by kernel_rfl) (by kernel_rfl) (by kernel_rfl) (fun _ h => (((((h).back le696).back le689).back le662).back le655).back le625) ?_
                refine HH.off 52 rfl (by kernel_rfl) (by kernel_rfl) (by kernel_rfl) (fun _ h => (((((h).back le696).back le689).back le662).back le655).back le625) ?_
                refine HH.off 53 rfl (by kernel_rfl) (by kernel_rfl) (by kernel_rfl) (fun _ h => (((((h).back le696).back le689).back le662).back le655).back le625) ?_
                refine HH.take 54 (.bool false) rfl (by kernel_rfl) (by kernel_rfl) (fun _ h => (((((h).back le696).back le689).back le662).back le655).back le625) (fun w _ => by kernel_rfl) ?_
                refine HH.take 55 (.bool false) rfl (by kernel_rfl) (by kernel_rfl) (fun _ h => (((((h).back le696).back le689).back le662).back le655).back le625) (fun w _ => by kernel_rfl) ?_
                refine HH.done (s' := [(0, .bool false)]) [0] (by kernel_rfl) (by kernel_rfl) ?_
                refine NN.then ?_
                refine J.ret ?_
                refine NN.fin1 0 (.bool false) (by kernel_rfl) (by kernel_rfl) (.inl rfl) (fun w hi => hi.ret ?_)
                first | (cases H; rfl) | (obtain rfl := Option.some.inj H; rfl) | (simp only [Option.some.injEq, Prod.mk.injEq] at H; obtain ⟨rfl⟩ := H; rfl)
            · rw [if_neg (nebf c702)] at H
              refine HH.bool 53 ((x701 == 2)) false c702 (by kernel_rfl) ?_
              refine HH.off 39 rfl (by kernel_rfl) (by kernel_rfl) (by kernel_rfl) (fun _ h => (((((h).back le696).back le689).back le662).back le655).back le625) ?_
              refine HH.off 40 rfl (by kernel_rfl) (by kernel_rfl) (by kernel_rfl) (fun _ h => (((((h).back le696).back le689).back le662).back le655).back le625) ?_
              refine HH.off 41 rfl (by kernel_rfl) (by kernel_rfl) (by kernel_rfl) (fun _ h => (((((h).back le696).back le689).back le662).back le655).back le625) ?_
              refine HH.off 42 rfl (by kernel_rfl) (by kernel_rfl) (by kernel_rfl) (fun _ h => (((((h).back le696).back le689).back le662).back le655).back le625) ?_
              refine HH.off 43 rfl (by kernel_rfl) (by kernel_rfl) (by kernel_rfl) (fun _ h => (((((h).back le696).back le689).back le662).back le655).back le625) ?_
              refine HH.take 44 (.bool false) rfl (by kernel_rfl) (by kernel_rfl) (fun _ h => (((((h).back le696).back le689).back le662).back le655).back le625) (fun w _ => by kernel_rfl) ?_
              refine HH.take 45 (.bool false) rfl (by kernel_rfl) (by kernel_rfl) (fun _ h => (((((h).back le696).back le689).back le662).back le655).back le625) (fun w _ => by kernel_rfl) ?_
              refine HH.off 46 rfl (by kernel_rfl) (by kernel_rfl) (by kernel_rfl) (fun _ h => (((((h).back le696).back le689).back le662).back le655).back le625) ?_
              refine HH.off 47 rfl (by kernel_rfl) (by kernel_rfl) (by kernel_rfl) (fun _ h => (((((h).back le696).back le689).back le662).back le655).back le625) ?_
              refine HH.off 48 rfl (by kernel_rfl) (by kernel_rfl) (by kernel_rfl) (fun _ h => (((((h).back le696).back le689).back le662).back le655).back le625) ?_
              refine HH.take 49 (.bool false) rfl (by kernel_rfl) (by kernel_rfl) (fun _ h => (((((h).back le696).back le689).back le662).back le655).back le625) (fun w _ => by kernel_rfl) ?_
              refine HH.take 50 (.bool false) rfl (by kernel_rfl) (by kernel_rfl) (fun _ h => (((((h).back le696).back le689).back le662).back le655).back le625) (fun w _ => by kernel_rfl) ?_
              refine HH.off 51 rfl (by kernel_rfl) (by kernel_rfl) (by kernel_rfl) (fun _ h => (((((h).back le696).back le689).back le662).back le655).back le625) ?_
              refine HH.off 52 rfl (by kernel_rfl) (by kernel_rfl) (by kernel_rfl) (fun _ h => (((((h).back le696).back le689).back le662).back le655).back le625) ?_
              refine HH.off 53 rfl (by kernel_rfl) (by kernel_rfl) (by kernel_rfl) (fun _ h => (((((h).back le696).back le689).back le662).back le655).back le625) ?_
              refine HH.take 54 (.bool false) rfl (by kernel_rfl) (by kernel_rfl) (fun _ h => (((((h).back le696).back le689).back le662).back le655).back le625) (fun w _ => by kernel_rfl) ?_
              refine HH.take 55 (.bool false) rfl (by kernel_rfl) (by kernel_rfl) (fun _ h => (((((h).back le696).back le689).back le662).back le655).back le625) (fun w _ => by kernel_rfl) ?_
              refine HH.done (s' := [(0, .bool false)]) [0] (by kernel_rfl) (by kernel_rfl) ?_
              refine NN.then ?_
              refine J.ret ?_
              refine NN.fin1 0 (.bool false) (by kernel_rfl) (by kernel_rfl) (.inl rfl) (fun w hi => hi.ret ?_)
              first | (cases H; rfl) | (obtain rfl := Option.some.inj H; rfl) | (simp only [Option.some.injEq, Prod.mk.injEq] at H; obtain ⟨rfl⟩ := H; rfl)
          · rw [if_neg (nebt c700)] at H
            refine HH.bool 48 (x684) false c700 (by kernel_rfl) ?_
            refine HH.off 34 rfl (by kernel_rfl) (by kernel_rfl) (by kernel_rfl) (fun _ h => (((((h).back le696).back le689).back le662).back le655).back le625) ?_
            refine HH.off 35 rfl (by kernel_rfl) (by kernel_rfl) (by kernel_rfl) (fun _ h => (((((h).back le696).back le689).back le662).back le655).back le625) ?_
            refine HH.off 36 rfl (by kernel_rfl) (by kernel_rfl) (by kernel_rfl) (fun _ h => (((((h).back le696).back le689).back le662).back le655).back le625) ?_
            refine HH.take 37 (.bool false) rfl (by kernel_rfl) (by kernel_rfl) (fun _ h => (((((h).back le696).back le689).back le662).back le655).back le625) (fun w _ => by kernel_rfl) ?_
            refine HH.take 38 (.bool false) rfl (by kernel_rfl) (by kernel_rfl) (fun _ h => (((((h).back le696).back le689).back le662).back le655).back le625) (fun w _ => by kernel_rfl) ?_
            refine HH.off 39 rfl (by kernel_rfl) (by kernel_rfl) (by kernel_rfl) (fun _ h => (((((h).back le696).back le689).back le662).back le655).back le625) ?_
            refine HH.off 40 rfl (by kernel_rfl) (by kernel_rfl) (by kernel_rfl) (fun _ h => (((((h).back le696).back le689).back le662).back le655).back le625) ?_
            refine HH.off 41 rfl (by kernel_rfl) (by kernel_rfl) (by kernel_rfl) (fun _ h => (((((h).back le696).back le689).back le662).back le655).back le625) ?_
            refine HH.off 42 rfl (by kernel_rfl) (by kernel_rfl) (by kernel_rfl) (fun _ h => (((((h).back le696).back le689).back le662).back le655).back le625) ?_
            refine HH.off 43 rfl (by kernel_rfl) (by kernel_rfl) (by kernel_rfl) (fun _ h => (((((h).back le696).back le689).back le662).back le655).back le625) ?_
            refine HH.take 44 (.bool false) rfl (by kernel_rfl) (by kernel_rfl) (fun _ h => (((((h).back le696).back le689).back le662).back le655).back le625) (fun w _ => by kernel_rfl) ?_
            refine HH.take 45 (.bool false) rfl (by kernel_rfl) (by kernel_rfl) (fun _ h => (((((h).back le696).back le689).back le662).back le655).back le625) (fun w _ => by kernel_rfl) ?_
            refine HH.off 46 rfl (by kernel_rfl) (by kernel_rfl) (by kernel_rfl) (fun _ h => (((((h).back le696).back le689).back le662).back le655).back le625) ?_
            refine HH.off 47 rfl (by kernel_rfl) (by kernel_rfl) (by kernel_rfl) (fun _ h => (((((h).back le696).back le689).back le662).back le655).back le625) ?_
            refine HH.off 48 rfl (by kernel_rfl) (by kernel_rfl) (by kernel_rfl) (fun _ h => (((((h).back le696).back le689).back le662).back le655).back le625) ?_
            refine HH.take 49 (.bool false) rfl (by kernel_rfl) (by kernel_rfl) (fun _ h => (((((h).back le696).back le689).back le662).back le655).back le625) (fun w _ => by kernel_rfl) ?_
            refine HH.take 50 (.bool false) rfl (by kernel_rfl) (by kernel_rfl) (fun _ h => (((((h).back le696).back le689).back le662).back le655).back le625) (fun w _ => by kernel_rfl) ?_
            refine HH.off 51 rfl (by kernel_rfl) (by kernel_rfl) (by kernel_rfl) (fun _ h => (((((h).back le696).back le689).back le662).back le655).back le625) ?_
            refine HH.off 52 rfl (by kernel_rfl) (by kernel_rfl) (by kernel_rfl) (fun _ h => (((((h).back le696).back le689).back le662).back le655).back le625) ?_
            refine HH.off 53 rfl (by kernel_rfl) (by kernel_rfl) (by kernel_rfl) (fun _ h => (((((h).back le696).back le689).back le662).back le655).back le625) ?_
            refine HH.take 54 (.bool false) rfl (by kernel_rfl) (by kernel_rfl) (fun _ h => (((((h).back le696).back le689).back le662).back le655).back le625) (fun w _ => by kernel_rfl) ?_
            refine HH.take 55 (.bool false) rfl (by kernel_rfl) (by kernel_rfl) (fun _ h => (((((h).back le696).back le689).back le662).back le655).back le625) (fun w _ => by kernel_rfl) ?_
            refine HH.done (s' := [(0, .bool false)]) [0] (by kernel_rfl) (by kernel_rfl) ?_
            refine NN.then ?_
            refine J.ret ?_
            refine NN.fin1 0 (.bool false) (by kernel_rfl) (by kernel_rfl) (.inl rfl) (fun w hi => hi.ret ?_)
            first | (cases H; rfl) | (obtain rfl := Option.some.inj H; rfl) | (simp only [Option.some.injEq, Prod.mk.injEq] at H; obtain ⟨rfl⟩ := H; rfl)
        · rw [if_neg (nebt c666)] at H
          refine HH.bool 40 (x650) false c666 (by kernel_rfl) ?_
          refine HH.off 26 rfl (by kernel_rfl) (by kernel_rfl) (by kernel_rfl) (fun _ h => (((h).back le662).back le655).back le625) ?_
          refine HH.off 27 rfl (by kernel_rfl) (by kernel_rfl) (by kernel_rfl) (fun _ h => (((h).back le662).back le655).back le625) ?_
          refine HH.off 28 rfl (by kernel_rfl) (by kernel_rfl) (by kernel_rfl) (fun _ h => (((h).back le662).back le655).back le625) ?_
          refine HH.off 29 rfl (by kernel_rfl) (by kernel_rfl) (by kernel_rfl) (fun _ h => (((h).back le662).back le655).back le625) ?_
          refine HH.off 30 rfl (by kernel_rfl) (by kernel_rfl) (by kernel_rfl) (fun _ h => (((h).back le662).back le655).back le625) ?_
          refine HH.off 31 rfl (by kernel_rfl) (by kernel_rfl) (by kernel_rfl) (fun _ h => (((h).back le662).back le655).back le625) ?_
          refine HH.take 32 (.bool false) rfl (by kernel_rfl) (by kernel_rfl) (fun _ h => (((h).back le662).back le655).back le625) (fun w _ => by kernel_rfl) ?_
          refine HH.take 33 (.bool false) rfl (by kernel_rfl) (by kernel_rfl) (fun _ h => (((h).back le662).back le655).back le625) (fun w _ => by kernel_rfl) ?_
          refine HH.off 34 rfl (by kernel_rfl) (by kernel_rfl) (by kernel_rfl) (fun _ h => (((h).back le662).back le655).back le625) ?_
          refine HH.off 35 rfl (by kernel_rfl) (by kernel_rfl) (by kernel_rfl) (fun _ h => (((h).back le662).back le655).back le625) ?_
          refine HH.off 36 rfl (by kernel_rfl) (by kernel_rfl) (by kernel_rfl) (fun _ h => (((h).back le662).back le655).back le625) ?_
          refine HH.take 37 (.bool false) rfl (by kernel_rfl) (by kernel_rfl) (fun _ h => (((h).back le662).back le655).back le625) (fun w _ => by kernel_rfl) ?_
          refine HH.take 38 (.bool false) rfl (by kernel_rfl) (by kernel_rfl) (fun _ h => (((h).back le662).back le655).back le625) (fun w _ => by kernel_rfl) ?_
          refine HH.off 39 rfl (by kernel_rfl) (by kernel_rfl) (by kernel_rfl) (fun _ h => (((h).back le662).back le655).back le625) ?_
          refine HH.off 40 rfl (by kernel_rfl) (by kernel_rfl) (by kernel_rfl) (fun _ h => (((h).back le662).back le655).back le625) ?_
          refine HH.off 41 rfl (by kernel_rfl) (by kernel_rfl) (by kernel_rfl) (fun _ h => (((h).back le662).back le655).back le625) ?_
          refine HH.off 42 rfl (by kernel_rfl) (by kernel_rfl) (by kernel_rfl) (fun _ h => (((h).back le662).back le655).back le625) ?_
          refine HH.off 43 rfl (by kernel_rfl) (by kernel_rfl) (by kernel_rfl) (fun _ h => (((h).back le662).back le655).back le625) ?_
          refine HH.take 44 (.bool false) rfl (by kernel_rfl) (by kernel_rfl) (fun _ h => (((h).back le662).back le655).back le625) (fun w _ => by kernel_rfl) ?_
          refine HH.take 45 (.bool false) rfl (by kernel_rfl) (by kernel_rfl) (fun _ h => (((h).back le662).back le655).back le625) (fun w _ => by kernel_rfl) ?_
          refine HH.off 46 rfl (by kernel_rfl) (by kernel_rfl) (by kernel_rfl) (fun _ h => (((h).back le662).back le655).back le625) ?_
          refine HH.off 47 rfl (by kernel_rfl) (by kernel_rfl) (by kernel_rfl) (fun _ h => (((h).back le662).back le655).back le625) ?_
          refine HH.off 48 rfl (by kernel_rfl) (by kernel_rfl) (by kernel_rfl) (fun _ h => (((h).back le662).back le655).back le625) ?_
          refine HH.take 49 (.bool false) rfl (by kernel_rfl) (by kernel_rfl) (fun _ h => (((h).back le662).back le655).back le625) (fun w _ => by kernel_rfl) ?_
          refine HH.take 50 (.bool false) rfl (by kernel_rfl) (by kernel_rfl) (fun _ h => (((h).back le662).back le655).back le625) (fun w _ => by kernel_rfl) ?_
          refine HH.off 51 rfl (by kernel_rfl) (by kernel_rfl) (by kernel_rfl) (fun _ h => (((h).back le662).back le655).back le625) ?_
          refine HH.off 52 rfl (by kernel_rfl) (by kernel_rfl) (by kernel_rfl) (fun _ h => (((h).back le662).back le655).back le625) ?_
          refine HH.off 53 rfl (by kernel_rfl) (by kernel_rfl) (by kernel_rfl) (fun _ h => (((h).back le662).back le655).back le625) ?_
          refine HH.take 54 (.bool false) rfl (by kernel_rfl) (by kernel_rfl) (fun _ h => (((h).back le662).back le655).back le625) (fun w _ => by kernel_rfl) ?_
          refine HH.take 55 (.bool false) rfl (by kernel_rfl) (by kernel_rfl) (fun _ h => (((h).back le662).back le655).back le625) (fun w _ => by kernel_rfl) ?_
          refine HH.done (s' := [(0, .bool false)]) [0] (by kernel_rfl) (by kernel_rfl) ?_
          refine NN.then ?_
          refine J.ret ?_
          refine NN.fin1 0 (.bool false) (by kernel_rfl) (by kernel_rfl) (.inl rfl) (fun w hi => hi.ret ?_)
          first | (cases H; rfl) | (obtain rfl := Option.some.inj H; rfl) | (simp only [Option.some.injEq, Prod.mk.injEq] at H; obtain ⟨rfl⟩ := H; rfl)
      · rw [if_neg (nebt c632)] at H
        refine HH.bool 31 (x631) false c632 (by kernel_rfl) ?_
        refine HH.off 17 rfl (by kernel_rfl) (by kernel_rfl) (by kernel_rfl) (fun _ h => (h).back le625) ?_
        refine HH.off 18 rfl (by kernel_rfl) (by kernel_rfl) (by kernel_rfl) (fun _ h => (h).back le625) ?_
        refine HH.off 19 rfl (by kernel_rfl) (by kernel_rfl) (by kernel_rfl) (fun _ h => (h).back le625) ?_
        refine HH.off 20 rfl (by kernel_rfl) (by kernel_rfl) (by kernel_rfl) (fun _ h => (h).back le625) ?_
        refine HH.off 21 rfl (by kernel_rfl) (by kernel_rfl) (by kernel_rfl) (fun _ h => (h).back le625) ?_
        refine HH.off 22 rfl (by kernel_rfl) (by kernel_rfl) (by kernel_rfl) (fun _ h => (h).back le625) ?_
        refine HH.off 23 rfl (by kernel_rfl) (by kernel_rfl) (by kernel_rfl) (fun _ h => (h).back le625) ?_
        refine HH.take 24 (.bool false) rfl (by kernel_rfl) (by kernel_rfl) (fun _ h => (h).back le625) (fun w _ => by kernel_rfl) ?_
        refine HH.take 25 (.bool false) rfl (by kernel_rfl) (by kernel_rfl) (fun _ h => (h).back le625) (fun w _ => by kernel_rfl) ?_
        refine HH.off 26 rfl (by kernel_rfl) (by kernel_rfl) (by kernel_rfl) (fun _ h => (h).back le625) ?_
        refine HH.off 27 rfl (by kernel_rfl) (by kernel_rfl) (by kernel_rfl) (fun _ h => (h).back le625) ?_
        refine HH.off 28 rfl (by kernel_rfl) (by kernel_rfl) (by kernel_rfl) (fun _ h => (h).back le625) ?_
        refine HH.off 29 rfl (by kernel_rfl) (by kernel_rfl) (by kernel_rfl) (fun _ h => (h).back le625) ?_
        refine HH.off 30 rfl (by kernel_rfl) (by kernel_rfl) (by kernel_rfl) (fun _ h => (h).back le625) ?_
        refine HH.off 31 rfl (by kernel_rfl) (by kernel_rfl) (by kernel_rfl) (fun _ h => (h).back le625) ?_
        refine HH.take 32 (.bool false) rfl (by kernel_rfl) (by kernel_rfl) (fun _ h => (h).back le625) (fun w _ => by kernel_rfl) ?_
        refine HH.take 33 (.bool false) rfl (by kernel_rfl) (by kernel_rfl) (fun _ h => (h).back le625) (fun w _ => by kernel_rfl) ?_
        refine HH.off 34 rfl (by kernel_rfl) (by kernel_rfl) (by kernel_rfl) (fun _ h => (h).back le625) ?_
        refine HH.off 35 rfl (by kernel_rfl) (by kernel_rfl) (by kernel_rfl) (fun _ h => (h).back le625) ?_
        refine HH.off 36 rfl (by kernel_rfl) (by kernel_rfl) (by kernel_rfl) (fun _ h => (h).back le625) ?_
        refine HH.take 37 (.bool false) rfl (by kernel_rfl) (by kernel_rfl) (fun _ h => (h).back le625) (fun w _ => by kernel_rfl) ?_
        refine HH.take 38 (.bool false) rfl (by kernel_rfl) (by kernel_rfl) (fun _ h => (h).back le625) (fun w _ => by kernel_rfl) ?_
        refine HH.off 39 rfl (by kernel_rfl) (by kernel_rfl) (by kernel_rfl) (fun _ h => (h).back le625) ?_
        refine HH.off 40 rfl (by kernel_rfl) (by kernel_rfl) (by kernel_rfl) (fun _ h => (h).back le625) ?_
        refine HH.off 41 rfl (by kernel_rfl) (by kernel_rfl) (by kernel_rfl) (fun _ h => (h).back le625) ?_
        refine HH.off 42 rfl (by kernel_rfl) (by kernel_rfl) (by kernel_rfl) (fun _ h => (h).back le625) ?_
        refine HH.off 43 rfl (by kernel_rfl) (by kernel_rfl) (by kernel_rfl) (fun _ h => (h).back le625) ?_
        refine HH.take 44 (.bool false) rfl (by kernel_rfl) (by kernel_rfl) (fun _ h => (h).back le625) (fun w _ => by kernel_rfl) ?_
        refine HH.take 45 (.bool false) rfl (by kernel_rfl) (by kernel_rfl) (fun _ h => (h).back le625) (fun w _ => by kernel_rfl) ?_
        refine HH.off 46 rfl (by kernel_rfl) (by kernel_rfl) (by kernel_rfl) (fun _ h => (h).back le625) ?_
        refine HH.off 47 rfl (by kernel_rfl) (by kernel_rfl) (by kernel_rfl) (fun _ h => (h).back le625) ?_
        refine HH.off 48 rfl (by kernel_rfl) (by kernel_rfl) (by kernel_rfl) (fun _ h => (h).back le625) ?_
        refine HH.take 49 (.bool false) rfl (by kernel_rfl) (by kernel_rfl) (fun _ h => (h).back le625) (fun w _ => by kernel_rfl) ?_
        refine HH.take 50 (.bool false) rfl (by kernel_rfl) (by kernel_rfl) (fun _ h => (h).back le625) (fun w _ => by kernel_rfl) ?_
        refine HH.off 51 rfl (by kernel_rfl) (by kernel_rfl) (by kernel_rfl) (fun _ h => (h).back le625) ?_
        refine HH.off 52 rfl (by kernel_rfl) (by kernel_rfl) (by kernel_rfl) (fun _ h => (h).back le625) ?_
        refine HH.off 53 rfl (by kernel_rfl) (by kernel_rfl) (by kernel_rfl) (fun _ h => (h).back le625) ?_
        refine HH.take 54 (.bool false) rfl (by kernel_rfl) (by kernel_rfl) (fun _ h => (h).back le625) (fun w _ => by kernel_rfl) ?_
        refine HH.take 55 (.bool false) rfl (by kernel_rfl) (by kernel_rfl) (fun _ h => (h).back le625) (fun w _ => by kernel_rfl) ?_
        refine HH.done (s' := [(0, .bool false)]) [0] (by kernel_rfl) (by kernel_rfl) ?_
        refine NN.then ?_
        refine J.ret ?_
        refine NN.fin1 0 (.bool false) (by kernel_rfl) (by kernel_rfl) (.inl rfl) (fun w hi => hi.ret ?_)
        first | (cases H; rfl) | (obtain rfl := Option.some.inj H; rfl) | (simp only [Option.some.injEq, Prod.mk.injEq] at H; obtain ⟨rfl⟩ := H; rfl)
    · rw [if_neg (nebf c629)] at H
      refine HH.bool 24 ((x620 == 10)) false c629 (by kernel_rfl) ?_
      refine HH.off 10 rfl (by kernel_rfl) (by kernel_rfl) (by kernel_rfl) (fun _ h => (h).back le625) ?_
      refine HH.off 11 rfl (by kernel_rfl) (by kernel_rfl) (by kernel_rfl) (fun _ h => (h).back le625) ?_
      refine HH.off 12 rfl (by kernel_rfl) (by kernel_rfl) (by kernel_rfl) (fun _ h => (h).back le625) ?_
      refine HH.off 13 rfl (by kernel_rfl) (by kernel_rfl) (by kernel_rfl) (fun _ h => (h).back le625) ?_
      refine HH.off 14 rfl (by kernel_rfl) (by kernel_rfl) (by kernel_rfl) (fun _ h => (h).back le625) ?_
      refine HH.take 15 (.bool false) rfl (by kernel_rfl) (by kernel_rfl) (fun _ h => (h).back le625) (fun w _ => by kernel_rfl) ?_
      refine HH.take 16 (.bool false) rfl (by kernel_rfl) (by kernel_rfl) (fun _ h => (h).back le625) (fun w _ => by kernel_rfl) ?_
      refine HH.off 17 rfl (by kernel_rfl) (by kernel_rfl) (by kernel_rfl) (fun _ h => (h).back le625) ?_
      refine HH.off 18 rfl (by kernel_rfl) (by kernel_rfl) (by kernel_rfl) (fun _ h => (h).back le625) ?_
      refine HH.off 19 rfl (by kernel_rfl) (by kernel_rfl) (by kernel_rfl) (fun _ h => (h).back le625) ?_
      refine HH.off 20 rfl (by kernel_rfl) (by kernel_rfl) (by kernel_rfl) (fun _ h => (h).back le625) ?_
      refine HH.off 21 rfl (by kernel_rfl) (by kernel_rfl) (by kernel_rfl) (fun _ h => (h).back le625) ?_
      refine HH.off 22 rfl (by kernel_rfl) (by kernel_rfl) (by kernel_rfl) (fun _ h => (h).back le625) ?_
      refine HH.off 23 rfl (by kernel_rfl) (by kernel_rfl) (by kernel_rfl) (fun _ h => (h).back le625) ?_
      refine HH.take 24 (.bool false) rfl (by kernel_rfl) (by kernel_rfl) (fun _ h => (h).back le625) (fun w _ => by kernel_rfl) ?_
      refine HH.take 25 (.bool false) rfl (by kernel_rfl) (by kernel_rfl) (fun _ h => (h).back le625) (fun w _ => by kernel_rfl) ?_
      refine HH.off 26 rfl (by kernel_rfl) (by kernel_rfl) (by kernel_rfl) (fun _ h => (h).back le625) ?_
      refine HH.off 27 rfl (by kernel_rfl) (by kernel_rfl) (by kernel_rfl) (fun _ h => (h).back le625) ?_
      refine HH.off 28 rfl (by kernel_rfl) (by kernel_rfl) (by kernel_rfl) (fun _ h => (h).back le625) ?_
      refine HH.off 29 rfl (by kernel_rfl) (by kernel_rfl) (by kernel_rfl) (fun _ h => (h).back le625) ?_
      refine HH.off 30 rfl (by kernel_rfl) (by kernel_rfl) (by kernel_rfl) (fun _ h => (h).back le625) ?_
      refine HH.off 31 rfl (by kernel_rfl) (by kernel_rfl) (by kernel_rfl) (fun _ h => (h).back le625) ?_
      refine HH.take 32 (.bool false) rfl (by kernel_rfl) (by kernel_rfl) (fun _ h => (h).back le625) (fun w _ => by kernel_rfl) ?_
      refine HH.take 33 (.bool false) rfl (by kernel_rfl) (by kernel_rfl) (fun _ h => (h).back le625) (fun w _ => by kernel_rfl) ?_
      refine HH.off 34 rfl (by kernel_rfl) (by kernel_rfl) (by kernel_rfl) (fun _ h => (h).back le625) ?_
      refine HH.off 35 rfl (by kernel_rfl) (by kernel_rfl) (by kernel_rfl) (fun _ h => (h).back le625) ?_
      refine HH.off 36 rfl (by kernel_rfl) (by kernel_rfl) (by kernel_rfl) (fun _ h => (h).back le625) ?_
      refine HH.take 37 (.bool false) rfl (by kernel_rfl) (by kernel_rfl) (fun _ h => (h).back le625) (fun w _ => by kernel_rfl) ?_
      refine HH.take 38 (.bool false) rfl (by kernel_rfl) (by kernel_rfl) (fun _ h => (h).back le625) (fun w _ => by kernel_rfl) ?_
      refine HH.off 39 rfl (by kernel_rfl) (by kernel_rfl) (by kernel_rfl) (fun _ h => (h).back le625) ?_
      refine HH.off 40 rfl (by kernel_rfl) (by kernel_rfl) (by kernel_rfl) (fun _ h => (h).back le625) ?_
      refine HH.off 41 rfl (by kernel_rfl) (by kernel_rfl) (by kernel_rfl) (fun _ h => (h).back le625) ?_
      refine HH.off 42 rfl (by kernel_rfl) (by kernel_rfl) (by kernel_rfl) (fun _ h => (h).back le625) ?_
      refine HH.off 43 rfl (by kernel_rfl) (by kernel_rfl) (by kernel_rfl) (fun _ h => (h).back le625) ?_
      refine HH.take 44 (.bool false) rfl (by kernel_rfl) (by kernel_rfl) (fun _ h => (h).back le625) (fun w _ => by kernel_rfl) ?_
      refine HH.take 45 (.bool false) rfl (by kernel_rfl) (by kernel_rfl) (fun _ h => (h).back le625) (fun w _ => by kernel_rfl) ?_
      refine HH.off 46 rfl (by kernel_rfl) (by kernel_rfl) (by kernel_rfl) (fun _ h => (h).back le625) ?_
      refine HH.off 47 rfl (by kernel_rfl) (by kernel_rfl) (by kernel_rfl) (fun _ h => (h).back le625) ?_
      refine HH.off 48 rfl (by kernel_rfl) (by kernel_rfl) (by kernel_rfl) (fun _ h => (h).back le625) ?_
      refine HH.take 49 (.bool false) rfl (by kernel_rfl) (by kernel_rfl) (fun _ h => (h).back le625) (fun w _ => by kernel_rfl) ?_
      refine HH.take 50 (.bool false) rfl (by kernel_rfl) (by kernel_rfl) (fun _ h => (h).back le625) (fun w _ => by kernel_rfl) ?_
      refine HH.off 51 rfl (by kernel_rfl) (by kernel_rfl) (by kernel_rfl) (fun _ h => (h).back le625) ?_
      refine HH.off 52 rfl (by kernel_rfl) (by kernel_rfl) (by kernel_rfl) (fun _ h => (h).back le625) ?_
      refine HH.off 53 rfl (by kernel_rfl) (by kernel_rfl) (by kernel_rfl) (fun _ h => (h).back le625) ?_
      refine HH.take 54 (.bool false) rfl (by kernel_rfl) (by kernel_rfl) (fun _ h => (h).back le625) (fun w _ => by kernel_rfl) ?_
      refine HH.take 55 (.bool false) rfl (by kernel_rfl) (by kernel_rfl) (fun _ h => (h).back le625) (fun w _ => by kernel_rfl) ?_
      refine HH.done (s' := [(0, .bool false)]) [0] (by kernel_rfl) (by kernel_rfl) ?_
      refine NN.then ?_
      refine J.ret ?_
      refine NN.fin1 0 (.bool false) (by kernel_rfl) (by kernel_rfl) (.inl rfl) (fun w hi => hi.ret ?_)
      first | (cases H; rfl) | (obtain rfl := Option.some.inj H; rfl) | (simp only [Option.some.injEq, Prod.mk.injEq] at H; obtain ⟨rfl⟩ := H; rfl)
  · rw [if_neg (nebf c611)] at H
    refine HH.bool 18 ((x610 == 0)) false c611 (by kernel_rfl) ?_
    refine HH.off 4 rfl (by kernel_rfl) (by kernel_rfl) (by kernel_rfl) (fun _ h => h) ?_
    refine HH.off 5 rfl (by kernel_rfl) (by kernel_rfl) (by kernel_rfl) (fun _ h => h) ?_
    refine HH.off 6 rfl (by kernel_rfl) (by kernel_rfl) (by kernel_rfl) (fun _ h => h) ?_
    refine HH.off 7 rfl (by kernel_rfl) (by kernel_rfl) (by kernel_rfl) (fun _ h => h) ?_
    refine HH.take 8 (.bool false) rfl (by kernel_rfl) (by kernel_rfl) (fun _ h => h) (fun w _ => by kernel_rfl) ?_
    refine HH.take 9 (.bool false) rfl (by kernel_rfl) (by kernel_rfl) (fun _ h => h) (fun w _ => by kernel_rfl) ?_
    refine HH.off 10 rfl (by kernel_rfl) (by kernel_rfl) (by kernel_rfl) (fun _ h => h) ?_
    refine HH.off 11 rfl (by kernel_rfl) (by kernel_rfl) (by kernel_rfl) (fun _ h => h) ?_
    refine HH.off 12 rfl (by kernel_rfl) (by kernel_rfl) (by kernel_rfl) (fun _ h => h) ?_
    refine HH.off 13 rfl (by kernel_rfl) (by kernel_rfl) (by kernel_rfl) (fun _ h => h) ?_
    refine HH.off 14 rfl (by kernel_rfl) (by kernel_rfl) (by kernel_rfl) (fun _ h => h) ?_
    refine HH.take 15 (.bool false) rfl (by kernel_rfl) (by kernel_rfl) (fun _ h => h) (fun w _ => by kernel_rfl) ?_
    refine HH.take 16 (.bool false) rfl (by kernel_rfl) (by kernel_rfl) (fun _ h => h) (fun w _ => by kernel_rfl) ?_
    refine HH.off 17 rfl (by kernel_rfl) (by kernel_rfl) (by kernel_rfl) (fun _ h => h) ?_
    refine HH.off 18 rfl (by kernel_rfl) (by kernel_rfl) (by kernel_rfl) (fun _ h => h) ?_
    refine HH.off 19 rfl (by kernel_rfl) (by kernel_rfl) (by kernel_rfl) (fun _ h => h) ?_
    refine HH.off 20 rfl (by kernel_rfl) (by kernel_rfl) (by kernel_rfl) (fun _ h => h) ?_
    refine HH.off 21 rfl (by kernel_rfl) (by kernel_rfl) (by kernel_rfl) (fun _ h => h) ?_
    refine HH.off 22 rfl (by kernel_rfl) (by kernel_rfl) (by kernel_rfl) (fun _ h => h) ?_
    refine HH.off 23 rfl (by kernel_rfl) (by kernel_rfl) (by kernel_rfl) (fun _ h => h) ?_
    refine HH.take 24 (.bool false) rfl (by kernel_rfl) (by kernel_rfl) (fun _ h => h) (fun w _ => by kernel_rfl) ?_
    refine HH.take 25 (.bool false) rfl (by kernel_rfl) (by kernel_rfl) (fun _ h => h) (fun w _ => by kernel_rfl) ?_
    refine HH.off 26 rfl (by kernel_rfl) (by kernel_rfl) (by kernel_rfl) (fun _ h => h) ?_
    refine HH.off 27 rfl (by kernel_rfl) (by kernel_rfl) (by kernel_rfl) (fun _ h => h) ?_
    refine HH.off 28 rfl (by kernel_rfl) (by kernel_rfl) (by kernel_rfl) (fun _ h => h) ?_
    refine HH.off 29 rfl (by kernel_rfl) (by kernel_rfl) (by kernel_rfl) (fun _ h => h) ?_
    refine HH.off 30 rfl (by kernel_rfl) (by kernel_rfl) (by kernel_rfl) (fun _ h => h) ?_
    refine HH.off 31 rfl (by kernel_rfl) (by kernel_rfl) (by kernel_rfl) (fun _ h => h) ?_
    refine HH.take 32 (.bool false) rfl (by kernel_rfl) (by kernel_rfl) (fun _ h => h) (fun w _ => by kernel_rfl) ?_
    refine HH.take 33 (.bool false) rfl (by kernel_rfl) (by kernel_rfl) (fun _ h => h) (fun w _ => by kernel_rfl) ?_
    refine HH.off 34 rfl (by kernel_rfl) (by kernel_rfl) (by kernel_rfl) (fun _ h => h) ?_
    refine HH.off 35 rfl (by kernel_rfl) (by kernel_rfl) (by kernel_rfl) (fun _ h => h) ?_
    refine HH.off 36 rfl (by kernel_rfl) (by kernel_rfl) (by kernel_rfl) (fun _ h => h) ?_
    refine HH.take 37 (.bool false) rfl (by kernel_rfl) (by kernel_rfl) (fun _ h => h) (fun w _ => by kernel_rfl) ?_
    refine HH.take 38 (.bool false) rfl (by kernel_rfl) (by kernel_rfl) (fun _ h => h) (fun w _ => by kernel_rfl) ?_
    refine HH.off 39 rfl (by kernel_rfl) (by kernel_rfl) (by kernel_rfl) (fun _ h => h) ?_
    refine HH.off 40 rfl (by kernel_rfl) (by kernel_rfl) (by kernel_rfl) (fun _ h => h) ?_
    refine HH.off 41 rfl (by kernel_rfl) (by kernel_rfl) (by kernel_rfl) (fun _ h => h) ?_
    refine HH.off 42 rfl (by kernel_rfl) (by kernel_rfl) (by kernel_rfl) (fun _ h => h) ?_
    refine HH.off 43 rfl (by kernel_rfl) (by kernel_rfl) (by kernel_rfl) (fun _ h => h) ?_
    refine HH.take 44 (.bool false) rfl (by kernel_rfl) (by kernel_rfl) (fun _ h => h) (fun w _ => by kernel_rfl) ?_
    refine HH.take 45 (.bool false) rfl (by kernel_rfl) (by kernel_rfl) (fun _ h => h) (fun w _ => by kernel_rfl) ?_
    refine HH.off 46 rfl (by kernel_rfl) (by kernel_rfl) (by kernel_rfl) (fun _ h => h) ?_
    refine HH.off 47 rfl (by kernel_rfl) (by kernel_rfl) (by kernel_rfl) (fun _ h => h) ?_
    refine HH.off 48 rfl (by kernel_rfl) (by kernel_rfl) (by kernel_rfl) (fun _ h => h) ?_
    refine HH.take 49 (.bool false) rfl (by kernel_rfl) (by kernel_rfl) (fun _ h => h) (fun w _ => by kernel_rfl) ?_
    refine HH.take 50 (.bool false) rfl (by kernel_rfl) (by kernel_rfl) (fun _ h => h) (fun w _ => by kernel_rfl) ?_
    refine HH.off 51 rfl (by kernel_rfl) (by kernel_rfl) (by kernel_rfl) (fun _ h => h) ?_
    refine HH.off 52 rfl (by kernel_rfl) (by kernel_rfl) (by kernel_rfl) (fun _ h => h) ?_
    refine HH.off 53 rfl (by kernel_rfl) (by kernel_rfl) (by kernel_rfl) (fun _ h => h) ?_
    refine HH.take 54 (.bool false) rfl (by kernel_rfl) (by kernel_rfl) (fun _ h => h) (fun w _ => by kernel_rfl) ?_
    refine HH.take 55 (.bool false) rfl (by kernel_rfl) (by kernel_rfl) (fun _ h => h) (fun w _ => by kernel_rfl) ?_
    refine HH.done (s' := [(0, .bool false)]) [0] (by kernel_rfl) (by kernel_rfl) ?_
    refine NN.then ?_
    refine J.ret ?_
    refine NN.fin1 0 (.bool false) (by kernel_rfl) (by kernel_rfl) (.inl rfl) (fun w hi => hi.ret ?_)
    first | (cases H; rfl) | (obtain rfl := Option.some.inj H; rfl) | (simp only [Option.some.injEq, Prod.mk.injEq] at H; obtain ⟨rfl⟩ := H; rfl)

end Go.Proofs.Ytfjbhmpnmpphoaa
