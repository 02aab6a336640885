/- Walks of functions of the seat: each call does what the Lean function of the same name says. Printed by the session's own program absgen.py. -/
import Derived.Test.YtfjbhmpnmpphoaaF4
namespace Go.Proofs.Ytfjbhmpnmpphoaa
open Go.Saw
set_option linter.unusedVariables false
set_option linter.unusedSimpArgs false

/-! ### sawmilllaw41_StrengthOf: function 3 -/
def sawmilllaw41_StrengthOf.f (K : Nat) (a0_0 : ByteArray) (a0_1 : ByteArray) (a0_2 : ByteArray) (a0_3 : Int) (a0_4 : Int) (a0_5 : Int) (a0_6 : Int) (a0_7 : Int) (a0_8 : Int) (a0_9 : Int) (a0_10 : Int) (a0_11 : List E41) (a0_12 : Int) (a0_13 : Int) (a0_14 : Int) (a0_15 : Int) (a0_16 : Bool) (a0_17 : Int) (a1_0 : ByteArray) (a1_1 : Int) (a1_2 : Int) (a1_3 : Int) (a1_4 : Int) (a1_5 : Int) (a1_6 : Int) (a1_7 : Int) (a1_8 : Int) (a1_9 : Int) (a1_10 : Int) (a1_11 : Int) (a1_12 : Int) : Option (Bool) := (sawmilllaw41_few.f a0_0 a0_1 a0_2 a0_3 a0_4 a0_5 a0_6 a0_7 a0_8 a0_9 a0_10 a0_11 a0_12 a0_13 a0_14 a0_15 a0_16 a0_17 a1_0 a1_1 a1_2 a1_3 a1_4 a1_5 a1_6 a1_7 a1_8 a1_9 a1_10 a1_11 a1_12).bind fun x711 => (if x711 = true then ((sawmillref41_Right.f K a0_0 a0_1 a0_2 a0_3 a0_4 a0_5 a0_6 a0_7 a0_8 a0_9 a0_10 a0_11 a0_12 a0_13 a0_14 a0_15 a0_16 a0_17 a1_0 a1_1 a1_2 a1_3 a1_4 a1_5 a1_6 a1_7 a1_8 a1_9 a1_10 a1_11 a1_12).bind fun x713 => (if x713 = true then ((strength_Knots.f K a0_0 a0_1 a0_2 a0_3 a0_4 a0_5 a0_6 a0_7 a0_8 a0_9 a0_10 a0_11 a0_12 a0_13 a0_14 a0_15 a0_16 a0_17).bind fun x715 => ((sawmillref41_Knots.f K a0_0 a0_1 a0_2 a0_3 a0_4 a0_5 a0_6 a0_7 a0_8 a0_9 a0_10 a0_11 a0_12 a0_13 a0_14 a0_15 a0_16 a0_17).bind fun x716 => (if x715 = x716 then ((strength_Stiffness.f K a0_0 a0_1 a0_2 a0_3 a0_4 a0_5 a0_6 a0_7 a0_8 a0_9 a0_10 a0_11 a0_12 a0_13 a0_14 a0_15 a0_16 a0_17 a1_0 a1_1 a1_2 a1_3 a1_4 a1_5 a1_6 a1_7 a1_8 a1_9 a1_10 a1_11 a1_12).bind fun x718 => ((sawmillref41_Stiffness.f K a0_0 a0_1 a0_2 a0_3 a0_4 a0_5 a0_6 a0_7 a0_8 a0_9 a0_10 a0_11 a0_12 a0_13 a0_14 a0_15 a0_16 a0_17 a1_0 a1_1 a1_2 a1_3 a1_4 a1_5 a1_6 a1_7 a1_8 a1_9 a1_10 a1_11 a1_12).bind fun x719 => (if x718 = x719 then ((sawmilllaw41_awake.f K ).bind fun x721 => (some x721)) else (some false)))) else (some false)))) else ((sawmilllaw41_awake.f K ).bind fun x722 => (some x722)))) else ((sawmilllaw41_awake.f K ).bind fun x723 => (some x723)))
set_option maxRecDepth 100000 in
theorem sawmilllaw41_StrengthOf.calls (K : Nat) (a0_0 : ByteArray) (a0_1 : ByteArray) (a0_2 : ByteArray) (a0_3 : Int) (a0_4 : Int) (a0_5 : Int) (a0_6 : Int) (a0_7 : Int) (a0_8 : Int) (a0_9 : Int) (a0_10 : Int) (a0_11 : List E41) (a0_12 : Int) (a0_13 : Int) (a0_14 : Int) (a0_15 : Int) (a0_16 : Bool) (a0_17 : Int) (a1_0 : ByteArray) (a1_1 : Int) (a1_2 : Int) (a1_3 : Int) (a1_4 : Int) (a1_5 : Int) (a1_6 : Int) (a1_7 : Int) (a1_8 : Int) (a1_9 : Int) (a1_10 : Int) (a1_11 : Int) (a1_12 : Int)  (Aa0_11 : Option Addr) (ca0_11 : Nat)  (r1 : Bool) (w : World)   (ha0_11 : KRow (Cx.start w) enc41 7 a0_11 Aa0_11) (h : sawmilllaw41_StrengthOf.f K a0_0 a0_1 a0_2 a0_3 a0_4 a0_5 a0_6 a0_7 a0_8 a0_9 a0_10 a0_11 a0_12 a0_13 a0_14 a0_15 a0_16 a0_17 a1_0 a1_1 a1_2 a1_3 a1_4 a1_5 a1_6 a1_7 a1_8 a1_9 a1_10 a1_11 a1_12 = some r1) :
    Calls Try.prog 3 #[.agg #[.string a0_0, .string a0_1, .string a0_2, .int .i64 a0_3, .int .i64 a0_4, .int .i64 a0_5, .int .i64 a0_6, .int .i64 a0_7, .int .i64 a0_8, .int .i64 a0_9, .int .i64 a0_10, .slice Aa0_11 a0_11.length ca0_11, .int .i64 a0_12, .int .i64 a0_13, .int .i64 a0_14, .int .i64 a0_15, .bool a0_16, .int .i64 a0_17], .agg #[.string a1_0, .int .i64 a1_1, .int .i64 a1_2, .int .i64 a1_3, .int .i64 a1_4, .int .i64 a1_5, .int .i64 a1_6, .int .i64 a1_7, .int .i64 a1_8, .int .i64 a1_9, .int .i64 a1_10, .int .i64 a1_11, .int .i64 a1_12]] w (Ret w (.bool r1)) := by
  have H := h
  clear h
  unfold sawmilllaw41_StrengthOf.f at H
  refine Go.Saw.calls (args := [.agg #[.string a0_0, .string a0_1, .string a0_2, .int .i64 a0_3, .int .i64 a0_4, .int .i64 a0_5, .int .i64 a0_6, .int .i64 a0_7, .int .i64 a0_8, .int .i64 a0_9, .int .i64 a0_10, .slice Aa0_11 a0_11.length ca0_11, .int .i64 a0_12, .int .i64 a0_13, .int .i64 a0_14, .int .i64 a0_15, .bool a0_16, .int .i64 a0_17], .agg #[.string a1_0, .int .i64 a1_1, .int .i64 a1_2, .int .i64 a1_3, .int .i64 a1_4, .int .i64 a1_5, .int .i64 a1_6, .int .i64 a1_7, .int .i64 a1_8, .int .i64 a1_9, .int .i64 a1_10, .int .i64 a1_11, .int .i64 a1_12]]) Try.func3 rfl Try.ntmps3 (by kernel_rfl) ?_
  refine J.seq ?_
  refine J.plain ?_
  refine LL.box 30 (.tmp 0) [.string a0_0, .string a0_1, .string a0_2, .int .i64 a0_3, .int .i64 a0_4, .int .i64 a0_5, .int .i64 a0_6, .int .i64 a0_7, .int .i64 a0_8, .int .i64 a0_9, .int .i64 a0_10, .slice Aa0_11 a0_11.length ca0_11, .int .i64 a0_12, .int .i64 a0_13, .int .i64 a0_14, .int .i64 a0_15, .bool a0_16, .int .i64 a0_17] (by kernel_rfl) rfl (by kernel_rfl) (fun g709 => ?_)
  refine LL.box 32 (.tmp 1) [.string a1_0, .int .i64 a1_1, .int .i64 a1_2, .int .i64 a1_3, .int .i64 a1_4, .int .i64 a1_5, .int .i64 a1_6, .int .i64 a1_7, .int .i64 a1_8, .int .i64 a1_9, .int .i64 a1_10, .int .i64 a1_11, .int .i64 a1_12] (by kernel_rfl) rfl (by kernel_rfl) (fun g710 => ?_)
  refine LL.op (.bool false) (by kernel_rfl) (fun w _ => by kernel_rfl) ?_
  refine LL.done (s' := [(2, .pointer (some ⟨g709, 0, none⟩)), (3, .pointer (some ⟨g710, 0, none⟩)), (4, .bool false)]) [2, 3, 4] (by kernel_rfl) ?_
  refine NN.then ?_
  refine J.seq ?_
  refine J.seq ?_
  refine J.plain ?_
  refine LL.op (.agg #[.string a0_0, .string a0_1, .string a0_2, .int .i64 a0_3, .int .i64 a0_4, .int .i64 a0_5, .int .i64 a0_6, .int .i64 a0_7, .int .i64 a0_8, .int .i64 a0_9, .int .i64 a0_10, .slice Aa0_11 a0_11.length ca0_11, .int .i64 a0_12, .int .i64 a0_13, .int .i64 a0_14, .int .i64 a0_15, .bool a0_16, .int .i64 a0_17]) (by kernel_rfl) (ld 1 g709 0 rfl (by kernel_rfl) rfl (by kernel_rfl)) ?_
  refine LL.op (.agg #[.string a1_0, .int .i64 a1_1, .int .i64 a1_2, .int .i64 a1_3, .int .i64 a1_4, .int .i64 a1_5, .int .i64 a1_6, .int .i64 a1_7, .int .i64 a1_8, .int .i64 a1_9, .int .i64 a1_10, .int .i64 a1_11, .int .i64 a1_12]) (by kernel_rfl) (ld 0 g710 0 rfl (by kernel_rfl) rfl (by kernel_rfl)) ?_
  obtain ⟨x711, hx711, H⟩ := bind_some H
  refine LL.call 15 #[.agg #[.string a0_0, .string a0_1, .string a0_2, .int .i64 a0_3, .int .i64 a0_4, .int .i64 a0_5, .int .i64 a0_6, .int .i64 a0_7, .int .i64 a0_8, .int .i64 a0_9, .int .i64 a0_10, .slice Aa0_11 a0_11.length ca0_11, .int .i64 a0_12, .int .i64 a0_13, .int .i64 a0_14, .int .i64 a0_15, .bool a0_16, .int .i64 a0_17], .agg #[.string a1_0, .int .i64 a1_1, .int .i64 a1_2, .int .i64 a1_3, .int .i64 a1_4, .int .i64 a1_5, .int .i64 a1_6, .int .i64 a1_7, .int .i64 a1_8, .int .i64 a1_9, .int .i64 a1_10, .int .i64 a1_11, .int .i64 a1_12]] (.bool x711) (by kernel_rfl) (fun w => by kernel_rfl) (fun w hw => sawmilllaw41_few.calls a0_0 a0_1 a0_2 a0_3 a0_4 a0_5 a0_6 a0_7 a0_8 a0_9 a0_10 a0_11 a0_12 a0_13 a0_14 a0_15 a0_16 a0_17 a1_0 a1_1 a1_2 a1_3 a1_4 a1_5 a1_6 a1_7 a1_8 a1_9 a1_10 a1_11 a1_12  _ _ _ w  (ha0_11.at hw) hx711) ?_
  refine LL.op (.bool (!x711)) (by kernel_rfl) (fun w _ => by kernel_rfl) ?_
  refine LL.op (.bool (!x711)) (by kernel_rfl) (fun w _ => by kernel_rfl) ?_
  rcases Bool.eq_false_or_eq_true (x711) with c712 | c712
  · rw [if_pos (c712)] at H
    refine LL.bool 9 (!x711) false (by rw [show (!x711) = !(x711) from rfl, c712]; rfl) (by kernel_rfl) ?_
    refine LL.op (.agg #[.string a0_0, .string a0_1, .string a0_2, .int .i64 a0_3, .int .i64 a0_4, .int .i64 a0_5, .int .i64 a0_6, .int .i64 a0_7, .int .i64 a0_8, .int .i64 a0_9, .int .i64 a0_10, .slice Aa0_11 a0_11.length ca0_11, .int .i64 a0_12, .int .i64 a0_13, .int .i64 a0_14, .int .i64 a0_15, .bool a0_16, .int .i64 a0_17]) (by kernel_rfl) (ld 1 g709 0 rfl (by kernel_rfl) rfl (by kernel_rfl)) ?_
    refine LL.op (.agg #[.string a1_0, .int .i64 a1_1, .int .i64 a1_2, .int .i64 a1_3, .int .i64 a1_4, .int .i64 a1_5, .int .i64 a1_6, .int .i64 a1_7, .int .i64 a1_8, .int .i64 a1_9, .int .i64 a1_10, .int .i64 a1_11, .int .i64 a1_12]) (by kernel_rfl) (ld 0 g710 0 rfl (by kernel_rfl) rfl (by kernel_rfl)) ?_
    obtain ⟨x713, hx713, H⟩ := bind_some H
    refine LL.call 16 #[.agg #[.string a0_0, .string a0_1, .string a0_2, .int .i64 a0_3, .int .i64 a0_4, .int .i64 a0_5, .int .i64 a0_6, .int .i64 a0_7, .int .i64 a0_8, .int .i64 a0_9, .int .i64 a0_10, .slice Aa0_11 a0_11.length ca0_11, .int .i64 a0_12, .int .i64 a0_13, .int .i64 a0_14, .int .i64 a0_15, .bool a0_16, .int .i64 a0_17], .agg #[.string a1_0, .int .i64 a1_1, .int .i64 a1_2, .int .i64 a1_3, .int .i64 a1_4, .int .i64 a1_5, .int .i64 a1_6, .int .i64 a1_7, .int .i64 a1_8, .int .i64 a1_9, .int .i64 a1_10, .int .i64 a1_11, .int .i64 a1_12]] (.bool x713) (by kernel_rfl) (fun w => by kernel_rfl) (fun w hw => sawmillref41_Right.calls K a0_0 a0_1 a0_2 a0_3 a0_4 a0_5 a0_6 a0_7 a0_8 a0_9 a0_10 a0_11 a0_12 a0_13 a0_14 a0_15 a0_16 a0_17 a1_0 a1_1 a1_2 a1_3 a1_4 a1_5 a1_6 a1_7 a1_8 a1_9 a1_10 a1_11 a1_12  _ _ _ w  (ha0_11.at hw) hx713) ?_
    refine LL.op (.bool (!x713)) (by kernel_rfl) (fun w _ => by kernel_rfl) ?_
    refine LL.op (.bool (!x713)) (by kernel_rfl) (fun w _ => by kernel_rfl) ?_
    refine LL.done (s' := [(2, .pointer (some ⟨g709, 0, none⟩)), (3, .pointer (some ⟨g710, 0, none⟩)), (4, .bool false), (14, .bool (!x713))]) [2, 3, 4, 14] (by kernel_rfl) ?_
    refine NN.then ?_
    rcases Bool.eq_false_or_eq_true (x713) with c714 | c714
    · rw [if_pos (c714)] at H
      refine J.condF (b := !x713) (by rw [show (!x713) = !(x713) from rfl, c714]; rfl) (by kernel_rfl) (by kernel_rfl) ?_
      refine J.skip ?_
      refine NN.then ?_
      refine J.seq ?_
      refine J.drawn follows (by kernel_rfl) ?_
      refine QQ.op (.agg #[.string a0_0, .string a0_1, .string a0_2, .int .i64 a0_3, .int .i64 a0_4, .int .i64 a0_5, .int .i64 a0_6, .int .i64 a0_7, .int .i64 a0_8, .int .i64 a0_9, .int .i64 a0_10, .slice Aa0_11 a0_11.length ca0_11, .int .i64 a0_12, .int .i64 a0_13, .int .i64 a0_14, .int .i64 a0_15, .bool a0_16, .int .i64 a0_17]) (by kernel_rfl) (ld 1 g709 0 rfl (by kernel_rfl) rfl (by kernel_rfl)) ?_
      obtain ⟨x715, hx715, H⟩ := bind_some H
      refine QQ.call 18 #[.agg #[.string a0_0, .string a0_1, .string a0_2, .int .i64 a0_3, .int .i64 a0_4, .int .i64 a0_5, .int .i64 a0_6, .int .i64 a0_7, .int .i64 a0_8, .int .i64 a0_9, .int .i64 a0_10, .slice Aa0_11 a0_11.length ca0_11, .int .i64 a0_12, .int .i64 a0_13, .int .i64 a0_14, .int .i64 a0_15, .bool a0_16, .int .i64 a0_17]] (.int .i64 x715) (by kernel_rfl) (fun w => by kernel_rfl) (fun w hw => strength_Knots.calls K a0_0 a0_1 a0_2 a0_3 a0_4 a0_5 a0_6 a0_7 a0_8 a0_9 a0_10 a0_11 a0_12 a0_13 a0_14 a0_15 a0_16 a0_17  _ _ _ w  (ha0_11.at hw) hx715) ?_
      refine QQ.op (.agg #[.string a0_0, .string a0_1, .string a0_2, .int .i64 a0_3, .int .i64 a0_4, .int .i64 a0_5, .int .i64 a0_6, .int .i64 a0_7, .int .i64 a0_8, .int .i64 a0_9, .int .i64 a0_10, .slice Aa0_11 a0_11.length ca0_11, .int .i64 a0_12, .int .i64 a0_13, .int .i64 a0_14, .int .i64 a0_15, .bool a0_16, .int .i64 a0_17]) (by kernel_rfl) (ld 1 g709 0 rfl (by kernel_rfl) rfl (by kernel_rfl)) ?_
      obtain ⟨x716, hx716, H⟩ := bind_some H
      refine QQ.call 19 #[.agg #[.string a0_0, .string a0_1, .string a0_2, .int .i64 a0_3, .int .i64 a0_4, .int .i64 a0_5, .int .i64 a0_6, .int .i64 a0_7, .int .i64 a0_8, .int .i64 a0_9, .int .i64 a0_10, .slice Aa0_11 a0_11.length ca0_11, .int .i64 a0_12, .int .i64 a0_13, .int .i64 a0_14, .int .i64 a0_15, .bool a0_16, .int .i64 a0_17]] (.int .i64 x716) (by kernel_rfl) (fun w => by kernel_rfl) (fun w hw => sawmillref41_Knots.calls K a0_0 a0_1 a0_2 a0_3 a0_4 a0_5 a0_6 a0_7 a0_8 a0_9 a0_10 a0_11 a0_12 a0_13 a0_14 a0_15 a0_16 a0_17  _ _ _ w  (ha0_11.at hw) hx716) ?_
      refine QQ.op (.bool (x715 == x716)) (by kernel_rfl) (fun w _ => by kernel_rfl) ?_
      refine QQ.op (.bool (x715 == x716)) (by kernel_rfl) (fun w _ => by kernel_rfl) ?_
      rcases Bool.eq_false_or_eq_true ((x715 == x716)) with c717 | c717
      · rw [if_pos (eq_of_beq c717)] at H
        refine QQ.bool 21 ((x715 == x716)) true c717 (by kernel_rfl) ?_
        refine QQ.op (.agg #[.string a0_0, .string a0_1, .string a0_2, .int .i64 a0_3, .int .i64 a0_4, .int .i64 a0_5, .int .i64 a0_6, .int .i64 a0_7, .int .i64 a0_8, .int .i64 a0_9, .int .i64 a0_10, .slice Aa0_11 a0_11.length ca0_11, .int .i64 a0_12, .int .i64 a0_13, .int .i64 a0_14, .int .i64 a0_15, .bool a0_16, .int .i64 a0_17]) (by kernel_rfl) (ld 1 g709 0 rfl (by kernel_rfl) rfl (by kernel_rfl)) ?_
        refine QQ.op (.agg #[.string a1_0, .int .i64 a1_1, .int .i64 a1_2, .int .i64 a1_3, .int .i64 a1_4, .int .i64 a1_5, .int .i64 a1_6, .int .i64 a1_7, .int .i64 a1_8, .int .i64 a1_9, .int .i64 a1_10, .int .i64 a1_11, .int .i64 a1_12]) (by kernel_rfl) (ld 0 g710 0 rfl (by kernel_rfl) rfl (by kernel_rfl)) ?_
        obtain ⟨x718, hx718, H⟩ := bind_some H
        refine QQ.call 20 #[.agg #[.string a0_0, .string a0_1, .string a0_2, .int .i64 a0_3, .int .i64 a0_4, .int .i64 a0_5, .int .i64 a0_6, .int .i64 a0_7, .int .i64 a0_8, .int .i64 a0_9, .int .i64 a0_10, .slice Aa0_11 a0_11.length ca0_11, .int .i64 a0_12, .int .i64 a0_13, .int .i64 a0_14, .int .i64 a0_15, .bool a0_16, .int .i64 a0_17], .agg #[.string a1_0, .int .i64 a1_1, .int .i64 a1_2, .int .i64 a1_3, .int .i64 a1_4, .int .i64 a1_5, .int .i64 a1_6, .int .i64 a1_7, .int .i64 a1_8, .int .i64 a1_9, .int .i64 a1_10, .int .i64 a1_11, .int .i64 a1_12]] (.int .i64 x718) (by kernel_rfl) (fun w => by kernel_rfl) (fun w hw => strength_Stiffness.calls K a0_0 a0_1 a0_2 a0_3 a0_4 a0_5 a0_6 a0_7 a0_8 a0_9 a0_10 a0_11 a0_12 a0_13 a0_14 a0_15 a0_16 a0_17 a1_0 a1_1 a1_2 a1_3 a1_4 a1_5 a1_6 a1_7 a1_8 a1_9 a1_10 a1_11 a1_12  _ _ _ w  (ha0_11.at hw) hx718) ?_
        refine QQ.op (.agg #[.string a0_0, .string a0_1, .string a0_2, .int .i64 a0_3, .int .i64 a0_4, .int .i64 a0_5, .int .i64 a0_6, .int .i64 a0_7, .int .i64 a0_8, .int .i64 a0_9, .int .i64 a0_10, .slice Aa0_11 a0_11.length ca0_11, .int .i64 a0_12, .int .i64 a0_13, .int .i64 a0_14, .int .i64 a0_15, .bool a0_16, .int .i64 a0_17]) (by kernel_rfl) (ld 1 g709 0 rfl (by kernel_rfl) rfl (by kernel_rfl)) ?_
        refine QQ.op (.agg #[.string a1_0, .int .i64 a1_1, .int .i64 a1_2, .int .i64 a1_3, .int .i64 a1_4, .int .i64 a1_5, .int .i64 a1_6, .int .i64 a1_7, .int .i64 a1_8, .int .i64 a1_9, .int .i64 a1_10, .int .i64 a1_11, .int .i64 a1_12]) (by kernel_rfl) (ld 0 g710 0 rfl (by kernel_rfl) rfl (by kernel_rfl)) ?_
        obtain ⟨x719, hx719, H⟩ := bind_some H
        refine QQ.call 21 #[.agg #[.string a0_0, .string a0_1, .string a0_2, .int .i64 a0_3, .int .i64 a0_4, .int .i64 a0_5, .int .i64 a0_6, .int .i64 a0_7, .int .i64 a0_8, .int .i64 a0_9, .int .i64 a0_10, .slice Aa0_11 a0_11.length ca0_11, .int .i64 a0_12, .int .i64 a0_13, .int .i64 a0_14, .int .i64 a0_15, .bool a0_16, .int .i64 a0_17], .agg #[.string a1_0, .int .i64 a1_1, .int .i64 a1_2, .int .i64 a1_3, .int .i64 a1_4, .int .i64 a1_5, .int .i64 a1_6, .int .i64 a1_7, .int .i64 a1_8, .int .i64 a1_9, .int .i64 a1_10, .int .i64 a1_11, .int .i64 a1_12]] (.int .i64 x719) (by kernel_rfl) (fun w => by kernel_rfl) (fun w hw => sawmillref41_Stiffness.calls K a0_0 a0_1 a0_2 a0_3 a0_4 a0_5 a0_6 a0_7 a0_8 a0_9 a0_10 a0_11 a0_12 a0_13 a0_14 a0_15 a0_16 a0_17 a1_0 a1_1 a1_2 a1_3 a1_4 a1_5 a1_6 a1_7 a1_8 a1_9 a1_10 a1_11 a1_12  _ _ _ w  (ha0_11.at hw) hx719) ?_
        refine QQ.op (.bool (x718 == x719)) (by kernel_rfl) (fun w _ => by kernel_rfl) ?_
        refine QQ.op (.bool (x718 == x719)) (by kernel_rfl) (fun w _ => by kernel_rfl) ?_
        refine QQ.op (.bool (x718 == x719)) (by kernel_rfl) (fun w _ => by kernel_rfl) ?_
        rcases Bool.eq_false_or_eq_true ((x718 == x719)) with c720 | c720
        · rw [if_pos (eq_of_beq c720)] at H
          refine QQ.bool 30 ((x718 == x719)) true c720 (by kernel_rfl) ?_
          obtain ⟨x721, hx721, H⟩ := bind_some H
          refine QQ.call 17 #[] (.bool x721) (by kernel_rfl) (fun w => by kernel_rfl) (fun w hw => sawmilllaw41_awake.calls K    _ w   hx721) ?_
          refine QQ.op (.bool x721) (by kernel_rfl) (fun w _ => by kernel_rfl) ?_
          refine QQ.op (.bool x721) (by kernel_rfl) (fun w _ => by kernel_rfl) ?_
          refine QQ.done (s' := [(4, .bool x721)]) [4] (by kernel_rfl) ?_
          refine NN.then ?_
          refine J.ret ?_
          refine NN.fin1 4 (.bool x721) (by kernel_rfl) (by kernel_rfl) (.inl rfl) (fun w hi => hi.ret ?_)
          first | (cases H; rfl) | (obtain rfl := Option.some.inj H; rfl) | (simp only [Option.some.injEq, Prod.mk.injEq] at H; obtain ⟨rfl⟩ := H; rfl)
        · rw [if_neg (nebf c720)] at H
          refine QQ.bool 30 ((x718 == x719)) false c720 (by kernel_rfl) ?_
          refine QQ.off (by kernel_rfl) (by kernel_rfl) ?_
          refine QQ.op (.bool false) (by kernel_rfl) (fun w _ => by kernel_rfl) ?_
          refine QQ.op (.bool false) (by kernel_rfl) (fun w _ => by kernel_rfl) ?_
          refine QQ.done (s' := [(4, .bool false)]) [4] (by kernel_rfl) ?_
          refine NN.then ?_
          refine J.ret ?_
          refine NN.fin1 4 (.bool false) (by kernel_rfl) (by kernel_rfl) (.inl rfl) (fun w hi => hi.ret ?_)
          first | (cases H; rfl) | (obtain rfl := Option.some.inj H; rfl) | (simp only [Option.some.injEq, Prod.mk.injEq] at H; obtain ⟨rfl⟩ := H; rfl)
      · rw [if_neg (nebf c717)] at H
        refine QQ.bool 21 ((x715 == x716)) false c717 (by kernel_rfl) ?_
        refine QQ.off (by kernel_rfl) (by kernel_rfl) ?_
        refine QQ.off (by kernel_rfl) (by kernel_rfl) ?_
        refine QQ.off (by kernel_rfl) (by kernel_rfl) ?_
        refine QQ.off (by kernel_rfl) (by kernel_rfl) ?_
        refine QQ.off (by kernel_rfl) (by kernel_rfl) ?_
        refine QQ.off (by kernel_rfl) (by kernel_rfl) ?_
        refine QQ.off (by kernel_rfl) (by kernel_rfl) ?_
        refine QQ.op (.bool false) (by kernel_rfl) (fun w _ => by kernel_rfl) ?_
        refine QQ.op (.bool false) (by kernel_rfl) (fun w _ => by kernel_rfl) ?_
        refine QQ.off (by kernel_rfl) (by kernel_rfl) ?_
        refine QQ.op (.bool false) (by kernel_rfl) (fun w _ => by kernel_rfl) ?_
        refine QQ.op (.bool false) (by kernel_rfl) (fun w _ => by kernel_rfl) ?_
        refine QQ.done (s' := [(4, .bool false)]) [4] (by kernel_rfl) ?_
        refine NN.then ?_
        refine J.ret ?_
        refine NN.fin1 4 (.bool false) (by kernel_rfl) (by kernel_rfl) (.inl rfl) (fun w hi => hi.ret ?_)
        first | (cases H; rfl) | (obtain rfl := Option.some.inj H; rfl) | (simp only [Option.some.injEq, Prod.mk.injEq] at H; obtain ⟨rfl⟩ := H; rfl)
    · rw [if_neg (nebt c714)] at H
      refine J.condT (b := !x713) (by rw [show (!x713) = !(x713) from rfl, c714]; rfl) (by kernel_rfl) (by kernel_rfl) ?_
      refine J.seq ?_
      refine J.plain ?_
      obtain ⟨x722, hx722, H⟩ := bind_some H
      refine LL.call 17 #[] (.bool x722) (by kernel_rfl) (fun w => by kernel_rfl) (fun w hw => sawmilllaw41_awake.calls K    _ w   hx722) ?_
      refine LL.op (.bool x722) (by kernel_rfl) (fun w _ => by kernel_rfl) ?_
      refine LL.done (s' := [(2, .pointer (some ⟨g709, 0, none⟩)), (3, .pointer (some ⟨g710, 0, none⟩)), (4, .bool x722)]) [2, 3, 4] (by kernel_rfl) ?_
      refine NN.then ?_
      refine J.ret ?_
      refine NN.then_ret ?_
      refine NN.fin1 4 (.bool x722) (by kernel_rfl) (by kernel_rfl) (.inl rfl) (fun w hi => hi.ret ?_)
      first | (cases H; rfl) | (obtain rfl := Option.some.inj H; rfl) | (simp only [Option.some.injEq, Prod.mk.injEq] at H; obtain ⟨rfl⟩ := H; rfl)
  · rw [if_neg (nebt c712)] at H
    refine LL.bool 9 (!x711) true (by rw [show (!x711) = !(x711) from rfl, c712]; rfl) (by kernel_rfl) ?_
    refine LL.off (by kernel_rfl) (by kernel_rfl) ?_
    refine LL.off (by kernel_rfl) (by kernel_rfl) ?_
    refine LL.off (by kernel_rfl) (by kernel_rfl) ?_
    refine LL.off (by kernel_rfl) (by kernel_rfl) ?_
    refine LL.op (.bool true) (by kernel_rfl) (fun w _ => by kernel_rfl) ?_
    refine LL.done (s' := [(2, .pointer (some ⟨g709, 0, none⟩)), (3, .pointer (some ⟨g710, 0, none⟩)), (4, .bool false), (14, .bool true)]) [2, 3, 4, 14] (by kernel_rfl) ?_
    refine NN.then ?_
    refine J.condT (b := true) rfl (by kernel_rfl) (by kernel_rfl) ?_
    refine J.seq ?_
    refine J.plain ?_
    obtain ⟨x723, hx723, H⟩ := bind_some H
    refine LL.call 17 #[] (.bool x723) (by kernel_rfl) (fun w => by kernel_rfl) (fun w hw => sawmilllaw41_awake.calls K    _ w   hx723) ?_
    refine LL.op (.bool x723) (by kernel_rfl) (fun w _ => by kernel_rfl) ?_
    refine LL.done (s' := [(2, .pointer (some ⟨g709, 0, none⟩)), (3, .pointer (some ⟨g710, 0, none⟩)), (4, .bool x723)]) [2, 3, 4] (by kernel_rfl) ?_
    refine NN.then ?_
    refine J.ret ?_
    refine NN.then_ret ?_
    refine NN.fin1 4 (.bool x723) (by kernel_rfl) (by kernel_rfl) (.inl rfl) (fun w hi => hi.ret ?_)
    first | (cases H; rfl) | (obtain rfl := Option.some.inj H; rfl) | (simp only [Option.some.injEq, Prod.mk.injEq] at H; obtain ⟨rfl⟩ := H; rfl)

end Go.Proofs.Ytfjbhmpnmpphoaa
