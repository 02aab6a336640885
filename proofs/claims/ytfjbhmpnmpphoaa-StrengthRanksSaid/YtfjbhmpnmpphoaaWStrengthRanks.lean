/- Walks of functions of the seat: each call does what the Lean function of the same name says. Printed by the session's own program absgen.py. -/
import Derived.Test.YtfjbhmpnmpphoaaF4
namespace Go.Proofs.Ytfjbhmpnmpphoaa
open Go.Saw
set_option linter.unusedVariables false
set_option linter.unusedSimpArgs false

/-! ### sawmilllaw41_StrengthRanks: function 7 -/
def sawmilllaw41_StrengthRanks.f (K : Nat) (a0 : Int) (a1 : Int) : Option (Bool) := (strength_Class.f (mn a0 a1)).bind fun x931 => ((strength_Class.f (mx a0 a1)).bind fun x932 => (if x931 < 0 then (some false) else (if 4 < x931 then (some false) else (if x932 < 0 then (some false) else (if 4 < x932 then (some false) else (if x931 = 0 then ((strength_Name.f x931).bind fun x938 => ((strength_Name.f x932).bind fun x939 => (if (x931 == x932) = (x938.toList == x939.toList) then (if (x931 == 0) = (x938.toList == (⟨#[]⟩ : ByteArray).toList) then ((sawmilllaw41_awake.f K ).bind fun x942 => (some x942)) else (some false)) else (some false)))) else (if x932 = 0 then (some false) else (if x931 < x932 then (some false) else ((strength_Name.f x931).bind fun x945 => ((strength_Name.f x932).bind fun x946 => (if (x931 == x932) = (x945.toList == x946.toList) then (if (x931 == 0) = (x945.toList == (⟨#[]⟩ : ByteArray).toList) then ((sawmilllaw41_awake.f K ).bind fun x949 => (some x949)) else (some false)) else (some false))))))))))))
set_option maxRecDepth 100000 in
theorem sawmilllaw41_StrengthRanks.calls (K : Nat) (a0 : Int) (a1 : Int)    (r1 : Bool) (w : World)    (h : sawmilllaw41_StrengthRanks.f K a0 a1 = some r1) :
    Calls Try.prog 7 #[.int .i64 a0, .int .i64 a1] w (Ret w (.bool r1)) := by
  have H := h
  clear h
  unfold sawmilllaw41_StrengthRanks.f at H
  refine Go.Saw.calls (args := [.int .i64 a0, .int .i64 a1]) Try.func7 rfl Try.ntmps7 (by kernel_rfl) ?_
  refine J.seq ?_
  refine J.plain ?_
  refine LL.op (.bool false) (by kernel_rfl) (fun w _ => by kernel_rfl) ?_
  refine LL.done (s' := [(0, .int .i64 a0), (1, .int .i64 a1), (4, .bool false)]) [0, 1, 4] (by kernel_rfl) ?_
  refine NN.then ?_
  refine J.seq ?_
  refine J.plain ?_
  refine LL.op (.int .i64 a0) (by kernel_rfl) (fun w _ => by kernel_rfl) ?_
  refine LL.op (.int .i64 a1) (by kernel_rfl) (fun w _ => by kernel_rfl) ?_
  refine LL.op (.int .i64 (mn a0 a1)) (by kernel_rfl) (fun w _ => by kernel_rfl) ?_
  obtain ⟨x931, hx931, H⟩ := bind_some H
  refine LL.call 22 #[.int .i64 (mn a0 a1)] (.int .i64 x931) (by kernel_rfl) (fun w => by kernel_rfl) (fun w hw => strength_Class.calls (mn a0 a1)   _ w   hx931) ?_
  refine LL.op (.int .i64 a0) (by kernel_rfl) (fun w _ => by kernel_rfl) ?_
  refine LL.op (.int .i64 a1) (by kernel_rfl) (fun w _ => by kernel_rfl) ?_
  refine LL.op (.int .i64 (mx a0 a1)) (by kernel_rfl) (fun w _ => by kernel_rfl) ?_
  obtain ⟨x932, hx932, H⟩ := bind_some H
  refine LL.call 22 #[.int .i64 (mx a0 a1)] (.int .i64 x932) (by kernel_rfl) (fun w => by kernel_rfl) (fun w hw => strength_Class.calls (mx a0 a1)   _ w   hx932) ?_
  refine LL.op (.int .i64 x931) (by kernel_rfl) (fun w _ => by kernel_rfl) ?_
  refine LL.op (.int .i64 x932) (by kernel_rfl) (fun w _ => by kernel_rfl) ?_
  refine LL.done (s' := [(4, .bool false), (5, .int .i64 x931), (6, .int .i64 x932)]) [4, 5, 6] (by kernel_rfl) ?_
  refine NN.then ?_
  refine J.seq ?_
  refine J.seq ?_
  refine J.plain ?_
  refine LL.op (.int .i64 x931) (by kernel_rfl) (fun w _ => by kernel_rfl) ?_
  refine LL.op (.bool (decide (x931 < 0))) (by kernel_rfl) (fun w _ => by kernel_rfl) ?_
  refine LL.op (.bool (decide (x931 < 0))) (by kernel_rfl) (fun w _ => by kernel_rfl) ?_
  rcases Bool.eq_false_or_eq_true (decide (x931 < 0)) with c933 | c933
  · rw [if_pos (of_decide_eq_true c933)] at H
    refine LL.bool 17 (decide (x931 < 0)) true c933 (by kernel_rfl) ?_
    refine LL.off (by kernel_rfl) (by kernel_rfl) ?_
    refine LL.off (by kernel_rfl) (by kernel_rfl) ?_
    refine LL.op (.bool true) (by kernel_rfl) (fun w _ => by kernel_rfl) ?_
    refine LL.op (.bool true) (by kernel_rfl) (fun w _ => by kernel_rfl) ?_
    refine LL.off (by kernel_rfl) (by kernel_rfl) ?_
    refine LL.off (by kernel_rfl) (by kernel_rfl) ?_
    refine LL.op (.bool true) (by kernel_rfl) (fun w _ => by kernel_rfl) ?_
    refine LL.op (.bool true) (by kernel_rfl) (fun w _ => by kernel_rfl) ?_
    refine LL.off (by kernel_rfl) (by kernel_rfl) ?_
    refine LL.off (by kernel_rfl) (by kernel_rfl) ?_
    refine LL.op (.bool true) (by kernel_rfl) (fun w _ => by kernel_rfl) ?_
    refine LL.op (.bool true) (by kernel_rfl) (fun w _ => by kernel_rfl) ?_
    refine LL.off (by kernel_rfl) (by kernel_rfl) ?_
    refine LL.off (by kernel_rfl) (by kernel_rfl) ?_
    refine LL.off (by kernel_rfl) (by kernel_rfl) ?_
    refine LL.off (by kernel_rfl) (by kernel_rfl) ?_
    refine LL.off (by kernel_rfl) (by kernel_rfl) ?_
    refine LL.off (by kernel_rfl) (by kernel_rfl) ?_
    refine LL.off (by kernel_rfl) (by kernel_rfl) ?_
    refine LL.off (by kernel_rfl) (by kernel_rfl) ?_
    refine LL.off (by kernel_rfl) (by kernel_rfl) ?_
    refine LL.off (by kernel_rfl) (by kernel_rfl) ?_
    refine LL.off (by kernel_rfl) (by kernel_rfl) ?_
    refine LL.op (.bool true) (by kernel_rfl) (fun w _ => by kernel_rfl) ?_
    refine LL.done (s' := [(4, .bool false), (5, .int .i64 x931), (6, .int .i64 x932), (41, .bool true)]) [4, 5, 6, 41] (by kernel_rfl) ?_
    refine NN.then ?_
    refine J.condT (b := true) rfl (by kernel_rfl) (by kernel_rfl) ?_
    refine J.seq ?_
    refine J.plain ?_
    refine LL.op (.bool false) (by kernel_rfl) (fun w _ => by kernel_rfl) ?_
    refine LL.done (s' := [(4, .bool false), (5, .int .i64 x931), (6, .int .i64 x932)]) [4, 5, 6] (by kernel_rfl) ?_
    refine NN.then ?_
    refine J.ret ?_
    refine NN.then_ret ?_
    refine NN.fin1 4 (.bool false) (by kernel_rfl) (by kernel_rfl) (.inl rfl) (fun w hi => hi.ret ?_)
    first | (cases H; rfl) | (obtain rfl := Option.some.inj H; rfl) | (simp only [Option.some.injEq, Prod.mk.injEq] at H; obtain ⟨rfl⟩ := H; rfl)
  · rw [if_neg (of_decide_eq_false c933)] at H
    refine LL.bool 17 (decide (x931 < 0)) false c933 (by kernel_rfl) ?_
    refine LL.op (.int .i64 x931) (by kernel_rfl) (fun w _ => by kernel_rfl) ?_
    refine LL.op (.bool (decide (4 < x931))) (by kernel_rfl) (fun w _ => by kernel_rfl) ?_
    refine LL.op (.bool (decide (4 < x931))) (by kernel_rfl) (fun w _ => by kernel_rfl) ?_
    refine LL.op (.bool (decide (4 < x931))) (by kernel_rfl) (fun w _ => by kernel_rfl) ?_
    rcases Bool.eq_false_or_eq_true (decide (4 < x931)) with c934 | c934
    · rw [if_pos (of_decide_eq_true c934)] at H
      refine LL.bool 21 (decide (4 < x931)) true c934 (by kernel_rfl) ?_
      refine LL.off (by kernel_rfl) (by kernel_rfl) ?_
      refine LL.off (by kernel_rfl) (by kernel_rfl) ?_
      refine LL.op (.bool true) (by kernel_rfl) (fun w _ => by kernel_rfl) ?_
      refine LL.op (.bool true) (by kernel_rfl) (fun w _ => by kernel_rfl) ?_
      refine LL.off (by kernel_rfl) (by kernel_rfl) ?_
      refine LL.off (by kernel_rfl) (by kernel_rfl) ?_
      refine LL.op (.bool true) (by kernel_rfl) (fun w _ => by kernel_rfl) ?_
      refine LL.op (.bool true) (by kernel_rfl) (fun w _ => by kernel_rfl) ?_
      refine LL.off (by kernel_rfl) (by kernel_rfl) ?_
      refine LL.off (by kernel_rfl) (by kernel_rfl) ?_
      refine LL.off (by kernel_rfl) (by kernel_rfl) ?_
      refine LL.off (by kernel_rfl) (by kernel_rfl) ?_
      refine LL.off (by kernel_rfl) (by kernel_rfl) ?_
      refine LL.off (by kernel_rfl) (by kernel_rfl) ?_
      refine LL.off (by kernel_rfl) (by kernel_rfl) ?_
      refine LL.off (by kernel_rfl) (by kernel_rfl) ?_
      refine LL.off (by kernel_rfl) (by kernel_rfl) ?_
      refine LL.off (by kernel_rfl) (by kernel_rfl) ?_
      refine LL.off (by kernel_rfl) (by kernel_rfl) ?_
      refine LL.op (.bool true) (by kernel_rfl) (fun w _ => by kernel_rfl) ?_
      refine LL.done (s' := [(4, .bool false), (5, .int .i64 x931), (6, .int .i64 x932), (41, .bool true)]) [4, 5, 6, 41] (by kernel_rfl) ?_
      refine NN.then ?_
      refine J.condT (b := true) rfl (by kernel_rfl) (by kernel_rfl) ?_
      refine J.seq ?_
      refine J.plain ?_
      refine LL.op (.bool false) (by kernel_rfl) (fun w _ => by kernel_rfl) ?_
      refine LL.done (s' := [(4, .bool false), (5, .int .i64 x931), (6, .int .i64 x932)]) [4, 5, 6] (by kernel_rfl) ?_
      refine NN.then ?_
      refine J.ret ?_
      refine NN.then_ret ?_
      refine NN.fin1 4 (.bool false) (by kernel_rfl) (by kernel_rfl) (.inl rfl) (fun w hi => hi.ret ?_)
      first | (cases H; rfl) | (obtain rfl := Option.some.inj H; rfl) | (simp only [Option.some.injEq, Prod.mk.injEq] at H; obtain ⟨rfl⟩ := H; rfl)
    · rw [if_neg (of_decide_eq_false c934)] at H
      refine LL.bool 21 (decide (4 < x931)) false c934 (by kernel_rfl) ?_
      refine LL.op (.int .i64 x932) (by kernel_rfl) (fun w _ => by kernel_rfl) ?_
      refine LL.op (.bool (decide (x932 < 0))) (by kernel_rfl) (fun w _ => by kernel_rfl) ?_
      refine LL.op (.bool (decide (x932 < 0))) (by kernel_rfl) (fun w _ => by kernel_rfl) ?_
      refine LL.op (.bool (decide (x932 < 0))) (by kernel_rfl) (fun w _ => by kernel_rfl) ?_
      rcases Bool.eq_false_or_eq_true (decide (x932 < 0)) with c935 | c935
      · rw [if_pos (of_decide_eq_true c935)] at H
        refine LL.bool 25 (decide (x932 < 0)) true c935 (by kernel_rfl) ?_
        refine LL.off (by kernel_rfl) (by kernel_rfl) ?_
        refine LL.off (by kernel_rfl) (by kernel_rfl) ?_
        refine LL.op (.bool true) (by kernel_rfl) (fun w _ => by kernel_rfl) ?_
        refine LL.op (.bool true) (by kernel_rfl) (fun w _ => by kernel_rfl) ?_
        refine LL.off (by kernel_rfl) (by kernel_rfl) ?_
        refine LL.off (by kernel_rfl) (by kernel_rfl) ?_
        refine LL.off (by kernel_rfl) (by kernel_rfl) ?_
        refine LL.off (by kernel_rfl) (by kernel_rfl) ?_
        refine LL.off (by kernel_rfl) (by kernel_rfl) ?_
        refine LL.off (by kernel_rfl) (by kernel_rfl) ?_
        refine LL.off (by kernel_rfl) (by kernel_rfl) ?_
        refine LL.off (by kernel_rfl) (by kernel_rfl) ?_
        refine LL.off (by kernel_rfl) (by kernel_rfl) ?_
        refine LL.off (by kernel_rfl) (by kernel_rfl) ?_
        refine LL.off (by kernel_rfl) (by kernel_rfl) ?_
        refine LL.op (.bool true) (by kernel_rfl) (fun w _ => by kernel_rfl) ?_
        refine LL.done (s' := [(4, .bool false), (5, .int .i64 x931), (6, .int .i64 x932), (41, .bool true)]) [4, 5, 6, 41] (by kernel_rfl) ?_
        refine NN.then ?_
        refine J.condT (b := true) rfl (by kernel_rfl) (by kernel_rfl) ?_
        refine J.seq ?_
        refine J.plain ?_
        refine LL.op (.bool false) (by kernel_rfl) (fun w _ => by kernel_rfl) ?_
        refine LL.done (s' := [(4, .bool false), (5, .int .i64 x931), (6, .int .i64 x932)]) [4, 5, 6] (by kernel_rfl) ?_
        refine NN.then ?_
        refine J.ret ?_
        refine NN.then_ret ?_
        refine NN.fin1 4 (.bool false) (by kernel_rfl) (by kernel_rfl) (.inl rfl) (fun w hi => hi.ret ?_)
        first | (cases H; rfl) | (obtain rfl := Option.some.inj H; rfl) | (simp only [Option.some.injEq, Prod.mk.injEq] at H; obtain ⟨rfl⟩ := H; rfl)
      · rw [if_neg (of_decide_eq_false c935)] at H
        refine LL.bool 25 (decide (x932 < 0)) false c935 (by kernel_rfl) ?_
        refine LL.op (.int .i64 x932) (by kernel_rfl) (fun w _ => by kernel_rfl) ?_
        refine LL.op (.bool (decide (4 < x932))) (by kernel_rfl) (fun w _ => by kernel_rfl) ?_
        refine LL.op (.bool (decide (4 < x932))) (by kernel_rfl) (fun w _ => by kernel_rfl) ?_
        refine LL.op (.bool (decide (4 < x932))) (by kernel_rfl) (fun w _ => by kernel_rfl) ?_
        rcases Bool.eq_false_or_eq_true (decide (4 < x932)) with c936 | c936
        · rw [if_pos (of_decide_eq_true c936)] at H
          refine LL.bool 29 (decide (4 < x932)) true c936 (by kernel_rfl) ?_
          refine LL.off (by kernel_rfl) (by kernel_rfl) ?_
          refine LL.off (by kernel_rfl) (by kernel_rfl) ?_
          refine LL.off (by kernel_rfl) (by kernel_rfl) ?_
          refine LL.off (by kernel_rfl) (by kernel_rfl) ?_
          refine LL.off (by kernel_rfl) (by kernel_rfl) ?_
          refine LL.off (by kernel_rfl) (by kernel_rfl) ?_
          refine LL.off (by kernel_rfl) (by kernel_rfl) ?_
          refine LL.off (by kernel_rfl) (by kernel_rfl) ?_
          refine LL.off (by kernel_rfl) (by kernel_rfl) ?_
          refine LL.off (by kernel_rfl) (by kernel_rfl) ?_
          refine LL.off (by kernel_rfl) (by kernel_rfl) ?_
          refine LL.op (.bool true) (by kernel_rfl) (fun w _ => by kernel_rfl) ?_
          refine LL.done (s' := [(4, .bool false), (5, .int .i64 x931), (6, .int .i64 x932), (41, .bool true)]) [4, 5, 6, 41] (by kernel_rfl) ?_
          refine NN.then ?_
          refine J.condT (b := true) rfl (by kernel_rfl) (by kernel_rfl) ?_
          refine J.seq ?_
          refine J.plain ?_
          refine LL.op (.bool false) (by kernel_rfl) (fun w _ => by kernel_rfl) ?_
          refine LL.done (s' := [(4, .bool false), (5, .int .i64 x931), (6, .int .i64 x932)]) [4, 5, 6] (by kernel_rfl) ?_
          refine NN.then ?_
          refine J.ret ?_
          refine NN.then_ret ?_
          refine NN.fin1 4 (.bool false) (by kernel_rfl) (by kernel_rfl) (.inl rfl) (fun w hi => hi.ret ?_)
          first | (cases H; rfl) | (obtain rfl := Option.some.inj H; rfl) | (simp only [Option.some.injEq, Prod.mk.injEq] at H; obtain ⟨rfl⟩ := H; rfl)
        · rw [if_neg (of_decide_eq_false c936)] at H
          refine LL.bool 29 (decide (4 < x932)) false c936 (by kernel_rfl) ?_
          refine LL.op (.int .i64 x931) (by kernel_rfl) (fun w _ => by kernel_rfl) ?_
          refine LL.op (.bool (!(x931 == 0))) (by kernel_rfl) (fun w _ => by kernel_rfl) ?_
          refine LL.op (.bool (!(x931 == 0))) (by kernel_rfl) (fun w _ => by kernel_rfl) ?_
          rcases Bool.eq_false_or_eq_true ((x931 == 0)) with c937 | c937
          · rw [if_pos (eq_of_beq c937)] at H
            refine LL.bool 32 (!(x931 == 0)) false (by rw [show (!(x931 == 0)) = !((x931 == 0)) from rfl, c937]; rfl) (by kernel_rfl) ?_
            refine LL.off (by kernel_rfl) (by kernel_rfl) ?_
            refine LL.off (by kernel_rfl) (by kernel_rfl) ?_
            refine LL.off (by kernel_rfl) (by kernel_rfl) ?_
            refine LL.off (by kernel_rfl) (by kernel_rfl) ?_
            refine LL.off (by kernel_rfl) (by kernel_rfl) ?_
            refine LL.off (by kernel_rfl) (by kernel_rfl) ?_
            refine LL.off (by kernel_rfl) (by kernel_rfl) ?_
            refine LL.op (.bool false) (by kernel_rfl) (fun w _ => by kernel_rfl) ?_
            refine LL.op (.bool false) (by kernel_rfl) (fun w _ => by kernel_rfl) ?_
            refine LL.done (s' := [(4, .bool false), (5, .int .i64 x931), (6, .int .i64 x932), (41, .bool false)]) [4, 5, 6, 41] (by kernel_rfl) ?_
            refine NN.then ?_
            refine J.condF (b := false) rfl (by kernel_rfl) (by kernel_rfl) ?_
            refine J.skip ?_
            refine NN.then ?_
            refine J.seq ?_
            refine J.plain ?_
            refine LL.op (.int .i64 x931) (by kernel_rfl) (fun w _ => by kernel_rfl) ?_
            refine LL.op (.int .i64 x932) (by kernel_rfl) (fun w _ => by kernel_rfl) ?_
            refine LL.op (.bool (x931 == x932)) (by kernel_rfl) (fun w _ => by kernel_rfl) ?_
            refine LL.op (.int .i64 x931) (by kernel_rfl) (fun w _ => by kernel_rfl) ?_
            obtain ⟨x938, hx938, H⟩ := bind_some H
            refine LL.call 24 #[.int .i64 x931] (.string x938) (by kernel_rfl) (fun w => by kernel_rfl) (fun w hw => strength_Name.calls x931   _ w   hx938) ?_
            refine LL.op (.int .i64 x932) (by kernel_rfl) (fun w _ => by kernel_rfl) ?_
            obtain ⟨x939, hx939, H⟩ := bind_some H
            refine LL.call 24 #[.int .i64 x932] (.string x939) (by kernel_rfl) (fun w => by kernel_rfl) (fun w hw => strength_Name.calls x932   _ w   hx939) ?_
            refine LL.op (.bool (x938.toList == x939.toList)) (by kernel_rfl) (fun w _ => by kernel_rfl) ?_
            refine LL.op (.bool ((x931 == x932) == (x938.toList == x939.toList))) (by kernel_rfl) (fun w _ => by kernel_rfl) ?_
            refine LL.op (.bool ((x931 == x932) == (x938.toList == x939.toList))) (by kernel_rfl) (fun w _ => by kernel_rfl) ?_
            rcases Bool.eq_false_or_eq_true (((x931 == x932) == (x938.toList == x939.toList))) with c940 | c940
            · rw [if_pos (eq_of_beq c940)] at H
              refine LL.bool 51 (((x931 == x932) == (x938.toList == x939.toList))) true c940 (by kernel_rfl) ?_
              refine LL.op (.int .i64 x931) (by kernel_rfl) (fun w _ => by kernel_rfl) ?_
              refine LL.op (.bool (x931 == 0)) (by kernel_rfl) (fun w _ => by kernel_rfl) ?_
              refine LL.op (.int .i64 x931) (by kernel_rfl) (fun w _ => by kernel_rfl) ?_
              refine LL.call 24 #[.int .i64 x931] (.string x938) (by kernel_rfl) (fun w => by kernel_rfl) (fun w hw => strength_Name.calls x931   _ w   hx938) ?_
              refine LL.op (.bool (x938.toList == (⟨#[]⟩ : ByteArray).toList)) (by kernel_rfl) (fun w _ => by kernel_rfl) ?_
              refine LL.op (.bool ((x931 == 0) == (x938.toList == (⟨#[]⟩ : ByteArray).toList))) (by kernel_rfl) (fun w _ => by kernel_rfl) ?_
              refine LL.op (.bool ((x931 == 0) == (x938.toList == (⟨#[]⟩ : ByteArray).toList))) (by kernel_rfl) (fun w _ => by kernel_rfl) ?_
              refine LL.op (.bool ((x931 == 0) == (x938.toList == (⟨#[]⟩ : ByteArray).toList))) (by kernel_rfl) (fun w _ => by kernel_rfl) ?_
              rcases Bool.eq_false_or_eq_true (((x931 == 0) == (x938.toList == (⟨#[]⟩ : ByteArray).toList))) with c941 | c941
              · rw [if_pos (eq_of_beq c941)] at H
                refine LL.bool 59 (((x931 == 0) == (x938.toList == (⟨#[]⟩ : ByteArray).toList))) true c941 (by kernel_rfl) ?_
                obtain ⟨x942, hx942, H⟩ := bind_some H
                refine LL.call 17 #[] (.bool x942) (by kernel_rfl) (fun w => by kernel_rfl) (fun w hw => sawmilllaw41_awake.calls K    _ w   hx942) ?_
                refine LL.op (.bool x942) (by kernel_rfl) (fun w _ => by kernel_rfl) ?_
                refine LL.op (.bool x942) (by kernel_rfl) (fun w _ => by kernel_rfl) ?_
                refine LL.done (s' := [(4, .bool x942)]) [4] (by kernel_rfl) ?_
                refine NN.then ?_
                refine J.ret ?_
                refine NN.fin1 4 (.bool x942) (by kernel_rfl) (by kernel_rfl) (.inl rfl) (fun w hi => hi.ret ?_)
                first | (cases H; rfl) | (obtain rfl := Option.some.inj H; rfl) | (simp only [Option.some.injEq, Prod.mk.injEq] at H; obtain ⟨rfl⟩ := H; rfl)
              · rw [if_neg (nebf c941)] at H
                refine LL.bool 59 (((x931 == 0) == (x938.toList == (⟨#[]⟩ : ByteArray).toList))) false c941 (by kernel_rfl) ?_
                refine LL.off (by kernel_rfl) (by kernel_rfl) ?_
                refine LL.op (.bool false) (by kernel_rfl) (fun w _ => by kernel_rfl) ?_
                refine LL.op (.bool false) (by kernel_rfl) (fun w _ => by kernel_rfl) ?_
                refine LL.done (s' := [(4, .bool false)]) [4] (by kernel_rfl) ?_
                refine NN.then ?_
                refine J.ret ?_
                refine NN.fin1 4 (.bool false) (by kernel_rfl) (by kernel_rfl) (.inl rfl) (fun w hi => hi.ret ?_)
                first | (cases H; rfl) | (obtain rfl := Option.some.inj H; rfl) | (simp only [Option.some.injEq, Prod.mk.injEq] at H; obtain ⟨rfl⟩ := H; rfl)
            · rw [if_neg (nebf c940)] at H
              refine LL.bool 51 (((x931 == x932) == (x938.toList == x939.toList))) false c940 (by kernel_rfl) ?_
              refine LL.off (by kernel_rfl) (by kernel_rfl) ?_
              refine LL.off (by kernel_rfl) (by kernel_rfl) ?_
              refine LL.off (by kernel_rfl) (by kernel_rfl) ?_
              refine LL.off (by kernel_rfl) (by kernel_rfl) ?_
              refine LL.off (by kernel_rfl) (by kernel_rfl) ?_
              refine LL.off (by kernel_rfl) (by kernel_rfl) ?_
              refine LL.op (.bool false) (by kernel_rfl) (fun w _ => by kernel_rfl) ?_
              refine LL.op (.bool false) (by kernel_rfl) (fun w _ => by kernel_rfl) ?_
              refine LL.off (by kernel_rfl) (by kernel_rfl) ?_
              refine LL.op (.bool false) (by kernel_rfl) (fun w _ => by kernel_rfl) ?_
              refine LL.op (.bool false) (by kernel_rfl) (fun w _ => by kernel_rfl) ?_
              refine LL.done (s' := [(4, .bool false)]) [4] (by kernel_rfl) ?_
              refine NN.then ?_
              refine J.ret ?_
              refine NN.fin1 4 (.bool false) (by kernel_rfl) (by kernel_rfl) (.inl rfl) (fun w hi => hi.ret ?_)
              first | (cases H; rfl) | (obtain rfl := Option.some.inj H; rfl) | (simp only [Option.some.injEq, Prod.mk.injEq] at H; obtain ⟨rfl⟩ := H; rfl)
          · rw [if_neg (nebf c937)] at H
            refine LL.bool 32 (!(x931 == 0)) true (by rw [show (!(x931 == 0)) = !((x931 == 0)) from rfl, c937]; rfl) (by kernel_rfl) ?_
            refine LL.op (.int .i64 x932) (by kernel_rfl) (fun w _ => by kernel_rfl) ?_
            refine LL.op (.bool (x932 == 0)) (by kernel_rfl) (fun w _ => by kernel_rfl) ?_
            refine LL.op (.bool (x932 == 0)) (by kernel_rfl) (fun w _ => by kernel_rfl) ?_
            rcases Bool.eq_false_or_eq_true ((x932 == 0)) with c943 | c943
            · rw [if_pos (eq_of_beq c943)] at H
              refine LL.bool 35 ((x932 == 0)) true c943 (by kernel_rfl) ?_
              refine LL.off (by kernel_rfl) (by kernel_rfl) ?_
              refine LL.off (by kernel_rfl) (by kernel_rfl) ?_
              refine LL.off (by kernel_rfl) (by kernel_rfl) ?_
              refine LL.op (.bool true) (by kernel_rfl) (fun w _ => by kernel_rfl) ?_
              refine LL.op (.bool true) (by kernel_rfl) (fun w _ => by kernel_rfl) ?_
              refine LL.op (.bool true) (by kernel_rfl) (fun w _ => by kernel_rfl) ?_
              refine LL.done (s' := [(4, .bool false), (5, .int .i64 x931), (6, .int .i64 x932), (41, .bool true)]) [4, 5, 6, 41] (by kernel_rfl) ?_
              refine NN.then ?_
              refine J.condT (b := true) rfl (by kernel_rfl) (by kernel_rfl) ?_
              refine J.seq ?_
              refine J.plain ?_
              refine LL.op (.bool false) (by kernel_rfl) (fun w _ => by kernel_rfl) ?_
              refine LL.done (s' := [(4, .bool false), (5, .int .i64 x931), (6, .int .i64 x932)]) [4, 5, 6] (by kernel_rfl) ?_
              refine NN.then ?_
              refine J.ret ?_
              refine NN.then_ret ?_
              refine NN.fin1 4 (.bool false) (by kernel_rfl) (by kernel_rfl) (.inl rfl) (fun w hi => hi.ret ?_)
              first | (cases H; rfl) | (obtain rfl := Option.some.inj H; rfl) | (simp only [Option.some.injEq, Prod.mk.injEq] at H; obtain ⟨rfl⟩ := H; rfl)
            · rw [if_neg (nebf c943)] at H
              refine LL.bool 35 ((x932 == 0)) false c943 (by kernel_rfl) ?_
              refine LL.op (.int .i64 x932) (by kernel_rfl) (fun w _ => by kernel_rfl) ?_
              refine LL.op (.int .i64 x931) (by kernel_rfl) (fun w _ => by kernel_rfl) ?_
              refine LL.op (.bool (decide (x931 < x932))) (by kernel_rfl) (fun w _ => by kernel_rfl) ?_
              refine LL.op (.bool (decide (x931 < x932))) (by kernel_rfl) (fun w _ => by kernel_rfl) ?_
              refine LL.op (.bool (decide (x931 < x932))) (by kernel_rfl) (fun w _ => by kernel_rfl) ?_
              refine LL.op (.bool (decide (x931 < x932))) (by kernel_rfl) (fun w _ => by kernel_rfl) ?_
              refine LL.done (s' := [(4, .bool false), (5, .int .i64 x931), (6, .int .i64 x932), (41, .bool (decide (x931 < x932)))]) [4, 5, 6, 41] (by kernel_rfl) ?_
              refine NN.then ?_
              rcases Bool.eq_false_or_eq_true (decide (x931 < x932)) with c944 | c944
              · rw [if_pos (of_decide_eq_true c944)] at H
                refine J.condT (b := decide (x931 < x932)) c944 (by kernel_rfl) (by kernel_rfl) ?_
                refine J.seq ?_
                refine J.plain ?_
                refine LL.op (.bool false) (by kernel_rfl) (fun w _ => by kernel_rfl) ?_
                refine LL.done (s' := [(4, .bool false), (5, .int .i64 x931), (6, .int .i64 x932)]) [4, 5, 6] (by kernel_rfl) ?_
                refine NN.then ?_
                refine J.ret ?_
                refine NN.then_ret ?_
                refine NN.fin1 4 (.bool false) (by kernel_rfl) (by kernel_rfl) (.inl rfl) (fun w hi => hi.ret ?_)
                first | (cases H; rfl) | (obtain rfl := Option.some.inj H; rfl) | (simp only [Option.some.injEq, Prod.mk.injEq] at H; obtain ⟨rfl⟩ := H; rfl)
              · rw [if_neg (of_decide_eq_false c944)] at H
                refine J.condF (b := decide (x931 < x932)) c944 (by kernel_rfl) (by kernel_rfl) ?_
                refine J.skip ?_
                refine NN.then ?_
                refine J.seq ?_
                refine J.plain ?_
                refine LL.op (.int .i64 x931) (by kernel_rfl) (fun w _ => by kernel_rfl) ?_
                refine LL.op (.int .i64 x932) (by kernel_rfl) (fun w _ => by kernel_rfl) ?_
                refine LL.op (.bool (x931 == x932)) (by kernel_rfl) (fun w _ => by kernel_rfl) ?_
                refine LL.op (.int .i64 x931) (by kernel_rfl) (fun w _ => by kernel_rfl) ?_
                obtain ⟨x945, hx945, H⟩ := bind_some H
                refine LL.call 24 #[.int .i64 x931] (.string x945) (by kernel_rfl) (fun w => by kernel_rfl) (fun w hw => strength_Name.calls x931   _ w   hx945) ?_
                refine LL.op (.int .i64 x932) (by kernel_rfl) (fun w _ => by kernel_rfl) ?_
                obtain ⟨x946, hx946, H⟩ := bind_some H
                refine LL.call 24 #[.int .i64 x932] (.string x946) (by kernel_rfl) (fun w => by kernel_rfl) (fun w hw => strength_Name.calls x932   _ w   hx946) ?_
                refine LL.op (.bool (x945.toList == x946.toList)) (by kernel_rfl) (fun w _ => by kernel_rfl) ?_
                refine LL.op (.bool ((x931 == x932) == (x945.toList == x946.toList))) (by kernel_rfl) (fun w _ => by kernel_rfl) ?_
                refine LL.op (.bool ((x931 == x932) == (x945.toList == x946.toList))) (by kernel_rfl) (fun w _ => by kernel_rfl) ?_
                rcases Bool.eq_false_or_eq_true (((x931 == x932) == (x945.toList == x946.toList))) with c947 | c947
                · rw [if_pos (eq_of_beq c947)] at H
                  refine LL.bool 51 (((x931 == x932) == (x945.toList == x946.toList))) true c947 (by kernel_rfl) ?_
                  refine LL.op (.int .i64 x931) (by kernel_rfl) (fun w _ => by kernel_rfl) ?_
                  refine LL.op (.bool (x931 == 0)) (by kernel_rfl) (fun w _ => by kernel_rfl) ?_
                  refine LL.op (.int .i64 x931) (by kernel_rfl) (fun w _ => by kernel_rfl) ?_
                  refine LL.call 24 #[.int .i64 x931] (.string x945) (by kernel_rfl) (fun w => by kernel_rfl) (fun w hw => strength_Name.calls x931   _ w   hx945) ?_
                  refine LL.op (.bool (x945.toList == (⟨#[]⟩ : ByteArray).toList)) (by kernel_rfl) (fun w _ => by kernel_rfl) ?_
                  refine LL.op (.bool ((x931 == 0) == (x945.toList == (⟨#[]⟩ : ByteArray).toList))) (by kernel_rfl) (fun w _ => by kernel_rfl) ?_
                  refine LL.op (.bool ((x931 == 0) == (x945.toList == (⟨#[]⟩ : ByteArray).toList))) (by kernel_rfl) (fun w _ => by kernel_rfl) ?_
                  refine LL.op (.bool ((x931 == 0) == (x945.toList == (⟨#[]⟩ : ByteArray).toList))) (by kernel_rfl) (fun w _ => by kernel_rfl) ?_
                  rcases Bool.eq_false_or_eq_true (((x931 == 0) == (x945.toList == (⟨#[]⟩ : ByteArray).toList))) with c948 | c948
                  · rw [if_pos (eq_of_beq c948)] at H
                    refine LL.bool 59 (((x931 == 0) == (x945.toList == (⟨#[]⟩ : ByteArray).toList))) true c948 (by kernel_rfl) ?_
                    obtain ⟨x949, hx949, H⟩ := bind_some H
                    refine LL.call 17 #[] (.bool x949) (by kernel_rfl) (fun w => by kernel_rfl) (fun w hw => sawmilllaw41_awake.calls K    _ w   hx949) ?_
                    refine LL.op (.bool x949) (by kernel_rfl) (fun w _ => by kernel_rfl) ?_
                    refine LL.op (.bool x949) (by kernel_rfl) (fun w _ => by kernel_rfl) ?_
                    refine LL.done (s' := [(4, .bool x949)]) [4] (by kernel_rfl) ?_
                    refine NN.then ?_
                    refine J.ret ?_
                    refine NN.fin1 4 (.bool x949) (by kernel_rfl) (by kernel_rfl) (.inl rfl) (fun w hi => hi.ret ?_)
                    first | (cases H; rfl) | (obtain rfl := Option.some.inj H; rfl) | (simp only [Option.some.injEq, Prod.mk.injEq] at H; obtain ⟨rfl⟩ := H; rfl)
                  · rw [if_neg (nebf c948)] at H
                    refine LL.bool 59 (((x931 == 0) == (x945.toList == (⟨#[]⟩ : ByteArray).toList))) false c948 (by kernel_rfl) ?_
                    refine LL.off (by kernel_rfl) (by kernel_rfl) ?_
                    refine LL.op (.bool false) (by kernel_rfl) (fun w _ => by kernel_rfl) ?_
                    refine LL.op (.bool false) (by kernel_rfl) (fun w _ => by kernel_rfl) ?_
                    refine LL.done (s' := [(4, .bool false)]) [4] (by kernel_rfl) ?_
                    refine NN.then ?_
                    refine J.ret ?_
                    refine NN.fin1 4 (.bool false) (by kernel_rfl) (by kernel_rfl) (.inl rfl) (fun w hi => hi.ret ?_)
                    first | (cases H; rfl) | (obtain rfl := Option.some.inj H; rfl) | (simp only [Option.some.injEq, Prod.mk.injEq] at H; obtain ⟨rfl⟩ := H; rfl)
                · rw [if_neg (nebf c947)] at H
                  refine LL.bool 51 (((x931 == x932) == (x945.toList == x946.toList))) false c947 (by kernel_rfl) ?_
                  refine LL.off (by kernel_rfl) (by kernel_rfl) ?_
                  refine LL.off (by kernel_rfl) (by kernel_rfl) ?_
                  refine LL.off (by kernel_rfl) (by kernel_rfl) ?_
                  refine LL.off (by kernel_rfl) (by kernel_rfl) ?_
                  refine LL.off (by kernel_rfl) (by kernel_rfl) ?_
                  refine LL.off (by kernel_rfl) (by kernel_rfl) ?_
                  refine LL.op (.bool false) (by kernel_rfl) (fun w _ => by kernel_rfl) ?_
                  refine LL.op (.bool false) (by kernel_rfl) (fun w _ => by kernel_rfl) ?_
                  refine LL.off (by kernel_rfl) (by kernel_rfl) ?_
                  refine LL.op (.bool false) (by kernel_rfl) (fun w _ => by kernel_rfl) ?_
                  refine LL.op (.bool false) (by kernel_rfl) (fun w _ => by kernel_rfl) ?_
                  refine LL.done (s' := [(4, .bool false)]) [4] (by kernel_rfl) ?_
                  refine NN.then ?_
                  refine J.ret ?_
                  refine NN.fin1 4 (.bool false) (by kernel_rfl) (by kernel_rfl) (.inl rfl) (fun w hi => hi.ret ?_)
                  first | (cases H; rfl) | (obtain rfl := Option.some.inj H; rfl) | (simp only [Option.some.injEq, Prod.mk.injEq] at H; obtain ⟨rfl⟩ := H; rfl)

end Go.Proofs.Ytfjbhmpnmpphoaa
