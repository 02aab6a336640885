/- Walks of functions of the seat: each call does what the Lean function of the same name says. Printed by the session's own program absgen.py. -/
import Derived.Test.YtfjbhmpnmpphoaaF4
namespace Go.Proofs.Ytfjbhmpnmpphoaa
open Go.Saw
set_option linter.unusedVariables false
set_option linter.unusedSimpArgs false

/-! ### sawmilllaw41_StrengthClasses: function 4 -/
def sawmilllaw41_StrengthClasses.f (K : Nat) (a0 : Int) (a1 : Int) : Option (Bool) := (strength_Class.f a0).bind fun x724 => ((sawmillref41_Class.f a0).bind fun x725 => (if x724 = x725 then ((strength_Name.f a1).bind fun x727 => ((sawmillref41_Name.f a1).bind fun x728 => (if x727.toList = x728.toList then ((sawmilllaw41_awake.f K ).bind fun x730 => (some x730)) else (some false)))) else (some false)))
set_option maxRecDepth 100000 in
theorem sawmilllaw41_StrengthClasses.calls (K : Nat) (a0 : Int) (a1 : Int)    (r1 : Bool) (w : World)    (h : sawmilllaw41_StrengthClasses.f K a0 a1 = some r1) :
    Calls Try.prog 4 #[.int .i64 a0, .int .i64 a1] w (Ret w (.bool r1)) := by
  have H := h
  clear h
  unfold sawmilllaw41_StrengthClasses.f at H
  refine Go.Saw.calls (args := [.int .i64 a0, .int .i64 a1]) Try.func4 rfl Try.ntmps4 (by kernel_rfl) ?_
  refine J.seq ?_
  refine J.plain ?_
  refine LL.op (.bool false) (by kernel_rfl) (fun w _ => by kernel_rfl) ?_
  refine LL.done (s' := [(0, .int .i64 a0), (1, .int .i64 a1), (4, .bool false)]) [0, 1, 4] (by kernel_rfl) ?_
  refine NN.then ?_
  refine J.seq ?_
  refine J.plain ?_
  refine LL.op (.int .i64 a0) (by kernel_rfl) (fun w _ => by kernel_rfl) ?_
  obtain ⟨x724, hx724, H⟩ := bind_some H
  refine LL.call 22 #[.int .i64 a0] (.int .i64 x724) (by kernel_rfl) (fun w => by kernel_rfl) (fun w hw => strength_Class.calls a0   _ w   hx724) ?_
  refine LL.op (.int .i64 a0) (by kernel_rfl) (fun w _ => by kernel_rfl) ?_
  obtain ⟨x725, hx725, H⟩ := bind_some H
  refine LL.call 23 #[.int .i64 a0] (.int .i64 x725) (by kernel_rfl) (fun w => by kernel_rfl) (fun w hw => sawmillref41_Class.calls a0   _ w   hx725) ?_
  refine LL.op (.bool (x724 == x725)) (by kernel_rfl) (fun w _ => by kernel_rfl) ?_
  refine LL.op (.bool (x724 == x725)) (by kernel_rfl) (fun w _ => by kernel_rfl) ?_
  rcases Bool.eq_false_or_eq_true ((x724 == x725)) with c726 | c726
  · rw [if_pos (eq_of_beq c726)] at H
    refine LL.bool 10 ((x724 == x725)) true c726 (by kernel_rfl) ?_
    refine LL.op (.int .i64 a1) (by kernel_rfl) (fun w _ => by kernel_rfl) ?_
    obtain ⟨x727, hx727, H⟩ := bind_some H
    refine LL.call 24 #[.int .i64 a1] (.string x727) (by kernel_rfl) (fun w => by kernel_rfl) (fun w hw => strength_Name.calls a1   _ w   hx727) ?_
    refine LL.op (.int .i64 a1) (by kernel_rfl) (fun w _ => by kernel_rfl) ?_
    obtain ⟨x728, hx728, H⟩ := bind_some H
    refine LL.call 25 #[.int .i64 a1] (.string x728) (by kernel_rfl) (fun w => by kernel_rfl) (fun w hw => sawmillref41_Name.calls a1   _ w   hx728) ?_
    refine LL.op (.bool (x727.toList == x728.toList)) (by kernel_rfl) (fun w _ => by kernel_rfl) ?_
    refine LL.op (.bool (x727.toList == x728.toList)) (by kernel_rfl) (fun w _ => by kernel_rfl) ?_
    refine LL.op (.bool (x727.toList == x728.toList)) (by kernel_rfl) (fun w _ => by kernel_rfl) ?_
    rcases Bool.eq_false_or_eq_true ((x727.toList == x728.toList)) with c729 | c729
    · rw [if_pos (eq_of_beq c729)] at H
      refine LL.bool 17 ((x727.toList == x728.toList)) true c729 (by kernel_rfl) ?_
      obtain ⟨x730, hx730, H⟩ := bind_some H
      refine LL.call 17 #[] (.bool x730) (by kernel_rfl) (fun w => by kernel_rfl) (fun w hw => sawmilllaw41_awake.calls K    _ w   hx730) ?_
      refine LL.op (.bool x730) (by kernel_rfl) (fun w _ => by kernel_rfl) ?_
      refine LL.op (.bool x730) (by kernel_rfl) (fun w _ => by kernel_rfl) ?_
      refine LL.done (s' := [(4, .bool x730)]) [4] (by kernel_rfl) ?_
      refine NN.then ?_
      refine J.ret ?_
      refine NN.fin1 4 (.bool x730) (by kernel_rfl) (by kernel_rfl) (.inl rfl) (fun w hi => hi.ret ?_)
      first | (cases H; rfl) | (obtain rfl := Option.some.inj H; rfl) | (simp only [Option.some.injEq, Prod.mk.injEq] at H; obtain ⟨rfl⟩ := H; rfl)
    · rw [if_neg (nebf c729)] at H
      refine LL.bool 17 ((x727.toList == x728.toList)) false c729 (by kernel_rfl) ?_
      refine LL.off (by kernel_rfl) (by kernel_rfl) ?_
      refine LL.op (.bool false) (by kernel_rfl) (fun w _ => by kernel_rfl) ?_
      refine LL.op (.bool false) (by kernel_rfl) (fun w _ => by kernel_rfl) ?_
      refine LL.done (s' := [(4, .bool false)]) [4] (by kernel_rfl) ?_
      refine NN.then ?_
      refine J.ret ?_
      refine NN.fin1 4 (.bool false) (by kernel_rfl) (by kernel_rfl) (.inl rfl) (fun w hi => hi.ret ?_)
      first | (cases H; rfl) | (obtain rfl := Option.some.inj H; rfl) | (simp only [Option.some.injEq, Prod.mk.injEq] at H; obtain ⟨rfl⟩ := H; rfl)
  · rw [if_neg (nebf c726)] at H
    refine LL.bool 10 ((x724 == x725)) false c726 (by kernel_rfl) ?_
    refine LL.off (by kernel_rfl) (by kernel_rfl) ?_
    refine LL.off (by kernel_rfl) (by kernel_rfl) ?_
    refine LL.off (by kernel_rfl) (by kernel_rfl) ?_
    refine LL.off (by kernel_rfl) (by kernel_rfl) ?_
    refine LL.off (by kernel_rfl) (by kernel_rfl) ?_
    refine LL.op (.bool false) (by kernel_rfl) (fun w _ => by kernel_rfl) ?_
    refine LL.op (.bool false) (by kernel_rfl) (fun w _ => by kernel_rfl) ?_
    refine LL.off (by kernel_rfl) (by kernel_rfl) ?_
    refine LL.op (.bool false) (by kernel_rfl) (fun w _ => by kernel_rfl) ?_
    refine LL.op (.bool false) (by kernel_rfl) (fun w _ => by kernel_rfl) ?_
    refine LL.done (s' := [(4, .bool false)]) [4] (by kernel_rfl) ?_
    refine NN.then ?_
    refine J.ret ?_
    refine NN.fin1 4 (.bool false) (by kernel_rfl) (by kernel_rfl) (.inl rfl) (fun w hi => hi.ret ?_)
    first | (cases H; rfl) | (obtain rfl := Option.some.inj H; rfl) | (simp only [Option.some.injEq, Prod.mk.injEq] at H; obtain ⟨rfl⟩ := H; rfl)

end Go.Proofs.Ytfjbhmpnmpphoaa
