/- Walks of functions of the seat: each call does what the Lean function of the same name says. Printed by the session's own program absgen.py. -/
import Derived.Test.YtfjbhmpnmpphoaaF4
namespace Go.Proofs.Ytfjbhmpnmpphoaa
open Go.Saw
set_option linter.unusedVariables false
set_option linter.unusedSimpArgs false

/-! ### sawmilllaw13_DefectWorsts: function 11 -/
def sawmilllaw13_DefectWorsts.f (K : Nat) (a0 : List E41) (a1 : Int) : Option (Bool) := (sawmilllaw13_few.f a0).bind fun x1048 => (if x1048 = true then ((defect_Worst.f K a0 a1).bind fun x1050 => ((sawmillref13_Worst.f K a0 a1).bind fun x1051 => (if x1050 = x1051 then ((sawmilllaw13_awake.f K ).bind fun x1053 => (some x1053)) else (some false)))) else ((sawmilllaw13_awake.f K ).bind fun x1054 => (some x1054)))
set_option maxRecDepth 100000 in
theorem sawmilllaw13_DefectWorsts.calls (K : Nat) (a0 : List E41) (a1 : Int)  (Aa0 : Option Addr) (ca0 : Nat)  (r1 : Bool) (w : World)   (ha0 : KRow (Cx.start w) enc41 7 a0 Aa0) (h : sawmilllaw13_DefectWorsts.f K a0 a1 = some r1) :
    Calls Try.prog 11 #[.slice Aa0 a0.length ca0, .int .i64 a1] w (Ret w (.bool r1)) := by
  have H := h
  clear h
  unfold sawmilllaw13_DefectWorsts.f at H
  refine Go.Saw.calls (args := [.slice Aa0 a0.length ca0, .int .i64 a1]) Try.func11 rfl Try.ntmps11 (by kernel_rfl) ?_
  refine J.seq ?_
  refine J.plain ?_
  refine LL.op (.bool false) (by kernel_rfl) (fun w _ => by kernel_rfl) ?_
  refine LL.done (s' := [(0, .slice Aa0 a0.length ca0), (1, .int .i64 a1), (4, .bool false)]) [0, 1, 4] (by kernel_rfl) ?_
  refine NN.then ?_
  refine J.seq ?_
  refine J.seq ?_
  refine J.plain ?_
  refine LL.op (.slice Aa0 a0.length ca0) (by kernel_rfl) (fun w _ => by kernel_rfl) ?_
  obtain ⟨x1048, hx1048, H⟩ := bind_some H
  refine LL.call 29 #[.slice Aa0 a0.length ca0] (.bool x1048) (by kernel_rfl) (fun w => by kernel_rfl) (fun w hw => sawmilllaw13_few.calls a0  _ _ _ w  (ha0.at hw) hx1048) ?_
  refine LL.op (.bool (!x1048)) (by kernel_rfl) (fun w _ => by kernel_rfl) ?_
  refine LL.done (s' := [(0, .slice Aa0 a0.length ca0), (1, .int .i64 a1), (4, .bool false), (7, .bool (!x1048))]) [0, 1, 4, 7] (by kernel_rfl) ?_
  refine NN.then ?_
  rcases Bool.eq_false_or_eq_true (x1048) with c1049 | c1049
  · rw [if_pos (c1049)] at H
    refine J.condF (b := !x1048) (by rw [show (!x1048) = !(x1048) from rfl, c1049]; rfl) (by kernel_rfl) (by kernel_rfl) ?_
    refine J.skip ?_
    refine NN.then ?_
    refine J.seq ?_
    refine J.plain ?_
    refine LL.op (.slice Aa0 a0.length ca0) (by kernel_rfl) (fun w _ => by kernel_rfl) ?_
    refine LL.op (.int .i64 a1) (by kernel_rfl) (fun w _ => by kernel_rfl) ?_
    obtain ⟨x1050, hx1050, H⟩ := bind_some H
    refine LL.call 45 #[.slice Aa0 a0.length ca0, .int .i64 a1] (.int .i64 x1050) (by kernel_rfl) (fun w => by kernel_rfl) (fun w hw => defect_Worst.calls K a0 a1  _ _ _ w  (ha0.at hw) hx1050) ?_
    refine LL.op (.slice Aa0 a0.length ca0) (by kernel_rfl) (fun w _ => by kernel_rfl) ?_
    refine LL.op (.int .i64 a1) (by kernel_rfl) (fun w _ => by kernel_rfl) ?_
    obtain ⟨x1051, hx1051, H⟩ := bind_some H
    refine LL.call 46 #[.slice Aa0 a0.length ca0, .int .i64 a1] (.int .i64 x1051) (by kernel_rfl) (fun w => by kernel_rfl) (fun w hw => sawmillref13_Worst.calls K a0 a1  _ _ _ w  (ha0.at hw) hx1051) ?_
    refine LL.op (.bool (x1050 == x1051)) (by kernel_rfl) (fun w _ => by kernel_rfl) ?_
    refine LL.op (.bool (x1050 == x1051)) (by kernel_rfl) (fun w _ => by kernel_rfl) ?_
    rcases Bool.eq_false_or_eq_true ((x1050 == x1051)) with c1052 | c1052
    · rw [if_pos (eq_of_beq c1052)] at H
      refine LL.bool 16 ((x1050 == x1051)) true c1052 (by kernel_rfl) ?_
      obtain ⟨x1053, hx1053, H⟩ := bind_some H
      refine LL.call 30 #[] (.bool x1053) (by kernel_rfl) (fun w => by kernel_rfl) (fun w hw => sawmilllaw13_awake.calls K    _ w   hx1053) ?_
      refine LL.op (.bool x1053) (by kernel_rfl) (fun w _ => by kernel_rfl) ?_
      refine LL.op (.bool x1053) (by kernel_rfl) (fun w _ => by kernel_rfl) ?_
      refine LL.done (s' := [(4, .bool x1053)]) [4] (by kernel_rfl) ?_
      refine NN.then ?_
      refine J.ret ?_
      refine NN.fin1 4 (.bool x1053) (by kernel_rfl) (by kernel_rfl) (.inl rfl) (fun w hi => hi.ret ?_)
      first | (cases H; rfl) | (obtain rfl := Option.some.inj H; rfl) | (simp only [Option.some.injEq, Prod.mk.injEq] at H; obtain ⟨rfl⟩ := H; rfl)
    · rw [if_neg (nebf c1052)] at H
      refine LL.bool 16 ((x1050 == x1051)) false c1052 (by kernel_rfl) ?_
      refine LL.off (by kernel_rfl) (by kernel_rfl) ?_
      refine LL.op (.bool false) (by kernel_rfl) (fun w _ => by kernel_rfl) ?_
      refine LL.op (.bool false) (by kernel_rfl) (fun w _ => by kernel_rfl) ?_
      refine LL.done (s' := [(4, .bool false)]) [4] (by kernel_rfl) ?_
      refine NN.then ?_
      refine J.ret ?_
      refine NN.fin1 4 (.bool false) (by kernel_rfl) (by kernel_rfl) (.inl rfl) (fun w hi => hi.ret ?_)
      first | (cases H; rfl) | (obtain rfl := Option.some.inj H; rfl) | (simp only [Option.some.injEq, Prod.mk.injEq] at H; obtain ⟨rfl⟩ := H; rfl)
  · rw [if_neg (nebt c1049)] at H
    refine J.condT (b := !x1048) (by rw [show (!x1048) = !(x1048) from rfl, c1049]; rfl) (by kernel_rfl) (by kernel_rfl) ?_
    refine J.seq ?_
    refine J.plain ?_
    obtain ⟨x1054, hx1054, H⟩ := bind_some H
    refine LL.call 30 #[] (.bool x1054) (by kernel_rfl) (fun w => by kernel_rfl) (fun w hw => sawmilllaw13_awake.calls K    _ w   hx1054) ?_
    refine LL.op (.bool x1054) (by kernel_rfl) (fun w _ => by kernel_rfl) ?_
    refine LL.done (s' := [(0, .slice Aa0 a0.length ca0), (1, .int .i64 a1), (4, .bool x1054)]) [0, 1, 4] (by kernel_rfl) ?_
    refine NN.then ?_
    refine J.ret ?_
    refine NN.then_ret ?_
    refine NN.fin1 4 (.bool x1054) (by kernel_rfl) (by kernel_rfl) (.inl rfl) (fun w hi => hi.ret ?_)
    first | (cases H; rfl) | (obtain rfl := Option.some.inj H; rfl) | (simp only [Option.some.injEq, Prod.mk.injEq] at H; obtain ⟨rfl⟩ := H; rfl)

end Go.Proofs.Ytfjbhmpnmpphoaa
