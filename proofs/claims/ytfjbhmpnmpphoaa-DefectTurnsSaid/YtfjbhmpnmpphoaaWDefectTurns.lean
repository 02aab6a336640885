/- Walks of functions of the seat: each call does what the Lean function of the same name says. Printed by the session's own program absgen.py. -/
import Derived.Test.YtfjbhmpnmpphoaaF4
namespace Go.Proofs.Ytfjbhmpnmpphoaa
open Go.Saw
set_option linter.unusedVariables false
set_option linter.unusedSimpArgs false

/-! ### sawmilllaw13_DefectTurns: function 10 -/
def sawmilllaw13_DefectTurns.f (K : Nat) (a0 : List E41) (a1 : Int) : Option (Bool) := (sawmilllaw13_few.f a0).bind fun x1026 => (if x1026 = true then ((defect_Turn.f K a0 a1).bind fun x1028 => ((sawmillref13_Turn.f K a0 a1).bind fun x1036 => ((sawmillref13_Same.f K x1028 x1036).bind fun x1044 => (if x1044 = true then ((sawmilllaw13_awake.f K ).bind fun x1046 => (some x1046)) else (some false))))) else ((sawmilllaw13_awake.f K ).bind fun x1047 => (some x1047)))
set_option maxRecDepth 100000 in
theorem sawmilllaw13_DefectTurns.calls (K : Nat) (a0 : List E41) (a1 : Int)  (Aa0 : Option Addr) (ca0 : Nat)  (r1 : Bool) (w : World)   (ha0 : KRow (Cx.start w) enc41 7 a0 Aa0) (h : sawmilllaw13_DefectTurns.f K a0 a1 = some r1) :
    Calls Try.prog 10 #[.slice Aa0 a0.length ca0, .int .i64 a1] w (Ret w (.bool r1)) := by
  have H := h
  clear h
  unfold sawmilllaw13_DefectTurns.f at H
  refine Go.Saw.calls (args := [.slice Aa0 a0.length ca0, .int .i64 a1]) Try.func10 rfl Try.ntmps10 (by kernel_rfl) ?_
  refine J.seq ?_
  refine J.plain ?_
  refine LL.op (.bool false) (by kernel_rfl) (fun w _ => by kernel_rfl) ?_
  refine LL.done (s' := [(0, .slice Aa0 a0.length ca0), (1, .int .i64 a1), (4, .bool false)]) [0, 1, 4] (by kernel_rfl) ?_
  refine NN.then ?_
  refine J.seq ?_
  refine J.seq ?_
  refine J.plain ?_
  refine LL.op (.slice Aa0 a0.length ca0) (by kernel_rfl) (fun w _ => by kernel_rfl) ?_
  obtain ⟨x1026, hx1026, H⟩ := bind_some H
  refine LL.call 29 #[.slice Aa0 a0.length ca0] (.bool x1026) (by kernel_rfl) (fun w => by kernel_rfl) (fun w hw => sawmilllaw13_few.calls a0  _ _ _ w  (ha0.at hw) hx1026) ?_
  refine LL.op (.bool (!x1026)) (by kernel_rfl) (fun w _ => by kernel_rfl) ?_
  refine LL.done (s' := [(0, .slice Aa0 a0.length ca0), (1, .int .i64 a1), (4, .bool false), (7, .bool (!x1026))]) [0, 1, 4, 7] (by kernel_rfl) ?_
  refine NN.then ?_
  rcases Bool.eq_false_or_eq_true (x1026) with c1027 | c1027
  · rw [if_pos (c1027)] at H
    refine J.condF (b := !x1026) (by rw [show (!x1026) = !(x1026) from rfl, c1027]; rfl) (by kernel_rfl) (by kernel_rfl) ?_
    refine J.skip ?_
    refine NN.then ?_
    refine J.seq ?_
    refine J.plain ?_
    refine LL.op (.slice Aa0 a0.length ca0) (by kernel_rfl) (fun w _ => by kernel_rfl) ?_
    refine LL.op (.int .i64 a1) (by kernel_rfl) (fun w _ => by kernel_rfl) ?_
    obtain ⟨x1028, hx1028, H⟩ := bind_some H
    refine LL.callR (enc := enc41) (m := 7) (l := x1028) 43 #[.slice Aa0 a0.length ca0, .int .i64 a1] (fun A_ c_ => .slice A_ x1028.length c_) (by kernel_rfl) (fun w => by kernel_rfl) (fun w hw => defect_Turn.calls K a0 a1  _ _ _ w  (ha0.at hw) hx1028) (fun R1029 F1030 A1031 c1032 le1033 k1034 fr1035 => ?_)
    refine LL.op (.slice Aa0 a0.length ca0) (by kernel_rfl) (fun w _ => by kernel_rfl) ?_
    refine LL.op (.int .i64 a1) (by kernel_rfl) (fun w _ => by kernel_rfl) ?_
    obtain ⟨x1036, hx1036, H⟩ := bind_some H
    refine LL.callR (enc := enc41) (m := 7) (l := x1036) 44 #[.slice Aa0 a0.length ca0, .int .i64 a1] (fun A_ c_ => .slice A_ x1036.length c_) (by kernel_rfl) (fun w => by kernel_rfl) (fun w hw => sawmillref13_Turn.calls K a0 a1  _ _ _ w  ((ha0.le le1033).at hw) hx1036) (fun R1037 F1038 A1039 c1040 le1041 k1042 fr1043 => ?_)
    obtain ⟨x1044, hx1044, H⟩ := bind_some H
    refine LL.call 40 #[.slice A1031 x1028.length c1032, .slice A1039 x1036.length c1040] (.bool x1044) (by kernel_rfl) (fun w => by kernel_rfl) (fun w hw => sawmillref13_Same.calls K x1028 x1036  _ _ _ _ _ w  ((k1034.le le1041).at hw) (k1042.at hw) hx1044) ?_
    refine LL.op (.bool x1044) (by kernel_rfl) (fun w _ => by kernel_rfl) ?_
    rcases Bool.eq_false_or_eq_true (x1044) with c1045 | c1045
    · rw [if_pos (c1045)] at H
      refine LL.bool 16 (x1044) true c1045 (by kernel_rfl) ?_
      obtain ⟨x1046, hx1046, H⟩ := bind_some H
      refine LL.call 30 #[] (.bool x1046) (by kernel_rfl) (fun w => by kernel_rfl) (fun w hw => sawmilllaw13_awake.calls K    _ w   hx1046) ?_
      refine LL.op (.bool x1046) (by kernel_rfl) (fun w _ => by kernel_rfl) ?_
      refine LL.op (.bool x1046) (by kernel_rfl) (fun w _ => by kernel_rfl) ?_
      refine LL.done (s' := [(4, .bool x1046)]) [4] (by kernel_rfl) ?_
      refine NN.then ?_
      refine J.ret ?_
      refine NN.fin1 4 (.bool x1046) (by kernel_rfl) (by kernel_rfl) (.inl rfl) (fun w hi => hi.ret ?_)
      first | (cases H; rfl) | (obtain rfl := Option.some.inj H; rfl) | (simp only [Option.some.injEq, Prod.mk.injEq] at H; obtain ⟨rfl⟩ := H; rfl)
    · rw [if_neg (nebt c1045)] at H
      refine LL.bool 16 (x1044) false c1045 (by kernel_rfl) ?_
      refine LL.off (by kernel_rfl) (by kernel_rfl) ?_
      refine LL.op (.bool false) (by kernel_rfl) (fun w _ => by kernel_rfl) ?_
      refine LL.op (.bool false) (by kernel_rfl) (fun w _ => by kernel_rfl) ?_
      refine LL.done (s' := [(4, .bool false)]) [4] (by kernel_rfl) ?_
      refine NN.then ?_
      refine J.ret ?_
      refine NN.fin1 4 (.bool false) (by kernel_rfl) (by kernel_rfl) (.inl rfl) (fun w hi => hi.ret ?_)
      first | (cases H; rfl) | (obtain rfl := Option.some.inj H; rfl) | (simp only [Option.some.injEq, Prod.mk.injEq] at H; obtain ⟨rfl⟩ := H; rfl)
  · rw [if_neg (nebt c1027)] at H
    refine J.condT (b := !x1026) (by rw [show (!x1026) = !(x1026) from rfl, c1027]; rfl) (by kernel_rfl) (by kernel_rfl) ?_
    refine J.seq ?_
    refine J.plain ?_
    obtain ⟨x1047, hx1047, H⟩ := bind_some H
    refine LL.call 30 #[] (.bool x1047) (by kernel_rfl) (fun w => by kernel_rfl) (fun w hw => sawmilllaw13_awake.calls K    _ w   hx1047) ?_
    refine LL.op (.bool x1047) (by kernel_rfl) (fun w _ => by kernel_rfl) ?_
    refine LL.done (s' := [(0, .slice Aa0 a0.length ca0), (1, .int .i64 a1), (4, .bool x1047)]) [0, 1, 4] (by kernel_rfl) ?_
    refine NN.then ?_
    refine J.ret ?_
    refine NN.then_ret ?_
    refine NN.fin1 4 (.bool x1047) (by kernel_rfl) (by kernel_rfl) (.inl rfl) (fun w hi => hi.ret ?_)
    first | (cases H; rfl) | (obtain rfl := Option.some.inj H; rfl) | (simp only [Option.some.injEq, Prod.mk.injEq] at H; obtain ⟨rfl⟩ := H; rfl)

end Go.Proofs.Ytfjbhmpnmpphoaa
