/- Walks of functions of the seat: each call does what the Lean function of the same name says. Printed by the session's own program absgen.py. -/
import Derived.Test.YtfjbhmpnmpphoaaC
namespace Go.Proofs.Ytfjbhmpnmpphoaa
open Go.Saw
set_option linter.unusedVariables false
set_option linter.unusedSimpArgs false

/-! ### span_empty: function 78 -/
def span_empty.f (a0_0 : Int) (a0_1 : Int) : Option (Bool) := some (decide (a0_1 ≤ a0_0))
set_option maxRecDepth 100000 in
theorem span_empty.calls (a0_0 : Int) (a0_1 : Int)    (r1 : Bool) (w : World)    (h : span_empty.f a0_0 a0_1 = some r1) :
    Calls Try.prog 78 #[.agg #[.int .i64 a0_0, .int .i64 a0_1]] w (Ret w (.bool r1)) := by
  have H := h
  clear h
  unfold span_empty.f at H
  refine Go.Saw.calls (args := [.agg #[.int .i64 a0_0, .int .i64 a0_1]]) Try.func78 rfl Try.ntmps78 (by kernel_rfl) ?_
  refine J.seq ?_
  refine J.plain ?_
  refine LL.box 23 (.tmp 0) [.int .i64 a0_0, .int .i64 a0_1] (by kernel_rfl) rfl (by kernel_rfl) (fun g9 => ?_)
  refine LL.op (.bool false) (by kernel_rfl) (fun w _ => by kernel_rfl) ?_
  refine LL.done (s' := [(1, .pointer (some ⟨g9, 0, none⟩)), (2, .bool false)]) [1, 2] (by kernel_rfl) ?_
  refine NN.then ?_
  refine J.seq ?_
  refine J.plain ?_
  refine LL.op (.pointer (some ⟨g9, 0, none⟩)) (by kernel_rfl) (fun w _ => by kernel_rfl) ?_
  refine LL.op (.int .i64 a0_0) (by kernel_rfl) (ld 0 g9 0 rfl (by kernel_rfl) rfl (by kernel_rfl)) ?_
  refine LL.op (.pointer (some ⟨g9, 1, none⟩)) (by kernel_rfl) (fun w _ => by kernel_rfl) ?_
  refine LL.op (.int .i64 a0_1) (by kernel_rfl) (ld 0 g9 1 rfl (by kernel_rfl) rfl (by kernel_rfl)) ?_
  refine LL.op (.bool (decide (a0_1 ≤ a0_0))) (by kernel_rfl) (fun w _ => by kernel_rfl) ?_
  refine LL.op (.bool (decide (a0_1 ≤ a0_0))) (by kernel_rfl) (fun w _ => by kernel_rfl) ?_
  refine LL.done (s' := [(2, .bool (decide (a0_1 ≤ a0_0)))]) [2] (by kernel_rfl) ?_
  refine NN.then ?_
  refine J.ret ?_
  refine NN.fin1 2 (.bool (decide (a0_1 ≤ a0_0))) (by kernel_rfl) (by kernel_rfl) (.inl rfl) (fun w hi => hi.ret ?_)
  first | (cases H; rfl) | (obtain rfl := Option.some.inj H; rfl) | (simp only [Option.some.injEq, Prod.mk.injEq] at H; obtain ⟨rfl⟩ := H; rfl)

/-! ### span_Len: function 56 -/
def span_Len.f (a0_0 : Int) (a0_1 : Int) : Option (Int) := (span_empty.f a0_0 a0_1).bind fun x11 => (if x11 = true then (some 0) else (if a0_0 < 0 then (if (IntKind.i64.wrap (9223372036854775807 + a0_0)) < a0_1 then (some 9223372036854775807) else (some (IntKind.i64.wrap (a0_1 - a0_0)))) else (some (IntKind.i64.wrap (a0_1 - a0_0)))))
set_option maxRecDepth 100000 in
theorem span_Len.calls (a0_0 : Int) (a0_1 : Int)    (r1 : Int) (w : World)    (h : span_Len.f a0_0 a0_1 = some r1) :
    Calls Try.prog 56 #[.agg #[.int .i64 a0_0, .int .i64 a0_1]] w (Ret w (.int .i64 r1)) := by
  have H := h
  clear h
  unfold span_Len.f at H
  refine Go.Saw.calls (args := [.agg #[.int .i64 a0_0, .int .i64 a0_1]]) Try.func56 rfl Try.ntmps56 (by kernel_rfl) ?_
  refine J.seq ?_
  refine J.plain ?_
  refine LL.box 23 (.tmp 0) [.int .i64 a0_0, .int .i64 a0_1] (by kernel_rfl) rfl (by kernel_rfl) (fun g10 => ?_)
  refine LL.op (.int .i64 0) (by kernel_rfl) (fun w _ => by kernel_rfl) ?_
  refine LL.done (s' := [(1, .pointer (some ⟨g10, 0, none⟩)), (2, .int .i64 0)]) [1, 2] (by kernel_rfl) ?_
  refine NN.then ?_
  refine J.seq ?_
  refine J.seq ?_
  refine J.plain ?_
  refine LL.op (.agg #[.int .i64 a0_0, .int .i64 a0_1]) (by kernel_rfl) (ld 0 g10 0 rfl (by kernel_rfl) rfl (by kernel_rfl)) ?_
  obtain ⟨x11, hx11, H⟩ := bind_some H
  refine LL.call 78 #[.agg #[.int .i64 a0_0, .int .i64 a0_1]] (.bool x11) (by kernel_rfl) (fun w => by kernel_rfl) (fun w hw => span_empty.calls a0_0 a0_1   _ w   hx11) ?_
  refine LL.done (s' := [(1, .pointer (some ⟨g10, 0, none⟩)), (2, .int .i64 0), (4, .bool x11)]) [1, 2, 4] (by kernel_rfl) ?_
  refine NN.then ?_
  rcases Bool.eq_false_or_eq_true (x11) with c12 | c12
  · rw [if_pos (c12)] at H
    refine J.condT (b := x11) c12 (by kernel_rfl) (by kernel_rfl) ?_
    refine J.seq ?_
    refine J.plain ?_
    refine LL.op (.int .i64 0) (by kernel_rfl) (fun w _ => by kernel_rfl) ?_
    refine LL.done (s' := [(1, .pointer (some ⟨g10, 0, none⟩)), (2, .int .i64 0)]) [1, 2] (by kernel_rfl) ?_
    refine NN.then ?_
    refine J.ret ?_
    refine NN.then_ret ?_
    refine NN.fin1 2 (.int .i64 0) (by kernel_rfl) (by kernel_rfl) (.inl rfl) (fun w hi => hi.ret ?_)
    first | (cases H; rfl) | (obtain rfl := Option.some.inj H; rfl) | (simp only [Option.some.injEq, Prod.mk.injEq] at H; obtain ⟨rfl⟩ := H; rfl)
  · rw [if_neg (nebt c12)] at H
    refine J.condF (b := x11) c12 (by kernel_rfl) (by kernel_rfl) ?_
    refine J.skip ?_
    refine NN.then ?_
    refine J.seq ?_
    refine J.seq ?_
    refine J.plain ?_
    refine LL.op (.pointer (some ⟨g10, 0, none⟩)) (by kernel_rfl) (fun w _ => by kernel_rfl) ?_
    refine LL.op (.int .i64 a0_0) (by kernel_rfl) (ld 0 g10 0 rfl (by kernel_rfl) rfl (by kernel_rfl)) ?_
    refine LL.op (.bool (decide (a0_0 < 0))) (by kernel_rfl) (fun w _ => by kernel_rfl) ?_
    refine LL.op (.bool (decide (a0_0 < 0))) (by kernel_rfl) (fun w _ => by kernel_rfl) ?_
    rcases Bool.eq_false_or_eq_true (decide (a0_0 < 0)) with c13 | c13
    · rw [if_pos (of_decide_eq_true c13)] at H
      refine LL.bool 8 (decide (a0_0 < 0)) true c13 (by kernel_rfl) ?_
      refine LL.op (.pointer (some ⟨g10, 1, none⟩)) (by kernel_rfl) (fun w _ => by kernel_rfl) ?_
      refine LL.op (.int .i64 a0_1) (by kernel_rfl) (ld 0 g10 1 rfl (by kernel_rfl) rfl (by kernel_rfl)) ?_
      refine LL.op (.pointer (some ⟨g10, 0, none⟩)) (by kernel_rfl) (fun w _ => by kernel_rfl) ?_
      refine LL.op (.int .i64 a0_0) (by kernel_rfl) (ld 0 g10 0 rfl (by kernel_rfl) rfl (by kernel_rfl)) ?_
      refine LL.op (.int .i64 (IntKind.i64.wrap (9223372036854775807 + a0_0))) (by kernel_rfl) (fun w _ => by kernel_rfl) ?_
      refine LL.op (.bool (decide ((IntKind.i64.wrap (9223372036854775807 + a0_0)) < a0_1))) (by kernel_rfl) (fun w _ => by kernel_rfl) ?_
      refine LL.op (.bool (decide ((IntKind.i64.wrap (9223372036854775807 + a0_0)) < a0_1))) (by kernel_rfl) (fun w _ => by kernel_rfl) ?_
      refine LL.done (s' := [(1, .pointer (some ⟨g10, 0, none⟩)), (2, .int .i64 0), (15, .bool (decide ((IntKind.i64.wrap (9223372036854775807 + a0_0)) < a0_1)))]) [1, 2, 15] (by kernel_rfl) ?_
      refine NN.then ?_
      rcases Bool.eq_false_or_eq_true (decide ((IntKind.i64.wrap (9223372036854775807 + a0_0)) < a0_1)) with c14 | c14
      · rw [if_pos (of_decide_eq_true c14)] at H
        refine J.condT (b := decide ((IntKind.i64.wrap (9223372036854775807 + a0_0)) < a0_1)) c14 (by kernel_rfl) (by kernel_rfl) ?_
        refine J.seq ?_
        refine J.plain ?_
        refine LL.op (.int .i64 9223372036854775807) (by kernel_rfl) (fun w _ => by kernel_rfl) ?_
        refine LL.done (s' := [(1, .pointer (some ⟨g10, 0, none⟩)), (2, .int .i64 9223372036854775807)]) [1, 2] (by kernel_rfl) ?_
        refine NN.then ?_
        refine J.ret ?_
        refine NN.then_ret ?_
        refine NN.fin1 2 (.int .i64 9223372036854775807) (by kernel_rfl) (by kernel_rfl) (.inl rfl) (fun w hi => hi.ret ?_)
        first | (cases H; rfl) | (obtain rfl := Option.some.inj H; rfl) | (simp only [Option.some.injEq, Prod.mk.injEq] at H; obtain ⟨rfl⟩ := H; rfl)
      · rw [if_neg (of_decide_eq_false c14)] at H
        refine J.condF (b := decide ((IntKind.i64.wrap (9223372036854775807 + a0_0)) < a0_1)) c14 (by kernel_rfl) (by kernel_rfl) ?_
        refine J.skip ?_
        refine NN.then ?_
        refine J.seq ?_
        refine J.plain ?_
        refine LL.op (.pointer (some ⟨g10, 1, none⟩)) (by kernel_rfl) (fun w _ => by kernel_rfl) ?_
        refine LL.op (.int .i64 a0_1) (by kernel_rfl) (ld 0 g10 1 rfl (by kernel_rfl) rfl (by kernel_rfl)) ?_
        refine LL.op (.pointer (some ⟨g10, 0, none⟩)) (by kernel_rfl) (fun w _ => by kernel_rfl) ?_
        refine LL.op (.int .i64 a0_0) (by kernel_rfl) (ld 0 g10 0 rfl (by kernel_rfl) rfl (by kernel_rfl)) ?_
        refine LL.op (.int .i64 (IntKind.i64.wrap (a0_1 - a0_0))) (by kernel_rfl) (fun w _ => by kernel_rfl) ?_
        refine LL.op (.int .i64 (IntKind.i64.wrap (a0_1 - a0_0))) (by kernel_rfl) (fun w _ => by kernel_rfl) ?_
        refine LL.done (s' := [(2, .int .i64 (IntKind.i64.wrap (a0_1 - a0_0)))]) [2] (by kernel_rfl) ?_
        refine NN.then ?_
        refine J.ret ?_
        refine NN.fin1 2 (.int .i64 (IntKind.i64.wrap (a0_1 - a0_0))) (by kernel_rfl) (by kernel_rfl) (.inl rfl) (fun w hi => hi.ret ?_)
        first | (cases H; rfl) | (obtain rfl := Option.some.inj H; rfl) | (simp only [Option.some.injEq, Prod.mk.injEq] at H; obtain ⟨rfl⟩ := H; rfl)
    · rw [if_neg (of_decide_eq_false c13)] at H
      refine LL.bool 8 (decide (a0_0 < 0)) false c13 (by kernel_rfl) ?_
      refine LL.off (by kernel_rfl) (by kernel_rfl) ?_
      refine LL.off (by kernel_rfl) (by kernel_rfl) ?_
      refine LL.off (by kernel_rfl) (by kernel_rfl) ?_
      refine LL.off (by kernel_rfl) (by kernel_rfl) ?_
      refine LL.off (by kernel_rfl) (by kernel_rfl) ?_
      refine LL.off (by kernel_rfl) (by kernel_rfl) ?_
      refine LL.op (.bool false) (by kernel_rfl) (fun w _ => by kernel_rfl) ?_
      refine LL.done (s' := [(1, .pointer (some ⟨g10, 0, none⟩)), (2, .int .i64 0), (15, .bool false)]) [1, 2, 15] (by kernel_rfl) ?_
      refine NN.then ?_
      refine J.condF (b := false) rfl (by kernel_rfl) (by kernel_rfl) ?_
      refine J.skip ?_
      refine NN.then ?_
      refine J.seq ?_
      refine J.plain ?_
      refine LL.op (.pointer (some ⟨g10, 1, none⟩)) (by kernel_rfl) (fun w _ => by kernel_rfl) ?_
      refine LL.op (.int .i64 a0_1) (by kernel_rfl) (ld 0 g10 1 rfl (by kernel_rfl) rfl (by kernel_rfl)) ?_
      refine LL.op (.pointer (some ⟨g10, 0, none⟩)) (by kernel_rfl) (fun w _ => by kernel_rfl) ?_
      refine LL.op (.int .i64 a0_0) (by kernel_rfl) (ld 0 g10 0 rfl (by kernel_rfl) rfl (by kernel_rfl)) ?_
      refine LL.op (.int .i64 (IntKind.i64.wrap (a0_1 - a0_0))) (by kernel_rfl) (fun w _ => by kernel_rfl) ?_
      refine LL.op (.int .i64 (IntKind.i64.wrap (a0_1 - a0_0))) (by kernel_rfl) (fun w _ => by kernel_rfl) ?_
      refine LL.done (s' := [(2, .int .i64 (IntKind.i64.wrap (a0_1 - a0_0)))]) [2] (by kernel_rfl) ?_
      refine NN.then ?_
      refine J.ret ?_
      refine NN.fin1 2 (.int .i64 (IntKind.i64.wrap (a0_1 - a0_0))) (by kernel_rfl) (by kernel_rfl) (.inl rfl) (fun w hi => hi.ret ?_)
      first | (cases H; rfl) | (obtain rfl := Option.some.inj H; rfl) | (simp only [Option.some.injEq, Prod.mk.injEq] at H; obtain ⟨rfl⟩ := H; rfl)

/-! ### span_Meet: function 72 -/
def span_Meet.f (a0_0 : Int) (a0_1 : Int) (a1_0 : Int) (a1_1 : Int) : Option (Int × Int) := (span_empty.f a0_0 a0_1).bind fun x19 => (if x19 = true then (some (0, 0)) else ((span_empty.f a1_0 a1_1).bind fun x21 => (if x21 = true then (some (0, 0)) else ((span_empty.f (mx a0_0 a1_0) (mn a0_1 a1_1)).bind fun x23 => (if x23 = true then (some (0, 0)) else (some (mx a0_0 a1_0, mn a0_1 a1_1)))))))
set_option maxRecDepth 100000 in
theorem span_Meet.calls (a0_0 : Int) (a0_1 : Int) (a1_0 : Int) (a1_1 : Int)    (r1 : Int) (r2 : Int) (w : World)    (h : span_Meet.f a0_0 a0_1 a1_0 a1_1 = some (r1, r2)) :
    Calls Try.prog 72 #[.agg #[.int .i64 a0_0, .int .i64 a0_1], .agg #[.int .i64 a1_0, .int .i64 a1_1]] w (Ret w (.agg #[.int .i64 r1, .int .i64 r2])) := by
  have H := h
  clear h
  unfold span_Meet.f at H
  refine Go.Saw.calls (args := [.agg #[.int .i64 a0_0, .int .i64 a0_1], .agg #[.int .i64 a1_0, .int .i64 a1_1]]) Try.func72 rfl Try.ntmps72 (by kernel_rfl) ?_
  refine J.seq ?_
  refine J.plain ?_
  refine LL.box 23 (.tmp 0) [.int .i64 a0_0, .int .i64 a0_1] (by kernel_rfl) rfl (by kernel_rfl) (fun g15 => ?_)
  refine LL.box 23 (.tmp 1) [.int .i64 a1_0, .int .i64 a1_1] (by kernel_rfl) rfl (by kernel_rfl) (fun g16 => ?_)
  refine LL.alloc 23 [.int .i64 0, .int .i64 0] (by kernel_rfl) rfl (by kernel_rfl) (fun g17 => ?_)
  refine LL.done (s' := [(2, .pointer (some ⟨g15, 0, none⟩)), (3, .pointer (some ⟨g16, 0, none⟩)), (4, .pointer (some ⟨g17, 0, none⟩))]) [2, 3, 4] (by kernel_rfl) ?_
  refine NN.then ?_
  refine J.seq ?_
  refine J.plain ?_
  refine LL.op (.pointer (some ⟨g15, 0, none⟩)) (by kernel_rfl) (fun w _ => by kernel_rfl) ?_
  refine LL.op (.int .i64 a0_0) (by kernel_rfl) (ld 2 g15 0 rfl (by kernel_rfl) rfl (by kernel_rfl)) ?_
  refine LL.op (.pointer (some ⟨g16, 0, none⟩)) (by kernel_rfl) (fun w _ => by kernel_rfl) ?_
  refine LL.op (.int .i64 a1_0) (by kernel_rfl) (ld 1 g16 0 rfl (by kernel_rfl) rfl (by kernel_rfl)) ?_
  refine LL.op (.int .i64 (mx a0_0 a1_0)) (by kernel_rfl) (fun w _ => by kernel_rfl) ?_
  refine LL.op (.pointer (some ⟨g15, 1, none⟩)) (by kernel_rfl) (fun w _ => by kernel_rfl) ?_
  refine LL.op (.int .i64 a0_1) (by kernel_rfl) (ld 2 g15 1 rfl (by kernel_rfl) rfl (by kernel_rfl)) ?_
  refine LL.op (.pointer (some ⟨g16, 1, none⟩)) (by kernel_rfl) (fun w _ => by kernel_rfl) ?_
  refine LL.op (.int .i64 a1_1) (by kernel_rfl) (ld 1 g16 1 rfl (by kernel_rfl) rfl (by kernel_rfl)) ?_
  refine LL.op (.int .i64 (mn a0_1 a1_1)) (by kernel_rfl) (fun w _ => by kernel_rfl) ?_
  refine LL.op (.agg #[.int .i64 (mx a0_0 a1_0), .int .i64 (mn a0_1 a1_1)]) (by kernel_rfl) (fun w _ => by kernel_rfl) ?_
  refine LL.alloc 23 [.int .i64 0, .int .i64 0] (by kernel_rfl) rfl (by kernel_rfl) (fun g18 => ?_)
  refine LL.store 0 g18 0 23 (.tmp 5) (.tmp 16) [.int .i64 (mx a0_0 a1_0), .int .i64 (mn a0_1 a1_1)] (bs' := [(g18, cl [.int .i64 (mx a0_0 a1_0), .int .i64 (mn a0_1 a1_1)] 23), (g17, cl [.int .i64 0, .int .i64 0] 23), (g16, cl [.int .i64 a1_0, .int .i64 a1_1] 23), (g15, cl [.int .i64 a0_0, .int .i64 a0_1] 23)]) rfl (by kernel_rfl) rfl (by kernel_rfl) rfl (by kernel_rfl) ?_
  refine LL.done (s' := [(2, .pointer (some ⟨g15, 0, none⟩)), (3, .pointer (some ⟨g16, 0, none⟩)), (4, .pointer (some ⟨g17, 0, none⟩)), (5, .pointer (some ⟨g18, 0, none⟩))]) [2, 3, 4, 5] (by kernel_rfl) ?_
  refine NN.then ?_
  refine J.seq ?_
  refine J.seq ?_
  refine J.plain ?_
  refine LL.op (.agg #[.int .i64 a0_0, .int .i64 a0_1]) (by kernel_rfl) (ld 3 g15 0 rfl (by kernel_rfl) rfl (by kernel_rfl)) ?_
  obtain ⟨x19, hx19, H⟩ := bind_some H
  refine LL.call 78 #[.agg #[.int .i64 a0_0, .int .i64 a0_1]] (.bool x19) (by kernel_rfl) (fun w => by kernel_rfl) (fun w hw => span_empty.calls a0_0 a0_1   _ w   hx19) ?_
  refine LL.op (.bool x19) (by kernel_rfl) (fun w _ => by kernel_rfl) ?_
  rcases Bool.eq_false_or_eq_true (x19) with c20 | c20
  · rw [if_pos (c20)] at H
    refine LL.bool 19 (x19) true c20 (by kernel_rfl) ?_
    refine LL.off (by kernel_rfl) (by kernel_rfl) ?_
    refine LL.off (by kernel_rfl) (by kernel_rfl) ?_
    refine LL.op (.bool true) (by kernel_rfl) (fun w _ => by kernel_rfl) ?_
    refine LL.op (.bool true) (by kernel_rfl) (fun w _ => by kernel_rfl) ?_
    refine LL.off (by kernel_rfl) (by kernel_rfl) ?_
    refine LL.off (by kernel_rfl) (by kernel_rfl) ?_
    refine LL.op (.bool true) (by kernel_rfl) (fun w _ => by kernel_rfl) ?_
    refine LL.done (s' := [(4, .pointer (some ⟨g17, 0, none⟩)), (5, .pointer (some ⟨g18, 0, none⟩)), (26, .bool true)]) [4, 5, 26] (by kernel_rfl) ?_
    refine NN.then ?_
    refine J.condT (b := true) rfl (by kernel_rfl) (by kernel_rfl) ?_
    refine J.seq ?_
    refine J.plain ?_
    refine LL.op (.agg #[.int .i64 0, .int .i64 0]) (by kernel_rfl) (fun w _ => by kernel_rfl) ?_
    refine LL.store 1 g17 0 23 (.tmp 4) (.tmp 27) [.int .i64 0, .int .i64 0] (bs' := [(g18, cl [.int .i64 (mx a0_0 a1_0), .int .i64 (mn a0_1 a1_1)] 23), (g17, cl [.int .i64 0, .int .i64 0] 23), (g16, cl [.int .i64 a1_0, .int .i64 a1_1] 23), (g15, cl [.int .i64 a0_0, .int .i64 a0_1] 23)]) rfl (by kernel_rfl) rfl (by kernel_rfl) rfl (by kernel_rfl) ?_
    refine LL.done (s' := [(4, .pointer (some ⟨g17, 0, none⟩)), (5, .pointer (some ⟨g18, 0, none⟩))]) [4, 5] (by kernel_rfl) ?_
    refine NN.then ?_
    refine J.ret ?_
    refine NN.then_ret ?_
    refine NN.finV (.agg #[.int .i64 0, .int .i64 0]) (.inl rfl) ?_ (fun w hi => hi.ret ?_)
    · exact resOk_1 (by kernel_rfl) (.cell (d := 4) (t := 23) 1 g17 0 (by kernel_rfl) rfl (by kernel_rfl))
    first | (cases H; rfl) | (obtain rfl := Option.some.inj H; rfl) | (simp only [Option.some.injEq, Prod.mk.injEq] at H; obtain ⟨rfl, rfl⟩ := H; rfl)
  · rw [if_neg (nebt c20)] at H
    refine LL.bool 19 (x19) false c20 (by kernel_rfl) ?_
    refine LL.op (.agg #[.int .i64 a1_0, .int .i64 a1_1]) (by kernel_rfl) (ld 2 g16 0 rfl (by kernel_rfl) rfl (by kernel_rfl)) ?_
    obtain ⟨x21, hx21, H⟩ := bind_some H
    refine LL.call 78 #[.agg #[.int .i64 a1_0, .int .i64 a1_1]] (.bool x21) (by kernel_rfl) (fun w => by kernel_rfl) (fun w hw => span_empty.calls a1_0 a1_1   _ w   hx21) ?_
    refine LL.op (.bool x21) (by kernel_rfl) (fun w _ => by kernel_rfl) ?_
    refine LL.op (.bool x21) (by kernel_rfl) (fun w _ => by kernel_rfl) ?_
    rcases Bool.eq_false_or_eq_true (x21) with c22 | c22
    · rw [if_pos (c22)] at H
      refine LL.bool 23 (x21) true c22 (by kernel_rfl) ?_
      refine LL.off (by kernel_rfl) (by kernel_rfl) ?_
      refine LL.off (by kernel_rfl) (by kernel_rfl) ?_
      refine LL.op (.bool true) (by kernel_rfl) (fun w _ => by kernel_rfl) ?_
      refine LL.done (s' := [(4, .pointer (some ⟨g17, 0, none⟩)), (5, .pointer (some ⟨g18, 0, none⟩)), (26, .bool true)]) [4, 5, 26] (by kernel_rfl) ?_
      refine NN.then ?_
      refine J.condT (b := true) rfl (by kernel_rfl) (by kernel_rfl) ?_
      refine J.seq ?_
      refine J.plain ?_
      refine LL.op (.agg #[.int .i64 0, .int .i64 0]) (by kernel_rfl) (fun w _ => by kernel_rfl) ?_
      refine LL.store 1 g17 0 23 (.tmp 4) (.tmp 27) [.int .i64 0, .int .i64 0] (bs' := [(g18, cl [.int .i64 (mx a0_0 a1_0), .int .i64 (mn a0_1 a1_1)] 23), (g17, cl [.int .i64 0, .int .i64 0] 23), (g16, cl [.int .i64 a1_0, .int .i64 a1_1] 23), (g15, cl [.int .i64 a0_0, .int .i64 a0_1] 23)]) rfl (by kernel_rfl) rfl (by kernel_rfl) rfl (by kernel_rfl) ?_
      refine LL.done (s' := [(4, .pointer (some ⟨g17, 0, none⟩)), (5, .pointer (some ⟨g18, 0, none⟩))]) [4, 5] (by kernel_rfl) ?_
      refine NN.then ?_
      refine J.ret ?_
      refine NN.then_ret ?_
      refine NN.finV (.agg #[.int .i64 0, .int .i64 0]) (.inl rfl) ?_ (fun w hi => hi.ret ?_)
      · exact resOk_1 (by kernel_rfl) (.cell (d := 4) (t := 23) 1 g17 0 (by kernel_rfl) rfl (by kernel_rfl))
      first | (cases H; rfl) | (obtain rfl := Option.some.inj H; rfl) | (simp only [Option.some.injEq, Prod.mk.injEq] at H; obtain ⟨rfl, rfl⟩ := H; rfl)
    · rw [if_neg (nebt c22)] at H
      refine LL.bool 23 (x21) false c22 (by kernel_rfl) ?_
      refine LL.op (.agg #[.int .i64 (mx a0_0 a1_0), .int .i64 (mn a0_1 a1_1)]) (by kernel_rfl) (ld 0 g18 0 rfl (by kernel_rfl) rfl (by kernel_rfl)) ?_
      obtain ⟨x23, hx23, H⟩ := bind_some H
      refine LL.call 78 #[.agg #[.int .i64 (mx a0_0 a1_0), .int .i64 (mn a0_1 a1_1)]] (.bool x23) (by kernel_rfl) (fun w => by kernel_rfl) (fun w hw => span_empty.calls (mx a0_0 a1_0) (mn a0_1 a1_1)   _ w   hx23) ?_
      refine LL.op (.bool x23) (by kernel_rfl) (fun w _ => by kernel_rfl) ?_
      refine LL.done (s' := [(4, .pointer (some ⟨g17, 0, none⟩)), (5, .pointer (some ⟨g18, 0, none⟩)), (26, .bool x23)]) [4, 5, 26] (by kernel_rfl) ?_
      refine NN.then ?_
      rcases Bool.eq_false_or_eq_true (x23) with c24 | c24
      · rw [if_pos (c24)] at H
        refine J.condT (b := x23) c24 (by kernel_rfl) (by kernel_rfl) ?_
        refine J.seq ?_
        refine J.plain ?_
        refine LL.op (.agg #[.int .i64 0, .int .i64 0]) (by kernel_rfl) (fun w _ => by kernel_rfl) ?_
        refine LL.store 1 g17 0 23 (.tmp 4) (.tmp 27) [.int .i64 0, .int .i64 0] (bs' := [(g18, cl [.int .i64 (mx a0_0 a1_0), .int .i64 (mn a0_1 a1_1)] 23), (g17, cl [.int .i64 0, .int .i64 0] 23), (g16, cl [.int .i64 a1_0, .int .i64 a1_1] 23), (g15, cl [.int .i64 a0_0, .int .i64 a0_1] 23)]) rfl (by kernel_rfl) rfl (by kernel_rfl) rfl (by kernel_rfl) ?_
        refine LL.done (s' := [(4, .pointer (some ⟨g17, 0, none⟩)), (5, .pointer (some ⟨g18, 0, none⟩))]) [4, 5] (by kernel_rfl) ?_
        refine NN.then ?_
        refine J.ret ?_
        refine NN.then_ret ?_
        refine NN.finV (.agg #[.int .i64 0, .int .i64 0]) (.inl rfl) ?_ (fun w hi => hi.ret ?_)
        · exact resOk_1 (by kernel_rfl) (.cell (d := 4) (t := 23) 1 g17 0 (by kernel_rfl) rfl (by kernel_rfl))
        first | (cases H; rfl) | (obtain rfl := Option.some.inj H; rfl) | (simp only [Option.some.injEq, Prod.mk.injEq] at H; obtain ⟨rfl, rfl⟩ := H; rfl)
      · rw [if_neg (nebt c24)] at H
        refine J.condF (b := x23) c24 (by kernel_rfl) (by kernel_rfl) ?_
        refine J.skip ?_
        refine NN.then ?_
        refine J.seq ?_
        refine J.plain ?_
        refine LL.op (.agg #[.int .i64 (mx a0_0 a1_0), .int .i64 (mn a0_1 a1_1)]) (by kernel_rfl) (ld 0 g18 0 rfl (by kernel_rfl) rfl (by kernel_rfl)) ?_
        refine LL.store 1 g17 0 23 (.tmp 4) (.tmp 28) [.int .i64 (mx a0_0 a1_0), .int .i64 (mn a0_1 a1_1)] (bs' := [(g18, cl [.int .i64 (mx a0_0 a1_0), .int .i64 (mn a0_1 a1_1)] 23), (g17, cl [.int .i64 (mx a0_0 a1_0), .int .i64 (mn a0_1 a1_1)] 23), (g16, cl [.int .i64 a1_0, .int .i64 a1_1] 23), (g15, cl [.int .i64 a0_0, .int .i64 a0_1] 23)]) rfl (by kernel_rfl) rfl (by kernel_rfl) rfl (by kernel_rfl) ?_
        refine LL.done (s' := [(4, .pointer (some ⟨g17, 0, none⟩))]) [4] (by kernel_rfl) ?_
        refine NN.then ?_
        refine J.ret ?_
        refine NN.finV (.agg #[.int .i64 (mx a0_0 a1_0), .int .i64 (mn a0_1 a1_1)]) (.inl rfl) ?_ (fun w hi => hi.ret ?_)
        · exact resOk_1 (by kernel_rfl) (.cell (d := 4) (t := 23) 1 g17 0 (by kernel_rfl) rfl (by kernel_rfl))
        first | (cases H; rfl) | (obtain rfl := Option.some.inj H; rfl) | (simp only [Option.some.injEq, Prod.mk.injEq] at H; obtain ⟨rfl, rfl⟩ := H; rfl)

/-! ### sawmillref03_Len: function 28 -/
def sawmillref03_Len.f (a0_0 : Int) (a0_1 : Int) : Option (Int) := if a0_1 ≤ a0_0 then (some 0) else (if a0_0 < 0 then (if (IntKind.i64.wrap (9223372036854775807 + a0_0)) < a0_1 then (some 9223372036854775807) else (some (IntKind.i64.wrap (a0_1 - a0_0)))) else (some (IntKind.i64.wrap (a0_1 - a0_0))))
set_option maxRecDepth 100000 in
theorem sawmillref03_Len.calls (a0_0 : Int) (a0_1 : Int)    (r1 : Int) (w : World)    (h : sawmillref03_Len.f a0_0 a0_1 = some r1) :
    Calls Try.prog 28 #[.agg #[.int .i64 a0_0, .int .i64 a0_1]] w (Ret w (.int .i64 r1)) := by
  have H := h
  clear h
  unfold sawmillref03_Len.f at H
  refine Go.Saw.calls (args := [.agg #[.int .i64 a0_0, .int .i64 a0_1]]) Try.func28 rfl Try.ntmps28 (by kernel_rfl) ?_
  refine J.seq ?_
  refine J.plain ?_
  refine LL.box 23 (.tmp 0) [.int .i64 a0_0, .int .i64 a0_1] (by kernel_rfl) rfl (by kernel_rfl) (fun g25 => ?_)
  refine LL.op (.int .i64 0) (by kernel_rfl) (fun w _ => by kernel_rfl) ?_
  refine LL.done (s' := [(1, .pointer (some ⟨g25, 0, none⟩)), (2, .int .i64 0)]) [1, 2] (by kernel_rfl) ?_
  refine NN.then ?_
  refine J.seq ?_
  refine J.seq ?_
  refine J.plain ?_
  refine LL.op (.pointer (some ⟨g25, 0, none⟩)) (by kernel_rfl) (fun w _ => by kernel_rfl) ?_
  refine LL.op (.int .i64 a0_0) (by kernel_rfl) (ld 0 g25 0 rfl (by kernel_rfl) rfl (by kernel_rfl)) ?_
  refine LL.op (.pointer (some ⟨g25, 1, none⟩)) (by kernel_rfl) (fun w _ => by kernel_rfl) ?_
  refine LL.op (.int .i64 a0_1) (by kernel_rfl) (ld 0 g25 1 rfl (by kernel_rfl) rfl (by kernel_rfl)) ?_
  refine LL.op (.bool (decide (a0_1 ≤ a0_0))) (by kernel_rfl) (fun w _ => by kernel_rfl) ?_
  refine LL.done (s' := [(1, .pointer (some ⟨g25, 0, none⟩)), (2, .int .i64 0), (7, .bool (decide (a0_1 ≤ a0_0)))]) [1, 2, 7] (by kernel_rfl) ?_
  refine NN.then ?_
  rcases Bool.eq_false_or_eq_true (decide (a0_1 ≤ a0_0)) with c26 | c26
  · rw [if_pos (of_decide_eq_true c26)] at H
    refine J.condT (b := decide (a0_1 ≤ a0_0)) c26 (by kernel_rfl) (by kernel_rfl) ?_
    refine J.seq ?_
    refine J.plain ?_
    refine LL.op (.int .i64 0) (by kernel_rfl) (fun w _ => by kernel_rfl) ?_
    refine LL.done (s' := [(1, .pointer (some ⟨g25, 0, none⟩)), (2, .int .i64 0)]) [1, 2] (by kernel_rfl) ?_
    refine NN.then ?_
    refine J.ret ?_
    refine NN.then_ret ?_
    refine NN.fin1 2 (.int .i64 0) (by kernel_rfl) (by kernel_rfl) (.inl rfl) (fun w hi => hi.ret ?_)
    first | (cases H; rfl) | (obtain rfl := Option.some.inj H; rfl) | (simp only [Option.some.injEq, Prod.mk.injEq] at H; obtain ⟨rfl⟩ := H; rfl)
  · rw [if_neg (of_decide_eq_false c26)] at H
    refine J.condF (b := decide (a0_1 ≤ a0_0)) c26 (by kernel_rfl) (by kernel_rfl) ?_
    refine J.skip ?_
    refine NN.then ?_
    refine J.seq ?_
    refine J.seq ?_
    refine J.plain ?_
    refine LL.op (.pointer (some ⟨g25, 0, none⟩)) (by kernel_rfl) (fun w _ => by kernel_rfl) ?_
    refine LL.op (.int .i64 a0_0) (by kernel_rfl) (ld 0 g25 0 rfl (by kernel_rfl) rfl (by kernel_rfl)) ?_
    refine LL.op (.bool (decide (a0_0 < 0))) (by kernel_rfl) (fun w _ => by kernel_rfl) ?_
    refine LL.op (.bool (decide (a0_0 < 0))) (by kernel_rfl) (fun w _ => by kernel_rfl) ?_
    rcases Bool.eq_false_or_eq_true (decide (a0_0 < 0)) with c27 | c27
    · rw [if_pos (of_decide_eq_true c27)] at H
      refine LL.bool 11 (decide (a0_0 < 0)) true c27 (by kernel_rfl) ?_
      refine LL.op (.pointer (some ⟨g25, 1, none⟩)) (by kernel_rfl) (fun w _ => by kernel_rfl) ?_
      refine LL.op (.int .i64 a0_1) (by kernel_rfl) (ld 0 g25 1 rfl (by kernel_rfl) rfl (by kernel_rfl)) ?_
      refine LL.op (.pointer (some ⟨g25, 0, none⟩)) (by kernel_rfl) (fun w _ => by kernel_rfl) ?_
      refine LL.op (.int .i64 a0_0) (by kernel_rfl) (ld 0 g25 0 rfl (by kernel_rfl) rfl (by kernel_rfl)) ?_
      refine LL.op (.int .i64 (IntKind.i64.wrap (9223372036854775807 + a0_0))) (by kernel_rfl) (fun w _ => by kernel_rfl) ?_
      refine LL.op (.bool (decide ((IntKind.i64.wrap (9223372036854775807 + a0_0)) < a0_1))) (by kernel_rfl) (fun w _ => by kernel_rfl) ?_
      refine LL.op (.bool (decide ((IntKind.i64.wrap (9223372036854775807 + a0_0)) < a0_1))) (by kernel_rfl) (fun w _ => by kernel_rfl) ?_
      refine LL.done (s' := [(1, .pointer (some ⟨g25, 0, none⟩)), (2, .int .i64 0), (18, .bool (decide ((IntKind.i64.wrap (9223372036854775807 + a0_0)) < a0_1)))]) [1, 2, 18] (by kernel_rfl) ?_
      refine NN.then ?_
      rcases Bool.eq_false_or_eq_true (decide ((IntKind.i64.wrap (9223372036854775807 + a0_0)) < a0_1)) with c28 | c28
      · rw [if_pos (of_decide_eq_true c28)] at H
        refine J.condT (b := decide ((IntKind.i64.wrap (9223372036854775807 + a0_0)) < a0_1)) c28 (by kernel_rfl) (by kernel_rfl) ?_
        refine J.seq ?_
        refine J.plain ?_
        refine LL.op (.int .i64 9223372036854775807) (by kernel_rfl) (fun w _ => by kernel_rfl) ?_
        refine LL.done (s' := [(1, .pointer (some ⟨g25, 0, none⟩)), (2, .int .i64 9223372036854775807)]) [1, 2] (by kernel_rfl) ?_
        refine NN.then ?_
        refine J.ret ?_
        refine NN.then_ret ?_
        refine NN.fin1 2 (.int .i64 9223372036854775807) (by kernel_rfl) (by kernel_rfl) (.inl rfl) (fun w hi => hi.ret ?_)
        first | (cases H; rfl) | (obtain rfl := Option.some.inj H; rfl) | (simp only [Option.some.injEq, Prod.mk.injEq] at H; obtain ⟨rfl⟩ := H; rfl)
      · rw [if_neg (of_decide_eq_false c28)] at H
        refine J.condF (b := decide ((IntKind.i64.wrap (9223372036854775807 + a0_0)) < a0_1)) c28 (by kernel_rfl) (by kernel_rfl) ?_
        refine J.skip ?_
        refine NN.then ?_
        refine J.seq ?_
        refine J.plain ?_
        refine LL.op (.pointer (some ⟨g25, 1, none⟩)) (by kernel_rfl) (fun w _ => by kernel_rfl) ?_
        refine LL.op (.int .i64 a0_1) (by kernel_rfl) (ld 0 g25 1 rfl (by kernel_rfl) rfl (by kernel_rfl)) ?_
        refine LL.op (.pointer (some ⟨g25, 0, none⟩)) (by kernel_rfl) (fun w _ => by kernel_rfl) ?_
        refine LL.op (.int .i64 a0_0) (by kernel_rfl) (ld 0 g25 0 rfl (by kernel_rfl) rfl (by kernel_rfl)) ?_
        refine LL.op (.int .i64 (IntKind.i64.wrap (a0_1 - a0_0))) (by kernel_rfl) (fun w _ => by kernel_rfl) ?_
        refine LL.op (.int .i64 (IntKind.i64.wrap (a0_1 - a0_0))) (by kernel_rfl) (fun w _ => by kernel_rfl) ?_
        refine LL.done (s' := [(2, .int .i64 (IntKind.i64.wrap (a0_1 - a0_0)))]) [2] (by kernel_rfl) ?_
        refine NN.then ?_
        refine J.ret ?_
        refine NN.fin1 2 (.int .i64 (IntKind.i64.wrap (a0_1 - a0_0))) (by kernel_rfl) (by kernel_rfl) (.inl rfl) (fun w hi => hi.ret ?_)
        first | (cases H; rfl) | (obtain rfl := Option.some.inj H; rfl) | (simp only [Option.some.injEq, Prod.mk.injEq] at H; obtain ⟨rfl⟩ := H; rfl)
    · rw [if_neg (of_decide_eq_false c27)] at H
      refine LL.bool 11 (decide (a0_0 < 0)) false c27 (by kernel_rfl) ?_
      refine LL.off (by kernel_rfl) (by kernel_rfl) ?_
      refine LL.off (by kernel_rfl) (by kernel_rfl) ?_
      refine LL.off (by kernel_rfl) (by kernel_rfl) ?_
      refine LL.off (by kernel_rfl) (by kernel_rfl) ?_
      refine LL.off (by kernel_rfl) (by kernel_rfl) ?_
      refine LL.off (by kernel_rfl) (by kernel_rfl) ?_
      refine LL.op (.bool false) (by kernel_rfl) (fun w _ => by kernel_rfl) ?_
      refine LL.done (s' := [(1, .pointer (some ⟨g25, 0, none⟩)), (2, .int .i64 0), (18, .bool false)]) [1, 2, 18] (by kernel_rfl) ?_
      refine NN.then ?_
      refine J.condF (b := false) rfl (by kernel_rfl) (by kernel_rfl) ?_
      refine J.skip ?_
      refine NN.then ?_
      refine J.seq ?_
      refine J.plain ?_
      refine LL.op (.pointer (some ⟨g25, 1, none⟩)) (by kernel_rfl) (fun w _ => by kernel_rfl) ?_
      refine LL.op (.int .i64 a0_1) (by kernel_rfl) (ld 0 g25 1 rfl (by kernel_rfl) rfl (by kernel_rfl)) ?_
      refine LL.op (.pointer (some ⟨g25, 0, none⟩)) (by kernel_rfl) (fun w _ => by kernel_rfl) ?_
      refine LL.op (.int .i64 a0_0) (by kernel_rfl) (ld 0 g25 0 rfl (by kernel_rfl) rfl (by kernel_rfl)) ?_
      refine LL.op (.int .i64 (IntKind.i64.wrap (a0_1 - a0_0))) (by kernel_rfl) (fun w _ => by kernel_rfl) ?_
      refine LL.op (.int .i64 (IntKind.i64.wrap (a0_1 - a0_0))) (by kernel_rfl) (fun w _ => by kernel_rfl) ?_
      refine LL.done (s' := [(2, .int .i64 (IntKind.i64.wrap (a0_1 - a0_0)))]) [2] (by kernel_rfl) ?_
      refine NN.then ?_
      refine J.ret ?_
      refine NN.fin1 2 (.int .i64 (IntKind.i64.wrap (a0_1 - a0_0))) (by kernel_rfl) (by kernel_rfl) (.inl rfl) (fun w hi => hi.ret ?_)
      first | (cases H; rfl) | (obtain rfl := Option.some.inj H; rfl) | (simp only [Option.some.injEq, Prod.mk.injEq] at H; obtain ⟨rfl⟩ := H; rfl)

/-! ### sawmillref03_Meet: function 74 -/
def sawmillref03_Meet.f (a0_0 : Int) (a0_1 : Int) (a1_0 : Int) (a1_1 : Int) : Option (Int × Int) := if (mn a0_1 a1_1) ≤ (mx a0_0 a1_0) then (some (0, 0)) else (some (mx a0_0 a1_0, mn a0_1 a1_1))
set_option maxRecDepth 100000 in
theorem sawmillref03_Meet.calls (a0_0 : Int) (a0_1 : Int) (a1_0 : Int) (a1_1 : Int)    (r1 : Int) (r2 : Int) (w : World)    (h : sawmillref03_Meet.f a0_0 a0_1 a1_0 a1_1 = some (r1, r2)) :
    Calls Try.prog 74 #[.agg #[.int .i64 a0_0, .int .i64 a0_1], .agg #[.int .i64 a1_0, .int .i64 a1_1]] w (Ret w (.agg #[.int .i64 r1, .int .i64 r2])) := by
  have H := h
  clear h
  unfold sawmillref03_Meet.f at H
  refine Go.Saw.calls (args := [.agg #[.int .i64 a0_0, .int .i64 a0_1], .agg #[.int .i64 a1_0, .int .i64 a1_1]]) Try.func74 rfl Try.ntmps74 (by kernel_rfl) ?_
  refine J.seq ?_
  refine J.plain ?_
  refine LL.box 23 (.tmp 0) [.int .i64 a0_0, .int .i64 a0_1] (by kernel_rfl) rfl (by kernel_rfl) (fun g29 => ?_)
  refine LL.box 23 (.tmp 1) [.int .i64 a1_0, .int .i64 a1_1] (by kernel_rfl) rfl (by kernel_rfl) (fun g30 => ?_)
  refine LL.alloc 23 [.int .i64 0, .int .i64 0] (by kernel_rfl) rfl (by kernel_rfl) (fun g31 => ?_)
  refine LL.done (s' := [(2, .pointer (some ⟨g29, 0, none⟩)), (3, .pointer (some ⟨g30, 0, none⟩)), (4, .pointer (some ⟨g31, 0, none⟩))]) [2, 3, 4] (by kernel_rfl) ?_
  refine NN.then ?_
  refine J.seq ?_
  refine J.plain ?_
  refine LL.op (.pointer (some ⟨g29, 0, none⟩)) (by kernel_rfl) (fun w _ => by kernel_rfl) ?_
  refine LL.op (.int .i64 a0_0) (by kernel_rfl) (ld 2 g29 0 rfl (by kernel_rfl) rfl (by kernel_rfl)) ?_
  refine LL.op (.pointer (some ⟨g30, 0, none⟩)) (by kernel_rfl) (fun w _ => by kernel_rfl) ?_
  refine LL.op (.int .i64 a1_0) (by kernel_rfl) (ld 1 g30 0 rfl (by kernel_rfl) rfl (by kernel_rfl)) ?_
  refine LL.op (.int .i64 (mx a0_0 a1_0)) (by kernel_rfl) (fun w _ => by kernel_rfl) ?_
  refine LL.op (.pointer (some ⟨g29, 1, none⟩)) (by kernel_rfl) (fun w _ => by kernel_rfl) ?_
  refine LL.op (.int .i64 a0_1) (by kernel_rfl) (ld 2 g29 1 rfl (by kernel_rfl) rfl (by kernel_rfl)) ?_
  refine LL.op (.pointer (some ⟨g30, 1, none⟩)) (by kernel_rfl) (fun w _ => by kernel_rfl) ?_
  refine LL.op (.int .i64 a1_1) (by kernel_rfl) (ld 1 g30 1 rfl (by kernel_rfl) rfl (by kernel_rfl)) ?_
  refine LL.op (.int .i64 (mn a0_1 a1_1)) (by kernel_rfl) (fun w _ => by kernel_rfl) ?_
  refine LL.op (.agg #[.int .i64 (mx a0_0 a1_0), .int .i64 (mn a0_1 a1_1)]) (by kernel_rfl) (fun w _ => by kernel_rfl) ?_
  refine LL.alloc 23 [.int .i64 0, .int .i64 0] (by kernel_rfl) rfl (by kernel_rfl) (fun g32 => ?_)
  refine LL.store 0 g32 0 23 (.tmp 5) (.tmp 16) [.int .i64 (mx a0_0 a1_0), .int .i64 (mn a0_1 a1_1)] (bs' := [(g32, cl [.int .i64 (mx a0_0 a1_0), .int .i64 (mn a0_1 a1_1)] 23), (g31, cl [.int .i64 0, .int .i64 0] 23), (g30, cl [.int .i64 a1_0, .int .i64 a1_1] 23), (g29, cl [.int .i64 a0_0, .int .i64 a0_1] 23)]) rfl (by kernel_rfl) rfl (by kernel_rfl) rfl (by kernel_rfl) ?_
  refine LL.done (s' := [(4, .pointer (some ⟨g31, 0, none⟩)), (5, .pointer (some ⟨g32, 0, none⟩))]) [4, 5] (by kernel_rfl) ?_
  refine NN.then ?_
  refine J.seq ?_
  refine J.seq ?_
  refine J.plain ?_
  refine LL.op (.pointer (some ⟨g32, 0, none⟩)) (by kernel_rfl) (fun w _ => by kernel_rfl) ?_
  refine LL.op (.int .i64 (mx a0_0 a1_0)) (by kernel_rfl) (ld 0 g32 0 rfl (by kernel_rfl) rfl (by kernel_rfl)) ?_
  refine LL.op (.pointer (some ⟨g32, 1, none⟩)) (by kernel_rfl) (fun w _ => by kernel_rfl) ?_
  refine LL.op (.int .i64 (mn a0_1 a1_1)) (by kernel_rfl) (ld 0 g32 1 rfl (by kernel_rfl) rfl (by kernel_rfl)) ?_
  refine LL.op (.bool (decide ((mn a0_1 a1_1) ≤ (mx a0_0 a1_0)))) (by kernel_rfl) (fun w _ => by kernel_rfl) ?_
  refine LL.done (s' := [(4, .pointer (some ⟨g31, 0, none⟩)), (5, .pointer (some ⟨g32, 0, none⟩)), (21, .bool (decide ((mn a0_1 a1_1) ≤ (mx a0_0 a1_0))))]) [4, 5, 21] (by kernel_rfl) ?_
  refine NN.then ?_
  rcases Bool.eq_false_or_eq_true (decide ((mn a0_1 a1_1) ≤ (mx a0_0 a1_0))) with c33 | c33
  · rw [if_pos (of_decide_eq_true c33)] at H
    refine J.condT (b := decide ((mn a0_1 a1_1) ≤ (mx a0_0 a1_0))) c33 (by kernel_rfl) (by kernel_rfl) ?_
    refine J.seq ?_
    refine J.plain ?_
    refine LL.op (.agg #[.int .i64 0, .int .i64 0]) (by kernel_rfl) (fun w _ => by kernel_rfl) ?_
    refine LL.store 1 g31 0 23 (.tmp 4) (.tmp 22) [.int .i64 0, .int .i64 0] (bs' := [(g32, cl [.int .i64 (mx a0_0 a1_0), .int .i64 (mn a0_1 a1_1)] 23), (g31, cl [.int .i64 0, .int .i64 0] 23), (g30, cl [.int .i64 a1_0, .int .i64 a1_1] 23), (g29, cl [.int .i64 a0_0, .int .i64 a0_1] 23)]) rfl (by kernel_rfl) rfl (by kernel_rfl) rfl (by kernel_rfl) ?_
    refine LL.done (s' := [(4, .pointer (some ⟨g31, 0, none⟩)), (5, .pointer (some ⟨g32, 0, none⟩))]) [4, 5] (by kernel_rfl) ?_
    refine NN.then ?_
    refine J.ret ?_
    refine NN.then_ret ?_
    refine NN.finV (.agg #[.int .i64 0, .int .i64 0]) (.inl rfl) ?_ (fun w hi => hi.ret ?_)
    · exact resOk_1 (by kernel_rfl) (.cell (d := 4) (t := 23) 1 g31 0 (by kernel_rfl) rfl (by kernel_rfl))
    first | (cases H; rfl) | (obtain rfl := Option.some.inj H; rfl) | (simp only [Option.some.injEq, Prod.mk.injEq] at H; obtain ⟨rfl, rfl⟩ := H; rfl)
  · rw [if_neg (of_decide_eq_false c33)] at H
    refine J.condF (b := decide ((mn a0_1 a1_1) ≤ (mx a0_0 a1_0))) c33 (by kernel_rfl) (by kernel_rfl) ?_
    refine J.skip ?_
    refine NN.then ?_
    refine J.seq ?_
    refine J.plain ?_
    refine LL.op (.agg #[.int .i64 (mx a0_0 a1_0), .int .i64 (mn a0_1 a1_1)]) (by kernel_rfl) (ld 0 g32 0 rfl (by kernel_rfl) rfl (by kernel_rfl)) ?_
    refine LL.store 1 g31 0 23 (.tmp 4) (.tmp 23) [.int .i64 (mx a0_0 a1_0), .int .i64 (mn a0_1 a1_1)] (bs' := [(g32, cl [.int .i64 (mx a0_0 a1_0), .int .i64 (mn a0_1 a1_1)] 23), (g31, cl [.int .i64 (mx a0_0 a1_0), .int .i64 (mn a0_1 a1_1)] 23), (g30, cl [.int .i64 a1_0, .int .i64 a1_1] 23), (g29, cl [.int .i64 a0_0, .int .i64 a0_1] 23)]) rfl (by kernel_rfl) rfl (by kernel_rfl) rfl (by kernel_rfl) ?_
    refine LL.done (s' := [(4, .pointer (some ⟨g31, 0, none⟩))]) [4] (by kernel_rfl) ?_
    refine NN.then ?_
    refine J.ret ?_
    refine NN.finV (.agg #[.int .i64 (mx a0_0 a1_0), .int .i64 (mn a0_1 a1_1)]) (.inl rfl) ?_ (fun w hi => hi.ret ?_)
    · exact resOk_1 (by kernel_rfl) (.cell (d := 4) (t := 23) 1 g31 0 (by kernel_rfl) rfl (by kernel_rfl))
    first | (cases H; rfl) | (obtain rfl := Option.some.inj H; rfl) | (simp only [Option.some.injEq, Prod.mk.injEq] at H; obtain ⟨rfl, rfl⟩ := H; rfl)

/-! ### defect_Size: function 31 -/
def defect_Size.f (a0_0 : Int) (a0_1 : Int) (a0_2 : Int) (a0_3 : Int) (a0_4 : Int) (a0_5 : Int) (a0_6 : Int) : Option (Int) := (span_Len.f a0_1 a0_2).bind fun x35 => ((span_Len.f a0_3 a0_4).bind fun x36 => (some (mx x35 x36)))
set_option maxRecDepth 100000 in
theorem defect_Size.calls (a0_0 : Int) (a0_1 : Int) (a0_2 : Int) (a0_3 : Int) (a0_4 : Int) (a0_5 : Int) (a0_6 : Int)    (r1 : Int) (w : World)    (h : defect_Size.f a0_0 a0_1 a0_2 a0_3 a0_4 a0_5 a0_6 = some r1) :
    Calls Try.prog 31 #[.agg #[.int .i64 a0_0, .int .i64 a0_1, .int .i64 a0_2, .int .i64 a0_3, .int .i64 a0_4, .int .i64 a0_5, .int .i64 a0_6]] w (Ret w (.int .i64 r1)) := by
  have H := h
  clear h
  unfold defect_Size.f at H
  refine Go.Saw.calls (args := [.agg #[.int .i64 a0_0, .int .i64 a0_1, .int .i64 a0_2, .int .i64 a0_3, .int .i64 a0_4, .int .i64 a0_5, .int .i64 a0_6]]) Try.func31 rfl Try.ntmps31 (by kernel_rfl) ?_
  refine J.seq ?_
  refine J.plain ?_
  refine LL.box 41 (.tmp 0) [.int .i64 a0_0, .int .i64 a0_1, .int .i64 a0_2, .int .i64 a0_3, .int .i64 a0_4, .int .i64 a0_5, .int .i64 a0_6] (by kernel_rfl) rfl (by kernel_rfl) (fun g34 => ?_)
  refine LL.op (.int .i64 0) (by kernel_rfl) (fun w _ => by kernel_rfl) ?_
  refine LL.done (s' := [(1, .pointer (some ⟨g34, 0, none⟩)), (2, .int .i64 0)]) [1, 2] (by kernel_rfl) ?_
  refine NN.then ?_
  refine J.seq ?_
  refine J.drawn follows (by kernel_rfl) ?_
  refine QQ.op (.pointer (some ⟨g34, 1, none⟩)) (by kernel_rfl) (fun w _ => by kernel_rfl) ?_
  refine QQ.op (.pointer (some ⟨g34, 1, none⟩)) (by kernel_rfl) (fun w _ => by kernel_rfl) ?_
  refine QQ.op (.agg #[.int .i64 a0_1, .int .i64 a0_2]) (by kernel_rfl) (ld 0 g34 1 rfl (by kernel_rfl) rfl (by kernel_rfl)) ?_
  obtain ⟨x35, hx35, H⟩ := bind_some H
  refine QQ.call 56 #[.agg #[.int .i64 a0_1, .int .i64 a0_2]] (.int .i64 x35) (by kernel_rfl) (fun w => by kernel_rfl) (fun w hw => span_Len.calls a0_1 a0_2   _ w   hx35) ?_
  refine QQ.op (.pointer (some ⟨g34, 1, none⟩)) (by kernel_rfl) (fun w _ => by kernel_rfl) ?_
  refine QQ.op (.pointer (some ⟨g34, 3, none⟩)) (by kernel_rfl) (fun w _ => by kernel_rfl) ?_
  refine QQ.op (.agg #[.int .i64 a0_3, .int .i64 a0_4]) (by kernel_rfl) (ld 0 g34 3 rfl (by kernel_rfl) rfl (by kernel_rfl)) ?_
  obtain ⟨x36, hx36, H⟩ := bind_some H
  refine QQ.call 56 #[.agg #[.int .i64 a0_3, .int .i64 a0_4]] (.int .i64 x36) (by kernel_rfl) (fun w => by kernel_rfl) (fun w hw => span_Len.calls a0_3 a0_4   _ w   hx36) ?_
  refine QQ.op (.int .i64 (mx x35 x36)) (by kernel_rfl) (fun w _ => by kernel_rfl) ?_
  refine QQ.op (.int .i64 (mx x35 x36)) (by kernel_rfl) (fun w _ => by kernel_rfl) ?_
  refine QQ.done (s' := [(2, .int .i64 (mx x35 x36))]) [2] (by kernel_rfl) ?_
  refine NN.then ?_
  refine J.ret ?_
  refine NN.fin1 2 (.int .i64 (mx x35 x36)) (by kernel_rfl) (by kernel_rfl) (.inl rfl) (fun w hi => hi.ret ?_)
  first | (cases H; rfl) | (obtain rfl := Option.some.inj H; rfl) | (simp only [Option.some.injEq, Prod.mk.injEq] at H; obtain ⟨rfl⟩ := H; rfl)

/-! ### sawmillref13_Size: function 32 -/
def sawmillref13_Size.f (a0_0 : Int) (a0_1 : Int) (a0_2 : Int) (a0_3 : Int) (a0_4 : Int) (a0_5 : Int) (a0_6 : Int) : Option (Int) := (sawmillref03_Len.f a0_1 a0_2).bind fun x38 => ((sawmillref03_Len.f a0_3 a0_4).bind fun x39 => (some (mx x38 x39)))
set_option maxRecDepth 100000 in
theorem sawmillref13_Size.calls (a0_0 : Int) (a0_1 : Int) (a0_2 : Int) (a0_3 : Int) (a0_4 : Int) (a0_5 : Int) (a0_6 : Int)    (r1 : Int) (w : World)    (h : sawmillref13_Size.f a0_0 a0_1 a0_2 a0_3 a0_4 a0_5 a0_6 = some r1) :
    Calls Try.prog 32 #[.agg #[.int .i64 a0_0, .int .i64 a0_1, .int .i64 a0_2, .int .i64 a0_3, .int .i64 a0_4, .int .i64 a0_5, .int .i64 a0_6]] w (Ret w (.int .i64 r1)) := by
  have H := h
  clear h
  unfold sawmillref13_Size.f at H
  refine Go.Saw.calls (args := [.agg #[.int .i64 a0_0, .int .i64 a0_1, .int .i64 a0_2, .int .i64 a0_3, .int .i64 a0_4, .int .i64 a0_5, .int .i64 a0_6]]) Try.func32 rfl Try.ntmps32 (by kernel_rfl) ?_
  refine J.seq ?_
  refine J.plain ?_
  refine LL.box 41 (.tmp 0) [.int .i64 a0_0, .int .i64 a0_1, .int .i64 a0_2, .int .i64 a0_3, .int .i64 a0_4, .int .i64 a0_5, .int .i64 a0_6] (by kernel_rfl) rfl (by kernel_rfl) (fun g37 => ?_)
  refine LL.op (.int .i64 0) (by kernel_rfl) (fun w _ => by kernel_rfl) ?_
  refine LL.done (s' := [(1, .pointer (some ⟨g37, 0, none⟩)), (2, .int .i64 0)]) [1, 2] (by kernel_rfl) ?_
  refine NN.then ?_
  refine J.seq ?_
  refine J.drawn follows (by kernel_rfl) ?_
  refine QQ.op (.pointer (some ⟨g37, 1, none⟩)) (by kernel_rfl) (fun w _ => by kernel_rfl) ?_
  refine QQ.op (.pointer (some ⟨g37, 1, none⟩)) (by kernel_rfl) (fun w _ => by kernel_rfl) ?_
  refine QQ.op (.agg #[.int .i64 a0_1, .int .i64 a0_2]) (by kernel_rfl) (ld 0 g37 1 rfl (by kernel_rfl) rfl (by kernel_rfl)) ?_
  obtain ⟨x38, hx38, H⟩ := bind_some H
  refine QQ.call 28 #[.agg #[.int .i64 a0_1, .int .i64 a0_2]] (.int .i64 x38) (by kernel_rfl) (fun w => by kernel_rfl) (fun w hw => sawmillref03_Len.calls a0_1 a0_2   _ w   hx38) ?_
  refine QQ.op (.pointer (some ⟨g37, 1, none⟩)) (by kernel_rfl) (fun w _ => by kernel_rfl) ?_
  refine QQ.op (.pointer (some ⟨g37, 3, none⟩)) (by kernel_rfl) (fun w _ => by kernel_rfl) ?_
  refine QQ.op (.agg #[.int .i64 a0_3, .int .i64 a0_4]) (by kernel_rfl) (ld 0 g37 3 rfl (by kernel_rfl) rfl (by kernel_rfl)) ?_
  obtain ⟨x39, hx39, H⟩ := bind_some H
  refine QQ.call 28 #[.agg #[.int .i64 a0_3, .int .i64 a0_4]] (.int .i64 x39) (by kernel_rfl) (fun w => by kernel_rfl) (fun w hw => sawmillref03_Len.calls a0_3 a0_4   _ w   hx39) ?_
  refine QQ.op (.int .i64 (mx x38 x39)) (by kernel_rfl) (fun w _ => by kernel_rfl) ?_
  refine QQ.op (.int .i64 (mx x38 x39)) (by kernel_rfl) (fun w _ => by kernel_rfl) ?_
  refine QQ.done (s' := [(2, .int .i64 (mx x38 x39))]) [2] (by kernel_rfl) ?_
  refine NN.then ?_
  refine J.ret ?_
  refine NN.fin1 2 (.int .i64 (mx x38 x39)) (by kernel_rfl) (by kernel_rfl) (.inl rfl) (fun w hi => hi.ret ?_)
  first | (cases H; rfl) | (obtain rfl := Option.some.inj H; rfl) | (simp only [Option.some.injEq, Prod.mk.injEq] at H; obtain ⟨rfl⟩ := H; rfl)

/-! ### defect_axes: function 65 -/
def defect_axes.f (a0_0 : Int) (a0_1 : Int) (a0_2 : Int) (a0_3 : Int) (a0_4 : Int) (a0_5 : Int) : Option (Int × Int × Int × Int × Int × Int) := some (a0_0, a0_1, a0_2, a0_3, a0_4, a0_5)
set_option maxRecDepth 100000 in
theorem defect_axes.calls (a0_0 : Int) (a0_1 : Int) (a0_2 : Int) (a0_3 : Int) (a0_4 : Int) (a0_5 : Int)    (r1 : Int) (r2 : Int) (r3 : Int) (r4 : Int) (r5 : Int) (r6 : Int) (w : World)    (h : defect_axes.f a0_0 a0_1 a0_2 a0_3 a0_4 a0_5 = some (r1, r2, r3, r4, r5, r6)) :
    Calls Try.prog 65 #[.agg #[.int .i64 a0_0, .int .i64 a0_1, .int .i64 a0_2, .int .i64 a0_3, .int .i64 a0_4, .int .i64 a0_5]] w (Ret w (.agg #[.int .i64 r1, .int .i64 r2, .int .i64 r3, .int .i64 r4, .int .i64 r5, .int .i64 r6])) := by
  have H := h
  clear h
  unfold defect_axes.f at H
  refine Go.Saw.calls (args := [.agg #[.int .i64 a0_0, .int .i64 a0_1, .int .i64 a0_2, .int .i64 a0_3, .int .i64 a0_4, .int .i64 a0_5]]) Try.func65 rfl Try.ntmps65 (by kernel_rfl) ?_
  refine J.seq ?_
  refine J.plain ?_
  refine LL.box 25 (.tmp 0) [.int .i64 a0_0, .int .i64 a0_1, .int .i64 a0_2, .int .i64 a0_3, .int .i64 a0_4, .int .i64 a0_5] (by kernel_rfl) rfl (by kernel_rfl) (fun g40 => ?_)
  refine LL.alloc 78 [.int .i64 0, .int .i64 0, .int .i64 0, .int .i64 0, .int .i64 0, .int .i64 0] (by kernel_rfl) rfl (by kernel_rfl) (fun g41 => ?_)
  refine LL.done (s' := [(1, .pointer (some ⟨g40, 0, none⟩)), (2, .pointer (some ⟨g41, 0, none⟩))]) [1, 2] (by kernel_rfl) ?_
  refine NN.then ?_
  refine J.seq ?_
  refine J.plain ?_
  refine LL.op (.pointer (some ⟨g40, 0, none⟩)) (by kernel_rfl) (fun w _ => by kernel_rfl) ?_
  refine LL.op (.agg #[.int .i64 a0_0, .int .i64 a0_1]) (by kernel_rfl) (ld 1 g40 0 rfl (by kernel_rfl) rfl (by kernel_rfl)) ?_
  refine LL.op (.pointer (some ⟨g40, 2, none⟩)) (by kernel_rfl) (fun w _ => by kernel_rfl) ?_
  refine LL.op (.agg #[.int .i64 a0_2, .int .i64 a0_3]) (by kernel_rfl) (ld 1 g40 2 rfl (by kernel_rfl) rfl (by kernel_rfl)) ?_
  refine LL.op (.pointer (some ⟨g40, 4, none⟩)) (by kernel_rfl) (fun w _ => by kernel_rfl) ?_
  refine LL.op (.agg #[.int .i64 a0_4, .int .i64 a0_5]) (by kernel_rfl) (ld 1 g40 4 rfl (by kernel_rfl) rfl (by kernel_rfl)) ?_
  refine LL.op (.agg #[.int .i64 a0_0, .int .i64 a0_1, .int .i64 a0_2, .int .i64 a0_3, .int .i64 a0_4, .int .i64 a0_5]) (by kernel_rfl) (fun w _ => by kernel_rfl) ?_
  refine LL.store 0 g41 0 78 (.tmp 2) (.tmp 9) [.int .i64 a0_0, .int .i64 a0_1, .int .i64 a0_2, .int .i64 a0_3, .int .i64 a0_4, .int .i64 a0_5] (bs' := [(g41, cl [.int .i64 a0_0, .int .i64 a0_1, .int .i64 a0_2, .int .i64 a0_3, .int .i64 a0_4, .int .i64 a0_5] 78), (g40, cl [.int .i64 a0_0, .int .i64 a0_1, .int .i64 a0_2, .int .i64 a0_3, .int .i64 a0_4, .int .i64 a0_5] 25)]) rfl (by kernel_rfl) rfl (by kernel_rfl) rfl (by kernel_rfl) ?_
  refine LL.done (s' := [(2, .pointer (some ⟨g41, 0, none⟩))]) [2] (by kernel_rfl) ?_
  refine NN.then ?_
  refine J.ret ?_
  refine NN.finV (.agg #[.int .i64 a0_0, .int .i64 a0_1, .int .i64 a0_2, .int .i64 a0_3, .int .i64 a0_4, .int .i64 a0_5]) (.inl rfl) ?_ (fun w hi => hi.ret ?_)
  · exact resOk_1 (by kernel_rfl) (.cell (d := 2) (t := 78) 0 g41 0 (by kernel_rfl) rfl (by kernel_rfl))
  first | (cases H; rfl) | (obtain rfl := Option.some.inj H; rfl) | (simp only [Option.some.injEq, Prod.mk.injEq] at H; obtain ⟨rfl, rfl, rfl, rfl, rfl, rfl⟩ := H; rfl)

/-! ### defect_boxOf: function 67 -/
def defect_boxOf.f (a0_0 : Int) (a0_1 : Int) (a0_2 : Int) (a0_3 : Int) (a0_4 : Int) (a0_5 : Int) : Option (Int × Int × Int × Int × Int × Int) := some (a0_0, a0_1, a0_2, a0_3, a0_4, a0_5)
set_option maxRecDepth 100000 in
theorem defect_boxOf.calls (a0_0 : Int) (a0_1 : Int) (a0_2 : Int) (a0_3 : Int) (a0_4 : Int) (a0_5 : Int)    (r1 : Int) (r2 : Int) (r3 : Int) (r4 : Int) (r5 : Int) (r6 : Int) (w : World)    (h : defect_boxOf.f a0_0 a0_1 a0_2 a0_3 a0_4 a0_5 = some (r1, r2, r3, r4, r5, r6)) :
    Calls Try.prog 67 #[.agg #[.int .i64 a0_0, .int .i64 a0_1, .int .i64 a0_2, .int .i64 a0_3, .int .i64 a0_4, .int .i64 a0_5]] w (Ret w (.agg #[.int .i64 r1, .int .i64 r2, .int .i64 r3, .int .i64 r4, .int .i64 r5, .int .i64 r6])) := by
  have H := h
  clear h
  unfold defect_boxOf.f at H
  refine Go.Saw.calls (args := [.agg #[.int .i64 a0_0, .int .i64 a0_1, .int .i64 a0_2, .int .i64 a0_3, .int .i64 a0_4, .int .i64 a0_5]]) Try.func67 rfl Try.ntmps67 (by kernel_rfl) ?_
  refine J.seq ?_
  refine J.plain ?_
  refine LL.box 78 (.tmp 0) [.int .i64 a0_0, .int .i64 a0_1, .int .i64 a0_2, .int .i64 a0_3, .int .i64 a0_4, .int .i64 a0_5] (by kernel_rfl) rfl (by kernel_rfl) (fun g42 => ?_)
  refine LL.alloc 25 [.int .i64 0, .int .i64 0, .int .i64 0, .int .i64 0, .int .i64 0, .int .i64 0] (by kernel_rfl) rfl (by kernel_rfl) (fun g43 => ?_)
  refine LL.done (s' := [(1, .pointer (some ⟨g42, 0, none⟩)), (2, .pointer (some ⟨g43, 0, none⟩))]) [1, 2] (by kernel_rfl) ?_
  refine NN.then ?_
  refine J.seq ?_
  refine J.plain ?_
  refine LL.op (.pointer (some ⟨g42, 0, none⟩)) (by kernel_rfl) (fun w _ => by kernel_rfl) ?_
  refine LL.op (.agg #[.int .i64 a0_0, .int .i64 a0_1]) (by kernel_rfl) (ld 1 g42 0 rfl (by kernel_rfl) rfl (by kernel_rfl)) ?_
  refine LL.op (.pointer (some ⟨g42, 2, none⟩)) (by kernel_rfl) (fun w _ => by kernel_rfl) ?_
  refine LL.op (.agg #[.int .i64 a0_2, .int .i64 a0_3]) (by kernel_rfl) (ld 1 g42 2 rfl (by kernel_rfl) rfl (by kernel_rfl)) ?_
  refine LL.op (.pointer (some ⟨g42, 4, none⟩)) (by kernel_rfl) (fun w _ => by kernel_rfl) ?_
  refine LL.op (.agg #[.int .i64 a0_4, .int .i64 a0_5]) (by kernel_rfl) (ld 1 g42 4 rfl (by kernel_rfl) rfl (by kernel_rfl)) ?_
  refine LL.op (.agg #[.int .i64 a0_0, .int .i64 a0_1, .int .i64 a0_2, .int .i64 a0_3, .int .i64 a0_4, .int .i64 a0_5]) (by kernel_rfl) (fun w _ => by kernel_rfl) ?_
  refine LL.store 0 g43 0 25 (.tmp 2) (.tmp 9) [.int .i64 a0_0, .int .i64 a0_1, .int .i64 a0_2, .int .i64 a0_3, .int .i64 a0_4, .int .i64 a0_5] (bs' := [(g43, cl [.int .i64 a0_0, .int .i64 a0_1, .int .i64 a0_2, .int .i64 a0_3, .int .i64 a0_4, .int .i64 a0_5] 25), (g42, cl [.int .i64 a0_0, .int .i64 a0_1, .int .i64 a0_2, .int .i64 a0_3, .int .i64 a0_4, .int .i64 a0_5] 78)]) rfl (by kernel_rfl) rfl (by kernel_rfl) rfl (by kernel_rfl) ?_
  refine LL.done (s' := [(2, .pointer (some ⟨g43, 0, none⟩))]) [2] (by kernel_rfl) ?_
  refine NN.then ?_
  refine J.ret ?_
  refine NN.finV (.agg #[.int .i64 a0_0, .int .i64 a0_1, .int .i64 a0_2, .int .i64 a0_3, .int .i64 a0_4, .int .i64 a0_5]) (.inl rfl) ?_ (fun w hi => hi.ret ?_)
  · exact resOk_1 (by kernel_rfl) (.cell (d := 2) (t := 25) 0 g43 0 (by kernel_rfl) rfl (by kernel_rfl))
  first | (cases H; rfl) | (obtain rfl := Option.some.inj H; rfl) | (simp only [Option.some.injEq, Prod.mk.injEq] at H; obtain ⟨rfl, rfl, rfl, rfl, rfl, rfl⟩ := H; rfl)

/-! ### defect_within: function 66 -/
def defect_within.f (a0_0 : Int) (a0_1 : Int) (a1 : Int) (a2 : Int) : Option (Bool) := if a1 ≤ (mn a0_0 a0_1) then (some (decide ((mx a0_0 a0_1) ≤ a2))) else (some false)
set_option maxRecDepth 100000 in
theorem defect_within.calls (a0_0 : Int) (a0_1 : Int) (a1 : Int) (a2 : Int)    (r1 : Bool) (w : World)    (h : defect_within.f a0_0 a0_1 a1 a2 = some r1) :
    Calls Try.prog 66 #[.agg #[.int .i64 a0_0, .int .i64 a0_1], .int .i64 a1, .int .i64 a2] w (Ret w (.bool r1)) := by
  have H := h
  clear h
  unfold defect_within.f at H
  refine Go.Saw.calls (args := [.agg #[.int .i64 a0_0, .int .i64 a0_1], .int .i64 a1, .int .i64 a2]) Try.func66 rfl Try.ntmps66 (by kernel_rfl) ?_
  refine J.seq ?_
  refine J.plain ?_
  refine LL.box 23 (.tmp 0) [.int .i64 a0_0, .int .i64 a0_1] (by kernel_rfl) rfl (by kernel_rfl) (fun g44 => ?_)
  refine LL.op (.bool false) (by kernel_rfl) (fun w _ => by kernel_rfl) ?_
  refine LL.done (s' := [(1, .int .i64 a1), (2, .int .i64 a2), (3, .pointer (some ⟨g44, 0, none⟩)), (6, .bool false)]) [1, 2, 3, 6] (by kernel_rfl) ?_
  refine NN.then ?_
  refine J.seq ?_
  refine J.plain ?_
  refine LL.op (.pointer (some ⟨g44, 0, none⟩)) (by kernel_rfl) (fun w _ => by kernel_rfl) ?_
  refine LL.op (.int .i64 a0_0) (by kernel_rfl) (ld 0 g44 0 rfl (by kernel_rfl) rfl (by kernel_rfl)) ?_
  refine LL.op (.pointer (some ⟨g44, 1, none⟩)) (by kernel_rfl) (fun w _ => by kernel_rfl) ?_
  refine LL.op (.int .i64 a0_1) (by kernel_rfl) (ld 0 g44 1 rfl (by kernel_rfl) rfl (by kernel_rfl)) ?_
  refine LL.op (.int .i64 (mn a0_0 a0_1)) (by kernel_rfl) (fun w _ => by kernel_rfl) ?_
  refine LL.op (.int .i64 a1) (by kernel_rfl) (fun w _ => by kernel_rfl) ?_
  refine LL.op (.bool (decide (a1 ≤ (mn a0_0 a0_1)))) (by kernel_rfl) (fun w _ => by kernel_rfl) ?_
  refine LL.op (.bool (decide (a1 ≤ (mn a0_0 a0_1)))) (by kernel_rfl) (fun w _ => by kernel_rfl) ?_
  rcases Bool.eq_false_or_eq_true (decide (a1 ≤ (mn a0_0 a0_1))) with c45 | c45
  · rw [if_pos (of_decide_eq_true c45)] at H
    refine LL.bool 14 (decide (a1 ≤ (mn a0_0 a0_1))) true c45 (by kernel_rfl) ?_
    refine LL.op (.pointer (some ⟨g44, 0, none⟩)) (by kernel_rfl) (fun w _ => by kernel_rfl) ?_
    refine LL.op (.int .i64 a0_0) (by kernel_rfl) (ld 0 g44 0 rfl (by kernel_rfl) rfl (by kernel_rfl)) ?_
    refine LL.op (.pointer (some ⟨g44, 1, none⟩)) (by kernel_rfl) (fun w _ => by kernel_rfl) ?_
    refine LL.op (.int .i64 a0_1) (by kernel_rfl) (ld 0 g44 1 rfl (by kernel_rfl) rfl (by kernel_rfl)) ?_
    refine LL.op (.int .i64 (mx a0_0 a0_1)) (by kernel_rfl) (fun w _ => by kernel_rfl) ?_
    refine LL.op (.int .i64 a2) (by kernel_rfl) (fun w _ => by kernel_rfl) ?_
    refine LL.op (.bool (decide ((mx a0_0 a0_1) ≤ a2))) (by kernel_rfl) (fun w _ => by kernel_rfl) ?_
    refine LL.op (.bool (decide ((mx a0_0 a0_1) ≤ a2))) (by kernel_rfl) (fun w _ => by kernel_rfl) ?_
    refine LL.op (.bool (decide ((mx a0_0 a0_1) ≤ a2))) (by kernel_rfl) (fun w _ => by kernel_rfl) ?_
    refine LL.done (s' := [(6, .bool (decide ((mx a0_0 a0_1) ≤ a2)))]) [6] (by kernel_rfl) ?_
    refine NN.then ?_
    refine J.ret ?_
    refine NN.fin1 6 (.bool (decide ((mx a0_0 a0_1) ≤ a2))) (by kernel_rfl) (by kernel_rfl) (.inl rfl) (fun w hi => hi.ret ?_)
    first | (cases H; rfl) | (obtain rfl := Option.some.inj H; rfl) | (simp only [Option.some.injEq, Prod.mk.injEq] at H; obtain ⟨rfl⟩ := H; rfl)
  · rw [if_neg (of_decide_eq_false c45)] at H
    refine LL.bool 14 (decide (a1 ≤ (mn a0_0 a0_1))) false c45 (by kernel_rfl) ?_
    refine LL.off (by kernel_rfl) (by kernel_rfl) ?_
    refine LL.off (by kernel_rfl) (by kernel_rfl) ?_
    refine LL.off (by kernel_rfl) (by kernel_rfl) ?_
    refine LL.off (by kernel_rfl) (by kernel_rfl) ?_
    refine LL.off (by kernel_rfl) (by kernel_rfl) ?_
    refine LL.off (by kernel_rfl) (by kernel_rfl) ?_
    refine LL.off (by kernel_rfl) (by kernel_rfl) ?_
    refine LL.op (.bool false) (by kernel_rfl) (fun w _ => by kernel_rfl) ?_
    refine LL.op (.bool false) (by kernel_rfl) (fun w _ => by kernel_rfl) ?_
    refine LL.done (s' := [(6, .bool false)]) [6] (by kernel_rfl) ?_
    refine NN.then ?_
    refine J.ret ?_
    refine NN.fin1 6 (.bool false) (by kernel_rfl) (by kernel_rfl) (.inl rfl) (fun w hi => hi.ret ?_)
    first | (cases H; rfl) | (obtain rfl := Option.some.inj H; rfl) | (simp only [Option.some.injEq, Prod.mk.injEq] at H; obtain ⟨rfl⟩ := H; rfl)

/-! ### defect_flawed: function 61 -/
def defect_flawed.f (a0_0 : Int) (a0_1 : Int) (a0_2 : Int) (a0_3 : Int) (a0_4 : Int) (a0_5 : Int) (a0_6 : Int) : Option (Int) := if a0_0 < 1 then (some 10) else (if 6 < a0_0 then (some 10) else ((defect_axes.f a0_1 a0_2 a0_3 a0_4 a0_5 a0_6).bind fun bx49 => (if bx49.2.1 ≤ bx49.1 then (some 19) else (if bx49.2.2.2.1 ≤ bx49.2.2.1 then (some 19) else (if bx49.2.2.2.2.2 ≤ bx49.2.2.2.2.1 then (some 19) else ((defect_within.f a0_1 a0_2 (-600) 600).bind fun x56 => (if x56 = true then ((defect_within.f a0_3 a0_4 (-600) 600).bind fun x58 => (if x58 = true then ((defect_within.f a0_5 a0_6 0 20000).bind fun x60 => (if x60 = true then (some 0) else (some 9))) else (some 9))) else (some 9))))))))
set_option maxRecDepth 100000 in
theorem defect_flawed.calls (a0_0 : Int) (a0_1 : Int) (a0_2 : Int) (a0_3 : Int) (a0_4 : Int) (a0_5 : Int) (a0_6 : Int)    (r1 : Int) (w : World)    (h : defect_flawed.f a0_0 a0_1 a0_2 a0_3 a0_4 a0_5 a0_6 = some r1) :
    Calls Try.prog 61 #[.agg #[.int .i64 a0_0, .int .i64 a0_1, .int .i64 a0_2, .int .i64 a0_3, .int .i64 a0_4, .int .i64 a0_5, .int .i64 a0_6]] w (Ret w (.int .i64 r1)) := by
  have H := h
  clear h
  unfold defect_flawed.f at H
  refine Go.Saw.calls (args := [.agg #[.int .i64 a0_0, .int .i64 a0_1, .int .i64 a0_2, .int .i64 a0_3, .int .i64 a0_4, .int .i64 a0_5, .int .i64 a0_6]]) Try.func61 rfl Try.ntmps61 (by kernel_rfl) ?_
  refine J.seq ?_
  refine J.plain ?_
  refine LL.box 41 (.tmp 0) [.int .i64 a0_0, .int .i64 a0_1, .int .i64 a0_2, .int .i64 a0_3, .int .i64 a0_4, .int .i64 a0_5, .int .i64 a0_6] (by kernel_rfl) rfl (by kernel_rfl) (fun g46 => ?_)
  refine LL.op (.int .i64 0) (by kernel_rfl) (fun w _ => by kernel_rfl) ?_
  refine LL.done (s' := [(1, .pointer (some ⟨g46, 0, none⟩)), (2, .int .i64 0)]) [1, 2] (by kernel_rfl) ?_
  refine NN.then ?_
  refine J.seq ?_
  refine J.seq ?_
  refine J.plain ?_
  refine LL.op (.pointer (some ⟨g46, 0, none⟩)) (by kernel_rfl) (fun w _ => by kernel_rfl) ?_
  refine LL.op (.int .i64 a0_0) (by kernel_rfl) (ld 0 g46 0 rfl (by kernel_rfl) rfl (by kernel_rfl)) ?_
  refine LL.op (.bool (decide (a0_0 < 1))) (by kernel_rfl) (fun w _ => by kernel_rfl) ?_
  refine LL.op (.bool (decide (a0_0 < 1))) (by kernel_rfl) (fun w _ => by kernel_rfl) ?_
  rcases Bool.eq_false_or_eq_true (decide (a0_0 < 1)) with c47 | c47
  · rw [if_pos (of_decide_eq_true c47)] at H
    refine LL.bool 8 (decide (a0_0 < 1)) true c47 (by kernel_rfl) ?_
    refine LL.off (by kernel_rfl) (by kernel_rfl) ?_
    refine LL.off (by kernel_rfl) (by kernel_rfl) ?_
    refine LL.off (by kernel_rfl) (by kernel_rfl) ?_
    refine LL.op (.bool true) (by kernel_rfl) (fun w _ => by kernel_rfl) ?_
    refine LL.done (s' := [(1, .pointer (some ⟨g46, 0, none⟩)), (2, .int .i64 0), (12, .bool true)]) [1, 2, 12] (by kernel_rfl) ?_
    refine NN.then ?_
    refine J.condT (b := true) rfl (by kernel_rfl) (by kernel_rfl) ?_
    refine J.seq ?_
    refine J.plain ?_
    refine LL.op (.int .i64 10) (by kernel_rfl) (fun w _ => by kernel_rfl) ?_
    refine LL.done (s' := [(1, .pointer (some ⟨g46, 0, none⟩)), (2, .int .i64 10)]) [1, 2] (by kernel_rfl) ?_
    refine NN.then ?_
    refine J.ret ?_
    refine NN.then_ret ?_
    refine NN.fin1 2 (.int .i64 10) (by kernel_rfl) (by kernel_rfl) (.inl rfl) (fun w hi => hi.ret ?_)
    first | (cases H; rfl) | (obtain rfl := Option.some.inj H; rfl) | (simp only [Option.some.injEq, Prod.mk.injEq] at H; obtain ⟨rfl⟩ := H; rfl)
  · rw [if_neg (of_decide_eq_false c47)] at H
    refine LL.bool 8 (decide (a0_0 < 1)) false c47 (by kernel_rfl) ?_
    refine LL.op (.pointer (some ⟨g46, 0, none⟩)) (by kernel_rfl) (fun w _ => by kernel_rfl) ?_
    refine LL.op (.int .i64 a0_0) (by kernel_rfl) (ld 0 g46 0 rfl (by kernel_rfl) rfl (by kernel_rfl)) ?_
    refine LL.op (.bool (decide (6 < a0_0))) (by kernel_rfl) (fun w _ => by kernel_rfl) ?_
    refine LL.op (.bool (decide (6 < a0_0))) (by kernel_rfl) (fun w _ => by kernel_rfl) ?_
    refine LL.done (s' := [(1, .pointer (some ⟨g46, 0, none⟩)), (2, .int .i64 0), (12, .bool (decide (6 < a0_0)))]) [1, 2, 12] (by kernel_rfl) ?_
    refine NN.then ?_
    rcases Bool.eq_false_or_eq_true (decide (6 < a0_0)) with c48 | c48
    · rw [if_pos (of_decide_eq_true c48)] at H
      refine J.condT (b := decide (6 < a0_0)) c48 (by kernel_rfl) (by kernel_rfl) ?_
      refine J.seq ?_
      refine J.plain ?_
      refine LL.op (.int .i64 10) (by kernel_rfl) (fun w _ => by kernel_rfl) ?_
      refine LL.done (s' := [(1, .pointer (some ⟨g46, 0, none⟩)), (2, .int .i64 10)]) [1, 2] (by kernel_rfl) ?_
      refine NN.then ?_
      refine J.ret ?_
      refine NN.then_ret ?_
      refine NN.fin1 2 (.int .i64 10) (by kernel_rfl) (by kernel_rfl) (.inl rfl) (fun w hi => hi.ret ?_)
      first | (cases H; rfl) | (obtain rfl := Option.some.inj H; rfl) | (simp only [Option.some.injEq, Prod.mk.injEq] at H; obtain ⟨rfl⟩ := H; rfl)
    · rw [if_neg (of_decide_eq_false c48)] at H
      refine J.condF (b := decide (6 < a0_0)) c48 (by kernel_rfl) (by kernel_rfl) ?_
      refine J.skip ?_
      refine NN.then ?_
      refine J.seq ?_
      refine J.seq ?_
      refine J.plain ?_
      refine LL.op (.pointer (some ⟨g46, 1, none⟩)) (by kernel_rfl) (fun w _ => by kernel_rfl) ?_
      refine LL.op (.agg #[.int .i64 a0_1, .int .i64 a0_2, .int .i64 a0_3, .int .i64 a0_4, .int .i64 a0_5, .int .i64 a0_6]) (by kernel_rfl) (ld 0 g46 1 rfl (by kernel_rfl) rfl (by kernel_rfl)) ?_
      obtain ⟨⟨x49_1, x49_2, x49_3, x49_4, x49_5, x49_6⟩, hx49, H⟩ := bind_some H
      (try dsimp only at H)
      refine LL.call 65 #[.agg #[.int .i64 a0_1, .int .i64 a0_2, .int .i64 a0_3, .int .i64 a0_4, .int .i64 a0_5, .int .i64 a0_6]] (.agg #[.int .i64 x49_1, .int .i64 x49_2, .int .i64 x49_3, .int .i64 x49_4, .int .i64 x49_5, .int .i64 x49_6]) (by kernel_rfl) (fun w => by kernel_rfl) (fun w hw => defect_axes.calls a0_1 a0_2 a0_3 a0_4 a0_5 a0_6   _ _ _ _ _ _ w   hx49) ?_
      refine LL.op (.int .i64 0) (by kernel_rfl) (fun w _ => by kernel_rfl) ?_
      refine LL.done (s' := [(1, .pointer (some ⟨g46, 0, none⟩)), (2, .int .i64 0), (15, .agg #[.int .i64 x49_1, .int .i64 x49_2, .int .i64 x49_3, .int .i64 x49_4, .int .i64 x49_5, .int .i64 x49_6]), (16, .int .i64 0)]) [1, 2, 15, 16] (by kernel_rfl) ?_
      refine NN.then ?_
      refine J.block ?_
      refine J.rounds 3 ?_
      refine J.seq ?_
      refine J.plain ?_
      refine LL.op (.bool true) (by kernel_rfl) (fun w _ => by kernel_rfl) ?_
      refine LL.done (s' := [(1, .pointer (some ⟨g46, 0, none⟩)), (2, .int .i64 0), (15, .agg #[.int .i64 x49_1, .int .i64 x49_2, .int .i64 x49_3, .int .i64 x49_4, .int .i64 x49_5, .int .i64 x49_6]), (16, .int .i64 0), (17, .bool true)]) [1, 2, 15, 16, 17] (by kernel_rfl) ?_
      refine NN.then ?_
      refine J.seq ?_
      refine J.condT (b := true) rfl (by kernel_rfl) (by kernel_rfl) ?_
      refine J.skip ?_
      refine NN.then ?_
      refine J.seq ?_
      refine J.block ?_
      refine J.seq ?_
      refine J.plain ?_
      refine LL.op (.agg #[.int .i64 x49_1, .int .i64 x49_2]) (by kernel_rfl) (fun w _ => by kernel_rfl) ?_
      refine LL.alloc 23 [.int .i64 0, .int .i64 0] (by kernel_rfl) rfl (by kernel_rfl) (fun g50 => ?_)
      refine LL.store 0 g50 0 23 (.tmp 4) (.tmp 18) [.int .i64 x49_1, .int .i64 x49_2] (bs' := [(g50, cl [.int .i64 x49_1, .int .i64 x49_2] 23), (g46, cl [.int .i64 a0_0, .int .i64 a0_1, .int .i64 a0_2, .int .i64 a0_3, .int .i64 a0_4, .int .i64 a0_5, .int .i64 a0_6] 41)]) rfl (by kernel_rfl) rfl (by kernel_rfl) rfl (by kernel_rfl) ?_
      refine LL.done (s' := [(1, .pointer (some ⟨g46, 0, none⟩)), (2, .int .i64 0), (4, .pointer (some ⟨g50, 0, none⟩)), (15, .agg #[.int .i64 x49_1, .int .i64 x49_2, .int .i64 x49_3, .int .i64 x49_4, .int .i64 x49_5, .int .i64 x49_6]), (16, .int .i64 0), (17, .bool true), (18, .agg #[.int .i64 x49_1, .int .i64 x49_2])]) [1, 2, 4, 15, 16, 17, 18] (by kernel_rfl) ?_
      refine NN.then ?_
      refine J.seq ?_
      refine J.plain ?_
      refine LL.op (.pointer (some ⟨g50, 0, none⟩)) (by kernel_rfl) (fun w _ => by kernel_rfl) ?_
      refine LL.op (.int .i64 x49_1) (by kernel_rfl) (ld 0 g50 0 rfl (by kernel_rfl) rfl (by kernel_rfl)) ?_
      refine LL.op (.pointer (some ⟨g50, 1, none⟩)) (by kernel_rfl) (fun w _ => by kernel_rfl) ?_
      refine LL.op (.int .i64 x49_2) (by kernel_rfl) (ld 0 g50 1 rfl (by kernel_rfl) rfl (by kernel_rfl)) ?_
      refine LL.op (.bool (decide (x49_2 ≤ x49_1))) (by kernel_rfl) (fun w _ => by kernel_rfl) ?_
      refine LL.done (s' := [(1, .pointer (some ⟨g46, 0, none⟩)), (2, .int .i64 0), (4, .pointer (some ⟨g50, 0, none⟩)), (15, .agg #[.int .i64 x49_1, .int .i64 x49_2, .int .i64 x49_3, .int .i64 x49_4, .int .i64 x49_5, .int .i64 x49_6]), (16, .int .i64 0), (17, .bool true), (18, .agg #[.int .i64 x49_1, .int .i64 x49_2]), (19, .pointer (some ⟨g50, 0, none⟩)), (20, .int .i64 x49_1), (21, .pointer (some ⟨g50, 1, none⟩)), (22, .int .i64 x49_2), (23, .bool (decide (x49_2 ≤ x49_1)))]) [1, 2, 4, 15, 16, 17, 18, 19, 20, 21, 22, 23] (by kernel_rfl) ?_
      refine NN.then ?_
      rcases Bool.eq_false_or_eq_true (decide (x49_2 ≤ x49_1)) with c51 | c51
      · rw [if_pos (of_decide_eq_true c51)] at H
        refine J.condT (b := decide (x49_2 ≤ x49_1)) c51 (by kernel_rfl) (by kernel_rfl) ?_
        refine J.seq ?_
        refine J.plain ?_
        refine LL.op (.int .i64 19) (by kernel_rfl) (fun w _ => by kernel_rfl) ?_
        refine LL.done (s' := [(1, .pointer (some ⟨g46, 0, none⟩)), (2, .int .i64 19), (4, .pointer (some ⟨g50, 0, none⟩)), (15, .agg #[.int .i64 x49_1, .int .i64 x49_2, .int .i64 x49_3, .int .i64 x49_4, .int .i64 x49_5, .int .i64 x49_6]), (16, .int .i64 0), (17, .bool true), (18, .agg #[.int .i64 x49_1, .int .i64 x49_2]), (19, .pointer (some ⟨g50, 0, none⟩)), (20, .int .i64 x49_1), (21, .pointer (some ⟨g50, 1, none⟩)), (22, .int .i64 x49_2), (23, .bool (decide (x49_2 ≤ x49_1)))]) [1, 2, 4, 15, 16, 17, 18, 19, 20, 21, 22, 23] (by kernel_rfl) ?_
        refine NN.then ?_
        refine J.ret ?_
        refine NN.block_ret ?_
        refine NN.then_ret ?_
        refine NN.then_ret ?_
        refine NN.block_ret ?_
        refine NN.then_ret ?_
        refine NN.fin1 2 (.int .i64 19) (by kernel_rfl) (by kernel_rfl) (.inl rfl) (fun w hi => hi.ret ?_)
        first | (cases H; rfl) | (obtain rfl := Option.some.inj H; rfl) | (simp only [Option.some.injEq, Prod.mk.injEq] at H; obtain ⟨rfl⟩ := H; rfl)
      · rw [if_neg (of_decide_eq_false c51)] at H
        refine J.condF (b := decide (x49_2 ≤ x49_1)) c51 (by kernel_rfl) (by kernel_rfl) ?_
        refine J.skip ?_
        refine NN.block_n ?_
        refine NN.then ?_
        refine J.plain ?_
        refine LL.op (.int .i64 1) (by kernel_rfl) (fun w _ => by kernel_rfl) ?_
        refine LL.op (.int .i64 1) (by kernel_rfl) (fun w _ => by kernel_rfl) ?_
        refine LL.done (s' := [(1, .pointer (some ⟨g46, 0, none⟩)), (2, .int .i64 0), (4, .pointer (some ⟨g50, 0, none⟩)), (15, .agg #[.int .i64 x49_1, .int .i64 x49_2, .int .i64 x49_3, .int .i64 x49_4, .int .i64 x49_5, .int .i64 x49_6]), (16, .int .i64 1), (17, .bool true), (18, .agg #[.int .i64 x49_1, .int .i64 x49_2]), (19, .pointer (some ⟨g50, 0, none⟩)), (20, .int .i64 x49_1), (21, .pointer (some ⟨g50, 1, none⟩)), (22, .int .i64 x49_2), (23, .bool (decide (x49_2 ≤ x49_1))), (24, .int .i64 1)]) [1, 2, 4, 15, 16, 17, 18, 19, 20, 21, 22, 23, 24] (by kernel_rfl) ?_
        refine NN.again ?_
        refine J.seq ?_
        refine J.plain ?_
        refine LL.op (.bool true) (by kernel_rfl) (fun w _ => by kernel_rfl) ?_
        refine LL.done (s' := [(1, .pointer (some ⟨g46, 0, none⟩)), (2, .int .i64 0), (4, .pointer (some ⟨g50, 0, none⟩)), (15, .agg #[.int .i64 x49_1, .int .i64 x49_2, .int .i64 x49_3, .int .i64 x49_4, .int .i64 x49_5, .int .i64 x49_6]), (16, .int .i64 1), (17, .bool true), (18, .agg #[.int .i64 x49_1, .int .i64 x49_2]), (19, .pointer (some ⟨g50, 0, none⟩)), (20, .int .i64 x49_1), (21, .pointer (some ⟨g50, 1, none⟩)), (22, .int .i64 x49_2), (23, .bool (decide (x49_2 ≤ x49_1))), (24, .int .i64 1)]) [1, 2, 4, 15, 16, 17, 18, 19, 20, 21, 22, 23, 24] (by kernel_rfl) ?_
        refine NN.then ?_
        refine J.seq ?_
        refine J.condT (b := true) rfl (by kernel_rfl) (by kernel_rfl) ?_
        refine J.skip ?_
        refine NN.then ?_
        refine J.seq ?_
        refine J.block ?_
        refine J.seq ?_
        refine J.plain ?_
        refine LL.op (.agg #[.int .i64 x49_3, .int .i64 x49_4]) (by kernel_rfl) (fun w _ => by kernel_rfl) ?_
        refine LL.alloc 23 [.int .i64 0, .int .i64 0] (by kernel_rfl) rfl (by kernel_rfl) (fun g52 => ?_)
        refine LL.store 0 g52 0 23 (.tmp 4) (.tmp 18) [.int .i64 x49_3, .int .i64 x49_4] (bs' := [(g52, cl [.int .i64 x49_3, .int .i64 x49_4] 23), (g50, cl [.int .i64 x49_1, .int .i64 x49_2] 23), (g46, cl [.int .i64 a0_0, .int .i64 a0_1, .int .i64 a0_2, .int .i64 a0_3, .int .i64 a0_4, .int .i64 a0_5, .int .i64 a0_6] 41)]) rfl (by kernel_rfl) rfl (by kernel_rfl) rfl (by kernel_rfl) ?_
        refine LL.done (s' := [(1, .pointer (some ⟨g46, 0, none⟩)), (2, .int .i64 0), (4, .pointer (some ⟨g52, 0, none⟩)), (15, .agg #[.int .i64 x49_1, .int .i64 x49_2, .int .i64 x49_3, .int .i64 x49_4, .int .i64 x49_5, .int .i64 x49_6]), (16, .int .i64 1), (17, .bool true), (18, .agg #[.int .i64 x49_3, .int .i64 x49_4]), (19, .pointer (some ⟨g50, 0, none⟩)), (20, .int .i64 x49_1), (21, .pointer (some ⟨g50, 1, none⟩)), (22, .int .i64 x49_2), (23, .bool (decide (x49_2 ≤ x49_1))), (24, .int .i64 1)]) [1, 2, 4, 15, 16, 17, 18, 19, 20, 21, 22, 23, 24] (by kernel_rfl) ?_
        refine NN.then ?_
        refine J.seq ?_
        refine J.plain ?_
        refine LL.op (.pointer (some ⟨g52, 0, none⟩)) (by kernel_rfl) (fun w _ => by kernel_rfl) ?_
        refine LL.op (.int .i64 x49_3) (by kernel_rfl) (ld 0 g52 0 rfl (by kernel_rfl) rfl (by kernel_rfl)) ?_
        refine LL.op (.pointer (some ⟨g52, 1, none⟩)) (by kernel_rfl) (fun w _ => by kernel_rfl) ?_
        refine LL.op (.int .i64 x49_4) (by kernel_rfl) (ld 0 g52 1 rfl (by kernel_rfl) rfl (by kernel_rfl)) ?_
        refine LL.op (.bool (decide (x49_4 ≤ x49_3))) (by kernel_rfl) (fun w _ => by kernel_rfl) ?_
        refine LL.done (s' := [(1, .pointer (some ⟨g46, 0, none⟩)), (2, .int .i64 0), (4, .pointer (some ⟨g52, 0, none⟩)), (15, .agg #[.int .i64 x49_1, .int .i64 x49_2, .int .i64 x49_3, .int .i64 x49_4, .int .i64 x49_5, .int .i64 x49_6]), (16, .int .i64 1), (17, .bool true), (18, .agg #[.int .i64 x49_3, .int .i64 x49_4]), (19, .pointer (some ⟨g52, 0, none⟩)), (20, .int .i64 x49_3), (21, .pointer (some ⟨g52, 1, none⟩)), (22, .int .i64 x49_4), (23, .bool (decide (x49_4 ≤ x49_3))), (24, .int .i64 1)]) [1, 2, 4, 15, 16, 17, 18, 19, 20, 21, 22, 23, 24] (by kernel_rfl) ?_
        refine NN.then ?_
        rcases Bool.eq_false_or_eq_true (decide (x49_4 ≤ x49_3)) with c53 | c53
        · rw [if_pos (of_decide_eq_true c53)] at H
          refine J.condT (b := decide (x49_4 ≤ x49_3)) c53 (by kernel_rfl) (by kernel_rfl) ?_
          refine J.seq ?_
          refine J.plain ?_
          refine LL.op (.int .i64 19) (by kernel_rfl) (fun w _ => by kernel_rfl) ?_
          refine LL.done (s' := [(1, .pointer (some ⟨g46, 0, none⟩)), (2, .int .i64 19), (4, .pointer (some ⟨g52, 0, none⟩)), (15, .agg #[.int .i64 x49_1, .int .i64 x49_2, .int .i64 x49_3, .int .i64 x49_4, .int .i64 x49_5, .int .i64 x49_6]), (16, .int .i64 1), (17, .bool true), (18, .agg #[.int .i64 x49_3, .int .i64 x49_4]), (19, .pointer (some ⟨g52, 0, none⟩)), (20, .int .i64 x49_3), (21, .pointer (some ⟨g52, 1, none⟩)), (22, .int .i64 x49_4), (23, .bool (decide (x49_4 ≤ x49_3))), (24, .int .i64 1)]) [1, 2, 4, 15, 16, 17, 18, 19, 20, 21, 22, 23, 24] (by kernel_rfl) ?_
          refine NN.then ?_
          refine J.ret ?_
          refine NN.block_ret ?_
          refine NN.then_ret ?_
          refine NN.then_ret ?_
          refine NN.block_ret ?_
          refine NN.then_ret ?_
          refine NN.fin1 2 (.int .i64 19) (by kernel_rfl) (by kernel_rfl) (.inl rfl) (fun w hi => hi.ret ?_)
          first | (cases H; rfl) | (obtain rfl := Option.some.inj H; rfl) | (simp only [Option.some.injEq, Prod.mk.injEq] at H; obtain ⟨rfl⟩ := H; rfl)
        · rw [if_neg (of_decide_eq_false c53)] at H
          refine J.condF (b := decide (x49_4 ≤ x49_3)) c53 (by kernel_rfl) (by kernel_rfl) ?_
          refine J.skip ?_
          refine NN.block_n ?_
          refine NN.then ?_
          refine J.plain ?_
          refine LL.op (.int .i64 2) (by kernel_rfl) (fun w _ => by kernel_rfl) ?_
          refine LL.op (.int .i64 2) (by kernel_rfl) (fun w _ => by kernel_rfl) ?_
          refine LL.done (s' := [(1, .pointer (some ⟨g46, 0, none⟩)), (2, .int .i64 0), (4, .pointer (some ⟨g52, 0, none⟩)), (15, .agg #[.int .i64 x49_1, .int .i64 x49_2, .int .i64 x49_3, .int .i64 x49_4, .int .i64 x49_5, .int .i64 x49_6]), (16, .int .i64 2), (17, .bool true), (18, .agg #[.int .i64 x49_3, .int .i64 x49_4]), (19, .pointer (some ⟨g52, 0, none⟩)), (20, .int .i64 x49_3), (21, .pointer (some ⟨g52, 1, none⟩)), (22, .int .i64 x49_4), (23, .bool (decide (x49_4 ≤ x49_3))), (24, .int .i64 2)]) [1, 2, 4, 15, 16, 17, 18, 19, 20, 21, 22, 23, 24] (by kernel_rfl) ?_
          refine NN.again ?_
          refine J.seq ?_
          refine J.plain ?_
          refine LL.op (.bool true) (by kernel_rfl) (fun w _ => by kernel_rfl) ?_
          refine LL.done (s' := [(1, .pointer (some ⟨g46, 0, none⟩)), (2, .int .i64 0), (4, .pointer (some ⟨g52, 0, none⟩)), (15, .agg #[.int .i64 x49_1, .int .i64 x49_2, .int .i64 x49_3, .int .i64 x49_4, .int .i64 x49_5, .int .i64 x49_6]), (16, .int .i64 2), (17, .bool true), (18, .agg #[.int .i64 x49_3, .int .i64 x49_4]), (19, .pointer (some ⟨g52, 0, none⟩)), (20, .int .i64 x49_3), (21, .pointer (some ⟨g52, 1, none⟩)), (22, .int .i64 x49_4), (23, .bool (decide (x49_4 ≤ x49_3))), (24, .int .i64 2)]) [1, 2, 4, 15, 16, 17, 18, 19, 20, 21, 22, 23, 24] (by kernel_rfl) ?_
          refine NN.then ?_
          refine J.seq ?_
          refine J.condT (b := true) rfl (by kernel_rfl) (by kernel_rfl) ?_
          refine J.skip ?_
          refine NN.then ?_
          refine J.seq ?_
          refine J.block ?_
          refine J.seq ?_
          refine J.plain ?_
          refine LL.op (.agg #[.int .i64 x49_5, .int .i64 x49_6]) (by kernel_rfl) (fun w _ => by kernel_rfl) ?_
          refine LL.alloc 23 [.int .i64 0, .int .i64 0] (by kernel_rfl) rfl (by kernel_rfl) (fun g54 => ?_)
          refine LL.store 0 g54 0 23 (.tmp 4) (.tmp 18) [.int .i64 x49_5, .int .i64 x49_6] (bs' := [(g54, cl [.int .i64 x49_5, .int .i64 x49_6] 23), (g52, cl [.int .i64 x49_3, .int .i64 x49_4] 23), (g50, cl [.int .i64 x49_1, .int .i64 x49_2] 23), (g46, cl [.int .i64 a0_0, .int .i64 a0_1, .int .i64 a0_2, .int .i64 a0_3, .int .i64 a0_4, .int .i64 a0_5, .int .i64 a0_6] 41)]) rfl (by kernel_rfl) rfl (by kernel_rfl) rfl (by kernel_rfl) ?_
          refine LL.done (s' := [(1, .pointer (some ⟨g46, 0, none⟩)), (2, .int .i64 0), (4, .pointer (some ⟨g54, 0, none⟩)), (15, .agg #[.int .i64 x49_1, .int .i64 x49_2, .int .i64 x49_3, .int .i64 x49_4, .int .i64 x49_5, .int .i64 x49_6]), (16, .int .i64 2), (17, .bool true), (18, .agg #[.int .i64 x49_5, .int .i64 x49_6]), (19, .pointer (some ⟨g52, 0, none⟩)), (20, .int .i64 x49_3), (21, .pointer (some ⟨g52, 1, none⟩)), (22, .int .i64 x49_4), (23, .bool (decide (x49_4 ≤ x49_3))), (24, .int .i64 2)]) [1, 2, 4, 15, 16, 17, 18, 19, 20, 21, 22, 23, 24] (by kernel_rfl) ?_
          refine NN.then ?_
          refine J.seq ?_
          refine J.plain ?_
          refine LL.op (.pointer (some ⟨g54, 0, none⟩)) (by kernel_rfl) (fun w _ => by kernel_rfl) ?_
          refine LL.op (.int .i64 x49_5) (by kernel_rfl) (ld 0 g54 0 rfl (by kernel_rfl) rfl (by kernel_rfl)) ?_
          refine LL.op (.pointer (some ⟨g54, 1, none⟩)) (by kernel_rfl) (fun w _ => by kernel_rfl) ?_
          refine LL.op (.int .i64 x49_6) (by kernel_rfl) (ld 0 g54 1 rfl (by kernel_rfl) rfl (by kernel_rfl)) ?_
          refine LL.op (.bool (decide (x49_6 ≤ x49_5))) (by kernel_rfl) (fun w _ => by kernel_rfl) ?_
          refine LL.done (s' := [(1, .pointer (some ⟨g46, 0, none⟩)), (2, .int .i64 0), (4, .pointer (some ⟨g54, 0, none⟩)), (15, .agg #[.int .i64 x49_1, .int .i64 x49_2, .int .i64 x49_3, .int .i64 x49_4, .int .i64 x49_5, .int .i64 x49_6]), (16, .int .i64 2), (17, .bool true), (18, .agg #[.int .i64 x49_5, .int .i64 x49_6]), (19, .pointer (some ⟨g54, 0, none⟩)), (20, .int .i64 x49_5), (21, .pointer (some ⟨g54, 1, none⟩)), (22, .int .i64 x49_6), (23, .bool (decide (x49_6 ≤ x49_5))), (24, .int .i64 2)]) [1, 2, 4, 15, 16, 17, 18, 19, 20, 21, 22, 23, 24] (by kernel_rfl) ?_
          refine NN.then ?_
          rcases Bool.eq_false_or_eq_true (decide (x49_6 ≤ x49_5)) with c55 | c55
          · rw [if_pos (of_decide_eq_true c55)] at H
            refine J.condT (b := decide (x49_6 ≤ x49_5)) c55 (by kernel_rfl) (by kernel_rfl) ?_
            refine J.seq ?_
            refine J.plain ?_
            refine LL.op (.int .i64 19) (by kernel_rfl) (fun w _ => by kernel_rfl) ?_
            refine LL.done (s' := [(1, .pointer (some ⟨g46, 0, none⟩)), (2, .int .i64 19), (4, .pointer (some ⟨g54, 0, none⟩)), (15, .agg #[.int .i64 x49_1, .int .i64 x49_2, .int .i64 x49_3, .int .i64 x49_4, .int .i64 x49_5, .int .i64 x49_6]), (16, .int .i64 2), (17, .bool true), (18, .agg #[.int .i64 x49_5, .int .i64 x49_6]), (19, .pointer (some ⟨g54, 0, none⟩)), (20, .int .i64 x49_5), (21, .pointer (some ⟨g54, 1, none⟩)), (22, .int .i64 x49_6), (23, .bool (decide (x49_6 ≤ x49_5))), (24, .int .i64 2)]) [1, 2, 4, 15, 16, 17, 18, 19, 20, 21, 22, 23, 24] (by kernel_rfl) ?_
            refine NN.then ?_
            refine J.ret ?_
            refine NN.block_ret ?_
            refine NN.then_ret ?_
            refine NN.then_ret ?_
            refine NN.block_ret ?_
            refine NN.then_ret ?_
            refine NN.fin1 2 (.int .i64 19) (by kernel_rfl) (by kernel_rfl) (.inl rfl) (fun w hi => hi.ret ?_)
            first | (cases H; rfl) | (obtain rfl := Option.some.inj H; rfl) | (simp only [Option.some.injEq, Prod.mk.injEq] at H; obtain ⟨rfl⟩ := H; rfl)
          · rw [if_neg (of_decide_eq_false c55)] at H
            refine J.condF (b := decide (x49_6 ≤ x49_5)) c55 (by kernel_rfl) (by kernel_rfl) ?_
            refine J.skip ?_
            refine NN.block_n ?_
            refine NN.then ?_
            refine J.plain ?_
            refine LL.op (.int .i64 3) (by kernel_rfl) (fun w _ => by kernel_rfl) ?_
            refine LL.op (.int .i64 3) (by kernel_rfl) (fun w _ => by kernel_rfl) ?_
            refine LL.done (s' := [(1, .pointer (some ⟨g46, 0, none⟩)), (2, .int .i64 0), (4, .pointer (some ⟨g54, 0, none⟩)), (15, .agg #[.int .i64 x49_1, .int .i64 x49_2, .int .i64 x49_3, .int .i64 x49_4, .int .i64 x49_5, .int .i64 x49_6]), (16, .int .i64 3), (17, .bool true), (18, .agg #[.int .i64 x49_5, .int .i64 x49_6]), (19, .pointer (some ⟨g54, 0, none⟩)), (20, .int .i64 x49_5), (21, .pointer (some ⟨g54, 1, none⟩)), (22, .int .i64 x49_6), (23, .bool (decide (x49_6 ≤ x49_5))), (24, .int .i64 3)]) [1, 2, 4, 15, 16, 17, 18, 19, 20, 21, 22, 23, 24] (by kernel_rfl) ?_
            refine NN.again ?_
            refine J.seq ?_
            refine J.plain ?_
            refine LL.op (.bool false) (by kernel_rfl) (fun w _ => by kernel_rfl) ?_
            refine LL.done (s' := [(1, .pointer (some ⟨g46, 0, none⟩)), (2, .int .i64 0), (4, .pointer (some ⟨g54, 0, none⟩)), (15, .agg #[.int .i64 x49_1, .int .i64 x49_2, .int .i64 x49_3, .int .i64 x49_4, .int .i64 x49_5, .int .i64 x49_6]), (16, .int .i64 3), (17, .bool false), (18, .agg #[.int .i64 x49_5, .int .i64 x49_6]), (19, .pointer (some ⟨g54, 0, none⟩)), (20, .int .i64 x49_5), (21, .pointer (some ⟨g54, 1, none⟩)), (22, .int .i64 x49_6), (23, .bool (decide (x49_6 ≤ x49_5))), (24, .int .i64 3)]) [1, 2, 4, 15, 16, 17, 18, 19, 20, 21, 22, 23, 24] (by kernel_rfl) ?_
            refine NN.then ?_
            refine J.seq ?_
            refine J.condF (b := false) rfl (by kernel_rfl) (by kernel_rfl) ?_
            refine J.exit ?_
            refine NN.then_exit ?_
            refine NN.then_exit ?_
            refine NN.block_same ?_
            refine NN.then ?_
            refine J.seq ?_
            refine J.seq ?_
            refine J.plain ?_
            refine LL.op (.pointer (some ⟨g46, 1, none⟩)) (by kernel_rfl) (fun w _ => by kernel_rfl) ?_
            refine LL.op (.pointer (some ⟨g46, 1, none⟩)) (by kernel_rfl) (fun w _ => by kernel_rfl) ?_
            refine LL.op (.agg #[.int .i64 a0_1, .int .i64 a0_2]) (by kernel_rfl) (ld 3 g46 1 rfl (by kernel_rfl) rfl (by kernel_rfl)) ?_
            obtain ⟨x56, hx56, H⟩ := bind_some H
            refine LL.call 66 #[.agg #[.int .i64 a0_1, .int .i64 a0_2], .int .i64 (-600), .int .i64 600] (.bool x56) (by kernel_rfl) (fun w => by kernel_rfl) (fun w hw => defect_within.calls a0_1 a0_2 (-600) 600   _ w   hx56) ?_
            refine LL.op (.bool (!x56)) (by kernel_rfl) (fun w _ => by kernel_rfl) ?_
            refine LL.op (.bool (!x56)) (by kernel_rfl) (fun w _ => by kernel_rfl) ?_
            rcases Bool.eq_false_or_eq_true (x56) with c57 | c57
            · rw [if_pos (c57)] at H
              refine LL.bool 30 (!x56) false (by rw [show (!x56) = !(x56) from rfl, c57]; rfl) (by kernel_rfl) ?_
              refine LL.op (.pointer (some ⟨g46, 1, none⟩)) (by kernel_rfl) (fun w _ => by kernel_rfl) ?_
              refine LL.op (.pointer (some ⟨g46, 3, none⟩)) (by kernel_rfl) (fun w _ => by kernel_rfl) ?_
              refine LL.op (.agg #[.int .i64 a0_3, .int .i64 a0_4]) (by kernel_rfl) (ld 3 g46 3 rfl (by kernel_rfl) rfl (by kernel_rfl)) ?_
              obtain ⟨x58, hx58, H⟩ := bind_some H
              refine LL.call 66 #[.agg #[.int .i64 a0_3, .int .i64 a0_4], .int .i64 (-600), .int .i64 600] (.bool x58) (by kernel_rfl) (fun w => by kernel_rfl) (fun w hw => defect_within.calls a0_3 a0_4 (-600) 600   _ w   hx58) ?_
              refine LL.op (.bool (!x58)) (by kernel_rfl) (fun w _ => by kernel_rfl) ?_
              refine LL.op (.bool (!x58)) (by kernel_rfl) (fun w _ => by kernel_rfl) ?_
              refine LL.op (.bool (!x58)) (by kernel_rfl) (fun w _ => by kernel_rfl) ?_
              rcases Bool.eq_false_or_eq_true (x58) with c59 | c59
              · rw [if_pos (c59)] at H
                refine LL.bool 37 (!x58) false (by rw [show (!x58) = !(x58) from rfl, c59]; rfl) (by kernel_rfl) ?_
                refine LL.op (.pointer (some ⟨g46, 1, none⟩)) (by kernel_rfl) (fun w _ => by kernel_rfl) ?_
                refine LL.op (.pointer (some ⟨g46, 5, none⟩)) (by kernel_rfl) (fun w _ => by kernel_rfl) ?_
                refine LL.op (.agg #[.int .i64 a0_5, .int .i64 a0_6]) (by kernel_rfl) (ld 3 g46 5 rfl (by kernel_rfl) rfl (by kernel_rfl)) ?_
                obtain ⟨x60, hx60, H⟩ := bind_some H
                refine LL.call 66 #[.agg #[.int .i64 a0_5, .int .i64 a0_6], .int .i64 0, .int .i64 20000] (.bool x60) (by kernel_rfl) (fun w => by kernel_rfl) (fun w hw => defect_within.calls a0_5 a0_6 0 20000   _ w   hx60) ?_
                refine LL.op (.bool (!x60)) (by kernel_rfl) (fun w _ => by kernel_rfl) ?_
                refine LL.op (.bool (!x60)) (by kernel_rfl) (fun w _ => by kernel_rfl) ?_
                refine LL.done (s' := [(2, .int .i64 0), (43, .bool (!x60))]) [2, 43] (by kernel_rfl) ?_
                refine NN.then ?_
                rcases Bool.eq_false_or_eq_true (x60) with c61 | c61
                · rw [if_pos (c61)] at H
                  refine J.condF (b := !x60) (by rw [show (!x60) = !(x60) from rfl, c61]; rfl) (by kernel_rfl) (by kernel_rfl) ?_
                  refine J.skip ?_
                  refine NN.then ?_
                  refine J.seq ?_
                  refine J.plain ?_
                  refine LL.op (.int .i64 0) (by kernel_rfl) (fun w _ => by kernel_rfl) ?_
                  refine LL.done (s' := [(2, .int .i64 0)]) [2] (by kernel_rfl) ?_
                  refine NN.then ?_
                  refine J.ret ?_
                  refine NN.fin1 2 (.int .i64 0) (by kernel_rfl) (by kernel_rfl) (.inl rfl) (fun w hi => hi.ret ?_)
                  first | (cases H; rfl) | (obtain rfl := Option.some.inj H; rfl) | (simp only [Option.some.injEq, Prod.mk.injEq] at H; obtain ⟨rfl⟩ := H; rfl)
                · rw [if_neg (nebt c61)] at H
                  refine J.condT (b := !x60) (by rw [show (!x60) = !(x60) from rfl, c61]; rfl) (by kernel_rfl) (by kernel_rfl) ?_
                  refine J.seq ?_
                  refine J.plain ?_
                  refine LL.op (.int .i64 9) (by kernel_rfl) (fun w _ => by kernel_rfl) ?_
                  refine LL.done (s' := [(2, .int .i64 9)]) [2] (by kernel_rfl) ?_
                  refine NN.then ?_
                  refine J.ret ?_
                  refine NN.then_ret ?_
                  refine NN.fin1 2 (.int .i64 9) (by kernel_rfl) (by kernel_rfl) (.inl rfl) (fun w hi => hi.ret ?_)
                  first | (cases H; rfl) | (obtain rfl := Option.some.inj H; rfl) | (simp only [Option.some.injEq, Prod.mk.injEq] at H; obtain ⟨rfl⟩ := H; rfl)
              · rw [if_neg (nebt c59)] at H
                refine LL.bool 37 (!x58) true (by rw [show (!x58) = !(x58) from rfl, c59]; rfl) (by kernel_rfl) ?_
                refine LL.off (by kernel_rfl) (by kernel_rfl) ?_
                refine LL.off (by kernel_rfl) (by kernel_rfl) ?_
                refine LL.off (by kernel_rfl) (by kernel_rfl) ?_
                refine LL.off (by kernel_rfl) (by kernel_rfl) ?_
                refine LL.off (by kernel_rfl) (by kernel_rfl) ?_
                refine LL.op (.bool true) (by kernel_rfl) (fun w _ => by kernel_rfl) ?_
                refine LL.done (s' := [(2, .int .i64 0), (43, .bool true)]) [2, 43] (by kernel_rfl) ?_
                refine NN.then ?_
                refine J.condT (b := true) rfl (by kernel_rfl) (by kernel_rfl) ?_
                refine J.seq ?_
                refine J.plain ?_
                refine LL.op (.int .i64 9) (by kernel_rfl) (fun w _ => by kernel_rfl) ?_
                refine LL.done (s' := [(2, .int .i64 9)]) [2] (by kernel_rfl) ?_
                refine NN.then ?_
                refine J.ret ?_
                refine NN.then_ret ?_
                refine NN.fin1 2 (.int .i64 9) (by kernel_rfl) (by kernel_rfl) (.inl rfl) (fun w hi => hi.ret ?_)
                first | (cases H; rfl) | (obtain rfl := Option.some.inj H; rfl) | (simp only [Option.some.injEq, Prod.mk.injEq] at H; obtain ⟨rfl⟩ := H; rfl)
            · rw [if_neg (nebt c57)] at H
              refine LL.bool 30 (!x56) true (by rw [show (!x56) = !(x56) from rfl, c57]; rfl) (by kernel_rfl) ?_
              refine LL.off (by kernel_rfl) (by kernel_rfl) ?_
              refine LL.off (by kernel_rfl) (by kernel_rfl) ?_
              refine LL.off (by kernel_rfl) (by kernel_rfl) ?_
              refine LL.off (by kernel_rfl) (by kernel_rfl) ?_
              refine LL.off (by kernel_rfl) (by kernel_rfl) ?_
              refine LL.op (.bool true) (by kernel_rfl) (fun w _ => by kernel_rfl) ?_
              refine LL.op (.bool true) (by kernel_rfl) (fun w _ => by kernel_rfl) ?_
              refine LL.off (by kernel_rfl) (by kernel_rfl) ?_
              refine LL.off (by kernel_rfl) (by kernel_rfl) ?_
              refine LL.off (by kernel_rfl) (by kernel_rfl) ?_
              refine LL.off (by kernel_rfl) (by kernel_rfl) ?_
              refine LL.off (by kernel_rfl) (by kernel_rfl) ?_
              refine LL.op (.bool true) (by kernel_rfl) (fun w _ => by kernel_rfl) ?_
              refine LL.done (s' := [(2, .int .i64 0), (43, .bool true)]) [2, 43] (by kernel_rfl) ?_
              refine NN.then ?_
              refine J.condT (b := true) rfl (by kernel_rfl) (by kernel_rfl) ?_
              refine J.seq ?_
              refine J.plain ?_
              refine LL.op (.int .i64 9) (by kernel_rfl) (fun w _ => by kernel_rfl) ?_
              refine LL.done (s' := [(2, .int .i64 9)]) [2] (by kernel_rfl) ?_
              refine NN.then ?_
              refine J.ret ?_
              refine NN.then_ret ?_
              refine NN.fin1 2 (.int .i64 9) (by kernel_rfl) (by kernel_rfl) (.inl rfl) (fun w hi => hi.ret ?_)
              first | (cases H; rfl) | (obtain rfl := Option.some.inj H; rfl) | (simp only [Option.some.injEq, Prod.mk.injEq] at H; obtain ⟨rfl⟩ := H; rfl)

/-! ### defect_Check: function 33 -/
def defect_Check.l0 (K : Nat) (a0 : List E41) : Nat → Int → Option (Int)
  | 0, _ => none
  | k + 1, x11l0 => if x11l0 < (a0.length : Int) then ((idx a0 x11l0).bind fun be65 => ((defect_flawed.f be65.1 be65.2.1 be65.2.2.1 be65.2.2.2.1 be65.2.2.2.2.1 be65.2.2.2.2.2.1 be65.2.2.2.2.2.2).bind fun x67 => (if x67 = 0 then (defect_Check.l0 K a0 k (IntKind.i64.wrap (x11l0 + 1))) else (some x67)))) else (some 0)
def defect_Check.f (K : Nat) (a0 : List E41) : Option (Int) := if 64 < (a0.length : Int) then (some 4) else (defect_Check.l0 K a0 K 0)
set_option maxRecDepth 100000 in
theorem defect_Check.calls (K : Nat) (a0 : List E41)  (Aa0 : Option Addr) (ca0 : Nat)  (r1 : Int) (w : World)   (ha0 : KRow (Cx.start w) enc41 7 a0 Aa0) (h : defect_Check.f K a0 = some r1) :
    Calls Try.prog 33 #[.slice Aa0 a0.length ca0] w (Ret w (.int .i64 r1)) := by
  have H := h
  clear h
  unfold defect_Check.f at H
  refine Go.Saw.calls (args := [.slice Aa0 a0.length ca0]) Try.func33 rfl Try.ntmps33 (by kernel_rfl) ?_
  refine J.seq ?_
  refine J.plain ?_
  refine LL.op (.int .i64 0) (by kernel_rfl) (fun w _ => by kernel_rfl) ?_
  refine LL.done (s' := [(0, .slice Aa0 a0.length ca0), (2, .int .i64 0)]) [0, 2] (by kernel_rfl) ?_
  refine NN.then ?_
  refine J.seq ?_
  refine J.seq ?_
  refine J.plain ?_
  refine LL.op (.slice Aa0 a0.length ca0) (by kernel_rfl) (fun w _ => by kernel_rfl) ?_
  refine LL.op (.int .i64 (a0.length : Int)) (by kernel_rfl) (fun w _ => by kernel_rfl) ?_
  refine LL.op (.bool (decide (64 < (a0.length : Int)))) (by kernel_rfl) (fun w _ => by kernel_rfl) ?_
  refine LL.done (s' := [(0, .slice Aa0 a0.length ca0), (2, .int .i64 0), (8, .bool (decide (64 < (a0.length : Int))))]) [0, 2, 8] (by kernel_rfl) ?_
  refine NN.then ?_
  rcases Bool.eq_false_or_eq_true (decide (64 < (a0.length : Int))) with c62 | c62
  · rw [if_pos (of_decide_eq_true c62)] at H
    refine J.condT (b := decide (64 < (a0.length : Int))) c62 (by kernel_rfl) (by kernel_rfl) ?_
    refine J.seq ?_
    refine J.plain ?_
    refine LL.op (.int .i64 4) (by kernel_rfl) (fun w _ => by kernel_rfl) ?_
    refine LL.done (s' := [(0, .slice Aa0 a0.length ca0), (2, .int .i64 4)]) [0, 2] (by kernel_rfl) ?_
    refine NN.then ?_
    refine J.ret ?_
    refine NN.then_ret ?_
    refine NN.fin1 2 (.int .i64 4) (by kernel_rfl) (by kernel_rfl) (.inl rfl) (fun w hi => hi.ret ?_)
    first | (cases H; rfl) | (obtain rfl := Option.some.inj H; rfl) | (simp only [Option.some.injEq, Prod.mk.injEq] at H; obtain ⟨rfl⟩ := H; rfl)
  · rw [if_neg (of_decide_eq_false c62)] at H
    refine J.condF (b := decide (64 < (a0.length : Int))) c62 (by kernel_rfl) (by kernel_rfl) ?_
    refine J.skip ?_
    refine NN.then ?_
    refine J.seq ?_
    refine J.seq ?_
    refine J.plain ?_
    refine LL.op (.slice Aa0 a0.length ca0) (by kernel_rfl) (fun w _ => by kernel_rfl) ?_
    refine LL.op (.int .i64 (a0.length : Int)) (by kernel_rfl) (fun w _ => by kernel_rfl) ?_
    refine LL.op (.int .i64 0) (by kernel_rfl) (fun w _ => by kernel_rfl) ?_
    refine LL.done (s' := [(2, .int .i64 0), (9, .slice Aa0 a0.length ca0), (10, .int .i64 (a0.length : Int)), (11, .int .i64 0)]) [2, 9, 10, 11] (by kernel_rfl) ?_
    refine NN.then ?_
    refine J.block ?_
    refine J.to [2, 9, 10, 11] (s' := [(2, .int .i64 0), (9, .slice Aa0 a0.length ca0), (10, .int .i64 (a0.length : Int)), (11, .int .i64 0)]) (by kernel_rfl) ?_
    refine J.loop (fun n_ s_ bs_ => ∃ (x11l0 : Int), defect_Check.l0 K a0 n_ x11l0 = some r1 ∧ s_ = [(2, .int .i64 0), (9, .slice Aa0 a0.length ca0), (10, .int .i64 (a0.length : Int)), (11, .int .i64 x11l0)] ∧ [] = bs_) K ⟨0, H, rfl, rfl⟩ ?_
    rintro (_ | n_) s_ bs_ ⟨x11l0, H, rfl, rfl⟩
    · exact absurd H (by simp [defect_Check.l0])
    simp only [defect_Check.l0] at H
    refine J.seq ?_
    refine J.plain ?_
    refine LL.op (.bool (decide (x11l0 < (a0.length : Int)))) (by kernel_rfl) (fun w _ => by kernel_rfl) ?_
    refine LL.done (s' := [(2, .int .i64 0), (9, .slice Aa0 a0.length ca0), (10, .int .i64 (a0.length : Int)), (11, .int .i64 x11l0), (12, .bool (decide (x11l0 < (a0.length : Int))))]) [2, 9, 10, 11, 12] (by kernel_rfl) ?_
    refine NN.then ?_
    refine J.seq ?_
    rcases Bool.eq_false_or_eq_true (decide (x11l0 < (a0.length : Int))) with c64 | c64
    · rw [if_pos (of_decide_eq_true c64)] at H
      refine J.condT (b := decide (x11l0 < (a0.length : Int))) c64 (by kernel_rfl) (by kernel_rfl) ?_
      refine J.skip ?_
      refine NN.then ?_
      refine J.seq ?_
      refine J.block ?_
      refine J.seq ?_
      refine J.plain ?_
      obtain ⟨⟨e65_1, e65_2, e65_3, e65_4, e65_5, e65_6, e65_7⟩, he65, H⟩ := bind_some H
      (try dsimp only at H)
      refine LL.op (.pointer (rp Aa0 (x11l0.toNat * 7 + 0))) (by kernel_rfl) (idxR (cp := ca0) (ik := .i64) ha0 he65 rfl (by kernel_rfl) (by kernel_rfl) (by kernel_rfl)) ?_
      refine LL.op (.agg #[.int .i64 e65_1, .int .i64 e65_2, .int .i64 e65_3, .int .i64 e65_4, .int .i64 e65_5, .int .i64 e65_6, .int .i64 e65_7]) (by kernel_rfl) (ldR (off := 0) ha0 he65 rfl (by kernel_rfl) (by kernel_rfl)) ?_
      refine LL.alloc 41 [.int .i64 0, .int .i64 0, .int .i64 0, .int .i64 0, .int .i64 0, .int .i64 0, .int .i64 0] (by kernel_rfl) rfl (by kernel_rfl) (fun g66 => ?_)
      refine LL.store 0 g66 0 41 (.tmp 4) (.tmp 14) [.int .i64 e65_1, .int .i64 e65_2, .int .i64 e65_3, .int .i64 e65_4, .int .i64 e65_5, .int .i64 e65_6, .int .i64 e65_7] (bs' := [(g66, cl [.int .i64 e65_1, .int .i64 e65_2, .int .i64 e65_3, .int .i64 e65_4, .int .i64 e65_5, .int .i64 e65_6, .int .i64 e65_7] 41)]) rfl (by kernel_rfl) rfl (by kernel_rfl) rfl (by kernel_rfl) ?_
      refine LL.done (s' := [(2, .int .i64 0), (4, .pointer (some ⟨g66, 0, none⟩)), (9, .slice Aa0 a0.length ca0), (10, .int .i64 (a0.length : Int)), (11, .int .i64 x11l0)]) [2, 4, 9, 10, 11] (by kernel_rfl) ?_
      refine NN.then ?_
      refine J.seq ?_
      refine J.plain ?_
      refine LL.op (.agg #[.int .i64 e65_1, .int .i64 e65_2, .int .i64 e65_3, .int .i64 e65_4, .int .i64 e65_5, .int .i64 e65_6, .int .i64 e65_7]) (by kernel_rfl) (ld 0 g66 0 rfl (by kernel_rfl) rfl (by kernel_rfl)) ?_
      obtain ⟨x67, hx67, H⟩ := bind_some H
      refine LL.call 61 #[.agg #[.int .i64 e65_1, .int .i64 e65_2, .int .i64 e65_3, .int .i64 e65_4, .int .i64 e65_5, .int .i64 e65_6, .int .i64 e65_7]] (.int .i64 x67) (by kernel_rfl) (fun w => by kernel_rfl) (fun w hw => defect_flawed.calls e65_1 e65_2 e65_3 e65_4 e65_5 e65_6 e65_7   _ w   hx67) ?_
      refine LL.op (.int .i64 x67) (by kernel_rfl) (fun w _ => by kernel_rfl) ?_
      refine LL.done (s' := [(2, .int .i64 0), (5, .int .i64 x67), (9, .slice Aa0 a0.length ca0), (10, .int .i64 (a0.length : Int)), (11, .int .i64 x11l0)]) [2, 5, 9, 10, 11] (by kernel_rfl) ?_
      refine NN.then ?_
      refine J.seq ?_
      refine J.plain ?_
      refine LL.op (.int .i64 x67) (by kernel_rfl) (fun w _ => by kernel_rfl) ?_
      refine LL.op (.bool (!(x67 == 0))) (by kernel_rfl) (fun w _ => by kernel_rfl) ?_
      refine LL.done (s' := [(2, .int .i64 0), (5, .int .i64 x67), (9, .slice Aa0 a0.length ca0), (10, .int .i64 (a0.length : Int)), (11, .int .i64 x11l0), (18, .bool (!(x67 == 0)))]) [2, 5, 9, 10, 11, 18] (by kernel_rfl) ?_
      refine NN.then ?_
      rcases Bool.eq_false_or_eq_true ((x67 == 0)) with c68 | c68
      · rw [if_pos (eq_of_beq c68)] at H
        refine J.condF (b := !(x67 == 0)) (by rw [show (!(x67 == 0)) = !((x67 == 0)) from rfl, c68]; rfl) (by kernel_rfl) (by kernel_rfl) ?_
        refine J.skip ?_
        refine NN.block_n ?_
        refine NN.then ?_
        refine J.plain ?_
        refine LL.op (.int .i64 (IntKind.i64.wrap (x11l0 + 1))) (by kernel_rfl) (fun w _ => by kernel_rfl) ?_
        refine LL.op (.int .i64 (IntKind.i64.wrap (x11l0 + 1))) (by kernel_rfl) (fun w _ => by kernel_rfl) ?_
        refine LL.done (s' := [(2, .int .i64 0), (9, .slice Aa0 a0.length ca0), (10, .int .i64 (a0.length : Int)), (11, .int .i64 (IntKind.i64.wrap (x11l0 + 1)))]) [2, 9, 10, 11] (by kernel_rfl) ?_
        exact NN.round' [2, 9, 10, 11] (bs' := []) (Nat.lt_succ_self _) (List.Sublist.cons _ (List.Sublist.refl _)) (by kernel_rfl) ⟨IntKind.i64.wrap (x11l0 + 1), H, rfl, rfl⟩
      · rw [if_neg (nebf c68)] at H
        refine J.condT (b := !(x67 == 0)) (by rw [show (!(x67 == 0)) = !((x67 == 0)) from rfl, c68]; rfl) (by kernel_rfl) (by kernel_rfl) ?_
        refine J.seq ?_
        refine J.plain ?_
        refine LL.op (.int .i64 x67) (by kernel_rfl) (fun w _ => by kernel_rfl) ?_
        refine LL.op (.int .i64 x67) (by kernel_rfl) (fun w _ => by kernel_rfl) ?_
        refine LL.done (s' := [(2, .int .i64 x67), (9, .slice Aa0 a0.length ca0), (10, .int .i64 (a0.length : Int)), (11, .int .i64 x11l0)]) [2, 9, 10, 11] (by kernel_rfl) ?_
        refine NN.then ?_
        refine J.ret ?_
        refine NN.block_ret ?_
        refine NN.then_ret ?_
        refine NN.then_ret ?_
        refine NN.block_ret ?_
        refine NN.then_ret ?_
        refine NN.fin1 2 (.int .i64 x67) (by kernel_rfl) (by kernel_rfl) (.inl rfl) (fun w hi => hi.ret ?_)
        first | (cases H; rfl) | (obtain rfl := Option.some.inj H; rfl) | (simp only [Option.some.injEq, Prod.mk.injEq] at H; obtain ⟨rfl⟩ := H; rfl)
    · rw [if_neg (of_decide_eq_false c64)] at H
      refine J.condF (b := decide (x11l0 < (a0.length : Int))) c64 (by kernel_rfl) (by kernel_rfl) ?_
      refine J.exit ?_
      refine NN.then_exit ?_
      refine NN.then_exit ?_
      refine NN.block_same ?_
      refine NN.then ?_
      refine J.seq ?_
      refine J.plain ?_
      refine LL.op (.int .i64 0) (by kernel_rfl) (fun w _ => by kernel_rfl) ?_
      refine LL.done (s' := [(2, .int .i64 0)]) [2] (by kernel_rfl) ?_
      refine NN.then ?_
      refine J.ret ?_
      refine NN.fin1 2 (.int .i64 0) (by kernel_rfl) (by kernel_rfl) (.inl rfl) (fun w hi => hi.ret ?_)
      first | (cases H; rfl) | (obtain rfl := Option.some.inj H; rfl) | (simp only [Option.some.injEq, Prod.mk.injEq] at H; obtain ⟨rfl⟩ := H; rfl)

/-! ### sawmillref13_in: function 80 -/
def sawmillref13_in.f (a0_0 : Int) (a0_1 : Int) (a1 : Int) (a2 : Int) : Option (Bool) := if a1 ≤ a0_0 then (some (decide (a0_1 ≤ a2))) else (some false)
set_option maxRecDepth 100000 in
theorem sawmillref13_in.calls (a0_0 : Int) (a0_1 : Int) (a1 : Int) (a2 : Int)    (r1 : Bool) (w : World)    (h : sawmillref13_in.f a0_0 a0_1 a1 a2 = some r1) :
    Calls Try.prog 80 #[.agg #[.int .i64 a0_0, .int .i64 a0_1], .int .i64 a1, .int .i64 a2] w (Ret w (.bool r1)) := by
  have H := h
  clear h
  unfold sawmillref13_in.f at H
  refine Go.Saw.calls (args := [.agg #[.int .i64 a0_0, .int .i64 a0_1], .int .i64 a1, .int .i64 a2]) Try.func80 rfl Try.ntmps80 (by kernel_rfl) ?_
  refine J.seq ?_
  refine J.plain ?_
  refine LL.box 23 (.tmp 0) [.int .i64 a0_0, .int .i64 a0_1] (by kernel_rfl) rfl (by kernel_rfl) (fun g69 => ?_)
  refine LL.op (.bool false) (by kernel_rfl) (fun w _ => by kernel_rfl) ?_
  refine LL.done (s' := [(1, .int .i64 a1), (2, .int .i64 a2), (3, .pointer (some ⟨g69, 0, none⟩)), (6, .bool false)]) [1, 2, 3, 6] (by kernel_rfl) ?_
  refine NN.then ?_
  refine J.seq ?_
  refine J.plain ?_
  refine LL.op (.int .i64 a1) (by kernel_rfl) (fun w _ => by kernel_rfl) ?_
  refine LL.op (.pointer (some ⟨g69, 0, none⟩)) (by kernel_rfl) (fun w _ => by kernel_rfl) ?_
  refine LL.op (.int .i64 a0_0) (by kernel_rfl) (ld 0 g69 0 rfl (by kernel_rfl) rfl (by kernel_rfl)) ?_
  refine LL.op (.bool (decide (a1 ≤ a0_0))) (by kernel_rfl) (fun w _ => by kernel_rfl) ?_
  refine LL.op (.bool (decide (a1 ≤ a0_0))) (by kernel_rfl) (fun w _ => by kernel_rfl) ?_
  rcases Bool.eq_false_or_eq_true (decide (a1 ≤ a0_0)) with c70 | c70
  · rw [if_pos (of_decide_eq_true c70)] at H
    refine LL.bool 11 (decide (a1 ≤ a0_0)) true c70 (by kernel_rfl) ?_
    refine LL.op (.pointer (some ⟨g69, 1, none⟩)) (by kernel_rfl) (fun w _ => by kernel_rfl) ?_
    refine LL.op (.int .i64 a0_1) (by kernel_rfl) (ld 0 g69 1 rfl (by kernel_rfl) rfl (by kernel_rfl)) ?_
    refine LL.op (.int .i64 a2) (by kernel_rfl) (fun w _ => by kernel_rfl) ?_
    refine LL.op (.bool (decide (a0_1 ≤ a2))) (by kernel_rfl) (fun w _ => by kernel_rfl) ?_
    refine LL.op (.bool (decide (a0_1 ≤ a2))) (by kernel_rfl) (fun w _ => by kernel_rfl) ?_
    refine LL.op (.bool (decide (a0_1 ≤ a2))) (by kernel_rfl) (fun w _ => by kernel_rfl) ?_
    refine LL.done (s' := [(6, .bool (decide (a0_1 ≤ a2)))]) [6] (by kernel_rfl) ?_
    refine NN.then ?_
    refine J.ret ?_
    refine NN.fin1 6 (.bool (decide (a0_1 ≤ a2))) (by kernel_rfl) (by kernel_rfl) (.inl rfl) (fun w hi => hi.ret ?_)
    first | (cases H; rfl) | (obtain rfl := Option.some.inj H; rfl) | (simp only [Option.some.injEq, Prod.mk.injEq] at H; obtain ⟨rfl⟩ := H; rfl)
  · rw [if_neg (of_decide_eq_false c70)] at H
    refine LL.bool 11 (decide (a1 ≤ a0_0)) false c70 (by kernel_rfl) ?_
    refine LL.off (by kernel_rfl) (by kernel_rfl) ?_
    refine LL.off (by kernel_rfl) (by kernel_rfl) ?_
    refine LL.off (by kernel_rfl) (by kernel_rfl) ?_
    refine LL.off (by kernel_rfl) (by kernel_rfl) ?_
    refine LL.op (.bool false) (by kernel_rfl) (fun w _ => by kernel_rfl) ?_
    refine LL.op (.bool false) (by kernel_rfl) (fun w _ => by kernel_rfl) ?_
    refine LL.done (s' := [(6, .bool false)]) [6] (by kernel_rfl) ?_
    refine NN.then ?_
    refine J.ret ?_
    refine NN.fin1 6 (.bool false) (by kernel_rfl) (by kernel_rfl) (.inl rfl) (fun w hi => hi.ret ?_)
    first | (cases H; rfl) | (obtain rfl := Option.some.inj H; rfl) | (simp only [Option.some.injEq, Prod.mk.injEq] at H; obtain ⟨rfl⟩ := H; rfl)

/-! ### sawmillref13_Ranged: function 60 -/
def sawmillref13_Ranged.f (a0_0 : Int) (a0_1 : Int) (a0_2 : Int) (a0_3 : Int) (a0_4 : Int) (a0_5 : Int) : Option (Bool) := (sawmillref13_in.f a0_0 a0_1 (-600) 600).bind fun x72 => (if x72 = true then ((sawmillref13_in.f a0_2 a0_3 (-600) 600).bind fun x74 => (if x74 = true then ((sawmillref13_in.f a0_4 a0_5 0 20000).bind fun x76 => (some x76)) else (some false))) else (some false))
set_option maxRecDepth 100000 in
theorem sawmillref13_Ranged.calls (a0_0 : Int) (a0_1 : Int) (a0_2 : Int) (a0_3 : Int) (a0_4 : Int) (a0_5 : Int)    (r1 : Bool) (w : World)    (h : sawmillref13_Ranged.f a0_0 a0_1 a0_2 a0_3 a0_4 a0_5 = some r1) :
    Calls Try.prog 60 #[.agg #[.int .i64 a0_0, .int .i64 a0_1, .int .i64 a0_2, .int .i64 a0_3, .int .i64 a0_4, .int .i64 a0_5]] w (Ret w (.bool r1)) := by
  have H := h
  clear h
  unfold sawmillref13_Ranged.f at H
  refine Go.Saw.calls (args := [.agg #[.int .i64 a0_0, .int .i64 a0_1, .int .i64 a0_2, .int .i64 a0_3, .int .i64 a0_4, .int .i64 a0_5]]) Try.func60 rfl Try.ntmps60 (by kernel_rfl) ?_
  refine J.seq ?_
  refine J.plain ?_
  refine LL.box 25 (.tmp 0) [.int .i64 a0_0, .int .i64 a0_1, .int .i64 a0_2, .int .i64 a0_3, .int .i64 a0_4, .int .i64 a0_5] (by kernel_rfl) rfl (by kernel_rfl) (fun g71 => ?_)
  refine LL.op (.bool false) (by kernel_rfl) (fun w _ => by kernel_rfl) ?_
  refine LL.done (s' := [(1, .pointer (some ⟨g71, 0, none⟩)), (2, .bool false)]) [1, 2] (by kernel_rfl) ?_
  refine NN.then ?_
  refine J.seq ?_
  refine J.plain ?_
  refine LL.op (.pointer (some ⟨g71, 0, none⟩)) (by kernel_rfl) (fun w _ => by kernel_rfl) ?_
  refine LL.op (.agg #[.int .i64 a0_0, .int .i64 a0_1]) (by kernel_rfl) (ld 0 g71 0 rfl (by kernel_rfl) rfl (by kernel_rfl)) ?_
  obtain ⟨x72, hx72, H⟩ := bind_some H
  refine LL.call 80 #[.agg #[.int .i64 a0_0, .int .i64 a0_1], .int .i64 (-600), .int .i64 600] (.bool x72) (by kernel_rfl) (fun w => by kernel_rfl) (fun w hw => sawmillref13_in.calls a0_0 a0_1 (-600) 600   _ w   hx72) ?_
  refine LL.op (.bool x72) (by kernel_rfl) (fun w _ => by kernel_rfl) ?_
  rcases Bool.eq_false_or_eq_true (x72) with c73 | c73
  · rw [if_pos (c73)] at H
    refine LL.bool 6 (x72) true c73 (by kernel_rfl) ?_
    refine LL.op (.pointer (some ⟨g71, 2, none⟩)) (by kernel_rfl) (fun w _ => by kernel_rfl) ?_
    refine LL.op (.agg #[.int .i64 a0_2, .int .i64 a0_3]) (by kernel_rfl) (ld 0 g71 2 rfl (by kernel_rfl) rfl (by kernel_rfl)) ?_
    obtain ⟨x74, hx74, H⟩ := bind_some H
    refine LL.call 80 #[.agg #[.int .i64 a0_2, .int .i64 a0_3], .int .i64 (-600), .int .i64 600] (.bool x74) (by kernel_rfl) (fun w => by kernel_rfl) (fun w hw => sawmillref13_in.calls a0_2 a0_3 (-600) 600   _ w   hx74) ?_
    refine LL.op (.bool x74) (by kernel_rfl) (fun w _ => by kernel_rfl) ?_
    refine LL.op (.bool x74) (by kernel_rfl) (fun w _ => by kernel_rfl) ?_
    rcases Bool.eq_false_or_eq_true (x74) with c75 | c75
    · rw [if_pos (c75)] at H
      refine LL.bool 11 (x74) true c75 (by kernel_rfl) ?_
      refine LL.op (.pointer (some ⟨g71, 4, none⟩)) (by kernel_rfl) (fun w _ => by kernel_rfl) ?_
      refine LL.op (.agg #[.int .i64 a0_4, .int .i64 a0_5]) (by kernel_rfl) (ld 0 g71 4 rfl (by kernel_rfl) rfl (by kernel_rfl)) ?_
      obtain ⟨x76, hx76, H⟩ := bind_some H
      refine LL.call 80 #[.agg #[.int .i64 a0_4, .int .i64 a0_5], .int .i64 0, .int .i64 20000] (.bool x76) (by kernel_rfl) (fun w => by kernel_rfl) (fun w hw => sawmillref13_in.calls a0_4 a0_5 0 20000   _ w   hx76) ?_
      refine LL.op (.bool x76) (by kernel_rfl) (fun w _ => by kernel_rfl) ?_
      refine LL.op (.bool x76) (by kernel_rfl) (fun w _ => by kernel_rfl) ?_
      refine LL.done (s' := [(2, .bool x76)]) [2] (by kernel_rfl) ?_
      refine NN.then ?_
      refine J.ret ?_
      refine NN.fin1 2 (.bool x76) (by kernel_rfl) (by kernel_rfl) (.inl rfl) (fun w hi => hi.ret ?_)
      first | (cases H; rfl) | (obtain rfl := Option.some.inj H; rfl) | (simp only [Option.some.injEq, Prod.mk.injEq] at H; obtain ⟨rfl⟩ := H; rfl)
    · rw [if_neg (nebt c75)] at H
      refine LL.bool 11 (x74) false c75 (by kernel_rfl) ?_
      refine LL.off (by kernel_rfl) (by kernel_rfl) ?_
      refine LL.off (by kernel_rfl) (by kernel_rfl) ?_
      refine LL.off (by kernel_rfl) (by kernel_rfl) ?_
      refine LL.op (.bool false) (by kernel_rfl) (fun w _ => by kernel_rfl) ?_
      refine LL.op (.bool false) (by kernel_rfl) (fun w _ => by kernel_rfl) ?_
      refine LL.done (s' := [(2, .bool false)]) [2] (by kernel_rfl) ?_
      refine NN.then ?_
      refine J.ret ?_
      refine NN.fin1 2 (.bool false) (by kernel_rfl) (by kernel_rfl) (.inl rfl) (fun w hi => hi.ret ?_)
      first | (cases H; rfl) | (obtain rfl := Option.some.inj H; rfl) | (simp only [Option.some.injEq, Prod.mk.injEq] at H; obtain ⟨rfl⟩ := H; rfl)
  · rw [if_neg (nebt c73)] at H
    refine LL.bool 6 (x72) false c73 (by kernel_rfl) ?_
    refine LL.off (by kernel_rfl) (by kernel_rfl) ?_
    refine LL.off (by kernel_rfl) (by kernel_rfl) ?_
    refine LL.off (by kernel_rfl) (by kernel_rfl) ?_
    refine LL.op (.bool false) (by kernel_rfl) (fun w _ => by kernel_rfl) ?_
    refine LL.op (.bool false) (by kernel_rfl) (fun w _ => by kernel_rfl) ?_
    refine LL.off (by kernel_rfl) (by kernel_rfl) ?_
    refine LL.off (by kernel_rfl) (by kernel_rfl) ?_
    refine LL.off (by kernel_rfl) (by kernel_rfl) ?_
    refine LL.op (.bool false) (by kernel_rfl) (fun w _ => by kernel_rfl) ?_
    refine LL.op (.bool false) (by kernel_rfl) (fun w _ => by kernel_rfl) ?_
    refine LL.done (s' := [(2, .bool false)]) [2] (by kernel_rfl) ?_
    refine NN.then ?_
    refine J.ret ?_
    refine NN.fin1 2 (.bool false) (by kernel_rfl) (by kernel_rfl) (.inl rfl) (fun w hi => hi.ret ?_)
    first | (cases H; rfl) | (obtain rfl := Option.some.inj H; rfl) | (simp only [Option.some.injEq, Prod.mk.injEq] at H; obtain ⟨rfl⟩ := H; rfl)

/-! ### sawmillref13_Empty: function 50 -/
def sawmillref13_Empty.f (a0_0 : Int) (a0_1 : Int) (a0_2 : Int) (a0_3 : Int) (a0_4 : Int) (a0_5 : Int) : Option (Bool) := if a0_1 ≤ a0_0 then (some true) else (if a0_3 ≤ a0_2 then (some true) else (some (decide (a0_5 ≤ a0_4))))
set_option maxRecDepth 100000 in
theorem sawmillref13_Empty.calls (a0_0 : Int) (a0_1 : Int) (a0_2 : Int) (a0_3 : Int) (a0_4 : Int) (a0_5 : Int)    (r1 : Bool) (w : World)    (h : sawmillref13_Empty.f a0_0 a0_1 a0_2 a0_3 a0_4 a0_5 = some r1) :
    Calls Try.prog 50 #[.agg #[.int .i64 a0_0, .int .i64 a0_1, .int .i64 a0_2, .int .i64 a0_3, .int .i64 a0_4, .int .i64 a0_5]] w (Ret w (.bool r1)) := by
  have H := h
  clear h
  unfold sawmillref13_Empty.f at H
  refine Go.Saw.calls (args := [.agg #[.int .i64 a0_0, .int .i64 a0_1, .int .i64 a0_2, .int .i64 a0_3, .int .i64 a0_4, .int .i64 a0_5]]) Try.func50 rfl Try.ntmps50 (by kernel_rfl) ?_
  refine J.seq ?_
  refine J.plain ?_
  refine LL.box 25 (.tmp 0) [.int .i64 a0_0, .int .i64 a0_1, .int .i64 a0_2, .int .i64 a0_3, .int .i64 a0_4, .int .i64 a0_5] (by kernel_rfl) rfl (by kernel_rfl) (fun g77 => ?_)
  refine LL.op (.bool false) (by kernel_rfl) (fun w _ => by kernel_rfl) ?_
  refine LL.done (s' := [(1, .pointer (some ⟨g77, 0, none⟩)), (2, .bool false)]) [1, 2] (by kernel_rfl) ?_
  refine NN.then ?_
  refine J.seq ?_
  refine J.plain ?_
  refine LL.op (.pointer (some ⟨g77, 0, none⟩)) (by kernel_rfl) (fun w _ => by kernel_rfl) ?_
  refine LL.op (.pointer (some ⟨g77, 0, none⟩)) (by kernel_rfl) (fun w _ => by kernel_rfl) ?_
  refine LL.op (.int .i64 a0_0) (by kernel_rfl) (ld 0 g77 0 rfl (by kernel_rfl) rfl (by kernel_rfl)) ?_
  refine LL.op (.pointer (some ⟨g77, 0, none⟩)) (by kernel_rfl) (fun w _ => by kernel_rfl) ?_
  refine LL.op (.pointer (some ⟨g77, 1, none⟩)) (by kernel_rfl) (fun w _ => by kernel_rfl) ?_
  refine LL.op (.int .i64 a0_1) (by kernel_rfl) (ld 0 g77 1 rfl (by kernel_rfl) rfl (by kernel_rfl)) ?_
  refine LL.op (.bool (decide (a0_1 ≤ a0_0))) (by kernel_rfl) (fun w _ => by kernel_rfl) ?_
  refine LL.op (.bool (decide (a0_1 ≤ a0_0))) (by kernel_rfl) (fun w _ => by kernel_rfl) ?_
  rcases Bool.eq_false_or_eq_true (decide (a0_1 ≤ a0_0)) with c78 | c78
  · rw [if_pos (of_decide_eq_true c78)] at H
    refine LL.bool 10 (decide (a0_1 ≤ a0_0)) true c78 (by kernel_rfl) ?_
    refine LL.off (by kernel_rfl) (by kernel_rfl) ?_
    refine LL.off (by kernel_rfl) (by kernel_rfl) ?_
    refine LL.off (by kernel_rfl) (by kernel_rfl) ?_
    refine LL.off (by kernel_rfl) (by kernel_rfl) ?_
    refine LL.off (by kernel_rfl) (by kernel_rfl) ?_
    refine LL.off (by kernel_rfl) (by kernel_rfl) ?_
    refine LL.off (by kernel_rfl) (by kernel_rfl) ?_
    refine LL.op (.bool true) (by kernel_rfl) (fun w _ => by kernel_rfl) ?_
    refine LL.op (.bool true) (by kernel_rfl) (fun w _ => by kernel_rfl) ?_
    refine LL.off (by kernel_rfl) (by kernel_rfl) ?_
    refine LL.off (by kernel_rfl) (by kernel_rfl) ?_
    refine LL.off (by kernel_rfl) (by kernel_rfl) ?_
    refine LL.off (by kernel_rfl) (by kernel_rfl) ?_
    refine LL.off (by kernel_rfl) (by kernel_rfl) ?_
    refine LL.off (by kernel_rfl) (by kernel_rfl) ?_
    refine LL.off (by kernel_rfl) (by kernel_rfl) ?_
    refine LL.op (.bool true) (by kernel_rfl) (fun w _ => by kernel_rfl) ?_
    refine LL.op (.bool true) (by kernel_rfl) (fun w _ => by kernel_rfl) ?_
    refine LL.done (s' := [(2, .bool true)]) [2] (by kernel_rfl) ?_
    refine NN.then ?_
    refine J.ret ?_
    refine NN.fin1 2 (.bool true) (by kernel_rfl) (by kernel_rfl) (.inl rfl) (fun w hi => hi.ret ?_)
    first | (cases H; rfl) | (obtain rfl := Option.some.inj H; rfl) | (simp only [Option.some.injEq, Prod.mk.injEq] at H; obtain ⟨rfl⟩ := H; rfl)
  · rw [if_neg (of_decide_eq_false c78)] at H
    refine LL.bool 10 (decide (a0_1 ≤ a0_0)) false c78 (by kernel_rfl) ?_
    refine LL.op (.pointer (some ⟨g77, 2, none⟩)) (by kernel_rfl) (fun w _ => by kernel_rfl) ?_
    refine LL.op (.pointer (some ⟨g77, 2, none⟩)) (by kernel_rfl) (fun w _ => by kernel_rfl) ?_
    refine LL.op (.int .i64 a0_2) (by kernel_rfl) (ld 0 g77 2 rfl (by kernel_rfl) rfl (by kernel_rfl)) ?_
    refine LL.op (.pointer (some ⟨g77, 2, none⟩)) (by kernel_rfl) (fun w _ => by kernel_rfl) ?_
    refine LL.op (.pointer (some ⟨g77, 3, none⟩)) (by kernel_rfl) (fun w _ => by kernel_rfl) ?_
    refine LL.op (.int .i64 a0_3) (by kernel_rfl) (ld 0 g77 3 rfl (by kernel_rfl) rfl (by kernel_rfl)) ?_
    refine LL.op (.bool (decide (a0_3 ≤ a0_2))) (by kernel_rfl) (fun w _ => by kernel_rfl) ?_
    refine LL.op (.bool (decide (a0_3 ≤ a0_2))) (by kernel_rfl) (fun w _ => by kernel_rfl) ?_
    refine LL.op (.bool (decide (a0_3 ≤ a0_2))) (by kernel_rfl) (fun w _ => by kernel_rfl) ?_
    rcases Bool.eq_false_or_eq_true (decide (a0_3 ≤ a0_2)) with c79 | c79
    · rw [if_pos (of_decide_eq_true c79)] at H
      refine LL.bool 19 (decide (a0_3 ≤ a0_2)) true c79 (by kernel_rfl) ?_
      refine LL.off (by kernel_rfl) (by kernel_rfl) ?_
      refine LL.off (by kernel_rfl) (by kernel_rfl) ?_
      refine LL.off (by kernel_rfl) (by kernel_rfl) ?_
      refine LL.off (by kernel_rfl) (by kernel_rfl) ?_
      refine LL.off (by kernel_rfl) (by kernel_rfl) ?_
      refine LL.off (by kernel_rfl) (by kernel_rfl) ?_
      refine LL.off (by kernel_rfl) (by kernel_rfl) ?_
      refine LL.op (.bool true) (by kernel_rfl) (fun w _ => by kernel_rfl) ?_
      refine LL.op (.bool true) (by kernel_rfl) (fun w _ => by kernel_rfl) ?_
      refine LL.done (s' := [(2, .bool true)]) [2] (by kernel_rfl) ?_
      refine NN.then ?_
      refine J.ret ?_
      refine NN.fin1 2 (.bool true) (by kernel_rfl) (by kernel_rfl) (.inl rfl) (fun w hi => hi.ret ?_)
      first | (cases H; rfl) | (obtain rfl := Option.some.inj H; rfl) | (simp only [Option.some.injEq, Prod.mk.injEq] at H; obtain ⟨rfl⟩ := H; rfl)
    · rw [if_neg (of_decide_eq_false c79)] at H
      refine LL.bool 19 (decide (a0_3 ≤ a0_2)) false c79 (by kernel_rfl) ?_
      refine LL.op (.pointer (some ⟨g77, 4, none⟩)) (by kernel_rfl) (fun w _ => by kernel_rfl) ?_
      refine LL.op (.pointer (some ⟨g77, 4, none⟩)) (by kernel_rfl) (fun w _ => by kernel_rfl) ?_
      refine LL.op (.int .i64 a0_4) (by kernel_rfl) (ld 0 g77 4 rfl (by kernel_rfl) rfl (by kernel_rfl)) ?_
      refine LL.op (.pointer (some ⟨g77, 4, none⟩)) (by kernel_rfl) (fun w _ => by kernel_rfl) ?_
      refine LL.op (.pointer (some ⟨g77, 5, none⟩)) (by kernel_rfl) (fun w _ => by kernel_rfl) ?_
      refine LL.op (.int .i64 a0_5) (by kernel_rfl) (ld 0 g77 5 rfl (by kernel_rfl) rfl (by kernel_rfl)) ?_
      refine LL.op (.bool (decide (a0_5 ≤ a0_4))) (by kernel_rfl) (fun w _ => by kernel_rfl) ?_
      refine LL.op (.bool (decide (a0_5 ≤ a0_4))) (by kernel_rfl) (fun w _ => by kernel_rfl) ?_
      refine LL.op (.bool (decide (a0_5 ≤ a0_4))) (by kernel_rfl) (fun w _ => by kernel_rfl) ?_
      refine LL.done (s' := [(2, .bool (decide (a0_5 ≤ a0_4)))]) [2] (by kernel_rfl) ?_
      refine NN.then ?_
      refine J.ret ?_
      refine NN.fin1 2 (.bool (decide (a0_5 ≤ a0_4))) (by kernel_rfl) (by kernel_rfl) (.inl rfl) (fun w hi => hi.ret ?_)
      first | (cases H; rfl) | (obtain rfl := Option.some.inj H; rfl) | (simp only [Option.some.injEq, Prod.mk.injEq] at H; obtain ⟨rfl⟩ := H; rfl)

/-! ### sawmillref13_Check: function 26 -/
def sawmillref13_Check.l0 (K : Nat) (a0 : List E41) : Nat → Int → Option (Int)
  | 0, _ => none
  | k + 1, x3l0 => if x3l0 < (a0.length : Int) then ((idx a0 x3l0).bind fun be83 => (if be83.1 < 1 then (some 10) else (if 6 < be83.1 then (some 10) else ((sawmillref13_Empty.f be83.2.1 be83.2.2.1 be83.2.2.2.1 be83.2.2.2.2.1 be83.2.2.2.2.2.1 be83.2.2.2.2.2.2).bind fun x86 => (if x86 = true then (some 19) else ((sawmillref13_Ranged.f be83.2.1 be83.2.2.1 be83.2.2.2.1 be83.2.2.2.2.1 be83.2.2.2.2.2.1 be83.2.2.2.2.2.2).bind fun x88 => (if x88 = true then (sawmillref13_Check.l0 K a0 k (IntKind.i64.wrap (x3l0 + 1))) else (some 9)))))))) else (some 0)
def sawmillref13_Check.f (K : Nat) (a0 : List E41) : Option (Int) := if 64 < (a0.length : Int) then (some 4) else (sawmillref13_Check.l0 K a0 K 0)
set_option maxRecDepth 100000 in
theorem sawmillref13_Check.calls (K : Nat) (a0 : List E41)  (Aa0 : Option Addr) (ca0 : Nat)  (r1 : Int) (w : World)   (ha0 : KRow (Cx.start w) enc41 7 a0 Aa0) (h : sawmillref13_Check.f K a0 = some r1) :
    Calls Try.prog 26 #[.slice Aa0 a0.length ca0] w (Ret w (.int .i64 r1)) := by
  have H := h
  clear h
  unfold sawmillref13_Check.f at H
  refine Go.Saw.calls (args := [.slice Aa0 a0.length ca0]) Try.func26 rfl Try.ntmps26 (by kernel_rfl) ?_
  refine J.seq ?_
  refine J.plain ?_
  refine LL.op (.int .i64 0) (by kernel_rfl) (fun w _ => by kernel_rfl) ?_
  refine LL.done (s' := [(0, .slice Aa0 a0.length ca0), (2, .int .i64 0)]) [0, 2] (by kernel_rfl) ?_
  refine NN.then ?_
  refine J.seq ?_
  refine J.seq ?_
  refine J.plain ?_
  refine LL.op (.slice Aa0 a0.length ca0) (by kernel_rfl) (fun w _ => by kernel_rfl) ?_
  refine LL.op (.int .i64 (a0.length : Int)) (by kernel_rfl) (fun w _ => by kernel_rfl) ?_
  refine LL.op (.bool (decide (64 < (a0.length : Int)))) (by kernel_rfl) (fun w _ => by kernel_rfl) ?_
  refine LL.done (s' := [(0, .slice Aa0 a0.length ca0), (2, .int .i64 0), (6, .bool (decide (64 < (a0.length : Int))))]) [0, 2, 6] (by kernel_rfl) ?_
  refine NN.then ?_
  rcases Bool.eq_false_or_eq_true (decide (64 < (a0.length : Int))) with c80 | c80
  · rw [if_pos (of_decide_eq_true c80)] at H
    refine J.condT (b := decide (64 < (a0.length : Int))) c80 (by kernel_rfl) (by kernel_rfl) ?_
    refine J.seq ?_
    refine J.plain ?_
    refine LL.op (.int .i64 4) (by kernel_rfl) (fun w _ => by kernel_rfl) ?_
    refine LL.done (s' := [(0, .slice Aa0 a0.length ca0), (2, .int .i64 4)]) [0, 2] (by kernel_rfl) ?_
    refine NN.then ?_
    refine J.ret ?_
    refine NN.then_ret ?_
    refine NN.fin1 2 (.int .i64 4) (by kernel_rfl) (by kernel_rfl) (.inl rfl) (fun w hi => hi.ret ?_)
    first | (cases H; rfl) | (obtain rfl := Option.some.inj H; rfl) | (simp only [Option.some.injEq, Prod.mk.injEq] at H; obtain ⟨rfl⟩ := H; rfl)
  · rw [if_neg (of_decide_eq_false c80)] at H
    refine J.condF (b := decide (64 < (a0.length : Int))) c80 (by kernel_rfl) (by kernel_rfl) ?_
    refine J.skip ?_
    refine NN.then ?_
    refine J.seq ?_
    refine J.seq ?_
    refine J.plain ?_
    refine LL.op (.int .i64 0) (by kernel_rfl) (fun w _ => by kernel_rfl) ?_
    refine LL.done (s' := [(0, .slice Aa0 a0.length ca0), (2, .int .i64 0), (3, .int .i64 0)]) [0, 2, 3] (by kernel_rfl) ?_
    refine NN.then ?_
    refine J.block ?_
    refine J.to [0, 2, 3] (s' := [(0, .slice Aa0 a0.length ca0), (2, .int .i64 0), (3, .int .i64 0)]) (by kernel_rfl) ?_
    refine J.loop (fun n_ s_ bs_ => ∃ (x3l0 : Int), sawmillref13_Check.l0 K a0 n_ x3l0 = some r1 ∧ s_ = [(0, .slice Aa0 a0.length ca0), (2, .int .i64 0), (3, .int .i64 x3l0)] ∧ [] = bs_) K ⟨0, H, rfl, rfl⟩ ?_
    rintro (_ | n_) s_ bs_ ⟨x3l0, H, rfl, rfl⟩
    · exact absurd H (by simp [sawmillref13_Check.l0])
    simp only [sawmillref13_Check.l0] at H
    refine J.seq ?_
    refine J.seq ?_
    refine J.plain ?_
    refine LL.op (.int .i64 x3l0) (by kernel_rfl) (fun w _ => by kernel_rfl) ?_
    refine LL.op (.slice Aa0 a0.length ca0) (by kernel_rfl) (fun w _ => by kernel_rfl) ?_
    refine LL.op (.int .i64 (a0.length : Int)) (by kernel_rfl) (fun w _ => by kernel_rfl) ?_
    refine LL.op (.bool (decide (x3l0 < (a0.length : Int)))) (by kernel_rfl) (fun w _ => by kernel_rfl) ?_
    refine LL.done (s' := [(0, .slice Aa0 a0.length ca0), (2, .int .i64 0), (3, .int .i64 x3l0), (10, .bool (decide (x3l0 < (a0.length : Int))))]) [0, 2, 3, 10] (by kernel_rfl) ?_
    refine NN.then ?_
    rcases Bool.eq_false_or_eq_true (decide (x3l0 < (a0.length : Int))) with c82 | c82
    · rw [if_pos (of_decide_eq_true c82)] at H
      refine J.condT (b := decide (x3l0 < (a0.length : Int))) c82 (by kernel_rfl) (by kernel_rfl) ?_
      refine J.skip ?_
      refine NN.then ?_
      refine J.seq ?_
      refine J.block ?_
      refine J.block ?_
      refine J.seq ?_
      refine J.plain ?_
      refine LL.op (.slice Aa0 a0.length ca0) (by kernel_rfl) (fun w _ => by kernel_rfl) ?_
      refine LL.op (.int .i64 x3l0) (by kernel_rfl) (fun w _ => by kernel_rfl) ?_
      obtain ⟨⟨e83_1, e83_2, e83_3, e83_4, e83_5, e83_6, e83_7⟩, he83, H⟩ := bind_some H
      (try dsimp only at H)
      refine LL.op (.pointer (rp Aa0 (x3l0.toNat * 7 + 0))) (by kernel_rfl) (idxR (cp := ca0) (ik := .i64) ha0 he83 rfl (by kernel_rfl) (by kernel_rfl) (by kernel_rfl)) ?_
      refine LL.op (.pointer (rp Aa0 (x3l0.toNat * 7 + 0))) (by kernel_rfl) (fldR (b := x3l0.toNat * 7) (off := 0) (o1 := 0) (o2 := 0) ha0 he83 rfl (by kernel_rfl) (by kernel_rfl) rfl) ?_
      refine LL.op (.int .i64 e83_1) (by kernel_rfl) (ldR (off := 0) ha0 he83 rfl (by kernel_rfl) (by kernel_rfl)) ?_
      refine LL.op (.bool (decide (e83_1 < 1))) (by kernel_rfl) (fun w _ => by kernel_rfl) ?_
      refine LL.op (.bool (decide (e83_1 < 1))) (by kernel_rfl) (fun w _ => by kernel_rfl) ?_
      rcases Bool.eq_false_or_eq_true (decide (e83_1 < 1)) with c84 | c84
      · rw [if_pos (of_decide_eq_true c84)] at H
        refine LL.bool 20 (decide (e83_1 < 1)) true c84 (by kernel_rfl) ?_
        refine LL.off (by kernel_rfl) (by kernel_rfl) ?_
        refine LL.off (by kernel_rfl) (by kernel_rfl) ?_
        refine LL.off (by kernel_rfl) (by kernel_rfl) ?_
        refine LL.off (by kernel_rfl) (by kernel_rfl) ?_
        refine LL.off (by kernel_rfl) (by kernel_rfl) ?_
        refine LL.off (by kernel_rfl) (by kernel_rfl) ?_
        refine LL.op (.bool true) (by kernel_rfl) (fun w _ => by kernel_rfl) ?_
        refine LL.op (.bool true) (by kernel_rfl) (fun w _ => by kernel_rfl) ?_
        refine LL.done (s' := [(0, .slice Aa0 a0.length ca0), (2, .int .i64 0), (3, .int .i64 x3l0), (13, .bool true)]) [0, 2, 3, 13] (by kernel_rfl) ?_
        refine NN.then ?_
        refine J.condT (b := true) rfl (by kernel_rfl) (by kernel_rfl) ?_
        refine J.seq ?_
        refine J.plain ?_
        refine LL.op (.int .i64 10) (by kernel_rfl) (fun w _ => by kernel_rfl) ?_
        refine LL.done (s' := [(0, .slice Aa0 a0.length ca0), (2, .int .i64 10), (3, .int .i64 x3l0)]) [0, 2, 3] (by kernel_rfl) ?_
        refine NN.then ?_
        refine J.ret ?_
        refine NN.block_ret ?_
        refine NN.block_ret ?_
        refine NN.then_ret ?_
        refine NN.then_ret ?_
        refine NN.block_ret ?_
        refine NN.then_ret ?_
        refine NN.fin1 2 (.int .i64 10) (by kernel_rfl) (by kernel_rfl) (.inl rfl) (fun w hi => hi.ret ?_)
        first | (cases H; rfl) | (obtain rfl := Option.some.inj H; rfl) | (simp only [Option.some.injEq, Prod.mk.injEq] at H; obtain ⟨rfl⟩ := H; rfl)
      · rw [if_neg (of_decide_eq_false c84)] at H
        refine LL.bool 20 (decide (e83_1 < 1)) false c84 (by kernel_rfl) ?_
        refine LL.op (.slice Aa0 a0.length ca0) (by kernel_rfl) (fun w _ => by kernel_rfl) ?_
        refine LL.op (.int .i64 x3l0) (by kernel_rfl) (fun w _ => by kernel_rfl) ?_
        refine LL.op (.pointer (rp Aa0 (x3l0.toNat * 7 + 0))) (by kernel_rfl) (idxR (cp := ca0) (ik := .i64) ha0 he83 rfl (by kernel_rfl) (by kernel_rfl) (by kernel_rfl)) ?_
        refine LL.op (.pointer (rp Aa0 (x3l0.toNat * 7 + 0))) (by kernel_rfl) (fldR (b := x3l0.toNat * 7) (off := 0) (o1 := 0) (o2 := 0) ha0 he83 rfl (by kernel_rfl) (by kernel_rfl) rfl) ?_
        refine LL.op (.int .i64 e83_1) (by kernel_rfl) (ldR (off := 0) ha0 he83 rfl (by kernel_rfl) (by kernel_rfl)) ?_
        refine LL.op (.bool (decide (6 < e83_1))) (by kernel_rfl) (fun w _ => by kernel_rfl) ?_
        refine LL.op (.bool (decide (6 < e83_1))) (by kernel_rfl) (fun w _ => by kernel_rfl) ?_
        refine LL.op (.bool (decide (6 < e83_1))) (by kernel_rfl) (fun w _ => by kernel_rfl) ?_
        refine LL.done (s' := [(0, .slice Aa0 a0.length ca0), (2, .int .i64 0), (3, .int .i64 x3l0), (13, .bool (decide (6 < e83_1)))]) [0, 2, 3, 13] (by kernel_rfl) ?_
        refine NN.then ?_
        rcases Bool.eq_false_or_eq_true (decide (6 < e83_1)) with c85 | c85
        · rw [if_pos (of_decide_eq_true c85)] at H
          refine J.condT (b := decide (6 < e83_1)) c85 (by kernel_rfl) (by kernel_rfl) ?_
          refine J.seq ?_
          refine J.plain ?_
          refine LL.op (.int .i64 10) (by kernel_rfl) (fun w _ => by kernel_rfl) ?_
          refine LL.done (s' := [(0, .slice Aa0 a0.length ca0), (2, .int .i64 10), (3, .int .i64 x3l0)]) [0, 2, 3] (by kernel_rfl) ?_
          refine NN.then ?_
          refine J.ret ?_
          refine NN.block_ret ?_
          refine NN.block_ret ?_
          refine NN.then_ret ?_
          refine NN.then_ret ?_
          refine NN.block_ret ?_
          refine NN.then_ret ?_
          refine NN.fin1 2 (.int .i64 10) (by kernel_rfl) (by kernel_rfl) (.inl rfl) (fun w hi => hi.ret ?_)
          first | (cases H; rfl) | (obtain rfl := Option.some.inj H; rfl) | (simp only [Option.some.injEq, Prod.mk.injEq] at H; obtain ⟨rfl⟩ := H; rfl)
        · rw [if_neg (of_decide_eq_false c85)] at H
          refine J.condF (b := decide (6 < e83_1)) c85 (by kernel_rfl) (by kernel_rfl) ?_
          refine J.seq ?_
          refine J.plain ?_
          refine LL.op (.slice Aa0 a0.length ca0) (by kernel_rfl) (fun w _ => by kernel_rfl) ?_
          refine LL.op (.int .i64 x3l0) (by kernel_rfl) (fun w _ => by kernel_rfl) ?_
          refine LL.op (.pointer (rp Aa0 (x3l0.toNat * 7 + 0))) (by kernel_rfl) (idxR (cp := ca0) (ik := .i64) ha0 he83 rfl (by kernel_rfl) (by kernel_rfl) (by kernel_rfl)) ?_
          refine LL.op (.pointer (rp Aa0 (x3l0.toNat * 7 + 1))) (by kernel_rfl) (fldR (b := x3l0.toNat * 7) (off := 1) (o1 := 0) (o2 := 1) ha0 he83 rfl (by kernel_rfl) (by kernel_rfl) rfl) ?_
          refine LL.op (.agg #[.int .i64 e83_2, .int .i64 e83_3, .int .i64 e83_4, .int .i64 e83_5, .int .i64 e83_6, .int .i64 e83_7]) (by kernel_rfl) (ldR (off := 1) ha0 he83 rfl (by kernel_rfl) (by kernel_rfl)) ?_
          obtain ⟨x86, hx86, H⟩ := bind_some H
          refine LL.call 50 #[.agg #[.int .i64 e83_2, .int .i64 e83_3, .int .i64 e83_4, .int .i64 e83_5, .int .i64 e83_6, .int .i64 e83_7]] (.bool x86) (by kernel_rfl) (fun w => by kernel_rfl) (fun w hw => sawmillref13_Empty.calls e83_2 e83_3 e83_4 e83_5 e83_6 e83_7   _ w   hx86) ?_
          refine LL.op (.bool x86) (by kernel_rfl) (fun w _ => by kernel_rfl) ?_
          refine LL.done (s' := [(0, .slice Aa0 a0.length ca0), (2, .int .i64 0), (3, .int .i64 x3l0), (28, .bool x86)]) [0, 2, 3, 28] (by kernel_rfl) ?_
          refine NN.then ?_
          rcases Bool.eq_false_or_eq_true (x86) with c87 | c87
          · rw [if_pos (c87)] at H
            refine J.condT (b := x86) c87 (by kernel_rfl) (by kernel_rfl) ?_
            refine J.seq ?_
            refine J.plain ?_
            refine LL.op (.int .i64 19) (by kernel_rfl) (fun w _ => by kernel_rfl) ?_
            refine LL.done (s' := [(0, .slice Aa0 a0.length ca0), (2, .int .i64 19), (3, .int .i64 x3l0)]) [0, 2, 3] (by kernel_rfl) ?_
            refine NN.then ?_
            refine J.ret ?_
            refine NN.block_ret ?_
            refine NN.block_ret ?_
            refine NN.then_ret ?_
            refine NN.then_ret ?_
            refine NN.block_ret ?_
            refine NN.then_ret ?_
            refine NN.fin1 2 (.int .i64 19) (by kernel_rfl) (by kernel_rfl) (.inl rfl) (fun w hi => hi.ret ?_)
            first | (cases H; rfl) | (obtain rfl := Option.some.inj H; rfl) | (simp only [Option.some.injEq, Prod.mk.injEq] at H; obtain ⟨rfl⟩ := H; rfl)
          · rw [if_neg (nebt c87)] at H
            refine J.condF (b := x86) c87 (by kernel_rfl) (by kernel_rfl) ?_
            refine J.seq ?_
            refine J.plain ?_
            refine LL.op (.slice Aa0 a0.length ca0) (by kernel_rfl) (fun w _ => by kernel_rfl) ?_
            refine LL.op (.int .i64 x3l0) (by kernel_rfl) (fun w _ => by kernel_rfl) ?_
            refine LL.op (.pointer (rp Aa0 (x3l0.toNat * 7 + 0))) (by kernel_rfl) (idxR (cp := ca0) (ik := .i64) ha0 he83 rfl (by kernel_rfl) (by kernel_rfl) (by kernel_rfl)) ?_
            refine LL.op (.pointer (rp Aa0 (x3l0.toNat * 7 + 1))) (by kernel_rfl) (fldR (b := x3l0.toNat * 7) (off := 1) (o1 := 0) (o2 := 1) ha0 he83 rfl (by kernel_rfl) (by kernel_rfl) rfl) ?_
            refine LL.op (.agg #[.int .i64 e83_2, .int .i64 e83_3, .int .i64 e83_4, .int .i64 e83_5, .int .i64 e83_6, .int .i64 e83_7]) (by kernel_rfl) (ldR (off := 1) ha0 he83 rfl (by kernel_rfl) (by kernel_rfl)) ?_
            obtain ⟨x88, hx88, H⟩ := bind_some H
            refine LL.call 60 #[.agg #[.int .i64 e83_2, .int .i64 e83_3, .int .i64 e83_4, .int .i64 e83_5, .int .i64 e83_6, .int .i64 e83_7]] (.bool x88) (by kernel_rfl) (fun w => by kernel_rfl) (fun w hw => sawmillref13_Ranged.calls e83_2 e83_3 e83_4 e83_5 e83_6 e83_7   _ w   hx88) ?_
            refine LL.op (.bool (!x88)) (by kernel_rfl) (fun w _ => by kernel_rfl) ?_
            refine LL.op (.bool (!x88)) (by kernel_rfl) (fun w _ => by kernel_rfl) ?_
            refine LL.done (s' := [(0, .slice Aa0 a0.length ca0), (2, .int .i64 0), (3, .int .i64 x3l0), (35, .bool (!x88))]) [0, 2, 3, 35] (by kernel_rfl) ?_
            refine NN.then ?_
            rcases Bool.eq_false_or_eq_true (x88) with c89 | c89
            · rw [if_pos (c89)] at H
              refine J.condF (b := !x88) (by rw [show (!x88) = !(x88) from rfl, c89]; rfl) (by kernel_rfl) (by kernel_rfl) ?_
              refine J.skip ?_
              refine NN.block_n ?_
              refine NN.block_n ?_
              refine NN.then ?_
              refine J.plain ?_
              refine LL.op (.int .i64 x3l0) (by kernel_rfl) (fun w _ => by kernel_rfl) ?_
              refine LL.op (.int .i64 (IntKind.i64.wrap (x3l0 + 1))) (by kernel_rfl) (fun w _ => by kernel_rfl) ?_
              refine LL.op (.int .i64 (IntKind.i64.wrap (x3l0 + 1))) (by kernel_rfl) (fun w _ => by kernel_rfl) ?_
              refine LL.done (s' := [(0, .slice Aa0 a0.length ca0), (2, .int .i64 0), (3, .int .i64 (IntKind.i64.wrap (x3l0 + 1)))]) [0, 2, 3] (by kernel_rfl) ?_
              exact NN.round' [0, 2, 3] (bs' := []) (Nat.lt_succ_self _) (List.Sublist.refl _) (by kernel_rfl) ⟨IntKind.i64.wrap (x3l0 + 1), H, rfl, rfl⟩
            · rw [if_neg (nebt c89)] at H
              refine J.condT (b := !x88) (by rw [show (!x88) = !(x88) from rfl, c89]; rfl) (by kernel_rfl) (by kernel_rfl) ?_
              refine J.seq ?_
              refine J.plain ?_
              refine LL.op (.int .i64 9) (by kernel_rfl) (fun w _ => by kernel_rfl) ?_
              refine LL.done (s' := [(0, .slice Aa0 a0.length ca0), (2, .int .i64 9), (3, .int .i64 x3l0)]) [0, 2, 3] (by kernel_rfl) ?_
              refine NN.then ?_
              refine J.ret ?_
              refine NN.block_ret ?_
              refine NN.block_ret ?_
              refine NN.then_ret ?_
              refine NN.then_ret ?_
              refine NN.block_ret ?_
              refine NN.then_ret ?_
              refine NN.fin1 2 (.int .i64 9) (by kernel_rfl) (by kernel_rfl) (.inl rfl) (fun w hi => hi.ret ?_)
              first | (cases H; rfl) | (obtain rfl := Option.some.inj H; rfl) | (simp only [Option.some.injEq, Prod.mk.injEq] at H; obtain ⟨rfl⟩ := H; rfl)
    · rw [if_neg (of_decide_eq_false c82)] at H
      refine J.condF (b := decide (x3l0 < (a0.length : Int))) c82 (by kernel_rfl) (by kernel_rfl) ?_
      refine J.exit ?_
      refine NN.then_exit ?_
      refine NN.then_exit ?_
      refine NN.block_same ?_
      refine NN.then ?_
      refine J.seq ?_
      refine J.plain ?_
      refine LL.op (.int .i64 0) (by kernel_rfl) (fun w _ => by kernel_rfl) ?_
      refine LL.done (s' := [(2, .int .i64 0)]) [2] (by kernel_rfl) ?_
      refine NN.then ?_
      refine J.ret ?_
      refine NN.fin1 2 (.int .i64 0) (by kernel_rfl) (by kernel_rfl) (.inl rfl) (fun w hi => hi.ret ?_)
      first | (cases H; rfl) | (obtain rfl := Option.some.inj H; rfl) | (simp only [Option.some.injEq, Prod.mk.injEq] at H; obtain ⟨rfl⟩ := H; rfl)

/-! ### sawmillref13_Same: function 40 -/
def sawmillref13_Same.l0 (K : Nat) (a0 : List E41) (a1 : List E41) : Nat → Int → Option (Bool)
  | 0, _ => none
  | k + 1, x5l0 => if x5l0 < (a0.length : Int) then ((idx a0 x5l0).bind fun be93 => ((idx a1 x5l0).bind fun be94 => (if ((be93.1 == be94.1) && ((((be93.2.1 == be94.2.1) && ((be93.2.2.1 == be94.2.2.1) && true)) && (((be93.2.2.2.1 == be94.2.2.2.1) && ((be93.2.2.2.2.1 == be94.2.2.2.2.1) && true)) && (((be93.2.2.2.2.2.1 == be94.2.2.2.2.2.1) && ((be93.2.2.2.2.2.2 == be94.2.2.2.2.2.2) && true)) && true))) && true)) = true then (sawmillref13_Same.l0 K a0 a1 k (IntKind.i64.wrap (x5l0 + 1))) else (some false)))) else (some true)
def sawmillref13_Same.f (K : Nat) (a0 : List E41) (a1 : List E41) : Option (Bool) := if (a0.length : Int) = (a1.length : Int) then (sawmillref13_Same.l0 K a0 a1 K 0) else (some false)
set_option maxRecDepth 100000 in
theorem sawmillref13_Same.calls (K : Nat) (a0 : List E41) (a1 : List E41)  (Aa0 : Option Addr) (ca0 : Nat) (Aa1 : Option Addr) (ca1 : Nat)  (r1 : Bool) (w : World)   (ha0 : KRow (Cx.start w) enc41 7 a0 Aa0) (ha1 : KRow (Cx.start w) enc41 7 a1 Aa1) (h : sawmillref13_Same.f K a0 a1 = some r1) :
    Calls Try.prog 40 #[.slice Aa0 a0.length ca0, .slice Aa1 a1.length ca1] w (Ret w (.bool r1)) := by
  have H := h
  clear h
  unfold sawmillref13_Same.f at H
  refine Go.Saw.calls (args := [.slice Aa0 a0.length ca0, .slice Aa1 a1.length ca1]) Try.func40 rfl Try.ntmps40 (by kernel_rfl) ?_
  refine J.seq ?_
  refine J.plain ?_
  refine LL.op (.bool false) (by kernel_rfl) (fun w _ => by kernel_rfl) ?_
  refine LL.done (s' := [(0, .slice Aa0 a0.length ca0), (1, .slice Aa1 a1.length ca1), (4, .bool false)]) [0, 1, 4] (by kernel_rfl) ?_
  refine NN.then ?_
  refine J.seq ?_
  refine J.seq ?_
  refine J.plain ?_
  refine LL.op (.slice Aa0 a0.length ca0) (by kernel_rfl) (fun w _ => by kernel_rfl) ?_
  refine LL.op (.int .i64 (a0.length : Int)) (by kernel_rfl) (fun w _ => by kernel_rfl) ?_
  refine LL.op (.slice Aa1 a1.length ca1) (by kernel_rfl) (fun w _ => by kernel_rfl) ?_
  refine LL.op (.int .i64 (a1.length : Int)) (by kernel_rfl) (fun w _ => by kernel_rfl) ?_
  refine LL.op (.bool (!((a0.length : Int) == (a1.length : Int)))) (by kernel_rfl) (fun w _ => by kernel_rfl) ?_
  refine LL.done (s' := [(0, .slice Aa0 a0.length ca0), (1, .slice Aa1 a1.length ca1), (4, .bool false), (10, .bool (!((a0.length : Int) == (a1.length : Int))))]) [0, 1, 4, 10] (by kernel_rfl) ?_
  refine NN.then ?_
  rcases Bool.eq_false_or_eq_true (((a0.length : Int) == (a1.length : Int))) with c90 | c90
  · rw [if_pos (eq_of_beq c90)] at H
    refine J.condF (b := !((a0.length : Int) == (a1.length : Int))) (by rw [show (!((a0.length : Int) == (a1.length : Int))) = !(((a0.length : Int) == (a1.length : Int))) from rfl, c90]; rfl) (by kernel_rfl) (by kernel_rfl) ?_
    refine J.skip ?_
    refine NN.then ?_
    refine J.seq ?_
    refine J.seq ?_
    refine J.plain ?_
    refine LL.op (.int .i64 0) (by kernel_rfl) (fun w _ => by kernel_rfl) ?_
    refine LL.done (s' := [(0, .slice Aa0 a0.length ca0), (1, .slice Aa1 a1.length ca1), (4, .bool false), (5, .int .i64 0)]) [0, 1, 4, 5] (by kernel_rfl) ?_
    refine NN.then ?_
    refine J.block ?_
    refine J.to [0, 1, 4, 5] (s' := [(0, .slice Aa0 a0.length ca0), (1, .slice Aa1 a1.length ca1), (4, .bool false), (5, .int .i64 0)]) (by kernel_rfl) ?_
    refine J.loop (fun n_ s_ bs_ => ∃ (x5l0 : Int), sawmillref13_Same.l0 K a0 a1 n_ x5l0 = some r1 ∧ s_ = [(0, .slice Aa0 a0.length ca0), (1, .slice Aa1 a1.length ca1), (4, .bool false), (5, .int .i64 x5l0)] ∧ [] = bs_) K ⟨0, H, rfl, rfl⟩ ?_
    rintro (_ | n_) s_ bs_ ⟨x5l0, H, rfl, rfl⟩
    · exact absurd H (by simp [sawmillref13_Same.l0])
    simp only [sawmillref13_Same.l0] at H
    refine J.seq ?_
    refine J.seq ?_
    refine J.plain ?_
    refine LL.op (.int .i64 x5l0) (by kernel_rfl) (fun w _ => by kernel_rfl) ?_
    refine LL.op (.slice Aa0 a0.length ca0) (by kernel_rfl) (fun w _ => by kernel_rfl) ?_
    refine LL.op (.int .i64 (a0.length : Int)) (by kernel_rfl) (fun w _ => by kernel_rfl) ?_
    refine LL.op (.bool (decide (x5l0 < (a0.length : Int)))) (by kernel_rfl) (fun w _ => by kernel_rfl) ?_
    refine LL.done (s' := [(0, .slice Aa0 a0.length ca0), (1, .slice Aa1 a1.length ca1), (4, .bool false), (5, .int .i64 x5l0), (14, .bool (decide (x5l0 < (a0.length : Int))))]) [0, 1, 4, 5, 14] (by kernel_rfl) ?_
    refine NN.then ?_
    rcases Bool.eq_false_or_eq_true (decide (x5l0 < (a0.length : Int))) with c92 | c92
    · rw [if_pos (of_decide_eq_true c92)] at H
      refine J.condT (b := decide (x5l0 < (a0.length : Int))) c92 (by kernel_rfl) (by kernel_rfl) ?_
      refine J.skip ?_
      refine NN.then ?_
      refine J.seq ?_
      refine J.block ?_
      refine J.seq ?_
      refine J.drawn follows (by kernel_rfl) ?_
      refine QQ.op (.slice Aa0 a0.length ca0) (by kernel_rfl) (fun w _ => by kernel_rfl) ?_
      refine QQ.op (.int .i64 x5l0) (by kernel_rfl) (fun w _ => by kernel_rfl) ?_
      obtain ⟨⟨e93_1, e93_2, e93_3, e93_4, e93_5, e93_6, e93_7⟩, he93, H⟩ := bind_some H
      (try dsimp only at H)
      refine QQ.op (.pointer (rp Aa0 (x5l0.toNat * 7 + 0))) (by kernel_rfl) (idxR (cp := ca0) (ik := .i64) ha0 he93 rfl (by kernel_rfl) (by kernel_rfl) (by kernel_rfl)) ?_
      refine QQ.op (.agg #[.int .i64 e93_1, .int .i64 e93_2, .int .i64 e93_3, .int .i64 e93_4, .int .i64 e93_5, .int .i64 e93_6, .int .i64 e93_7]) (by kernel_rfl) (ldR (off := 0) ha0 he93 rfl (by kernel_rfl) (by kernel_rfl)) ?_
      refine QQ.op (.slice Aa1 a1.length ca1) (by kernel_rfl) (fun w _ => by kernel_rfl) ?_
      refine QQ.op (.int .i64 x5l0) (by kernel_rfl) (fun w _ => by kernel_rfl) ?_
      obtain ⟨⟨e94_1, e94_2, e94_3, e94_4, e94_5, e94_6, e94_7⟩, he94, H⟩ := bind_some H
      (try dsimp only at H)
      refine QQ.op (.pointer (rp Aa1 (x5l0.toNat * 7 + 0))) (by kernel_rfl) (idxR (cp := ca1) (ik := .i64) ha1 he94 rfl (by kernel_rfl) (by kernel_rfl) (by kernel_rfl)) ?_
      refine QQ.op (.agg #[.int .i64 e94_1, .int .i64 e94_2, .int .i64 e94_3, .int .i64 e94_4, .int .i64 e94_5, .int .i64 e94_6, .int .i64 e94_7]) (by kernel_rfl) (ldR (off := 0) ha1 he94 rfl (by kernel_rfl) (by kernel_rfl)) ?_
      refine QQ.op (.bool (!((e93_1 == e94_1) && ((((e93_2 == e94_2) && ((e93_3 == e94_3) && true)) && (((e93_4 == e94_4) && ((e93_5 == e94_5) && true)) && (((e93_6 == e94_6) && ((e93_7 == e94_7) && true)) && true))) && true)))) (by kernel_rfl) (run_neS (xs := #[.int .i64 e93_1, .int .i64 e93_2, .int .i64 e93_3, .int .i64 e93_4, .int .i64 e93_5, .int .i64 e93_6, .int .i64 e93_7]) (ys := #[.int .i64 e94_1, .int .i64 e94_2, .int .i64 e94_3, .int .i64 e94_4, .int .i64 e94_5, .int .i64 e94_6, .int .i64 e94_7]) (b := ((e93_1 == e94_1) && ((((e93_2 == e94_2) && ((e93_3 == e94_3) && true)) && (((e93_4 == e94_4) && ((e93_5 == e94_5) && true)) && (((e93_6 == e94_6) && ((e93_7 == e94_7) && true)) && true))) && true))) rfl (by kernel_rfl) (by kernel_rfl) (by kernel_rfl) (by kernel_rfl)) ?_
      refine QQ.done (s' := [(0, .slice Aa0 a0.length ca0), (1, .slice Aa1 a1.length ca1), (4, .bool false), (5, .int .i64 x5l0), (25, .bool (!((e93_1 == e94_1) && ((((e93_2 == e94_2) && ((e93_3 == e94_3) && true)) && (((e93_4 == e94_4) && ((e93_5 == e94_5) && true)) && (((e93_6 == e94_6) && ((e93_7 == e94_7) && true)) && true))) && true))))]) [0, 1, 4, 5, 25] (by kernel_rfl) ?_
      refine NN.then ?_
      rcases Bool.eq_false_or_eq_true (((e93_1 == e94_1) && ((((e93_2 == e94_2) && ((e93_3 == e94_3) && true)) && (((e93_4 == e94_4) && ((e93_5 == e94_5) && true)) && (((e93_6 == e94_6) && ((e93_7 == e94_7) && true)) && true))) && true))) with c95 | c95
      · rw [if_pos (c95)] at H
        refine J.condF (b := !((e93_1 == e94_1) && ((((e93_2 == e94_2) && ((e93_3 == e94_3) && true)) && (((e93_4 == e94_4) && ((e93_5 == e94_5) && true)) && (((e93_6 == e94_6) && ((e93_7 == e94_7) && true)) && true))) && true))) (by rw [show (!((e93_1 == e94_1) && ((((e93_2 == e94_2) && ((e93_3 == e94_3) && true)) && (((e93_4 == e94_4) && ((e93_5 == e94_5) && true)) && (((e93_6 == e94_6) && ((e93_7 == e94_7) && true)) && true))) && true))) = !(((e93_1 == e94_1) && ((((e93_2 == e94_2) && ((e93_3 == e94_3) && true)) && (((e93_4 == e94_4) && ((e93_5 == e94_5) && true)) && (((e93_6 == e94_6) && ((e93_7 == e94_7) && true)) && true))) && true))) from rfl, c95]; rfl) (by kernel_rfl) (by kernel_rfl) ?_
        refine J.skip ?_
        refine NN.block_n ?_
        refine NN.then ?_
        refine J.plain ?_
        refine LL.op (.int .i64 x5l0) (by kernel_rfl) (fun w _ => by kernel_rfl) ?_
        refine LL.op (.int .i64 (IntKind.i64.wrap (x5l0 + 1))) (by kernel_rfl) (fun w _ => by kernel_rfl) ?_
        refine LL.op (.int .i64 (IntKind.i64.wrap (x5l0 + 1))) (by kernel_rfl) (fun w _ => by kernel_rfl) ?_
        refine LL.done (s' := [(0, .slice Aa0 a0.length ca0), (1, .slice Aa1 a1.length ca1), (4, .bool false), (5, .int .i64 (IntKind.i64.wrap (x5l0 + 1)))]) [0, 1, 4, 5] (by kernel_rfl) ?_
        exact NN.round' [0, 1, 4, 5] (bs' := []) (Nat.lt_succ_self _) (List.Sublist.refl _) (by kernel_rfl) ⟨IntKind.i64.wrap (x5l0 + 1), H, rfl, rfl⟩
      · rw [if_neg (nebt c95)] at H
        refine J.condT (b := !((e93_1 == e94_1) && ((((e93_2 == e94_2) && ((e93_3 == e94_3) && true)) && (((e93_4 == e94_4) && ((e93_5 == e94_5) && true)) && (((e93_6 == e94_6) && ((e93_7 == e94_7) && true)) && true))) && true))) (by rw [show (!((e93_1 == e94_1) && ((((e93_2 == e94_2) && ((e93_3 == e94_3) && true)) && (((e93_4 == e94_4) && ((e93_5 == e94_5) && true)) && (((e93_6 == e94_6) && ((e93_7 == e94_7) && true)) && true))) && true))) = !(((e93_1 == e94_1) && ((((e93_2 == e94_2) && ((e93_3 == e94_3) && true)) && (((e93_4 == e94_4) && ((e93_5 == e94_5) && true)) && (((e93_6 == e94_6) && ((e93_7 == e94_7) && true)) && true))) && true))) from rfl, c95]; rfl) (by kernel_rfl) (by kernel_rfl) ?_
        refine J.seq ?_
        refine J.plain ?_
        refine LL.op (.bool false) (by kernel_rfl) (fun w _ => by kernel_rfl) ?_
        refine LL.done (s' := [(0, .slice Aa0 a0.length ca0), (1, .slice Aa1 a1.length ca1), (4, .bool false), (5, .int .i64 x5l0)]) [0, 1, 4, 5] (by kernel_rfl) ?_
        refine NN.then ?_
        refine J.ret ?_
        refine NN.block_ret ?_
        refine NN.then_ret ?_
        refine NN.then_ret ?_
        refine NN.block_ret ?_
        refine NN.then_ret ?_
        refine NN.fin1 4 (.bool false) (by kernel_rfl) (by kernel_rfl) (.inl rfl) (fun w hi => hi.ret ?_)
        first | (cases H; rfl) | (obtain rfl := Option.some.inj H; rfl) | (simp only [Option.some.injEq, Prod.mk.injEq] at H; obtain ⟨rfl⟩ := H; rfl)
    · rw [if_neg (of_decide_eq_false c92)] at H
      refine J.condF (b := decide (x5l0 < (a0.length : Int))) c92 (by kernel_rfl) (by kernel_rfl) ?_
      refine J.exit ?_
      refine NN.then_exit ?_
      refine NN.then_exit ?_
      refine NN.block_same ?_
      refine NN.then ?_
      refine J.seq ?_
      refine J.plain ?_
      refine LL.op (.bool true) (by kernel_rfl) (fun w _ => by kernel_rfl) ?_
      refine LL.done (s' := [(4, .bool true)]) [4] (by kernel_rfl) ?_
      refine NN.then ?_
      refine J.ret ?_
      refine NN.fin1 4 (.bool true) (by kernel_rfl) (by kernel_rfl) (.inl rfl) (fun w hi => hi.ret ?_)
      first | (cases H; rfl) | (obtain rfl := Option.some.inj H; rfl) | (simp only [Option.some.injEq, Prod.mk.injEq] at H; obtain ⟨rfl⟩ := H; rfl)
  · rw [if_neg (nebf c90)] at H
    refine J.condT (b := !((a0.length : Int) == (a1.length : Int))) (by rw [show (!((a0.length : Int) == (a1.length : Int))) = !(((a0.length : Int) == (a1.length : Int))) from rfl, c90]; rfl) (by kernel_rfl) (by kernel_rfl) ?_
    refine J.seq ?_
    refine J.plain ?_
    refine LL.op (.bool false) (by kernel_rfl) (fun w _ => by kernel_rfl) ?_
    refine LL.done (s' := [(0, .slice Aa0 a0.length ca0), (1, .slice Aa1 a1.length ca1), (4, .bool false)]) [0, 1, 4] (by kernel_rfl) ?_
    refine NN.then ?_
    refine J.ret ?_
    refine NN.then_ret ?_
    refine NN.fin1 4 (.bool false) (by kernel_rfl) (by kernel_rfl) (.inl rfl) (fun w hi => hi.ret ?_)
    first | (cases H; rfl) | (obtain rfl := Option.some.inj H; rfl) | (simp only [Option.some.injEq, Prod.mk.injEq] at H; obtain ⟨rfl⟩ := H; rfl)

/-! ### sawmillref13_Knot: function 27 -/
def sawmillref13_Knot.f (a0_0 : Int) (a0_1 : Int) (a0_2 : Int) (a0_3 : Int) (a0_4 : Int) (a0_5 : Int) (a0_6 : Int) : Option (Bool) := if a0_0 = 1 then (some true) else (some (a0_0 == 2))
set_option maxRecDepth 100000 in
theorem sawmillref13_Knot.calls (a0_0 : Int) (a0_1 : Int) (a0_2 : Int) (a0_3 : Int) (a0_4 : Int) (a0_5 : Int) (a0_6 : Int)    (r1 : Bool) (w : World)    (h : sawmillref13_Knot.f a0_0 a0_1 a0_2 a0_3 a0_4 a0_5 a0_6 = some r1) :
    Calls Try.prog 27 #[.agg #[.int .i64 a0_0, .int .i64 a0_1, .int .i64 a0_2, .int .i64 a0_3, .int .i64 a0_4, .int .i64 a0_5, .int .i64 a0_6]] w (Ret w (.bool r1)) := by
  have H := h
  clear h
  unfold sawmillref13_Knot.f at H
  refine Go.Saw.calls (args := [.agg #[.int .i64 a0_0, .int .i64 a0_1, .int .i64 a0_2, .int .i64 a0_3, .int .i64 a0_4, .int .i64 a0_5, .int .i64 a0_6]]) Try.func27 rfl Try.ntmps27 (by kernel_rfl) ?_
  refine J.seq ?_
  refine J.plain ?_
  refine LL.box 41 (.tmp 0) [.int .i64 a0_0, .int .i64 a0_1, .int .i64 a0_2, .int .i64 a0_3, .int .i64 a0_4, .int .i64 a0_5, .int .i64 a0_6] (by kernel_rfl) rfl (by kernel_rfl) (fun g96 => ?_)
  refine LL.op (.bool false) (by kernel_rfl) (fun w _ => by kernel_rfl) ?_
  refine LL.done (s' := [(1, .pointer (some ⟨g96, 0, none⟩)), (2, .bool false)]) [1, 2] (by kernel_rfl) ?_
  refine NN.then ?_
  refine J.seq ?_
  refine J.plain ?_
  refine LL.op (.pointer (some ⟨g96, 0, none⟩)) (by kernel_rfl) (fun w _ => by kernel_rfl) ?_
  refine LL.op (.int .i64 a0_0) (by kernel_rfl) (ld 0 g96 0 rfl (by kernel_rfl) rfl (by kernel_rfl)) ?_
  refine LL.op (.bool (a0_0 == 1)) (by kernel_rfl) (fun w _ => by kernel_rfl) ?_
  refine LL.op (.bool (a0_0 == 1)) (by kernel_rfl) (fun w _ => by kernel_rfl) ?_
  rcases Bool.eq_false_or_eq_true ((a0_0 == 1)) with c97 | c97
  · rw [if_pos (eq_of_beq c97)] at H
    refine LL.bool 6 ((a0_0 == 1)) true c97 (by kernel_rfl) ?_
    refine LL.off (by kernel_rfl) (by kernel_rfl) ?_
    refine LL.off (by kernel_rfl) (by kernel_rfl) ?_
    refine LL.off (by kernel_rfl) (by kernel_rfl) ?_
    refine LL.op (.bool true) (by kernel_rfl) (fun w _ => by kernel_rfl) ?_
    refine LL.op (.bool true) (by kernel_rfl) (fun w _ => by kernel_rfl) ?_
    refine LL.done (s' := [(2, .bool true)]) [2] (by kernel_rfl) ?_
    refine NN.then ?_
    refine J.ret ?_
    refine NN.fin1 2 (.bool true) (by kernel_rfl) (by kernel_rfl) (.inl rfl) (fun w hi => hi.ret ?_)
    first | (cases H; rfl) | (obtain rfl := Option.some.inj H; rfl) | (simp only [Option.some.injEq, Prod.mk.injEq] at H; obtain ⟨rfl⟩ := H; rfl)
  · rw [if_neg (nebf c97)] at H
    refine LL.bool 6 ((a0_0 == 1)) false c97 (by kernel_rfl) ?_
    refine LL.op (.pointer (some ⟨g96, 0, none⟩)) (by kernel_rfl) (fun w _ => by kernel_rfl) ?_
    refine LL.op (.int .i64 a0_0) (by kernel_rfl) (ld 0 g96 0 rfl (by kernel_rfl) rfl (by kernel_rfl)) ?_
    refine LL.op (.bool (a0_0 == 2)) (by kernel_rfl) (fun w _ => by kernel_rfl) ?_
    refine LL.op (.bool (a0_0 == 2)) (by kernel_rfl) (fun w _ => by kernel_rfl) ?_
    refine LL.op (.bool (a0_0 == 2)) (by kernel_rfl) (fun w _ => by kernel_rfl) ?_
    refine LL.done (s' := [(2, .bool (a0_0 == 2))]) [2] (by kernel_rfl) ?_
    refine NN.then ?_
    refine J.ret ?_
    refine NN.fin1 2 (.bool (a0_0 == 2)) (by kernel_rfl) (by kernel_rfl) (.inl rfl) (fun w hi => hi.ret ?_)
    first | (cases H; rfl) | (obtain rfl := Option.some.inj H; rfl) | (simp only [Option.some.injEq, Prod.mk.injEq] at H; obtain ⟨rfl⟩ := H; rfl)

/-! ### sawmillref13_Count: function 35 -/
def sawmillref13_Count.l0 (K : Nat) (a0 : List E41) (a1 : Int) : Nat → Int → Int → Option (Int)
  | 0, _, _ => none
  | k + 1, x5l0, x6l0 => if x6l0 < (a0.length : Int) then ((idx a0 x6l0).bind fun be100 => (if be100.1 = a1 then (sawmillref13_Count.l0 K a0 a1 k (IntKind.i64.wrap (x5l0 + 1)) (IntKind.i64.wrap (x6l0 + 1))) else (sawmillref13_Count.l0 K a0 a1 k x5l0 (IntKind.i64.wrap (x6l0 + 1))))) else (some x5l0)
def sawmillref13_Count.f (K : Nat) (a0 : List E41) (a1 : Int) : Option (Int) := sawmillref13_Count.l0 K a0 a1 K 0 0
set_option maxRecDepth 100000 in
theorem sawmillref13_Count.calls (K : Nat) (a0 : List E41) (a1 : Int)  (Aa0 : Option Addr) (ca0 : Nat)  (r1 : Int) (w : World)   (ha0 : KRow (Cx.start w) enc41 7 a0 Aa0) (h : sawmillref13_Count.f K a0 a1 = some r1) :
    Calls Try.prog 35 #[.slice Aa0 a0.length ca0, .int .i64 a1] w (Ret w (.int .i64 r1)) := by
  have H := h
  clear h
  unfold sawmillref13_Count.f at H
  refine Go.Saw.calls (args := [.slice Aa0 a0.length ca0, .int .i64 a1]) Try.func35 rfl Try.ntmps35 (by kernel_rfl) ?_
  refine J.seq ?_
  refine J.plain ?_
  refine LL.op (.int .i64 0) (by kernel_rfl) (fun w _ => by kernel_rfl) ?_
  refine LL.done (s' := [(0, .slice Aa0 a0.length ca0), (1, .int .i64 a1), (4, .int .i64 0)]) [0, 1, 4] (by kernel_rfl) ?_
  refine NN.then ?_
  refine J.seq ?_
  refine J.plain ?_
  refine LL.op (.int .i64 0) (by kernel_rfl) (fun w _ => by kernel_rfl) ?_
  refine LL.done (s' := [(0, .slice Aa0 a0.length ca0), (1, .int .i64 a1), (4, .int .i64 0), (5, .int .i64 0)]) [0, 1, 4, 5] (by kernel_rfl) ?_
  refine NN.then ?_
  refine J.seq ?_
  refine J.seq ?_
  refine J.plain ?_
  refine LL.op (.int .i64 0) (by kernel_rfl) (fun w _ => by kernel_rfl) ?_
  refine LL.done (s' := [(0, .slice Aa0 a0.length ca0), (1, .int .i64 a1), (4, .int .i64 0), (5, .int .i64 0), (6, .int .i64 0)]) [0, 1, 4, 5, 6] (by kernel_rfl) ?_
  refine NN.then ?_
  refine J.block ?_
  refine J.to [0, 1, 4, 5, 6] (s' := [(0, .slice Aa0 a0.length ca0), (1, .int .i64 a1), (4, .int .i64 0), (5, .int .i64 0), (6, .int .i64 0)]) (by kernel_rfl) ?_
  refine J.loop (fun n_ s_ bs_ => ∃ (x5l0 : Int) (x6l0 : Int), sawmillref13_Count.l0 K a0 a1 n_ x5l0 x6l0 = some r1 ∧ s_ = [(0, .slice Aa0 a0.length ca0), (1, .int .i64 a1), (4, .int .i64 0), (5, .int .i64 x5l0), (6, .int .i64 x6l0)] ∧ [] = bs_) K ⟨0, 0, H, rfl, rfl⟩ ?_
  rintro (_ | n_) s_ bs_ ⟨x5l0, x6l0, H, rfl, rfl⟩
  · exact absurd H (by simp [sawmillref13_Count.l0])
  simp only [sawmillref13_Count.l0] at H
  refine J.seq ?_
  refine J.seq ?_
  refine J.plain ?_
  refine LL.op (.int .i64 x6l0) (by kernel_rfl) (fun w _ => by kernel_rfl) ?_
  refine LL.op (.slice Aa0 a0.length ca0) (by kernel_rfl) (fun w _ => by kernel_rfl) ?_
  refine LL.op (.int .i64 (a0.length : Int)) (by kernel_rfl) (fun w _ => by kernel_rfl) ?_
  refine LL.op (.bool (decide (x6l0 < (a0.length : Int)))) (by kernel_rfl) (fun w _ => by kernel_rfl) ?_
  refine LL.done (s' := [(0, .slice Aa0 a0.length ca0), (1, .int .i64 a1), (4, .int .i64 0), (5, .int .i64 x5l0), (6, .int .i64 x6l0), (10, .bool (decide (x6l0 < (a0.length : Int))))]) [0, 1, 4, 5, 6, 10] (by kernel_rfl) ?_
  refine NN.then ?_
  rcases Bool.eq_false_or_eq_true (decide (x6l0 < (a0.length : Int))) with c99 | c99
  · rw [if_pos (of_decide_eq_true c99)] at H
    refine J.condT (b := decide (x6l0 < (a0.length : Int))) c99 (by kernel_rfl) (by kernel_rfl) ?_
    refine J.skip ?_
    refine NN.then ?_
    refine J.seq ?_
    refine J.block ?_
    refine J.seq ?_
    refine J.plain ?_
    refine LL.op (.slice Aa0 a0.length ca0) (by kernel_rfl) (fun w _ => by kernel_rfl) ?_
    refine LL.op (.int .i64 x6l0) (by kernel_rfl) (fun w _ => by kernel_rfl) ?_
    obtain ⟨⟨e100_1, e100_2, e100_3, e100_4, e100_5, e100_6, e100_7⟩, he100, H⟩ := bind_some H
    (try dsimp only at H)
    refine LL.op (.pointer (rp Aa0 (x6l0.toNat * 7 + 0))) (by kernel_rfl) (idxR (cp := ca0) (ik := .i64) ha0 he100 rfl (by kernel_rfl) (by kernel_rfl) (by kernel_rfl)) ?_
    refine LL.op (.pointer (rp Aa0 (x6l0.toNat * 7 + 0))) (by kernel_rfl) (fldR (b := x6l0.toNat * 7) (off := 0) (o1 := 0) (o2 := 0) ha0 he100 rfl (by kernel_rfl) (by kernel_rfl) rfl) ?_
    refine LL.op (.int .i64 e100_1) (by kernel_rfl) (ldR (off := 0) ha0 he100 rfl (by kernel_rfl) (by kernel_rfl)) ?_
    refine LL.op (.int .i64 a1) (by kernel_rfl) (fun w _ => by kernel_rfl) ?_
    refine LL.op (.bool (e100_1 == a1)) (by kernel_rfl) (fun w _ => by kernel_rfl) ?_
    refine LL.done (s' := [(0, .slice Aa0 a0.length ca0), (1, .int .i64 a1), (4, .int .i64 0), (5, .int .i64 x5l0), (6, .int .i64 x6l0), (19, .bool (e100_1 == a1))]) [0, 1, 4, 5, 6, 19] (by kernel_rfl) ?_
    refine NN.then ?_
    rcases Bool.eq_false_or_eq_true ((e100_1 == a1)) with c101 | c101
    · rw [if_pos (eq_of_beq c101)] at H
      refine J.condT (b := (e100_1 == a1)) c101 (by kernel_rfl) (by kernel_rfl) ?_
      refine J.plain ?_
      refine LL.op (.int .i64 x5l0) (by kernel_rfl) (fun w _ => by kernel_rfl) ?_
      refine LL.op (.int .i64 (IntKind.i64.wrap (x5l0 + 1))) (by kernel_rfl) (fun w _ => by kernel_rfl) ?_
      refine LL.op (.int .i64 (IntKind.i64.wrap (x5l0 + 1))) (by kernel_rfl) (fun w _ => by kernel_rfl) ?_
      refine LL.done (s' := [(0, .slice Aa0 a0.length ca0), (1, .int .i64 a1), (4, .int .i64 0), (5, .int .i64 (IntKind.i64.wrap (x5l0 + 1))), (6, .int .i64 x6l0)]) [0, 1, 4, 5, 6] (by kernel_rfl) ?_
      refine NN.block_n ?_
      refine NN.then ?_
      refine J.plain ?_
      refine LL.op (.int .i64 x6l0) (by kernel_rfl) (fun w _ => by kernel_rfl) ?_
      refine LL.op (.int .i64 (IntKind.i64.wrap (x6l0 + 1))) (by kernel_rfl) (fun w _ => by kernel_rfl) ?_
      refine LL.op (.int .i64 (IntKind.i64.wrap (x6l0 + 1))) (by kernel_rfl) (fun w _ => by kernel_rfl) ?_
      refine LL.done (s' := [(0, .slice Aa0 a0.length ca0), (1, .int .i64 a1), (4, .int .i64 0), (5, .int .i64 (IntKind.i64.wrap (x5l0 + 1))), (6, .int .i64 (IntKind.i64.wrap (x6l0 + 1)))]) [0, 1, 4, 5, 6] (by kernel_rfl) ?_
      exact NN.round' [0, 1, 4, 5, 6] (bs' := []) (Nat.lt_succ_self _) (List.Sublist.refl _) (by kernel_rfl) ⟨IntKind.i64.wrap (x5l0 + 1), IntKind.i64.wrap (x6l0 + 1), H, rfl, rfl⟩
    · rw [if_neg (nebf c101)] at H
      refine J.condF (b := (e100_1 == a1)) c101 (by kernel_rfl) (by kernel_rfl) ?_
      refine J.skip ?_
      refine NN.block_n ?_
      refine NN.then ?_
      refine J.plain ?_
      refine LL.op (.int .i64 x6l0) (by kernel_rfl) (fun w _ => by kernel_rfl) ?_
      refine LL.op (.int .i64 (IntKind.i64.wrap (x6l0 + 1))) (by kernel_rfl) (fun w _ => by kernel_rfl) ?_
      refine LL.op (.int .i64 (IntKind.i64.wrap (x6l0 + 1))) (by kernel_rfl) (fun w _ => by kernel_rfl) ?_
      refine LL.done (s' := [(0, .slice Aa0 a0.length ca0), (1, .int .i64 a1), (4, .int .i64 0), (5, .int .i64 x5l0), (6, .int .i64 (IntKind.i64.wrap (x6l0 + 1)))]) [0, 1, 4, 5, 6] (by kernel_rfl) ?_
      exact NN.round' [0, 1, 4, 5, 6] (bs' := []) (Nat.lt_succ_self _) (List.Sublist.refl _) (by kernel_rfl) ⟨x5l0, IntKind.i64.wrap (x6l0 + 1), H, rfl, rfl⟩
  · rw [if_neg (of_decide_eq_false c99)] at H
    refine J.condF (b := decide (x6l0 < (a0.length : Int))) c99 (by kernel_rfl) (by kernel_rfl) ?_
    refine J.exit ?_
    refine NN.then_exit ?_
    refine NN.then_exit ?_
    refine NN.block_same ?_
    refine NN.then ?_
    refine J.seq ?_
    refine J.plain ?_
    refine LL.op (.int .i64 x5l0) (by kernel_rfl) (fun w _ => by kernel_rfl) ?_
    refine LL.op (.int .i64 x5l0) (by kernel_rfl) (fun w _ => by kernel_rfl) ?_
    refine LL.done (s' := [(4, .int .i64 x5l0)]) [4] (by kernel_rfl) ?_
    refine NN.then ?_
    refine J.ret ?_
    refine NN.fin1 4 (.int .i64 x5l0) (by kernel_rfl) (by kernel_rfl) (.inl rfl) (fun w hi => hi.ret ?_)
    first | (cases H; rfl) | (obtain rfl := Option.some.inj H; rfl) | (simp only [Option.some.injEq, Prod.mk.injEq] at H; obtain ⟨rfl⟩ := H; rfl)

/-! ### sawmillref13_Largest: function 37 -/
def sawmillref13_Largest.l0 (K : Nat) (a0 : List E41) (a1 : Int) : Nat → Int → Int → Option (Int)
  | 0, _, _ => none
  | k + 1, x5l0, x6l0 => if x6l0 < (a0.length : Int) then ((idx a0 x6l0).bind fun be104 => (if be104.1 = a1 then ((sawmillref13_Size.f be104.1 be104.2.1 be104.2.2.1 be104.2.2.2.1 be104.2.2.2.2.1 be104.2.2.2.2.2.1 be104.2.2.2.2.2.2).bind fun x106 => (sawmillref13_Largest.l0 K a0 a1 k (mx x5l0 x106) (IntKind.i64.wrap (x6l0 + 1)))) else (sawmillref13_Largest.l0 K a0 a1 k x5l0 (IntKind.i64.wrap (x6l0 + 1))))) else (some x5l0)
def sawmillref13_Largest.f (K : Nat) (a0 : List E41) (a1 : Int) : Option (Int) := sawmillref13_Largest.l0 K a0 a1 K 0 0
set_option maxRecDepth 100000 in
theorem sawmillref13_Largest.calls (K : Nat) (a0 : List E41) (a1 : Int)  (Aa0 : Option Addr) (ca0 : Nat)  (r1 : Int) (w : World)   (ha0 : KRow (Cx.start w) enc41 7 a0 Aa0) (h : sawmillref13_Largest.f K a0 a1 = some r1) :
    Calls Try.prog 37 #[.slice Aa0 a0.length ca0, .int .i64 a1] w (Ret w (.int .i64 r1)) := by
  have H := h
  clear h
  unfold sawmillref13_Largest.f at H
  refine Go.Saw.calls (args := [.slice Aa0 a0.length ca0, .int .i64 a1]) Try.func37 rfl Try.ntmps37 (by kernel_rfl) ?_
  refine J.seq ?_
  refine J.plain ?_
  refine LL.op (.int .i64 0) (by kernel_rfl) (fun w _ => by kernel_rfl) ?_
  refine LL.done (s' := [(0, .slice Aa0 a0.length ca0), (1, .int .i64 a1), (4, .int .i64 0)]) [0, 1, 4] (by kernel_rfl) ?_
  refine NN.then ?_
  refine J.seq ?_
  refine J.plain ?_
  refine LL.op (.int .i64 0) (by kernel_rfl) (fun w _ => by kernel_rfl) ?_
  refine LL.done (s' := [(0, .slice Aa0 a0.length ca0), (1, .int .i64 a1), (4, .int .i64 0), (5, .int .i64 0)]) [0, 1, 4, 5] (by kernel_rfl) ?_
  refine NN.then ?_
  refine J.seq ?_
  refine J.seq ?_
  refine J.plain ?_
  refine LL.op (.int .i64 0) (by kernel_rfl) (fun w _ => by kernel_rfl) ?_
  refine LL.done (s' := [(0, .slice Aa0 a0.length ca0), (1, .int .i64 a1), (4, .int .i64 0), (5, .int .i64 0), (6, .int .i64 0)]) [0, 1, 4, 5, 6] (by kernel_rfl) ?_
  refine NN.then ?_
  refine J.block ?_
  refine J.to [0, 1, 4, 5, 6] (s' := [(0, .slice Aa0 a0.length ca0), (1, .int .i64 a1), (4, .int .i64 0), (5, .int .i64 0), (6, .int .i64 0)]) (by kernel_rfl) ?_
  refine J.loop (fun n_ s_ bs_ => ∃ (x5l0 : Int) (x6l0 : Int), sawmillref13_Largest.l0 K a0 a1 n_ x5l0 x6l0 = some r1 ∧ s_ = [(0, .slice Aa0 a0.length ca0), (1, .int .i64 a1), (4, .int .i64 0), (5, .int .i64 x5l0), (6, .int .i64 x6l0)] ∧ [] = bs_) K ⟨0, 0, H, rfl, rfl⟩ ?_
  rintro (_ | n_) s_ bs_ ⟨x5l0, x6l0, H, rfl, rfl⟩
  · exact absurd H (by simp [sawmillref13_Largest.l0])
  simp only [sawmillref13_Largest.l0] at H
  refine J.seq ?_
  refine J.seq ?_
  refine J.plain ?_
  refine LL.op (.int .i64 x6l0) (by kernel_rfl) (fun w _ => by kernel_rfl) ?_
  refine LL.op (.slice Aa0 a0.length ca0) (by kernel_rfl) (fun w _ => by kernel_rfl) ?_
  refine LL.op (.int .i64 (a0.length : Int)) (by kernel_rfl) (fun w _ => by kernel_rfl) ?_
  refine LL.op (.bool (decide (x6l0 < (a0.length : Int)))) (by kernel_rfl) (fun w _ => by kernel_rfl) ?_
  refine LL.done (s' := [(0, .slice Aa0 a0.length ca0), (1, .int .i64 a1), (4, .int .i64 0), (5, .int .i64 x5l0), (6, .int .i64 x6l0), (10, .bool (decide (x6l0 < (a0.length : Int))))]) [0, 1, 4, 5, 6, 10] (by kernel_rfl) ?_
  refine NN.then ?_
  rcases Bool.eq_false_or_eq_true (decide (x6l0 < (a0.length : Int))) with c103 | c103
  · rw [if_pos (of_decide_eq_true c103)] at H
    refine J.condT (b := decide (x6l0 < (a0.length : Int))) c103 (by kernel_rfl) (by kernel_rfl) ?_
    refine J.skip ?_
    refine NN.then ?_
    refine J.seq ?_
    refine J.block ?_
    refine J.seq ?_
    refine J.plain ?_
    refine LL.op (.slice Aa0 a0.length ca0) (by kernel_rfl) (fun w _ => by kernel_rfl) ?_
    refine LL.op (.int .i64 x6l0) (by kernel_rfl) (fun w _ => by kernel_rfl) ?_
    obtain ⟨⟨e104_1, e104_2, e104_3, e104_4, e104_5, e104_6, e104_7⟩, he104, H⟩ := bind_some H
    (try dsimp only at H)
    refine LL.op (.pointer (rp Aa0 (x6l0.toNat * 7 + 0))) (by kernel_rfl) (idxR (cp := ca0) (ik := .i64) ha0 he104 rfl (by kernel_rfl) (by kernel_rfl) (by kernel_rfl)) ?_
    refine LL.op (.pointer (rp Aa0 (x6l0.toNat * 7 + 0))) (by kernel_rfl) (fldR (b := x6l0.toNat * 7) (off := 0) (o1 := 0) (o2 := 0) ha0 he104 rfl (by kernel_rfl) (by kernel_rfl) rfl) ?_
    refine LL.op (.int .i64 e104_1) (by kernel_rfl) (ldR (off := 0) ha0 he104 rfl (by kernel_rfl) (by kernel_rfl)) ?_
    refine LL.op (.int .i64 a1) (by kernel_rfl) (fun w _ => by kernel_rfl) ?_
    refine LL.op (.bool (e104_1 == a1)) (by kernel_rfl) (fun w _ => by kernel_rfl) ?_
    refine LL.done (s' := [(0, .slice Aa0 a0.length ca0), (1, .int .i64 a1), (4, .int .i64 0), (5, .int .i64 x5l0), (6, .int .i64 x6l0), (19, .bool (e104_1 == a1))]) [0, 1, 4, 5, 6, 19] (by kernel_rfl) ?_
    refine NN.then ?_
    rcases Bool.eq_false_or_eq_true ((e104_1 == a1)) with c105 | c105
    · rw [if_pos (eq_of_beq c105)] at H
      refine J.condT (b := (e104_1 == a1)) c105 (by kernel_rfl) (by kernel_rfl) ?_
      refine J.plain ?_
      refine LL.op (.int .i64 x5l0) (by kernel_rfl) (fun w _ => by kernel_rfl) ?_
      refine LL.op (.slice Aa0 a0.length ca0) (by kernel_rfl) (fun w _ => by kernel_rfl) ?_
      refine LL.op (.int .i64 x6l0) (by kernel_rfl) (fun w _ => by kernel_rfl) ?_
      refine LL.op (.pointer (rp Aa0 (x6l0.toNat * 7 + 0))) (by kernel_rfl) (idxR (cp := ca0) (ik := .i64) ha0 he104 rfl (by kernel_rfl) (by kernel_rfl) (by kernel_rfl)) ?_
      refine LL.op (.agg #[.int .i64 e104_1, .int .i64 e104_2, .int .i64 e104_3, .int .i64 e104_4, .int .i64 e104_5, .int .i64 e104_6, .int .i64 e104_7]) (by kernel_rfl) (ldR (off := 0) ha0 he104 rfl (by kernel_rfl) (by kernel_rfl)) ?_
      obtain ⟨x106, hx106, H⟩ := bind_some H
      refine LL.call 32 #[.agg #[.int .i64 e104_1, .int .i64 e104_2, .int .i64 e104_3, .int .i64 e104_4, .int .i64 e104_5, .int .i64 e104_6, .int .i64 e104_7]] (.int .i64 x106) (by kernel_rfl) (fun w => by kernel_rfl) (fun w hw => sawmillref13_Size.calls e104_1 e104_2 e104_3 e104_4 e104_5 e104_6 e104_7   _ w   hx106) ?_
      refine LL.op (.int .i64 (mx x5l0 x106)) (by kernel_rfl) (fun w _ => by kernel_rfl) ?_
      refine LL.op (.int .i64 (mx x5l0 x106)) (by kernel_rfl) (fun w _ => by kernel_rfl) ?_
      refine LL.done (s' := [(0, .slice Aa0 a0.length ca0), (1, .int .i64 a1), (4, .int .i64 0), (5, .int .i64 (mx x5l0 x106)), (6, .int .i64 x6l0)]) [0, 1, 4, 5, 6] (by kernel_rfl) ?_
      refine NN.block_n ?_
      refine NN.then ?_
      refine J.plain ?_
      refine LL.op (.int .i64 x6l0) (by kernel_rfl) (fun w _ => by kernel_rfl) ?_
      refine LL.op (.int .i64 (IntKind.i64.wrap (x6l0 + 1))) (by kernel_rfl) (fun w _ => by kernel_rfl) ?_
      refine LL.op (.int .i64 (IntKind.i64.wrap (x6l0 + 1))) (by kernel_rfl) (fun w _ => by kernel_rfl) ?_
      refine LL.done (s' := [(0, .slice Aa0 a0.length ca0), (1, .int .i64 a1), (4, .int .i64 0), (5, .int .i64 (mx x5l0 x106)), (6, .int .i64 (IntKind.i64.wrap (x6l0 + 1)))]) [0, 1, 4, 5, 6] (by kernel_rfl) ?_
      exact NN.round' [0, 1, 4, 5, 6] (bs' := []) (Nat.lt_succ_self _) (List.Sublist.refl _) (by kernel_rfl) ⟨mx x5l0 x106, IntKind.i64.wrap (x6l0 + 1), H, rfl, rfl⟩
    · rw [if_neg (nebf c105)] at H
      refine J.condF (b := (e104_1 == a1)) c105 (by kernel_rfl) (by kernel_rfl) ?_
      refine J.skip ?_
      refine NN.block_n ?_
      refine NN.then ?_
      refine J.plain ?_
      refine LL.op (.int .i64 x6l0) (by kernel_rfl) (fun w _ => by kernel_rfl) ?_
      refine LL.op (.int .i64 (IntKind.i64.wrap (x6l0 + 1))) (by kernel_rfl) (fun w _ => by kernel_rfl) ?_
      refine LL.op (.int .i64 (IntKind.i64.wrap (x6l0 + 1))) (by kernel_rfl) (fun w _ => by kernel_rfl) ?_
      refine LL.done (s' := [(0, .slice Aa0 a0.length ca0), (1, .int .i64 a1), (4, .int .i64 0), (5, .int .i64 x5l0), (6, .int .i64 (IntKind.i64.wrap (x6l0 + 1)))]) [0, 1, 4, 5, 6] (by kernel_rfl) ?_
      exact NN.round' [0, 1, 4, 5, 6] (bs' := []) (Nat.lt_succ_self _) (List.Sublist.refl _) (by kernel_rfl) ⟨x5l0, IntKind.i64.wrap (x6l0 + 1), H, rfl, rfl⟩
  · rw [if_neg (of_decide_eq_false c103)] at H
    refine J.condF (b := decide (x6l0 < (a0.length : Int))) c103 (by kernel_rfl) (by kernel_rfl) ?_
    refine J.exit ?_
    refine NN.then_exit ?_
    refine NN.then_exit ?_
    refine NN.block_same ?_
    refine NN.then ?_
    refine J.seq ?_
    refine J.plain ?_
    refine LL.op (.int .i64 x5l0) (by kernel_rfl) (fun w _ => by kernel_rfl) ?_
    refine LL.op (.int .i64 x5l0) (by kernel_rfl) (fun w _ => by kernel_rfl) ?_
    refine LL.done (s' := [(4, .int .i64 x5l0)]) [4] (by kernel_rfl) ?_
    refine NN.then ?_
    refine J.ret ?_
    refine NN.fin1 4 (.int .i64 x5l0) (by kernel_rfl) (by kernel_rfl) (.inl rfl) (fun w hi => hi.ret ?_)
    first | (cases H; rfl) | (obtain rfl := Option.some.inj H; rfl) | (simp only [Option.some.injEq, Prod.mk.injEq] at H; obtain ⟨rfl⟩ := H; rfl)

/-! ### sawmillref13_window: function 73 -/
def sawmillref13_window.l0 (K : Nat) (a0 : List E41) (a1_0 : Int) (a1_1 : Int) : Nat → Int → Int → Option (Int)
  | 0, _, _ => none
  | k + 1, x5l0, x6l0 => if x6l0 < (a0.length : Int) then ((idx a0 x6l0).bind fun be110 => ((sawmillref03_Meet.f be110.2.2.2.2.2.1 be110.2.2.2.2.2.2 a1_0 a1_1).bind fun bx111 => ((sawmillref13_Knot.f be110.1 be110.2.1 be110.2.2.1 be110.2.2.2.1 be110.2.2.2.2.1 be110.2.2.2.2.2.1 be110.2.2.2.2.2.2).bind fun x116 => (if x116 = true then (if bx111.1 < bx111.2 then ((sawmillref13_Size.f be110.1 be110.2.1 be110.2.2.1 be110.2.2.2.1 be110.2.2.2.2.1 be110.2.2.2.2.2.1 be110.2.2.2.2.2.2).bind fun x119 => (sawmillref13_window.l0 K a0 a1_0 a1_1 k (IntKind.i64.wrap (x5l0 + x119)) (IntKind.i64.wrap (x6l0 + 1)))) else (sawmillref13_window.l0 K a0 a1_0 a1_1 k x5l0 (IntKind.i64.wrap (x6l0 + 1)))) else (sawmillref13_window.l0 K a0 a1_0 a1_1 k x5l0 (IntKind.i64.wrap (x6l0 + 1))))))) else (some x5l0)
def sawmillref13_window.f (K : Nat) (a0 : List E41) (a1_0 : Int) (a1_1 : Int) : Option (Int) := sawmillref13_window.l0 K a0 a1_0 a1_1 K 0 0
set_option maxRecDepth 100000 in
theorem sawmillref13_window.calls (K : Nat) (a0 : List E41) (a1_0 : Int) (a1_1 : Int)  (Aa0 : Option Addr) (ca0 : Nat)  (r1 : Int) (w : World)   (ha0 : KRow (Cx.start w) enc41 7 a0 Aa0) (h : sawmillref13_window.f K a0 a1_0 a1_1 = some r1) :
    Calls Try.prog 73 #[.slice Aa0 a0.length ca0, .agg #[.int .i64 a1_0, .int .i64 a1_1]] w (Ret w (.int .i64 r1)) := by
  have H := h
  clear h
  unfold sawmillref13_window.f at H
  refine Go.Saw.calls (args := [.slice Aa0 a0.length ca0, .agg #[.int .i64 a1_0, .int .i64 a1_1]]) Try.func73 rfl Try.ntmps73 (by kernel_rfl) ?_
  refine J.seq ?_
  refine J.plain ?_
  refine LL.box 23 (.tmp 1) [.int .i64 a1_0, .int .i64 a1_1] (by kernel_rfl) rfl (by kernel_rfl) (fun g107 => ?_)
  refine LL.op (.int .i64 0) (by kernel_rfl) (fun w _ => by kernel_rfl) ?_
  refine LL.done (s' := [(0, .slice Aa0 a0.length ca0), (3, .pointer (some ⟨g107, 0, none⟩)), (4, .int .i64 0)]) [0, 3, 4] (by kernel_rfl) ?_
  refine NN.then ?_
  refine J.seq ?_
  refine J.plain ?_
  refine LL.op (.int .i64 0) (by kernel_rfl) (fun w _ => by kernel_rfl) ?_
  refine LL.done (s' := [(0, .slice Aa0 a0.length ca0), (3, .pointer (some ⟨g107, 0, none⟩)), (4, .int .i64 0), (5, .int .i64 0)]) [0, 3, 4, 5] (by kernel_rfl) ?_
  refine NN.then ?_
  refine J.seq ?_
  refine J.seq ?_
  refine J.plain ?_
  refine LL.op (.int .i64 0) (by kernel_rfl) (fun w _ => by kernel_rfl) ?_
  refine LL.done (s' := [(0, .slice Aa0 a0.length ca0), (3, .pointer (some ⟨g107, 0, none⟩)), (4, .int .i64 0), (5, .int .i64 0), (6, .int .i64 0)]) [0, 3, 4, 5, 6] (by kernel_rfl) ?_
  refine NN.then ?_
  refine J.block ?_
  refine J.to [0, 3, 4, 5, 6] (s' := [(0, .slice Aa0 a0.length ca0), (3, .pointer (some ⟨g107, 0, none⟩)), (4, .int .i64 0), (5, .int .i64 0), (6, .int .i64 0)]) (by kernel_rfl) ?_
  refine J.loop (fun n_ s_ bs_ => ∃ (x5l0 : Int) (x6l0 : Int), sawmillref13_window.l0 K a0 a1_0 a1_1 n_ x5l0 x6l0 = some r1 ∧ s_ = [(0, .slice Aa0 a0.length ca0), (3, .pointer (some ⟨g107, 0, none⟩)), (4, .int .i64 0), (5, .int .i64 x5l0), (6, .int .i64 x6l0)] ∧ [(g107, cl [.int .i64 a1_0, .int .i64 a1_1] 23)] = bs_) K ⟨0, 0, H, rfl, rfl⟩ ?_
  rintro (_ | n_) s_ bs_ ⟨x5l0, x6l0, H, rfl, rfl⟩
  · exact absurd H (by simp [sawmillref13_window.l0])
  simp only [sawmillref13_window.l0] at H
  refine J.seq ?_
  refine J.seq ?_
  refine J.plain ?_
  refine LL.op (.int .i64 x6l0) (by kernel_rfl) (fun w _ => by kernel_rfl) ?_
  refine LL.op (.slice Aa0 a0.length ca0) (by kernel_rfl) (fun w _ => by kernel_rfl) ?_
  refine LL.op (.int .i64 (a0.length : Int)) (by kernel_rfl) (fun w _ => by kernel_rfl) ?_
  refine LL.op (.bool (decide (x6l0 < (a0.length : Int)))) (by kernel_rfl) (fun w _ => by kernel_rfl) ?_
  refine LL.done (s' := [(0, .slice Aa0 a0.length ca0), (3, .pointer (some ⟨g107, 0, none⟩)), (4, .int .i64 0), (5, .int .i64 x5l0), (6, .int .i64 x6l0), (11, .bool (decide (x6l0 < (a0.length : Int))))]) [0, 3, 4, 5, 6, 11] (by kernel_rfl) ?_
  refine NN.then ?_
  rcases Bool.eq_false_or_eq_true (decide (x6l0 < (a0.length : Int))) with c109 | c109
  · rw [if_pos (of_decide_eq_true c109)] at H
    refine J.condT (b := decide (x6l0 < (a0.length : Int))) c109 (by kernel_rfl) (by kernel_rfl) ?_
    refine J.skip ?_
    refine NN.then ?_
    refine J.seq ?_
    refine J.block ?_
    refine J.seq ?_
    obtain ⟨⟨e110_1, e110_2, e110_3, e110_4, e110_5, e110_6, e110_7⟩, he110, H⟩ := bind_some H
    (try dsimp only at H)
    obtain ⟨⟨x111_1, x111_2⟩, hx111, H⟩ := bind_some H
    (try dsimp only at H)
    refine J.cut (α := Nat) (fun q113 => [(0, .slice Aa0 a0.length ca0), (3, .pointer (some ⟨g107, 0, none⟩)), (4, .int .i64 0), (5, .int .i64 x5l0), (6, .int .i64 x6l0), (7, .pointer (some ⟨q113, 0, none⟩))]) (fun q113 => [(q113, cl [.int .i64 x111_1, .int .i64 x111_2] 23), (g107, cl [.int .i64 a1_0, .int .i64 a1_1] 23)]) ?_ ?_
    · skip
      refine J.held follows ?_
      refine HH.take 0 (.slice Aa0 a0.length ca0) rfl (by kernel_rfl) (by kernel_rfl) (fun _ h => h) (fun w _ => by kernel_rfl) ?_
      refine HH.take 1 (.int .i64 x6l0) rfl (by kernel_rfl) (by kernel_rfl) (fun _ h => h) (fun w _ => by kernel_rfl) ?_
      refine HH.take 2 (.pointer (rp Aa0 (x6l0.toNat * 7 + 0))) rfl (by kernel_rfl) (by kernel_rfl) (fun _ h => h) (idxR (cp := ca0) (ik := .i64) ha0 he110 rfl (by kernel_rfl) (by kernel_rfl) (by kernel_rfl)) ?_
      refine HH.take 3 (.pointer (rp Aa0 (x6l0.toNat * 7 + 1))) rfl (by kernel_rfl) (by kernel_rfl) (fun _ h => h) (fldR (b := x6l0.toNat * 7) (off := 1) (o1 := 0) (o2 := 1) ha0 he110 rfl (by kernel_rfl) (by kernel_rfl) rfl) ?_
      refine HH.take 4 (.pointer (rp Aa0 (x6l0.toNat * 7 + 5))) rfl (by kernel_rfl) (by kernel_rfl) (fun _ h => h) (fldR (b := x6l0.toNat * 7) (off := 4) (o1 := 1) (o2 := 5) ha0 he110 rfl (by kernel_rfl) (by kernel_rfl) rfl) ?_
      refine HH.take 5 (.agg #[.int .i64 e110_6, .int .i64 e110_7]) rfl (by kernel_rfl) (by kernel_rfl) (fun _ h => h) (ldR (off := 5) ha0 he110 rfl (by kernel_rfl) (by kernel_rfl)) ?_
      refine HH.take 6 (.agg #[.int .i64 a1_0, .int .i64 a1_1]) rfl (by kernel_rfl) (by kernel_rfl) (fun _ h => h) (ld 0 g107 0 rfl (by kernel_rfl) rfl (by kernel_rfl)) ?_
      refine HH.all2 7 8 (by kernel_rfl) ?_ ?_
      · skip
        refine HS.call 74 #[.agg #[.int .i64 e110_6, .int .i64 e110_7], .agg #[.int .i64 a1_0, .int .i64 a1_1]] (.agg #[.int .i64 x111_1, .int .i64 x111_2]) rfl (by kernel_rfl) (fun w => by kernel_rfl) (fun _ h => h) (fun w hw => sawmillref03_Meet.calls e110_6 e110_7 a1_0 a1_1   _ _ w   hx111) ?_
        refine HH.all1 8 (by kernel_rfl) ?_
        refine HS.alloc 23 [.int .i64 0, .int .i64 0] rfl (by kernel_rfl) rfl (by kernel_rfl) (fun _ h => h) (fun g115 => ?_)
        refine HH.all1 9 (by kernel_rfl) ?_
        refine HS.store 0 g115 0 23 (.tmp 7) (.tmp 21) [.int .i64 x111_1, .int .i64 x111_2] (bs' := [(g115, cl [.int .i64 x111_1, .int .i64 x111_2] 23), (g107, cl [.int .i64 a1_0, .int .i64 a1_1] 23)]) rfl rfl (by kernel_rfl) rfl (by kernel_rfl) rfl (by kernel_rfl) (fun _ h => h.sub (List.Sublist.cons _ (List.Sublist.refl _))) ?_
        refine HH.done (s' := [(0, .slice Aa0 a0.length ca0), (3, .pointer (some ⟨g107, 0, none⟩)), (4, .int .i64 0), (5, .int .i64 x5l0), (6, .int .i64 x6l0), (7, .pointer (some ⟨g115, 0, none⟩))]) [0, 3, 4, 5, 6, 7] (by kernel_rfl) (by kernel_rfl) ?_
        exact NN.cut g115 (List.Perm.refl _) rfl
      · skip
        refine HS.alloc 23 [.int .i64 0, .int .i64 0] rfl (by kernel_rfl) rfl (by kernel_rfl) (fun _ h => h) (fun g120 => ?_)
        refine HH.all1 7 (by kernel_rfl) ?_
        refine HS.call 74 #[.agg #[.int .i64 e110_6, .int .i64 e110_7], .agg #[.int .i64 a1_0, .int .i64 a1_1]] (.agg #[.int .i64 x111_1, .int .i64 x111_2]) rfl (by kernel_rfl) (fun w => by kernel_rfl) (fun _ h => h.sub (List.Sublist.cons _ (List.Sublist.refl _))) (fun w hw => sawmillref03_Meet.calls e110_6 e110_7 a1_0 a1_1   _ _ w   hx111) ?_
        refine HH.all1 9 (by kernel_rfl) ?_
        refine HS.store 0 g120 0 23 (.tmp 7) (.tmp 21) [.int .i64 x111_1, .int .i64 x111_2] (bs' := [(g120, cl [.int .i64 x111_1, .int .i64 x111_2] 23), (g107, cl [.int .i64 a1_0, .int .i64 a1_1] 23)]) rfl rfl (by kernel_rfl) rfl (by kernel_rfl) rfl (by kernel_rfl) (fun _ h => h.sub (List.Sublist.cons _ (List.Sublist.refl _))) ?_
        refine HH.done (s' := [(0, .slice Aa0 a0.length ca0), (3, .pointer (some ⟨g107, 0, none⟩)), (4, .int .i64 0), (5, .int .i64 x5l0), (6, .int .i64 x6l0), (7, .pointer (some ⟨g120, 0, none⟩))]) [0, 3, 4, 5, 6, 7] (by kernel_rfl) (by kernel_rfl) ?_
        exact NN.cut g120 (List.Perm.refl _) rfl
    · rintro g115
      (try dsimp only)
      refine NN.then ?_
      refine J.seq ?_
      refine J.plain ?_
      refine LL.op (.slice Aa0 a0.length ca0) (by kernel_rfl) (fun w _ => by kernel_rfl) ?_
      refine LL.op (.int .i64 x6l0) (by kernel_rfl) (fun w _ => by kernel_rfl) ?_
      refine LL.op (.pointer (rp Aa0 (x6l0.toNat * 7 + 0))) (by kernel_rfl) (idxR (cp := ca0) (ik := .i64) ha0 he110 rfl (by kernel_rfl) (by kernel_rfl) (by kernel_rfl)) ?_
      refine LL.op (.agg #[.int .i64 e110_1, .int .i64 e110_2, .int .i64 e110_3, .int .i64 e110_4, .int .i64 e110_5, .int .i64 e110_6, .int .i64 e110_7]) (by kernel_rfl) (ldR (off := 0) ha0 he110 rfl (by kernel_rfl) (by kernel_rfl)) ?_
      obtain ⟨x116, hx116, H⟩ := bind_some H
      refine LL.call 27 #[.agg #[.int .i64 e110_1, .int .i64 e110_2, .int .i64 e110_3, .int .i64 e110_4, .int .i64 e110_5, .int .i64 e110_6, .int .i64 e110_7]] (.bool x116) (by kernel_rfl) (fun w => by kernel_rfl) (fun w hw => sawmillref13_Knot.calls e110_1 e110_2 e110_3 e110_4 e110_5 e110_6 e110_7   _ w   hx116) ?_
      refine LL.op (.bool x116) (by kernel_rfl) (fun w _ => by kernel_rfl) ?_
      rcases Bool.eq_false_or_eq_true (x116) with c117 | c117
      · rw [if_pos (c117)] at H
        refine LL.bool 27 (x116) true c117 (by kernel_rfl) ?_
        refine LL.op (.pointer (some ⟨g115, 0, none⟩)) (by kernel_rfl) (fun w _ => by kernel_rfl) ?_
        refine LL.op (.int .i64 x111_1) (by kernel_rfl) (ld 0 g115 0 rfl (by kernel_rfl) rfl (by kernel_rfl)) ?_
        refine LL.op (.pointer (some ⟨g115, 1, none⟩)) (by kernel_rfl) (fun w _ => by kernel_rfl) ?_
        refine LL.op (.int .i64 x111_2) (by kernel_rfl) (ld 0 g115 1 rfl (by kernel_rfl) rfl (by kernel_rfl)) ?_
        refine LL.op (.bool (decide (x111_1 < x111_2))) (by kernel_rfl) (fun w _ => by kernel_rfl) ?_
        refine LL.op (.bool (decide (x111_1 < x111_2))) (by kernel_rfl) (fun w _ => by kernel_rfl) ?_
        refine LL.done (s' := [(0, .slice Aa0 a0.length ca0), (3, .pointer (some ⟨g107, 0, none⟩)), (4, .int .i64 0), (5, .int .i64 x5l0), (6, .int .i64 x6l0), (33, .bool (decide (x111_1 < x111_2)))]) [0, 3, 4, 5, 6, 33] (by kernel_rfl) ?_
        refine NN.then ?_
        rcases Bool.eq_false_or_eq_true (decide (x111_1 < x111_2)) with c118 | c118
        · rw [if_pos (of_decide_eq_true c118)] at H
          refine J.condT (b := decide (x111_1 < x111_2)) c118 (by kernel_rfl) (by kernel_rfl) ?_
          refine J.plain ?_
          refine LL.op (.int .i64 x5l0) (by kernel_rfl) (fun w _ => by kernel_rfl) ?_
          refine LL.op (.slice Aa0 a0.length ca0) (by kernel_rfl) (fun w _ => by kernel_rfl) ?_
          refine LL.op (.int .i64 x6l0) (by kernel_rfl) (fun w _ => by kernel_rfl) ?_
          refine LL.op (.pointer (rp Aa0 (x6l0.toNat * 7 + 0))) (by kernel_rfl) (idxR (cp := ca0) (ik := .i64) ha0 he110 rfl (by kernel_rfl) (by kernel_rfl) (by kernel_rfl)) ?_
          refine LL.op (.agg #[.int .i64 e110_1, .int .i64 e110_2, .int .i64 e110_3, .int .i64 e110_4, .int .i64 e110_5, .int .i64 e110_6, .int .i64 e110_7]) (by kernel_rfl) (ldR (off := 0) ha0 he110 rfl (by kernel_rfl) (by kernel_rfl)) ?_
          obtain ⟨x119, hx119, H⟩ := bind_some H
          refine LL.call 32 #[.agg #[.int .i64 e110_1, .int .i64 e110_2, .int .i64 e110_3, .int .i64 e110_4, .int .i64 e110_5, .int .i64 e110_6, .int .i64 e110_7]] (.int .i64 x119) (by kernel_rfl) (fun w => by kernel_rfl) (fun w hw => sawmillref13_Size.calls e110_1 e110_2 e110_3 e110_4 e110_5 e110_6 e110_7   _ w   hx119) ?_
          refine LL.op (.int .i64 (IntKind.i64.wrap (x5l0 + x119))) (by kernel_rfl) (fun w _ => by kernel_rfl) ?_
          refine LL.op (.int .i64 (IntKind.i64.wrap (x5l0 + x119))) (by kernel_rfl) (fun w _ => by kernel_rfl) ?_
          refine LL.done (s' := [(0, .slice Aa0 a0.length ca0), (3, .pointer (some ⟨g107, 0, none⟩)), (4, .int .i64 0), (5, .int .i64 (IntKind.i64.wrap (x5l0 + x119))), (6, .int .i64 x6l0)]) [0, 3, 4, 5, 6] (by kernel_rfl) ?_
          refine NN.block_n ?_
          refine NN.then ?_
          refine J.plain ?_
          refine LL.op (.int .i64 x6l0) (by kernel_rfl) (fun w _ => by kernel_rfl) ?_
          refine LL.op (.int .i64 (IntKind.i64.wrap (x6l0 + 1))) (by kernel_rfl) (fun w _ => by kernel_rfl) ?_
          refine LL.op (.int .i64 (IntKind.i64.wrap (x6l0 + 1))) (by kernel_rfl) (fun w _ => by kernel_rfl) ?_
          refine LL.done (s' := [(0, .slice Aa0 a0.length ca0), (3, .pointer (some ⟨g107, 0, none⟩)), (4, .int .i64 0), (5, .int .i64 (IntKind.i64.wrap (x5l0 + x119))), (6, .int .i64 (IntKind.i64.wrap (x6l0 + 1)))]) [0, 3, 4, 5, 6] (by kernel_rfl) ?_
          exact NN.round' [0, 3, 4, 5, 6] (bs' := [(g107, cl [.int .i64 a1_0, .int .i64 a1_1] 23)]) (Nat.lt_succ_self _) (List.Sublist.cons _ (List.Sublist.refl _)) (by kernel_rfl) ⟨IntKind.i64.wrap (x5l0 + x119), IntKind.i64.wrap (x6l0 + 1), H, rfl, rfl⟩
        · rw [if_neg (of_decide_eq_false c118)] at H
          refine J.condF (b := decide (x111_1 < x111_2)) c118 (by kernel_rfl) (by kernel_rfl) ?_
          refine J.skip ?_
          refine NN.block_n ?_
          refine NN.then ?_
          refine J.plain ?_
          refine LL.op (.int .i64 x6l0) (by kernel_rfl) (fun w _ => by kernel_rfl) ?_
          refine LL.op (.int .i64 (IntKind.i64.wrap (x6l0 + 1))) (by kernel_rfl) (fun w _ => by kernel_rfl) ?_
          refine LL.op (.int .i64 (IntKind.i64.wrap (x6l0 + 1))) (by kernel_rfl) (fun w _ => by kernel_rfl) ?_
          refine LL.done (s' := [(0, .slice Aa0 a0.length ca0), (3, .pointer (some ⟨g107, 0, none⟩)), (4, .int .i64 0), (5, .int .i64 x5l0), (6, .int .i64 (IntKind.i64.wrap (x6l0 + 1)))]) [0, 3, 4, 5, 6] (by kernel_rfl) ?_
          exact NN.round' [0, 3, 4, 5, 6] (bs' := [(g107, cl [.int .i64 a1_0, .int .i64 a1_1] 23)]) (Nat.lt_succ_self _) (List.Sublist.cons _ (List.Sublist.refl _)) (by kernel_rfl) ⟨x5l0, IntKind.i64.wrap (x6l0 + 1), H, rfl, rfl⟩
      · rw [if_neg (nebt c117)] at H
        refine LL.bool 27 (x116) false c117 (by kernel_rfl) ?_
        refine LL.off (by kernel_rfl) (by kernel_rfl) ?_
        refine LL.off (by kernel_rfl) (by kernel_rfl) ?_
        refine LL.off (by kernel_rfl) (by kernel_rfl) ?_
        refine LL.off (by kernel_rfl) (by kernel_rfl) ?_
        refine LL.off (by kernel_rfl) (by kernel_rfl) ?_
        refine LL.op (.bool false) (by kernel_rfl) (fun w _ => by kernel_rfl) ?_
        refine LL.done (s' := [(0, .slice Aa0 a0.length ca0), (3, .pointer (some ⟨g107, 0, none⟩)), (4, .int .i64 0), (5, .int .i64 x5l0), (6, .int .i64 x6l0), (33, .bool false)]) [0, 3, 4, 5, 6, 33] (by kernel_rfl) ?_
        refine NN.then ?_
        refine J.condF (b := false) rfl (by kernel_rfl) (by kernel_rfl) ?_
        refine J.skip ?_
        refine NN.block_n ?_
        refine NN.then ?_
        refine J.plain ?_
        refine LL.op (.int .i64 x6l0) (by kernel_rfl) (fun w _ => by kernel_rfl) ?_
        refine LL.op (.int .i64 (IntKind.i64.wrap (x6l0 + 1))) (by kernel_rfl) (fun w _ => by kernel_rfl) ?_
        refine LL.op (.int .i64 (IntKind.i64.wrap (x6l0 + 1))) (by kernel_rfl) (fun w _ => by kernel_rfl) ?_
        refine LL.done (s' := [(0, .slice Aa0 a0.length ca0), (3, .pointer (some ⟨g107, 0, none⟩)), (4, .int .i64 0), (5, .int .i64 x5l0), (6, .int .i64 (IntKind.i64.wrap (x6l0 + 1)))]) [0, 3, 4, 5, 6] (by kernel_rfl) ?_
        exact NN.round' [0, 3, 4, 5, 6] (bs' := [(g107, cl [.int .i64 a1_0, .int .i64 a1_1] 23)]) (Nat.lt_succ_self _) (List.Sublist.cons _ (List.Sublist.refl _)) (by kernel_rfl) ⟨x5l0, IntKind.i64.wrap (x6l0 + 1), H, rfl, rfl⟩
  · rw [if_neg (of_decide_eq_false c109)] at H
    refine J.condF (b := decide (x6l0 < (a0.length : Int))) c109 (by kernel_rfl) (by kernel_rfl) ?_
    refine J.exit ?_
    refine NN.then_exit ?_
    refine NN.then_exit ?_
    refine NN.block_same ?_
    refine NN.then ?_
    refine J.seq ?_
    refine J.plain ?_
    refine LL.op (.int .i64 x5l0) (by kernel_rfl) (fun w _ => by kernel_rfl) ?_
    refine LL.op (.int .i64 x5l0) (by kernel_rfl) (fun w _ => by kernel_rfl) ?_
    refine LL.done (s' := [(4, .int .i64 x5l0)]) [4] (by kernel_rfl) ?_
    refine NN.then ?_
    refine J.ret ?_
    refine NN.fin1 4 (.int .i64 x5l0) (by kernel_rfl) (by kernel_rfl) (.inl rfl) (fun w hi => hi.ret ?_)
    first | (cases H; rfl) | (obtain rfl := Option.some.inj H; rfl) | (simp only [Option.some.injEq, Prod.mk.injEq] at H; obtain ⟨rfl⟩ := H; rfl)

/-! ### sawmillref13_Worst: function 46 -/
def sawmillref13_Worst.l0 (K : Nat) (a0 : List E41) (a1 : Int) : Nat → Int → Int → Option (Int)
  | 0, _, _ => none
  | k + 1, x5l0, x6l0 => if x6l0 < (a0.length : Int) then ((idx a0 x6l0).bind fun be127 => ((sawmillref13_window.f K a0 (IntKind.i64.wrap ((IntKind.i64.wrap (be127.2.2.2.2.2.1 - a1)) + 1)) (IntKind.i64.wrap ((IntKind.i64.wrap ((IntKind.i64.wrap (be127.2.2.2.2.2.1 - a1)) + 1)) + a1))).bind fun x128 => (sawmillref13_Worst.l0 K a0 a1 k (mx x5l0 x128) (IntKind.i64.wrap (x6l0 + 1))))) else (some x5l0)
def sawmillref13_Worst.f (K : Nat) (a0 : List E41) (a1 : Int) : Option (Int) := (sawmillref13_Check.f K a0).bind fun x121 => (if x121 = 0 then (if a1 < 1 then (some 0) else (if 20000 < a1 then (some 0) else (sawmillref13_Worst.l0 K a0 a1 K 0 0))) else (some 0))
set_option maxRecDepth 100000 in
theorem sawmillref13_Worst.calls (K : Nat) (a0 : List E41) (a1 : Int)  (Aa0 : Option Addr) (ca0 : Nat)  (r1 : Int) (w : World)   (ha0 : KRow (Cx.start w) enc41 7 a0 Aa0) (h : sawmillref13_Worst.f K a0 a1 = some r1) :
    Calls Try.prog 46 #[.slice Aa0 a0.length ca0, .int .i64 a1] w (Ret w (.int .i64 r1)) := by
  have H := h
  clear h
  unfold sawmillref13_Worst.f at H
  refine Go.Saw.calls (args := [.slice Aa0 a0.length ca0, .int .i64 a1]) Try.func46 rfl Try.ntmps46 (by kernel_rfl) ?_
  refine J.seq ?_
  refine J.plain ?_
  refine LL.op (.int .i64 0) (by kernel_rfl) (fun w _ => by kernel_rfl) ?_
  refine LL.done (s' := [(0, .slice Aa0 a0.length ca0), (1, .int .i64 a1), (4, .int .i64 0)]) [0, 1, 4] (by kernel_rfl) ?_
  refine NN.then ?_
  refine J.seq ?_
  refine J.seq ?_
  refine J.plain ?_
  refine LL.op (.slice Aa0 a0.length ca0) (by kernel_rfl) (fun w _ => by kernel_rfl) ?_
  obtain ⟨x121, hx121, H⟩ := bind_some H
  refine LL.call 26 #[.slice Aa0 a0.length ca0] (.int .i64 x121) (by kernel_rfl) (fun w => by kernel_rfl) (fun w hw => sawmillref13_Check.calls K a0  _ _ _ w  (ha0.at hw) hx121) ?_
  refine LL.op (.bool (!(x121 == 0))) (by kernel_rfl) (fun w _ => by kernel_rfl) ?_
  refine LL.op (.bool (!(x121 == 0))) (by kernel_rfl) (fun w _ => by kernel_rfl) ?_
  rcases Bool.eq_false_or_eq_true ((x121 == 0)) with c122 | c122
  · rw [if_pos (eq_of_beq c122)] at H
    refine LL.bool 11 (!(x121 == 0)) false (by rw [show (!(x121 == 0)) = !((x121 == 0)) from rfl, c122]; rfl) (by kernel_rfl) ?_
    refine LL.op (.int .i64 a1) (by kernel_rfl) (fun w _ => by kernel_rfl) ?_
    refine LL.op (.bool (decide (a1 < 1))) (by kernel_rfl) (fun w _ => by kernel_rfl) ?_
    refine LL.op (.bool (decide (a1 < 1))) (by kernel_rfl) (fun w _ => by kernel_rfl) ?_
    refine LL.op (.bool (decide (a1 < 1))) (by kernel_rfl) (fun w _ => by kernel_rfl) ?_
    rcases Bool.eq_false_or_eq_true (decide (a1 < 1)) with c123 | c123
    · rw [if_pos (of_decide_eq_true c123)] at H
      refine LL.bool 15 (decide (a1 < 1)) true c123 (by kernel_rfl) ?_
      refine LL.off (by kernel_rfl) (by kernel_rfl) ?_
      refine LL.off (by kernel_rfl) (by kernel_rfl) ?_
      refine LL.op (.bool true) (by kernel_rfl) (fun w _ => by kernel_rfl) ?_
      refine LL.done (s' := [(0, .slice Aa0 a0.length ca0), (1, .int .i64 a1), (4, .int .i64 0), (18, .bool true)]) [0, 1, 4, 18] (by kernel_rfl) ?_
      refine NN.then ?_
      refine J.condT (b := true) rfl (by kernel_rfl) (by kernel_rfl) ?_
      refine J.seq ?_
      refine J.plain ?_
      refine LL.op (.int .i64 0) (by kernel_rfl) (fun w _ => by kernel_rfl) ?_
      refine LL.done (s' := [(0, .slice Aa0 a0.length ca0), (1, .int .i64 a1), (4, .int .i64 0)]) [0, 1, 4] (by kernel_rfl) ?_
      refine NN.then ?_
      refine J.ret ?_
      refine NN.then_ret ?_
      refine NN.fin1 4 (.int .i64 0) (by kernel_rfl) (by kernel_rfl) (.inl rfl) (fun w hi => hi.ret ?_)
      first | (cases H; rfl) | (obtain rfl := Option.some.inj H; rfl) | (simp only [Option.some.injEq, Prod.mk.injEq] at H; obtain ⟨rfl⟩ := H; rfl)
    · rw [if_neg (of_decide_eq_false c123)] at H
      refine LL.bool 15 (decide (a1 < 1)) false c123 (by kernel_rfl) ?_
      refine LL.op (.int .i64 a1) (by kernel_rfl) (fun w _ => by kernel_rfl) ?_
      refine LL.op (.bool (decide (20000 < a1))) (by kernel_rfl) (fun w _ => by kernel_rfl) ?_
      refine LL.op (.bool (decide (20000 < a1))) (by kernel_rfl) (fun w _ => by kernel_rfl) ?_
      refine LL.done (s' := [(0, .slice Aa0 a0.length ca0), (1, .int .i64 a1), (4, .int .i64 0), (18, .bool (decide (20000 < a1)))]) [0, 1, 4, 18] (by kernel_rfl) ?_
      refine NN.then ?_
      rcases Bool.eq_false_or_eq_true (decide (20000 < a1)) with c124 | c124
      · rw [if_pos (of_decide_eq_true c124)] at H
        refine J.condT (b := decide (20000 < a1)) c124 (by kernel_rfl) (by kernel_rfl) ?_
        refine J.seq ?_
        refine J.plain ?_
        refine LL.op (.int .i64 0) (by kernel_rfl) (fun w _ => by kernel_rfl) ?_
        refine LL.done (s' := [(0, .slice Aa0 a0.length ca0), (1, .int .i64 a1), (4, .int .i64 0)]) [0, 1, 4] (by kernel_rfl) ?_
        refine NN.then ?_
        refine J.ret ?_
        refine NN.then_ret ?_
        refine NN.fin1 4 (.int .i64 0) (by kernel_rfl) (by kernel_rfl) (.inl rfl) (fun w hi => hi.ret ?_)
        first | (cases H; rfl) | (obtain rfl := Option.some.inj H; rfl) | (simp only [Option.some.injEq, Prod.mk.injEq] at H; obtain ⟨rfl⟩ := H; rfl)
      · rw [if_neg (of_decide_eq_false c124)] at H
        refine J.condF (b := decide (20000 < a1)) c124 (by kernel_rfl) (by kernel_rfl) ?_
        refine J.skip ?_
        refine NN.then ?_
        refine J.seq ?_
        refine J.plain ?_
        refine LL.op (.int .i64 0) (by kernel_rfl) (fun w _ => by kernel_rfl) ?_
        refine LL.done (s' := [(0, .slice Aa0 a0.length ca0), (1, .int .i64 a1), (4, .int .i64 0), (5, .int .i64 0)]) [0, 1, 4, 5] (by kernel_rfl) ?_
        refine NN.then ?_
        refine J.seq ?_
        refine J.seq ?_
        refine J.plain ?_
        refine LL.op (.int .i64 0) (by kernel_rfl) (fun w _ => by kernel_rfl) ?_
        refine LL.done (s' := [(0, .slice Aa0 a0.length ca0), (1, .int .i64 a1), (4, .int .i64 0), (5, .int .i64 0), (6, .int .i64 0)]) [0, 1, 4, 5, 6] (by kernel_rfl) ?_
        refine NN.then ?_
        refine J.block ?_
        refine J.to [0, 1, 4, 5, 6] (s' := [(0, .slice Aa0 a0.length ca0), (1, .int .i64 a1), (4, .int .i64 0), (5, .int .i64 0), (6, .int .i64 0)]) (by kernel_rfl) ?_
        refine J.loop (fun n_ s_ bs_ => ∃ (x5l0 : Int) (x6l0 : Int), sawmillref13_Worst.l0 K a0 a1 n_ x5l0 x6l0 = some r1 ∧ s_ = [(0, .slice Aa0 a0.length ca0), (1, .int .i64 a1), (4, .int .i64 0), (5, .int .i64 x5l0), (6, .int .i64 x6l0)] ∧ [] = bs_) K ⟨0, 0, H, rfl, rfl⟩ ?_
        rintro (_ | n_) s_ bs_ ⟨x5l0, x6l0, H, rfl, rfl⟩
        · exact absurd H (by simp [sawmillref13_Worst.l0])
        simp only [sawmillref13_Worst.l0] at H
        refine J.seq ?_
        refine J.seq ?_
        refine J.plain ?_
        refine LL.op (.int .i64 x6l0) (by kernel_rfl) (fun w _ => by kernel_rfl) ?_
        refine LL.op (.slice Aa0 a0.length ca0) (by kernel_rfl) (fun w _ => by kernel_rfl) ?_
        refine LL.op (.int .i64 (a0.length : Int)) (by kernel_rfl) (fun w _ => by kernel_rfl) ?_
        refine LL.op (.bool (decide (x6l0 < (a0.length : Int)))) (by kernel_rfl) (fun w _ => by kernel_rfl) ?_
        refine LL.done (s' := [(0, .slice Aa0 a0.length ca0), (1, .int .i64 a1), (4, .int .i64 0), (5, .int .i64 x5l0), (6, .int .i64 x6l0), (22, .bool (decide (x6l0 < (a0.length : Int))))]) [0, 1, 4, 5, 6, 22] (by kernel_rfl) ?_
        refine NN.then ?_
        rcases Bool.eq_false_or_eq_true (decide (x6l0 < (a0.length : Int))) with c126 | c126
        · rw [if_pos (of_decide_eq_true c126)] at H
          refine J.condT (b := decide (x6l0 < (a0.length : Int))) c126 (by kernel_rfl) (by kernel_rfl) ?_
          refine J.skip ?_
          refine NN.then ?_
          refine J.seq ?_
          refine J.block ?_
          refine J.seq ?_
          refine J.plain ?_
          refine LL.op (.slice Aa0 a0.length ca0) (by kernel_rfl) (fun w _ => by kernel_rfl) ?_
          refine LL.op (.int .i64 x6l0) (by kernel_rfl) (fun w _ => by kernel_rfl) ?_
          obtain ⟨⟨e127_1, e127_2, e127_3, e127_4, e127_5, e127_6, e127_7⟩, he127, H⟩ := bind_some H
          (try dsimp only at H)
          refine LL.op (.pointer (rp Aa0 (x6l0.toNat * 7 + 0))) (by kernel_rfl) (idxR (cp := ca0) (ik := .i64) ha0 he127 rfl (by kernel_rfl) (by kernel_rfl) (by kernel_rfl)) ?_
          refine LL.op (.pointer (rp Aa0 (x6l0.toNat * 7 + 1))) (by kernel_rfl) (fldR (b := x6l0.toNat * 7) (off := 1) (o1 := 0) (o2 := 1) ha0 he127 rfl (by kernel_rfl) (by kernel_rfl) rfl) ?_
          refine LL.op (.pointer (rp Aa0 (x6l0.toNat * 7 + 5))) (by kernel_rfl) (fldR (b := x6l0.toNat * 7) (off := 4) (o1 := 1) (o2 := 5) ha0 he127 rfl (by kernel_rfl) (by kernel_rfl) rfl) ?_
          refine LL.op (.pointer (rp Aa0 (x6l0.toNat * 7 + 5))) (by kernel_rfl) (fldR (b := x6l0.toNat * 7) (off := 0) (o1 := 5) (o2 := 5) ha0 he127 rfl (by kernel_rfl) (by kernel_rfl) rfl) ?_
          refine LL.op (.int .i64 e127_6) (by kernel_rfl) (ldR (off := 5) ha0 he127 rfl (by kernel_rfl) (by kernel_rfl)) ?_
          refine LL.op (.int .i64 a1) (by kernel_rfl) (fun w _ => by kernel_rfl) ?_
          refine LL.op (.int .i64 (IntKind.i64.wrap (e127_6 - a1))) (by kernel_rfl) (fun w _ => by kernel_rfl) ?_
          refine LL.op (.int .i64 (IntKind.i64.wrap ((IntKind.i64.wrap (e127_6 - a1)) + 1))) (by kernel_rfl) (fun w _ => by kernel_rfl) ?_
          refine LL.op (.int .i64 (IntKind.i64.wrap ((IntKind.i64.wrap (e127_6 - a1)) + 1))) (by kernel_rfl) (fun w _ => by kernel_rfl) ?_
          refine LL.done (s' := [(0, .slice Aa0 a0.length ca0), (1, .int .i64 a1), (4, .int .i64 0), (5, .int .i64 x5l0), (6, .int .i64 x6l0), (7, .int .i64 (IntKind.i64.wrap ((IntKind.i64.wrap (e127_6 - a1)) + 1)))]) [0, 1, 4, 5, 6, 7] (by kernel_rfl) ?_
          refine NN.then ?_
          refine J.plain ?_
          refine LL.op (.int .i64 x5l0) (by kernel_rfl) (fun w _ => by kernel_rfl) ?_
          refine LL.op (.slice Aa0 a0.length ca0) (by kernel_rfl) (fun w _ => by kernel_rfl) ?_
          refine LL.op (.int .i64 (IntKind.i64.wrap ((IntKind.i64.wrap (e127_6 - a1)) + 1))) (by kernel_rfl) (fun w _ => by kernel_rfl) ?_
          refine LL.op (.int .i64 (IntKind.i64.wrap ((IntKind.i64.wrap (e127_6 - a1)) + 1))) (by kernel_rfl) (fun w _ => by kernel_rfl) ?_
          refine LL.op (.int .i64 a1) (by kernel_rfl) (fun w _ => by kernel_rfl) ?_
          refine LL.op (.int .i64 (IntKind.i64.wrap ((IntKind.i64.wrap ((IntKind.i64.wrap (e127_6 - a1)) + 1)) + a1))) (by kernel_rfl) (fun w _ => by kernel_rfl) ?_
          refine LL.op (.agg #[.int .i64 (IntKind.i64.wrap ((IntKind.i64.wrap (e127_6 - a1)) + 1)), .int .i64 (IntKind.i64.wrap ((IntKind.i64.wrap ((IntKind.i64.wrap (e127_6 - a1)) + 1)) + a1))]) (by kernel_rfl) (fun w _ => by kernel_rfl) ?_
          obtain ⟨x128, hx128, H⟩ := bind_some H
          refine LL.call 73 #[.slice Aa0 a0.length ca0, .agg #[.int .i64 (IntKind.i64.wrap ((IntKind.i64.wrap (e127_6 - a1)) + 1)), .int .i64 (IntKind.i64.wrap ((IntKind.i64.wrap ((IntKind.i64.wrap (e127_6 - a1)) + 1)) + a1))]] (.int .i64 x128) (by kernel_rfl) (fun w => by kernel_rfl) (fun w hw => sawmillref13_window.calls K a0 (IntKind.i64.wrap ((IntKind.i64.wrap (e127_6 - a1)) + 1)) (IntKind.i64.wrap ((IntKind.i64.wrap ((IntKind.i64.wrap (e127_6 - a1)) + 1)) + a1))  _ _ _ w  (ha0.at hw) hx128) ?_
          refine LL.op (.int .i64 (mx x5l0 x128)) (by kernel_rfl) (fun w _ => by kernel_rfl) ?_
          refine LL.op (.int .i64 (mx x5l0 x128)) (by kernel_rfl) (fun w _ => by kernel_rfl) ?_
          refine LL.done (s' := [(0, .slice Aa0 a0.length ca0), (1, .int .i64 a1), (4, .int .i64 0), (5, .int .i64 (mx x5l0 x128)), (6, .int .i64 x6l0)]) [0, 1, 4, 5, 6] (by kernel_rfl) ?_
          refine NN.block_n ?_
          refine NN.then ?_
          refine J.plain ?_
          refine LL.op (.int .i64 x6l0) (by kernel_rfl) (fun w _ => by kernel_rfl) ?_
          refine LL.op (.int .i64 (IntKind.i64.wrap (x6l0 + 1))) (by kernel_rfl) (fun w _ => by kernel_rfl) ?_
          refine LL.op (.int .i64 (IntKind.i64.wrap (x6l0 + 1))) (by kernel_rfl) (fun w _ => by kernel_rfl) ?_
          refine LL.done (s' := [(0, .slice Aa0 a0.length ca0), (1, .int .i64 a1), (4, .int .i64 0), (5, .int .i64 (mx x5l0 x128)), (6, .int .i64 (IntKind.i64.wrap (x6l0 + 1)))]) [0, 1, 4, 5, 6] (by kernel_rfl) ?_
          exact NN.round' [0, 1, 4, 5, 6] (bs' := []) (Nat.lt_succ_self _) (List.Sublist.refl _) (by kernel_rfl) ⟨mx x5l0 x128, IntKind.i64.wrap (x6l0 + 1), H, rfl, rfl⟩
        · rw [if_neg (of_decide_eq_false c126)] at H
          refine J.condF (b := decide (x6l0 < (a0.length : Int))) c126 (by kernel_rfl) (by kernel_rfl) ?_
          refine J.exit ?_
          refine NN.then_exit ?_
          refine NN.then_exit ?_
          refine NN.block_same ?_
          refine NN.then ?_
          refine J.seq ?_
          refine J.plain ?_
          refine LL.op (.int .i64 x5l0) (by kernel_rfl) (fun w _ => by kernel_rfl) ?_
          refine LL.op (.int .i64 x5l0) (by kernel_rfl) (fun w _ => by kernel_rfl) ?_
          refine LL.done (s' := [(4, .int .i64 x5l0)]) [4] (by kernel_rfl) ?_
          refine NN.then ?_
          refine J.ret ?_
          refine NN.fin1 4 (.int .i64 x5l0) (by kernel_rfl) (by kernel_rfl) (.inl rfl) (fun w hi => hi.ret ?_)
          first | (cases H; rfl) | (obtain rfl := Option.some.inj H; rfl) | (simp only [Option.some.injEq, Prod.mk.injEq] at H; obtain ⟨rfl⟩ := H; rfl)
  · rw [if_neg (nebf c122)] at H
    refine LL.bool 11 (!(x121 == 0)) true (by rw [show (!(x121 == 0)) = !((x121 == 0)) from rfl, c122]; rfl) (by kernel_rfl) ?_
    refine LL.off (by kernel_rfl) (by kernel_rfl) ?_
    refine LL.off (by kernel_rfl) (by kernel_rfl) ?_
    refine LL.op (.bool true) (by kernel_rfl) (fun w _ => by kernel_rfl) ?_
    refine LL.op (.bool true) (by kernel_rfl) (fun w _ => by kernel_rfl) ?_
    refine LL.off (by kernel_rfl) (by kernel_rfl) ?_
    refine LL.off (by kernel_rfl) (by kernel_rfl) ?_
    refine LL.op (.bool true) (by kernel_rfl) (fun w _ => by kernel_rfl) ?_
    refine LL.done (s' := [(0, .slice Aa0 a0.length ca0), (1, .int .i64 a1), (4, .int .i64 0), (18, .bool true)]) [0, 1, 4, 18] (by kernel_rfl) ?_
    refine NN.then ?_
    refine J.condT (b := true) rfl (by kernel_rfl) (by kernel_rfl) ?_
    refine J.seq ?_
    refine J.plain ?_
    refine LL.op (.int .i64 0) (by kernel_rfl) (fun w _ => by kernel_rfl) ?_
    refine LL.done (s' := [(0, .slice Aa0 a0.length ca0), (1, .int .i64 a1), (4, .int .i64 0)]) [0, 1, 4] (by kernel_rfl) ?_
    refine NN.then ?_
    refine J.ret ?_
    refine NN.then_ret ?_
    refine NN.fin1 4 (.int .i64 0) (by kernel_rfl) (by kernel_rfl) (.inl rfl) (fun w hi => hi.ret ?_)
    first | (cases H; rfl) | (obtain rfl := Option.some.inj H; rfl) | (simp only [Option.some.injEq, Prod.mk.injEq] at H; obtain ⟨rfl⟩ := H; rfl)

/-! ### defect_Count: function 34 -/
def defect_Count.f (a0 : List E41) (a1 : Int) : Option (Int) := (sel (ofKind a1) a0).bind fun x135 => (some (x135.length : Int))
set_option maxRecDepth 100000 in
theorem defect_Count.calls (a0 : List E41) (a1 : Int)  (Aa0 : Option Addr) (ca0 : Nat)  (r1 : Int) (w : World)   (ha0 : KRow (Cx.start w) enc41 7 a0 Aa0) (h : defect_Count.f a0 a1 = some r1) :
    Calls Try.prog 34 #[.slice Aa0 a0.length ca0, .int .i64 a1] w (Ret w (.int .i64 r1)) := by
  have H := h
  clear h
  unfold defect_Count.f at H
  refine Go.Saw.calls (args := [.slice Aa0 a0.length ca0, .int .i64 a1]) Try.func34 rfl Try.ntmps34 (by kernel_rfl) ?_
  refine J.seq ?_
  refine J.plain ?_
  refine LL.op (.int .i64 0) (by kernel_rfl) (fun w _ => by kernel_rfl) ?_
  refine LL.done (s' := [(0, .slice Aa0 a0.length ca0), (1, .int .i64 a1), (4, .int .i64 0)]) [0, 1, 4] (by kernel_rfl) ?_
  refine NN.then ?_
  refine J.seq ?_
  refine J.plain ?_
  refine LL.op (.slice Aa0 a0.length ca0) (by kernel_rfl) (fun w _ => by kernel_rfl) ?_
  refine LL.op (.int .i64 a1) (by kernel_rfl) (fun w _ => by kernel_rfl) ?_
  refine LL.ofKind a1 (by kernel_rfl) (fun w => by kernel_rfl) (fun R129 F130 g131 le132 hF133 hg134 => ?_)
  obtain ⟨x135, hx135, H⟩ := bind_some H
  refine LL.callR (enc := enc41) (m := 7) (l := x135) 62 #[.slice Aa0 a0.length ca0, .func (.func 84) #[] #[.pointer (some ⟨g131, 0, none⟩)]] (fun A_ c_ => .slice A_ x135.length c_) (by kernel_rfl) (fun w => by kernel_rfl) (fun w hw => kind_calls a0 a1 g131 _ _ _ w ((hw.keep _ hF133).2.trans hg134) ((ha0.le le132).at hw) hx135) (fun R136 F137 A138 c139 le140 k141 fr142 => ?_)
  refine LL.op (.int .i64 (x135.length : Int)) (by kernel_rfl) (fun w _ => by kernel_rfl) ?_
  refine LL.op (.int .i64 (x135.length : Int)) (by kernel_rfl) (fun w _ => by kernel_rfl) ?_
  refine LL.done (s' := [(4, .int .i64 (x135.length : Int))]) [4] (by kernel_rfl) ?_
  refine NN.then ?_
  refine J.ret ?_
  refine NN.fin1 4 (.int .i64 (x135.length : Int)) (by kernel_rfl) (by kernel_rfl) (.inl rfl) (fun w hi => hi.ret ?_)
  first | (cases H; rfl) | (obtain rfl := Option.some.inj H; rfl) | (simp only [Option.some.injEq, Prod.mk.injEq] at H; obtain ⟨rfl⟩ := H; rfl)

/-! ### defect_Largest: function 36 -/
def defect_Largest.l0 (K : Nat) (x149 : List E41) : Nat → Int → Int → Option (Int)
  | 0, _, _ => none
  | k + 1, x5l0, x13l0 => if x13l0 < (x149.length : Int) then ((idx x149 x13l0).bind fun be159 => ((defect_Size.f be159.1 be159.2.1 be159.2.2.1 be159.2.2.2.1 be159.2.2.2.2.1 be159.2.2.2.2.2.1 be159.2.2.2.2.2.2).bind fun x161 => (defect_Largest.l0 K x149 k (mx x5l0 x161) (IntKind.i64.wrap (x13l0 + 1))))) else (some x5l0)
def defect_Largest.f (K : Nat) (a0 : List E41) (a1 : Int) : Option (Int) := (sel (ofKind a1) a0).bind fun x149 => (defect_Largest.l0 K x149 K 0 0)
set_option maxRecDepth 100000 in
theorem defect_Largest.calls (K : Nat) (a0 : List E41) (a1 : Int)  (Aa0 : Option Addr) (ca0 : Nat)  (r1 : Int) (w : World)   (ha0 : KRow (Cx.start w) enc41 7 a0 Aa0) (h : defect_Largest.f K a0 a1 = some r1) :
    Calls Try.prog 36 #[.slice Aa0 a0.length ca0, .int .i64 a1] w (Ret w (.int .i64 r1)) := by
  have H := h
  clear h
  unfold defect_Largest.f at H
  refine Go.Saw.calls (args := [.slice Aa0 a0.length ca0, .int .i64 a1]) Try.func36 rfl Try.ntmps36 (by kernel_rfl) ?_
  refine J.seq ?_
  refine J.plain ?_
  refine LL.op (.int .i64 0) (by kernel_rfl) (fun w _ => by kernel_rfl) ?_
  refine LL.done (s' := [(0, .slice Aa0 a0.length ca0), (1, .int .i64 a1), (4, .int .i64 0)]) [0, 1, 4] (by kernel_rfl) ?_
  refine NN.then ?_
  refine J.seq ?_
  refine J.plain ?_
  refine LL.op (.int .i64 0) (by kernel_rfl) (fun w _ => by kernel_rfl) ?_
  refine LL.done (s' := [(0, .slice Aa0 a0.length ca0), (1, .int .i64 a1), (4, .int .i64 0), (5, .int .i64 0)]) [0, 1, 4, 5] (by kernel_rfl) ?_
  refine NN.then ?_
  refine J.seq ?_
  refine J.seq ?_
  refine J.plain ?_
  refine LL.op (.slice Aa0 a0.length ca0) (by kernel_rfl) (fun w _ => by kernel_rfl) ?_
  refine LL.op (.int .i64 a1) (by kernel_rfl) (fun w _ => by kernel_rfl) ?_
  refine LL.ofKind a1 (by kernel_rfl) (fun w => by kernel_rfl) (fun R143 F144 g145 le146 hF147 hg148 => ?_)
  obtain ⟨x149, hx149, H⟩ := bind_some H
  refine LL.callR (enc := enc41) (m := 7) (l := x149) 62 #[.slice Aa0 a0.length ca0, .func (.func 84) #[] #[.pointer (some ⟨g145, 0, none⟩)]] (fun A_ c_ => .slice A_ x149.length c_) (by kernel_rfl) (fun w => by kernel_rfl) (fun w hw => kind_calls a0 a1 g145 _ _ _ w ((hw.keep _ hF147).2.trans hg148) ((ha0.le le146).at hw) hx149) (fun R150 F151 A152 c153 le154 k155 fr156 => ?_)
  refine LL.op (.int .i64 (x149.length : Int)) (by kernel_rfl) (fun w _ => by kernel_rfl) ?_
  refine LL.op (.int .i64 0) (by kernel_rfl) (fun w _ => by kernel_rfl) ?_
  refine LL.done (s' := [(4, .int .i64 0), (5, .int .i64 0), (11, .slice A152 x149.length c153), (12, .int .i64 (x149.length : Int)), (13, .int .i64 0)]) [4, 5, 11, 12, 13] (by kernel_rfl) ?_
  refine NN.then ?_
  refine J.block ?_
  refine J.to [4, 5, 11, 12, 13] (s' := [(4, .int .i64 0), (5, .int .i64 0), (11, .slice A152 x149.length c153), (12, .int .i64 (x149.length : Int)), (13, .int .i64 0)]) (by kernel_rfl) ?_
  refine J.loop (fun n_ s_ bs_ => ∃ (x5l0 : Int) (x13l0 : Int), defect_Largest.l0 K x149 n_ x5l0 x13l0 = some r1 ∧ s_ = [(4, .int .i64 0), (5, .int .i64 x5l0), (11, .slice A152 x149.length c153), (12, .int .i64 (x149.length : Int)), (13, .int .i64 x13l0)] ∧ [] = bs_) K ⟨0, 0, H, rfl, rfl⟩ ?_
  rintro (_ | n_) s_ bs_ ⟨x5l0, x13l0, H, rfl, rfl⟩
  · exact absurd H (by simp [defect_Largest.l0])
  simp only [defect_Largest.l0] at H
  refine J.seq ?_
  refine J.plain ?_
  refine LL.op (.bool (decide (x13l0 < (x149.length : Int)))) (by kernel_rfl) (fun w _ => by kernel_rfl) ?_
  refine LL.done (s' := [(4, .int .i64 0), (5, .int .i64 x5l0), (11, .slice A152 x149.length c153), (12, .int .i64 (x149.length : Int)), (13, .int .i64 x13l0), (14, .bool (decide (x13l0 < (x149.length : Int))))]) [4, 5, 11, 12, 13, 14] (by kernel_rfl) ?_
  refine NN.then ?_
  refine J.seq ?_
  rcases Bool.eq_false_or_eq_true (decide (x13l0 < (x149.length : Int))) with c158 | c158
  · rw [if_pos (of_decide_eq_true c158)] at H
    refine J.condT (b := decide (x13l0 < (x149.length : Int))) c158 (by kernel_rfl) (by kernel_rfl) ?_
    refine J.skip ?_
    refine NN.then ?_
    refine J.seq ?_
    refine J.block ?_
    refine J.seq ?_
    refine J.plain ?_
    obtain ⟨⟨e159_1, e159_2, e159_3, e159_4, e159_5, e159_6, e159_7⟩, he159, H⟩ := bind_some H
    (try dsimp only at H)
    refine LL.op (.pointer (rp A152 (x13l0.toNat * 7 + 0))) (by kernel_rfl) (idxR (cp := c153) (ik := .i64) k155 he159 rfl (by kernel_rfl) (by kernel_rfl) (by kernel_rfl)) ?_
    refine LL.op (.agg #[.int .i64 e159_1, .int .i64 e159_2, .int .i64 e159_3, .int .i64 e159_4, .int .i64 e159_5, .int .i64 e159_6, .int .i64 e159_7]) (by kernel_rfl) (ldR (off := 0) k155 he159 rfl (by kernel_rfl) (by kernel_rfl)) ?_
    refine LL.alloc 41 [.int .i64 0, .int .i64 0, .int .i64 0, .int .i64 0, .int .i64 0, .int .i64 0, .int .i64 0] (by kernel_rfl) rfl (by kernel_rfl) (fun g160 => ?_)
    refine LL.store 0 g160 0 41 (.tmp 7) (.tmp 16) [.int .i64 e159_1, .int .i64 e159_2, .int .i64 e159_3, .int .i64 e159_4, .int .i64 e159_5, .int .i64 e159_6, .int .i64 e159_7] (bs' := [(g160, cl [.int .i64 e159_1, .int .i64 e159_2, .int .i64 e159_3, .int .i64 e159_4, .int .i64 e159_5, .int .i64 e159_6, .int .i64 e159_7] 41)]) rfl (by kernel_rfl) rfl (by kernel_rfl) rfl (by kernel_rfl) ?_
    refine LL.done (s' := [(4, .int .i64 0), (5, .int .i64 x5l0), (7, .pointer (some ⟨g160, 0, none⟩)), (11, .slice A152 x149.length c153), (12, .int .i64 (x149.length : Int)), (13, .int .i64 x13l0)]) [4, 5, 7, 11, 12, 13] (by kernel_rfl) ?_
    refine NN.then ?_
    refine J.plain ?_
    refine LL.op (.int .i64 x5l0) (by kernel_rfl) (fun w _ => by kernel_rfl) ?_
    refine LL.op (.agg #[.int .i64 e159_1, .int .i64 e159_2, .int .i64 e159_3, .int .i64 e159_4, .int .i64 e159_5, .int .i64 e159_6, .int .i64 e159_7]) (by kernel_rfl) (ld 0 g160 0 rfl (by kernel_rfl) rfl (by kernel_rfl)) ?_
    obtain ⟨x161, hx161, H⟩ := bind_some H
    refine LL.call 31 #[.agg #[.int .i64 e159_1, .int .i64 e159_2, .int .i64 e159_3, .int .i64 e159_4, .int .i64 e159_5, .int .i64 e159_6, .int .i64 e159_7]] (.int .i64 x161) (by kernel_rfl) (fun w => by kernel_rfl) (fun w hw => defect_Size.calls e159_1 e159_2 e159_3 e159_4 e159_5 e159_6 e159_7   _ w   hx161) ?_
    refine LL.op (.int .i64 (mx x5l0 x161)) (by kernel_rfl) (fun w _ => by kernel_rfl) ?_
    refine LL.op (.int .i64 (mx x5l0 x161)) (by kernel_rfl) (fun w _ => by kernel_rfl) ?_
    refine LL.done (s' := [(4, .int .i64 0), (5, .int .i64 (mx x5l0 x161)), (11, .slice A152 x149.length c153), (12, .int .i64 (x149.length : Int)), (13, .int .i64 x13l0)]) [4, 5, 11, 12, 13] (by kernel_rfl) ?_
    refine NN.block_n ?_
    refine NN.then ?_
    refine J.plain ?_
    refine LL.op (.int .i64 (IntKind.i64.wrap (x13l0 + 1))) (by kernel_rfl) (fun w _ => by kernel_rfl) ?_
    refine LL.op (.int .i64 (IntKind.i64.wrap (x13l0 + 1))) (by kernel_rfl) (fun w _ => by kernel_rfl) ?_
    refine LL.done (s' := [(4, .int .i64 0), (5, .int .i64 (mx x5l0 x161)), (11, .slice A152 x149.length c153), (12, .int .i64 (x149.length : Int)), (13, .int .i64 (IntKind.i64.wrap (x13l0 + 1)))]) [4, 5, 11, 12, 13] (by kernel_rfl) ?_
    exact NN.round' [4, 5, 11, 12, 13] (bs' := []) (Nat.lt_succ_self _) (List.Sublist.cons _ (List.Sublist.refl _)) (by kernel_rfl) ⟨mx x5l0 x161, IntKind.i64.wrap (x13l0 + 1), H, rfl, rfl⟩
  · rw [if_neg (of_decide_eq_false c158)] at H
    refine J.condF (b := decide (x13l0 < (x149.length : Int))) c158 (by kernel_rfl) (by kernel_rfl) ?_
    refine J.exit ?_
    refine NN.then_exit ?_
    refine NN.then_exit ?_
    refine NN.block_same ?_
    refine NN.then ?_
    refine J.seq ?_
    refine J.plain ?_
    refine LL.op (.int .i64 x5l0) (by kernel_rfl) (fun w _ => by kernel_rfl) ?_
    refine LL.op (.int .i64 x5l0) (by kernel_rfl) (fun w _ => by kernel_rfl) ?_
    refine LL.done (s' := [(4, .int .i64 x5l0)]) [4] (by kernel_rfl) ?_
    refine NN.then ?_
    refine J.ret ?_
    refine NN.fin1 4 (.int .i64 x5l0) (by kernel_rfl) (by kernel_rfl) (.inl rfl) (fun w hi => hi.ret ?_)
    first | (cases H; rfl) | (obtain rfl := Option.some.inj H; rfl) | (simp only [Option.some.injEq, Prod.mk.injEq] at H; obtain ⟨rfl⟩ := H; rfl)

/-! ### defect_Worst: function 45 -/
def defect_Worst.l1 (K : Nat) (a1 : Int) (x166 : List E41) (e176_6 : Int) (kont_ : Int → Int → Option (Int)) : Nat → Int → Int → Option (Int)
  | 0, _, _ => none
  | k + 1, x10l1, x48l1 => if x48l1 < (x166.length : Int) then ((idx x166 x48l1).bind fun be181 => ((span_Meet.f be181.2.2.2.2.2.1 be181.2.2.2.2.2.2 (IntKind.i64.wrap ((IntKind.i64.wrap (e176_6 + 1)) - a1)) (IntKind.i64.wrap (e176_6 + 1))).bind fun bx183 => (if bx183.1 < bx183.2 then ((defect_Size.f be181.1 be181.2.1 be181.2.2.1 be181.2.2.2.1 be181.2.2.2.2.1 be181.2.2.2.2.2.1 be181.2.2.2.2.2.2).bind fun x186 => (defect_Worst.l1 K a1 x166 e176_6 kont_ k (IntKind.i64.wrap (x10l1 + x186)) (IntKind.i64.wrap (x48l1 + 1)))) else (defect_Worst.l1 K a1 x166 e176_6 kont_ k x10l1 (IntKind.i64.wrap (x48l1 + 1)))))) else (kont_ x10l1 x48l1)
def defect_Worst.l0 (K : Nat) (a1 : Int) (x166 : List E41) : Nat → Int → Int → Option (Int)
  | 0, _, _ => none
  | k + 1, x6l0, x29l0 => if x29l0 < (x166.length : Int) then ((idx x166 x29l0).bind fun be176 => (defect_Worst.l1 K a1 x166 be176.2.2.2.2.2.1 (fun (x10l1 : Int) (x48l1 : Int) => defect_Worst.l0 K a1 x166 k (mx x6l0 x10l1) (IntKind.i64.wrap (x29l0 + 1))) K 0 0)) else (some x6l0)
def defect_Worst.f (K : Nat) (a0 : List E41) (a1 : Int) : Option (Int) := (defect_Check.f K a0).bind fun x162 => (if x162 = 0 then (if a1 < 1 then (some 0) else (if 20000 < a1 then (some 0) else ((sel isKnot a0).bind fun x166 => (defect_Worst.l0 K a1 x166 K 0 0)))) else (some 0))
set_option maxRecDepth 100000 in
theorem defect_Worst.calls (K : Nat) (a0 : List E41) (a1 : Int)  (Aa0 : Option Addr) (ca0 : Nat)  (r1 : Int) (w : World)   (ha0 : KRow (Cx.start w) enc41 7 a0 Aa0) (h : defect_Worst.f K a0 a1 = some r1) :
    Calls Try.prog 45 #[.slice Aa0 a0.length ca0, .int .i64 a1] w (Ret w (.int .i64 r1)) := by
  have H := h
  clear h
  unfold defect_Worst.f at H
  refine Go.Saw.calls (args := [.slice Aa0 a0.length ca0, .int .i64 a1]) Try.func45 rfl Try.ntmps45 (by kernel_rfl) ?_
  refine J.seq ?_
  refine J.plain ?_
  refine LL.op (.int .i64 0) (by kernel_rfl) (fun w _ => by kernel_rfl) ?_
  refine LL.done (s' := [(0, .slice Aa0 a0.length ca0), (1, .int .i64 a1), (4, .int .i64 0)]) [0, 1, 4] (by kernel_rfl) ?_
  refine NN.then ?_
  refine J.seq ?_
  refine J.seq ?_
  refine J.plain ?_
  refine LL.op (.slice Aa0 a0.length ca0) (by kernel_rfl) (fun w _ => by kernel_rfl) ?_
  obtain ⟨x162, hx162, H⟩ := bind_some H
  refine LL.call 33 #[.slice Aa0 a0.length ca0] (.int .i64 x162) (by kernel_rfl) (fun w => by kernel_rfl) (fun w hw => defect_Check.calls K a0  _ _ _ w  (ha0.at hw) hx162) ?_
  refine LL.op (.bool (!(x162 == 0))) (by kernel_rfl) (fun w _ => by kernel_rfl) ?_
  refine LL.op (.bool (!(x162 == 0))) (by kernel_rfl) (fun w _ => by kernel_rfl) ?_
  rcases Bool.eq_false_or_eq_true ((x162 == 0)) with c163 | c163
  · rw [if_pos (eq_of_beq c163)] at H
    refine LL.bool 17 (!(x162 == 0)) false (by rw [show (!(x162 == 0)) = !((x162 == 0)) from rfl, c163]; rfl) (by kernel_rfl) ?_
    refine LL.op (.int .i64 a1) (by kernel_rfl) (fun w _ => by kernel_rfl) ?_
    refine LL.op (.bool (decide (a1 < 1))) (by kernel_rfl) (fun w _ => by kernel_rfl) ?_
    refine LL.op (.bool (decide (a1 < 1))) (by kernel_rfl) (fun w _ => by kernel_rfl) ?_
    refine LL.op (.bool (decide (a1 < 1))) (by kernel_rfl) (fun w _ => by kernel_rfl) ?_
    rcases Bool.eq_false_or_eq_true (decide (a1 < 1)) with c164 | c164
    · rw [if_pos (of_decide_eq_true c164)] at H
      refine LL.bool 21 (decide (a1 < 1)) true c164 (by kernel_rfl) ?_
      refine LL.off (by kernel_rfl) (by kernel_rfl) ?_
      refine LL.off (by kernel_rfl) (by kernel_rfl) ?_
      refine LL.op (.bool true) (by kernel_rfl) (fun w _ => by kernel_rfl) ?_
      refine LL.done (s' := [(0, .slice Aa0 a0.length ca0), (1, .int .i64 a1), (4, .int .i64 0), (24, .bool true)]) [0, 1, 4, 24] (by kernel_rfl) ?_
      refine NN.then ?_
      refine J.condT (b := true) rfl (by kernel_rfl) (by kernel_rfl) ?_
      refine J.seq ?_
      refine J.plain ?_
      refine LL.op (.int .i64 0) (by kernel_rfl) (fun w _ => by kernel_rfl) ?_
      refine LL.done (s' := [(0, .slice Aa0 a0.length ca0), (1, .int .i64 a1), (4, .int .i64 0)]) [0, 1, 4] (by kernel_rfl) ?_
      refine NN.then ?_
      refine J.ret ?_
      refine NN.then_ret ?_
      refine NN.fin1 4 (.int .i64 0) (by kernel_rfl) (by kernel_rfl) (.inl rfl) (fun w hi => hi.ret ?_)
      first | (cases H; rfl) | (obtain rfl := Option.some.inj H; rfl) | (simp only [Option.some.injEq, Prod.mk.injEq] at H; obtain ⟨rfl⟩ := H; rfl)
    · rw [if_neg (of_decide_eq_false c164)] at H
      refine LL.bool 21 (decide (a1 < 1)) false c164 (by kernel_rfl) ?_
      refine LL.op (.int .i64 a1) (by kernel_rfl) (fun w _ => by kernel_rfl) ?_
      refine LL.op (.bool (decide (20000 < a1))) (by kernel_rfl) (fun w _ => by kernel_rfl) ?_
      refine LL.op (.bool (decide (20000 < a1))) (by kernel_rfl) (fun w _ => by kernel_rfl) ?_
      refine LL.done (s' := [(0, .slice Aa0 a0.length ca0), (1, .int .i64 a1), (4, .int .i64 0), (24, .bool (decide (20000 < a1)))]) [0, 1, 4, 24] (by kernel_rfl) ?_
      refine NN.then ?_
      rcases Bool.eq_false_or_eq_true (decide (20000 < a1)) with c165 | c165
      · rw [if_pos (of_decide_eq_true c165)] at H
        refine J.condT (b := decide (20000 < a1)) c165 (by kernel_rfl) (by kernel_rfl) ?_
        refine J.seq ?_
        refine J.plain ?_
        refine LL.op (.int .i64 0) (by kernel_rfl) (fun w _ => by kernel_rfl) ?_
        refine LL.done (s' := [(0, .slice Aa0 a0.length ca0), (1, .int .i64 a1), (4, .int .i64 0)]) [0, 1, 4] (by kernel_rfl) ?_
        refine NN.then ?_
        refine J.ret ?_
        refine NN.then_ret ?_
        refine NN.fin1 4 (.int .i64 0) (by kernel_rfl) (by kernel_rfl) (.inl rfl) (fun w hi => hi.ret ?_)
        first | (cases H; rfl) | (obtain rfl := Option.some.inj H; rfl) | (simp only [Option.some.injEq, Prod.mk.injEq] at H; obtain ⟨rfl⟩ := H; rfl)
      · rw [if_neg (of_decide_eq_false c165)] at H
        refine J.condF (b := decide (20000 < a1)) c165 (by kernel_rfl) (by kernel_rfl) ?_
        refine J.skip ?_
        refine NN.then ?_
        refine J.seq ?_
        refine J.plain ?_
        refine LL.op (.slice Aa0 a0.length ca0) (by kernel_rfl) (fun w _ => by kernel_rfl) ?_
        obtain ⟨x166, hx166, H⟩ := bind_some H
        refine LL.callR (enc := enc41) (m := 7) (l := x166) 62 #[.slice Aa0 a0.length ca0, .func (.func 71) #[] #[]] (fun A_ c_ => .slice A_ x166.length c_) (by kernel_rfl) (fun w => by kernel_rfl) (fun w hw => knots_calls a0 _ _ _ w (ha0.at hw) hx166) (fun R167 F168 A169 c170 le171 k172 fr173 => ?_)
        refine LL.op (.slice A169 x166.length c170) (by kernel_rfl) (fun w _ => by kernel_rfl) ?_
        refine LL.done (s' := [(1, .int .i64 a1), (4, .int .i64 0), (5, .slice A169 x166.length c170)]) [1, 4, 5] (by kernel_rfl) ?_
        refine NN.then ?_
        refine J.seq ?_
        refine J.plain ?_
        refine LL.op (.int .i64 0) (by kernel_rfl) (fun w _ => by kernel_rfl) ?_
        refine LL.done (s' := [(1, .int .i64 a1), (4, .int .i64 0), (5, .slice A169 x166.length c170), (6, .int .i64 0)]) [1, 4, 5, 6] (by kernel_rfl) ?_
        refine NN.then ?_
        refine J.seq ?_
        refine J.seq ?_
        refine J.plain ?_
        refine LL.op (.slice A169 x166.length c170) (by kernel_rfl) (fun w _ => by kernel_rfl) ?_
        refine LL.op (.int .i64 (x166.length : Int)) (by kernel_rfl) (fun w _ => by kernel_rfl) ?_
        refine LL.op (.int .i64 0) (by kernel_rfl) (fun w _ => by kernel_rfl) ?_
        refine LL.done (s' := [(1, .int .i64 a1), (4, .int .i64 0), (5, .slice A169 x166.length c170), (6, .int .i64 0), (27, .slice A169 x166.length c170), (28, .int .i64 (x166.length : Int)), (29, .int .i64 0)]) [1, 4, 5, 6, 27, 28, 29] (by kernel_rfl) ?_
        refine NN.then ?_
        refine J.block ?_
        refine J.to [1, 4, 5, 6, 27, 28, 29] (s' := [(1, .int .i64 a1), (4, .int .i64 0), (5, .slice A169 x166.length c170), (6, .int .i64 0), (27, .slice A169 x166.length c170), (28, .int .i64 (x166.length : Int)), (29, .int .i64 0)]) (by kernel_rfl) ?_
        refine J.loop (fun n_ s_ bs_ => ∃ (x6l0 : Int) (x29l0 : Int), defect_Worst.l0 K a1 x166 n_ x6l0 x29l0 = some r1 ∧ s_ = [(1, .int .i64 a1), (4, .int .i64 0), (5, .slice A169 x166.length c170), (6, .int .i64 x6l0), (27, .slice A169 x166.length c170), (28, .int .i64 (x166.length : Int)), (29, .int .i64 x29l0)] ∧ [] = bs_) K ⟨0, 0, H, rfl, rfl⟩ ?_
        rintro (_ | n_) s_ bs_ ⟨x6l0, x29l0, H, rfl, rfl⟩
        · exact absurd H (by simp [defect_Worst.l0])
        simp only [defect_Worst.l0] at H
        refine J.seq ?_
        refine J.plain ?_
        refine LL.op (.bool (decide (x29l0 < (x166.length : Int)))) (by kernel_rfl) (fun w _ => by kernel_rfl) ?_
        refine LL.done (s' := [(1, .int .i64 a1), (4, .int .i64 0), (5, .slice A169 x166.length c170), (6, .int .i64 x6l0), (27, .slice A169 x166.length c170), (28, .int .i64 (x166.length : Int)), (29, .int .i64 x29l0), (30, .bool (decide (x29l0 < (x166.length : Int))))]) [1, 4, 5, 6, 27, 28, 29, 30] (by kernel_rfl) ?_
        refine NN.then ?_
        refine J.seq ?_
        rcases Bool.eq_false_or_eq_true (decide (x29l0 < (x166.length : Int))) with c175 | c175
        · rw [if_pos (of_decide_eq_true c175)] at H
          refine J.condT (b := decide (x29l0 < (x166.length : Int))) c175 (by kernel_rfl) (by kernel_rfl) ?_
          refine J.skip ?_
          refine NN.then ?_
          refine J.seq ?_
          refine J.block ?_
          refine J.seq ?_
          refine J.plain ?_
          obtain ⟨⟨e176_1, e176_2, e176_3, e176_4, e176_5, e176_6, e176_7⟩, he176, H⟩ := bind_some H
          (try dsimp only at H)
          refine LL.op (.pointer (rp A169 (x29l0.toNat * 7 + 0))) (by kernel_rfl) (idxR (cp := c170) (ik := .i64) k172 he176 rfl (by kernel_rfl) (by kernel_rfl) (by kernel_rfl)) ?_
          refine LL.op (.agg #[.int .i64 e176_1, .int .i64 e176_2, .int .i64 e176_3, .int .i64 e176_4, .int .i64 e176_5, .int .i64 e176_6, .int .i64 e176_7]) (by kernel_rfl) (ldR (off := 0) k172 he176 rfl (by kernel_rfl) (by kernel_rfl)) ?_
          refine LL.alloc 41 [.int .i64 0, .int .i64 0, .int .i64 0, .int .i64 0, .int .i64 0, .int .i64 0, .int .i64 0] (by kernel_rfl) rfl (by kernel_rfl) (fun g177 => ?_)
          refine LL.store 0 g177 0 41 (.tmp 8) (.tmp 32) [.int .i64 e176_1, .int .i64 e176_2, .int .i64 e176_3, .int .i64 e176_4, .int .i64 e176_5, .int .i64 e176_6, .int .i64 e176_7] (bs' := [(g177, cl [.int .i64 e176_1, .int .i64 e176_2, .int .i64 e176_3, .int .i64 e176_4, .int .i64 e176_5, .int .i64 e176_6, .int .i64 e176_7] 41)]) rfl (by kernel_rfl) rfl (by kernel_rfl) rfl (by kernel_rfl) ?_
          refine LL.done (s' := [(1, .int .i64 a1), (4, .int .i64 0), (5, .slice A169 x166.length c170), (6, .int .i64 x6l0), (8, .pointer (some ⟨g177, 0, none⟩)), (27, .slice A169 x166.length c170), (28, .int .i64 (x166.length : Int)), (29, .int .i64 x29l0)]) [1, 4, 5, 6, 8, 27, 28, 29] (by kernel_rfl) ?_
          refine NN.then ?_
          refine J.seq ?_
          refine J.plain ?_
          refine LL.op (.pointer (some ⟨g177, 1, none⟩)) (by kernel_rfl) (fun w _ => by kernel_rfl) ?_
          refine LL.op (.pointer (some ⟨g177, 5, none⟩)) (by kernel_rfl) (fun w _ => by kernel_rfl) ?_
          refine LL.op (.pointer (some ⟨g177, 5, none⟩)) (by kernel_rfl) (fun w _ => by kernel_rfl) ?_
          refine LL.op (.int .i64 e176_6) (by kernel_rfl) (ld 0 g177 5 rfl (by kernel_rfl) rfl (by kernel_rfl)) ?_
          refine LL.op (.int .i64 (IntKind.i64.wrap (e176_6 + 1))) (by kernel_rfl) (fun w _ => by kernel_rfl) ?_
          refine LL.op (.int .i64 a1) (by kernel_rfl) (fun w _ => by kernel_rfl) ?_
          refine LL.op (.int .i64 (IntKind.i64.wrap ((IntKind.i64.wrap (e176_6 + 1)) - a1))) (by kernel_rfl) (fun w _ => by kernel_rfl) ?_
          refine LL.op (.pointer (some ⟨g177, 1, none⟩)) (by kernel_rfl) (fun w _ => by kernel_rfl) ?_
          refine LL.op (.pointer (some ⟨g177, 5, none⟩)) (by kernel_rfl) (fun w _ => by kernel_rfl) ?_
          refine LL.op (.pointer (some ⟨g177, 5, none⟩)) (by kernel_rfl) (fun w _ => by kernel_rfl) ?_
          refine LL.op (.int .i64 e176_6) (by kernel_rfl) (ld 0 g177 5 rfl (by kernel_rfl) rfl (by kernel_rfl)) ?_
          refine LL.op (.int .i64 (IntKind.i64.wrap (e176_6 + 1))) (by kernel_rfl) (fun w _ => by kernel_rfl) ?_
          refine LL.op (.agg #[.int .i64 (IntKind.i64.wrap ((IntKind.i64.wrap (e176_6 + 1)) - a1)), .int .i64 (IntKind.i64.wrap (e176_6 + 1))]) (by kernel_rfl) (fun w _ => by kernel_rfl) ?_
          refine LL.alloc 23 [.int .i64 0, .int .i64 0] (by kernel_rfl) rfl (by kernel_rfl) (fun g178 => ?_)
          refine LL.store 0 g178 0 23 (.tmp 9) (.tmp 45) [.int .i64 (IntKind.i64.wrap ((IntKind.i64.wrap (e176_6 + 1)) - a1)), .int .i64 (IntKind.i64.wrap (e176_6 + 1))] (bs' := [(g178, cl [.int .i64 (IntKind.i64.wrap ((IntKind.i64.wrap (e176_6 + 1)) - a1)), .int .i64 (IntKind.i64.wrap (e176_6 + 1))] 23), (g177, cl [.int .i64 e176_1, .int .i64 e176_2, .int .i64 e176_3, .int .i64 e176_4, .int .i64 e176_5, .int .i64 e176_6, .int .i64 e176_7] 41)]) rfl (by kernel_rfl) rfl (by kernel_rfl) rfl (by kernel_rfl) ?_
          refine LL.done (s' := [(1, .int .i64 a1), (4, .int .i64 0), (5, .slice A169 x166.length c170), (6, .int .i64 x6l0), (9, .pointer (some ⟨g178, 0, none⟩)), (27, .slice A169 x166.length c170), (28, .int .i64 (x166.length : Int)), (29, .int .i64 x29l0)]) [1, 4, 5, 6, 9, 27, 28, 29] (by kernel_rfl) ?_
          refine NN.then ?_
          refine J.seq ?_
          refine J.plain ?_
          refine LL.op (.int .i64 0) (by kernel_rfl) (fun w _ => by kernel_rfl) ?_
          refine LL.done (s' := [(1, .int .i64 a1), (4, .int .i64 0), (5, .slice A169 x166.length c170), (6, .int .i64 x6l0), (9, .pointer (some ⟨g178, 0, none⟩)), (10, .int .i64 0), (27, .slice A169 x166.length c170), (28, .int .i64 (x166.length : Int)), (29, .int .i64 x29l0)]) [1, 4, 5, 6, 9, 10, 27, 28, 29] (by kernel_rfl) ?_
          refine NN.then ?_
          refine J.seq ?_
          refine J.seq ?_
          refine J.plain ?_
          refine LL.op (.slice A169 x166.length c170) (by kernel_rfl) (fun w _ => by kernel_rfl) ?_
          refine LL.op (.int .i64 (x166.length : Int)) (by kernel_rfl) (fun w _ => by kernel_rfl) ?_
          refine LL.op (.int .i64 0) (by kernel_rfl) (fun w _ => by kernel_rfl) ?_
          refine LL.done (s' := [(1, .int .i64 a1), (4, .int .i64 0), (5, .slice A169 x166.length c170), (6, .int .i64 x6l0), (9, .pointer (some ⟨g178, 0, none⟩)), (10, .int .i64 0), (27, .slice A169 x166.length c170), (28, .int .i64 (x166.length : Int)), (29, .int .i64 x29l0), (46, .slice A169 x166.length c170), (47, .int .i64 (x166.length : Int)), (48, .int .i64 0)]) [1, 4, 5, 6, 9, 10, 27, 28, 29, 46, 47, 48] (by kernel_rfl) ?_
          refine NN.then ?_
          refine J.block ?_
          refine J.to [1, 4, 5, 6, 9, 10, 27, 28, 29, 46, 47, 48] (s' := [(1, .int .i64 a1), (4, .int .i64 0), (5, .slice A169 x166.length c170), (6, .int .i64 x6l0), (9, .pointer (some ⟨g178, 0, none⟩)), (10, .int .i64 0), (27, .slice A169 x166.length c170), (28, .int .i64 (x166.length : Int)), (29, .int .i64 x29l0), (46, .slice A169 x166.length c170), (47, .int .i64 (x166.length : Int)), (48, .int .i64 0)]) (by kernel_rfl) ?_
          obtain ⟨kont179, hk179, H⟩ := kont_intro (P := fun q_ => defect_Worst.l1 K a1 x166 e176_6 q_ K 0 0 = some r1) H
          refine J.loop (fun n_ s_ bs_ => ∃ (x10l1 : Int) (x48l1 : Int), defect_Worst.l1 K a1 x166 e176_6 kont179 n_ x10l1 x48l1 = some r1 ∧ s_ = [(1, .int .i64 a1), (4, .int .i64 0), (5, .slice A169 x166.length c170), (6, .int .i64 x6l0), (9, .pointer (some ⟨g178, 0, none⟩)), (10, .int .i64 x10l1), (27, .slice A169 x166.length c170), (28, .int .i64 (x166.length : Int)), (29, .int .i64 x29l0), (46, .slice A169 x166.length c170), (47, .int .i64 (x166.length : Int)), (48, .int .i64 x48l1)] ∧ [(g178, cl [.int .i64 (IntKind.i64.wrap ((IntKind.i64.wrap (e176_6 + 1)) - a1)), .int .i64 (IntKind.i64.wrap (e176_6 + 1))] 23), (g177, cl [.int .i64 e176_1, .int .i64 e176_2, .int .i64 e176_3, .int .i64 e176_4, .int .i64 e176_5, .int .i64 e176_6, .int .i64 e176_7] 41)] = bs_) K ⟨0, 0, H, rfl, rfl⟩ ?_
          rintro (_ | n_) s_ bs_ ⟨x10l1, x48l1, H, rfl, rfl⟩
          · exact absurd H (by simp [defect_Worst.l1])
          simp only [defect_Worst.l1] at H
          refine J.seq ?_
          refine J.plain ?_
          refine LL.op (.bool (decide (x48l1 < (x166.length : Int)))) (by kernel_rfl) (fun w _ => by kernel_rfl) ?_
          refine LL.done (s' := [(1, .int .i64 a1), (4, .int .i64 0), (5, .slice A169 x166.length c170), (6, .int .i64 x6l0), (9, .pointer (some ⟨g178, 0, none⟩)), (10, .int .i64 x10l1), (27, .slice A169 x166.length c170), (28, .int .i64 (x166.length : Int)), (29, .int .i64 x29l0), (46, .slice A169 x166.length c170), (47, .int .i64 (x166.length : Int)), (48, .int .i64 x48l1), (49, .bool (decide (x48l1 < (x166.length : Int))))]) [1, 4, 5, 6, 9, 10, 27, 28, 29, 46, 47, 48, 49] (by kernel_rfl) ?_
          refine NN.then ?_
          refine J.seq ?_
          rcases Bool.eq_false_or_eq_true (decide (x48l1 < (x166.length : Int))) with c180 | c180
          · rw [if_pos (of_decide_eq_true c180)] at H
            refine J.condT (b := decide (x48l1 < (x166.length : Int))) c180 (by kernel_rfl) (by kernel_rfl) ?_
            refine J.skip ?_
            refine NN.then ?_
            refine J.seq ?_
            refine J.block ?_
            refine J.seq ?_
            refine J.plain ?_
            obtain ⟨⟨e181_1, e181_2, e181_3, e181_4, e181_5, e181_6, e181_7⟩, he181, H⟩ := bind_some H
            (try dsimp only at H)
            refine LL.op (.pointer (rp A169 (x48l1.toNat * 7 + 0))) (by kernel_rfl) (idxR (cp := c170) (ik := .i64) k172 he181 rfl (by kernel_rfl) (by kernel_rfl) (by kernel_rfl)) ?_
            refine LL.op (.agg #[.int .i64 e181_1, .int .i64 e181_2, .int .i64 e181_3, .int .i64 e181_4, .int .i64 e181_5, .int .i64 e181_6, .int .i64 e181_7]) (by kernel_rfl) (ldR (off := 0) k172 he181 rfl (by kernel_rfl) (by kernel_rfl)) ?_
            refine LL.alloc 41 [.int .i64 0, .int .i64 0, .int .i64 0, .int .i64 0, .int .i64 0, .int .i64 0, .int .i64 0] (by kernel_rfl) rfl (by kernel_rfl) (fun g182 => ?_)
            refine LL.store 0 g182 0 41 (.tmp 12) (.tmp 51) [.int .i64 e181_1, .int .i64 e181_2, .int .i64 e181_3, .int .i64 e181_4, .int .i64 e181_5, .int .i64 e181_6, .int .i64 e181_7] (bs' := [(g182, cl [.int .i64 e181_1, .int .i64 e181_2, .int .i64 e181_3, .int .i64 e181_4, .int .i64 e181_5, .int .i64 e181_6, .int .i64 e181_7] 41), (g178, cl [.int .i64 (IntKind.i64.wrap ((IntKind.i64.wrap (e176_6 + 1)) - a1)), .int .i64 (IntKind.i64.wrap (e176_6 + 1))] 23), (g177, cl [.int .i64 e176_1, .int .i64 e176_2, .int .i64 e176_3, .int .i64 e176_4, .int .i64 e176_5, .int .i64 e176_6, .int .i64 e176_7] 41)]) rfl (by kernel_rfl) rfl (by kernel_rfl) rfl (by kernel_rfl) ?_
            refine LL.done (s' := [(1, .int .i64 a1), (4, .int .i64 0), (5, .slice A169 x166.length c170), (6, .int .i64 x6l0), (9, .pointer (some ⟨g178, 0, none⟩)), (10, .int .i64 x10l1), (12, .pointer (some ⟨g182, 0, none⟩)), (27, .slice A169 x166.length c170), (28, .int .i64 (x166.length : Int)), (29, .int .i64 x29l0), (46, .slice A169 x166.length c170), (47, .int .i64 (x166.length : Int)), (48, .int .i64 x48l1)]) [1, 4, 5, 6, 9, 10, 12, 27, 28, 29, 46, 47, 48] (by kernel_rfl) ?_
            refine NN.then ?_
            refine J.seq ?_
            refine J.plain ?_
            refine LL.op (.pointer (some ⟨g182, 1, none⟩)) (by kernel_rfl) (fun w _ => by kernel_rfl) ?_
            refine LL.op (.pointer (some ⟨g182, 5, none⟩)) (by kernel_rfl) (fun w _ => by kernel_rfl) ?_
            refine LL.op (.agg #[.int .i64 e181_6, .int .i64 e181_7]) (by kernel_rfl) (ld 0 g182 5 rfl (by kernel_rfl) rfl (by kernel_rfl)) ?_
            refine LL.op (.agg #[.int .i64 (IntKind.i64.wrap ((IntKind.i64.wrap (e176_6 + 1)) - a1)), .int .i64 (IntKind.i64.wrap (e176_6 + 1))]) (by kernel_rfl) (ld 1 g178 0 rfl (by kernel_rfl) rfl (by kernel_rfl)) ?_
            obtain ⟨⟨x183_1, x183_2⟩, hx183, H⟩ := bind_some H
            (try dsimp only at H)
            refine LL.call 72 #[.agg #[.int .i64 e181_6, .int .i64 e181_7], .agg #[.int .i64 (IntKind.i64.wrap ((IntKind.i64.wrap (e176_6 + 1)) - a1)), .int .i64 (IntKind.i64.wrap (e176_6 + 1))]] (.agg #[.int .i64 x183_1, .int .i64 x183_2]) (by kernel_rfl) (fun w => by kernel_rfl) (fun w hw => span_Meet.calls e181_6 e181_7 (IntKind.i64.wrap ((IntKind.i64.wrap (e176_6 + 1)) - a1)) (IntKind.i64.wrap (e176_6 + 1))   _ _ w   hx183) ?_
            refine LL.alloc 23 [.int .i64 0, .int .i64 0] (by kernel_rfl) rfl (by kernel_rfl) (fun g184 => ?_)
            refine LL.store 0 g184 0 23 (.tmp 13) (.tmp 56) [.int .i64 x183_1, .int .i64 x183_2] (bs' := [(g184, cl [.int .i64 x183_1, .int .i64 x183_2] 23), (g182, cl [.int .i64 e181_1, .int .i64 e181_2, .int .i64 e181_3, .int .i64 e181_4, .int .i64 e181_5, .int .i64 e181_6, .int .i64 e181_7] 41), (g178, cl [.int .i64 (IntKind.i64.wrap ((IntKind.i64.wrap (e176_6 + 1)) - a1)), .int .i64 (IntKind.i64.wrap (e176_6 + 1))] 23), (g177, cl [.int .i64 e176_1, .int .i64 e176_2, .int .i64 e176_3, .int .i64 e176_4, .int .i64 e176_5, .int .i64 e176_6, .int .i64 e176_7] 41)]) rfl (by kernel_rfl) rfl (by kernel_rfl) rfl (by kernel_rfl) ?_
            refine LL.done (s' := [(1, .int .i64 a1), (4, .int .i64 0), (5, .slice A169 x166.length c170), (6, .int .i64 x6l0), (9, .pointer (some ⟨g178, 0, none⟩)), (10, .int .i64 x10l1), (12, .pointer (some ⟨g182, 0, none⟩)), (13, .pointer (some ⟨g184, 0, none⟩)), (27, .slice A169 x166.length c170), (28, .int .i64 (x166.length : Int)), (29, .int .i64 x29l0), (46, .slice A169 x166.length c170), (47, .int .i64 (x166.length : Int)), (48, .int .i64 x48l1)]) [1, 4, 5, 6, 9, 10, 12, 13, 27, 28, 29, 46, 47, 48] (by kernel_rfl) ?_
            refine NN.then ?_
            refine J.seq ?_
            refine J.plain ?_
            refine LL.op (.pointer (some ⟨g184, 0, none⟩)) (by kernel_rfl) (fun w _ => by kernel_rfl) ?_
            refine LL.op (.int .i64 x183_1) (by kernel_rfl) (ld 0 g184 0 rfl (by kernel_rfl) rfl (by kernel_rfl)) ?_
            refine LL.op (.pointer (some ⟨g184, 1, none⟩)) (by kernel_rfl) (fun w _ => by kernel_rfl) ?_
            refine LL.op (.int .i64 x183_2) (by kernel_rfl) (ld 0 g184 1 rfl (by kernel_rfl) rfl (by kernel_rfl)) ?_
            refine LL.op (.bool (decide (x183_1 < x183_2))) (by kernel_rfl) (fun w _ => by kernel_rfl) ?_
            refine LL.done (s' := [(1, .int .i64 a1), (4, .int .i64 0), (5, .slice A169 x166.length c170), (6, .int .i64 x6l0), (9, .pointer (some ⟨g178, 0, none⟩)), (10, .int .i64 x10l1), (12, .pointer (some ⟨g182, 0, none⟩)), (27, .slice A169 x166.length c170), (28, .int .i64 (x166.length : Int)), (29, .int .i64 x29l0), (46, .slice A169 x166.length c170), (47, .int .i64 (x166.length : Int)), (48, .int .i64 x48l1), (61, .bool (decide (x183_1 < x183_2)))]) [1, 4, 5, 6, 9, 10, 12, 27, 28, 29, 46, 47, 48, 61] (by kernel_rfl) ?_
            refine NN.then ?_
            rcases Bool.eq_false_or_eq_true (decide (x183_1 < x183_2)) with c185 | c185
            · rw [if_pos (of_decide_eq_true c185)] at H
              refine J.condT (b := decide (x183_1 < x183_2)) c185 (by kernel_rfl) (by kernel_rfl) ?_
              refine J.plain ?_
              refine LL.op (.int .i64 x10l1) (by kernel_rfl) (fun w _ => by kernel_rfl) ?_
              refine LL.op (.agg #[.int .i64 e181_1, .int .i64 e181_2, .int .i64 e181_3, .int .i64 e181_4, .int .i64 e181_5, .int .i64 e181_6, .int .i64 e181_7]) (by kernel_rfl) (ld 1 g182 0 rfl (by kernel_rfl) rfl (by kernel_rfl)) ?_
              obtain ⟨x186, hx186, H⟩ := bind_some H
              refine LL.call 31 #[.agg #[.int .i64 e181_1, .int .i64 e181_2, .int .i64 e181_3, .int .i64 e181_4, .int .i64 e181_5, .int .i64 e181_6, .int .i64 e181_7]] (.int .i64 x186) (by kernel_rfl) (fun w => by kernel_rfl) (fun w hw => defect_Size.calls e181_1 e181_2 e181_3 e181_4 e181_5 e181_6 e181_7   _ w   hx186) ?_
              refine LL.op (.int .i64 (IntKind.i64.wrap (x10l1 + x186))) (by kernel_rfl) (fun w _ => by kernel_rfl) ?_
              refine LL.op (.int .i64 (IntKind.i64.wrap (x10l1 + x186))) (by kernel_rfl) (fun w _ => by kernel_rfl) ?_
              refine LL.done (s' := [(1, .int .i64 a1), (4, .int .i64 0), (5, .slice A169 x166.length c170), (6, .int .i64 x6l0), (9, .pointer (some ⟨g178, 0, none⟩)), (10, .int .i64 (IntKind.i64.wrap (x10l1 + x186))), (27, .slice A169 x166.length c170), (28, .int .i64 (x166.length : Int)), (29, .int .i64 x29l0), (46, .slice A169 x166.length c170), (47, .int .i64 (x166.length : Int)), (48, .int .i64 x48l1)]) [1, 4, 5, 6, 9, 10, 27, 28, 29, 46, 47, 48] (by kernel_rfl) ?_
              refine NN.block_n ?_
              refine NN.then ?_
              refine J.plain ?_
              refine LL.op (.int .i64 (IntKind.i64.wrap (x48l1 + 1))) (by kernel_rfl) (fun w _ => by kernel_rfl) ?_
              refine LL.op (.int .i64 (IntKind.i64.wrap (x48l1 + 1))) (by kernel_rfl) (fun w _ => by kernel_rfl) ?_
              refine LL.done (s' := [(1, .int .i64 a1), (4, .int .i64 0), (5, .slice A169 x166.length c170), (6, .int .i64 x6l0), (9, .pointer (some ⟨g178, 0, none⟩)), (10, .int .i64 (IntKind.i64.wrap (x10l1 + x186))), (27, .slice A169 x166.length c170), (28, .int .i64 (x166.length : Int)), (29, .int .i64 x29l0), (46, .slice A169 x166.length c170), (47, .int .i64 (x166.length : Int)), (48, .int .i64 (IntKind.i64.wrap (x48l1 + 1)))]) [1, 4, 5, 6, 9, 10, 27, 28, 29, 46, 47, 48] (by kernel_rfl) ?_
              exact NN.round' [1, 4, 5, 6, 9, 10, 27, 28, 29, 46, 47, 48] (bs' := [(g178, cl [.int .i64 (IntKind.i64.wrap ((IntKind.i64.wrap (e176_6 + 1)) - a1)), .int .i64 (IntKind.i64.wrap (e176_6 + 1))] 23), (g177, cl [.int .i64 e176_1, .int .i64 e176_2, .int .i64 e176_3, .int .i64 e176_4, .int .i64 e176_5, .int .i64 e176_6, .int .i64 e176_7] 41)]) (Nat.lt_succ_self _) (List.Sublist.cons _ (List.Sublist.cons _ (List.Sublist.refl _))) (by kernel_rfl) ⟨IntKind.i64.wrap (x10l1 + x186), IntKind.i64.wrap (x48l1 + 1), H, rfl, rfl⟩
            · rw [if_neg (of_decide_eq_false c185)] at H
              refine J.condF (b := decide (x183_1 < x183_2)) c185 (by kernel_rfl) (by kernel_rfl) ?_
              refine J.skip ?_
              refine NN.block_n ?_
              refine NN.then ?_
              refine J.plain ?_
              refine LL.op (.int .i64 (IntKind.i64.wrap (x48l1 + 1))) (by kernel_rfl) (fun w _ => by kernel_rfl) ?_
              refine LL.op (.int .i64 (IntKind.i64.wrap (x48l1 + 1))) (by kernel_rfl) (fun w _ => by kernel_rfl) ?_
              refine LL.done (s' := [(1, .int .i64 a1), (4, .int .i64 0), (5, .slice A169 x166.length c170), (6, .int .i64 x6l0), (9, .pointer (some ⟨g178, 0, none⟩)), (10, .int .i64 x10l1), (27, .slice A169 x166.length c170), (28, .int .i64 (x166.length : Int)), (29, .int .i64 x29l0), (46, .slice A169 x166.length c170), (47, .int .i64 (x166.length : Int)), (48, .int .i64 (IntKind.i64.wrap (x48l1 + 1)))]) [1, 4, 5, 6, 9, 10, 27, 28, 29, 46, 47, 48] (by kernel_rfl) ?_
              exact NN.round' [1, 4, 5, 6, 9, 10, 27, 28, 29, 46, 47, 48] (bs' := [(g178, cl [.int .i64 (IntKind.i64.wrap ((IntKind.i64.wrap (e176_6 + 1)) - a1)), .int .i64 (IntKind.i64.wrap (e176_6 + 1))] 23), (g177, cl [.int .i64 e176_1, .int .i64 e176_2, .int .i64 e176_3, .int .i64 e176_4, .int .i64 e176_5, .int .i64 e176_6, .int .i64 e176_7] 41)]) (Nat.lt_succ_self _) (List.Sublist.cons _ (List.Sublist.cons _ (List.Sublist.refl _))) (by kernel_rfl) ⟨x10l1, IntKind.i64.wrap (x48l1 + 1), H, rfl, rfl⟩
          · rw [if_neg (of_decide_eq_false c180)] at H
            refine J.condF (b := decide (x48l1 < (x166.length : Int))) c180 (by kernel_rfl) (by kernel_rfl) ?_
            refine J.exit ?_
            refine NN.then_exit ?_
            rw [← hk179] at H
            (try dsimp only at H)
            refine NN.then_exit ?_
            refine NN.block_same ?_
            refine NN.then ?_
            refine J.plain ?_
            refine LL.op (.int .i64 x6l0) (by kernel_rfl) (fun w _ => by kernel_rfl) ?_
            refine LL.op (.int .i64 x10l1) (by kernel_rfl) (fun w _ => by kernel_rfl) ?_
            refine LL.op (.int .i64 (mx x6l0 x10l1)) (by kernel_rfl) (fun w _ => by kernel_rfl) ?_
            refine LL.op (.int .i64 (mx x6l0 x10l1)) (by kernel_rfl) (fun w _ => by kernel_rfl) ?_
            refine LL.done (s' := [(1, .int .i64 a1), (4, .int .i64 0), (5, .slice A169 x166.length c170), (6, .int .i64 (mx x6l0 x10l1)), (27, .slice A169 x166.length c170), (28, .int .i64 (x166.length : Int)), (29, .int .i64 x29l0)]) [1, 4, 5, 6, 27, 28, 29] (by kernel_rfl) ?_
            refine NN.block_n ?_
            refine NN.then ?_
            refine J.plain ?_
            refine LL.op (.int .i64 (IntKind.i64.wrap (x29l0 + 1))) (by kernel_rfl) (fun w _ => by kernel_rfl) ?_
            refine LL.op (.int .i64 (IntKind.i64.wrap (x29l0 + 1))) (by kernel_rfl) (fun w _ => by kernel_rfl) ?_
            refine LL.done (s' := [(1, .int .i64 a1), (4, .int .i64 0), (5, .slice A169 x166.length c170), (6, .int .i64 (mx x6l0 x10l1)), (27, .slice A169 x166.length c170), (28, .int .i64 (x166.length : Int)), (29, .int .i64 (IntKind.i64.wrap (x29l0 + 1)))]) [1, 4, 5, 6, 27, 28, 29] (by kernel_rfl) ?_
            exact NN.round' [1, 4, 5, 6, 27, 28, 29] (bs' := []) (Nat.lt_succ_self _) (List.Sublist.cons _ (List.Sublist.cons _ (List.Sublist.refl _))) (by kernel_rfl) ⟨mx x6l0 x10l1, IntKind.i64.wrap (x29l0 + 1), H, rfl, rfl⟩
        · rw [if_neg (of_decide_eq_false c175)] at H
          refine J.condF (b := decide (x29l0 < (x166.length : Int))) c175 (by kernel_rfl) (by kernel_rfl) ?_
          refine J.exit ?_
          refine NN.then_exit ?_
          refine NN.then_exit ?_
          refine NN.block_same ?_
          refine NN.then ?_
          refine J.seq ?_
          refine J.plain ?_
          refine LL.op (.int .i64 x6l0) (by kernel_rfl) (fun w _ => by kernel_rfl) ?_
          refine LL.op (.int .i64 x6l0) (by kernel_rfl) (fun w _ => by kernel_rfl) ?_
          refine LL.done (s' := [(4, .int .i64 x6l0)]) [4] (by kernel_rfl) ?_
          refine NN.then ?_
          refine J.ret ?_
          refine NN.fin1 4 (.int .i64 x6l0) (by kernel_rfl) (by kernel_rfl) (.inl rfl) (fun w hi => hi.ret ?_)
          first | (cases H; rfl) | (obtain rfl := Option.some.inj H; rfl) | (simp only [Option.some.injEq, Prod.mk.injEq] at H; obtain ⟨rfl⟩ := H; rfl)
  · rw [if_neg (nebf c163)] at H
    refine LL.bool 17 (!(x162 == 0)) true (by rw [show (!(x162 == 0)) = !((x162 == 0)) from rfl, c163]; rfl) (by kernel_rfl) ?_
    refine LL.off (by kernel_rfl) (by kernel_rfl) ?_
    refine LL.off (by kernel_rfl) (by kernel_rfl) ?_
    refine LL.op (.bool true) (by kernel_rfl) (fun w _ => by kernel_rfl) ?_
    refine LL.op (.bool true) (by kernel_rfl) (fun w _ => by kernel_rfl) ?_
    refine LL.off (by kernel_rfl) (by kernel_rfl) ?_
    refine LL.off (by kernel_rfl) (by kernel_rfl) ?_
    refine LL.op (.bool true) (by kernel_rfl) (fun w _ => by kernel_rfl) ?_
    refine LL.done (s' := [(0, .slice Aa0 a0.length ca0), (1, .int .i64 a1), (4, .int .i64 0), (24, .bool true)]) [0, 1, 4, 24] (by kernel_rfl) ?_
    refine NN.then ?_
    refine J.condT (b := true) rfl (by kernel_rfl) (by kernel_rfl) ?_
    refine J.seq ?_
    refine J.plain ?_
    refine LL.op (.int .i64 0) (by kernel_rfl) (fun w _ => by kernel_rfl) ?_
    refine LL.done (s' := [(0, .slice Aa0 a0.length ca0), (1, .int .i64 a1), (4, .int .i64 0)]) [0, 1, 4] (by kernel_rfl) ?_
    refine NN.then ?_
    refine J.ret ?_
    refine NN.then_ret ?_
    refine NN.fin1 4 (.int .i64 0) (by kernel_rfl) (by kernel_rfl) (.inl rfl) (fun w hi => hi.ret ?_)
    first | (cases H; rfl) | (obtain rfl := Option.some.inj H; rfl) | (simp only [Option.some.injEq, Prod.mk.injEq] at H; obtain ⟨rfl⟩ := H; rfl)

end Go.Proofs.Ytfjbhmpnmpphoaa
