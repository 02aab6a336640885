/- Walks of functions of the seat: each call does what the Lean function of the same name says. Printed by the session's own program absgen.py. -/
import Derived.Test.YtbgdgghijheopaaProg
import Derived.Test.YtbgdgghijheopaaAbs
namespace Go.Proofs.Ytbgdgghijheopaa
open Go.Saw
set_option linter.unusedVariables false
set_option linter.unusedSimpArgs false

theorem follows : Try.prog.follows .mixedOrders = true := by kernel_rfl

/-! ### moist_Check: function 19 -/
def moist_Check.f (a0_0 : Int) (a0_1 : Int) (a0_2 : Int) : Option (Int) := if (mn a0_0 a0_1) < 0 then (some 25) else (if 20000 < (mx a0_0 a0_1) then (some 25) else (if a0_2 < 0 then (some 9) else (if 1099511627776 < a0_2 then (some 9) else (some 0))))
set_option maxRecDepth 100000 in
theorem moist_Check.calls (a0_0 : Int) (a0_1 : Int) (a0_2 : Int)   (r1 : Int) (w : World)   (h : moist_Check.f a0_0 a0_1 a0_2 = some r1) :
    Calls Try.prog 19 #[.agg #[.int .i64 a0_0, .int .i64 a0_1, .int .i64 a0_2]] w (Ret w (.int .i64 r1)) := by
  have H := h
  clear h
  unfold moist_Check.f at H
  refine Go.Saw.calls (args := [.agg #[.int .i64 a0_0, .int .i64 a0_1, .int .i64 a0_2]]) Try.func19 rfl Try.ntmps19 (by kernel_rfl) ?_
  refine J.seq ?_
  refine J.plain ?_
  refine LL.box 28 (.tmp 0) [.int .i64 a0_0, .int .i64 a0_1, .int .i64 a0_2] (by kernel_rfl) rfl (by kernel_rfl) (fun g1 => ?_)
  refine LL.op (.int .i64 0) (by kernel_rfl) (fun w _ => by kernel_rfl) ?_
  refine LL.done (s' := [(1, .pointer (some ⟨g1, 0, none⟩)), (2, .int .i64 0)]) [1, 2] (by kernel_rfl) ?_
  refine NN.then ?_
  refine J.seq ?_
  refine J.seq ?_
  refine J.plain ?_
  refine LL.op (.pointer (some ⟨g1, 0, none⟩)) (by kernel_rfl) (fun w _ => by kernel_rfl) ?_
  refine LL.op (.int .i64 a0_0) (by kernel_rfl) (ld 0 g1 0 rfl (by kernel_rfl) rfl (by kernel_rfl)) ?_
  refine LL.op (.pointer (some ⟨g1, 1, none⟩)) (by kernel_rfl) (fun w _ => by kernel_rfl) ?_
  refine LL.op (.int .i64 a0_1) (by kernel_rfl) (ld 0 g1 1 rfl (by kernel_rfl) rfl (by kernel_rfl)) ?_
  refine LL.op (.int .i64 (mn a0_0 a0_1)) (by kernel_rfl) (fun w _ => by kernel_rfl) ?_
  refine LL.op (.bool (decide ((mn a0_0 a0_1) < 0))) (by kernel_rfl) (fun w _ => by kernel_rfl) ?_
  refine LL.op (.bool (decide ((mn a0_0 a0_1) < 0))) (by kernel_rfl) (fun w _ => by kernel_rfl) ?_
  rcases Bool.eq_false_or_eq_true (decide ((mn a0_0 a0_1) < 0)) with c2 | c2
  · rw [if_pos (of_decide_eq_true c2)] at H
    refine LL.bool 9 (decide ((mn a0_0 a0_1) < 0)) true c2 (by kernel_rfl) ?_
    refine LL.off (by kernel_rfl) (by kernel_rfl) ?_
    refine LL.off (by kernel_rfl) (by kernel_rfl) ?_
    refine LL.off (by kernel_rfl) (by kernel_rfl) ?_
    refine LL.off (by kernel_rfl) (by kernel_rfl) ?_
    refine LL.off (by kernel_rfl) (by kernel_rfl) ?_
    refine LL.off (by kernel_rfl) (by kernel_rfl) ?_
    refine LL.op (.bool true) (by kernel_rfl) (fun w _ => by kernel_rfl) ?_
    refine LL.done (s' := [(1, .pointer (some ⟨g1, 0, none⟩)), (2, .int .i64 0), (16, .bool true)]) [1, 2, 16] (by kernel_rfl) ?_
    refine NN.then ?_
    refine J.condT (b := true) rfl (by kernel_rfl) (by kernel_rfl) ?_
    refine J.seq ?_
    refine J.plain ?_
    refine LL.op (.int .i64 25) (by kernel_rfl) (fun w _ => by kernel_rfl) ?_
    refine LL.done (s' := [(1, .pointer (some ⟨g1, 0, none⟩)), (2, .int .i64 25)]) [1, 2] (by kernel_rfl) ?_
    refine NN.then ?_
    refine J.ret ?_
    refine NN.then_ret ?_
    refine NN.fin1 2 (.int .i64 25) (by kernel_rfl) (by kernel_rfl) (.inl rfl) (fun w hi => hi.ret ?_)
    first | (cases H; rfl) | (obtain rfl := Option.some.inj H; rfl) | (simp only [Option.some.injEq, Prod.mk.injEq] at H; obtain ⟨rfl⟩ := H; rfl)
  · rw [if_neg (of_decide_eq_false c2)] at H
    refine LL.bool 9 (decide ((mn a0_0 a0_1) < 0)) false c2 (by kernel_rfl) ?_
    refine LL.op (.pointer (some ⟨g1, 0, none⟩)) (by kernel_rfl) (fun w _ => by kernel_rfl) ?_
    refine LL.op (.int .i64 a0_0) (by kernel_rfl) (ld 0 g1 0 rfl (by kernel_rfl) rfl (by kernel_rfl)) ?_
    refine LL.op (.pointer (some ⟨g1, 1, none⟩)) (by kernel_rfl) (fun w _ => by kernel_rfl) ?_
    refine LL.op (.int .i64 a0_1) (by kernel_rfl) (ld 0 g1 1 rfl (by kernel_rfl) rfl (by kernel_rfl)) ?_
    refine LL.op (.int .i64 (mx a0_0 a0_1)) (by kernel_rfl) (fun w _ => by kernel_rfl) ?_
    refine LL.op (.bool (decide (20000 < (mx a0_0 a0_1)))) (by kernel_rfl) (fun w _ => by kernel_rfl) ?_
    refine LL.op (.bool (decide (20000 < (mx a0_0 a0_1)))) (by kernel_rfl) (fun w _ => by kernel_rfl) ?_
    refine LL.done (s' := [(1, .pointer (some ⟨g1, 0, none⟩)), (2, .int .i64 0), (16, .bool (decide (20000 < (mx a0_0 a0_1))))]) [1, 2, 16] (by kernel_rfl) ?_
    refine NN.then ?_
    rcases Bool.eq_false_or_eq_true (decide (20000 < (mx a0_0 a0_1))) with c3 | c3
    · rw [if_pos (of_decide_eq_true c3)] at H
      refine J.condT (b := decide (20000 < (mx a0_0 a0_1))) c3 (by kernel_rfl) (by kernel_rfl) ?_
      refine J.seq ?_
      refine J.plain ?_
      refine LL.op (.int .i64 25) (by kernel_rfl) (fun w _ => by kernel_rfl) ?_
      refine LL.done (s' := [(1, .pointer (some ⟨g1, 0, none⟩)), (2, .int .i64 25)]) [1, 2] (by kernel_rfl) ?_
      refine NN.then ?_
      refine J.ret ?_
      refine NN.then_ret ?_
      refine NN.fin1 2 (.int .i64 25) (by kernel_rfl) (by kernel_rfl) (.inl rfl) (fun w hi => hi.ret ?_)
      first | (cases H; rfl) | (obtain rfl := Option.some.inj H; rfl) | (simp only [Option.some.injEq, Prod.mk.injEq] at H; obtain ⟨rfl⟩ := H; rfl)
    · rw [if_neg (of_decide_eq_false c3)] at H
      refine J.condF (b := decide (20000 < (mx a0_0 a0_1))) c3 (by kernel_rfl) (by kernel_rfl) ?_
      refine J.skip ?_
      refine NN.then ?_
      refine J.seq ?_
      refine J.seq ?_
      refine J.plain ?_
      refine LL.op (.pointer (some ⟨g1, 2, none⟩)) (by kernel_rfl) (fun w _ => by kernel_rfl) ?_
      refine LL.op (.int .i64 a0_2) (by kernel_rfl) (ld 0 g1 2 rfl (by kernel_rfl) rfl (by kernel_rfl)) ?_
      refine LL.op (.bool (decide (a0_2 < 0))) (by kernel_rfl) (fun w _ => by kernel_rfl) ?_
      refine LL.op (.bool (decide (a0_2 < 0))) (by kernel_rfl) (fun w _ => by kernel_rfl) ?_
      rcases Bool.eq_false_or_eq_true (decide (a0_2 < 0)) with c4 | c4
      · rw [if_pos (of_decide_eq_true c4)] at H
        refine LL.bool 20 (decide (a0_2 < 0)) true c4 (by kernel_rfl) ?_
        refine LL.off (by kernel_rfl) (by kernel_rfl) ?_
        refine LL.off (by kernel_rfl) (by kernel_rfl) ?_
        refine LL.off (by kernel_rfl) (by kernel_rfl) ?_
        refine LL.op (.bool true) (by kernel_rfl) (fun w _ => by kernel_rfl) ?_
        refine LL.done (s' := [(2, .int .i64 0), (24, .bool true)]) [2, 24] (by kernel_rfl) ?_
        refine NN.then ?_
        refine J.condT (b := true) rfl (by kernel_rfl) (by kernel_rfl) ?_
        refine J.seq ?_
        refine J.plain ?_
        refine LL.op (.int .i64 9) (by kernel_rfl) (fun w _ => by kernel_rfl) ?_
        refine LL.done (s' := [(2, .int .i64 9)]) [2] (by kernel_rfl) ?_
        refine NN.then ?_
        refine J.ret ?_
        refine NN.then_ret ?_
        refine NN.fin1 2 (.int .i64 9) (by kernel_rfl) (by kernel_rfl) (.inl rfl) (fun w hi => hi.ret ?_)
        first | (cases H; rfl) | (obtain rfl := Option.some.inj H; rfl) | (simp only [Option.some.injEq, Prod.mk.injEq] at H; obtain ⟨rfl⟩ := H; rfl)
      · rw [if_neg (of_decide_eq_false c4)] at H
        refine LL.bool 20 (decide (a0_2 < 0)) false c4 (by kernel_rfl) ?_
        refine LL.op (.pointer (some ⟨g1, 2, none⟩)) (by kernel_rfl) (fun w _ => by kernel_rfl) ?_
        refine LL.op (.int .i64 a0_2) (by kernel_rfl) (ld 0 g1 2 rfl (by kernel_rfl) rfl (by kernel_rfl)) ?_
        refine LL.op (.bool (decide (1099511627776 < a0_2))) (by kernel_rfl) (fun w _ => by kernel_rfl) ?_
        refine LL.op (.bool (decide (1099511627776 < a0_2))) (by kernel_rfl) (fun w _ => by kernel_rfl) ?_
        refine LL.done (s' := [(2, .int .i64 0), (24, .bool (decide (1099511627776 < a0_2)))]) [2, 24] (by kernel_rfl) ?_
        refine NN.then ?_
        rcases Bool.eq_false_or_eq_true (decide (1099511627776 < a0_2)) with c5 | c5
        · rw [if_pos (of_decide_eq_true c5)] at H
          refine J.condT (b := decide (1099511627776 < a0_2)) c5 (by kernel_rfl) (by kernel_rfl) ?_
          refine J.seq ?_
          refine J.plain ?_
          refine LL.op (.int .i64 9) (by kernel_rfl) (fun w _ => by kernel_rfl) ?_
          refine LL.done (s' := [(2, .int .i64 9)]) [2] (by kernel_rfl) ?_
          refine NN.then ?_
          refine J.ret ?_
          refine NN.then_ret ?_
          refine NN.fin1 2 (.int .i64 9) (by kernel_rfl) (by kernel_rfl) (.inl rfl) (fun w hi => hi.ret ?_)
          first | (cases H; rfl) | (obtain rfl := Option.some.inj H; rfl) | (simp only [Option.some.injEq, Prod.mk.injEq] at H; obtain ⟨rfl⟩ := H; rfl)
        · rw [if_neg (of_decide_eq_false c5)] at H
          refine J.condF (b := decide (1099511627776 < a0_2)) c5 (by kernel_rfl) (by kernel_rfl) ?_
          refine J.skip ?_
          refine NN.then ?_
          refine J.seq ?_
          refine J.plain ?_
          refine LL.op (.int .i64 0) (by kernel_rfl) (fun w _ => by kernel_rfl) ?_
          refine LL.done (s' := [(2, .int .i64 0)]) [2] (by kernel_rfl) ?_
          refine NN.then ?_
          refine J.ret ?_
          refine NN.fin1 2 (.int .i64 0) (by kernel_rfl) (by kernel_rfl) (.inl rfl) (fun w hi => hi.ret ?_)
          first | (cases H; rfl) | (obtain rfl := Option.some.inj H; rfl) | (simp only [Option.some.injEq, Prod.mk.injEq] at H; obtain ⟨rfl⟩ := H; rfl)

/-! ### moist_Mean: function 22 -/
def moist_Mean.f (a0_0 : Int) (a0_1 : Int) (a0_2 : Int) : Option (Int) := (moist_Check.f a0_0 a0_1 a0_2).bind fun x7 => (if x7 = 0 then (some (IntKind.i64.wrap (Int.tdiv (IntKind.i64.wrap (a0_0 + (IntKind.i64.wrap (2 * a0_1)))) 3))) else (some 0))
set_option maxRecDepth 100000 in
theorem moist_Mean.calls (a0_0 : Int) (a0_1 : Int) (a0_2 : Int)   (r1 : Int) (w : World)   (h : moist_Mean.f a0_0 a0_1 a0_2 = some r1) :
    Calls Try.prog 22 #[.agg #[.int .i64 a0_0, .int .i64 a0_1, .int .i64 a0_2]] w (Ret w (.int .i64 r1)) := by
  have H := h
  clear h
  unfold moist_Mean.f at H
  refine Go.Saw.calls (args := [.agg #[.int .i64 a0_0, .int .i64 a0_1, .int .i64 a0_2]]) Try.func22 rfl Try.ntmps22 (by kernel_rfl) ?_
  refine J.seq ?_
  refine J.plain ?_
  refine LL.box 28 (.tmp 0) [.int .i64 a0_0, .int .i64 a0_1, .int .i64 a0_2] (by kernel_rfl) rfl (by kernel_rfl) (fun g6 => ?_)
  refine LL.op (.int .i64 0) (by kernel_rfl) (fun w _ => by kernel_rfl) ?_
  refine LL.done (s' := [(1, .pointer (some ⟨g6, 0, none⟩)), (2, .int .i64 0)]) [1, 2] (by kernel_rfl) ?_
  refine NN.then ?_
  refine J.seq ?_
  refine J.seq ?_
  refine J.plain ?_
  refine LL.op (.agg #[.int .i64 a0_0, .int .i64 a0_1, .int .i64 a0_2]) (by kernel_rfl) (ld 0 g6 0 rfl (by kernel_rfl) rfl (by kernel_rfl)) ?_
  obtain ⟨x7, hx7, H⟩ := bind_some H
  refine LL.call 19 #[.agg #[.int .i64 a0_0, .int .i64 a0_1, .int .i64 a0_2]] (.int .i64 x7) (by kernel_rfl) (fun w => by kernel_rfl) (fun w hw => moist_Check.calls a0_0 a0_1 a0_2   _ w   hx7) ?_
  refine LL.op (.bool (!(x7 == 0))) (by kernel_rfl) (fun w _ => by kernel_rfl) ?_
  refine LL.done (s' := [(1, .pointer (some ⟨g6, 0, none⟩)), (2, .int .i64 0), (5, .bool (!(x7 == 0)))]) [1, 2, 5] (by kernel_rfl) ?_
  refine NN.then ?_
  rcases Bool.eq_false_or_eq_true ((x7 == 0)) with c8 | c8
  · rw [if_pos (eq_of_beq c8)] at H
    refine J.condF (b := !(x7 == 0)) (by rw [show (!(x7 == 0)) = !((x7 == 0)) from rfl, c8]; rfl) (by kernel_rfl) (by kernel_rfl) ?_
    refine J.skip ?_
    refine NN.then ?_
    refine J.seq ?_
    refine J.plain ?_
    refine LL.op (.pointer (some ⟨g6, 0, none⟩)) (by kernel_rfl) (fun w _ => by kernel_rfl) ?_
    refine LL.op (.int .i64 a0_0) (by kernel_rfl) (ld 0 g6 0 rfl (by kernel_rfl) rfl (by kernel_rfl)) ?_
    refine LL.op (.pointer (some ⟨g6, 1, none⟩)) (by kernel_rfl) (fun w _ => by kernel_rfl) ?_
    refine LL.op (.int .i64 a0_1) (by kernel_rfl) (ld 0 g6 1 rfl (by kernel_rfl) rfl (by kernel_rfl)) ?_
    refine LL.op (.int .i64 (IntKind.i64.wrap (2 * a0_1))) (by kernel_rfl) (fun w _ => by kernel_rfl) ?_
    refine LL.op (.int .i64 (IntKind.i64.wrap (a0_0 + (IntKind.i64.wrap (2 * a0_1))))) (by kernel_rfl) (fun w _ => by kernel_rfl) ?_
    refine LL.op (.int .i64 (IntKind.i64.wrap (Int.tdiv (IntKind.i64.wrap (a0_0 + (IntKind.i64.wrap (2 * a0_1)))) 3))) (by kernel_rfl) (fun w _ => by kernel_rfl) ?_
    refine LL.op (.int .i64 (IntKind.i64.wrap (Int.tdiv (IntKind.i64.wrap (a0_0 + (IntKind.i64.wrap (2 * a0_1)))) 3))) (by kernel_rfl) (fun w _ => by kernel_rfl) ?_
    refine LL.done (s' := [(2, .int .i64 (IntKind.i64.wrap (Int.tdiv (IntKind.i64.wrap (a0_0 + (IntKind.i64.wrap (2 * a0_1)))) 3)))]) [2] (by kernel_rfl) ?_
    refine NN.then ?_
    refine J.ret ?_
    refine NN.fin1 2 (.int .i64 (IntKind.i64.wrap (Int.tdiv (IntKind.i64.wrap (a0_0 + (IntKind.i64.wrap (2 * a0_1)))) 3))) (by kernel_rfl) (by kernel_rfl) (.inl rfl) (fun w hi => hi.ret ?_)
    first | (cases H; rfl) | (obtain rfl := Option.some.inj H; rfl) | (simp only [Option.some.injEq, Prod.mk.injEq] at H; obtain ⟨rfl⟩ := H; rfl)
  · rw [if_neg (nebf c8)] at H
    refine J.condT (b := !(x7 == 0)) (by rw [show (!(x7 == 0)) = !((x7 == 0)) from rfl, c8]; rfl) (by kernel_rfl) (by kernel_rfl) ?_
    refine J.seq ?_
    refine J.plain ?_
    refine LL.op (.int .i64 0) (by kernel_rfl) (fun w _ => by kernel_rfl) ?_
    refine LL.done (s' := [(1, .pointer (some ⟨g6, 0, none⟩)), (2, .int .i64 0)]) [1, 2] (by kernel_rfl) ?_
    refine NN.then ?_
    refine J.ret ?_
    refine NN.then_ret ?_
    refine NN.fin1 2 (.int .i64 0) (by kernel_rfl) (by kernel_rfl) (.inl rfl) (fun w hi => hi.ret ?_)
    first | (cases H; rfl) | (obtain rfl := Option.some.inj H; rfl) | (simp only [Option.some.injEq, Prod.mk.injEq] at H; obtain ⟨rfl⟩ := H; rfl)

/-! ### sizing_green: function 23 -/
def sizing_green.f (a0_0 : ByteArray) (a0_1 : ByteArray) (a0_2 : ByteArray) (a0_3 : Int) (a0_4 : Int) (a0_5 : Int) (a0_6 : Int) (a0_7 : Int) (a0_8 : Int) (a0_9 : Int) (a0_10 : Int) (a0_12 : Int) (a0_13 : Int) (a0_14 : Int) (a0_15 : Int) (a0_16 : Bool) (a0_17 : Int) : Option (Int × Int × Bool) := if a0_5 ≤ a0_4 then (some (0, 0, false)) else (if a0_7 ≤ a0_6 then (some (0, 0, false)) else (if (mn a0_4 a0_6) < (-600) then (some (0, 0, false)) else (if 600 < (mx a0_5 a0_7) then (some (0, 0, false)) else (some (mn (IntKind.i64.wrap (a0_5 - a0_4)) (IntKind.i64.wrap (a0_7 - a0_6)), mx (IntKind.i64.wrap (a0_5 - a0_4)) (IntKind.i64.wrap (a0_7 - a0_6)), true)))))
set_option maxRecDepth 100000 in
theorem sizing_green.calls (a0_0 : ByteArray) (a0_1 : ByteArray) (a0_2 : ByteArray) (a0_3 : Int) (a0_4 : Int) (a0_5 : Int) (a0_6 : Int) (a0_7 : Int) (a0_8 : Int) (a0_9 : Int) (a0_10 : Int) (a0_12 : Int) (a0_13 : Int) (a0_14 : Int) (a0_15 : Int) (a0_16 : Bool) (a0_17 : Int)  (Aa0_11 : Option Addr) (na0_11 ca0_11 : Nat) (r1 : Int) (r2 : Int) (r3 : Bool) (w : World)   (h : sizing_green.f a0_0 a0_1 a0_2 a0_3 a0_4 a0_5 a0_6 a0_7 a0_8 a0_9 a0_10 a0_12 a0_13 a0_14 a0_15 a0_16 a0_17 = some (r1, r2, r3)) :
    Calls Try.prog 23 #[.agg #[.string a0_0, .string a0_1, .string a0_2, .int .i64 a0_3, .int .i64 a0_4, .int .i64 a0_5, .int .i64 a0_6, .int .i64 a0_7, .int .i64 a0_8, .int .i64 a0_9, .int .i64 a0_10, .slice Aa0_11 na0_11 ca0_11, .int .i64 a0_12, .int .i64 a0_13, .int .i64 a0_14, .int .i64 a0_15, .bool a0_16, .int .i64 a0_17]] w (Ret w (.tuple #[.int .i64 r1, .int .i64 r2, .bool r3])) := by
  have H := h
  clear h
  unfold sizing_green.f at H
  refine Go.Saw.calls (args := [.agg #[.string a0_0, .string a0_1, .string a0_2, .int .i64 a0_3, .int .i64 a0_4, .int .i64 a0_5, .int .i64 a0_6, .int .i64 a0_7, .int .i64 a0_8, .int .i64 a0_9, .int .i64 a0_10, .slice Aa0_11 na0_11 ca0_11, .int .i64 a0_12, .int .i64 a0_13, .int .i64 a0_14, .int .i64 a0_15, .bool a0_16, .int .i64 a0_17]]) Try.func23 rfl Try.ntmps23 (by kernel_rfl) ?_
  refine J.seq ?_
  refine J.plain ?_
  refine LL.box 30 (.tmp 0) [.string a0_0, .string a0_1, .string a0_2, .int .i64 a0_3, .int .i64 a0_4, .int .i64 a0_5, .int .i64 a0_6, .int .i64 a0_7, .int .i64 a0_8, .int .i64 a0_9, .int .i64 a0_10, .slice Aa0_11 na0_11 ca0_11, .int .i64 a0_12, .int .i64 a0_13, .int .i64 a0_14, .int .i64 a0_15, .bool a0_16, .int .i64 a0_17] (by kernel_rfl) rfl (by kernel_rfl) (fun g9 => ?_)
  refine LL.op (.int .i64 0) (by kernel_rfl) (fun w _ => by kernel_rfl) ?_
  refine LL.op (.int .i64 0) (by kernel_rfl) (fun w _ => by kernel_rfl) ?_
  refine LL.op (.bool false) (by kernel_rfl) (fun w _ => by kernel_rfl) ?_
  refine LL.done (s' := [(1, .pointer (some ⟨g9, 0, none⟩)), (2, .int .i64 0), (3, .int .i64 0), (4, .bool false)]) [1, 2, 3, 4] (by kernel_rfl) ?_
  refine NN.then ?_
  refine J.seq ?_
  refine J.held follows ?_
  refine HH.take 0 (.pointer (some ⟨g9, 4, none⟩)) rfl (by kernel_rfl) (by kernel_rfl) (fun _ h => h) (fun w _ => by kernel_rfl) ?_
  refine HH.take 1 (.pointer (some ⟨g9, 4, none⟩)) rfl (by kernel_rfl) (by kernel_rfl) (fun _ h => h) (fun w _ => by kernel_rfl) ?_
  refine HH.take 2 (.agg #[.int .i64 a0_4, .int .i64 a0_5]) rfl (by kernel_rfl) (by kernel_rfl) (fun _ h => h) (ld 0 g9 4 rfl (by kernel_rfl) rfl (by kernel_rfl)) ?_
  refine HH.take 3 (.pointer (some ⟨g9, 4, none⟩)) rfl (by kernel_rfl) (by kernel_rfl) (fun _ h => h) (fun w _ => by kernel_rfl) ?_
  refine HH.take 4 (.pointer (some ⟨g9, 6, none⟩)) rfl (by kernel_rfl) (by kernel_rfl) (fun _ h => h) (fun w _ => by kernel_rfl) ?_
  refine HH.take 5 (.agg #[.int .i64 a0_6, .int .i64 a0_7]) rfl (by kernel_rfl) (by kernel_rfl) (fun _ h => h) (ld 0 g9 6 rfl (by kernel_rfl) rfl (by kernel_rfl)) ?_
  refine HH.all2 6 7 (by kernel_rfl) ?_ ?_
  · skip
    refine HS.alloc 23 [.int .i64 0, .int .i64 0] rfl (by kernel_rfl) rfl (by kernel_rfl) (fun _ h => h) (fun g10 => ?_)
    refine HH.all1 7 (by kernel_rfl) ?_
    refine HS.alloc 23 [.int .i64 0, .int .i64 0] rfl (by kernel_rfl) rfl (by kernel_rfl) (fun _ h => h.sub (List.Sublist.cons _ (List.Sublist.refl _))) (fun g11 => ?_)
    refine HH.all1 8 (by kernel_rfl) ?_
    refine HS.store 1 g10 0 23 (.tmp 5) (.tmp 9) [.int .i64 a0_4, .int .i64 a0_5] (bs' := [(g11, cl [.int .i64 0, .int .i64 0] 23), (g10, cl [.int .i64 a0_4, .int .i64 a0_5] 23), (g9, cl [.string a0_0, .string a0_1, .string a0_2, .int .i64 a0_3, .int .i64 a0_4, .int .i64 a0_5, .int .i64 a0_6, .int .i64 a0_7, .int .i64 a0_8, .int .i64 a0_9, .int .i64 a0_10, .slice Aa0_11 na0_11 ca0_11, .int .i64 a0_12, .int .i64 a0_13, .int .i64 a0_14, .int .i64 a0_15, .bool a0_16, .int .i64 a0_17] 30)]) rfl rfl (by kernel_rfl) rfl (by kernel_rfl) rfl (by kernel_rfl) (fun _ h => h.sub (List.Sublist.cons _ (List.Sublist.cons _ (List.Sublist.refl _)))) ?_
    refine HH.all1 9 (by kernel_rfl) ?_
    refine HS.store 0 g11 0 23 (.tmp 6) (.tmp 12) [.int .i64 a0_6, .int .i64 a0_7] (bs' := [(g11, cl [.int .i64 a0_6, .int .i64 a0_7] 23), (g10, cl [.int .i64 a0_4, .int .i64 a0_5] 23), (g9, cl [.string a0_0, .string a0_1, .string a0_2, .int .i64 a0_3, .int .i64 a0_4, .int .i64 a0_5, .int .i64 a0_6, .int .i64 a0_7, .int .i64 a0_8, .int .i64 a0_9, .int .i64 a0_10, .slice Aa0_11 na0_11 ca0_11, .int .i64 a0_12, .int .i64 a0_13, .int .i64 a0_14, .int .i64 a0_15, .bool a0_16, .int .i64 a0_17] 30)]) rfl rfl (by kernel_rfl) rfl (by kernel_rfl) rfl (by kernel_rfl) (fun _ h => h.sub (List.Sublist.cons _ (List.Sublist.cons _ (List.Sublist.refl _)))) ?_
    refine HH.done (s' := [(2, .int .i64 0), (3, .int .i64 0), (4, .bool false), (5, .pointer (some ⟨g10, 0, none⟩)), (6, .pointer (some ⟨g11, 0, none⟩))]) [2, 3, 4, 5, 6] (by kernel_rfl) (by kernel_rfl) ?_
    refine NN.then ?_
    refine J.seq ?_
    refine J.seq ?_
    refine J.plain ?_
    refine LL.op (.pointer (some ⟨g10, 0, none⟩)) (by kernel_rfl) (fun w _ => by kernel_rfl) ?_
    refine LL.op (.int .i64 a0_4) (by kernel_rfl) (ld 1 g10 0 rfl (by kernel_rfl) rfl (by kernel_rfl)) ?_
    refine LL.op (.pointer (some ⟨g10, 1, none⟩)) (by kernel_rfl) (fun w _ => by kernel_rfl) ?_
    refine LL.op (.int .i64 a0_5) (by kernel_rfl) (ld 1 g10 1 rfl (by kernel_rfl) rfl (by kernel_rfl)) ?_
    refine LL.op (.bool (decide (a0_5 ≤ a0_4))) (by kernel_rfl) (fun w _ => by kernel_rfl) ?_
    refine LL.op (.bool (decide (a0_5 ≤ a0_4))) (by kernel_rfl) (fun w _ => by kernel_rfl) ?_
    rcases Bool.eq_false_or_eq_true (decide (a0_5 ≤ a0_4)) with c12 | c12
    · rw [if_pos (of_decide_eq_true c12)] at H
      refine LL.bool 18 (decide (a0_5 ≤ a0_4)) true c12 (by kernel_rfl) ?_
      refine LL.off (by kernel_rfl) (by kernel_rfl) ?_
      refine LL.off (by kernel_rfl) (by kernel_rfl) ?_
      refine LL.off (by kernel_rfl) (by kernel_rfl) ?_
      refine LL.off (by kernel_rfl) (by kernel_rfl) ?_
      refine LL.off (by kernel_rfl) (by kernel_rfl) ?_
      refine LL.op (.bool true) (by kernel_rfl) (fun w _ => by kernel_rfl) ?_
      refine LL.op (.bool true) (by kernel_rfl) (fun w _ => by kernel_rfl) ?_
      refine LL.off (by kernel_rfl) (by kernel_rfl) ?_
      refine LL.off (by kernel_rfl) (by kernel_rfl) ?_
      refine LL.off (by kernel_rfl) (by kernel_rfl) ?_
      refine LL.off (by kernel_rfl) (by kernel_rfl) ?_
      refine LL.off (by kernel_rfl) (by kernel_rfl) ?_
      refine LL.off (by kernel_rfl) (by kernel_rfl) ?_
      refine LL.op (.bool true) (by kernel_rfl) (fun w _ => by kernel_rfl) ?_
      refine LL.op (.bool true) (by kernel_rfl) (fun w _ => by kernel_rfl) ?_
      refine LL.off (by kernel_rfl) (by kernel_rfl) ?_
      refine LL.off (by kernel_rfl) (by kernel_rfl) ?_
      refine LL.off (by kernel_rfl) (by kernel_rfl) ?_
      refine LL.off (by kernel_rfl) (by kernel_rfl) ?_
      refine LL.off (by kernel_rfl) (by kernel_rfl) ?_
      refine LL.off (by kernel_rfl) (by kernel_rfl) ?_
      refine LL.op (.bool true) (by kernel_rfl) (fun w _ => by kernel_rfl) ?_
      refine LL.done (s' := [(2, .int .i64 0), (3, .int .i64 0), (4, .bool false), (5, .pointer (some ⟨g10, 0, none⟩)), (6, .pointer (some ⟨g11, 0, none⟩)), (40, .bool true)]) [2, 3, 4, 5, 6, 40] (by kernel_rfl) ?_
      refine NN.then ?_
      refine J.condT (b := true) rfl (by kernel_rfl) (by kernel_rfl) ?_
      refine J.seq ?_
      refine J.plain ?_
      refine LL.op (.int .i64 0) (by kernel_rfl) (fun w _ => by kernel_rfl) ?_
      refine LL.op (.int .i64 0) (by kernel_rfl) (fun w _ => by kernel_rfl) ?_
      refine LL.op (.bool false) (by kernel_rfl) (fun w _ => by kernel_rfl) ?_
      refine LL.done (s' := [(2, .int .i64 0), (3, .int .i64 0), (4, .bool false), (5, .pointer (some ⟨g10, 0, none⟩)), (6, .pointer (some ⟨g11, 0, none⟩))]) [2, 3, 4, 5, 6] (by kernel_rfl) ?_
      refine NN.then ?_
      refine J.ret ?_
      refine NN.then_ret ?_
      refine NN.finV (.tuple #[.int .i64 0, .int .i64 0, .bool false]) (.inl rfl) ?_ (fun w hi => hi.ret ?_)
      · exact resOk_3 (by kernel_rfl) (.tmp (t := 2) (by kernel_rfl)) (.tmp (t := 3) (by kernel_rfl)) (.tmp (t := 4) (by kernel_rfl))
      first | (cases H; rfl) | (obtain rfl := Option.some.inj H; rfl) | (simp only [Option.some.injEq, Prod.mk.injEq] at H; obtain ⟨rfl, rfl, rfl⟩ := H; rfl)
    · rw [if_neg (of_decide_eq_false c12)] at H
      refine LL.bool 18 (decide (a0_5 ≤ a0_4)) false c12 (by kernel_rfl) ?_
      refine LL.op (.pointer (some ⟨g11, 0, none⟩)) (by kernel_rfl) (fun w _ => by kernel_rfl) ?_
      refine LL.op (.int .i64 a0_6) (by kernel_rfl) (ld 0 g11 0 rfl (by kernel_rfl) rfl (by kernel_rfl)) ?_
      refine LL.op (.pointer (some ⟨g11, 1, none⟩)) (by kernel_rfl) (fun w _ => by kernel_rfl) ?_
      refine LL.op (.int .i64 a0_7) (by kernel_rfl) (ld 0 g11 1 rfl (by kernel_rfl) rfl (by kernel_rfl)) ?_
      refine LL.op (.bool (decide (a0_7 ≤ a0_6))) (by kernel_rfl) (fun w _ => by kernel_rfl) ?_
      refine LL.op (.bool (decide (a0_7 ≤ a0_6))) (by kernel_rfl) (fun w _ => by kernel_rfl) ?_
      refine LL.op (.bool (decide (a0_7 ≤ a0_6))) (by kernel_rfl) (fun w _ => by kernel_rfl) ?_
      rcases Bool.eq_false_or_eq_true (decide (a0_7 ≤ a0_6)) with c13 | c13
      · rw [if_pos (of_decide_eq_true c13)] at H
        refine LL.bool 25 (decide (a0_7 ≤ a0_6)) true c13 (by kernel_rfl) ?_
        refine LL.off (by kernel_rfl) (by kernel_rfl) ?_
        refine LL.off (by kernel_rfl) (by kernel_rfl) ?_
        refine LL.off (by kernel_rfl) (by kernel_rfl) ?_
        refine LL.off (by kernel_rfl) (by kernel_rfl) ?_
        refine LL.off (by kernel_rfl) (by kernel_rfl) ?_
        refine LL.off (by kernel_rfl) (by kernel_rfl) ?_
        refine LL.op (.bool true) (by kernel_rfl) (fun w _ => by kernel_rfl) ?_
        refine LL.op (.bool true) (by kernel_rfl) (fun w _ => by kernel_rfl) ?_
        refine LL.off (by kernel_rfl) (by kernel_rfl) ?_
        refine LL.off (by kernel_rfl) (by kernel_rfl) ?_
        refine LL.off (by kernel_rfl) (by kernel_rfl) ?_
        refine LL.off (by kernel_rfl) (by kernel_rfl) ?_
        refine LL.off (by kernel_rfl) (by kernel_rfl) ?_
        refine LL.off (by kernel_rfl) (by kernel_rfl) ?_
        refine LL.op (.bool true) (by kernel_rfl) (fun w _ => by kernel_rfl) ?_
        refine LL.done (s' := [(2, .int .i64 0), (3, .int .i64 0), (4, .bool false), (5, .pointer (some ⟨g10, 0, none⟩)), (6, .pointer (some ⟨g11, 0, none⟩)), (40, .bool true)]) [2, 3, 4, 5, 6, 40] (by kernel_rfl) ?_
        refine NN.then ?_
        refine J.condT (b := true) rfl (by kernel_rfl) (by kernel_rfl) ?_
        refine J.seq ?_
        refine J.plain ?_
        refine LL.op (.int .i64 0) (by kernel_rfl) (fun w _ => by kernel_rfl) ?_
        refine LL.op (.int .i64 0) (by kernel_rfl) (fun w _ => by kernel_rfl) ?_
        refine LL.op (.bool false) (by kernel_rfl) (fun w _ => by kernel_rfl) ?_
        refine LL.done (s' := [(2, .int .i64 0), (3, .int .i64 0), (4, .bool false), (5, .pointer (some ⟨g10, 0, none⟩)), (6, .pointer (some ⟨g11, 0, none⟩))]) [2, 3, 4, 5, 6] (by kernel_rfl) ?_
        refine NN.then ?_
        refine J.ret ?_
        refine NN.then_ret ?_
        refine NN.finV (.tuple #[.int .i64 0, .int .i64 0, .bool false]) (.inl rfl) ?_ (fun w hi => hi.ret ?_)
        · exact resOk_3 (by kernel_rfl) (.tmp (t := 2) (by kernel_rfl)) (.tmp (t := 3) (by kernel_rfl)) (.tmp (t := 4) (by kernel_rfl))
        first | (cases H; rfl) | (obtain rfl := Option.some.inj H; rfl) | (simp only [Option.some.injEq, Prod.mk.injEq] at H; obtain ⟨rfl, rfl, rfl⟩ := H; rfl)
      · rw [if_neg (of_decide_eq_false c13)] at H
        refine LL.bool 25 (decide (a0_7 ≤ a0_6)) false c13 (by kernel_rfl) ?_
        refine LL.op (.pointer (some ⟨g10, 0, none⟩)) (by kernel_rfl) (fun w _ => by kernel_rfl) ?_
        refine LL.op (.int .i64 a0_4) (by kernel_rfl) (ld 1 g10 0 rfl (by kernel_rfl) rfl (by kernel_rfl)) ?_
        refine LL.op (.pointer (some ⟨g11, 0, none⟩)) (by kernel_rfl) (fun w _ => by kernel_rfl) ?_
        refine LL.op (.int .i64 a0_6) (by kernel_rfl) (ld 0 g11 0 rfl (by kernel_rfl) rfl (by kernel_rfl)) ?_
        refine LL.op (.int .i64 (mn a0_4 a0_6)) (by kernel_rfl) (fun w _ => by kernel_rfl) ?_
        refine LL.op (.bool (decide ((mn a0_4 a0_6) < (-600)))) (by kernel_rfl) (fun w _ => by kernel_rfl) ?_
        refine LL.op (.bool (decide ((mn a0_4 a0_6) < (-600)))) (by kernel_rfl) (fun w _ => by kernel_rfl) ?_
        refine LL.op (.bool (decide ((mn a0_4 a0_6) < (-600)))) (by kernel_rfl) (fun w _ => by kernel_rfl) ?_
        rcases Bool.eq_false_or_eq_true (decide ((mn a0_4 a0_6) < (-600))) with c14 | c14
        · rw [if_pos (of_decide_eq_true c14)] at H
          refine LL.bool 33 (decide ((mn a0_4 a0_6) < (-600))) true c14 (by kernel_rfl) ?_
          refine LL.off (by kernel_rfl) (by kernel_rfl) ?_
          refine LL.off (by kernel_rfl) (by kernel_rfl) ?_
          refine LL.off (by kernel_rfl) (by kernel_rfl) ?_
          refine LL.off (by kernel_rfl) (by kernel_rfl) ?_
          refine LL.off (by kernel_rfl) (by kernel_rfl) ?_
          refine LL.off (by kernel_rfl) (by kernel_rfl) ?_
          refine LL.op (.bool true) (by kernel_rfl) (fun w _ => by kernel_rfl) ?_
          refine LL.done (s' := [(2, .int .i64 0), (3, .int .i64 0), (4, .bool false), (5, .pointer (some ⟨g10, 0, none⟩)), (6, .pointer (some ⟨g11, 0, none⟩)), (40, .bool true)]) [2, 3, 4, 5, 6, 40] (by kernel_rfl) ?_
          refine NN.then ?_
          refine J.condT (b := true) rfl (by kernel_rfl) (by kernel_rfl) ?_
          refine J.seq ?_
          refine J.plain ?_
          refine LL.op (.int .i64 0) (by kernel_rfl) (fun w _ => by kernel_rfl) ?_
          refine LL.op (.int .i64 0) (by kernel_rfl) (fun w _ => by kernel_rfl) ?_
          refine LL.op (.bool false) (by kernel_rfl) (fun w _ => by kernel_rfl) ?_
          refine LL.done (s' := [(2, .int .i64 0), (3, .int .i64 0), (4, .bool false), (5, .pointer (some ⟨g10, 0, none⟩)), (6, .pointer (some ⟨g11, 0, none⟩))]) [2, 3, 4, 5, 6] (by kernel_rfl) ?_
          refine NN.then ?_
          refine J.ret ?_
          refine NN.then_ret ?_
          refine NN.finV (.tuple #[.int .i64 0, .int .i64 0, .bool false]) (.inl rfl) ?_ (fun w hi => hi.ret ?_)
          · exact resOk_3 (by kernel_rfl) (.tmp (t := 2) (by kernel_rfl)) (.tmp (t := 3) (by kernel_rfl)) (.tmp (t := 4) (by kernel_rfl))
          first | (cases H; rfl) | (obtain rfl := Option.some.inj H; rfl) | (simp only [Option.some.injEq, Prod.mk.injEq] at H; obtain ⟨rfl, rfl, rfl⟩ := H; rfl)
        · rw [if_neg (of_decide_eq_false c14)] at H
          refine LL.bool 33 (decide ((mn a0_4 a0_6) < (-600))) false c14 (by kernel_rfl) ?_
          refine LL.op (.pointer (some ⟨g10, 1, none⟩)) (by kernel_rfl) (fun w _ => by kernel_rfl) ?_
          refine LL.op (.int .i64 a0_5) (by kernel_rfl) (ld 1 g10 1 rfl (by kernel_rfl) rfl (by kernel_rfl)) ?_
          refine LL.op (.pointer (some ⟨g11, 1, none⟩)) (by kernel_rfl) (fun w _ => by kernel_rfl) ?_
          refine LL.op (.int .i64 a0_7) (by kernel_rfl) (ld 0 g11 1 rfl (by kernel_rfl) rfl (by kernel_rfl)) ?_
          refine LL.op (.int .i64 (mx a0_5 a0_7)) (by kernel_rfl) (fun w _ => by kernel_rfl) ?_
          refine LL.op (.bool (decide (600 < (mx a0_5 a0_7)))) (by kernel_rfl) (fun w _ => by kernel_rfl) ?_
          refine LL.op (.bool (decide (600 < (mx a0_5 a0_7)))) (by kernel_rfl) (fun w _ => by kernel_rfl) ?_
          refine LL.done (s' := [(2, .int .i64 0), (3, .int .i64 0), (4, .bool false), (5, .pointer (some ⟨g10, 0, none⟩)), (6, .pointer (some ⟨g11, 0, none⟩)), (40, .bool (decide (600 < (mx a0_5 a0_7))))]) [2, 3, 4, 5, 6, 40] (by kernel_rfl) ?_
          refine NN.then ?_
          rcases Bool.eq_false_or_eq_true (decide (600 < (mx a0_5 a0_7))) with c15 | c15
          · rw [if_pos (of_decide_eq_true c15)] at H
            refine J.condT (b := decide (600 < (mx a0_5 a0_7))) c15 (by kernel_rfl) (by kernel_rfl) ?_
            refine J.seq ?_
            refine J.plain ?_
            refine LL.op (.int .i64 0) (by kernel_rfl) (fun w _ => by kernel_rfl) ?_
            refine LL.op (.int .i64 0) (by kernel_rfl) (fun w _ => by kernel_rfl) ?_
            refine LL.op (.bool false) (by kernel_rfl) (fun w _ => by kernel_rfl) ?_
            refine LL.done (s' := [(2, .int .i64 0), (3, .int .i64 0), (4, .bool false), (5, .pointer (some ⟨g10, 0, none⟩)), (6, .pointer (some ⟨g11, 0, none⟩))]) [2, 3, 4, 5, 6] (by kernel_rfl) ?_
            refine NN.then ?_
            refine J.ret ?_
            refine NN.then_ret ?_
            refine NN.finV (.tuple #[.int .i64 0, .int .i64 0, .bool false]) (.inl rfl) ?_ (fun w hi => hi.ret ?_)
            · exact resOk_3 (by kernel_rfl) (.tmp (t := 2) (by kernel_rfl)) (.tmp (t := 3) (by kernel_rfl)) (.tmp (t := 4) (by kernel_rfl))
            first | (cases H; rfl) | (obtain rfl := Option.some.inj H; rfl) | (simp only [Option.some.injEq, Prod.mk.injEq] at H; obtain ⟨rfl, rfl, rfl⟩ := H; rfl)
          · rw [if_neg (of_decide_eq_false c15)] at H
            refine J.condF (b := decide (600 < (mx a0_5 a0_7))) c15 (by kernel_rfl) (by kernel_rfl) ?_
            refine J.skip ?_
            refine NN.then ?_
            refine J.seq ?_
            refine J.drawn follows (by kernel_rfl) ?_
            refine QQ.op (.pointer (some ⟨g10, 1, none⟩)) (by kernel_rfl) (fun w _ => by kernel_rfl) ?_
            refine QQ.op (.int .i64 a0_5) (by kernel_rfl) (ld 1 g10 1 rfl (by kernel_rfl) rfl (by kernel_rfl)) ?_
            refine QQ.op (.pointer (some ⟨g10, 0, none⟩)) (by kernel_rfl) (fun w _ => by kernel_rfl) ?_
            refine QQ.op (.int .i64 a0_4) (by kernel_rfl) (ld 1 g10 0 rfl (by kernel_rfl) rfl (by kernel_rfl)) ?_
            refine QQ.op (.int .i64 (IntKind.i64.wrap (a0_5 - a0_4))) (by kernel_rfl) (fun w _ => by kernel_rfl) ?_
            refine QQ.op (.pointer (some ⟨g11, 1, none⟩)) (by kernel_rfl) (fun w _ => by kernel_rfl) ?_
            refine QQ.op (.int .i64 a0_7) (by kernel_rfl) (ld 0 g11 1 rfl (by kernel_rfl) rfl (by kernel_rfl)) ?_
            refine QQ.op (.pointer (some ⟨g11, 0, none⟩)) (by kernel_rfl) (fun w _ => by kernel_rfl) ?_
            refine QQ.op (.int .i64 a0_6) (by kernel_rfl) (ld 0 g11 0 rfl (by kernel_rfl) rfl (by kernel_rfl)) ?_
            refine QQ.op (.int .i64 (IntKind.i64.wrap (a0_7 - a0_6))) (by kernel_rfl) (fun w _ => by kernel_rfl) ?_
            refine QQ.op (.int .i64 (mn (IntKind.i64.wrap (a0_5 - a0_4)) (IntKind.i64.wrap (a0_7 - a0_6)))) (by kernel_rfl) (fun w _ => by kernel_rfl) ?_
            refine QQ.op (.pointer (some ⟨g10, 1, none⟩)) (by kernel_rfl) (fun w _ => by kernel_rfl) ?_
            refine QQ.op (.int .i64 a0_5) (by kernel_rfl) (ld 1 g10 1 rfl (by kernel_rfl) rfl (by kernel_rfl)) ?_
            refine QQ.op (.pointer (some ⟨g10, 0, none⟩)) (by kernel_rfl) (fun w _ => by kernel_rfl) ?_
            refine QQ.op (.int .i64 a0_4) (by kernel_rfl) (ld 1 g10 0 rfl (by kernel_rfl) rfl (by kernel_rfl)) ?_
            refine QQ.op (.int .i64 (IntKind.i64.wrap (a0_5 - a0_4))) (by kernel_rfl) (fun w _ => by kernel_rfl) ?_
            refine QQ.op (.pointer (some ⟨g11, 1, none⟩)) (by kernel_rfl) (fun w _ => by kernel_rfl) ?_
            refine QQ.op (.int .i64 a0_7) (by kernel_rfl) (ld 0 g11 1 rfl (by kernel_rfl) rfl (by kernel_rfl)) ?_
            refine QQ.op (.pointer (some ⟨g11, 0, none⟩)) (by kernel_rfl) (fun w _ => by kernel_rfl) ?_
            refine QQ.op (.int .i64 a0_6) (by kernel_rfl) (ld 0 g11 0 rfl (by kernel_rfl) rfl (by kernel_rfl)) ?_
            refine QQ.op (.int .i64 (IntKind.i64.wrap (a0_7 - a0_6))) (by kernel_rfl) (fun w _ => by kernel_rfl) ?_
            refine QQ.op (.int .i64 (mx (IntKind.i64.wrap (a0_5 - a0_4)) (IntKind.i64.wrap (a0_7 - a0_6)))) (by kernel_rfl) (fun w _ => by kernel_rfl) ?_
            refine QQ.op (.int .i64 (mn (IntKind.i64.wrap (a0_5 - a0_4)) (IntKind.i64.wrap (a0_7 - a0_6)))) (by kernel_rfl) (fun w _ => by kernel_rfl) ?_
            refine QQ.op (.int .i64 (mx (IntKind.i64.wrap (a0_5 - a0_4)) (IntKind.i64.wrap (a0_7 - a0_6)))) (by kernel_rfl) (fun w _ => by kernel_rfl) ?_
            refine QQ.op (.bool true) (by kernel_rfl) (fun w _ => by kernel_rfl) ?_
            refine QQ.done (s' := [(2, .int .i64 (mn (IntKind.i64.wrap (a0_5 - a0_4)) (IntKind.i64.wrap (a0_7 - a0_6)))), (3, .int .i64 (mx (IntKind.i64.wrap (a0_5 - a0_4)) (IntKind.i64.wrap (a0_7 - a0_6)))), (4, .bool true)]) [2, 3, 4] (by kernel_rfl) ?_
            refine NN.then ?_
            refine J.ret ?_
            refine NN.finV (.tuple #[.int .i64 (mn (IntKind.i64.wrap (a0_5 - a0_4)) (IntKind.i64.wrap (a0_7 - a0_6))), .int .i64 (mx (IntKind.i64.wrap (a0_5 - a0_4)) (IntKind.i64.wrap (a0_7 - a0_6))), .bool true]) (.inl rfl) ?_ (fun w hi => hi.ret ?_)
            · exact resOk_3 (by kernel_rfl) (.tmp (t := 2) (by kernel_rfl)) (.tmp (t := 3) (by kernel_rfl)) (.tmp (t := 4) (by kernel_rfl))
            first | (cases H; rfl) | (obtain rfl := Option.some.inj H; rfl) | (simp only [Option.some.injEq, Prod.mk.injEq] at H; obtain ⟨rfl, rfl, rfl⟩ := H; rfl)
  · skip
    refine HS.alloc 23 [.int .i64 0, .int .i64 0] rfl (by kernel_rfl) rfl (by kernel_rfl) (fun _ h => h) (fun g16 => ?_)
    refine HH.all1 6 (by kernel_rfl) ?_
    refine HS.alloc 23 [.int .i64 0, .int .i64 0] rfl (by kernel_rfl) rfl (by kernel_rfl) (fun _ h => h.sub (List.Sublist.cons _ (List.Sublist.refl _))) (fun g17 => ?_)
    refine HH.all1 8 (by kernel_rfl) ?_
    refine HS.store 0 g17 0 23 (.tmp 5) (.tmp 9) [.int .i64 a0_4, .int .i64 a0_5] (bs' := [(g17, cl [.int .i64 a0_4, .int .i64 a0_5] 23), (g16, cl [.int .i64 0, .int .i64 0] 23), (g9, cl [.string a0_0, .string a0_1, .string a0_2, .int .i64 a0_3, .int .i64 a0_4, .int .i64 a0_5, .int .i64 a0_6, .int .i64 a0_7, .int .i64 a0_8, .int .i64 a0_9, .int .i64 a0_10, .slice Aa0_11 na0_11 ca0_11, .int .i64 a0_12, .int .i64 a0_13, .int .i64 a0_14, .int .i64 a0_15, .bool a0_16, .int .i64 a0_17] 30)]) rfl rfl (by kernel_rfl) rfl (by kernel_rfl) rfl (by kernel_rfl) (fun _ h => h.sub (List.Sublist.cons _ (List.Sublist.cons _ (List.Sublist.refl _)))) ?_
    refine HH.all1 9 (by kernel_rfl) ?_
    refine HS.store 1 g16 0 23 (.tmp 6) (.tmp 12) [.int .i64 a0_6, .int .i64 a0_7] (bs' := [(g17, cl [.int .i64 a0_4, .int .i64 a0_5] 23), (g16, cl [.int .i64 a0_6, .int .i64 a0_7] 23), (g9, cl [.string a0_0, .string a0_1, .string a0_2, .int .i64 a0_3, .int .i64 a0_4, .int .i64 a0_5, .int .i64 a0_6, .int .i64 a0_7, .int .i64 a0_8, .int .i64 a0_9, .int .i64 a0_10, .slice Aa0_11 na0_11 ca0_11, .int .i64 a0_12, .int .i64 a0_13, .int .i64 a0_14, .int .i64 a0_15, .bool a0_16, .int .i64 a0_17] 30)]) rfl rfl (by kernel_rfl) rfl (by kernel_rfl) rfl (by kernel_rfl) (fun _ h => h.sub (List.Sublist.cons _ (List.Sublist.cons _ (List.Sublist.refl _)))) ?_
    refine HH.done (s' := [(2, .int .i64 0), (3, .int .i64 0), (4, .bool false), (5, .pointer (some ⟨g17, 0, none⟩)), (6, .pointer (some ⟨g16, 0, none⟩))]) [2, 3, 4, 5, 6] (by kernel_rfl) (by kernel_rfl) ?_
    refine NN.then ?_
    refine J.seq ?_
    refine J.seq ?_
    refine J.plain ?_
    refine LL.op (.pointer (some ⟨g17, 0, none⟩)) (by kernel_rfl) (fun w _ => by kernel_rfl) ?_
    refine LL.op (.int .i64 a0_4) (by kernel_rfl) (ld 0 g17 0 rfl (by kernel_rfl) rfl (by kernel_rfl)) ?_
    refine LL.op (.pointer (some ⟨g17, 1, none⟩)) (by kernel_rfl) (fun w _ => by kernel_rfl) ?_
    refine LL.op (.int .i64 a0_5) (by kernel_rfl) (ld 0 g17 1 rfl (by kernel_rfl) rfl (by kernel_rfl)) ?_
    refine LL.op (.bool (decide (a0_5 ≤ a0_4))) (by kernel_rfl) (fun w _ => by kernel_rfl) ?_
    refine LL.op (.bool (decide (a0_5 ≤ a0_4))) (by kernel_rfl) (fun w _ => by kernel_rfl) ?_
    rcases Bool.eq_false_or_eq_true (decide (a0_5 ≤ a0_4)) with c18 | c18
    · rw [if_pos (of_decide_eq_true c18)] at H
      refine LL.bool 18 (decide (a0_5 ≤ a0_4)) true c18 (by kernel_rfl) ?_
      refine LL.off (by kernel_rfl) (by kernel_rfl) ?_
      refine LL.off (by kernel_rfl) (by kernel_rfl) ?_
      refine LL.off (by kernel_rfl) (by kernel_rfl) ?_
      refine LL.off (by kernel_rfl) (by kernel_rfl) ?_
      refine LL.off (by kernel_rfl) (by kernel_rfl) ?_
      refine LL.op (.bool true) (by kernel_rfl) (fun w _ => by kernel_rfl) ?_
      refine LL.op (.bool true) (by kernel_rfl) (fun w _ => by kernel_rfl) ?_
      refine LL.off (by kernel_rfl) (by kernel_rfl) ?_
      refine LL.off (by kernel_rfl) (by kernel_rfl) ?_
      refine LL.off (by kernel_rfl) (by kernel_rfl) ?_
      refine LL.off (by kernel_rfl) (by kernel_rfl) ?_
      refine LL.off (by kernel_rfl) (by kernel_rfl) ?_
      refine LL.off (by kernel_rfl) (by kernel_rfl) ?_
      refine LL.op (.bool true) (by kernel_rfl) (fun w _ => by kernel_rfl) ?_
      refine LL.op (.bool true) (by kernel_rfl) (fun w _ => by kernel_rfl) ?_
      refine LL.off (by kernel_rfl) (by kernel_rfl) ?_
      refine LL.off (by kernel_rfl) (by kernel_rfl) ?_
      refine LL.off (by kernel_rfl) (by kernel_rfl) ?_
      refine LL.off (by kernel_rfl) (by kernel_rfl) ?_
      refine LL.off (by kernel_rfl) (by kernel_rfl) ?_
      refine LL.off (by kernel_rfl) (by kernel_rfl) ?_
      refine LL.op (.bool true) (by kernel_rfl) (fun w _ => by kernel_rfl) ?_
      refine LL.done (s' := [(2, .int .i64 0), (3, .int .i64 0), (4, .bool false), (5, .pointer (some ⟨g17, 0, none⟩)), (6, .pointer (some ⟨g16, 0, none⟩)), (40, .bool true)]) [2, 3, 4, 5, 6, 40] (by kernel_rfl) ?_
      refine NN.then ?_
      refine J.condT (b := true) rfl (by kernel_rfl) (by kernel_rfl) ?_
      refine J.seq ?_
      refine J.plain ?_
      refine LL.op (.int .i64 0) (by kernel_rfl) (fun w _ => by kernel_rfl) ?_
      refine LL.op (.int .i64 0) (by kernel_rfl) (fun w _ => by kernel_rfl) ?_
      refine LL.op (.bool false) (by kernel_rfl) (fun w _ => by kernel_rfl) ?_
      refine LL.done (s' := [(2, .int .i64 0), (3, .int .i64 0), (4, .bool false), (5, .pointer (some ⟨g17, 0, none⟩)), (6, .pointer (some ⟨g16, 0, none⟩))]) [2, 3, 4, 5, 6] (by kernel_rfl) ?_
      refine NN.then ?_
      refine J.ret ?_
      refine NN.then_ret ?_
      refine NN.finV (.tuple #[.int .i64 0, .int .i64 0, .bool false]) (.inl rfl) ?_ (fun w hi => hi.ret ?_)
      · exact resOk_3 (by kernel_rfl) (.tmp (t := 2) (by kernel_rfl)) (.tmp (t := 3) (by kernel_rfl)) (.tmp (t := 4) (by kernel_rfl))
      first | (cases H; rfl) | (obtain rfl := Option.some.inj H; rfl) | (simp only [Option.some.injEq, Prod.mk.injEq] at H; obtain ⟨rfl, rfl, rfl⟩ := H; rfl)
    · rw [if_neg (of_decide_eq_false c18)] at H
      refine LL.bool 18 (decide (a0_5 ≤ a0_4)) false c18 (by kernel_rfl) ?_
      refine LL.op (.pointer (some ⟨g16, 0, none⟩)) (by kernel_rfl) (fun w _ => by kernel_rfl) ?_
      refine LL.op (.int .i64 a0_6) (by kernel_rfl) (ld 1 g16 0 rfl (by kernel_rfl) rfl (by kernel_rfl)) ?_
      refine LL.op (.pointer (some ⟨g16, 1, none⟩)) (by kernel_rfl) (fun w _ => by kernel_rfl) ?_
      refine LL.op (.int .i64 a0_7) (by kernel_rfl) (ld 1 g16 1 rfl (by kernel_rfl) rfl (by kernel_rfl)) ?_
      refine LL.op (.bool (decide (a0_7 ≤ a0_6))) (by kernel_rfl) (fun w _ => by kernel_rfl) ?_
      refine LL.op (.bool (decide (a0_7 ≤ a0_6))) (by kernel_rfl) (fun w _ => by kernel_rfl) ?_
      refine LL.op (.bool (decide (a0_7 ≤ a0_6))) (by kernel_rfl) (fun w _ => by kernel_rfl) ?_
      rcases Bool.eq_false_or_eq_true (decide (a0_7 ≤ a0_6)) with c19 | c19
      · rw [if_pos (of_decide_eq_true c19)] at H
        refine LL.bool 25 (decide (a0_7 ≤ a0_6)) true c19 (by kernel_rfl) ?_
        refine LL.off (by kernel_rfl) (by kernel_rfl) ?_
        refine LL.off (by kernel_rfl) (by kernel_rfl) ?_
        refine LL.off (by kernel_rfl) (by kernel_rfl) ?_
        refine LL.off (by kernel_rfl) (by kernel_rfl) ?_
        refine LL.off (by kernel_rfl) (by kernel_rfl) ?_
        refine LL.off (by kernel_rfl) (by kernel_rfl) ?_
        refine LL.op (.bool true) (by kernel_rfl) (fun w _ => by kernel_rfl) ?_
        refine LL.op (.bool true) (by kernel_rfl) (fun w _ => by kernel_rfl) ?_
        refine LL.off (by kernel_rfl) (by kernel_rfl) ?_
        refine LL.off (by kernel_rfl) (by kernel_rfl) ?_
        refine LL.off (by kernel_rfl) (by kernel_rfl) ?_
        refine LL.off (by kernel_rfl) (by kernel_rfl) ?_
        refine LL.off (by kernel_rfl) (by kernel_rfl) ?_
        refine LL.off (by kernel_rfl) (by kernel_rfl) ?_
        refine LL.op (.bool true) (by kernel_rfl) (fun w _ => by kernel_rfl) ?_
        refine LL.done (s' := [(2, .int .i64 0), (3, .int .i64 0), (4, .bool false), (5, .pointer (some ⟨g17, 0, none⟩)), (6, .pointer (some ⟨g16, 0, none⟩)), (40, .bool true)]) [2, 3, 4, 5, 6, 40] (by kernel_rfl) ?_
        refine NN.then ?_
        refine J.condT (b := true) rfl (by kernel_rfl) (by kernel_rfl) ?_
        refine J.seq ?_
        refine J.plain ?_
        refine LL.op (.int .i64 0) (by kernel_rfl) (fun w _ => by kernel_rfl) ?_
        refine LL.op (.int .i64 0) (by kernel_rfl) (fun w _ => by kernel_rfl) ?_
        refine LL.op (.bool false) (by kernel_rfl) (fun w _ => by kernel_rfl) ?_
        refine LL.done (s' := [(2, .int .i64 0), (3, .int .i64 0), (4, .bool false), (5, .pointer (some ⟨g17, 0, none⟩)), (6, .pointer (some ⟨g16, 0, none⟩))]) [2, 3, 4, 5, 6] (by kernel_rfl) ?_
        refine NN.then ?_
        refine J.ret ?_
        refine NN.then_ret ?_
        refine NN.finV (.tuple #[.int .i64 0, .int .i64 0, .bool false]) (.inl rfl) ?_ (fun w hi => hi.ret ?_)
        · exact resOk_3 (by kernel_rfl) (.tmp (t := 2) (by kernel_rfl)) (.tmp (t := 3) (by kernel_rfl)) (.tmp (t := 4) (by kernel_rfl))
        first | (cases H; rfl) | (obtain rfl := Option.some.inj H; rfl) | (simp only [Option.some.injEq, Prod.mk.injEq] at H; obtain ⟨rfl, rfl, rfl⟩ := H; rfl)
      · rw [if_neg (of_decide_eq_false c19)] at H
        refine LL.bool 25 (decide (a0_7 ≤ a0_6)) false c19 (by kernel_rfl) ?_
        refine LL.op (.pointer (some ⟨g17, 0, none⟩)) (by kernel_rfl) (fun w _ => by kernel_rfl) ?_
        refine LL.op (.int .i64 a0_4) (by kernel_rfl) (ld 0 g17 0 rfl (by kernel_rfl) rfl (by kernel_rfl)) ?_
        refine LL.op (.pointer (some ⟨g16, 0, none⟩)) (by kernel_rfl) (fun w _ => by kernel_rfl) ?_
        refine LL.op (.int .i64 a0_6) (by kernel_rfl) (ld 1 g16 0 rfl (by kernel_rfl) rfl (by kernel_rfl)) ?_
        refine LL.op (.int .i64 (mn a0_4 a0_6)) (by kernel_rfl) (fun w _ => by kernel_rfl) ?_
        refine LL.op (.bool (decide ((mn a0_4 a0_6) < (-600)))) (by kernel_rfl) (fun w _ => by kernel_rfl) ?_
        refine LL.op (.bool (decide ((mn a0_4 a0_6) < (-600)))) (by kernel_rfl) (fun w _ => by kernel_rfl) ?_
        refine LL.op (.bool (decide ((mn a0_4 a0_6) < (-600)))) (by kernel_rfl) (fun w _ => by kernel_rfl) ?_
        rcases Bool.eq_false_or_eq_true (decide ((mn a0_4 a0_6) < (-600))) with c20 | c20
        · rw [if_pos (of_decide_eq_true c20)] at H
          refine LL.bool 33 (decide ((mn a0_4 a0_6) < (-600))) true c20 (by kernel_rfl) ?_
          refine LL.off (by kernel_rfl) (by kernel_rfl) ?_
          refine LL.off (by kernel_rfl) (by kernel_rfl) ?_
          refine LL.off (by kernel_rfl) (by kernel_rfl) ?_
          refine LL.off (by kernel_rfl) (by kernel_rfl) ?_
          refine LL.off (by kernel_rfl) (by kernel_rfl) ?_
          refine LL.off (by kernel_rfl) (by kernel_rfl) ?_
          refine LL.op (.bool true) (by kernel_rfl) (fun w _ => by kernel_rfl) ?_
          refine LL.done (s' := [(2, .int .i64 0), (3, .int .i64 0), (4, .bool false), (5, .pointer (some ⟨g17, 0, none⟩)), (6, .pointer (some ⟨g16, 0, none⟩)), (40, .bool true)]) [2, 3, 4, 5, 6, 40] (by kernel_rfl) ?_
          refine NN.then ?_
          refine J.condT (b := true) rfl (by kernel_rfl) (by kernel_rfl) ?_
          refine J.seq ?_
          refine J.plain ?_
          refine LL.op (.int .i64 0) (by kernel_rfl) (fun w _ => by kernel_rfl) ?_
          refine LL.op (.int .i64 0) (by kernel_rfl) (fun w _ => by kernel_rfl) ?_
          refine LL.op (.bool false) (by kernel_rfl) (fun w _ => by kernel_rfl) ?_
          refine LL.done (s' := [(2, .int .i64 0), (3, .int .i64 0), (4, .bool false), (5, .pointer (some ⟨g17, 0, none⟩)), (6, .pointer (some ⟨g16, 0, none⟩))]) [2, 3, 4, 5, 6] (by kernel_rfl) ?_
          refine NN.then ?_
          refine J.ret ?_
          refine NN.then_ret ?_
          refine NN.finV (.tuple #[.int .i64 0, .int .i64 0, .bool false]) (.inl rfl) ?_ (fun w hi => hi.ret ?_)
          · exact resOk_3 (by kernel_rfl) (.tmp (t := 2) (by kernel_rfl)) (.tmp (t := 3) (by kernel_rfl)) (.tmp (t := 4) (by kernel_rfl))
          first | (cases H; rfl) | (obtain rfl := Option.some.inj H; rfl) | (simp only [Option.some.injEq, Prod.mk.injEq] at H; obtain ⟨rfl, rfl, rfl⟩ := H; rfl)
        · rw [if_neg (of_decide_eq_false c20)] at H
          refine LL.bool 33 (decide ((mn a0_4 a0_6) < (-600))) false c20 (by kernel_rfl) ?_
          refine LL.op (.pointer (some ⟨g17, 1, none⟩)) (by kernel_rfl) (fun w _ => by kernel_rfl) ?_
          refine LL.op (.int .i64 a0_5) (by kernel_rfl) (ld 0 g17 1 rfl (by kernel_rfl) rfl (by kernel_rfl)) ?_
          refine LL.op (.pointer (some ⟨g16, 1, none⟩)) (by kernel_rfl) (fun w _ => by kernel_rfl) ?_
          refine LL.op (.int .i64 a0_7) (by kernel_rfl) (ld 1 g16 1 rfl (by kernel_rfl) rfl (by kernel_rfl)) ?_
          refine LL.op (.int .i64 (mx a0_5 a0_7)) (by kernel_rfl) (fun w _ => by kernel_rfl) ?_
          refine LL.op (.bool (decide (600 < (mx a0_5 a0_7)))) (by kernel_rfl) (fun w _ => by kernel_rfl) ?_
          refine LL.op (.bool (decide (600 < (mx a0_5 a0_7)))) (by kernel_rfl) (fun w _ => by kernel_rfl) ?_
          refine LL.done (s' := [(2, .int .i64 0), (3, .int .i64 0), (4, .bool false), (5, .pointer (some ⟨g17, 0, none⟩)), (6, .pointer (some ⟨g16, 0, none⟩)), (40, .bool (decide (600 < (mx a0_5 a0_7))))]) [2, 3, 4, 5, 6, 40] (by kernel_rfl) ?_
          refine NN.then ?_
          rcases Bool.eq_false_or_eq_true (decide (600 < (mx a0_5 a0_7))) with c21 | c21
          · rw [if_pos (of_decide_eq_true c21)] at H
            refine J.condT (b := decide (600 < (mx a0_5 a0_7))) c21 (by kernel_rfl) (by kernel_rfl) ?_
            refine J.seq ?_
            refine J.plain ?_
            refine LL.op (.int .i64 0) (by kernel_rfl) (fun w _ => by kernel_rfl) ?_
            refine LL.op (.int .i64 0) (by kernel_rfl) (fun w _ => by kernel_rfl) ?_
            refine LL.op (.bool false) (by kernel_rfl) (fun w _ => by kernel_rfl) ?_
            refine LL.done (s' := [(2, .int .i64 0), (3, .int .i64 0), (4, .bool false), (5, .pointer (some ⟨g17, 0, none⟩)), (6, .pointer (some ⟨g16, 0, none⟩))]) [2, 3, 4, 5, 6] (by kernel_rfl) ?_
            refine NN.then ?_
            refine J.ret ?_
            refine NN.then_ret ?_
            refine NN.finV (.tuple #[.int .i64 0, .int .i64 0, .bool false]) (.inl rfl) ?_ (fun w hi => hi.ret ?_)
            · exact resOk_3 (by kernel_rfl) (.tmp (t := 2) (by kernel_rfl)) (.tmp (t := 3) (by kernel_rfl)) (.tmp (t := 4) (by kernel_rfl))
            first | (cases H; rfl) | (obtain rfl := Option.some.inj H; rfl) | (simp only [Option.some.injEq, Prod.mk.injEq] at H; obtain ⟨rfl, rfl, rfl⟩ := H; rfl)
          · rw [if_neg (of_decide_eq_false c21)] at H
            refine J.condF (b := decide (600 < (mx a0_5 a0_7))) c21 (by kernel_rfl) (by kernel_rfl) ?_
            refine J.skip ?_
            refine NN.then ?_
            refine J.seq ?_
            refine J.drawn follows (by kernel_rfl) ?_
            refine QQ.op (.pointer (some ⟨g17, 1, none⟩)) (by kernel_rfl) (fun w _ => by kernel_rfl) ?_
            refine QQ.op (.int .i64 a0_5) (by kernel_rfl) (ld 0 g17 1 rfl (by kernel_rfl) rfl (by kernel_rfl)) ?_
            refine QQ.op (.pointer (some ⟨g17, 0, none⟩)) (by kernel_rfl) (fun w _ => by kernel_rfl) ?_
            refine QQ.op (.int .i64 a0_4) (by kernel_rfl) (ld 0 g17 0 rfl (by kernel_rfl) rfl (by kernel_rfl)) ?_
            refine QQ.op (.int .i64 (IntKind.i64.wrap (a0_5 - a0_4))) (by kernel_rfl) (fun w _ => by kernel_rfl) ?_
            refine QQ.op (.pointer (some ⟨g16, 1, none⟩)) (by kernel_rfl) (fun w _ => by kernel_rfl) ?_
            refine QQ.op (.int .i64 a0_7) (by kernel_rfl) (ld 1 g16 1 rfl (by kernel_rfl) rfl (by kernel_rfl)) ?_
            refine QQ.op (.pointer (some ⟨g16, 0, none⟩)) (by kernel_rfl) (fun w _ => by kernel_rfl) ?_
            refine QQ.op (.int .i64 a0_6) (by kernel_rfl) (ld 1 g16 0 rfl (by kernel_rfl) rfl (by kernel_rfl)) ?_
            refine QQ.op (.int .i64 (IntKind.i64.wrap (a0_7 - a0_6))) (by kernel_rfl) (fun w _ => by kernel_rfl) ?_
            refine QQ.op (.int .i64 (mn (IntKind.i64.wrap (a0_5 - a0_4)) (IntKind.i64.wrap (a0_7 - a0_6)))) (by kernel_rfl) (fun w _ => by kernel_rfl) ?_
            refine QQ.op (.pointer (some ⟨g17, 1, none⟩)) (by kernel_rfl) (fun w _ => by kernel_rfl) ?_
            refine QQ.op (.int .i64 a0_5) (by kernel_rfl) (ld 0 g17 1 rfl (by kernel_rfl) rfl (by kernel_rfl)) ?_
            refine QQ.op (.pointer (some ⟨g17, 0, none⟩)) (by kernel_rfl) (fun w _ => by kernel_rfl) ?_
            refine QQ.op (.int .i64 a0_4) (by kernel_rfl) (ld 0 g17 0 rfl (by kernel_rfl) rfl (by kernel_rfl)) ?_
            refine QQ.op (.int .i64 (IntKind.i64.wrap (a0_5 - a0_4))) (by kernel_rfl) (fun w _ => by kernel_rfl) ?_
            refine QQ.op (.pointer (some ⟨g16, 1, none⟩)) (by kernel_rfl) (fun w _ => by kernel_rfl) ?_
            refine QQ.op (.int .i64 a0_7) (by kernel_rfl) (ld 1 g16 1 rfl (by kernel_rfl) rfl (by kernel_rfl)) ?_
            refine QQ.op (.pointer (some ⟨g16, 0, none⟩)) (by kernel_rfl) (fun w _ => by kernel_rfl) ?_
            refine QQ.op (.int .i64 a0_6) (by kernel_rfl) (ld 1 g16 0 rfl (by kernel_rfl) rfl (by kernel_rfl)) ?_
            refine QQ.op (.int .i64 (IntKind.i64.wrap (a0_7 - a0_6))) (by kernel_rfl) (fun w _ => by kernel_rfl) ?_
            refine QQ.op (.int .i64 (mx (IntKind.i64.wrap (a0_5 - a0_4)) (IntKind.i64.wrap (a0_7 - a0_6)))) (by kernel_rfl) (fun w _ => by kernel_rfl) ?_
            refine QQ.op (.int .i64 (mn (IntKind.i64.wrap (a0_5 - a0_4)) (IntKind.i64.wrap (a0_7 - a0_6)))) (by kernel_rfl) (fun w _ => by kernel_rfl) ?_
            refine QQ.op (.int .i64 (mx (IntKind.i64.wrap (a0_5 - a0_4)) (IntKind.i64.wrap (a0_7 - a0_6)))) (by kernel_rfl) (fun w _ => by kernel_rfl) ?_
            refine QQ.op (.bool true) (by kernel_rfl) (fun w _ => by kernel_rfl) ?_
            refine QQ.done (s' := [(2, .int .i64 (mn (IntKind.i64.wrap (a0_5 - a0_4)) (IntKind.i64.wrap (a0_7 - a0_6)))), (3, .int .i64 (mx (IntKind.i64.wrap (a0_5 - a0_4)) (IntKind.i64.wrap (a0_7 - a0_6)))), (4, .bool true)]) [2, 3, 4] (by kernel_rfl) ?_
            refine NN.then ?_
            refine J.ret ?_
            refine NN.finV (.tuple #[.int .i64 (mn (IntKind.i64.wrap (a0_5 - a0_4)) (IntKind.i64.wrap (a0_7 - a0_6))), .int .i64 (mx (IntKind.i64.wrap (a0_5 - a0_4)) (IntKind.i64.wrap (a0_7 - a0_6))), .bool true]) (.inl rfl) ?_ (fun w hi => hi.ret ?_)
            · exact resOk_3 (by kernel_rfl) (.tmp (t := 2) (by kernel_rfl)) (.tmp (t := 3) (by kernel_rfl)) (.tmp (t := 4) (by kernel_rfl))
            first | (cases H; rfl) | (obtain rfl := Option.some.inj H; rfl) | (simp only [Option.some.injEq, Prod.mk.injEq] at H; obtain ⟨rfl, rfl, rfl⟩ := H; rfl)

/-! ### units_Clamp: function 35 -/
def units_Clamp.f (a0 : Int) (a1 : Int) (a2 : Int) : Option (Int) := if a2 < a1 then (some a1) else (if a0 < a1 then (some a1) else (some (mn a0 a2)))
set_option maxRecDepth 100000 in
theorem units_Clamp.calls (a0 : Int) (a1 : Int) (a2 : Int)   (r1 : Int) (w : World)   (h : units_Clamp.f a0 a1 a2 = some r1) :
    Calls Try.prog 35 #[.int .i64 a0, .int .i64 a1, .int .i64 a2] w (Ret w (.int .i64 r1)) := by
  have H := h
  clear h
  unfold units_Clamp.f at H
  refine Go.Saw.calls (args := [.int .i64 a0, .int .i64 a1, .int .i64 a2]) Try.func35 rfl Try.ntmps35 (by kernel_rfl) ?_
  refine J.seq ?_
  refine J.plain ?_
  refine LL.op (.int .i64 0) (by kernel_rfl) (fun w _ => by kernel_rfl) ?_
  refine LL.done (s' := [(0, .int .i64 a0), (1, .int .i64 a1), (2, .int .i64 a2), (6, .int .i64 0)]) [0, 1, 2, 6] (by kernel_rfl) ?_
  refine NN.then ?_
  refine J.seq ?_
  refine J.seq ?_
  refine J.plain ?_
  refine LL.op (.int .i64 a1) (by kernel_rfl) (fun w _ => by kernel_rfl) ?_
  refine LL.op (.int .i64 a2) (by kernel_rfl) (fun w _ => by kernel_rfl) ?_
  refine LL.op (.bool (decide (a2 < a1))) (by kernel_rfl) (fun w _ => by kernel_rfl) ?_
  refine LL.op (.bool (decide (a2 < a1))) (by kernel_rfl) (fun w _ => by kernel_rfl) ?_
  rcases Bool.eq_false_or_eq_true (decide (a2 < a1)) with c22 | c22
  · rw [if_pos (of_decide_eq_true c22)] at H
    refine LL.bool 10 (decide (a2 < a1)) true c22 (by kernel_rfl) ?_
    refine LL.off (by kernel_rfl) (by kernel_rfl) ?_
    refine LL.off (by kernel_rfl) (by kernel_rfl) ?_
    refine LL.off (by kernel_rfl) (by kernel_rfl) ?_
    refine LL.op (.bool true) (by kernel_rfl) (fun w _ => by kernel_rfl) ?_
    refine LL.done (s' := [(0, .int .i64 a0), (1, .int .i64 a1), (2, .int .i64 a2), (6, .int .i64 0), (14, .bool true)]) [0, 1, 2, 6, 14] (by kernel_rfl) ?_
    refine NN.then ?_
    refine J.condT (b := true) rfl (by kernel_rfl) (by kernel_rfl) ?_
    refine J.seq ?_
    refine J.plain ?_
    refine LL.op (.int .i64 a1) (by kernel_rfl) (fun w _ => by kernel_rfl) ?_
    refine LL.op (.int .i64 a1) (by kernel_rfl) (fun w _ => by kernel_rfl) ?_
    refine LL.done (s' := [(0, .int .i64 a0), (2, .int .i64 a2), (6, .int .i64 a1)]) [0, 2, 6] (by kernel_rfl) ?_
    refine NN.then ?_
    refine J.ret ?_
    refine NN.then_ret ?_
    refine NN.fin1 6 (.int .i64 a1) (by kernel_rfl) (by kernel_rfl) (.inl rfl) (fun w hi => hi.ret ?_)
    first | (cases H; rfl) | (obtain rfl := Option.some.inj H; rfl) | (simp only [Option.some.injEq, Prod.mk.injEq] at H; obtain ⟨rfl⟩ := H; rfl)
  · rw [if_neg (of_decide_eq_false c22)] at H
    refine LL.bool 10 (decide (a2 < a1)) false c22 (by kernel_rfl) ?_
    refine LL.op (.int .i64 a0) (by kernel_rfl) (fun w _ => by kernel_rfl) ?_
    refine LL.op (.int .i64 a1) (by kernel_rfl) (fun w _ => by kernel_rfl) ?_
    refine LL.op (.bool (decide (a0 < a1))) (by kernel_rfl) (fun w _ => by kernel_rfl) ?_
    refine LL.op (.bool (decide (a0 < a1))) (by kernel_rfl) (fun w _ => by kernel_rfl) ?_
    refine LL.done (s' := [(0, .int .i64 a0), (1, .int .i64 a1), (2, .int .i64 a2), (6, .int .i64 0), (14, .bool (decide (a0 < a1)))]) [0, 1, 2, 6, 14] (by kernel_rfl) ?_
    refine NN.then ?_
    rcases Bool.eq_false_or_eq_true (decide (a0 < a1)) with c23 | c23
    · rw [if_pos (of_decide_eq_true c23)] at H
      refine J.condT (b := decide (a0 < a1)) c23 (by kernel_rfl) (by kernel_rfl) ?_
      refine J.seq ?_
      refine J.plain ?_
      refine LL.op (.int .i64 a1) (by kernel_rfl) (fun w _ => by kernel_rfl) ?_
      refine LL.op (.int .i64 a1) (by kernel_rfl) (fun w _ => by kernel_rfl) ?_
      refine LL.done (s' := [(0, .int .i64 a0), (2, .int .i64 a2), (6, .int .i64 a1)]) [0, 2, 6] (by kernel_rfl) ?_
      refine NN.then ?_
      refine J.ret ?_
      refine NN.then_ret ?_
      refine NN.fin1 6 (.int .i64 a1) (by kernel_rfl) (by kernel_rfl) (.inl rfl) (fun w hi => hi.ret ?_)
      first | (cases H; rfl) | (obtain rfl := Option.some.inj H; rfl) | (simp only [Option.some.injEq, Prod.mk.injEq] at H; obtain ⟨rfl⟩ := H; rfl)
    · rw [if_neg (of_decide_eq_false c23)] at H
      refine J.condF (b := decide (a0 < a1)) c23 (by kernel_rfl) (by kernel_rfl) ?_
      refine J.skip ?_
      refine NN.then ?_
      refine J.seq ?_
      refine J.plain ?_
      refine LL.op (.int .i64 a0) (by kernel_rfl) (fun w _ => by kernel_rfl) ?_
      refine LL.op (.int .i64 a2) (by kernel_rfl) (fun w _ => by kernel_rfl) ?_
      refine LL.op (.int .i64 (mn a0 a2)) (by kernel_rfl) (fun w _ => by kernel_rfl) ?_
      refine LL.op (.int .i64 (mn a0 a2)) (by kernel_rfl) (fun w _ => by kernel_rfl) ?_
      refine LL.done (s' := [(6, .int .i64 (mn a0 a2))]) [6] (by kernel_rfl) ?_
      refine NN.then ?_
      refine J.ret ?_
      refine NN.fin1 6 (.int .i64 (mn a0 a2)) (by kernel_rfl) (by kernel_rfl) (.inl rfl) (fun w hi => hi.ret ?_)
      first | (cases H; rfl) | (obtain rfl := Option.some.inj H; rfl) | (simp only [Option.some.injEq, Prod.mk.injEq] at H; obtain ⟨rfl⟩ := H; rfl)

/-! ### wood_Shrunk: function 24 -/
def wood_Shrunk.f (a0_0 : ByteArray) (a0_1 : Int) (a0_2 : Int) (a0_3 : Int) (a0_4 : Int) (a0_5 : Int) (a0_6 : Int) (a0_7 : Int) (a0_8 : Int) (a0_9 : Int) (a0_10 : Int) (a0_11 : Int) (a0_12 : Int) (a1 : Int) (a2 : Int) : Option (Int) := if a1 < 0 then (some a1) else (if 20000 < a1 then (some a1) else (if a0_12 < 0 then (some a1) else (if 200 < a0_12 then (some a1) else ((units_Clamp.f a2 0 3000).bind fun x29 => (some (IntKind.i64.wrap (a1 - (IntKind.i64.wrap (Int.tdiv (IntKind.i64.wrap ((IntKind.i64.wrap (a1 * a0_12)) * (IntKind.i64.wrap (3000 - x29)))) 3000000)))))))))
set_option maxRecDepth 100000 in
theorem wood_Shrunk.calls (a0_0 : ByteArray) (a0_1 : Int) (a0_2 : Int) (a0_3 : Int) (a0_4 : Int) (a0_5 : Int) (a0_6 : Int) (a0_7 : Int) (a0_8 : Int) (a0_9 : Int) (a0_10 : Int) (a0_11 : Int) (a0_12 : Int) (a1 : Int) (a2 : Int)   (r1 : Int) (w : World)   (h : wood_Shrunk.f a0_0 a0_1 a0_2 a0_3 a0_4 a0_5 a0_6 a0_7 a0_8 a0_9 a0_10 a0_11 a0_12 a1 a2 = some r1) :
    Calls Try.prog 24 #[.agg #[.string a0_0, .int .i64 a0_1, .int .i64 a0_2, .int .i64 a0_3, .int .i64 a0_4, .int .i64 a0_5, .int .i64 a0_6, .int .i64 a0_7, .int .i64 a0_8, .int .i64 a0_9, .int .i64 a0_10, .int .i64 a0_11, .int .i64 a0_12], .int .i64 a1, .int .i64 a2] w (Ret w (.int .i64 r1)) := by
  have H := h
  clear h
  unfold wood_Shrunk.f at H
  refine Go.Saw.calls (args := [.agg #[.string a0_0, .int .i64 a0_1, .int .i64 a0_2, .int .i64 a0_3, .int .i64 a0_4, .int .i64 a0_5, .int .i64 a0_6, .int .i64 a0_7, .int .i64 a0_8, .int .i64 a0_9, .int .i64 a0_10, .int .i64 a0_11, .int .i64 a0_12], .int .i64 a1, .int .i64 a2]) Try.func24 rfl Try.ntmps24 (by kernel_rfl) ?_
  refine J.seq ?_
  refine J.plain ?_
  refine LL.box 35 (.tmp 0) [.string a0_0, .int .i64 a0_1, .int .i64 a0_2, .int .i64 a0_3, .int .i64 a0_4, .int .i64 a0_5, .int .i64 a0_6, .int .i64 a0_7, .int .i64 a0_8, .int .i64 a0_9, .int .i64 a0_10, .int .i64 a0_11, .int .i64 a0_12] (by kernel_rfl) rfl (by kernel_rfl) (fun g24 => ?_)
  refine LL.op (.int .i64 0) (by kernel_rfl) (fun w _ => by kernel_rfl) ?_
  refine LL.done (s' := [(1, .int .i64 a1), (2, .int .i64 a2), (3, .pointer (some ⟨g24, 0, none⟩)), (6, .int .i64 0)]) [1, 2, 3, 6] (by kernel_rfl) ?_
  refine NN.then ?_
  refine J.seq ?_
  refine J.seq ?_
  refine J.plain ?_
  refine LL.op (.int .i64 a1) (by kernel_rfl) (fun w _ => by kernel_rfl) ?_
  refine LL.op (.bool (decide (a1 < 0))) (by kernel_rfl) (fun w _ => by kernel_rfl) ?_
  refine LL.op (.bool (decide (a1 < 0))) (by kernel_rfl) (fun w _ => by kernel_rfl) ?_
  rcases Bool.eq_false_or_eq_true (decide (a1 < 0)) with c25 | c25
  · rw [if_pos (of_decide_eq_true c25)] at H
    refine LL.bool 10 (decide (a1 < 0)) true c25 (by kernel_rfl) ?_
    refine LL.off (by kernel_rfl) (by kernel_rfl) ?_
    refine LL.off (by kernel_rfl) (by kernel_rfl) ?_
    refine LL.op (.bool true) (by kernel_rfl) (fun w _ => by kernel_rfl) ?_
    refine LL.op (.bool true) (by kernel_rfl) (fun w _ => by kernel_rfl) ?_
    refine LL.off (by kernel_rfl) (by kernel_rfl) ?_
    refine LL.off (by kernel_rfl) (by kernel_rfl) ?_
    refine LL.off (by kernel_rfl) (by kernel_rfl) ?_
    refine LL.op (.bool true) (by kernel_rfl) (fun w _ => by kernel_rfl) ?_
    refine LL.op (.bool true) (by kernel_rfl) (fun w _ => by kernel_rfl) ?_
    refine LL.off (by kernel_rfl) (by kernel_rfl) ?_
    refine LL.off (by kernel_rfl) (by kernel_rfl) ?_
    refine LL.off (by kernel_rfl) (by kernel_rfl) ?_
    refine LL.op (.bool true) (by kernel_rfl) (fun w _ => by kernel_rfl) ?_
    refine LL.done (s' := [(1, .int .i64 a1), (2, .int .i64 a2), (3, .pointer (some ⟨g24, 0, none⟩)), (6, .int .i64 0), (23, .bool true)]) [1, 2, 3, 6, 23] (by kernel_rfl) ?_
    refine NN.then ?_
    refine J.condT (b := true) rfl (by kernel_rfl) (by kernel_rfl) ?_
    refine J.seq ?_
    refine J.plain ?_
    refine LL.op (.int .i64 a1) (by kernel_rfl) (fun w _ => by kernel_rfl) ?_
    refine LL.op (.int .i64 a1) (by kernel_rfl) (fun w _ => by kernel_rfl) ?_
    refine LL.done (s' := [(1, .int .i64 a1), (2, .int .i64 a2), (3, .pointer (some ⟨g24, 0, none⟩)), (6, .int .i64 a1)]) [1, 2, 3, 6] (by kernel_rfl) ?_
    refine NN.then ?_
    refine J.ret ?_
    refine NN.then_ret ?_
    refine NN.fin1 6 (.int .i64 a1) (by kernel_rfl) (by kernel_rfl) (.inl rfl) (fun w hi => hi.ret ?_)
    first | (cases H; rfl) | (obtain rfl := Option.some.inj H; rfl) | (simp only [Option.some.injEq, Prod.mk.injEq] at H; obtain ⟨rfl⟩ := H; rfl)
  · rw [if_neg (of_decide_eq_false c25)] at H
    refine LL.bool 10 (decide (a1 < 0)) false c25 (by kernel_rfl) ?_
    refine LL.op (.int .i64 a1) (by kernel_rfl) (fun w _ => by kernel_rfl) ?_
    refine LL.op (.bool (decide (20000 < a1))) (by kernel_rfl) (fun w _ => by kernel_rfl) ?_
    refine LL.op (.bool (decide (20000 < a1))) (by kernel_rfl) (fun w _ => by kernel_rfl) ?_
    refine LL.op (.bool (decide (20000 < a1))) (by kernel_rfl) (fun w _ => by kernel_rfl) ?_
    rcases Bool.eq_false_or_eq_true (decide (20000 < a1)) with c26 | c26
    · rw [if_pos (of_decide_eq_true c26)] at H
      refine LL.bool 14 (decide (20000 < a1)) true c26 (by kernel_rfl) ?_
      refine LL.off (by kernel_rfl) (by kernel_rfl) ?_
      refine LL.off (by kernel_rfl) (by kernel_rfl) ?_
      refine LL.off (by kernel_rfl) (by kernel_rfl) ?_
      refine LL.op (.bool true) (by kernel_rfl) (fun w _ => by kernel_rfl) ?_
      refine LL.op (.bool true) (by kernel_rfl) (fun w _ => by kernel_rfl) ?_
      refine LL.off (by kernel_rfl) (by kernel_rfl) ?_
      refine LL.off (by kernel_rfl) (by kernel_rfl) ?_
      refine LL.off (by kernel_rfl) (by kernel_rfl) ?_
      refine LL.op (.bool true) (by kernel_rfl) (fun w _ => by kernel_rfl) ?_
      refine LL.done (s' := [(1, .int .i64 a1), (2, .int .i64 a2), (3, .pointer (some ⟨g24, 0, none⟩)), (6, .int .i64 0), (23, .bool true)]) [1, 2, 3, 6, 23] (by kernel_rfl) ?_
      refine NN.then ?_
      refine J.condT (b := true) rfl (by kernel_rfl) (by kernel_rfl) ?_
      refine J.seq ?_
      refine J.plain ?_
      refine LL.op (.int .i64 a1) (by kernel_rfl) (fun w _ => by kernel_rfl) ?_
      refine LL.op (.int .i64 a1) (by kernel_rfl) (fun w _ => by kernel_rfl) ?_
      refine LL.done (s' := [(1, .int .i64 a1), (2, .int .i64 a2), (3, .pointer (some ⟨g24, 0, none⟩)), (6, .int .i64 a1)]) [1, 2, 3, 6] (by kernel_rfl) ?_
      refine NN.then ?_
      refine J.ret ?_
      refine NN.then_ret ?_
      refine NN.fin1 6 (.int .i64 a1) (by kernel_rfl) (by kernel_rfl) (.inl rfl) (fun w hi => hi.ret ?_)
      first | (cases H; rfl) | (obtain rfl := Option.some.inj H; rfl) | (simp only [Option.some.injEq, Prod.mk.injEq] at H; obtain ⟨rfl⟩ := H; rfl)
    · rw [if_neg (of_decide_eq_false c26)] at H
      refine LL.bool 14 (decide (20000 < a1)) false c26 (by kernel_rfl) ?_
      refine LL.op (.pointer (some ⟨g24, 12, none⟩)) (by kernel_rfl) (fun w _ => by kernel_rfl) ?_
      refine LL.op (.int .i64 a0_12) (by kernel_rfl) (ld 0 g24 12 rfl (by kernel_rfl) rfl (by kernel_rfl)) ?_
      refine LL.op (.bool (decide (a0_12 < 0))) (by kernel_rfl) (fun w _ => by kernel_rfl) ?_
      refine LL.op (.bool (decide (a0_12 < 0))) (by kernel_rfl) (fun w _ => by kernel_rfl) ?_
      refine LL.op (.bool (decide (a0_12 < 0))) (by kernel_rfl) (fun w _ => by kernel_rfl) ?_
      rcases Bool.eq_false_or_eq_true (decide (a0_12 < 0)) with c27 | c27
      · rw [if_pos (of_decide_eq_true c27)] at H
        refine LL.bool 19 (decide (a0_12 < 0)) true c27 (by kernel_rfl) ?_
        refine LL.off (by kernel_rfl) (by kernel_rfl) ?_
        refine LL.off (by kernel_rfl) (by kernel_rfl) ?_
        refine LL.off (by kernel_rfl) (by kernel_rfl) ?_
        refine LL.op (.bool true) (by kernel_rfl) (fun w _ => by kernel_rfl) ?_
        refine LL.done (s' := [(1, .int .i64 a1), (2, .int .i64 a2), (3, .pointer (some ⟨g24, 0, none⟩)), (6, .int .i64 0), (23, .bool true)]) [1, 2, 3, 6, 23] (by kernel_rfl) ?_
        refine NN.then ?_
        refine J.condT (b := true) rfl (by kernel_rfl) (by kernel_rfl) ?_
        refine J.seq ?_
        refine J.plain ?_
        refine LL.op (.int .i64 a1) (by kernel_rfl) (fun w _ => by kernel_rfl) ?_
        refine LL.op (.int .i64 a1) (by kernel_rfl) (fun w _ => by kernel_rfl) ?_
        refine LL.done (s' := [(1, .int .i64 a1), (2, .int .i64 a2), (3, .pointer (some ⟨g24, 0, none⟩)), (6, .int .i64 a1)]) [1, 2, 3, 6] (by kernel_rfl) ?_
        refine NN.then ?_
        refine J.ret ?_
        refine NN.then_ret ?_
        refine NN.fin1 6 (.int .i64 a1) (by kernel_rfl) (by kernel_rfl) (.inl rfl) (fun w hi => hi.ret ?_)
        first | (cases H; rfl) | (obtain rfl := Option.some.inj H; rfl) | (simp only [Option.some.injEq, Prod.mk.injEq] at H; obtain ⟨rfl⟩ := H; rfl)
      · rw [if_neg (of_decide_eq_false c27)] at H
        refine LL.bool 19 (decide (a0_12 < 0)) false c27 (by kernel_rfl) ?_
        refine LL.op (.pointer (some ⟨g24, 12, none⟩)) (by kernel_rfl) (fun w _ => by kernel_rfl) ?_
        refine LL.op (.int .i64 a0_12) (by kernel_rfl) (ld 0 g24 12 rfl (by kernel_rfl) rfl (by kernel_rfl)) ?_
        refine LL.op (.bool (decide (200 < a0_12))) (by kernel_rfl) (fun w _ => by kernel_rfl) ?_
        refine LL.op (.bool (decide (200 < a0_12))) (by kernel_rfl) (fun w _ => by kernel_rfl) ?_
        refine LL.done (s' := [(1, .int .i64 a1), (2, .int .i64 a2), (3, .pointer (some ⟨g24, 0, none⟩)), (6, .int .i64 0), (23, .bool (decide (200 < a0_12)))]) [1, 2, 3, 6, 23] (by kernel_rfl) ?_
        refine NN.then ?_
        rcases Bool.eq_false_or_eq_true (decide (200 < a0_12)) with c28 | c28
        · rw [if_pos (of_decide_eq_true c28)] at H
          refine J.condT (b := decide (200 < a0_12)) c28 (by kernel_rfl) (by kernel_rfl) ?_
          refine J.seq ?_
          refine J.plain ?_
          refine LL.op (.int .i64 a1) (by kernel_rfl) (fun w _ => by kernel_rfl) ?_
          refine LL.op (.int .i64 a1) (by kernel_rfl) (fun w _ => by kernel_rfl) ?_
          refine LL.done (s' := [(1, .int .i64 a1), (2, .int .i64 a2), (3, .pointer (some ⟨g24, 0, none⟩)), (6, .int .i64 a1)]) [1, 2, 3, 6] (by kernel_rfl) ?_
          refine NN.then ?_
          refine J.ret ?_
          refine NN.then_ret ?_
          refine NN.fin1 6 (.int .i64 a1) (by kernel_rfl) (by kernel_rfl) (.inl rfl) (fun w hi => hi.ret ?_)
          first | (cases H; rfl) | (obtain rfl := Option.some.inj H; rfl) | (simp only [Option.some.injEq, Prod.mk.injEq] at H; obtain ⟨rfl⟩ := H; rfl)
        · rw [if_neg (of_decide_eq_false c28)] at H
          refine J.condF (b := decide (200 < a0_12)) c28 (by kernel_rfl) (by kernel_rfl) ?_
          refine J.skip ?_
          refine NN.then ?_
          refine J.seq ?_
          refine J.plain ?_
          refine LL.op (.int .i64 a2) (by kernel_rfl) (fun w _ => by kernel_rfl) ?_
          obtain ⟨x29, hx29, H⟩ := bind_some H
          refine LL.call 35 #[.int .i64 a2, .int .i64 0, .int .i64 3000] (.int .i64 x29) (by kernel_rfl) (fun w => by kernel_rfl) (fun w hw => units_Clamp.calls a2 0 3000   _ w   hx29) ?_
          refine LL.op (.int .i64 (IntKind.i64.wrap (3000 - x29))) (by kernel_rfl) (fun w _ => by kernel_rfl) ?_
          refine LL.op (.int .i64 (IntKind.i64.wrap (3000 - x29))) (by kernel_rfl) (fun w _ => by kernel_rfl) ?_
          refine LL.done (s' := [(1, .int .i64 a1), (3, .pointer (some ⟨g24, 0, none⟩)), (6, .int .i64 0), (7, .int .i64 (IntKind.i64.wrap (3000 - x29)))]) [1, 3, 6, 7] (by kernel_rfl) ?_
          refine NN.then ?_
          refine J.seq ?_
          refine J.plain ?_
          refine LL.op (.int .i64 a1) (by kernel_rfl) (fun w _ => by kernel_rfl) ?_
          refine LL.op (.int .i64 a1) (by kernel_rfl) (fun w _ => by kernel_rfl) ?_
          refine LL.op (.pointer (some ⟨g24, 12, none⟩)) (by kernel_rfl) (fun w _ => by kernel_rfl) ?_
          refine LL.op (.int .i64 a0_12) (by kernel_rfl) (ld 0 g24 12 rfl (by kernel_rfl) rfl (by kernel_rfl)) ?_
          refine LL.op (.int .i64 (IntKind.i64.wrap (a1 * a0_12))) (by kernel_rfl) (fun w _ => by kernel_rfl) ?_
          refine LL.op (.int .i64 (IntKind.i64.wrap (3000 - x29))) (by kernel_rfl) (fun w _ => by kernel_rfl) ?_
          refine LL.op (.int .i64 (IntKind.i64.wrap ((IntKind.i64.wrap (a1 * a0_12)) * (IntKind.i64.wrap (3000 - x29))))) (by kernel_rfl) (fun w _ => by kernel_rfl) ?_
          refine LL.op (.int .i64 (IntKind.i64.wrap (Int.tdiv (IntKind.i64.wrap ((IntKind.i64.wrap (a1 * a0_12)) * (IntKind.i64.wrap (3000 - x29)))) 3000000))) (by kernel_rfl) (fun w _ => by kernel_rfl) ?_
          refine LL.op (.int .i64 (IntKind.i64.wrap (a1 - (IntKind.i64.wrap (Int.tdiv (IntKind.i64.wrap ((IntKind.i64.wrap (a1 * a0_12)) * (IntKind.i64.wrap (3000 - x29)))) 3000000))))) (by kernel_rfl) (fun w _ => by kernel_rfl) ?_
          refine LL.op (.int .i64 (IntKind.i64.wrap (a1 - (IntKind.i64.wrap (Int.tdiv (IntKind.i64.wrap ((IntKind.i64.wrap (a1 * a0_12)) * (IntKind.i64.wrap (3000 - x29)))) 3000000))))) (by kernel_rfl) (fun w _ => by kernel_rfl) ?_
          refine LL.done (s' := [(6, .int .i64 (IntKind.i64.wrap (a1 - (IntKind.i64.wrap (Int.tdiv (IntKind.i64.wrap ((IntKind.i64.wrap (a1 * a0_12)) * (IntKind.i64.wrap (3000 - x29)))) 3000000)))))]) [6] (by kernel_rfl) ?_
          refine NN.then ?_
          refine J.ret ?_
          refine NN.fin1 6 (.int .i64 (IntKind.i64.wrap (a1 - (IntKind.i64.wrap (Int.tdiv (IntKind.i64.wrap ((IntKind.i64.wrap (a1 * a0_12)) * (IntKind.i64.wrap (3000 - x29)))) 3000000))))) (by kernel_rfl) (by kernel_rfl) (.inl rfl) (fun w hi => hi.ret ?_)
          first | (cases H; rfl) | (obtain rfl := Option.some.inj H; rfl) | (simp only [Option.some.injEq, Prod.mk.injEq] at H; obtain ⟨rfl⟩ := H; rfl)

/-! ### sizing_Dried: function 9 -/
def sizing_Dried.f (a0_0 : ByteArray) (a0_1 : ByteArray) (a0_2 : ByteArray) (a0_3 : Int) (a0_4 : Int) (a0_5 : Int) (a0_6 : Int) (a0_7 : Int) (a0_8 : Int) (a0_9 : Int) (a0_10 : Int) (a0_12 : Int) (a0_13 : Int) (a0_14 : Int) (a0_15 : Int) (a0_16 : Bool) (a0_17 : Int) (a1_0 : ByteArray) (a1_1 : Int) (a1_2 : Int) (a1_3 : Int) (a1_4 : Int) (a1_5 : Int) (a1_6 : Int) (a1_7 : Int) (a1_8 : Int) (a1_9 : Int) (a1_10 : Int) (a1_11 : Int) (a1_12 : Int) : Option (Int × Int) := (sizing_green.f a0_0 a0_1 a0_2 a0_3 a0_4 a0_5 a0_6 a0_7 a0_8 a0_9 a0_10 a0_12 a0_13 a0_14 a0_15 a0_16 a0_17).bind fun bx32 => (if bx32.2.2 = true then ((moist_Mean.f a0_13 a0_14 a0_15).bind fun x34 => ((wood_Shrunk.f a1_0 a1_1 a1_2 a1_3 a1_4 a1_5 a1_6 a1_7 a1_8 a1_9 a1_10 a1_11 a1_12 bx32.1 x34).bind fun x35 => ((wood_Shrunk.f a1_0 a1_1 a1_2 a1_3 a1_4 a1_5 a1_6 a1_7 a1_8 a1_9 a1_10 a1_11 a1_12 bx32.2.1 x34).bind fun x36 => (some (x35, x36))))) else (some (0, 0)))
set_option maxRecDepth 100000 in
theorem sizing_Dried.calls (a0_0 : ByteArray) (a0_1 : ByteArray) (a0_2 : ByteArray) (a0_3 : Int) (a0_4 : Int) (a0_5 : Int) (a0_6 : Int) (a0_7 : Int) (a0_8 : Int) (a0_9 : Int) (a0_10 : Int) (a0_12 : Int) (a0_13 : Int) (a0_14 : Int) (a0_15 : Int) (a0_16 : Bool) (a0_17 : Int) (a1_0 : ByteArray) (a1_1 : Int) (a1_2 : Int) (a1_3 : Int) (a1_4 : Int) (a1_5 : Int) (a1_6 : Int) (a1_7 : Int) (a1_8 : Int) (a1_9 : Int) (a1_10 : Int) (a1_11 : Int) (a1_12 : Int)  (Aa0_11 : Option Addr) (na0_11 ca0_11 : Nat) (r1 : Int) (r2 : Int) (w : World)   (h : sizing_Dried.f a0_0 a0_1 a0_2 a0_3 a0_4 a0_5 a0_6 a0_7 a0_8 a0_9 a0_10 a0_12 a0_13 a0_14 a0_15 a0_16 a0_17 a1_0 a1_1 a1_2 a1_3 a1_4 a1_5 a1_6 a1_7 a1_8 a1_9 a1_10 a1_11 a1_12 = some (r1, r2)) :
    Calls Try.prog 9 #[.agg #[.string a0_0, .string a0_1, .string a0_2, .int .i64 a0_3, .int .i64 a0_4, .int .i64 a0_5, .int .i64 a0_6, .int .i64 a0_7, .int .i64 a0_8, .int .i64 a0_9, .int .i64 a0_10, .slice Aa0_11 na0_11 ca0_11, .int .i64 a0_12, .int .i64 a0_13, .int .i64 a0_14, .int .i64 a0_15, .bool a0_16, .int .i64 a0_17], .agg #[.string a1_0, .int .i64 a1_1, .int .i64 a1_2, .int .i64 a1_3, .int .i64 a1_4, .int .i64 a1_5, .int .i64 a1_6, .int .i64 a1_7, .int .i64 a1_8, .int .i64 a1_9, .int .i64 a1_10, .int .i64 a1_11, .int .i64 a1_12]] w (Ret w (.tuple #[.int .i64 r1, .int .i64 r2])) := by
  have H := h
  clear h
  unfold sizing_Dried.f at H
  refine Go.Saw.calls (args := [.agg #[.string a0_0, .string a0_1, .string a0_2, .int .i64 a0_3, .int .i64 a0_4, .int .i64 a0_5, .int .i64 a0_6, .int .i64 a0_7, .int .i64 a0_8, .int .i64 a0_9, .int .i64 a0_10, .slice Aa0_11 na0_11 ca0_11, .int .i64 a0_12, .int .i64 a0_13, .int .i64 a0_14, .int .i64 a0_15, .bool a0_16, .int .i64 a0_17], .agg #[.string a1_0, .int .i64 a1_1, .int .i64 a1_2, .int .i64 a1_3, .int .i64 a1_4, .int .i64 a1_5, .int .i64 a1_6, .int .i64 a1_7, .int .i64 a1_8, .int .i64 a1_9, .int .i64 a1_10, .int .i64 a1_11, .int .i64 a1_12]]) Try.func9 rfl Try.ntmps9 (by kernel_rfl) ?_
  refine J.seq ?_
  refine J.plain ?_
  refine LL.box 30 (.tmp 0) [.string a0_0, .string a0_1, .string a0_2, .int .i64 a0_3, .int .i64 a0_4, .int .i64 a0_5, .int .i64 a0_6, .int .i64 a0_7, .int .i64 a0_8, .int .i64 a0_9, .int .i64 a0_10, .slice Aa0_11 na0_11 ca0_11, .int .i64 a0_12, .int .i64 a0_13, .int .i64 a0_14, .int .i64 a0_15, .bool a0_16, .int .i64 a0_17] (by kernel_rfl) rfl (by kernel_rfl) (fun g30 => ?_)
  refine LL.box 35 (.tmp 1) [.string a1_0, .int .i64 a1_1, .int .i64 a1_2, .int .i64 a1_3, .int .i64 a1_4, .int .i64 a1_5, .int .i64 a1_6, .int .i64 a1_7, .int .i64 a1_8, .int .i64 a1_9, .int .i64 a1_10, .int .i64 a1_11, .int .i64 a1_12] (by kernel_rfl) rfl (by kernel_rfl) (fun g31 => ?_)
  refine LL.op (.int .i64 0) (by kernel_rfl) (fun w _ => by kernel_rfl) ?_
  refine LL.op (.int .i64 0) (by kernel_rfl) (fun w _ => by kernel_rfl) ?_
  refine LL.done (s' := [(2, .pointer (some ⟨g30, 0, none⟩)), (3, .pointer (some ⟨g31, 0, none⟩)), (4, .int .i64 0), (5, .int .i64 0)]) [2, 3, 4, 5] (by kernel_rfl) ?_
  refine NN.then ?_
  refine J.seq ?_
  refine J.plain ?_
  refine LL.op (.agg #[.string a0_0, .string a0_1, .string a0_2, .int .i64 a0_3, .int .i64 a0_4, .int .i64 a0_5, .int .i64 a0_6, .int .i64 a0_7, .int .i64 a0_8, .int .i64 a0_9, .int .i64 a0_10, .slice Aa0_11 na0_11 ca0_11, .int .i64 a0_12, .int .i64 a0_13, .int .i64 a0_14, .int .i64 a0_15, .bool a0_16, .int .i64 a0_17]) (by kernel_rfl) (ld 1 g30 0 rfl (by kernel_rfl) rfl (by kernel_rfl)) ?_
  obtain ⟨⟨x32_1, x32_2, x32_3⟩, hx32, H⟩ := bind_some H
  (try dsimp only at H)
  refine LL.call 23 #[.agg #[.string a0_0, .string a0_1, .string a0_2, .int .i64 a0_3, .int .i64 a0_4, .int .i64 a0_5, .int .i64 a0_6, .int .i64 a0_7, .int .i64 a0_8, .int .i64 a0_9, .int .i64 a0_10, .slice Aa0_11 na0_11 ca0_11, .int .i64 a0_12, .int .i64 a0_13, .int .i64 a0_14, .int .i64 a0_15, .bool a0_16, .int .i64 a0_17]] (.tuple #[.int .i64 x32_1, .int .i64 x32_2, .bool x32_3]) (by kernel_rfl) (fun w => by kernel_rfl) (fun w hw => sizing_green.calls a0_0 a0_1 a0_2 a0_3 a0_4 a0_5 a0_6 a0_7 a0_8 a0_9 a0_10 a0_12 a0_13 a0_14 a0_15 a0_16 a0_17  _ _ _ _ _ _ w   hx32) ?_
  refine LL.op (.tuple #[.int .i64 x32_1, .int .i64 x32_2, .bool x32_3]) (by kernel_rfl) (fun w _ => by kernel_rfl) ?_
  refine LL.op (.int .i64 x32_1) (by kernel_rfl) (fun w _ => by kernel_rfl) ?_
  refine LL.op (.int .i64 x32_2) (by kernel_rfl) (fun w _ => by kernel_rfl) ?_
  refine LL.op (.bool x32_3) (by kernel_rfl) (fun w _ => by kernel_rfl) ?_
  refine LL.op (.int .i64 x32_1) (by kernel_rfl) (fun w _ => by kernel_rfl) ?_
  refine LL.op (.int .i64 x32_2) (by kernel_rfl) (fun w _ => by kernel_rfl) ?_
  refine LL.op (.bool x32_3) (by kernel_rfl) (fun w _ => by kernel_rfl) ?_
  refine LL.done (s' := [(2, .pointer (some ⟨g30, 0, none⟩)), (3, .pointer (some ⟨g31, 0, none⟩)), (4, .int .i64 0), (5, .int .i64 0), (6, .int .i64 x32_1), (7, .int .i64 x32_2), (8, .bool x32_3)]) [2, 3, 4, 5, 6, 7, 8] (by kernel_rfl) ?_
  refine NN.then ?_
  refine J.seq ?_
  refine J.seq ?_
  refine J.plain ?_
  refine LL.op (.bool x32_3) (by kernel_rfl) (fun w _ => by kernel_rfl) ?_
  refine LL.op (.bool (!x32_3)) (by kernel_rfl) (fun w _ => by kernel_rfl) ?_
  refine LL.done (s' := [(2, .pointer (some ⟨g30, 0, none⟩)), (3, .pointer (some ⟨g31, 0, none⟩)), (4, .int .i64 0), (5, .int .i64 0), (6, .int .i64 x32_1), (7, .int .i64 x32_2), (17, .bool (!x32_3))]) [2, 3, 4, 5, 6, 7, 17] (by kernel_rfl) ?_
  refine NN.then ?_
  rcases Bool.eq_false_or_eq_true (x32_3) with c33 | c33
  · rw [if_pos (c33)] at H
    refine J.condF (b := !x32_3) (by rw [show (!x32_3) = !(x32_3) from rfl, c33]; rfl) (by kernel_rfl) (by kernel_rfl) ?_
    refine J.skip ?_
    refine NN.then ?_
    refine J.seq ?_
    refine J.plain ?_
    refine LL.op (.pointer (some ⟨g30, 13, none⟩)) (by kernel_rfl) (fun w _ => by kernel_rfl) ?_
    refine LL.op (.agg #[.int .i64 a0_13, .int .i64 a0_14, .int .i64 a0_15]) (by kernel_rfl) (ld 1 g30 13 rfl (by kernel_rfl) rfl (by kernel_rfl)) ?_
    obtain ⟨x34, hx34, H⟩ := bind_some H
    refine LL.call 22 #[.agg #[.int .i64 a0_13, .int .i64 a0_14, .int .i64 a0_15]] (.int .i64 x34) (by kernel_rfl) (fun w => by kernel_rfl) (fun w hw => moist_Mean.calls a0_13 a0_14 a0_15   _ w   hx34) ?_
    refine LL.op (.int .i64 x34) (by kernel_rfl) (fun w _ => by kernel_rfl) ?_
    refine LL.done (s' := [(3, .pointer (some ⟨g31, 0, none⟩)), (4, .int .i64 0), (5, .int .i64 0), (6, .int .i64 x32_1), (7, .int .i64 x32_2), (9, .int .i64 x34)]) [3, 4, 5, 6, 7, 9] (by kernel_rfl) ?_
    refine NN.then ?_
    refine J.seq ?_
    refine J.drawn follows (by kernel_rfl) ?_
    refine QQ.op (.agg #[.string a1_0, .int .i64 a1_1, .int .i64 a1_2, .int .i64 a1_3, .int .i64 a1_4, .int .i64 a1_5, .int .i64 a1_6, .int .i64 a1_7, .int .i64 a1_8, .int .i64 a1_9, .int .i64 a1_10, .int .i64 a1_11, .int .i64 a1_12]) (by kernel_rfl) (ld 0 g31 0 rfl (by kernel_rfl) rfl (by kernel_rfl)) ?_
    refine QQ.op (.int .i64 x32_1) (by kernel_rfl) (fun w _ => by kernel_rfl) ?_
    refine QQ.op (.int .i64 x34) (by kernel_rfl) (fun w _ => by kernel_rfl) ?_
    obtain ⟨x35, hx35, H⟩ := bind_some H
    refine QQ.call 24 #[.agg #[.string a1_0, .int .i64 a1_1, .int .i64 a1_2, .int .i64 a1_3, .int .i64 a1_4, .int .i64 a1_5, .int .i64 a1_6, .int .i64 a1_7, .int .i64 a1_8, .int .i64 a1_9, .int .i64 a1_10, .int .i64 a1_11, .int .i64 a1_12], .int .i64 x32_1, .int .i64 x34] (.int .i64 x35) (by kernel_rfl) (fun w => by kernel_rfl) (fun w hw => wood_Shrunk.calls a1_0 a1_1 a1_2 a1_3 a1_4 a1_5 a1_6 a1_7 a1_8 a1_9 a1_10 a1_11 a1_12 x32_1 x34   _ w   hx35) ?_
    refine QQ.op (.agg #[.string a1_0, .int .i64 a1_1, .int .i64 a1_2, .int .i64 a1_3, .int .i64 a1_4, .int .i64 a1_5, .int .i64 a1_6, .int .i64 a1_7, .int .i64 a1_8, .int .i64 a1_9, .int .i64 a1_10, .int .i64 a1_11, .int .i64 a1_12]) (by kernel_rfl) (ld 0 g31 0 rfl (by kernel_rfl) rfl (by kernel_rfl)) ?_
    refine QQ.op (.int .i64 x32_2) (by kernel_rfl) (fun w _ => by kernel_rfl) ?_
    refine QQ.op (.int .i64 x34) (by kernel_rfl) (fun w _ => by kernel_rfl) ?_
    obtain ⟨x36, hx36, H⟩ := bind_some H
    refine QQ.call 24 #[.agg #[.string a1_0, .int .i64 a1_1, .int .i64 a1_2, .int .i64 a1_3, .int .i64 a1_4, .int .i64 a1_5, .int .i64 a1_6, .int .i64 a1_7, .int .i64 a1_8, .int .i64 a1_9, .int .i64 a1_10, .int .i64 a1_11, .int .i64 a1_12], .int .i64 x32_2, .int .i64 x34] (.int .i64 x36) (by kernel_rfl) (fun w => by kernel_rfl) (fun w hw => wood_Shrunk.calls a1_0 a1_1 a1_2 a1_3 a1_4 a1_5 a1_6 a1_7 a1_8 a1_9 a1_10 a1_11 a1_12 x32_2 x34   _ w   hx36) ?_
    refine QQ.op (.int .i64 x35) (by kernel_rfl) (fun w _ => by kernel_rfl) ?_
    refine QQ.op (.int .i64 x36) (by kernel_rfl) (fun w _ => by kernel_rfl) ?_
    refine QQ.done (s' := [(4, .int .i64 x35), (5, .int .i64 x36)]) [4, 5] (by kernel_rfl) ?_
    refine NN.then ?_
    refine J.ret ?_
    refine NN.fin2 4 5 (.int .i64 x35) (.int .i64 x36) (by kernel_rfl) (by kernel_rfl) (by kernel_rfl) (.inl rfl) (fun w hi => hi.ret ?_)
    first | (cases H; rfl) | (obtain rfl := Option.some.inj H; rfl) | (simp only [Option.some.injEq, Prod.mk.injEq] at H; obtain ⟨rfl, rfl⟩ := H; rfl)
  · rw [if_neg (nebt c33)] at H
    refine J.condT (b := !x32_3) (by rw [show (!x32_3) = !(x32_3) from rfl, c33]; rfl) (by kernel_rfl) (by kernel_rfl) ?_
    refine J.seq ?_
    refine J.plain ?_
    refine LL.op (.int .i64 0) (by kernel_rfl) (fun w _ => by kernel_rfl) ?_
    refine LL.op (.int .i64 0) (by kernel_rfl) (fun w _ => by kernel_rfl) ?_
    refine LL.done (s' := [(2, .pointer (some ⟨g30, 0, none⟩)), (3, .pointer (some ⟨g31, 0, none⟩)), (4, .int .i64 0), (5, .int .i64 0), (6, .int .i64 x32_1), (7, .int .i64 x32_2)]) [2, 3, 4, 5, 6, 7] (by kernel_rfl) ?_
    refine NN.then ?_
    refine J.ret ?_
    refine NN.then_ret ?_
    refine NN.fin2 4 5 (.int .i64 0) (.int .i64 0) (by kernel_rfl) (by kernel_rfl) (by kernel_rfl) (.inl rfl) (fun w hi => hi.ret ?_)
    first | (cases H; rfl) | (obtain rfl := Option.some.inj H; rfl) | (simp only [Option.some.injEq, Prod.mk.injEq] at H; obtain ⟨rfl, rfl⟩ := H; rfl)

/-! ### sawmillref39_placed: function 36 -/
def sawmillref39_placed.f (a0_0 : Int) (a0_1 : Int) : Option (Bool) := if a0_0 < a0_1 then (if (-600) ≤ a0_0 then (some (decide (a0_1 ≤ 600))) else (some false)) else (some false)
set_option maxRecDepth 100000 in
theorem sawmillref39_placed.calls (a0_0 : Int) (a0_1 : Int)   (r1 : Bool) (w : World)   (h : sawmillref39_placed.f a0_0 a0_1 = some r1) :
    Calls Try.prog 36 #[.agg #[.int .i64 a0_0, .int .i64 a0_1]] w (Ret w (.bool r1)) := by
  have H := h
  clear h
  unfold sawmillref39_placed.f at H
  refine Go.Saw.calls (args := [.agg #[.int .i64 a0_0, .int .i64 a0_1]]) Try.func36 rfl Try.ntmps36 (by kernel_rfl) ?_
  refine J.seq ?_
  refine J.plain ?_
  refine LL.box 23 (.tmp 0) [.int .i64 a0_0, .int .i64 a0_1] (by kernel_rfl) rfl (by kernel_rfl) (fun g37 => ?_)
  refine LL.op (.bool false) (by kernel_rfl) (fun w _ => by kernel_rfl) ?_
  refine LL.done (s' := [(1, .pointer (some ⟨g37, 0, none⟩)), (2, .bool false)]) [1, 2] (by kernel_rfl) ?_
  refine NN.then ?_
  refine J.seq ?_
  refine J.plain ?_
  refine LL.op (.pointer (some ⟨g37, 0, none⟩)) (by kernel_rfl) (fun w _ => by kernel_rfl) ?_
  refine LL.op (.int .i64 a0_0) (by kernel_rfl) (ld 0 g37 0 rfl (by kernel_rfl) rfl (by kernel_rfl)) ?_
  refine LL.op (.pointer (some ⟨g37, 1, none⟩)) (by kernel_rfl) (fun w _ => by kernel_rfl) ?_
  refine LL.op (.int .i64 a0_1) (by kernel_rfl) (ld 0 g37 1 rfl (by kernel_rfl) rfl (by kernel_rfl)) ?_
  refine LL.op (.bool (decide (a0_0 < a0_1))) (by kernel_rfl) (fun w _ => by kernel_rfl) ?_
  refine LL.op (.bool (decide (a0_0 < a0_1))) (by kernel_rfl) (fun w _ => by kernel_rfl) ?_
  rcases Bool.eq_false_or_eq_true (decide (a0_0 < a0_1)) with c38 | c38
  · rw [if_pos (of_decide_eq_true c38)] at H
    refine LL.bool 8 (decide (a0_0 < a0_1)) true c38 (by kernel_rfl) ?_
    refine LL.op (.pointer (some ⟨g37, 0, none⟩)) (by kernel_rfl) (fun w _ => by kernel_rfl) ?_
    refine LL.op (.int .i64 a0_0) (by kernel_rfl) (ld 0 g37 0 rfl (by kernel_rfl) rfl (by kernel_rfl)) ?_
    refine LL.op (.bool (decide ((-600) ≤ a0_0))) (by kernel_rfl) (fun w _ => by kernel_rfl) ?_
    refine LL.op (.bool (decide ((-600) ≤ a0_0))) (by kernel_rfl) (fun w _ => by kernel_rfl) ?_
    refine LL.op (.bool (decide ((-600) ≤ a0_0))) (by kernel_rfl) (fun w _ => by kernel_rfl) ?_
    rcases Bool.eq_false_or_eq_true (decide ((-600) ≤ a0_0)) with c39 | c39
    · rw [if_pos (of_decide_eq_true c39)] at H
      refine LL.bool 13 (decide ((-600) ≤ a0_0)) true c39 (by kernel_rfl) ?_
      refine LL.op (.pointer (some ⟨g37, 1, none⟩)) (by kernel_rfl) (fun w _ => by kernel_rfl) ?_
      refine LL.op (.int .i64 a0_1) (by kernel_rfl) (ld 0 g37 1 rfl (by kernel_rfl) rfl (by kernel_rfl)) ?_
      refine LL.op (.bool (decide (a0_1 ≤ 600))) (by kernel_rfl) (fun w _ => by kernel_rfl) ?_
      refine LL.op (.bool (decide (a0_1 ≤ 600))) (by kernel_rfl) (fun w _ => by kernel_rfl) ?_
      refine LL.op (.bool (decide (a0_1 ≤ 600))) (by kernel_rfl) (fun w _ => by kernel_rfl) ?_
      refine LL.done (s' := [(2, .bool (decide (a0_1 ≤ 600)))]) [2] (by kernel_rfl) ?_
      refine NN.then ?_
      refine J.ret ?_
      refine NN.fin1 2 (.bool (decide (a0_1 ≤ 600))) (by kernel_rfl) (by kernel_rfl) (.inl rfl) (fun w hi => hi.ret ?_)
      first | (cases H; rfl) | (obtain rfl := Option.some.inj H; rfl) | (simp only [Option.some.injEq, Prod.mk.injEq] at H; obtain ⟨rfl⟩ := H; rfl)
    · rw [if_neg (of_decide_eq_false c39)] at H
      refine LL.bool 13 (decide ((-600) ≤ a0_0)) false c39 (by kernel_rfl) ?_
      refine LL.off (by kernel_rfl) (by kernel_rfl) ?_
      refine LL.off (by kernel_rfl) (by kernel_rfl) ?_
      refine LL.off (by kernel_rfl) (by kernel_rfl) ?_
      refine LL.op (.bool false) (by kernel_rfl) (fun w _ => by kernel_rfl) ?_
      refine LL.op (.bool false) (by kernel_rfl) (fun w _ => by kernel_rfl) ?_
      refine LL.done (s' := [(2, .bool false)]) [2] (by kernel_rfl) ?_
      refine NN.then ?_
      refine J.ret ?_
      refine NN.fin1 2 (.bool false) (by kernel_rfl) (by kernel_rfl) (.inl rfl) (fun w hi => hi.ret ?_)
      first | (cases H; rfl) | (obtain rfl := Option.some.inj H; rfl) | (simp only [Option.some.injEq, Prod.mk.injEq] at H; obtain ⟨rfl⟩ := H; rfl)
  · rw [if_neg (of_decide_eq_false c38)] at H
    refine LL.bool 8 (decide (a0_0 < a0_1)) false c38 (by kernel_rfl) ?_
    refine LL.off (by kernel_rfl) (by kernel_rfl) ?_
    refine LL.off (by kernel_rfl) (by kernel_rfl) ?_
    refine LL.off (by kernel_rfl) (by kernel_rfl) ?_
    refine LL.op (.bool false) (by kernel_rfl) (fun w _ => by kernel_rfl) ?_
    refine LL.op (.bool false) (by kernel_rfl) (fun w _ => by kernel_rfl) ?_
    refine LL.off (by kernel_rfl) (by kernel_rfl) ?_
    refine LL.off (by kernel_rfl) (by kernel_rfl) ?_
    refine LL.off (by kernel_rfl) (by kernel_rfl) ?_
    refine LL.op (.bool false) (by kernel_rfl) (fun w _ => by kernel_rfl) ?_
    refine LL.op (.bool false) (by kernel_rfl) (fun w _ => by kernel_rfl) ?_
    refine LL.done (s' := [(2, .bool false)]) [2] (by kernel_rfl) ?_
    refine NN.then ?_
    refine J.ret ?_
    refine NN.fin1 2 (.bool false) (by kernel_rfl) (by kernel_rfl) (.inl rfl) (fun w hi => hi.ret ?_)
    first | (cases H; rfl) | (obtain rfl := Option.some.inj H; rfl) | (simp only [Option.some.injEq, Prod.mk.injEq] at H; obtain ⟨rfl⟩ := H; rfl)

/-! ### sawmillref39_Sizes: function 25 -/
def sawmillref39_Sizes.f (a0_0 : Int) (a0_1 : Int) (a0_2 : Int) (a0_3 : Int) (a0_4 : Int) (a0_5 : Int) : Option (Int × Int) := (sawmillref39_placed.f a0_0 a0_1).bind fun x41 => (if x41 = true then ((sawmillref39_placed.f a0_2 a0_3).bind fun x43 => (if x43 = true then (some (mn (IntKind.i64.wrap (a0_1 - a0_0)) (IntKind.i64.wrap (a0_3 - a0_2)), mx (IntKind.i64.wrap (a0_1 - a0_0)) (IntKind.i64.wrap (a0_3 - a0_2)))) else (some (0, 0)))) else (some (0, 0)))
set_option maxRecDepth 100000 in
theorem sawmillref39_Sizes.calls (a0_0 : Int) (a0_1 : Int) (a0_2 : Int) (a0_3 : Int) (a0_4 : Int) (a0_5 : Int)   (r1 : Int) (r2 : Int) (w : World)   (h : sawmillref39_Sizes.f a0_0 a0_1 a0_2 a0_3 a0_4 a0_5 = some (r1, r2)) :
    Calls Try.prog 25 #[.agg #[.int .i64 a0_0, .int .i64 a0_1, .int .i64 a0_2, .int .i64 a0_3, .int .i64 a0_4, .int .i64 a0_5]] w (Ret w (.tuple #[.int .i64 r1, .int .i64 r2])) := by
  have H := h
  clear h
  unfold sawmillref39_Sizes.f at H
  refine Go.Saw.calls (args := [.agg #[.int .i64 a0_0, .int .i64 a0_1, .int .i64 a0_2, .int .i64 a0_3, .int .i64 a0_4, .int .i64 a0_5]]) Try.func25 rfl Try.ntmps25 (by kernel_rfl) ?_
  refine J.seq ?_
  refine J.plain ?_
  refine LL.box 25 (.tmp 0) [.int .i64 a0_0, .int .i64 a0_1, .int .i64 a0_2, .int .i64 a0_3, .int .i64 a0_4, .int .i64 a0_5] (by kernel_rfl) rfl (by kernel_rfl) (fun g40 => ?_)
  refine LL.op (.int .i64 0) (by kernel_rfl) (fun w _ => by kernel_rfl) ?_
  refine LL.op (.int .i64 0) (by kernel_rfl) (fun w _ => by kernel_rfl) ?_
  refine LL.done (s' := [(1, .pointer (some ⟨g40, 0, none⟩)), (2, .int .i64 0), (3, .int .i64 0)]) [1, 2, 3] (by kernel_rfl) ?_
  refine NN.then ?_
  refine J.seq ?_
  refine J.seq ?_
  refine J.plain ?_
  refine LL.op (.pointer (some ⟨g40, 0, none⟩)) (by kernel_rfl) (fun w _ => by kernel_rfl) ?_
  refine LL.op (.agg #[.int .i64 a0_0, .int .i64 a0_1]) (by kernel_rfl) (ld 0 g40 0 rfl (by kernel_rfl) rfl (by kernel_rfl)) ?_
  obtain ⟨x41, hx41, H⟩ := bind_some H
  refine LL.call 36 #[.agg #[.int .i64 a0_0, .int .i64 a0_1]] (.bool x41) (by kernel_rfl) (fun w => by kernel_rfl) (fun w hw => sawmillref39_placed.calls a0_0 a0_1   _ w   hx41) ?_
  refine LL.op (.bool (!x41)) (by kernel_rfl) (fun w _ => by kernel_rfl) ?_
  refine LL.op (.bool (!x41)) (by kernel_rfl) (fun w _ => by kernel_rfl) ?_
  rcases Bool.eq_false_or_eq_true (x41) with c42 | c42
  · rw [if_pos (c42)] at H
    refine LL.bool 10 (!x41) false (by rw [show (!x41) = !(x41) from rfl, c42]; rfl) (by kernel_rfl) ?_
    refine LL.op (.pointer (some ⟨g40, 2, none⟩)) (by kernel_rfl) (fun w _ => by kernel_rfl) ?_
    refine LL.op (.agg #[.int .i64 a0_2, .int .i64 a0_3]) (by kernel_rfl) (ld 0 g40 2 rfl (by kernel_rfl) rfl (by kernel_rfl)) ?_
    obtain ⟨x43, hx43, H⟩ := bind_some H
    refine LL.call 36 #[.agg #[.int .i64 a0_2, .int .i64 a0_3]] (.bool x43) (by kernel_rfl) (fun w => by kernel_rfl) (fun w hw => sawmillref39_placed.calls a0_2 a0_3   _ w   hx43) ?_
    refine LL.op (.bool (!x43)) (by kernel_rfl) (fun w _ => by kernel_rfl) ?_
    refine LL.op (.bool (!x43)) (by kernel_rfl) (fun w _ => by kernel_rfl) ?_
    refine LL.done (s' := [(1, .pointer (some ⟨g40, 0, none⟩)), (2, .int .i64 0), (3, .int .i64 0), (15, .bool (!x43))]) [1, 2, 3, 15] (by kernel_rfl) ?_
    refine NN.then ?_
    rcases Bool.eq_false_or_eq_true (x43) with c44 | c44
    · rw [if_pos (c44)] at H
      refine J.condF (b := !x43) (by rw [show (!x43) = !(x43) from rfl, c44]; rfl) (by kernel_rfl) (by kernel_rfl) ?_
      refine J.skip ?_
      refine NN.then ?_
      refine J.seq ?_
      refine J.drawn follows (by kernel_rfl) ?_
      refine QQ.op (.pointer (some ⟨g40, 0, none⟩)) (by kernel_rfl) (fun w _ => by kernel_rfl) ?_
      refine QQ.op (.pointer (some ⟨g40, 1, none⟩)) (by kernel_rfl) (fun w _ => by kernel_rfl) ?_
      refine QQ.op (.int .i64 a0_1) (by kernel_rfl) (ld 0 g40 1 rfl (by kernel_rfl) rfl (by kernel_rfl)) ?_
      refine QQ.op (.pointer (some ⟨g40, 0, none⟩)) (by kernel_rfl) (fun w _ => by kernel_rfl) ?_
      refine QQ.op (.pointer (some ⟨g40, 0, none⟩)) (by kernel_rfl) (fun w _ => by kernel_rfl) ?_
      refine QQ.op (.int .i64 a0_0) (by kernel_rfl) (ld 0 g40 0 rfl (by kernel_rfl) rfl (by kernel_rfl)) ?_
      refine QQ.op (.int .i64 (IntKind.i64.wrap (a0_1 - a0_0))) (by kernel_rfl) (fun w _ => by kernel_rfl) ?_
      refine QQ.op (.pointer (some ⟨g40, 2, none⟩)) (by kernel_rfl) (fun w _ => by kernel_rfl) ?_
      refine QQ.op (.pointer (some ⟨g40, 3, none⟩)) (by kernel_rfl) (fun w _ => by kernel_rfl) ?_
      refine QQ.op (.int .i64 a0_3) (by kernel_rfl) (ld 0 g40 3 rfl (by kernel_rfl) rfl (by kernel_rfl)) ?_
      refine QQ.op (.pointer (some ⟨g40, 2, none⟩)) (by kernel_rfl) (fun w _ => by kernel_rfl) ?_
      refine QQ.op (.pointer (some ⟨g40, 2, none⟩)) (by kernel_rfl) (fun w _ => by kernel_rfl) ?_
      refine QQ.op (.int .i64 a0_2) (by kernel_rfl) (ld 0 g40 2 rfl (by kernel_rfl) rfl (by kernel_rfl)) ?_
      refine QQ.op (.int .i64 (IntKind.i64.wrap (a0_3 - a0_2))) (by kernel_rfl) (fun w _ => by kernel_rfl) ?_
      refine QQ.op (.int .i64 (IntKind.i64.wrap (a0_1 - a0_0))) (by kernel_rfl) (fun w _ => by kernel_rfl) ?_
      refine QQ.op (.int .i64 (IntKind.i64.wrap (a0_3 - a0_2))) (by kernel_rfl) (fun w _ => by kernel_rfl) ?_
      refine QQ.done (s' := [(2, .int .i64 0), (3, .int .i64 0), (4, .int .i64 (IntKind.i64.wrap (a0_1 - a0_0))), (5, .int .i64 (IntKind.i64.wrap (a0_3 - a0_2)))]) [2, 3, 4, 5] (by kernel_rfl) ?_
      refine NN.then ?_
      refine J.seq ?_
      refine J.plain ?_
      refine LL.op (.int .i64 (IntKind.i64.wrap (a0_1 - a0_0))) (by kernel_rfl) (fun w _ => by kernel_rfl) ?_
      refine LL.op (.int .i64 (IntKind.i64.wrap (a0_3 - a0_2))) (by kernel_rfl) (fun w _ => by kernel_rfl) ?_
      refine LL.op (.int .i64 (mn (IntKind.i64.wrap (a0_1 - a0_0)) (IntKind.i64.wrap (a0_3 - a0_2)))) (by kernel_rfl) (fun w _ => by kernel_rfl) ?_
      refine LL.op (.int .i64 (IntKind.i64.wrap (a0_1 - a0_0))) (by kernel_rfl) (fun w _ => by kernel_rfl) ?_
      refine LL.op (.int .i64 (IntKind.i64.wrap (a0_3 - a0_2))) (by kernel_rfl) (fun w _ => by kernel_rfl) ?_
      refine LL.op (.int .i64 (mx (IntKind.i64.wrap (a0_1 - a0_0)) (IntKind.i64.wrap (a0_3 - a0_2)))) (by kernel_rfl) (fun w _ => by kernel_rfl) ?_
      refine LL.op (.int .i64 (mn (IntKind.i64.wrap (a0_1 - a0_0)) (IntKind.i64.wrap (a0_3 - a0_2)))) (by kernel_rfl) (fun w _ => by kernel_rfl) ?_
      refine LL.op (.int .i64 (mx (IntKind.i64.wrap (a0_1 - a0_0)) (IntKind.i64.wrap (a0_3 - a0_2)))) (by kernel_rfl) (fun w _ => by kernel_rfl) ?_
      refine LL.done (s' := [(2, .int .i64 (mn (IntKind.i64.wrap (a0_1 - a0_0)) (IntKind.i64.wrap (a0_3 - a0_2)))), (3, .int .i64 (mx (IntKind.i64.wrap (a0_1 - a0_0)) (IntKind.i64.wrap (a0_3 - a0_2))))]) [2, 3] (by kernel_rfl) ?_
      refine NN.then ?_
      refine J.ret ?_
      refine NN.fin2 2 3 (.int .i64 (mn (IntKind.i64.wrap (a0_1 - a0_0)) (IntKind.i64.wrap (a0_3 - a0_2)))) (.int .i64 (mx (IntKind.i64.wrap (a0_1 - a0_0)) (IntKind.i64.wrap (a0_3 - a0_2)))) (by kernel_rfl) (by kernel_rfl) (by kernel_rfl) (.inl rfl) (fun w hi => hi.ret ?_)
      first | (cases H; rfl) | (obtain rfl := Option.some.inj H; rfl) | (simp only [Option.some.injEq, Prod.mk.injEq] at H; obtain ⟨rfl, rfl⟩ := H; rfl)
    · rw [if_neg (nebt c44)] at H
      refine J.condT (b := !x43) (by rw [show (!x43) = !(x43) from rfl, c44]; rfl) (by kernel_rfl) (by kernel_rfl) ?_
      refine J.seq ?_
      refine J.plain ?_
      refine LL.op (.int .i64 0) (by kernel_rfl) (fun w _ => by kernel_rfl) ?_
      refine LL.op (.int .i64 0) (by kernel_rfl) (fun w _ => by kernel_rfl) ?_
      refine LL.done (s' := [(1, .pointer (some ⟨g40, 0, none⟩)), (2, .int .i64 0), (3, .int .i64 0)]) [1, 2, 3] (by kernel_rfl) ?_
      refine NN.then ?_
      refine J.ret ?_
      refine NN.then_ret ?_
      refine NN.fin2 2 3 (.int .i64 0) (.int .i64 0) (by kernel_rfl) (by kernel_rfl) (by kernel_rfl) (.inl rfl) (fun w hi => hi.ret ?_)
      first | (cases H; rfl) | (obtain rfl := Option.some.inj H; rfl) | (simp only [Option.some.injEq, Prod.mk.injEq] at H; obtain ⟨rfl, rfl⟩ := H; rfl)
  · rw [if_neg (nebt c42)] at H
    refine LL.bool 10 (!x41) true (by rw [show (!x41) = !(x41) from rfl, c42]; rfl) (by kernel_rfl) ?_
    refine LL.off (by kernel_rfl) (by kernel_rfl) ?_
    refine LL.off (by kernel_rfl) (by kernel_rfl) ?_
    refine LL.off (by kernel_rfl) (by kernel_rfl) ?_
    refine LL.off (by kernel_rfl) (by kernel_rfl) ?_
    refine LL.op (.bool true) (by kernel_rfl) (fun w _ => by kernel_rfl) ?_
    refine LL.done (s' := [(1, .pointer (some ⟨g40, 0, none⟩)), (2, .int .i64 0), (3, .int .i64 0), (15, .bool true)]) [1, 2, 3, 15] (by kernel_rfl) ?_
    refine NN.then ?_
    refine J.condT (b := true) rfl (by kernel_rfl) (by kernel_rfl) ?_
    refine J.seq ?_
    refine J.plain ?_
    refine LL.op (.int .i64 0) (by kernel_rfl) (fun w _ => by kernel_rfl) ?_
    refine LL.op (.int .i64 0) (by kernel_rfl) (fun w _ => by kernel_rfl) ?_
    refine LL.done (s' := [(1, .pointer (some ⟨g40, 0, none⟩)), (2, .int .i64 0), (3, .int .i64 0)]) [1, 2, 3] (by kernel_rfl) ?_
    refine NN.then ?_
    refine J.ret ?_
    refine NN.then_ret ?_
    refine NN.fin2 2 3 (.int .i64 0) (.int .i64 0) (by kernel_rfl) (by kernel_rfl) (by kernel_rfl) (.inl rfl) (fun w hi => hi.ret ?_)
    first | (cases H; rfl) | (obtain rfl := Option.some.inj H; rfl) | (simp only [Option.some.injEq, Prod.mk.injEq] at H; obtain ⟨rfl, rfl⟩ := H; rfl)

/-! ### sawmillref36_Check: function 37 -/
def sawmillref36_Check.f (a0_0 : Int) (a0_1 : Int) (a0_2 : Int) : Option (Int) := if a0_0 < 0 then (some 25) else (if 20000 < a0_0 then (some 25) else (if a0_1 < 0 then (some 25) else (if 20000 < a0_1 then (some 25) else (if a0_2 < 0 then (some 9) else (if 1099511627776 < a0_2 then (some 9) else (some 0))))))
set_option maxRecDepth 100000 in
theorem sawmillref36_Check.calls (a0_0 : Int) (a0_1 : Int) (a0_2 : Int)   (r1 : Int) (w : World)   (h : sawmillref36_Check.f a0_0 a0_1 a0_2 = some r1) :
    Calls Try.prog 37 #[.agg #[.int .i64 a0_0, .int .i64 a0_1, .int .i64 a0_2]] w (Ret w (.int .i64 r1)) := by
  have H := h
  clear h
  unfold sawmillref36_Check.f at H
  refine Go.Saw.calls (args := [.agg #[.int .i64 a0_0, .int .i64 a0_1, .int .i64 a0_2]]) Try.func37 rfl Try.ntmps37 (by kernel_rfl) ?_
  refine J.seq ?_
  refine J.plain ?_
  refine LL.box 28 (.tmp 0) [.int .i64 a0_0, .int .i64 a0_1, .int .i64 a0_2] (by kernel_rfl) rfl (by kernel_rfl) (fun g45 => ?_)
  refine LL.op (.int .i64 0) (by kernel_rfl) (fun w _ => by kernel_rfl) ?_
  refine LL.done (s' := [(1, .pointer (some ⟨g45, 0, none⟩)), (2, .int .i64 0)]) [1, 2] (by kernel_rfl) ?_
  refine NN.then ?_
  refine J.seq ?_
  refine J.seq ?_
  refine J.plain ?_
  refine LL.op (.pointer (some ⟨g45, 0, none⟩)) (by kernel_rfl) (fun w _ => by kernel_rfl) ?_
  refine LL.op (.int .i64 a0_0) (by kernel_rfl) (ld 0 g45 0 rfl (by kernel_rfl) rfl (by kernel_rfl)) ?_
  refine LL.op (.bool (decide (a0_0 < 0))) (by kernel_rfl) (fun w _ => by kernel_rfl) ?_
  refine LL.op (.bool (decide (a0_0 < 0))) (by kernel_rfl) (fun w _ => by kernel_rfl) ?_
  rcases Bool.eq_false_or_eq_true (decide (a0_0 < 0)) with c46 | c46
  · rw [if_pos (of_decide_eq_true c46)] at H
    refine LL.bool 6 (decide (a0_0 < 0)) true c46 (by kernel_rfl) ?_
    refine LL.off (by kernel_rfl) (by kernel_rfl) ?_
    refine LL.off (by kernel_rfl) (by kernel_rfl) ?_
    refine LL.off (by kernel_rfl) (by kernel_rfl) ?_
    refine LL.op (.bool true) (by kernel_rfl) (fun w _ => by kernel_rfl) ?_
    refine LL.op (.bool true) (by kernel_rfl) (fun w _ => by kernel_rfl) ?_
    refine LL.off (by kernel_rfl) (by kernel_rfl) ?_
    refine LL.off (by kernel_rfl) (by kernel_rfl) ?_
    refine LL.off (by kernel_rfl) (by kernel_rfl) ?_
    refine LL.op (.bool true) (by kernel_rfl) (fun w _ => by kernel_rfl) ?_
    refine LL.op (.bool true) (by kernel_rfl) (fun w _ => by kernel_rfl) ?_
    refine LL.off (by kernel_rfl) (by kernel_rfl) ?_
    refine LL.off (by kernel_rfl) (by kernel_rfl) ?_
    refine LL.off (by kernel_rfl) (by kernel_rfl) ?_
    refine LL.op (.bool true) (by kernel_rfl) (fun w _ => by kernel_rfl) ?_
    refine LL.done (s' := [(1, .pointer (some ⟨g45, 0, none⟩)), (2, .int .i64 0), (20, .bool true)]) [1, 2, 20] (by kernel_rfl) ?_
    refine NN.then ?_
    refine J.condT (b := true) rfl (by kernel_rfl) (by kernel_rfl) ?_
    refine J.seq ?_
    refine J.plain ?_
    refine LL.op (.int .i64 25) (by kernel_rfl) (fun w _ => by kernel_rfl) ?_
    refine LL.done (s' := [(1, .pointer (some ⟨g45, 0, none⟩)), (2, .int .i64 25)]) [1, 2] (by kernel_rfl) ?_
    refine NN.then ?_
    refine J.ret ?_
    refine NN.then_ret ?_
    refine NN.fin1 2 (.int .i64 25) (by kernel_rfl) (by kernel_rfl) (.inl rfl) (fun w hi => hi.ret ?_)
    first | (cases H; rfl) | (obtain rfl := Option.some.inj H; rfl) | (simp only [Option.some.injEq, Prod.mk.injEq] at H; obtain ⟨rfl⟩ := H; rfl)
  · rw [if_neg (of_decide_eq_false c46)] at H
    refine LL.bool 6 (decide (a0_0 < 0)) false c46 (by kernel_rfl) ?_
    refine LL.op (.pointer (some ⟨g45, 0, none⟩)) (by kernel_rfl) (fun w _ => by kernel_rfl) ?_
    refine LL.op (.int .i64 a0_0) (by kernel_rfl) (ld 0 g45 0 rfl (by kernel_rfl) rfl (by kernel_rfl)) ?_
    refine LL.op (.bool (decide (20000 < a0_0))) (by kernel_rfl) (fun w _ => by kernel_rfl) ?_
    refine LL.op (.bool (decide (20000 < a0_0))) (by kernel_rfl) (fun w _ => by kernel_rfl) ?_
    refine LL.op (.bool (decide (20000 < a0_0))) (by kernel_rfl) (fun w _ => by kernel_rfl) ?_
    rcases Bool.eq_false_or_eq_true (decide (20000 < a0_0)) with c47 | c47
    · rw [if_pos (of_decide_eq_true c47)] at H
      refine LL.bool 11 (decide (20000 < a0_0)) true c47 (by kernel_rfl) ?_
      refine LL.off (by kernel_rfl) (by kernel_rfl) ?_
      refine LL.off (by kernel_rfl) (by kernel_rfl) ?_
      refine LL.off (by kernel_rfl) (by kernel_rfl) ?_
      refine LL.op (.bool true) (by kernel_rfl) (fun w _ => by kernel_rfl) ?_
      refine LL.op (.bool true) (by kernel_rfl) (fun w _ => by kernel_rfl) ?_
      refine LL.off (by kernel_rfl) (by kernel_rfl) ?_
      refine LL.off (by kernel_rfl) (by kernel_rfl) ?_
      refine LL.off (by kernel_rfl) (by kernel_rfl) ?_
      refine LL.op (.bool true) (by kernel_rfl) (fun w _ => by kernel_rfl) ?_
      refine LL.done (s' := [(1, .pointer (some ⟨g45, 0, none⟩)), (2, .int .i64 0), (20, .bool true)]) [1, 2, 20] (by kernel_rfl) ?_
      refine NN.then ?_
      refine J.condT (b := true) rfl (by kernel_rfl) (by kernel_rfl) ?_
      refine J.seq ?_
      refine J.plain ?_
      refine LL.op (.int .i64 25) (by kernel_rfl) (fun w _ => by kernel_rfl) ?_
      refine LL.done (s' := [(1, .pointer (some ⟨g45, 0, none⟩)), (2, .int .i64 25)]) [1, 2] (by kernel_rfl) ?_
      refine NN.then ?_
      refine J.ret ?_
      refine NN.then_ret ?_
      refine NN.fin1 2 (.int .i64 25) (by kernel_rfl) (by kernel_rfl) (.inl rfl) (fun w hi => hi.ret ?_)
      first | (cases H; rfl) | (obtain rfl := Option.some.inj H; rfl) | (simp only [Option.some.injEq, Prod.mk.injEq] at H; obtain ⟨rfl⟩ := H; rfl)
    · rw [if_neg (of_decide_eq_false c47)] at H
      refine LL.bool 11 (decide (20000 < a0_0)) false c47 (by kernel_rfl) ?_
      refine LL.op (.pointer (some ⟨g45, 1, none⟩)) (by kernel_rfl) (fun w _ => by kernel_rfl) ?_
      refine LL.op (.int .i64 a0_1) (by kernel_rfl) (ld 0 g45 1 rfl (by kernel_rfl) rfl (by kernel_rfl)) ?_
      refine LL.op (.bool (decide (a0_1 < 0))) (by kernel_rfl) (fun w _ => by kernel_rfl) ?_
      refine LL.op (.bool (decide (a0_1 < 0))) (by kernel_rfl) (fun w _ => by kernel_rfl) ?_
      refine LL.op (.bool (decide (a0_1 < 0))) (by kernel_rfl) (fun w _ => by kernel_rfl) ?_
      rcases Bool.eq_false_or_eq_true (decide (a0_1 < 0)) with c48 | c48
      · rw [if_pos (of_decide_eq_true c48)] at H
        refine LL.bool 16 (decide (a0_1 < 0)) true c48 (by kernel_rfl) ?_
        refine LL.off (by kernel_rfl) (by kernel_rfl) ?_
        refine LL.off (by kernel_rfl) (by kernel_rfl) ?_
        refine LL.off (by kernel_rfl) (by kernel_rfl) ?_
        refine LL.op (.bool true) (by kernel_rfl) (fun w _ => by kernel_rfl) ?_
        refine LL.done (s' := [(1, .pointer (some ⟨g45, 0, none⟩)), (2, .int .i64 0), (20, .bool true)]) [1, 2, 20] (by kernel_rfl) ?_
        refine NN.then ?_
        refine J.condT (b := true) rfl (by kernel_rfl) (by kernel_rfl) ?_
        refine J.seq ?_
        refine J.plain ?_
        refine LL.op (.int .i64 25) (by kernel_rfl) (fun w _ => by kernel_rfl) ?_
        refine LL.done (s' := [(1, .pointer (some ⟨g45, 0, none⟩)), (2, .int .i64 25)]) [1, 2] (by kernel_rfl) ?_
        refine NN.then ?_
        refine J.ret ?_
        refine NN.then_ret ?_
        refine NN.fin1 2 (.int .i64 25) (by kernel_rfl) (by kernel_rfl) (.inl rfl) (fun w hi => hi.ret ?_)
        first | (cases H; rfl) | (obtain rfl := Option.some.inj H; rfl) | (simp only [Option.some.injEq, Prod.mk.injEq] at H; obtain ⟨rfl⟩ := H; rfl)
      · rw [if_neg (of_decide_eq_false c48)] at H
        refine LL.bool 16 (decide (a0_1 < 0)) false c48 (by kernel_rfl) ?_
        refine LL.op (.pointer (some ⟨g45, 1, none⟩)) (by kernel_rfl) (fun w _ => by kernel_rfl) ?_
        refine LL.op (.int .i64 a0_1) (by kernel_rfl) (ld 0 g45 1 rfl (by kernel_rfl) rfl (by kernel_rfl)) ?_
        refine LL.op (.bool (decide (20000 < a0_1))) (by kernel_rfl) (fun w _ => by kernel_rfl) ?_
        refine LL.op (.bool (decide (20000 < a0_1))) (by kernel_rfl) (fun w _ => by kernel_rfl) ?_
        refine LL.done (s' := [(1, .pointer (some ⟨g45, 0, none⟩)), (2, .int .i64 0), (20, .bool (decide (20000 < a0_1)))]) [1, 2, 20] (by kernel_rfl) ?_
        refine NN.then ?_
        rcases Bool.eq_false_or_eq_true (decide (20000 < a0_1)) with c49 | c49
        · rw [if_pos (of_decide_eq_true c49)] at H
          refine J.condT (b := decide (20000 < a0_1)) c49 (by kernel_rfl) (by kernel_rfl) ?_
          refine J.seq ?_
          refine J.plain ?_
          refine LL.op (.int .i64 25) (by kernel_rfl) (fun w _ => by kernel_rfl) ?_
          refine LL.done (s' := [(1, .pointer (some ⟨g45, 0, none⟩)), (2, .int .i64 25)]) [1, 2] (by kernel_rfl) ?_
          refine NN.then ?_
          refine J.ret ?_
          refine NN.then_ret ?_
          refine NN.fin1 2 (.int .i64 25) (by kernel_rfl) (by kernel_rfl) (.inl rfl) (fun w hi => hi.ret ?_)
          first | (cases H; rfl) | (obtain rfl := Option.some.inj H; rfl) | (simp only [Option.some.injEq, Prod.mk.injEq] at H; obtain ⟨rfl⟩ := H; rfl)
        · rw [if_neg (of_decide_eq_false c49)] at H
          refine J.condF (b := decide (20000 < a0_1)) c49 (by kernel_rfl) (by kernel_rfl) ?_
          refine J.skip ?_
          refine NN.then ?_
          refine J.seq ?_
          refine J.seq ?_
          refine J.plain ?_
          refine LL.op (.pointer (some ⟨g45, 2, none⟩)) (by kernel_rfl) (fun w _ => by kernel_rfl) ?_
          refine LL.op (.int .i64 a0_2) (by kernel_rfl) (ld 0 g45 2 rfl (by kernel_rfl) rfl (by kernel_rfl)) ?_
          refine LL.op (.bool (decide (a0_2 < 0))) (by kernel_rfl) (fun w _ => by kernel_rfl) ?_
          refine LL.op (.bool (decide (a0_2 < 0))) (by kernel_rfl) (fun w _ => by kernel_rfl) ?_
          rcases Bool.eq_false_or_eq_true (decide (a0_2 < 0)) with c50 | c50
          · rw [if_pos (of_decide_eq_true c50)] at H
            refine LL.bool 24 (decide (a0_2 < 0)) true c50 (by kernel_rfl) ?_
            refine LL.off (by kernel_rfl) (by kernel_rfl) ?_
            refine LL.off (by kernel_rfl) (by kernel_rfl) ?_
            refine LL.off (by kernel_rfl) (by kernel_rfl) ?_
            refine LL.op (.bool true) (by kernel_rfl) (fun w _ => by kernel_rfl) ?_
            refine LL.done (s' := [(2, .int .i64 0), (28, .bool true)]) [2, 28] (by kernel_rfl) ?_
            refine NN.then ?_
            refine J.condT (b := true) rfl (by kernel_rfl) (by kernel_rfl) ?_
            refine J.seq ?_
            refine J.plain ?_
            refine LL.op (.int .i64 9) (by kernel_rfl) (fun w _ => by kernel_rfl) ?_
            refine LL.done (s' := [(2, .int .i64 9)]) [2] (by kernel_rfl) ?_
            refine NN.then ?_
            refine J.ret ?_
            refine NN.then_ret ?_
            refine NN.fin1 2 (.int .i64 9) (by kernel_rfl) (by kernel_rfl) (.inl rfl) (fun w hi => hi.ret ?_)
            first | (cases H; rfl) | (obtain rfl := Option.some.inj H; rfl) | (simp only [Option.some.injEq, Prod.mk.injEq] at H; obtain ⟨rfl⟩ := H; rfl)
          · rw [if_neg (of_decide_eq_false c50)] at H
            refine LL.bool 24 (decide (a0_2 < 0)) false c50 (by kernel_rfl) ?_
            refine LL.op (.pointer (some ⟨g45, 2, none⟩)) (by kernel_rfl) (fun w _ => by kernel_rfl) ?_
            refine LL.op (.int .i64 a0_2) (by kernel_rfl) (ld 0 g45 2 rfl (by kernel_rfl) rfl (by kernel_rfl)) ?_
            refine LL.op (.bool (decide (1099511627776 < a0_2))) (by kernel_rfl) (fun w _ => by kernel_rfl) ?_
            refine LL.op (.bool (decide (1099511627776 < a0_2))) (by kernel_rfl) (fun w _ => by kernel_rfl) ?_
            refine LL.done (s' := [(2, .int .i64 0), (28, .bool (decide (1099511627776 < a0_2)))]) [2, 28] (by kernel_rfl) ?_
            refine NN.then ?_
            rcases Bool.eq_false_or_eq_true (decide (1099511627776 < a0_2)) with c51 | c51
            · rw [if_pos (of_decide_eq_true c51)] at H
              refine J.condT (b := decide (1099511627776 < a0_2)) c51 (by kernel_rfl) (by kernel_rfl) ?_
              refine J.seq ?_
              refine J.plain ?_
              refine LL.op (.int .i64 9) (by kernel_rfl) (fun w _ => by kernel_rfl) ?_
              refine LL.done (s' := [(2, .int .i64 9)]) [2] (by kernel_rfl) ?_
              refine NN.then ?_
              refine J.ret ?_
              refine NN.then_ret ?_
              refine NN.fin1 2 (.int .i64 9) (by kernel_rfl) (by kernel_rfl) (.inl rfl) (fun w hi => hi.ret ?_)
              first | (cases H; rfl) | (obtain rfl := Option.some.inj H; rfl) | (simp only [Option.some.injEq, Prod.mk.injEq] at H; obtain ⟨rfl⟩ := H; rfl)
            · rw [if_neg (of_decide_eq_false c51)] at H
              refine J.condF (b := decide (1099511627776 < a0_2)) c51 (by kernel_rfl) (by kernel_rfl) ?_
              refine J.skip ?_
              refine NN.then ?_
              refine J.seq ?_
              refine J.plain ?_
              refine LL.op (.int .i64 0) (by kernel_rfl) (fun w _ => by kernel_rfl) ?_
              refine LL.done (s' := [(2, .int .i64 0)]) [2] (by kernel_rfl) ?_
              refine NN.then ?_
              refine J.ret ?_
              refine NN.fin1 2 (.int .i64 0) (by kernel_rfl) (by kernel_rfl) (.inl rfl) (fun w hi => hi.ret ?_)
              first | (cases H; rfl) | (obtain rfl := Option.some.inj H; rfl) | (simp only [Option.some.injEq, Prod.mk.injEq] at H; obtain ⟨rfl⟩ := H; rfl)

/-! ### sawmillref36_Mean: function 26 -/
def sawmillref36_Mean.f (a0_0 : Int) (a0_1 : Int) (a0_2 : Int) : Option (Int) := (sawmillref36_Check.f a0_0 a0_1 a0_2).bind fun x53 => (if x53 = 0 then (some (IntKind.i64.wrap (Int.tdiv (IntKind.i64.wrap (a0_0 + (IntKind.i64.wrap (2 * a0_1)))) 3))) else (some 0))
set_option maxRecDepth 100000 in
theorem sawmillref36_Mean.calls (a0_0 : Int) (a0_1 : Int) (a0_2 : Int)   (r1 : Int) (w : World)   (h : sawmillref36_Mean.f a0_0 a0_1 a0_2 = some r1) :
    Calls Try.prog 26 #[.agg #[.int .i64 a0_0, .int .i64 a0_1, .int .i64 a0_2]] w (Ret w (.int .i64 r1)) := by
  have H := h
  clear h
  unfold sawmillref36_Mean.f at H
  refine Go.Saw.calls (args := [.agg #[.int .i64 a0_0, .int .i64 a0_1, .int .i64 a0_2]]) Try.func26 rfl Try.ntmps26 (by kernel_rfl) ?_
  refine J.seq ?_
  refine J.plain ?_
  refine LL.box 28 (.tmp 0) [.int .i64 a0_0, .int .i64 a0_1, .int .i64 a0_2] (by kernel_rfl) rfl (by kernel_rfl) (fun g52 => ?_)
  refine LL.op (.int .i64 0) (by kernel_rfl) (fun w _ => by kernel_rfl) ?_
  refine LL.done (s' := [(1, .pointer (some ⟨g52, 0, none⟩)), (2, .int .i64 0)]) [1, 2] (by kernel_rfl) ?_
  refine NN.then ?_
  refine J.seq ?_
  refine J.seq ?_
  refine J.plain ?_
  refine LL.op (.agg #[.int .i64 a0_0, .int .i64 a0_1, .int .i64 a0_2]) (by kernel_rfl) (ld 0 g52 0 rfl (by kernel_rfl) rfl (by kernel_rfl)) ?_
  obtain ⟨x53, hx53, H⟩ := bind_some H
  refine LL.call 37 #[.agg #[.int .i64 a0_0, .int .i64 a0_1, .int .i64 a0_2]] (.int .i64 x53) (by kernel_rfl) (fun w => by kernel_rfl) (fun w hw => sawmillref36_Check.calls a0_0 a0_1 a0_2   _ w   hx53) ?_
  refine LL.op (.bool (!(x53 == 0))) (by kernel_rfl) (fun w _ => by kernel_rfl) ?_
  refine LL.done (s' := [(1, .pointer (some ⟨g52, 0, none⟩)), (2, .int .i64 0), (5, .bool (!(x53 == 0)))]) [1, 2, 5] (by kernel_rfl) ?_
  refine NN.then ?_
  rcases Bool.eq_false_or_eq_true ((x53 == 0)) with c54 | c54
  · rw [if_pos (eq_of_beq c54)] at H
    refine J.condF (b := !(x53 == 0)) (by rw [show (!(x53 == 0)) = !((x53 == 0)) from rfl, c54]; rfl) (by kernel_rfl) (by kernel_rfl) ?_
    refine J.skip ?_
    refine NN.then ?_
    refine J.seq ?_
    refine J.plain ?_
    refine LL.op (.pointer (some ⟨g52, 0, none⟩)) (by kernel_rfl) (fun w _ => by kernel_rfl) ?_
    refine LL.op (.int .i64 a0_0) (by kernel_rfl) (ld 0 g52 0 rfl (by kernel_rfl) rfl (by kernel_rfl)) ?_
    refine LL.op (.pointer (some ⟨g52, 1, none⟩)) (by kernel_rfl) (fun w _ => by kernel_rfl) ?_
    refine LL.op (.int .i64 a0_1) (by kernel_rfl) (ld 0 g52 1 rfl (by kernel_rfl) rfl (by kernel_rfl)) ?_
    refine LL.op (.int .i64 (IntKind.i64.wrap (2 * a0_1))) (by kernel_rfl) (fun w _ => by kernel_rfl) ?_
    refine LL.op (.int .i64 (IntKind.i64.wrap (a0_0 + (IntKind.i64.wrap (2 * a0_1))))) (by kernel_rfl) (fun w _ => by kernel_rfl) ?_
    refine LL.op (.int .i64 (IntKind.i64.wrap (Int.tdiv (IntKind.i64.wrap (a0_0 + (IntKind.i64.wrap (2 * a0_1)))) 3))) (by kernel_rfl) (fun w _ => by kernel_rfl) ?_
    refine LL.op (.int .i64 (IntKind.i64.wrap (Int.tdiv (IntKind.i64.wrap (a0_0 + (IntKind.i64.wrap (2 * a0_1)))) 3))) (by kernel_rfl) (fun w _ => by kernel_rfl) ?_
    refine LL.done (s' := [(2, .int .i64 (IntKind.i64.wrap (Int.tdiv (IntKind.i64.wrap (a0_0 + (IntKind.i64.wrap (2 * a0_1)))) 3)))]) [2] (by kernel_rfl) ?_
    refine NN.then ?_
    refine J.ret ?_
    refine NN.fin1 2 (.int .i64 (IntKind.i64.wrap (Int.tdiv (IntKind.i64.wrap (a0_0 + (IntKind.i64.wrap (2 * a0_1)))) 3))) (by kernel_rfl) (by kernel_rfl) (.inl rfl) (fun w hi => hi.ret ?_)
    first | (cases H; rfl) | (obtain rfl := Option.some.inj H; rfl) | (simp only [Option.some.injEq, Prod.mk.injEq] at H; obtain ⟨rfl⟩ := H; rfl)
  · rw [if_neg (nebf c54)] at H
    refine J.condT (b := !(x53 == 0)) (by rw [show (!(x53 == 0)) = !((x53 == 0)) from rfl, c54]; rfl) (by kernel_rfl) (by kernel_rfl) ?_
    refine J.seq ?_
    refine J.plain ?_
    refine LL.op (.int .i64 0) (by kernel_rfl) (fun w _ => by kernel_rfl) ?_
    refine LL.done (s' := [(1, .pointer (some ⟨g52, 0, none⟩)), (2, .int .i64 0)]) [1, 2] (by kernel_rfl) ?_
    refine NN.then ?_
    refine J.ret ?_
    refine NN.then_ret ?_
    refine NN.fin1 2 (.int .i64 0) (by kernel_rfl) (by kernel_rfl) (.inl rfl) (fun w hi => hi.ret ?_)
    first | (cases H; rfl) | (obtain rfl := Option.some.inj H; rfl) | (simp only [Option.some.injEq, Prod.mk.injEq] at H; obtain ⟨rfl⟩ := H; rfl)

/-! ### sawmillref34_from: function 38 -/
def sawmillref34_from.f (a0 : Int) (a1 : Int) (a2 : Int) : Option (Bool) := if a1 ≤ a0 then (some (decide (a0 ≤ a2))) else (some false)
set_option maxRecDepth 100000 in
theorem sawmillref34_from.calls (a0 : Int) (a1 : Int) (a2 : Int)   (r1 : Bool) (w : World)   (h : sawmillref34_from.f a0 a1 a2 = some r1) :
    Calls Try.prog 38 #[.int .i64 a0, .int .i64 a1, .int .i64 a2] w (Ret w (.bool r1)) := by
  have H := h
  clear h
  unfold sawmillref34_from.f at H
  refine Go.Saw.calls (args := [.int .i64 a0, .int .i64 a1, .int .i64 a2]) Try.func38 rfl Try.ntmps38 (by kernel_rfl) ?_
  refine J.seq ?_
  refine J.plain ?_
  refine LL.op (.bool false) (by kernel_rfl) (fun w _ => by kernel_rfl) ?_
  refine LL.done (s' := [(0, .int .i64 a0), (1, .int .i64 a1), (2, .int .i64 a2), (6, .bool false)]) [0, 1, 2, 6] (by kernel_rfl) ?_
  refine NN.then ?_
  refine J.seq ?_
  refine J.plain ?_
  refine LL.op (.int .i64 a0) (by kernel_rfl) (fun w _ => by kernel_rfl) ?_
  refine LL.op (.int .i64 a1) (by kernel_rfl) (fun w _ => by kernel_rfl) ?_
  refine LL.op (.bool (decide (a1 ≤ a0))) (by kernel_rfl) (fun w _ => by kernel_rfl) ?_
  refine LL.op (.bool (decide (a1 ≤ a0))) (by kernel_rfl) (fun w _ => by kernel_rfl) ?_
  rcases Bool.eq_false_or_eq_true (decide (a1 ≤ a0)) with c55 | c55
  · rw [if_pos (of_decide_eq_true c55)] at H
    refine LL.bool 10 (decide (a1 ≤ a0)) true c55 (by kernel_rfl) ?_
    refine LL.op (.int .i64 a0) (by kernel_rfl) (fun w _ => by kernel_rfl) ?_
    refine LL.op (.int .i64 a2) (by kernel_rfl) (fun w _ => by kernel_rfl) ?_
    refine LL.op (.bool (decide (a0 ≤ a2))) (by kernel_rfl) (fun w _ => by kernel_rfl) ?_
    refine LL.op (.bool (decide (a0 ≤ a2))) (by kernel_rfl) (fun w _ => by kernel_rfl) ?_
    refine LL.op (.bool (decide (a0 ≤ a2))) (by kernel_rfl) (fun w _ => by kernel_rfl) ?_
    refine LL.done (s' := [(6, .bool (decide (a0 ≤ a2)))]) [6] (by kernel_rfl) ?_
    refine NN.then ?_
    refine J.ret ?_
    refine NN.fin1 6 (.bool (decide (a0 ≤ a2))) (by kernel_rfl) (by kernel_rfl) (.inl rfl) (fun w hi => hi.ret ?_)
    first | (cases H; rfl) | (obtain rfl := Option.some.inj H; rfl) | (simp only [Option.some.injEq, Prod.mk.injEq] at H; obtain ⟨rfl⟩ := H; rfl)
  · rw [if_neg (of_decide_eq_false c55)] at H
    refine LL.bool 10 (decide (a1 ≤ a0)) false c55 (by kernel_rfl) ?_
    refine LL.off (by kernel_rfl) (by kernel_rfl) ?_
    refine LL.off (by kernel_rfl) (by kernel_rfl) ?_
    refine LL.off (by kernel_rfl) (by kernel_rfl) ?_
    refine LL.op (.bool false) (by kernel_rfl) (fun w _ => by kernel_rfl) ?_
    refine LL.op (.bool false) (by kernel_rfl) (fun w _ => by kernel_rfl) ?_
    refine LL.done (s' := [(6, .bool false)]) [6] (by kernel_rfl) ?_
    refine NN.then ?_
    refine J.ret ?_
    refine NN.fin1 6 (.bool false) (by kernel_rfl) (by kernel_rfl) (.inl rfl) (fun w hi => hi.ret ?_)
    first | (cases H; rfl) | (obtain rfl := Option.some.inj H; rfl) | (simp only [Option.some.injEq, Prod.mk.injEq] at H; obtain ⟨rfl⟩ := H; rfl)

/-! ### sawmillref34_Shrunk: function 27 -/
def sawmillref34_Shrunk.f (a0_0 : ByteArray) (a0_1 : Int) (a0_2 : Int) (a0_3 : Int) (a0_4 : Int) (a0_5 : Int) (a0_6 : Int) (a0_7 : Int) (a0_8 : Int) (a0_9 : Int) (a0_10 : Int) (a0_11 : Int) (a0_12 : Int) (a1 : Int) (a2 : Int) : Option (Int) := (sawmillref34_from.f a1 0 20000).bind fun x57 => (if x57 = true then ((sawmillref34_from.f a0_12 0 200).bind fun x59 => (if x59 = true then (some (IntKind.i64.wrap (a1 - (IntKind.i64.wrap (Int.tdiv (IntKind.i64.wrap ((IntKind.i64.wrap (a1 * a0_12)) * (IntKind.i64.wrap (3000 - (mn (mx a2 0) 3000))))) 3000000))))) else (some a1))) else (some a1))
set_option maxRecDepth 100000 in
theorem sawmillref34_Shrunk.calls (a0_0 : ByteArray) (a0_1 : Int) (a0_2 : Int) (a0_3 : Int) (a0_4 : Int) (a0_5 : Int) (a0_6 : Int) (a0_7 : Int) (a0_8 : Int) (a0_9 : Int) (a0_10 : Int) (a0_11 : Int) (a0_12 : Int) (a1 : Int) (a2 : Int)   (r1 : Int) (w : World)   (h : sawmillref34_Shrunk.f a0_0 a0_1 a0_2 a0_3 a0_4 a0_5 a0_6 a0_7 a0_8 a0_9 a0_10 a0_11 a0_12 a1 a2 = some r1) :
    Calls Try.prog 27 #[.agg #[.string a0_0, .int .i64 a0_1, .int .i64 a0_2, .int .i64 a0_3, .int .i64 a0_4, .int .i64 a0_5, .int .i64 a0_6, .int .i64 a0_7, .int .i64 a0_8, .int .i64 a0_9, .int .i64 a0_10, .int .i64 a0_11, .int .i64 a0_12], .int .i64 a1, .int .i64 a2] w (Ret w (.int .i64 r1)) := by
  have H := h
  clear h
  unfold sawmillref34_Shrunk.f at H
  refine Go.Saw.calls (args := [.agg #[.string a0_0, .int .i64 a0_1, .int .i64 a0_2, .int .i64 a0_3, .int .i64 a0_4, .int .i64 a0_5, .int .i64 a0_6, .int .i64 a0_7, .int .i64 a0_8, .int .i64 a0_9, .int .i64 a0_10, .int .i64 a0_11, .int .i64 a0_12], .int .i64 a1, .int .i64 a2]) Try.func27 rfl Try.ntmps27 (by kernel_rfl) ?_
  refine J.seq ?_
  refine J.plain ?_
  refine LL.box 35 (.tmp 0) [.string a0_0, .int .i64 a0_1, .int .i64 a0_2, .int .i64 a0_3, .int .i64 a0_4, .int .i64 a0_5, .int .i64 a0_6, .int .i64 a0_7, .int .i64 a0_8, .int .i64 a0_9, .int .i64 a0_10, .int .i64 a0_11, .int .i64 a0_12] (by kernel_rfl) rfl (by kernel_rfl) (fun g56 => ?_)
  refine LL.op (.int .i64 0) (by kernel_rfl) (fun w _ => by kernel_rfl) ?_
  refine LL.done (s' := [(1, .int .i64 a1), (2, .int .i64 a2), (3, .pointer (some ⟨g56, 0, none⟩)), (6, .int .i64 0)]) [1, 2, 3, 6] (by kernel_rfl) ?_
  refine NN.then ?_
  refine J.seq ?_
  refine J.seq ?_
  refine J.plain ?_
  refine LL.op (.int .i64 a1) (by kernel_rfl) (fun w _ => by kernel_rfl) ?_
  obtain ⟨x57, hx57, H⟩ := bind_some H
  refine LL.call 38 #[.int .i64 a1, .int .i64 0, .int .i64 20000] (.bool x57) (by kernel_rfl) (fun w => by kernel_rfl) (fun w hw => sawmillref34_from.calls a1 0 20000   _ w   hx57) ?_
  refine LL.op (.bool (!x57)) (by kernel_rfl) (fun w _ => by kernel_rfl) ?_
  refine LL.op (.bool (!x57)) (by kernel_rfl) (fun w _ => by kernel_rfl) ?_
  rcases Bool.eq_false_or_eq_true (x57) with c58 | c58
  · rw [if_pos (c58)] at H
    refine LL.bool 11 (!x57) false (by rw [show (!x57) = !(x57) from rfl, c58]; rfl) (by kernel_rfl) ?_
    refine LL.op (.pointer (some ⟨g56, 12, none⟩)) (by kernel_rfl) (fun w _ => by kernel_rfl) ?_
    refine LL.op (.int .i64 a0_12) (by kernel_rfl) (ld 0 g56 12 rfl (by kernel_rfl) rfl (by kernel_rfl)) ?_
    obtain ⟨x59, hx59, H⟩ := bind_some H
    refine LL.call 38 #[.int .i64 a0_12, .int .i64 0, .int .i64 200] (.bool x59) (by kernel_rfl) (fun w => by kernel_rfl) (fun w hw => sawmillref34_from.calls a0_12 0 200   _ w   hx59) ?_
    refine LL.op (.bool (!x59)) (by kernel_rfl) (fun w _ => by kernel_rfl) ?_
    refine LL.op (.bool (!x59)) (by kernel_rfl) (fun w _ => by kernel_rfl) ?_
    refine LL.done (s' := [(1, .int .i64 a1), (2, .int .i64 a2), (3, .pointer (some ⟨g56, 0, none⟩)), (6, .int .i64 0), (16, .bool (!x59))]) [1, 2, 3, 6, 16] (by kernel_rfl) ?_
    refine NN.then ?_
    rcases Bool.eq_false_or_eq_true (x59) with c60 | c60
    · rw [if_pos (c60)] at H
      refine J.condF (b := !x59) (by rw [show (!x59) = !(x59) from rfl, c60]; rfl) (by kernel_rfl) (by kernel_rfl) ?_
      refine J.skip ?_
      refine NN.then ?_
      refine J.seq ?_
      refine J.plain ?_
      refine LL.op (.int .i64 a2) (by kernel_rfl) (fun w _ => by kernel_rfl) ?_
      refine LL.op (.int .i64 (mx a2 0)) (by kernel_rfl) (fun w _ => by kernel_rfl) ?_
      refine LL.op (.int .i64 (mn (mx a2 0) 3000)) (by kernel_rfl) (fun w _ => by kernel_rfl) ?_
      refine LL.op (.int .i64 (IntKind.i64.wrap (3000 - (mn (mx a2 0) 3000)))) (by kernel_rfl) (fun w _ => by kernel_rfl) ?_
      refine LL.op (.int .i64 (IntKind.i64.wrap (3000 - (mn (mx a2 0) 3000)))) (by kernel_rfl) (fun w _ => by kernel_rfl) ?_
      refine LL.done (s' := [(1, .int .i64 a1), (3, .pointer (some ⟨g56, 0, none⟩)), (6, .int .i64 0), (7, .int .i64 (IntKind.i64.wrap (3000 - (mn (mx a2 0) 3000))))]) [1, 3, 6, 7] (by kernel_rfl) ?_
      refine NN.then ?_
      refine J.seq ?_
      refine J.plain ?_
      refine LL.op (.int .i64 a1) (by kernel_rfl) (fun w _ => by kernel_rfl) ?_
      refine LL.op (.int .i64 a1) (by kernel_rfl) (fun w _ => by kernel_rfl) ?_
      refine LL.op (.pointer (some ⟨g56, 12, none⟩)) (by kernel_rfl) (fun w _ => by kernel_rfl) ?_
      refine LL.op (.int .i64 a0_12) (by kernel_rfl) (ld 0 g56 12 rfl (by kernel_rfl) rfl (by kernel_rfl)) ?_
      refine LL.op (.int .i64 (IntKind.i64.wrap (a1 * a0_12))) (by kernel_rfl) (fun w _ => by kernel_rfl) ?_
      refine LL.op (.int .i64 (IntKind.i64.wrap (3000 - (mn (mx a2 0) 3000)))) (by kernel_rfl) (fun w _ => by kernel_rfl) ?_
      refine LL.op (.int .i64 (IntKind.i64.wrap ((IntKind.i64.wrap (a1 * a0_12)) * (IntKind.i64.wrap (3000 - (mn (mx a2 0) 3000)))))) (by kernel_rfl) (fun w _ => by kernel_rfl) ?_
      refine LL.op (.int .i64 (IntKind.i64.wrap (Int.tdiv (IntKind.i64.wrap ((IntKind.i64.wrap (a1 * a0_12)) * (IntKind.i64.wrap (3000 - (mn (mx a2 0) 3000))))) 3000000))) (by kernel_rfl) (fun w _ => by kernel_rfl) ?_
      refine LL.op (.int .i64 (IntKind.i64.wrap (a1 - (IntKind.i64.wrap (Int.tdiv (IntKind.i64.wrap ((IntKind.i64.wrap (a1 * a0_12)) * (IntKind.i64.wrap (3000 - (mn (mx a2 0) 3000))))) 3000000))))) (by kernel_rfl) (fun w _ => by kernel_rfl) ?_
      refine LL.op (.int .i64 (IntKind.i64.wrap (a1 - (IntKind.i64.wrap (Int.tdiv (IntKind.i64.wrap ((IntKind.i64.wrap (a1 * a0_12)) * (IntKind.i64.wrap (3000 - (mn (mx a2 0) 3000))))) 3000000))))) (by kernel_rfl) (fun w _ => by kernel_rfl) ?_
      refine LL.done (s' := [(6, .int .i64 (IntKind.i64.wrap (a1 - (IntKind.i64.wrap (Int.tdiv (IntKind.i64.wrap ((IntKind.i64.wrap (a1 * a0_12)) * (IntKind.i64.wrap (3000 - (mn (mx a2 0) 3000))))) 3000000)))))]) [6] (by kernel_rfl) ?_
      refine NN.then ?_
      refine J.ret ?_
      refine NN.fin1 6 (.int .i64 (IntKind.i64.wrap (a1 - (IntKind.i64.wrap (Int.tdiv (IntKind.i64.wrap ((IntKind.i64.wrap (a1 * a0_12)) * (IntKind.i64.wrap (3000 - (mn (mx a2 0) 3000))))) 3000000))))) (by kernel_rfl) (by kernel_rfl) (.inl rfl) (fun w hi => hi.ret ?_)
      first | (cases H; rfl) | (obtain rfl := Option.some.inj H; rfl) | (simp only [Option.some.injEq, Prod.mk.injEq] at H; obtain ⟨rfl⟩ := H; rfl)
    · rw [if_neg (nebt c60)] at H
      refine J.condT (b := !x59) (by rw [show (!x59) = !(x59) from rfl, c60]; rfl) (by kernel_rfl) (by kernel_rfl) ?_
      refine J.seq ?_
      refine J.plain ?_
      refine LL.op (.int .i64 a1) (by kernel_rfl) (fun w _ => by kernel_rfl) ?_
      refine LL.op (.int .i64 a1) (by kernel_rfl) (fun w _ => by kernel_rfl) ?_
      refine LL.done (s' := [(1, .int .i64 a1), (2, .int .i64 a2), (3, .pointer (some ⟨g56, 0, none⟩)), (6, .int .i64 a1)]) [1, 2, 3, 6] (by kernel_rfl) ?_
      refine NN.then ?_
      refine J.ret ?_
      refine NN.then_ret ?_
      refine NN.fin1 6 (.int .i64 a1) (by kernel_rfl) (by kernel_rfl) (.inl rfl) (fun w hi => hi.ret ?_)
      first | (cases H; rfl) | (obtain rfl := Option.some.inj H; rfl) | (simp only [Option.some.injEq, Prod.mk.injEq] at H; obtain ⟨rfl⟩ := H; rfl)
  · rw [if_neg (nebt c58)] at H
    refine LL.bool 11 (!x57) true (by rw [show (!x57) = !(x57) from rfl, c58]; rfl) (by kernel_rfl) ?_
    refine LL.off (by kernel_rfl) (by kernel_rfl) ?_
    refine LL.off (by kernel_rfl) (by kernel_rfl) ?_
    refine LL.off (by kernel_rfl) (by kernel_rfl) ?_
    refine LL.off (by kernel_rfl) (by kernel_rfl) ?_
    refine LL.op (.bool true) (by kernel_rfl) (fun w _ => by kernel_rfl) ?_
    refine LL.done (s' := [(1, .int .i64 a1), (2, .int .i64 a2), (3, .pointer (some ⟨g56, 0, none⟩)), (6, .int .i64 0), (16, .bool true)]) [1, 2, 3, 6, 16] (by kernel_rfl) ?_
    refine NN.then ?_
    refine J.condT (b := true) rfl (by kernel_rfl) (by kernel_rfl) ?_
    refine J.seq ?_
    refine J.plain ?_
    refine LL.op (.int .i64 a1) (by kernel_rfl) (fun w _ => by kernel_rfl) ?_
    refine LL.op (.int .i64 a1) (by kernel_rfl) (fun w _ => by kernel_rfl) ?_
    refine LL.done (s' := [(1, .int .i64 a1), (2, .int .i64 a2), (3, .pointer (some ⟨g56, 0, none⟩)), (6, .int .i64 a1)]) [1, 2, 3, 6] (by kernel_rfl) ?_
    refine NN.then ?_
    refine J.ret ?_
    refine NN.then_ret ?_
    refine NN.fin1 6 (.int .i64 a1) (by kernel_rfl) (by kernel_rfl) (.inl rfl) (fun w hi => hi.ret ?_)
    first | (cases H; rfl) | (obtain rfl := Option.some.inj H; rfl) | (simp only [Option.some.injEq, Prod.mk.injEq] at H; obtain ⟨rfl⟩ := H; rfl)

/-! ### sawmillref39_Dried: function 10 -/
def sawmillref39_Dried.f (a0_0 : ByteArray) (a0_1 : ByteArray) (a0_2 : ByteArray) (a0_3 : Int) (a0_4 : Int) (a0_5 : Int) (a0_6 : Int) (a0_7 : Int) (a0_8 : Int) (a0_9 : Int) (a0_10 : Int) (a0_12 : Int) (a0_13 : Int) (a0_14 : Int) (a0_15 : Int) (a0_16 : Bool) (a0_17 : Int) (a1_0 : ByteArray) (a1_1 : Int) (a1_2 : Int) (a1_3 : Int) (a1_4 : Int) (a1_5 : Int) (a1_6 : Int) (a1_7 : Int) (a1_8 : Int) (a1_9 : Int) (a1_10 : Int) (a1_11 : Int) (a1_12 : Int) : Option (Int × Int) := (sawmillref39_Sizes.f a0_4 a0_5 a0_6 a0_7 a0_8 a0_9).bind fun bx63 => ((sawmillref36_Mean.f a0_13 a0_14 a0_15).bind fun x64 => (if bx63.1 = 0 then (some (0, 0)) else ((sawmillref34_Shrunk.f a1_0 a1_1 a1_2 a1_3 a1_4 a1_5 a1_6 a1_7 a1_8 a1_9 a1_10 a1_11 a1_12 bx63.1 x64).bind fun x66 => ((sawmillref34_Shrunk.f a1_0 a1_1 a1_2 a1_3 a1_4 a1_5 a1_6 a1_7 a1_8 a1_9 a1_10 a1_11 a1_12 bx63.2 x64).bind fun x67 => (some (x66, x67))))))
set_option maxRecDepth 100000 in
theorem sawmillref39_Dried.calls (a0_0 : ByteArray) (a0_1 : ByteArray) (a0_2 : ByteArray) (a0_3 : Int) (a0_4 : Int) (a0_5 : Int) (a0_6 : Int) (a0_7 : Int) (a0_8 : Int) (a0_9 : Int) (a0_10 : Int) (a0_12 : Int) (a0_13 : Int) (a0_14 : Int) (a0_15 : Int) (a0_16 : Bool) (a0_17 : Int) (a1_0 : ByteArray) (a1_1 : Int) (a1_2 : Int) (a1_3 : Int) (a1_4 : Int) (a1_5 : Int) (a1_6 : Int) (a1_7 : Int) (a1_8 : Int) (a1_9 : Int) (a1_10 : Int) (a1_11 : Int) (a1_12 : Int)  (Aa0_11 : Option Addr) (na0_11 ca0_11 : Nat) (r1 : Int) (r2 : Int) (w : World)   (h : sawmillref39_Dried.f a0_0 a0_1 a0_2 a0_3 a0_4 a0_5 a0_6 a0_7 a0_8 a0_9 a0_10 a0_12 a0_13 a0_14 a0_15 a0_16 a0_17 a1_0 a1_1 a1_2 a1_3 a1_4 a1_5 a1_6 a1_7 a1_8 a1_9 a1_10 a1_11 a1_12 = some (r1, r2)) :
    Calls Try.prog 10 #[.agg #[.string a0_0, .string a0_1, .string a0_2, .int .i64 a0_3, .int .i64 a0_4, .int .i64 a0_5, .int .i64 a0_6, .int .i64 a0_7, .int .i64 a0_8, .int .i64 a0_9, .int .i64 a0_10, .slice Aa0_11 na0_11 ca0_11, .int .i64 a0_12, .int .i64 a0_13, .int .i64 a0_14, .int .i64 a0_15, .bool a0_16, .int .i64 a0_17], .agg #[.string a1_0, .int .i64 a1_1, .int .i64 a1_2, .int .i64 a1_3, .int .i64 a1_4, .int .i64 a1_5, .int .i64 a1_6, .int .i64 a1_7, .int .i64 a1_8, .int .i64 a1_9, .int .i64 a1_10, .int .i64 a1_11, .int .i64 a1_12]] w (Ret w (.tuple #[.int .i64 r1, .int .i64 r2])) := by
  have H := h
  clear h
  unfold sawmillref39_Dried.f at H
  refine Go.Saw.calls (args := [.agg #[.string a0_0, .string a0_1, .string a0_2, .int .i64 a0_3, .int .i64 a0_4, .int .i64 a0_5, .int .i64 a0_6, .int .i64 a0_7, .int .i64 a0_8, .int .i64 a0_9, .int .i64 a0_10, .slice Aa0_11 na0_11 ca0_11, .int .i64 a0_12, .int .i64 a0_13, .int .i64 a0_14, .int .i64 a0_15, .bool a0_16, .int .i64 a0_17], .agg #[.string a1_0, .int .i64 a1_1, .int .i64 a1_2, .int .i64 a1_3, .int .i64 a1_4, .int .i64 a1_5, .int .i64 a1_6, .int .i64 a1_7, .int .i64 a1_8, .int .i64 a1_9, .int .i64 a1_10, .int .i64 a1_11, .int .i64 a1_12]]) Try.func10 rfl Try.ntmps10 (by kernel_rfl) ?_
  refine J.seq ?_
  refine J.plain ?_
  refine LL.box 30 (.tmp 0) [.string a0_0, .string a0_1, .string a0_2, .int .i64 a0_3, .int .i64 a0_4, .int .i64 a0_5, .int .i64 a0_6, .int .i64 a0_7, .int .i64 a0_8, .int .i64 a0_9, .int .i64 a0_10, .slice Aa0_11 na0_11 ca0_11, .int .i64 a0_12, .int .i64 a0_13, .int .i64 a0_14, .int .i64 a0_15, .bool a0_16, .int .i64 a0_17] (by kernel_rfl) rfl (by kernel_rfl) (fun g61 => ?_)
  refine LL.box 35 (.tmp 1) [.string a1_0, .int .i64 a1_1, .int .i64 a1_2, .int .i64 a1_3, .int .i64 a1_4, .int .i64 a1_5, .int .i64 a1_6, .int .i64 a1_7, .int .i64 a1_8, .int .i64 a1_9, .int .i64 a1_10, .int .i64 a1_11, .int .i64 a1_12] (by kernel_rfl) rfl (by kernel_rfl) (fun g62 => ?_)
  refine LL.op (.int .i64 0) (by kernel_rfl) (fun w _ => by kernel_rfl) ?_
  refine LL.op (.int .i64 0) (by kernel_rfl) (fun w _ => by kernel_rfl) ?_
  refine LL.done (s' := [(2, .pointer (some ⟨g61, 0, none⟩)), (3, .pointer (some ⟨g62, 0, none⟩)), (4, .int .i64 0), (5, .int .i64 0)]) [2, 3, 4, 5] (by kernel_rfl) ?_
  refine NN.then ?_
  refine J.seq ?_
  refine J.plain ?_
  refine LL.op (.pointer (some ⟨g61, 4, none⟩)) (by kernel_rfl) (fun w _ => by kernel_rfl) ?_
  refine LL.op (.agg #[.int .i64 a0_4, .int .i64 a0_5, .int .i64 a0_6, .int .i64 a0_7, .int .i64 a0_8, .int .i64 a0_9]) (by kernel_rfl) (ld 1 g61 4 rfl (by kernel_rfl) rfl (by kernel_rfl)) ?_
  obtain ⟨⟨x63_1, x63_2⟩, hx63, H⟩ := bind_some H
  (try dsimp only at H)
  refine LL.call 25 #[.agg #[.int .i64 a0_4, .int .i64 a0_5, .int .i64 a0_6, .int .i64 a0_7, .int .i64 a0_8, .int .i64 a0_9]] (.tuple #[.int .i64 x63_1, .int .i64 x63_2]) (by kernel_rfl) (fun w => by kernel_rfl) (fun w hw => sawmillref39_Sizes.calls a0_4 a0_5 a0_6 a0_7 a0_8 a0_9   _ _ w   hx63) ?_
  refine LL.op (.tuple #[.int .i64 x63_1, .int .i64 x63_2]) (by kernel_rfl) (fun w _ => by kernel_rfl) ?_
  refine LL.op (.int .i64 x63_1) (by kernel_rfl) (fun w _ => by kernel_rfl) ?_
  refine LL.op (.int .i64 x63_2) (by kernel_rfl) (fun w _ => by kernel_rfl) ?_
  refine LL.op (.int .i64 x63_1) (by kernel_rfl) (fun w _ => by kernel_rfl) ?_
  refine LL.op (.int .i64 x63_2) (by kernel_rfl) (fun w _ => by kernel_rfl) ?_
  refine LL.done (s' := [(2, .pointer (some ⟨g61, 0, none⟩)), (3, .pointer (some ⟨g62, 0, none⟩)), (4, .int .i64 0), (5, .int .i64 0), (6, .int .i64 x63_1), (7, .int .i64 x63_2)]) [2, 3, 4, 5, 6, 7] (by kernel_rfl) ?_
  refine NN.then ?_
  refine J.seq ?_
  refine J.plain ?_
  refine LL.op (.pointer (some ⟨g61, 13, none⟩)) (by kernel_rfl) (fun w _ => by kernel_rfl) ?_
  refine LL.op (.agg #[.int .i64 a0_13, .int .i64 a0_14, .int .i64 a0_15]) (by kernel_rfl) (ld 1 g61 13 rfl (by kernel_rfl) rfl (by kernel_rfl)) ?_
  obtain ⟨x64, hx64, H⟩ := bind_some H
  refine LL.call 26 #[.agg #[.int .i64 a0_13, .int .i64 a0_14, .int .i64 a0_15]] (.int .i64 x64) (by kernel_rfl) (fun w => by kernel_rfl) (fun w hw => sawmillref36_Mean.calls a0_13 a0_14 a0_15   _ w   hx64) ?_
  refine LL.op (.int .i64 x64) (by kernel_rfl) (fun w _ => by kernel_rfl) ?_
  refine LL.done (s' := [(3, .pointer (some ⟨g62, 0, none⟩)), (4, .int .i64 0), (5, .int .i64 0), (6, .int .i64 x63_1), (7, .int .i64 x63_2), (8, .int .i64 x64)]) [3, 4, 5, 6, 7, 8] (by kernel_rfl) ?_
  refine NN.then ?_
  refine J.seq ?_
  refine J.seq ?_
  refine J.plain ?_
  refine LL.op (.int .i64 x63_1) (by kernel_rfl) (fun w _ => by kernel_rfl) ?_
  refine LL.op (.bool (x63_1 == 0)) (by kernel_rfl) (fun w _ => by kernel_rfl) ?_
  refine LL.done (s' := [(3, .pointer (some ⟨g62, 0, none⟩)), (4, .int .i64 0), (5, .int .i64 0), (6, .int .i64 x63_1), (7, .int .i64 x63_2), (8, .int .i64 x64), (19, .bool (x63_1 == 0))]) [3, 4, 5, 6, 7, 8, 19] (by kernel_rfl) ?_
  refine NN.then ?_
  rcases Bool.eq_false_or_eq_true ((x63_1 == 0)) with c65 | c65
  · rw [if_pos (eq_of_beq c65)] at H
    refine J.condT (b := (x63_1 == 0)) c65 (by kernel_rfl) (by kernel_rfl) ?_
    refine J.seq ?_
    refine J.plain ?_
    refine LL.op (.int .i64 0) (by kernel_rfl) (fun w _ => by kernel_rfl) ?_
    refine LL.op (.int .i64 0) (by kernel_rfl) (fun w _ => by kernel_rfl) ?_
    refine LL.done (s' := [(3, .pointer (some ⟨g62, 0, none⟩)), (4, .int .i64 0), (5, .int .i64 0), (6, .int .i64 x63_1), (7, .int .i64 x63_2), (8, .int .i64 x64)]) [3, 4, 5, 6, 7, 8] (by kernel_rfl) ?_
    refine NN.then ?_
    refine J.ret ?_
    refine NN.then_ret ?_
    refine NN.fin2 4 5 (.int .i64 0) (.int .i64 0) (by kernel_rfl) (by kernel_rfl) (by kernel_rfl) (.inl rfl) (fun w hi => hi.ret ?_)
    first | (cases H; rfl) | (obtain rfl := Option.some.inj H; rfl) | (simp only [Option.some.injEq, Prod.mk.injEq] at H; obtain ⟨rfl, rfl⟩ := H; rfl)
  · rw [if_neg (nebf c65)] at H
    refine J.condF (b := (x63_1 == 0)) c65 (by kernel_rfl) (by kernel_rfl) ?_
    refine J.skip ?_
    refine NN.then ?_
    refine J.seq ?_
    refine J.drawn follows (by kernel_rfl) ?_
    refine QQ.op (.agg #[.string a1_0, .int .i64 a1_1, .int .i64 a1_2, .int .i64 a1_3, .int .i64 a1_4, .int .i64 a1_5, .int .i64 a1_6, .int .i64 a1_7, .int .i64 a1_8, .int .i64 a1_9, .int .i64 a1_10, .int .i64 a1_11, .int .i64 a1_12]) (by kernel_rfl) (ld 0 g62 0 rfl (by kernel_rfl) rfl (by kernel_rfl)) ?_
    refine QQ.op (.int .i64 x63_1) (by kernel_rfl) (fun w _ => by kernel_rfl) ?_
    refine QQ.op (.int .i64 x64) (by kernel_rfl) (fun w _ => by kernel_rfl) ?_
    obtain ⟨x66, hx66, H⟩ := bind_some H
    refine QQ.call 27 #[.agg #[.string a1_0, .int .i64 a1_1, .int .i64 a1_2, .int .i64 a1_3, .int .i64 a1_4, .int .i64 a1_5, .int .i64 a1_6, .int .i64 a1_7, .int .i64 a1_8, .int .i64 a1_9, .int .i64 a1_10, .int .i64 a1_11, .int .i64 a1_12], .int .i64 x63_1, .int .i64 x64] (.int .i64 x66) (by kernel_rfl) (fun w => by kernel_rfl) (fun w hw => sawmillref34_Shrunk.calls a1_0 a1_1 a1_2 a1_3 a1_4 a1_5 a1_6 a1_7 a1_8 a1_9 a1_10 a1_11 a1_12 x63_1 x64   _ w   hx66) ?_
    refine QQ.op (.agg #[.string a1_0, .int .i64 a1_1, .int .i64 a1_2, .int .i64 a1_3, .int .i64 a1_4, .int .i64 a1_5, .int .i64 a1_6, .int .i64 a1_7, .int .i64 a1_8, .int .i64 a1_9, .int .i64 a1_10, .int .i64 a1_11, .int .i64 a1_12]) (by kernel_rfl) (ld 0 g62 0 rfl (by kernel_rfl) rfl (by kernel_rfl)) ?_
    refine QQ.op (.int .i64 x63_2) (by kernel_rfl) (fun w _ => by kernel_rfl) ?_
    refine QQ.op (.int .i64 x64) (by kernel_rfl) (fun w _ => by kernel_rfl) ?_
    obtain ⟨x67, hx67, H⟩ := bind_some H
    refine QQ.call 27 #[.agg #[.string a1_0, .int .i64 a1_1, .int .i64 a1_2, .int .i64 a1_3, .int .i64 a1_4, .int .i64 a1_5, .int .i64 a1_6, .int .i64 a1_7, .int .i64 a1_8, .int .i64 a1_9, .int .i64 a1_10, .int .i64 a1_11, .int .i64 a1_12], .int .i64 x63_2, .int .i64 x64] (.int .i64 x67) (by kernel_rfl) (fun w => by kernel_rfl) (fun w hw => sawmillref34_Shrunk.calls a1_0 a1_1 a1_2 a1_3 a1_4 a1_5 a1_6 a1_7 a1_8 a1_9 a1_10 a1_11 a1_12 x63_2 x64   _ w   hx67) ?_
    refine QQ.op (.int .i64 x66) (by kernel_rfl) (fun w _ => by kernel_rfl) ?_
    refine QQ.op (.int .i64 x67) (by kernel_rfl) (fun w _ => by kernel_rfl) ?_
    refine QQ.done (s' := [(4, .int .i64 x66), (5, .int .i64 x67)]) [4, 5] (by kernel_rfl) ?_
    refine NN.then ?_
    refine J.ret ?_
    refine NN.fin2 4 5 (.int .i64 x66) (.int .i64 x67) (by kernel_rfl) (by kernel_rfl) (by kernel_rfl) (.inl rfl) (fun w hi => hi.ret ?_)
    first | (cases H; rfl) | (obtain rfl := Option.some.inj H; rfl) | (simp only [Option.some.injEq, Prod.mk.injEq] at H; obtain ⟨rfl, rfl⟩ := H; rfl)

/-! ### sizing_Under: function 11 -/
def sizing_Under.f (a0_0 : ByteArray) (a0_1 : ByteArray) (a0_2 : ByteArray) (a0_3 : Int) (a0_4 : Int) (a0_5 : Int) (a0_6 : Int) (a0_7 : Int) (a0_8 : Int) (a0_9 : Int) (a0_10 : Int) (a0_12 : Int) (a0_13 : Int) (a0_14 : Int) (a0_15 : Int) (a0_16 : Bool) (a0_17 : Int) (a1_0 : ByteArray) (a1_1 : Int) (a1_2 : Int) (a1_3 : Int) (a1_4 : Int) (a2_0 : ByteArray) (a2_1 : Int) (a2_2 : Int) (a2_3 : Int) (a2_4 : Int) (a2_5 : Int) (a2_6 : Int) (a2_7 : Int) (a2_8 : Int) (a2_9 : Int) (a2_10 : Int) (a2_11 : Int) (a2_12 : Int) : Option (Bool) := (sizing_Dried.f a0_0 a0_1 a0_2 a0_3 a0_4 a0_5 a0_6 a0_7 a0_8 a0_9 a0_10 a0_12 a0_13 a0_14 a0_15 a0_16 a0_17 a2_0 a2_1 a2_2 a2_3 a2_4 a2_5 a2_6 a2_7 a2_8 a2_9 a2_10 a2_11 a2_12).bind fun bx71 => (if bx71.1 < a1_1 then (some true) else (some (decide (bx71.2 < a1_2))))
set_option maxRecDepth 100000 in
theorem sizing_Under.calls (a0_0 : ByteArray) (a0_1 : ByteArray) (a0_2 : ByteArray) (a0_3 : Int) (a0_4 : Int) (a0_5 : Int) (a0_6 : Int) (a0_7 : Int) (a0_8 : Int) (a0_9 : Int) (a0_10 : Int) (a0_12 : Int) (a0_13 : Int) (a0_14 : Int) (a0_15 : Int) (a0_16 : Bool) (a0_17 : Int) (a1_0 : ByteArray) (a1_1 : Int) (a1_2 : Int) (a1_3 : Int) (a1_4 : Int) (a2_0 : ByteArray) (a2_1 : Int) (a2_2 : Int) (a2_3 : Int) (a2_4 : Int) (a2_5 : Int) (a2_6 : Int) (a2_7 : Int) (a2_8 : Int) (a2_9 : Int) (a2_10 : Int) (a2_11 : Int) (a2_12 : Int)  (Aa0_11 : Option Addr) (na0_11 ca0_11 : Nat) (Aa1_5 : Option Addr) (na1_5 ca1_5 : Nat) (Aa1_6 : Option Addr) (na1_6 ca1_6 : Nat) (r1 : Bool) (w : World)   (h : sizing_Under.f a0_0 a0_1 a0_2 a0_3 a0_4 a0_5 a0_6 a0_7 a0_8 a0_9 a0_10 a0_12 a0_13 a0_14 a0_15 a0_16 a0_17 a1_0 a1_1 a1_2 a1_3 a1_4 a2_0 a2_1 a2_2 a2_3 a2_4 a2_5 a2_6 a2_7 a2_8 a2_9 a2_10 a2_11 a2_12 = some r1) :
    Calls Try.prog 11 #[.agg #[.string a0_0, .string a0_1, .string a0_2, .int .i64 a0_3, .int .i64 a0_4, .int .i64 a0_5, .int .i64 a0_6, .int .i64 a0_7, .int .i64 a0_8, .int .i64 a0_9, .int .i64 a0_10, .slice Aa0_11 na0_11 ca0_11, .int .i64 a0_12, .int .i64 a0_13, .int .i64 a0_14, .int .i64 a0_15, .bool a0_16, .int .i64 a0_17], .agg #[.string a1_0, .int .i64 a1_1, .int .i64 a1_2, .int .i64 a1_3, .int .i64 a1_4, .slice Aa1_5 na1_5 ca1_5, .slice Aa1_6 na1_6 ca1_6], .agg #[.string a2_0, .int .i64 a2_1, .int .i64 a2_2, .int .i64 a2_3, .int .i64 a2_4, .int .i64 a2_5, .int .i64 a2_6, .int .i64 a2_7, .int .i64 a2_8, .int .i64 a2_9, .int .i64 a2_10, .int .i64 a2_11, .int .i64 a2_12]] w (Ret w (.bool r1)) := by
  have H := h
  clear h
  unfold sizing_Under.f at H
  refine Go.Saw.calls (args := [.agg #[.string a0_0, .string a0_1, .string a0_2, .int .i64 a0_3, .int .i64 a0_4, .int .i64 a0_5, .int .i64 a0_6, .int .i64 a0_7, .int .i64 a0_8, .int .i64 a0_9, .int .i64 a0_10, .slice Aa0_11 na0_11 ca0_11, .int .i64 a0_12, .int .i64 a0_13, .int .i64 a0_14, .int .i64 a0_15, .bool a0_16, .int .i64 a0_17], .agg #[.string a1_0, .int .i64 a1_1, .int .i64 a1_2, .int .i64 a1_3, .int .i64 a1_4, .slice Aa1_5 na1_5 ca1_5, .slice Aa1_6 na1_6 ca1_6], .agg #[.string a2_0, .int .i64 a2_1, .int .i64 a2_2, .int .i64 a2_3, .int .i64 a2_4, .int .i64 a2_5, .int .i64 a2_6, .int .i64 a2_7, .int .i64 a2_8, .int .i64 a2_9, .int .i64 a2_10, .int .i64 a2_11, .int .i64 a2_12]]) Try.func11 rfl Try.ntmps11 (by kernel_rfl) ?_
  refine J.seq ?_
  refine J.plain ?_
  refine LL.box 30 (.tmp 0) [.string a0_0, .string a0_1, .string a0_2, .int .i64 a0_3, .int .i64 a0_4, .int .i64 a0_5, .int .i64 a0_6, .int .i64 a0_7, .int .i64 a0_8, .int .i64 a0_9, .int .i64 a0_10, .slice Aa0_11 na0_11 ca0_11, .int .i64 a0_12, .int .i64 a0_13, .int .i64 a0_14, .int .i64 a0_15, .bool a0_16, .int .i64 a0_17] (by kernel_rfl) rfl (by kernel_rfl) (fun g68 => ?_)
  refine LL.box 33 (.tmp 1) [.string a1_0, .int .i64 a1_1, .int .i64 a1_2, .int .i64 a1_3, .int .i64 a1_4, .slice Aa1_5 na1_5 ca1_5, .slice Aa1_6 na1_6 ca1_6] (by kernel_rfl) rfl (by kernel_rfl) (fun g69 => ?_)
  refine LL.box 35 (.tmp 2) [.string a2_0, .int .i64 a2_1, .int .i64 a2_2, .int .i64 a2_3, .int .i64 a2_4, .int .i64 a2_5, .int .i64 a2_6, .int .i64 a2_7, .int .i64 a2_8, .int .i64 a2_9, .int .i64 a2_10, .int .i64 a2_11, .int .i64 a2_12] (by kernel_rfl) rfl (by kernel_rfl) (fun g70 => ?_)
  refine LL.op (.bool false) (by kernel_rfl) (fun w _ => by kernel_rfl) ?_
  refine LL.done (s' := [(3, .pointer (some ⟨g68, 0, none⟩)), (4, .pointer (some ⟨g69, 0, none⟩)), (5, .pointer (some ⟨g70, 0, none⟩)), (6, .bool false)]) [3, 4, 5, 6] (by kernel_rfl) ?_
  refine NN.then ?_
  refine J.seq ?_
  refine J.plain ?_
  refine LL.op (.agg #[.string a0_0, .string a0_1, .string a0_2, .int .i64 a0_3, .int .i64 a0_4, .int .i64 a0_5, .int .i64 a0_6, .int .i64 a0_7, .int .i64 a0_8, .int .i64 a0_9, .int .i64 a0_10, .slice Aa0_11 na0_11 ca0_11, .int .i64 a0_12, .int .i64 a0_13, .int .i64 a0_14, .int .i64 a0_15, .bool a0_16, .int .i64 a0_17]) (by kernel_rfl) (ld 2 g68 0 rfl (by kernel_rfl) rfl (by kernel_rfl)) ?_
  refine LL.op (.agg #[.string a2_0, .int .i64 a2_1, .int .i64 a2_2, .int .i64 a2_3, .int .i64 a2_4, .int .i64 a2_5, .int .i64 a2_6, .int .i64 a2_7, .int .i64 a2_8, .int .i64 a2_9, .int .i64 a2_10, .int .i64 a2_11, .int .i64 a2_12]) (by kernel_rfl) (ld 0 g70 0 rfl (by kernel_rfl) rfl (by kernel_rfl)) ?_
  obtain ⟨⟨x71_1, x71_2⟩, hx71, H⟩ := bind_some H
  (try dsimp only at H)
  refine LL.call 9 #[.agg #[.string a0_0, .string a0_1, .string a0_2, .int .i64 a0_3, .int .i64 a0_4, .int .i64 a0_5, .int .i64 a0_6, .int .i64 a0_7, .int .i64 a0_8, .int .i64 a0_9, .int .i64 a0_10, .slice Aa0_11 na0_11 ca0_11, .int .i64 a0_12, .int .i64 a0_13, .int .i64 a0_14, .int .i64 a0_15, .bool a0_16, .int .i64 a0_17], .agg #[.string a2_0, .int .i64 a2_1, .int .i64 a2_2, .int .i64 a2_3, .int .i64 a2_4, .int .i64 a2_5, .int .i64 a2_6, .int .i64 a2_7, .int .i64 a2_8, .int .i64 a2_9, .int .i64 a2_10, .int .i64 a2_11, .int .i64 a2_12]] (.tuple #[.int .i64 x71_1, .int .i64 x71_2]) (by kernel_rfl) (fun w => by kernel_rfl) (fun w hw => sizing_Dried.calls a0_0 a0_1 a0_2 a0_3 a0_4 a0_5 a0_6 a0_7 a0_8 a0_9 a0_10 a0_12 a0_13 a0_14 a0_15 a0_16 a0_17 a2_0 a2_1 a2_2 a2_3 a2_4 a2_5 a2_6 a2_7 a2_8 a2_9 a2_10 a2_11 a2_12  _ _ _ _ _ w   hx71) ?_
  refine LL.op (.tuple #[.int .i64 x71_1, .int .i64 x71_2]) (by kernel_rfl) (fun w _ => by kernel_rfl) ?_
  refine LL.op (.int .i64 x71_1) (by kernel_rfl) (fun w _ => by kernel_rfl) ?_
  refine LL.op (.int .i64 x71_2) (by kernel_rfl) (fun w _ => by kernel_rfl) ?_
  refine LL.op (.int .i64 x71_1) (by kernel_rfl) (fun w _ => by kernel_rfl) ?_
  refine LL.op (.int .i64 x71_2) (by kernel_rfl) (fun w _ => by kernel_rfl) ?_
  refine LL.done (s' := [(4, .pointer (some ⟨g69, 0, none⟩)), (6, .bool false), (7, .int .i64 x71_1), (8, .int .i64 x71_2)]) [4, 6, 7, 8] (by kernel_rfl) ?_
  refine NN.then ?_
  refine J.seq ?_
  refine J.plain ?_
  refine LL.op (.int .i64 x71_1) (by kernel_rfl) (fun w _ => by kernel_rfl) ?_
  refine LL.op (.pointer (some ⟨g69, 1, none⟩)) (by kernel_rfl) (fun w _ => by kernel_rfl) ?_
  refine LL.op (.int .i64 a1_1) (by kernel_rfl) (ld 1 g69 1 rfl (by kernel_rfl) rfl (by kernel_rfl)) ?_
  refine LL.op (.bool (decide (x71_1 < a1_1))) (by kernel_rfl) (fun w _ => by kernel_rfl) ?_
  refine LL.op (.bool (decide (x71_1 < a1_1))) (by kernel_rfl) (fun w _ => by kernel_rfl) ?_
  rcases Bool.eq_false_or_eq_true (decide (x71_1 < a1_1)) with c72 | c72
  · rw [if_pos (of_decide_eq_true c72)] at H
    refine LL.bool 19 (decide (x71_1 < a1_1)) true c72 (by kernel_rfl) ?_
    refine LL.off (by kernel_rfl) (by kernel_rfl) ?_
    refine LL.off (by kernel_rfl) (by kernel_rfl) ?_
    refine LL.off (by kernel_rfl) (by kernel_rfl) ?_
    refine LL.off (by kernel_rfl) (by kernel_rfl) ?_
    refine LL.op (.bool true) (by kernel_rfl) (fun w _ => by kernel_rfl) ?_
    refine LL.op (.bool true) (by kernel_rfl) (fun w _ => by kernel_rfl) ?_
    refine LL.done (s' := [(6, .bool true)]) [6] (by kernel_rfl) ?_
    refine NN.then ?_
    refine J.ret ?_
    refine NN.fin1 6 (.bool true) (by kernel_rfl) (by kernel_rfl) (.inl rfl) (fun w hi => hi.ret ?_)
    first | (cases H; rfl) | (obtain rfl := Option.some.inj H; rfl) | (simp only [Option.some.injEq, Prod.mk.injEq] at H; obtain ⟨rfl⟩ := H; rfl)
  · rw [if_neg (of_decide_eq_false c72)] at H
    refine LL.bool 19 (decide (x71_1 < a1_1)) false c72 (by kernel_rfl) ?_
    refine LL.op (.int .i64 x71_2) (by kernel_rfl) (fun w _ => by kernel_rfl) ?_
    refine LL.op (.pointer (some ⟨g69, 2, none⟩)) (by kernel_rfl) (fun w _ => by kernel_rfl) ?_
    refine LL.op (.int .i64 a1_2) (by kernel_rfl) (ld 1 g69 2 rfl (by kernel_rfl) rfl (by kernel_rfl)) ?_
    refine LL.op (.bool (decide (x71_2 < a1_2))) (by kernel_rfl) (fun w _ => by kernel_rfl) ?_
    refine LL.op (.bool (decide (x71_2 < a1_2))) (by kernel_rfl) (fun w _ => by kernel_rfl) ?_
    refine LL.op (.bool (decide (x71_2 < a1_2))) (by kernel_rfl) (fun w _ => by kernel_rfl) ?_
    refine LL.done (s' := [(6, .bool (decide (x71_2 < a1_2)))]) [6] (by kernel_rfl) ?_
    refine NN.then ?_
    refine J.ret ?_
    refine NN.fin1 6 (.bool (decide (x71_2 < a1_2))) (by kernel_rfl) (by kernel_rfl) (.inl rfl) (fun w hi => hi.ret ?_)
    first | (cases H; rfl) | (obtain rfl := Option.some.inj H; rfl) | (simp only [Option.some.injEq, Prod.mk.injEq] at H; obtain ⟨rfl⟩ := H; rfl)

/-! ### sawmillref39_Under: function 12 -/
def sawmillref39_Under.f (a0_0 : ByteArray) (a0_1 : ByteArray) (a0_2 : ByteArray) (a0_3 : Int) (a0_4 : Int) (a0_5 : Int) (a0_6 : Int) (a0_7 : Int) (a0_8 : Int) (a0_9 : Int) (a0_10 : Int) (a0_12 : Int) (a0_13 : Int) (a0_14 : Int) (a0_15 : Int) (a0_16 : Bool) (a0_17 : Int) (a1_0 : ByteArray) (a1_1 : Int) (a1_2 : Int) (a1_3 : Int) (a1_4 : Int) (a2_0 : ByteArray) (a2_1 : Int) (a2_2 : Int) (a2_3 : Int) (a2_4 : Int) (a2_5 : Int) (a2_6 : Int) (a2_7 : Int) (a2_8 : Int) (a2_9 : Int) (a2_10 : Int) (a2_11 : Int) (a2_12 : Int) : Option (Bool) := (sawmillref39_Dried.f a0_0 a0_1 a0_2 a0_3 a0_4 a0_5 a0_6 a0_7 a0_8 a0_9 a0_10 a0_12 a0_13 a0_14 a0_15 a0_16 a0_17 a2_0 a2_1 a2_2 a2_3 a2_4 a2_5 a2_6 a2_7 a2_8 a2_9 a2_10 a2_11 a2_12).bind fun bx76 => (if bx76.1 < a1_1 then (some true) else (some (decide (bx76.2 < a1_2))))
set_option maxRecDepth 100000 in
theorem sawmillref39_Under.calls (a0_0 : ByteArray) (a0_1 : ByteArray) (a0_2 : ByteArray) (a0_3 : Int) (a0_4 : Int) (a0_5 : Int) (a0_6 : Int) (a0_7 : Int) (a0_8 : Int) (a0_9 : Int) (a0_10 : Int) (a0_12 : Int) (a0_13 : Int) (a0_14 : Int) (a0_15 : Int) (a0_16 : Bool) (a0_17 : Int) (a1_0 : ByteArray) (a1_1 : Int) (a1_2 : Int) (a1_3 : Int) (a1_4 : Int) (a2_0 : ByteArray) (a2_1 : Int) (a2_2 : Int) (a2_3 : Int) (a2_4 : Int) (a2_5 : Int) (a2_6 : Int) (a2_7 : Int) (a2_8 : Int) (a2_9 : Int) (a2_10 : Int) (a2_11 : Int) (a2_12 : Int)  (Aa0_11 : Option Addr) (na0_11 ca0_11 : Nat) (Aa1_5 : Option Addr) (na1_5 ca1_5 : Nat) (Aa1_6 : Option Addr) (na1_6 ca1_6 : Nat) (r1 : Bool) (w : World)   (h : sawmillref39_Under.f a0_0 a0_1 a0_2 a0_3 a0_4 a0_5 a0_6 a0_7 a0_8 a0_9 a0_10 a0_12 a0_13 a0_14 a0_15 a0_16 a0_17 a1_0 a1_1 a1_2 a1_3 a1_4 a2_0 a2_1 a2_2 a2_3 a2_4 a2_5 a2_6 a2_7 a2_8 a2_9 a2_10 a2_11 a2_12 = some r1) :
    Calls Try.prog 12 #[.agg #[.string a0_0, .string a0_1, .string a0_2, .int .i64 a0_3, .int .i64 a0_4, .int .i64 a0_5, .int .i64 a0_6, .int .i64 a0_7, .int .i64 a0_8, .int .i64 a0_9, .int .i64 a0_10, .slice Aa0_11 na0_11 ca0_11, .int .i64 a0_12, .int .i64 a0_13, .int .i64 a0_14, .int .i64 a0_15, .bool a0_16, .int .i64 a0_17], .agg #[.string a1_0, .int .i64 a1_1, .int .i64 a1_2, .int .i64 a1_3, .int .i64 a1_4, .slice Aa1_5 na1_5 ca1_5, .slice Aa1_6 na1_6 ca1_6], .agg #[.string a2_0, .int .i64 a2_1, .int .i64 a2_2, .int .i64 a2_3, .int .i64 a2_4, .int .i64 a2_5, .int .i64 a2_6, .int .i64 a2_7, .int .i64 a2_8, .int .i64 a2_9, .int .i64 a2_10, .int .i64 a2_11, .int .i64 a2_12]] w (Ret w (.bool r1)) := by
  have H := h
  clear h
  unfold sawmillref39_Under.f at H
  refine Go.Saw.calls (args := [.agg #[.string a0_0, .string a0_1, .string a0_2, .int .i64 a0_3, .int .i64 a0_4, .int .i64 a0_5, .int .i64 a0_6, .int .i64 a0_7, .int .i64 a0_8, .int .i64 a0_9, .int .i64 a0_10, .slice Aa0_11 na0_11 ca0_11, .int .i64 a0_12, .int .i64 a0_13, .int .i64 a0_14, .int .i64 a0_15, .bool a0_16, .int .i64 a0_17], .agg #[.string a1_0, .int .i64 a1_1, .int .i64 a1_2, .int .i64 a1_3, .int .i64 a1_4, .slice Aa1_5 na1_5 ca1_5, .slice Aa1_6 na1_6 ca1_6], .agg #[.string a2_0, .int .i64 a2_1, .int .i64 a2_2, .int .i64 a2_3, .int .i64 a2_4, .int .i64 a2_5, .int .i64 a2_6, .int .i64 a2_7, .int .i64 a2_8, .int .i64 a2_9, .int .i64 a2_10, .int .i64 a2_11, .int .i64 a2_12]]) Try.func12 rfl Try.ntmps12 (by kernel_rfl) ?_
  refine J.seq ?_
  refine J.plain ?_
  refine LL.box 30 (.tmp 0) [.string a0_0, .string a0_1, .string a0_2, .int .i64 a0_3, .int .i64 a0_4, .int .i64 a0_5, .int .i64 a0_6, .int .i64 a0_7, .int .i64 a0_8, .int .i64 a0_9, .int .i64 a0_10, .slice Aa0_11 na0_11 ca0_11, .int .i64 a0_12, .int .i64 a0_13, .int .i64 a0_14, .int .i64 a0_15, .bool a0_16, .int .i64 a0_17] (by kernel_rfl) rfl (by kernel_rfl) (fun g73 => ?_)
  refine LL.box 33 (.tmp 1) [.string a1_0, .int .i64 a1_1, .int .i64 a1_2, .int .i64 a1_3, .int .i64 a1_4, .slice Aa1_5 na1_5 ca1_5, .slice Aa1_6 na1_6 ca1_6] (by kernel_rfl) rfl (by kernel_rfl) (fun g74 => ?_)
  refine LL.box 35 (.tmp 2) [.string a2_0, .int .i64 a2_1, .int .i64 a2_2, .int .i64 a2_3, .int .i64 a2_4, .int .i64 a2_5, .int .i64 a2_6, .int .i64 a2_7, .int .i64 a2_8, .int .i64 a2_9, .int .i64 a2_10, .int .i64 a2_11, .int .i64 a2_12] (by kernel_rfl) rfl (by kernel_rfl) (fun g75 => ?_)
  refine LL.op (.bool false) (by kernel_rfl) (fun w _ => by kernel_rfl) ?_
  refine LL.done (s' := [(3, .pointer (some ⟨g73, 0, none⟩)), (4, .pointer (some ⟨g74, 0, none⟩)), (5, .pointer (some ⟨g75, 0, none⟩)), (6, .bool false)]) [3, 4, 5, 6] (by kernel_rfl) ?_
  refine NN.then ?_
  refine J.seq ?_
  refine J.plain ?_
  refine LL.op (.agg #[.string a0_0, .string a0_1, .string a0_2, .int .i64 a0_3, .int .i64 a0_4, .int .i64 a0_5, .int .i64 a0_6, .int .i64 a0_7, .int .i64 a0_8, .int .i64 a0_9, .int .i64 a0_10, .slice Aa0_11 na0_11 ca0_11, .int .i64 a0_12, .int .i64 a0_13, .int .i64 a0_14, .int .i64 a0_15, .bool a0_16, .int .i64 a0_17]) (by kernel_rfl) (ld 2 g73 0 rfl (by kernel_rfl) rfl (by kernel_rfl)) ?_
  refine LL.op (.agg #[.string a2_0, .int .i64 a2_1, .int .i64 a2_2, .int .i64 a2_3, .int .i64 a2_4, .int .i64 a2_5, .int .i64 a2_6, .int .i64 a2_7, .int .i64 a2_8, .int .i64 a2_9, .int .i64 a2_10, .int .i64 a2_11, .int .i64 a2_12]) (by kernel_rfl) (ld 0 g75 0 rfl (by kernel_rfl) rfl (by kernel_rfl)) ?_
  obtain ⟨⟨x76_1, x76_2⟩, hx76, H⟩ := bind_some H
  (try dsimp only at H)
  refine LL.call 10 #[.agg #[.string a0_0, .string a0_1, .string a0_2, .int .i64 a0_3, .int .i64 a0_4, .int .i64 a0_5, .int .i64 a0_6, .int .i64 a0_7, .int .i64 a0_8, .int .i64 a0_9, .int .i64 a0_10, .slice Aa0_11 na0_11 ca0_11, .int .i64 a0_12, .int .i64 a0_13, .int .i64 a0_14, .int .i64 a0_15, .bool a0_16, .int .i64 a0_17], .agg #[.string a2_0, .int .i64 a2_1, .int .i64 a2_2, .int .i64 a2_3, .int .i64 a2_4, .int .i64 a2_5, .int .i64 a2_6, .int .i64 a2_7, .int .i64 a2_8, .int .i64 a2_9, .int .i64 a2_10, .int .i64 a2_11, .int .i64 a2_12]] (.tuple #[.int .i64 x76_1, .int .i64 x76_2]) (by kernel_rfl) (fun w => by kernel_rfl) (fun w hw => sawmillref39_Dried.calls a0_0 a0_1 a0_2 a0_3 a0_4 a0_5 a0_6 a0_7 a0_8 a0_9 a0_10 a0_12 a0_13 a0_14 a0_15 a0_16 a0_17 a2_0 a2_1 a2_2 a2_3 a2_4 a2_5 a2_6 a2_7 a2_8 a2_9 a2_10 a2_11 a2_12  _ _ _ _ _ w   hx76) ?_
  refine LL.op (.tuple #[.int .i64 x76_1, .int .i64 x76_2]) (by kernel_rfl) (fun w _ => by kernel_rfl) ?_
  refine LL.op (.int .i64 x76_1) (by kernel_rfl) (fun w _ => by kernel_rfl) ?_
  refine LL.op (.int .i64 x76_2) (by kernel_rfl) (fun w _ => by kernel_rfl) ?_
  refine LL.op (.int .i64 x76_1) (by kernel_rfl) (fun w _ => by kernel_rfl) ?_
  refine LL.op (.int .i64 x76_2) (by kernel_rfl) (fun w _ => by kernel_rfl) ?_
  refine LL.done (s' := [(4, .pointer (some ⟨g74, 0, none⟩)), (6, .bool false), (7, .int .i64 x76_1), (8, .int .i64 x76_2)]) [4, 6, 7, 8] (by kernel_rfl) ?_
  refine NN.then ?_
  refine J.seq ?_
  refine J.plain ?_
  refine LL.op (.int .i64 x76_1) (by kernel_rfl) (fun w _ => by kernel_rfl) ?_
  refine LL.op (.pointer (some ⟨g74, 1, none⟩)) (by kernel_rfl) (fun w _ => by kernel_rfl) ?_
  refine LL.op (.int .i64 a1_1) (by kernel_rfl) (ld 1 g74 1 rfl (by kernel_rfl) rfl (by kernel_rfl)) ?_
  refine LL.op (.bool (decide (x76_1 < a1_1))) (by kernel_rfl) (fun w _ => by kernel_rfl) ?_
  refine LL.op (.bool (decide (x76_1 < a1_1))) (by kernel_rfl) (fun w _ => by kernel_rfl) ?_
  rcases Bool.eq_false_or_eq_true (decide (x76_1 < a1_1)) with c77 | c77
  · rw [if_pos (of_decide_eq_true c77)] at H
    refine LL.bool 19 (decide (x76_1 < a1_1)) true c77 (by kernel_rfl) ?_
    refine LL.off (by kernel_rfl) (by kernel_rfl) ?_
    refine LL.off (by kernel_rfl) (by kernel_rfl) ?_
    refine LL.off (by kernel_rfl) (by kernel_rfl) ?_
    refine LL.off (by kernel_rfl) (by kernel_rfl) ?_
    refine LL.op (.bool true) (by kernel_rfl) (fun w _ => by kernel_rfl) ?_
    refine LL.op (.bool true) (by kernel_rfl) (fun w _ => by kernel_rfl) ?_
    refine LL.done (s' := [(6, .bool true)]) [6] (by kernel_rfl) ?_
    refine NN.then ?_
    refine J.ret ?_
    refine NN.fin1 6 (.bool true) (by kernel_rfl) (by kernel_rfl) (.inl rfl) (fun w hi => hi.ret ?_)
    first | (cases H; rfl) | (obtain rfl := Option.some.inj H; rfl) | (simp only [Option.some.injEq, Prod.mk.injEq] at H; obtain ⟨rfl⟩ := H; rfl)
  · rw [if_neg (of_decide_eq_false c77)] at H
    refine LL.bool 19 (decide (x76_1 < a1_1)) false c77 (by kernel_rfl) ?_
    refine LL.op (.int .i64 x76_2) (by kernel_rfl) (fun w _ => by kernel_rfl) ?_
    refine LL.op (.pointer (some ⟨g74, 2, none⟩)) (by kernel_rfl) (fun w _ => by kernel_rfl) ?_
    refine LL.op (.int .i64 a1_2) (by kernel_rfl) (ld 1 g74 2 rfl (by kernel_rfl) rfl (by kernel_rfl)) ?_
    refine LL.op (.bool (decide (x76_2 < a1_2))) (by kernel_rfl) (fun w _ => by kernel_rfl) ?_
    refine LL.op (.bool (decide (x76_2 < a1_2))) (by kernel_rfl) (fun w _ => by kernel_rfl) ?_
    refine LL.op (.bool (decide (x76_2 < a1_2))) (by kernel_rfl) (fun w _ => by kernel_rfl) ?_
    refine LL.done (s' := [(6, .bool (decide (x76_2 < a1_2)))]) [6] (by kernel_rfl) ?_
    refine NN.then ?_
    refine J.ret ?_
    refine NN.fin1 6 (.bool (decide (x76_2 < a1_2))) (by kernel_rfl) (by kernel_rfl) (.inl rfl) (fun w hi => hi.ret ?_)
    first | (cases H; rfl) | (obtain rfl := Option.some.inj H; rfl) | (simp only [Option.some.injEq, Prod.mk.injEq] at H; obtain ⟨rfl⟩ := H; rfl)

/-! ### board_size: function 34 -/
def board_size.f (a0_0 : Int) (a0_1 : Int) : Option (Int) := some (IntKind.i64.wrap (a0_1 - a0_0))
set_option maxRecDepth 100000 in
theorem board_size.calls (a0_0 : Int) (a0_1 : Int)   (r1 : Int) (w : World)   (h : board_size.f a0_0 a0_1 = some r1) :
    Calls Try.prog 34 #[.agg #[.int .i64 a0_0, .int .i64 a0_1]] w (Ret w (.int .i64 r1)) := by
  have H := h
  clear h
  unfold board_size.f at H
  refine Go.Saw.calls (args := [.agg #[.int .i64 a0_0, .int .i64 a0_1]]) Try.func34 rfl Try.ntmps34 (by kernel_rfl) ?_
  refine J.seq ?_
  refine J.plain ?_
  refine LL.box 23 (.tmp 0) [.int .i64 a0_0, .int .i64 a0_1] (by kernel_rfl) rfl (by kernel_rfl) (fun g78 => ?_)
  refine LL.op (.int .i64 0) (by kernel_rfl) (fun w _ => by kernel_rfl) ?_
  refine LL.done (s' := [(1, .pointer (some ⟨g78, 0, none⟩)), (2, .int .i64 0)]) [1, 2] (by kernel_rfl) ?_
  refine NN.then ?_
  refine J.seq ?_
  refine J.plain ?_
  refine LL.op (.pointer (some ⟨g78, 1, none⟩)) (by kernel_rfl) (fun w _ => by kernel_rfl) ?_
  refine LL.op (.int .i64 a0_1) (by kernel_rfl) (ld 0 g78 1 rfl (by kernel_rfl) rfl (by kernel_rfl)) ?_
  refine LL.op (.pointer (some ⟨g78, 0, none⟩)) (by kernel_rfl) (fun w _ => by kernel_rfl) ?_
  refine LL.op (.int .i64 a0_0) (by kernel_rfl) (ld 0 g78 0 rfl (by kernel_rfl) rfl (by kernel_rfl)) ?_
  refine LL.op (.int .i64 (IntKind.i64.wrap (a0_1 - a0_0))) (by kernel_rfl) (fun w _ => by kernel_rfl) ?_
  refine LL.op (.int .i64 (IntKind.i64.wrap (a0_1 - a0_0))) (by kernel_rfl) (fun w _ => by kernel_rfl) ?_
  refine LL.done (s' := [(2, .int .i64 (IntKind.i64.wrap (a0_1 - a0_0)))]) [2] (by kernel_rfl) ?_
  refine NN.then ?_
  refine J.ret ?_
  refine NN.fin1 2 (.int .i64 (IntKind.i64.wrap (a0_1 - a0_0))) (by kernel_rfl) (by kernel_rfl) (.inl rfl) (fun w hi => hi.ret ?_)
  first | (cases H; rfl) | (obtain rfl := Option.some.inj H; rfl) | (simp only [Option.some.injEq, Prod.mk.injEq] at H; obtain ⟨rfl⟩ := H; rfl)

/-! ### board_Length: function 28 -/
def board_Length.f (a0_0 : ByteArray) (a0_1 : ByteArray) (a0_2 : ByteArray) (a0_3 : Int) (a0_4 : Int) (a0_5 : Int) (a0_6 : Int) (a0_7 : Int) (a0_8 : Int) (a0_9 : Int) (a0_10 : Int) (a0_12 : Int) (a0_13 : Int) (a0_14 : Int) (a0_15 : Int) (a0_16 : Bool) (a0_17 : Int) : Option (Int) := if a0_8 < 0 then (some 0) else (if a0_9 ≤ a0_8 then (some 0) else (if 20000 < a0_9 then (some 0) else ((board_size.f a0_8 a0_9).bind fun x84 => (some x84))))
set_option maxRecDepth 100000 in
theorem board_Length.calls (a0_0 : ByteArray) (a0_1 : ByteArray) (a0_2 : ByteArray) (a0_3 : Int) (a0_4 : Int) (a0_5 : Int) (a0_6 : Int) (a0_7 : Int) (a0_8 : Int) (a0_9 : Int) (a0_10 : Int) (a0_12 : Int) (a0_13 : Int) (a0_14 : Int) (a0_15 : Int) (a0_16 : Bool) (a0_17 : Int)  (Aa0_11 : Option Addr) (na0_11 ca0_11 : Nat) (r1 : Int) (w : World)   (h : board_Length.f a0_0 a0_1 a0_2 a0_3 a0_4 a0_5 a0_6 a0_7 a0_8 a0_9 a0_10 a0_12 a0_13 a0_14 a0_15 a0_16 a0_17 = some r1) :
    Calls Try.prog 28 #[.agg #[.string a0_0, .string a0_1, .string a0_2, .int .i64 a0_3, .int .i64 a0_4, .int .i64 a0_5, .int .i64 a0_6, .int .i64 a0_7, .int .i64 a0_8, .int .i64 a0_9, .int .i64 a0_10, .slice Aa0_11 na0_11 ca0_11, .int .i64 a0_12, .int .i64 a0_13, .int .i64 a0_14, .int .i64 a0_15, .bool a0_16, .int .i64 a0_17]] w (Ret w (.int .i64 r1)) := by
  have H := h
  clear h
  unfold board_Length.f at H
  refine Go.Saw.calls (args := [.agg #[.string a0_0, .string a0_1, .string a0_2, .int .i64 a0_3, .int .i64 a0_4, .int .i64 a0_5, .int .i64 a0_6, .int .i64 a0_7, .int .i64 a0_8, .int .i64 a0_9, .int .i64 a0_10, .slice Aa0_11 na0_11 ca0_11, .int .i64 a0_12, .int .i64 a0_13, .int .i64 a0_14, .int .i64 a0_15, .bool a0_16, .int .i64 a0_17]]) Try.func28 rfl Try.ntmps28 (by kernel_rfl) ?_
  refine J.seq ?_
  refine J.plain ?_
  refine LL.box 30 (.tmp 0) [.string a0_0, .string a0_1, .string a0_2, .int .i64 a0_3, .int .i64 a0_4, .int .i64 a0_5, .int .i64 a0_6, .int .i64 a0_7, .int .i64 a0_8, .int .i64 a0_9, .int .i64 a0_10, .slice Aa0_11 na0_11 ca0_11, .int .i64 a0_12, .int .i64 a0_13, .int .i64 a0_14, .int .i64 a0_15, .bool a0_16, .int .i64 a0_17] (by kernel_rfl) rfl (by kernel_rfl) (fun g79 => ?_)
  refine LL.op (.int .i64 0) (by kernel_rfl) (fun w _ => by kernel_rfl) ?_
  refine LL.done (s' := [(1, .pointer (some ⟨g79, 0, none⟩)), (2, .int .i64 0)]) [1, 2] (by kernel_rfl) ?_
  refine NN.then ?_
  refine J.seq ?_
  refine J.plain ?_
  refine LL.op (.pointer (some ⟨g79, 4, none⟩)) (by kernel_rfl) (fun w _ => by kernel_rfl) ?_
  refine LL.op (.pointer (some ⟨g79, 8, none⟩)) (by kernel_rfl) (fun w _ => by kernel_rfl) ?_
  refine LL.op (.agg #[.int .i64 a0_8, .int .i64 a0_9]) (by kernel_rfl) (ld 0 g79 8 rfl (by kernel_rfl) rfl (by kernel_rfl)) ?_
  refine LL.alloc 23 [.int .i64 0, .int .i64 0] (by kernel_rfl) rfl (by kernel_rfl) (fun g80 => ?_)
  refine LL.store 0 g80 0 23 (.tmp 3) (.tmp 6) [.int .i64 a0_8, .int .i64 a0_9] (bs' := [(g80, cl [.int .i64 a0_8, .int .i64 a0_9] 23), (g79, cl [.string a0_0, .string a0_1, .string a0_2, .int .i64 a0_3, .int .i64 a0_4, .int .i64 a0_5, .int .i64 a0_6, .int .i64 a0_7, .int .i64 a0_8, .int .i64 a0_9, .int .i64 a0_10, .slice Aa0_11 na0_11 ca0_11, .int .i64 a0_12, .int .i64 a0_13, .int .i64 a0_14, .int .i64 a0_15, .bool a0_16, .int .i64 a0_17] 30)]) rfl (by kernel_rfl) rfl (by kernel_rfl) rfl (by kernel_rfl) ?_
  refine LL.done (s' := [(2, .int .i64 0), (3, .pointer (some ⟨g80, 0, none⟩))]) [2, 3] (by kernel_rfl) ?_
  refine NN.then ?_
  refine J.seq ?_
  refine J.seq ?_
  refine J.plain ?_
  refine LL.op (.pointer (some ⟨g80, 0, none⟩)) (by kernel_rfl) (fun w _ => by kernel_rfl) ?_
  refine LL.op (.int .i64 a0_8) (by kernel_rfl) (ld 0 g80 0 rfl (by kernel_rfl) rfl (by kernel_rfl)) ?_
  refine LL.op (.bool (decide (a0_8 < 0))) (by kernel_rfl) (fun w _ => by kernel_rfl) ?_
  refine LL.op (.bool (decide (a0_8 < 0))) (by kernel_rfl) (fun w _ => by kernel_rfl) ?_
  rcases Bool.eq_false_or_eq_true (decide (a0_8 < 0)) with c81 | c81
  · rw [if_pos (of_decide_eq_true c81)] at H
    refine LL.bool 10 (decide (a0_8 < 0)) true c81 (by kernel_rfl) ?_
    refine LL.off (by kernel_rfl) (by kernel_rfl) ?_
    refine LL.off (by kernel_rfl) (by kernel_rfl) ?_
    refine LL.off (by kernel_rfl) (by kernel_rfl) ?_
    refine LL.off (by kernel_rfl) (by kernel_rfl) ?_
    refine LL.off (by kernel_rfl) (by kernel_rfl) ?_
    refine LL.op (.bool true) (by kernel_rfl) (fun w _ => by kernel_rfl) ?_
    refine LL.op (.bool true) (by kernel_rfl) (fun w _ => by kernel_rfl) ?_
    refine LL.off (by kernel_rfl) (by kernel_rfl) ?_
    refine LL.off (by kernel_rfl) (by kernel_rfl) ?_
    refine LL.off (by kernel_rfl) (by kernel_rfl) ?_
    refine LL.op (.bool true) (by kernel_rfl) (fun w _ => by kernel_rfl) ?_
    refine LL.done (s' := [(2, .int .i64 0), (3, .pointer (some ⟨g80, 0, none⟩)), (21, .bool true)]) [2, 3, 21] (by kernel_rfl) ?_
    refine NN.then ?_
    refine J.condT (b := true) rfl (by kernel_rfl) (by kernel_rfl) ?_
    refine J.seq ?_
    refine J.plain ?_
    refine LL.op (.int .i64 0) (by kernel_rfl) (fun w _ => by kernel_rfl) ?_
    refine LL.done (s' := [(2, .int .i64 0), (3, .pointer (some ⟨g80, 0, none⟩))]) [2, 3] (by kernel_rfl) ?_
    refine NN.then ?_
    refine J.ret ?_
    refine NN.then_ret ?_
    refine NN.fin1 2 (.int .i64 0) (by kernel_rfl) (by kernel_rfl) (.inl rfl) (fun w hi => hi.ret ?_)
    first | (cases H; rfl) | (obtain rfl := Option.some.inj H; rfl) | (simp only [Option.some.injEq, Prod.mk.injEq] at H; obtain ⟨rfl⟩ := H; rfl)
  · rw [if_neg (of_decide_eq_false c81)] at H
    refine LL.bool 10 (decide (a0_8 < 0)) false c81 (by kernel_rfl) ?_
    refine LL.op (.pointer (some ⟨g80, 0, none⟩)) (by kernel_rfl) (fun w _ => by kernel_rfl) ?_
    refine LL.op (.int .i64 a0_8) (by kernel_rfl) (ld 0 g80 0 rfl (by kernel_rfl) rfl (by kernel_rfl)) ?_
    refine LL.op (.pointer (some ⟨g80, 1, none⟩)) (by kernel_rfl) (fun w _ => by kernel_rfl) ?_
    refine LL.op (.int .i64 a0_9) (by kernel_rfl) (ld 0 g80 1 rfl (by kernel_rfl) rfl (by kernel_rfl)) ?_
    refine LL.op (.bool (decide (a0_9 ≤ a0_8))) (by kernel_rfl) (fun w _ => by kernel_rfl) ?_
    refine LL.op (.bool (decide (a0_9 ≤ a0_8))) (by kernel_rfl) (fun w _ => by kernel_rfl) ?_
    refine LL.op (.bool (decide (a0_9 ≤ a0_8))) (by kernel_rfl) (fun w _ => by kernel_rfl) ?_
    rcases Bool.eq_false_or_eq_true (decide (a0_9 ≤ a0_8)) with c82 | c82
    · rw [if_pos (of_decide_eq_true c82)] at H
      refine LL.bool 17 (decide (a0_9 ≤ a0_8)) true c82 (by kernel_rfl) ?_
      refine LL.off (by kernel_rfl) (by kernel_rfl) ?_
      refine LL.off (by kernel_rfl) (by kernel_rfl) ?_
      refine LL.off (by kernel_rfl) (by kernel_rfl) ?_
      refine LL.op (.bool true) (by kernel_rfl) (fun w _ => by kernel_rfl) ?_
      refine LL.done (s' := [(2, .int .i64 0), (3, .pointer (some ⟨g80, 0, none⟩)), (21, .bool true)]) [2, 3, 21] (by kernel_rfl) ?_
      refine NN.then ?_
      refine J.condT (b := true) rfl (by kernel_rfl) (by kernel_rfl) ?_
      refine J.seq ?_
      refine J.plain ?_
      refine LL.op (.int .i64 0) (by kernel_rfl) (fun w _ => by kernel_rfl) ?_
      refine LL.done (s' := [(2, .int .i64 0), (3, .pointer (some ⟨g80, 0, none⟩))]) [2, 3] (by kernel_rfl) ?_
      refine NN.then ?_
      refine J.ret ?_
      refine NN.then_ret ?_
      refine NN.fin1 2 (.int .i64 0) (by kernel_rfl) (by kernel_rfl) (.inl rfl) (fun w hi => hi.ret ?_)
      first | (cases H; rfl) | (obtain rfl := Option.some.inj H; rfl) | (simp only [Option.some.injEq, Prod.mk.injEq] at H; obtain ⟨rfl⟩ := H; rfl)
    · rw [if_neg (of_decide_eq_false c82)] at H
      refine LL.bool 17 (decide (a0_9 ≤ a0_8)) false c82 (by kernel_rfl) ?_
      refine LL.op (.pointer (some ⟨g80, 1, none⟩)) (by kernel_rfl) (fun w _ => by kernel_rfl) ?_
      refine LL.op (.int .i64 a0_9) (by kernel_rfl) (ld 0 g80 1 rfl (by kernel_rfl) rfl (by kernel_rfl)) ?_
      refine LL.op (.bool (decide (20000 < a0_9))) (by kernel_rfl) (fun w _ => by kernel_rfl) ?_
      refine LL.op (.bool (decide (20000 < a0_9))) (by kernel_rfl) (fun w _ => by kernel_rfl) ?_
      refine LL.done (s' := [(2, .int .i64 0), (3, .pointer (some ⟨g80, 0, none⟩)), (21, .bool (decide (20000 < a0_9)))]) [2, 3, 21] (by kernel_rfl) ?_
      refine NN.then ?_
      rcases Bool.eq_false_or_eq_true (decide (20000 < a0_9)) with c83 | c83
      · rw [if_pos (of_decide_eq_true c83)] at H
        refine J.condT (b := decide (20000 < a0_9)) c83 (by kernel_rfl) (by kernel_rfl) ?_
        refine J.seq ?_
        refine J.plain ?_
        refine LL.op (.int .i64 0) (by kernel_rfl) (fun w _ => by kernel_rfl) ?_
        refine LL.done (s' := [(2, .int .i64 0), (3, .pointer (some ⟨g80, 0, none⟩))]) [2, 3] (by kernel_rfl) ?_
        refine NN.then ?_
        refine J.ret ?_
        refine NN.then_ret ?_
        refine NN.fin1 2 (.int .i64 0) (by kernel_rfl) (by kernel_rfl) (.inl rfl) (fun w hi => hi.ret ?_)
        first | (cases H; rfl) | (obtain rfl := Option.some.inj H; rfl) | (simp only [Option.some.injEq, Prod.mk.injEq] at H; obtain ⟨rfl⟩ := H; rfl)
      · rw [if_neg (of_decide_eq_false c83)] at H
        refine J.condF (b := decide (20000 < a0_9)) c83 (by kernel_rfl) (by kernel_rfl) ?_
        refine J.skip ?_
        refine NN.then ?_
        refine J.seq ?_
        refine J.plain ?_
        refine LL.op (.agg #[.int .i64 a0_8, .int .i64 a0_9]) (by kernel_rfl) (ld 0 g80 0 rfl (by kernel_rfl) rfl (by kernel_rfl)) ?_
        obtain ⟨x84, hx84, H⟩ := bind_some H
        refine LL.call 34 #[.agg #[.int .i64 a0_8, .int .i64 a0_9]] (.int .i64 x84) (by kernel_rfl) (fun w => by kernel_rfl) (fun w hw => board_size.calls a0_8 a0_9   _ w   hx84) ?_
        refine LL.op (.int .i64 x84) (by kernel_rfl) (fun w _ => by kernel_rfl) ?_
        refine LL.done (s' := [(2, .int .i64 x84)]) [2] (by kernel_rfl) ?_
        refine NN.then ?_
        refine J.ret ?_
        refine NN.fin1 2 (.int .i64 x84) (by kernel_rfl) (by kernel_rfl) (.inl rfl) (fun w hi => hi.ret ?_)
        first | (cases H; rfl) | (obtain rfl := Option.some.inj H; rfl) | (simp only [Option.some.injEq, Prod.mk.injEq] at H; obtain ⟨rfl⟩ := H; rfl)

/-! ### sizing_Volume: function 13 -/
def sizing_Volume.f (a0_0 : ByteArray) (a0_1 : ByteArray) (a0_2 : ByteArray) (a0_3 : Int) (a0_4 : Int) (a0_5 : Int) (a0_6 : Int) (a0_7 : Int) (a0_8 : Int) (a0_9 : Int) (a0_10 : Int) (a0_12 : Int) (a0_13 : Int) (a0_14 : Int) (a0_15 : Int) (a0_16 : Bool) (a0_17 : Int) (a1_0 : ByteArray) (a1_1 : Int) (a1_2 : Int) (a1_3 : Int) (a1_4 : Int) (a1_5 : Int) (a1_6 : Int) (a1_7 : Int) (a1_8 : Int) (a1_9 : Int) (a1_10 : Int) (a1_11 : Int) (a1_12 : Int) : Option (Int) := (sizing_Dried.f a0_0 a0_1 a0_2 a0_3 a0_4 a0_5 a0_6 a0_7 a0_8 a0_9 a0_10 a0_12 a0_13 a0_14 a0_15 a0_16 a0_17 a1_0 a1_1 a1_2 a1_3 a1_4 a1_5 a1_6 a1_7 a1_8 a1_9 a1_10 a1_11 a1_12).bind fun bx87 => ((board_Length.f a0_0 a0_1 a0_2 a0_3 a0_4 a0_5 a0_6 a0_7 a0_8 a0_9 a0_10 a0_12 a0_13 a0_14 a0_15 a0_16 a0_17).bind fun x88 => (some (IntKind.i64.wrap ((IntKind.i64.wrap (bx87.1 * bx87.2)) * x88))))
set_option maxRecDepth 100000 in
theorem sizing_Volume.calls (a0_0 : ByteArray) (a0_1 : ByteArray) (a0_2 : ByteArray) (a0_3 : Int) (a0_4 : Int) (a0_5 : Int) (a0_6 : Int) (a0_7 : Int) (a0_8 : Int) (a0_9 : Int) (a0_10 : Int) (a0_12 : Int) (a0_13 : Int) (a0_14 : Int) (a0_15 : Int) (a0_16 : Bool) (a0_17 : Int) (a1_0 : ByteArray) (a1_1 : Int) (a1_2 : Int) (a1_3 : Int) (a1_4 : Int) (a1_5 : Int) (a1_6 : Int) (a1_7 : Int) (a1_8 : Int) (a1_9 : Int) (a1_10 : Int) (a1_11 : Int) (a1_12 : Int)  (Aa0_11 : Option Addr) (na0_11 ca0_11 : Nat) (r1 : Int) (w : World)   (h : sizing_Volume.f a0_0 a0_1 a0_2 a0_3 a0_4 a0_5 a0_6 a0_7 a0_8 a0_9 a0_10 a0_12 a0_13 a0_14 a0_15 a0_16 a0_17 a1_0 a1_1 a1_2 a1_3 a1_4 a1_5 a1_6 a1_7 a1_8 a1_9 a1_10 a1_11 a1_12 = some r1) :
    Calls Try.prog 13 #[.agg #[.string a0_0, .string a0_1, .string a0_2, .int .i64 a0_3, .int .i64 a0_4, .int .i64 a0_5, .int .i64 a0_6, .int .i64 a0_7, .int .i64 a0_8, .int .i64 a0_9, .int .i64 a0_10, .slice Aa0_11 na0_11 ca0_11, .int .i64 a0_12, .int .i64 a0_13, .int .i64 a0_14, .int .i64 a0_15, .bool a0_16, .int .i64 a0_17], .agg #[.string a1_0, .int .i64 a1_1, .int .i64 a1_2, .int .i64 a1_3, .int .i64 a1_4, .int .i64 a1_5, .int .i64 a1_6, .int .i64 a1_7, .int .i64 a1_8, .int .i64 a1_9, .int .i64 a1_10, .int .i64 a1_11, .int .i64 a1_12]] w (Ret w (.int .i64 r1)) := by
  have H := h
  clear h
  unfold sizing_Volume.f at H
  refine Go.Saw.calls (args := [.agg #[.string a0_0, .string a0_1, .string a0_2, .int .i64 a0_3, .int .i64 a0_4, .int .i64 a0_5, .int .i64 a0_6, .int .i64 a0_7, .int .i64 a0_8, .int .i64 a0_9, .int .i64 a0_10, .slice Aa0_11 na0_11 ca0_11, .int .i64 a0_12, .int .i64 a0_13, .int .i64 a0_14, .int .i64 a0_15, .bool a0_16, .int .i64 a0_17], .agg #[.string a1_0, .int .i64 a1_1, .int .i64 a1_2, .int .i64 a1_3, .int .i64 a1_4, .int .i64 a1_5, .int .i64 a1_6, .int .i64 a1_7, .int .i64 a1_8, .int .i64 a1_9, .int .i64 a1_10, .int .i64 a1_11, .int .i64 a1_12]]) Try.func13 rfl Try.ntmps13 (by kernel_rfl) ?_
  refine J.seq ?_
  refine J.plain ?_
  refine LL.box 30 (.tmp 0) [.string a0_0, .string a0_1, .string a0_2, .int .i64 a0_3, .int .i64 a0_4, .int .i64 a0_5, .int .i64 a0_6, .int .i64 a0_7, .int .i64 a0_8, .int .i64 a0_9, .int .i64 a0_10, .slice Aa0_11 na0_11 ca0_11, .int .i64 a0_12, .int .i64 a0_13, .int .i64 a0_14, .int .i64 a0_15, .bool a0_16, .int .i64 a0_17] (by kernel_rfl) rfl (by kernel_rfl) (fun g85 => ?_)
  refine LL.box 35 (.tmp 1) [.string a1_0, .int .i64 a1_1, .int .i64 a1_2, .int .i64 a1_3, .int .i64 a1_4, .int .i64 a1_5, .int .i64 a1_6, .int .i64 a1_7, .int .i64 a1_8, .int .i64 a1_9, .int .i64 a1_10, .int .i64 a1_11, .int .i64 a1_12] (by kernel_rfl) rfl (by kernel_rfl) (fun g86 => ?_)
  refine LL.op (.int .i64 0) (by kernel_rfl) (fun w _ => by kernel_rfl) ?_
  refine LL.done (s' := [(2, .pointer (some ⟨g85, 0, none⟩)), (3, .pointer (some ⟨g86, 0, none⟩)), (4, .int .i64 0)]) [2, 3, 4] (by kernel_rfl) ?_
  refine NN.then ?_
  refine J.seq ?_
  refine J.plain ?_
  refine LL.op (.agg #[.string a0_0, .string a0_1, .string a0_2, .int .i64 a0_3, .int .i64 a0_4, .int .i64 a0_5, .int .i64 a0_6, .int .i64 a0_7, .int .i64 a0_8, .int .i64 a0_9, .int .i64 a0_10, .slice Aa0_11 na0_11 ca0_11, .int .i64 a0_12, .int .i64 a0_13, .int .i64 a0_14, .int .i64 a0_15, .bool a0_16, .int .i64 a0_17]) (by kernel_rfl) (ld 1 g85 0 rfl (by kernel_rfl) rfl (by kernel_rfl)) ?_
  refine LL.op (.agg #[.string a1_0, .int .i64 a1_1, .int .i64 a1_2, .int .i64 a1_3, .int .i64 a1_4, .int .i64 a1_5, .int .i64 a1_6, .int .i64 a1_7, .int .i64 a1_8, .int .i64 a1_9, .int .i64 a1_10, .int .i64 a1_11, .int .i64 a1_12]) (by kernel_rfl) (ld 0 g86 0 rfl (by kernel_rfl) rfl (by kernel_rfl)) ?_
  obtain ⟨⟨x87_1, x87_2⟩, hx87, H⟩ := bind_some H
  (try dsimp only at H)
  refine LL.call 9 #[.agg #[.string a0_0, .string a0_1, .string a0_2, .int .i64 a0_3, .int .i64 a0_4, .int .i64 a0_5, .int .i64 a0_6, .int .i64 a0_7, .int .i64 a0_8, .int .i64 a0_9, .int .i64 a0_10, .slice Aa0_11 na0_11 ca0_11, .int .i64 a0_12, .int .i64 a0_13, .int .i64 a0_14, .int .i64 a0_15, .bool a0_16, .int .i64 a0_17], .agg #[.string a1_0, .int .i64 a1_1, .int .i64 a1_2, .int .i64 a1_3, .int .i64 a1_4, .int .i64 a1_5, .int .i64 a1_6, .int .i64 a1_7, .int .i64 a1_8, .int .i64 a1_9, .int .i64 a1_10, .int .i64 a1_11, .int .i64 a1_12]] (.tuple #[.int .i64 x87_1, .int .i64 x87_2]) (by kernel_rfl) (fun w => by kernel_rfl) (fun w hw => sizing_Dried.calls a0_0 a0_1 a0_2 a0_3 a0_4 a0_5 a0_6 a0_7 a0_8 a0_9 a0_10 a0_12 a0_13 a0_14 a0_15 a0_16 a0_17 a1_0 a1_1 a1_2 a1_3 a1_4 a1_5 a1_6 a1_7 a1_8 a1_9 a1_10 a1_11 a1_12  _ _ _ _ _ w   hx87) ?_
  refine LL.op (.tuple #[.int .i64 x87_1, .int .i64 x87_2]) (by kernel_rfl) (fun w _ => by kernel_rfl) ?_
  refine LL.op (.int .i64 x87_1) (by kernel_rfl) (fun w _ => by kernel_rfl) ?_
  refine LL.op (.int .i64 x87_2) (by kernel_rfl) (fun w _ => by kernel_rfl) ?_
  refine LL.op (.int .i64 x87_1) (by kernel_rfl) (fun w _ => by kernel_rfl) ?_
  refine LL.op (.int .i64 x87_2) (by kernel_rfl) (fun w _ => by kernel_rfl) ?_
  refine LL.done (s' := [(2, .pointer (some ⟨g85, 0, none⟩)), (4, .int .i64 0), (5, .int .i64 x87_1), (6, .int .i64 x87_2)]) [2, 4, 5, 6] (by kernel_rfl) ?_
  refine NN.then ?_
  refine J.seq ?_
  refine J.plain ?_
  refine LL.op (.int .i64 x87_1) (by kernel_rfl) (fun w _ => by kernel_rfl) ?_
  refine LL.op (.int .i64 x87_2) (by kernel_rfl) (fun w _ => by kernel_rfl) ?_
  refine LL.op (.int .i64 (IntKind.i64.wrap (x87_1 * x87_2))) (by kernel_rfl) (fun w _ => by kernel_rfl) ?_
  refine LL.op (.agg #[.string a0_0, .string a0_1, .string a0_2, .int .i64 a0_3, .int .i64 a0_4, .int .i64 a0_5, .int .i64 a0_6, .int .i64 a0_7, .int .i64 a0_8, .int .i64 a0_9, .int .i64 a0_10, .slice Aa0_11 na0_11 ca0_11, .int .i64 a0_12, .int .i64 a0_13, .int .i64 a0_14, .int .i64 a0_15, .bool a0_16, .int .i64 a0_17]) (by kernel_rfl) (ld 1 g85 0 rfl (by kernel_rfl) rfl (by kernel_rfl)) ?_
  obtain ⟨x88, hx88, H⟩ := bind_some H
  refine LL.call 28 #[.agg #[.string a0_0, .string a0_1, .string a0_2, .int .i64 a0_3, .int .i64 a0_4, .int .i64 a0_5, .int .i64 a0_6, .int .i64 a0_7, .int .i64 a0_8, .int .i64 a0_9, .int .i64 a0_10, .slice Aa0_11 na0_11 ca0_11, .int .i64 a0_12, .int .i64 a0_13, .int .i64 a0_14, .int .i64 a0_15, .bool a0_16, .int .i64 a0_17]] (.int .i64 x88) (by kernel_rfl) (fun w => by kernel_rfl) (fun w hw => board_Length.calls a0_0 a0_1 a0_2 a0_3 a0_4 a0_5 a0_6 a0_7 a0_8 a0_9 a0_10 a0_12 a0_13 a0_14 a0_15 a0_16 a0_17  _ _ _ _ w   hx88) ?_
  refine LL.op (.int .i64 (IntKind.i64.wrap ((IntKind.i64.wrap (x87_1 * x87_2)) * x88))) (by kernel_rfl) (fun w _ => by kernel_rfl) ?_
  refine LL.op (.int .i64 (IntKind.i64.wrap ((IntKind.i64.wrap (x87_1 * x87_2)) * x88))) (by kernel_rfl) (fun w _ => by kernel_rfl) ?_
  refine LL.done (s' := [(4, .int .i64 (IntKind.i64.wrap ((IntKind.i64.wrap (x87_1 * x87_2)) * x88)))]) [4] (by kernel_rfl) ?_
  refine NN.then ?_
  refine J.ret ?_
  refine NN.fin1 4 (.int .i64 (IntKind.i64.wrap ((IntKind.i64.wrap (x87_1 * x87_2)) * x88))) (by kernel_rfl) (by kernel_rfl) (.inl rfl) (fun w hi => hi.ret ?_)
  first | (cases H; rfl) | (obtain rfl := Option.some.inj H; rfl) | (simp only [Option.some.injEq, Prod.mk.injEq] at H; obtain ⟨rfl⟩ := H; rfl)

/-! ### sawmillref30_length: function 40 -/
def sawmillref30_length.f (a0_0 : Int) (a0_1 : Int) : Option (Int) := some (IntKind.i64.wrap (a0_1 - a0_0))
set_option maxRecDepth 100000 in
theorem sawmillref30_length.calls (a0_0 : Int) (a0_1 : Int)   (r1 : Int) (w : World)   (h : sawmillref30_length.f a0_0 a0_1 = some r1) :
    Calls Try.prog 40 #[.agg #[.int .i64 a0_0, .int .i64 a0_1]] w (Ret w (.int .i64 r1)) := by
  have H := h
  clear h
  unfold sawmillref30_length.f at H
  refine Go.Saw.calls (args := [.agg #[.int .i64 a0_0, .int .i64 a0_1]]) Try.func40 rfl Try.ntmps40 (by kernel_rfl) ?_
  refine J.seq ?_
  refine J.plain ?_
  refine LL.box 23 (.tmp 0) [.int .i64 a0_0, .int .i64 a0_1] (by kernel_rfl) rfl (by kernel_rfl) (fun g89 => ?_)
  refine LL.op (.int .i64 0) (by kernel_rfl) (fun w _ => by kernel_rfl) ?_
  refine LL.done (s' := [(1, .pointer (some ⟨g89, 0, none⟩)), (2, .int .i64 0)]) [1, 2] (by kernel_rfl) ?_
  refine NN.then ?_
  refine J.seq ?_
  refine J.plain ?_
  refine LL.op (.pointer (some ⟨g89, 1, none⟩)) (by kernel_rfl) (fun w _ => by kernel_rfl) ?_
  refine LL.op (.int .i64 a0_1) (by kernel_rfl) (ld 0 g89 1 rfl (by kernel_rfl) rfl (by kernel_rfl)) ?_
  refine LL.op (.pointer (some ⟨g89, 0, none⟩)) (by kernel_rfl) (fun w _ => by kernel_rfl) ?_
  refine LL.op (.int .i64 a0_0) (by kernel_rfl) (ld 0 g89 0 rfl (by kernel_rfl) rfl (by kernel_rfl)) ?_
  refine LL.op (.int .i64 (IntKind.i64.wrap (a0_1 - a0_0))) (by kernel_rfl) (fun w _ => by kernel_rfl) ?_
  refine LL.op (.int .i64 (IntKind.i64.wrap (a0_1 - a0_0))) (by kernel_rfl) (fun w _ => by kernel_rfl) ?_
  refine LL.done (s' := [(2, .int .i64 (IntKind.i64.wrap (a0_1 - a0_0)))]) [2] (by kernel_rfl) ?_
  refine NN.then ?_
  refine J.ret ?_
  refine NN.fin1 2 (.int .i64 (IntKind.i64.wrap (a0_1 - a0_0))) (by kernel_rfl) (by kernel_rfl) (.inl rfl) (fun w hi => hi.ret ?_)
  first | (cases H; rfl) | (obtain rfl := Option.some.inj H; rfl) | (simp only [Option.some.injEq, Prod.mk.injEq] at H; obtain ⟨rfl⟩ := H; rfl)

/-! ### sawmillref30_within: function 39 -/
def sawmillref30_within.f (a0_0 : Int) (a0_1 : Int) (a1 : Int) (a2 : Int) : Option (Bool) := if a1 ≤ a0_0 then (if a0_0 ≤ a2 then (if a1 ≤ a0_1 then (some (decide (a0_1 ≤ a2))) else (some false)) else (some false)) else (some false)
set_option maxRecDepth 100000 in
theorem sawmillref30_within.calls (a0_0 : Int) (a0_1 : Int) (a1 : Int) (a2 : Int)   (r1 : Bool) (w : World)   (h : sawmillref30_within.f a0_0 a0_1 a1 a2 = some r1) :
    Calls Try.prog 39 #[.agg #[.int .i64 a0_0, .int .i64 a0_1], .int .i64 a1, .int .i64 a2] w (Ret w (.bool r1)) := by
  have H := h
  clear h
  unfold sawmillref30_within.f at H
  refine Go.Saw.calls (args := [.agg #[.int .i64 a0_0, .int .i64 a0_1], .int .i64 a1, .int .i64 a2]) Try.func39 rfl Try.ntmps39 (by kernel_rfl) ?_
  refine J.seq ?_
  refine J.plain ?_
  refine LL.box 23 (.tmp 0) [.int .i64 a0_0, .int .i64 a0_1] (by kernel_rfl) rfl (by kernel_rfl) (fun g90 => ?_)
  refine LL.op (.bool false) (by kernel_rfl) (fun w _ => by kernel_rfl) ?_
  refine LL.done (s' := [(1, .int .i64 a1), (2, .int .i64 a2), (3, .pointer (some ⟨g90, 0, none⟩)), (6, .bool false)]) [1, 2, 3, 6] (by kernel_rfl) ?_
  refine NN.then ?_
  refine J.seq ?_
  refine J.plain ?_
  refine LL.op (.pointer (some ⟨g90, 0, none⟩)) (by kernel_rfl) (fun w _ => by kernel_rfl) ?_
  refine LL.op (.int .i64 a0_0) (by kernel_rfl) (ld 0 g90 0 rfl (by kernel_rfl) rfl (by kernel_rfl)) ?_
  refine LL.op (.int .i64 a1) (by kernel_rfl) (fun w _ => by kernel_rfl) ?_
  refine LL.op (.bool (decide (a1 ≤ a0_0))) (by kernel_rfl) (fun w _ => by kernel_rfl) ?_
  refine LL.op (.bool (decide (a1 ≤ a0_0))) (by kernel_rfl) (fun w _ => by kernel_rfl) ?_
  rcases Bool.eq_false_or_eq_true (decide (a1 ≤ a0_0)) with c91 | c91
  · rw [if_pos (of_decide_eq_true c91)] at H
    refine LL.bool 11 (decide (a1 ≤ a0_0)) true c91 (by kernel_rfl) ?_
    refine LL.op (.pointer (some ⟨g90, 0, none⟩)) (by kernel_rfl) (fun w _ => by kernel_rfl) ?_
    refine LL.op (.int .i64 a0_0) (by kernel_rfl) (ld 0 g90 0 rfl (by kernel_rfl) rfl (by kernel_rfl)) ?_
    refine LL.op (.int .i64 a2) (by kernel_rfl) (fun w _ => by kernel_rfl) ?_
    refine LL.op (.bool (decide (a0_0 ≤ a2))) (by kernel_rfl) (fun w _ => by kernel_rfl) ?_
    refine LL.op (.bool (decide (a0_0 ≤ a2))) (by kernel_rfl) (fun w _ => by kernel_rfl) ?_
    refine LL.op (.bool (decide (a0_0 ≤ a2))) (by kernel_rfl) (fun w _ => by kernel_rfl) ?_
    rcases Bool.eq_false_or_eq_true (decide (a0_0 ≤ a2)) with c92 | c92
    · rw [if_pos (of_decide_eq_true c92)] at H
      refine LL.bool 17 (decide (a0_0 ≤ a2)) true c92 (by kernel_rfl) ?_
      refine LL.op (.pointer (some ⟨g90, 1, none⟩)) (by kernel_rfl) (fun w _ => by kernel_rfl) ?_
      refine LL.op (.int .i64 a0_1) (by kernel_rfl) (ld 0 g90 1 rfl (by kernel_rfl) rfl (by kernel_rfl)) ?_
      refine LL.op (.int .i64 a1) (by kernel_rfl) (fun w _ => by kernel_rfl) ?_
      refine LL.op (.bool (decide (a1 ≤ a0_1))) (by kernel_rfl) (fun w _ => by kernel_rfl) ?_
      refine LL.op (.bool (decide (a1 ≤ a0_1))) (by kernel_rfl) (fun w _ => by kernel_rfl) ?_
      refine LL.op (.bool (decide (a1 ≤ a0_1))) (by kernel_rfl) (fun w _ => by kernel_rfl) ?_
      rcases Bool.eq_false_or_eq_true (decide (a1 ≤ a0_1)) with c93 | c93
      · rw [if_pos (of_decide_eq_true c93)] at H
        refine LL.bool 23 (decide (a1 ≤ a0_1)) true c93 (by kernel_rfl) ?_
        refine LL.op (.pointer (some ⟨g90, 1, none⟩)) (by kernel_rfl) (fun w _ => by kernel_rfl) ?_
        refine LL.op (.int .i64 a0_1) (by kernel_rfl) (ld 0 g90 1 rfl (by kernel_rfl) rfl (by kernel_rfl)) ?_
        refine LL.op (.int .i64 a2) (by kernel_rfl) (fun w _ => by kernel_rfl) ?_
        refine LL.op (.bool (decide (a0_1 ≤ a2))) (by kernel_rfl) (fun w _ => by kernel_rfl) ?_
        refine LL.op (.bool (decide (a0_1 ≤ a2))) (by kernel_rfl) (fun w _ => by kernel_rfl) ?_
        refine LL.op (.bool (decide (a0_1 ≤ a2))) (by kernel_rfl) (fun w _ => by kernel_rfl) ?_
        refine LL.done (s' := [(6, .bool (decide (a0_1 ≤ a2)))]) [6] (by kernel_rfl) ?_
        refine NN.then ?_
        refine J.ret ?_
        refine NN.fin1 6 (.bool (decide (a0_1 ≤ a2))) (by kernel_rfl) (by kernel_rfl) (.inl rfl) (fun w hi => hi.ret ?_)
        first | (cases H; rfl) | (obtain rfl := Option.some.inj H; rfl) | (simp only [Option.some.injEq, Prod.mk.injEq] at H; obtain ⟨rfl⟩ := H; rfl)
      · rw [if_neg (of_decide_eq_false c93)] at H
        refine LL.bool 23 (decide (a1 ≤ a0_1)) false c93 (by kernel_rfl) ?_
        refine LL.off (by kernel_rfl) (by kernel_rfl) ?_
        refine LL.off (by kernel_rfl) (by kernel_rfl) ?_
        refine LL.off (by kernel_rfl) (by kernel_rfl) ?_
        refine LL.off (by kernel_rfl) (by kernel_rfl) ?_
        refine LL.op (.bool false) (by kernel_rfl) (fun w _ => by kernel_rfl) ?_
        refine LL.op (.bool false) (by kernel_rfl) (fun w _ => by kernel_rfl) ?_
        refine LL.done (s' := [(6, .bool false)]) [6] (by kernel_rfl) ?_
        refine NN.then ?_
        refine J.ret ?_
        refine NN.fin1 6 (.bool false) (by kernel_rfl) (by kernel_rfl) (.inl rfl) (fun w hi => hi.ret ?_)
        first | (cases H; rfl) | (obtain rfl := Option.some.inj H; rfl) | (simp only [Option.some.injEq, Prod.mk.injEq] at H; obtain ⟨rfl⟩ := H; rfl)
    · rw [if_neg (of_decide_eq_false c92)] at H
      refine LL.bool 17 (decide (a0_0 ≤ a2)) false c92 (by kernel_rfl) ?_
      refine LL.off (by kernel_rfl) (by kernel_rfl) ?_
      refine LL.off (by kernel_rfl) (by kernel_rfl) ?_
      refine LL.off (by kernel_rfl) (by kernel_rfl) ?_
      refine LL.off (by kernel_rfl) (by kernel_rfl) ?_
      refine LL.op (.bool false) (by kernel_rfl) (fun w _ => by kernel_rfl) ?_
      refine LL.op (.bool false) (by kernel_rfl) (fun w _ => by kernel_rfl) ?_
      refine LL.off (by kernel_rfl) (by kernel_rfl) ?_
      refine LL.off (by kernel_rfl) (by kernel_rfl) ?_
      refine LL.off (by kernel_rfl) (by kernel_rfl) ?_
      refine LL.off (by kernel_rfl) (by kernel_rfl) ?_
      refine LL.op (.bool false) (by kernel_rfl) (fun w _ => by kernel_rfl) ?_
      refine LL.op (.bool false) (by kernel_rfl) (fun w _ => by kernel_rfl) ?_
      refine LL.done (s' := [(6, .bool false)]) [6] (by kernel_rfl) ?_
      refine NN.then ?_
      refine J.ret ?_
      refine NN.fin1 6 (.bool false) (by kernel_rfl) (by kernel_rfl) (.inl rfl) (fun w hi => hi.ret ?_)
      first | (cases H; rfl) | (obtain rfl := Option.some.inj H; rfl) | (simp only [Option.some.injEq, Prod.mk.injEq] at H; obtain ⟨rfl⟩ := H; rfl)
  · rw [if_neg (of_decide_eq_false c91)] at H
    refine LL.bool 11 (decide (a1 ≤ a0_0)) false c91 (by kernel_rfl) ?_
    refine LL.off (by kernel_rfl) (by kernel_rfl) ?_
    refine LL.off (by kernel_rfl) (by kernel_rfl) ?_
    refine LL.off (by kernel_rfl) (by kernel_rfl) ?_
    refine LL.off (by kernel_rfl) (by kernel_rfl) ?_
    refine LL.op (.bool false) (by kernel_rfl) (fun w _ => by kernel_rfl) ?_
    refine LL.op (.bool false) (by kernel_rfl) (fun w _ => by kernel_rfl) ?_
    refine LL.off (by kernel_rfl) (by kernel_rfl) ?_
    refine LL.off (by kernel_rfl) (by kernel_rfl) ?_
    refine LL.off (by kernel_rfl) (by kernel_rfl) ?_
    refine LL.off (by kernel_rfl) (by kernel_rfl) ?_
    refine LL.op (.bool false) (by kernel_rfl) (fun w _ => by kernel_rfl) ?_
    refine LL.op (.bool false) (by kernel_rfl) (fun w _ => by kernel_rfl) ?_
    refine LL.off (by kernel_rfl) (by kernel_rfl) ?_
    refine LL.off (by kernel_rfl) (by kernel_rfl) ?_
    refine LL.off (by kernel_rfl) (by kernel_rfl) ?_
    refine LL.off (by kernel_rfl) (by kernel_rfl) ?_
    refine LL.op (.bool false) (by kernel_rfl) (fun w _ => by kernel_rfl) ?_
    refine LL.op (.bool false) (by kernel_rfl) (fun w _ => by kernel_rfl) ?_
    refine LL.done (s' := [(6, .bool false)]) [6] (by kernel_rfl) ?_
    refine NN.then ?_
    refine J.ret ?_
    refine NN.fin1 6 (.bool false) (by kernel_rfl) (by kernel_rfl) (.inl rfl) (fun w hi => hi.ret ?_)
    first | (cases H; rfl) | (obtain rfl := Option.some.inj H; rfl) | (simp only [Option.some.injEq, Prod.mk.injEq] at H; obtain ⟨rfl⟩ := H; rfl)

/-! ### sawmillref30_Length: function 29 -/
def sawmillref30_Length.f (a0_0 : ByteArray) (a0_1 : ByteArray) (a0_2 : ByteArray) (a0_3 : Int) (a0_4 : Int) (a0_5 : Int) (a0_6 : Int) (a0_7 : Int) (a0_8 : Int) (a0_9 : Int) (a0_10 : Int) (a0_12 : Int) (a0_13 : Int) (a0_14 : Int) (a0_15 : Int) (a0_16 : Bool) (a0_17 : Int) : Option (Int) := (sawmillref30_within.f a0_8 a0_9 0 20000).bind fun x95 => (if x95 = true then ((sawmillref30_length.f a0_8 a0_9).bind fun x97 => (some (mx 0 x97))) else (some 0))
set_option maxRecDepth 100000 in
theorem sawmillref30_Length.calls (a0_0 : ByteArray) (a0_1 : ByteArray) (a0_2 : ByteArray) (a0_3 : Int) (a0_4 : Int) (a0_5 : Int) (a0_6 : Int) (a0_7 : Int) (a0_8 : Int) (a0_9 : Int) (a0_10 : Int) (a0_12 : Int) (a0_13 : Int) (a0_14 : Int) (a0_15 : Int) (a0_16 : Bool) (a0_17 : Int)  (Aa0_11 : Option Addr) (na0_11 ca0_11 : Nat) (r1 : Int) (w : World)   (h : sawmillref30_Length.f a0_0 a0_1 a0_2 a0_3 a0_4 a0_5 a0_6 a0_7 a0_8 a0_9 a0_10 a0_12 a0_13 a0_14 a0_15 a0_16 a0_17 = some r1) :
    Calls Try.prog 29 #[.agg #[.string a0_0, .string a0_1, .string a0_2, .int .i64 a0_3, .int .i64 a0_4, .int .i64 a0_5, .int .i64 a0_6, .int .i64 a0_7, .int .i64 a0_8, .int .i64 a0_9, .int .i64 a0_10, .slice Aa0_11 na0_11 ca0_11, .int .i64 a0_12, .int .i64 a0_13, .int .i64 a0_14, .int .i64 a0_15, .bool a0_16, .int .i64 a0_17]] w (Ret w (.int .i64 r1)) := by
  have H := h
  clear h
  unfold sawmillref30_Length.f at H
  refine Go.Saw.calls (args := [.agg #[.string a0_0, .string a0_1, .string a0_2, .int .i64 a0_3, .int .i64 a0_4, .int .i64 a0_5, .int .i64 a0_6, .int .i64 a0_7, .int .i64 a0_8, .int .i64 a0_9, .int .i64 a0_10, .slice Aa0_11 na0_11 ca0_11, .int .i64 a0_12, .int .i64 a0_13, .int .i64 a0_14, .int .i64 a0_15, .bool a0_16, .int .i64 a0_17]]) Try.func29 rfl Try.ntmps29 (by kernel_rfl) ?_
  refine J.seq ?_
  refine J.plain ?_
  refine LL.box 30 (.tmp 0) [.string a0_0, .string a0_1, .string a0_2, .int .i64 a0_3, .int .i64 a0_4, .int .i64 a0_5, .int .i64 a0_6, .int .i64 a0_7, .int .i64 a0_8, .int .i64 a0_9, .int .i64 a0_10, .slice Aa0_11 na0_11 ca0_11, .int .i64 a0_12, .int .i64 a0_13, .int .i64 a0_14, .int .i64 a0_15, .bool a0_16, .int .i64 a0_17] (by kernel_rfl) rfl (by kernel_rfl) (fun g94 => ?_)
  refine LL.op (.int .i64 0) (by kernel_rfl) (fun w _ => by kernel_rfl) ?_
  refine LL.done (s' := [(1, .pointer (some ⟨g94, 0, none⟩)), (2, .int .i64 0)]) [1, 2] (by kernel_rfl) ?_
  refine NN.then ?_
  refine J.seq ?_
  refine J.seq ?_
  refine J.plain ?_
  refine LL.op (.pointer (some ⟨g94, 4, none⟩)) (by kernel_rfl) (fun w _ => by kernel_rfl) ?_
  refine LL.op (.pointer (some ⟨g94, 8, none⟩)) (by kernel_rfl) (fun w _ => by kernel_rfl) ?_
  refine LL.op (.agg #[.int .i64 a0_8, .int .i64 a0_9]) (by kernel_rfl) (ld 0 g94 8 rfl (by kernel_rfl) rfl (by kernel_rfl)) ?_
  obtain ⟨x95, hx95, H⟩ := bind_some H
  refine LL.call 39 #[.agg #[.int .i64 a0_8, .int .i64 a0_9], .int .i64 0, .int .i64 20000] (.bool x95) (by kernel_rfl) (fun w => by kernel_rfl) (fun w hw => sawmillref30_within.calls a0_8 a0_9 0 20000   _ w   hx95) ?_
  refine LL.op (.bool (!x95)) (by kernel_rfl) (fun w _ => by kernel_rfl) ?_
  refine LL.done (s' := [(1, .pointer (some ⟨g94, 0, none⟩)), (2, .int .i64 0), (7, .bool (!x95))]) [1, 2, 7] (by kernel_rfl) ?_
  refine NN.then ?_
  rcases Bool.eq_false_or_eq_true (x95) with c96 | c96
  · rw [if_pos (c96)] at H
    refine J.condF (b := !x95) (by rw [show (!x95) = !(x95) from rfl, c96]; rfl) (by kernel_rfl) (by kernel_rfl) ?_
    refine J.skip ?_
    refine NN.then ?_
    refine J.seq ?_
    refine J.plain ?_
    refine LL.op (.pointer (some ⟨g94, 4, none⟩)) (by kernel_rfl) (fun w _ => by kernel_rfl) ?_
    refine LL.op (.pointer (some ⟨g94, 8, none⟩)) (by kernel_rfl) (fun w _ => by kernel_rfl) ?_
    refine LL.op (.agg #[.int .i64 a0_8, .int .i64 a0_9]) (by kernel_rfl) (ld 0 g94 8 rfl (by kernel_rfl) rfl (by kernel_rfl)) ?_
    obtain ⟨x97, hx97, H⟩ := bind_some H
    refine LL.call 40 #[.agg #[.int .i64 a0_8, .int .i64 a0_9]] (.int .i64 x97) (by kernel_rfl) (fun w => by kernel_rfl) (fun w hw => sawmillref30_length.calls a0_8 a0_9   _ w   hx97) ?_
    refine LL.op (.int .i64 (mx 0 x97)) (by kernel_rfl) (fun w _ => by kernel_rfl) ?_
    refine LL.op (.int .i64 (mx 0 x97)) (by kernel_rfl) (fun w _ => by kernel_rfl) ?_
    refine LL.done (s' := [(2, .int .i64 (mx 0 x97))]) [2] (by kernel_rfl) ?_
    refine NN.then ?_
    refine J.ret ?_
    refine NN.fin1 2 (.int .i64 (mx 0 x97)) (by kernel_rfl) (by kernel_rfl) (.inl rfl) (fun w hi => hi.ret ?_)
    first | (cases H; rfl) | (obtain rfl := Option.some.inj H; rfl) | (simp only [Option.some.injEq, Prod.mk.injEq] at H; obtain ⟨rfl⟩ := H; rfl)
  · rw [if_neg (nebt c96)] at H
    refine J.condT (b := !x95) (by rw [show (!x95) = !(x95) from rfl, c96]; rfl) (by kernel_rfl) (by kernel_rfl) ?_
    refine J.seq ?_
    refine J.plain ?_
    refine LL.op (.int .i64 0) (by kernel_rfl) (fun w _ => by kernel_rfl) ?_
    refine LL.done (s' := [(1, .pointer (some ⟨g94, 0, none⟩)), (2, .int .i64 0)]) [1, 2] (by kernel_rfl) ?_
    refine NN.then ?_
    refine J.ret ?_
    refine NN.then_ret ?_
    refine NN.fin1 2 (.int .i64 0) (by kernel_rfl) (by kernel_rfl) (.inl rfl) (fun w hi => hi.ret ?_)
    first | (cases H; rfl) | (obtain rfl := Option.some.inj H; rfl) | (simp only [Option.some.injEq, Prod.mk.injEq] at H; obtain ⟨rfl⟩ := H; rfl)

/-! ### sawmillref39_Volume: function 14 -/
def sawmillref39_Volume.f (a0_0 : ByteArray) (a0_1 : ByteArray) (a0_2 : ByteArray) (a0_3 : Int) (a0_4 : Int) (a0_5 : Int) (a0_6 : Int) (a0_7 : Int) (a0_8 : Int) (a0_9 : Int) (a0_10 : Int) (a0_12 : Int) (a0_13 : Int) (a0_14 : Int) (a0_15 : Int) (a0_16 : Bool) (a0_17 : Int) (a1_0 : ByteArray) (a1_1 : Int) (a1_2 : Int) (a1_3 : Int) (a1_4 : Int) (a1_5 : Int) (a1_6 : Int) (a1_7 : Int) (a1_8 : Int) (a1_9 : Int) (a1_10 : Int) (a1_11 : Int) (a1_12 : Int) : Option (Int) := (sawmillref39_Dried.f a0_0 a0_1 a0_2 a0_3 a0_4 a0_5 a0_6 a0_7 a0_8 a0_9 a0_10 a0_12 a0_13 a0_14 a0_15 a0_16 a0_17 a1_0 a1_1 a1_2 a1_3 a1_4 a1_5 a1_6 a1_7 a1_8 a1_9 a1_10 a1_11 a1_12).bind fun bx100 => ((sawmillref30_Length.f a0_0 a0_1 a0_2 a0_3 a0_4 a0_5 a0_6 a0_7 a0_8 a0_9 a0_10 a0_12 a0_13 a0_14 a0_15 a0_16 a0_17).bind fun x101 => (some (IntKind.i64.wrap ((IntKind.i64.wrap (bx100.1 * bx100.2)) * x101))))
set_option maxRecDepth 100000 in
theorem sawmillref39_Volume.calls (a0_0 : ByteArray) (a0_1 : ByteArray) (a0_2 : ByteArray) (a0_3 : Int) (a0_4 : Int) (a0_5 : Int) (a0_6 : Int) (a0_7 : Int) (a0_8 : Int) (a0_9 : Int) (a0_10 : Int) (a0_12 : Int) (a0_13 : Int) (a0_14 : Int) (a0_15 : Int) (a0_16 : Bool) (a0_17 : Int) (a1_0 : ByteArray) (a1_1 : Int) (a1_2 : Int) (a1_3 : Int) (a1_4 : Int) (a1_5 : Int) (a1_6 : Int) (a1_7 : Int) (a1_8 : Int) (a1_9 : Int) (a1_10 : Int) (a1_11 : Int) (a1_12 : Int)  (Aa0_11 : Option Addr) (na0_11 ca0_11 : Nat) (r1 : Int) (w : World)   (h : sawmillref39_Volume.f a0_0 a0_1 a0_2 a0_3 a0_4 a0_5 a0_6 a0_7 a0_8 a0_9 a0_10 a0_12 a0_13 a0_14 a0_15 a0_16 a0_17 a1_0 a1_1 a1_2 a1_3 a1_4 a1_5 a1_6 a1_7 a1_8 a1_9 a1_10 a1_11 a1_12 = some r1) :
    Calls Try.prog 14 #[.agg #[.string a0_0, .string a0_1, .string a0_2, .int .i64 a0_3, .int .i64 a0_4, .int .i64 a0_5, .int .i64 a0_6, .int .i64 a0_7, .int .i64 a0_8, .int .i64 a0_9, .int .i64 a0_10, .slice Aa0_11 na0_11 ca0_11, .int .i64 a0_12, .int .i64 a0_13, .int .i64 a0_14, .int .i64 a0_15, .bool a0_16, .int .i64 a0_17], .agg #[.string a1_0, .int .i64 a1_1, .int .i64 a1_2, .int .i64 a1_3, .int .i64 a1_4, .int .i64 a1_5, .int .i64 a1_6, .int .i64 a1_7, .int .i64 a1_8, .int .i64 a1_9, .int .i64 a1_10, .int .i64 a1_11, .int .i64 a1_12]] w (Ret w (.int .i64 r1)) := by
  have H := h
  clear h
  unfold sawmillref39_Volume.f at H
  refine Go.Saw.calls (args := [.agg #[.string a0_0, .string a0_1, .string a0_2, .int .i64 a0_3, .int .i64 a0_4, .int .i64 a0_5, .int .i64 a0_6, .int .i64 a0_7, .int .i64 a0_8, .int .i64 a0_9, .int .i64 a0_10, .slice Aa0_11 na0_11 ca0_11, .int .i64 a0_12, .int .i64 a0_13, .int .i64 a0_14, .int .i64 a0_15, .bool a0_16, .int .i64 a0_17], .agg #[.string a1_0, .int .i64 a1_1, .int .i64 a1_2, .int .i64 a1_3, .int .i64 a1_4, .int .i64 a1_5, .int .i64 a1_6, .int .i64 a1_7, .int .i64 a1_8, .int .i64 a1_9, .int .i64 a1_10, .int .i64 a1_11, .int .i64 a1_12]]) Try.func14 rfl Try.ntmps14 (by kernel_rfl) ?_
  refine J.seq ?_
  refine J.plain ?_
  refine LL.box 30 (.tmp 0) [.string a0_0, .string a0_1, .string a0_2, .int .i64 a0_3, .int .i64 a0_4, .int .i64 a0_5, .int .i64 a0_6, .int .i64 a0_7, .int .i64 a0_8, .int .i64 a0_9, .int .i64 a0_10, .slice Aa0_11 na0_11 ca0_11, .int .i64 a0_12, .int .i64 a0_13, .int .i64 a0_14, .int .i64 a0_15, .bool a0_16, .int .i64 a0_17] (by kernel_rfl) rfl (by kernel_rfl) (fun g98 => ?_)
  refine LL.box 35 (.tmp 1) [.string a1_0, .int .i64 a1_1, .int .i64 a1_2, .int .i64 a1_3, .int .i64 a1_4, .int .i64 a1_5, .int .i64 a1_6, .int .i64 a1_7, .int .i64 a1_8, .int .i64 a1_9, .int .i64 a1_10, .int .i64 a1_11, .int .i64 a1_12] (by kernel_rfl) rfl (by kernel_rfl) (fun g99 => ?_)
  refine LL.op (.int .i64 0) (by kernel_rfl) (fun w _ => by kernel_rfl) ?_
  refine LL.done (s' := [(2, .pointer (some ⟨g98, 0, none⟩)), (3, .pointer (some ⟨g99, 0, none⟩)), (4, .int .i64 0)]) [2, 3, 4] (by kernel_rfl) ?_
  refine NN.then ?_
  refine J.seq ?_
  refine J.plain ?_
  refine LL.op (.agg #[.string a0_0, .string a0_1, .string a0_2, .int .i64 a0_3, .int .i64 a0_4, .int .i64 a0_5, .int .i64 a0_6, .int .i64 a0_7, .int .i64 a0_8, .int .i64 a0_9, .int .i64 a0_10, .slice Aa0_11 na0_11 ca0_11, .int .i64 a0_12, .int .i64 a0_13, .int .i64 a0_14, .int .i64 a0_15, .bool a0_16, .int .i64 a0_17]) (by kernel_rfl) (ld 1 g98 0 rfl (by kernel_rfl) rfl (by kernel_rfl)) ?_
  refine LL.op (.agg #[.string a1_0, .int .i64 a1_1, .int .i64 a1_2, .int .i64 a1_3, .int .i64 a1_4, .int .i64 a1_5, .int .i64 a1_6, .int .i64 a1_7, .int .i64 a1_8, .int .i64 a1_9, .int .i64 a1_10, .int .i64 a1_11, .int .i64 a1_12]) (by kernel_rfl) (ld 0 g99 0 rfl (by kernel_rfl) rfl (by kernel_rfl)) ?_
  obtain ⟨⟨x100_1, x100_2⟩, hx100, H⟩ := bind_some H
  (try dsimp only at H)
  refine LL.call 10 #[.agg #[.string a0_0, .string a0_1, .string a0_2, .int .i64 a0_3, .int .i64 a0_4, .int .i64 a0_5, .int .i64 a0_6, .int .i64 a0_7, .int .i64 a0_8, .int .i64 a0_9, .int .i64 a0_10, .slice Aa0_11 na0_11 ca0_11, .int .i64 a0_12, .int .i64 a0_13, .int .i64 a0_14, .int .i64 a0_15, .bool a0_16, .int .i64 a0_17], .agg #[.string a1_0, .int .i64 a1_1, .int .i64 a1_2, .int .i64 a1_3, .int .i64 a1_4, .int .i64 a1_5, .int .i64 a1_6, .int .i64 a1_7, .int .i64 a1_8, .int .i64 a1_9, .int .i64 a1_10, .int .i64 a1_11, .int .i64 a1_12]] (.tuple #[.int .i64 x100_1, .int .i64 x100_2]) (by kernel_rfl) (fun w => by kernel_rfl) (fun w hw => sawmillref39_Dried.calls a0_0 a0_1 a0_2 a0_3 a0_4 a0_5 a0_6 a0_7 a0_8 a0_9 a0_10 a0_12 a0_13 a0_14 a0_15 a0_16 a0_17 a1_0 a1_1 a1_2 a1_3 a1_4 a1_5 a1_6 a1_7 a1_8 a1_9 a1_10 a1_11 a1_12  _ _ _ _ _ w   hx100) ?_
  refine LL.op (.tuple #[.int .i64 x100_1, .int .i64 x100_2]) (by kernel_rfl) (fun w _ => by kernel_rfl) ?_
  refine LL.op (.int .i64 x100_1) (by kernel_rfl) (fun w _ => by kernel_rfl) ?_
  refine LL.op (.int .i64 x100_2) (by kernel_rfl) (fun w _ => by kernel_rfl) ?_
  refine LL.op (.int .i64 x100_1) (by kernel_rfl) (fun w _ => by kernel_rfl) ?_
  refine LL.op (.int .i64 x100_2) (by kernel_rfl) (fun w _ => by kernel_rfl) ?_
  refine LL.done (s' := [(2, .pointer (some ⟨g98, 0, none⟩)), (4, .int .i64 0), (5, .int .i64 x100_1), (6, .int .i64 x100_2)]) [2, 4, 5, 6] (by kernel_rfl) ?_
  refine NN.then ?_
  refine J.seq ?_
  refine J.plain ?_
  refine LL.op (.int .i64 x100_1) (by kernel_rfl) (fun w _ => by kernel_rfl) ?_
  refine LL.op (.int .i64 x100_2) (by kernel_rfl) (fun w _ => by kernel_rfl) ?_
  refine LL.op (.int .i64 (IntKind.i64.wrap (x100_1 * x100_2))) (by kernel_rfl) (fun w _ => by kernel_rfl) ?_
  refine LL.op (.agg #[.string a0_0, .string a0_1, .string a0_2, .int .i64 a0_3, .int .i64 a0_4, .int .i64 a0_5, .int .i64 a0_6, .int .i64 a0_7, .int .i64 a0_8, .int .i64 a0_9, .int .i64 a0_10, .slice Aa0_11 na0_11 ca0_11, .int .i64 a0_12, .int .i64 a0_13, .int .i64 a0_14, .int .i64 a0_15, .bool a0_16, .int .i64 a0_17]) (by kernel_rfl) (ld 1 g98 0 rfl (by kernel_rfl) rfl (by kernel_rfl)) ?_
  obtain ⟨x101, hx101, H⟩ := bind_some H
  refine LL.call 29 #[.agg #[.string a0_0, .string a0_1, .string a0_2, .int .i64 a0_3, .int .i64 a0_4, .int .i64 a0_5, .int .i64 a0_6, .int .i64 a0_7, .int .i64 a0_8, .int .i64 a0_9, .int .i64 a0_10, .slice Aa0_11 na0_11 ca0_11, .int .i64 a0_12, .int .i64 a0_13, .int .i64 a0_14, .int .i64 a0_15, .bool a0_16, .int .i64 a0_17]] (.int .i64 x101) (by kernel_rfl) (fun w => by kernel_rfl) (fun w hw => sawmillref30_Length.calls a0_0 a0_1 a0_2 a0_3 a0_4 a0_5 a0_6 a0_7 a0_8 a0_9 a0_10 a0_12 a0_13 a0_14 a0_15 a0_16 a0_17  _ _ _ _ w   hx101) ?_
  refine LL.op (.int .i64 (IntKind.i64.wrap ((IntKind.i64.wrap (x100_1 * x100_2)) * x101))) (by kernel_rfl) (fun w _ => by kernel_rfl) ?_
  refine LL.op (.int .i64 (IntKind.i64.wrap ((IntKind.i64.wrap (x100_1 * x100_2)) * x101))) (by kernel_rfl) (fun w _ => by kernel_rfl) ?_
  refine LL.done (s' := [(4, .int .i64 (IntKind.i64.wrap ((IntKind.i64.wrap (x100_1 * x100_2)) * x101)))]) [4] (by kernel_rfl) ?_
  refine NN.then ?_
  refine J.ret ?_
  refine NN.fin1 4 (.int .i64 (IntKind.i64.wrap ((IntKind.i64.wrap (x100_1 * x100_2)) * x101))) (by kernel_rfl) (by kernel_rfl) (.inl rfl) (fun w hi => hi.ret ?_)
  first | (cases H; rfl) | (obtain rfl := Option.some.inj H; rfl) | (simp only [Option.some.injEq, Prod.mk.injEq] at H; obtain ⟨rfl⟩ := H; rfl)

/-! ### board_boxed: function 33 -/
def board_boxed.f (a0_0 : Int) (a0_1 : Int) (a0_2 : Int) (a0_3 : Int) (a0_4 : Int) (a0_5 : Int) : Option (Bool) := if a0_1 ≤ a0_0 then (some false) else (if a0_3 ≤ a0_2 then (some false) else (if a0_5 ≤ a0_4 then (some false) else (if (-600) ≤ (mn a0_0 a0_2) then (if (mx a0_1 a0_3) ≤ 600 then (if 0 ≤ a0_4 then (some (decide (a0_5 ≤ 20000))) else (some false)) else (some false)) else (some false))))
set_option maxRecDepth 100000 in
theorem board_boxed.calls (a0_0 : Int) (a0_1 : Int) (a0_2 : Int) (a0_3 : Int) (a0_4 : Int) (a0_5 : Int)   (r1 : Bool) (w : World)   (h : board_boxed.f a0_0 a0_1 a0_2 a0_3 a0_4 a0_5 = some r1) :
    Calls Try.prog 33 #[.agg #[.int .i64 a0_0, .int .i64 a0_1, .int .i64 a0_2, .int .i64 a0_3, .int .i64 a0_4, .int .i64 a0_5]] w (Ret w (.bool r1)) := by
  have H := h
  clear h
  unfold board_boxed.f at H
  refine Go.Saw.calls (args := [.agg #[.int .i64 a0_0, .int .i64 a0_1, .int .i64 a0_2, .int .i64 a0_3, .int .i64 a0_4, .int .i64 a0_5]]) Try.func33 rfl Try.ntmps33 (by kernel_rfl) ?_
  refine J.seq ?_
  refine J.plain ?_
  refine LL.box 25 (.tmp 0) [.int .i64 a0_0, .int .i64 a0_1, .int .i64 a0_2, .int .i64 a0_3, .int .i64 a0_4, .int .i64 a0_5] (by kernel_rfl) rfl (by kernel_rfl) (fun g102 => ?_)
  refine LL.op (.bool false) (by kernel_rfl) (fun w _ => by kernel_rfl) ?_
  refine LL.done (s' := [(1, .pointer (some ⟨g102, 0, none⟩)), (2, .bool false)]) [1, 2] (by kernel_rfl) ?_
  refine NN.then ?_
  refine J.seq ?_
  refine J.seq ?_
  refine J.plain ?_
  refine LL.op (.pointer (some ⟨g102, 0, none⟩)) (by kernel_rfl) (fun w _ => by kernel_rfl) ?_
  refine LL.op (.pointer (some ⟨g102, 0, none⟩)) (by kernel_rfl) (fun w _ => by kernel_rfl) ?_
  refine LL.op (.int .i64 a0_0) (by kernel_rfl) (ld 0 g102 0 rfl (by kernel_rfl) rfl (by kernel_rfl)) ?_
  refine LL.op (.pointer (some ⟨g102, 0, none⟩)) (by kernel_rfl) (fun w _ => by kernel_rfl) ?_
  refine LL.op (.pointer (some ⟨g102, 1, none⟩)) (by kernel_rfl) (fun w _ => by kernel_rfl) ?_
  refine LL.op (.int .i64 a0_1) (by kernel_rfl) (ld 0 g102 1 rfl (by kernel_rfl) rfl (by kernel_rfl)) ?_
  refine LL.op (.bool (decide (a0_1 ≤ a0_0))) (by kernel_rfl) (fun w _ => by kernel_rfl) ?_
  refine LL.op (.bool (decide (a0_1 ≤ a0_0))) (by kernel_rfl) (fun w _ => by kernel_rfl) ?_
  rcases Bool.eq_false_or_eq_true (decide (a0_1 ≤ a0_0)) with c103 | c103
  · rw [if_pos (of_decide_eq_true c103)] at H
    refine LL.bool 10 (decide (a0_1 ≤ a0_0)) true c103 (by kernel_rfl) ?_
    refine LL.off (by kernel_rfl) (by kernel_rfl) ?_
    refine LL.off (by kernel_rfl) (by kernel_rfl) ?_
    refine LL.off (by kernel_rfl) (by kernel_rfl) ?_
    refine LL.off (by kernel_rfl) (by kernel_rfl) ?_
    refine LL.off (by kernel_rfl) (by kernel_rfl) ?_
    refine LL.off (by kernel_rfl) (by kernel_rfl) ?_
    refine LL.off (by kernel_rfl) (by kernel_rfl) ?_
    refine LL.op (.bool true) (by kernel_rfl) (fun w _ => by kernel_rfl) ?_
    refine LL.op (.bool true) (by kernel_rfl) (fun w _ => by kernel_rfl) ?_
    refine LL.off (by kernel_rfl) (by kernel_rfl) ?_
    refine LL.off (by kernel_rfl) (by kernel_rfl) ?_
    refine LL.off (by kernel_rfl) (by kernel_rfl) ?_
    refine LL.off (by kernel_rfl) (by kernel_rfl) ?_
    refine LL.off (by kernel_rfl) (by kernel_rfl) ?_
    refine LL.off (by kernel_rfl) (by kernel_rfl) ?_
    refine LL.off (by kernel_rfl) (by kernel_rfl) ?_
    refine LL.op (.bool true) (by kernel_rfl) (fun w _ => by kernel_rfl) ?_
    refine LL.done (s' := [(1, .pointer (some ⟨g102, 0, none⟩)), (2, .bool false), (27, .bool true)]) [1, 2, 27] (by kernel_rfl) ?_
    refine NN.then ?_
    refine J.condT (b := true) rfl (by kernel_rfl) (by kernel_rfl) ?_
    refine J.seq ?_
    refine J.plain ?_
    refine LL.op (.bool false) (by kernel_rfl) (fun w _ => by kernel_rfl) ?_
    refine LL.done (s' := [(1, .pointer (some ⟨g102, 0, none⟩)), (2, .bool false)]) [1, 2] (by kernel_rfl) ?_
    refine NN.then ?_
    refine J.ret ?_
    refine NN.then_ret ?_
    refine NN.fin1 2 (.bool false) (by kernel_rfl) (by kernel_rfl) (.inl rfl) (fun w hi => hi.ret ?_)
    first | (cases H; rfl) | (obtain rfl := Option.some.inj H; rfl) | (simp only [Option.some.injEq, Prod.mk.injEq] at H; obtain ⟨rfl⟩ := H; rfl)
  · rw [if_neg (of_decide_eq_false c103)] at H
    refine LL.bool 10 (decide (a0_1 ≤ a0_0)) false c103 (by kernel_rfl) ?_
    refine LL.op (.pointer (some ⟨g102, 2, none⟩)) (by kernel_rfl) (fun w _ => by kernel_rfl) ?_
    refine LL.op (.pointer (some ⟨g102, 2, none⟩)) (by kernel_rfl) (fun w _ => by kernel_rfl) ?_
    refine LL.op (.int .i64 a0_2) (by kernel_rfl) (ld 0 g102 2 rfl (by kernel_rfl) rfl (by kernel_rfl)) ?_
    refine LL.op (.pointer (some ⟨g102, 2, none⟩)) (by kernel_rfl) (fun w _ => by kernel_rfl) ?_
    refine LL.op (.pointer (some ⟨g102, 3, none⟩)) (by kernel_rfl) (fun w _ => by kernel_rfl) ?_
    refine LL.op (.int .i64 a0_3) (by kernel_rfl) (ld 0 g102 3 rfl (by kernel_rfl) rfl (by kernel_rfl)) ?_
    refine LL.op (.bool (decide (a0_3 ≤ a0_2))) (by kernel_rfl) (fun w _ => by kernel_rfl) ?_
    refine LL.op (.bool (decide (a0_3 ≤ a0_2))) (by kernel_rfl) (fun w _ => by kernel_rfl) ?_
    refine LL.op (.bool (decide (a0_3 ≤ a0_2))) (by kernel_rfl) (fun w _ => by kernel_rfl) ?_
    rcases Bool.eq_false_or_eq_true (decide (a0_3 ≤ a0_2)) with c104 | c104
    · rw [if_pos (of_decide_eq_true c104)] at H
      refine LL.bool 19 (decide (a0_3 ≤ a0_2)) true c104 (by kernel_rfl) ?_
      refine LL.off (by kernel_rfl) (by kernel_rfl) ?_
      refine LL.off (by kernel_rfl) (by kernel_rfl) ?_
      refine LL.off (by kernel_rfl) (by kernel_rfl) ?_
      refine LL.off (by kernel_rfl) (by kernel_rfl) ?_
      refine LL.off (by kernel_rfl) (by kernel_rfl) ?_
      refine LL.off (by kernel_rfl) (by kernel_rfl) ?_
      refine LL.off (by kernel_rfl) (by kernel_rfl) ?_
      refine LL.op (.bool true) (by kernel_rfl) (fun w _ => by kernel_rfl) ?_
      refine LL.done (s' := [(1, .pointer (some ⟨g102, 0, none⟩)), (2, .bool false), (27, .bool true)]) [1, 2, 27] (by kernel_rfl) ?_
      refine NN.then ?_
      refine J.condT (b := true) rfl (by kernel_rfl) (by kernel_rfl) ?_
      refine J.seq ?_
      refine J.plain ?_
      refine LL.op (.bool false) (by kernel_rfl) (fun w _ => by kernel_rfl) ?_
      refine LL.done (s' := [(1, .pointer (some ⟨g102, 0, none⟩)), (2, .bool false)]) [1, 2] (by kernel_rfl) ?_
      refine NN.then ?_
      refine J.ret ?_
      refine NN.then_ret ?_
      refine NN.fin1 2 (.bool false) (by kernel_rfl) (by kernel_rfl) (.inl rfl) (fun w hi => hi.ret ?_)
      first | (cases H; rfl) | (obtain rfl := Option.some.inj H; rfl) | (simp only [Option.some.injEq, Prod.mk.injEq] at H; obtain ⟨rfl⟩ := H; rfl)
    · rw [if_neg (of_decide_eq_false c104)] at H
      refine LL.bool 19 (decide (a0_3 ≤ a0_2)) false c104 (by kernel_rfl) ?_
      refine LL.op (.pointer (some ⟨g102, 4, none⟩)) (by kernel_rfl) (fun w _ => by kernel_rfl) ?_
      refine LL.op (.pointer (some ⟨g102, 4, none⟩)) (by kernel_rfl) (fun w _ => by kernel_rfl) ?_
      refine LL.op (.int .i64 a0_4) (by kernel_rfl) (ld 0 g102 4 rfl (by kernel_rfl) rfl (by kernel_rfl)) ?_
      refine LL.op (.pointer (some ⟨g102, 4, none⟩)) (by kernel_rfl) (fun w _ => by kernel_rfl) ?_
      refine LL.op (.pointer (some ⟨g102, 5, none⟩)) (by kernel_rfl) (fun w _ => by kernel_rfl) ?_
      refine LL.op (.int .i64 a0_5) (by kernel_rfl) (ld 0 g102 5 rfl (by kernel_rfl) rfl (by kernel_rfl)) ?_
      refine LL.op (.bool (decide (a0_5 ≤ a0_4))) (by kernel_rfl) (fun w _ => by kernel_rfl) ?_
      refine LL.op (.bool (decide (a0_5 ≤ a0_4))) (by kernel_rfl) (fun w _ => by kernel_rfl) ?_
      refine LL.done (s' := [(1, .pointer (some ⟨g102, 0, none⟩)), (2, .bool false), (27, .bool (decide (a0_5 ≤ a0_4)))]) [1, 2, 27] (by kernel_rfl) ?_
      refine NN.then ?_
      rcases Bool.eq_false_or_eq_true (decide (a0_5 ≤ a0_4)) with c105 | c105
      · rw [if_pos (of_decide_eq_true c105)] at H
        refine J.condT (b := decide (a0_5 ≤ a0_4)) c105 (by kernel_rfl) (by kernel_rfl) ?_
        refine J.seq ?_
        refine J.plain ?_
        refine LL.op (.bool false) (by kernel_rfl) (fun w _ => by kernel_rfl) ?_
        refine LL.done (s' := [(1, .pointer (some ⟨g102, 0, none⟩)), (2, .bool false)]) [1, 2] (by kernel_rfl) ?_
        refine NN.then ?_
        refine J.ret ?_
        refine NN.then_ret ?_
        refine NN.fin1 2 (.bool false) (by kernel_rfl) (by kernel_rfl) (.inl rfl) (fun w hi => hi.ret ?_)
        first | (cases H; rfl) | (obtain rfl := Option.some.inj H; rfl) | (simp only [Option.some.injEq, Prod.mk.injEq] at H; obtain ⟨rfl⟩ := H; rfl)
      · rw [if_neg (of_decide_eq_false c105)] at H
        refine J.condF (b := decide (a0_5 ≤ a0_4)) c105 (by kernel_rfl) (by kernel_rfl) ?_
        refine J.skip ?_
        refine NN.then ?_
        refine J.seq ?_
        refine J.plain ?_
        refine LL.op (.pointer (some ⟨g102, 0, none⟩)) (by kernel_rfl) (fun w _ => by kernel_rfl) ?_
        refine LL.op (.pointer (some ⟨g102, 0, none⟩)) (by kernel_rfl) (fun w _ => by kernel_rfl) ?_
        refine LL.op (.int .i64 a0_0) (by kernel_rfl) (ld 0 g102 0 rfl (by kernel_rfl) rfl (by kernel_rfl)) ?_
        refine LL.op (.pointer (some ⟨g102, 2, none⟩)) (by kernel_rfl) (fun w _ => by kernel_rfl) ?_
        refine LL.op (.pointer (some ⟨g102, 2, none⟩)) (by kernel_rfl) (fun w _ => by kernel_rfl) ?_
        refine LL.op (.int .i64 a0_2) (by kernel_rfl) (ld 0 g102 2 rfl (by kernel_rfl) rfl (by kernel_rfl)) ?_
        refine LL.op (.int .i64 (mn a0_0 a0_2)) (by kernel_rfl) (fun w _ => by kernel_rfl) ?_
        refine LL.op (.bool (decide ((-600) ≤ (mn a0_0 a0_2)))) (by kernel_rfl) (fun w _ => by kernel_rfl) ?_
        refine LL.op (.bool (decide ((-600) ≤ (mn a0_0 a0_2)))) (by kernel_rfl) (fun w _ => by kernel_rfl) ?_
        rcases Bool.eq_false_or_eq_true (decide ((-600) ≤ (mn a0_0 a0_2))) with c106 | c106
        · rw [if_pos (of_decide_eq_true c106)] at H
          refine LL.bool 36 (decide ((-600) ≤ (mn a0_0 a0_2))) true c106 (by kernel_rfl) ?_
          refine LL.op (.pointer (some ⟨g102, 0, none⟩)) (by kernel_rfl) (fun w _ => by kernel_rfl) ?_
          refine LL.op (.pointer (some ⟨g102, 1, none⟩)) (by kernel_rfl) (fun w _ => by kernel_rfl) ?_
          refine LL.op (.int .i64 a0_1) (by kernel_rfl) (ld 0 g102 1 rfl (by kernel_rfl) rfl (by kernel_rfl)) ?_
          refine LL.op (.pointer (some ⟨g102, 2, none⟩)) (by kernel_rfl) (fun w _ => by kernel_rfl) ?_
          refine LL.op (.pointer (some ⟨g102, 3, none⟩)) (by kernel_rfl) (fun w _ => by kernel_rfl) ?_
          refine LL.op (.int .i64 a0_3) (by kernel_rfl) (ld 0 g102 3 rfl (by kernel_rfl) rfl (by kernel_rfl)) ?_
          refine LL.op (.int .i64 (mx a0_1 a0_3)) (by kernel_rfl) (fun w _ => by kernel_rfl) ?_
          refine LL.op (.bool (decide ((mx a0_1 a0_3) ≤ 600))) (by kernel_rfl) (fun w _ => by kernel_rfl) ?_
          refine LL.op (.bool (decide ((mx a0_1 a0_3) ≤ 600))) (by kernel_rfl) (fun w _ => by kernel_rfl) ?_
          refine LL.op (.bool (decide ((mx a0_1 a0_3) ≤ 600))) (by kernel_rfl) (fun w _ => by kernel_rfl) ?_
          rcases Bool.eq_false_or_eq_true (decide ((mx a0_1 a0_3) ≤ 600)) with c107 | c107
          · rw [if_pos (of_decide_eq_true c107)] at H
            refine LL.bool 46 (decide ((mx a0_1 a0_3) ≤ 600)) true c107 (by kernel_rfl) ?_
            refine LL.op (.pointer (some ⟨g102, 4, none⟩)) (by kernel_rfl) (fun w _ => by kernel_rfl) ?_
            refine LL.op (.pointer (some ⟨g102, 4, none⟩)) (by kernel_rfl) (fun w _ => by kernel_rfl) ?_
            refine LL.op (.int .i64 a0_4) (by kernel_rfl) (ld 0 g102 4 rfl (by kernel_rfl) rfl (by kernel_rfl)) ?_
            refine LL.op (.bool (decide (0 ≤ a0_4))) (by kernel_rfl) (fun w _ => by kernel_rfl) ?_
            refine LL.op (.bool (decide (0 ≤ a0_4))) (by kernel_rfl) (fun w _ => by kernel_rfl) ?_
            refine LL.op (.bool (decide (0 ≤ a0_4))) (by kernel_rfl) (fun w _ => by kernel_rfl) ?_
            rcases Bool.eq_false_or_eq_true (decide (0 ≤ a0_4)) with c108 | c108
            · rw [if_pos (of_decide_eq_true c108)] at H
              refine LL.bool 52 (decide (0 ≤ a0_4)) true c108 (by kernel_rfl) ?_
              refine LL.op (.pointer (some ⟨g102, 4, none⟩)) (by kernel_rfl) (fun w _ => by kernel_rfl) ?_
              refine LL.op (.pointer (some ⟨g102, 5, none⟩)) (by kernel_rfl) (fun w _ => by kernel_rfl) ?_
              refine LL.op (.int .i64 a0_5) (by kernel_rfl) (ld 0 g102 5 rfl (by kernel_rfl) rfl (by kernel_rfl)) ?_
              refine LL.op (.bool (decide (a0_5 ≤ 20000))) (by kernel_rfl) (fun w _ => by kernel_rfl) ?_
              refine LL.op (.bool (decide (a0_5 ≤ 20000))) (by kernel_rfl) (fun w _ => by kernel_rfl) ?_
              refine LL.op (.bool (decide (a0_5 ≤ 20000))) (by kernel_rfl) (fun w _ => by kernel_rfl) ?_
              refine LL.done (s' := [(2, .bool (decide (a0_5 ≤ 20000)))]) [2] (by kernel_rfl) ?_
              refine NN.then ?_
              refine J.ret ?_
              refine NN.fin1 2 (.bool (decide (a0_5 ≤ 20000))) (by kernel_rfl) (by kernel_rfl) (.inl rfl) (fun w hi => hi.ret ?_)
              first | (cases H; rfl) | (obtain rfl := Option.some.inj H; rfl) | (simp only [Option.some.injEq, Prod.mk.injEq] at H; obtain ⟨rfl⟩ := H; rfl)
            · rw [if_neg (of_decide_eq_false c108)] at H
              refine LL.bool 52 (decide (0 ≤ a0_4)) false c108 (by kernel_rfl) ?_
              refine LL.off (by kernel_rfl) (by kernel_rfl) ?_
              refine LL.off (by kernel_rfl) (by kernel_rfl) ?_
              refine LL.off (by kernel_rfl) (by kernel_rfl) ?_
              refine LL.off (by kernel_rfl) (by kernel_rfl) ?_
              refine LL.op (.bool false) (by kernel_rfl) (fun w _ => by kernel_rfl) ?_
              refine LL.op (.bool false) (by kernel_rfl) (fun w _ => by kernel_rfl) ?_
              refine LL.done (s' := [(2, .bool false)]) [2] (by kernel_rfl) ?_
              refine NN.then ?_
              refine J.ret ?_
              refine NN.fin1 2 (.bool false) (by kernel_rfl) (by kernel_rfl) (.inl rfl) (fun w hi => hi.ret ?_)
              first | (cases H; rfl) | (obtain rfl := Option.some.inj H; rfl) | (simp only [Option.some.injEq, Prod.mk.injEq] at H; obtain ⟨rfl⟩ := H; rfl)
          · rw [if_neg (of_decide_eq_false c107)] at H
            refine LL.bool 46 (decide ((mx a0_1 a0_3) ≤ 600)) false c107 (by kernel_rfl) ?_
            refine LL.off (by kernel_rfl) (by kernel_rfl) ?_
            refine LL.off (by kernel_rfl) (by kernel_rfl) ?_
            refine LL.off (by kernel_rfl) (by kernel_rfl) ?_
            refine LL.off (by kernel_rfl) (by kernel_rfl) ?_
            refine LL.op (.bool false) (by kernel_rfl) (fun w _ => by kernel_rfl) ?_
            refine LL.op (.bool false) (by kernel_rfl) (fun w _ => by kernel_rfl) ?_
            refine LL.off (by kernel_rfl) (by kernel_rfl) ?_
            refine LL.off (by kernel_rfl) (by kernel_rfl) ?_
            refine LL.off (by kernel_rfl) (by kernel_rfl) ?_
            refine LL.off (by kernel_rfl) (by kernel_rfl) ?_
            refine LL.op (.bool false) (by kernel_rfl) (fun w _ => by kernel_rfl) ?_
            refine LL.op (.bool false) (by kernel_rfl) (fun w _ => by kernel_rfl) ?_
            refine LL.done (s' := [(2, .bool false)]) [2] (by kernel_rfl) ?_
            refine NN.then ?_
            refine J.ret ?_
            refine NN.fin1 2 (.bool false) (by kernel_rfl) (by kernel_rfl) (.inl rfl) (fun w hi => hi.ret ?_)
            first | (cases H; rfl) | (obtain rfl := Option.some.inj H; rfl) | (simp only [Option.some.injEq, Prod.mk.injEq] at H; obtain ⟨rfl⟩ := H; rfl)
        · rw [if_neg (of_decide_eq_false c106)] at H
          refine LL.bool 36 (decide ((-600) ≤ (mn a0_0 a0_2))) false c106 (by kernel_rfl) ?_
          refine LL.off (by kernel_rfl) (by kernel_rfl) ?_
          refine LL.off (by kernel_rfl) (by kernel_rfl) ?_
          refine LL.off (by kernel_rfl) (by kernel_rfl) ?_
          refine LL.off (by kernel_rfl) (by kernel_rfl) ?_
          refine LL.off (by kernel_rfl) (by kernel_rfl) ?_
          refine LL.off (by kernel_rfl) (by kernel_rfl) ?_
          refine LL.off (by kernel_rfl) (by kernel_rfl) ?_
          refine LL.off (by kernel_rfl) (by kernel_rfl) ?_
          refine LL.op (.bool false) (by kernel_rfl) (fun w _ => by kernel_rfl) ?_
          refine LL.op (.bool false) (by kernel_rfl) (fun w _ => by kernel_rfl) ?_
          refine LL.off (by kernel_rfl) (by kernel_rfl) ?_
          refine LL.off (by kernel_rfl) (by kernel_rfl) ?_
          refine LL.off (by kernel_rfl) (by kernel_rfl) ?_
          refine LL.off (by kernel_rfl) (by kernel_rfl) ?_
          refine LL.op (.bool false) (by kernel_rfl) (fun w _ => by kernel_rfl) ?_
          refine LL.op (.bool false) (by kernel_rfl) (fun w _ => by kernel_rfl) ?_
          refine LL.off (by kernel_rfl) (by kernel_rfl) ?_
          refine LL.off (by kernel_rfl) (by kernel_rfl) ?_
          refine LL.off (by kernel_rfl) (by kernel_rfl) ?_
          refine LL.off (by kernel_rfl) (by kernel_rfl) ?_
          refine LL.op (.bool false) (by kernel_rfl) (fun w _ => by kernel_rfl) ?_
          refine LL.op (.bool false) (by kernel_rfl) (fun w _ => by kernel_rfl) ?_
          refine LL.done (s' := [(2, .bool false)]) [2] (by kernel_rfl) ?_
          refine NN.then ?_
          refine J.ret ?_
          refine NN.fin1 2 (.bool false) (by kernel_rfl) (by kernel_rfl) (.inl rfl) (fun w hi => hi.ret ?_)
          first | (cases H; rfl) | (obtain rfl := Option.some.inj H; rfl) | (simp only [Option.some.injEq, Prod.mk.injEq] at H; obtain ⟨rfl⟩ := H; rfl)

/-! ### board_Volume: function 21 -/
def board_Volume.f (a0_0 : ByteArray) (a0_1 : ByteArray) (a0_2 : ByteArray) (a0_3 : Int) (a0_4 : Int) (a0_5 : Int) (a0_6 : Int) (a0_7 : Int) (a0_8 : Int) (a0_9 : Int) (a0_10 : Int) (a0_12 : Int) (a0_13 : Int) (a0_14 : Int) (a0_15 : Int) (a0_16 : Bool) (a0_17 : Int) : Option (Int) := (board_boxed.f a0_4 a0_5 a0_6 a0_7 a0_8 a0_9).bind fun x110 => (if x110 = true then ((board_size.f a0_4 a0_5).bind fun x112 => ((board_size.f a0_6 a0_7).bind fun x113 => ((board_size.f a0_8 a0_9).bind fun x114 => (some (IntKind.i64.wrap ((IntKind.i64.wrap (x112 * x113)) * x114)))))) else (some 0))
set_option maxRecDepth 100000 in
theorem board_Volume.calls (a0_0 : ByteArray) (a0_1 : ByteArray) (a0_2 : ByteArray) (a0_3 : Int) (a0_4 : Int) (a0_5 : Int) (a0_6 : Int) (a0_7 : Int) (a0_8 : Int) (a0_9 : Int) (a0_10 : Int) (a0_12 : Int) (a0_13 : Int) (a0_14 : Int) (a0_15 : Int) (a0_16 : Bool) (a0_17 : Int)  (Aa0_11 : Option Addr) (na0_11 ca0_11 : Nat) (r1 : Int) (w : World)   (h : board_Volume.f a0_0 a0_1 a0_2 a0_3 a0_4 a0_5 a0_6 a0_7 a0_8 a0_9 a0_10 a0_12 a0_13 a0_14 a0_15 a0_16 a0_17 = some r1) :
    Calls Try.prog 21 #[.agg #[.string a0_0, .string a0_1, .string a0_2, .int .i64 a0_3, .int .i64 a0_4, .int .i64 a0_5, .int .i64 a0_6, .int .i64 a0_7, .int .i64 a0_8, .int .i64 a0_9, .int .i64 a0_10, .slice Aa0_11 na0_11 ca0_11, .int .i64 a0_12, .int .i64 a0_13, .int .i64 a0_14, .int .i64 a0_15, .bool a0_16, .int .i64 a0_17]] w (Ret w (.int .i64 r1)) := by
  have H := h
  clear h
  unfold board_Volume.f at H
  refine Go.Saw.calls (args := [.agg #[.string a0_0, .string a0_1, .string a0_2, .int .i64 a0_3, .int .i64 a0_4, .int .i64 a0_5, .int .i64 a0_6, .int .i64 a0_7, .int .i64 a0_8, .int .i64 a0_9, .int .i64 a0_10, .slice Aa0_11 na0_11 ca0_11, .int .i64 a0_12, .int .i64 a0_13, .int .i64 a0_14, .int .i64 a0_15, .bool a0_16, .int .i64 a0_17]]) Try.func21 rfl Try.ntmps21 (by kernel_rfl) ?_
  refine J.seq ?_
  refine J.plain ?_
  refine LL.box 30 (.tmp 0) [.string a0_0, .string a0_1, .string a0_2, .int .i64 a0_3, .int .i64 a0_4, .int .i64 a0_5, .int .i64 a0_6, .int .i64 a0_7, .int .i64 a0_8, .int .i64 a0_9, .int .i64 a0_10, .slice Aa0_11 na0_11 ca0_11, .int .i64 a0_12, .int .i64 a0_13, .int .i64 a0_14, .int .i64 a0_15, .bool a0_16, .int .i64 a0_17] (by kernel_rfl) rfl (by kernel_rfl) (fun g109 => ?_)
  refine LL.op (.int .i64 0) (by kernel_rfl) (fun w _ => by kernel_rfl) ?_
  refine LL.done (s' := [(1, .pointer (some ⟨g109, 0, none⟩)), (2, .int .i64 0)]) [1, 2] (by kernel_rfl) ?_
  refine NN.then ?_
  refine J.seq ?_
  refine J.seq ?_
  refine J.plain ?_
  refine LL.op (.pointer (some ⟨g109, 4, none⟩)) (by kernel_rfl) (fun w _ => by kernel_rfl) ?_
  refine LL.op (.agg #[.int .i64 a0_4, .int .i64 a0_5, .int .i64 a0_6, .int .i64 a0_7, .int .i64 a0_8, .int .i64 a0_9]) (by kernel_rfl) (ld 0 g109 4 rfl (by kernel_rfl) rfl (by kernel_rfl)) ?_
  obtain ⟨x110, hx110, H⟩ := bind_some H
  refine LL.call 33 #[.agg #[.int .i64 a0_4, .int .i64 a0_5, .int .i64 a0_6, .int .i64 a0_7, .int .i64 a0_8, .int .i64 a0_9]] (.bool x110) (by kernel_rfl) (fun w => by kernel_rfl) (fun w hw => board_boxed.calls a0_4 a0_5 a0_6 a0_7 a0_8 a0_9   _ w   hx110) ?_
  refine LL.op (.bool (!x110)) (by kernel_rfl) (fun w _ => by kernel_rfl) ?_
  refine LL.done (s' := [(1, .pointer (some ⟨g109, 0, none⟩)), (2, .int .i64 0), (6, .bool (!x110))]) [1, 2, 6] (by kernel_rfl) ?_
  refine NN.then ?_
  rcases Bool.eq_false_or_eq_true (x110) with c111 | c111
  · rw [if_pos (c111)] at H
    refine J.condF (b := !x110) (by rw [show (!x110) = !(x110) from rfl, c111]; rfl) (by kernel_rfl) (by kernel_rfl) ?_
    refine J.skip ?_
    refine NN.then ?_
    refine J.seq ?_
    refine J.drawn follows (by kernel_rfl) ?_
    refine QQ.op (.pointer (some ⟨g109, 4, none⟩)) (by kernel_rfl) (fun w _ => by kernel_rfl) ?_
    refine QQ.op (.pointer (some ⟨g109, 4, none⟩)) (by kernel_rfl) (fun w _ => by kernel_rfl) ?_
    refine QQ.op (.agg #[.int .i64 a0_4, .int .i64 a0_5]) (by kernel_rfl) (ld 0 g109 4 rfl (by kernel_rfl) rfl (by kernel_rfl)) ?_
    obtain ⟨x112, hx112, H⟩ := bind_some H
    refine QQ.call 34 #[.agg #[.int .i64 a0_4, .int .i64 a0_5]] (.int .i64 x112) (by kernel_rfl) (fun w => by kernel_rfl) (fun w hw => board_size.calls a0_4 a0_5   _ w   hx112) ?_
    refine QQ.op (.pointer (some ⟨g109, 4, none⟩)) (by kernel_rfl) (fun w _ => by kernel_rfl) ?_
    refine QQ.op (.pointer (some ⟨g109, 6, none⟩)) (by kernel_rfl) (fun w _ => by kernel_rfl) ?_
    refine QQ.op (.agg #[.int .i64 a0_6, .int .i64 a0_7]) (by kernel_rfl) (ld 0 g109 6 rfl (by kernel_rfl) rfl (by kernel_rfl)) ?_
    obtain ⟨x113, hx113, H⟩ := bind_some H
    refine QQ.call 34 #[.agg #[.int .i64 a0_6, .int .i64 a0_7]] (.int .i64 x113) (by kernel_rfl) (fun w => by kernel_rfl) (fun w hw => board_size.calls a0_6 a0_7   _ w   hx113) ?_
    refine QQ.op (.int .i64 (IntKind.i64.wrap (x112 * x113))) (by kernel_rfl) (fun w _ => by kernel_rfl) ?_
    refine QQ.op (.pointer (some ⟨g109, 4, none⟩)) (by kernel_rfl) (fun w _ => by kernel_rfl) ?_
    refine QQ.op (.pointer (some ⟨g109, 8, none⟩)) (by kernel_rfl) (fun w _ => by kernel_rfl) ?_
    refine QQ.op (.agg #[.int .i64 a0_8, .int .i64 a0_9]) (by kernel_rfl) (ld 0 g109 8 rfl (by kernel_rfl) rfl (by kernel_rfl)) ?_
    obtain ⟨x114, hx114, H⟩ := bind_some H
    refine QQ.call 34 #[.agg #[.int .i64 a0_8, .int .i64 a0_9]] (.int .i64 x114) (by kernel_rfl) (fun w => by kernel_rfl) (fun w hw => board_size.calls a0_8 a0_9   _ w   hx114) ?_
    refine QQ.op (.int .i64 (IntKind.i64.wrap ((IntKind.i64.wrap (x112 * x113)) * x114))) (by kernel_rfl) (fun w _ => by kernel_rfl) ?_
    refine QQ.op (.int .i64 (IntKind.i64.wrap ((IntKind.i64.wrap (x112 * x113)) * x114))) (by kernel_rfl) (fun w _ => by kernel_rfl) ?_
    refine QQ.done (s' := [(2, .int .i64 (IntKind.i64.wrap ((IntKind.i64.wrap (x112 * x113)) * x114)))]) [2] (by kernel_rfl) ?_
    refine NN.then ?_
    refine J.ret ?_
    refine NN.fin1 2 (.int .i64 (IntKind.i64.wrap ((IntKind.i64.wrap (x112 * x113)) * x114))) (by kernel_rfl) (by kernel_rfl) (.inl rfl) (fun w hi => hi.ret ?_)
    first | (cases H; rfl) | (obtain rfl := Option.some.inj H; rfl) | (simp only [Option.some.injEq, Prod.mk.injEq] at H; obtain ⟨rfl⟩ := H; rfl)
  · rw [if_neg (nebt c111)] at H
    refine J.condT (b := !x110) (by rw [show (!x110) = !(x110) from rfl, c111]; rfl) (by kernel_rfl) (by kernel_rfl) ?_
    refine J.seq ?_
    refine J.plain ?_
    refine LL.op (.int .i64 0) (by kernel_rfl) (fun w _ => by kernel_rfl) ?_
    refine LL.done (s' := [(1, .pointer (some ⟨g109, 0, none⟩)), (2, .int .i64 0)]) [1, 2] (by kernel_rfl) ?_
    refine NN.then ?_
    refine J.ret ?_
    refine NN.then_ret ?_
    refine NN.fin1 2 (.int .i64 0) (by kernel_rfl) (by kernel_rfl) (.inl rfl) (fun w hi => hi.ret ?_)
    first | (cases H; rfl) | (obtain rfl := Option.some.inj H; rfl) | (simp only [Option.some.injEq, Prod.mk.injEq] at H; obtain ⟨rfl⟩ := H; rfl)

/-! ### sawmilllaw39_wood: function 18 -/
def sawmilllaw39_wood.f (a0_0 : ByteArray) (a0_1 : Int) (a0_2 : Int) (a0_3 : Int) (a0_4 : Int) (a0_5 : Int) (a0_6 : Int) (a0_7 : Int) (a0_8 : Int) (a0_9 : Int) (a0_10 : Int) (a0_11 : Int) (a0_12 : Int) : Option (Bool) := if 0 ≤ a0_12 then (some (decide (a0_12 ≤ 200))) else (some false)
set_option maxRecDepth 100000 in
theorem sawmilllaw39_wood.calls (a0_0 : ByteArray) (a0_1 : Int) (a0_2 : Int) (a0_3 : Int) (a0_4 : Int) (a0_5 : Int) (a0_6 : Int) (a0_7 : Int) (a0_8 : Int) (a0_9 : Int) (a0_10 : Int) (a0_11 : Int) (a0_12 : Int)   (r1 : Bool) (w : World)   (h : sawmilllaw39_wood.f a0_0 a0_1 a0_2 a0_3 a0_4 a0_5 a0_6 a0_7 a0_8 a0_9 a0_10 a0_11 a0_12 = some r1) :
    Calls Try.prog 18 #[.agg #[.string a0_0, .int .i64 a0_1, .int .i64 a0_2, .int .i64 a0_3, .int .i64 a0_4, .int .i64 a0_5, .int .i64 a0_6, .int .i64 a0_7, .int .i64 a0_8, .int .i64 a0_9, .int .i64 a0_10, .int .i64 a0_11, .int .i64 a0_12]] w (Ret w (.bool r1)) := by
  have H := h
  clear h
  unfold sawmilllaw39_wood.f at H
  refine Go.Saw.calls (args := [.agg #[.string a0_0, .int .i64 a0_1, .int .i64 a0_2, .int .i64 a0_3, .int .i64 a0_4, .int .i64 a0_5, .int .i64 a0_6, .int .i64 a0_7, .int .i64 a0_8, .int .i64 a0_9, .int .i64 a0_10, .int .i64 a0_11, .int .i64 a0_12]]) Try.func18 rfl Try.ntmps18 (by kernel_rfl) ?_
  refine J.seq ?_
  refine J.plain ?_
  refine LL.box 35 (.tmp 0) [.string a0_0, .int .i64 a0_1, .int .i64 a0_2, .int .i64 a0_3, .int .i64 a0_4, .int .i64 a0_5, .int .i64 a0_6, .int .i64 a0_7, .int .i64 a0_8, .int .i64 a0_9, .int .i64 a0_10, .int .i64 a0_11, .int .i64 a0_12] (by kernel_rfl) rfl (by kernel_rfl) (fun g115 => ?_)
  refine LL.op (.bool false) (by kernel_rfl) (fun w _ => by kernel_rfl) ?_
  refine LL.done (s' := [(1, .pointer (some ⟨g115, 0, none⟩)), (2, .bool false)]) [1, 2] (by kernel_rfl) ?_
  refine NN.then ?_
  refine J.seq ?_
  refine J.plain ?_
  refine LL.op (.pointer (some ⟨g115, 12, none⟩)) (by kernel_rfl) (fun w _ => by kernel_rfl) ?_
  refine LL.op (.int .i64 a0_12) (by kernel_rfl) (ld 0 g115 12 rfl (by kernel_rfl) rfl (by kernel_rfl)) ?_
  refine LL.op (.bool (decide (0 ≤ a0_12))) (by kernel_rfl) (fun w _ => by kernel_rfl) ?_
  refine LL.op (.bool (decide (0 ≤ a0_12))) (by kernel_rfl) (fun w _ => by kernel_rfl) ?_
  rcases Bool.eq_false_or_eq_true (decide (0 ≤ a0_12)) with c116 | c116
  · rw [if_pos (of_decide_eq_true c116)] at H
    refine LL.bool 6 (decide (0 ≤ a0_12)) true c116 (by kernel_rfl) ?_
    refine LL.op (.pointer (some ⟨g115, 12, none⟩)) (by kernel_rfl) (fun w _ => by kernel_rfl) ?_
    refine LL.op (.int .i64 a0_12) (by kernel_rfl) (ld 0 g115 12 rfl (by kernel_rfl) rfl (by kernel_rfl)) ?_
    refine LL.op (.bool (decide (a0_12 ≤ 200))) (by kernel_rfl) (fun w _ => by kernel_rfl) ?_
    refine LL.op (.bool (decide (a0_12 ≤ 200))) (by kernel_rfl) (fun w _ => by kernel_rfl) ?_
    refine LL.op (.bool (decide (a0_12 ≤ 200))) (by kernel_rfl) (fun w _ => by kernel_rfl) ?_
    refine LL.done (s' := [(2, .bool (decide (a0_12 ≤ 200)))]) [2] (by kernel_rfl) ?_
    refine NN.then ?_
    refine J.ret ?_
    refine NN.fin1 2 (.bool (decide (a0_12 ≤ 200))) (by kernel_rfl) (by kernel_rfl) (.inl rfl) (fun w hi => hi.ret ?_)
    first | (cases H; rfl) | (obtain rfl := Option.some.inj H; rfl) | (simp only [Option.some.injEq, Prod.mk.injEq] at H; obtain ⟨rfl⟩ := H; rfl)
  · rw [if_neg (of_decide_eq_false c116)] at H
    refine LL.bool 6 (decide (0 ≤ a0_12)) false c116 (by kernel_rfl) ?_
    refine LL.off (by kernel_rfl) (by kernel_rfl) ?_
    refine LL.off (by kernel_rfl) (by kernel_rfl) ?_
    refine LL.off (by kernel_rfl) (by kernel_rfl) ?_
    refine LL.op (.bool false) (by kernel_rfl) (fun w _ => by kernel_rfl) ?_
    refine LL.op (.bool false) (by kernel_rfl) (fun w _ => by kernel_rfl) ?_
    refine LL.done (s' := [(2, .bool false)]) [2] (by kernel_rfl) ?_
    refine NN.then ?_
    refine J.ret ?_
    refine NN.fin1 2 (.bool false) (by kernel_rfl) (by kernel_rfl) (.inl rfl) (fun w hi => hi.ret ?_)
    first | (cases H; rfl) | (obtain rfl := Option.some.inj H; rfl) | (simp only [Option.some.injEq, Prod.mk.injEq] at H; obtain ⟨rfl⟩ := H; rfl)

/-! ### sawmillref19_sized: function 41 -/
def sawmillref19_sized.f (a0_0 : ByteArray) (a0_1 : Int) (a0_2 : Int) (a0_3 : Int) (a0_4 : Int) : Option (Bool) := if 1 ≤ a0_1 then (if a0_1 ≤ 600 then (if 1 ≤ a0_2 then (some (decide (a0_2 ≤ 600))) else (some false)) else (some false)) else (some false)
set_option maxRecDepth 100000 in
theorem sawmillref19_sized.calls (a0_0 : ByteArray) (a0_1 : Int) (a0_2 : Int) (a0_3 : Int) (a0_4 : Int)  (Aa0_5 : Option Addr) (na0_5 ca0_5 : Nat) (Aa0_6 : Option Addr) (na0_6 ca0_6 : Nat) (r1 : Bool) (w : World)   (h : sawmillref19_sized.f a0_0 a0_1 a0_2 a0_3 a0_4 = some r1) :
    Calls Try.prog 41 #[.agg #[.string a0_0, .int .i64 a0_1, .int .i64 a0_2, .int .i64 a0_3, .int .i64 a0_4, .slice Aa0_5 na0_5 ca0_5, .slice Aa0_6 na0_6 ca0_6]] w (Ret w (.bool r1)) := by
  have H := h
  clear h
  unfold sawmillref19_sized.f at H
  refine Go.Saw.calls (args := [.agg #[.string a0_0, .int .i64 a0_1, .int .i64 a0_2, .int .i64 a0_3, .int .i64 a0_4, .slice Aa0_5 na0_5 ca0_5, .slice Aa0_6 na0_6 ca0_6]]) Try.func41 rfl Try.ntmps41 (by kernel_rfl) ?_
  refine J.seq ?_
  refine J.plain ?_
  refine LL.box 33 (.tmp 0) [.string a0_0, .int .i64 a0_1, .int .i64 a0_2, .int .i64 a0_3, .int .i64 a0_4, .slice Aa0_5 na0_5 ca0_5, .slice Aa0_6 na0_6 ca0_6] (by kernel_rfl) rfl (by kernel_rfl) (fun g117 => ?_)
  refine LL.op (.bool false) (by kernel_rfl) (fun w _ => by kernel_rfl) ?_
  refine LL.done (s' := [(1, .pointer (some ⟨g117, 0, none⟩)), (2, .bool false)]) [1, 2] (by kernel_rfl) ?_
  refine NN.then ?_
  refine J.seq ?_
  refine J.plain ?_
  refine LL.op (.pointer (some ⟨g117, 1, none⟩)) (by kernel_rfl) (fun w _ => by kernel_rfl) ?_
  refine LL.op (.int .i64 a0_1) (by kernel_rfl) (ld 0 g117 1 rfl (by kernel_rfl) rfl (by kernel_rfl)) ?_
  refine LL.op (.bool (decide (1 ≤ a0_1))) (by kernel_rfl) (fun w _ => by kernel_rfl) ?_
  refine LL.op (.bool (decide (1 ≤ a0_1))) (by kernel_rfl) (fun w _ => by kernel_rfl) ?_
  rcases Bool.eq_false_or_eq_true (decide (1 ≤ a0_1)) with c118 | c118
  · rw [if_pos (of_decide_eq_true c118)] at H
    refine LL.bool 6 (decide (1 ≤ a0_1)) true c118 (by kernel_rfl) ?_
    refine LL.op (.pointer (some ⟨g117, 1, none⟩)) (by kernel_rfl) (fun w _ => by kernel_rfl) ?_
    refine LL.op (.int .i64 a0_1) (by kernel_rfl) (ld 0 g117 1 rfl (by kernel_rfl) rfl (by kernel_rfl)) ?_
    refine LL.op (.bool (decide (a0_1 ≤ 600))) (by kernel_rfl) (fun w _ => by kernel_rfl) ?_
    refine LL.op (.bool (decide (a0_1 ≤ 600))) (by kernel_rfl) (fun w _ => by kernel_rfl) ?_
    refine LL.op (.bool (decide (a0_1 ≤ 600))) (by kernel_rfl) (fun w _ => by kernel_rfl) ?_
    rcases Bool.eq_false_or_eq_true (decide (a0_1 ≤ 600)) with c119 | c119
    · rw [if_pos (of_decide_eq_true c119)] at H
      refine LL.bool 11 (decide (a0_1 ≤ 600)) true c119 (by kernel_rfl) ?_
      refine LL.op (.pointer (some ⟨g117, 2, none⟩)) (by kernel_rfl) (fun w _ => by kernel_rfl) ?_
      refine LL.op (.int .i64 a0_2) (by kernel_rfl) (ld 0 g117 2 rfl (by kernel_rfl) rfl (by kernel_rfl)) ?_
      refine LL.op (.bool (decide (1 ≤ a0_2))) (by kernel_rfl) (fun w _ => by kernel_rfl) ?_
      refine LL.op (.bool (decide (1 ≤ a0_2))) (by kernel_rfl) (fun w _ => by kernel_rfl) ?_
      refine LL.op (.bool (decide (1 ≤ a0_2))) (by kernel_rfl) (fun w _ => by kernel_rfl) ?_
      rcases Bool.eq_false_or_eq_true (decide (1 ≤ a0_2)) with c120 | c120
      · rw [if_pos (of_decide_eq_true c120)] at H
        refine LL.bool 16 (decide (1 ≤ a0_2)) true c120 (by kernel_rfl) ?_
        refine LL.op (.pointer (some ⟨g117, 2, none⟩)) (by kernel_rfl) (fun w _ => by kernel_rfl) ?_
        refine LL.op (.int .i64 a0_2) (by kernel_rfl) (ld 0 g117 2 rfl (by kernel_rfl) rfl (by kernel_rfl)) ?_
        refine LL.op (.bool (decide (a0_2 ≤ 600))) (by kernel_rfl) (fun w _ => by kernel_rfl) ?_
        refine LL.op (.bool (decide (a0_2 ≤ 600))) (by kernel_rfl) (fun w _ => by kernel_rfl) ?_
        refine LL.op (.bool (decide (a0_2 ≤ 600))) (by kernel_rfl) (fun w _ => by kernel_rfl) ?_
        refine LL.done (s' := [(2, .bool (decide (a0_2 ≤ 600)))]) [2] (by kernel_rfl) ?_
        refine NN.then ?_
        refine J.ret ?_
        refine NN.fin1 2 (.bool (decide (a0_2 ≤ 600))) (by kernel_rfl) (by kernel_rfl) (.inl rfl) (fun w hi => hi.ret ?_)
        first | (cases H; rfl) | (obtain rfl := Option.some.inj H; rfl) | (simp only [Option.some.injEq, Prod.mk.injEq] at H; obtain ⟨rfl⟩ := H; rfl)
      · rw [if_neg (of_decide_eq_false c120)] at H
        refine LL.bool 16 (decide (1 ≤ a0_2)) false c120 (by kernel_rfl) ?_
        refine LL.off (by kernel_rfl) (by kernel_rfl) ?_
        refine LL.off (by kernel_rfl) (by kernel_rfl) ?_
        refine LL.off (by kernel_rfl) (by kernel_rfl) ?_
        refine LL.op (.bool false) (by kernel_rfl) (fun w _ => by kernel_rfl) ?_
        refine LL.op (.bool false) (by kernel_rfl) (fun w _ => by kernel_rfl) ?_
        refine LL.done (s' := [(2, .bool false)]) [2] (by kernel_rfl) ?_
        refine NN.then ?_
        refine J.ret ?_
        refine NN.fin1 2 (.bool false) (by kernel_rfl) (by kernel_rfl) (.inl rfl) (fun w hi => hi.ret ?_)
        first | (cases H; rfl) | (obtain rfl := Option.some.inj H; rfl) | (simp only [Option.some.injEq, Prod.mk.injEq] at H; obtain ⟨rfl⟩ := H; rfl)
    · rw [if_neg (of_decide_eq_false c119)] at H
      refine LL.bool 11 (decide (a0_1 ≤ 600)) false c119 (by kernel_rfl) ?_
      refine LL.off (by kernel_rfl) (by kernel_rfl) ?_
      refine LL.off (by kernel_rfl) (by kernel_rfl) ?_
      refine LL.off (by kernel_rfl) (by kernel_rfl) ?_
      refine LL.op (.bool false) (by kernel_rfl) (fun w _ => by kernel_rfl) ?_
      refine LL.op (.bool false) (by kernel_rfl) (fun w _ => by kernel_rfl) ?_
      refine LL.off (by kernel_rfl) (by kernel_rfl) ?_
      refine LL.off (by kernel_rfl) (by kernel_rfl) ?_
      refine LL.off (by kernel_rfl) (by kernel_rfl) ?_
      refine LL.op (.bool false) (by kernel_rfl) (fun w _ => by kernel_rfl) ?_
      refine LL.op (.bool false) (by kernel_rfl) (fun w _ => by kernel_rfl) ?_
      refine LL.done (s' := [(2, .bool false)]) [2] (by kernel_rfl) ?_
      refine NN.then ?_
      refine J.ret ?_
      refine NN.fin1 2 (.bool false) (by kernel_rfl) (by kernel_rfl) (.inl rfl) (fun w hi => hi.ret ?_)
      first | (cases H; rfl) | (obtain rfl := Option.some.inj H; rfl) | (simp only [Option.some.injEq, Prod.mk.injEq] at H; obtain ⟨rfl⟩ := H; rfl)
  · rw [if_neg (of_decide_eq_false c118)] at H
    refine LL.bool 6 (decide (1 ≤ a0_1)) false c118 (by kernel_rfl) ?_
    refine LL.off (by kernel_rfl) (by kernel_rfl) ?_
    refine LL.off (by kernel_rfl) (by kernel_rfl) ?_
    refine LL.off (by kernel_rfl) (by kernel_rfl) ?_
    refine LL.op (.bool false) (by kernel_rfl) (fun w _ => by kernel_rfl) ?_
    refine LL.op (.bool false) (by kernel_rfl) (fun w _ => by kernel_rfl) ?_
    refine LL.off (by kernel_rfl) (by kernel_rfl) ?_
    refine LL.off (by kernel_rfl) (by kernel_rfl) ?_
    refine LL.off (by kernel_rfl) (by kernel_rfl) ?_
    refine LL.op (.bool false) (by kernel_rfl) (fun w _ => by kernel_rfl) ?_
    refine LL.op (.bool false) (by kernel_rfl) (fun w _ => by kernel_rfl) ?_
    refine LL.off (by kernel_rfl) (by kernel_rfl) ?_
    refine LL.off (by kernel_rfl) (by kernel_rfl) ?_
    refine LL.off (by kernel_rfl) (by kernel_rfl) ?_
    refine LL.op (.bool false) (by kernel_rfl) (fun w _ => by kernel_rfl) ?_
    refine LL.op (.bool false) (by kernel_rfl) (fun w _ => by kernel_rfl) ?_
    refine LL.done (s' := [(2, .bool false)]) [2] (by kernel_rfl) ?_
    refine NN.then ?_
    refine J.ret ?_
    refine NN.fin1 2 (.bool false) (by kernel_rfl) (by kernel_rfl) (.inl rfl) (fun w hi => hi.ret ?_)
    first | (cases H; rfl) | (obtain rfl := Option.some.inj H; rfl) | (simp only [Option.some.injEq, Prod.mk.injEq] at H; obtain ⟨rfl⟩ := H; rfl)

/-! ### sawmillref19_Green: function 31 -/
def sawmillref19_Green.f (a0_0 : ByteArray) (a0_1 : Int) (a0_2 : Int) (a0_3 : Int) (a0_4 : Int) : Option (Int × Int) := (sawmillref19_sized.f a0_0 a0_1 a0_2 a0_3 a0_4).bind fun x122 => (if x122 = true then (if a0_3 < 0 then (some (0, 0)) else (if 200 < a0_3 then (some (0, 0)) else (some (IntKind.i64.wrap (Int.tdiv (IntKind.i64.wrap ((IntKind.i64.wrap (a0_1 * (IntKind.i64.wrap (1000 + a0_3)))) + 999)) 1000), IntKind.i64.wrap (Int.tdiv (IntKind.i64.wrap ((IntKind.i64.wrap (a0_2 * (IntKind.i64.wrap (1000 + a0_3)))) + 999)) 1000))))) else (some (0, 0)))
set_option maxRecDepth 100000 in
theorem sawmillref19_Green.calls (a0_0 : ByteArray) (a0_1 : Int) (a0_2 : Int) (a0_3 : Int) (a0_4 : Int)  (Aa0_5 : Option Addr) (na0_5 ca0_5 : Nat) (Aa0_6 : Option Addr) (na0_6 ca0_6 : Nat) (r1 : Int) (r2 : Int) (w : World)   (h : sawmillref19_Green.f a0_0 a0_1 a0_2 a0_3 a0_4 = some (r1, r2)) :
    Calls Try.prog 31 #[.agg #[.string a0_0, .int .i64 a0_1, .int .i64 a0_2, .int .i64 a0_3, .int .i64 a0_4, .slice Aa0_5 na0_5 ca0_5, .slice Aa0_6 na0_6 ca0_6]] w (Ret w (.tuple #[.int .i64 r1, .int .i64 r2])) := by
  have H := h
  clear h
  unfold sawmillref19_Green.f at H
  refine Go.Saw.calls (args := [.agg #[.string a0_0, .int .i64 a0_1, .int .i64 a0_2, .int .i64 a0_3, .int .i64 a0_4, .slice Aa0_5 na0_5 ca0_5, .slice Aa0_6 na0_6 ca0_6]]) Try.func31 rfl Try.ntmps31 (by kernel_rfl) ?_
  refine J.seq ?_
  refine J.plain ?_
  refine LL.box 33 (.tmp 0) [.string a0_0, .int .i64 a0_1, .int .i64 a0_2, .int .i64 a0_3, .int .i64 a0_4, .slice Aa0_5 na0_5 ca0_5, .slice Aa0_6 na0_6 ca0_6] (by kernel_rfl) rfl (by kernel_rfl) (fun g121 => ?_)
  refine LL.op (.int .i64 0) (by kernel_rfl) (fun w _ => by kernel_rfl) ?_
  refine LL.op (.int .i64 0) (by kernel_rfl) (fun w _ => by kernel_rfl) ?_
  refine LL.done (s' := [(1, .pointer (some ⟨g121, 0, none⟩)), (2, .int .i64 0), (3, .int .i64 0)]) [1, 2, 3] (by kernel_rfl) ?_
  refine NN.then ?_
  refine J.seq ?_
  refine J.seq ?_
  refine J.plain ?_
  refine LL.op (.agg #[.string a0_0, .int .i64 a0_1, .int .i64 a0_2, .int .i64 a0_3, .int .i64 a0_4, .slice Aa0_5 na0_5 ca0_5, .slice Aa0_6 na0_6 ca0_6]) (by kernel_rfl) (ld 0 g121 0 rfl (by kernel_rfl) rfl (by kernel_rfl)) ?_
  obtain ⟨x122, hx122, H⟩ := bind_some H
  refine LL.call 41 #[.agg #[.string a0_0, .int .i64 a0_1, .int .i64 a0_2, .int .i64 a0_3, .int .i64 a0_4, .slice Aa0_5 na0_5 ca0_5, .slice Aa0_6 na0_6 ca0_6]] (.bool x122) (by kernel_rfl) (fun w => by kernel_rfl) (fun w hw => sawmillref19_sized.calls a0_0 a0_1 a0_2 a0_3 a0_4  _ _ _ _ _ _ _ w   hx122) ?_
  refine LL.op (.bool (!x122)) (by kernel_rfl) (fun w _ => by kernel_rfl) ?_
  refine LL.op (.bool (!x122)) (by kernel_rfl) (fun w _ => by kernel_rfl) ?_
  rcases Bool.eq_false_or_eq_true (x122) with c123 | c123
  · rw [if_pos (c123)] at H
    refine LL.bool 7 (!x122) false (by rw [show (!x122) = !(x122) from rfl, c123]; rfl) (by kernel_rfl) ?_
    refine LL.op (.pointer (some ⟨g121, 3, none⟩)) (by kernel_rfl) (fun w _ => by kernel_rfl) ?_
    refine LL.op (.int .i64 a0_3) (by kernel_rfl) (ld 0 g121 3 rfl (by kernel_rfl) rfl (by kernel_rfl)) ?_
    refine LL.op (.bool (decide (a0_3 < 0))) (by kernel_rfl) (fun w _ => by kernel_rfl) ?_
    refine LL.op (.bool (decide (a0_3 < 0))) (by kernel_rfl) (fun w _ => by kernel_rfl) ?_
    refine LL.op (.bool (decide (a0_3 < 0))) (by kernel_rfl) (fun w _ => by kernel_rfl) ?_
    rcases Bool.eq_false_or_eq_true (decide (a0_3 < 0)) with c124 | c124
    · rw [if_pos (of_decide_eq_true c124)] at H
      refine LL.bool 12 (decide (a0_3 < 0)) true c124 (by kernel_rfl) ?_
      refine LL.off (by kernel_rfl) (by kernel_rfl) ?_
      refine LL.off (by kernel_rfl) (by kernel_rfl) ?_
      refine LL.off (by kernel_rfl) (by kernel_rfl) ?_
      refine LL.op (.bool true) (by kernel_rfl) (fun w _ => by kernel_rfl) ?_
      refine LL.done (s' := [(1, .pointer (some ⟨g121, 0, none⟩)), (2, .int .i64 0), (3, .int .i64 0), (16, .bool true)]) [1, 2, 3, 16] (by kernel_rfl) ?_
      refine NN.then ?_
      refine J.condT (b := true) rfl (by kernel_rfl) (by kernel_rfl) ?_
      refine J.seq ?_
      refine J.plain ?_
      refine LL.op (.int .i64 0) (by kernel_rfl) (fun w _ => by kernel_rfl) ?_
      refine LL.op (.int .i64 0) (by kernel_rfl) (fun w _ => by kernel_rfl) ?_
      refine LL.done (s' := [(1, .pointer (some ⟨g121, 0, none⟩)), (2, .int .i64 0), (3, .int .i64 0)]) [1, 2, 3] (by kernel_rfl) ?_
      refine NN.then ?_
      refine J.ret ?_
      refine NN.then_ret ?_
      refine NN.fin2 2 3 (.int .i64 0) (.int .i64 0) (by kernel_rfl) (by kernel_rfl) (by kernel_rfl) (.inl rfl) (fun w hi => hi.ret ?_)
      first | (cases H; rfl) | (obtain rfl := Option.some.inj H; rfl) | (simp only [Option.some.injEq, Prod.mk.injEq] at H; obtain ⟨rfl, rfl⟩ := H; rfl)
    · rw [if_neg (of_decide_eq_false c124)] at H
      refine LL.bool 12 (decide (a0_3 < 0)) false c124 (by kernel_rfl) ?_
      refine LL.op (.pointer (some ⟨g121, 3, none⟩)) (by kernel_rfl) (fun w _ => by kernel_rfl) ?_
      refine LL.op (.int .i64 a0_3) (by kernel_rfl) (ld 0 g121 3 rfl (by kernel_rfl) rfl (by kernel_rfl)) ?_
      refine LL.op (.bool (decide (200 < a0_3))) (by kernel_rfl) (fun w _ => by kernel_rfl) ?_
      refine LL.op (.bool (decide (200 < a0_3))) (by kernel_rfl) (fun w _ => by kernel_rfl) ?_
      refine LL.done (s' := [(1, .pointer (some ⟨g121, 0, none⟩)), (2, .int .i64 0), (3, .int .i64 0), (16, .bool (decide (200 < a0_3)))]) [1, 2, 3, 16] (by kernel_rfl) ?_
      refine NN.then ?_
      rcases Bool.eq_false_or_eq_true (decide (200 < a0_3)) with c125 | c125
      · rw [if_pos (of_decide_eq_true c125)] at H
        refine J.condT (b := decide (200 < a0_3)) c125 (by kernel_rfl) (by kernel_rfl) ?_
        refine J.seq ?_
        refine J.plain ?_
        refine LL.op (.int .i64 0) (by kernel_rfl) (fun w _ => by kernel_rfl) ?_
        refine LL.op (.int .i64 0) (by kernel_rfl) (fun w _ => by kernel_rfl) ?_
        refine LL.done (s' := [(1, .pointer (some ⟨g121, 0, none⟩)), (2, .int .i64 0), (3, .int .i64 0)]) [1, 2, 3] (by kernel_rfl) ?_
        refine NN.then ?_
        refine J.ret ?_
        refine NN.then_ret ?_
        refine NN.fin2 2 3 (.int .i64 0) (.int .i64 0) (by kernel_rfl) (by kernel_rfl) (by kernel_rfl) (.inl rfl) (fun w hi => hi.ret ?_)
        first | (cases H; rfl) | (obtain rfl := Option.some.inj H; rfl) | (simp only [Option.some.injEq, Prod.mk.injEq] at H; obtain ⟨rfl, rfl⟩ := H; rfl)
      · rw [if_neg (of_decide_eq_false c125)] at H
        refine J.condF (b := decide (200 < a0_3)) c125 (by kernel_rfl) (by kernel_rfl) ?_
        refine J.skip ?_
        refine NN.then ?_
        refine J.seq ?_
        refine J.drawn follows (by kernel_rfl) ?_
        refine QQ.op (.pointer (some ⟨g121, 1, none⟩)) (by kernel_rfl) (fun w _ => by kernel_rfl) ?_
        refine QQ.op (.int .i64 a0_1) (by kernel_rfl) (ld 0 g121 1 rfl (by kernel_rfl) rfl (by kernel_rfl)) ?_
        refine QQ.op (.pointer (some ⟨g121, 3, none⟩)) (by kernel_rfl) (fun w _ => by kernel_rfl) ?_
        refine QQ.op (.int .i64 a0_3) (by kernel_rfl) (ld 0 g121 3 rfl (by kernel_rfl) rfl (by kernel_rfl)) ?_
        refine QQ.op (.int .i64 (IntKind.i64.wrap (1000 + a0_3))) (by kernel_rfl) (fun w _ => by kernel_rfl) ?_
        refine QQ.op (.int .i64 (IntKind.i64.wrap (a0_1 * (IntKind.i64.wrap (1000 + a0_3))))) (by kernel_rfl) (fun w _ => by kernel_rfl) ?_
        refine QQ.op (.int .i64 (IntKind.i64.wrap ((IntKind.i64.wrap (a0_1 * (IntKind.i64.wrap (1000 + a0_3)))) + 999))) (by kernel_rfl) (fun w _ => by kernel_rfl) ?_
        refine QQ.op (.int .i64 (IntKind.i64.wrap (Int.tdiv (IntKind.i64.wrap ((IntKind.i64.wrap (a0_1 * (IntKind.i64.wrap (1000 + a0_3)))) + 999)) 1000))) (by kernel_rfl) (fun w _ => by kernel_rfl) ?_
        refine QQ.op (.pointer (some ⟨g121, 2, none⟩)) (by kernel_rfl) (fun w _ => by kernel_rfl) ?_
        refine QQ.op (.int .i64 a0_2) (by kernel_rfl) (ld 0 g121 2 rfl (by kernel_rfl) rfl (by kernel_rfl)) ?_
        refine QQ.op (.pointer (some ⟨g121, 3, none⟩)) (by kernel_rfl) (fun w _ => by kernel_rfl) ?_
        refine QQ.op (.int .i64 a0_3) (by kernel_rfl) (ld 0 g121 3 rfl (by kernel_rfl) rfl (by kernel_rfl)) ?_
        refine QQ.op (.int .i64 (IntKind.i64.wrap (1000 + a0_3))) (by kernel_rfl) (fun w _ => by kernel_rfl) ?_
        refine QQ.op (.int .i64 (IntKind.i64.wrap (a0_2 * (IntKind.i64.wrap (1000 + a0_3))))) (by kernel_rfl) (fun w _ => by kernel_rfl) ?_
        refine QQ.op (.int .i64 (IntKind.i64.wrap ((IntKind.i64.wrap (a0_2 * (IntKind.i64.wrap (1000 + a0_3)))) + 999))) (by kernel_rfl) (fun w _ => by kernel_rfl) ?_
        refine QQ.op (.int .i64 (IntKind.i64.wrap (Int.tdiv (IntKind.i64.wrap ((IntKind.i64.wrap (a0_2 * (IntKind.i64.wrap (1000 + a0_3)))) + 999)) 1000))) (by kernel_rfl) (fun w _ => by kernel_rfl) ?_
        refine QQ.op (.int .i64 (IntKind.i64.wrap (Int.tdiv (IntKind.i64.wrap ((IntKind.i64.wrap (a0_1 * (IntKind.i64.wrap (1000 + a0_3)))) + 999)) 1000))) (by kernel_rfl) (fun w _ => by kernel_rfl) ?_
        refine QQ.op (.int .i64 (IntKind.i64.wrap (Int.tdiv (IntKind.i64.wrap ((IntKind.i64.wrap (a0_2 * (IntKind.i64.wrap (1000 + a0_3)))) + 999)) 1000))) (by kernel_rfl) (fun w _ => by kernel_rfl) ?_
        refine QQ.done (s' := [(2, .int .i64 (IntKind.i64.wrap (Int.tdiv (IntKind.i64.wrap ((IntKind.i64.wrap (a0_1 * (IntKind.i64.wrap (1000 + a0_3)))) + 999)) 1000))), (3, .int .i64 (IntKind.i64.wrap (Int.tdiv (IntKind.i64.wrap ((IntKind.i64.wrap (a0_2 * (IntKind.i64.wrap (1000 + a0_3)))) + 999)) 1000)))]) [2, 3] (by kernel_rfl) ?_
        refine NN.then ?_
        refine J.ret ?_
        refine NN.fin2 2 3 (.int .i64 (IntKind.i64.wrap (Int.tdiv (IntKind.i64.wrap ((IntKind.i64.wrap (a0_1 * (IntKind.i64.wrap (1000 + a0_3)))) + 999)) 1000))) (.int .i64 (IntKind.i64.wrap (Int.tdiv (IntKind.i64.wrap ((IntKind.i64.wrap (a0_2 * (IntKind.i64.wrap (1000 + a0_3)))) + 999)) 1000))) (by kernel_rfl) (by kernel_rfl) (by kernel_rfl) (.inl rfl) (fun w hi => hi.ret ?_)
        first | (cases H; rfl) | (obtain rfl := Option.some.inj H; rfl) | (simp only [Option.some.injEq, Prod.mk.injEq] at H; obtain ⟨rfl, rfl⟩ := H; rfl)
  · rw [if_neg (nebt c123)] at H
    refine LL.bool 7 (!x122) true (by rw [show (!x122) = !(x122) from rfl, c123]; rfl) (by kernel_rfl) ?_
    refine LL.off (by kernel_rfl) (by kernel_rfl) ?_
    refine LL.off (by kernel_rfl) (by kernel_rfl) ?_
    refine LL.off (by kernel_rfl) (by kernel_rfl) ?_
    refine LL.op (.bool true) (by kernel_rfl) (fun w _ => by kernel_rfl) ?_
    refine LL.op (.bool true) (by kernel_rfl) (fun w _ => by kernel_rfl) ?_
    refine LL.off (by kernel_rfl) (by kernel_rfl) ?_
    refine LL.off (by kernel_rfl) (by kernel_rfl) ?_
    refine LL.off (by kernel_rfl) (by kernel_rfl) ?_
    refine LL.op (.bool true) (by kernel_rfl) (fun w _ => by kernel_rfl) ?_
    refine LL.done (s' := [(1, .pointer (some ⟨g121, 0, none⟩)), (2, .int .i64 0), (3, .int .i64 0), (16, .bool true)]) [1, 2, 3, 16] (by kernel_rfl) ?_
    refine NN.then ?_
    refine J.condT (b := true) rfl (by kernel_rfl) (by kernel_rfl) ?_
    refine J.seq ?_
    refine J.plain ?_
    refine LL.op (.int .i64 0) (by kernel_rfl) (fun w _ => by kernel_rfl) ?_
    refine LL.op (.int .i64 0) (by kernel_rfl) (fun w _ => by kernel_rfl) ?_
    refine LL.done (s' := [(1, .pointer (some ⟨g121, 0, none⟩)), (2, .int .i64 0), (3, .int .i64 0)]) [1, 2, 3] (by kernel_rfl) ?_
    refine NN.then ?_
    refine J.ret ?_
    refine NN.then_ret ?_
    refine NN.fin2 2 3 (.int .i64 0) (.int .i64 0) (by kernel_rfl) (by kernel_rfl) (by kernel_rfl) (.inl rfl) (fun w hi => hi.ret ?_)
    first | (cases H; rfl) | (obtain rfl := Option.some.inj H; rfl) | (simp only [Option.some.injEq, Prod.mk.injEq] at H; obtain ⟨rfl, rfl⟩ := H; rfl)

/-! ### units_Floor_1: function 42 -/
def units_Floor_1.f (a0 : Int) (a1 : Int) : Option (Bool) := some false
set_option maxRecDepth 100000 in
theorem units_Floor_1.calls (a0 : Int) (a1 : Int)   (r1 : Bool) (w : World)   (h : units_Floor_1.f a0 a1 = some r1) :
    Calls Try.prog 42 #[.int .i64 a0, .int .i64 a1] w (Ret w (.bool r1)) := by
  have H := h
  clear h
  unfold units_Floor_1.f at H
  refine Go.Saw.calls (args := [.int .i64 a0, .int .i64 a1]) Try.func42 rfl Try.ntmps42 (by kernel_rfl) ?_
  refine J.seq ?_
  refine J.plain ?_
  refine LL.op (.bool false) (by kernel_rfl) (fun w _ => by kernel_rfl) ?_
  refine LL.done (s' := [(4, .bool false)]) [4] (by kernel_rfl) ?_
  refine NN.then ?_
  refine J.seq ?_
  refine J.plain ?_
  refine LL.op (.bool false) (by kernel_rfl) (fun w _ => by kernel_rfl) ?_
  refine LL.done (s' := [(4, .bool false)]) [4] (by kernel_rfl) ?_
  refine NN.then ?_
  refine J.ret ?_
  refine NN.fin1 4 (.bool false) (by kernel_rfl) (by kernel_rfl) (.inl rfl) (fun w hi => hi.ret ?_)
  first | (cases H; rfl) | (obtain rfl := Option.some.inj H; rfl) | (simp only [Option.some.injEq, Prod.mk.injEq] at H; obtain ⟨rfl⟩ := H; rfl)

/-! ### sawmilllaw39_sample: function 30 -/
def sawmilllaw39_sample.f  : Option (ByteArray × Int × Int × Int × Int × Int × Int × Int × Int × Int × Int × Int × Int × ByteArray × Int × Int × Int × Int × ByteArray × ByteArray × ByteArray × Int × Int × Int × Int × Int × Int × Int × Int × Int × Int × Int × Int × Bool × Int) := some ((⟨#[]⟩ : ByteArray), 0, 0, 0, 0, 0, 0, 0, 0, 0, 0, 0, 65, (⟨#[112]⟩ : ByteArray), 40, 100, 0, 0, (⟨#[]⟩ : ByteArray), (⟨#[]⟩ : ByteArray), (⟨#[]⟩ : ByteArray), 0, 0, 105, 0, 42, 0, 2000, 0, 0, 1200, 1200, 0, false, 0)
set_option maxRecDepth 100000 in
theorem sawmilllaw39_sample.calls    (r1 : ByteArray) (r2 : Int) (r3 : Int) (r4 : Int) (r5 : Int) (r6 : Int) (r7 : Int) (r8 : Int) (r9 : Int) (r10 : Int) (r11 : Int) (r12 : Int) (r13 : Int) (r14 : ByteArray) (r15 : Int) (r16 : Int) (r17 : Int) (r18 : Int) (r19 : ByteArray) (r20 : ByteArray) (r21 : ByteArray) (r22 : Int) (r23 : Int) (r24 : Int) (r25 : Int) (r26 : Int) (r27 : Int) (r28 : Int) (r29 : Int) (r30 : Int) (r31 : Int) (r32 : Int) (r33 : Int) (r34 : Bool) (r35 : Int) (w : World)   (h : sawmilllaw39_sample.f  = some (r1, r2, r3, r4, r5, r6, r7, r8, r9, r10, r11, r12, r13, r14, r15, r16, r17, r18, r19, r20, r21, r22, r23, r24, r25, r26, r27, r28, r29, r30, r31, r32, r33, r34, r35)) :
    Calls Try.prog 30 #[] w (Ret w (.tuple #[.agg #[.string r1, .int .i64 r2, .int .i64 r3, .int .i64 r4, .int .i64 r5, .int .i64 r6, .int .i64 r7, .int .i64 r8, .int .i64 r9, .int .i64 r10, .int .i64 r11, .int .i64 r12, .int .i64 r13], .agg #[.string r14, .int .i64 r15, .int .i64 r16, .int .i64 r17, .int .i64 r18, .slice none 0 0, .slice none 0 0], .agg #[.string r19, .string r20, .string r21, .int .i64 r22, .int .i64 r23, .int .i64 r24, .int .i64 r25, .int .i64 r26, .int .i64 r27, .int .i64 r28, .int .i64 r29, .slice none 0 0, .int .i64 r30, .int .i64 r31, .int .i64 r32, .int .i64 r33, .bool r34, .int .i64 r35]])) := by
  have H := h
  clear h
  unfold sawmilllaw39_sample.f at H
  refine Go.Saw.calls (args := []) Try.func30 rfl Try.ntmps30 (by kernel_rfl) ?_
  refine J.seq ?_
  refine J.plain ?_
  refine LL.alloc 35 [.string (⟨#[]⟩ : ByteArray), .int .i64 0, .int .i64 0, .int .i64 0, .int .i64 0, .int .i64 0, .int .i64 0, .int .i64 0, .int .i64 0, .int .i64 0, .int .i64 0, .int .i64 0, .int .i64 0] (by kernel_rfl) rfl (by kernel_rfl) (fun g126 => ?_)
  refine LL.alloc 33 [.string (⟨#[]⟩ : ByteArray), .int .i64 0, .int .i64 0, .int .i64 0, .int .i64 0, .slice none 0 0, .slice none 0 0] (by kernel_rfl) rfl (by kernel_rfl) (fun g127 => ?_)
  refine LL.alloc 30 [.string (⟨#[]⟩ : ByteArray), .string (⟨#[]⟩ : ByteArray), .string (⟨#[]⟩ : ByteArray), .int .i64 0, .int .i64 0, .int .i64 0, .int .i64 0, .int .i64 0, .int .i64 0, .int .i64 0, .int .i64 0, .slice none 0 0, .int .i64 0, .int .i64 0, .int .i64 0, .int .i64 0, .bool false, .int .i64 0] (by kernel_rfl) rfl (by kernel_rfl) (fun g128 => ?_)
  refine LL.done (s' := [(0, .pointer (some ⟨g126, 0, none⟩)), (1, .pointer (some ⟨g127, 0, none⟩)), (2, .pointer (some ⟨g128, 0, none⟩))]) [0, 1, 2] (by kernel_rfl) ?_
  refine NN.then ?_
  refine J.seq ?_
  refine J.plain ?_
  refine LL.op (.agg #[.int .i64 0, .int .i64 105]) (by kernel_rfl) (fun w _ => by kernel_rfl) ?_
  refine LL.op (.agg #[.int .i64 0, .int .i64 42]) (by kernel_rfl) (fun w _ => by kernel_rfl) ?_
  refine LL.op (.agg #[.int .i64 0, .int .i64 2000]) (by kernel_rfl) (fun w _ => by kernel_rfl) ?_
  refine LL.op (.agg #[.int .i64 0, .int .i64 105, .int .i64 0, .int .i64 42, .int .i64 0, .int .i64 2000]) (by kernel_rfl) (fun w _ => by kernel_rfl) ?_
  refine LL.op (.agg #[.int .i64 1200, .int .i64 1200, .int .i64 0]) (by kernel_rfl) (fun w _ => by kernel_rfl) ?_
  refine LL.op (.agg #[.string (⟨#[]⟩ : ByteArray), .string (⟨#[]⟩ : ByteArray), .string (⟨#[]⟩ : ByteArray), .int .i64 0, .int .i64 0, .int .i64 105, .int .i64 0, .int .i64 42, .int .i64 0, .int .i64 2000, .int .i64 0, .slice none 0 0, .int .i64 0, .int .i64 1200, .int .i64 1200, .int .i64 0, .bool false, .int .i64 0]) (by kernel_rfl) (fun w _ => by kernel_rfl) ?_
  refine LL.alloc 30 [.string (⟨#[]⟩ : ByteArray), .string (⟨#[]⟩ : ByteArray), .string (⟨#[]⟩ : ByteArray), .int .i64 0, .int .i64 0, .int .i64 0, .int .i64 0, .int .i64 0, .int .i64 0, .int .i64 0, .int .i64 0, .slice none 0 0, .int .i64 0, .int .i64 0, .int .i64 0, .int .i64 0, .bool false, .int .i64 0] (by kernel_rfl) rfl (by kernel_rfl) (fun g129 => ?_)
  refine LL.store 0 g129 0 30 (.tmp 3) (.tmp 9) [.string (⟨#[]⟩ : ByteArray), .string (⟨#[]⟩ : ByteArray), .string (⟨#[]⟩ : ByteArray), .int .i64 0, .int .i64 0, .int .i64 105, .int .i64 0, .int .i64 42, .int .i64 0, .int .i64 2000, .int .i64 0, .slice none 0 0, .int .i64 0, .int .i64 1200, .int .i64 1200, .int .i64 0, .bool false, .int .i64 0] (bs' := [(g129, cl [.string (⟨#[]⟩ : ByteArray), .string (⟨#[]⟩ : ByteArray), .string (⟨#[]⟩ : ByteArray), .int .i64 0, .int .i64 0, .int .i64 105, .int .i64 0, .int .i64 42, .int .i64 0, .int .i64 2000, .int .i64 0, .slice none 0 0, .int .i64 0, .int .i64 1200, .int .i64 1200, .int .i64 0, .bool false, .int .i64 0] 30), (g128, cl [.string (⟨#[]⟩ : ByteArray), .string (⟨#[]⟩ : ByteArray), .string (⟨#[]⟩ : ByteArray), .int .i64 0, .int .i64 0, .int .i64 0, .int .i64 0, .int .i64 0, .int .i64 0, .int .i64 0, .int .i64 0, .slice none 0 0, .int .i64 0, .int .i64 0, .int .i64 0, .int .i64 0, .bool false, .int .i64 0] 30), (g127, cl [.string (⟨#[]⟩ : ByteArray), .int .i64 0, .int .i64 0, .int .i64 0, .int .i64 0, .slice none 0 0, .slice none 0 0] 33), (g126, cl [.string (⟨#[]⟩ : ByteArray), .int .i64 0, .int .i64 0, .int .i64 0, .int .i64 0, .int .i64 0, .int .i64 0, .int .i64 0, .int .i64 0, .int .i64 0, .int .i64 0, .int .i64 0, .int .i64 0] 35)]) rfl (by kernel_rfl) rfl (by kernel_rfl) rfl (by kernel_rfl) ?_
  refine LL.done (s' := [(0, .pointer (some ⟨g126, 0, none⟩)), (1, .pointer (some ⟨g127, 0, none⟩)), (2, .pointer (some ⟨g128, 0, none⟩)), (3, .pointer (some ⟨g129, 0, none⟩))]) [0, 1, 2, 3] (by kernel_rfl) ?_
  refine NN.then ?_
  refine J.seq ?_
  refine J.heldBut [(g129, cl [.string (⟨#[]⟩ : ByteArray), .string (⟨#[]⟩ : ByteArray), .string (⟨#[]⟩ : ByteArray), .int .i64 0, .int .i64 0, .int .i64 105, .int .i64 0, .int .i64 42, .int .i64 0, .int .i64 2000, .int .i64 0, .slice none 0 0, .int .i64 0, .int .i64 1200, .int .i64 1200, .int .i64 0, .bool false, .int .i64 0] 30)] follows ?_
  refine HH.take 0 (.agg #[.string (⟨#[]⟩ : ByteArray), .int .i64 0, .int .i64 0, .int .i64 0, .int .i64 0, .int .i64 0, .int .i64 0, .int .i64 0, .int .i64 0, .int .i64 0, .int .i64 0, .int .i64 0, .int .i64 65]) rfl (by kernel_rfl) (by kernel_rfl) (fun _ h => h.sub (List.Sublist.cons_cons _ (List.Sublist.cons _ (List.Sublist.cons _ (List.Sublist.cons _ (List.Sublist.refl _)))))) (fun w _ => by kernel_rfl) ?_
  refine HH.take 1 (.agg #[.string (⟨#[112]⟩ : ByteArray), .int .i64 40, .int .i64 100, .int .i64 0, .int .i64 0, .slice none 0 0, .slice none 0 0]) rfl (by kernel_rfl) (by kernel_rfl) (fun _ h => h.sub (List.Sublist.cons_cons _ (List.Sublist.cons _ (List.Sublist.cons _ (List.Sublist.cons _ (List.Sublist.refl _)))))) (fun w _ => by kernel_rfl) ?_
  refine HH.take 2 (.agg #[.string (⟨#[]⟩ : ByteArray), .string (⟨#[]⟩ : ByteArray), .string (⟨#[]⟩ : ByteArray), .int .i64 0, .int .i64 0, .int .i64 105, .int .i64 0, .int .i64 42, .int .i64 0, .int .i64 2000, .int .i64 0, .slice none 0 0, .int .i64 0, .int .i64 1200, .int .i64 1200, .int .i64 0, .bool false, .int .i64 0]) rfl (by kernel_rfl) (by kernel_rfl) (fun _ h => h.sub (List.Sublist.cons_cons _ (List.Sublist.cons _ (List.Sublist.cons _ (List.Sublist.cons _ (List.Sublist.refl _)))))) (ld 0 g129 0 rfl (by kernel_rfl) rfl (by kernel_rfl)) ?_
  refine HH.all1 3 (by kernel_rfl) ?_
  refine HS.store 3 g126 0 35 (.tmp 0) (.tmp 10) [.string (⟨#[]⟩ : ByteArray), .int .i64 0, .int .i64 0, .int .i64 0, .int .i64 0, .int .i64 0, .int .i64 0, .int .i64 0, .int .i64 0, .int .i64 0, .int .i64 0, .int .i64 0, .int .i64 65] (bs' := [(g129, cl [.string (⟨#[]⟩ : ByteArray), .string (⟨#[]⟩ : ByteArray), .string (⟨#[]⟩ : ByteArray), .int .i64 0, .int .i64 0, .int .i64 105, .int .i64 0, .int .i64 42, .int .i64 0, .int .i64 2000, .int .i64 0, .slice none 0 0, .int .i64 0, .int .i64 1200, .int .i64 1200, .int .i64 0, .bool false, .int .i64 0] 30), (g128, cl [.string (⟨#[]⟩ : ByteArray), .string (⟨#[]⟩ : ByteArray), .string (⟨#[]⟩ : ByteArray), .int .i64 0, .int .i64 0, .int .i64 0, .int .i64 0, .int .i64 0, .int .i64 0, .int .i64 0, .int .i64 0, .slice none 0 0, .int .i64 0, .int .i64 0, .int .i64 0, .int .i64 0, .bool false, .int .i64 0] 30), (g127, cl [.string (⟨#[]⟩ : ByteArray), .int .i64 0, .int .i64 0, .int .i64 0, .int .i64 0, .slice none 0 0, .slice none 0 0] 33), (g126, cl [.string (⟨#[]⟩ : ByteArray), .int .i64 0, .int .i64 0, .int .i64 0, .int .i64 0, .int .i64 0, .int .i64 0, .int .i64 0, .int .i64 0, .int .i64 0, .int .i64 0, .int .i64 0, .int .i64 65] 35)]) rfl rfl (by kernel_rfl) rfl (by kernel_rfl) rfl (by kernel_rfl) (fun _ h => h.sub (List.Sublist.cons_cons _ (List.Sublist.cons _ (List.Sublist.cons _ (List.Sublist.cons _ (List.Sublist.refl _)))))) ?_
  refine HH.all1 4 (by kernel_rfl) ?_
  refine HS.store 2 g127 0 33 (.tmp 1) (.tmp 11) [.string (⟨#[112]⟩ : ByteArray), .int .i64 40, .int .i64 100, .int .i64 0, .int .i64 0, .slice none 0 0, .slice none 0 0] (bs' := [(g129, cl [.string (⟨#[]⟩ : ByteArray), .string (⟨#[]⟩ : ByteArray), .string (⟨#[]⟩ : ByteArray), .int .i64 0, .int .i64 0, .int .i64 105, .int .i64 0, .int .i64 42, .int .i64 0, .int .i64 2000, .int .i64 0, .slice none 0 0, .int .i64 0, .int .i64 1200, .int .i64 1200, .int .i64 0, .bool false, .int .i64 0] 30), (g128, cl [.string (⟨#[]⟩ : ByteArray), .string (⟨#[]⟩ : ByteArray), .string (⟨#[]⟩ : ByteArray), .int .i64 0, .int .i64 0, .int .i64 0, .int .i64 0, .int .i64 0, .int .i64 0, .int .i64 0, .int .i64 0, .slice none 0 0, .int .i64 0, .int .i64 0, .int .i64 0, .int .i64 0, .bool false, .int .i64 0] 30), (g127, cl [.string (⟨#[112]⟩ : ByteArray), .int .i64 40, .int .i64 100, .int .i64 0, .int .i64 0, .slice none 0 0, .slice none 0 0] 33), (g126, cl [.string (⟨#[]⟩ : ByteArray), .int .i64 0, .int .i64 0, .int .i64 0, .int .i64 0, .int .i64 0, .int .i64 0, .int .i64 0, .int .i64 0, .int .i64 0, .int .i64 0, .int .i64 0, .int .i64 65] 35)]) rfl rfl (by kernel_rfl) rfl (by kernel_rfl) rfl (by kernel_rfl) (fun _ h => h.sub (List.Sublist.cons_cons _ (List.Sublist.cons _ (List.Sublist.cons _ (List.Sublist.cons _ (List.Sublist.refl _)))))) ?_
  refine HH.all1 5 (by kernel_rfl) ?_
  refine HS.store 1 g128 0 30 (.tmp 2) (.tmp 12) [.string (⟨#[]⟩ : ByteArray), .string (⟨#[]⟩ : ByteArray), .string (⟨#[]⟩ : ByteArray), .int .i64 0, .int .i64 0, .int .i64 105, .int .i64 0, .int .i64 42, .int .i64 0, .int .i64 2000, .int .i64 0, .slice none 0 0, .int .i64 0, .int .i64 1200, .int .i64 1200, .int .i64 0, .bool false, .int .i64 0] (bs' := [(g129, cl [.string (⟨#[]⟩ : ByteArray), .string (⟨#[]⟩ : ByteArray), .string (⟨#[]⟩ : ByteArray), .int .i64 0, .int .i64 0, .int .i64 105, .int .i64 0, .int .i64 42, .int .i64 0, .int .i64 2000, .int .i64 0, .slice none 0 0, .int .i64 0, .int .i64 1200, .int .i64 1200, .int .i64 0, .bool false, .int .i64 0] 30), (g128, cl [.string (⟨#[]⟩ : ByteArray), .string (⟨#[]⟩ : ByteArray), .string (⟨#[]⟩ : ByteArray), .int .i64 0, .int .i64 0, .int .i64 105, .int .i64 0, .int .i64 42, .int .i64 0, .int .i64 2000, .int .i64 0, .slice none 0 0, .int .i64 0, .int .i64 1200, .int .i64 1200, .int .i64 0, .bool false, .int .i64 0] 30), (g127, cl [.string (⟨#[112]⟩ : ByteArray), .int .i64 40, .int .i64 100, .int .i64 0, .int .i64 0, .slice none 0 0, .slice none 0 0] 33), (g126, cl [.string (⟨#[]⟩ : ByteArray), .int .i64 0, .int .i64 0, .int .i64 0, .int .i64 0, .int .i64 0, .int .i64 0, .int .i64 0, .int .i64 0, .int .i64 0, .int .i64 0, .int .i64 0, .int .i64 65] 35)]) rfl rfl (by kernel_rfl) rfl (by kernel_rfl) rfl (by kernel_rfl) (fun _ h => h.sub (List.Sublist.cons_cons _ (List.Sublist.cons _ (List.Sublist.cons _ (List.Sublist.cons _ (List.Sublist.refl _)))))) ?_
  refine HH.done (s' := [(0, .pointer (some ⟨g126, 0, none⟩)), (1, .pointer (some ⟨g127, 0, none⟩)), (2, .pointer (some ⟨g128, 0, none⟩))]) [0, 1, 2] (by kernel_rfl) (by kernel_rfl) ?_
  refine NN.then ?_
  refine J.ret ?_
  refine NN.finV (.tuple #[.agg #[.string (⟨#[]⟩ : ByteArray), .int .i64 0, .int .i64 0, .int .i64 0, .int .i64 0, .int .i64 0, .int .i64 0, .int .i64 0, .int .i64 0, .int .i64 0, .int .i64 0, .int .i64 0, .int .i64 65], .agg #[.string (⟨#[112]⟩ : ByteArray), .int .i64 40, .int .i64 100, .int .i64 0, .int .i64 0, .slice none 0 0, .slice none 0 0], .agg #[.string (⟨#[]⟩ : ByteArray), .string (⟨#[]⟩ : ByteArray), .string (⟨#[]⟩ : ByteArray), .int .i64 0, .int .i64 0, .int .i64 105, .int .i64 0, .int .i64 42, .int .i64 0, .int .i64 2000, .int .i64 0, .slice none 0 0, .int .i64 0, .int .i64 1200, .int .i64 1200, .int .i64 0, .bool false, .int .i64 0]]) (.inl rfl) ?_ (fun w hi => hi.ret ?_)
  · exact resOk_3 (by kernel_rfl) (.cell (d := 0) (t := 35) 3 g126 0 (by kernel_rfl) rfl (by kernel_rfl)) (.cell (d := 1) (t := 33) 2 g127 0 (by kernel_rfl) rfl (by kernel_rfl)) (.cell (d := 2) (t := 30) 1 g128 0 (by kernel_rfl) rfl (by kernel_rfl))
  first | (cases H; rfl) | (obtain rfl := Option.some.inj H; rfl) | (simp only [Option.some.injEq, Prod.mk.injEq] at H; obtain ⟨rfl, rfl, rfl, rfl, rfl, rfl, rfl, rfl, rfl, rfl, rfl, rfl, rfl, rfl, rfl, rfl, rfl, rfl, rfl, rfl, rfl, rfl, rfl, rfl, rfl, rfl, rfl, rfl, rfl, rfl, rfl, rfl, rfl, rfl, rfl⟩ := H; rfl)

end Go.Proofs.Ytbgdgghijheopaa
