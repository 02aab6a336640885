/- Walks of functions of the seat: each call does what the Lean function of the same name says. Printed by the session's own program absgen.py. -/
import Derived.Test.YtbogdbbmmlaohaaF2
namespace Go.Proofs.Ytbogdbbmmlaohaa
open Go.Saw
set_option linter.unusedVariables false
set_option linter.unusedSimpArgs false

/-! ### sawmilltop_TopOrders: function 3 -/
def sawmilltop_TopOrders.l4 (K : Nat) (a0 : List E27) (x2942_1 : List E3) (x6996 : List E3) (kont_ : Int → Option (Bool)) : Nat → Int → Option (Bool)
  | 0, _ => none
  | k + 1, x20l4 => if x20l4 < (a0.length : Int) then ((idx x6996 x20l4).bind fun e7007 => ((idx x2942_1 x20l4).bind fun e7008 => (if e7007 = e7008 then (sawmilltop_TopOrders.l4 K a0 x2942_1 x6996 kont_ k (IntKind.i64.wrap (x20l4 + 1))) else (if e7007 < e7008 then ((sawmilltop_ordersAwake.f K ).bind fun x7011 => (some x7011)) else (some false))))) else (kont_ x20l4)
def sawmilltop_TopOrders.l3 (K : Nat) (a0 : List E27) (a1 : List E37) (x2955_1 : List E3) (kont_ : Int → Option (Bool)) : Nat → Int → Option (Bool)
  | 0, _ => none
  | k + 1, x18l3 => if x18l3 < (x2955_1.length : Int) then ((idx x2955_1 x18l3).bind fun e4987 => (if 0 ≤ e4987 then ((idx a0 e4987).bind fun be4989 => ((idx a1 x18l3).bind fun be4990 => ((order_Fits.f be4989.1 be4989.2.1 be4989.2.2.1 be4989.2.2.2.1 be4989.2.2.2.2.1 be4989.2.2.2.2.2.1 be4989.2.2.2.2.2.2.1 be4989.2.2.2.2.2.2.2.1 be4989.2.2.2.2.2.2.2.2.1 be4989.2.2.2.2.2.2.2.2.2.1 be4989.2.2.2.2.2.2.2.2.2.2 be4990.1 be4990.2.1 be4990.2.2.1 be4990.2.2.2.1 be4990.2.2.2.2.1 be4990.2.2.2.2.2.1 be4990.2.2.2.2.2.2.1 be4990.2.2.2.2.2.2.2.1 be4990.2.2.2.2.2.2.2.2.1 be4990.2.2.2.2.2.2.2.2.2.1 be4990.2.2.2.2.2.2.2.2.2.2.1 be4990.2.2.2.2.2.2.2.2.2.2.2.1 be4990.2.2.2.2.2.2.2.2.2.2.2.2.1 be4990.2.2.2.2.2.2.2.2.2.2.2.2.2.1 be4990.2.2.2.2.2.2.2.2.2.2.2.2.2.2.1 be4990.2.2.2.2.2.2.2.2.2.2.2.2.2.2.2.1 be4990.2.2.2.2.2.2.2.2.2.2.2.2.2.2.2.2.1 be4990.2.2.2.2.2.2.2.2.2.2.2.2.2.2.2.2.2).bind fun x4991 => (if x4991 = 0 then (sawmilltop_TopOrders.l3 K a0 a1 x2955_1 kont_ k (IntKind.i64.wrap (x18l3 + 1))) else (some false))))) else (sawmilltop_TopOrders.l3 K a0 a1 x2955_1 kont_ k (IntKind.i64.wrap (x18l3 + 1))))) else (kont_ x18l3)
def sawmilltop_TopOrders.l2 (K : Nat) (a0 : List E27) (x7l0 : List E3) (x2969 : List E3) (kont_ : Int → Option (Bool)) : Nat → Int → Option (Bool)
  | 0, _ => none
  | k + 1, x17l2 => if x17l2 < (a0.length : Int) then ((idx x2969 x17l2).bind fun e2980 => (if 0 < e2980 then ((idx x7l0 x17l2).bind fun e2982 => (if e2980 < e2982 then (some false) else (sawmilltop_TopOrders.l2 K a0 x7l0 x2969 kont_ k (IntKind.i64.wrap (x17l2 + 1))))) else (sawmilltop_TopOrders.l2 K a0 x7l0 x2969 kont_ k (IntKind.i64.wrap (x17l2 + 1))))) else (kont_ x17l2)
def sawmilltop_TopOrders.l1 (K : Nat) (a1 : List E37) (kont_ : Int → Option (Bool)) : Nat → Int → Option (Bool)
  | 0, _ => none
  | k + 1, x10l1 => if x10l1 < (a1.length : Int) then ((idx a1 x10l1).bind fun be926 => (if 100 < (be926.2.2.1.size : Int) then ((sawmilltop_ordersAwake.f K ).bind fun x928 => (some x928)) else (sawmilltop_TopOrders.l1 K a1 kont_ k (IntKind.i64.wrap (x10l1 + 1))))) else (kont_ x10l1)
def sawmilltop_TopOrders.l0 (K : Nat) (a0 : List E27) (a1 : List E37) (a2 : List E3) : Nat → List E3 → List E3 → Int → Option (Bool)
  | 0, _, _, _ => none
  | k + 1, x7l0, x8l0, x9l0 => if x9l0 < (a0.length : Int) then ((idx a0 x9l0).bind fun be878 => (if be878.2.2.2.2.2.2.1 < 1 then ((sawmilltop_ordersAwake.f K ).bind fun x880 => (some x880)) else (if 200 < be878.2.2.2.2.2.2.1 then ((sawmilltop_ordersAwake.f K ).bind fun x882 => (some x882)) else (if be878.2.2.2.2.2.2.2.1 < 0 then ((sawmilltop_ordersAwake.f K ).bind fun x884 => (some x884)) else (if be878.2.2.2.2.2.2.1 ≤ be878.2.2.2.2.2.2.2.1 then ((sawmilltop_ordersAwake.f K ).bind fun x886 => (some x886)) else (if be878.2.2.2.2.2.2.2.2.1 < 0 then ((sawmilltop_ordersAwake.f K ).bind fun x888 => (some x888)) else (if (IntKind.i64.wrap (200 - be878.2.2.2.2.2.2.1)) < be878.2.2.2.2.2.2.2.2.1 then ((sawmilltop_ordersAwake.f K ).bind fun x890 => (some x890)) else (if 100 < (be878.2.1.size : Int) then ((sawmilltop_ordersAwake.f K ).bind fun x892 => (some x892)) else ((order_Least.f be878.1 be878.2.1 be878.2.2.1 be878.2.2.2.1 be878.2.2.2.2.1 be878.2.2.2.2.2.1 be878.2.2.2.2.2.2.1 be878.2.2.2.2.2.2.2.1 be878.2.2.2.2.2.2.2.2.1 be878.2.2.2.2.2.2.2.2.2.1 be878.2.2.2.2.2.2.2.2.2.2).bind fun x893 => ((app 8 x7l0 ([x893] : List E3)).bind fun y902 => ((order_Most.f be878.1 be878.2.1 be878.2.2.1 be878.2.2.2.1 be878.2.2.2.2.1 be878.2.2.2.2.2.1 be878.2.2.2.2.2.2.1 be878.2.2.2.2.2.2.2.1 be878.2.2.2.2.2.2.2.2.1 be878.2.2.2.2.2.2.2.2.2.1 be878.2.2.2.2.2.2.2.2.2.2).bind fun x908 => ((app 8 x8l0 ([x908] : List E3)).bind fun y917 => (sawmilltop_TopOrders.l0 K a0 a1 a2 k y902 y917 (IntKind.i64.wrap (x9l0 + 1))))))))))))))) else (sawmilltop_TopOrders.l1 K a1 (fun (x10l1 : Int) => (assign_Table.f K a0 a1).bind fun x2929 => ((assign_Counts.f K x2929 x8l0).bind fun bx2942 => ((assign_Best.f K x2929 x7l0 x8l0).bind fun bx2955 => (if bx2942.2 = 0 then (if bx2955.2 = 0 then (if (bx2942.1.length : Int) = (a0.length : Int) then (if (bx2955.1.length : Int) = (a1.length : Int) then ((assign_Valid.f K x2929 x8l0 bx2955.1).bind fun x2967 => (if x2967 = true then ((sawmilltop_counts.f K (a0.length : Int) bx2955.1).bind fun x2969 => (sawmilltop_TopOrders.l2 K a0 x7l0 x2969 (fun (x17l2 : Int) => sawmilltop_TopOrders.l3 K a0 a1 bx2955.1 (fun (x18l3 : Int) => if (a2.length : Int) = (a1.length : Int) then ((assign_Valid.f K x2929 x8l0 a2).bind fun x6994 => (if x6994 = true then ((sawmilltop_counts.f K (a0.length : Int) a2).bind fun x6996 => (sawmilltop_TopOrders.l4 K a0 bx2942.1 x6996 (fun (x20l4 : Int) => (sawmilltop_ordersAwake.f K ).bind fun x9012 => (some x9012)) K 0)) else ((sawmilltop_ordersAwake.f K ).bind fun x7012 => (some x7012)))) else ((sawmilltop_ordersAwake.f K ).bind fun x7013 => (some x7013))) K 0) K 0)) else (some false))) else (some false)) else (some false)) else (some false)) else (some false))))) K 0)
def sawmilltop_TopOrders.f (K : Nat) (a0 : List E27) (a1 : List E37) (a2 : List E3) : Option (Bool) := if (a0.length : Int) = 0 then ((sawmilltop_ordersAwake.f K ).bind fun x870 => (some x870)) else (if 8 < (a0.length : Int) then ((sawmilltop_ordersAwake.f K ).bind fun x872 => (some x872)) else (if 16 < (a1.length : Int) then ((sawmilltop_ordersAwake.f K ).bind fun x874 => (some x874)) else (sawmilltop_TopOrders.l0 K a0 a1 a2 K ([] : List E3) ([] : List E3) 0)))
set_option maxRecDepth 100000 in
theorem sawmilltop_TopOrders.calls (K : Nat) (a0 : List E27) (a1 : List E37) (a2 : List E3)  (Aa0 : Option Addr) (ca0 : Nat) (Aa1 : Option Addr) (ca1 : Nat) (Aa2 : Option Addr) (ca2 : Nat)  (r1 : Bool) (w : World)   (ha0 : KRow (Cx.start w) enc27 11 a0 Aa0) (ha1 : KRow (Cx.start w) enc37 18 a1 Aa1) (ha2 : KRow (Cx.start w) enc3 1 a2 Aa2) (h : sawmilltop_TopOrders.f K a0 a1 a2 = some r1) :
    Calls Try.prog 3 #[.slice Aa0 a0.length ca0, .slice Aa1 a1.length ca1, .slice Aa2 a2.length ca2] w (Ret w (.bool r1)) := by
  have H := h
  clear h
  unfold sawmilltop_TopOrders.f at H
  refine Go.Saw.calls (args := [.slice Aa0 a0.length ca0, .slice Aa1 a1.length ca1, .slice Aa2 a2.length ca2]) Try.func3 rfl Try.ntmps3 (by kernel_rfl) ?_
  refine J.seq ?_
  refine J.plain ?_
  refine LL.op (.bool false) (by kernel_rfl) (fun w _ => by kernel_rfl) ?_
  refine LL.done (s' := [(0, .slice Aa0 a0.length ca0), (1, .slice Aa1 a1.length ca1), (2, .slice Aa2 a2.length ca2), (6, .bool false)]) [0, 1, 2, 6] (by kernel_rfl) ?_
  refine NN.then ?_
  refine J.seq ?_
  refine J.seq ?_
  refine J.plain ?_
  refine LL.op (.slice Aa0 a0.length ca0) (by kernel_rfl) (fun w _ => by kernel_rfl) ?_
  refine LL.op (.int .i64 (a0.length : Int)) (by kernel_rfl) (fun w _ => by kernel_rfl) ?_
  refine LL.op (.bool ((a0.length : Int) == 0)) (by kernel_rfl) (fun w _ => by kernel_rfl) ?_
  refine LL.op (.bool ((a0.length : Int) == 0)) (by kernel_rfl) (fun w _ => by kernel_rfl) ?_
  rcases Bool.eq_false_or_eq_true (((a0.length : Int) == 0)) with c869 | c869
  · rw [if_pos (eq_of_beq c869)] at H
    refine LL.bool 24 (((a0.length : Int) == 0)) true c869 (by kernel_rfl) ?_
    refine LL.off (by kernel_rfl) (by kernel_rfl) ?_
    refine LL.off (by kernel_rfl) (by kernel_rfl) ?_
    refine LL.off (by kernel_rfl) (by kernel_rfl) ?_
    refine LL.op (.bool true) (by kernel_rfl) (fun w _ => by kernel_rfl) ?_
    refine LL.op (.bool true) (by kernel_rfl) (fun w _ => by kernel_rfl) ?_
    refine LL.off (by kernel_rfl) (by kernel_rfl) ?_
    refine LL.off (by kernel_rfl) (by kernel_rfl) ?_
    refine LL.off (by kernel_rfl) (by kernel_rfl) ?_
    refine LL.op (.bool true) (by kernel_rfl) (fun w _ => by kernel_rfl) ?_
    refine LL.done (s' := [(0, .slice Aa0 a0.length ca0), (1, .slice Aa1 a1.length ca1), (2, .slice Aa2 a2.length ca2), (6, .bool false), (33, .bool true)]) [0, 1, 2, 6, 33] (by kernel_rfl) ?_
    refine NN.then ?_
    refine J.condT (b := true) rfl (by kernel_rfl) (by kernel_rfl) ?_
    refine J.seq ?_
    refine J.plain ?_
    obtain ⟨x870, hx870, H⟩ := bind_some H
    refine LL.call 9 #[] (.bool x870) (by kernel_rfl) (fun w => by kernel_rfl) (fun w hw => sawmilltop_ordersAwake.calls K    _ w   hx870) ?_
    refine LL.op (.bool x870) (by kernel_rfl) (fun w _ => by kernel_rfl) ?_
    refine LL.done (s' := [(0, .slice Aa0 a0.length ca0), (1, .slice Aa1 a1.length ca1), (2, .slice Aa2 a2.length ca2), (6, .bool x870)]) [0, 1, 2, 6] (by kernel_rfl) ?_
    refine NN.then ?_
    refine J.ret ?_
    refine NN.then_ret ?_
    refine NN.fin1 6 (.bool x870) (by kernel_rfl) (by kernel_rfl) (.inl rfl) (fun w hi => hi.ret ?_)
    first | (cases H; rfl) | (obtain rfl := Option.some.inj H; rfl) | (simp only [Option.some.injEq, Prod.mk.injEq] at H; obtain ⟨rfl⟩ := H; rfl)
  · rw [if_neg (nebf c869)] at H
    refine LL.bool 24 (((a0.length : Int) == 0)) false c869 (by kernel_rfl) ?_
    refine LL.op (.slice Aa0 a0.length ca0) (by kernel_rfl) (fun w _ => by kernel_rfl) ?_
    refine LL.op (.int .i64 (a0.length : Int)) (by kernel_rfl) (fun w _ => by kernel_rfl) ?_
    refine LL.op (.bool (decide (8 < (a0.length : Int)))) (by kernel_rfl) (fun w _ => by kernel_rfl) ?_
    refine LL.op (.bool (decide (8 < (a0.length : Int)))) (by kernel_rfl) (fun w _ => by kernel_rfl) ?_
    refine LL.op (.bool (decide (8 < (a0.length : Int)))) (by kernel_rfl) (fun w _ => by kernel_rfl) ?_
    rcases Bool.eq_false_or_eq_true (decide (8 < (a0.length : Int))) with c871 | c871
    · rw [if_pos (of_decide_eq_true c871)] at H
      refine LL.bool 29 (decide (8 < (a0.length : Int))) true c871 (by kernel_rfl) ?_
      refine LL.off (by kernel_rfl) (by kernel_rfl) ?_
      refine LL.off (by kernel_rfl) (by kernel_rfl) ?_
      refine LL.off (by kernel_rfl) (by kernel_rfl) ?_
      refine LL.op (.bool true) (by kernel_rfl) (fun w _ => by kernel_rfl) ?_
      refine LL.done (s' := [(0, .slice Aa0 a0.length ca0), (1, .slice Aa1 a1.length ca1), (2, .slice Aa2 a2.length ca2), (6, .bool false), (33, .bool true)]) [0, 1, 2, 6, 33] (by kernel_rfl) ?_
      refine NN.then ?_
      refine J.condT (b := true) rfl (by kernel_rfl) (by kernel_rfl) ?_
      refine J.seq ?_
      refine J.plain ?_
      obtain ⟨x872, hx872, H⟩ := bind_some H
      refine LL.call 9 #[] (.bool x872) (by kernel_rfl) (fun w => by kernel_rfl) (fun w hw => sawmilltop_ordersAwake.calls K    _ w   hx872) ?_
      refine LL.op (.bool x872) (by kernel_rfl) (fun w _ => by kernel_rfl) ?_
      refine LL.done (s' := [(0, .slice Aa0 a0.length ca0), (1, .slice Aa1 a1.length ca1), (2, .slice Aa2 a2.length ca2), (6, .bool x872)]) [0, 1, 2, 6] (by kernel_rfl) ?_
      refine NN.then ?_
      refine J.ret ?_
      refine NN.then_ret ?_
      refine NN.fin1 6 (.bool x872) (by kernel_rfl) (by kernel_rfl) (.inl rfl) (fun w hi => hi.ret ?_)
      first | (cases H; rfl) | (obtain rfl := Option.some.inj H; rfl) | (simp only [Option.some.injEq, Prod.mk.injEq] at H; obtain ⟨rfl⟩ := H; rfl)
    · rw [if_neg (of_decide_eq_false c871)] at H
      refine LL.bool 29 (decide (8 < (a0.length : Int))) false c871 (by kernel_rfl) ?_
      refine LL.op (.slice Aa1 a1.length ca1) (by kernel_rfl) (fun w _ => by kernel_rfl) ?_
      refine LL.op (.int .i64 (a1.length : Int)) (by kernel_rfl) (fun w _ => by kernel_rfl) ?_
      refine LL.op (.bool (decide (16 < (a1.length : Int)))) (by kernel_rfl) (fun w _ => by kernel_rfl) ?_
      refine LL.op (.bool (decide (16 < (a1.length : Int)))) (by kernel_rfl) (fun w _ => by kernel_rfl) ?_
      refine LL.done (s' := [(0, .slice Aa0 a0.length ca0), (1, .slice Aa1 a1.length ca1), (2, .slice Aa2 a2.length ca2), (6, .bool false), (33, .bool (decide (16 < (a1.length : Int))))]) [0, 1, 2, 6, 33] (by kernel_rfl) ?_
      refine NN.then ?_
      rcases Bool.eq_false_or_eq_true (decide (16 < (a1.length : Int))) with c873 | c873
      · rw [if_pos (of_decide_eq_true c873)] at H
        refine J.condT (b := decide (16 < (a1.length : Int))) c873 (by kernel_rfl) (by kernel_rfl) ?_
        refine J.seq ?_
        refine J.plain ?_
        obtain ⟨x874, hx874, H⟩ := bind_some H
        refine LL.call 9 #[] (.bool x874) (by kernel_rfl) (fun w => by kernel_rfl) (fun w hw => sawmilltop_ordersAwake.calls K    _ w   hx874) ?_
        refine LL.op (.bool x874) (by kernel_rfl) (fun w _ => by kernel_rfl) ?_
        refine LL.done (s' := [(0, .slice Aa0 a0.length ca0), (1, .slice Aa1 a1.length ca1), (2, .slice Aa2 a2.length ca2), (6, .bool x874)]) [0, 1, 2, 6] (by kernel_rfl) ?_
        refine NN.then ?_
        refine J.ret ?_
        refine NN.then_ret ?_
        refine NN.fin1 6 (.bool x874) (by kernel_rfl) (by kernel_rfl) (.inl rfl) (fun w hi => hi.ret ?_)
        first | (cases H; rfl) | (obtain rfl := Option.some.inj H; rfl) | (simp only [Option.some.injEq, Prod.mk.injEq] at H; obtain ⟨rfl⟩ := H; rfl)
      · rw [if_neg (of_decide_eq_false c873)] at H
        refine J.condF (b := decide (16 < (a1.length : Int))) c873 (by kernel_rfl) (by kernel_rfl) ?_
        refine J.skip ?_
        refine NN.then ?_
        refine J.seq ?_
        refine J.plain ?_
        refine LL.op (.slice none 0 0) (by kernel_rfl) (fun w _ => by kernel_rfl) ?_
        refine LL.op (.slice none 0 0) (by kernel_rfl) (fun w _ => by kernel_rfl) ?_
        refine LL.done (s' := [(0, .slice Aa0 a0.length ca0), (1, .slice Aa1 a1.length ca1), (2, .slice Aa2 a2.length ca2), (6, .bool false), (7, .slice none 0 0), (8, .slice none 0 0)]) [0, 1, 2, 6, 7, 8] (by kernel_rfl) ?_
        refine NN.then ?_
        refine J.seq ?_
        refine J.seq ?_
        refine J.plain ?_
        refine LL.op (.int .i64 0) (by kernel_rfl) (fun w _ => by kernel_rfl) ?_
        refine LL.done (s' := [(0, .slice Aa0 a0.length ca0), (1, .slice Aa1 a1.length ca1), (2, .slice Aa2 a2.length ca2), (6, .bool false), (7, .slice none 0 0), (8, .slice none 0 0), (9, .int .i64 0)]) [0, 1, 2, 6, 7, 8, 9] (by kernel_rfl) ?_
        refine NN.then ?_
        refine J.block ?_
        refine J.to [0, 1, 2, 6, 7, 8, 9] (s' := [(0, .slice Aa0 a0.length ca0), (1, .slice Aa1 a1.length ca1), (2, .slice Aa2 a2.length ca2), (6, .bool false), (7, .slice none 0 0), (8, .slice none 0 0), (9, .int .i64 0)]) (by kernel_rfl) ?_
        refine J.loop (fun n_ s_ bs_ => ∃ (x7l0 : List E3) (x8l0 : List E3) (x9l0 : Int) (Ax7l0 : Option Addr) (cx7l0 : Nat) (bax7l0 : Bs) (Ax8l0 : Option Addr) (cx8l0 : Nat) (bax8l0 : Bs), sawmilltop_TopOrders.l0 K a0 a1 a2 n_ x7l0 x8l0 x9l0 = some r1 ∧ Own enc3 1 3 x7l0 Ax7l0 cx7l0 bax7l0 ∧ Own enc3 1 3 x8l0 Ax8l0 cx8l0 bax8l0 ∧ s_ = [(0, .slice Aa0 a0.length ca0), (1, .slice Aa1 a1.length ca1), (2, .slice Aa2 a2.length ca2), (6, .bool false), (7, .slice Ax7l0 x7l0.length cx7l0), (8, .slice Ax8l0 x8l0.length cx8l0), (9, .int .i64 x9l0)] ∧ [] ++ bax7l0 ++ bax8l0 = bs_) K ⟨([] : List E3), ([] : List E3), 0, none, 0, [], none, 0, [], H, (.nil none rfl), (.nil none rfl), rfl, rfl⟩ ?_
        rintro (_ | n_) s_ bs_ ⟨x7l0, x8l0, x9l0, Ax7l0, cx7l0, bax7l0, Ax8l0, cx8l0, bax8l0, H, ox7l0, ox8l0, rfl, rfl⟩
        · exact absurd H (by simp [sawmilltop_TopOrders.l0])
        simp only [sawmilltop_TopOrders.l0] at H
        refine J.seq ?_
        refine J.seq ?_
        refine J.plain ?_
        refine LL.op (.int .i64 x9l0) (by kernel_rfl) (fun w _ => by kernel_rfl) ?_
        refine LL.op (.slice Aa0 a0.length ca0) (by kernel_rfl) (fun w _ => by kernel_rfl) ?_
        refine LL.op (.int .i64 (a0.length : Int)) (by kernel_rfl) (fun w _ => by kernel_rfl) ?_
        refine LL.op (.bool (decide (x9l0 < (a0.length : Int)))) (by kernel_rfl) (fun w _ => by kernel_rfl) ?_
        refine LL.done (s' := [(0, .slice Aa0 a0.length ca0), (1, .slice Aa1 a1.length ca1), (2, .slice Aa2 a2.length ca2), (6, .bool false), (7, .slice Ax7l0 x7l0.length cx7l0), (8, .slice Ax8l0 x8l0.length cx8l0), (9, .int .i64 x9l0), (38, .bool (decide (x9l0 < (a0.length : Int))))]) [0, 1, 2, 6, 7, 8, 9, 38] (by kernel_rfl) ?_
        refine NN.then ?_
        rcases Bool.eq_false_or_eq_true (decide (x9l0 < (a0.length : Int))) with c877 | c877
        · rw [if_pos (of_decide_eq_true c877)] at H
          refine J.condT (b := decide (x9l0 < (a0.length : Int))) c877 (by kernel_rfl) (by kernel_rfl) ?_
          refine J.skip ?_
          refine NN.then ?_
          refine J.seq ?_
          refine J.block ?_
          refine J.seq ?_
          refine J.seq ?_
          refine J.drawn follows (by kernel_rfl) ?_
          refine QQ.op (.slice Aa0 a0.length ca0) (by kernel_rfl) (fun w _ => by kernel_rfl) ?_
          refine QQ.op (.int .i64 x9l0) (by kernel_rfl) (fun w _ => by kernel_rfl) ?_
          obtain ⟨⟨e878_1, e878_2, e878_3, e878_4, e878_5, e878_6, e878_7, e878_8, e878_9, e878_10, e878_11⟩, he878, H⟩ := bind_some H
          (try dsimp only at H)
          refine QQ.op (.pointer (rp Aa0 (x9l0.toNat * 11 + 0))) (by kernel_rfl) (idxR (cp := ca0) (ik := .i64) ha0 he878 rfl (by kernel_rfl) (by kernel_rfl) (by kernel_rfl)) ?_
          refine QQ.op (.pointer (rp Aa0 (x9l0.toNat * 11 + 6))) (by kernel_rfl) (fldR (b := x9l0.toNat * 11) (off := 6) (o1 := 0) (o2 := 6) ha0 he878 rfl (by kernel_rfl) (by kernel_rfl) rfl) ?_
          refine QQ.op (.int .i64 e878_7) (by kernel_rfl) (ldR (off := 6) ha0 he878 rfl (by kernel_rfl) (by kernel_rfl)) ?_
          refine QQ.op (.bool (decide (e878_7 < 1))) (by kernel_rfl) (fun w _ => by kernel_rfl) ?_
          refine QQ.op (.bool (decide (e878_7 < 1))) (by kernel_rfl) (fun w _ => by kernel_rfl) ?_
          rcases Bool.eq_false_or_eq_true (decide (e878_7 < 1)) with c879 | c879
          · rw [if_pos (of_decide_eq_true c879)] at H
            refine QQ.bool 47 (decide (e878_7 < 1)) true c879 (by kernel_rfl) ?_
            refine QQ.off (by kernel_rfl) (by kernel_rfl) ?_
            refine QQ.off (by kernel_rfl) (by kernel_rfl) ?_
            refine QQ.off (by kernel_rfl) (by kernel_rfl) ?_
            refine QQ.off (by kernel_rfl) (by kernel_rfl) ?_
            refine QQ.off (by kernel_rfl) (by kernel_rfl) ?_
            refine QQ.off (by kernel_rfl) (by kernel_rfl) ?_
            refine QQ.op (.bool true) (by kernel_rfl) (fun w _ => by kernel_rfl) ?_
            refine QQ.op (.bool true) (by kernel_rfl) (fun w _ => by kernel_rfl) ?_
            refine QQ.off (by kernel_rfl) (by kernel_rfl) ?_
            refine QQ.off (by kernel_rfl) (by kernel_rfl) ?_
            refine QQ.off (by kernel_rfl) (by kernel_rfl) ?_
            refine QQ.off (by kernel_rfl) (by kernel_rfl) ?_
            refine QQ.off (by kernel_rfl) (by kernel_rfl) ?_
            refine QQ.off (by kernel_rfl) (by kernel_rfl) ?_
            refine QQ.op (.bool true) (by kernel_rfl) (fun w _ => by kernel_rfl) ?_
            refine QQ.op (.bool true) (by kernel_rfl) (fun w _ => by kernel_rfl) ?_
            refine QQ.off (by kernel_rfl) (by kernel_rfl) ?_
            refine QQ.off (by kernel_rfl) (by kernel_rfl) ?_
            refine QQ.off (by kernel_rfl) (by kernel_rfl) ?_
            refine QQ.off (by kernel_rfl) (by kernel_rfl) ?_
            refine QQ.off (by kernel_rfl) (by kernel_rfl) ?_
            refine QQ.off (by kernel_rfl) (by kernel_rfl) ?_
            refine QQ.off (by kernel_rfl) (by kernel_rfl) ?_
            refine QQ.off (by kernel_rfl) (by kernel_rfl) ?_
            refine QQ.off (by kernel_rfl) (by kernel_rfl) ?_
            refine QQ.off (by kernel_rfl) (by kernel_rfl) ?_
            refine QQ.off (by kernel_rfl) (by kernel_rfl) ?_
            refine QQ.op (.bool true) (by kernel_rfl) (fun w _ => by kernel_rfl) ?_
            refine QQ.op (.bool true) (by kernel_rfl) (fun w _ => by kernel_rfl) ?_
            refine QQ.off (by kernel_rfl) (by kernel_rfl) ?_
            refine QQ.off (by kernel_rfl) (by kernel_rfl) ?_
            refine QQ.off (by kernel_rfl) (by kernel_rfl) ?_
            refine QQ.off (by kernel_rfl) (by kernel_rfl) ?_
            refine QQ.off (by kernel_rfl) (by kernel_rfl) ?_
            refine QQ.off (by kernel_rfl) (by kernel_rfl) ?_
            refine QQ.op (.bool true) (by kernel_rfl) (fun w _ => by kernel_rfl) ?_
            refine QQ.op (.bool true) (by kernel_rfl) (fun w _ => by kernel_rfl) ?_
            refine QQ.off (by kernel_rfl) (by kernel_rfl) ?_
            refine QQ.off (by kernel_rfl) (by kernel_rfl) ?_
            refine QQ.off (by kernel_rfl) (by kernel_rfl) ?_
            refine QQ.off (by kernel_rfl) (by kernel_rfl) ?_
            refine QQ.off (by kernel_rfl) (by kernel_rfl) ?_
            refine QQ.off (by kernel_rfl) (by kernel_rfl) ?_
            refine QQ.off (by kernel_rfl) (by kernel_rfl) ?_
            refine QQ.off (by kernel_rfl) (by kernel_rfl) ?_
            refine QQ.off (by kernel_rfl) (by kernel_rfl) ?_
            refine QQ.off (by kernel_rfl) (by kernel_rfl) ?_
            refine QQ.off (by kernel_rfl) (by kernel_rfl) ?_
            refine QQ.off (by kernel_rfl) (by kernel_rfl) ?_
            refine QQ.op (.bool true) (by kernel_rfl) (fun w _ => by kernel_rfl) ?_
            refine QQ.op (.bool true) (by kernel_rfl) (fun w _ => by kernel_rfl) ?_
            refine QQ.off (by kernel_rfl) (by kernel_rfl) ?_
            refine QQ.off (by kernel_rfl) (by kernel_rfl) ?_
            refine QQ.off (by kernel_rfl) (by kernel_rfl) ?_
            refine QQ.off (by kernel_rfl) (by kernel_rfl) ?_
            refine QQ.off (by kernel_rfl) (by kernel_rfl) ?_
            refine QQ.off (by kernel_rfl) (by kernel_rfl) ?_
            refine QQ.off (by kernel_rfl) (by kernel_rfl) ?_
            refine QQ.op (.bool true) (by kernel_rfl) (fun w _ => by kernel_rfl) ?_
            refine QQ.done (s' := [(0, .slice Aa0 a0.length ca0), (1, .slice Aa1 a1.length ca1), (2, .slice Aa2 a2.length ca2), (6, .bool false), (7, .slice Ax7l0 x7l0.length cx7l0), (8, .slice Ax8l0 x8l0.length cx8l0), (9, .int .i64 x9l0), (106, .bool true)]) [0, 1, 2, 6, 7, 8, 9, 106] (by kernel_rfl) ?_
            refine NN.then ?_
            refine J.condT (b := true) rfl (by kernel_rfl) (by kernel_rfl) ?_
            refine J.seq ?_
            refine J.plain ?_
            obtain ⟨x880, hx880, H⟩ := bind_some H
            refine LL.call 9 #[] (.bool x880) (by kernel_rfl) (fun w => by kernel_rfl) (fun w hw => sawmilltop_ordersAwake.calls K    _ w   hx880) ?_
            refine LL.op (.bool x880) (by kernel_rfl) (fun w _ => by kernel_rfl) ?_
            refine LL.done (s' := [(0, .slice Aa0 a0.length ca0), (1, .slice Aa1 a1.length ca1), (2, .slice Aa2 a2.length ca2), (6, .bool x880), (7, .slice Ax7l0 x7l0.length cx7l0), (8, .slice Ax8l0 x8l0.length cx8l0), (9, .int .i64 x9l0)]) [0, 1, 2, 6, 7, 8, 9] (by kernel_rfl) ?_
            refine NN.then ?_
            refine J.ret ?_
            refine NN.then_ret ?_
            refine NN.block_ret ?_
            refine NN.then_ret ?_
            refine NN.then_ret ?_
            refine NN.block_ret ?_
            refine NN.then_ret ?_
            refine NN.fin1 6 (.bool x880) (by kernel_rfl) (by kernel_rfl) (.inl rfl) (fun w hi => hi.ret ?_)
            first | (cases H; rfl) | (obtain rfl := Option.some.inj H; rfl) | (simp only [Option.some.injEq, Prod.mk.injEq] at H; obtain ⟨rfl⟩ := H; rfl)
          · rw [if_neg (of_decide_eq_false c879)] at H
            refine QQ.bool 47 (decide (e878_7 < 1)) false c879 (by kernel_rfl) ?_
            refine QQ.op (.slice Aa0 a0.length ca0) (by kernel_rfl) (fun w _ => by kernel_rfl) ?_
            refine QQ.op (.int .i64 x9l0) (by kernel_rfl) (fun w _ => by kernel_rfl) ?_
            refine QQ.op (.pointer (rp Aa0 (x9l0.toNat * 11 + 0))) (by kernel_rfl) (idxR (cp := ca0) (ik := .i64) ha0 he878 rfl (by kernel_rfl) (by kernel_rfl) (by kernel_rfl)) ?_
            refine QQ.op (.pointer (rp Aa0 (x9l0.toNat * 11 + 6))) (by kernel_rfl) (fldR (b := x9l0.toNat * 11) (off := 6) (o1 := 0) (o2 := 6) ha0 he878 rfl (by kernel_rfl) (by kernel_rfl) rfl) ?_
            refine QQ.op (.int .i64 e878_7) (by kernel_rfl) (ldR (off := 6) ha0 he878 rfl (by kernel_rfl) (by kernel_rfl)) ?_
            refine QQ.op (.bool (decide (200 < e878_7))) (by kernel_rfl) (fun w _ => by kernel_rfl) ?_
            refine QQ.op (.bool (decide (200 < e878_7))) (by kernel_rfl) (fun w _ => by kernel_rfl) ?_
            refine QQ.op (.bool (decide (200 < e878_7))) (by kernel_rfl) (fun w _ => by kernel_rfl) ?_
            rcases Bool.eq_false_or_eq_true (decide (200 < e878_7)) with c881 | c881
            · rw [if_pos (of_decide_eq_true c881)] at H
              refine QQ.bool 55 (decide (200 < e878_7)) true c881 (by kernel_rfl) ?_
              refine QQ.off (by kernel_rfl) (by kernel_rfl) ?_
              refine QQ.off (by kernel_rfl) (by kernel_rfl) ?_
              refine QQ.off (by kernel_rfl) (by kernel_rfl) ?_
              refine QQ.off (by kernel_rfl) (by kernel_rfl) ?_
              refine QQ.off (by kernel_rfl) (by kernel_rfl) ?_
              refine QQ.off (by kernel_rfl) (by kernel_rfl) ?_
              refine QQ.op (.bool true) (by kernel_rfl) (fun w _ => by kernel_rfl) ?_
              refine QQ.op (.bool true) (by kernel_rfl) (fun w _ => by kernel_rfl) ?_
              refine QQ.off (by kernel_rfl) (by kernel_rfl) ?_
              refine QQ.off (by kernel_rfl) (by kernel_rfl) ?_
              refine QQ.off (by kernel_rfl) (by kernel_rfl) ?_
              refine QQ.off (by kernel_rfl) (by kernel_rfl) ?_
              refine QQ.off (by kernel_rfl) (by kernel_rfl) ?_
              refine QQ.off (by kernel_rfl) (by kernel_rfl) ?_
              refine QQ.off (by kernel_rfl) (by kernel_rfl) ?_
              refine QQ.off (by kernel_rfl) (by kernel_rfl) ?_
              refine QQ.off (by kernel_rfl) (by kernel_rfl) ?_
              refine QQ.off (by kernel_rfl) (by kernel_rfl) ?_
              refine QQ.off (by kernel_rfl) (by kernel_rfl) ?_
              refine QQ.op (.bool true) (by kernel_rfl) (fun w _ => by kernel_rfl) ?_
              refine QQ.op (.bool true) (by kernel_rfl) (fun w _ => by kernel_rfl) ?_
              refine QQ.off (by kernel_rfl) (by kernel_rfl) ?_
              refine QQ.off (by kernel_rfl) (by kernel_rfl) ?_
              refine QQ.off (by kernel_rfl) (by kernel_rfl) ?_
              refine QQ.off (by kernel_rfl) (by kernel_rfl) ?_
              refine QQ.off (by kernel_rfl) (by kernel_rfl) ?_
              refine QQ.off (by kernel_rfl) (by kernel_rfl) ?_
              refine QQ.op (.bool true) (by kernel_rfl) (fun w _ => by kernel_rfl) ?_
              refine QQ.op (.bool true) (by kernel_rfl) (fun w _ => by kernel_rfl) ?_
              refine QQ.off (by kernel_rfl) (by kernel_rfl) ?_
              refine QQ.off (by kernel_rfl) (by kernel_rfl) ?_
              refine QQ.off (by kernel_rfl) (by kernel_rfl) ?_
              refine QQ.off (by kernel_rfl) (by kernel_rfl) ?_
              refine QQ.off (by kernel_rfl) (by kernel_rfl) ?_
              refine QQ.off (by kernel_rfl) (by kernel_rfl) ?_
              refine QQ.off (by kernel_rfl) (by kernel_rfl) ?_
              refine QQ.off (by kernel_rfl) (by kernel_rfl) ?_
              refine QQ.off (by kernel_rfl) (by kernel_rfl) ?_
              refine QQ.off (by kernel_rfl) (by kernel_rfl) ?_
              refine QQ.off (by kernel_rfl) (by kernel_rfl) ?_
              refine QQ.off (by kernel_rfl) (by kernel_rfl) ?_
              refine QQ.op (.bool true) (by kernel_rfl) (fun w _ => by kernel_rfl) ?_
              refine QQ.op (.bool true) (by kernel_rfl) (fun w _ => by kernel_rfl) ?_
              refine QQ.off (by kernel_rfl) (by kernel_rfl) ?_
              refine QQ.off (by kernel_rfl) (by kernel_rfl) ?_
              refine QQ.off (by kernel_rfl) (by kernel_rfl) ?_
              refine QQ.off (by kernel_rfl) (by kernel_rfl) ?_
              refine QQ.off (by kernel_rfl) (by kernel_rfl) ?_
              refine QQ.off (by kernel_rfl) (by kernel_rfl) ?_
              refine QQ.off (by kernel_rfl) (by kernel_rfl) ?_
              refine QQ.op (.bool true) (by kernel_rfl) (fun w _ => by kernel_rfl) ?_
              refine QQ.done (s' := [(0, .slice Aa0 a0.length ca0), (1, .slice Aa1 a1.length ca1), (2, .slice Aa2 a2.length ca2), (6, .bool false), (7, .slice Ax7l0 x7l0.length cx7l0), (8, .slice Ax8l0 x8l0.length cx8l0), (9, .int .i64 x9l0), (106, .bool true)]) [0, 1, 2, 6, 7, 8, 9, 106] (by kernel_rfl) ?_
              refine NN.then ?_
              refine J.condT (b := true) rfl (by kernel_rfl) (by kernel_rfl) ?_
              refine J.seq ?_
              refine J.plain ?_
              obtain ⟨x882, hx882, H⟩ := bind_some H
              refine LL.call 9 #[] (.bool x882) (by kernel_rfl) (fun w => by kernel_rfl) (fun w hw => sawmilltop_ordersAwake.calls K    _ w   hx882) ?_
              refine LL.op (.bool x882) (by kernel_rfl) (fun w _ => by kernel_rfl) ?_
              refine LL.done (s' := [(0, .slice Aa0 a0.length ca0), (1, .slice Aa1 a1.length ca1), (2, .slice Aa2 a2.length ca2), (6, .bool x882), (7, .slice Ax7l0 x7l0.length cx7l0), (8, .slice Ax8l0 x8l0.length cx8l0), (9, .int .i64 x9l0)]) [0, 1, 2, 6, 7, 8, 9] (by kernel_rfl) ?_
              refine NN.then ?_
              refine J.ret ?_
              refine NN.then_ret ?_
              refine NN.block_ret ?_
              refine NN.then_ret ?_
              refine NN.then_ret ?_
              refine NN.block_ret ?_
              refine NN.then_ret ?_
              refine NN.fin1 6 (.bool x882) (by kernel_rfl) (by kernel_rfl) (.inl rfl) (fun w hi => hi.ret ?_)
              first | (cases H; rfl) | (obtain rfl := Option.some.inj H; rfl) | (simp only [Option.some.injEq, Prod.mk.injEq] at H; obtain ⟨rfl⟩ := H; rfl)
            · rw [if_neg (of_decide_eq_false c881)] at H
              refine QQ.bool 55 (decide (200 < e878_7)) false c881 (by kernel_rfl) ?_
              refine QQ.op (.slice Aa0 a0.length ca0) (by kernel_rfl) (fun w _ => by kernel_rfl) ?_
              refine QQ.op (.int .i64 x9l0) (by kernel_rfl) (fun w _ => by kernel_rfl) ?_
              refine QQ.op (.pointer (rp Aa0 (x9l0.toNat * 11 + 0))) (by kernel_rfl) (idxR (cp := ca0) (ik := .i64) ha0 he878 rfl (by kernel_rfl) (by kernel_rfl) (by kernel_rfl)) ?_
              refine QQ.op (.pointer (rp Aa0 (x9l0.toNat * 11 + 7))) (by kernel_rfl) (fldR (b := x9l0.toNat * 11) (off := 7) (o1 := 0) (o2 := 7) ha0 he878 rfl (by kernel_rfl) (by kernel_rfl) rfl) ?_
              refine QQ.op (.int .i64 e878_8) (by kernel_rfl) (ldR (off := 7) ha0 he878 rfl (by kernel_rfl) (by kernel_rfl)) ?_
              refine QQ.op (.bool (decide (e878_8 < 0))) (by kernel_rfl) (fun w _ => by kernel_rfl) ?_
              refine QQ.op (.bool (decide (e878_8 < 0))) (by kernel_rfl) (fun w _ => by kernel_rfl) ?_
              refine QQ.op (.bool (decide (e878_8 < 0))) (by kernel_rfl) (fun w _ => by kernel_rfl) ?_
              rcases Bool.eq_false_or_eq_true (decide (e878_8 < 0)) with c883 | c883
              · rw [if_pos (of_decide_eq_true c883)] at H
                refine QQ.bool 63 (decide (e878_8 < 0)) true c883 (by kernel_rfl) ?_
                refine QQ.off (by kernel_rfl) (by kernel_rfl) ?_
                refine QQ.off (by kernel_rfl) (by kernel_rfl) ?_
                refine QQ.off (by kernel_rfl) (by kernel_rfl) ?_
                refine QQ.off (by kernel_rfl) (by kernel_rfl) ?_
                refine QQ.off (by kernel_rfl) (by kernel_rfl) ?_
                refine QQ.off (by kernel_rfl) (by kernel_rfl) ?_
                refine QQ.off (by kernel_rfl) (by kernel_rfl) ?_
                refine QQ.off (by kernel_rfl) (by kernel_rfl) ?_
                refine QQ.off (by kernel_rfl) (by kernel_rfl) ?_
                refine QQ.off (by kernel_rfl) (by kernel_rfl) ?_
                refine QQ.off (by kernel_rfl) (by kernel_rfl) ?_
                refine QQ.op (.bool true) (by kernel_rfl) (fun w _ => by kernel_rfl) ?_
                refine QQ.op (.bool true) (by kernel_rfl) (fun w _ => by kernel_rfl) ?_
                refine QQ.off (by kernel_rfl) (by kernel_rfl) ?_
                refine QQ.off (by kernel_rfl) (by kernel_rfl) ?_
                refine QQ.off (by kernel_rfl) (by kernel_rfl) ?_
                refine QQ.off (by kernel_rfl) (by kernel_rfl) ?_
                refine QQ.off (by kernel_rfl) (by kernel_rfl) ?_
                refine QQ.off (by kernel_rfl) (by kernel_rfl) ?_
                refine QQ.op (.bool true) (by kernel_rfl) (fun w _ => by kernel_rfl) ?_
                refine QQ.op (.bool true) (by kernel_rfl) (fun w _ => by kernel_rfl) ?_
                refine QQ.off (by kernel_rfl) (by kernel_rfl) ?_
                refine QQ.off (by kernel_rfl) (by kernel_rfl) ?_
                refine QQ.off (by kernel_rfl) (by kernel_rfl) ?_
                refine QQ.off (by kernel_rfl) (by kernel_rfl) ?_
                refine QQ.off (by kernel_rfl) (by kernel_rfl) ?_
                refine QQ.off (by kernel_rfl) (by kernel_rfl) ?_
                refine QQ.off (by kernel_rfl) (by kernel_rfl) ?_
                refine QQ.off (by kernel_rfl) (by kernel_rfl) ?_
                refine QQ.off (by kernel_rfl) (by kernel_rfl) ?_
                refine QQ.off (by kernel_rfl) (by kernel_rfl) ?_
                refine QQ.off (by kernel_rfl) (by kernel_rfl) ?_
                refine QQ.off (by kernel_rfl) (by kernel_rfl) ?_
                refine QQ.op (.bool true) (by kernel_rfl) (fun w _ => by kernel_rfl) ?_
                refine QQ.op (.bool true) (by kernel_rfl) (fun w _ => by kernel_rfl) ?_
                refine QQ.off (by kernel_rfl) (by kernel_rfl) ?_
                refine QQ.off (by kernel_rfl) (by kernel_rfl) ?_
                refine QQ.off (by kernel_rfl) (by kernel_rfl) ?_
                refine QQ.off (by kernel_rfl) (by kernel_rfl) ?_
                refine QQ.off (by kernel_rfl) (by kernel_rfl) ?_
                refine QQ.off (by kernel_rfl) (by kernel_rfl) ?_
                refine QQ.off (by kernel_rfl) (by kernel_rfl) ?_
                refine QQ.op (.bool true) (by kernel_rfl) (fun w _ => by kernel_rfl) ?_
                refine QQ.done (s' := [(0, .slice Aa0 a0.length ca0), (1, .slice Aa1 a1.length ca1), (2, .slice Aa2 a2.length ca2), (6, .bool false), (7, .slice Ax7l0 x7l0.length cx7l0), (8, .slice Ax8l0 x8l0.length cx8l0), (9, .int .i64 x9l0), (106, .bool true)]) [0, 1, 2, 6, 7, 8, 9, 106] (by kernel_rfl) ?_
                refine NN.then ?_
                refine J.condT (b := true) rfl (by kernel_rfl) (by kernel_rfl) ?_
                refine J.seq ?_
                refine J.plain ?_
                obtain ⟨x884, hx884, H⟩ := bind_some H
                refine LL.call 9 #[] (.bool x884) (by kernel_rfl) (fun w => by kernel_rfl) (fun w hw => sawmilltop_ordersAwake.calls K    _ w   hx884) ?_
                refine LL.op (.bool x884) (by kernel_rfl) (fun w _ => by kernel_rfl) ?_
                refine LL.done (s' := [(0, .slice Aa0 a0.length ca0), (1, .slice Aa1 a1.length ca1), (2, .slice Aa2 a2.length ca2), (6, .bool x884), (7, .slice Ax7l0 x7l0.length cx7l0), (8, .slice Ax8l0 x8l0.length cx8l0), (9, .int .i64 x9l0)]) [0, 1, 2, 6, 7, 8, 9] (by kernel_rfl) ?_
                refine NN.then ?_
                refine J.ret ?_
                refine NN.then_ret ?_
                refine NN.block_ret ?_
                refine NN.then_ret ?_
                refine NN.then_ret ?_
                refine NN.block_ret ?_
                refine NN.then_ret ?_
                refine NN.fin1 6 (.bool x884) (by kernel_rfl) (by kernel_rfl) (.inl rfl) (fun w hi => hi.ret ?_)
                first | (cases H; rfl) | (obtain rfl := Option.some.inj H; rfl) | (simp only [Option.some.injEq, Prod.mk.injEq] at H; obtain ⟨rfl⟩ := H; rfl)
              · rw [if_neg (of_decide_eq_false c883)] at H
                refine QQ.bool 63 (decide (e878_8 < 0)) false c883 (by kernel_rfl) ?_
                refine QQ.op (.slice Aa0 a0.length ca0) (by kernel_rfl) (fun w _ => by kernel_rfl) ?_
                refine QQ.op (.int .i64 x9l0) (by kernel_rfl) (fun w _ => by kernel_rfl) ?_
                refine QQ.op (.pointer (rp Aa0 (x9l0.toNat * 11 + 0))) (by kernel_rfl) (idxR (cp := ca0) (ik := .i64) ha0 he878 rfl (by kernel_rfl) (by kernel_rfl) (by kernel_rfl)) ?_
                refine QQ.op (.pointer (rp Aa0 (x9l0.toNat * 11 + 7))) (by kernel_rfl) (fldR (b := x9l0.toNat * 11) (off := 7) (o1 := 0) (o2 := 7) ha0 he878 rfl (by kernel_rfl) (by kernel_rfl) rfl) ?_
                refine QQ.op (.int .i64 e878_8) (by kernel_rfl) (ldR (off := 7) ha0 he878 rfl (by kernel_rfl) (by kernel_rfl)) ?_
                refine QQ.op (.slice Aa0 a0.length ca0) (by kernel_rfl) (fun w _ => by kernel_rfl) ?_
                refine QQ.op (.int .i64 x9l0) (by kernel_rfl) (fun w _ => by kernel_rfl) ?_
                refine QQ.op (.pointer (rp Aa0 (x9l0.toNat * 11 + 0))) (by kernel_rfl) (idxR (cp := ca0) (ik := .i64) ha0 he878 rfl (by kernel_rfl) (by kernel_rfl) (by kernel_rfl)) ?_
                refine QQ.op (.pointer (rp Aa0 (x9l0.toNat * 11 + 6))) (by kernel_rfl) (fldR (b := x9l0.toNat * 11) (off := 6) (o1 := 0) (o2 := 6) ha0 he878 rfl (by kernel_rfl) (by kernel_rfl) rfl) ?_
                refine QQ.op (.int .i64 e878_7) (by kernel_rfl) (ldR (off := 6) ha0 he878 rfl (by kernel_rfl) (by kernel_rfl)) ?_
                refine QQ.op (.bool (decide (e878_7 ≤ e878_8))) (by kernel_rfl) (fun w _ => by kernel_rfl) ?_
                refine QQ.op (.bool (decide (e878_7 ≤ e878_8))) (by kernel_rfl) (fun w _ => by kernel_rfl) ?_
                refine QQ.op (.bool (decide (e878_7 ≤ e878_8))) (by kernel_rfl) (fun w _ => by kernel_rfl) ?_
                rcases Bool.eq_false_or_eq_true (decide (e878_7 ≤ e878_8)) with c885 | c885
                · rw [if_pos (of_decide_eq_true c885)] at H
                  refine QQ.bool 76 (decide (e878_7 ≤ e878_8)) true c885 (by kernel_rfl) ?_
                  refine QQ.off (by kernel_rfl) (by kernel_rfl) ?_
                  refine QQ.off (by kernel_rfl) (by kernel_rfl) ?_
                  refine QQ.off (by kernel_rfl) (by kernel_rfl) ?_
                  refine QQ.off (by kernel_rfl) (by kernel_rfl) ?_
                  refine QQ.off (by kernel_rfl) (by kernel_rfl) ?_
                  refine QQ.off (by kernel_rfl) (by kernel_rfl) ?_
                  refine QQ.op (.bool true) (by kernel_rfl) (fun w _ => by kernel_rfl) ?_
                  refine QQ.op (.bool true) (by kernel_rfl) (fun w _ => by kernel_rfl) ?_
                  refine QQ.off (by kernel_rfl) (by kernel_rfl) ?_
                  refine QQ.off (by kernel_rfl) (by kernel_rfl) ?_
                  refine QQ.off (by kernel_rfl) (by kernel_rfl) ?_
                  refine QQ.off (by kernel_rfl) (by kernel_rfl) ?_
                  refine QQ.off (by kernel_rfl) (by kernel_rfl) ?_
                  refine QQ.off (by kernel_rfl) (by kernel_rfl) ?_
                  refine QQ.off (by kernel_rfl) (by kernel_rfl) ?_
                  refine QQ.off (by kernel_rfl) (by kernel_rfl) ?_
                  refine QQ.off (by kernel_rfl) (by kernel_rfl) ?_
                  refine QQ.off (by kernel_rfl) (by kernel_rfl) ?_
                  refine QQ.off (by kernel_rfl) (by kernel_rfl) ?_
                  refine QQ.off (by kernel_rfl) (by kernel_rfl) ?_
                  refine QQ.op (.bool true) (by kernel_rfl) (fun w _ => by kernel_rfl) ?_
                  refine QQ.op (.bool true) (by kernel_rfl) (fun w _ => by kernel_rfl) ?_
                  refine QQ.off (by kernel_rfl) (by kernel_rfl) ?_
                  refine QQ.off (by kernel_rfl) (by kernel_rfl) ?_
                  refine QQ.off (by kernel_rfl) (by kernel_rfl) ?_
                  refine QQ.off (by kernel_rfl) (by kernel_rfl) ?_
                  refine QQ.off (by kernel_rfl) (by kernel_rfl) ?_
                  refine QQ.off (by kernel_rfl) (by kernel_rfl) ?_
                  refine QQ.off (by kernel_rfl) (by kernel_rfl) ?_
                  refine QQ.op (.bool true) (by kernel_rfl) (fun w _ => by kernel_rfl) ?_
                  refine QQ.done (s' := [(0, .slice Aa0 a0.length ca0), (1, .slice Aa1 a1.length ca1), (2, .slice Aa2 a2.length ca2), (6, .bool false), (7, .slice Ax7l0 x7l0.length cx7l0), (8, .slice Ax8l0 x8l0.length cx8l0), (9, .int .i64 x9l0), (106, .bool true)]) [0, 1, 2, 6, 7, 8, 9, 106] (by kernel_rfl) ?_
                  refine NN.then ?_
                  refine J.condT (b := true) rfl (by kernel_rfl) (by kernel_rfl) ?_
                  refine J.seq ?_
                  refine J.plain ?_
                  obtain ⟨x886, hx886, H⟩ := bind_some H
                  refine LL.call 9 #[] (.bool x886) (by kernel_rfl) (fun w => by kernel_rfl) (fun w hw => sawmilltop_ordersAwake.calls K    _ w   hx886) ?_
                  refine LL.op (.bool x886) (by kernel_rfl) (fun w _ => by kernel_rfl) ?_
                  refine LL.done (s' := [(0, .slice Aa0 a0.length ca0), (1, .slice Aa1 a1.length ca1), (2, .slice Aa2 a2.length ca2), (6, .bool x886), (7, .slice Ax7l0 x7l0.length cx7l0), (8, .slice Ax8l0 x8l0.length cx8l0), (9, .int .i64 x9l0)]) [0, 1, 2, 6, 7, 8, 9] (by kernel_rfl) ?_
                  refine NN.then ?_
                  refine J.ret ?_
                  refine NN.then_ret ?_
                  refine NN.block_ret ?_
                  refine NN.then_ret ?_
                  refine NN.then_ret ?_
                  refine NN.block_ret ?_
                  refine NN.then_ret ?_
                  refine NN.fin1 6 (.bool x886) (by kernel_rfl) (by kernel_rfl) (.inl rfl) (fun w hi => hi.ret ?_)
                  first | (cases H; rfl) | (obtain rfl := Option.some.inj H; rfl) | (simp only [Option.some.injEq, Prod.mk.injEq] at H; obtain ⟨rfl⟩ := H; rfl)
                · rw [if_neg (of_decide_eq_false c885)] at H
                  refine QQ.bool 76 (decide (e878_7 ≤ e878_8)) false c885 (by kernel_rfl) ?_
                  refine QQ.op (.slice Aa0 a0.length ca0) (by kernel_rfl) (fun w _ => by kernel_rfl) ?_
                  refine QQ.op (.int .i64 x9l0) (by kernel_rfl) (fun w _ => by kernel_rfl) ?_
                  refine QQ.op (.pointer (rp Aa0 (x9l0.toNat * 11 + 0))) (by kernel_rfl) (idxR (cp := ca0) (ik := .i64) ha0 he878 rfl (by kernel_rfl) (by kernel_rfl) (by kernel_rfl)) ?_
                  refine QQ.op (.pointer (rp Aa0 (x9l0.toNat * 11 + 8))) (by kernel_rfl) (fldR (b := x9l0.toNat * 11) (off := 8) (o1 := 0) (o2 := 8) ha0 he878 rfl (by kernel_rfl) (by kernel_rfl) rfl) ?_
                  refine QQ.op (.int .i64 e878_9) (by kernel_rfl) (ldR (off := 8) ha0 he878 rfl (by kernel_rfl) (by kernel_rfl)) ?_
                  refine QQ.op (.bool (decide (e878_9 < 0))) (by kernel_rfl) (fun w _ => by kernel_rfl) ?_
                  refine QQ.op (.bool (decide (e878_9 < 0))) (by kernel_rfl) (fun w _ => by kernel_rfl) ?_
                  refine QQ.op (.bool (decide (e878_9 < 0))) (by kernel_rfl) (fun w _ => by kernel_rfl) ?_
                  rcases Bool.eq_false_or_eq_true (decide (e878_9 < 0)) with c887 | c887
                  · rw [if_pos (of_decide_eq_true c887)] at H
                    refine QQ.bool 84 (decide (e878_9 < 0)) true c887 (by kernel_rfl) ?_
                    refine QQ.off (by kernel_rfl) (by kernel_rfl) ?_
                    refine QQ.off (by kernel_rfl) (by kernel_rfl) ?_
                    refine QQ.off (by kernel_rfl) (by kernel_rfl) ?_
                    refine QQ.off (by kernel_rfl) (by kernel_rfl) ?_
                    refine QQ.off (by kernel_rfl) (by kernel_rfl) ?_
                    refine QQ.off (by kernel_rfl) (by kernel_rfl) ?_
                    refine QQ.off (by kernel_rfl) (by kernel_rfl) ?_
                    refine QQ.off (by kernel_rfl) (by kernel_rfl) ?_
                    refine QQ.off (by kernel_rfl) (by kernel_rfl) ?_
                    refine QQ.off (by kernel_rfl) (by kernel_rfl) ?_
                    refine QQ.off (by kernel_rfl) (by kernel_rfl) ?_
                    refine QQ.off (by kernel_rfl) (by kernel_rfl) ?_
                    refine QQ.op (.bool true) (by kernel_rfl) (fun w _ => by kernel_rfl) ?_
                    refine QQ.op (.bool true) (by kernel_rfl) (fun w _ => by kernel_rfl) ?_
                    refine QQ.off (by kernel_rfl) (by kernel_rfl) ?_
                    refine QQ.off (by kernel_rfl) (by kernel_rfl) ?_
                    refine QQ.off (by kernel_rfl) (by kernel_rfl) ?_
                    refine QQ.off (by kernel_rfl) (by kernel_rfl) ?_
                    refine QQ.off (by kernel_rfl) (by kernel_rfl) ?_
                    refine QQ.off (by kernel_rfl) (by kernel_rfl) ?_
                    refine QQ.off (by kernel_rfl) (by kernel_rfl) ?_
                    refine QQ.op (.bool true) (by kernel_rfl) (fun w _ => by kernel_rfl) ?_
                    refine QQ.done (s' := [(0, .slice Aa0 a0.length ca0), (1, .slice Aa1 a1.length ca1), (2, .slice Aa2 a2.length ca2), (6, .bool false), (7, .slice Ax7l0 x7l0.length cx7l0), (8, .slice Ax8l0 x8l0.length cx8l0), (9, .int .i64 x9l0), (106, .bool true)]) [0, 1, 2, 6, 7, 8, 9, 106] (by kernel_rfl) ?_
                    refine NN.then ?_
                    refine J.condT (b := true) rfl (by kernel_rfl) (by kernel_rfl) ?_
                    refine J.seq ?_
                    refine J.plain ?_
                    obtain ⟨x888, hx888, H⟩ := bind_some H
                    refine LL.call 9 #[] (.bool x888) (by kernel_rfl) (fun w => by kernel_rfl) (fun w hw => sawmilltop_ordersAwake.calls K    _ w   hx888) ?_
                    refine LL.op (.bool x888) (by kernel_rfl) (fun w _ => by kernel_rfl) ?_
                    refine LL.done (s' := [(0, .slice Aa0 a0.length ca0), (1, .slice Aa1 a1.length ca1), (2, .slice Aa2 a2.length ca2), (6, .bool x888), (7, .slice Ax7l0 x7l0.length cx7l0), (8, .slice Ax8l0 x8l0.length cx8l0), (9, .int .i64 x9l0)]) [0, 1, 2, 6, 7, 8, 9] (by kernel_rfl) ?_
                    refine NN.then ?_
                    refine J.ret ?_
                    refine NN.then_ret ?_
                    refine NN.block_ret ?_
                    refine NN.then_ret ?_
                    refine NN.then_ret ?_
                    refine NN.block_ret ?_
                    refine NN.then_ret ?_
                    refine NN.fin1 6 (.bool x888) (by kernel_rfl) (by kernel_rfl) (.inl rfl) (fun w hi => hi.ret ?_)
                    first | (cases H; rfl) | (obtain rfl := Option.some.inj H; rfl) | (simp only [Option.some.injEq, Prod.mk.injEq] at H; obtain ⟨rfl⟩ := H; rfl)
                  · rw [if_neg (of_decide_eq_false c887)] at H
                    refine QQ.bool 84 (decide (e878_9 < 0)) false c887 (by kernel_rfl) ?_
                    refine QQ.op (.slice Aa0 a0.length ca0) (by kernel_rfl) (fun w _ => by kernel_rfl) ?_
                    refine QQ.op (.int .i64 x9l0) (by kernel_rfl) (fun w _ => by kernel_rfl) ?_
                    refine QQ.op (.pointer (rp Aa0 (x9l0.toNat * 11 + 0))) (by kernel_rfl) (idxR (cp := ca0) (ik := .i64) ha0 he878 rfl (by kernel_rfl) (by kernel_rfl) (by kernel_rfl)) ?_
                    refine QQ.op (.pointer (rp Aa0 (x9l0.toNat * 11 + 8))) (by kernel_rfl) (fldR (b := x9l0.toNat * 11) (off := 8) (o1 := 0) (o2 := 8) ha0 he878 rfl (by kernel_rfl) (by kernel_rfl) rfl) ?_
                    refine QQ.op (.int .i64 e878_9) (by kernel_rfl) (ldR (off := 8) ha0 he878 rfl (by kernel_rfl) (by kernel_rfl)) ?_
                    refine QQ.op (.slice Aa0 a0.length ca0) (by kernel_rfl) (fun w _ => by kernel_rfl) ?_
                    refine QQ.op (.int .i64 x9l0) (by kernel_rfl) (fun w _ => by kernel_rfl) ?_
                    refine QQ.op (.pointer (rp Aa0 (x9l0.toNat * 11 + 0))) (by kernel_rfl) (idxR (cp := ca0) (ik := .i64) ha0 he878 rfl (by kernel_rfl) (by kernel_rfl) (by kernel_rfl)) ?_
                    refine QQ.op (.pointer (rp Aa0 (x9l0.toNat * 11 + 6))) (by kernel_rfl) (fldR (b := x9l0.toNat * 11) (off := 6) (o1 := 0) (o2 := 6) ha0 he878 rfl (by kernel_rfl) (by kernel_rfl) rfl) ?_
                    refine QQ.op (.int .i64 e878_7) (by kernel_rfl) (ldR (off := 6) ha0 he878 rfl (by kernel_rfl) (by kernel_rfl)) ?_
                    refine QQ.op (.int .i64 (IntKind.i64.wrap (200 - e878_7))) (by kernel_rfl) (fun w _ => by kernel_rfl) ?_
                    refine QQ.op (.bool (decide ((IntKind.i64.wrap (200 - e878_7)) < e878_9))) (by kernel_rfl) (fun w _ => by kernel_rfl) ?_
                    refine QQ.op (.bool (decide ((IntKind.i64.wrap (200 - e878_7)) < e878_9))) (by kernel_rfl) (fun w _ => by kernel_rfl) ?_
                    refine QQ.op (.bool (decide ((IntKind.i64.wrap (200 - e878_7)) < e878_9))) (by kernel_rfl) (fun w _ => by kernel_rfl) ?_
                    rcases Bool.eq_false_or_eq_true (decide ((IntKind.i64.wrap (200 - e878_7)) < e878_9)) with c889 | c889
                    · rw [if_pos (of_decide_eq_true c889)] at H
                      refine QQ.bool 98 (decide ((IntKind.i64.wrap (200 - e878_7)) < e878_9)) true c889 (by kernel_rfl) ?_
                      refine QQ.off (by kernel_rfl) (by kernel_rfl) ?_
                      refine QQ.off (by kernel_rfl) (by kernel_rfl) ?_
                      refine QQ.off (by kernel_rfl) (by kernel_rfl) ?_
                      refine QQ.off (by kernel_rfl) (by kernel_rfl) ?_
                      refine QQ.off (by kernel_rfl) (by kernel_rfl) ?_
                      refine QQ.off (by kernel_rfl) (by kernel_rfl) ?_
                      refine QQ.off (by kernel_rfl) (by kernel_rfl) ?_
                      refine QQ.op (.bool true) (by kernel_rfl) (fun w _ => by kernel_rfl) ?_
                      refine QQ.done (s' := [(0, .slice Aa0 a0.length ca0), (1, .slice Aa1 a1.length ca1), (2, .slice Aa2 a2.length ca2), (6, .bool false), (7, .slice Ax7l0 x7l0.length cx7l0), (8, .slice Ax8l0 x8l0.length cx8l0), (9, .int .i64 x9l0), (106, .bool true)]) [0, 1, 2, 6, 7, 8, 9, 106] (by kernel_rfl) ?_
                      refine NN.then ?_
                      refine J.condT (b := true) rfl (by kernel_rfl) (by kernel_rfl) ?_
                      refine J.seq ?_
                      refine J.plain ?_
                      obtain ⟨x890, hx890, H⟩ := bind_some H
                      refine LL.call 9 #[] (.bool x890) (by kernel_rfl) (fun w => by kernel_rfl) (fun w hw => sawmilltop_ordersAwake.calls K    _ w   hx890) ?_
                      refine LL.op (.bool x890) (by kernel_rfl) (fun w _ => by kernel_rfl) ?_
                      refine LL.done (s' := [(0, .slice Aa0 a0.length ca0), (1, .slice Aa1 a1.length ca1), (2, .slice Aa2 a2.length ca2), (6, .bool x890), (7, .slice Ax7l0 x7l0.length cx7l0), (8, .slice Ax8l0 x8l0.length cx8l0), (9, .int .i64 x9l0)]) [0, 1, 2, 6, 7, 8, 9] (by kernel_rfl) ?_
                      refine NN.then ?_
                      refine J.ret ?_
                      refine NN.then_ret ?_
                      refine NN.block_ret ?_
                      refine NN.then_ret ?_
                      refine NN.then_ret ?_
                      refine NN.block_ret ?_
                      refine NN.then_ret ?_
                      refine NN.fin1 6 (.bool x890) (by kernel_rfl) (by kernel_rfl) (.inl rfl) (fun w hi => hi.ret ?_)
                      first | (cases H; rfl) | (obtain rfl := Option.some.inj H; rfl) | (simp only [Option.some.injEq, Prod.mk.injEq] at H; obtain ⟨rfl⟩ := H; rfl)
                    · rw [if_neg (of_decide_eq_false c889)] at H
                      refine QQ.bool 98 (decide ((IntKind.i64.wrap (200 - e878_7)) < e878_9)) false c889 (by kernel_rfl) ?_
                      refine QQ.op (.slice Aa0 a0.length ca0) (by kernel_rfl) (fun w _ => by kernel_rfl) ?_
                      refine QQ.op (.int .i64 x9l0) (by kernel_rfl) (fun w _ => by kernel_rfl) ?_
                      refine QQ.op (.pointer (rp Aa0 (x9l0.toNat * 11 + 0))) (by kernel_rfl) (idxR (cp := ca0) (ik := .i64) ha0 he878 rfl (by kernel_rfl) (by kernel_rfl) (by kernel_rfl)) ?_
                      refine QQ.op (.pointer (rp Aa0 (x9l0.toNat * 11 + 1))) (by kernel_rfl) (fldR (b := x9l0.toNat * 11) (off := 1) (o1 := 0) (o2 := 1) ha0 he878 rfl (by kernel_rfl) (by kernel_rfl) rfl) ?_
                      refine QQ.op (.string e878_2) (by kernel_rfl) (ldR (off := 1) ha0 he878 rfl (by kernel_rfl) (by kernel_rfl)) ?_
                      refine QQ.op (.int .i64 (e878_2.size : Int)) (by kernel_rfl) (fun w _ => by kernel_rfl) ?_
                      refine QQ.op (.bool (decide (100 < (e878_2.size : Int)))) (by kernel_rfl) (fun w _ => by kernel_rfl) ?_
                      refine QQ.op (.bool (decide (100 < (e878_2.size : Int)))) (by kernel_rfl) (fun w _ => by kernel_rfl) ?_
                      refine QQ.done (s' := [(0, .slice Aa0 a0.length ca0), (1, .slice Aa1 a1.length ca1), (2, .slice Aa2 a2.length ca2), (6, .bool false), (7, .slice Ax7l0 x7l0.length cx7l0), (8, .slice Ax8l0 x8l0.length cx8l0), (9, .int .i64 x9l0), (106, .bool (decide (100 < (e878_2.size : Int))))]) [0, 1, 2, 6, 7, 8, 9, 106] (by kernel_rfl) ?_
                      refine NN.then ?_
                      rcases Bool.eq_false_or_eq_true (decide (100 < (e878_2.size : Int))) with c891 | c891
                      · rw [if_pos (of_decide_eq_true c891)] at H
                        refine J.condT (b := decide (100 < (e878_2.size : Int))) c891 (by kernel_rfl) (by kernel_rfl) ?_
                        refine J.seq ?_
                        refine J.plain ?_
                        obtain ⟨x892, hx892, H⟩ := bind_some H
                        refine LL.call 9 #[] (.bool x892) (by kernel_rfl) (fun w => by kernel_rfl) (fun w hw => sawmilltop_ordersAwake.calls K    _ w   hx892) ?_
                        refine LL.op (.bool x892) (by kernel_rfl) (fun w _ => by kernel_rfl) ?_
                        refine LL.done (s' := [(0, .slice Aa0 a0.length ca0), (1, .slice Aa1 a1.length ca1), (2, .slice Aa2 a2.length ca2), (6, .bool x892), (7, .slice Ax7l0 x7l0.length cx7l0), (8, .slice Ax8l0 x8l0.length cx8l0), (9, .int .i64 x9l0)]) [0, 1, 2, 6, 7, 8, 9] (by kernel_rfl) ?_
                        refine NN.then ?_
                        refine J.ret ?_
                        refine NN.then_ret ?_
                        refine NN.block_ret ?_
                        refine NN.then_ret ?_
                        refine NN.then_ret ?_
                        refine NN.block_ret ?_
                        refine NN.then_ret ?_
                        refine NN.fin1 6 (.bool x892) (by kernel_rfl) (by kernel_rfl) (.inl rfl) (fun w hi => hi.ret ?_)
                        first | (cases H; rfl) | (obtain rfl := Option.some.inj H; rfl) | (simp only [Option.some.injEq, Prod.mk.injEq] at H; obtain ⟨rfl⟩ := H; rfl)
                      · rw [if_neg (of_decide_eq_false c891)] at H
                        refine J.condF (b := decide (100 < (e878_2.size : Int))) c891 (by kernel_rfl) (by kernel_rfl) ?_
                        refine J.skip ?_
                        refine NN.then ?_
                        refine J.seq ?_
                        refine J.plain ?_
                        refine LL.op (.slice Ax7l0 x7l0.length cx7l0) (by kernel_rfl) (fun w _ => by kernel_rfl) ?_
                        refine LL.op (.slice Aa0 a0.length ca0) (by kernel_rfl) (fun w _ => by kernel_rfl) ?_
                        refine LL.op (.int .i64 x9l0) (by kernel_rfl) (fun w _ => by kernel_rfl) ?_
                        refine LL.op (.pointer (rp Aa0 (x9l0.toNat * 11 + 0))) (by kernel_rfl) (idxR (cp := ca0) (ik := .i64) ha0 he878 rfl (by kernel_rfl) (by kernel_rfl) (by kernel_rfl)) ?_
                        refine LL.op (.agg #[.string e878_1, .string e878_2, .int .i64 e878_3, .int .i64 e878_4, .int .i64 e878_5, .int .i64 e878_6, .int .i64 e878_7, .int .i64 e878_8, .int .i64 e878_9, .int .i64 e878_10, .int .i64 e878_11]) (by kernel_rfl) (ldR (off := 0) ha0 he878 rfl (by kernel_rfl) (by kernel_rfl)) ?_
                        obtain ⟨x893, hx893, H⟩ := bind_some H
                        refine LL.call 10 #[.agg #[.string e878_1, .string e878_2, .int .i64 e878_3, .int .i64 e878_4, .int .i64 e878_5, .int .i64 e878_6, .int .i64 e878_7, .int .i64 e878_8, .int .i64 e878_9, .int .i64 e878_10, .int .i64 e878_11]] (.int .i64 x893) (by kernel_rfl) (fun w => by kernel_rfl) (fun w hw => order_Least.calls e878_1 e878_2 e878_3 e878_4 e878_5 e878_6 e878_7 e878_8 e878_9 e878_10 e878_11   _ w   hx893) ?_
                        refine LL.lit 24 1 #[(0, .tmp 113)] [.int .i64 x893] 3 ([x893] : List E3) (by kernel_rfl) rfl (by kernel_rfl) ok3.len rfl rfl (fun R894 F895 A896 c897 le898 k899 fr900 => ?_)
                        refine LL.perm (perm_rot _ _ _) ?_
                        obtain ⟨y902, hy902, H⟩ := bind_some H
                        refine LL.app (l2 := ([x893] : List E3)) (cap := cx7l0) (c2 := c897) ([] ++ bax8l0) (.tmp 108) (.tmp 114) el24 ok3 ox7l0 k899 hy902 (by kernel_rfl) rfl (by kernel_rfl) (by kernel_rfl) (fun A903 c904 ba905 o906 => ?_)
                        refine LL.op (.slice A903 y902.length c904) (by kernel_rfl) (fun w _ => by kernel_rfl) ?_
                        refine LL.done (s' := [(0, .slice Aa0 a0.length ca0), (1, .slice Aa1 a1.length ca1), (2, .slice Aa2 a2.length ca2), (6, .bool false), (7, .slice A903 y902.length c904), (8, .slice Ax8l0 x8l0.length cx8l0), (9, .int .i64 x9l0)]) [0, 1, 2, 6, 7, 8, 9] (by kernel_rfl) ?_
                        refine NN.then ?_
                        refine J.plain ?_
                        refine LL.op (.slice Ax8l0 x8l0.length cx8l0) (by kernel_rfl) (fun w _ => by kernel_rfl) ?_
                        refine LL.op (.slice Aa0 a0.length ca0) (by kernel_rfl) (fun w _ => by kernel_rfl) ?_
                        refine LL.op (.int .i64 x9l0) (by kernel_rfl) (fun w _ => by kernel_rfl) ?_
                        refine LL.op (.pointer (rp Aa0 (x9l0.toNat * 11 + 0))) (by kernel_rfl) (idxR (cp := ca0) (ik := .i64) (ha0.le le898) he878 rfl (by kernel_rfl) (by kernel_rfl) (by kernel_rfl)) ?_
                        refine LL.op (.agg #[.string e878_1, .string e878_2, .int .i64 e878_3, .int .i64 e878_4, .int .i64 e878_5, .int .i64 e878_6, .int .i64 e878_7, .int .i64 e878_8, .int .i64 e878_9, .int .i64 e878_10, .int .i64 e878_11]) (by kernel_rfl) (ldR (off := 0) (ha0.le le898) he878 rfl (by kernel_rfl) (by kernel_rfl)) ?_
                        obtain ⟨x908, hx908, H⟩ := bind_some H
                        refine LL.call 11 #[.agg #[.string e878_1, .string e878_2, .int .i64 e878_3, .int .i64 e878_4, .int .i64 e878_5, .int .i64 e878_6, .int .i64 e878_7, .int .i64 e878_8, .int .i64 e878_9, .int .i64 e878_10, .int .i64 e878_11]] (.int .i64 x908) (by kernel_rfl) (fun w => by kernel_rfl) (fun w hw => order_Most.calls e878_1 e878_2 e878_3 e878_4 e878_5 e878_6 e878_7 e878_8 e878_9 e878_10 e878_11   _ w   hx908) ?_
                        refine LL.lit 24 1 #[(0, .tmp 121)] [.int .i64 x908] 3 ([x908] : List E3) (by kernel_rfl) rfl (by kernel_rfl) ok3.len rfl rfl (fun R909 F910 A911 c912 le913 k914 fr915 => ?_)
                        refine LL.perm (perm_rot _ _ _) ?_
                        obtain ⟨y917, hy917, H⟩ := bind_some H
                        refine LL.app (l2 := ([x908] : List E3)) (cap := cx8l0) (c2 := c912) ([] ++ ba905) (.tmp 116) (.tmp 122) el24 ok3 ox8l0 k914 hy917 (by kernel_rfl) rfl (by kernel_rfl) (by kernel_rfl) (fun A918 c919 ba920 o921 => ?_)
                        refine LL.op (.slice A918 y917.length c919) (by kernel_rfl) (fun w _ => by kernel_rfl) ?_
                        refine LL.done (s' := [(0, .slice Aa0 a0.length ca0), (1, .slice Aa1 a1.length ca1), (2, .slice Aa2 a2.length ca2), (6, .bool false), (7, .slice A903 y902.length c904), (8, .slice A918 y917.length c919), (9, .int .i64 x9l0)]) [0, 1, 2, 6, 7, 8, 9] (by kernel_rfl) ?_
                        refine NN.block_n ?_
                        refine NN.then ?_
                        refine J.plain ?_
                        refine LL.op (.int .i64 x9l0) (by kernel_rfl) (fun w _ => by kernel_rfl) ?_
                        refine LL.op (.int .i64 (IntKind.i64.wrap (x9l0 + 1))) (by kernel_rfl) (fun w _ => by kernel_rfl) ?_
                        refine LL.op (.int .i64 (IntKind.i64.wrap (x9l0 + 1))) (by kernel_rfl) (fun w _ => by kernel_rfl) ?_
                        refine LL.done (s' := [(0, .slice Aa0 a0.length ca0), (1, .slice Aa1 a1.length ca1), (2, .slice Aa2 a2.length ca2), (6, .bool false), (7, .slice A903 y902.length c904), (8, .slice A918 y917.length c919), (9, .int .i64 (IntKind.i64.wrap (x9l0 + 1)))]) [0, 1, 2, 6, 7, 8, 9] (by kernel_rfl) ?_
                        exact NN.roundR [0, 1, 2, 6, 7, 8, 9] (bs' := [] ++ ba905 ++ ba920) (fun _ _ h => ((h.back le913).back le898)) (Nat.lt_succ_self _) (((List.Sublist.refl _).append_right _).append_right _) (by kernel_rfl) ⟨y902, y917, IntKind.i64.wrap (x9l0 + 1), A903, c904, ba905, A918, c919, ba920, H, o906, o921, rfl, rfl⟩
        · rw [if_neg (of_decide_eq_false c877)] at H
          refine J.condF (b := decide (x9l0 < (a0.length : Int))) c877 (by kernel_rfl) (by kernel_rfl) ?_
          refine J.exit ?_
          refine NN.then_exit ?_
          refine NN.then_exit ?_
          refine NN.block_same ?_
          refine NN.then ?_
          refine J.seq ?_
          refine J.seq ?_
          refine J.plain ?_
          refine LL.op (.int .i64 0) (by kernel_rfl) (fun w _ => by kernel_rfl) ?_
          refine LL.done (s' := [(0, .slice Aa0 a0.length ca0), (1, .slice Aa1 a1.length ca1), (2, .slice Aa2 a2.length ca2), (6, .bool false), (7, .slice Ax7l0 x7l0.length cx7l0), (8, .slice Ax8l0 x8l0.length cx8l0), (10, .int .i64 0)]) [0, 1, 2, 6, 7, 8, 10] (by kernel_rfl) ?_
          refine NN.then ?_
          refine J.block ?_
          refine J.to [0, 1, 2, 6, 7, 8, 10] (s' := [(0, .slice Aa0 a0.length ca0), (1, .slice Aa1 a1.length ca1), (2, .slice Aa2 a2.length ca2), (6, .bool false), (7, .slice Ax7l0 x7l0.length cx7l0), (8, .slice Ax8l0 x8l0.length cx8l0), (10, .int .i64 0)]) (by kernel_rfl) ?_
          obtain ⟨kont923, hk923, H⟩ := kont_intro (P := fun q_ => sawmilltop_TopOrders.l1 K a1 q_ K 0 = some r1) H
          refine J.loop (fun n_ s_ bs_ => ∃ (x10l1 : Int), sawmilltop_TopOrders.l1 K a1 kont923 n_ x10l1 = some r1 ∧ s_ = [(0, .slice Aa0 a0.length ca0), (1, .slice Aa1 a1.length ca1), (2, .slice Aa2 a2.length ca2), (6, .bool false), (7, .slice Ax7l0 x7l0.length cx7l0), (8, .slice Ax8l0 x8l0.length cx8l0), (10, .int .i64 x10l1)] ∧ [] ++ bax7l0 ++ bax8l0 = bs_) K ⟨0, H, rfl, rfl⟩ ?_
          rintro (_ | n_) s_ bs_ ⟨x10l1, H, rfl, rfl⟩
          · exact absurd H (by simp [sawmilltop_TopOrders.l1])
          simp only [sawmilltop_TopOrders.l1] at H
          refine J.seq ?_
          refine J.seq ?_
          refine J.plain ?_
          refine LL.op (.int .i64 x10l1) (by kernel_rfl) (fun w _ => by kernel_rfl) ?_
          refine LL.op (.slice Aa1 a1.length ca1) (by kernel_rfl) (fun w _ => by kernel_rfl) ?_
          refine LL.op (.int .i64 (a1.length : Int)) (by kernel_rfl) (fun w _ => by kernel_rfl) ?_
          refine LL.op (.bool (decide (x10l1 < (a1.length : Int)))) (by kernel_rfl) (fun w _ => by kernel_rfl) ?_
          refine LL.done (s' := [(0, .slice Aa0 a0.length ca0), (1, .slice Aa1 a1.length ca1), (2, .slice Aa2 a2.length ca2), (6, .bool false), (7, .slice Ax7l0 x7l0.length cx7l0), (8, .slice Ax8l0 x8l0.length cx8l0), (10, .int .i64 x10l1), (127, .bool (decide (x10l1 < (a1.length : Int))))]) [0, 1, 2, 6, 7, 8, 10, 127] (by kernel_rfl) ?_
          refine NN.then ?_
          rcases Bool.eq_false_or_eq_true (decide (x10l1 < (a1.length : Int))) with c925 | c925
          · rw [if_pos (of_decide_eq_true c925)] at H
            refine J.condT (b := decide (x10l1 < (a1.length : Int))) c925 (by kernel_rfl) (by kernel_rfl) ?_
            refine J.skip ?_
            refine NN.then ?_
            refine J.seq ?_
            refine J.block ?_
            refine J.seq ?_
            refine J.plain ?_
            refine LL.op (.slice Aa1 a1.length ca1) (by kernel_rfl) (fun w _ => by kernel_rfl) ?_
            refine LL.op (.int .i64 x10l1) (by kernel_rfl) (fun w _ => by kernel_rfl) ?_
            obtain ⟨⟨e926_1, e926_2, e926_3, e926_4, e926_5, e926_6, e926_7, e926_8, e926_9, e926_10, e926_11, e926_12, e926_13, e926_14, e926_15, e926_16, e926_17, e926_18⟩, he926, H⟩ := bind_some H
            (try dsimp only at H)
            refine LL.op (.pointer (rp Aa1 (x10l1.toNat * 18 + 0))) (by kernel_rfl) (idxR (cp := ca1) (ik := .i64) ha1 he926 rfl (by kernel_rfl) (by kernel_rfl) (by kernel_rfl)) ?_
            refine LL.op (.pointer (rp Aa1 (x10l1.toNat * 18 + 2))) (by kernel_rfl) (fldR (b := x10l1.toNat * 18) (off := 2) (o1 := 0) (o2 := 2) ha1 he926 rfl (by kernel_rfl) (by kernel_rfl) rfl) ?_
            refine LL.op (.string e926_3) (by kernel_rfl) (ldR (off := 2) ha1 he926 rfl (by kernel_rfl) (by kernel_rfl)) ?_
            refine LL.op (.int .i64 (e926_3.size : Int)) (by kernel_rfl) (fun w _ => by kernel_rfl) ?_
            refine LL.op (.bool (decide (100 < (e926_3.size : Int)))) (by kernel_rfl) (fun w _ => by kernel_rfl) ?_
            refine LL.done (s' := [(0, .slice Aa0 a0.length ca0), (1, .slice Aa1 a1.length ca1), (2, .slice Aa2 a2.length ca2), (6, .bool false), (7, .slice Ax7l0 x7l0.length cx7l0), (8, .slice Ax8l0 x8l0.length cx8l0), (10, .int .i64 x10l1), (136, .bool (decide (100 < (e926_3.size : Int))))]) [0, 1, 2, 6, 7, 8, 10, 136] (by kernel_rfl) ?_
            refine NN.then ?_
            rcases Bool.eq_false_or_eq_true (decide (100 < (e926_3.size : Int))) with c927 | c927
            · rw [if_pos (of_decide_eq_true c927)] at H
              refine J.condT (b := decide (100 < (e926_3.size : Int))) c927 (by kernel_rfl) (by kernel_rfl) ?_
              refine J.seq ?_
              refine J.plain ?_
              obtain ⟨x928, hx928, H⟩ := bind_some H
              refine LL.call 9 #[] (.bool x928) (by kernel_rfl) (fun w => by kernel_rfl) (fun w hw => sawmilltop_ordersAwake.calls K    _ w   hx928) ?_
              refine LL.op (.bool x928) (by kernel_rfl) (fun w _ => by kernel_rfl) ?_
              refine LL.done (s' := [(0, .slice Aa0 a0.length ca0), (1, .slice Aa1 a1.length ca1), (2, .slice Aa2 a2.length ca2), (6, .bool x928), (7, .slice Ax7l0 x7l0.length cx7l0), (8, .slice Ax8l0 x8l0.length cx8l0), (10, .int .i64 x10l1)]) [0, 1, 2, 6, 7, 8, 10] (by kernel_rfl) ?_
              refine NN.then ?_
              refine J.ret ?_
              refine NN.block_ret ?_
              refine NN.then_ret ?_
              refine NN.then_ret ?_
              refine NN.block_ret ?_
              refine NN.then_ret ?_
              refine NN.fin1 6 (.bool x928) (by kernel_rfl) (by kernel_rfl) (.inl rfl) (fun w hi => hi.ret ?_)
              first | (cases H; rfl) | (obtain rfl := Option.some.inj H; rfl) | (simp only [Option.some.injEq, Prod.mk.injEq] at H; obtain ⟨rfl⟩ := H; rfl)
            · rw [if_neg (of_decide_eq_false c927)] at H
              refine J.condF (b := decide (100 < (e926_3.size : Int))) c927 (by kernel_rfl) (by kernel_rfl) ?_
              refine J.skip ?_
              refine NN.block_n ?_
              refine NN.then ?_
              refine J.plain ?_
              refine LL.op (.int .i64 x10l1) (by kernel_rfl) (fun w _ => by kernel_rfl) ?_
              refine LL.op (.int .i64 (IntKind.i64.wrap (x10l1 + 1))) (by kernel_rfl) (fun w _ => by kernel_rfl) ?_
              refine LL.op (.int .i64 (IntKind.i64.wrap (x10l1 + 1))) (by kernel_rfl) (fun w _ => by kernel_rfl) ?_
              refine LL.done (s' := [(0, .slice Aa0 a0.length ca0), (1, .slice Aa1 a1.length ca1), (2, .slice Aa2 a2.length ca2), (6, .bool false), (7, .slice Ax7l0 x7l0.length cx7l0), (8, .slice Ax8l0 x8l0.length cx8l0), (10, .int .i64 (IntKind.i64.wrap (x10l1 + 1)))]) [0, 1, 2, 6, 7, 8, 10] (by kernel_rfl) ?_
              exact NN.round' [0, 1, 2, 6, 7, 8, 10] (bs' := [] ++ bax7l0 ++ bax8l0) (Nat.lt_succ_self _) (((List.Sublist.refl _).append_right _).append_right _) (by kernel_rfl) ⟨IntKind.i64.wrap (x10l1 + 1), H, rfl, rfl⟩
          · rw [if_neg (of_decide_eq_false c925)] at H
            refine J.condF (b := decide (x10l1 < (a1.length : Int))) c925 (by kernel_rfl) (by kernel_rfl) ?_
            refine J.exit ?_
            refine NN.then_exit ?_
            rw [← hk923] at H
            (try dsimp only at H)
            refine NN.then_exit ?_
            refine NN.block_same ?_
            refine NN.then ?_
            refine J.seq ?_
            refine J.plain ?_
            refine LL.op (.slice Aa0 a0.length ca0) (by kernel_rfl) (fun w _ => by kernel_rfl) ?_
            refine LL.op (.slice Aa1 a1.length ca1) (by kernel_rfl) (fun w _ => by kernel_rfl) ?_
            obtain ⟨x2929, hx2929, H⟩ := bind_some H
            refine LL.callR2 (enc := enc4) (m := 1) (ll := x2929) 12 #[.slice Aa0 a0.length ca0, .slice Aa1 a1.length ca1] (fun A_ c_ => .slice A_ x2929.length c_) (by kernel_rfl) (fun w => by kernel_rfl) (fun w hw => assign_Table.calls K a0 a1  _ _ _ _ _ w  (ha0.at hw) (ha1.at hw) hx2929) (fun R2930 F2931 A2932 c2933 le2934 k2935 => ?_)
            refine LL.op (.slice A2932 x2929.length c2933) (by kernel_rfl) (fun w _ => by kernel_rfl) ?_
            refine LL.done (s' := [(0, .slice Aa0 a0.length ca0), (1, .slice Aa1 a1.length ca1), (2, .slice Aa2 a2.length ca2), (6, .bool false), (7, .slice Ax7l0 x7l0.length cx7l0), (8, .slice Ax8l0 x8l0.length cx8l0), (11, .slice A2932 x2929.length c2933)]) [0, 1, 2, 6, 7, 8, 11] (by kernel_rfl) ?_
            refine NN.then ?_
            refine J.seq ?_
            refine J.plain ?_
            refine LL.op (.slice A2932 x2929.length c2933) (by kernel_rfl) (fun w _ => by kernel_rfl) ?_
            refine LL.op (.slice Ax8l0 x8l0.length cx8l0) (by kernel_rfl) (fun w _ => by kernel_rfl) ?_
            refine LL.freeze (pre := ([] ++ bax7l0)) ok3 ox8l0 (fun R2937 F2938 le2939 k2940 fr2941 => ?_)
            obtain ⟨⟨x2942_1, x2942_2⟩, hx2942, H⟩ := bind_some H
            (try dsimp only at H)
            refine LL.callR (enc := enc3) (m := 1) (l := x2942_1) 13 #[.slice A2932 x2929.length c2933, .slice Ax8l0 x8l0.length cx8l0] (fun A_ c_ => .tuple #[.slice A_ x2942_1.length c_, .int .i64 x2942_2]) (by kernel_rfl) (fun w => by kernel_rfl) (fun w hw => assign_Counts.calls K x2929 x8l0  _ _ _ _ _ _ w  ((k2935.le le2939).at hw) (k2940.at hw) hx2942) (fun R2943 F2944 A2945 c2946 le2947 k2948 fr2949 => ?_)
            refine LL.op (.tuple #[.slice A2945 x2942_1.length c2946, .int .i64 x2942_2]) (by kernel_rfl) (fun w _ => by kernel_rfl) ?_
            refine LL.op (.slice A2945 x2942_1.length c2946) (by kernel_rfl) (fun w _ => by kernel_rfl) ?_
            refine LL.op (.int .i64 x2942_2) (by kernel_rfl) (fun w _ => by kernel_rfl) ?_
            refine LL.op (.slice A2945 x2942_1.length c2946) (by kernel_rfl) (fun w _ => by kernel_rfl) ?_
            refine LL.op (.int .i64 x2942_2) (by kernel_rfl) (fun w _ => by kernel_rfl) ?_
            refine LL.done (s' := [(0, .slice Aa0 a0.length ca0), (1, .slice Aa1 a1.length ca1), (2, .slice Aa2 a2.length ca2), (6, .bool false), (7, .slice Ax7l0 x7l0.length cx7l0), (8, .slice Ax8l0 x8l0.length cx8l0), (11, .slice A2932 x2929.length c2933), (12, .slice A2945 x2942_1.length c2946), (13, .int .i64 x2942_2)]) [0, 1, 2, 6, 7, 8, 11, 12, 13] (by kernel_rfl) ?_
            refine NN.then ?_
            refine J.seq ?_
            refine J.plain ?_
            refine LL.op (.slice A2932 x2929.length c2933) (by kernel_rfl) (fun w _ => by kernel_rfl) ?_
            refine LL.op (.slice Ax7l0 x7l0.length cx7l0) (by kernel_rfl) (fun w _ => by kernel_rfl) ?_
            refine LL.op (.slice Ax8l0 x8l0.length cx8l0) (by kernel_rfl) (fun w _ => by kernel_rfl) ?_
            refine LL.freeze (pre := []) ok3 ox7l0 (fun R2950 F2951 le2952 k2953 fr2954 => ?_)
            obtain ⟨⟨x2955_1, x2955_2⟩, hx2955, H⟩ := bind_some H
            (try dsimp only at H)
            refine LL.callR (enc := enc3) (m := 1) (l := x2955_1) 14 #[.slice A2932 x2929.length c2933, .slice Ax7l0 x7l0.length cx7l0, .slice Ax8l0 x8l0.length cx8l0] (fun A_ c_ => .tuple #[.slice A_ x2955_1.length c_, .int .i64 x2955_2]) (by kernel_rfl) (fun w => by kernel_rfl) (fun w hw => assign_Best.calls K x2929 x7l0 x8l0  _ _ _ _ _ _ _ _ w  ((((k2935.le le2939).le le2947).le le2952).at hw) (k2953.at hw) (((k2940.le le2947).le le2952).at hw) hx2955) (fun R2956 F2957 A2958 c2959 le2960 k2961 fr2962 => ?_)
            refine LL.op (.tuple #[.slice A2958 x2955_1.length c2959, .int .i64 x2955_2]) (by kernel_rfl) (fun w _ => by kernel_rfl) ?_
            refine LL.op (.slice A2958 x2955_1.length c2959) (by kernel_rfl) (fun w _ => by kernel_rfl) ?_
            refine LL.op (.int .i64 x2955_2) (by kernel_rfl) (fun w _ => by kernel_rfl) ?_
            refine LL.op (.slice A2958 x2955_1.length c2959) (by kernel_rfl) (fun w _ => by kernel_rfl) ?_
            refine LL.op (.int .i64 x2955_2) (by kernel_rfl) (fun w _ => by kernel_rfl) ?_
            refine LL.done (s' := [(0, .slice Aa0 a0.length ca0), (1, .slice Aa1 a1.length ca1), (2, .slice Aa2 a2.length ca2), (6, .bool false), (7, .slice Ax7l0 x7l0.length cx7l0), (8, .slice Ax8l0 x8l0.length cx8l0), (11, .slice A2932 x2929.length c2933), (12, .slice A2945 x2942_1.length c2946), (13, .int .i64 x2942_2), (14, .slice A2958 x2955_1.length c2959), (15, .int .i64 x2955_2)]) [0, 1, 2, 6, 7, 8, 11, 12, 13, 14, 15] (by kernel_rfl) ?_
            refine NN.then ?_
            refine J.seq ?_
            refine J.seq ?_
            refine J.plain ?_
            refine LL.op (.int .i64 x2942_2) (by kernel_rfl) (fun w _ => by kernel_rfl) ?_
            refine LL.op (.bool (!(x2942_2 == 0))) (by kernel_rfl) (fun w _ => by kernel_rfl) ?_
            refine LL.op (.bool (!(x2942_2 == 0))) (by kernel_rfl) (fun w _ => by kernel_rfl) ?_
            rcases Bool.eq_false_or_eq_true ((x2942_2 == 0)) with c2963 | c2963
            · rw [if_pos (eq_of_beq c2963)] at H
              refine LL.bool 156 (!(x2942_2 == 0)) false (by rw [show (!(x2942_2 == 0)) = !((x2942_2 == 0)) from rfl, c2963]; rfl) (by kernel_rfl) ?_
              refine LL.op (.int .i64 x2955_2) (by kernel_rfl) (fun w _ => by kernel_rfl) ?_
              refine LL.op (.bool (!(x2955_2 == 0))) (by kernel_rfl) (fun w _ => by kernel_rfl) ?_
              refine LL.op (.bool (!(x2955_2 == 0))) (by kernel_rfl) (fun w _ => by kernel_rfl) ?_
              refine LL.op (.bool (!(x2955_2 == 0))) (by kernel_rfl) (fun w _ => by kernel_rfl) ?_
              rcases Bool.eq_false_or_eq_true ((x2955_2 == 0)) with c2964 | c2964
              · rw [if_pos (eq_of_beq c2964)] at H
                refine LL.bool 160 (!(x2955_2 == 0)) false (by rw [show (!(x2955_2 == 0)) = !((x2955_2 == 0)) from rfl, c2964]; rfl) (by kernel_rfl) ?_
                refine LL.op (.slice A2945 x2942_1.length c2946) (by kernel_rfl) (fun w _ => by kernel_rfl) ?_
                refine LL.op (.int .i64 (x2942_1.length : Int)) (by kernel_rfl) (fun w _ => by kernel_rfl) ?_
                refine LL.op (.slice Aa0 a0.length ca0) (by kernel_rfl) (fun w _ => by kernel_rfl) ?_
                refine LL.op (.int .i64 (a0.length : Int)) (by kernel_rfl) (fun w _ => by kernel_rfl) ?_
                refine LL.op (.bool (!((x2942_1.length : Int) == (a0.length : Int)))) (by kernel_rfl) (fun w _ => by kernel_rfl) ?_
                refine LL.op (.bool (!((x2942_1.length : Int) == (a0.length : Int)))) (by kernel_rfl) (fun w _ => by kernel_rfl) ?_
                refine LL.op (.bool (!((x2942_1.length : Int) == (a0.length : Int)))) (by kernel_rfl) (fun w _ => by kernel_rfl) ?_
                rcases Bool.eq_false_or_eq_true (((x2942_1.length : Int) == (a0.length : Int))) with c2965 | c2965
                · rw [if_pos (eq_of_beq c2965)] at H
                  refine LL.bool 167 (!((x2942_1.length : Int) == (a0.length : Int))) false (by rw [show (!((x2942_1.length : Int) == (a0.length : Int))) = !(((x2942_1.length : Int) == (a0.length : Int))) from rfl, c2965]; rfl) (by kernel_rfl) ?_
                  refine LL.op (.slice A2958 x2955_1.length c2959) (by kernel_rfl) (fun w _ => by kernel_rfl) ?_
                  refine LL.op (.int .i64 (x2955_1.length : Int)) (by kernel_rfl) (fun w _ => by kernel_rfl) ?_
                  refine LL.op (.slice Aa1 a1.length ca1) (by kernel_rfl) (fun w _ => by kernel_rfl) ?_
                  refine LL.op (.int .i64 (a1.length : Int)) (by kernel_rfl) (fun w _ => by kernel_rfl) ?_
                  refine LL.op (.bool (!((x2955_1.length : Int) == (a1.length : Int)))) (by kernel_rfl) (fun w _ => by kernel_rfl) ?_
                  refine LL.op (.bool (!((x2955_1.length : Int) == (a1.length : Int)))) (by kernel_rfl) (fun w _ => by kernel_rfl) ?_
                  refine LL.op (.bool (!((x2955_1.length : Int) == (a1.length : Int)))) (by kernel_rfl) (fun w _ => by kernel_rfl) ?_
                  rcases Bool.eq_false_or_eq_true (((x2955_1.length : Int) == (a1.length : Int))) with c2966 | c2966
                  · rw [if_pos (eq_of_beq c2966)] at H
                    refine LL.bool 174 (!((x2955_1.length : Int) == (a1.length : Int))) false (by rw [show (!((x2955_1.length : Int) == (a1.length : Int))) = !(((x2955_1.length : Int) == (a1.length : Int))) from rfl, c2966]; rfl) (by kernel_rfl) ?_
                    refine LL.op (.slice A2932 x2929.length c2933) (by kernel_rfl) (fun w _ => by kernel_rfl) ?_
                    refine LL.op (.slice Ax8l0 x8l0.length cx8l0) (by kernel_rfl) (fun w _ => by kernel_rfl) ?_
                    refine LL.op (.slice A2958 x2955_1.length c2959) (by kernel_rfl) (fun w _ => by kernel_rfl) ?_
                    obtain ⟨x2967, hx2967, H⟩ := bind_some H
                    refine LL.call 15 #[.slice A2932 x2929.length c2933, .slice Ax8l0 x8l0.length cx8l0, .slice A2958 x2955_1.length c2959] (.bool x2967) (by kernel_rfl) (fun w => by kernel_rfl) (fun w hw => assign_Valid.calls K x2929 x8l0 x2955_1  _ _ _ _ _ _ _ w  (((((k2935.le le2939).le le2947).le le2952).le le2960).at hw) ((((k2940.le le2947).le le2952).le le2960).at hw) (k2961.at hw) hx2967) ?_
                    refine LL.op (.bool (!x2967)) (by kernel_rfl) (fun w _ => by kernel_rfl) ?_
                    refine LL.op (.bool (!x2967)) (by kernel_rfl) (fun w _ => by kernel_rfl) ?_
                    refine LL.done (s' := [(0, .slice Aa0 a0.length ca0), (1, .slice Aa1 a1.length ca1), (2, .slice Aa2 a2.length ca2), (6, .bool false), (7, .slice Ax7l0 x7l0.length cx7l0), (8, .slice Ax8l0 x8l0.length cx8l0), (11, .slice A2932 x2929.length c2933), (12, .slice A2945 x2942_1.length c2946), (14, .slice A2958 x2955_1.length c2959), (180, .bool (!x2967))]) [0, 1, 2, 6, 7, 8, 11, 12, 14, 180] (by kernel_rfl) ?_
                    refine NN.then ?_
                    rcases Bool.eq_false_or_eq_true (x2967) with c2968 | c2968
                    · rw [if_pos (c2968)] at H
                      refine J.condF (b := !x2967) (by rw [show (!x2967) = !(x2967) from rfl, c2968]; rfl) (by kernel_rfl) (by kernel_rfl) ?_
                      refine J.skip ?_
                      refine NN.then ?_
                      refine J.seq ?_
                      refine J.plain ?_
                      refine LL.op (.slice Aa0 a0.length ca0) (by kernel_rfl) (fun w _ => by kernel_rfl) ?_
                      refine LL.op (.int .i64 (a0.length : Int)) (by kernel_rfl) (fun w _ => by kernel_rfl) ?_
                      refine LL.op (.slice A2958 x2955_1.length c2959) (by kernel_rfl) (fun w _ => by kernel_rfl) ?_
                      obtain ⟨x2969, hx2969, H⟩ := bind_some H
                      refine LL.callR (enc := enc3) (m := 1) (l := x2969) 16 #[.int .i64 (a0.length : Int), .slice A2958 x2955_1.length c2959] (fun A_ c_ => .slice A_ x2969.length c_) (by kernel_rfl) (fun w => by kernel_rfl) (fun w hw => sawmilltop_counts.calls K (a0.length : Int) x2955_1  _ _ _ w  (k2961.at hw) hx2969) (fun R2970 F2971 A2972 c2973 le2974 k2975 fr2976 => ?_)
                      refine LL.op (.slice A2972 x2969.length c2973) (by kernel_rfl) (fun w _ => by kernel_rfl) ?_
                      refine LL.done (s' := [(0, .slice Aa0 a0.length ca0), (1, .slice Aa1 a1.length ca1), (2, .slice Aa2 a2.length ca2), (6, .bool false), (7, .slice Ax7l0 x7l0.length cx7l0), (8, .slice Ax8l0 x8l0.length cx8l0), (11, .slice A2932 x2929.length c2933), (12, .slice A2945 x2942_1.length c2946), (14, .slice A2958 x2955_1.length c2959), (16, .slice A2972 x2969.length c2973)]) [0, 1, 2, 6, 7, 8, 11, 12, 14, 16] (by kernel_rfl) ?_
                      refine NN.then ?_
                      refine J.seq ?_
                      refine J.seq ?_
                      refine J.plain ?_
                      refine LL.op (.int .i64 0) (by kernel_rfl) (fun w _ => by kernel_rfl) ?_
                      refine LL.done (s' := [(0, .slice Aa0 a0.length ca0), (1, .slice Aa1 a1.length ca1), (2, .slice Aa2 a2.length ca2), (6, .bool false), (7, .slice Ax7l0 x7l0.length cx7l0), (8, .slice Ax8l0 x8l0.length cx8l0), (11, .slice A2932 x2929.length c2933), (12, .slice A2945 x2942_1.length c2946), (14, .slice A2958 x2955_1.length c2959), (16, .slice A2972 x2969.length c2973), (17, .int .i64 0)]) [0, 1, 2, 6, 7, 8, 11, 12, 14, 16, 17] (by kernel_rfl) ?_
                      refine NN.then ?_
                      refine J.block ?_
                      refine J.to [0, 1, 2, 6, 7, 8, 11, 12, 14, 16, 17] (s' := [(0, .slice Aa0 a0.length ca0), (1, .slice Aa1 a1.length ca1), (2, .slice Aa2 a2.length ca2), (6, .bool false), (7, .slice Ax7l0 x7l0.length cx7l0), (8, .slice Ax8l0 x8l0.length cx8l0), (11, .slice A2932 x2929.length c2933), (12, .slice A2945 x2942_1.length c2946), (14, .slice A2958 x2955_1.length c2959), (16, .slice A2972 x2969.length c2973), (17, .int .i64 0)]) (by kernel_rfl) ?_
                      obtain ⟨kont2977, hk2977, H⟩ := kont_intro (P := fun q_ => sawmilltop_TopOrders.l2 K a0 x7l0 x2969 q_ K 0 = some r1) H
                      refine J.loop (fun n_ s_ bs_ => ∃ (x17l2 : Int), sawmilltop_TopOrders.l2 K a0 x7l0 x2969 kont2977 n_ x17l2 = some r1 ∧ s_ = [(0, .slice Aa0 a0.length ca0), (1, .slice Aa1 a1.length ca1), (2, .slice Aa2 a2.length ca2), (6, .bool false), (7, .slice Ax7l0 x7l0.length cx7l0), (8, .slice Ax8l0 x8l0.length cx8l0), (11, .slice A2932 x2929.length c2933), (12, .slice A2945 x2942_1.length c2946), (14, .slice A2958 x2955_1.length c2959), (16, .slice A2972 x2969.length c2973), (17, .int .i64 x17l2)] ∧ [] = bs_) K ⟨0, H, rfl, rfl⟩ ?_
                      rintro (_ | n_) s_ bs_ ⟨x17l2, H, rfl, rfl⟩
                      · exact absurd H (by simp [sawmilltop_TopOrders.l2])
                      simp only [sawmilltop_TopOrders.l2] at H
                      refine J.seq ?_
                      refine J.seq ?_
                      refine J.plain ?_
                      refine LL.op (.int .i64 x17l2) (by kernel_rfl) (fun w _ => by kernel_rfl) ?_
                      refine LL.op (.slice Aa0 a0.length ca0) (by kernel_rfl) (fun w _ => by kernel_rfl) ?_
                      refine LL.op (.int .i64 (a0.length : Int)) (by kernel_rfl) (fun w _ => by kernel_rfl) ?_
                      refine LL.op (.bool (decide (x17l2 < (a0.length : Int)))) (by kernel_rfl) (fun w _ => by kernel_rfl) ?_
                      refine LL.done (s' := [(0, .slice Aa0 a0.length ca0), (1, .slice Aa1 a1.length ca1), (2, .slice Aa2 a2.length ca2), (6, .bool false), (7, .slice Ax7l0 x7l0.length cx7l0), (8, .slice Ax8l0 x8l0.length cx8l0), (11, .slice A2932 x2929.length c2933), (12, .slice A2945 x2942_1.length c2946), (14, .slice A2958 x2955_1.length c2959), (16, .slice A2972 x2969.length c2973), (17, .int .i64 x17l2), (188, .bool (decide (x17l2 < (a0.length : Int))))]) [0, 1, 2, 6, 7, 8, 11, 12, 14, 16, 17, 188] (by kernel_rfl) ?_
                      refine NN.then ?_
                      rcases Bool.eq_false_or_eq_true (decide (x17l2 < (a0.length : Int))) with c2979 | c2979
                      · rw [if_pos (of_decide_eq_true c2979)] at H
                        refine J.condT (b := decide (x17l2 < (a0.length : Int))) c2979 (by kernel_rfl) (by kernel_rfl) ?_
                        refine J.skip ?_
                        refine NN.then ?_
                        refine J.seq ?_
                        refine J.block ?_
                        refine J.seq ?_
                        refine J.drawn follows (by kernel_rfl) ?_
                        refine QQ.op (.slice A2972 x2969.length c2973) (by kernel_rfl) (fun w _ => by kernel_rfl) ?_
                        refine QQ.op (.int .i64 x17l2) (by kernel_rfl) (fun w _ => by kernel_rfl) ?_
                        obtain ⟨e2980, he2980, H⟩ := bind_some H
                        refine QQ.op (.pointer (rp A2972 (x17l2.toNat * 1 + 0))) (by kernel_rfl) (idxR (cp := c2973) (ik := .i64) k2975 he2980 rfl (by kernel_rfl) (by kernel_rfl) (by kernel_rfl)) ?_
                        refine QQ.op (.int .i64 e2980) (by kernel_rfl) (ldR (off := 0) k2975 he2980 rfl (by kernel_rfl) (by kernel_rfl)) ?_
                        refine QQ.op (.bool (decide (0 < e2980))) (by kernel_rfl) (fun w _ => by kernel_rfl) ?_
                        refine QQ.op (.bool (decide (0 < e2980))) (by kernel_rfl) (fun w _ => by kernel_rfl) ?_
                        rcases Bool.eq_false_or_eq_true (decide (0 < e2980)) with c2981 | c2981
                        · rw [if_pos (of_decide_eq_true c2981)] at H
                          refine QQ.bool 196 (decide (0 < e2980)) true c2981 (by kernel_rfl) ?_
                          refine QQ.op (.slice A2972 x2969.length c2973) (by kernel_rfl) (fun w _ => by kernel_rfl) ?_
                          refine QQ.op (.int .i64 x17l2) (by kernel_rfl) (fun w _ => by kernel_rfl) ?_
                          refine QQ.op (.pointer (rp A2972 (x17l2.toNat * 1 + 0))) (by kernel_rfl) (idxR (cp := c2973) (ik := .i64) k2975 he2980 rfl (by kernel_rfl) (by kernel_rfl) (by kernel_rfl)) ?_
                          refine QQ.op (.int .i64 e2980) (by kernel_rfl) (ldR (off := 0) k2975 he2980 rfl (by kernel_rfl) (by kernel_rfl)) ?_
                          refine QQ.op (.slice Ax7l0 x7l0.length cx7l0) (by kernel_rfl) (fun w _ => by kernel_rfl) ?_
                          refine QQ.op (.int .i64 x17l2) (by kernel_rfl) (fun w _ => by kernel_rfl) ?_
                          obtain ⟨e2982, he2982, H⟩ := bind_some H
                          refine QQ.op (.pointer (rp Ax7l0 (x17l2.toNat * 1 + 0))) (by kernel_rfl) (idxR (cp := cx7l0) (ik := .i64) ((k2953.le le2960).le le2974) he2982 rfl (by kernel_rfl) (by kernel_rfl) (by kernel_rfl)) ?_
                          refine QQ.op (.int .i64 e2982) (by kernel_rfl) (ldR (off := 0) ((k2953.le le2960).le le2974) he2982 rfl (by kernel_rfl) (by kernel_rfl)) ?_
                          refine QQ.op (.bool (decide (e2980 < e2982))) (by kernel_rfl) (fun w _ => by kernel_rfl) ?_
                          refine QQ.op (.bool (decide (e2980 < e2982))) (by kernel_rfl) (fun w _ => by kernel_rfl) ?_
                          refine QQ.done (s' := [(0, .slice Aa0 a0.length ca0), (1, .slice Aa1 a1.length ca1), (2, .slice Aa2 a2.length ca2), (6, .bool false), (7, .slice Ax7l0 x7l0.length cx7l0), (8, .slice Ax8l0 x8l0.length cx8l0), (11, .slice A2932 x2929.length c2933), (12, .slice A2945 x2942_1.length c2946), (14, .slice A2958 x2955_1.length c2959), (16, .slice A2972 x2969.length c2973), (17, .int .i64 x17l2), (206, .bool (decide (e2980 < e2982)))]) [0, 1, 2, 6, 7, 8, 11, 12, 14, 16, 17, 206] (by kernel_rfl) ?_
                          refine NN.then ?_
                          rcases Bool.eq_false_or_eq_true (decide (e2980 < e2982)) with c2983 | c2983
                          · rw [if_pos (of_decide_eq_true c2983)] at H
                            refine J.condT (b := decide (e2980 < e2982)) c2983 (by kernel_rfl) (by kernel_rfl) ?_
                            refine J.seq ?_
                            refine J.plain ?_
                            refine LL.op (.bool false) (by kernel_rfl) (fun w _ => by kernel_rfl) ?_
                            refine LL.done (s' := [(0, .slice Aa0 a0.length ca0), (1, .slice Aa1 a1.length ca1), (2, .slice Aa2 a2.length ca2), (6, .bool false), (7, .slice Ax7l0 x7l0.length cx7l0), (8, .slice Ax8l0 x8l0.length cx8l0), (11, .slice A2932 x2929.length c2933), (12, .slice A2945 x2942_1.length c2946), (14, .slice A2958 x2955_1.length c2959), (16, .slice A2972 x2969.length c2973), (17, .int .i64 x17l2)]) [0, 1, 2, 6, 7, 8, 11, 12, 14, 16, 17] (by kernel_rfl) ?_
                            refine NN.then ?_
                            refine J.ret ?_
                            refine NN.block_ret ?_
                            refine NN.then_ret ?_
                            refine NN.then_ret ?_
                            refine NN.block_ret ?_
                            refine NN.then_ret ?_
                            refine NN.fin1 6 (.bool false) (by kernel_rfl) (by kernel_rfl) (.inl rfl) (fun w hi => hi.ret ?_)
                            first | (cases H; rfl) | (obtain rfl := Option.some.inj H; rfl) | (simp only [Option.some.injEq, Prod.mk.injEq] at H; obtain ⟨rfl⟩ := H; rfl)
                          · rw [if_neg (of_decide_eq_false c2983)] at H
                            refine J.condF (b := decide (e2980 < e2982)) c2983 (by kernel_rfl) (by kernel_rfl) ?_
                            refine J.skip ?_
                            refine NN.block_n ?_
                            refine NN.then ?_
                            refine J.plain ?_
                            refine LL.op (.int .i64 x17l2) (by kernel_rfl) (fun w _ => by kernel_rfl) ?_
                            refine LL.op (.int .i64 (IntKind.i64.wrap (x17l2 + 1))) (by kernel_rfl) (fun w _ => by kernel_rfl) ?_
                            refine LL.op (.int .i64 (IntKind.i64.wrap (x17l2 + 1))) (by kernel_rfl) (fun w _ => by kernel_rfl) ?_
                            refine LL.done (s' := [(0, .slice Aa0 a0.length ca0), (1, .slice Aa1 a1.length ca1), (2, .slice Aa2 a2.length ca2), (6, .bool false), (7, .slice Ax7l0 x7l0.length cx7l0), (8, .slice Ax8l0 x8l0.length cx8l0), (11, .slice A2932 x2929.length c2933), (12, .slice A2945 x2942_1.length c2946), (14, .slice A2958 x2955_1.length c2959), (16, .slice A2972 x2969.length c2973), (17, .int .i64 (IntKind.i64.wrap (x17l2 + 1)))]) [0, 1, 2, 6, 7, 8, 11, 12, 14, 16, 17] (by kernel_rfl) ?_
                            exact NN.round' [0, 1, 2, 6, 7, 8, 11, 12, 14, 16, 17] (bs' := []) (Nat.lt_succ_self _) (List.Sublist.refl _) (by kernel_rfl) ⟨IntKind.i64.wrap (x17l2 + 1), H, rfl, rfl⟩
                        · rw [if_neg (of_decide_eq_false c2981)] at H
                          refine QQ.bool 196 (decide (0 < e2980)) false c2981 (by kernel_rfl) ?_
                          refine QQ.off (by kernel_rfl) (by kernel_rfl) ?_
                          refine QQ.off (by kernel_rfl) (by kernel_rfl) ?_
                          refine QQ.off (by kernel_rfl) (by kernel_rfl) ?_
                          refine QQ.off (by kernel_rfl) (by kernel_rfl) ?_
                          refine QQ.off (by kernel_rfl) (by kernel_rfl) ?_
                          refine QQ.off (by kernel_rfl) (by kernel_rfl) ?_
                          refine QQ.off (by kernel_rfl) (by kernel_rfl) ?_
                          refine QQ.off (by kernel_rfl) (by kernel_rfl) ?_
                          refine QQ.off (by kernel_rfl) (by kernel_rfl) ?_
                          refine QQ.op (.bool false) (by kernel_rfl) (fun w _ => by kernel_rfl) ?_
                          refine QQ.done (s' := [(0, .slice Aa0 a0.length ca0), (1, .slice Aa1 a1.length ca1), (2, .slice Aa2 a2.length ca2), (6, .bool false), (7, .slice Ax7l0 x7l0.length cx7l0), (8, .slice Ax8l0 x8l0.length cx8l0), (11, .slice A2932 x2929.length c2933), (12, .slice A2945 x2942_1.length c2946), (14, .slice A2958 x2955_1.length c2959), (16, .slice A2972 x2969.length c2973), (17, .int .i64 x17l2), (206, .bool false)]) [0, 1, 2, 6, 7, 8, 11, 12, 14, 16, 17, 206] (by kernel_rfl) ?_
                          refine NN.then ?_
                          refine J.condF (b := false) rfl (by kernel_rfl) (by kernel_rfl) ?_
                          refine J.skip ?_
                          refine NN.block_n ?_
                          refine NN.then ?_
                          refine J.plain ?_
                          refine LL.op (.int .i64 x17l2) (by kernel_rfl) (fun w _ => by kernel_rfl) ?_
                          refine LL.op (.int .i64 (IntKind.i64.wrap (x17l2 + 1))) (by kernel_rfl) (fun w _ => by kernel_rfl) ?_
                          refine LL.op (.int .i64 (IntKind.i64.wrap (x17l2 + 1))) (by kernel_rfl) (fun w _ => by kernel_rfl) ?_
                          refine LL.done (s' := [(0, .slice Aa0 a0.length ca0), (1, .slice Aa1 a1.length ca1), (2, .slice Aa2 a2.length ca2), (6, .bool false), (7, .slice Ax7l0 x7l0.length cx7l0), (8, .slice Ax8l0 x8l0.length cx8l0), (11, .slice A2932 x2929.length c2933), (12, .slice A2945 x2942_1.length c2946), (14, .slice A2958 x2955_1.length c2959), (16, .slice A2972 x2969.length c2973), (17, .int .i64 (IntKind.i64.wrap (x17l2 + 1)))]) [0, 1, 2, 6, 7, 8, 11, 12, 14, 16, 17] (by kernel_rfl) ?_
                          exact NN.round' [0, 1, 2, 6, 7, 8, 11, 12, 14, 16, 17] (bs' := []) (Nat.lt_succ_self _) (List.Sublist.refl _) (by kernel_rfl) ⟨IntKind.i64.wrap (x17l2 + 1), H, rfl, rfl⟩
                      · rw [if_neg (of_decide_eq_false c2979)] at H
                        refine J.condF (b := decide (x17l2 < (a0.length : Int))) c2979 (by kernel_rfl) (by kernel_rfl) ?_
                        refine J.exit ?_
                        refine NN.then_exit ?_
                        rw [← hk2977] at H
                        (try dsimp only at H)
                        refine NN.then_exit ?_
                        refine NN.block_same ?_
                        refine NN.then ?_
                        refine J.seq ?_
                        refine J.seq ?_
                        refine J.plain ?_
                        refine LL.op (.int .i64 0) (by kernel_rfl) (fun w _ => by kernel_rfl) ?_
                        refine LL.done (s' := [(0, .slice Aa0 a0.length ca0), (1, .slice Aa1 a1.length ca1), (2, .slice Aa2 a2.length ca2), (6, .bool false), (8, .slice Ax8l0 x8l0.length cx8l0), (11, .slice A2932 x2929.length c2933), (12, .slice A2945 x2942_1.length c2946), (14, .slice A2958 x2955_1.length c2959), (18, .int .i64 0)]) [0, 1, 2, 6, 8, 11, 12, 14, 18] (by kernel_rfl) ?_
                        refine NN.then ?_
                        refine J.block ?_
                        refine J.to [0, 1, 2, 6, 8, 11, 12, 14, 18] (s' := [(0, .slice Aa0 a0.length ca0), (1, .slice Aa1 a1.length ca1), (2, .slice Aa2 a2.length ca2), (6, .bool false), (8, .slice Ax8l0 x8l0.length cx8l0), (11, .slice A2932 x2929.length c2933), (12, .slice A2945 x2942_1.length c2946), (14, .slice A2958 x2955_1.length c2959), (18, .int .i64 0)]) (by kernel_rfl) ?_
                        obtain ⟨kont4984, hk4984, H⟩ := kont_intro (P := fun q_ => sawmilltop_TopOrders.l3 K a0 a1 x2955_1 q_ K 0 = some r1) H
                        refine J.loop (fun n_ s_ bs_ => ∃ (x18l3 : Int), sawmilltop_TopOrders.l3 K a0 a1 x2955_1 kont4984 n_ x18l3 = some r1 ∧ s_ = [(0, .slice Aa0 a0.length ca0), (1, .slice Aa1 a1.length ca1), (2, .slice Aa2 a2.length ca2), (6, .bool false), (8, .slice Ax8l0 x8l0.length cx8l0), (11, .slice A2932 x2929.length c2933), (12, .slice A2945 x2942_1.length c2946), (14, .slice A2958 x2955_1.length c2959), (18, .int .i64 x18l3)] ∧ [] = bs_) K ⟨0, H, rfl, rfl⟩ ?_
                        rintro (_ | n_) s_ bs_ ⟨x18l3, H, rfl, rfl⟩
                        · exact absurd H (by simp [sawmilltop_TopOrders.l3])
                        simp only [sawmilltop_TopOrders.l3] at H
                        refine J.seq ?_
                        refine J.seq ?_
                        refine J.plain ?_
                        refine LL.op (.int .i64 x18l3) (by kernel_rfl) (fun w _ => by kernel_rfl) ?_
                        refine LL.op (.slice A2958 x2955_1.length c2959) (by kernel_rfl) (fun w _ => by kernel_rfl) ?_
                        refine LL.op (.int .i64 (x2955_1.length : Int)) (by kernel_rfl) (fun w _ => by kernel_rfl) ?_
                        refine LL.op (.bool (decide (x18l3 < (x2955_1.length : Int)))) (by kernel_rfl) (fun w _ => by kernel_rfl) ?_
                        refine LL.done (s' := [(0, .slice Aa0 a0.length ca0), (1, .slice Aa1 a1.length ca1), (2, .slice Aa2 a2.length ca2), (6, .bool false), (8, .slice Ax8l0 x8l0.length cx8l0), (11, .slice A2932 x2929.length c2933), (12, .slice A2945 x2942_1.length c2946), (14, .slice A2958 x2955_1.length c2959), (18, .int .i64 x18l3), (210, .bool (decide (x18l3 < (x2955_1.length : Int))))]) [0, 1, 2, 6, 8, 11, 12, 14, 18, 210] (by kernel_rfl) ?_
                        refine NN.then ?_
                        rcases Bool.eq_false_or_eq_true (decide (x18l3 < (x2955_1.length : Int))) with c4986 | c4986
                        · rw [if_pos (of_decide_eq_true c4986)] at H
                          refine J.condT (b := decide (x18l3 < (x2955_1.length : Int))) c4986 (by kernel_rfl) (by kernel_rfl) ?_
                          refine J.skip ?_
                          refine NN.then ?_
                          refine J.seq ?_
                          refine J.block ?_
                          refine J.seq ?_
                          refine J.drawn follows (by kernel_rfl) ?_
                          refine QQ.op (.slice A2958 x2955_1.length c2959) (by kernel_rfl) (fun w _ => by kernel_rfl) ?_
                          refine QQ.op (.int .i64 x18l3) (by kernel_rfl) (fun w _ => by kernel_rfl) ?_
                          obtain ⟨e4987, he4987, H⟩ := bind_some H
                          refine QQ.op (.pointer (rp A2958 (x18l3.toNat * 1 + 0))) (by kernel_rfl) (idxR (cp := c2959) (ik := .i64) (k2961.le le2974) he4987 rfl (by kernel_rfl) (by kernel_rfl) (by kernel_rfl)) ?_
                          refine QQ.op (.int .i64 e4987) (by kernel_rfl) (ldR (off := 0) (k2961.le le2974) he4987 rfl (by kernel_rfl) (by kernel_rfl)) ?_
                          refine QQ.op (.bool (decide (0 ≤ e4987))) (by kernel_rfl) (fun w _ => by kernel_rfl) ?_
                          refine QQ.op (.bool (decide (0 ≤ e4987))) (by kernel_rfl) (fun w _ => by kernel_rfl) ?_
                          rcases Bool.eq_false_or_eq_true (decide (0 ≤ e4987)) with c4988 | c4988
                          · rw [if_pos (of_decide_eq_true c4988)] at H
                            refine QQ.bool 218 (decide (0 ≤ e4987)) true c4988 (by kernel_rfl) ?_
                            refine QQ.op (.slice Aa0 a0.length ca0) (by kernel_rfl) (fun w _ => by kernel_rfl) ?_
                            refine QQ.op (.slice A2958 x2955_1.length c2959) (by kernel_rfl) (fun w _ => by kernel_rfl) ?_
                            refine QQ.op (.int .i64 x18l3) (by kernel_rfl) (fun w _ => by kernel_rfl) ?_
                            refine QQ.op (.pointer (rp A2958 (x18l3.toNat * 1 + 0))) (by kernel_rfl) (idxR (cp := c2959) (ik := .i64) (k2961.le le2974) he4987 rfl (by kernel_rfl) (by kernel_rfl) (by kernel_rfl)) ?_
                            refine QQ.op (.int .i64 e4987) (by kernel_rfl) (ldR (off := 0) (k2961.le le2974) he4987 rfl (by kernel_rfl) (by kernel_rfl)) ?_
                            obtain ⟨⟨e4989_1, e4989_2, e4989_3, e4989_4, e4989_5, e4989_6, e4989_7, e4989_8, e4989_9, e4989_10, e4989_11⟩, he4989, H⟩ := bind_some H
                            (try dsimp only at H)
                            refine QQ.op (.pointer (rp Aa0 (e4987.toNat * 11 + 0))) (by kernel_rfl) (idxR (cp := ca0) (ik := .i64) ((((((ha0.le le2934).le le2939).le le2947).le le2952).le le2960).le le2974) he4989 rfl (by kernel_rfl) (by kernel_rfl) (by kernel_rfl)) ?_
                            refine QQ.op (.agg #[.string e4989_1, .string e4989_2, .int .i64 e4989_3, .int .i64 e4989_4, .int .i64 e4989_5, .int .i64 e4989_6, .int .i64 e4989_7, .int .i64 e4989_8, .int .i64 e4989_9, .int .i64 e4989_10, .int .i64 e4989_11]) (by kernel_rfl) (ldR (off := 0) ((((((ha0.le le2934).le le2939).le le2947).le le2952).le le2960).le le2974) he4989 rfl (by kernel_rfl) (by kernel_rfl)) ?_
                            refine QQ.op (.slice Aa1 a1.length ca1) (by kernel_rfl) (fun w _ => by kernel_rfl) ?_
                            refine QQ.op (.int .i64 x18l3) (by kernel_rfl) (fun w _ => by kernel_rfl) ?_
                            obtain ⟨⟨e4990_1, e4990_2, e4990_3, e4990_4, e4990_5, e4990_6, e4990_7, e4990_8, e4990_9, e4990_10, e4990_11, e4990_12, e4990_13, e4990_14, e4990_15, e4990_16, e4990_17, e4990_18⟩, he4990, H⟩ := bind_some H
                            (try dsimp only at H)
                            refine QQ.op (.pointer (rp Aa1 (x18l3.toNat * 18 + 0))) (by kernel_rfl) (idxR (cp := ca1) (ik := .i64) ((((((ha1.le le2934).le le2939).le le2947).le le2952).le le2960).le le2974) he4990 rfl (by kernel_rfl) (by kernel_rfl) (by kernel_rfl)) ?_
                            refine QQ.op (.agg #[.string e4990_1, .string e4990_2, .string e4990_3, .int .i64 e4990_4, .int .i64 e4990_5, .int .i64 e4990_6, .int .i64 e4990_7, .int .i64 e4990_8, .int .i64 e4990_9, .int .i64 e4990_10, .int .i64 e4990_11, .slice e4990_12.1 e4990_12.2.1 e4990_12.2.2, .int .i64 e4990_13, .int .i64 e4990_14, .int .i64 e4990_15, .int .i64 e4990_16, .bool e4990_17, .int .i64 e4990_18]) (by kernel_rfl) (ldR (off := 0) ((((((ha1.le le2934).le le2939).le le2947).le le2952).le le2960).le le2974) he4990 rfl (by kernel_rfl) (by kernel_rfl)) ?_
                            obtain ⟨x4991, hx4991, H⟩ := bind_some H
                            refine QQ.call 17 #[.agg #[.string e4989_1, .string e4989_2, .int .i64 e4989_3, .int .i64 e4989_4, .int .i64 e4989_5, .int .i64 e4989_6, .int .i64 e4989_7, .int .i64 e4989_8, .int .i64 e4989_9, .int .i64 e4989_10, .int .i64 e4989_11], .agg #[.string e4990_1, .string e4990_2, .string e4990_3, .int .i64 e4990_4, .int .i64 e4990_5, .int .i64 e4990_6, .int .i64 e4990_7, .int .i64 e4990_8, .int .i64 e4990_9, .int .i64 e4990_10, .int .i64 e4990_11, .slice e4990_12.1 e4990_12.2.1 e4990_12.2.2, .int .i64 e4990_13, .int .i64 e4990_14, .int .i64 e4990_15, .int .i64 e4990_16, .bool e4990_17, .int .i64 e4990_18]] (.int .i64 x4991) (by kernel_rfl) (fun w => by kernel_rfl) (fun w hw => order_Fits.calls e4989_1 e4989_2 e4989_3 e4989_4 e4989_5 e4989_6 e4989_7 e4989_8 e4989_9 e4989_10 e4989_11 e4990_1 e4990_2 e4990_3 e4990_4 e4990_5 e4990_6 e4990_7 e4990_8 e4990_9 e4990_10 e4990_11 e4990_12 e4990_13 e4990_14 e4990_15 e4990_16 e4990_17 e4990_18   _ w   hx4991) ?_
                            refine QQ.op (.bool (!(x4991 == 0))) (by kernel_rfl) (fun w _ => by kernel_rfl) ?_
                            refine QQ.op (.bool (!(x4991 == 0))) (by kernel_rfl) (fun w _ => by kernel_rfl) ?_
                            refine QQ.done (s' := [(0, .slice Aa0 a0.length ca0), (1, .slice Aa1 a1.length ca1), (2, .slice Aa2 a2.length ca2), (6, .bool false), (8, .slice Ax8l0 x8l0.length cx8l0), (11, .slice A2932 x2929.length c2933), (12, .slice A2945 x2942_1.length c2946), (14, .slice A2958 x2955_1.length c2959), (18, .int .i64 x18l3), (232, .bool (!(x4991 == 0)))]) [0, 1, 2, 6, 8, 11, 12, 14, 18, 232] (by kernel_rfl) ?_
                            refine NN.then ?_
                            rcases Bool.eq_false_or_eq_true ((x4991 == 0)) with c4992 | c4992
                            · rw [if_pos (eq_of_beq c4992)] at H
                              refine J.condF (b := !(x4991 == 0)) (by rw [show (!(x4991 == 0)) = !((x4991 == 0)) from rfl, c4992]; rfl) (by kernel_rfl) (by kernel_rfl) ?_
                              refine J.skip ?_
                              refine NN.block_n ?_
                              refine NN.then ?_
                              refine J.plain ?_
                              refine LL.op (.int .i64 x18l3) (by kernel_rfl) (fun w _ => by kernel_rfl) ?_
                              refine LL.op (.int .i64 (IntKind.i64.wrap (x18l3 + 1))) (by kernel_rfl) (fun w _ => by kernel_rfl) ?_
                              refine LL.op (.int .i64 (IntKind.i64.wrap (x18l3 + 1))) (by kernel_rfl) (fun w _ => by kernel_rfl) ?_
                              refine LL.done (s' := [(0, .slice Aa0 a0.length ca0), (1, .slice Aa1 a1.length ca1), (2, .slice Aa2 a2.length ca2), (6, .bool false), (8, .slice Ax8l0 x8l0.length cx8l0), (11, .slice A2932 x2929.length c2933), (12, .slice A2945 x2942_1.length c2946), (14, .slice A2958 x2955_1.length c2959), (18, .int .i64 (IntKind.i64.wrap (x18l3 + 1)))]) [0, 1, 2, 6, 8, 11, 12, 14, 18] (by kernel_rfl) ?_
                              exact NN.round' [0, 1, 2, 6, 8, 11, 12, 14, 18] (bs' := []) (Nat.lt_succ_self _) (List.Sublist.refl _) (by kernel_rfl) ⟨IntKind.i64.wrap (x18l3 + 1), H, rfl, rfl⟩
                            · rw [if_neg (nebf c4992)] at H
                              refine J.condT (b := !(x4991 == 0)) (by rw [show (!(x4991 == 0)) = !((x4991 == 0)) from rfl, c4992]; rfl) (by kernel_rfl) (by kernel_rfl) ?_
                              refine J.seq ?_
                              refine J.plain ?_
                              refine LL.op (.bool false) (by kernel_rfl) (fun w _ => by kernel_rfl) ?_
                              refine LL.done (s' := [(0, .slice Aa0 a0.length ca0), (1, .slice Aa1 a1.length ca1), (2, .slice Aa2 a2.length ca2), (6, .bool false), (8, .slice Ax8l0 x8l0.length cx8l0), (11, .slice A2932 x2929.length c2933), (12, .slice A2945 x2942_1.length c2946), (14, .slice A2958 x2955_1.length c2959), (18, .int .i64 x18l3)]) [0, 1, 2, 6, 8, 11, 12, 14, 18] (by kernel_rfl) ?_
                              refine NN.then ?_
                              refine J.ret ?_
                              refine NN.block_ret ?_
                              refine NN.then_ret ?_
                              refine NN.then_ret ?_
                              refine NN.block_ret ?_
                              refine NN.then_ret ?_
                              refine NN.fin1 6 (.bool false) (by kernel_rfl) (by kernel_rfl) (.inl rfl) (fun w hi => hi.ret ?_)
                              first | (cases H; rfl) | (obtain rfl := Option.some.inj H; rfl) | (simp only [Option.some.injEq, Prod.mk.injEq] at H; obtain ⟨rfl⟩ := H; rfl)
                          · rw [if_neg (of_decide_eq_false c4988)] at H
                            refine QQ.bool 218 (decide (0 ≤ e4987)) false c4988 (by kernel_rfl) ?_
                            refine QQ.off (by kernel_rfl) (by kernel_rfl) ?_
                            refine QQ.off (by kernel_rfl) (by kernel_rfl) ?_
                            refine QQ.off (by kernel_rfl) (by kernel_rfl) ?_
                            refine QQ.off (by kernel_rfl) (by kernel_rfl) ?_
                            refine QQ.off (by kernel_rfl) (by kernel_rfl) ?_
                            refine QQ.off (by kernel_rfl) (by kernel_rfl) ?_
                            refine QQ.off (by kernel_rfl) (by kernel_rfl) ?_
                            refine QQ.off (by kernel_rfl) (by kernel_rfl) ?_
                            refine QQ.off (by kernel_rfl) (by kernel_rfl) ?_
                            refine QQ.off (by kernel_rfl) (by kernel_rfl) ?_
                            refine QQ.off (by kernel_rfl) (by kernel_rfl) ?_
                            refine QQ.off (by kernel_rfl) (by kernel_rfl) ?_
                            refine QQ.off (by kernel_rfl) (by kernel_rfl) ?_
                            refine QQ.op (.bool false) (by kernel_rfl) (fun w _ => by kernel_rfl) ?_
                            refine QQ.done (s' := [(0, .slice Aa0 a0.length ca0), (1, .slice Aa1 a1.length ca1), (2, .slice Aa2 a2.length ca2), (6, .bool false), (8, .slice Ax8l0 x8l0.length cx8l0), (11, .slice A2932 x2929.length c2933), (12, .slice A2945 x2942_1.length c2946), (14, .slice A2958 x2955_1.length c2959), (18, .int .i64 x18l3), (232, .bool false)]) [0, 1, 2, 6, 8, 11, 12, 14, 18, 232] (by kernel_rfl) ?_
                            refine NN.then ?_
                            refine J.condF (b := false) rfl (by kernel_rfl) (by kernel_rfl) ?_
                            refine J.skip ?_
                            refine NN.block_n ?_
                            refine NN.then ?_
                            refine J.plain ?_
                            refine LL.op (.int .i64 x18l3) (by kernel_rfl) (fun w _ => by kernel_rfl) ?_
                            refine LL.op (.int .i64 (IntKind.i64.wrap (x18l3 + 1))) (by kernel_rfl) (fun w _ => by kernel_rfl) ?_
                            refine LL.op (.int .i64 (IntKind.i64.wrap (x18l3 + 1))) (by kernel_rfl) (fun w _ => by kernel_rfl) ?_
                            refine LL.done (s' := [(0, .slice Aa0 a0.length ca0), (1, .slice Aa1 a1.length ca1), (2, .slice Aa2 a2.length ca2), (6, .bool false), (8, .slice Ax8l0 x8l0.length cx8l0), (11, .slice A2932 x2929.length c2933), (12, .slice A2945 x2942_1.length c2946), (14, .slice A2958 x2955_1.length c2959), (18, .int .i64 (IntKind.i64.wrap (x18l3 + 1)))]) [0, 1, 2, 6, 8, 11, 12, 14, 18] (by kernel_rfl) ?_
                            exact NN.round' [0, 1, 2, 6, 8, 11, 12, 14, 18] (bs' := []) (Nat.lt_succ_self _) (List.Sublist.refl _) (by kernel_rfl) ⟨IntKind.i64.wrap (x18l3 + 1), H, rfl, rfl⟩
                        · rw [if_neg (of_decide_eq_false c4986)] at H
                          refine J.condF (b := decide (x18l3 < (x2955_1.length : Int))) c4986 (by kernel_rfl) (by kernel_rfl) ?_
                          refine J.exit ?_
                          refine NN.then_exit ?_
                          rw [← hk4984] at H
                          (try dsimp only at H)
                          refine NN.then_exit ?_
                          refine NN.block_same ?_
                          refine NN.then ?_
                          refine J.seq ?_
                          refine J.seq ?_
                          refine J.plain ?_
                          refine LL.op (.slice Aa2 a2.length ca2) (by kernel_rfl) (fun w _ => by kernel_rfl) ?_
                          refine LL.op (.int .i64 (a2.length : Int)) (by kernel_rfl) (fun w _ => by kernel_rfl) ?_
                          refine LL.op (.slice Aa1 a1.length ca1) (by kernel_rfl) (fun w _ => by kernel_rfl) ?_
                          refine LL.op (.int .i64 (a1.length : Int)) (by kernel_rfl) (fun w _ => by kernel_rfl) ?_
                          refine LL.op (.bool (!((a2.length : Int) == (a1.length : Int)))) (by kernel_rfl) (fun w _ => by kernel_rfl) ?_
                          refine LL.op (.bool (!((a2.length : Int) == (a1.length : Int)))) (by kernel_rfl) (fun w _ => by kernel_rfl) ?_
                          rcases Bool.eq_false_or_eq_true (((a2.length : Int) == (a1.length : Int))) with c6993 | c6993
                          · rw [if_pos (eq_of_beq c6993)] at H
                            refine LL.bool 238 (!((a2.length : Int) == (a1.length : Int))) false (by rw [show (!((a2.length : Int) == (a1.length : Int))) = !(((a2.length : Int) == (a1.length : Int))) from rfl, c6993]; rfl) (by kernel_rfl) ?_
                            refine LL.op (.slice A2932 x2929.length c2933) (by kernel_rfl) (fun w _ => by kernel_rfl) ?_
                            refine LL.op (.slice Ax8l0 x8l0.length cx8l0) (by kernel_rfl) (fun w _ => by kernel_rfl) ?_
                            refine LL.op (.slice Aa2 a2.length ca2) (by kernel_rfl) (fun w _ => by kernel_rfl) ?_
                            obtain ⟨x6994, hx6994, H⟩ := bind_some H
                            refine LL.call 15 #[.slice A2932 x2929.length c2933, .slice Ax8l0 x8l0.length cx8l0, .slice Aa2 a2.length ca2] (.bool x6994) (by kernel_rfl) (fun w => by kernel_rfl) (fun w hw => assign_Valid.calls K x2929 x8l0 a2  _ _ _ _ _ _ _ w  ((((((k2935.le le2939).le le2947).le le2952).le le2960).le le2974).at hw) (((((k2940.le le2947).le le2952).le le2960).le le2974).at hw) (((((((ha2.le le2934).le le2939).le le2947).le le2952).le le2960).le le2974).at hw) hx6994) ?_
                            refine LL.op (.bool (!x6994)) (by kernel_rfl) (fun w _ => by kernel_rfl) ?_
                            refine LL.op (.bool (!x6994)) (by kernel_rfl) (fun w _ => by kernel_rfl) ?_
                            refine LL.done (s' := [(0, .slice Aa0 a0.length ca0), (2, .slice Aa2 a2.length ca2), (6, .bool false), (12, .slice A2945 x2942_1.length c2946), (244, .bool (!x6994))]) [0, 2, 6, 12, 244] (by kernel_rfl) ?_
                            refine NN.then ?_
                            rcases Bool.eq_false_or_eq_true (x6994) with c6995 | c6995
                            · rw [if_pos (c6995)] at H
                              refine J.condF (b := !x6994) (by rw [show (!x6994) = !(x6994) from rfl, c6995]; rfl) (by kernel_rfl) (by kernel_rfl) ?_
                              refine J.skip ?_
                              refine NN.then ?_
                              refine J.seq ?_
                              refine J.plain ?_
                              refine LL.op (.slice Aa0 a0.length ca0) (by kernel_rfl) (fun w _ => by kernel_rfl) ?_
                              refine LL.op (.int .i64 (a0.length : Int)) (by kernel_rfl) (fun w _ => by kernel_rfl) ?_
                              refine LL.op (.slice Aa2 a2.length ca2) (by kernel_rfl) (fun w _ => by kernel_rfl) ?_
                              obtain ⟨x6996, hx6996, H⟩ := bind_some H
                              refine LL.callR (enc := enc3) (m := 1) (l := x6996) 16 #[.int .i64 (a0.length : Int), .slice Aa2 a2.length ca2] (fun A_ c_ => .slice A_ x6996.length c_) (by kernel_rfl) (fun w => by kernel_rfl) (fun w hw => sawmilltop_counts.calls K (a0.length : Int) a2  _ _ _ w  (((((((ha2.le le2934).le le2939).le le2947).le le2952).le le2960).le le2974).at hw) hx6996) (fun R6997 F6998 A6999 c7000 le7001 k7002 fr7003 => ?_)
                              refine LL.op (.slice A6999 x6996.length c7000) (by kernel_rfl) (fun w _ => by kernel_rfl) ?_
                              refine LL.done (s' := [(0, .slice Aa0 a0.length ca0), (6, .bool false), (12, .slice A2945 x2942_1.length c2946), (19, .slice A6999 x6996.length c7000)]) [0, 6, 12, 19] (by kernel_rfl) ?_
                              refine NN.then ?_
                              refine J.seq ?_
                              refine J.seq ?_
                              refine J.plain ?_
                              refine LL.op (.int .i64 0) (by kernel_rfl) (fun w _ => by kernel_rfl) ?_
                              refine LL.done (s' := [(0, .slice Aa0 a0.length ca0), (6, .bool false), (12, .slice A2945 x2942_1.length c2946), (19, .slice A6999 x6996.length c7000), (20, .int .i64 0)]) [0, 6, 12, 19, 20] (by kernel_rfl) ?_
                              refine NN.then ?_
                              refine J.block ?_
                              refine J.to [0, 6, 12, 19, 20] (s' := [(0, .slice Aa0 a0.length ca0), (6, .bool false), (12, .slice A2945 x2942_1.length c2946), (19, .slice A6999 x6996.length c7000), (20, .int .i64 0)]) (by kernel_rfl) ?_
                              obtain ⟨kont7004, hk7004, H⟩ := kont_intro (P := fun q_ => sawmilltop_TopOrders.l4 K a0 x2942_1 x6996 q_ K 0 = some r1) H
                              refine J.loop (fun n_ s_ bs_ => ∃ (x20l4 : Int), sawmilltop_TopOrders.l4 K a0 x2942_1 x6996 kont7004 n_ x20l4 = some r1 ∧ s_ = [(0, .slice Aa0 a0.length ca0), (6, .bool false), (12, .slice A2945 x2942_1.length c2946), (19, .slice A6999 x6996.length c7000), (20, .int .i64 x20l4)] ∧ [] = bs_) K ⟨0, H, rfl, rfl⟩ ?_
                              rintro (_ | n_) s_ bs_ ⟨x20l4, H, rfl, rfl⟩
                              · exact absurd H (by simp [sawmilltop_TopOrders.l4])
                              simp only [sawmilltop_TopOrders.l4] at H
                              refine J.seq ?_
                              refine J.seq ?_
                              refine J.plain ?_
                              refine LL.op (.int .i64 x20l4) (by kernel_rfl) (fun w _ => by kernel_rfl) ?_
                              refine LL.op (.slice Aa0 a0.length ca0) (by kernel_rfl) (fun w _ => by kernel_rfl) ?_
                              refine LL.op (.int .i64 (a0.length : Int)) (by kernel_rfl) (fun w _ => by kernel_rfl) ?_
                              refine LL.op (.bool (decide (x20l4 < (a0.length : Int)))) (by kernel_rfl) (fun w _ => by kernel_rfl) ?_
                              refine LL.done (s' := [(0, .slice Aa0 a0.length ca0), (6, .bool false), (12, .slice A2945 x2942_1.length c2946), (19, .slice A6999 x6996.length c7000), (20, .int .i64 x20l4), (253, .bool (decide (x20l4 < (a0.length : Int))))]) [0, 6, 12, 19, 20, 253] (by kernel_rfl) ?_
                              refine NN.then ?_
                              rcases Bool.eq_false_or_eq_true (decide (x20l4 < (a0.length : Int))) with c7006 | c7006
                              · rw [if_pos (of_decide_eq_true c7006)] at H
                                refine J.condT (b := decide (x20l4 < (a0.length : Int))) c7006 (by kernel_rfl) (by kernel_rfl) ?_
                                refine J.skip ?_
                                refine NN.then ?_
                                refine J.seq ?_
                                refine J.block ?_
                                refine J.seq ?_
                                refine J.drawn follows (by kernel_rfl) ?_
                                refine QQ.op (.slice A6999 x6996.length c7000) (by kernel_rfl) (fun w _ => by kernel_rfl) ?_
                                refine QQ.op (.int .i64 x20l4) (by kernel_rfl) (fun w _ => by kernel_rfl) ?_
                                obtain ⟨e7007, he7007, H⟩ := bind_some H
                                refine QQ.op (.pointer (rp A6999 (x20l4.toNat * 1 + 0))) (by kernel_rfl) (idxR (cp := c7000) (ik := .i64) k7002 he7007 rfl (by kernel_rfl) (by kernel_rfl) (by kernel_rfl)) ?_
                                refine QQ.op (.int .i64 e7007) (by kernel_rfl) (ldR (off := 0) k7002 he7007 rfl (by kernel_rfl) (by kernel_rfl)) ?_
                                refine QQ.op (.slice A2945 x2942_1.length c2946) (by kernel_rfl) (fun w _ => by kernel_rfl) ?_
                                refine QQ.op (.int .i64 x20l4) (by kernel_rfl) (fun w _ => by kernel_rfl) ?_
                                obtain ⟨e7008, he7008, H⟩ := bind_some H
                                refine QQ.op (.pointer (rp A2945 (x20l4.toNat * 1 + 0))) (by kernel_rfl) (idxR (cp := c2946) (ik := .i64) ((((k2948.le le2952).le le2960).le le2974).le le7001) he7008 rfl (by kernel_rfl) (by kernel_rfl) (by kernel_rfl)) ?_
                                refine QQ.op (.int .i64 e7008) (by kernel_rfl) (ldR (off := 0) ((((k2948.le le2952).le le2960).le le2974).le le7001) he7008 rfl (by kernel_rfl) (by kernel_rfl)) ?_
                                refine QQ.op (.bool (!(e7007 == e7008))) (by kernel_rfl) (fun w _ => by kernel_rfl) ?_
                                refine QQ.done (s' := [(0, .slice Aa0 a0.length ca0), (6, .bool false), (12, .slice A2945 x2942_1.length c2946), (19, .slice A6999 x6996.length c7000), (20, .int .i64 x20l4), (264, .bool (!(e7007 == e7008)))]) [0, 6, 12, 19, 20, 264] (by kernel_rfl) ?_
                                refine NN.then ?_
                                rcases Bool.eq_false_or_eq_true ((e7007 == e7008)) with c7009 | c7009
                                · rw [if_pos (eq_of_beq c7009)] at H
                                  refine J.condF (b := !(e7007 == e7008)) (by rw [show (!(e7007 == e7008)) = !((e7007 == e7008)) from rfl, c7009]; rfl) (by kernel_rfl) (by kernel_rfl) ?_
                                  refine J.skip ?_
                                  refine NN.block_n ?_
                                  refine NN.then ?_
                                  refine J.plain ?_
                                  refine LL.op (.int .i64 x20l4) (by kernel_rfl) (fun w _ => by kernel_rfl) ?_
                                  refine LL.op (.int .i64 (IntKind.i64.wrap (x20l4 + 1))) (by kernel_rfl) (fun w _ => by kernel_rfl) ?_
                                  refine LL.op (.int .i64 (IntKind.i64.wrap (x20l4 + 1))) (by kernel_rfl) (fun w _ => by kernel_rfl) ?_
                                  refine LL.done (s' := [(0, .slice Aa0 a0.length ca0), (6, .bool false), (12, .slice A2945 x2942_1.length c2946), (19, .slice A6999 x6996.length c7000), (20, .int .i64 (IntKind.i64.wrap (x20l4 + 1)))]) [0, 6, 12, 19, 20] (by kernel_rfl) ?_
                                  exact NN.round' [0, 6, 12, 19, 20] (bs' := []) (Nat.lt_succ_self _) (List.Sublist.refl _) (by kernel_rfl) ⟨IntKind.i64.wrap (x20l4 + 1), H, rfl, rfl⟩
                                · rw [if_neg (nebf c7009)] at H
                                  refine J.condT (b := !(e7007 == e7008)) (by rw [show (!(e7007 == e7008)) = !((e7007 == e7008)) from rfl, c7009]; rfl) (by kernel_rfl) (by kernel_rfl) ?_
                                  refine J.seq ?_
                                  refine J.drawn follows (by kernel_rfl) ?_
                                  refine QQ.op (.slice A6999 x6996.length c7000) (by kernel_rfl) (fun w _ => by kernel_rfl) ?_
                                  refine QQ.op (.int .i64 x20l4) (by kernel_rfl) (fun w _ => by kernel_rfl) ?_
                                  refine QQ.op (.pointer (rp A6999 (x20l4.toNat * 1 + 0))) (by kernel_rfl) (idxR (cp := c7000) (ik := .i64) k7002 he7007 rfl (by kernel_rfl) (by kernel_rfl) (by kernel_rfl)) ?_
                                  refine QQ.op (.int .i64 e7007) (by kernel_rfl) (ldR (off := 0) k7002 he7007 rfl (by kernel_rfl) (by kernel_rfl)) ?_
                                  refine QQ.op (.slice A2945 x2942_1.length c2946) (by kernel_rfl) (fun w _ => by kernel_rfl) ?_
                                  refine QQ.op (.int .i64 x20l4) (by kernel_rfl) (fun w _ => by kernel_rfl) ?_
                                  refine QQ.op (.pointer (rp A2945 (x20l4.toNat * 1 + 0))) (by kernel_rfl) (idxR (cp := c2946) (ik := .i64) ((((k2948.le le2952).le le2960).le le2974).le le7001) he7008 rfl (by kernel_rfl) (by kernel_rfl) (by kernel_rfl)) ?_
                                  refine QQ.op (.int .i64 e7008) (by kernel_rfl) (ldR (off := 0) ((((k2948.le le2952).le le2960).le le2974).le le7001) he7008 rfl (by kernel_rfl) (by kernel_rfl)) ?_
                                  refine QQ.op (.bool (decide (e7007 < e7008))) (by kernel_rfl) (fun w _ => by kernel_rfl) ?_
                                  refine QQ.op (.bool (decide (e7007 < e7008))) (by kernel_rfl) (fun w _ => by kernel_rfl) ?_
                                  rcases Bool.eq_false_or_eq_true (decide (e7007 < e7008)) with c7010 | c7010
                                  · rw [if_pos (of_decide_eq_true c7010)] at H
                                    refine QQ.bool 274 (decide (e7007 < e7008)) true c7010 (by kernel_rfl) ?_
                                    obtain ⟨x7011, hx7011, H⟩ := bind_some H
                                    refine QQ.call 9 #[] (.bool x7011) (by kernel_rfl) (fun w => by kernel_rfl) (fun w hw => sawmilltop_ordersAwake.calls K    _ w   hx7011) ?_
                                    refine QQ.op (.bool x7011) (by kernel_rfl) (fun w _ => by kernel_rfl) ?_
                                    refine QQ.op (.bool x7011) (by kernel_rfl) (fun w _ => by kernel_rfl) ?_
                                    refine QQ.done (s' := [(0, .slice Aa0 a0.length ca0), (6, .bool x7011), (12, .slice A2945 x2942_1.length c2946), (19, .slice A6999 x6996.length c7000), (20, .int .i64 x20l4)]) [0, 6, 12, 19, 20] (by kernel_rfl) ?_
                                    refine NN.then ?_
                                    refine J.ret ?_
                                    refine NN.block_ret ?_
                                    refine NN.then_ret ?_
                                    refine NN.then_ret ?_
                                    refine NN.block_ret ?_
                                    refine NN.then_ret ?_
                                    refine NN.fin1 6 (.bool x7011) (by kernel_rfl) (by kernel_rfl) (.inl rfl) (fun w hi => hi.ret ?_)
                                    first | (cases H; rfl) | (obtain rfl := Option.some.inj H; rfl) | (simp only [Option.some.injEq, Prod.mk.injEq] at H; obtain ⟨rfl⟩ := H; rfl)
                                  · rw [if_neg (of_decide_eq_false c7010)] at H
                                    refine QQ.bool 274 (decide (e7007 < e7008)) false c7010 (by kernel_rfl) ?_
                                    refine QQ.off (by kernel_rfl) (by kernel_rfl) ?_
                                    refine QQ.op (.bool false) (by kernel_rfl) (fun w _ => by kernel_rfl) ?_
                                    refine QQ.op (.bool false) (by kernel_rfl) (fun w _ => by kernel_rfl) ?_
                                    refine QQ.done (s' := [(0, .slice Aa0 a0.length ca0), (6, .bool false), (12, .slice A2945 x2942_1.length c2946), (19, .slice A6999 x6996.length c7000), (20, .int .i64 x20l4)]) [0, 6, 12, 19, 20] (by kernel_rfl) ?_
                                    refine NN.then ?_
                                    refine J.ret ?_
                                    refine NN.block_ret ?_
                                    refine NN.then_ret ?_
                                    refine NN.then_ret ?_
                                    refine NN.block_ret ?_
                                    refine NN.then_ret ?_
                                    refine NN.fin1 6 (.bool false) (by kernel_rfl) (by kernel_rfl) (.inl rfl) (fun w hi => hi.ret ?_)
                                    first | (cases H; rfl) | (obtain rfl := Option.some.inj H; rfl) | (simp only [Option.some.injEq, Prod.mk.injEq] at H; obtain ⟨rfl⟩ := H; rfl)
                              · rw [if_neg (of_decide_eq_false c7006)] at H
                                refine J.condF (b := decide (x20l4 < (a0.length : Int))) c7006 (by kernel_rfl) (by kernel_rfl) ?_
                                refine J.exit ?_
                                refine NN.then_exit ?_
                                rw [← hk7004] at H
                                (try dsimp only at H)
                                refine NN.then_exit ?_
                                refine NN.block_same ?_
                                refine NN.then ?_
                                refine J.seq ?_
                                refine J.plain ?_
                                obtain ⟨x9012, hx9012, H⟩ := bind_some H
                                refine LL.call 9 #[] (.bool x9012) (by kernel_rfl) (fun w => by kernel_rfl) (fun w hw => sawmilltop_ordersAwake.calls K    _ w   hx9012) ?_
                                refine LL.op (.bool x9012) (by kernel_rfl) (fun w _ => by kernel_rfl) ?_
                                refine LL.done (s' := [(6, .bool x9012)]) [6] (by kernel_rfl) ?_
                                refine NN.then ?_
                                refine J.ret ?_
                                refine NN.fin1 6 (.bool x9012) (by kernel_rfl) (by kernel_rfl) (.inl rfl) (fun w hi => hi.ret ?_)
                                first | (cases H; rfl) | (obtain rfl := Option.some.inj H; rfl) | (simp only [Option.some.injEq, Prod.mk.injEq] at H; obtain ⟨rfl⟩ := H; rfl)
                            · rw [if_neg (nebt c6995)] at H
                              refine J.condT (b := !x6994) (by rw [show (!x6994) = !(x6994) from rfl, c6995]; rfl) (by kernel_rfl) (by kernel_rfl) ?_
                              refine J.seq ?_
                              refine J.plain ?_
                              obtain ⟨x7012, hx7012, H⟩ := bind_some H
                              refine LL.call 9 #[] (.bool x7012) (by kernel_rfl) (fun w => by kernel_rfl) (fun w hw => sawmilltop_ordersAwake.calls K    _ w   hx7012) ?_
                              refine LL.op (.bool x7012) (by kernel_rfl) (fun w _ => by kernel_rfl) ?_
                              refine LL.done (s' := [(0, .slice Aa0 a0.length ca0), (2, .slice Aa2 a2.length ca2), (6, .bool x7012), (12, .slice A2945 x2942_1.length c2946)]) [0, 2, 6, 12] (by kernel_rfl) ?_
                              refine NN.then ?_
                              refine J.ret ?_
                              refine NN.then_ret ?_
                              refine NN.fin1 6 (.bool x7012) (by kernel_rfl) (by kernel_rfl) (.inl rfl) (fun w hi => hi.ret ?_)
                              first | (cases H; rfl) | (obtain rfl := Option.some.inj H; rfl) | (simp only [Option.some.injEq, Prod.mk.injEq] at H; obtain ⟨rfl⟩ := H; rfl)
                          · rw [if_neg (nebf c6993)] at H
                            refine LL.bool 238 (!((a2.length : Int) == (a1.length : Int))) true (by rw [show (!((a2.length : Int) == (a1.length : Int))) = !(((a2.length : Int) == (a1.length : Int))) from rfl, c6993]; rfl) (by kernel_rfl) ?_
                            refine LL.off (by kernel_rfl) (by kernel_rfl) ?_
                            refine LL.off (by kernel_rfl) (by kernel_rfl) ?_
                            refine LL.off (by kernel_rfl) (by kernel_rfl) ?_
                            refine LL.off (by kernel_rfl) (by kernel_rfl) ?_
                            refine LL.off (by kernel_rfl) (by kernel_rfl) ?_
                            refine LL.op (.bool true) (by kernel_rfl) (fun w _ => by kernel_rfl) ?_
                            refine LL.done (s' := [(0, .slice Aa0 a0.length ca0), (2, .slice Aa2 a2.length ca2), (6, .bool false), (12, .slice A2945 x2942_1.length c2946), (244, .bool true)]) [0, 2, 6, 12, 244] (by kernel_rfl) ?_
                            refine NN.then ?_
                            refine J.condT (b := true) rfl (by kernel_rfl) (by kernel_rfl) ?_
                            refine J.seq ?_
                            refine J.plain ?_
                            obtain ⟨x7013, hx7013, H⟩ := bind_some H
                            refine LL.call 9 #[] (.bool x7013) (by kernel_rfl) (fun w => by kernel_rfl) (fun w hw => sawmilltop_ordersAwake.calls K    _ w   hx7013) ?_
                            refine LL.op (.bool x7013) (by kernel_rfl) (fun w _ => by kernel_rfl) ?_
                            refine LL.done (s' := [(0, .slice Aa0 a0.length ca0), (2, .slice Aa2 a2.length ca2), (6, .bool x7013), (12, .slice A2945 x2942_1.length c2946)]) [0, 2, 6, 12] (by kernel_rfl) ?_
                            refine NN.then ?_
                            refine J.ret ?_
                            refine NN.then_ret ?_
                            refine NN.fin1 6 (.bool x7013) (by kernel_rfl) (by kernel_rfl) (.inl rfl) (fun w hi => hi.ret ?_)
                            first | (cases H; rfl) | (obtain rfl := Option.some.inj H; rfl) | (simp only [Option.some.injEq, Prod.mk.injEq] at H; obtain ⟨rfl⟩ := H; rfl)
                    · rw [if_neg (nebt c2968)] at H
                      refine J.condT (b := !x2967) (by rw [show (!x2967) = !(x2967) from rfl, c2968]; rfl) (by kernel_rfl) (by kernel_rfl) ?_
                      refine J.seq ?_
                      refine J.plain ?_
                      refine LL.op (.bool false) (by kernel_rfl) (fun w _ => by kernel_rfl) ?_
                      refine LL.done (s' := [(0, .slice Aa0 a0.length ca0), (1, .slice Aa1 a1.length ca1), (2, .slice Aa2 a2.length ca2), (6, .bool false), (7, .slice Ax7l0 x7l0.length cx7l0), (8, .slice Ax8l0 x8l0.length cx8l0), (11, .slice A2932 x2929.length c2933), (12, .slice A2945 x2942_1.length c2946), (14, .slice A2958 x2955_1.length c2959)]) [0, 1, 2, 6, 7, 8, 11, 12, 14] (by kernel_rfl) ?_
                      refine NN.then ?_
                      refine J.ret ?_
                      refine NN.then_ret ?_
                      refine NN.fin1 6 (.bool false) (by kernel_rfl) (by kernel_rfl) (.inl rfl) (fun w hi => hi.ret ?_)
                      first | (cases H; rfl) | (obtain rfl := Option.some.inj H; rfl) | (simp only [Option.some.injEq, Prod.mk.injEq] at H; obtain ⟨rfl⟩ := H; rfl)
                  · rw [if_neg (nebf c2966)] at H
                    refine LL.bool 174 (!((x2955_1.length : Int) == (a1.length : Int))) true (by rw [show (!((x2955_1.length : Int) == (a1.length : Int))) = !(((x2955_1.length : Int) == (a1.length : Int))) from rfl, c2966]; rfl) (by kernel_rfl) ?_
                    refine LL.off (by kernel_rfl) (by kernel_rfl) ?_
                    refine LL.off (by kernel_rfl) (by kernel_rfl) ?_
                    refine LL.off (by kernel_rfl) (by kernel_rfl) ?_
                    refine LL.off (by kernel_rfl) (by kernel_rfl) ?_
                    refine LL.off (by kernel_rfl) (by kernel_rfl) ?_
                    refine LL.op (.bool true) (by kernel_rfl) (fun w _ => by kernel_rfl) ?_
                    refine LL.done (s' := [(0, .slice Aa0 a0.length ca0), (1, .slice Aa1 a1.length ca1), (2, .slice Aa2 a2.length ca2), (6, .bool false), (7, .slice Ax7l0 x7l0.length cx7l0), (8, .slice Ax8l0 x8l0.length cx8l0), (11, .slice A2932 x2929.length c2933), (12, .slice A2945 x2942_1.length c2946), (14, .slice A2958 x2955_1.length c2959), (180, .bool true)]) [0, 1, 2, 6, 7, 8, 11, 12, 14, 180] (by kernel_rfl) ?_
                    refine NN.then ?_
                    refine J.condT (b := true) rfl (by kernel_rfl) (by kernel_rfl) ?_
                    refine J.seq ?_
                    refine J.plain ?_
                    refine LL.op (.bool false) (by kernel_rfl) (fun w _ => by kernel_rfl) ?_
                    refine LL.done (s' := [(0, .slice Aa0 a0.length ca0), (1, .slice Aa1 a1.length ca1), (2, .slice Aa2 a2.length ca2), (6, .bool false), (7, .slice Ax7l0 x7l0.length cx7l0), (8, .slice Ax8l0 x8l0.length cx8l0), (11, .slice A2932 x2929.length c2933), (12, .slice A2945 x2942_1.length c2946), (14, .slice A2958 x2955_1.length c2959)]) [0, 1, 2, 6, 7, 8, 11, 12, 14] (by kernel_rfl) ?_
                    refine NN.then ?_
                    refine J.ret ?_
                    refine NN.then_ret ?_
                    refine NN.fin1 6 (.bool false) (by kernel_rfl) (by kernel_rfl) (.inl rfl) (fun w hi => hi.ret ?_)
                    first | (cases H; rfl) | (obtain rfl := Option.some.inj H; rfl) | (simp only [Option.some.injEq, Prod.mk.injEq] at H; obtain ⟨rfl⟩ := H; rfl)
                · rw [if_neg (nebf c2965)] at H
                  refine LL.bool 167 (!((x2942_1.length : Int) == (a0.length : Int))) true (by rw [show (!((x2942_1.length : Int) == (a0.length : Int))) = !(((x2942_1.length : Int) == (a0.length : Int))) from rfl, c2965]; rfl) (by kernel_rfl) ?_
                  refine LL.off (by kernel_rfl) (by kernel_rfl) ?_
                  refine LL.off (by kernel_rfl) (by kernel_rfl) ?_
                  refine LL.off (by kernel_rfl) (by kernel_rfl) ?_
                  refine LL.off (by kernel_rfl) (by kernel_rfl) ?_
                  refine LL.off (by kernel_rfl) (by kernel_rfl) ?_
                  refine LL.op (.bool true) (by kernel_rfl) (fun w _ => by kernel_rfl) ?_
                  refine LL.op (.bool true) (by kernel_rfl) (fun w _ => by kernel_rfl) ?_
                  refine LL.off (by kernel_rfl) (by kernel_rfl) ?_
                  refine LL.off (by kernel_rfl) (by kernel_rfl) ?_
                  refine LL.off (by kernel_rfl) (by kernel_rfl) ?_
                  refine LL.off (by kernel_rfl) (by kernel_rfl) ?_
                  refine LL.off (by kernel_rfl) (by kernel_rfl) ?_
                  refine LL.op (.bool true) (by kernel_rfl) (fun w _ => by kernel_rfl) ?_
                  refine LL.done (s' := [(0, .slice Aa0 a0.length ca0), (1, .slice Aa1 a1.length ca1), (2, .slice Aa2 a2.length ca2), (6, .bool false), (7, .slice Ax7l0 x7l0.length cx7l0), (8, .slice Ax8l0 x8l0.length cx8l0), (11, .slice A2932 x2929.length c2933), (12, .slice A2945 x2942_1.length c2946), (14, .slice A2958 x2955_1.length c2959), (180, .bool true)]) [0, 1, 2, 6, 7, 8, 11, 12, 14, 180] (by kernel_rfl) ?_
                  refine NN.then ?_
                  refine J.condT (b := true) rfl (by kernel_rfl) (by kernel_rfl) ?_
                  refine J.seq ?_
                  refine J.plain ?_
                  refine LL.op (.bool false) (by kernel_rfl) (fun w _ => by kernel_rfl) ?_
                  refine LL.done (s' := [(0, .slice Aa0 a0.length ca0), (1, .slice Aa1 a1.length ca1), (2, .slice Aa2 a2.length ca2), (6, .bool false), (7, .slice Ax7l0 x7l0.length cx7l0), (8, .slice Ax8l0 x8l0.length cx8l0), (11, .slice A2932 x2929.length c2933), (12, .slice A2945 x2942_1.length c2946), (14, .slice A2958 x2955_1.length c2959)]) [0, 1, 2, 6, 7, 8, 11, 12, 14] (by kernel_rfl) ?_
                  refine NN.then ?_
                  refine J.ret ?_
                  refine NN.then_ret ?_
                  refine NN.fin1 6 (.bool false) (by kernel_rfl) (by kernel_rfl) (.inl rfl) (fun w hi => hi.ret ?_)
                  first | (cases H; rfl) | (obtain rfl := Option.some.inj H; rfl) | (simp only [Option.some.injEq, Prod.mk.injEq] at H; obtain ⟨rfl⟩ := H; rfl)
              · rw [if_neg (nebf c2964)] at H
                refine LL.bool 160 (!(x2955_2 == 0)) true (by rw [show (!(x2955_2 == 0)) = !((x2955_2 == 0)) from rfl, c2964]; rfl) (by kernel_rfl) ?_
                refine LL.off (by kernel_rfl) (by kernel_rfl) ?_
                refine LL.off (by kernel_rfl) (by kernel_rfl) ?_
                refine LL.off (by kernel_rfl) (by kernel_rfl) ?_
                refine LL.off (by kernel_rfl) (by kernel_rfl) ?_
                refine LL.off (by kernel_rfl) (by kernel_rfl) ?_
                refine LL.op (.bool true) (by kernel_rfl) (fun w _ => by kernel_rfl) ?_
                refine LL.op (.bool true) (by kernel_rfl) (fun w _ => by kernel_rfl) ?_
                refine LL.off (by kernel_rfl) (by kernel_rfl) ?_
                refine LL.off (by kernel_rfl) (by kernel_rfl) ?_
                refine LL.off (by kernel_rfl) (by kernel_rfl) ?_
                refine LL.off (by kernel_rfl) (by kernel_rfl) ?_
                refine LL.off (by kernel_rfl) (by kernel_rfl) ?_
                refine LL.op (.bool true) (by kernel_rfl) (fun w _ => by kernel_rfl) ?_
                refine LL.op (.bool true) (by kernel_rfl) (fun w _ => by kernel_rfl) ?_
                refine LL.off (by kernel_rfl) (by kernel_rfl) ?_
                refine LL.off (by kernel_rfl) (by kernel_rfl) ?_
                refine LL.off (by kernel_rfl) (by kernel_rfl) ?_
                refine LL.off (by kernel_rfl) (by kernel_rfl) ?_
                refine LL.off (by kernel_rfl) (by kernel_rfl) ?_
                refine LL.op (.bool true) (by kernel_rfl) (fun w _ => by kernel_rfl) ?_
                refine LL.done (s' := [(0, .slice Aa0 a0.length ca0), (1, .slice Aa1 a1.length ca1), (2, .slice Aa2 a2.length ca2), (6, .bool false), (7, .slice Ax7l0 x7l0.length cx7l0), (8, .slice Ax8l0 x8l0.length cx8l0), (11, .slice A2932 x2929.length c2933), (12, .slice A2945 x2942_1.length c2946), (14, .slice A2958 x2955_1.length c2959), (180, .bool true)]) [0, 1, 2, 6, 7, 8, 11, 12, 14, 180] (by kernel_rfl) ?_
                refine NN.then ?_
                refine J.condT (b := true) rfl (by kernel_rfl) (by kernel_rfl) ?_
                refine J.seq ?_
                refine J.plain ?_
                refine LL.op (.bool false) (by kernel_rfl) (fun w _ => by kernel_rfl) ?_
                refine LL.done (s' := [(0, .slice Aa0 a0.length ca0), (1, .slice Aa1 a1.length ca1), (2, .slice Aa2 a2.length ca2), (6, .bool false), (7, .slice Ax7l0 x7l0.length cx7l0), (8, .slice Ax8l0 x8l0.length cx8l0), (11, .slice A2932 x2929.length c2933), (12, .slice A2945 x2942_1.length c2946), (14, .slice A2958 x2955_1.length c2959)]) [0, 1, 2, 6, 7, 8, 11, 12, 14] (by kernel_rfl) ?_
                refine NN.then ?_
                refine J.ret ?_
                refine NN.then_ret ?_
                refine NN.fin1 6 (.bool false) (by kernel_rfl) (by kernel_rfl) (.inl rfl) (fun w hi => hi.ret ?_)
                first | (cases H; rfl) | (obtain rfl := Option.some.inj H; rfl) | (simp only [Option.some.injEq, Prod.mk.injEq] at H; obtain ⟨rfl⟩ := H; rfl)
            · rw [if_neg (nebf c2963)] at H
              refine LL.bool 156 (!(x2942_2 == 0)) true (by rw [show (!(x2942_2 == 0)) = !((x2942_2 == 0)) from rfl, c2963]; rfl) (by kernel_rfl) ?_
              refine LL.off (by kernel_rfl) (by kernel_rfl) ?_
              refine LL.off (by kernel_rfl) (by kernel_rfl) ?_
              refine LL.op (.bool true) (by kernel_rfl) (fun w _ => by kernel_rfl) ?_
              refine LL.op (.bool true) (by kernel_rfl) (fun w _ => by kernel_rfl) ?_
              refine LL.off (by kernel_rfl) (by kernel_rfl) ?_
              refine LL.off (by kernel_rfl) (by kernel_rfl) ?_
              refine LL.off (by kernel_rfl) (by kernel_rfl) ?_
              refine LL.off (by kernel_rfl) (by kernel_rfl) ?_
              refine LL.off (by kernel_rfl) (by kernel_rfl) ?_
              refine LL.op (.bool true) (by kernel_rfl) (fun w _ => by kernel_rfl) ?_
              refine LL.op (.bool true) (by kernel_rfl) (fun w _ => by kernel_rfl) ?_
              refine LL.off (by kernel_rfl) (by kernel_rfl) ?_
              refine LL.off (by kernel_rfl) (by kernel_rfl) ?_
              refine LL.off (by kernel_rfl) (by kernel_rfl) ?_
              refine LL.off (by kernel_rfl) (by kernel_rfl) ?_
              refine LL.off (by kernel_rfl) (by kernel_rfl) ?_
              refine LL.op (.bool true) (by kernel_rfl) (fun w _ => by kernel_rfl) ?_
              refine LL.op (.bool true) (by kernel_rfl) (fun w _ => by kernel_rfl) ?_
              refine LL.off (by kernel_rfl) (by kernel_rfl) ?_
              refine LL.off (by kernel_rfl) (by kernel_rfl) ?_
              refine LL.off (by kernel_rfl) (by kernel_rfl) ?_
              refine LL.off (by kernel_rfl) (by kernel_rfl) ?_
              refine LL.off (by kernel_rfl) (by kernel_rfl) ?_
              refine LL.op (.bool true) (by kernel_rfl) (fun w _ => by kernel_rfl) ?_
              refine LL.done (s' := [(0, .slice Aa0 a0.length ca0), (1, .slice Aa1 a1.length ca1), (2, .slice Aa2 a2.length ca2), (6, .bool false), (7, .slice Ax7l0 x7l0.length cx7l0), (8, .slice Ax8l0 x8l0.length cx8l0), (11, .slice A2932 x2929.length c2933), (12, .slice A2945 x2942_1.length c2946), (14, .slice A2958 x2955_1.length c2959), (180, .bool true)]) [0, 1, 2, 6, 7, 8, 11, 12, 14, 180] (by kernel_rfl) ?_
              refine NN.then ?_
              refine J.condT (b := true) rfl (by kernel_rfl) (by kernel_rfl) ?_
              refine J.seq ?_
              refine J.plain ?_
              refine LL.op (.bool false) (by kernel_rfl) (fun w _ => by kernel_rfl) ?_
              refine LL.done (s' := [(0, .slice Aa0 a0.length ca0), (1, .slice Aa1 a1.length ca1), (2, .slice Aa2 a2.length ca2), (6, .bool false), (7, .slice Ax7l0 x7l0.length cx7l0), (8, .slice Ax8l0 x8l0.length cx8l0), (11, .slice A2932 x2929.length c2933), (12, .slice A2945 x2942_1.length c2946), (14, .slice A2958 x2955_1.length c2959)]) [0, 1, 2, 6, 7, 8, 11, 12, 14] (by kernel_rfl) ?_
              refine NN.then ?_
              refine J.ret ?_
              refine NN.then_ret ?_
              refine NN.fin1 6 (.bool false) (by kernel_rfl) (by kernel_rfl) (.inl rfl) (fun w hi => hi.ret ?_)
              first | (cases H; rfl) | (obtain rfl := Option.some.inj H; rfl) | (simp only [Option.some.injEq, Prod.mk.injEq] at H; obtain ⟨rfl⟩ := H; rfl)

end Go.Proofs.Ytbogdbbmmlaohaa
