/- Walks of functions of the seat: each call does what the Lean function of the same name says. Printed by the session's own program absgen.py. -/
import Derived.Test.YtbogdbbmmlaohaaF2
namespace Go.Proofs.Ytbogdbbmmlaohaa
open Go.Saw
set_option linter.unusedVariables false
set_option linter.unusedSimpArgs false

/-! ### sawmilllaw48_AssignPriority: function 6 -/
def sawmilllaw48_AssignPriority.l0 (K : Nat) (a0_0 : List (List E4)) (a0_1 : List E3) (a0_2 : List E3) (a1 : List E3) (x1009_1 : List E3) (x1030 : List E3) : Nat → Int → Bool → Option (Bool)
  | 0, _, _ => none
  | k + 1, x11l0, x10l0 => if x11l0 < (x1030.length : Int) then ((idx x1030 x11l0).bind fun e1041 => (if e1041 = 0 then (if x10l0 = true then ((idx x1009_1 x11l0).bind fun e1044 => (if e1044 = 0 then (sawmilllaw48_AssignPriority.l0 K a0_0 a0_1 a0_2 a1 x1009_1 x1030 k (IntKind.i64.wrap (x11l0 + 1)) true) else ((idx a0_1 x11l0).bind fun e1046 => (sawmilllaw48_AssignPriority.l0 K a0_0 a0_1 a0_2 a1 x1009_1 x1030 k (IntKind.i64.wrap (x11l0 + 1)) (decide (e1046 ≤ e1044)))))) else (sawmilllaw48_AssignPriority.l0 K a0_0 a0_1 a0_2 a1 x1009_1 x1030 k (IntKind.i64.wrap (x11l0 + 1)) false)) else ((idx a0_1 x11l0).bind fun e1047 => (if e1041 < e1047 then (some false) else ((idx a0_2 x11l0).bind fun e1049 => (if e1049 < e1041 then (some false) else (if x10l0 = true then ((idx x1009_1 x11l0).bind fun e1052 => (if e1052 = 0 then (sawmilllaw48_AssignPriority.l0 K a0_0 a0_1 a0_2 a1 x1009_1 x1030 k (IntKind.i64.wrap (x11l0 + 1)) true) else (sawmilllaw48_AssignPriority.l0 K a0_0 a0_1 a0_2 a1 x1009_1 x1030 k (IntKind.i64.wrap (x11l0 + 1)) (decide (e1047 ≤ e1052))))) else (sawmilllaw48_AssignPriority.l0 K a0_0 a0_1 a0_2 a1 x1009_1 x1030 k (IntKind.i64.wrap (x11l0 + 1)) false)))))))) else (if x10l0 = true then ((sawmilllaw48_ints.f K x1030 x1009_1).bind fun x1055 => (if x1055 = true then ((assign_Valid.f K a0_0 a0_2 a1).bind fun x1057 => (if x1057 = true then ((sawmillref48_CountsOf.f K (a0_0.length : Int) a1).bind fun x1059 => ((sawmilllaw48_better.f K x1059 x1009_1).bind fun x1067 => (if x1067 = true then (some false) else ((sawmilllaw48_awake.f K ).bind fun x1069 => (some x1069))))) else ((sawmilllaw48_awake.f K ).bind fun x1070 => (some x1070)))) else (some false))) else ((assign_Valid.f K a0_0 a0_2 a1).bind fun x1071 => (if x1071 = true then ((sawmillref48_CountsOf.f K (a0_0.length : Int) a1).bind fun x1073 => ((sawmilllaw48_better.f K x1073 x1009_1).bind fun x1081 => (if x1081 = true then (some false) else ((sawmilllaw48_awake.f K ).bind fun x1083 => (some x1083))))) else ((sawmilllaw48_awake.f K ).bind fun x1084 => (some x1084)))))
def sawmilllaw48_AssignPriority.f (K : Nat) (a0_0 : List (List E4)) (a0_1 : List E3) (a0_2 : List E3) (a1 : List E3) : Option (Bool) := (sawmilllaw48_small.f K a0_0).bind fun x1001 => (if x1001 = true then (if 50 < (a0_2.length : Int) then ((sawmilllaw48_awake.f K ).bind fun x1004 => (some x1004)) else (if 50 < (a0_1.length : Int) then ((sawmilllaw48_awake.f K ).bind fun x1006 => (some x1006)) else (if 100 < (a1.length : Int) then ((sawmilllaw48_awake.f K ).bind fun x1008 => (some x1008)) else ((assign_Counts.f K a0_0 a0_2).bind fun bx1009 => ((assign_Best.f K a0_0 a0_1 a0_2).bind fun bx1017 => (if bx1009.2 = 0 then (if bx1017.2 = 0 then ((assign_Valid.f K a0_0 a0_2 bx1017.1).bind fun x1027 => (if x1027 = true then (if (bx1009.1.length : Int) = (a0_0.length : Int) then ((sawmillref48_CountsOf.f K (a0_0.length : Int) bx1017.1).bind fun x1030 => (sawmilllaw48_AssignPriority.l0 K a0_0 a0_1 a0_2 a1 bx1009.1 x1030 K 0 true)) else (some false)) else (some false))) else ((sawmilllaw48_awake.f K ).bind fun x1085 => (some x1085))) else (if bx1017.2 = 0 then (some false) else ((sawmilllaw48_awake.f K ).bind fun x1087 => (some x1087))))))))) else ((sawmilllaw48_awake.f K ).bind fun x1088 => (some x1088)))
set_option maxRecDepth 100000 in
theorem sawmilllaw48_AssignPriority.calls (K : Nat) (a0_0 : List (List E4)) (a0_1 : List E3) (a0_2 : List E3) (a1 : List E3)  (Aa0_0 : Option Addr) (ca0_0 : Nat) (Aa0_1 : Option Addr) (ca0_1 : Nat) (Aa0_2 : Option Addr) (ca0_2 : Nat) (Aa1 : Option Addr) (ca1 : Nat)  (r1 : Bool) (w : World)   (ha0_0 : KRow2 (Cx.start w) enc4 1 a0_0 Aa0_0) (ha0_1 : KRow (Cx.start w) enc3 1 a0_1 Aa0_1) (ha0_2 : KRow (Cx.start w) enc3 1 a0_2 Aa0_2) (ha1 : KRow (Cx.start w) enc3 1 a1 Aa1) (h : sawmilllaw48_AssignPriority.f K a0_0 a0_1 a0_2 a1 = some r1) :
    Calls Try.prog 6 #[.agg #[.slice Aa0_0 a0_0.length ca0_0, .slice Aa0_1 a0_1.length ca0_1, .slice Aa0_2 a0_2.length ca0_2], .slice Aa1 a1.length ca1] w (Ret w (.bool r1)) := by
  have H := h
  clear h
  unfold sawmilllaw48_AssignPriority.f at H
  refine Go.Saw.calls (args := [.agg #[.slice Aa0_0 a0_0.length ca0_0, .slice Aa0_1 a0_1.length ca0_1, .slice Aa0_2 a0_2.length ca0_2], .slice Aa1 a1.length ca1]) Try.func6 rfl Try.ntmps6 (by kernel_rfl) ?_
  refine J.seq ?_
  refine J.plain ?_
  refine LL.box 51 (.tmp 0) [.slice Aa0_0 a0_0.length ca0_0, .slice Aa0_1 a0_1.length ca0_1, .slice Aa0_2 a0_2.length ca0_2] (by kernel_rfl) rfl (by kernel_rfl) (fun g1000 => ?_)
  refine LL.op (.bool false) (by kernel_rfl) (fun w _ => by kernel_rfl) ?_
  refine LL.done (s' := [(1, .slice Aa1 a1.length ca1), (2, .pointer (some ⟨g1000, 0, none⟩)), (4, .bool false)]) [1, 2, 4] (by kernel_rfl) ?_
  refine NN.then ?_
  refine J.seq ?_
  refine J.seq ?_
  refine J.plain ?_
  refine LL.op (.pointer (some ⟨g1000, 0, none⟩)) (by kernel_rfl) (fun w _ => by kernel_rfl) ?_
  refine LL.op (.slice Aa0_0 a0_0.length ca0_0) (by kernel_rfl) (ld 0 g1000 0 rfl (by kernel_rfl) rfl (by kernel_rfl)) ?_
  obtain ⟨x1001, hx1001, H⟩ := bind_some H
  refine LL.call 20 #[.slice Aa0_0 a0_0.length ca0_0] (.bool x1001) (by kernel_rfl) (fun w => by kernel_rfl) (fun w hw => sawmilllaw48_small.calls K a0_0  _ _ _ w  (ha0_0.at hw) hx1001) ?_
  refine LL.op (.bool (!x1001)) (by kernel_rfl) (fun w _ => by kernel_rfl) ?_
  refine LL.op (.bool (!x1001)) (by kernel_rfl) (fun w _ => by kernel_rfl) ?_
  rcases Bool.eq_false_or_eq_true (x1001) with c1002 | c1002
  · rw [if_pos (c1002)] at H
    refine LL.bool 16 (!x1001) false (by rw [show (!x1001) = !(x1001) from rfl, c1002]; rfl) (by kernel_rfl) ?_
    refine LL.op (.pointer (some ⟨g1000, 2, none⟩)) (by kernel_rfl) (fun w _ => by kernel_rfl) ?_
    refine LL.op (.slice Aa0_2 a0_2.length ca0_2) (by kernel_rfl) (ld 0 g1000 2 rfl (by kernel_rfl) rfl (by kernel_rfl)) ?_
    refine LL.op (.int .i64 (a0_2.length : Int)) (by kernel_rfl) (fun w _ => by kernel_rfl) ?_
    refine LL.op (.bool (decide (50 < (a0_2.length : Int)))) (by kernel_rfl) (fun w _ => by kernel_rfl) ?_
    refine LL.op (.bool (decide (50 < (a0_2.length : Int)))) (by kernel_rfl) (fun w _ => by kernel_rfl) ?_
    refine LL.op (.bool (decide (50 < (a0_2.length : Int)))) (by kernel_rfl) (fun w _ => by kernel_rfl) ?_
    rcases Bool.eq_false_or_eq_true (decide (50 < (a0_2.length : Int))) with c1003 | c1003
    · rw [if_pos (of_decide_eq_true c1003)] at H
      refine LL.bool 22 (decide (50 < (a0_2.length : Int))) true c1003 (by kernel_rfl) ?_
      refine LL.off (by kernel_rfl) (by kernel_rfl) ?_
      refine LL.off (by kernel_rfl) (by kernel_rfl) ?_
      refine LL.off (by kernel_rfl) (by kernel_rfl) ?_
      refine LL.off (by kernel_rfl) (by kernel_rfl) ?_
      refine LL.op (.bool true) (by kernel_rfl) (fun w _ => by kernel_rfl) ?_
      refine LL.op (.bool true) (by kernel_rfl) (fun w _ => by kernel_rfl) ?_
      refine LL.off (by kernel_rfl) (by kernel_rfl) ?_
      refine LL.off (by kernel_rfl) (by kernel_rfl) ?_
      refine LL.off (by kernel_rfl) (by kernel_rfl) ?_
      refine LL.op (.bool true) (by kernel_rfl) (fun w _ => by kernel_rfl) ?_
      refine LL.done (s' := [(1, .slice Aa1 a1.length ca1), (2, .pointer (some ⟨g1000, 0, none⟩)), (4, .bool false), (32, .bool true)]) [1, 2, 4, 32] (by kernel_rfl) ?_
      refine NN.then ?_
      refine J.condT (b := true) rfl (by kernel_rfl) (by kernel_rfl) ?_
      refine J.seq ?_
      refine J.plain ?_
      obtain ⟨x1004, hx1004, H⟩ := bind_some H
      refine LL.call 18 #[] (.bool x1004) (by kernel_rfl) (fun w => by kernel_rfl) (fun w hw => sawmilllaw48_awake.calls K    _ w   hx1004) ?_
      refine LL.op (.bool x1004) (by kernel_rfl) (fun w _ => by kernel_rfl) ?_
      refine LL.done (s' := [(1, .slice Aa1 a1.length ca1), (2, .pointer (some ⟨g1000, 0, none⟩)), (4, .bool x1004)]) [1, 2, 4] (by kernel_rfl) ?_
      refine NN.then ?_
      refine J.ret ?_
      refine NN.then_ret ?_
      refine NN.fin1 4 (.bool x1004) (by kernel_rfl) (by kernel_rfl) (.inl rfl) (fun w hi => hi.ret ?_)
      first | (cases H; rfl) | (obtain rfl := Option.some.inj H; rfl) | (simp only [Option.some.injEq, Prod.mk.injEq] at H; obtain ⟨rfl⟩ := H; rfl)
    · rw [if_neg (of_decide_eq_false c1003)] at H
      refine LL.bool 22 (decide (50 < (a0_2.length : Int))) false c1003 (by kernel_rfl) ?_
      refine LL.op (.pointer (some ⟨g1000, 1, none⟩)) (by kernel_rfl) (fun w _ => by kernel_rfl) ?_
      refine LL.op (.slice Aa0_1 a0_1.length ca0_1) (by kernel_rfl) (ld 0 g1000 1 rfl (by kernel_rfl) rfl (by kernel_rfl)) ?_
      refine LL.op (.int .i64 (a0_1.length : Int)) (by kernel_rfl) (fun w _ => by kernel_rfl) ?_
      refine LL.op (.bool (decide (50 < (a0_1.length : Int)))) (by kernel_rfl) (fun w _ => by kernel_rfl) ?_
      refine LL.op (.bool (decide (50 < (a0_1.length : Int)))) (by kernel_rfl) (fun w _ => by kernel_rfl) ?_
      refine LL.op (.bool (decide (50 < (a0_1.length : Int)))) (by kernel_rfl) (fun w _ => by kernel_rfl) ?_
      rcases Bool.eq_false_or_eq_true (decide (50 < (a0_1.length : Int))) with c1005 | c1005
      · rw [if_pos (of_decide_eq_true c1005)] at H
        refine LL.bool 28 (decide (50 < (a0_1.length : Int))) true c1005 (by kernel_rfl) ?_
        refine LL.off (by kernel_rfl) (by kernel_rfl) ?_
        refine LL.off (by kernel_rfl) (by kernel_rfl) ?_
        refine LL.off (by kernel_rfl) (by kernel_rfl) ?_
        refine LL.op (.bool true) (by kernel_rfl) (fun w _ => by kernel_rfl) ?_
        refine LL.done (s' := [(1, .slice Aa1 a1.length ca1), (2, .pointer (some ⟨g1000, 0, none⟩)), (4, .bool false), (32, .bool true)]) [1, 2, 4, 32] (by kernel_rfl) ?_
        refine NN.then ?_
        refine J.condT (b := true) rfl (by kernel_rfl) (by kernel_rfl) ?_
        refine J.seq ?_
        refine J.plain ?_
        obtain ⟨x1006, hx1006, H⟩ := bind_some H
        refine LL.call 18 #[] (.bool x1006) (by kernel_rfl) (fun w => by kernel_rfl) (fun w hw => sawmilllaw48_awake.calls K    _ w   hx1006) ?_
        refine LL.op (.bool x1006) (by kernel_rfl) (fun w _ => by kernel_rfl) ?_
        refine LL.done (s' := [(1, .slice Aa1 a1.length ca1), (2, .pointer (some ⟨g1000, 0, none⟩)), (4, .bool x1006)]) [1, 2, 4] (by kernel_rfl) ?_
        refine NN.then ?_
        refine J.ret ?_
        refine NN.then_ret ?_
        refine NN.fin1 4 (.bool x1006) (by kernel_rfl) (by kernel_rfl) (.inl rfl) (fun w hi => hi.ret ?_)
        first | (cases H; rfl) | (obtain rfl := Option.some.inj H; rfl) | (simp only [Option.some.injEq, Prod.mk.injEq] at H; obtain ⟨rfl⟩ := H; rfl)
      · rw [if_neg (of_decide_eq_false c1005)] at H
        refine LL.bool 28 (decide (50 < (a0_1.length : Int))) false c1005 (by kernel_rfl) ?_
        refine LL.op (.slice Aa1 a1.length ca1) (by kernel_rfl) (fun w _ => by kernel_rfl) ?_
        refine LL.op (.int .i64 (a1.length : Int)) (by kernel_rfl) (fun w _ => by kernel_rfl) ?_
        refine LL.op (.bool (decide (100 < (a1.length : Int)))) (by kernel_rfl) (fun w _ => by kernel_rfl) ?_
        refine LL.op (.bool (decide (100 < (a1.length : Int)))) (by kernel_rfl) (fun w _ => by kernel_rfl) ?_
        refine LL.done (s' := [(1, .slice Aa1 a1.length ca1), (2, .pointer (some ⟨g1000, 0, none⟩)), (4, .bool false), (32, .bool (decide (100 < (a1.length : Int))))]) [1, 2, 4, 32] (by kernel_rfl) ?_
        refine NN.then ?_
        rcases Bool.eq_false_or_eq_true (decide (100 < (a1.length : Int))) with c1007 | c1007
        · rw [if_pos (of_decide_eq_true c1007)] at H
          refine J.condT (b := decide (100 < (a1.length : Int))) c1007 (by kernel_rfl) (by kernel_rfl) ?_
          refine J.seq ?_
          refine J.plain ?_
          obtain ⟨x1008, hx1008, H⟩ := bind_some H
          refine LL.call 18 #[] (.bool x1008) (by kernel_rfl) (fun w => by kernel_rfl) (fun w hw => sawmilllaw48_awake.calls K    _ w   hx1008) ?_
          refine LL.op (.bool x1008) (by kernel_rfl) (fun w _ => by kernel_rfl) ?_
          refine LL.done (s' := [(1, .slice Aa1 a1.length ca1), (2, .pointer (some ⟨g1000, 0, none⟩)), (4, .bool x1008)]) [1, 2, 4] (by kernel_rfl) ?_
          refine NN.then ?_
          refine J.ret ?_
          refine NN.then_ret ?_
          refine NN.fin1 4 (.bool x1008) (by kernel_rfl) (by kernel_rfl) (.inl rfl) (fun w hi => hi.ret ?_)
          first | (cases H; rfl) | (obtain rfl := Option.some.inj H; rfl) | (simp only [Option.some.injEq, Prod.mk.injEq] at H; obtain ⟨rfl⟩ := H; rfl)
        · rw [if_neg (of_decide_eq_false c1007)] at H
          refine J.condF (b := decide (100 < (a1.length : Int))) c1007 (by kernel_rfl) (by kernel_rfl) ?_
          refine J.skip ?_
          refine NN.then ?_
          refine J.seq ?_
          refine J.plain ?_
          refine LL.op (.pointer (some ⟨g1000, 0, none⟩)) (by kernel_rfl) (fun w _ => by kernel_rfl) ?_
          refine LL.op (.slice Aa0_0 a0_0.length ca0_0) (by kernel_rfl) (ld 0 g1000 0 rfl (by kernel_rfl) rfl (by kernel_rfl)) ?_
          refine LL.op (.pointer (some ⟨g1000, 2, none⟩)) (by kernel_rfl) (fun w _ => by kernel_rfl) ?_
          refine LL.op (.slice Aa0_2 a0_2.length ca0_2) (by kernel_rfl) (ld 0 g1000 2 rfl (by kernel_rfl) rfl (by kernel_rfl)) ?_
          obtain ⟨⟨x1009_1, x1009_2⟩, hx1009, H⟩ := bind_some H
          (try dsimp only at H)
          refine LL.callR (enc := enc3) (m := 1) (l := x1009_1) 13 #[.slice Aa0_0 a0_0.length ca0_0, .slice Aa0_2 a0_2.length ca0_2] (fun A_ c_ => .tuple #[.slice A_ x1009_1.length c_, .int .i64 x1009_2]) (by kernel_rfl) (fun w => by kernel_rfl) (fun w hw => assign_Counts.calls K a0_0 a0_2  _ _ _ _ _ _ w  (ha0_0.at hw) (ha0_2.at hw) hx1009) (fun R1010 F1011 A1012 c1013 le1014 k1015 fr1016 => ?_)
          refine LL.op (.tuple #[.slice A1012 x1009_1.length c1013, .int .i64 x1009_2]) (by kernel_rfl) (fun w _ => by kernel_rfl) ?_
          refine LL.op (.slice A1012 x1009_1.length c1013) (by kernel_rfl) (fun w _ => by kernel_rfl) ?_
          refine LL.op (.int .i64 x1009_2) (by kernel_rfl) (fun w _ => by kernel_rfl) ?_
          refine LL.op (.slice A1012 x1009_1.length c1013) (by kernel_rfl) (fun w _ => by kernel_rfl) ?_
          refine LL.op (.int .i64 x1009_2) (by kernel_rfl) (fun w _ => by kernel_rfl) ?_
          refine LL.done (s' := [(1, .slice Aa1 a1.length ca1), (2, .pointer (some ⟨g1000, 0, none⟩)), (4, .bool false), (5, .slice A1012 x1009_1.length c1013), (6, .int .i64 x1009_2)]) [1, 2, 4, 5, 6] (by kernel_rfl) ?_
          refine NN.then ?_
          refine J.seq ?_
          refine J.plain ?_
          refine LL.op (.pointer (some ⟨g1000, 0, none⟩)) (by kernel_rfl) (fun w _ => by kernel_rfl) ?_
          refine LL.op (.slice Aa0_0 a0_0.length ca0_0) (by kernel_rfl) (ld 0 g1000 0 rfl (by kernel_rfl) rfl (by kernel_rfl)) ?_
          refine LL.op (.pointer (some ⟨g1000, 1, none⟩)) (by kernel_rfl) (fun w _ => by kernel_rfl) ?_
          refine LL.op (.slice Aa0_1 a0_1.length ca0_1) (by kernel_rfl) (ld 0 g1000 1 rfl (by kernel_rfl) rfl (by kernel_rfl)) ?_
          refine LL.op (.pointer (some ⟨g1000, 2, none⟩)) (by kernel_rfl) (fun w _ => by kernel_rfl) ?_
          refine LL.op (.slice Aa0_2 a0_2.length ca0_2) (by kernel_rfl) (ld 0 g1000 2 rfl (by kernel_rfl) rfl (by kernel_rfl)) ?_
          obtain ⟨⟨x1017_1, x1017_2⟩, hx1017, H⟩ := bind_some H
          (try dsimp only at H)
          refine LL.callR (enc := enc3) (m := 1) (l := x1017_1) 14 #[.slice Aa0_0 a0_0.length ca0_0, .slice Aa0_1 a0_1.length ca0_1, .slice Aa0_2 a0_2.length ca0_2] (fun A_ c_ => .tuple #[.slice A_ x1017_1.length c_, .int .i64 x1017_2]) (by kernel_rfl) (fun w => by kernel_rfl) (fun w hw => assign_Best.calls K a0_0 a0_1 a0_2  _ _ _ _ _ _ _ _ w  ((ha0_0.le le1014).at hw) ((ha0_1.le le1014).at hw) ((ha0_2.le le1014).at hw) hx1017) (fun R1018 F1019 A1020 c1021 le1022 k1023 fr1024 => ?_)
          refine LL.op (.tuple #[.slice A1020 x1017_1.length c1021, .int .i64 x1017_2]) (by kernel_rfl) (fun w _ => by kernel_rfl) ?_
          refine LL.op (.slice A1020 x1017_1.length c1021) (by kernel_rfl) (fun w _ => by kernel_rfl) ?_
          refine LL.op (.int .i64 x1017_2) (by kernel_rfl) (fun w _ => by kernel_rfl) ?_
          refine LL.op (.slice A1020 x1017_1.length c1021) (by kernel_rfl) (fun w _ => by kernel_rfl) ?_
          refine LL.op (.int .i64 x1017_2) (by kernel_rfl) (fun w _ => by kernel_rfl) ?_
          refine LL.done (s' := [(1, .slice Aa1 a1.length ca1), (2, .pointer (some ⟨g1000, 0, none⟩)), (4, .bool false), (5, .slice A1012 x1009_1.length c1013), (6, .int .i64 x1009_2), (7, .slice A1020 x1017_1.length c1021), (8, .int .i64 x1017_2)]) [1, 2, 4, 5, 6, 7, 8] (by kernel_rfl) ?_
          refine NN.then ?_
          refine J.seq ?_
          refine J.seq ?_
          refine J.plain ?_
          refine LL.op (.int .i64 x1009_2) (by kernel_rfl) (fun w _ => by kernel_rfl) ?_
          refine LL.op (.bool (!(x1009_2 == 0))) (by kernel_rfl) (fun w _ => by kernel_rfl) ?_
          refine LL.op (.bool (!(x1009_2 == 0))) (by kernel_rfl) (fun w _ => by kernel_rfl) ?_
          rcases Bool.eq_false_or_eq_true ((x1009_2 == 0)) with c1025 | c1025
          · rw [if_pos (eq_of_beq c1025)] at H
            refine LL.bool 54 (!(x1009_2 == 0)) false (by rw [show (!(x1009_2 == 0)) = !((x1009_2 == 0)) from rfl, c1025]; rfl) (by kernel_rfl) ?_
            refine LL.op (.int .i64 x1017_2) (by kernel_rfl) (fun w _ => by kernel_rfl) ?_
            refine LL.op (.bool (!(x1017_2 == 0))) (by kernel_rfl) (fun w _ => by kernel_rfl) ?_
            refine LL.op (.bool (!(x1017_2 == 0))) (by kernel_rfl) (fun w _ => by kernel_rfl) ?_
            refine LL.done (s' := [(1, .slice Aa1 a1.length ca1), (2, .pointer (some ⟨g1000, 0, none⟩)), (4, .bool false), (5, .slice A1012 x1009_1.length c1013), (6, .int .i64 x1009_2), (7, .slice A1020 x1017_1.length c1021), (8, .int .i64 x1017_2), (57, .bool (!(x1017_2 == 0)))]) [1, 2, 4, 5, 6, 7, 8, 57] (by kernel_rfl) ?_
            refine NN.then ?_
            rcases Bool.eq_false_or_eq_true ((x1017_2 == 0)) with c1026 | c1026
            · rw [if_pos (eq_of_beq c1026)] at H
              refine J.condF (b := !(x1017_2 == 0)) (by rw [show (!(x1017_2 == 0)) = !((x1017_2 == 0)) from rfl, c1026]; rfl) (by kernel_rfl) (by kernel_rfl) ?_
              refine J.skip ?_
              refine NN.then ?_
              refine J.seq ?_
              refine J.seq ?_
              refine J.plain ?_
              refine LL.op (.pointer (some ⟨g1000, 0, none⟩)) (by kernel_rfl) (fun w _ => by kernel_rfl) ?_
              refine LL.op (.slice Aa0_0 a0_0.length ca0_0) (by kernel_rfl) (ld 0 g1000 0 rfl (by kernel_rfl) rfl (by kernel_rfl)) ?_
              refine LL.op (.pointer (some ⟨g1000, 2, none⟩)) (by kernel_rfl) (fun w _ => by kernel_rfl) ?_
              refine LL.op (.slice Aa0_2 a0_2.length ca0_2) (by kernel_rfl) (ld 0 g1000 2 rfl (by kernel_rfl) rfl (by kernel_rfl)) ?_
              refine LL.op (.slice A1020 x1017_1.length c1021) (by kernel_rfl) (fun w _ => by kernel_rfl) ?_
              obtain ⟨x1027, hx1027, H⟩ := bind_some H
              refine LL.call 15 #[.slice Aa0_0 a0_0.length ca0_0, .slice Aa0_2 a0_2.length ca0_2, .slice A1020 x1017_1.length c1021] (.bool x1027) (by kernel_rfl) (fun w => by kernel_rfl) (fun w hw => assign_Valid.calls K a0_0 a0_2 x1017_1  _ _ _ _ _ _ _ w  (((ha0_0.le le1014).le le1022).at hw) (((ha0_2.le le1014).le le1022).at hw) (k1023.at hw) hx1027) ?_
              refine LL.op (.bool (!x1027)) (by kernel_rfl) (fun w _ => by kernel_rfl) ?_
              refine LL.op (.bool (!x1027)) (by kernel_rfl) (fun w _ => by kernel_rfl) ?_
              rcases Bool.eq_false_or_eq_true (x1027) with c1028 | c1028
              · rw [if_pos (c1028)] at H
                refine LL.bool 74 (!x1027) false (by rw [show (!x1027) = !(x1027) from rfl, c1028]; rfl) (by kernel_rfl) ?_
                refine LL.op (.slice A1012 x1009_1.length c1013) (by kernel_rfl) (fun w _ => by kernel_rfl) ?_
                refine LL.op (.int .i64 (x1009_1.length : Int)) (by kernel_rfl) (fun w _ => by kernel_rfl) ?_
                refine LL.op (.pointer (some ⟨g1000, 0, none⟩)) (by kernel_rfl) (fun w _ => by kernel_rfl) ?_
                refine LL.op (.slice Aa0_0 a0_0.length ca0_0) (by kernel_rfl) (ld 0 g1000 0 rfl (by kernel_rfl) rfl (by kernel_rfl)) ?_
                refine LL.op (.int .i64 (a0_0.length : Int)) (by kernel_rfl) (fun w _ => by kernel_rfl) ?_
                refine LL.op (.bool (!((x1009_1.length : Int) == (a0_0.length : Int)))) (by kernel_rfl) (fun w _ => by kernel_rfl) ?_
                refine LL.op (.bool (!((x1009_1.length : Int) == (a0_0.length : Int)))) (by kernel_rfl) (fun w _ => by kernel_rfl) ?_
                refine LL.done (s' := [(1, .slice Aa1 a1.length ca1), (2, .pointer (some ⟨g1000, 0, none⟩)), (4, .bool false), (5, .slice A1012 x1009_1.length c1013), (7, .slice A1020 x1017_1.length c1021), (81, .bool (!((x1009_1.length : Int) == (a0_0.length : Int))))]) [1, 2, 4, 5, 7, 81] (by kernel_rfl) ?_
                refine NN.then ?_
                rcases Bool.eq_false_or_eq_true (((x1009_1.length : Int) == (a0_0.length : Int))) with c1029 | c1029
                · rw [if_pos (eq_of_beq c1029)] at H
                  refine J.condF (b := !((x1009_1.length : Int) == (a0_0.length : Int))) (by rw [show (!((x1009_1.length : Int) == (a0_0.length : Int))) = !(((x1009_1.length : Int) == (a0_0.length : Int))) from rfl, c1029]; rfl) (by kernel_rfl) (by kernel_rfl) ?_
                  refine J.skip ?_
                  refine NN.then ?_
                  refine J.seq ?_
                  refine J.plain ?_
                  refine LL.op (.pointer (some ⟨g1000, 0, none⟩)) (by kernel_rfl) (fun w _ => by kernel_rfl) ?_
                  refine LL.op (.slice Aa0_0 a0_0.length ca0_0) (by kernel_rfl) (ld 0 g1000 0 rfl (by kernel_rfl) rfl (by kernel_rfl)) ?_
                  refine LL.op (.int .i64 (a0_0.length : Int)) (by kernel_rfl) (fun w _ => by kernel_rfl) ?_
                  refine LL.op (.slice A1020 x1017_1.length c1021) (by kernel_rfl) (fun w _ => by kernel_rfl) ?_
                  obtain ⟨x1030, hx1030, H⟩ := bind_some H
                  refine LL.callR (enc := enc3) (m := 1) (l := x1030) 22 #[.int .i64 (a0_0.length : Int), .slice A1020 x1017_1.length c1021] (fun A_ c_ => .slice A_ x1030.length c_) (by kernel_rfl) (fun w => by kernel_rfl) (fun w hw => sawmillref48_CountsOf.calls K (a0_0.length : Int) x1017_1  _ _ _ w  (k1023.at hw) hx1030) (fun R1031 F1032 A1033 c1034 le1035 k1036 fr1037 => ?_)
                  refine LL.op (.slice A1033 x1030.length c1034) (by kernel_rfl) (fun w _ => by kernel_rfl) ?_
                  refine LL.op (.bool true) (by kernel_rfl) (fun w _ => by kernel_rfl) ?_
                  refine LL.done (s' := [(1, .slice Aa1 a1.length ca1), (2, .pointer (some ⟨g1000, 0, none⟩)), (4, .bool false), (5, .slice A1012 x1009_1.length c1013), (9, .slice A1033 x1030.length c1034), (10, .bool true)]) [1, 2, 4, 5, 9, 10] (by kernel_rfl) ?_
                  refine NN.then ?_
                  refine J.seq ?_
                  refine J.seq ?_
                  refine J.plain ?_
                  refine LL.op (.int .i64 0) (by kernel_rfl) (fun w _ => by kernel_rfl) ?_
                  refine LL.done (s' := [(1, .slice Aa1 a1.length ca1), (2, .pointer (some ⟨g1000, 0, none⟩)), (4, .bool false), (5, .slice A1012 x1009_1.length c1013), (9, .slice A1033 x1030.length c1034), (10, .bool true), (11, .int .i64 0)]) [1, 2, 4, 5, 9, 10, 11] (by kernel_rfl) ?_
                  refine NN.then ?_
                  refine J.block ?_
                  refine J.to [1, 2, 4, 5, 9, 10, 11] (s' := [(1, .slice Aa1 a1.length ca1), (2, .pointer (some ⟨g1000, 0, none⟩)), (4, .bool false), (5, .slice A1012 x1009_1.length c1013), (9, .slice A1033 x1030.length c1034), (10, .bool true), (11, .int .i64 0)]) (by kernel_rfl) ?_
                  refine J.loop (fun n_ s_ bs_ => ∃ (x11l0 : Int) (x10l0 : Bool), sawmilllaw48_AssignPriority.l0 K a0_0 a0_1 a0_2 a1 x1009_1 x1030 n_ x11l0 x10l0 = some r1 ∧ s_ = [(1, .slice Aa1 a1.length ca1), (2, .pointer (some ⟨g1000, 0, none⟩)), (4, .bool false), (5, .slice A1012 x1009_1.length c1013), (9, .slice A1033 x1030.length c1034), (10, .bool x10l0), (11, .int .i64 x11l0)] ∧ [(g1000, cl [.slice Aa0_0 a0_0.length ca0_0, .slice Aa0_1 a0_1.length ca0_1, .slice Aa0_2 a0_2.length ca0_2] 51)] = bs_) K ⟨0, true, H, rfl, rfl⟩ ?_
                  rintro (_ | n_) s_ bs_ ⟨x11l0, x10l0, H, rfl, rfl⟩
                  · exact absurd H (by simp [sawmilllaw48_AssignPriority.l0])
                  simp only [sawmilllaw48_AssignPriority.l0] at H
                  refine J.seq ?_
                  refine J.seq ?_
                  refine J.plain ?_
                  refine LL.op (.int .i64 x11l0) (by kernel_rfl) (fun w _ => by kernel_rfl) ?_
                  refine LL.op (.slice A1033 x1030.length c1034) (by kernel_rfl) (fun w _ => by kernel_rfl) ?_
                  refine LL.op (.int .i64 (x1030.length : Int)) (by kernel_rfl) (fun w _ => by kernel_rfl) ?_
                  refine LL.op (.bool (decide (x11l0 < (x1030.length : Int)))) (by kernel_rfl) (fun w _ => by kernel_rfl) ?_
                  refine LL.done (s' := [(1, .slice Aa1 a1.length ca1), (2, .pointer (some ⟨g1000, 0, none⟩)), (4, .bool false), (5, .slice A1012 x1009_1.length c1013), (9, .slice A1033 x1030.length c1034), (10, .bool x10l0), (11, .int .i64 x11l0), (90, .bool (decide (x11l0 < (x1030.length : Int))))]) [1, 2, 4, 5, 9, 10, 11, 90] (by kernel_rfl) ?_
                  refine NN.then ?_
                  rcases Bool.eq_false_or_eq_true (decide (x11l0 < (x1030.length : Int))) with c1040 | c1040
                  · rw [if_pos (of_decide_eq_true c1040)] at H
                    refine J.condT (b := decide (x11l0 < (x1030.length : Int))) c1040 (by kernel_rfl) (by kernel_rfl) ?_
                    refine J.skip ?_
                    refine NN.then ?_
                    refine J.seq ?_
                    refine J.block ?_
                    refine J.seq ?_
                    refine J.seq ?_
                    refine J.drawn follows (by kernel_rfl) ?_
                    refine QQ.op (.slice A1033 x1030.length c1034) (by kernel_rfl) (fun w _ => by kernel_rfl) ?_
                    refine QQ.op (.int .i64 x11l0) (by kernel_rfl) (fun w _ => by kernel_rfl) ?_
                    obtain ⟨e1041, he1041, H⟩ := bind_some H
                    refine QQ.op (.pointer (rp A1033 (x11l0.toNat * 1 + 0))) (by kernel_rfl) (idxR (cp := c1034) (ik := .i64) k1036 he1041 rfl (by kernel_rfl) (by kernel_rfl) (by kernel_rfl)) ?_
                    refine QQ.op (.int .i64 e1041) (by kernel_rfl) (ldR (off := 0) k1036 he1041 rfl (by kernel_rfl) (by kernel_rfl)) ?_
                    refine QQ.op (.bool (!(e1041 == 0))) (by kernel_rfl) (fun w _ => by kernel_rfl) ?_
                    refine QQ.op (.bool (!(e1041 == 0))) (by kernel_rfl) (fun w _ => by kernel_rfl) ?_
                    rcases Bool.eq_false_or_eq_true ((e1041 == 0)) with c1042 | c1042
                    · rw [if_pos (eq_of_beq c1042)] at H
                      refine QQ.bool 98 (!(e1041 == 0)) false (by rw [show (!(e1041 == 0)) = !((e1041 == 0)) from rfl, c1042]; rfl) (by kernel_rfl) ?_
                      refine QQ.off (by kernel_rfl) (by kernel_rfl) ?_
                      refine QQ.off (by kernel_rfl) (by kernel_rfl) ?_
                      refine QQ.off (by kernel_rfl) (by kernel_rfl) ?_
                      refine QQ.off (by kernel_rfl) (by kernel_rfl) ?_
                      refine QQ.off (by kernel_rfl) (by kernel_rfl) ?_
                      refine QQ.off (by kernel_rfl) (by kernel_rfl) ?_
                      refine QQ.off (by kernel_rfl) (by kernel_rfl) ?_
                      refine QQ.off (by kernel_rfl) (by kernel_rfl) ?_
                      refine QQ.off (by kernel_rfl) (by kernel_rfl) ?_
                      refine QQ.off (by kernel_rfl) (by kernel_rfl) ?_
                      refine QQ.off (by kernel_rfl) (by kernel_rfl) ?_
                      refine QQ.off (by kernel_rfl) (by kernel_rfl) ?_
                      refine QQ.off (by kernel_rfl) (by kernel_rfl) ?_
                      refine QQ.off (by kernel_rfl) (by kernel_rfl) ?_
                      refine QQ.off (by kernel_rfl) (by kernel_rfl) ?_
                      refine QQ.off (by kernel_rfl) (by kernel_rfl) ?_
                      refine QQ.off (by kernel_rfl) (by kernel_rfl) ?_
                      refine QQ.off (by kernel_rfl) (by kernel_rfl) ?_
                      refine QQ.off (by kernel_rfl) (by kernel_rfl) ?_
                      refine QQ.off (by kernel_rfl) (by kernel_rfl) ?_
                      refine QQ.off (by kernel_rfl) (by kernel_rfl) ?_
                      refine QQ.off (by kernel_rfl) (by kernel_rfl) ?_
                      refine QQ.op (.bool false) (by kernel_rfl) (fun w _ => by kernel_rfl) ?_
                      refine QQ.done (s' := [(1, .slice Aa1 a1.length ca1), (2, .pointer (some ⟨g1000, 0, none⟩)), (4, .bool false), (5, .slice A1012 x1009_1.length c1013), (9, .slice A1033 x1030.length c1034), (10, .bool x10l0), (11, .int .i64 x11l0), (121, .bool false)]) [1, 2, 4, 5, 9, 10, 11, 121] (by kernel_rfl) ?_
                      refine NN.then ?_
                      refine J.condF (b := false) rfl (by kernel_rfl) (by kernel_rfl) ?_
                      refine J.skip ?_
                      refine NN.then ?_
                      refine J.drawn follows (by kernel_rfl) ?_
                      refine QQ.op (.bool x10l0) (by kernel_rfl) (fun w _ => by kernel_rfl) ?_
                      refine QQ.op (.bool x10l0) (by kernel_rfl) (fun w _ => by kernel_rfl) ?_
                      rcases Bool.eq_false_or_eq_true (x10l0) with c1043 | c1043
                      · rw [if_pos (c1043)] at H
                        refine QQ.bool 123 (x10l0) true c1043 (by kernel_rfl) ?_
                        refine QQ.op (.slice A1012 x1009_1.length c1013) (by kernel_rfl) (fun w _ => by kernel_rfl) ?_
                        refine QQ.op (.int .i64 x11l0) (by kernel_rfl) (fun w _ => by kernel_rfl) ?_
                        obtain ⟨e1044, he1044, H⟩ := bind_some H
                        refine QQ.op (.pointer (rp A1012 (x11l0.toNat * 1 + 0))) (by kernel_rfl) (idxR (cp := c1013) (ik := .i64) ((k1015.le le1022).le le1035) he1044 rfl (by kernel_rfl) (by kernel_rfl) (by kernel_rfl)) ?_
                        refine QQ.op (.int .i64 e1044) (by kernel_rfl) (ldR (off := 0) ((k1015.le le1022).le le1035) he1044 rfl (by kernel_rfl) (by kernel_rfl)) ?_
                        refine QQ.op (.bool (e1044 == 0)) (by kernel_rfl) (fun w _ => by kernel_rfl) ?_
                        refine QQ.op (.bool (e1044 == 0)) (by kernel_rfl) (fun w _ => by kernel_rfl) ?_
                        rcases Bool.eq_false_or_eq_true ((e1044 == 0)) with c1045 | c1045
                        · rw [if_pos (eq_of_beq c1045)] at H
                          refine QQ.bool 129 ((e1044 == 0)) true c1045 (by kernel_rfl) ?_
                          refine QQ.off (by kernel_rfl) (by kernel_rfl) ?_
                          refine QQ.off (by kernel_rfl) (by kernel_rfl) ?_
                          refine QQ.off (by kernel_rfl) (by kernel_rfl) ?_
                          refine QQ.off (by kernel_rfl) (by kernel_rfl) ?_
                          refine QQ.off (by kernel_rfl) (by kernel_rfl) ?_
                          refine QQ.off (by kernel_rfl) (by kernel_rfl) ?_
                          refine QQ.off (by kernel_rfl) (by kernel_rfl) ?_
                          refine QQ.off (by kernel_rfl) (by kernel_rfl) ?_
                          refine QQ.off (by kernel_rfl) (by kernel_rfl) ?_
                          refine QQ.off (by kernel_rfl) (by kernel_rfl) ?_
                          refine QQ.op (.bool true) (by kernel_rfl) (fun w _ => by kernel_rfl) ?_
                          refine QQ.op (.bool true) (by kernel_rfl) (fun w _ => by kernel_rfl) ?_
                          refine QQ.op (.bool true) (by kernel_rfl) (fun w _ => by kernel_rfl) ?_
                          refine QQ.done (s' := [(1, .slice Aa1 a1.length ca1), (2, .pointer (some ⟨g1000, 0, none⟩)), (4, .bool false), (5, .slice A1012 x1009_1.length c1013), (9, .slice A1033 x1030.length c1034), (10, .bool true), (11, .int .i64 x11l0)]) [1, 2, 4, 5, 9, 10, 11] (by kernel_rfl) ?_
                          refine NN.block_n ?_
                          refine NN.then ?_
                          refine J.plain ?_
                          refine LL.op (.int .i64 x11l0) (by kernel_rfl) (fun w _ => by kernel_rfl) ?_
                          refine LL.op (.int .i64 (IntKind.i64.wrap (x11l0 + 1))) (by kernel_rfl) (fun w _ => by kernel_rfl) ?_
                          refine LL.op (.int .i64 (IntKind.i64.wrap (x11l0 + 1))) (by kernel_rfl) (fun w _ => by kernel_rfl) ?_
                          refine LL.done (s' := [(1, .slice Aa1 a1.length ca1), (2, .pointer (some ⟨g1000, 0, none⟩)), (4, .bool false), (5, .slice A1012 x1009_1.length c1013), (9, .slice A1033 x1030.length c1034), (10, .bool true), (11, .int .i64 (IntKind.i64.wrap (x11l0 + 1)))]) [1, 2, 4, 5, 9, 10, 11] (by kernel_rfl) ?_
                          exact NN.round' [1, 2, 4, 5, 9, 10, 11] (bs' := [(g1000, cl [.slice Aa0_0 a0_0.length ca0_0, .slice Aa0_1 a0_1.length ca0_1, .slice Aa0_2 a0_2.length ca0_2] 51)]) (Nat.lt_succ_self _) (List.Sublist.refl _) (by kernel_rfl) ⟨IntKind.i64.wrap (x11l0 + 1), true, H, rfl, rfl⟩
                        · rw [if_neg (nebf c1045)] at H
                          refine QQ.bool 129 ((e1044 == 0)) false c1045 (by kernel_rfl) ?_
                          refine QQ.op (.slice A1012 x1009_1.length c1013) (by kernel_rfl) (fun w _ => by kernel_rfl) ?_
                          refine QQ.op (.int .i64 x11l0) (by kernel_rfl) (fun w _ => by kernel_rfl) ?_
                          refine QQ.op (.pointer (rp A1012 (x11l0.toNat * 1 + 0))) (by kernel_rfl) (idxR (cp := c1013) (ik := .i64) ((k1015.le le1022).le le1035) he1044 rfl (by kernel_rfl) (by kernel_rfl) (by kernel_rfl)) ?_
                          refine QQ.op (.int .i64 e1044) (by kernel_rfl) (ldR (off := 0) ((k1015.le le1022).le le1035) he1044 rfl (by kernel_rfl) (by kernel_rfl)) ?_
                          refine QQ.op (.pointer (some ⟨g1000, 1, none⟩)) (by kernel_rfl) (fun w _ => by kernel_rfl) ?_
                          refine QQ.op (.slice Aa0_1 a0_1.length ca0_1) (by kernel_rfl) (ld 0 g1000 1 rfl (by kernel_rfl) rfl (by kernel_rfl)) ?_
                          refine QQ.op (.int .i64 x11l0) (by kernel_rfl) (fun w _ => by kernel_rfl) ?_
                          obtain ⟨e1046, he1046, H⟩ := bind_some H
                          refine QQ.op (.pointer (rp Aa0_1 (x11l0.toNat * 1 + 0))) (by kernel_rfl) (idxR (cp := ca0_1) (ik := .i64) (((ha0_1.le le1014).le le1022).le le1035) he1046 rfl (by kernel_rfl) (by kernel_rfl) (by kernel_rfl)) ?_
                          refine QQ.op (.int .i64 e1046) (by kernel_rfl) (ldR (off := 0) (((ha0_1.le le1014).le le1022).le le1035) he1046 rfl (by kernel_rfl) (by kernel_rfl)) ?_
                          refine QQ.op (.bool (decide (e1046 ≤ e1044))) (by kernel_rfl) (fun w _ => by kernel_rfl) ?_
                          refine QQ.op (.bool (decide (e1046 ≤ e1044))) (by kernel_rfl) (fun w _ => by kernel_rfl) ?_
                          refine QQ.op (.bool (decide (e1046 ≤ e1044))) (by kernel_rfl) (fun w _ => by kernel_rfl) ?_
                          refine QQ.op (.bool (decide (e1046 ≤ e1044))) (by kernel_rfl) (fun w _ => by kernel_rfl) ?_
                          refine QQ.done (s' := [(1, .slice Aa1 a1.length ca1), (2, .pointer (some ⟨g1000, 0, none⟩)), (4, .bool false), (5, .slice A1012 x1009_1.length c1013), (9, .slice A1033 x1030.length c1034), (10, .bool (decide (e1046 ≤ e1044))), (11, .int .i64 x11l0)]) [1, 2, 4, 5, 9, 10, 11] (by kernel_rfl) ?_
                          refine NN.block_n ?_
                          refine NN.then ?_
                          refine J.plain ?_
                          refine LL.op (.int .i64 x11l0) (by kernel_rfl) (fun w _ => by kernel_rfl) ?_
                          refine LL.op (.int .i64 (IntKind.i64.wrap (x11l0 + 1))) (by kernel_rfl) (fun w _ => by kernel_rfl) ?_
                          refine LL.op (.int .i64 (IntKind.i64.wrap (x11l0 + 1))) (by kernel_rfl) (fun w _ => by kernel_rfl) ?_
                          refine LL.done (s' := [(1, .slice Aa1 a1.length ca1), (2, .pointer (some ⟨g1000, 0, none⟩)), (4, .bool false), (5, .slice A1012 x1009_1.length c1013), (9, .slice A1033 x1030.length c1034), (10, .bool (decide (e1046 ≤ e1044))), (11, .int .i64 (IntKind.i64.wrap (x11l0 + 1)))]) [1, 2, 4, 5, 9, 10, 11] (by kernel_rfl) ?_
                          exact NN.round' [1, 2, 4, 5, 9, 10, 11] (bs' := [(g1000, cl [.slice Aa0_0 a0_0.length ca0_0, .slice Aa0_1 a0_1.length ca0_1, .slice Aa0_2 a0_2.length ca0_2] 51)]) (Nat.lt_succ_self _) (List.Sublist.refl _) (by kernel_rfl) ⟨IntKind.i64.wrap (x11l0 + 1), decide (e1046 ≤ e1044), H, rfl, rfl⟩
                      · rw [if_neg (nebt c1043)] at H
                        refine QQ.bool 123 (x10l0) false c1043 (by kernel_rfl) ?_
                        refine QQ.off (by kernel_rfl) (by kernel_rfl) ?_
                        refine QQ.off (by kernel_rfl) (by kernel_rfl) ?_
                        refine QQ.off (by kernel_rfl) (by kernel_rfl) ?_
                        refine QQ.off (by kernel_rfl) (by kernel_rfl) ?_
                        refine QQ.off (by kernel_rfl) (by kernel_rfl) ?_
                        refine QQ.off (by kernel_rfl) (by kernel_rfl) ?_
                        refine QQ.off (by kernel_rfl) (by kernel_rfl) ?_
                        refine QQ.off (by kernel_rfl) (by kernel_rfl) ?_
                        refine QQ.off (by kernel_rfl) (by kernel_rfl) ?_
                        refine QQ.off (by kernel_rfl) (by kernel_rfl) ?_
                        refine QQ.off (by kernel_rfl) (by kernel_rfl) ?_
                        refine QQ.off (by kernel_rfl) (by kernel_rfl) ?_
                        refine QQ.off (by kernel_rfl) (by kernel_rfl) ?_
                        refine QQ.off (by kernel_rfl) (by kernel_rfl) ?_
                        refine QQ.off (by kernel_rfl) (by kernel_rfl) ?_
                        refine QQ.off (by kernel_rfl) (by kernel_rfl) ?_
                        refine QQ.off (by kernel_rfl) (by kernel_rfl) ?_
                        refine QQ.op (.bool false) (by kernel_rfl) (fun w _ => by kernel_rfl) ?_
                        refine QQ.op (.bool false) (by kernel_rfl) (fun w _ => by kernel_rfl) ?_
                        refine QQ.done (s' := [(1, .slice Aa1 a1.length ca1), (2, .pointer (some ⟨g1000, 0, none⟩)), (4, .bool false), (5, .slice A1012 x1009_1.length c1013), (9, .slice A1033 x1030.length c1034), (10, .bool false), (11, .int .i64 x11l0)]) [1, 2, 4, 5, 9, 10, 11] (by kernel_rfl) ?_
                        refine NN.block_n ?_
                        refine NN.then ?_
                        refine J.plain ?_
                        refine LL.op (.int .i64 x11l0) (by kernel_rfl) (fun w _ => by kernel_rfl) ?_
                        refine LL.op (.int .i64 (IntKind.i64.wrap (x11l0 + 1))) (by kernel_rfl) (fun w _ => by kernel_rfl) ?_
                        refine LL.op (.int .i64 (IntKind.i64.wrap (x11l0 + 1))) (by kernel_rfl) (fun w _ => by kernel_rfl) ?_
                        refine LL.done (s' := [(1, .slice Aa1 a1.length ca1), (2, .pointer (some ⟨g1000, 0, none⟩)), (4, .bool false), (5, .slice A1012 x1009_1.length c1013), (9, .slice A1033 x1030.length c1034), (10, .bool false), (11, .int .i64 (IntKind.i64.wrap (x11l0 + 1)))]) [1, 2, 4, 5, 9, 10, 11] (by kernel_rfl) ?_
                        exact NN.round' [1, 2, 4, 5, 9, 10, 11] (bs' := [(g1000, cl [.slice Aa0_0 a0_0.length ca0_0, .slice Aa0_1 a0_1.length ca0_1, .slice Aa0_2 a0_2.length ca0_2] 51)]) (Nat.lt_succ_self _) (List.Sublist.refl _) (by kernel_rfl) ⟨IntKind.i64.wrap (x11l0 + 1), false, H, rfl, rfl⟩
                    · rw [if_neg (nebf c1042)] at H
                      refine QQ.bool 98 (!(e1041 == 0)) true (by rw [show (!(e1041 == 0)) = !((e1041 == 0)) from rfl, c1042]; rfl) (by kernel_rfl) ?_
                      refine QQ.op (.slice A1033 x1030.length c1034) (by kernel_rfl) (fun w _ => by kernel_rfl) ?_
                      refine QQ.op (.int .i64 x11l0) (by kernel_rfl) (fun w _ => by kernel_rfl) ?_
                      refine QQ.op (.pointer (rp A1033 (x11l0.toNat * 1 + 0))) (by kernel_rfl) (idxR (cp := c1034) (ik := .i64) k1036 he1041 rfl (by kernel_rfl) (by kernel_rfl) (by kernel_rfl)) ?_
                      refine QQ.op (.int .i64 e1041) (by kernel_rfl) (ldR (off := 0) k1036 he1041 rfl (by kernel_rfl) (by kernel_rfl)) ?_
                      refine QQ.op (.pointer (some ⟨g1000, 1, none⟩)) (by kernel_rfl) (fun w _ => by kernel_rfl) ?_
                      refine QQ.op (.slice Aa0_1 a0_1.length ca0_1) (by kernel_rfl) (ld 0 g1000 1 rfl (by kernel_rfl) rfl (by kernel_rfl)) ?_
                      refine QQ.op (.int .i64 x11l0) (by kernel_rfl) (fun w _ => by kernel_rfl) ?_
                      obtain ⟨e1047, he1047, H⟩ := bind_some H
                      refine QQ.op (.pointer (rp Aa0_1 (x11l0.toNat * 1 + 0))) (by kernel_rfl) (idxR (cp := ca0_1) (ik := .i64) (((ha0_1.le le1014).le le1022).le le1035) he1047 rfl (by kernel_rfl) (by kernel_rfl) (by kernel_rfl)) ?_
                      refine QQ.op (.int .i64 e1047) (by kernel_rfl) (ldR (off := 0) (((ha0_1.le le1014).le le1022).le le1035) he1047 rfl (by kernel_rfl) (by kernel_rfl)) ?_
                      refine QQ.op (.bool (decide (e1041 < e1047))) (by kernel_rfl) (fun w _ => by kernel_rfl) ?_
                      refine QQ.op (.bool (decide (e1041 < e1047))) (by kernel_rfl) (fun w _ => by kernel_rfl) ?_
                      rcases Bool.eq_false_or_eq_true (decide (e1041 < e1047)) with c1048 | c1048
                      · rw [if_pos (of_decide_eq_true c1048)] at H
                        refine QQ.bool 109 (decide (e1041 < e1047)) true c1048 (by kernel_rfl) ?_
                        refine QQ.off (by kernel_rfl) (by kernel_rfl) ?_
                        refine QQ.off (by kernel_rfl) (by kernel_rfl) ?_
                        refine QQ.off (by kernel_rfl) (by kernel_rfl) ?_
                        refine QQ.off (by kernel_rfl) (by kernel_rfl) ?_
                        refine QQ.off (by kernel_rfl) (by kernel_rfl) ?_
                        refine QQ.off (by kernel_rfl) (by kernel_rfl) ?_
                        refine QQ.off (by kernel_rfl) (by kernel_rfl) ?_
                        refine QQ.off (by kernel_rfl) (by kernel_rfl) ?_
                        refine QQ.off (by kernel_rfl) (by kernel_rfl) ?_
                        refine QQ.off (by kernel_rfl) (by kernel_rfl) ?_
                        refine QQ.op (.bool true) (by kernel_rfl) (fun w _ => by kernel_rfl) ?_
                        refine QQ.op (.bool true) (by kernel_rfl) (fun w _ => by kernel_rfl) ?_
                        refine QQ.done (s' := [(1, .slice Aa1 a1.length ca1), (2, .pointer (some ⟨g1000, 0, none⟩)), (4, .bool false), (5, .slice A1012 x1009_1.length c1013), (9, .slice A1033 x1030.length c1034), (10, .bool x10l0), (11, .int .i64 x11l0), (121, .bool true)]) [1, 2, 4, 5, 9, 10, 11, 121] (by kernel_rfl) ?_
                        refine NN.then ?_
                        refine J.condT (b := true) rfl (by kernel_rfl) (by kernel_rfl) ?_
                        refine J.seq ?_
                        refine J.plain ?_
                        refine LL.op (.bool false) (by kernel_rfl) (fun w _ => by kernel_rfl) ?_
                        refine LL.done (s' := [(1, .slice Aa1 a1.length ca1), (2, .pointer (some ⟨g1000, 0, none⟩)), (4, .bool false), (5, .slice A1012 x1009_1.length c1013), (9, .slice A1033 x1030.length c1034), (10, .bool x10l0), (11, .int .i64 x11l0)]) [1, 2, 4, 5, 9, 10, 11] (by kernel_rfl) ?_
                        refine NN.then ?_
                        refine J.ret ?_
                        refine NN.then_ret ?_
                        refine NN.block_ret ?_
                        refine NN.then_ret ?_
                        refine NN.then_ret ?_
                        refine NN.block_ret ?_
                        refine NN.then_ret ?_
                        refine NN.fin1 4 (.bool false) (by kernel_rfl) (by kernel_rfl) (.inl rfl) (fun w hi => hi.ret ?_)
                        first | (cases H; rfl) | (obtain rfl := Option.some.inj H; rfl) | (simp only [Option.some.injEq, Prod.mk.injEq] at H; obtain ⟨rfl⟩ := H; rfl)
                      · rw [if_neg (of_decide_eq_false c1048)] at H
                        refine QQ.bool 109 (decide (e1041 < e1047)) false c1048 (by kernel_rfl) ?_
                        refine QQ.op (.slice A1033 x1030.length c1034) (by kernel_rfl) (fun w _ => by kernel_rfl) ?_
                        refine QQ.op (.int .i64 x11l0) (by kernel_rfl) (fun w _ => by kernel_rfl) ?_
                        refine QQ.op (.pointer (rp A1033 (x11l0.toNat * 1 + 0))) (by kernel_rfl) (idxR (cp := c1034) (ik := .i64) k1036 he1041 rfl (by kernel_rfl) (by kernel_rfl) (by kernel_rfl)) ?_
                        refine QQ.op (.int .i64 e1041) (by kernel_rfl) (ldR (off := 0) k1036 he1041 rfl (by kernel_rfl) (by kernel_rfl)) ?_
                        refine QQ.op (.pointer (some ⟨g1000, 2, none⟩)) (by kernel_rfl) (fun w _ => by kernel_rfl) ?_
                        refine QQ.op (.slice Aa0_2 a0_2.length ca0_2) (by kernel_rfl) (ld 0 g1000 2 rfl (by kernel_rfl) rfl (by kernel_rfl)) ?_
                        refine QQ.op (.int .i64 x11l0) (by kernel_rfl) (fun w _ => by kernel_rfl) ?_
                        obtain ⟨e1049, he1049, H⟩ := bind_some H
                        refine QQ.op (.pointer (rp Aa0_2 (x11l0.toNat * 1 + 0))) (by kernel_rfl) (idxR (cp := ca0_2) (ik := .i64) (((ha0_2.le le1014).le le1022).le le1035) he1049 rfl (by kernel_rfl) (by kernel_rfl) (by kernel_rfl)) ?_
                        refine QQ.op (.int .i64 e1049) (by kernel_rfl) (ldR (off := 0) (((ha0_2.le le1014).le le1022).le le1035) he1049 rfl (by kernel_rfl) (by kernel_rfl)) ?_
                        refine QQ.op (.bool (decide (e1049 < e1041))) (by kernel_rfl) (fun w _ => by kernel_rfl) ?_
                        refine QQ.op (.bool (decide (e1049 < e1041))) (by kernel_rfl) (fun w _ => by kernel_rfl) ?_
                        refine QQ.op (.bool (decide (e1049 < e1041))) (by kernel_rfl) (fun w _ => by kernel_rfl) ?_
                        refine QQ.done (s' := [(1, .slice Aa1 a1.length ca1), (2, .pointer (some ⟨g1000, 0, none⟩)), (4, .bool false), (5, .slice A1012 x1009_1.length c1013), (9, .slice A1033 x1030.length c1034), (10, .bool x10l0), (11, .int .i64 x11l0), (121, .bool (decide (e1049 < e1041)))]) [1, 2, 4, 5, 9, 10, 11, 121] (by kernel_rfl) ?_
                        refine NN.then ?_
                        rcases Bool.eq_false_or_eq_true (decide (e1049 < e1041)) with c1050 | c1050
                        · rw [if_pos (of_decide_eq_true c1050)] at H
                          refine J.condT (b := decide (e1049 < e1041)) c1050 (by kernel_rfl) (by kernel_rfl) ?_
                          refine J.seq ?_
                          refine J.plain ?_
                          refine LL.op (.bool false) (by kernel_rfl) (fun w _ => by kernel_rfl) ?_
                          refine LL.done (s' := [(1, .slice Aa1 a1.length ca1), (2, .pointer (some ⟨g1000, 0, none⟩)), (4, .bool false), (5, .slice A1012 x1009_1.length c1013), (9, .slice A1033 x1030.length c1034), (10, .bool x10l0), (11, .int .i64 x11l0)]) [1, 2, 4, 5, 9, 10, 11] (by kernel_rfl) ?_
                          refine NN.then ?_
                          refine J.ret ?_
                          refine NN.then_ret ?_
                          refine NN.block_ret ?_
                          refine NN.then_ret ?_
                          refine NN.then_ret ?_
                          refine NN.block_ret ?_
                          refine NN.then_ret ?_
                          refine NN.fin1 4 (.bool false) (by kernel_rfl) (by kernel_rfl) (.inl rfl) (fun w hi => hi.ret ?_)
                          first | (cases H; rfl) | (obtain rfl := Option.some.inj H; rfl) | (simp only [Option.some.injEq, Prod.mk.injEq] at H; obtain ⟨rfl⟩ := H; rfl)
                        · rw [if_neg (of_decide_eq_false c1050)] at H
                          refine J.condF (b := decide (e1049 < e1041)) c1050 (by kernel_rfl) (by kernel_rfl) ?_
                          refine J.skip ?_
                          refine NN.then ?_
                          refine J.drawn follows (by kernel_rfl) ?_
                          refine QQ.op (.bool x10l0) (by kernel_rfl) (fun w _ => by kernel_rfl) ?_
                          refine QQ.op (.bool x10l0) (by kernel_rfl) (fun w _ => by kernel_rfl) ?_
                          rcases Bool.eq_false_or_eq_true (x10l0) with c1051 | c1051
                          · rw [if_pos (c1051)] at H
                            refine QQ.bool 123 (x10l0) true c1051 (by kernel_rfl) ?_
                            refine QQ.op (.slice A1012 x1009_1.length c1013) (by kernel_rfl) (fun w _ => by kernel_rfl) ?_
                            refine QQ.op (.int .i64 x11l0) (by kernel_rfl) (fun w _ => by kernel_rfl) ?_
                            obtain ⟨e1052, he1052, H⟩ := bind_some H
                            refine QQ.op (.pointer (rp A1012 (x11l0.toNat * 1 + 0))) (by kernel_rfl) (idxR (cp := c1013) (ik := .i64) ((k1015.le le1022).le le1035) he1052 rfl (by kernel_rfl) (by kernel_rfl) (by kernel_rfl)) ?_
                            refine QQ.op (.int .i64 e1052) (by kernel_rfl) (ldR (off := 0) ((k1015.le le1022).le le1035) he1052 rfl (by kernel_rfl) (by kernel_rfl)) ?_
                            refine QQ.op (.bool (e1052 == 0)) (by kernel_rfl) (fun w _ => by kernel_rfl) ?_
                            refine QQ.op (.bool (e1052 == 0)) (by kernel_rfl) (fun w _ => by kernel_rfl) ?_
                            rcases Bool.eq_false_or_eq_true ((e1052 == 0)) with c1053 | c1053
                            · rw [if_pos (eq_of_beq c1053)] at H
                              refine QQ.bool 129 ((e1052 == 0)) true c1053 (by kernel_rfl) ?_
                              refine QQ.off (by kernel_rfl) (by kernel_rfl) ?_
                              refine QQ.off (by kernel_rfl) (by kernel_rfl) ?_
                              refine QQ.off (by kernel_rfl) (by kernel_rfl) ?_
                              refine QQ.off (by kernel_rfl) (by kernel_rfl) ?_
                              refine QQ.off (by kernel_rfl) (by kernel_rfl) ?_
                              refine QQ.off (by kernel_rfl) (by kernel_rfl) ?_
                              refine QQ.off (by kernel_rfl) (by kernel_rfl) ?_
                              refine QQ.off (by kernel_rfl) (by kernel_rfl) ?_
                              refine QQ.off (by kernel_rfl) (by kernel_rfl) ?_
                              refine QQ.off (by kernel_rfl) (by kernel_rfl) ?_
                              refine QQ.op (.bool true) (by kernel_rfl) (fun w _ => by kernel_rfl) ?_
                              refine QQ.op (.bool true) (by kernel_rfl) (fun w _ => by kernel_rfl) ?_
                              refine QQ.op (.bool true) (by kernel_rfl) (fun w _ => by kernel_rfl) ?_
                              refine QQ.done (s' := [(1, .slice Aa1 a1.length ca1), (2, .pointer (some ⟨g1000, 0, none⟩)), (4, .bool false), (5, .slice A1012 x1009_1.length c1013), (9, .slice A1033 x1030.length c1034), (10, .bool true), (11, .int .i64 x11l0)]) [1, 2, 4, 5, 9, 10, 11] (by kernel_rfl) ?_
                              refine NN.block_n ?_
                              refine NN.then ?_
                              refine J.plain ?_
                              refine LL.op (.int .i64 x11l0) (by kernel_rfl) (fun w _ => by kernel_rfl) ?_
                              refine LL.op (.int .i64 (IntKind.i64.wrap (x11l0 + 1))) (by kernel_rfl) (fun w _ => by kernel_rfl) ?_
                              refine LL.op (.int .i64 (IntKind.i64.wrap (x11l0 + 1))) (by kernel_rfl) (fun w _ => by kernel_rfl) ?_
                              refine LL.done (s' := [(1, .slice Aa1 a1.length ca1), (2, .pointer (some ⟨g1000, 0, none⟩)), (4, .bool false), (5, .slice A1012 x1009_1.length c1013), (9, .slice A1033 x1030.length c1034), (10, .bool true), (11, .int .i64 (IntKind.i64.wrap (x11l0 + 1)))]) [1, 2, 4, 5, 9, 10, 11] (by kernel_rfl) ?_
                              exact NN.round' [1, 2, 4, 5, 9, 10, 11] (bs' := [(g1000, cl [.slice Aa0_0 a0_0.length ca0_0, .slice Aa0_1 a0_1.length ca0_1, .slice Aa0_2 a0_2.length ca0_2] 51)]) (Nat.lt_succ_self _) (List.Sublist.refl _) (by kernel_rfl) ⟨IntKind.i64.wrap (x11l0 + 1), true, H, rfl, rfl⟩
                            · rw [if_neg (nebf c1053)] at H
                              refine QQ.bool 129 ((e1052 == 0)) false c1053 (by kernel_rfl) ?_
                              refine QQ.op (.slice A1012 x1009_1.length c1013) (by kernel_rfl) (fun w _ => by kernel_rfl) ?_
                              refine QQ.op (.int .i64 x11l0) (by kernel_rfl) (fun w _ => by kernel_rfl) ?_
                              refine QQ.op (.pointer (rp A1012 (x11l0.toNat * 1 + 0))) (by kernel_rfl) (idxR (cp := c1013) (ik := .i64) ((k1015.le le1022).le le1035) he1052 rfl (by kernel_rfl) (by kernel_rfl) (by kernel_rfl)) ?_
                              refine QQ.op (.int .i64 e1052) (by kernel_rfl) (ldR (off := 0) ((k1015.le le1022).le le1035) he1052 rfl (by kernel_rfl) (by kernel_rfl)) ?_
                              refine QQ.op (.pointer (some ⟨g1000, 1, none⟩)) (by kernel_rfl) (fun w _ => by kernel_rfl) ?_
                              refine QQ.op (.slice Aa0_1 a0_1.length ca0_1) (by kernel_rfl) (ld 0 g1000 1 rfl (by kernel_rfl) rfl (by kernel_rfl)) ?_
                              refine QQ.op (.int .i64 x11l0) (by kernel_rfl) (fun w _ => by kernel_rfl) ?_
                              refine QQ.op (.pointer (rp Aa0_1 (x11l0.toNat * 1 + 0))) (by kernel_rfl) (idxR (cp := ca0_1) (ik := .i64) (((ha0_1.le le1014).le le1022).le le1035) he1047 rfl (by kernel_rfl) (by kernel_rfl) (by kernel_rfl)) ?_
                              refine QQ.op (.int .i64 e1047) (by kernel_rfl) (ldR (off := 0) (((ha0_1.le le1014).le le1022).le le1035) he1047 rfl (by kernel_rfl) (by kernel_rfl)) ?_
                              refine QQ.op (.bool (decide (e1047 ≤ e1052))) (by kernel_rfl) (fun w _ => by kernel_rfl) ?_
                              refine QQ.op (.bool (decide (e1047 ≤ e1052))) (by kernel_rfl) (fun w _ => by kernel_rfl) ?_
                              refine QQ.op (.bool (decide (e1047 ≤ e1052))) (by kernel_rfl) (fun w _ => by kernel_rfl) ?_
                              refine QQ.op (.bool (decide (e1047 ≤ e1052))) (by kernel_rfl) (fun w _ => by kernel_rfl) ?_
                              refine QQ.done (s' := [(1, .slice Aa1 a1.length ca1), (2, .pointer (some ⟨g1000, 0, none⟩)), (4, .bool false), (5, .slice A1012 x1009_1.length c1013), (9, .slice A1033 x1030.length c1034), (10, .bool (decide (e1047 ≤ e1052))), (11, .int .i64 x11l0)]) [1, 2, 4, 5, 9, 10, 11] (by kernel_rfl) ?_
                              refine NN.block_n ?_
                              refine NN.then ?_
                              refine J.plain ?_
                              refine LL.op (.int .i64 x11l0) (by kernel_rfl) (fun w _ => by kernel_rfl) ?_
                              refine LL.op (.int .i64 (IntKind.i64.wrap (x11l0 + 1))) (by kernel_rfl) (fun w _ => by kernel_rfl) ?_
                              refine LL.op (.int .i64 (IntKind.i64.wrap (x11l0 + 1))) (by kernel_rfl) (fun w _ => by kernel_rfl) ?_
                              refine LL.done (s' := [(1, .slice Aa1 a1.length ca1), (2, .pointer (some ⟨g1000, 0, none⟩)), (4, .bool false), (5, .slice A1012 x1009_1.length c1013), (9, .slice A1033 x1030.length c1034), (10, .bool (decide (e1047 ≤ e1052))), (11, .int .i64 (IntKind.i64.wrap (x11l0 + 1)))]) [1, 2, 4, 5, 9, 10, 11] (by kernel_rfl) ?_
                              exact NN.round' [1, 2, 4, 5, 9, 10, 11] (bs' := [(g1000, cl [.slice Aa0_0 a0_0.length ca0_0, .slice Aa0_1 a0_1.length ca0_1, .slice Aa0_2 a0_2.length ca0_2] 51)]) (Nat.lt_succ_self _) (List.Sublist.refl _) (by kernel_rfl) ⟨IntKind.i64.wrap (x11l0 + 1), decide (e1047 ≤ e1052), H, rfl, rfl⟩
                          · rw [if_neg (nebt c1051)] at H
                            refine QQ.bool 123 (x10l0) false c1051 (by kernel_rfl) ?_
                            refine QQ.off (by kernel_rfl) (by kernel_rfl) ?_
                            refine QQ.off (by kernel_rfl) (by kernel_rfl) ?_
                            refine QQ.off (by kernel_rfl) (by kernel_rfl) ?_
                            refine QQ.off (by kernel_rfl) (by kernel_rfl) ?_
                            refine QQ.off (by kernel_rfl) (by kernel_rfl) ?_
                            refine QQ.off (by kernel_rfl) (by kernel_rfl) ?_
                            refine QQ.off (by kernel_rfl) (by kernel_rfl) ?_
                            refine QQ.off (by kernel_rfl) (by kernel_rfl) ?_
                            refine QQ.off (by kernel_rfl) (by kernel_rfl) ?_
                            refine QQ.off (by kernel_rfl) (by kernel_rfl) ?_
                            refine QQ.off (by kernel_rfl) (by kernel_rfl) ?_
                            refine QQ.off (by kernel_rfl) (by kernel_rfl) ?_
                            refine QQ.off (by kernel_rfl) (by kernel_rfl) ?_
                            refine QQ.off (by kernel_rfl) (by kernel_rfl) ?_
                            refine QQ.off (by kernel_rfl) (by kernel_rfl) ?_
                            refine QQ.off (by kernel_rfl) (by kernel_rfl) ?_
                            refine QQ.off (by kernel_rfl) (by kernel_rfl) ?_
                            refine QQ.op (.bool false) (by kernel_rfl) (fun w _ => by kernel_rfl) ?_
                            refine QQ.op (.bool false) (by kernel_rfl) (fun w _ => by kernel_rfl) ?_
                            refine QQ.done (s' := [(1, .slice Aa1 a1.length ca1), (2, .pointer (some ⟨g1000, 0, none⟩)), (4, .bool false), (5, .slice A1012 x1009_1.length c1013), (9, .slice A1033 x1030.length c1034), (10, .bool false), (11, .int .i64 x11l0)]) [1, 2, 4, 5, 9, 10, 11] (by kernel_rfl) ?_
                            refine NN.block_n ?_
                            refine NN.then ?_
                            refine J.plain ?_
                            refine LL.op (.int .i64 x11l0) (by kernel_rfl) (fun w _ => by kernel_rfl) ?_
                            refine LL.op (.int .i64 (IntKind.i64.wrap (x11l0 + 1))) (by kernel_rfl) (fun w _ => by kernel_rfl) ?_
                            refine LL.op (.int .i64 (IntKind.i64.wrap (x11l0 + 1))) (by kernel_rfl) (fun w _ => by kernel_rfl) ?_
                            refine LL.done (s' := [(1, .slice Aa1 a1.length ca1), (2, .pointer (some ⟨g1000, 0, none⟩)), (4, .bool false), (5, .slice A1012 x1009_1.length c1013), (9, .slice A1033 x1030.length c1034), (10, .bool false), (11, .int .i64 (IntKind.i64.wrap (x11l0 + 1)))]) [1, 2, 4, 5, 9, 10, 11] (by kernel_rfl) ?_
                            exact NN.round' [1, 2, 4, 5, 9, 10, 11] (bs' := [(g1000, cl [.slice Aa0_0 a0_0.length ca0_0, .slice Aa0_1 a0_1.length ca0_1, .slice Aa0_2 a0_2.length ca0_2] 51)]) (Nat.lt_succ_self _) (List.Sublist.refl _) (by kernel_rfl) ⟨IntKind.i64.wrap (x11l0 + 1), false, H, rfl, rfl⟩
                  · rw [if_neg (of_decide_eq_false c1040)] at H
                    refine J.condF (b := decide (x11l0 < (x1030.length : Int))) c1040 (by kernel_rfl) (by kernel_rfl) ?_
                    refine J.exit ?_
                    refine NN.then_exit ?_
                    refine NN.then_exit ?_
                    refine NN.block_same ?_
                    refine NN.then ?_
                    refine J.seq ?_
                    refine J.seq ?_
                    refine J.plain ?_
                    refine LL.op (.bool x10l0) (by kernel_rfl) (fun w _ => by kernel_rfl) ?_
                    refine LL.op (.bool x10l0) (by kernel_rfl) (fun w _ => by kernel_rfl) ?_
                    rcases Bool.eq_false_or_eq_true (x10l0) with c1054 | c1054
                    · rw [if_pos (c1054)] at H
                      refine LL.bool 143 (x10l0) true c1054 (by kernel_rfl) ?_
                      refine LL.op (.slice A1033 x1030.length c1034) (by kernel_rfl) (fun w _ => by kernel_rfl) ?_
                      refine LL.op (.slice A1012 x1009_1.length c1013) (by kernel_rfl) (fun w _ => by kernel_rfl) ?_
                      obtain ⟨x1055, hx1055, H⟩ := bind_some H
                      refine LL.call 23 #[.slice A1033 x1030.length c1034, .slice A1012 x1009_1.length c1013] (.bool x1055) (by kernel_rfl) (fun w => by kernel_rfl) (fun w hw => sawmilllaw48_ints.calls K x1030 x1009_1  _ _ _ _ _ w  (k1036.at hw) (((k1015.le le1022).le le1035).at hw) hx1055) ?_
                      refine LL.op (.bool (!x1055)) (by kernel_rfl) (fun w _ => by kernel_rfl) ?_
                      refine LL.op (.bool (!x1055)) (by kernel_rfl) (fun w _ => by kernel_rfl) ?_
                      refine LL.done (s' := [(1, .slice Aa1 a1.length ca1), (2, .pointer (some ⟨g1000, 0, none⟩)), (4, .bool false), (5, .slice A1012 x1009_1.length c1013), (148, .bool (!x1055))]) [1, 2, 4, 5, 148] (by kernel_rfl) ?_
                      refine NN.then ?_
                      rcases Bool.eq_false_or_eq_true (x1055) with c1056 | c1056
                      · rw [if_pos (c1056)] at H
                        refine J.condF (b := !x1055) (by rw [show (!x1055) = !(x1055) from rfl, c1056]; rfl) (by kernel_rfl) (by kernel_rfl) ?_
                        refine J.skip ?_
                        refine NN.then ?_
                        refine J.seq ?_
                        refine J.plain ?_
                        refine LL.op (.pointer (some ⟨g1000, 0, none⟩)) (by kernel_rfl) (fun w _ => by kernel_rfl) ?_
                        refine LL.op (.slice Aa0_0 a0_0.length ca0_0) (by kernel_rfl) (ld 0 g1000 0 rfl (by kernel_rfl) rfl (by kernel_rfl)) ?_
                        refine LL.op (.pointer (some ⟨g1000, 2, none⟩)) (by kernel_rfl) (fun w _ => by kernel_rfl) ?_
                        refine LL.op (.slice Aa0_2 a0_2.length ca0_2) (by kernel_rfl) (ld 0 g1000 2 rfl (by kernel_rfl) rfl (by kernel_rfl)) ?_
                        refine LL.op (.slice Aa1 a1.length ca1) (by kernel_rfl) (fun w _ => by kernel_rfl) ?_
                        obtain ⟨x1057, hx1057, H⟩ := bind_some H
                        refine LL.call 15 #[.slice Aa0_0 a0_0.length ca0_0, .slice Aa0_2 a0_2.length ca0_2, .slice Aa1 a1.length ca1] (.bool x1057) (by kernel_rfl) (fun w => by kernel_rfl) (fun w hw => assign_Valid.calls K a0_0 a0_2 a1  _ _ _ _ _ _ _ w  ((((ha0_0.le le1014).le le1022).le le1035).at hw) ((((ha0_2.le le1014).le le1022).le le1035).at hw) ((((ha1.le le1014).le le1022).le le1035).at hw) hx1057) ?_
                        refine LL.op (.bool (!x1057)) (by kernel_rfl) (fun w _ => by kernel_rfl) ?_
                        refine LL.op (.bool (!x1057)) (by kernel_rfl) (fun w _ => by kernel_rfl) ?_
                        rcases Bool.eq_false_or_eq_true (x1057) with c1058 | c1058
                        · rw [if_pos (c1058)] at H
                          refine LL.bool 156 (!x1057) false (by rw [show (!x1057) = !(x1057) from rfl, c1058]; rfl) (by kernel_rfl) ?_
                          refine LL.op (.pointer (some ⟨g1000, 0, none⟩)) (by kernel_rfl) (fun w _ => by kernel_rfl) ?_
                          refine LL.op (.slice Aa0_0 a0_0.length ca0_0) (by kernel_rfl) (ld 0 g1000 0 rfl (by kernel_rfl) rfl (by kernel_rfl)) ?_
                          refine LL.op (.int .i64 (a0_0.length : Int)) (by kernel_rfl) (fun w _ => by kernel_rfl) ?_
                          refine LL.op (.slice Aa1 a1.length ca1) (by kernel_rfl) (fun w _ => by kernel_rfl) ?_
                          obtain ⟨x1059, hx1059, H⟩ := bind_some H
                          refine LL.callR (enc := enc3) (m := 1) (l := x1059) 22 #[.int .i64 (a0_0.length : Int), .slice Aa1 a1.length ca1] (fun A_ c_ => .slice A_ x1059.length c_) (by kernel_rfl) (fun w => by kernel_rfl) (fun w hw => sawmillref48_CountsOf.calls K (a0_0.length : Int) a1  _ _ _ w  ((((ha1.le le1014).le le1022).le le1035).at hw) hx1059) (fun R1060 F1061 A1062 c1063 le1064 k1065 fr1066 => ?_)
                          refine LL.op (.slice A1012 x1009_1.length c1013) (by kernel_rfl) (fun w _ => by kernel_rfl) ?_
                          obtain ⟨x1067, hx1067, H⟩ := bind_some H
                          refine LL.call 24 #[.slice A1062 x1059.length c1063, .slice A1012 x1009_1.length c1013] (.bool x1067) (by kernel_rfl) (fun w => by kernel_rfl) (fun w hw => sawmilllaw48_better.calls K x1059 x1009_1  _ _ _ _ _ w  (k1065.at hw) ((((k1015.le le1022).le le1035).le le1064).at hw) hx1067) ?_
                          refine LL.op (.bool (!x1067)) (by kernel_rfl) (fun w _ => by kernel_rfl) ?_
                          refine LL.op (.bool (!x1067)) (by kernel_rfl) (fun w _ => by kernel_rfl) ?_
                          refine LL.op (.bool (!x1067)) (by kernel_rfl) (fun w _ => by kernel_rfl) ?_
                          rcases Bool.eq_false_or_eq_true (x1067) with c1068 | c1068
                          · rw [if_pos (c1068)] at H
                            refine LL.bool 166 (!x1067) false (by rw [show (!x1067) = !(x1067) from rfl, c1068]; rfl) (by kernel_rfl) ?_
                            refine LL.off (by kernel_rfl) (by kernel_rfl) ?_
                            refine LL.op (.bool false) (by kernel_rfl) (fun w _ => by kernel_rfl) ?_
                            refine LL.op (.bool false) (by kernel_rfl) (fun w _ => by kernel_rfl) ?_
                            refine LL.done (s' := [(4, .bool false)]) [4] (by kernel_rfl) ?_
                            refine NN.then ?_
                            refine J.ret ?_
                            refine NN.fin1 4 (.bool false) (by kernel_rfl) (by kernel_rfl) (.inl rfl) (fun w hi => hi.ret ?_)
                            first | (cases H; rfl) | (obtain rfl := Option.some.inj H; rfl) | (simp only [Option.some.injEq, Prod.mk.injEq] at H; obtain ⟨rfl⟩ := H; rfl)
                          · rw [if_neg (nebt c1068)] at H
                            refine LL.bool 166 (!x1067) true (by rw [show (!x1067) = !(x1067) from rfl, c1068]; rfl) (by kernel_rfl) ?_
                            obtain ⟨x1069, hx1069, H⟩ := bind_some H
                            refine LL.call 18 #[] (.bool x1069) (by kernel_rfl) (fun w => by kernel_rfl) (fun w hw => sawmilllaw48_awake.calls K    _ w   hx1069) ?_
                            refine LL.op (.bool x1069) (by kernel_rfl) (fun w _ => by kernel_rfl) ?_
                            refine LL.op (.bool x1069) (by kernel_rfl) (fun w _ => by kernel_rfl) ?_
                            refine LL.done (s' := [(4, .bool x1069)]) [4] (by kernel_rfl) ?_
                            refine NN.then ?_
                            refine J.ret ?_
                            refine NN.fin1 4 (.bool x1069) (by kernel_rfl) (by kernel_rfl) (.inl rfl) (fun w hi => hi.ret ?_)
                            first | (cases H; rfl) | (obtain rfl := Option.some.inj H; rfl) | (simp only [Option.some.injEq, Prod.mk.injEq] at H; obtain ⟨rfl⟩ := H; rfl)
                        · rw [if_neg (nebt c1058)] at H
                          refine LL.bool 156 (!x1057) true (by rw [show (!x1057) = !(x1057) from rfl, c1058]; rfl) (by kernel_rfl) ?_
                          refine LL.off (by kernel_rfl) (by kernel_rfl) ?_
                          refine LL.off (by kernel_rfl) (by kernel_rfl) ?_
                          refine LL.off (by kernel_rfl) (by kernel_rfl) ?_
                          refine LL.off (by kernel_rfl) (by kernel_rfl) ?_
                          refine LL.off (by kernel_rfl) (by kernel_rfl) ?_
                          refine LL.off (by kernel_rfl) (by kernel_rfl) ?_
                          refine LL.off (by kernel_rfl) (by kernel_rfl) ?_
                          refine LL.off (by kernel_rfl) (by kernel_rfl) ?_
                          refine LL.op (.bool true) (by kernel_rfl) (fun w _ => by kernel_rfl) ?_
                          refine LL.op (.bool true) (by kernel_rfl) (fun w _ => by kernel_rfl) ?_
                          obtain ⟨x1070, hx1070, H⟩ := bind_some H
                          refine LL.call 18 #[] (.bool x1070) (by kernel_rfl) (fun w => by kernel_rfl) (fun w hw => sawmilllaw48_awake.calls K    _ w   hx1070) ?_
                          refine LL.op (.bool x1070) (by kernel_rfl) (fun w _ => by kernel_rfl) ?_
                          refine LL.op (.bool x1070) (by kernel_rfl) (fun w _ => by kernel_rfl) ?_
                          refine LL.done (s' := [(4, .bool x1070)]) [4] (by kernel_rfl) ?_
                          refine NN.then ?_
                          refine J.ret ?_
                          refine NN.fin1 4 (.bool x1070) (by kernel_rfl) (by kernel_rfl) (.inl rfl) (fun w hi => hi.ret ?_)
                          first | (cases H; rfl) | (obtain rfl := Option.some.inj H; rfl) | (simp only [Option.some.injEq, Prod.mk.injEq] at H; obtain ⟨rfl⟩ := H; rfl)
                      · rw [if_neg (nebt c1056)] at H
                        refine J.condT (b := !x1055) (by rw [show (!x1055) = !(x1055) from rfl, c1056]; rfl) (by kernel_rfl) (by kernel_rfl) ?_
                        refine J.seq ?_
                        refine J.plain ?_
                        refine LL.op (.bool false) (by kernel_rfl) (fun w _ => by kernel_rfl) ?_
                        refine LL.done (s' := [(1, .slice Aa1 a1.length ca1), (2, .pointer (some ⟨g1000, 0, none⟩)), (4, .bool false), (5, .slice A1012 x1009_1.length c1013)]) [1, 2, 4, 5] (by kernel_rfl) ?_
                        refine NN.then ?_
                        refine J.ret ?_
                        refine NN.then_ret ?_
                        refine NN.fin1 4 (.bool false) (by kernel_rfl) (by kernel_rfl) (.inl rfl) (fun w hi => hi.ret ?_)
                        first | (cases H; rfl) | (obtain rfl := Option.some.inj H; rfl) | (simp only [Option.some.injEq, Prod.mk.injEq] at H; obtain ⟨rfl⟩ := H; rfl)
                    · rw [if_neg (nebt c1054)] at H
                      refine LL.bool 143 (x10l0) false c1054 (by kernel_rfl) ?_
                      refine LL.off (by kernel_rfl) (by kernel_rfl) ?_
                      refine LL.off (by kernel_rfl) (by kernel_rfl) ?_
                      refine LL.off (by kernel_rfl) (by kernel_rfl) ?_
                      refine LL.off (by kernel_rfl) (by kernel_rfl) ?_
                      refine LL.op (.bool false) (by kernel_rfl) (fun w _ => by kernel_rfl) ?_
                      refine LL.done (s' := [(1, .slice Aa1 a1.length ca1), (2, .pointer (some ⟨g1000, 0, none⟩)), (4, .bool false), (5, .slice A1012 x1009_1.length c1013), (148, .bool false)]) [1, 2, 4, 5, 148] (by kernel_rfl) ?_
                      refine NN.then ?_
                      refine J.condF (b := false) rfl (by kernel_rfl) (by kernel_rfl) ?_
                      refine J.skip ?_
                      refine NN.then ?_
                      refine J.seq ?_
                      refine J.plain ?_
                      refine LL.op (.pointer (some ⟨g1000, 0, none⟩)) (by kernel_rfl) (fun w _ => by kernel_rfl) ?_
                      refine LL.op (.slice Aa0_0 a0_0.length ca0_0) (by kernel_rfl) (ld 0 g1000 0 rfl (by kernel_rfl) rfl (by kernel_rfl)) ?_
                      refine LL.op (.pointer (some ⟨g1000, 2, none⟩)) (by kernel_rfl) (fun w _ => by kernel_rfl) ?_
                      refine LL.op (.slice Aa0_2 a0_2.length ca0_2) (by kernel_rfl) (ld 0 g1000 2 rfl (by kernel_rfl) rfl (by kernel_rfl)) ?_
                      refine LL.op (.slice Aa1 a1.length ca1) (by kernel_rfl) (fun w _ => by kernel_rfl) ?_
                      obtain ⟨x1071, hx1071, H⟩ := bind_some H
                      refine LL.call 15 #[.slice Aa0_0 a0_0.length ca0_0, .slice Aa0_2 a0_2.length ca0_2, .slice Aa1 a1.length ca1] (.bool x1071) (by kernel_rfl) (fun w => by kernel_rfl) (fun w hw => assign_Valid.calls K a0_0 a0_2 a1  _ _ _ _ _ _ _ w  ((((ha0_0.le le1014).le le1022).le le1035).at hw) ((((ha0_2.le le1014).le le1022).le le1035).at hw) ((((ha1.le le1014).le le1022).le le1035).at hw) hx1071) ?_
                      refine LL.op (.bool (!x1071)) (by kernel_rfl) (fun w _ => by kernel_rfl) ?_
                      refine LL.op (.bool (!x1071)) (by kernel_rfl) (fun w _ => by kernel_rfl) ?_
                      rcases Bool.eq_false_or_eq_true (x1071) with c1072 | c1072
                      · rw [if_pos (c1072)] at H
                        refine LL.bool 156 (!x1071) false (by rw [show (!x1071) = !(x1071) from rfl, c1072]; rfl) (by kernel_rfl) ?_
                        refine LL.op (.pointer (some ⟨g1000, 0, none⟩)) (by kernel_rfl) (fun w _ => by kernel_rfl) ?_
                        refine LL.op (.slice Aa0_0 a0_0.length ca0_0) (by kernel_rfl) (ld 0 g1000 0 rfl (by kernel_rfl) rfl (by kernel_rfl)) ?_
                        refine LL.op (.int .i64 (a0_0.length : Int)) (by kernel_rfl) (fun w _ => by kernel_rfl) ?_
                        refine LL.op (.slice Aa1 a1.length ca1) (by kernel_rfl) (fun w _ => by kernel_rfl) ?_
                        obtain ⟨x1073, hx1073, H⟩ := bind_some H
                        refine LL.callR (enc := enc3) (m := 1) (l := x1073) 22 #[.int .i64 (a0_0.length : Int), .slice Aa1 a1.length ca1] (fun A_ c_ => .slice A_ x1073.length c_) (by kernel_rfl) (fun w => by kernel_rfl) (fun w hw => sawmillref48_CountsOf.calls K (a0_0.length : Int) a1  _ _ _ w  ((((ha1.le le1014).le le1022).le le1035).at hw) hx1073) (fun R1074 F1075 A1076 c1077 le1078 k1079 fr1080 => ?_)
                        refine LL.op (.slice A1012 x1009_1.length c1013) (by kernel_rfl) (fun w _ => by kernel_rfl) ?_
                        obtain ⟨x1081, hx1081, H⟩ := bind_some H
                        refine LL.call 24 #[.slice A1076 x1073.length c1077, .slice A1012 x1009_1.length c1013] (.bool x1081) (by kernel_rfl) (fun w => by kernel_rfl) (fun w hw => sawmilllaw48_better.calls K x1073 x1009_1  _ _ _ _ _ w  (k1079.at hw) ((((k1015.le le1022).le le1035).le le1078).at hw) hx1081) ?_
                        refine LL.op (.bool (!x1081)) (by kernel_rfl) (fun w _ => by kernel_rfl) ?_
                        refine LL.op (.bool (!x1081)) (by kernel_rfl) (fun w _ => by kernel_rfl) ?_
                        refine LL.op (.bool (!x1081)) (by kernel_rfl) (fun w _ => by kernel_rfl) ?_
                        rcases Bool.eq_false_or_eq_true (x1081) with c1082 | c1082
                        · rw [if_pos (c1082)] at H
                          refine LL.bool 166 (!x1081) false (by rw [show (!x1081) = !(x1081) from rfl, c1082]; rfl) (by kernel_rfl) ?_
                          refine LL.off (by kernel_rfl) (by kernel_rfl) ?_
                          refine LL.op (.bool false) (by kernel_rfl) (fun w _ => by kernel_rfl) ?_
                          refine LL.op (.bool false) (by kernel_rfl) (fun w _ => by kernel_rfl) ?_
                          refine LL.done (s' := [(4, .bool false)]) [4] (by kernel_rfl) ?_
                          refine NN.then ?_
                          refine J.ret ?_
                          refine NN.fin1 4 (.bool false) (by kernel_rfl) (by kernel_rfl) (.inl rfl) (fun w hi => hi.ret ?_)
                          first | (cases H; rfl) | (obtain rfl := Option.some.inj H; rfl) | (simp only [Option.some.injEq, Prod.mk.injEq] at H; obtain ⟨rfl⟩ := H; rfl)
                        · rw [if_neg (nebt c1082)] at H
                          refine LL.bool 166 (!x1081) true (by rw [show (!x1081) = !(x1081) from rfl, c1082]; rfl) (by kernel_rfl) ?_
                          obtain ⟨x1083, hx1083, H⟩ := bind_some H
                          refine LL.call 18 #[] (.bool x1083) (by kernel_rfl) (fun w => by kernel_rfl) (fun w hw => sawmilllaw48_awake.calls K    _ w   hx1083) ?_
                          refine LL.op (.bool x1083) (by kernel_rfl) (fun w _ => by kernel_rfl) ?_
                          refine LL.op (.bool x1083) (by kernel_rfl) (fun w _ => by kernel_rfl) ?_
                          refine LL.done (s' := [(4, .bool x1083)]) [4] (by kernel_rfl) ?_
                          refine NN.then ?_
                          refine J.ret ?_
                          refine NN.fin1 4 (.bool x1083) (by kernel_rfl) (by kernel_rfl) (.inl rfl) (fun w hi => hi.ret ?_)
                          first | (cases H; rfl) | (obtain rfl := Option.some.inj H; rfl) | (simp only [Option.some.injEq, Prod.mk.injEq] at H; obtain ⟨rfl⟩ := H; rfl)
                      · rw [if_neg (nebt c1072)] at H
                        refine LL.bool 156 (!x1071) true (by rw [show (!x1071) = !(x1071) from rfl, c1072]; rfl) (by kernel_rfl) ?_
                        refine LL.off (by kernel_rfl) (by kernel_rfl) ?_
                        refine LL.off (by kernel_rfl) (by kernel_rfl) ?_
                        refine LL.off (by kernel_rfl) (by kernel_rfl) ?_
                        refine LL.off (by kernel_rfl) (by kernel_rfl) ?_
                        refine LL.off (by kernel_rfl) (by kernel_rfl) ?_
                        refine LL.off (by kernel_rfl) (by kernel_rfl) ?_
                        refine LL.off (by kernel_rfl) (by kernel_rfl) ?_
                        refine LL.off (by kernel_rfl) (by kernel_rfl) ?_
                        refine LL.op (.bool true) (by kernel_rfl) (fun w _ => by kernel_rfl) ?_
                        refine LL.op (.bool true) (by kernel_rfl) (fun w _ => by kernel_rfl) ?_
                        obtain ⟨x1084, hx1084, H⟩ := bind_some H
                        refine LL.call 18 #[] (.bool x1084) (by kernel_rfl) (fun w => by kernel_rfl) (fun w hw => sawmilllaw48_awake.calls K    _ w   hx1084) ?_
                        refine LL.op (.bool x1084) (by kernel_rfl) (fun w _ => by kernel_rfl) ?_
                        refine LL.op (.bool x1084) (by kernel_rfl) (fun w _ => by kernel_rfl) ?_
                        refine LL.done (s' := [(4, .bool x1084)]) [4] (by kernel_rfl) ?_
                        refine NN.then ?_
                        refine J.ret ?_
                        refine NN.fin1 4 (.bool x1084) (by kernel_rfl) (by kernel_rfl) (.inl rfl) (fun w hi => hi.ret ?_)
                        first | (cases H; rfl) | (obtain rfl := Option.some.inj H; rfl) | (simp only [Option.some.injEq, Prod.mk.injEq] at H; obtain ⟨rfl⟩ := H; rfl)
                · rw [if_neg (nebf c1029)] at H
                  refine J.condT (b := !((x1009_1.length : Int) == (a0_0.length : Int))) (by rw [show (!((x1009_1.length : Int) == (a0_0.length : Int))) = !(((x1009_1.length : Int) == (a0_0.length : Int))) from rfl, c1029]; rfl) (by kernel_rfl) (by kernel_rfl) ?_
                  refine J.seq ?_
                  refine J.plain ?_
                  refine LL.op (.bool false) (by kernel_rfl) (fun w _ => by kernel_rfl) ?_
                  refine LL.done (s' := [(1, .slice Aa1 a1.length ca1), (2, .pointer (some ⟨g1000, 0, none⟩)), (4, .bool false), (5, .slice A1012 x1009_1.length c1013), (7, .slice A1020 x1017_1.length c1021)]) [1, 2, 4, 5, 7] (by kernel_rfl) ?_
                  refine NN.then ?_
                  refine J.ret ?_
                  refine NN.then_ret ?_
                  refine NN.fin1 4 (.bool false) (by kernel_rfl) (by kernel_rfl) (.inl rfl) (fun w hi => hi.ret ?_)
                  first | (cases H; rfl) | (obtain rfl := Option.some.inj H; rfl) | (simp only [Option.some.injEq, Prod.mk.injEq] at H; obtain ⟨rfl⟩ := H; rfl)
              · rw [if_neg (nebt c1028)] at H
                refine LL.bool 74 (!x1027) true (by rw [show (!x1027) = !(x1027) from rfl, c1028]; rfl) (by kernel_rfl) ?_
                refine LL.off (by kernel_rfl) (by kernel_rfl) ?_
                refine LL.off (by kernel_rfl) (by kernel_rfl) ?_
                refine LL.off (by kernel_rfl) (by kernel_rfl) ?_
                refine LL.off (by kernel_rfl) (by kernel_rfl) ?_
                refine LL.off (by kernel_rfl) (by kernel_rfl) ?_
                refine LL.off (by kernel_rfl) (by kernel_rfl) ?_
                refine LL.op (.bool true) (by kernel_rfl) (fun w _ => by kernel_rfl) ?_
                refine LL.done (s' := [(1, .slice Aa1 a1.length ca1), (2, .pointer (some ⟨g1000, 0, none⟩)), (4, .bool false), (5, .slice A1012 x1009_1.length c1013), (7, .slice A1020 x1017_1.length c1021), (81, .bool true)]) [1, 2, 4, 5, 7, 81] (by kernel_rfl) ?_
                refine NN.then ?_
                refine J.condT (b := true) rfl (by kernel_rfl) (by kernel_rfl) ?_
                refine J.seq ?_
                refine J.plain ?_
                refine LL.op (.bool false) (by kernel_rfl) (fun w _ => by kernel_rfl) ?_
                refine LL.done (s' := [(1, .slice Aa1 a1.length ca1), (2, .pointer (some ⟨g1000, 0, none⟩)), (4, .bool false), (5, .slice A1012 x1009_1.length c1013), (7, .slice A1020 x1017_1.length c1021)]) [1, 2, 4, 5, 7] (by kernel_rfl) ?_
                refine NN.then ?_
                refine J.ret ?_
                refine NN.then_ret ?_
                refine NN.fin1 4 (.bool false) (by kernel_rfl) (by kernel_rfl) (.inl rfl) (fun w hi => hi.ret ?_)
                first | (cases H; rfl) | (obtain rfl := Option.some.inj H; rfl) | (simp only [Option.some.injEq, Prod.mk.injEq] at H; obtain ⟨rfl⟩ := H; rfl)
            · rw [if_neg (nebf c1026)] at H
              refine J.condT (b := !(x1017_2 == 0)) (by rw [show (!(x1017_2 == 0)) = !((x1017_2 == 0)) from rfl, c1026]; rfl) (by kernel_rfl) (by kernel_rfl) ?_
              refine J.seq ?_
              refine J.plain ?_
              refine LL.op (.int .i64 x1009_2) (by kernel_rfl) (fun w _ => by kernel_rfl) ?_
              refine LL.op (.bool (x1009_2 == 0)) (by kernel_rfl) (fun w _ => by kernel_rfl) ?_
              refine LL.op (.bool (x1009_2 == 0)) (by kernel_rfl) (fun w _ => by kernel_rfl) ?_
              refine LL.bool 60 ((x1009_2 == 0)) true c1025 (by kernel_rfl) ?_
              refine LL.off (by kernel_rfl) (by kernel_rfl) ?_
              refine LL.off (by kernel_rfl) (by kernel_rfl) ?_
              refine LL.op (.bool true) (by kernel_rfl) (fun w _ => by kernel_rfl) ?_
              refine LL.op (.bool true) (by kernel_rfl) (fun w _ => by kernel_rfl) ?_
              obtain ⟨x1085, hx1085, H⟩ := bind_some H
              refine LL.call 18 #[] (.bool x1085) (by kernel_rfl) (fun w => by kernel_rfl) (fun w hw => sawmilllaw48_awake.calls K    _ w   hx1085) ?_
              refine LL.op (.bool x1085) (by kernel_rfl) (fun w _ => by kernel_rfl) ?_
              refine LL.op (.bool x1085) (by kernel_rfl) (fun w _ => by kernel_rfl) ?_
              refine LL.done (s' := [(1, .slice Aa1 a1.length ca1), (2, .pointer (some ⟨g1000, 0, none⟩)), (4, .bool x1085), (5, .slice A1012 x1009_1.length c1013), (7, .slice A1020 x1017_1.length c1021)]) [1, 2, 4, 5, 7] (by kernel_rfl) ?_
              refine NN.then ?_
              refine J.ret ?_
              refine NN.then_ret ?_
              refine NN.fin1 4 (.bool x1085) (by kernel_rfl) (by kernel_rfl) (.inl rfl) (fun w hi => hi.ret ?_)
              first | (cases H; rfl) | (obtain rfl := Option.some.inj H; rfl) | (simp only [Option.some.injEq, Prod.mk.injEq] at H; obtain ⟨rfl⟩ := H; rfl)
          · rw [if_neg (nebf c1025)] at H
            refine LL.bool 54 (!(x1009_2 == 0)) true (by rw [show (!(x1009_2 == 0)) = !((x1009_2 == 0)) from rfl, c1025]; rfl) (by kernel_rfl) ?_
            refine LL.off (by kernel_rfl) (by kernel_rfl) ?_
            refine LL.off (by kernel_rfl) (by kernel_rfl) ?_
            refine LL.op (.bool true) (by kernel_rfl) (fun w _ => by kernel_rfl) ?_
            refine LL.done (s' := [(1, .slice Aa1 a1.length ca1), (2, .pointer (some ⟨g1000, 0, none⟩)), (4, .bool false), (5, .slice A1012 x1009_1.length c1013), (6, .int .i64 x1009_2), (7, .slice A1020 x1017_1.length c1021), (8, .int .i64 x1017_2), (57, .bool true)]) [1, 2, 4, 5, 6, 7, 8, 57] (by kernel_rfl) ?_
            refine NN.then ?_
            refine J.condT (b := true) rfl (by kernel_rfl) (by kernel_rfl) ?_
            refine J.seq ?_
            refine J.plain ?_
            refine LL.op (.int .i64 x1009_2) (by kernel_rfl) (fun w _ => by kernel_rfl) ?_
            refine LL.op (.bool (x1009_2 == 0)) (by kernel_rfl) (fun w _ => by kernel_rfl) ?_
            refine LL.op (.bool (x1009_2 == 0)) (by kernel_rfl) (fun w _ => by kernel_rfl) ?_
            refine LL.bool 60 ((x1009_2 == 0)) false c1025 (by kernel_rfl) ?_
            refine LL.op (.int .i64 x1017_2) (by kernel_rfl) (fun w _ => by kernel_rfl) ?_
            refine LL.op (.bool (!(x1017_2 == 0))) (by kernel_rfl) (fun w _ => by kernel_rfl) ?_
            refine LL.op (.bool (!(x1017_2 == 0))) (by kernel_rfl) (fun w _ => by kernel_rfl) ?_
            refine LL.op (.bool (!(x1017_2 == 0))) (by kernel_rfl) (fun w _ => by kernel_rfl) ?_
            rcases Bool.eq_false_or_eq_true ((x1017_2 == 0)) with c1086 | c1086
            · rw [if_pos (eq_of_beq c1086)] at H
              refine LL.bool 64 (!(x1017_2 == 0)) false (by rw [show (!(x1017_2 == 0)) = !((x1017_2 == 0)) from rfl, c1086]; rfl) (by kernel_rfl) ?_
              refine LL.off (by kernel_rfl) (by kernel_rfl) ?_
              refine LL.op (.bool false) (by kernel_rfl) (fun w _ => by kernel_rfl) ?_
              refine LL.op (.bool false) (by kernel_rfl) (fun w _ => by kernel_rfl) ?_
              refine LL.done (s' := [(1, .slice Aa1 a1.length ca1), (2, .pointer (some ⟨g1000, 0, none⟩)), (4, .bool false), (5, .slice A1012 x1009_1.length c1013), (7, .slice A1020 x1017_1.length c1021)]) [1, 2, 4, 5, 7] (by kernel_rfl) ?_
              refine NN.then ?_
              refine J.ret ?_
              refine NN.then_ret ?_
              refine NN.fin1 4 (.bool false) (by kernel_rfl) (by kernel_rfl) (.inl rfl) (fun w hi => hi.ret ?_)
              first | (cases H; rfl) | (obtain rfl := Option.some.inj H; rfl) | (simp only [Option.some.injEq, Prod.mk.injEq] at H; obtain ⟨rfl⟩ := H; rfl)
            · rw [if_neg (nebf c1086)] at H
              refine LL.bool 64 (!(x1017_2 == 0)) true (by rw [show (!(x1017_2 == 0)) = !((x1017_2 == 0)) from rfl, c1086]; rfl) (by kernel_rfl) ?_
              obtain ⟨x1087, hx1087, H⟩ := bind_some H
              refine LL.call 18 #[] (.bool x1087) (by kernel_rfl) (fun w => by kernel_rfl) (fun w hw => sawmilllaw48_awake.calls K    _ w   hx1087) ?_
              refine LL.op (.bool x1087) (by kernel_rfl) (fun w _ => by kernel_rfl) ?_
              refine LL.op (.bool x1087) (by kernel_rfl) (fun w _ => by kernel_rfl) ?_
              refine LL.done (s' := [(1, .slice Aa1 a1.length ca1), (2, .pointer (some ⟨g1000, 0, none⟩)), (4, .bool x1087), (5, .slice A1012 x1009_1.length c1013), (7, .slice A1020 x1017_1.length c1021)]) [1, 2, 4, 5, 7] (by kernel_rfl) ?_
              refine NN.then ?_
              refine J.ret ?_
              refine NN.then_ret ?_
              refine NN.fin1 4 (.bool x1087) (by kernel_rfl) (by kernel_rfl) (.inl rfl) (fun w hi => hi.ret ?_)
              first | (cases H; rfl) | (obtain rfl := Option.some.inj H; rfl) | (simp only [Option.some.injEq, Prod.mk.injEq] at H; obtain ⟨rfl⟩ := H; rfl)
  · rw [if_neg (nebt c1002)] at H
    refine LL.bool 16 (!x1001) true (by rw [show (!x1001) = !(x1001) from rfl, c1002]; rfl) (by kernel_rfl) ?_
    refine LL.off (by kernel_rfl) (by kernel_rfl) ?_
    refine LL.off (by kernel_rfl) (by kernel_rfl) ?_
    refine LL.off (by kernel_rfl) (by kernel_rfl) ?_
    refine LL.off (by kernel_rfl) (by kernel_rfl) ?_
    refine LL.op (.bool true) (by kernel_rfl) (fun w _ => by kernel_rfl) ?_
    refine LL.op (.bool true) (by kernel_rfl) (fun w _ => by kernel_rfl) ?_
    refine LL.off (by kernel_rfl) (by kernel_rfl) ?_
    refine LL.off (by kernel_rfl) (by kernel_rfl) ?_
    refine LL.off (by kernel_rfl) (by kernel_rfl) ?_
    refine LL.off (by kernel_rfl) (by kernel_rfl) ?_
    refine LL.op (.bool true) (by kernel_rfl) (fun w _ => by kernel_rfl) ?_
    refine LL.op (.bool true) (by kernel_rfl) (fun w _ => by kernel_rfl) ?_
    refine LL.off (by kernel_rfl) (by kernel_rfl) ?_
    refine LL.off (by kernel_rfl) (by kernel_rfl) ?_
    refine LL.off (by kernel_rfl) (by kernel_rfl) ?_
    refine LL.op (.bool true) (by kernel_rfl) (fun w _ => by kernel_rfl) ?_
    refine LL.done (s' := [(1, .slice Aa1 a1.length ca1), (2, .pointer (some ⟨g1000, 0, none⟩)), (4, .bool false), (32, .bool true)]) [1, 2, 4, 32] (by kernel_rfl) ?_
    refine NN.then ?_
    refine J.condT (b := true) rfl (by kernel_rfl) (by kernel_rfl) ?_
    refine J.seq ?_
    refine J.plain ?_
    obtain ⟨x1088, hx1088, H⟩ := bind_some H
    refine LL.call 18 #[] (.bool x1088) (by kernel_rfl) (fun w => by kernel_rfl) (fun w hw => sawmilllaw48_awake.calls K    _ w   hx1088) ?_
    refine LL.op (.bool x1088) (by kernel_rfl) (fun w _ => by kernel_rfl) ?_
    refine LL.done (s' := [(1, .slice Aa1 a1.length ca1), (2, .pointer (some ⟨g1000, 0, none⟩)), (4, .bool x1088)]) [1, 2, 4] (by kernel_rfl) ?_
    refine NN.then ?_
    refine J.ret ?_
    refine NN.then_ret ?_
    refine NN.fin1 4 (.bool x1088) (by kernel_rfl) (by kernel_rfl) (.inl rfl) (fun w hi => hi.ret ?_)
    first | (cases H; rfl) | (obtain rfl := Option.some.inj H; rfl) | (simp only [Option.some.injEq, Prod.mk.injEq] at H; obtain ⟨rfl⟩ := H; rfl)

end Go.Proofs.Ytbogdbbmmlaohaa
