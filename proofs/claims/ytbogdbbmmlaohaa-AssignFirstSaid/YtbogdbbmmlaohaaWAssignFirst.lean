/- Walks of functions of the seat: each call does what the Lean function of the same name says. Printed by the session's own program absgen.py. -/
import Derived.Test.YtbogdbbmmlaohaaF2
namespace Go.Proofs.Ytbogdbbmmlaohaa
open Go.Saw
set_option linter.unusedVariables false
set_option linter.unusedSimpArgs false

/-! ### sawmilllaw48_AssignFirst: function 7 -/
def sawmilllaw48_AssignFirst.l0 (K : Nat) (a1 : List E3) (x1098_1 : List E3) : Nat → Int → Option (Bool)
  | 0, _ => none
  | k + 1, x7l0 => if x7l0 < (a1.length : Int) then ((idx x1098_1 x7l0).bind fun e1145 => ((idx a1 x7l0).bind fun e1146 => (if e1145 = e1146 then (sawmilllaw48_AssignFirst.l0 K a1 x1098_1 k (IntKind.i64.wrap (x7l0 + 1))) else (if 0 ≤ e1145 then (if e1146 < 0 then ((sawmilllaw48_awake.f K ).bind fun x1150 => (some x1150)) else (if e1145 < e1146 then ((sawmilllaw48_awake.f K ).bind fun x1152 => (some x1152)) else (some false))) else (some false))))) else ((sawmilllaw48_awake.f K ).bind fun x1153 => (some x1153))
def sawmilllaw48_AssignFirst.f (K : Nat) (a0_0 : List (List E4)) (a0_1 : List E3) (a0_2 : List E3) (a1 : List E3) : Option (Bool) := (sawmilllaw48_small.f K a0_0).bind fun x1090 => (if x1090 = true then (if 50 < (a0_2.length : Int) then ((sawmilllaw48_awake.f K ).bind fun x1093 => (some x1093)) else (if 50 < (a0_1.length : Int) then ((sawmilllaw48_awake.f K ).bind fun x1095 => (some x1095)) else (if 100 < (a1.length : Int) then ((sawmilllaw48_awake.f K ).bind fun x1097 => (some x1097)) else ((assign_Best.f K a0_0 a0_1 a0_2).bind fun bx1098 => (if bx1098.2 = 0 then ((assign_Valid.f K a0_0 a0_2 a1).bind fun x1107 => (if x1107 = true then (if (bx1098.1.length : Int) = (a1.length : Int) then ((sawmillref48_CountsOf.f K (a0_0.length : Int) bx1098.1).bind fun x1110 => ((sawmillref48_CountsOf.f K (a0_0.length : Int) a1).bind fun x1118 => ((sawmilllaw48_ints.f K x1110 x1118).bind fun x1126 => (if x1126 = true then (sawmilllaw48_AssignFirst.l0 K a1 bx1098.1 K 0) else ((assign_Valid.f K a0_0 a0_2 bx1098.1).bind fun x1154 => (if x1154 = true then ((sawmilllaw48_awake.f K ).bind fun x1156 => (some x1156)) else (some false))))))) else ((assign_Valid.f K a0_0 a0_2 bx1098.1).bind fun x1157 => (if x1157 = true then ((sawmilllaw48_awake.f K ).bind fun x1159 => (some x1159)) else (some false)))) else ((assign_Valid.f K a0_0 a0_2 bx1098.1).bind fun x1160 => (if x1160 = true then ((sawmilllaw48_awake.f K ).bind fun x1162 => (some x1162)) else (some false))))) else ((sawmilllaw48_awake.f K ).bind fun x1163 => (some x1163))))))) else ((sawmilllaw48_awake.f K ).bind fun x1164 => (some x1164)))
set_option maxRecDepth 100000 in
theorem sawmilllaw48_AssignFirst.calls (K : Nat) (a0_0 : List (List E4)) (a0_1 : List E3) (a0_2 : List E3) (a1 : List E3)  (Aa0_0 : Option Addr) (ca0_0 : Nat) (Aa0_1 : Option Addr) (ca0_1 : Nat) (Aa0_2 : Option Addr) (ca0_2 : Nat) (Aa1 : Option Addr) (ca1 : Nat)  (r1 : Bool) (w : World)   (ha0_0 : KRow2 (Cx.start w) enc4 1 a0_0 Aa0_0) (ha0_1 : KRow (Cx.start w) enc3 1 a0_1 Aa0_1) (ha0_2 : KRow (Cx.start w) enc3 1 a0_2 Aa0_2) (ha1 : KRow (Cx.start w) enc3 1 a1 Aa1) (h : sawmilllaw48_AssignFirst.f K a0_0 a0_1 a0_2 a1 = some r1) :
    Calls Try.prog 7 #[.agg #[.slice Aa0_0 a0_0.length ca0_0, .slice Aa0_1 a0_1.length ca0_1, .slice Aa0_2 a0_2.length ca0_2], .slice Aa1 a1.length ca1] w (Ret w (.bool r1)) := by
  have H := h
  clear h
  unfold sawmilllaw48_AssignFirst.f at H
  refine Go.Saw.calls (args := [.agg #[.slice Aa0_0 a0_0.length ca0_0, .slice Aa0_1 a0_1.length ca0_1, .slice Aa0_2 a0_2.length ca0_2], .slice Aa1 a1.length ca1]) Try.func7 rfl Try.ntmps7 (by kernel_rfl) ?_
  refine J.seq ?_
  refine J.plain ?_
  refine LL.box 51 (.tmp 0) [.slice Aa0_0 a0_0.length ca0_0, .slice Aa0_1 a0_1.length ca0_1, .slice Aa0_2 a0_2.length ca0_2] (by kernel_rfl) rfl (by kernel_rfl) (fun g1089 => ?_)
  refine LL.op (.bool false) (by kernel_rfl) (fun w _ => by kernel_rfl) ?_
  refine LL.done (s' := [(1, .slice Aa1 a1.length ca1), (2, .pointer (some ⟨g1089, 0, none⟩)), (4, .bool false)]) [1, 2, 4] (by kernel_rfl) ?_
  refine NN.then ?_
  refine J.seq ?_
  refine J.seq ?_
  refine J.plain ?_
  refine LL.op (.pointer (some ⟨g1089, 0, none⟩)) (by kernel_rfl) (fun w _ => by kernel_rfl) ?_
  refine LL.op (.slice Aa0_0 a0_0.length ca0_0) (by kernel_rfl) (ld 0 g1089 0 rfl (by kernel_rfl) rfl (by kernel_rfl)) ?_
  obtain ⟨x1090, hx1090, H⟩ := bind_some H
  refine LL.call 20 #[.slice Aa0_0 a0_0.length ca0_0] (.bool x1090) (by kernel_rfl) (fun w => by kernel_rfl) (fun w hw => sawmilllaw48_small.calls K a0_0  _ _ _ w  (ha0_0.at hw) hx1090) ?_
  refine LL.op (.bool (!x1090)) (by kernel_rfl) (fun w _ => by kernel_rfl) ?_
  refine LL.op (.bool (!x1090)) (by kernel_rfl) (fun w _ => by kernel_rfl) ?_
  rcases Bool.eq_false_or_eq_true (x1090) with c1091 | c1091
  · rw [if_pos (c1091)] at H
    refine LL.bool 12 (!x1090) false (by rw [show (!x1090) = !(x1090) from rfl, c1091]; rfl) (by kernel_rfl) ?_
    refine LL.op (.pointer (some ⟨g1089, 2, none⟩)) (by kernel_rfl) (fun w _ => by kernel_rfl) ?_
    refine LL.op (.slice Aa0_2 a0_2.length ca0_2) (by kernel_rfl) (ld 0 g1089 2 rfl (by kernel_rfl) rfl (by kernel_rfl)) ?_
    refine LL.op (.int .i64 (a0_2.length : Int)) (by kernel_rfl) (fun w _ => by kernel_rfl) ?_
    refine LL.op (.bool (decide (50 < (a0_2.length : Int)))) (by kernel_rfl) (fun w _ => by kernel_rfl) ?_
    refine LL.op (.bool (decide (50 < (a0_2.length : Int)))) (by kernel_rfl) (fun w _ => by kernel_rfl) ?_
    refine LL.op (.bool (decide (50 < (a0_2.length : Int)))) (by kernel_rfl) (fun w _ => by kernel_rfl) ?_
    rcases Bool.eq_false_or_eq_true (decide (50 < (a0_2.length : Int))) with c1092 | c1092
    · rw [if_pos (of_decide_eq_true c1092)] at H
      refine LL.bool 18 (decide (50 < (a0_2.length : Int))) true c1092 (by kernel_rfl) ?_
      refine LL.off (by kernel_rfl) (by kernel_rfl) ?_
      refine LL.off (by kernel_rfl) (by kernel_rfl) ?_
      refine LL.off (by kernel_rfl) (by kernel_rfl) ?_
      refine LL.off (by kernel_rfl) (by kernel_rfl) ?_
      refine LL.op (.bool true) (by kernel_rfl) (fun w _ => by kernel_rfl) ?_
      refine LL.op (.bool true) (by kernel_rfl) (fun w _ => by kernel_rfl) ?_
      refine LL.off (by kernel_rfl) (by kernel_rfl) ?_
      refine LL.off (by kernel_rfl) (by kernel_rfl) ?_
      refine LL.off (by kernel_rfl) (by kernel_rfl) ?_
      refine LL.op (.bool true) (by kernel_rfl) (fun w _ => by kernel_rfl) ?_
      refine LL.done (s' := [(1, .slice Aa1 a1.length ca1), (2, .pointer (some ⟨g1089, 0, none⟩)), (4, .bool false), (28, .bool true)]) [1, 2, 4, 28] (by kernel_rfl) ?_
      refine NN.then ?_
      refine J.condT (b := true) rfl (by kernel_rfl) (by kernel_rfl) ?_
      refine J.seq ?_
      refine J.plain ?_
      obtain ⟨x1093, hx1093, H⟩ := bind_some H
      refine LL.call 18 #[] (.bool x1093) (by kernel_rfl) (fun w => by kernel_rfl) (fun w hw => sawmilllaw48_awake.calls K    _ w   hx1093) ?_
      refine LL.op (.bool x1093) (by kernel_rfl) (fun w _ => by kernel_rfl) ?_
      refine LL.done (s' := [(1, .slice Aa1 a1.length ca1), (2, .pointer (some ⟨g1089, 0, none⟩)), (4, .bool x1093)]) [1, 2, 4] (by kernel_rfl) ?_
      refine NN.then ?_
      refine J.ret ?_
      refine NN.then_ret ?_
      refine NN.fin1 4 (.bool x1093) (by kernel_rfl) (by kernel_rfl) (.inl rfl) (fun w hi => hi.ret ?_)
      first | (cases H; rfl) | (obtain rfl := Option.some.inj H; rfl) | (simp only [Option.some.injEq, Prod.mk.injEq] at H; obtain ⟨rfl⟩ := H; rfl)
    · rw [if_neg (of_decide_eq_false c1092)] at H
      refine LL.bool 18 (decide (50 < (a0_2.length : Int))) false c1092 (by kernel_rfl) ?_
      refine LL.op (.pointer (some ⟨g1089, 1, none⟩)) (by kernel_rfl) (fun w _ => by kernel_rfl) ?_
      refine LL.op (.slice Aa0_1 a0_1.length ca0_1) (by kernel_rfl) (ld 0 g1089 1 rfl (by kernel_rfl) rfl (by kernel_rfl)) ?_
      refine LL.op (.int .i64 (a0_1.length : Int)) (by kernel_rfl) (fun w _ => by kernel_rfl) ?_
      refine LL.op (.bool (decide (50 < (a0_1.length : Int)))) (by kernel_rfl) (fun w _ => by kernel_rfl) ?_
      refine LL.op (.bool (decide (50 < (a0_1.length : Int)))) (by kernel_rfl) (fun w _ => by kernel_rfl) ?_
      refine LL.op (.bool (decide (50 < (a0_1.length : Int)))) (by kernel_rfl) (fun w _ => by kernel_rfl) ?_
      rcases Bool.eq_false_or_eq_true (decide (50 < (a0_1.length : Int))) with c1094 | c1094
      · rw [if_pos (of_decide_eq_true c1094)] at H
        refine LL.bool 24 (decide (50 < (a0_1.length : Int))) true c1094 (by kernel_rfl) ?_
        refine LL.off (by kernel_rfl) (by kernel_rfl) ?_
        refine LL.off (by kernel_rfl) (by kernel_rfl) ?_
        refine LL.off (by kernel_rfl) (by kernel_rfl) ?_
        refine LL.op (.bool true) (by kernel_rfl) (fun w _ => by kernel_rfl) ?_
        refine LL.done (s' := [(1, .slice Aa1 a1.length ca1), (2, .pointer (some ⟨g1089, 0, none⟩)), (4, .bool false), (28, .bool true)]) [1, 2, 4, 28] (by kernel_rfl) ?_
        refine NN.then ?_
        refine J.condT (b := true) rfl (by kernel_rfl) (by kernel_rfl) ?_
        refine J.seq ?_
        refine J.plain ?_
        obtain ⟨x1095, hx1095, H⟩ := bind_some H
        refine LL.call 18 #[] (.bool x1095) (by kernel_rfl) (fun w => by kernel_rfl) (fun w hw => sawmilllaw48_awake.calls K    _ w   hx1095) ?_
        refine LL.op (.bool x1095) (by kernel_rfl) (fun w _ => by kernel_rfl) ?_
        refine LL.done (s' := [(1, .slice Aa1 a1.length ca1), (2, .pointer (some ⟨g1089, 0, none⟩)), (4, .bool x1095)]) [1, 2, 4] (by kernel_rfl) ?_
        refine NN.then ?_
        refine J.ret ?_
        refine NN.then_ret ?_
        refine NN.fin1 4 (.bool x1095) (by kernel_rfl) (by kernel_rfl) (.inl rfl) (fun w hi => hi.ret ?_)
        first | (cases H; rfl) | (obtain rfl := Option.some.inj H; rfl) | (simp only [Option.some.injEq, Prod.mk.injEq] at H; obtain ⟨rfl⟩ := H; rfl)
      · rw [if_neg (of_decide_eq_false c1094)] at H
        refine LL.bool 24 (decide (50 < (a0_1.length : Int))) false c1094 (by kernel_rfl) ?_
        refine LL.op (.slice Aa1 a1.length ca1) (by kernel_rfl) (fun w _ => by kernel_rfl) ?_
        refine LL.op (.int .i64 (a1.length : Int)) (by kernel_rfl) (fun w _ => by kernel_rfl) ?_
        refine LL.op (.bool (decide (100 < (a1.length : Int)))) (by kernel_rfl) (fun w _ => by kernel_rfl) ?_
        refine LL.op (.bool (decide (100 < (a1.length : Int)))) (by kernel_rfl) (fun w _ => by kernel_rfl) ?_
        refine LL.done (s' := [(1, .slice Aa1 a1.length ca1), (2, .pointer (some ⟨g1089, 0, none⟩)), (4, .bool false), (28, .bool (decide (100 < (a1.length : Int))))]) [1, 2, 4, 28] (by kernel_rfl) ?_
        refine NN.then ?_
        rcases Bool.eq_false_or_eq_true (decide (100 < (a1.length : Int))) with c1096 | c1096
        · rw [if_pos (of_decide_eq_true c1096)] at H
          refine J.condT (b := decide (100 < (a1.length : Int))) c1096 (by kernel_rfl) (by kernel_rfl) ?_
          refine J.seq ?_
          refine J.plain ?_
          obtain ⟨x1097, hx1097, H⟩ := bind_some H
          refine LL.call 18 #[] (.bool x1097) (by kernel_rfl) (fun w => by kernel_rfl) (fun w hw => sawmilllaw48_awake.calls K    _ w   hx1097) ?_
          refine LL.op (.bool x1097) (by kernel_rfl) (fun w _ => by kernel_rfl) ?_
          refine LL.done (s' := [(1, .slice Aa1 a1.length ca1), (2, .pointer (some ⟨g1089, 0, none⟩)), (4, .bool x1097)]) [1, 2, 4] (by kernel_rfl) ?_
          refine NN.then ?_
          refine J.ret ?_
          refine NN.then_ret ?_
          refine NN.fin1 4 (.bool x1097) (by kernel_rfl) (by kernel_rfl) (.inl rfl) (fun w hi => hi.ret ?_)
          first | (cases H; rfl) | (obtain rfl := Option.some.inj H; rfl) | (simp only [Option.some.injEq, Prod.mk.injEq] at H; obtain ⟨rfl⟩ := H; rfl)
        · rw [if_neg (of_decide_eq_false c1096)] at H
          refine J.condF (b := decide (100 < (a1.length : Int))) c1096 (by kernel_rfl) (by kernel_rfl) ?_
          refine J.skip ?_
          refine NN.then ?_
          refine J.seq ?_
          refine J.plain ?_
          refine LL.op (.pointer (some ⟨g1089, 0, none⟩)) (by kernel_rfl) (fun w _ => by kernel_rfl) ?_
          refine LL.op (.slice Aa0_0 a0_0.length ca0_0) (by kernel_rfl) (ld 0 g1089 0 rfl (by kernel_rfl) rfl (by kernel_rfl)) ?_
          refine LL.op (.pointer (some ⟨g1089, 1, none⟩)) (by kernel_rfl) (fun w _ => by kernel_rfl) ?_
          refine LL.op (.slice Aa0_1 a0_1.length ca0_1) (by kernel_rfl) (ld 0 g1089 1 rfl (by kernel_rfl) rfl (by kernel_rfl)) ?_
          refine LL.op (.pointer (some ⟨g1089, 2, none⟩)) (by kernel_rfl) (fun w _ => by kernel_rfl) ?_
          refine LL.op (.slice Aa0_2 a0_2.length ca0_2) (by kernel_rfl) (ld 0 g1089 2 rfl (by kernel_rfl) rfl (by kernel_rfl)) ?_
          obtain ⟨⟨x1098_1, x1098_2⟩, hx1098, H⟩ := bind_some H
          (try dsimp only at H)
          refine LL.callR (enc := enc3) (m := 1) (l := x1098_1) 14 #[.slice Aa0_0 a0_0.length ca0_0, .slice Aa0_1 a0_1.length ca0_1, .slice Aa0_2 a0_2.length ca0_2] (fun A_ c_ => .tuple #[.slice A_ x1098_1.length c_, .int .i64 x1098_2]) (by kernel_rfl) (fun w => by kernel_rfl) (fun w hw => assign_Best.calls K a0_0 a0_1 a0_2  _ _ _ _ _ _ _ _ w  (ha0_0.at hw) (ha0_1.at hw) (ha0_2.at hw) hx1098) (fun R1099 F1100 A1101 c1102 le1103 k1104 fr1105 => ?_)
          refine LL.op (.tuple #[.slice A1101 x1098_1.length c1102, .int .i64 x1098_2]) (by kernel_rfl) (fun w _ => by kernel_rfl) ?_
          refine LL.op (.slice A1101 x1098_1.length c1102) (by kernel_rfl) (fun w _ => by kernel_rfl) ?_
          refine LL.op (.int .i64 x1098_2) (by kernel_rfl) (fun w _ => by kernel_rfl) ?_
          refine LL.op (.slice A1101 x1098_1.length c1102) (by kernel_rfl) (fun w _ => by kernel_rfl) ?_
          refine LL.op (.int .i64 x1098_2) (by kernel_rfl) (fun w _ => by kernel_rfl) ?_
          refine LL.done (s' := [(1, .slice Aa1 a1.length ca1), (2, .pointer (some ⟨g1089, 0, none⟩)), (4, .bool false), (5, .slice A1101 x1098_1.length c1102), (6, .int .i64 x1098_2)]) [1, 2, 4, 5, 6] (by kernel_rfl) ?_
          refine NN.then ?_
          refine J.seq ?_
          refine J.seq ?_
          refine J.held follows ?_
          refine HH.take 0 (.int .i64 x1098_2) rfl (by kernel_rfl) (by kernel_rfl) (fun _ h => h) (fun w _ => by kernel_rfl) ?_
          refine HH.take 1 (.bool (!(x1098_2 == 0))) rfl (by kernel_rfl) (by kernel_rfl) (fun _ h => h) (fun w _ => by kernel_rfl) ?_
          refine HH.take 2 (.bool (!(x1098_2 == 0))) rfl (by kernel_rfl) (by kernel_rfl) (fun _ h => h) (fun w _ => by kernel_rfl) ?_
          rcases Bool.eq_false_or_eq_true ((x1098_2 == 0)) with c1106 | c1106
          · rw [if_pos (eq_of_beq c1106)] at H
            refine HH.bool 42 (!(x1098_2 == 0)) false (by rw [show (!(x1098_2 == 0)) = !((x1098_2 == 0)) from rfl, c1106]; rfl) (by kernel_rfl) ?_
            obtain ⟨x1107, hx1107, H⟩ := bind_some H
            refine HH.take 3 (.pointer (some ⟨g1089, 0, none⟩)) rfl (by kernel_rfl) (by kernel_rfl) (fun _ h => h) (fun w _ => by kernel_rfl) ?_
            refine HH.take 4 (.slice Aa0_0 a0_0.length ca0_0) rfl (by kernel_rfl) (by kernel_rfl) (fun _ h => h) (ld 0 g1089 0 rfl (by kernel_rfl) rfl (by kernel_rfl)) ?_
            refine HH.take 5 (.pointer (some ⟨g1089, 2, none⟩)) rfl (by kernel_rfl) (by kernel_rfl) (fun _ h => h) (fun w _ => by kernel_rfl) ?_
            refine HH.take 6 (.slice Aa0_2 a0_2.length ca0_2) rfl (by kernel_rfl) (by kernel_rfl) (fun _ h => h) (ld 0 g1089 2 rfl (by kernel_rfl) rfl (by kernel_rfl)) ?_
            refine HH.take 7 (.slice Aa1 a1.length ca1) rfl (by kernel_rfl) (by kernel_rfl) (fun _ h => h) (fun w _ => by kernel_rfl) ?_
            refine HH.all1 8 (by kernel_rfl) ?_
            refine HS.call 15 #[.slice Aa0_0 a0_0.length ca0_0, .slice Aa0_2 a0_2.length ca0_2, .slice Aa1 a1.length ca1] (.bool x1107) rfl (by kernel_rfl) (fun w => by kernel_rfl) (fun _ h => h) (fun w hw => assign_Valid.calls K a0_0 a0_2 a1  _ _ _ _ _ _ _ w  ((ha0_0.le le1103).at hw) ((ha0_2.le le1103).at hw) ((ha1.le le1103).at hw) hx1107) ?_
            refine HH.take 9 (.bool (!x1107)) rfl (by kernel_rfl) (by kernel_rfl) (fun _ h => h) (fun w _ => by kernel_rfl) ?_
            refine HH.take 10 (.bool (!x1107)) rfl (by kernel_rfl) (by kernel_rfl) (fun _ h => h) (fun w _ => by kernel_rfl) ?_
            refine HH.take 11 (.bool (!x1107)) rfl (by kernel_rfl) (by kernel_rfl) (fun _ h => h) (fun w _ => by kernel_rfl) ?_
            rcases Bool.eq_false_or_eq_true (x1107) with c1108 | c1108
            · rw [if_pos (c1108)] at H
              refine HH.bool 51 (!x1107) false (by rw [show (!x1107) = !(x1107) from rfl, c1108]; rfl) (by kernel_rfl) ?_
              refine HH.take 12 (.slice A1101 x1098_1.length c1102) rfl (by kernel_rfl) (by kernel_rfl) (fun _ h => h) (fun w _ => by kernel_rfl) ?_
              refine HH.take 13 (.int .i64 (x1098_1.length : Int)) rfl (by kernel_rfl) (by kernel_rfl) (fun _ h => h) (fun w _ => by kernel_rfl) ?_
              refine HH.take 14 (.slice Aa1 a1.length ca1) rfl (by kernel_rfl) (by kernel_rfl) (fun _ h => h) (fun w _ => by kernel_rfl) ?_
              refine HH.take 15 (.int .i64 (a1.length : Int)) rfl (by kernel_rfl) (by kernel_rfl) (fun _ h => h) (fun w _ => by kernel_rfl) ?_
              refine HH.take 16 (.bool (!((x1098_1.length : Int) == (a1.length : Int)))) rfl (by kernel_rfl) (by kernel_rfl) (fun _ h => h) (fun w _ => by kernel_rfl) ?_
              refine HH.take 17 (.bool (!((x1098_1.length : Int) == (a1.length : Int)))) rfl (by kernel_rfl) (by kernel_rfl) (fun _ h => h) (fun w _ => by kernel_rfl) ?_
              refine HH.take 18 (.bool (!((x1098_1.length : Int) == (a1.length : Int)))) rfl (by kernel_rfl) (by kernel_rfl) (fun _ h => h) (fun w _ => by kernel_rfl) ?_
              rcases Bool.eq_false_or_eq_true (((x1098_1.length : Int) == (a1.length : Int))) with c1109 | c1109
              · rw [if_pos (eq_of_beq c1109)] at H
                refine HH.bool 58 (!((x1098_1.length : Int) == (a1.length : Int))) false (by rw [show (!((x1098_1.length : Int) == (a1.length : Int))) = !(((x1098_1.length : Int) == (a1.length : Int))) from rfl, c1109]; rfl) (by kernel_rfl) ?_
                obtain ⟨x1110, hx1110, H⟩ := bind_some H
                obtain ⟨x1118, hx1118, H⟩ := bind_some H
                obtain ⟨x1126, hx1126, H⟩ := bind_some H
                refine HH.take 19 (.pointer (some ⟨g1089, 0, none⟩)) rfl (by kernel_rfl) (by kernel_rfl) (fun _ h => h) (fun w _ => by kernel_rfl) ?_
                refine HH.take 20 (.slice Aa0_0 a0_0.length ca0_0) rfl (by kernel_rfl) (by kernel_rfl) (fun _ h => h) (ld 0 g1089 0 rfl (by kernel_rfl) rfl (by kernel_rfl)) ?_
                refine HH.take 21 (.int .i64 (a0_0.length : Int)) rfl (by kernel_rfl) (by kernel_rfl) (fun _ h => h) (fun w _ => by kernel_rfl) ?_
                refine HH.take 22 (.slice A1101 x1098_1.length c1102) rfl (by kernel_rfl) (by kernel_rfl) (fun _ h => h) (fun w _ => by kernel_rfl) ?_
                refine HH.take 24 (.pointer (some ⟨g1089, 0, none⟩)) rfl (by kernel_rfl) (by kernel_rfl) (fun _ h => h) (fun w _ => by kernel_rfl) ?_
                refine HH.take 25 (.slice Aa0_0 a0_0.length ca0_0) rfl (by kernel_rfl) (by kernel_rfl) (fun _ h => h) (ld 0 g1089 0 rfl (by kernel_rfl) rfl (by kernel_rfl)) ?_
                refine HH.take 26 (.int .i64 (a0_0.length : Int)) rfl (by kernel_rfl) (by kernel_rfl) (fun _ h => h) (fun w _ => by kernel_rfl) ?_
                refine HH.take 27 (.slice Aa1 a1.length ca1) rfl (by kernel_rfl) (by kernel_rfl) (fun _ h => h) (fun w _ => by kernel_rfl) ?_
                refine HH.all1 23 (by kernel_rfl) ?_
                refine HS.callR (enc := enc3) (m := 1) (l := x1110) 22 #[.int .i64 (a0_0.length : Int), .slice A1101 x1098_1.length c1102] (fun A_ c_ => .slice A_ x1110.length c_) rfl (by kernel_rfl) (fun w => by kernel_rfl) (fun _ h => h) (fun w hw => sawmillref48_CountsOf.calls K (a0_0.length : Int) x1098_1  _ _ _ w  (k1104.at hw) hx1110) (fun R1127 F1128 A1129 c1130 le1131 k1132 fr1133 => ?_)
                refine HH.all1 28 (by kernel_rfl) ?_
                refine HS.callR (enc := enc3) (m := 1) (l := x1118) 22 #[.int .i64 (a0_0.length : Int), .slice Aa1 a1.length ca1] (fun A_ c_ => .slice A_ x1118.length c_) rfl (by kernel_rfl) (fun w => by kernel_rfl) (fun _ h => (h).back le1131) (fun w hw => sawmillref48_CountsOf.calls K (a0_0.length : Int) a1  _ _ _ w  (((ha1.le le1103).le le1131).at hw) hx1118) (fun R1134 F1135 A1136 c1137 le1138 k1139 fr1140 => ?_)
                refine HH.all1 29 (by kernel_rfl) ?_
                refine HS.call 23 #[.slice A1129 x1110.length c1130, .slice A1136 x1118.length c1137] (.bool x1126) rfl (by kernel_rfl) (fun w => by kernel_rfl) (fun _ h => ((h).back le1138).back le1131) (fun w hw => sawmilllaw48_ints.calls K x1110 x1118  _ _ _ _ _ w  ((k1132.le le1138).at hw) (k1139.at hw) hx1126) ?_
                refine HH.take 30 (.bool (!x1126)) rfl (by kernel_rfl) (by kernel_rfl) (fun _ h => ((h).back le1138).back le1131) (fun w _ => by kernel_rfl) ?_
                refine HH.take 31 (.bool (!x1126)) rfl (by kernel_rfl) (by kernel_rfl) (fun _ h => ((h).back le1138).back le1131) (fun w _ => by kernel_rfl) ?_
                refine HH.done (s' := [(1, .slice Aa1 a1.length ca1), (2, .pointer (some ⟨g1089, 0, none⟩)), (4, .bool false), (5, .slice A1101 x1098_1.length c1102), (6, .int .i64 x1098_2), (71, .bool (!x1126))]) [1, 2, 4, 5, 6, 71] (by kernel_rfl) (by kernel_rfl) ?_
                refine NN.then ?_
                rcases Bool.eq_false_or_eq_true (x1126) with c1141 | c1141
                · rw [if_pos (c1141)] at H
                  refine J.condF (b := !x1126) (by rw [show (!x1126) = !(x1126) from rfl, c1141]; rfl) (by kernel_rfl) (by kernel_rfl) ?_
                  refine J.skip ?_
                  refine NN.then ?_
                  refine J.seq ?_
                  refine J.seq ?_
                  refine J.plain ?_
                  refine LL.op (.int .i64 0) (by kernel_rfl) (fun w _ => by kernel_rfl) ?_
                  refine LL.done (s' := [(1, .slice Aa1 a1.length ca1), (4, .bool false), (5, .slice A1101 x1098_1.length c1102), (7, .int .i64 0)]) [1, 4, 5, 7] (by kernel_rfl) ?_
                  refine NN.then ?_
                  refine J.block ?_
                  refine J.to [1, 4, 5, 7] (s' := [(1, .slice Aa1 a1.length ca1), (4, .bool false), (5, .slice A1101 x1098_1.length c1102), (7, .int .i64 0)]) (by kernel_rfl) ?_
                  refine J.loop (fun n_ s_ bs_ => ∃ (x7l0 : Int), sawmilllaw48_AssignFirst.l0 K a1 x1098_1 n_ x7l0 = some r1 ∧ s_ = [(1, .slice Aa1 a1.length ca1), (4, .bool false), (5, .slice A1101 x1098_1.length c1102), (7, .int .i64 x7l0)] ∧ [(g1089, cl [.slice Aa0_0 a0_0.length ca0_0, .slice Aa0_1 a0_1.length ca0_1, .slice Aa0_2 a0_2.length ca0_2] 51)] = bs_) K ⟨0, H, rfl, rfl⟩ ?_
                  rintro (_ | n_) s_ bs_ ⟨x7l0, H, rfl, rfl⟩
                  · exact absurd H (by simp [sawmilllaw48_AssignFirst.l0])
                  simp only [sawmilllaw48_AssignFirst.l0] at H
                  refine J.seq ?_
                  refine J.seq ?_
                  refine J.plain ?_
                  refine LL.op (.int .i64 x7l0) (by kernel_rfl) (fun w _ => by kernel_rfl) ?_
                  refine LL.op (.slice Aa1 a1.length ca1) (by kernel_rfl) (fun w _ => by kernel_rfl) ?_
                  refine LL.op (.int .i64 (a1.length : Int)) (by kernel_rfl) (fun w _ => by kernel_rfl) ?_
                  refine LL.op (.bool (decide (x7l0 < (a1.length : Int)))) (by kernel_rfl) (fun w _ => by kernel_rfl) ?_
                  refine LL.done (s' := [(1, .slice Aa1 a1.length ca1), (4, .bool false), (5, .slice A1101 x1098_1.length c1102), (7, .int .i64 x7l0), (88, .bool (decide (x7l0 < (a1.length : Int))))]) [1, 4, 5, 7, 88] (by kernel_rfl) ?_
                  refine NN.then ?_
                  rcases Bool.eq_false_or_eq_true (decide (x7l0 < (a1.length : Int))) with c1144 | c1144
                  · rw [if_pos (of_decide_eq_true c1144)] at H
                    refine J.condT (b := decide (x7l0 < (a1.length : Int))) c1144 (by kernel_rfl) (by kernel_rfl) ?_
                    refine J.skip ?_
                    refine NN.then ?_
                    refine J.seq ?_
                    refine J.block ?_
                    refine J.seq ?_
                    refine J.drawn follows (by kernel_rfl) ?_
                    refine QQ.op (.slice A1101 x1098_1.length c1102) (by kernel_rfl) (fun w _ => by kernel_rfl) ?_
                    refine QQ.op (.int .i64 x7l0) (by kernel_rfl) (fun w _ => by kernel_rfl) ?_
                    obtain ⟨e1145, he1145, H⟩ := bind_some H
                    refine QQ.op (.pointer (rp A1101 (x7l0.toNat * 1 + 0))) (by kernel_rfl) (idxR (cp := c1102) (ik := .i64) ((k1104.le le1131).le le1138) he1145 rfl (by kernel_rfl) (by kernel_rfl) (by kernel_rfl)) ?_
                    refine QQ.op (.int .i64 e1145) (by kernel_rfl) (ldR (off := 0) ((k1104.le le1131).le le1138) he1145 rfl (by kernel_rfl) (by kernel_rfl)) ?_
                    refine QQ.op (.slice Aa1 a1.length ca1) (by kernel_rfl) (fun w _ => by kernel_rfl) ?_
                    refine QQ.op (.int .i64 x7l0) (by kernel_rfl) (fun w _ => by kernel_rfl) ?_
                    obtain ⟨e1146, he1146, H⟩ := bind_some H
                    refine QQ.op (.pointer (rp Aa1 (x7l0.toNat * 1 + 0))) (by kernel_rfl) (idxR (cp := ca1) (ik := .i64) (((ha1.le le1103).le le1131).le le1138) he1146 rfl (by kernel_rfl) (by kernel_rfl) (by kernel_rfl)) ?_
                    refine QQ.op (.int .i64 e1146) (by kernel_rfl) (ldR (off := 0) (((ha1.le le1103).le le1131).le le1138) he1146 rfl (by kernel_rfl) (by kernel_rfl)) ?_
                    refine QQ.op (.bool (!(e1145 == e1146))) (by kernel_rfl) (fun w _ => by kernel_rfl) ?_
                    refine QQ.done (s' := [(1, .slice Aa1 a1.length ca1), (4, .bool false), (5, .slice A1101 x1098_1.length c1102), (7, .int .i64 x7l0), (99, .bool (!(e1145 == e1146)))]) [1, 4, 5, 7, 99] (by kernel_rfl) ?_
                    refine NN.then ?_
                    rcases Bool.eq_false_or_eq_true ((e1145 == e1146)) with c1147 | c1147
                    · rw [if_pos (eq_of_beq c1147)] at H
                      refine J.condF (b := !(e1145 == e1146)) (by rw [show (!(e1145 == e1146)) = !((e1145 == e1146)) from rfl, c1147]; rfl) (by kernel_rfl) (by kernel_rfl) ?_
                      refine J.skip ?_
                      refine NN.block_n ?_
                      refine NN.then ?_
                      refine J.plain ?_
                      refine LL.op (.int .i64 x7l0) (by kernel_rfl) (fun w _ => by kernel_rfl) ?_
                      refine LL.op (.int .i64 (IntKind.i64.wrap (x7l0 + 1))) (by kernel_rfl) (fun w _ => by kernel_rfl) ?_
                      refine LL.op (.int .i64 (IntKind.i64.wrap (x7l0 + 1))) (by kernel_rfl) (fun w _ => by kernel_rfl) ?_
                      refine LL.done (s' := [(1, .slice Aa1 a1.length ca1), (4, .bool false), (5, .slice A1101 x1098_1.length c1102), (7, .int .i64 (IntKind.i64.wrap (x7l0 + 1)))]) [1, 4, 5, 7] (by kernel_rfl) ?_
                      exact NN.round' [1, 4, 5, 7] (bs' := [(g1089, cl [.slice Aa0_0 a0_0.length ca0_0, .slice Aa0_1 a0_1.length ca0_1, .slice Aa0_2 a0_2.length ca0_2] 51)]) (Nat.lt_succ_self _) (List.Sublist.refl _) (by kernel_rfl) ⟨IntKind.i64.wrap (x7l0 + 1), H, rfl, rfl⟩
                    · rw [if_neg (nebf c1147)] at H
                      refine J.condT (b := !(e1145 == e1146)) (by rw [show (!(e1145 == e1146)) = !((e1145 == e1146)) from rfl, c1147]; rfl) (by kernel_rfl) (by kernel_rfl) ?_
                      refine J.seq ?_
                      refine J.drawn follows (by kernel_rfl) ?_
                      refine QQ.op (.slice A1101 x1098_1.length c1102) (by kernel_rfl) (fun w _ => by kernel_rfl) ?_
                      refine QQ.op (.int .i64 x7l0) (by kernel_rfl) (fun w _ => by kernel_rfl) ?_
                      refine QQ.op (.pointer (rp A1101 (x7l0.toNat * 1 + 0))) (by kernel_rfl) (idxR (cp := c1102) (ik := .i64) ((k1104.le le1131).le le1138) he1145 rfl (by kernel_rfl) (by kernel_rfl) (by kernel_rfl)) ?_
                      refine QQ.op (.int .i64 e1145) (by kernel_rfl) (ldR (off := 0) ((k1104.le le1131).le le1138) he1145 rfl (by kernel_rfl) (by kernel_rfl)) ?_
                      refine QQ.op (.bool (decide (0 ≤ e1145))) (by kernel_rfl) (fun w _ => by kernel_rfl) ?_
                      refine QQ.op (.bool (decide (0 ≤ e1145))) (by kernel_rfl) (fun w _ => by kernel_rfl) ?_
                      rcases Bool.eq_false_or_eq_true (decide (0 ≤ e1145)) with c1148 | c1148
                      · rw [if_pos (of_decide_eq_true c1148)] at H
                        refine QQ.bool 105 (decide (0 ≤ e1145)) true c1148 (by kernel_rfl) ?_
                        refine QQ.op (.slice Aa1 a1.length ca1) (by kernel_rfl) (fun w _ => by kernel_rfl) ?_
                        refine QQ.op (.int .i64 x7l0) (by kernel_rfl) (fun w _ => by kernel_rfl) ?_
                        refine QQ.op (.pointer (rp Aa1 (x7l0.toNat * 1 + 0))) (by kernel_rfl) (idxR (cp := ca1) (ik := .i64) (((ha1.le le1103).le le1131).le le1138) he1146 rfl (by kernel_rfl) (by kernel_rfl) (by kernel_rfl)) ?_
                        refine QQ.op (.int .i64 e1146) (by kernel_rfl) (ldR (off := 0) (((ha1.le le1103).le le1131).le le1138) he1146 rfl (by kernel_rfl) (by kernel_rfl)) ?_
                        refine QQ.op (.bool (decide (e1146 < 0))) (by kernel_rfl) (fun w _ => by kernel_rfl) ?_
                        refine QQ.op (.bool (decide (e1146 < 0))) (by kernel_rfl) (fun w _ => by kernel_rfl) ?_
                        rcases Bool.eq_false_or_eq_true (decide (e1146 < 0)) with c1149 | c1149
                        · rw [if_pos (of_decide_eq_true c1149)] at H
                          refine QQ.bool 111 (decide (e1146 < 0)) true c1149 (by kernel_rfl) ?_
                          refine QQ.off (by kernel_rfl) (by kernel_rfl) ?_
                          refine QQ.off (by kernel_rfl) (by kernel_rfl) ?_
                          refine QQ.off (by kernel_rfl) (by kernel_rfl) ?_
                          refine QQ.off (by kernel_rfl) (by kernel_rfl) ?_
                          refine QQ.off (by kernel_rfl) (by kernel_rfl) ?_
                          refine QQ.off (by kernel_rfl) (by kernel_rfl) ?_
                          refine QQ.off (by kernel_rfl) (by kernel_rfl) ?_
                          refine QQ.off (by kernel_rfl) (by kernel_rfl) ?_
                          refine QQ.off (by kernel_rfl) (by kernel_rfl) ?_
                          refine QQ.op (.bool true) (by kernel_rfl) (fun w _ => by kernel_rfl) ?_
                          refine QQ.op (.bool true) (by kernel_rfl) (fun w _ => by kernel_rfl) ?_
                          refine QQ.op (.bool true) (by kernel_rfl) (fun w _ => by kernel_rfl) ?_
                          obtain ⟨x1150, hx1150, H⟩ := bind_some H
                          refine QQ.call 18 #[] (.bool x1150) (by kernel_rfl) (fun w => by kernel_rfl) (fun w hw => sawmilllaw48_awake.calls K    _ w   hx1150) ?_
                          refine QQ.op (.bool x1150) (by kernel_rfl) (fun w _ => by kernel_rfl) ?_
                          refine QQ.op (.bool x1150) (by kernel_rfl) (fun w _ => by kernel_rfl) ?_
                          refine QQ.done (s' := [(1, .slice Aa1 a1.length ca1), (4, .bool x1150), (5, .slice A1101 x1098_1.length c1102), (7, .int .i64 x7l0)]) [1, 4, 5, 7] (by kernel_rfl) ?_
                          refine NN.then ?_
                          refine J.ret ?_
                          refine NN.block_ret ?_
                          refine NN.then_ret ?_
                          refine NN.then_ret ?_
                          refine NN.block_ret ?_
                          refine NN.then_ret ?_
                          refine NN.fin1 4 (.bool x1150) (by kernel_rfl) (by kernel_rfl) (.inl rfl) (fun w hi => hi.ret ?_)
                          first | (cases H; rfl) | (obtain rfl := Option.some.inj H; rfl) | (simp only [Option.some.injEq, Prod.mk.injEq] at H; obtain ⟨rfl⟩ := H; rfl)
                        · rw [if_neg (of_decide_eq_false c1149)] at H
                          refine QQ.bool 111 (decide (e1146 < 0)) false c1149 (by kernel_rfl) ?_
                          refine QQ.op (.slice A1101 x1098_1.length c1102) (by kernel_rfl) (fun w _ => by kernel_rfl) ?_
                          refine QQ.op (.int .i64 x7l0) (by kernel_rfl) (fun w _ => by kernel_rfl) ?_
                          refine QQ.op (.pointer (rp A1101 (x7l0.toNat * 1 + 0))) (by kernel_rfl) (idxR (cp := c1102) (ik := .i64) ((k1104.le le1131).le le1138) he1145 rfl (by kernel_rfl) (by kernel_rfl) (by kernel_rfl)) ?_
                          refine QQ.op (.int .i64 e1145) (by kernel_rfl) (ldR (off := 0) ((k1104.le le1131).le le1138) he1145 rfl (by kernel_rfl) (by kernel_rfl)) ?_
                          refine QQ.op (.slice Aa1 a1.length ca1) (by kernel_rfl) (fun w _ => by kernel_rfl) ?_
                          refine QQ.op (.int .i64 x7l0) (by kernel_rfl) (fun w _ => by kernel_rfl) ?_
                          refine QQ.op (.pointer (rp Aa1 (x7l0.toNat * 1 + 0))) (by kernel_rfl) (idxR (cp := ca1) (ik := .i64) (((ha1.le le1103).le le1131).le le1138) he1146 rfl (by kernel_rfl) (by kernel_rfl) (by kernel_rfl)) ?_
                          refine QQ.op (.int .i64 e1146) (by kernel_rfl) (ldR (off := 0) (((ha1.le le1103).le le1131).le le1138) he1146 rfl (by kernel_rfl) (by kernel_rfl)) ?_
                          refine QQ.op (.bool (decide (e1145 < e1146))) (by kernel_rfl) (fun w _ => by kernel_rfl) ?_
                          refine QQ.op (.bool (decide (e1145 < e1146))) (by kernel_rfl) (fun w _ => by kernel_rfl) ?_
                          refine QQ.op (.bool (decide (e1145 < e1146))) (by kernel_rfl) (fun w _ => by kernel_rfl) ?_
                          refine QQ.op (.bool (decide (e1145 < e1146))) (by kernel_rfl) (fun w _ => by kernel_rfl) ?_
                          rcases Bool.eq_false_or_eq_true (decide (e1145 < e1146)) with c1151 | c1151
                          · rw [if_pos (of_decide_eq_true c1151)] at H
                            refine QQ.bool 123 (decide (e1145 < e1146)) true c1151 (by kernel_rfl) ?_
                            obtain ⟨x1152, hx1152, H⟩ := bind_some H
                            refine QQ.call 18 #[] (.bool x1152) (by kernel_rfl) (fun w => by kernel_rfl) (fun w hw => sawmilllaw48_awake.calls K    _ w   hx1152) ?_
                            refine QQ.op (.bool x1152) (by kernel_rfl) (fun w _ => by kernel_rfl) ?_
                            refine QQ.op (.bool x1152) (by kernel_rfl) (fun w _ => by kernel_rfl) ?_
                            refine QQ.done (s' := [(1, .slice Aa1 a1.length ca1), (4, .bool x1152), (5, .slice A1101 x1098_1.length c1102), (7, .int .i64 x7l0)]) [1, 4, 5, 7] (by kernel_rfl) ?_
                            refine NN.then ?_
                            refine J.ret ?_
                            refine NN.block_ret ?_
                            refine NN.then_ret ?_
                            refine NN.then_ret ?_
                            refine NN.block_ret ?_
                            refine NN.then_ret ?_
                            refine NN.fin1 4 (.bool x1152) (by kernel_rfl) (by kernel_rfl) (.inl rfl) (fun w hi => hi.ret ?_)
                            first | (cases H; rfl) | (obtain rfl := Option.some.inj H; rfl) | (simp only [Option.some.injEq, Prod.mk.injEq] at H; obtain ⟨rfl⟩ := H; rfl)
                          · rw [if_neg (of_decide_eq_false c1151)] at H
                            refine QQ.bool 123 (decide (e1145 < e1146)) false c1151 (by kernel_rfl) ?_
                            refine QQ.off (by kernel_rfl) (by kernel_rfl) ?_
                            refine QQ.op (.bool false) (by kernel_rfl) (fun w _ => by kernel_rfl) ?_
                            refine QQ.op (.bool false) (by kernel_rfl) (fun w _ => by kernel_rfl) ?_
                            refine QQ.done (s' := [(1, .slice Aa1 a1.length ca1), (4, .bool false), (5, .slice A1101 x1098_1.length c1102), (7, .int .i64 x7l0)]) [1, 4, 5, 7] (by kernel_rfl) ?_
                            refine NN.then ?_
                            refine J.ret ?_
                            refine NN.block_ret ?_
                            refine NN.then_ret ?_
                            refine NN.then_ret ?_
                            refine NN.block_ret ?_
                            refine NN.then_ret ?_
                            refine NN.fin1 4 (.bool false) (by kernel_rfl) (by kernel_rfl) (.inl rfl) (fun w hi => hi.ret ?_)
                            first | (cases H; rfl) | (obtain rfl := Option.some.inj H; rfl) | (simp only [Option.some.injEq, Prod.mk.injEq] at H; obtain ⟨rfl⟩ := H; rfl)
                      · rw [if_neg (of_decide_eq_false c1148)] at H
                        refine QQ.bool 105 (decide (0 ≤ e1145)) false c1148 (by kernel_rfl) ?_
                        refine QQ.off (by kernel_rfl) (by kernel_rfl) ?_
                        refine QQ.off (by kernel_rfl) (by kernel_rfl) ?_
                        refine QQ.off (by kernel_rfl) (by kernel_rfl) ?_
                        refine QQ.off (by kernel_rfl) (by kernel_rfl) ?_
                        refine QQ.off (by kernel_rfl) (by kernel_rfl) ?_
                        refine QQ.off (by kernel_rfl) (by kernel_rfl) ?_
                        refine QQ.off (by kernel_rfl) (by kernel_rfl) ?_
                        refine QQ.off (by kernel_rfl) (by kernel_rfl) ?_
                        refine QQ.off (by kernel_rfl) (by kernel_rfl) ?_
                        refine QQ.off (by kernel_rfl) (by kernel_rfl) ?_
                        refine QQ.off (by kernel_rfl) (by kernel_rfl) ?_
                        refine QQ.off (by kernel_rfl) (by kernel_rfl) ?_
                        refine QQ.off (by kernel_rfl) (by kernel_rfl) ?_
                        refine QQ.off (by kernel_rfl) (by kernel_rfl) ?_
                        refine QQ.off (by kernel_rfl) (by kernel_rfl) ?_
                        refine QQ.off (by kernel_rfl) (by kernel_rfl) ?_
                        refine QQ.op (.bool false) (by kernel_rfl) (fun w _ => by kernel_rfl) ?_
                        refine QQ.op (.bool false) (by kernel_rfl) (fun w _ => by kernel_rfl) ?_
                        refine QQ.off (by kernel_rfl) (by kernel_rfl) ?_
                        refine QQ.op (.bool false) (by kernel_rfl) (fun w _ => by kernel_rfl) ?_
                        refine QQ.op (.bool false) (by kernel_rfl) (fun w _ => by kernel_rfl) ?_
                        refine QQ.done (s' := [(1, .slice Aa1 a1.length ca1), (4, .bool false), (5, .slice A1101 x1098_1.length c1102), (7, .int .i64 x7l0)]) [1, 4, 5, 7] (by kernel_rfl) ?_
                        refine NN.then ?_
                        refine J.ret ?_
                        refine NN.block_ret ?_
                        refine NN.then_ret ?_
                        refine NN.then_ret ?_
                        refine NN.block_ret ?_
                        refine NN.then_ret ?_
                        refine NN.fin1 4 (.bool false) (by kernel_rfl) (by kernel_rfl) (.inl rfl) (fun w hi => hi.ret ?_)
                        first | (cases H; rfl) | (obtain rfl := Option.some.inj H; rfl) | (simp only [Option.some.injEq, Prod.mk.injEq] at H; obtain ⟨rfl⟩ := H; rfl)
                  · rw [if_neg (of_decide_eq_false c1144)] at H
                    refine J.condF (b := decide (x7l0 < (a1.length : Int))) c1144 (by kernel_rfl) (by kernel_rfl) ?_
                    refine J.exit ?_
                    refine NN.then_exit ?_
                    refine NN.then_exit ?_
                    refine NN.block_same ?_
                    refine NN.then ?_
                    refine J.seq ?_
                    refine J.plain ?_
                    obtain ⟨x1153, hx1153, H⟩ := bind_some H
                    refine LL.call 18 #[] (.bool x1153) (by kernel_rfl) (fun w => by kernel_rfl) (fun w hw => sawmilllaw48_awake.calls K    _ w   hx1153) ?_
                    refine LL.op (.bool x1153) (by kernel_rfl) (fun w _ => by kernel_rfl) ?_
                    refine LL.done (s' := [(4, .bool x1153)]) [4] (by kernel_rfl) ?_
                    refine NN.then ?_
                    refine J.ret ?_
                    refine NN.fin1 4 (.bool x1153) (by kernel_rfl) (by kernel_rfl) (.inl rfl) (fun w hi => hi.ret ?_)
                    first | (cases H; rfl) | (obtain rfl := Option.some.inj H; rfl) | (simp only [Option.some.injEq, Prod.mk.injEq] at H; obtain ⟨rfl⟩ := H; rfl)
                · rw [if_neg (nebt c1141)] at H
                  refine J.condT (b := !x1126) (by rw [show (!x1126) = !(x1126) from rfl, c1141]; rfl) (by kernel_rfl) (by kernel_rfl) ?_
                  refine J.seq ?_
                  refine J.plain ?_
                  refine LL.op (.int .i64 x1098_2) (by kernel_rfl) (fun w _ => by kernel_rfl) ?_
                  refine LL.op (.bool (!(x1098_2 == 0))) (by kernel_rfl) (fun w _ => by kernel_rfl) ?_
                  refine LL.op (.bool (!(x1098_2 == 0))) (by kernel_rfl) (fun w _ => by kernel_rfl) ?_
                  refine LL.bool 74 (!(x1098_2 == 0)) false (by rw [show (!(x1098_2 == 0)) = !((x1098_2 == 0)) from rfl, c1106]; rfl) (by kernel_rfl) ?_
                  refine LL.op (.pointer (some ⟨g1089, 0, none⟩)) (by kernel_rfl) (fun w _ => by kernel_rfl) ?_
                  refine LL.op (.slice Aa0_0 a0_0.length ca0_0) (by kernel_rfl) (ld 0 g1089 0 rfl (by kernel_rfl) rfl (by kernel_rfl)) ?_
                  refine LL.op (.pointer (some ⟨g1089, 2, none⟩)) (by kernel_rfl) (fun w _ => by kernel_rfl) ?_
                  refine LL.op (.slice Aa0_2 a0_2.length ca0_2) (by kernel_rfl) (ld 0 g1089 2 rfl (by kernel_rfl) rfl (by kernel_rfl)) ?_
                  refine LL.op (.slice A1101 x1098_1.length c1102) (by kernel_rfl) (fun w _ => by kernel_rfl) ?_
                  obtain ⟨x1154, hx1154, H⟩ := bind_some H
                  refine LL.call 15 #[.slice Aa0_0 a0_0.length ca0_0, .slice Aa0_2 a0_2.length ca0_2, .slice A1101 x1098_1.length c1102] (.bool x1154) (by kernel_rfl) (fun w => by kernel_rfl) (fun w hw => assign_Valid.calls K a0_0 a0_2 x1098_1  _ _ _ _ _ _ _ w  ((((ha0_0.le le1103).le le1131).le le1138).at hw) ((((ha0_2.le le1103).le le1131).le le1138).at hw) (((k1104.le le1131).le le1138).at hw) hx1154) ?_
                  refine LL.op (.bool x1154) (by kernel_rfl) (fun w _ => by kernel_rfl) ?_
                  refine LL.op (.bool x1154) (by kernel_rfl) (fun w _ => by kernel_rfl) ?_
                  rcases Bool.eq_false_or_eq_true (x1154) with c1155 | c1155
                  · rw [if_pos (c1155)] at H
                    refine LL.bool 82 (x1154) true c1155 (by kernel_rfl) ?_
                    obtain ⟨x1156, hx1156, H⟩ := bind_some H
                    refine LL.call 18 #[] (.bool x1156) (by kernel_rfl) (fun w => by kernel_rfl) (fun w hw => sawmilllaw48_awake.calls K    _ w   hx1156) ?_
                    refine LL.op (.bool x1156) (by kernel_rfl) (fun w _ => by kernel_rfl) ?_
                    refine LL.op (.bool x1156) (by kernel_rfl) (fun w _ => by kernel_rfl) ?_
                    refine LL.done (s' := [(1, .slice Aa1 a1.length ca1), (4, .bool x1156), (5, .slice A1101 x1098_1.length c1102)]) [1, 4, 5] (by kernel_rfl) ?_
                    refine NN.then ?_
                    refine J.ret ?_
                    refine NN.then_ret ?_
                    refine NN.fin1 4 (.bool x1156) (by kernel_rfl) (by kernel_rfl) (.inl rfl) (fun w hi => hi.ret ?_)
                    first | (cases H; rfl) | (obtain rfl := Option.some.inj H; rfl) | (simp only [Option.some.injEq, Prod.mk.injEq] at H; obtain ⟨rfl⟩ := H; rfl)
                  · rw [if_neg (nebt c1155)] at H
                    refine LL.bool 82 (x1154) false c1155 (by kernel_rfl) ?_
                    refine LL.off (by kernel_rfl) (by kernel_rfl) ?_
                    refine LL.op (.bool false) (by kernel_rfl) (fun w _ => by kernel_rfl) ?_
                    refine LL.op (.bool false) (by kernel_rfl) (fun w _ => by kernel_rfl) ?_
                    refine LL.done (s' := [(1, .slice Aa1 a1.length ca1), (4, .bool false), (5, .slice A1101 x1098_1.length c1102)]) [1, 4, 5] (by kernel_rfl) ?_
                    refine NN.then ?_
                    refine J.ret ?_
                    refine NN.then_ret ?_
                    refine NN.fin1 4 (.bool false) (by kernel_rfl) (by kernel_rfl) (.inl rfl) (fun w hi => hi.ret ?_)
                    first | (cases H; rfl) | (obtain rfl := Option.some.inj H; rfl) | (simp only [Option.some.injEq, Prod.mk.injEq] at H; obtain ⟨rfl⟩ := H; rfl)
              · rw [if_neg (nebf c1109)] at H
                refine HH.bool 58 (!((x1098_1.length : Int) == (a1.length : Int))) true (by rw [show (!((x1098_1.length : Int) == (a1.length : Int))) = !(((x1098_1.length : Int) == (a1.length : Int))) from rfl, c1109]; rfl) (by kernel_rfl) ?_
                refine HH.off 19 rfl (by kernel_rfl) (by kernel_rfl) (by kernel_rfl) (fun _ h => h) ?_
                refine HH.off 20 rfl (by kernel_rfl) (by kernel_rfl) (by kernel_rfl) (fun _ h => h) ?_
                refine HH.off 21 rfl (by kernel_rfl) (by kernel_rfl) (by kernel_rfl) (fun _ h => h) ?_
                refine HH.off 22 rfl (by kernel_rfl) (by kernel_rfl) (by kernel_rfl) (fun _ h => h) ?_
                refine HH.off 23 rfl (by kernel_rfl) (by kernel_rfl) (by kernel_rfl) (fun _ h => h) ?_
                refine HH.off 24 rfl (by kernel_rfl) (by kernel_rfl) (by kernel_rfl) (fun _ h => h) ?_
                refine HH.off 25 rfl (by kernel_rfl) (by kernel_rfl) (by kernel_rfl) (fun _ h => h) ?_
                refine HH.off 26 rfl (by kernel_rfl) (by kernel_rfl) (by kernel_rfl) (fun _ h => h) ?_
                refine HH.off 27 rfl (by kernel_rfl) (by kernel_rfl) (by kernel_rfl) (fun _ h => h) ?_
                refine HH.off 28 rfl (by kernel_rfl) (by kernel_rfl) (by kernel_rfl) (fun _ h => h) ?_
                refine HH.off 29 rfl (by kernel_rfl) (by kernel_rfl) (by kernel_rfl) (fun _ h => h) ?_
                refine HH.off 30 rfl (by kernel_rfl) (by kernel_rfl) (by kernel_rfl) (fun _ h => h) ?_
                refine HH.take 31 (.bool true) rfl (by kernel_rfl) (by kernel_rfl) (fun _ h => h) (fun w _ => by kernel_rfl) ?_
                refine HH.done (s' := [(1, .slice Aa1 a1.length ca1), (2, .pointer (some ⟨g1089, 0, none⟩)), (4, .bool false), (5, .slice A1101 x1098_1.length c1102), (6, .int .i64 x1098_2), (71, .bool true)]) [1, 2, 4, 5, 6, 71] (by kernel_rfl) (by kernel_rfl) ?_
                refine NN.then ?_
                refine J.condT (b := true) rfl (by kernel_rfl) (by kernel_rfl) ?_
                refine J.seq ?_
                refine J.plain ?_
                refine LL.op (.int .i64 x1098_2) (by kernel_rfl) (fun w _ => by kernel_rfl) ?_
                refine LL.op (.bool (!(x1098_2 == 0))) (by kernel_rfl) (fun w _ => by kernel_rfl) ?_
                refine LL.op (.bool (!(x1098_2 == 0))) (by kernel_rfl) (fun w _ => by kernel_rfl) ?_
                refine LL.bool 74 (!(x1098_2 == 0)) false (by rw [show (!(x1098_2 == 0)) = !((x1098_2 == 0)) from rfl, c1106]; rfl) (by kernel_rfl) ?_
                refine LL.op (.pointer (some ⟨g1089, 0, none⟩)) (by kernel_rfl) (fun w _ => by kernel_rfl) ?_
                refine LL.op (.slice Aa0_0 a0_0.length ca0_0) (by kernel_rfl) (ld 0 g1089 0 rfl (by kernel_rfl) rfl (by kernel_rfl)) ?_
                refine LL.op (.pointer (some ⟨g1089, 2, none⟩)) (by kernel_rfl) (fun w _ => by kernel_rfl) ?_
                refine LL.op (.slice Aa0_2 a0_2.length ca0_2) (by kernel_rfl) (ld 0 g1089 2 rfl (by kernel_rfl) rfl (by kernel_rfl)) ?_
                refine LL.op (.slice A1101 x1098_1.length c1102) (by kernel_rfl) (fun w _ => by kernel_rfl) ?_
                obtain ⟨x1157, hx1157, H⟩ := bind_some H
                refine LL.call 15 #[.slice Aa0_0 a0_0.length ca0_0, .slice Aa0_2 a0_2.length ca0_2, .slice A1101 x1098_1.length c1102] (.bool x1157) (by kernel_rfl) (fun w => by kernel_rfl) (fun w hw => assign_Valid.calls K a0_0 a0_2 x1098_1  _ _ _ _ _ _ _ w  ((ha0_0.le le1103).at hw) ((ha0_2.le le1103).at hw) (k1104.at hw) hx1157) ?_
                refine LL.op (.bool x1157) (by kernel_rfl) (fun w _ => by kernel_rfl) ?_
                refine LL.op (.bool x1157) (by kernel_rfl) (fun w _ => by kernel_rfl) ?_
                rcases Bool.eq_false_or_eq_true (x1157) with c1158 | c1158
                · rw [if_pos (c1158)] at H
                  refine LL.bool 82 (x1157) true c1158 (by kernel_rfl) ?_
                  obtain ⟨x1159, hx1159, H⟩ := bind_some H
                  refine LL.call 18 #[] (.bool x1159) (by kernel_rfl) (fun w => by kernel_rfl) (fun w hw => sawmilllaw48_awake.calls K    _ w   hx1159) ?_
                  refine LL.op (.bool x1159) (by kernel_rfl) (fun w _ => by kernel_rfl) ?_
                  refine LL.op (.bool x1159) (by kernel_rfl) (fun w _ => by kernel_rfl) ?_
                  refine LL.done (s' := [(1, .slice Aa1 a1.length ca1), (4, .bool x1159), (5, .slice A1101 x1098_1.length c1102)]) [1, 4, 5] (by kernel_rfl) ?_
                  refine NN.then ?_
                  refine J.ret ?_
                  refine NN.then_ret ?_
                  refine NN.fin1 4 (.bool x1159) (by kernel_rfl) (by kernel_rfl) (.inl rfl) (fun w hi => hi.ret ?_)
                  first | (cases H; rfl) | (obtain rfl := Option.some.inj H; rfl) | (simp only [Option.some.injEq, Prod.mk.injEq] at H; obtain ⟨rfl⟩ := H; rfl)
                · rw [if_neg (nebt c1158)] at H
                  refine LL.bool 82 (x1157) false c1158 (by kernel_rfl) ?_
                  refine LL.off (by kernel_rfl) (by kernel_rfl) ?_
                  refine LL.op (.bool false) (by kernel_rfl) (fun w _ => by kernel_rfl) ?_
                  refine LL.op (.bool false) (by kernel_rfl) (fun w _ => by kernel_rfl) ?_
                  refine LL.done (s' := [(1, .slice Aa1 a1.length ca1), (4, .bool false), (5, .slice A1101 x1098_1.length c1102)]) [1, 4, 5] (by kernel_rfl) ?_
                  refine NN.then ?_
                  refine J.ret ?_
                  refine NN.then_ret ?_
                  refine NN.fin1 4 (.bool false) (by kernel_rfl) (by kernel_rfl) (.inl rfl) (fun w hi => hi.ret ?_)
                  first | (cases H; rfl) | (obtain rfl := Option.some.inj H; rfl) | (simp only [Option.some.injEq, Prod.mk.injEq] at H; obtain ⟨rfl⟩ := H; rfl)
            · rw [if_neg (nebt c1108)] at H
              refine HH.bool 51 (!x1107) true (by rw [show (!x1107) = !(x1107) from rfl, c1108]; rfl) (by kernel_rfl) ?_
              refine HH.off 12 rfl (by kernel_rfl) (by kernel_rfl) (by kernel_rfl) (fun _ h => h) ?_
              refine HH.off 13 rfl (by kernel_rfl) (by kernel_rfl) (by kernel_rfl) (fun _ h => h) ?_
              refine HH.off 14 rfl (by kernel_rfl) (by kernel_rfl) (by kernel_rfl) (fun _ h => h) ?_
              refine HH.off 15 rfl (by kernel_rfl) (by kernel_rfl) (by kernel_rfl) (fun _ h => h) ?_
              refine HH.off 16 rfl (by kernel_rfl) (by kernel_rfl) (by kernel_rfl) (fun _ h => h) ?_
              refine HH.take 17 (.bool true) rfl (by kernel_rfl) (by kernel_rfl) (fun _ h => h) (fun w _ => by kernel_rfl) ?_
              refine HH.take 18 (.bool true) rfl (by kernel_rfl) (by kernel_rfl) (fun _ h => h) (fun w _ => by kernel_rfl) ?_
              refine HH.off 19 rfl (by kernel_rfl) (by kernel_rfl) (by kernel_rfl) (fun _ h => h) ?_
              refine HH.off 20 rfl (by kernel_rfl) (by kernel_rfl) (by kernel_rfl) (fun _ h => h) ?_
              refine HH.off 21 rfl (by kernel_rfl) (by kernel_rfl) (by kernel_rfl) (fun _ h => h) ?_
              refine HH.off 22 rfl (by kernel_rfl) (by kernel_rfl) (by kernel_rfl) (fun _ h => h) ?_
              refine HH.off 23 rfl (by kernel_rfl) (by kernel_rfl) (by kernel_rfl) (fun _ h => h) ?_
              refine HH.off 24 rfl (by kernel_rfl) (by kernel_rfl) (by kernel_rfl) (fun _ h => h) ?_
              refine HH.off 25 rfl (by kernel_rfl) (by kernel_rfl) (by kernel_rfl) (fun _ h => h) ?_
              refine HH.off 26 rfl (by kernel_rfl) (by kernel_rfl) (by kernel_rfl) (fun _ h => h) ?_
              refine HH.off 27 rfl (by kernel_rfl) (by kernel_rfl) (by kernel_rfl) (fun _ h => h) ?_
              refine HH.off 28 rfl (by kernel_rfl) (by kernel_rfl) (by kernel_rfl) (fun _ h => h) ?_
              refine HH.off 29 rfl (by kernel_rfl) (by kernel_rfl) (by kernel_rfl) (fun _ h => h) ?_
              refine HH.off 30 rfl (by kernel_rfl) (by kernel_rfl) (by kernel_rfl) (fun _ h => h) ?_
              refine HH.take 31 (.bool true) rfl (by kernel_rfl) (by kernel_rfl) (fun _ h => h) (fun w _ => by kernel_rfl) ?_
              refine HH.done (s' := [(1, .slice Aa1 a1.length ca1), (2, .pointer (some ⟨g1089, 0, none⟩)), (4, .bool false), (5, .slice A1101 x1098_1.length c1102), (6, .int .i64 x1098_2), (71, .bool true)]) [1, 2, 4, 5, 6, 71] (by kernel_rfl) (by kernel_rfl) ?_
              refine NN.then ?_
              refine J.condT (b := true) rfl (by kernel_rfl) (by kernel_rfl) ?_
              refine J.seq ?_
              refine J.plain ?_
              refine LL.op (.int .i64 x1098_2) (by kernel_rfl) (fun w _ => by kernel_rfl) ?_
              refine LL.op (.bool (!(x1098_2 == 0))) (by kernel_rfl) (fun w _ => by kernel_rfl) ?_
              refine LL.op (.bool (!(x1098_2 == 0))) (by kernel_rfl) (fun w _ => by kernel_rfl) ?_
              refine LL.bool 74 (!(x1098_2 == 0)) false (by rw [show (!(x1098_2 == 0)) = !((x1098_2 == 0)) from rfl, c1106]; rfl) (by kernel_rfl) ?_
              refine LL.op (.pointer (some ⟨g1089, 0, none⟩)) (by kernel_rfl) (fun w _ => by kernel_rfl) ?_
              refine LL.op (.slice Aa0_0 a0_0.length ca0_0) (by kernel_rfl) (ld 0 g1089 0 rfl (by kernel_rfl) rfl (by kernel_rfl)) ?_
              refine LL.op (.pointer (some ⟨g1089, 2, none⟩)) (by kernel_rfl) (fun w _ => by kernel_rfl) ?_
              refine LL.op (.slice Aa0_2 a0_2.length ca0_2) (by kernel_rfl) (ld 0 g1089 2 rfl (by kernel_rfl) rfl (by kernel_rfl)) ?_
              refine LL.op (.slice A1101 x1098_1.length c1102) (by kernel_rfl) (fun w _ => by kernel_rfl) ?_
              obtain ⟨x1160, hx1160, H⟩ := bind_some H
              refine LL.call 15 #[.slice Aa0_0 a0_0.length ca0_0, .slice Aa0_2 a0_2.length ca0_2, .slice A1101 x1098_1.length c1102] (.bool x1160) (by kernel_rfl) (fun w => by kernel_rfl) (fun w hw => assign_Valid.calls K a0_0 a0_2 x1098_1  _ _ _ _ _ _ _ w  ((ha0_0.le le1103).at hw) ((ha0_2.le le1103).at hw) (k1104.at hw) hx1160) ?_
              refine LL.op (.bool x1160) (by kernel_rfl) (fun w _ => by kernel_rfl) ?_
              refine LL.op (.bool x1160) (by kernel_rfl) (fun w _ => by kernel_rfl) ?_
              rcases Bool.eq_false_or_eq_true (x1160) with c1161 | c1161
              · rw [if_pos (c1161)] at H
                refine LL.bool 82 (x1160) true c1161 (by kernel_rfl) ?_
                obtain ⟨x1162, hx1162, H⟩ := bind_some H
                refine LL.call 18 #[] (.bool x1162) (by kernel_rfl) (fun w => by kernel_rfl) (fun w hw => sawmilllaw48_awake.calls K    _ w   hx1162) ?_
                refine LL.op (.bool x1162) (by kernel_rfl) (fun w _ => by kernel_rfl) ?_
                refine LL.op (.bool x1162) (by kernel_rfl) (fun w _ => by kernel_rfl) ?_
                refine LL.done (s' := [(1, .slice Aa1 a1.length ca1), (4, .bool x1162), (5, .slice A1101 x1098_1.length c1102)]) [1, 4, 5] (by kernel_rfl) ?_
                refine NN.then ?_
                refine J.ret ?_
                refine NN.then_ret ?_
                refine NN.fin1 4 (.bool x1162) (by kernel_rfl) (by kernel_rfl) (.inl rfl) (fun w hi => hi.ret ?_)
                first | (cases H; rfl) | (obtain rfl := Option.some.inj H; rfl) | (simp only [Option.some.injEq, Prod.mk.injEq] at H; obtain ⟨rfl⟩ := H; rfl)
              · rw [if_neg (nebt c1161)] at H
                refine LL.bool 82 (x1160) false c1161 (by kernel_rfl) ?_
                refine LL.off (by kernel_rfl) (by kernel_rfl) ?_
                refine LL.op (.bool false) (by kernel_rfl) (fun w _ => by kernel_rfl) ?_
                refine LL.op (.bool false) (by kernel_rfl) (fun w _ => by kernel_rfl) ?_
                refine LL.done (s' := [(1, .slice Aa1 a1.length ca1), (4, .bool false), (5, .slice A1101 x1098_1.length c1102)]) [1, 4, 5] (by kernel_rfl) ?_
                refine NN.then ?_
                refine J.ret ?_
                refine NN.then_ret ?_
                refine NN.fin1 4 (.bool false) (by kernel_rfl) (by kernel_rfl) (.inl rfl) (fun w hi => hi.ret ?_)
                first | (cases H; rfl) | (obtain rfl := Option.some.inj H; rfl) | (simp only [Option.some.injEq, Prod.mk.injEq] at H; obtain ⟨rfl⟩ := H; rfl)
          · rw [if_neg (nebf c1106)] at H
            refine HH.bool 42 (!(x1098_2 == 0)) true (by rw [show (!(x1098_2 == 0)) = !((x1098_2 == 0)) from rfl, c1106]; rfl) (by kernel_rfl) ?_
            refine HH.off 3 rfl (by kernel_rfl) (by kernel_rfl) (by kernel_rfl) (fun _ h => h) ?_
            refine HH.off 4 rfl (by kernel_rfl) (by kernel_rfl) (by kernel_rfl) (fun _ h => h) ?_
            refine HH.off 5 rfl (by kernel_rfl) (by kernel_rfl) (by kernel_rfl) (fun _ h => h) ?_
            refine HH.off 6 rfl (by kernel_rfl) (by kernel_rfl) (by kernel_rfl) (fun _ h => h) ?_
            refine HH.off 7 rfl (by kernel_rfl) (by kernel_rfl) (by kernel_rfl) (fun _ h => h) ?_
            refine HH.off 8 rfl (by kernel_rfl) (by kernel_rfl) (by kernel_rfl) (fun _ h => h) ?_
            refine HH.off 9 rfl (by kernel_rfl) (by kernel_rfl) (by kernel_rfl) (fun _ h => h) ?_
            refine HH.take 10 (.bool true) rfl (by kernel_rfl) (by kernel_rfl) (fun _ h => h) (fun w _ => by kernel_rfl) ?_
            refine HH.take 11 (.bool true) rfl (by kernel_rfl) (by kernel_rfl) (fun _ h => h) (fun w _ => by kernel_rfl) ?_
            refine HH.off 12 rfl (by kernel_rfl) (by kernel_rfl) (by kernel_rfl) (fun _ h => h) ?_
            refine HH.off 13 rfl (by kernel_rfl) (by kernel_rfl) (by kernel_rfl) (fun _ h => h) ?_
            refine HH.off 14 rfl (by kernel_rfl) (by kernel_rfl) (by kernel_rfl) (fun _ h => h) ?_
            refine HH.off 15 rfl (by kernel_rfl) (by kernel_rfl) (by kernel_rfl) (fun _ h => h) ?_
            refine HH.off 16 rfl (by kernel_rfl) (by kernel_rfl) (by kernel_rfl) (fun _ h => h) ?_
            refine HH.take 17 (.bool true) rfl (by kernel_rfl) (by kernel_rfl) (fun _ h => h) (fun w _ => by kernel_rfl) ?_
            refine HH.take 18 (.bool true) rfl (by kernel_rfl) (by kernel_rfl) (fun _ h => h) (fun w _ => by kernel_rfl) ?_
            refine HH.off 19 rfl (by kernel_rfl) (by kernel_rfl) (by kernel_rfl) (fun _ h => h) ?_
            refine HH.off 20 rfl (by kernel_rfl) (by kernel_rfl) (by kernel_rfl) (fun _ h => h) ?_
            refine HH.off 21 rfl (by kernel_rfl) (by kernel_rfl) (by kernel_rfl) (fun _ h => h) ?_
            refine HH.off 22 rfl (by kernel_rfl) (by kernel_rfl) (by kernel_rfl) (fun _ h => h) ?_
            refine HH.off 23 rfl (by kernel_rfl) (by kernel_rfl) (by kernel_rfl) (fun _ h => h) ?_
            refine HH.off 24 rfl (by kernel_rfl) (by kernel_rfl) (by kernel_rfl) (fun _ h => h) ?_
            refine HH.off 25 rfl (by kernel_rfl) (by kernel_rfl) (by kernel_rfl) (fun _ h => h) ?_
            refine HH.off 26 rfl (by kernel_rfl) (by kernel_rfl) (by kernel_rfl) (fun _ h => h) ?_
            refine HH.off 27 rfl (by kernel_rfl) (by kernel_rfl) (by kernel_rfl) (fun _ h => h) ?_
            refine HH.off 28 rfl (by kernel_rfl) (by kernel_rfl) (by kernel_rfl) (fun _ h => h) ?_
            refine HH.off 29 rfl (by kernel_rfl) (by kernel_rfl) (by kernel_rfl) (fun _ h => h) ?_
            refine HH.off 30 rfl (by kernel_rfl) (by kernel_rfl) (by kernel_rfl) (fun _ h => h) ?_
            refine HH.take 31 (.bool true) rfl (by kernel_rfl) (by kernel_rfl) (fun _ h => h) (fun w _ => by kernel_rfl) ?_
            refine HH.done (s' := [(1, .slice Aa1 a1.length ca1), (2, .pointer (some ⟨g1089, 0, none⟩)), (4, .bool false), (5, .slice A1101 x1098_1.length c1102), (6, .int .i64 x1098_2), (71, .bool true)]) [1, 2, 4, 5, 6, 71] (by kernel_rfl) (by kernel_rfl) ?_
            refine NN.then ?_
            refine J.condT (b := true) rfl (by kernel_rfl) (by kernel_rfl) ?_
            refine J.seq ?_
            refine J.plain ?_
            refine LL.op (.int .i64 x1098_2) (by kernel_rfl) (fun w _ => by kernel_rfl) ?_
            refine LL.op (.bool (!(x1098_2 == 0))) (by kernel_rfl) (fun w _ => by kernel_rfl) ?_
            refine LL.op (.bool (!(x1098_2 == 0))) (by kernel_rfl) (fun w _ => by kernel_rfl) ?_
            refine LL.bool 74 (!(x1098_2 == 0)) true (by rw [show (!(x1098_2 == 0)) = !((x1098_2 == 0)) from rfl, c1106]; rfl) (by kernel_rfl) ?_
            refine LL.off (by kernel_rfl) (by kernel_rfl) ?_
            refine LL.off (by kernel_rfl) (by kernel_rfl) ?_
            refine LL.off (by kernel_rfl) (by kernel_rfl) ?_
            refine LL.off (by kernel_rfl) (by kernel_rfl) ?_
            refine LL.off (by kernel_rfl) (by kernel_rfl) ?_
            refine LL.off (by kernel_rfl) (by kernel_rfl) ?_
            refine LL.op (.bool true) (by kernel_rfl) (fun w _ => by kernel_rfl) ?_
            refine LL.op (.bool true) (by kernel_rfl) (fun w _ => by kernel_rfl) ?_
            obtain ⟨x1163, hx1163, H⟩ := bind_some H
            refine LL.call 18 #[] (.bool x1163) (by kernel_rfl) (fun w => by kernel_rfl) (fun w hw => sawmilllaw48_awake.calls K    _ w   hx1163) ?_
            refine LL.op (.bool x1163) (by kernel_rfl) (fun w _ => by kernel_rfl) ?_
            refine LL.op (.bool x1163) (by kernel_rfl) (fun w _ => by kernel_rfl) ?_
            refine LL.done (s' := [(1, .slice Aa1 a1.length ca1), (4, .bool x1163), (5, .slice A1101 x1098_1.length c1102)]) [1, 4, 5] (by kernel_rfl) ?_
            refine NN.then ?_
            refine J.ret ?_
            refine NN.then_ret ?_
            refine NN.fin1 4 (.bool x1163) (by kernel_rfl) (by kernel_rfl) (.inl rfl) (fun w hi => hi.ret ?_)
            first | (cases H; rfl) | (obtain rfl := Option.some.inj H; rfl) | (simp only [Option.some.injEq, Prod.mk.injEq] at H; obtain ⟨rfl⟩ := H; rfl)
  · rw [if_neg (nebt c1091)] at H
    refine LL.bool 12 (!x1090) true (by rw [show (!x1090) = !(x1090) from rfl, c1091]; rfl) (by kernel_rfl) ?_
    refine LL.off (by kernel_rfl) (by kernel_rfl) ?_
    refine LL.off (by kernel_rfl) (by kernel_rfl) ?_
    refine LL.off (by kernel_rfl) (by kernel_rfl) ?_
    refine LL.off (by kernel_rfl) (by kernel_rfl) ?_
    refine LL.op (.bool true) (by kernel_rfl) (fun w _ => by kernel_rfl) ?_
    refine LL.op (.bool true) (by kernel_rfl) (fun w _ => by kernel_rfl) ?_
    refine LL.off (by kernel_rfl) (by kernel_rfl) ?_
    refine LL.off (by kernel_rfl) (by kernel_rfl) ?_
    refine LL.off (by kernel_rfl) (by kernel_rfl) ?_
    refine LL.off (by kernel_rfl) (by kernel_rfl) ?_
    refine LL.op (.bool true) (by kernel_rfl) (fun w _ => by kernel_rfl) ?_
    refine LL.op (.bool true) (by kernel_rfl) (fun w _ => by kernel_rfl) ?_
    refine LL.off (by kernel_rfl) (by kernel_rfl) ?_
    refine LL.off (by kernel_rfl) (by kernel_rfl) ?_
    refine LL.off (by kernel_rfl) (by kernel_rfl) ?_
    refine LL.op (.bool true) (by kernel_rfl) (fun w _ => by kernel_rfl) ?_
    refine LL.done (s' := [(1, .slice Aa1 a1.length ca1), (2, .pointer (some ⟨g1089, 0, none⟩)), (4, .bool false), (28, .bool true)]) [1, 2, 4, 28] (by kernel_rfl) ?_
    refine NN.then ?_
    refine J.condT (b := true) rfl (by kernel_rfl) (by kernel_rfl) ?_
    refine J.seq ?_
    refine J.plain ?_
    obtain ⟨x1164, hx1164, H⟩ := bind_some H
    refine LL.call 18 #[] (.bool x1164) (by kernel_rfl) (fun w => by kernel_rfl) (fun w hw => sawmilllaw48_awake.calls K    _ w   hx1164) ?_
    refine LL.op (.bool x1164) (by kernel_rfl) (fun w _ => by kernel_rfl) ?_
    refine LL.done (s' := [(1, .slice Aa1 a1.length ca1), (2, .pointer (some ⟨g1089, 0, none⟩)), (4, .bool x1164)]) [1, 2, 4] (by kernel_rfl) ?_
    refine NN.then ?_
    refine J.ret ?_
    refine NN.then_ret ?_
    refine NN.fin1 4 (.bool x1164) (by kernel_rfl) (by kernel_rfl) (.inl rfl) (fun w hi => hi.ret ?_)
    first | (cases H; rfl) | (obtain rfl := Option.some.inj H; rfl) | (simp only [Option.some.injEq, Prod.mk.injEq] at H; obtain ⟨rfl⟩ := H; rfl)

end Go.Proofs.Ytbogdbbmmlaohaa
