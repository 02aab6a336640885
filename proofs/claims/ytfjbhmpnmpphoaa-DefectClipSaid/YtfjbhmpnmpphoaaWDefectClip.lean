/- Walks of functions of the seat: each call does what the Lean function of the same name says. Printed by the session's own program absgen.py. -/
import Derived.Test.YtfjbhmpnmpphoaaF4
namespace Go.Proofs.Ytfjbhmpnmpphoaa
open Go.Saw
set_option linter.unusedVariables false
set_option linter.unusedSimpArgs false

/-! ### sawmilllaw13_DefectClip: function 12 -/
def sawmilllaw13_DefectClip.f (K : Nat) (a0 : List E41) (a1_0 : Int) (a1_1 : Int) (a1_2 : Int) (a1_3 : Int) (a1_4 : Int) (a1_5 : Int) (a2_0 : Int) (a2_1 : Int) (a2_2 : Int) (a2_3 : Int) (a2_4 : Int) (a2_5 : Int) : Option (Bool) := (sawmillref13_Check.f K a0).bind fun x1057 => (if x1057 = 0 then ((sawmilllaw13_fits.f a1_0 a1_1 a1_2 a1_3 a1_4 a1_5).bind fun x1059 => (if x1059 = true then ((defect_Clip.f K a0 a1_0 a1_1 a1_2 a1_3 a1_4 a1_5).bind fun x1061 => ((sawmilllaw13_box.f 0 (IntKind.i64.wrap (a1_1 - a1_0)) 0 (IntKind.i64.wrap (a1_3 - a1_2)) 0 (IntKind.i64.wrap (a1_5 - a1_4))).bind fun bx1069 => ((defect_Check.f K x1061).bind fun x1071 => (if x1071 = 0 then ((defect_Clip.f K x1061 bx1069.1 bx1069.2.1 bx1069.2.2.1 bx1069.2.2.2.1 bx1069.2.2.2.2.1 bx1069.2.2.2.2.2).bind fun x1073 => ((sawmillref13_Same.f K x1073 x1061).bind fun x1081 => (if x1081 = true then ((sawmillref13_Meet.f a2_0 a2_1 a2_2 a2_3 a2_4 a2_5 bx1069.1 bx1069.2.1 bx1069.2.2.1 bx1069.2.2.2.1 bx1069.2.2.2.2.1 bx1069.2.2.2.2.2).bind fun bx1083 => ((sawmillref13_Empty.f bx1083.1 bx1083.2.1 bx1083.2.2.1 bx1083.2.2.2.1 bx1083.2.2.2.2.1 bx1083.2.2.2.2.2).bind fun x1085 => (if x1085 = true then ((sawmilllaw13_awake.f K ).bind fun x1087 => (some x1087)) else ((defect_Clip.f K x1061 bx1083.1 bx1083.2.1 bx1083.2.2.1 bx1083.2.2.2.1 bx1083.2.2.2.2.1 bx1083.2.2.2.2.2).bind fun x1088 => ((sawmillref13_Move.f bx1083.1 bx1083.2.1 bx1083.2.2.1 bx1083.2.2.2.1 bx1083.2.2.2.2.1 bx1083.2.2.2.2.2 a1_0 a1_2 a1_4).bind fun bx1096 => ((defect_Clip.f K a0 bx1096.1 bx1096.2.1 bx1096.2.2.1 bx1096.2.2.2.1 bx1096.2.2.2.2.1 bx1096.2.2.2.2.2).bind fun x1097 => ((sawmillref13_Same.f K x1088 x1097).bind fun x1105 => (if x1105 = true then ((sawmilllaw13_awake.f K ).bind fun x1121 => (some x1121)) else (some false))))))))) else (some false)))) else (some false))))) else ((sawmilllaw13_awake.f K ).bind fun x1122 => (some x1122)))) else ((sawmilllaw13_awake.f K ).bind fun x1123 => (some x1123)))
set_option maxRecDepth 100000 in
theorem sawmilllaw13_DefectClip.calls (K : Nat) (a0 : List E41) (a1_0 : Int) (a1_1 : Int) (a1_2 : Int) (a1_3 : Int) (a1_4 : Int) (a1_5 : Int) (a2_0 : Int) (a2_1 : Int) (a2_2 : Int) (a2_3 : Int) (a2_4 : Int) (a2_5 : Int)  (Aa0 : Option Addr) (ca0 : Nat)  (r1 : Bool) (w : World)   (ha0 : KRow (Cx.start w) enc41 7 a0 Aa0) (h : sawmilllaw13_DefectClip.f K a0 a1_0 a1_1 a1_2 a1_3 a1_4 a1_5 a2_0 a2_1 a2_2 a2_3 a2_4 a2_5 = some r1) :
    Calls Try.prog 12 #[.slice Aa0 a0.length ca0, .agg #[.int .i64 a1_0, .int .i64 a1_1, .int .i64 a1_2, .int .i64 a1_3, .int .i64 a1_4, .int .i64 a1_5], .agg #[.int .i64 a2_0, .int .i64 a2_1, .int .i64 a2_2, .int .i64 a2_3, .int .i64 a2_4, .int .i64 a2_5]] w (Ret w (.bool r1)) := by
  have H := h
  clear h
  unfold sawmilllaw13_DefectClip.f at H
  refine Go.Saw.calls (args := [.slice Aa0 a0.length ca0, .agg #[.int .i64 a1_0, .int .i64 a1_1, .int .i64 a1_2, .int .i64 a1_3, .int .i64 a1_4, .int .i64 a1_5], .agg #[.int .i64 a2_0, .int .i64 a2_1, .int .i64 a2_2, .int .i64 a2_3, .int .i64 a2_4, .int .i64 a2_5]]) Try.func12 rfl Try.ntmps12 (by kernel_rfl) ?_
  refine J.seq ?_
  refine J.plain ?_
  refine LL.box 25 (.tmp 1) [.int .i64 a1_0, .int .i64 a1_1, .int .i64 a1_2, .int .i64 a1_3, .int .i64 a1_4, .int .i64 a1_5] (by kernel_rfl) rfl (by kernel_rfl) (fun g1055 => ?_)
  refine LL.box 25 (.tmp 2) [.int .i64 a2_0, .int .i64 a2_1, .int .i64 a2_2, .int .i64 a2_3, .int .i64 a2_4, .int .i64 a2_5] (by kernel_rfl) rfl (by kernel_rfl) (fun g1056 => ?_)
  refine LL.op (.bool false) (by kernel_rfl) (fun w _ => by kernel_rfl) ?_
  refine LL.done (s' := [(0, .slice Aa0 a0.length ca0), (4, .pointer (some ⟨g1055, 0, none⟩)), (5, .pointer (some ⟨g1056, 0, none⟩)), (6, .bool false)]) [0, 4, 5, 6] (by kernel_rfl) ?_
  refine NN.then ?_
  refine J.seq ?_
  refine J.seq ?_
  refine J.plain ?_
  refine LL.op (.slice Aa0 a0.length ca0) (by kernel_rfl) (fun w _ => by kernel_rfl) ?_
  obtain ⟨x1057, hx1057, H⟩ := bind_some H
  refine LL.call 26 #[.slice Aa0 a0.length ca0] (.int .i64 x1057) (by kernel_rfl) (fun w => by kernel_rfl) (fun w hw => sawmillref13_Check.calls K a0  _ _ _ w  (ha0.at hw) hx1057) ?_
  refine LL.op (.bool (!(x1057 == 0))) (by kernel_rfl) (fun w _ => by kernel_rfl) ?_
  refine LL.op (.bool (!(x1057 == 0))) (by kernel_rfl) (fun w _ => by kernel_rfl) ?_
  rcases Bool.eq_false_or_eq_true ((x1057 == 0)) with c1058 | c1058
  · rw [if_pos (eq_of_beq c1058)] at H
    refine LL.bool 13 (!(x1057 == 0)) false (by rw [show (!(x1057 == 0)) = !((x1057 == 0)) from rfl, c1058]; rfl) (by kernel_rfl) ?_
    refine LL.op (.agg #[.int .i64 a1_0, .int .i64 a1_1, .int .i64 a1_2, .int .i64 a1_3, .int .i64 a1_4, .int .i64 a1_5]) (by kernel_rfl) (ld 1 g1055 0 rfl (by kernel_rfl) rfl (by kernel_rfl)) ?_
    obtain ⟨x1059, hx1059, H⟩ := bind_some H
    refine LL.call 47 #[.agg #[.int .i64 a1_0, .int .i64 a1_1, .int .i64 a1_2, .int .i64 a1_3, .int .i64 a1_4, .int .i64 a1_5]] (.bool x1059) (by kernel_rfl) (fun w => by kernel_rfl) (fun w hw => sawmilllaw13_fits.calls a1_0 a1_1 a1_2 a1_3 a1_4 a1_5   _ w   hx1059) ?_
    refine LL.op (.bool (!x1059)) (by kernel_rfl) (fun w _ => by kernel_rfl) ?_
    refine LL.op (.bool (!x1059)) (by kernel_rfl) (fun w _ => by kernel_rfl) ?_
    refine LL.done (s' := [(0, .slice Aa0 a0.length ca0), (4, .pointer (some ⟨g1055, 0, none⟩)), (5, .pointer (some ⟨g1056, 0, none⟩)), (6, .bool false), (17, .bool (!x1059))]) [0, 4, 5, 6, 17] (by kernel_rfl) ?_
    refine NN.then ?_
    rcases Bool.eq_false_or_eq_true (x1059) with c1060 | c1060
    · rw [if_pos (c1060)] at H
      refine J.condF (b := !x1059) (by rw [show (!x1059) = !(x1059) from rfl, c1060]; rfl) (by kernel_rfl) (by kernel_rfl) ?_
      refine J.skip ?_
      refine NN.then ?_
      refine J.seq ?_
      refine J.plain ?_
      refine LL.op (.slice Aa0 a0.length ca0) (by kernel_rfl) (fun w _ => by kernel_rfl) ?_
      refine LL.op (.agg #[.int .i64 a1_0, .int .i64 a1_1, .int .i64 a1_2, .int .i64 a1_3, .int .i64 a1_4, .int .i64 a1_5]) (by kernel_rfl) (ld 1 g1055 0 rfl (by kernel_rfl) rfl (by kernel_rfl)) ?_
      obtain ⟨x1061, hx1061, H⟩ := bind_some H
      refine LL.callR (enc := enc41) (m := 7) (l := x1061) 41 #[.slice Aa0 a0.length ca0, .agg #[.int .i64 a1_0, .int .i64 a1_1, .int .i64 a1_2, .int .i64 a1_3, .int .i64 a1_4, .int .i64 a1_5]] (fun A_ c_ => .slice A_ x1061.length c_) (by kernel_rfl) (fun w => by kernel_rfl) (fun w hw => defect_Clip.calls K a0 a1_0 a1_1 a1_2 a1_3 a1_4 a1_5  _ _ _ w  (ha0.at hw) hx1061) (fun R1062 F1063 A1064 c1065 le1066 k1067 fr1068 => ?_)
      refine LL.op (.slice A1064 x1061.length c1065) (by kernel_rfl) (fun w _ => by kernel_rfl) ?_
      refine LL.done (s' := [(0, .slice Aa0 a0.length ca0), (4, .pointer (some ⟨g1055, 0, none⟩)), (5, .pointer (some ⟨g1056, 0, none⟩)), (6, .bool false), (7, .slice A1064 x1061.length c1065)]) [0, 4, 5, 6, 7] (by kernel_rfl) ?_
      refine NN.then ?_
      refine J.seq ?_
      refine J.plain ?_
      refine LL.op (.pointer (some ⟨g1055, 0, none⟩)) (by kernel_rfl) (fun w _ => by kernel_rfl) ?_
      refine LL.op (.pointer (some ⟨g1055, 1, none⟩)) (by kernel_rfl) (fun w _ => by kernel_rfl) ?_
      refine LL.op (.int .i64 a1_1) (by kernel_rfl) (ld 1 g1055 1 rfl (by kernel_rfl) rfl (by kernel_rfl)) ?_
      refine LL.op (.pointer (some ⟨g1055, 0, none⟩)) (by kernel_rfl) (fun w _ => by kernel_rfl) ?_
      refine LL.op (.pointer (some ⟨g1055, 0, none⟩)) (by kernel_rfl) (fun w _ => by kernel_rfl) ?_
      refine LL.op (.int .i64 a1_0) (by kernel_rfl) (ld 1 g1055 0 rfl (by kernel_rfl) rfl (by kernel_rfl)) ?_
      refine LL.op (.int .i64 (IntKind.i64.wrap (a1_1 - a1_0))) (by kernel_rfl) (fun w _ => by kernel_rfl) ?_
      refine LL.op (.pointer (some ⟨g1055, 2, none⟩)) (by kernel_rfl) (fun w _ => by kernel_rfl) ?_
      refine LL.op (.pointer (some ⟨g1055, 3, none⟩)) (by kernel_rfl) (fun w _ => by kernel_rfl) ?_
      refine LL.op (.int .i64 a1_3) (by kernel_rfl) (ld 1 g1055 3 rfl (by kernel_rfl) rfl (by kernel_rfl)) ?_
      refine LL.op (.pointer (some ⟨g1055, 2, none⟩)) (by kernel_rfl) (fun w _ => by kernel_rfl) ?_
      refine LL.op (.pointer (some ⟨g1055, 2, none⟩)) (by kernel_rfl) (fun w _ => by kernel_rfl) ?_
      refine LL.op (.int .i64 a1_2) (by kernel_rfl) (ld 1 g1055 2 rfl (by kernel_rfl) rfl (by kernel_rfl)) ?_
      refine LL.op (.int .i64 (IntKind.i64.wrap (a1_3 - a1_2))) (by kernel_rfl) (fun w _ => by kernel_rfl) ?_
      refine LL.op (.pointer (some ⟨g1055, 4, none⟩)) (by kernel_rfl) (fun w _ => by kernel_rfl) ?_
      refine LL.op (.pointer (some ⟨g1055, 5, none⟩)) (by kernel_rfl) (fun w _ => by kernel_rfl) ?_
      refine LL.op (.int .i64 a1_5) (by kernel_rfl) (ld 1 g1055 5 rfl (by kernel_rfl) rfl (by kernel_rfl)) ?_
      refine LL.op (.pointer (some ⟨g1055, 4, none⟩)) (by kernel_rfl) (fun w _ => by kernel_rfl) ?_
      refine LL.op (.pointer (some ⟨g1055, 4, none⟩)) (by kernel_rfl) (fun w _ => by kernel_rfl) ?_
      refine LL.op (.int .i64 a1_4) (by kernel_rfl) (ld 1 g1055 4 rfl (by kernel_rfl) rfl (by kernel_rfl)) ?_
      refine LL.op (.int .i64 (IntKind.i64.wrap (a1_5 - a1_4))) (by kernel_rfl) (fun w _ => by kernel_rfl) ?_
      obtain ⟨⟨x1069_1, x1069_2, x1069_3, x1069_4, x1069_5, x1069_6⟩, hx1069, H⟩ := bind_some H
      (try dsimp only at H)
      refine LL.call 48 #[.int .i64 0, .int .i64 (IntKind.i64.wrap (a1_1 - a1_0)), .int .i64 0, .int .i64 (IntKind.i64.wrap (a1_3 - a1_2)), .int .i64 0, .int .i64 (IntKind.i64.wrap (a1_5 - a1_4))] (.agg #[.int .i64 x1069_1, .int .i64 x1069_2, .int .i64 x1069_3, .int .i64 x1069_4, .int .i64 x1069_5, .int .i64 x1069_6]) (by kernel_rfl) (fun w => by kernel_rfl) (fun w hw => sawmilllaw13_box.calls 0 (IntKind.i64.wrap (a1_1 - a1_0)) 0 (IntKind.i64.wrap (a1_3 - a1_2)) 0 (IntKind.i64.wrap (a1_5 - a1_4))   _ _ _ _ _ _ w   hx1069) ?_
      refine LL.alloc 25 [.int .i64 0, .int .i64 0, .int .i64 0, .int .i64 0, .int .i64 0, .int .i64 0] (by kernel_rfl) rfl (by kernel_rfl) (fun g1070 => ?_)
      refine LL.store 0 g1070 0 25 (.tmp 8) (.tmp 43) [.int .i64 x1069_1, .int .i64 x1069_2, .int .i64 x1069_3, .int .i64 x1069_4, .int .i64 x1069_5, .int .i64 x1069_6] (bs' := [(g1070, cl [.int .i64 x1069_1, .int .i64 x1069_2, .int .i64 x1069_3, .int .i64 x1069_4, .int .i64 x1069_5, .int .i64 x1069_6] 25), (g1056, cl [.int .i64 a2_0, .int .i64 a2_1, .int .i64 a2_2, .int .i64 a2_3, .int .i64 a2_4, .int .i64 a2_5] 25), (g1055, cl [.int .i64 a1_0, .int .i64 a1_1, .int .i64 a1_2, .int .i64 a1_3, .int .i64 a1_4, .int .i64 a1_5] 25)]) rfl (by kernel_rfl) rfl (by kernel_rfl) rfl (by kernel_rfl) ?_
      refine LL.done (s' := [(0, .slice Aa0 a0.length ca0), (4, .pointer (some ⟨g1055, 0, none⟩)), (5, .pointer (some ⟨g1056, 0, none⟩)), (6, .bool false), (7, .slice A1064 x1061.length c1065), (8, .pointer (some ⟨g1070, 0, none⟩))]) [0, 4, 5, 6, 7, 8] (by kernel_rfl) ?_
      refine NN.then ?_
      refine J.seq ?_
      refine J.seq ?_
      refine J.plain ?_
      refine LL.op (.slice A1064 x1061.length c1065) (by kernel_rfl) (fun w _ => by kernel_rfl) ?_
      obtain ⟨x1071, hx1071, H⟩ := bind_some H
      refine LL.call 33 #[.slice A1064 x1061.length c1065] (.int .i64 x1071) (by kernel_rfl) (fun w => by kernel_rfl) (fun w hw => defect_Check.calls K x1061  _ _ _ w  (k1067.at hw) hx1071) ?_
      refine LL.op (.bool (!(x1071 == 0))) (by kernel_rfl) (fun w _ => by kernel_rfl) ?_
      refine LL.op (.bool (!(x1071 == 0))) (by kernel_rfl) (fun w _ => by kernel_rfl) ?_
      rcases Bool.eq_false_or_eq_true ((x1071 == 0)) with c1072 | c1072
      · rw [if_pos (eq_of_beq c1072)] at H
        refine LL.bool 47 (!(x1071 == 0)) false (by rw [show (!(x1071 == 0)) = !((x1071 == 0)) from rfl, c1072]; rfl) (by kernel_rfl) ?_
        refine LL.op (.slice A1064 x1061.length c1065) (by kernel_rfl) (fun w _ => by kernel_rfl) ?_
        refine LL.op (.agg #[.int .i64 x1069_1, .int .i64 x1069_2, .int .i64 x1069_3, .int .i64 x1069_4, .int .i64 x1069_5, .int .i64 x1069_6]) (by kernel_rfl) (ld 0 g1070 0 rfl (by kernel_rfl) rfl (by kernel_rfl)) ?_
        obtain ⟨x1073, hx1073, H⟩ := bind_some H
        refine LL.callR (enc := enc41) (m := 7) (l := x1073) 41 #[.slice A1064 x1061.length c1065, .agg #[.int .i64 x1069_1, .int .i64 x1069_2, .int .i64 x1069_3, .int .i64 x1069_4, .int .i64 x1069_5, .int .i64 x1069_6]] (fun A_ c_ => .slice A_ x1073.length c_) (by kernel_rfl) (fun w => by kernel_rfl) (fun w hw => defect_Clip.calls K x1061 x1069_1 x1069_2 x1069_3 x1069_4 x1069_5 x1069_6  _ _ _ w  (k1067.at hw) hx1073) (fun R1074 F1075 A1076 c1077 le1078 k1079 fr1080 => ?_)
        refine LL.op (.slice A1064 x1061.length c1065) (by kernel_rfl) (fun w _ => by kernel_rfl) ?_
        obtain ⟨x1081, hx1081, H⟩ := bind_some H
        refine LL.call 40 #[.slice A1076 x1073.length c1077, .slice A1064 x1061.length c1065] (.bool x1081) (by kernel_rfl) (fun w => by kernel_rfl) (fun w hw => sawmillref13_Same.calls K x1073 x1061  _ _ _ _ _ w  (k1079.at hw) ((k1067.le le1078).at hw) hx1081) ?_
        refine LL.op (.bool (!x1081)) (by kernel_rfl) (fun w _ => by kernel_rfl) ?_
        refine LL.op (.bool (!x1081)) (by kernel_rfl) (fun w _ => by kernel_rfl) ?_
        refine LL.done (s' := [(0, .slice Aa0 a0.length ca0), (4, .pointer (some ⟨g1055, 0, none⟩)), (5, .pointer (some ⟨g1056, 0, none⟩)), (6, .bool false), (7, .slice A1064 x1061.length c1065), (8, .pointer (some ⟨g1070, 0, none⟩)), (54, .bool (!x1081))]) [0, 4, 5, 6, 7, 8, 54] (by kernel_rfl) ?_
        refine NN.then ?_
        rcases Bool.eq_false_or_eq_true (x1081) with c1082 | c1082
        · rw [if_pos (c1082)] at H
          refine J.condF (b := !x1081) (by rw [show (!x1081) = !(x1081) from rfl, c1082]; rfl) (by kernel_rfl) (by kernel_rfl) ?_
          refine J.skip ?_
          refine NN.then ?_
          refine J.seq ?_
          refine J.plain ?_
          refine LL.op (.agg #[.int .i64 a2_0, .int .i64 a2_1, .int .i64 a2_2, .int .i64 a2_3, .int .i64 a2_4, .int .i64 a2_5]) (by kernel_rfl) (ld 1 g1056 0 rfl (by kernel_rfl) rfl (by kernel_rfl)) ?_
          refine LL.op (.agg #[.int .i64 x1069_1, .int .i64 x1069_2, .int .i64 x1069_3, .int .i64 x1069_4, .int .i64 x1069_5, .int .i64 x1069_6]) (by kernel_rfl) (ld 0 g1070 0 rfl (by kernel_rfl) rfl (by kernel_rfl)) ?_
          obtain ⟨⟨x1083_1, x1083_2, x1083_3, x1083_4, x1083_5, x1083_6⟩, hx1083, H⟩ := bind_some H
          (try dsimp only at H)
          refine LL.call 49 #[.agg #[.int .i64 a2_0, .int .i64 a2_1, .int .i64 a2_2, .int .i64 a2_3, .int .i64 a2_4, .int .i64 a2_5], .agg #[.int .i64 x1069_1, .int .i64 x1069_2, .int .i64 x1069_3, .int .i64 x1069_4, .int .i64 x1069_5, .int .i64 x1069_6]] (.agg #[.int .i64 x1083_1, .int .i64 x1083_2, .int .i64 x1083_3, .int .i64 x1083_4, .int .i64 x1083_5, .int .i64 x1083_6]) (by kernel_rfl) (fun w => by kernel_rfl) (fun w hw => sawmillref13_Meet.calls a2_0 a2_1 a2_2 a2_3 a2_4 a2_5 x1069_1 x1069_2 x1069_3 x1069_4 x1069_5 x1069_6   _ _ _ _ _ _ w   hx1083) ?_
          refine LL.alloc 25 [.int .i64 0, .int .i64 0, .int .i64 0, .int .i64 0, .int .i64 0, .int .i64 0] (by kernel_rfl) rfl (by kernel_rfl) (fun g1084 => ?_)
          refine LL.store 0 g1084 0 25 (.tmp 9) (.tmp 57) [.int .i64 x1083_1, .int .i64 x1083_2, .int .i64 x1083_3, .int .i64 x1083_4, .int .i64 x1083_5, .int .i64 x1083_6] (bs' := [(g1084, cl [.int .i64 x1083_1, .int .i64 x1083_2, .int .i64 x1083_3, .int .i64 x1083_4, .int .i64 x1083_5, .int .i64 x1083_6] 25), (g1070, cl [.int .i64 x1069_1, .int .i64 x1069_2, .int .i64 x1069_3, .int .i64 x1069_4, .int .i64 x1069_5, .int .i64 x1069_6] 25), (g1056, cl [.int .i64 a2_0, .int .i64 a2_1, .int .i64 a2_2, .int .i64 a2_3, .int .i64 a2_4, .int .i64 a2_5] 25), (g1055, cl [.int .i64 a1_0, .int .i64 a1_1, .int .i64 a1_2, .int .i64 a1_3, .int .i64 a1_4, .int .i64 a1_5] 25)]) rfl (by kernel_rfl) rfl (by kernel_rfl) rfl (by kernel_rfl) ?_
          refine LL.done (s' := [(0, .slice Aa0 a0.length ca0), (4, .pointer (some ⟨g1055, 0, none⟩)), (6, .bool false), (7, .slice A1064 x1061.length c1065), (9, .pointer (some ⟨g1084, 0, none⟩))]) [0, 4, 6, 7, 9] (by kernel_rfl) ?_
          refine NN.then ?_
          refine J.seq ?_
          obtain ⟨x1085, hx1085, H⟩ := bind_some H
          refine J.held follows ?_
          refine HH.take 0 (.agg #[.int .i64 x1083_1, .int .i64 x1083_2, .int .i64 x1083_3, .int .i64 x1083_4, .int .i64 x1083_5, .int .i64 x1083_6]) rfl (by kernel_rfl) (by kernel_rfl) (fun _ h => h) (ld 0 g1084 0 rfl (by kernel_rfl) rfl (by kernel_rfl)) ?_
          refine HH.all1 1 (by kernel_rfl) ?_
          refine HS.call 50 #[.agg #[.int .i64 x1083_1, .int .i64 x1083_2, .int .i64 x1083_3, .int .i64 x1083_4, .int .i64 x1083_5, .int .i64 x1083_6]] (.bool x1085) rfl (by kernel_rfl) (fun w => by kernel_rfl) (fun _ h => h) (fun w hw => sawmillref13_Empty.calls x1083_1 x1083_2 x1083_3 x1083_4 x1083_5 x1083_6   _ w   hx1085) ?_
          refine HH.take 2 (.bool x1085) rfl (by kernel_rfl) (by kernel_rfl) (fun _ h => h) (fun w _ => by kernel_rfl) ?_
          rcases Bool.eq_false_or_eq_true (x1085) with c1086 | c1086
          · rw [if_pos (c1086)] at H
            refine HH.bool 60 (x1085) true c1086 (by kernel_rfl) ?_
            obtain ⟨x1087, hx1087, H⟩ := bind_some H
            refine HH.off 3 rfl (by kernel_rfl) (by kernel_rfl) (by kernel_rfl) (fun _ h => h) ?_
            refine HH.off 4 rfl (by kernel_rfl) (by kernel_rfl) (by kernel_rfl) (fun _ h => h) ?_
            refine HH.off 5 rfl (by kernel_rfl) (by kernel_rfl) (by kernel_rfl) (fun _ h => h) ?_
            refine HH.off 6 rfl (by kernel_rfl) (by kernel_rfl) (by kernel_rfl) (fun _ h => h) ?_
            refine HH.off 7 rfl (by kernel_rfl) (by kernel_rfl) (by kernel_rfl) (fun _ h => h) ?_
            refine HH.off 8 rfl (by kernel_rfl) (by kernel_rfl) (by kernel_rfl) (fun _ h => h) ?_
            refine HH.off 9 rfl (by kernel_rfl) (by kernel_rfl) (by kernel_rfl) (fun _ h => h) ?_
            refine HH.off 10 rfl (by kernel_rfl) (by kernel_rfl) (by kernel_rfl) (fun _ h => h) ?_
            refine HH.off 11 rfl (by kernel_rfl) (by kernel_rfl) (by kernel_rfl) (fun _ h => h) ?_
            refine HH.off 12 rfl (by kernel_rfl) (by kernel_rfl) (by kernel_rfl) (fun _ h => h) ?_
            refine HH.off 13 rfl (by kernel_rfl) (by kernel_rfl) (by kernel_rfl) (fun _ h => h) ?_
            refine HH.off 14 rfl (by kernel_rfl) (by kernel_rfl) (by kernel_rfl) (fun _ h => h) ?_
            refine HH.off 15 rfl (by kernel_rfl) (by kernel_rfl) (by kernel_rfl) (fun _ h => h) ?_
            refine HH.off 16 rfl (by kernel_rfl) (by kernel_rfl) (by kernel_rfl) (fun _ h => h) ?_
            refine HH.off 17 rfl (by kernel_rfl) (by kernel_rfl) (by kernel_rfl) (fun _ h => h) ?_
            refine HH.off 18 rfl (by kernel_rfl) (by kernel_rfl) (by kernel_rfl) (fun _ h => h) ?_
            refine HH.off 19 rfl (by kernel_rfl) (by kernel_rfl) (by kernel_rfl) (fun _ h => h) ?_
            refine HH.take 20 (.bool true) rfl (by kernel_rfl) (by kernel_rfl) (fun _ h => h) (fun w _ => by kernel_rfl) ?_
            refine HH.take 21 (.bool true) rfl (by kernel_rfl) (by kernel_rfl) (fun _ h => h) (fun w _ => by kernel_rfl) ?_
            refine HH.all1 22 (by kernel_rfl) ?_
            refine HS.call 30 #[] (.bool x1087) rfl (by kernel_rfl) (fun w => by kernel_rfl) (fun _ h => h) (fun w hw => sawmilllaw13_awake.calls K    _ w   hx1087) ?_
            refine HH.take 23 (.bool x1087) rfl (by kernel_rfl) (by kernel_rfl) (fun _ h => h) (fun w _ => by kernel_rfl) ?_
            refine HH.take 24 (.bool x1087) rfl (by kernel_rfl) (by kernel_rfl) (fun _ h => h) (fun w _ => by kernel_rfl) ?_
            refine HH.done (s' := [(6, .bool x1087)]) [6] (by kernel_rfl) (by kernel_rfl) ?_
            refine NN.then ?_
            refine J.ret ?_
            refine NN.fin1 6 (.bool x1087) (by kernel_rfl) (by kernel_rfl) (.inl rfl) (fun w hi => hi.ret ?_)
            first | (cases H; rfl) | (obtain rfl := Option.some.inj H; rfl) | (simp only [Option.some.injEq, Prod.mk.injEq] at H; obtain ⟨rfl⟩ := H; rfl)
          · rw [if_neg (nebt c1086)] at H
            refine HH.bool 60 (x1085) false c1086 (by kernel_rfl) ?_
            obtain ⟨x1088, hx1088, H⟩ := bind_some H
            obtain ⟨⟨x1096_1, x1096_2, x1096_3, x1096_4, x1096_5, x1096_6⟩, hx1096, H⟩ := bind_some H
            (try dsimp only at H)
            obtain ⟨x1097, hx1097, H⟩ := bind_some H
            obtain ⟨x1105, hx1105, H⟩ := bind_some H
            refine HH.take 3 (.slice A1064 x1061.length c1065) rfl (by kernel_rfl) (by kernel_rfl) (fun _ h => h) (fun w _ => by kernel_rfl) ?_
            refine HH.take 4 (.agg #[.int .i64 x1083_1, .int .i64 x1083_2, .int .i64 x1083_3, .int .i64 x1083_4, .int .i64 x1083_5, .int .i64 x1083_6]) rfl (by kernel_rfl) (by kernel_rfl) (fun _ h => h) (ld 0 g1084 0 rfl (by kernel_rfl) rfl (by kernel_rfl)) ?_
            refine HH.take 6 (.slice Aa0 a0.length ca0) rfl (by kernel_rfl) (by kernel_rfl) (fun _ h => h) (fun w _ => by kernel_rfl) ?_
            refine HH.take 7 (.agg #[.int .i64 x1083_1, .int .i64 x1083_2, .int .i64 x1083_3, .int .i64 x1083_4, .int .i64 x1083_5, .int .i64 x1083_6]) rfl (by kernel_rfl) (by kernel_rfl) (fun _ h => h) (ld 0 g1084 0 rfl (by kernel_rfl) rfl (by kernel_rfl)) ?_
            refine HH.take 8 (.pointer (some ⟨g1055, 0, none⟩)) rfl (by kernel_rfl) (by kernel_rfl) (fun _ h => h) (fun w _ => by kernel_rfl) ?_
            refine HH.take 9 (.pointer (some ⟨g1055, 0, none⟩)) rfl (by kernel_rfl) (by kernel_rfl) (fun _ h => h) (fun w _ => by kernel_rfl) ?_
            refine HH.take 10 (.int .i64 a1_0) rfl (by kernel_rfl) (by kernel_rfl) (fun _ h => h) (ld 3 g1055 0 rfl (by kernel_rfl) rfl (by kernel_rfl)) ?_
            refine HH.take 11 (.pointer (some ⟨g1055, 2, none⟩)) rfl (by kernel_rfl) (by kernel_rfl) (fun _ h => h) (fun w _ => by kernel_rfl) ?_
            refine HH.take 12 (.pointer (some ⟨g1055, 2, none⟩)) rfl (by kernel_rfl) (by kernel_rfl) (fun _ h => h) (fun w _ => by kernel_rfl) ?_
            refine HH.take 13 (.int .i64 a1_2) rfl (by kernel_rfl) (by kernel_rfl) (fun _ h => h) (ld 3 g1055 2 rfl (by kernel_rfl) rfl (by kernel_rfl)) ?_
            refine HH.take 14 (.pointer (some ⟨g1055, 4, none⟩)) rfl (by kernel_rfl) (by kernel_rfl) (fun _ h => h) (fun w _ => by kernel_rfl) ?_
            refine HH.take 15 (.pointer (some ⟨g1055, 4, none⟩)) rfl (by kernel_rfl) (by kernel_rfl) (fun _ h => h) (fun w _ => by kernel_rfl) ?_
            refine HH.take 16 (.int .i64 a1_4) rfl (by kernel_rfl) (by kernel_rfl) (fun _ h => h) (ld 3 g1055 4 rfl (by kernel_rfl) rfl (by kernel_rfl)) ?_
            refine HH.all1 5 (by kernel_rfl) ?_
            refine HS.callR (enc := enc41) (m := 7) (l := x1088) 41 #[.slice A1064 x1061.length c1065, .agg #[.int .i64 x1083_1, .int .i64 x1083_2, .int .i64 x1083_3, .int .i64 x1083_4, .int .i64 x1083_5, .int .i64 x1083_6]] (fun A_ c_ => .slice A_ x1088.length c_) rfl (by kernel_rfl) (fun w => by kernel_rfl) (fun _ h => h) (fun w hw => defect_Clip.calls K x1061 x1083_1 x1083_2 x1083_3 x1083_4 x1083_5 x1083_6  _ _ _ w  ((k1067.le le1078).at hw) hx1088) (fun R1106 F1107 A1108 c1109 le1110 k1111 fr1112 => ?_)
            refine HH.all1 17 (by kernel_rfl) ?_
            refine HS.call 51 #[.agg #[.int .i64 x1083_1, .int .i64 x1083_2, .int .i64 x1083_3, .int .i64 x1083_4, .int .i64 x1083_5, .int .i64 x1083_6], .int .i64 a1_0, .int .i64 a1_2, .int .i64 a1_4] (.agg #[.int .i64 x1096_1, .int .i64 x1096_2, .int .i64 x1096_3, .int .i64 x1096_4, .int .i64 x1096_5, .int .i64 x1096_6]) rfl (by kernel_rfl) (fun w => by kernel_rfl) (fun _ h => (h).back le1110) (fun w hw => sawmillref13_Move.calls x1083_1 x1083_2 x1083_3 x1083_4 x1083_5 x1083_6 a1_0 a1_2 a1_4   _ _ _ _ _ _ w   hx1096) ?_
            refine HH.all1 18 (by kernel_rfl) ?_
            refine HS.callR (enc := enc41) (m := 7) (l := x1097) 41 #[.slice Aa0 a0.length ca0, .agg #[.int .i64 x1096_1, .int .i64 x1096_2, .int .i64 x1096_3, .int .i64 x1096_4, .int .i64 x1096_5, .int .i64 x1096_6]] (fun A_ c_ => .slice A_ x1097.length c_) rfl (by kernel_rfl) (fun w => by kernel_rfl) (fun _ h => (h).back le1110) (fun w hw => defect_Clip.calls K a0 x1096_1 x1096_2 x1096_3 x1096_4 x1096_5 x1096_6  _ _ _ w  ((((ha0.le le1066).le le1078).le le1110).at hw) hx1097) (fun R1113 F1114 A1115 c1116 le1117 k1118 fr1119 => ?_)
            refine HH.all1 19 (by kernel_rfl) ?_
            refine HS.call 40 #[.slice A1108 x1088.length c1109, .slice A1115 x1097.length c1116] (.bool x1105) rfl (by kernel_rfl) (fun w => by kernel_rfl) (fun _ h => ((h).back le1117).back le1110) (fun w hw => sawmillref13_Same.calls K x1088 x1097  _ _ _ _ _ w  ((k1111.le le1117).at hw) (k1118.at hw) hx1105) ?_
            refine HH.take 20 (.bool x1105) rfl (by kernel_rfl) (by kernel_rfl) (fun _ h => ((h).back le1117).back le1110) (fun w _ => by kernel_rfl) ?_
            refine HH.take 21 (.bool x1105) rfl (by kernel_rfl) (by kernel_rfl) (fun _ h => ((h).back le1117).back le1110) (fun w _ => by kernel_rfl) ?_
            rcases Bool.eq_false_or_eq_true (x1105) with c1120 | c1120
            · rw [if_pos (c1120)] at H
              refine HH.bool 79 (x1105) true c1120 (by kernel_rfl) ?_
              obtain ⟨x1121, hx1121, H⟩ := bind_some H
              refine HH.all1 22 (by kernel_rfl) ?_
              refine HS.call 30 #[] (.bool x1121) rfl (by kernel_rfl) (fun w => by kernel_rfl) (fun _ h => ((h).back le1117).back le1110) (fun w hw => sawmilllaw13_awake.calls K    _ w   hx1121) ?_
              refine HH.take 23 (.bool x1121) rfl (by kernel_rfl) (by kernel_rfl) (fun _ h => ((h).back le1117).back le1110) (fun w _ => by kernel_rfl) ?_
              refine HH.take 24 (.bool x1121) rfl (by kernel_rfl) (by kernel_rfl) (fun _ h => ((h).back le1117).back le1110) (fun w _ => by kernel_rfl) ?_
              refine HH.done (s' := [(6, .bool x1121)]) [6] (by kernel_rfl) (by kernel_rfl) ?_
              refine NN.then ?_
              refine J.ret ?_
              refine NN.fin1 6 (.bool x1121) (by kernel_rfl) (by kernel_rfl) (.inl rfl) (fun w hi => hi.ret ?_)
              first | (cases H; rfl) | (obtain rfl := Option.some.inj H; rfl) | (simp only [Option.some.injEq, Prod.mk.injEq] at H; obtain ⟨rfl⟩ := H; rfl)
            · rw [if_neg (nebt c1120)] at H
              refine HH.bool 79 (x1105) false c1120 (by kernel_rfl) ?_
              refine HH.off 22 rfl (by kernel_rfl) (by kernel_rfl) (by kernel_rfl) (fun _ h => ((h).back le1117).back le1110) ?_
              refine HH.take 23 (.bool false) rfl (by kernel_rfl) (by kernel_rfl) (fun _ h => ((h).back le1117).back le1110) (fun w _ => by kernel_rfl) ?_
              refine HH.take 24 (.bool false) rfl (by kernel_rfl) (by kernel_rfl) (fun _ h => ((h).back le1117).back le1110) (fun w _ => by kernel_rfl) ?_
              refine HH.done (s' := [(6, .bool false)]) [6] (by kernel_rfl) (by kernel_rfl) ?_
              refine NN.then ?_
              refine J.ret ?_
              refine NN.fin1 6 (.bool false) (by kernel_rfl) (by kernel_rfl) (.inl rfl) (fun w hi => hi.ret ?_)
              first | (cases H; rfl) | (obtain rfl := Option.some.inj H; rfl) | (simp only [Option.some.injEq, Prod.mk.injEq] at H; obtain ⟨rfl⟩ := H; rfl)
        · rw [if_neg (nebt c1082)] at H
          refine J.condT (b := !x1081) (by rw [show (!x1081) = !(x1081) from rfl, c1082]; rfl) (by kernel_rfl) (by kernel_rfl) ?_
          refine J.seq ?_
          refine J.plain ?_
          refine LL.op (.bool false) (by kernel_rfl) (fun w _ => by kernel_rfl) ?_
          refine LL.done (s' := [(0, .slice Aa0 a0.length ca0), (4, .pointer (some ⟨g1055, 0, none⟩)), (5, .pointer (some ⟨g1056, 0, none⟩)), (6, .bool false), (7, .slice A1064 x1061.length c1065), (8, .pointer (some ⟨g1070, 0, none⟩))]) [0, 4, 5, 6, 7, 8] (by kernel_rfl) ?_
          refine NN.then ?_
          refine J.ret ?_
          refine NN.then_ret ?_
          refine NN.fin1 6 (.bool false) (by kernel_rfl) (by kernel_rfl) (.inl rfl) (fun w hi => hi.ret ?_)
          first | (cases H; rfl) | (obtain rfl := Option.some.inj H; rfl) | (simp only [Option.some.injEq, Prod.mk.injEq] at H; obtain ⟨rfl⟩ := H; rfl)
      · rw [if_neg (nebf c1072)] at H
        refine LL.bool 47 (!(x1071 == 0)) true (by rw [show (!(x1071 == 0)) = !((x1071 == 0)) from rfl, c1072]; rfl) (by kernel_rfl) ?_
        refine LL.off (by kernel_rfl) (by kernel_rfl) ?_
        refine LL.off (by kernel_rfl) (by kernel_rfl) ?_
        refine LL.off (by kernel_rfl) (by kernel_rfl) ?_
        refine LL.off (by kernel_rfl) (by kernel_rfl) ?_
        refine LL.off (by kernel_rfl) (by kernel_rfl) ?_
        refine LL.off (by kernel_rfl) (by kernel_rfl) ?_
        refine LL.op (.bool true) (by kernel_rfl) (fun w _ => by kernel_rfl) ?_
        refine LL.done (s' := [(0, .slice Aa0 a0.length ca0), (4, .pointer (some ⟨g1055, 0, none⟩)), (5, .pointer (some ⟨g1056, 0, none⟩)), (6, .bool false), (7, .slice A1064 x1061.length c1065), (8, .pointer (some ⟨g1070, 0, none⟩)), (54, .bool true)]) [0, 4, 5, 6, 7, 8, 54] (by kernel_rfl) ?_
        refine NN.then ?_
        refine J.condT (b := true) rfl (by kernel_rfl) (by kernel_rfl) ?_
        refine J.seq ?_
        refine J.plain ?_
        refine LL.op (.bool false) (by kernel_rfl) (fun w _ => by kernel_rfl) ?_
        refine LL.done (s' := [(0, .slice Aa0 a0.length ca0), (4, .pointer (some ⟨g1055, 0, none⟩)), (5, .pointer (some ⟨g1056, 0, none⟩)), (6, .bool false), (7, .slice A1064 x1061.length c1065), (8, .pointer (some ⟨g1070, 0, none⟩))]) [0, 4, 5, 6, 7, 8] (by kernel_rfl) ?_
        refine NN.then ?_
        refine J.ret ?_
        refine NN.then_ret ?_
        refine NN.fin1 6 (.bool false) (by kernel_rfl) (by kernel_rfl) (.inl rfl) (fun w hi => hi.ret ?_)
        first | (cases H; rfl) | (obtain rfl := Option.some.inj H; rfl) | (simp only [Option.some.injEq, Prod.mk.injEq] at H; obtain ⟨rfl⟩ := H; rfl)
    · rw [if_neg (nebt c1060)] at H
      refine J.condT (b := !x1059) (by rw [show (!x1059) = !(x1059) from rfl, c1060]; rfl) (by kernel_rfl) (by kernel_rfl) ?_
      refine J.seq ?_
      refine J.plain ?_
      obtain ⟨x1122, hx1122, H⟩ := bind_some H
      refine LL.call 30 #[] (.bool x1122) (by kernel_rfl) (fun w => by kernel_rfl) (fun w hw => sawmilllaw13_awake.calls K    _ w   hx1122) ?_
      refine LL.op (.bool x1122) (by kernel_rfl) (fun w _ => by kernel_rfl) ?_
      refine LL.done (s' := [(0, .slice Aa0 a0.length ca0), (4, .pointer (some ⟨g1055, 0, none⟩)), (5, .pointer (some ⟨g1056, 0, none⟩)), (6, .bool x1122)]) [0, 4, 5, 6] (by kernel_rfl) ?_
      refine NN.then ?_
      refine J.ret ?_
      refine NN.then_ret ?_
      refine NN.fin1 6 (.bool x1122) (by kernel_rfl) (by kernel_rfl) (.inl rfl) (fun w hi => hi.ret ?_)
      first | (cases H; rfl) | (obtain rfl := Option.some.inj H; rfl) | (simp only [Option.some.injEq, Prod.mk.injEq] at H; obtain ⟨rfl⟩ := H; rfl)
  · rw [if_neg (nebf c1058)] at H
    refine LL.bool 13 (!(x1057 == 0)) true (by rw [show (!(x1057 == 0)) = !((x1057 == 0)) from rfl, c1058]; rfl) (by kernel_rfl) ?_
    refine LL.off (by kernel_rfl) (by kernel_rfl) ?_
    refine LL.off (by kernel_rfl) (by kernel_rfl) ?_
    refine LL.off (by kernel_rfl) (by kernel_rfl) ?_
    refine LL.op (.bool true) (by kernel_rfl) (fun w _ => by kernel_rfl) ?_
    refine LL.done (s' := [(0, .slice Aa0 a0.length ca0), (4, .pointer (some ⟨g1055, 0, none⟩)), (5, .pointer (some ⟨g1056, 0, none⟩)), (6, .bool false), (17, .bool true)]) [0, 4, 5, 6, 17] (by kernel_rfl) ?_
    refine NN.then ?_
    refine J.condT (b := true) rfl (by kernel_rfl) (by kernel_rfl) ?_
    refine J.seq ?_
    refine J.plain ?_
    obtain ⟨x1123, hx1123, H⟩ := bind_some H
    refine LL.call 30 #[] (.bool x1123) (by kernel_rfl) (fun w => by kernel_rfl) (fun w hw => sawmilllaw13_awake.calls K    _ w   hx1123) ?_
    refine LL.op (.bool x1123) (by kernel_rfl) (fun w _ => by kernel_rfl) ?_
    refine LL.done (s' := [(0, .slice Aa0 a0.length ca0), (4, .pointer (some ⟨g1055, 0, none⟩)), (5, .pointer (some ⟨g1056, 0, none⟩)), (6, .bool x1123)]) [0, 4, 5, 6] (by kernel_rfl) ?_
    refine NN.then ?_
    refine J.ret ?_
    refine NN.then_ret ?_
    refine NN.fin1 6 (.bool x1123) (by kernel_rfl) (by kernel_rfl) (.inl rfl) (fun w hi => hi.ret ?_)
    first | (cases H; rfl) | (obtain rfl := Option.some.inj H; rfl) | (simp only [Option.some.injEq, Prod.mk.injEq] at H; obtain ⟨rfl⟩ := H; rfl)

end Go.Proofs.Ytfjbhmpnmpphoaa
