/- Walks of functions of the seat: each call does what the Lean function of the same name says. Printed by the session's own program absgen.py. -/
import Derived.Test.YtfjbhmpnmpphoaaF4
namespace Go.Proofs.Ytfjbhmpnmpphoaa
open Go.Saw
set_option linter.unusedVariables false
set_option linter.unusedSimpArgs false

/-! ### sawmilllaw13_DefectTurned: function 13 -/
def sawmilllaw13_DefectTurned.l1 (K : Nat) (a1_2 : Int) (a1_3 : Int) (x1171 : List E41) (x1188 : List E41) (kont_ : Int → Option (Bool)) : Nat → Int → Option (Bool)
  | 0, _ => none
  | k + 1, x14l1 => if x14l1 < (x1171.length : Int) then ((idx x1171 x14l1).bind fun be1241 => ((idx x1188 x14l1).bind fun be1243 => (if ((be1243.1 == be1241.1) && ((((be1243.2.1 == (IntKind.i64.wrap ((IntKind.i64.wrap (a1_3 - a1_2)) - be1241.2.2.2.2.1))) && ((be1243.2.2.1 == (IntKind.i64.wrap ((IntKind.i64.wrap (a1_3 - a1_2)) - be1241.2.2.2.1))) && true)) && (((be1243.2.2.2.1 == be1241.2.1) && ((be1243.2.2.2.2.1 == be1241.2.2.1) && true)) && (((be1243.2.2.2.2.2.1 == be1241.2.2.2.2.2.1) && ((be1243.2.2.2.2.2.2 == be1241.2.2.2.2.2.2) && true)) && true))) && true)) = true then (sawmilllaw13_DefectTurned.l1 K a1_2 a1_3 x1171 x1188 kont_ k (IntKind.i64.wrap (x14l1 + 1))) else (some false)))) else (kont_ x14l1)
def sawmilllaw13_DefectTurned.l0 (K : Nat) (a0 : List E41) (a1_0 : Int) (a1_1 : Int) (a1_2 : Int) (a1_3 : Int) (a1_4 : Int) (a1_5 : Int) (x1130 : List E41) : Nat → Int → Option (Bool)
  | 0, _ => none
  | k + 1, x10l0 => if x10l0 ≤ 6 then ((defect_Count.f x1130 x10l0).bind fun x1165 => ((defect_Count.f a0 x10l0).bind fun x1166 => (if x1165 = x1166 then ((defect_Largest.f K x1130 x10l0).bind fun x1168 => ((defect_Largest.f K a0 x10l0).bind fun x1169 => (if x1168 = x1169 then (sawmilllaw13_DefectTurned.l0 K a0 a1_0 a1_1 a1_2 a1_3 a1_4 a1_5 x1130 k (IntKind.i64.wrap (x10l0 + 1))) else (some false)))) else (some false)))) else ((defect_Clip.f K a0 a1_0 a1_1 a1_2 a1_3 a1_4 a1_5).bind fun x1171 => ((defect_Turn.f K a0 1).bind fun x1179 => ((sawmilllaw13_box.f (IntKind.i64.wrap (0 - a1_3)) (IntKind.i64.wrap (0 - a1_2)) a1_0 a1_1 a1_4 a1_5).bind fun bx1187 => ((defect_Clip.f K x1179 bx1187.1 bx1187.2.1 bx1187.2.2.1 bx1187.2.2.2.1 bx1187.2.2.2.2.1 bx1187.2.2.2.2.2).bind fun x1188 => (if (x1171.length : Int) = (x1188.length : Int) then (sawmilllaw13_DefectTurned.l1 K a1_2 a1_3 x1171 x1188 (fun (x14l1 : Int) => (sawmilllaw13_awake.f K ).bind fun x1245 => (some x1245)) K 0) else (some false))))))
def sawmilllaw13_DefectTurned.f (K : Nat) (a0 : List E41) (a1_0 : Int) (a1_1 : Int) (a1_2 : Int) (a1_3 : Int) (a1_4 : Int) (a1_5 : Int) (a2_0 : Int) (a2_1 : Int) : Option (Bool) := (sawmillref13_Check.f K a0).bind fun x1126 => (if x1126 = 0 then ((sawmilllaw13_fits.f a1_0 a1_1 a1_2 a1_3 a1_4 a1_5).bind fun x1128 => (if x1128 = true then ((defect_Turn.f K a0 (Int.tmod a2_0 8)).bind fun x1130 => ((defect_Check.f K x1130).bind fun x1138 => (if x1138 = 0 then ((defect_Worst.f K x1130 a2_1).bind fun x1140 => ((defect_Worst.f K a0 a2_1).bind fun x1141 => (if x1140 = x1141 then ((defect_Turn.f K x1130 (IntKind.i64.wrap (0 - (Int.tmod a2_0 8)))).bind fun x1143 => ((sawmillref13_Same.f K x1143 a0).bind fun x1151 => (if x1151 = true then ((defect_Turn.f K x1130 (IntKind.i64.wrap (4 - (Int.tmod a2_0 8)))).bind fun x1153 => ((sawmillref13_Same.f K x1153 a0).bind fun x1161 => (if x1161 = true then (sawmilllaw13_DefectTurned.l0 K a0 a1_0 a1_1 a1_2 a1_3 a1_4 a1_5 x1130 K 1) else (some false)))) else (some false)))) else (some false)))) else (some false)))) else ((sawmilllaw13_awake.f K ).bind fun x1246 => (some x1246)))) else ((sawmilllaw13_awake.f K ).bind fun x1247 => (some x1247)))
set_option maxRecDepth 100000 in
theorem sawmilllaw13_DefectTurned.calls (K : Nat) (a0 : List E41) (a1_0 : Int) (a1_1 : Int) (a1_2 : Int) (a1_3 : Int) (a1_4 : Int) (a1_5 : Int) (a2_0 : Int) (a2_1 : Int)  (Aa0 : Option Addr) (ca0 : Nat)  (r1 : Bool) (w : World)   (ha0 : KRow (Cx.start w) enc41 7 a0 Aa0) (h : sawmilllaw13_DefectTurned.f K a0 a1_0 a1_1 a1_2 a1_3 a1_4 a1_5 a2_0 a2_1 = some r1) :
    Calls Try.prog 13 #[.slice Aa0 a0.length ca0, .agg #[.int .i64 a1_0, .int .i64 a1_1, .int .i64 a1_2, .int .i64 a1_3, .int .i64 a1_4, .int .i64 a1_5], .agg #[.int .i64 a2_0, .int .i64 a2_1]] w (Ret w (.bool r1)) := by
  have H := h
  clear h
  unfold sawmilllaw13_DefectTurned.f at H
  refine Go.Saw.calls (args := [.slice Aa0 a0.length ca0, .agg #[.int .i64 a1_0, .int .i64 a1_1, .int .i64 a1_2, .int .i64 a1_3, .int .i64 a1_4, .int .i64 a1_5], .agg #[.int .i64 a2_0, .int .i64 a2_1]]) Try.func13 rfl Try.ntmps13 (by kernel_rfl) ?_
  refine J.seq ?_
  refine J.plain ?_
  refine LL.box 25 (.tmp 1) [.int .i64 a1_0, .int .i64 a1_1, .int .i64 a1_2, .int .i64 a1_3, .int .i64 a1_4, .int .i64 a1_5] (by kernel_rfl) rfl (by kernel_rfl) (fun g1124 => ?_)
  refine LL.box 62 (.tmp 2) [.int .i64 a2_0, .int .i64 a2_1] (by kernel_rfl) rfl (by kernel_rfl) (fun g1125 => ?_)
  refine LL.op (.bool false) (by kernel_rfl) (fun w _ => by kernel_rfl) ?_
  refine LL.done (s' := [(0, .slice Aa0 a0.length ca0), (4, .pointer (some ⟨g1124, 0, none⟩)), (5, .pointer (some ⟨g1125, 0, none⟩)), (6, .bool false)]) [0, 4, 5, 6] (by kernel_rfl) ?_
  refine NN.then ?_
  refine J.seq ?_
  refine J.seq ?_
  refine J.plain ?_
  refine LL.op (.slice Aa0 a0.length ca0) (by kernel_rfl) (fun w _ => by kernel_rfl) ?_
  obtain ⟨x1126, hx1126, H⟩ := bind_some H
  refine LL.call 26 #[.slice Aa0 a0.length ca0] (.int .i64 x1126) (by kernel_rfl) (fun w => by kernel_rfl) (fun w hw => sawmillref13_Check.calls K a0  _ _ _ w  (ha0.at hw) hx1126) ?_
  refine LL.op (.bool (!(x1126 == 0))) (by kernel_rfl) (fun w _ => by kernel_rfl) ?_
  refine LL.op (.bool (!(x1126 == 0))) (by kernel_rfl) (fun w _ => by kernel_rfl) ?_
  rcases Bool.eq_false_or_eq_true ((x1126 == 0)) with c1127 | c1127
  · rw [if_pos (eq_of_beq c1127)] at H
    refine LL.bool 19 (!(x1126 == 0)) false (by rw [show (!(x1126 == 0)) = !((x1126 == 0)) from rfl, c1127]; rfl) (by kernel_rfl) ?_
    refine LL.op (.agg #[.int .i64 a1_0, .int .i64 a1_1, .int .i64 a1_2, .int .i64 a1_3, .int .i64 a1_4, .int .i64 a1_5]) (by kernel_rfl) (ld 1 g1124 0 rfl (by kernel_rfl) rfl (by kernel_rfl)) ?_
    obtain ⟨x1128, hx1128, H⟩ := bind_some H
    refine LL.call 47 #[.agg #[.int .i64 a1_0, .int .i64 a1_1, .int .i64 a1_2, .int .i64 a1_3, .int .i64 a1_4, .int .i64 a1_5]] (.bool x1128) (by kernel_rfl) (fun w => by kernel_rfl) (fun w hw => sawmilllaw13_fits.calls a1_0 a1_1 a1_2 a1_3 a1_4 a1_5   _ w   hx1128) ?_
    refine LL.op (.bool (!x1128)) (by kernel_rfl) (fun w _ => by kernel_rfl) ?_
    refine LL.op (.bool (!x1128)) (by kernel_rfl) (fun w _ => by kernel_rfl) ?_
    refine LL.done (s' := [(0, .slice Aa0 a0.length ca0), (4, .pointer (some ⟨g1124, 0, none⟩)), (5, .pointer (some ⟨g1125, 0, none⟩)), (6, .bool false), (23, .bool (!x1128))]) [0, 4, 5, 6, 23] (by kernel_rfl) ?_
    refine NN.then ?_
    rcases Bool.eq_false_or_eq_true (x1128) with c1129 | c1129
    · rw [if_pos (c1129)] at H
      refine J.condF (b := !x1128) (by rw [show (!x1128) = !(x1128) from rfl, c1129]; rfl) (by kernel_rfl) (by kernel_rfl) ?_
      refine J.skip ?_
      refine NN.then ?_
      refine J.seq ?_
      refine J.drawn follows (by kernel_rfl) ?_
      refine QQ.op (.pointer (some ⟨g1125, 0, none⟩)) (by kernel_rfl) (fun w _ => by kernel_rfl) ?_
      refine QQ.op (.int .i64 a2_0) (by kernel_rfl) (ld 0 g1125 0 rfl (by kernel_rfl) rfl (by kernel_rfl)) ?_
      refine QQ.op (.int .i64 (Int.tmod a2_0 8)) (by kernel_rfl) (fun w _ => by kernel_rfl) ?_
      refine QQ.op (.pointer (some ⟨g1125, 1, none⟩)) (by kernel_rfl) (fun w _ => by kernel_rfl) ?_
      refine QQ.op (.int .i64 a2_1) (by kernel_rfl) (ld 0 g1125 1 rfl (by kernel_rfl) rfl (by kernel_rfl)) ?_
      refine QQ.op (.int .i64 (Int.tmod a2_0 8)) (by kernel_rfl) (fun w _ => by kernel_rfl) ?_
      refine QQ.op (.int .i64 a2_1) (by kernel_rfl) (fun w _ => by kernel_rfl) ?_
      refine QQ.done (s' := [(0, .slice Aa0 a0.length ca0), (4, .pointer (some ⟨g1124, 0, none⟩)), (6, .bool false), (7, .int .i64 (Int.tmod a2_0 8)), (8, .int .i64 a2_1)]) [0, 4, 6, 7, 8] (by kernel_rfl) ?_
      refine NN.then ?_
      refine J.seq ?_
      refine J.plain ?_
      refine LL.op (.slice Aa0 a0.length ca0) (by kernel_rfl) (fun w _ => by kernel_rfl) ?_
      refine LL.op (.int .i64 (Int.tmod a2_0 8)) (by kernel_rfl) (fun w _ => by kernel_rfl) ?_
      obtain ⟨x1130, hx1130, H⟩ := bind_some H
      refine LL.callR (enc := enc41) (m := 7) (l := x1130) 43 #[.slice Aa0 a0.length ca0, .int .i64 (Int.tmod a2_0 8)] (fun A_ c_ => .slice A_ x1130.length c_) (by kernel_rfl) (fun w => by kernel_rfl) (fun w hw => defect_Turn.calls K a0 (Int.tmod a2_0 8)  _ _ _ w  (ha0.at hw) hx1130) (fun R1131 F1132 A1133 c1134 le1135 k1136 fr1137 => ?_)
      refine LL.op (.slice A1133 x1130.length c1134) (by kernel_rfl) (fun w _ => by kernel_rfl) ?_
      refine LL.done (s' := [(0, .slice Aa0 a0.length ca0), (4, .pointer (some ⟨g1124, 0, none⟩)), (6, .bool false), (7, .int .i64 (Int.tmod a2_0 8)), (8, .int .i64 a2_1), (9, .slice A1133 x1130.length c1134)]) [0, 4, 6, 7, 8, 9] (by kernel_rfl) ?_
      refine NN.then ?_
      refine J.seq ?_
      refine J.seq ?_
      refine J.plain ?_
      refine LL.op (.slice A1133 x1130.length c1134) (by kernel_rfl) (fun w _ => by kernel_rfl) ?_
      obtain ⟨x1138, hx1138, H⟩ := bind_some H
      refine LL.call 33 #[.slice A1133 x1130.length c1134] (.int .i64 x1138) (by kernel_rfl) (fun w => by kernel_rfl) (fun w hw => defect_Check.calls K x1130  _ _ _ w  (k1136.at hw) hx1138) ?_
      refine LL.op (.bool (!(x1138 == 0))) (by kernel_rfl) (fun w _ => by kernel_rfl) ?_
      refine LL.op (.bool (!(x1138 == 0))) (by kernel_rfl) (fun w _ => by kernel_rfl) ?_
      rcases Bool.eq_false_or_eq_true ((x1138 == 0)) with c1139 | c1139
      · rw [if_pos (eq_of_beq c1139)] at H
        refine LL.bool 36 (!(x1138 == 0)) false (by rw [show (!(x1138 == 0)) = !((x1138 == 0)) from rfl, c1139]; rfl) (by kernel_rfl) ?_
        refine LL.op (.slice A1133 x1130.length c1134) (by kernel_rfl) (fun w _ => by kernel_rfl) ?_
        refine LL.op (.int .i64 a2_1) (by kernel_rfl) (fun w _ => by kernel_rfl) ?_
        obtain ⟨x1140, hx1140, H⟩ := bind_some H
        refine LL.call 45 #[.slice A1133 x1130.length c1134, .int .i64 a2_1] (.int .i64 x1140) (by kernel_rfl) (fun w => by kernel_rfl) (fun w hw => defect_Worst.calls K x1130 a2_1  _ _ _ w  (k1136.at hw) hx1140) ?_
        refine LL.op (.slice Aa0 a0.length ca0) (by kernel_rfl) (fun w _ => by kernel_rfl) ?_
        refine LL.op (.int .i64 a2_1) (by kernel_rfl) (fun w _ => by kernel_rfl) ?_
        obtain ⟨x1141, hx1141, H⟩ := bind_some H
        refine LL.call 45 #[.slice Aa0 a0.length ca0, .int .i64 a2_1] (.int .i64 x1141) (by kernel_rfl) (fun w => by kernel_rfl) (fun w hw => defect_Worst.calls K a0 a2_1  _ _ _ w  ((ha0.le le1135).at hw) hx1141) ?_
        refine LL.op (.bool (!(x1140 == x1141))) (by kernel_rfl) (fun w _ => by kernel_rfl) ?_
        refine LL.op (.bool (!(x1140 == x1141))) (by kernel_rfl) (fun w _ => by kernel_rfl) ?_
        refine LL.op (.bool (!(x1140 == x1141))) (by kernel_rfl) (fun w _ => by kernel_rfl) ?_
        rcases Bool.eq_false_or_eq_true ((x1140 == x1141)) with c1142 | c1142
        · rw [if_pos (eq_of_beq c1142)] at H
          refine LL.bool 45 (!(x1140 == x1141)) false (by rw [show (!(x1140 == x1141)) = !((x1140 == x1141)) from rfl, c1142]; rfl) (by kernel_rfl) ?_
          refine LL.op (.slice A1133 x1130.length c1134) (by kernel_rfl) (fun w _ => by kernel_rfl) ?_
          refine LL.op (.int .i64 (Int.tmod a2_0 8)) (by kernel_rfl) (fun w _ => by kernel_rfl) ?_
          refine LL.op (.int .i64 (IntKind.i64.wrap (0 - (Int.tmod a2_0 8)))) (by kernel_rfl) (fun w _ => by kernel_rfl) ?_
          obtain ⟨x1143, hx1143, H⟩ := bind_some H
          refine LL.callR (enc := enc41) (m := 7) (l := x1143) 43 #[.slice A1133 x1130.length c1134, .int .i64 (IntKind.i64.wrap (0 - (Int.tmod a2_0 8)))] (fun A_ c_ => .slice A_ x1143.length c_) (by kernel_rfl) (fun w => by kernel_rfl) (fun w hw => defect_Turn.calls K x1130 (IntKind.i64.wrap (0 - (Int.tmod a2_0 8)))  _ _ _ w  (k1136.at hw) hx1143) (fun R1144 F1145 A1146 c1147 le1148 k1149 fr1150 => ?_)
          refine LL.op (.slice Aa0 a0.length ca0) (by kernel_rfl) (fun w _ => by kernel_rfl) ?_
          obtain ⟨x1151, hx1151, H⟩ := bind_some H
          refine LL.call 40 #[.slice A1146 x1143.length c1147, .slice Aa0 a0.length ca0] (.bool x1151) (by kernel_rfl) (fun w => by kernel_rfl) (fun w hw => sawmillref13_Same.calls K x1143 a0  _ _ _ _ _ w  (k1149.at hw) (((ha0.le le1135).le le1148).at hw) hx1151) ?_
          refine LL.op (.bool (!x1151)) (by kernel_rfl) (fun w _ => by kernel_rfl) ?_
          refine LL.op (.bool (!x1151)) (by kernel_rfl) (fun w _ => by kernel_rfl) ?_
          refine LL.op (.bool (!x1151)) (by kernel_rfl) (fun w _ => by kernel_rfl) ?_
          rcases Bool.eq_false_or_eq_true (x1151) with c1152 | c1152
          · rw [if_pos (c1152)] at H
            refine LL.bool 54 (!x1151) false (by rw [show (!x1151) = !(x1151) from rfl, c1152]; rfl) (by kernel_rfl) ?_
            refine LL.op (.slice A1133 x1130.length c1134) (by kernel_rfl) (fun w _ => by kernel_rfl) ?_
            refine LL.op (.int .i64 (Int.tmod a2_0 8)) (by kernel_rfl) (fun w _ => by kernel_rfl) ?_
            refine LL.op (.int .i64 (IntKind.i64.wrap (4 - (Int.tmod a2_0 8)))) (by kernel_rfl) (fun w _ => by kernel_rfl) ?_
            obtain ⟨x1153, hx1153, H⟩ := bind_some H
            refine LL.callR (enc := enc41) (m := 7) (l := x1153) 43 #[.slice A1133 x1130.length c1134, .int .i64 (IntKind.i64.wrap (4 - (Int.tmod a2_0 8)))] (fun A_ c_ => .slice A_ x1153.length c_) (by kernel_rfl) (fun w => by kernel_rfl) (fun w hw => defect_Turn.calls K x1130 (IntKind.i64.wrap (4 - (Int.tmod a2_0 8)))  _ _ _ w  ((k1136.le le1148).at hw) hx1153) (fun R1154 F1155 A1156 c1157 le1158 k1159 fr1160 => ?_)
            refine LL.op (.slice Aa0 a0.length ca0) (by kernel_rfl) (fun w _ => by kernel_rfl) ?_
            obtain ⟨x1161, hx1161, H⟩ := bind_some H
            refine LL.call 40 #[.slice A1156 x1153.length c1157, .slice Aa0 a0.length ca0] (.bool x1161) (by kernel_rfl) (fun w => by kernel_rfl) (fun w hw => sawmillref13_Same.calls K x1153 a0  _ _ _ _ _ w  (k1159.at hw) ((((ha0.le le1135).le le1148).le le1158).at hw) hx1161) ?_
            refine LL.op (.bool (!x1161)) (by kernel_rfl) (fun w _ => by kernel_rfl) ?_
            refine LL.op (.bool (!x1161)) (by kernel_rfl) (fun w _ => by kernel_rfl) ?_
            refine LL.done (s' := [(0, .slice Aa0 a0.length ca0), (4, .pointer (some ⟨g1124, 0, none⟩)), (6, .bool false), (9, .slice A1133 x1130.length c1134), (62, .bool (!x1161))]) [0, 4, 6, 9, 62] (by kernel_rfl) ?_
            refine NN.then ?_
            rcases Bool.eq_false_or_eq_true (x1161) with c1162 | c1162
            · rw [if_pos (c1162)] at H
              refine J.condF (b := !x1161) (by rw [show (!x1161) = !(x1161) from rfl, c1162]; rfl) (by kernel_rfl) (by kernel_rfl) ?_
              refine J.skip ?_
              refine NN.then ?_
              refine J.seq ?_
              refine J.seq ?_
              refine J.plain ?_
              refine LL.op (.int .i64 1) (by kernel_rfl) (fun w _ => by kernel_rfl) ?_
              refine LL.done (s' := [(0, .slice Aa0 a0.length ca0), (4, .pointer (some ⟨g1124, 0, none⟩)), (6, .bool false), (9, .slice A1133 x1130.length c1134), (10, .int .i64 1)]) [0, 4, 6, 9, 10] (by kernel_rfl) ?_
              refine NN.then ?_
              refine J.block ?_
              refine J.to [0, 4, 6, 9, 10] (s' := [(0, .slice Aa0 a0.length ca0), (4, .pointer (some ⟨g1124, 0, none⟩)), (6, .bool false), (9, .slice A1133 x1130.length c1134), (10, .int .i64 1)]) (by kernel_rfl) ?_
              refine J.loop (fun n_ s_ bs_ => ∃ (x10l0 : Int), sawmilllaw13_DefectTurned.l0 K a0 a1_0 a1_1 a1_2 a1_3 a1_4 a1_5 x1130 n_ x10l0 = some r1 ∧ s_ = [(0, .slice Aa0 a0.length ca0), (4, .pointer (some ⟨g1124, 0, none⟩)), (6, .bool false), (9, .slice A1133 x1130.length c1134), (10, .int .i64 x10l0)] ∧ [(g1125, cl [.int .i64 a2_0, .int .i64 a2_1] 62), (g1124, cl [.int .i64 a1_0, .int .i64 a1_1, .int .i64 a1_2, .int .i64 a1_3, .int .i64 a1_4, .int .i64 a1_5] 25)] = bs_) K ⟨1, H, rfl, rfl⟩ ?_
              rintro (_ | n_) s_ bs_ ⟨x10l0, H, rfl, rfl⟩
              · exact absurd H (by simp [sawmilllaw13_DefectTurned.l0])
              simp only [sawmilllaw13_DefectTurned.l0] at H
              refine J.seq ?_
              refine J.seq ?_
              refine J.plain ?_
              refine LL.op (.int .i64 x10l0) (by kernel_rfl) (fun w _ => by kernel_rfl) ?_
              refine LL.op (.bool (decide (x10l0 ≤ 6))) (by kernel_rfl) (fun w _ => by kernel_rfl) ?_
              refine LL.done (s' := [(0, .slice Aa0 a0.length ca0), (4, .pointer (some ⟨g1124, 0, none⟩)), (6, .bool false), (9, .slice A1133 x1130.length c1134), (10, .int .i64 x10l0), (64, .bool (decide (x10l0 ≤ 6)))]) [0, 4, 6, 9, 10, 64] (by kernel_rfl) ?_
              refine NN.then ?_
              rcases Bool.eq_false_or_eq_true (decide (x10l0 ≤ 6)) with c1164 | c1164
              · rw [if_pos (of_decide_eq_true c1164)] at H
                refine J.condT (b := decide (x10l0 ≤ 6)) c1164 (by kernel_rfl) (by kernel_rfl) ?_
                refine J.skip ?_
                refine NN.then ?_
                refine J.seq ?_
                refine J.block ?_
                refine J.seq ?_
                refine J.plain ?_
                refine LL.op (.slice A1133 x1130.length c1134) (by kernel_rfl) (fun w _ => by kernel_rfl) ?_
                refine LL.op (.int .i64 x10l0) (by kernel_rfl) (fun w _ => by kernel_rfl) ?_
                obtain ⟨x1165, hx1165, H⟩ := bind_some H
                refine LL.call 34 #[.slice A1133 x1130.length c1134, .int .i64 x10l0] (.int .i64 x1165) (by kernel_rfl) (fun w => by kernel_rfl) (fun w hw => defect_Count.calls x1130 x10l0  _ _ _ w  (((k1136.le le1148).le le1158).at hw) hx1165) ?_
                refine LL.op (.slice Aa0 a0.length ca0) (by kernel_rfl) (fun w _ => by kernel_rfl) ?_
                refine LL.op (.int .i64 x10l0) (by kernel_rfl) (fun w _ => by kernel_rfl) ?_
                obtain ⟨x1166, hx1166, H⟩ := bind_some H
                refine LL.call 34 #[.slice Aa0 a0.length ca0, .int .i64 x10l0] (.int .i64 x1166) (by kernel_rfl) (fun w => by kernel_rfl) (fun w hw => defect_Count.calls a0 x10l0  _ _ _ w  ((((ha0.le le1135).le le1148).le le1158).at hw) hx1166) ?_
                refine LL.op (.bool (!(x1165 == x1166))) (by kernel_rfl) (fun w _ => by kernel_rfl) ?_
                refine LL.op (.bool (!(x1165 == x1166))) (by kernel_rfl) (fun w _ => by kernel_rfl) ?_
                rcases Bool.eq_false_or_eq_true ((x1165 == x1166)) with c1167 | c1167
                · rw [if_pos (eq_of_beq c1167)] at H
                  refine LL.bool 74 (!(x1165 == x1166)) false (by rw [show (!(x1165 == x1166)) = !((x1165 == x1166)) from rfl, c1167]; rfl) (by kernel_rfl) ?_
                  refine LL.op (.slice A1133 x1130.length c1134) (by kernel_rfl) (fun w _ => by kernel_rfl) ?_
                  refine LL.op (.int .i64 x10l0) (by kernel_rfl) (fun w _ => by kernel_rfl) ?_
                  obtain ⟨x1168, hx1168, H⟩ := bind_some H
                  refine LL.call 36 #[.slice A1133 x1130.length c1134, .int .i64 x10l0] (.int .i64 x1168) (by kernel_rfl) (fun w => by kernel_rfl) (fun w hw => defect_Largest.calls K x1130 x10l0  _ _ _ w  (((k1136.le le1148).le le1158).at hw) hx1168) ?_
                  refine LL.op (.slice Aa0 a0.length ca0) (by kernel_rfl) (fun w _ => by kernel_rfl) ?_
                  refine LL.op (.int .i64 x10l0) (by kernel_rfl) (fun w _ => by kernel_rfl) ?_
                  obtain ⟨x1169, hx1169, H⟩ := bind_some H
                  refine LL.call 36 #[.slice Aa0 a0.length ca0, .int .i64 x10l0] (.int .i64 x1169) (by kernel_rfl) (fun w => by kernel_rfl) (fun w hw => defect_Largest.calls K a0 x10l0  _ _ _ w  ((((ha0.le le1135).le le1148).le le1158).at hw) hx1169) ?_
                  refine LL.op (.bool (!(x1168 == x1169))) (by kernel_rfl) (fun w _ => by kernel_rfl) ?_
                  refine LL.op (.bool (!(x1168 == x1169))) (by kernel_rfl) (fun w _ => by kernel_rfl) ?_
                  refine LL.done (s' := [(0, .slice Aa0 a0.length ca0), (4, .pointer (some ⟨g1124, 0, none⟩)), (6, .bool false), (9, .slice A1133 x1130.length c1134), (10, .int .i64 x10l0), (82, .bool (!(x1168 == x1169)))]) [0, 4, 6, 9, 10, 82] (by kernel_rfl) ?_
                  refine NN.then ?_
                  rcases Bool.eq_false_or_eq_true ((x1168 == x1169)) with c1170 | c1170
                  · rw [if_pos (eq_of_beq c1170)] at H
                    refine J.condF (b := !(x1168 == x1169)) (by rw [show (!(x1168 == x1169)) = !((x1168 == x1169)) from rfl, c1170]; rfl) (by kernel_rfl) (by kernel_rfl) ?_
                    refine J.skip ?_
                    refine NN.block_n ?_
                    refine NN.then ?_
                    refine J.plain ?_
                    refine LL.op (.int .i64 x10l0) (by kernel_rfl) (fun w _ => by kernel_rfl) ?_
                    refine LL.op (.int .i64 (IntKind.i64.wrap (x10l0 + 1))) (by kernel_rfl) (fun w _ => by kernel_rfl) ?_
                    refine LL.op (.int .i64 (IntKind.i64.wrap (x10l0 + 1))) (by kernel_rfl) (fun w _ => by kernel_rfl) ?_
                    refine LL.done (s' := [(0, .slice Aa0 a0.length ca0), (4, .pointer (some ⟨g1124, 0, none⟩)), (6, .bool false), (9, .slice A1133 x1130.length c1134), (10, .int .i64 (IntKind.i64.wrap (x10l0 + 1)))]) [0, 4, 6, 9, 10] (by kernel_rfl) ?_
                    exact NN.round' [0, 4, 6, 9, 10] (bs' := [(g1125, cl [.int .i64 a2_0, .int .i64 a2_1] 62), (g1124, cl [.int .i64 a1_0, .int .i64 a1_1, .int .i64 a1_2, .int .i64 a1_3, .int .i64 a1_4, .int .i64 a1_5] 25)]) (Nat.lt_succ_self _) (List.Sublist.refl _) (by kernel_rfl) ⟨IntKind.i64.wrap (x10l0 + 1), H, rfl, rfl⟩
                  · rw [if_neg (nebf c1170)] at H
                    refine J.condT (b := !(x1168 == x1169)) (by rw [show (!(x1168 == x1169)) = !((x1168 == x1169)) from rfl, c1170]; rfl) (by kernel_rfl) (by kernel_rfl) ?_
                    refine J.seq ?_
                    refine J.plain ?_
                    refine LL.op (.bool false) (by kernel_rfl) (fun w _ => by kernel_rfl) ?_
                    refine LL.done (s' := [(0, .slice Aa0 a0.length ca0), (4, .pointer (some ⟨g1124, 0, none⟩)), (6, .bool false), (9, .slice A1133 x1130.length c1134), (10, .int .i64 x10l0)]) [0, 4, 6, 9, 10] (by kernel_rfl) ?_
                    refine NN.then ?_
                    refine J.ret ?_
                    refine NN.block_ret ?_
                    refine NN.then_ret ?_
                    refine NN.then_ret ?_
                    refine NN.block_ret ?_
                    refine NN.then_ret ?_
                    refine NN.fin1 6 (.bool false) (by kernel_rfl) (by kernel_rfl) (.inl rfl) (fun w hi => hi.ret ?_)
                    first | (cases H; rfl) | (obtain rfl := Option.some.inj H; rfl) | (simp only [Option.some.injEq, Prod.mk.injEq] at H; obtain ⟨rfl⟩ := H; rfl)
                · rw [if_neg (nebf c1167)] at H
                  refine LL.bool 74 (!(x1165 == x1166)) true (by rw [show (!(x1165 == x1166)) = !((x1165 == x1166)) from rfl, c1167]; rfl) (by kernel_rfl) ?_
                  refine LL.off (by kernel_rfl) (by kernel_rfl) ?_
                  refine LL.off (by kernel_rfl) (by kernel_rfl) ?_
                  refine LL.off (by kernel_rfl) (by kernel_rfl) ?_
                  refine LL.off (by kernel_rfl) (by kernel_rfl) ?_
                  refine LL.off (by kernel_rfl) (by kernel_rfl) ?_
                  refine LL.off (by kernel_rfl) (by kernel_rfl) ?_
                  refine LL.off (by kernel_rfl) (by kernel_rfl) ?_
                  refine LL.op (.bool true) (by kernel_rfl) (fun w _ => by kernel_rfl) ?_
                  refine LL.done (s' := [(0, .slice Aa0 a0.length ca0), (4, .pointer (some ⟨g1124, 0, none⟩)), (6, .bool false), (9, .slice A1133 x1130.length c1134), (10, .int .i64 x10l0), (82, .bool true)]) [0, 4, 6, 9, 10, 82] (by kernel_rfl) ?_
                  refine NN.then ?_
                  refine J.condT (b := true) rfl (by kernel_rfl) (by kernel_rfl) ?_
                  refine J.seq ?_
                  refine J.plain ?_
                  refine LL.op (.bool false) (by kernel_rfl) (fun w _ => by kernel_rfl) ?_
                  refine LL.done (s' := [(0, .slice Aa0 a0.length ca0), (4, .pointer (some ⟨g1124, 0, none⟩)), (6, .bool false), (9, .slice A1133 x1130.length c1134), (10, .int .i64 x10l0)]) [0, 4, 6, 9, 10] (by kernel_rfl) ?_
                  refine NN.then ?_
                  refine J.ret ?_
                  refine NN.block_ret ?_
                  refine NN.then_ret ?_
                  refine NN.then_ret ?_
                  refine NN.block_ret ?_
                  refine NN.then_ret ?_
                  refine NN.fin1 6 (.bool false) (by kernel_rfl) (by kernel_rfl) (.inl rfl) (fun w hi => hi.ret ?_)
                  first | (cases H; rfl) | (obtain rfl := Option.some.inj H; rfl) | (simp only [Option.some.injEq, Prod.mk.injEq] at H; obtain ⟨rfl⟩ := H; rfl)
              · rw [if_neg (of_decide_eq_false c1164)] at H
                refine J.condF (b := decide (x10l0 ≤ 6)) c1164 (by kernel_rfl) (by kernel_rfl) ?_
                refine J.exit ?_
                refine NN.then_exit ?_
                refine NN.then_exit ?_
                refine NN.block_same ?_
                refine NN.then ?_
                refine J.seq ?_
                refine J.plain ?_
                refine LL.op (.pointer (some ⟨g1124, 2, none⟩)) (by kernel_rfl) (fun w _ => by kernel_rfl) ?_
                refine LL.op (.pointer (some ⟨g1124, 3, none⟩)) (by kernel_rfl) (fun w _ => by kernel_rfl) ?_
                refine LL.op (.int .i64 a1_3) (by kernel_rfl) (ld 1 g1124 3 rfl (by kernel_rfl) rfl (by kernel_rfl)) ?_
                refine LL.op (.pointer (some ⟨g1124, 2, none⟩)) (by kernel_rfl) (fun w _ => by kernel_rfl) ?_
                refine LL.op (.pointer (some ⟨g1124, 2, none⟩)) (by kernel_rfl) (fun w _ => by kernel_rfl) ?_
                refine LL.op (.int .i64 a1_2) (by kernel_rfl) (ld 1 g1124 2 rfl (by kernel_rfl) rfl (by kernel_rfl)) ?_
                refine LL.op (.int .i64 (IntKind.i64.wrap (a1_3 - a1_2))) (by kernel_rfl) (fun w _ => by kernel_rfl) ?_
                refine LL.op (.int .i64 (IntKind.i64.wrap (a1_3 - a1_2))) (by kernel_rfl) (fun w _ => by kernel_rfl) ?_
                refine LL.done (s' := [(0, .slice Aa0 a0.length ca0), (4, .pointer (some ⟨g1124, 0, none⟩)), (6, .bool false), (11, .int .i64 (IntKind.i64.wrap (a1_3 - a1_2)))]) [0, 4, 6, 11] (by kernel_rfl) ?_
                refine NN.then ?_
                refine J.seq ?_
                obtain ⟨x1171, hx1171, H⟩ := bind_some H
                obtain ⟨x1179, hx1179, H⟩ := bind_some H
                obtain ⟨⟨x1187_1, x1187_2, x1187_3, x1187_4, x1187_5, x1187_6⟩, hx1187, H⟩ := bind_some H
                (try dsimp only at H)
                obtain ⟨x1188, hx1188, H⟩ := bind_some H
                refine J.held follows ?_
                refine HH.take 0 (.slice Aa0 a0.length ca0) rfl (by kernel_rfl) (by kernel_rfl) (fun _ h => h) (fun w _ => by kernel_rfl) ?_
                refine HH.take 1 (.agg #[.int .i64 a1_0, .int .i64 a1_1, .int .i64 a1_2, .int .i64 a1_3, .int .i64 a1_4, .int .i64 a1_5]) rfl (by kernel_rfl) (by kernel_rfl) (fun _ h => h) (ld 1 g1124 0 rfl (by kernel_rfl) rfl (by kernel_rfl)) ?_
                refine HH.take 3 (.slice Aa0 a0.length ca0) rfl (by kernel_rfl) (by kernel_rfl) (fun _ h => h) (fun w _ => by kernel_rfl) ?_
                refine HH.take 5 (.pointer (some ⟨g1124, 2, none⟩)) rfl (by kernel_rfl) (by kernel_rfl) (fun _ h => h) (fun w _ => by kernel_rfl) ?_
                refine HH.take 6 (.pointer (some ⟨g1124, 3, none⟩)) rfl (by kernel_rfl) (by kernel_rfl) (fun _ h => h) (fun w _ => by kernel_rfl) ?_
                refine HH.take 7 (.int .i64 a1_3) rfl (by kernel_rfl) (by kernel_rfl) (fun _ h => h) (ld 1 g1124 3 rfl (by kernel_rfl) rfl (by kernel_rfl)) ?_
                refine HH.take 8 (.int .i64 (IntKind.i64.wrap (0 - a1_3))) rfl (by kernel_rfl) (by kernel_rfl) (fun _ h => h) (fun w _ => by kernel_rfl) ?_
                refine HH.take 9 (.pointer (some ⟨g1124, 2, none⟩)) rfl (by kernel_rfl) (by kernel_rfl) (fun _ h => h) (fun w _ => by kernel_rfl) ?_
                refine HH.take 10 (.pointer (some ⟨g1124, 2, none⟩)) rfl (by kernel_rfl) (by kernel_rfl) (fun _ h => h) (fun w _ => by kernel_rfl) ?_
                refine HH.take 11 (.int .i64 a1_2) rfl (by kernel_rfl) (by kernel_rfl) (fun _ h => h) (ld 1 g1124 2 rfl (by kernel_rfl) rfl (by kernel_rfl)) ?_
                refine HH.take 12 (.int .i64 (IntKind.i64.wrap (0 - a1_2))) rfl (by kernel_rfl) (by kernel_rfl) (fun _ h => h) (fun w _ => by kernel_rfl) ?_
                refine HH.take 13 (.pointer (some ⟨g1124, 0, none⟩)) rfl (by kernel_rfl) (by kernel_rfl) (fun _ h => h) (fun w _ => by kernel_rfl) ?_
                refine HH.take 14 (.pointer (some ⟨g1124, 0, none⟩)) rfl (by kernel_rfl) (by kernel_rfl) (fun _ h => h) (fun w _ => by kernel_rfl) ?_
                refine HH.take 15 (.int .i64 a1_0) rfl (by kernel_rfl) (by kernel_rfl) (fun _ h => h) (ld 1 g1124 0 rfl (by kernel_rfl) rfl (by kernel_rfl)) ?_
                refine HH.take 16 (.pointer (some ⟨g1124, 0, none⟩)) rfl (by kernel_rfl) (by kernel_rfl) (fun _ h => h) (fun w _ => by kernel_rfl) ?_
                refine HH.take 17 (.pointer (some ⟨g1124, 1, none⟩)) rfl (by kernel_rfl) (by kernel_rfl) (fun _ h => h) (fun w _ => by kernel_rfl) ?_
                refine HH.take 18 (.int .i64 a1_1) rfl (by kernel_rfl) (by kernel_rfl) (fun _ h => h) (ld 1 g1124 1 rfl (by kernel_rfl) rfl (by kernel_rfl)) ?_
                refine HH.take 19 (.pointer (some ⟨g1124, 4, none⟩)) rfl (by kernel_rfl) (by kernel_rfl) (fun _ h => h) (fun w _ => by kernel_rfl) ?_
                refine HH.take 20 (.pointer (some ⟨g1124, 4, none⟩)) rfl (by kernel_rfl) (by kernel_rfl) (fun _ h => h) (fun w _ => by kernel_rfl) ?_
                refine HH.take 21 (.int .i64 a1_4) rfl (by kernel_rfl) (by kernel_rfl) (fun _ h => h) (ld 1 g1124 4 rfl (by kernel_rfl) rfl (by kernel_rfl)) ?_
                refine HH.take 22 (.pointer (some ⟨g1124, 4, none⟩)) rfl (by kernel_rfl) (by kernel_rfl) (fun _ h => h) (fun w _ => by kernel_rfl) ?_
                refine HH.take 23 (.pointer (some ⟨g1124, 5, none⟩)) rfl (by kernel_rfl) (by kernel_rfl) (fun _ h => h) (fun w _ => by kernel_rfl) ?_
                refine HH.take 24 (.int .i64 a1_5) rfl (by kernel_rfl) (by kernel_rfl) (fun _ h => h) (ld 1 g1124 5 rfl (by kernel_rfl) rfl (by kernel_rfl)) ?_
                refine HH.all1 2 (by kernel_rfl) ?_
                refine HS.callR (enc := enc41) (m := 7) (l := x1171) 41 #[.slice Aa0 a0.length ca0, .agg #[.int .i64 a1_0, .int .i64 a1_1, .int .i64 a1_2, .int .i64 a1_3, .int .i64 a1_4, .int .i64 a1_5]] (fun A_ c_ => .slice A_ x1171.length c_) rfl (by kernel_rfl) (fun w => by kernel_rfl) (fun _ h => h) (fun w hw => defect_Clip.calls K a0 a1_0 a1_1 a1_2 a1_3 a1_4 a1_5  _ _ _ w  ((((ha0.le le1135).le le1148).le le1158).at hw) hx1171) (fun R1217 F1218 A1219 c1220 le1221 k1222 fr1223 => ?_)
                refine HH.all1 4 (by kernel_rfl) ?_
                refine HS.callR (enc := enc41) (m := 7) (l := x1179) 43 #[.slice Aa0 a0.length ca0, .int .i64 1] (fun A_ c_ => .slice A_ x1179.length c_) rfl (by kernel_rfl) (fun w => by kernel_rfl) (fun _ h => (h).back le1221) (fun w hw => defect_Turn.calls K a0 1  _ _ _ w  (((((ha0.le le1135).le le1148).le le1158).le le1221).at hw) hx1179) (fun R1224 F1225 A1226 c1227 le1228 k1229 fr1230 => ?_)
                refine HH.all1 25 (by kernel_rfl) ?_
                refine HS.call 48 #[.int .i64 (IntKind.i64.wrap (0 - a1_3)), .int .i64 (IntKind.i64.wrap (0 - a1_2)), .int .i64 a1_0, .int .i64 a1_1, .int .i64 a1_4, .int .i64 a1_5] (.agg #[.int .i64 x1187_1, .int .i64 x1187_2, .int .i64 x1187_3, .int .i64 x1187_4, .int .i64 x1187_5, .int .i64 x1187_6]) rfl (by kernel_rfl) (fun w => by kernel_rfl) (fun _ h => ((h).back le1228).back le1221) (fun w hw => sawmilllaw13_box.calls (IntKind.i64.wrap (0 - a1_3)) (IntKind.i64.wrap (0 - a1_2)) a1_0 a1_1 a1_4 a1_5   _ _ _ _ _ _ w   hx1187) ?_
                refine HH.all1 26 (by kernel_rfl) ?_
                refine HS.callR (enc := enc41) (m := 7) (l := x1188) 41 #[.slice A1226 x1179.length c1227, .agg #[.int .i64 x1187_1, .int .i64 x1187_2, .int .i64 x1187_3, .int .i64 x1187_4, .int .i64 x1187_5, .int .i64 x1187_6]] (fun A_ c_ => .slice A_ x1188.length c_) rfl (by kernel_rfl) (fun w => by kernel_rfl) (fun _ h => ((h).back le1228).back le1221) (fun w hw => defect_Clip.calls K x1179 x1187_1 x1187_2 x1187_3 x1187_4 x1187_5 x1187_6  _ _ _ w  (k1229.at hw) hx1188) (fun R1231 F1232 A1233 c1234 le1235 k1236 fr1237 => ?_)
                refine HH.take 27 (.slice A1219 x1171.length c1220) rfl (by kernel_rfl) (by kernel_rfl) (fun _ h => (((h).back le1235).back le1228).back le1221) (fun w _ => by kernel_rfl) ?_
                refine HH.take 28 (.slice A1233 x1188.length c1234) rfl (by kernel_rfl) (by kernel_rfl) (fun _ h => (((h).back le1235).back le1228).back le1221) (fun w _ => by kernel_rfl) ?_
                refine HH.done (s' := [(6, .bool false), (11, .int .i64 (IntKind.i64.wrap (a1_3 - a1_2))), (12, .slice A1219 x1171.length c1220), (13, .slice A1233 x1188.length c1234)]) [6, 11, 12, 13] (by kernel_rfl) (by kernel_rfl) ?_
                refine NN.then ?_
                refine J.seq ?_
                refine J.seq ?_
                refine J.plain ?_
                refine LL.op (.slice A1219 x1171.length c1220) (by kernel_rfl) (fun w _ => by kernel_rfl) ?_
                refine LL.op (.int .i64 (x1171.length : Int)) (by kernel_rfl) (fun w _ => by kernel_rfl) ?_
                refine LL.op (.slice A1233 x1188.length c1234) (by kernel_rfl) (fun w _ => by kernel_rfl) ?_
                refine LL.op (.int .i64 (x1188.length : Int)) (by kernel_rfl) (fun w _ => by kernel_rfl) ?_
                refine LL.op (.bool (!((x1171.length : Int) == (x1188.length : Int)))) (by kernel_rfl) (fun w _ => by kernel_rfl) ?_
                refine LL.done (s' := [(6, .bool false), (11, .int .i64 (IntKind.i64.wrap (a1_3 - a1_2))), (12, .slice A1219 x1171.length c1220), (13, .slice A1233 x1188.length c1234), (121, .bool (!((x1171.length : Int) == (x1188.length : Int))))]) [6, 11, 12, 13, 121] (by kernel_rfl) ?_
                refine NN.then ?_
                rcases Bool.eq_false_or_eq_true (((x1171.length : Int) == (x1188.length : Int))) with c1238 | c1238
                · rw [if_pos (eq_of_beq c1238)] at H
                  refine J.condF (b := !((x1171.length : Int) == (x1188.length : Int))) (by rw [show (!((x1171.length : Int) == (x1188.length : Int))) = !(((x1171.length : Int) == (x1188.length : Int))) from rfl, c1238]; rfl) (by kernel_rfl) (by kernel_rfl) ?_
                  refine J.skip ?_
                  refine NN.then ?_
                  refine J.seq ?_
                  refine J.seq ?_
                  refine J.plain ?_
                  refine LL.op (.int .i64 0) (by kernel_rfl) (fun w _ => by kernel_rfl) ?_
                  refine LL.done (s' := [(6, .bool false), (11, .int .i64 (IntKind.i64.wrap (a1_3 - a1_2))), (12, .slice A1219 x1171.length c1220), (13, .slice A1233 x1188.length c1234), (14, .int .i64 0)]) [6, 11, 12, 13, 14] (by kernel_rfl) ?_
                  refine NN.then ?_
                  refine J.block ?_
                  refine J.to [6, 11, 12, 13, 14] (s' := [(6, .bool false), (11, .int .i64 (IntKind.i64.wrap (a1_3 - a1_2))), (12, .slice A1219 x1171.length c1220), (13, .slice A1233 x1188.length c1234), (14, .int .i64 0)]) (by kernel_rfl) ?_
                  obtain ⟨kont1239, hk1239, H⟩ := kont_intro (P := fun q_ => sawmilllaw13_DefectTurned.l1 K a1_2 a1_3 x1171 x1188 q_ K 0 = some r1) H
                  refine J.loop (fun n_ s_ bs_ => ∃ (x14l1 : Int), sawmilllaw13_DefectTurned.l1 K a1_2 a1_3 x1171 x1188 kont1239 n_ x14l1 = some r1 ∧ s_ = [(6, .bool false), (11, .int .i64 (IntKind.i64.wrap (a1_3 - a1_2))), (12, .slice A1219 x1171.length c1220), (13, .slice A1233 x1188.length c1234), (14, .int .i64 x14l1)] ∧ [(g1125, cl [.int .i64 a2_0, .int .i64 a2_1] 62), (g1124, cl [.int .i64 a1_0, .int .i64 a1_1, .int .i64 a1_2, .int .i64 a1_3, .int .i64 a1_4, .int .i64 a1_5] 25)] = bs_) K ⟨0, H, rfl, rfl⟩ ?_
                  rintro (_ | n_) s_ bs_ ⟨x14l1, H, rfl, rfl⟩
                  · exact absurd H (by simp [sawmilllaw13_DefectTurned.l1])
                  simp only [sawmilllaw13_DefectTurned.l1] at H
                  refine J.seq ?_
                  refine J.seq ?_
                  refine J.plain ?_
                  refine LL.op (.int .i64 x14l1) (by kernel_rfl) (fun w _ => by kernel_rfl) ?_
                  refine LL.op (.slice A1219 x1171.length c1220) (by kernel_rfl) (fun w _ => by kernel_rfl) ?_
                  refine LL.op (.int .i64 (x1171.length : Int)) (by kernel_rfl) (fun w _ => by kernel_rfl) ?_
                  refine LL.op (.bool (decide (x14l1 < (x1171.length : Int)))) (by kernel_rfl) (fun w _ => by kernel_rfl) ?_
                  refine LL.done (s' := [(6, .bool false), (11, .int .i64 (IntKind.i64.wrap (a1_3 - a1_2))), (12, .slice A1219 x1171.length c1220), (13, .slice A1233 x1188.length c1234), (14, .int .i64 x14l1), (125, .bool (decide (x14l1 < (x1171.length : Int))))]) [6, 11, 12, 13, 14, 125] (by kernel_rfl) ?_
                  refine NN.then ?_
                  rcases Bool.eq_false_or_eq_true (decide (x14l1 < (x1171.length : Int))) with c1240 | c1240
                  · rw [if_pos (of_decide_eq_true c1240)] at H
                    refine J.condT (b := decide (x14l1 < (x1171.length : Int))) c1240 (by kernel_rfl) (by kernel_rfl) ?_
                    refine J.skip ?_
                    refine NN.then ?_
                    refine J.seq ?_
                    refine J.block ?_
                    refine J.seq ?_
                    refine J.plain ?_
                    refine LL.op (.slice A1219 x1171.length c1220) (by kernel_rfl) (fun w _ => by kernel_rfl) ?_
                    refine LL.op (.int .i64 x14l1) (by kernel_rfl) (fun w _ => by kernel_rfl) ?_
                    obtain ⟨⟨e1241_1, e1241_2, e1241_3, e1241_4, e1241_5, e1241_6, e1241_7⟩, he1241, H⟩ := bind_some H
                    (try dsimp only at H)
                    refine LL.op (.pointer (rp A1219 (x14l1.toNat * 7 + 0))) (by kernel_rfl) (idxR (cp := c1220) (ik := .i64) ((k1222.le le1228).le le1235) he1241 rfl (by kernel_rfl) (by kernel_rfl) (by kernel_rfl)) ?_
                    refine LL.op (.pointer (rp A1219 (x14l1.toNat * 7 + 1))) (by kernel_rfl) (fldR (b := x14l1.toNat * 7) (off := 1) (o1 := 0) (o2 := 1) ((k1222.le le1228).le le1235) he1241 rfl (by kernel_rfl) (by kernel_rfl) rfl) ?_
                    refine LL.op (.agg #[.int .i64 e1241_2, .int .i64 e1241_3, .int .i64 e1241_4, .int .i64 e1241_5, .int .i64 e1241_6, .int .i64 e1241_7]) (by kernel_rfl) (ldR (off := 1) ((k1222.le le1228).le le1235) he1241 rfl (by kernel_rfl) (by kernel_rfl)) ?_
                    refine LL.alloc 25 [.int .i64 0, .int .i64 0, .int .i64 0, .int .i64 0, .int .i64 0, .int .i64 0] (by kernel_rfl) rfl (by kernel_rfl) (fun g1242 => ?_)
                    refine LL.store 0 g1242 0 25 (.tmp 15) (.tmp 132) [.int .i64 e1241_2, .int .i64 e1241_3, .int .i64 e1241_4, .int .i64 e1241_5, .int .i64 e1241_6, .int .i64 e1241_7] (bs' := [(g1242, cl [.int .i64 e1241_2, .int .i64 e1241_3, .int .i64 e1241_4, .int .i64 e1241_5, .int .i64 e1241_6, .int .i64 e1241_7] 25), (g1125, cl [.int .i64 a2_0, .int .i64 a2_1] 62), (g1124, cl [.int .i64 a1_0, .int .i64 a1_1, .int .i64 a1_2, .int .i64 a1_3, .int .i64 a1_4, .int .i64 a1_5] 25)]) rfl (by kernel_rfl) rfl (by kernel_rfl) rfl (by kernel_rfl) ?_
                    refine LL.done (s' := [(6, .bool false), (11, .int .i64 (IntKind.i64.wrap (a1_3 - a1_2))), (12, .slice A1219 x1171.length c1220), (13, .slice A1233 x1188.length c1234), (14, .int .i64 x14l1), (15, .pointer (some ⟨g1242, 0, none⟩))]) [6, 11, 12, 13, 14, 15] (by kernel_rfl) ?_
                    refine NN.then ?_
                    refine J.seq ?_
                    refine J.drawn follows (by kernel_rfl) ?_
                    refine QQ.op (.slice A1233 x1188.length c1234) (by kernel_rfl) (fun w _ => by kernel_rfl) ?_
                    refine QQ.op (.int .i64 x14l1) (by kernel_rfl) (fun w _ => by kernel_rfl) ?_
                    obtain ⟨⟨e1243_1, e1243_2, e1243_3, e1243_4, e1243_5, e1243_6, e1243_7⟩, he1243, H⟩ := bind_some H
                    (try dsimp only at H)
                    refine QQ.op (.pointer (rp A1233 (x14l1.toNat * 7 + 0))) (by kernel_rfl) (idxR (cp := c1234) (ik := .i64) k1236 he1243 rfl (by kernel_rfl) (by kernel_rfl) (by kernel_rfl)) ?_
                    refine QQ.op (.agg #[.int .i64 e1243_1, .int .i64 e1243_2, .int .i64 e1243_3, .int .i64 e1243_4, .int .i64 e1243_5, .int .i64 e1243_6, .int .i64 e1243_7]) (by kernel_rfl) (ldR (off := 0) k1236 he1243 rfl (by kernel_rfl) (by kernel_rfl)) ?_
                    refine QQ.op (.slice A1219 x1171.length c1220) (by kernel_rfl) (fun w _ => by kernel_rfl) ?_
                    refine QQ.op (.int .i64 x14l1) (by kernel_rfl) (fun w _ => by kernel_rfl) ?_
                    refine QQ.op (.pointer (rp A1219 (x14l1.toNat * 7 + 0))) (by kernel_rfl) (idxR (cp := c1220) (ik := .i64) ((k1222.le le1228).le le1235) he1241 rfl (by kernel_rfl) (by kernel_rfl) (by kernel_rfl)) ?_
                    refine QQ.op (.pointer (rp A1219 (x14l1.toNat * 7 + 0))) (by kernel_rfl) (fldR (b := x14l1.toNat * 7) (off := 0) (o1 := 0) (o2 := 0) ((k1222.le le1228).le le1235) he1241 rfl (by kernel_rfl) (by kernel_rfl) rfl) ?_
                    refine QQ.op (.int .i64 e1241_1) (by kernel_rfl) (ldR (off := 0) ((k1222.le le1228).le le1235) he1241 rfl (by kernel_rfl) (by kernel_rfl)) ?_
                    refine QQ.op (.int .i64 (IntKind.i64.wrap (a1_3 - a1_2))) (by kernel_rfl) (fun w _ => by kernel_rfl) ?_
                    refine QQ.op (.pointer (some ⟨g1242, 2, none⟩)) (by kernel_rfl) (fun w _ => by kernel_rfl) ?_
                    refine QQ.op (.pointer (some ⟨g1242, 3, none⟩)) (by kernel_rfl) (fun w _ => by kernel_rfl) ?_
                    refine QQ.op (.int .i64 e1241_5) (by kernel_rfl) (ld 0 g1242 3 rfl (by kernel_rfl) rfl (by kernel_rfl)) ?_
                    refine QQ.op (.int .i64 (IntKind.i64.wrap ((IntKind.i64.wrap (a1_3 - a1_2)) - e1241_5))) (by kernel_rfl) (fun w _ => by kernel_rfl) ?_
                    refine QQ.op (.int .i64 (IntKind.i64.wrap (a1_3 - a1_2))) (by kernel_rfl) (fun w _ => by kernel_rfl) ?_
                    refine QQ.op (.pointer (some ⟨g1242, 2, none⟩)) (by kernel_rfl) (fun w _ => by kernel_rfl) ?_
                    refine QQ.op (.pointer (some ⟨g1242, 2, none⟩)) (by kernel_rfl) (fun w _ => by kernel_rfl) ?_
                    refine QQ.op (.int .i64 e1241_4) (by kernel_rfl) (ld 0 g1242 2 rfl (by kernel_rfl) rfl (by kernel_rfl)) ?_
                    refine QQ.op (.int .i64 (IntKind.i64.wrap ((IntKind.i64.wrap (a1_3 - a1_2)) - e1241_4))) (by kernel_rfl) (fun w _ => by kernel_rfl) ?_
                    refine QQ.op (.agg #[.int .i64 (IntKind.i64.wrap ((IntKind.i64.wrap (a1_3 - a1_2)) - e1241_5)), .int .i64 (IntKind.i64.wrap ((IntKind.i64.wrap (a1_3 - a1_2)) - e1241_4))]) (by kernel_rfl) (fun w _ => by kernel_rfl) ?_
                    refine QQ.op (.pointer (some ⟨g1242, 0, none⟩)) (by kernel_rfl) (fun w _ => by kernel_rfl) ?_
                    refine QQ.op (.agg #[.int .i64 e1241_2, .int .i64 e1241_3]) (by kernel_rfl) (ld 0 g1242 0 rfl (by kernel_rfl) rfl (by kernel_rfl)) ?_
                    refine QQ.op (.pointer (some ⟨g1242, 4, none⟩)) (by kernel_rfl) (fun w _ => by kernel_rfl) ?_
                    refine QQ.op (.agg #[.int .i64 e1241_6, .int .i64 e1241_7]) (by kernel_rfl) (ld 0 g1242 4 rfl (by kernel_rfl) rfl (by kernel_rfl)) ?_
                    refine QQ.op (.agg #[.int .i64 (IntKind.i64.wrap ((IntKind.i64.wrap (a1_3 - a1_2)) - e1241_5)), .int .i64 (IntKind.i64.wrap ((IntKind.i64.wrap (a1_3 - a1_2)) - e1241_4)), .int .i64 e1241_2, .int .i64 e1241_3, .int .i64 e1241_6, .int .i64 e1241_7]) (by kernel_rfl) (fun w _ => by kernel_rfl) ?_
                    refine QQ.op (.agg #[.int .i64 e1241_1, .int .i64 (IntKind.i64.wrap ((IntKind.i64.wrap (a1_3 - a1_2)) - e1241_5)), .int .i64 (IntKind.i64.wrap ((IntKind.i64.wrap (a1_3 - a1_2)) - e1241_4)), .int .i64 e1241_2, .int .i64 e1241_3, .int .i64 e1241_6, .int .i64 e1241_7]) (by kernel_rfl) (fun w _ => by kernel_rfl) ?_
                    refine QQ.op (.bool (!((e1243_1 == e1241_1) && ((((e1243_2 == (IntKind.i64.wrap ((IntKind.i64.wrap (a1_3 - a1_2)) - e1241_5))) && ((e1243_3 == (IntKind.i64.wrap ((IntKind.i64.wrap (a1_3 - a1_2)) - e1241_4))) && true)) && (((e1243_4 == e1241_2) && ((e1243_5 == e1241_3) && true)) && (((e1243_6 == e1241_6) && ((e1243_7 == e1241_7) && true)) && true))) && true)))) (by kernel_rfl) (run_neS (xs := #[.int .i64 e1243_1, .int .i64 e1243_2, .int .i64 e1243_3, .int .i64 e1243_4, .int .i64 e1243_5, .int .i64 e1243_6, .int .i64 e1243_7]) (ys := #[.int .i64 e1241_1, .int .i64 (IntKind.i64.wrap ((IntKind.i64.wrap (a1_3 - a1_2)) - e1241_5)), .int .i64 (IntKind.i64.wrap ((IntKind.i64.wrap (a1_3 - a1_2)) - e1241_4)), .int .i64 e1241_2, .int .i64 e1241_3, .int .i64 e1241_6, .int .i64 e1241_7]) (b := ((e1243_1 == e1241_1) && ((((e1243_2 == (IntKind.i64.wrap ((IntKind.i64.wrap (a1_3 - a1_2)) - e1241_5))) && ((e1243_3 == (IntKind.i64.wrap ((IntKind.i64.wrap (a1_3 - a1_2)) - e1241_4))) && true)) && (((e1243_4 == e1241_2) && ((e1243_5 == e1241_3) && true)) && (((e1243_6 == e1241_6) && ((e1243_7 == e1241_7) && true)) && true))) && true))) rfl (by kernel_rfl) (by kernel_rfl) (by kernel_rfl) (by kernel_rfl)) ?_
                    refine QQ.done (s' := [(6, .bool false), (11, .int .i64 (IntKind.i64.wrap (a1_3 - a1_2))), (12, .slice A1219 x1171.length c1220), (13, .slice A1233 x1188.length c1234), (14, .int .i64 x14l1), (159, .bool (!((e1243_1 == e1241_1) && ((((e1243_2 == (IntKind.i64.wrap ((IntKind.i64.wrap (a1_3 - a1_2)) - e1241_5))) && ((e1243_3 == (IntKind.i64.wrap ((IntKind.i64.wrap (a1_3 - a1_2)) - e1241_4))) && true)) && (((e1243_4 == e1241_2) && ((e1243_5 == e1241_3) && true)) && (((e1243_6 == e1241_6) && ((e1243_7 == e1241_7) && true)) && true))) && true))))]) [6, 11, 12, 13, 14, 159] (by kernel_rfl) ?_
                    refine NN.then ?_
                    rcases Bool.eq_false_or_eq_true (((e1243_1 == e1241_1) && ((((e1243_2 == (IntKind.i64.wrap ((IntKind.i64.wrap (a1_3 - a1_2)) - e1241_5))) && ((e1243_3 == (IntKind.i64.wrap ((IntKind.i64.wrap (a1_3 - a1_2)) - e1241_4))) && true)) && (((e1243_4 == e1241_2) && ((e1243_5 == e1241_3) && true)) && (((e1243_6 == e1241_6) && ((e1243_7 == e1241_7) && true)) && true))) && true))) with c1244 | c1244
                    · rw [if_pos (c1244)] at H
                      refine J.condF (b := !((e1243_1 == e1241_1) && ((((e1243_2 == (IntKind.i64.wrap ((IntKind.i64.wrap (a1_3 - a1_2)) - e1241_5))) && ((e1243_3 == (IntKind.i64.wrap ((IntKind.i64.wrap (a1_3 - a1_2)) - e1241_4))) && true)) && (((e1243_4 == e1241_2) && ((e1243_5 == e1241_3) && true)) && (((e1243_6 == e1241_6) && ((e1243_7 == e1241_7) && true)) && true))) && true))) (by rw [show (!((e1243_1 == e1241_1) && ((((e1243_2 == (IntKind.i64.wrap ((IntKind.i64.wrap (a1_3 - a1_2)) - e1241_5))) && ((e1243_3 == (IntKind.i64.wrap ((IntKind.i64.wrap (a1_3 - a1_2)) - e1241_4))) && true)) && (((e1243_4 == e1241_2) && ((e1243_5 == e1241_3) && true)) && (((e1243_6 == e1241_6) && ((e1243_7 == e1241_7) && true)) && true))) && true))) = !(((e1243_1 == e1241_1) && ((((e1243_2 == (IntKind.i64.wrap ((IntKind.i64.wrap (a1_3 - a1_2)) - e1241_5))) && ((e1243_3 == (IntKind.i64.wrap ((IntKind.i64.wrap (a1_3 - a1_2)) - e1241_4))) && true)) && (((e1243_4 == e1241_2) && ((e1243_5 == e1241_3) && true)) && (((e1243_6 == e1241_6) && ((e1243_7 == e1241_7) && true)) && true))) && true))) from rfl, c1244]; rfl) (by kernel_rfl) (by kernel_rfl) ?_
                      refine J.skip ?_
                      refine NN.block_n ?_
                      refine NN.then ?_
                      refine J.plain ?_
                      refine LL.op (.int .i64 x14l1) (by kernel_rfl) (fun w _ => by kernel_rfl) ?_
                      refine LL.op (.int .i64 (IntKind.i64.wrap (x14l1 + 1))) (by kernel_rfl) (fun w _ => by kernel_rfl) ?_
                      refine LL.op (.int .i64 (IntKind.i64.wrap (x14l1 + 1))) (by kernel_rfl) (fun w _ => by kernel_rfl) ?_
                      refine LL.done (s' := [(6, .bool false), (11, .int .i64 (IntKind.i64.wrap (a1_3 - a1_2))), (12, .slice A1219 x1171.length c1220), (13, .slice A1233 x1188.length c1234), (14, .int .i64 (IntKind.i64.wrap (x14l1 + 1)))]) [6, 11, 12, 13, 14] (by kernel_rfl) ?_
                      exact NN.round' [6, 11, 12, 13, 14] (bs' := [(g1125, cl [.int .i64 a2_0, .int .i64 a2_1] 62), (g1124, cl [.int .i64 a1_0, .int .i64 a1_1, .int .i64 a1_2, .int .i64 a1_3, .int .i64 a1_4, .int .i64 a1_5] 25)]) (Nat.lt_succ_self _) (List.Sublist.cons _ (List.Sublist.refl _)) (by kernel_rfl) ⟨IntKind.i64.wrap (x14l1 + 1), H, rfl, rfl⟩
                    · rw [if_neg (nebt c1244)] at H
                      refine J.condT (b := !((e1243_1 == e1241_1) && ((((e1243_2 == (IntKind.i64.wrap ((IntKind.i64.wrap (a1_3 - a1_2)) - e1241_5))) && ((e1243_3 == (IntKind.i64.wrap ((IntKind.i64.wrap (a1_3 - a1_2)) - e1241_4))) && true)) && (((e1243_4 == e1241_2) && ((e1243_5 == e1241_3) && true)) && (((e1243_6 == e1241_6) && ((e1243_7 == e1241_7) && true)) && true))) && true))) (by rw [show (!((e1243_1 == e1241_1) && ((((e1243_2 == (IntKind.i64.wrap ((IntKind.i64.wrap (a1_3 - a1_2)) - e1241_5))) && ((e1243_3 == (IntKind.i64.wrap ((IntKind.i64.wrap (a1_3 - a1_2)) - e1241_4))) && true)) && (((e1243_4 == e1241_2) && ((e1243_5 == e1241_3) && true)) && (((e1243_6 == e1241_6) && ((e1243_7 == e1241_7) && true)) && true))) && true))) = !(((e1243_1 == e1241_1) && ((((e1243_2 == (IntKind.i64.wrap ((IntKind.i64.wrap (a1_3 - a1_2)) - e1241_5))) && ((e1243_3 == (IntKind.i64.wrap ((IntKind.i64.wrap (a1_3 - a1_2)) - e1241_4))) && true)) && (((e1243_4 == e1241_2) && ((e1243_5 == e1241_3) && true)) && (((e1243_6 == e1241_6) && ((e1243_7 == e1241_7) && true)) && true))) && true))) from rfl, c1244]; rfl) (by kernel_rfl) (by kernel_rfl) ?_
                      refine J.seq ?_
                      refine J.plain ?_
                      refine LL.op (.bool false) (by kernel_rfl) (fun w _ => by kernel_rfl) ?_
                      refine LL.done (s' := [(6, .bool false), (11, .int .i64 (IntKind.i64.wrap (a1_3 - a1_2))), (12, .slice A1219 x1171.length c1220), (13, .slice A1233 x1188.length c1234), (14, .int .i64 x14l1)]) [6, 11, 12, 13, 14] (by kernel_rfl) ?_
                      refine NN.then ?_
                      refine J.ret ?_
                      refine NN.block_ret ?_
                      refine NN.then_ret ?_
                      refine NN.then_ret ?_
                      refine NN.block_ret ?_
                      refine NN.then_ret ?_
                      refine NN.fin1 6 (.bool false) (by kernel_rfl) (by kernel_rfl) (.inl rfl) (fun w hi => hi.ret ?_)
                      first | (cases H; rfl) | (obtain rfl := Option.some.inj H; rfl) | (simp only [Option.some.injEq, Prod.mk.injEq] at H; obtain ⟨rfl⟩ := H; rfl)
                  · rw [if_neg (of_decide_eq_false c1240)] at H
                    refine J.condF (b := decide (x14l1 < (x1171.length : Int))) c1240 (by kernel_rfl) (by kernel_rfl) ?_
                    refine J.exit ?_
                    refine NN.then_exit ?_
                    rw [← hk1239] at H
                    (try dsimp only at H)
                    refine NN.then_exit ?_
                    refine NN.block_same ?_
                    refine NN.then ?_
                    refine J.seq ?_
                    refine J.plain ?_
                    obtain ⟨x1245, hx1245, H⟩ := bind_some H
                    refine LL.call 30 #[] (.bool x1245) (by kernel_rfl) (fun w => by kernel_rfl) (fun w hw => sawmilllaw13_awake.calls K    _ w   hx1245) ?_
                    refine LL.op (.bool x1245) (by kernel_rfl) (fun w _ => by kernel_rfl) ?_
                    refine LL.done (s' := [(6, .bool x1245)]) [6] (by kernel_rfl) ?_
                    refine NN.then ?_
                    refine J.ret ?_
                    refine NN.fin1 6 (.bool x1245) (by kernel_rfl) (by kernel_rfl) (.inl rfl) (fun w hi => hi.ret ?_)
                    first | (cases H; rfl) | (obtain rfl := Option.some.inj H; rfl) | (simp only [Option.some.injEq, Prod.mk.injEq] at H; obtain ⟨rfl⟩ := H; rfl)
                · rw [if_neg (nebf c1238)] at H
                  refine J.condT (b := !((x1171.length : Int) == (x1188.length : Int))) (by rw [show (!((x1171.length : Int) == (x1188.length : Int))) = !(((x1171.length : Int) == (x1188.length : Int))) from rfl, c1238]; rfl) (by kernel_rfl) (by kernel_rfl) ?_
                  refine J.seq ?_
                  refine J.plain ?_
                  refine LL.op (.bool false) (by kernel_rfl) (fun w _ => by kernel_rfl) ?_
                  refine LL.done (s' := [(6, .bool false), (11, .int .i64 (IntKind.i64.wrap (a1_3 - a1_2))), (12, .slice A1219 x1171.length c1220), (13, .slice A1233 x1188.length c1234)]) [6, 11, 12, 13] (by kernel_rfl) ?_
                  refine NN.then ?_
                  refine J.ret ?_
                  refine NN.then_ret ?_
                  refine NN.fin1 6 (.bool false) (by kernel_rfl) (by kernel_rfl) (.inl rfl) (fun w hi => hi.ret ?_)
                  first | (cases H; rfl) | (obtain rfl := Option.some.inj H; rfl) | (simp only [Option.some.injEq, Prod.mk.injEq] at H; obtain ⟨rfl⟩ := H; rfl)
            · rw [if_neg (nebt c1162)] at H
              refine J.condT (b := !x1161) (by rw [show (!x1161) = !(x1161) from rfl, c1162]; rfl) (by kernel_rfl) (by kernel_rfl) ?_
              refine J.seq ?_
              refine J.plain ?_
              refine LL.op (.bool false) (by kernel_rfl) (fun w _ => by kernel_rfl) ?_
              refine LL.done (s' := [(0, .slice Aa0 a0.length ca0), (4, .pointer (some ⟨g1124, 0, none⟩)), (6, .bool false), (9, .slice A1133 x1130.length c1134)]) [0, 4, 6, 9] (by kernel_rfl) ?_
              refine NN.then ?_
              refine J.ret ?_
              refine NN.then_ret ?_
              refine NN.fin1 6 (.bool false) (by kernel_rfl) (by kernel_rfl) (.inl rfl) (fun w hi => hi.ret ?_)
              first | (cases H; rfl) | (obtain rfl := Option.some.inj H; rfl) | (simp only [Option.some.injEq, Prod.mk.injEq] at H; obtain ⟨rfl⟩ := H; rfl)
          · rw [if_neg (nebt c1152)] at H
            refine LL.bool 54 (!x1151) true (by rw [show (!x1151) = !(x1151) from rfl, c1152]; rfl) (by kernel_rfl) ?_
            refine LL.off (by kernel_rfl) (by kernel_rfl) ?_
            refine LL.off (by kernel_rfl) (by kernel_rfl) ?_
            refine LL.off (by kernel_rfl) (by kernel_rfl) ?_
            refine LL.off (by kernel_rfl) (by kernel_rfl) ?_
            refine LL.off (by kernel_rfl) (by kernel_rfl) ?_
            refine LL.off (by kernel_rfl) (by kernel_rfl) ?_
            refine LL.off (by kernel_rfl) (by kernel_rfl) ?_
            refine LL.op (.bool true) (by kernel_rfl) (fun w _ => by kernel_rfl) ?_
            refine LL.done (s' := [(0, .slice Aa0 a0.length ca0), (4, .pointer (some ⟨g1124, 0, none⟩)), (6, .bool false), (9, .slice A1133 x1130.length c1134), (62, .bool true)]) [0, 4, 6, 9, 62] (by kernel_rfl) ?_
            refine NN.then ?_
            refine J.condT (b := true) rfl (by kernel_rfl) (by kernel_rfl) ?_
            refine J.seq ?_
            refine J.plain ?_
            refine LL.op (.bool false) (by kernel_rfl) (fun w _ => by kernel_rfl) ?_
            refine LL.done (s' := [(0, .slice Aa0 a0.length ca0), (4, .pointer (some ⟨g1124, 0, none⟩)), (6, .bool false), (9, .slice A1133 x1130.length c1134)]) [0, 4, 6, 9] (by kernel_rfl) ?_
            refine NN.then ?_
            refine J.ret ?_
            refine NN.then_ret ?_
            refine NN.fin1 6 (.bool false) (by kernel_rfl) (by kernel_rfl) (.inl rfl) (fun w hi => hi.ret ?_)
            first | (cases H; rfl) | (obtain rfl := Option.some.inj H; rfl) | (simp only [Option.some.injEq, Prod.mk.injEq] at H; obtain ⟨rfl⟩ := H; rfl)
        · rw [if_neg (nebf c1142)] at H
          refine LL.bool 45 (!(x1140 == x1141)) true (by rw [show (!(x1140 == x1141)) = !((x1140 == x1141)) from rfl, c1142]; rfl) (by kernel_rfl) ?_
          refine LL.off (by kernel_rfl) (by kernel_rfl) ?_
          refine LL.off (by kernel_rfl) (by kernel_rfl) ?_
          refine LL.off (by kernel_rfl) (by kernel_rfl) ?_
          refine LL.off (by kernel_rfl) (by kernel_rfl) ?_
          refine LL.off (by kernel_rfl) (by kernel_rfl) ?_
          refine LL.off (by kernel_rfl) (by kernel_rfl) ?_
          refine LL.off (by kernel_rfl) (by kernel_rfl) ?_
          refine LL.op (.bool true) (by kernel_rfl) (fun w _ => by kernel_rfl) ?_
          refine LL.op (.bool true) (by kernel_rfl) (fun w _ => by kernel_rfl) ?_
          refine LL.off (by kernel_rfl) (by kernel_rfl) ?_
          refine LL.off (by kernel_rfl) (by kernel_rfl) ?_
          refine LL.off (by kernel_rfl) (by kernel_rfl) ?_
          refine LL.off (by kernel_rfl) (by kernel_rfl) ?_
          refine LL.off (by kernel_rfl) (by kernel_rfl) ?_
          refine LL.off (by kernel_rfl) (by kernel_rfl) ?_
          refine LL.off (by kernel_rfl) (by kernel_rfl) ?_
          refine LL.op (.bool true) (by kernel_rfl) (fun w _ => by kernel_rfl) ?_
          refine LL.done (s' := [(0, .slice Aa0 a0.length ca0), (4, .pointer (some ⟨g1124, 0, none⟩)), (6, .bool false), (9, .slice A1133 x1130.length c1134), (62, .bool true)]) [0, 4, 6, 9, 62] (by kernel_rfl) ?_
          refine NN.then ?_
          refine J.condT (b := true) rfl (by kernel_rfl) (by kernel_rfl) ?_
          refine J.seq ?_
          refine J.plain ?_
          refine LL.op (.bool false) (by kernel_rfl) (fun w _ => by kernel_rfl) ?_
          refine LL.done (s' := [(0, .slice Aa0 a0.length ca0), (4, .pointer (some ⟨g1124, 0, none⟩)), (6, .bool false), (9, .slice A1133 x1130.length c1134)]) [0, 4, 6, 9] (by kernel_rfl) ?_
          refine NN.then ?_
          refine J.ret ?_
          refine NN.then_ret ?_
          refine NN.fin1 6 (.bool false) (by kernel_rfl) (by kernel_rfl) (.inl rfl) (fun w hi => hi.ret ?_)
          first | (cases H; rfl) | (obtain rfl := Option.some.inj H; rfl) | (simp only [Option.some.injEq, Prod.mk.injEq] at H; obtain ⟨rfl⟩ := H; rfl)
      · rw [if_neg (nebf c1139)] at H
        refine LL.bool 36 (!(x1138 == 0)) true (by rw [show (!(x1138 == 0)) = !((x1138 == 0)) from rfl, c1139]; rfl) (by kernel_rfl) ?_
        refine LL.off (by kernel_rfl) (by kernel_rfl) ?_
        refine LL.off (by kernel_rfl) (by kernel_rfl) ?_
        refine LL.off (by kernel_rfl) (by kernel_rfl) ?_
        refine LL.off (by kernel_rfl) (by kernel_rfl) ?_
        refine LL.off (by kernel_rfl) (by kernel_rfl) ?_
        refine LL.off (by kernel_rfl) (by kernel_rfl) ?_
        refine LL.off (by kernel_rfl) (by kernel_rfl) ?_
        refine LL.op (.bool true) (by kernel_rfl) (fun w _ => by kernel_rfl) ?_
        refine LL.op (.bool true) (by kernel_rfl) (fun w _ => by kernel_rfl) ?_
        refine LL.off (by kernel_rfl) (by kernel_rfl) ?_
        refine LL.off (by kernel_rfl) (by kernel_rfl) ?_
        refine LL.off (by kernel_rfl) (by kernel_rfl) ?_
        refine LL.off (by kernel_rfl) (by kernel_rfl) ?_
        refine LL.off (by kernel_rfl) (by kernel_rfl) ?_
        refine LL.off (by kernel_rfl) (by kernel_rfl) ?_
        refine LL.off (by kernel_rfl) (by kernel_rfl) ?_
        refine LL.op (.bool true) (by kernel_rfl) (fun w _ => by kernel_rfl) ?_
        refine LL.op (.bool true) (by kernel_rfl) (fun w _ => by kernel_rfl) ?_
        refine LL.off (by kernel_rfl) (by kernel_rfl) ?_
        refine LL.off (by kernel_rfl) (by kernel_rfl) ?_
        refine LL.off (by kernel_rfl) (by kernel_rfl) ?_
        refine LL.off (by kernel_rfl) (by kernel_rfl) ?_
        refine LL.off (by kernel_rfl) (by kernel_rfl) ?_
        refine LL.off (by kernel_rfl) (by kernel_rfl) ?_
        refine LL.off (by kernel_rfl) (by kernel_rfl) ?_
        refine LL.op (.bool true) (by kernel_rfl) (fun w _ => by kernel_rfl) ?_
        refine LL.done (s' := [(0, .slice Aa0 a0.length ca0), (4, .pointer (some ⟨g1124, 0, none⟩)), (6, .bool false), (9, .slice A1133 x1130.length c1134), (62, .bool true)]) [0, 4, 6, 9, 62] (by kernel_rfl) ?_
        refine NN.then ?_
        refine J.condT (b := true) rfl (by kernel_rfl) (by kernel_rfl) ?_
        refine J.seq ?_
        refine J.plain ?_
        refine LL.op (.bool false) (by kernel_rfl) (fun w _ => by kernel_rfl) ?_
        refine LL.done (s' := [(0, .slice Aa0 a0.length ca0), (4, .pointer (some ⟨g1124, 0, none⟩)), (6, .bool false), (9, .slice A1133 x1130.length c1134)]) [0, 4, 6, 9] (by kernel_rfl) ?_
        refine NN.then ?_
        refine J.ret ?_
        refine NN.then_ret ?_
        refine NN.fin1 6 (.bool false) (by kernel_rfl) (by kernel_rfl) (.inl rfl) (fun w hi => hi.ret ?_)
        first | (cases H; rfl) | (obtain rfl := Option.some.inj H; rfl) | (simp only [Option.some.injEq, Prod.mk.injEq] at H; obtain ⟨rfl⟩ := H; rfl)
    · rw [if_neg (nebt c1129)] at H
      refine J.condT (b := !x1128) (by rw [show (!x1128) = !(x1128) from rfl, c1129]; rfl) (by kernel_rfl) (by kernel_rfl) ?_
      refine J.seq ?_
      refine J.plain ?_
      obtain ⟨x1246, hx1246, H⟩ := bind_some H
      refine LL.call 30 #[] (.bool x1246) (by kernel_rfl) (fun w => by kernel_rfl) (fun w hw => sawmilllaw13_awake.calls K    _ w   hx1246) ?_
      refine LL.op (.bool x1246) (by kernel_rfl) (fun w _ => by kernel_rfl) ?_
      refine LL.done (s' := [(0, .slice Aa0 a0.length ca0), (4, .pointer (some ⟨g1124, 0, none⟩)), (5, .pointer (some ⟨g1125, 0, none⟩)), (6, .bool x1246)]) [0, 4, 5, 6] (by kernel_rfl) ?_
      refine NN.then ?_
      refine J.ret ?_
      refine NN.then_ret ?_
      refine NN.fin1 6 (.bool x1246) (by kernel_rfl) (by kernel_rfl) (.inl rfl) (fun w hi => hi.ret ?_)
      first | (cases H; rfl) | (obtain rfl := Option.some.inj H; rfl) | (simp only [Option.some.injEq, Prod.mk.injEq] at H; obtain ⟨rfl⟩ := H; rfl)
  · rw [if_neg (nebf c1127)] at H
    refine LL.bool 19 (!(x1126 == 0)) true (by rw [show (!(x1126 == 0)) = !((x1126 == 0)) from rfl, c1127]; rfl) (by kernel_rfl) ?_
    refine LL.off (by kernel_rfl) (by kernel_rfl) ?_
    refine LL.off (by kernel_rfl) (by kernel_rfl) ?_
    refine LL.off (by kernel_rfl) (by kernel_rfl) ?_
    refine LL.op (.bool true) (by kernel_rfl) (fun w _ => by kernel_rfl) ?_
    refine LL.done (s' := [(0, .slice Aa0 a0.length ca0), (4, .pointer (some ⟨g1124, 0, none⟩)), (5, .pointer (some ⟨g1125, 0, none⟩)), (6, .bool false), (23, .bool true)]) [0, 4, 5, 6, 23] (by kernel_rfl) ?_
    refine NN.then ?_
    refine J.condT (b := true) rfl (by kernel_rfl) (by kernel_rfl) ?_
    refine J.seq ?_
    refine J.plain ?_
    obtain ⟨x1247, hx1247, H⟩ := bind_some H
    refine LL.call 30 #[] (.bool x1247) (by kernel_rfl) (fun w => by kernel_rfl) (fun w hw => sawmilllaw13_awake.calls K    _ w   hx1247) ?_
    refine LL.op (.bool x1247) (by kernel_rfl) (fun w _ => by kernel_rfl) ?_
    refine LL.done (s' := [(0, .slice Aa0 a0.length ca0), (4, .pointer (some ⟨g1124, 0, none⟩)), (5, .pointer (some ⟨g1125, 0, none⟩)), (6, .bool x1247)]) [0, 4, 5, 6] (by kernel_rfl) ?_
    refine NN.then ?_
    refine J.ret ?_
    refine NN.then_ret ?_
    refine NN.fin1 6 (.bool x1247) (by kernel_rfl) (by kernel_rfl) (.inl rfl) (fun w hi => hi.ret ?_)
    first | (cases H; rfl) | (obtain rfl := Option.some.inj H; rfl) | (simp only [Option.some.injEq, Prod.mk.injEq] at H; obtain ⟨rfl⟩ := H; rfl)

end Go.Proofs.Ytfjbhmpnmpphoaa
