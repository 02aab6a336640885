/- Walks of functions of the seat: each call does what the Lean function of the same name says. Printed by the session's own program absgen.py. -/
import Derived.Test.YtfjbhmpnmpphoaaF4
namespace Go.Proofs.Ytfjbhmpnmpphoaa
open Go.Saw
set_option linter.unusedVariables false
set_option linter.unusedSimpArgs false

/-! ### sawmilllaw13_DefectWindows: function 14 -/
def sawmilllaw13_DefectWindows.l0 (K : Nat) (a0 : List E41) (a2_0 : Int) (a2_1 : Int) (y1267 : List E41) (x1284 : Int) (x1285 : Int) : Nat → Int → Int → Option (Bool)
  | 0, _, _ => none
  | k + 1, x10l0, x12l0 => if x12l0 < (a0.length : Int) then ((idx a0 x12l0).bind fun be1288 => (if be1288.1 = 1 then ((defect_Size.f be1288.1 be1288.2.1 be1288.2.2.1 be1288.2.2.2.1 be1288.2.2.2.2.1 be1288.2.2.2.2.2.1 be1288.2.2.2.2.2.2).bind fun x1290 => (sawmilllaw13_DefectWindows.l0 K a0 a2_0 a2_1 y1267 x1284 x1285 k (IntKind.i64.wrap (x10l0 + x1290)) (IntKind.i64.wrap (x12l0 + 1)))) else (if be1288.1 = 2 then ((defect_Size.f be1288.1 be1288.2.1 be1288.2.2.1 be1288.2.2.2.1 be1288.2.2.2.2.1 be1288.2.2.2.2.2.1 be1288.2.2.2.2.2.2).bind fun x1292 => (sawmilllaw13_DefectWindows.l0 K a0 a2_0 a2_1 y1267 x1284 x1285 k (IntKind.i64.wrap (x10l0 + x1292)) (IntKind.i64.wrap (x12l0 + 1)))) else (sawmilllaw13_DefectWindows.l0 K a0 a2_0 a2_1 y1267 x1284 x1285 k x10l0 (IntKind.i64.wrap (x12l0 + 1)))))) else ((defect_Worst.f K a0 (mn a2_0 a2_1)).bind fun x1293 => (if (mx x1284 x1285) ≤ x1293 then (if x1293 ≤ x10l0 then ((defect_Worst.f K a0 (mx a2_0 a2_1)).bind fun x1296 => (if x1293 ≤ x1296 then ((defect_Worst.f K y1267 (mn a2_0 a2_1)).bind fun x1298 => (if x1293 ≤ x1298 then ((sawmilllaw13_awake.f K ).bind fun x1300 => (some x1300)) else (some false))) else (some false))) else (some false)) else (some false)))
def sawmilllaw13_DefectWindows.f (K : Nat) (a0 : List E41) (a1_0 : Int) (a1_1 : Int) (a1_2 : Int) (a1_3 : Int) (a1_4 : Int) (a1_5 : Int) (a1_6 : Int) (a2_0 : Int) (a2_1 : Int) : Option (Bool) := (app 56 ([] : List E41) a0).bind fun y1253 => ((app 56 y1253 ([(a1_0, a1_1, a1_2, a1_3, a1_4, a1_5, a1_6)] : List E41)).bind fun y1267 => ((sawmillref13_Check.f K y1267).bind fun x1278 => (if x1278 = 0 then (if (mn a2_0 a2_1) < 1 then ((sawmilllaw13_awake.f K ).bind fun x1281 => (some x1281)) else (if 20000 < (mx a2_0 a2_1) then ((sawmilllaw13_awake.f K ).bind fun x1283 => (some x1283)) else ((defect_Largest.f K a0 1).bind fun x1284 => ((defect_Largest.f K a0 2).bind fun x1285 => (sawmilllaw13_DefectWindows.l0 K a0 a2_0 a2_1 y1267 x1284 x1285 K 0 0))))) else ((sawmilllaw13_awake.f K ).bind fun x1301 => (some x1301)))))
set_option maxRecDepth 100000 in
theorem sawmilllaw13_DefectWindows.calls (K : Nat) (a0 : List E41) (a1_0 : Int) (a1_1 : Int) (a1_2 : Int) (a1_3 : Int) (a1_4 : Int) (a1_5 : Int) (a1_6 : Int) (a2_0 : Int) (a2_1 : Int)  (Aa0 : Option Addr) (ca0 : Nat)  (r1 : Bool) (w : World)   (ha0 : KRow (Cx.start w) enc41 7 a0 Aa0) (h : sawmilllaw13_DefectWindows.f K a0 a1_0 a1_1 a1_2 a1_3 a1_4 a1_5 a1_6 a2_0 a2_1 = some r1) :
    Calls Try.prog 14 #[.slice Aa0 a0.length ca0, .agg #[.int .i64 a1_0, .int .i64 a1_1, .int .i64 a1_2, .int .i64 a1_3, .int .i64 a1_4, .int .i64 a1_5, .int .i64 a1_6], .agg #[.int .i64 a2_0, .int .i64 a2_1]] w (Ret w (.bool r1)) := by
  have H := h
  clear h
  unfold sawmilllaw13_DefectWindows.f at H
  refine Go.Saw.calls (args := [.slice Aa0 a0.length ca0, .agg #[.int .i64 a1_0, .int .i64 a1_1, .int .i64 a1_2, .int .i64 a1_3, .int .i64 a1_4, .int .i64 a1_5, .int .i64 a1_6], .agg #[.int .i64 a2_0, .int .i64 a2_1]]) Try.func14 rfl Try.ntmps14 (by kernel_rfl) ?_
  refine J.seq ?_
  refine J.plain ?_
  refine LL.box 41 (.tmp 1) [.int .i64 a1_0, .int .i64 a1_1, .int .i64 a1_2, .int .i64 a1_3, .int .i64 a1_4, .int .i64 a1_5, .int .i64 a1_6] (by kernel_rfl) rfl (by kernel_rfl) (fun g1248 => ?_)
  refine LL.box 62 (.tmp 2) [.int .i64 a2_0, .int .i64 a2_1] (by kernel_rfl) rfl (by kernel_rfl) (fun g1249 => ?_)
  refine LL.op (.bool false) (by kernel_rfl) (fun w _ => by kernel_rfl) ?_
  refine LL.done (s' := [(0, .slice Aa0 a0.length ca0), (4, .pointer (some ⟨g1248, 0, none⟩)), (5, .pointer (some ⟨g1249, 0, none⟩)), (6, .bool false)]) [0, 4, 5, 6] (by kernel_rfl) ?_
  refine NN.then ?_
  refine J.seq ?_
  refine J.held follows ?_
  refine HH.take 1 (.slice Aa0 a0.length ca0) rfl (by kernel_rfl) (by kernel_rfl) (fun _ h => h) (fun w _ => by kernel_rfl) ?_
  refine HH.take 3 (.agg #[.int .i64 a1_0, .int .i64 a1_1, .int .i64 a1_2, .int .i64 a1_3, .int .i64 a1_4, .int .i64 a1_5, .int .i64 a1_6]) rfl (by kernel_rfl) (by kernel_rfl) (fun _ h => h) (ld 1 g1248 0 rfl (by kernel_rfl) rfl (by kernel_rfl)) ?_
  refine HH.all2 0 4 (by kernel_rfl) ?_ ?_
  · skip
    refine HS.lit0 26 41 7 enc41 rfl (by kernel_rfl) rfl (by kernel_rfl) (fun _ h => h) (fun A1250 o1251 => ?_)
    refine HH.all2 2 4 (by kernel_rfl) ?_ ?_
    · skip
      obtain ⟨y1253, hy1253, H⟩ := bind_some H
      refine HS.app (l2 := a0) (cap := 0) (c2 := ca0) [(g1249, cl [.int .i64 a2_0, .int .i64 a2_1] 62), (g1248, cl [.int .i64 a1_0, .int .i64 a1_1, .int .i64 a1_2, .int .i64 a1_3, .int .i64 a1_4, .int .i64 a1_5, .int .i64 a1_6] 41)] (.tmp 14) (.tmp 15) el26 ok41 o1251 ha0 hy1253 rfl (by kernel_rfl) rfl (by kernel_rfl) (by kernel_rfl) (fun _ h => h) (fun A1254 c1255 ba1256 o1257 => ?_)
      refine HH.all1 4 (by kernel_rfl) ?_
      refine HS.lit 26 1 #[(0, .tmp 17)] [.int .i64 a1_0, .int .i64 a1_1, .int .i64 a1_2, .int .i64 a1_3, .int .i64 a1_4, .int .i64 a1_5, .int .i64 a1_6] 41 ([(a1_0, a1_1, a1_2, a1_3, a1_4, a1_5, a1_6)] : List E41) rfl (by kernel_rfl) rfl (by kernel_rfl) ok41.len rfl rfl (fun _ h => h.sub (List.sublist_append_left _ _)) (fun R1259 F1260 A1261 c1262 le1263 k1264 fr1265 => ?_)
      refine HH.all1 5 (by kernel_rfl) ?_
      obtain ⟨y1267, hy1267, H⟩ := bind_some H
      refine HS.app (l2 := ([(a1_0, a1_1, a1_2, a1_3, a1_4, a1_5, a1_6)] : List E41)) (cap := c1255) (c2 := c1262) [(g1249, cl [.int .i64 a2_0, .int .i64 a2_1] 62), (g1248, cl [.int .i64 a1_0, .int .i64 a1_1, .int .i64 a1_2, .int .i64 a1_3, .int .i64 a1_4, .int .i64 a1_5, .int .i64 a1_6] 41)] (.tmp 16) (.tmp 18) el26 ok41 o1257 k1264 hy1267 rfl (by kernel_rfl) rfl (by kernel_rfl) (by kernel_rfl) (fun _ h => (h).back le1263) (fun A1268 c1269 ba1270 o1271 => ?_)
      refine HH.take 6 (.slice A1268 y1267.length c1269) rfl (by kernel_rfl) (by kernel_rfl) (fun _ h => (h.sub (List.sublist_append_left _ _)).back le1263) (fun w _ => by kernel_rfl) ?_
      refine HH.done (s' := [(0, .slice Aa0 a0.length ca0), (5, .pointer (some ⟨g1249, 0, none⟩)), (6, .bool false), (7, .slice A1268 y1267.length c1269)]) [0, 5, 6, 7] (by kernel_rfl) (by kernel_rfl) ?_
      refine NN.then ?_
      refine J.seq ?_
      refine J.drawn follows (by kernel_rfl) ?_
      refine QQ.op (.pointer (some ⟨g1249, 0, none⟩)) (by kernel_rfl) (fun w _ => by kernel_rfl) ?_
      refine QQ.op (.int .i64 a2_0) (by kernel_rfl) (ld 0 g1249 0 rfl (by kernel_rfl) rfl (by kernel_rfl)) ?_
      refine QQ.op (.pointer (some ⟨g1249, 1, none⟩)) (by kernel_rfl) (fun w _ => by kernel_rfl) ?_
      refine QQ.op (.int .i64 a2_1) (by kernel_rfl) (ld 0 g1249 1 rfl (by kernel_rfl) rfl (by kernel_rfl)) ?_
      refine QQ.op (.int .i64 (mn a2_0 a2_1)) (by kernel_rfl) (fun w _ => by kernel_rfl) ?_
      refine QQ.op (.pointer (some ⟨g1249, 0, none⟩)) (by kernel_rfl) (fun w _ => by kernel_rfl) ?_
      refine QQ.op (.int .i64 a2_0) (by kernel_rfl) (ld 0 g1249 0 rfl (by kernel_rfl) rfl (by kernel_rfl)) ?_
      refine QQ.op (.pointer (some ⟨g1249, 1, none⟩)) (by kernel_rfl) (fun w _ => by kernel_rfl) ?_
      refine QQ.op (.int .i64 a2_1) (by kernel_rfl) (ld 0 g1249 1 rfl (by kernel_rfl) rfl (by kernel_rfl)) ?_
      refine QQ.op (.int .i64 (mx a2_0 a2_1)) (by kernel_rfl) (fun w _ => by kernel_rfl) ?_
      refine QQ.op (.int .i64 (mn a2_0 a2_1)) (by kernel_rfl) (fun w _ => by kernel_rfl) ?_
      refine QQ.op (.int .i64 (mx a2_0 a2_1)) (by kernel_rfl) (fun w _ => by kernel_rfl) ?_
      refine QQ.done (s' := [(0, .slice Aa0 a0.length ca0), (6, .bool false), (7, .slice A1268 y1267.length c1269), (8, .int .i64 (mn a2_0 a2_1)), (9, .int .i64 (mx a2_0 a2_1))]) [0, 6, 7, 8, 9] (by kernel_rfl) ?_
      refine NN.then ?_
      refine J.seq ?_
      refine J.seq ?_
      refine J.plain ?_
      refine LL.op (.slice A1268 y1267.length c1269) (by kernel_rfl) (fun w _ => by kernel_rfl) ?_
      refine LL.freeze (pre := [(g1249, cl [.int .i64 a2_0, .int .i64 a2_1] 62), (g1248, cl [.int .i64 a1_0, .int .i64 a1_1, .int .i64 a1_2, .int .i64 a1_3, .int .i64 a1_4, .int .i64 a1_5, .int .i64 a1_6] 41)]) ok41 o1271 (fun R1273 F1274 le1275 k1276 fr1277 => ?_)
      obtain ⟨x1278, hx1278, H⟩ := bind_some H
      refine LL.call 26 #[.slice A1268 y1267.length c1269] (.int .i64 x1278) (by kernel_rfl) (fun w => by kernel_rfl) (fun w hw => sawmillref13_Check.calls K y1267  _ _ _ w  (k1276.at hw) hx1278) ?_
      refine LL.op (.bool (!(x1278 == 0))) (by kernel_rfl) (fun w _ => by kernel_rfl) ?_
      refine LL.op (.bool (!(x1278 == 0))) (by kernel_rfl) (fun w _ => by kernel_rfl) ?_
      rcases Bool.eq_false_or_eq_true ((x1278 == 0)) with c1279 | c1279
      · rw [if_pos (eq_of_beq c1279)] at H
        refine LL.bool 33 (!(x1278 == 0)) false (by rw [show (!(x1278 == 0)) = !((x1278 == 0)) from rfl, c1279]; rfl) (by kernel_rfl) ?_
        refine LL.op (.int .i64 (mn a2_0 a2_1)) (by kernel_rfl) (fun w _ => by kernel_rfl) ?_
        refine LL.op (.bool (decide ((mn a2_0 a2_1) < 1))) (by kernel_rfl) (fun w _ => by kernel_rfl) ?_
        refine LL.op (.bool (decide ((mn a2_0 a2_1) < 1))) (by kernel_rfl) (fun w _ => by kernel_rfl) ?_
        refine LL.op (.bool (decide ((mn a2_0 a2_1) < 1))) (by kernel_rfl) (fun w _ => by kernel_rfl) ?_
        rcases Bool.eq_false_or_eq_true (decide ((mn a2_0 a2_1) < 1)) with c1280 | c1280
        · rw [if_pos (of_decide_eq_true c1280)] at H
          refine LL.bool 37 (decide ((mn a2_0 a2_1) < 1)) true c1280 (by kernel_rfl) ?_
          refine LL.off (by kernel_rfl) (by kernel_rfl) ?_
          refine LL.off (by kernel_rfl) (by kernel_rfl) ?_
          refine LL.op (.bool true) (by kernel_rfl) (fun w _ => by kernel_rfl) ?_
          refine LL.done (s' := [(0, .slice Aa0 a0.length ca0), (6, .bool false), (7, .slice A1268 y1267.length c1269), (8, .int .i64 (mn a2_0 a2_1)), (9, .int .i64 (mx a2_0 a2_1)), (40, .bool true)]) [0, 6, 7, 8, 9, 40] (by kernel_rfl) ?_
          refine NN.then ?_
          refine J.condT (b := true) rfl (by kernel_rfl) (by kernel_rfl) ?_
          refine J.seq ?_
          refine J.plain ?_
          obtain ⟨x1281, hx1281, H⟩ := bind_some H
          refine LL.call 30 #[] (.bool x1281) (by kernel_rfl) (fun w => by kernel_rfl) (fun w hw => sawmilllaw13_awake.calls K    _ w   hx1281) ?_
          refine LL.op (.bool x1281) (by kernel_rfl) (fun w _ => by kernel_rfl) ?_
          refine LL.done (s' := [(0, .slice Aa0 a0.length ca0), (6, .bool x1281), (7, .slice A1268 y1267.length c1269), (8, .int .i64 (mn a2_0 a2_1)), (9, .int .i64 (mx a2_0 a2_1))]) [0, 6, 7, 8, 9] (by kernel_rfl) ?_
          refine NN.then ?_
          refine J.ret ?_
          refine NN.then_ret ?_
          refine NN.fin1 6 (.bool x1281) (by kernel_rfl) (by kernel_rfl) (.inl rfl) (fun w hi => hi.ret ?_)
          first | (cases H; rfl) | (obtain rfl := Option.some.inj H; rfl) | (simp only [Option.some.injEq, Prod.mk.injEq] at H; obtain ⟨rfl⟩ := H; rfl)
        · rw [if_neg (of_decide_eq_false c1280)] at H
          refine LL.bool 37 (decide ((mn a2_0 a2_1) < 1)) false c1280 (by kernel_rfl) ?_
          refine LL.op (.int .i64 (mx a2_0 a2_1)) (by kernel_rfl) (fun w _ => by kernel_rfl) ?_
          refine LL.op (.bool (decide (20000 < (mx a2_0 a2_1)))) (by kernel_rfl) (fun w _ => by kernel_rfl) ?_
          refine LL.op (.bool (decide (20000 < (mx a2_0 a2_1)))) (by kernel_rfl) (fun w _ => by kernel_rfl) ?_
          refine LL.done (s' := [(0, .slice Aa0 a0.length ca0), (6, .bool false), (7, .slice A1268 y1267.length c1269), (8, .int .i64 (mn a2_0 a2_1)), (9, .int .i64 (mx a2_0 a2_1)), (40, .bool (decide (20000 < (mx a2_0 a2_1))))]) [0, 6, 7, 8, 9, 40] (by kernel_rfl) ?_
          refine NN.then ?_
          rcases Bool.eq_false_or_eq_true (decide (20000 < (mx a2_0 a2_1))) with c1282 | c1282
          · rw [if_pos (of_decide_eq_true c1282)] at H
            refine J.condT (b := decide (20000 < (mx a2_0 a2_1))) c1282 (by kernel_rfl) (by kernel_rfl) ?_
            refine J.seq ?_
            refine J.plain ?_
            obtain ⟨x1283, hx1283, H⟩ := bind_some H
            refine LL.call 30 #[] (.bool x1283) (by kernel_rfl) (fun w => by kernel_rfl) (fun w hw => sawmilllaw13_awake.calls K    _ w   hx1283) ?_
            refine LL.op (.bool x1283) (by kernel_rfl) (fun w _ => by kernel_rfl) ?_
            refine LL.done (s' := [(0, .slice Aa0 a0.length ca0), (6, .bool x1283), (7, .slice A1268 y1267.length c1269), (8, .int .i64 (mn a2_0 a2_1)), (9, .int .i64 (mx a2_0 a2_1))]) [0, 6, 7, 8, 9] (by kernel_rfl) ?_
            refine NN.then ?_
            refine J.ret ?_
            refine NN.then_ret ?_
            refine NN.fin1 6 (.bool x1283) (by kernel_rfl) (by kernel_rfl) (.inl rfl) (fun w hi => hi.ret ?_)
            first | (cases H; rfl) | (obtain rfl := Option.some.inj H; rfl) | (simp only [Option.some.injEq, Prod.mk.injEq] at H; obtain ⟨rfl⟩ := H; rfl)
          · rw [if_neg (of_decide_eq_false c1282)] at H
            refine J.condF (b := decide (20000 < (mx a2_0 a2_1))) c1282 (by kernel_rfl) (by kernel_rfl) ?_
            refine J.skip ?_
            refine NN.then ?_
            refine J.seq ?_
            refine J.plain ?_
            refine LL.op (.slice Aa0 a0.length ca0) (by kernel_rfl) (fun w _ => by kernel_rfl) ?_
            obtain ⟨x1284, hx1284, H⟩ := bind_some H
            refine LL.call 36 #[.slice Aa0 a0.length ca0, .int .i64 1] (.int .i64 x1284) (by kernel_rfl) (fun w => by kernel_rfl) (fun w hw => defect_Largest.calls K a0 1  _ _ _ w  (((ha0.le le1263).le le1275).at hw) hx1284) ?_
            refine LL.op (.slice Aa0 a0.length ca0) (by kernel_rfl) (fun w _ => by kernel_rfl) ?_
            obtain ⟨x1285, hx1285, H⟩ := bind_some H
            refine LL.call 36 #[.slice Aa0 a0.length ca0, .int .i64 2] (.int .i64 x1285) (by kernel_rfl) (fun w => by kernel_rfl) (fun w hw => defect_Largest.calls K a0 2  _ _ _ w  (((ha0.le le1263).le le1275).at hw) hx1285) ?_
            refine LL.op (.int .i64 (mx x1284 x1285)) (by kernel_rfl) (fun w _ => by kernel_rfl) ?_
            refine LL.op (.int .i64 0) (by kernel_rfl) (fun w _ => by kernel_rfl) ?_
            refine LL.op (.int .i64 (mx x1284 x1285)) (by kernel_rfl) (fun w _ => by kernel_rfl) ?_
            refine LL.done (s' := [(0, .slice Aa0 a0.length ca0), (6, .bool false), (7, .slice A1268 y1267.length c1269), (8, .int .i64 (mn a2_0 a2_1)), (9, .int .i64 (mx a2_0 a2_1)), (10, .int .i64 0), (11, .int .i64 (mx x1284 x1285))]) [0, 6, 7, 8, 9, 10, 11] (by kernel_rfl) ?_
            refine NN.then ?_
            refine J.seq ?_
            refine J.seq ?_
            refine J.plain ?_
            refine LL.op (.int .i64 0) (by kernel_rfl) (fun w _ => by kernel_rfl) ?_
            refine LL.done (s' := [(0, .slice Aa0 a0.length ca0), (6, .bool false), (7, .slice A1268 y1267.length c1269), (8, .int .i64 (mn a2_0 a2_1)), (9, .int .i64 (mx a2_0 a2_1)), (10, .int .i64 0), (11, .int .i64 (mx x1284 x1285)), (12, .int .i64 0)]) [0, 6, 7, 8, 9, 10, 11, 12] (by kernel_rfl) ?_
            refine NN.then ?_
            refine J.block ?_
            refine J.to [0, 6, 7, 8, 9, 10, 11, 12] (s' := [(0, .slice Aa0 a0.length ca0), (6, .bool false), (7, .slice A1268 y1267.length c1269), (8, .int .i64 (mn a2_0 a2_1)), (9, .int .i64 (mx a2_0 a2_1)), (10, .int .i64 0), (11, .int .i64 (mx x1284 x1285)), (12, .int .i64 0)]) (by kernel_rfl) ?_
            refine J.loop (fun n_ s_ bs_ => ∃ (x10l0 : Int) (x12l0 : Int), sawmilllaw13_DefectWindows.l0 K a0 a2_0 a2_1 y1267 x1284 x1285 n_ x10l0 x12l0 = some r1 ∧ s_ = [(0, .slice Aa0 a0.length ca0), (6, .bool false), (7, .slice A1268 y1267.length c1269), (8, .int .i64 (mn a2_0 a2_1)), (9, .int .i64 (mx a2_0 a2_1)), (10, .int .i64 x10l0), (11, .int .i64 (mx x1284 x1285)), (12, .int .i64 x12l0)] ∧ [(g1249, cl [.int .i64 a2_0, .int .i64 a2_1] 62), (g1248, cl [.int .i64 a1_0, .int .i64 a1_1, .int .i64 a1_2, .int .i64 a1_3, .int .i64 a1_4, .int .i64 a1_5, .int .i64 a1_6] 41)] = bs_) K ⟨0, 0, H, rfl, rfl⟩ ?_
            rintro (_ | n_) s_ bs_ ⟨x10l0, x12l0, H, rfl, rfl⟩
            · exact absurd H (by simp [sawmilllaw13_DefectWindows.l0])
            simp only [sawmilllaw13_DefectWindows.l0] at H
            refine J.seq ?_
            refine J.seq ?_
            refine J.plain ?_
            refine LL.op (.int .i64 x12l0) (by kernel_rfl) (fun w _ => by kernel_rfl) ?_
            refine LL.op (.slice Aa0 a0.length ca0) (by kernel_rfl) (fun w _ => by kernel_rfl) ?_
            refine LL.op (.int .i64 (a0.length : Int)) (by kernel_rfl) (fun w _ => by kernel_rfl) ?_
            refine LL.op (.bool (decide (x12l0 < (a0.length : Int)))) (by kernel_rfl) (fun w _ => by kernel_rfl) ?_
            refine LL.done (s' := [(0, .slice Aa0 a0.length ca0), (6, .bool false), (7, .slice A1268 y1267.length c1269), (8, .int .i64 (mn a2_0 a2_1)), (9, .int .i64 (mx a2_0 a2_1)), (10, .int .i64 x10l0), (11, .int .i64 (mx x1284 x1285)), (12, .int .i64 x12l0), (50, .bool (decide (x12l0 < (a0.length : Int))))]) [0, 6, 7, 8, 9, 10, 11, 12, 50] (by kernel_rfl) ?_
            refine NN.then ?_
            rcases Bool.eq_false_or_eq_true (decide (x12l0 < (a0.length : Int))) with c1287 | c1287
            · rw [if_pos (of_decide_eq_true c1287)] at H
              refine J.condT (b := decide (x12l0 < (a0.length : Int))) c1287 (by kernel_rfl) (by kernel_rfl) ?_
              refine J.skip ?_
              refine NN.then ?_
              refine J.seq ?_
              refine J.block ?_
              refine J.seq ?_
              refine J.plain ?_
              refine LL.op (.slice Aa0 a0.length ca0) (by kernel_rfl) (fun w _ => by kernel_rfl) ?_
              refine LL.op (.int .i64 x12l0) (by kernel_rfl) (fun w _ => by kernel_rfl) ?_
              obtain ⟨⟨e1288_1, e1288_2, e1288_3, e1288_4, e1288_5, e1288_6, e1288_7⟩, he1288, H⟩ := bind_some H
              (try dsimp only at H)
              refine LL.op (.pointer (rp Aa0 (x12l0.toNat * 7 + 0))) (by kernel_rfl) (idxR (cp := ca0) (ik := .i64) ((ha0.le le1263).le le1275) he1288 rfl (by kernel_rfl) (by kernel_rfl) (by kernel_rfl)) ?_
              refine LL.op (.pointer (rp Aa0 (x12l0.toNat * 7 + 0))) (by kernel_rfl) (fldR (b := x12l0.toNat * 7) (off := 0) (o1 := 0) (o2 := 0) ((ha0.le le1263).le le1275) he1288 rfl (by kernel_rfl) (by kernel_rfl) rfl) ?_
              refine LL.op (.int .i64 e1288_1) (by kernel_rfl) (ldR (off := 0) ((ha0.le le1263).le le1275) he1288 rfl (by kernel_rfl) (by kernel_rfl)) ?_
              refine LL.op (.bool (e1288_1 == 1)) (by kernel_rfl) (fun w _ => by kernel_rfl) ?_
              refine LL.op (.bool (e1288_1 == 1)) (by kernel_rfl) (fun w _ => by kernel_rfl) ?_
              rcases Bool.eq_false_or_eq_true ((e1288_1 == 1)) with c1289 | c1289
              · rw [if_pos (eq_of_beq c1289)] at H
                refine LL.bool 59 ((e1288_1 == 1)) true c1289 (by kernel_rfl) ?_
                refine LL.off (by kernel_rfl) (by kernel_rfl) ?_
                refine LL.off (by kernel_rfl) (by kernel_rfl) ?_
                refine LL.off (by kernel_rfl) (by kernel_rfl) ?_
                refine LL.off (by kernel_rfl) (by kernel_rfl) ?_
                refine LL.off (by kernel_rfl) (by kernel_rfl) ?_
                refine LL.off (by kernel_rfl) (by kernel_rfl) ?_
                refine LL.op (.bool true) (by kernel_rfl) (fun w _ => by kernel_rfl) ?_
                refine LL.done (s' := [(0, .slice Aa0 a0.length ca0), (6, .bool false), (7, .slice A1268 y1267.length c1269), (8, .int .i64 (mn a2_0 a2_1)), (9, .int .i64 (mx a2_0 a2_1)), (10, .int .i64 x10l0), (11, .int .i64 (mx x1284 x1285)), (12, .int .i64 x12l0), (66, .bool true)]) [0, 6, 7, 8, 9, 10, 11, 12, 66] (by kernel_rfl) ?_
                refine NN.then ?_
                refine J.condT (b := true) rfl (by kernel_rfl) (by kernel_rfl) ?_
                refine J.plain ?_
                refine LL.op (.int .i64 x10l0) (by kernel_rfl) (fun w _ => by kernel_rfl) ?_
                refine LL.op (.slice Aa0 a0.length ca0) (by kernel_rfl) (fun w _ => by kernel_rfl) ?_
                refine LL.op (.int .i64 x12l0) (by kernel_rfl) (fun w _ => by kernel_rfl) ?_
                refine LL.op (.pointer (rp Aa0 (x12l0.toNat * 7 + 0))) (by kernel_rfl) (idxR (cp := ca0) (ik := .i64) ((ha0.le le1263).le le1275) he1288 rfl (by kernel_rfl) (by kernel_rfl) (by kernel_rfl)) ?_
                refine LL.op (.agg #[.int .i64 e1288_1, .int .i64 e1288_2, .int .i64 e1288_3, .int .i64 e1288_4, .int .i64 e1288_5, .int .i64 e1288_6, .int .i64 e1288_7]) (by kernel_rfl) (ldR (off := 0) ((ha0.le le1263).le le1275) he1288 rfl (by kernel_rfl) (by kernel_rfl)) ?_
                obtain ⟨x1290, hx1290, H⟩ := bind_some H
                refine LL.call 31 #[.agg #[.int .i64 e1288_1, .int .i64 e1288_2, .int .i64 e1288_3, .int .i64 e1288_4, .int .i64 e1288_5, .int .i64 e1288_6, .int .i64 e1288_7]] (.int .i64 x1290) (by kernel_rfl) (fun w => by kernel_rfl) (fun w hw => defect_Size.calls e1288_1 e1288_2 e1288_3 e1288_4 e1288_5 e1288_6 e1288_7   _ w   hx1290) ?_
                refine LL.op (.int .i64 (IntKind.i64.wrap (x10l0 + x1290))) (by kernel_rfl) (fun w _ => by kernel_rfl) ?_
                refine LL.op (.int .i64 (IntKind.i64.wrap (x10l0 + x1290))) (by kernel_rfl) (fun w _ => by kernel_rfl) ?_
                refine LL.done (s' := [(0, .slice Aa0 a0.length ca0), (6, .bool false), (7, .slice A1268 y1267.length c1269), (8, .int .i64 (mn a2_0 a2_1)), (9, .int .i64 (mx a2_0 a2_1)), (10, .int .i64 (IntKind.i64.wrap (x10l0 + x1290))), (11, .int .i64 (mx x1284 x1285)), (12, .int .i64 x12l0)]) [0, 6, 7, 8, 9, 10, 11, 12] (by kernel_rfl) ?_
                refine NN.block_n ?_
                refine NN.then ?_
                refine J.plain ?_
                refine LL.op (.int .i64 x12l0) (by kernel_rfl) (fun w _ => by kernel_rfl) ?_
                refine LL.op (.int .i64 (IntKind.i64.wrap (x12l0 + 1))) (by kernel_rfl) (fun w _ => by kernel_rfl) ?_
                refine LL.op (.int .i64 (IntKind.i64.wrap (x12l0 + 1))) (by kernel_rfl) (fun w _ => by kernel_rfl) ?_
                refine LL.done (s' := [(0, .slice Aa0 a0.length ca0), (6, .bool false), (7, .slice A1268 y1267.length c1269), (8, .int .i64 (mn a2_0 a2_1)), (9, .int .i64 (mx a2_0 a2_1)), (10, .int .i64 (IntKind.i64.wrap (x10l0 + x1290))), (11, .int .i64 (mx x1284 x1285)), (12, .int .i64 (IntKind.i64.wrap (x12l0 + 1)))]) [0, 6, 7, 8, 9, 10, 11, 12] (by kernel_rfl) ?_
                exact NN.round' [0, 6, 7, 8, 9, 10, 11, 12] (bs' := [(g1249, cl [.int .i64 a2_0, .int .i64 a2_1] 62), (g1248, cl [.int .i64 a1_0, .int .i64 a1_1, .int .i64 a1_2, .int .i64 a1_3, .int .i64 a1_4, .int .i64 a1_5, .int .i64 a1_6] 41)]) (Nat.lt_succ_self _) (List.Sublist.refl _) (by kernel_rfl) ⟨IntKind.i64.wrap (x10l0 + x1290), IntKind.i64.wrap (x12l0 + 1), H, rfl, rfl⟩
              · rw [if_neg (nebf c1289)] at H
                refine LL.bool 59 ((e1288_1 == 1)) false c1289 (by kernel_rfl) ?_
                refine LL.op (.slice Aa0 a0.length ca0) (by kernel_rfl) (fun w _ => by kernel_rfl) ?_
                refine LL.op (.int .i64 x12l0) (by kernel_rfl) (fun w _ => by kernel_rfl) ?_
                refine LL.op (.pointer (rp Aa0 (x12l0.toNat * 7 + 0))) (by kernel_rfl) (idxR (cp := ca0) (ik := .i64) ((ha0.le le1263).le le1275) he1288 rfl (by kernel_rfl) (by kernel_rfl) (by kernel_rfl)) ?_
                refine LL.op (.pointer (rp Aa0 (x12l0.toNat * 7 + 0))) (by kernel_rfl) (fldR (b := x12l0.toNat * 7) (off := 0) (o1 := 0) (o2 := 0) ((ha0.le le1263).le le1275) he1288 rfl (by kernel_rfl) (by kernel_rfl) rfl) ?_
                refine LL.op (.int .i64 e1288_1) (by kernel_rfl) (ldR (off := 0) ((ha0.le le1263).le le1275) he1288 rfl (by kernel_rfl) (by kernel_rfl)) ?_
                refine LL.op (.bool (e1288_1 == 2)) (by kernel_rfl) (fun w _ => by kernel_rfl) ?_
                refine LL.op (.bool (e1288_1 == 2)) (by kernel_rfl) (fun w _ => by kernel_rfl) ?_
                refine LL.done (s' := [(0, .slice Aa0 a0.length ca0), (6, .bool false), (7, .slice A1268 y1267.length c1269), (8, .int .i64 (mn a2_0 a2_1)), (9, .int .i64 (mx a2_0 a2_1)), (10, .int .i64 x10l0), (11, .int .i64 (mx x1284 x1285)), (12, .int .i64 x12l0), (66, .bool (e1288_1 == 2))]) [0, 6, 7, 8, 9, 10, 11, 12, 66] (by kernel_rfl) ?_
                refine NN.then ?_
                rcases Bool.eq_false_or_eq_true ((e1288_1 == 2)) with c1291 | c1291
                · rw [if_pos (eq_of_beq c1291)] at H
                  refine J.condT (b := (e1288_1 == 2)) c1291 (by kernel_rfl) (by kernel_rfl) ?_
                  refine J.plain ?_
                  refine LL.op (.int .i64 x10l0) (by kernel_rfl) (fun w _ => by kernel_rfl) ?_
                  refine LL.op (.slice Aa0 a0.length ca0) (by kernel_rfl) (fun w _ => by kernel_rfl) ?_
                  refine LL.op (.int .i64 x12l0) (by kernel_rfl) (fun w _ => by kernel_rfl) ?_
                  refine LL.op (.pointer (rp Aa0 (x12l0.toNat * 7 + 0))) (by kernel_rfl) (idxR (cp := ca0) (ik := .i64) ((ha0.le le1263).le le1275) he1288 rfl (by kernel_rfl) (by kernel_rfl) (by kernel_rfl)) ?_
                  refine LL.op (.agg #[.int .i64 e1288_1, .int .i64 e1288_2, .int .i64 e1288_3, .int .i64 e1288_4, .int .i64 e1288_5, .int .i64 e1288_6, .int .i64 e1288_7]) (by kernel_rfl) (ldR (off := 0) ((ha0.le le1263).le le1275) he1288 rfl (by kernel_rfl) (by kernel_rfl)) ?_
                  obtain ⟨x1292, hx1292, H⟩ := bind_some H
                  refine LL.call 31 #[.agg #[.int .i64 e1288_1, .int .i64 e1288_2, .int .i64 e1288_3, .int .i64 e1288_4, .int .i64 e1288_5, .int .i64 e1288_6, .int .i64 e1288_7]] (.int .i64 x1292) (by kernel_rfl) (fun w => by kernel_rfl) (fun w hw => defect_Size.calls e1288_1 e1288_2 e1288_3 e1288_4 e1288_5 e1288_6 e1288_7   _ w   hx1292) ?_
                  refine LL.op (.int .i64 (IntKind.i64.wrap (x10l0 + x1292))) (by kernel_rfl) (fun w _ => by kernel_rfl) ?_
                  refine LL.op (.int .i64 (IntKind.i64.wrap (x10l0 + x1292))) (by kernel_rfl) (fun w _ => by kernel_rfl) ?_
                  refine LL.done (s' := [(0, .slice Aa0 a0.length ca0), (6, .bool false), (7, .slice A1268 y1267.length c1269), (8, .int .i64 (mn a2_0 a2_1)), (9, .int .i64 (mx a2_0 a2_1)), (10, .int .i64 (IntKind.i64.wrap (x10l0 + x1292))), (11, .int .i64 (mx x1284 x1285)), (12, .int .i64 x12l0)]) [0, 6, 7, 8, 9, 10, 11, 12] (by kernel_rfl) ?_
                  refine NN.block_n ?_
                  refine NN.then ?_
                  refine J.plain ?_
                  refine LL.op (.int .i64 x12l0) (by kernel_rfl) (fun w _ => by kernel_rfl) ?_
                  refine LL.op (.int .i64 (IntKind.i64.wrap (x12l0 + 1))) (by kernel_rfl) (fun w _ => by kernel_rfl) ?_
                  refine LL.op (.int .i64 (IntKind.i64.wrap (x12l0 + 1))) (by kernel_rfl) (fun w _ => by kernel_rfl) ?_
                  refine LL.done (s' := [(0, .slice Aa0 a0.length ca0), (6, .bool false), (7, .slice A1268 y1267.length c1269), (8, .int .i64 (mn a2_0 a2_1)), (9, .int .i64 (mx a2_0 a2_1)), (10, .int .i64 (IntKind.i64.wrap (x10l0 + x1292))), (11, .int .i64 (mx x1284 x1285)), (12, .int .i64 (IntKind.i64.wrap (x12l0 + 1)))]) [0, 6, 7, 8, 9, 10, 11, 12] (by kernel_rfl) ?_
                  exact NN.round' [0, 6, 7, 8, 9, 10, 11, 12] (bs' := [(g1249, cl [.int .i64 a2_0, .int .i64 a2_1] 62), (g1248, cl [.int .i64 a1_0, .int .i64 a1_1, .int .i64 a1_2, .int .i64 a1_3, .int .i64 a1_4, .int .i64 a1_5, .int .i64 a1_6] 41)]) (Nat.lt_succ_self _) (List.Sublist.refl _) (by kernel_rfl) ⟨IntKind.i64.wrap (x10l0 + x1292), IntKind.i64.wrap (x12l0 + 1), H, rfl, rfl⟩
                · rw [if_neg (nebf c1291)] at H
                  refine J.condF (b := (e1288_1 == 2)) c1291 (by kernel_rfl) (by kernel_rfl) ?_
                  refine J.skip ?_
                  refine NN.block_n ?_
                  refine NN.then ?_
                  refine J.plain ?_
                  refine LL.op (.int .i64 x12l0) (by kernel_rfl) (fun w _ => by kernel_rfl) ?_
                  refine LL.op (.int .i64 (IntKind.i64.wrap (x12l0 + 1))) (by kernel_rfl) (fun w _ => by kernel_rfl) ?_
                  refine LL.op (.int .i64 (IntKind.i64.wrap (x12l0 + 1))) (by kernel_rfl) (fun w _ => by kernel_rfl) ?_
                  refine LL.done (s' := [(0, .slice Aa0 a0.length ca0), (6, .bool false), (7, .slice A1268 y1267.length c1269), (8, .int .i64 (mn a2_0 a2_1)), (9, .int .i64 (mx a2_0 a2_1)), (10, .int .i64 x10l0), (11, .int .i64 (mx x1284 x1285)), (12, .int .i64 (IntKind.i64.wrap (x12l0 + 1)))]) [0, 6, 7, 8, 9, 10, 11, 12] (by kernel_rfl) ?_
                  exact NN.round' [0, 6, 7, 8, 9, 10, 11, 12] (bs' := [(g1249, cl [.int .i64 a2_0, .int .i64 a2_1] 62), (g1248, cl [.int .i64 a1_0, .int .i64 a1_1, .int .i64 a1_2, .int .i64 a1_3, .int .i64 a1_4, .int .i64 a1_5, .int .i64 a1_6] 41)]) (Nat.lt_succ_self _) (List.Sublist.refl _) (by kernel_rfl) ⟨x10l0, IntKind.i64.wrap (x12l0 + 1), H, rfl, rfl⟩
            · rw [if_neg (of_decide_eq_false c1287)] at H
              refine J.condF (b := decide (x12l0 < (a0.length : Int))) c1287 (by kernel_rfl) (by kernel_rfl) ?_
              refine J.exit ?_
              refine NN.then_exit ?_
              refine NN.then_exit ?_
              refine NN.block_same ?_
              refine NN.then ?_
              refine J.seq ?_
              refine J.plain ?_
              refine LL.op (.slice Aa0 a0.length ca0) (by kernel_rfl) (fun w _ => by kernel_rfl) ?_
              refine LL.op (.int .i64 (mn a2_0 a2_1)) (by kernel_rfl) (fun w _ => by kernel_rfl) ?_
              obtain ⟨x1293, hx1293, H⟩ := bind_some H
              refine LL.call 45 #[.slice Aa0 a0.length ca0, .int .i64 (mn a2_0 a2_1)] (.int .i64 x1293) (by kernel_rfl) (fun w => by kernel_rfl) (fun w hw => defect_Worst.calls K a0 (mn a2_0 a2_1)  _ _ _ w  (((ha0.le le1263).le le1275).at hw) hx1293) ?_
              refine LL.op (.int .i64 x1293) (by kernel_rfl) (fun w _ => by kernel_rfl) ?_
              refine LL.done (s' := [(0, .slice Aa0 a0.length ca0), (6, .bool false), (7, .slice A1268 y1267.length c1269), (8, .int .i64 (mn a2_0 a2_1)), (9, .int .i64 (mx a2_0 a2_1)), (10, .int .i64 x10l0), (11, .int .i64 (mx x1284 x1285)), (13, .int .i64 x1293)]) [0, 6, 7, 8, 9, 10, 11, 13] (by kernel_rfl) ?_
              refine NN.then ?_
              refine J.seq ?_
              refine J.plain ?_
              refine LL.op (.int .i64 (mx x1284 x1285)) (by kernel_rfl) (fun w _ => by kernel_rfl) ?_
              refine LL.op (.int .i64 x1293) (by kernel_rfl) (fun w _ => by kernel_rfl) ?_
              refine LL.op (.bool (decide ((mx x1284 x1285) ≤ x1293))) (by kernel_rfl) (fun w _ => by kernel_rfl) ?_
              refine LL.op (.bool (decide ((mx x1284 x1285) ≤ x1293))) (by kernel_rfl) (fun w _ => by kernel_rfl) ?_
              rcases Bool.eq_false_or_eq_true (decide ((mx x1284 x1285) ≤ x1293)) with c1294 | c1294
              · rw [if_pos (of_decide_eq_true c1294)] at H
                refine LL.bool 80 (decide ((mx x1284 x1285) ≤ x1293)) true c1294 (by kernel_rfl) ?_
                refine LL.op (.int .i64 x1293) (by kernel_rfl) (fun w _ => by kernel_rfl) ?_
                refine LL.op (.int .i64 x10l0) (by kernel_rfl) (fun w _ => by kernel_rfl) ?_
                refine LL.op (.bool (decide (x1293 ≤ x10l0))) (by kernel_rfl) (fun w _ => by kernel_rfl) ?_
                refine LL.op (.bool (decide (x1293 ≤ x10l0))) (by kernel_rfl) (fun w _ => by kernel_rfl) ?_
                refine LL.op (.bool (decide (x1293 ≤ x10l0))) (by kernel_rfl) (fun w _ => by kernel_rfl) ?_
                rcases Bool.eq_false_or_eq_true (decide (x1293 ≤ x10l0)) with c1295 | c1295
                · rw [if_pos (of_decide_eq_true c1295)] at H
                  refine LL.bool 85 (decide (x1293 ≤ x10l0)) true c1295 (by kernel_rfl) ?_
                  refine LL.op (.int .i64 x1293) (by kernel_rfl) (fun w _ => by kernel_rfl) ?_
                  refine LL.op (.slice Aa0 a0.length ca0) (by kernel_rfl) (fun w _ => by kernel_rfl) ?_
                  refine LL.op (.int .i64 (mx a2_0 a2_1)) (by kernel_rfl) (fun w _ => by kernel_rfl) ?_
                  obtain ⟨x1296, hx1296, H⟩ := bind_some H
                  refine LL.call 45 #[.slice Aa0 a0.length ca0, .int .i64 (mx a2_0 a2_1)] (.int .i64 x1296) (by kernel_rfl) (fun w => by kernel_rfl) (fun w hw => defect_Worst.calls K a0 (mx a2_0 a2_1)  _ _ _ w  (((ha0.le le1263).le le1275).at hw) hx1296) ?_
                  refine LL.op (.bool (decide (x1293 ≤ x1296))) (by kernel_rfl) (fun w _ => by kernel_rfl) ?_
                  refine LL.op (.bool (decide (x1293 ≤ x1296))) (by kernel_rfl) (fun w _ => by kernel_rfl) ?_
                  refine LL.op (.bool (decide (x1293 ≤ x1296))) (by kernel_rfl) (fun w _ => by kernel_rfl) ?_
                  rcases Bool.eq_false_or_eq_true (decide (x1293 ≤ x1296)) with c1297 | c1297
                  · rw [if_pos (of_decide_eq_true c1297)] at H
                    refine LL.bool 92 (decide (x1293 ≤ x1296)) true c1297 (by kernel_rfl) ?_
                    refine LL.op (.int .i64 x1293) (by kernel_rfl) (fun w _ => by kernel_rfl) ?_
                    refine LL.op (.slice A1268 y1267.length c1269) (by kernel_rfl) (fun w _ => by kernel_rfl) ?_
                    refine LL.op (.int .i64 (mn a2_0 a2_1)) (by kernel_rfl) (fun w _ => by kernel_rfl) ?_
                    obtain ⟨x1298, hx1298, H⟩ := bind_some H
                    refine LL.call 45 #[.slice A1268 y1267.length c1269, .int .i64 (mn a2_0 a2_1)] (.int .i64 x1298) (by kernel_rfl) (fun w => by kernel_rfl) (fun w hw => defect_Worst.calls K y1267 (mn a2_0 a2_1)  _ _ _ w  (k1276.at hw) hx1298) ?_
                    refine LL.op (.bool (decide (x1293 ≤ x1298))) (by kernel_rfl) (fun w _ => by kernel_rfl) ?_
                    refine LL.op (.bool (decide (x1293 ≤ x1298))) (by kernel_rfl) (fun w _ => by kernel_rfl) ?_
                    refine LL.op (.bool (decide (x1293 ≤ x1298))) (by kernel_rfl) (fun w _ => by kernel_rfl) ?_
                    rcases Bool.eq_false_or_eq_true (decide (x1293 ≤ x1298)) with c1299 | c1299
                    · rw [if_pos (of_decide_eq_true c1299)] at H
                      refine LL.bool 99 (decide (x1293 ≤ x1298)) true c1299 (by kernel_rfl) ?_
                      obtain ⟨x1300, hx1300, H⟩ := bind_some H
                      refine LL.call 30 #[] (.bool x1300) (by kernel_rfl) (fun w => by kernel_rfl) (fun w hw => sawmilllaw13_awake.calls K    _ w   hx1300) ?_
                      refine LL.op (.bool x1300) (by kernel_rfl) (fun w _ => by kernel_rfl) ?_
                      refine LL.op (.bool x1300) (by kernel_rfl) (fun w _ => by kernel_rfl) ?_
                      refine LL.done (s' := [(6, .bool x1300)]) [6] (by kernel_rfl) ?_
                      refine NN.then ?_
                      refine J.ret ?_
                      refine NN.fin1 6 (.bool x1300) (by kernel_rfl) (by kernel_rfl) (.inl rfl) (fun w hi => hi.ret ?_)
                      first | (cases H; rfl) | (obtain rfl := Option.some.inj H; rfl) | (simp only [Option.some.injEq, Prod.mk.injEq] at H; obtain ⟨rfl⟩ := H; rfl)
                    · rw [if_neg (of_decide_eq_false c1299)] at H
                      refine LL.bool 99 (decide (x1293 ≤ x1298)) false c1299 (by kernel_rfl) ?_
                      refine LL.off (by kernel_rfl) (by kernel_rfl) ?_
                      refine LL.op (.bool false) (by kernel_rfl) (fun w _ => by kernel_rfl) ?_
                      refine LL.op (.bool false) (by kernel_rfl) (fun w _ => by kernel_rfl) ?_
                      refine LL.done (s' := [(6, .bool false)]) [6] (by kernel_rfl) ?_
                      refine NN.then ?_
                      refine J.ret ?_
                      refine NN.fin1 6 (.bool false) (by kernel_rfl) (by kernel_rfl) (.inl rfl) (fun w hi => hi.ret ?_)
                      first | (cases H; rfl) | (obtain rfl := Option.some.inj H; rfl) | (simp only [Option.some.injEq, Prod.mk.injEq] at H; obtain ⟨rfl⟩ := H; rfl)
                  · rw [if_neg (of_decide_eq_false c1297)] at H
                    refine LL.bool 92 (decide (x1293 ≤ x1296)) false c1297 (by kernel_rfl) ?_
                    refine LL.off (by kernel_rfl) (by kernel_rfl) ?_
                    refine LL.off (by kernel_rfl) (by kernel_rfl) ?_
                    refine LL.off (by kernel_rfl) (by kernel_rfl) ?_
                    refine LL.off (by kernel_rfl) (by kernel_rfl) ?_
                    refine LL.off (by kernel_rfl) (by kernel_rfl) ?_
                    refine LL.op (.bool false) (by kernel_rfl) (fun w _ => by kernel_rfl) ?_
                    refine LL.op (.bool false) (by kernel_rfl) (fun w _ => by kernel_rfl) ?_
                    refine LL.off (by kernel_rfl) (by kernel_rfl) ?_
                    refine LL.op (.bool false) (by kernel_rfl) (fun w _ => by kernel_rfl) ?_
                    refine LL.op (.bool false) (by kernel_rfl) (fun w _ => by kernel_rfl) ?_
                    refine LL.done (s' := [(6, .bool false)]) [6] (by kernel_rfl) ?_
                    refine NN.then ?_
                    refine J.ret ?_
                    refine NN.fin1 6 (.bool false) (by kernel_rfl) (by kernel_rfl) (.inl rfl) (fun w hi => hi.ret ?_)
                    first | (cases H; rfl) | (obtain rfl := Option.some.inj H; rfl) | (simp only [Option.some.injEq, Prod.mk.injEq] at H; obtain ⟨rfl⟩ := H; rfl)
                · rw [if_neg (of_decide_eq_false c1295)] at H
                  refine LL.bool 85 (decide (x1293 ≤ x10l0)) false c1295 (by kernel_rfl) ?_
                  refine LL.off (by kernel_rfl) (by kernel_rfl) ?_
                  refine LL.off (by kernel_rfl) (by kernel_rfl) ?_
                  refine LL.off (by kernel_rfl) (by kernel_rfl) ?_
                  refine LL.off (by kernel_rfl) (by kernel_rfl) ?_
                  refine LL.off (by kernel_rfl) (by kernel_rfl) ?_
                  refine LL.op (.bool false) (by kernel_rfl) (fun w _ => by kernel_rfl) ?_
                  refine LL.op (.bool false) (by kernel_rfl) (fun w _ => by kernel_rfl) ?_
                  refine LL.off (by kernel_rfl) (by kernel_rfl) ?_
                  refine LL.off (by kernel_rfl) (by kernel_rfl) ?_
                  refine LL.off (by kernel_rfl) (by kernel_rfl) ?_
                  refine LL.off (by kernel_rfl) (by kernel_rfl) ?_
                  refine LL.off (by kernel_rfl) (by kernel_rfl) ?_
                  refine LL.op (.bool false) (by kernel_rfl) (fun w _ => by kernel_rfl) ?_
                  refine LL.op (.bool false) (by kernel_rfl) (fun w _ => by kernel_rfl) ?_
                  refine LL.off (by kernel_rfl) (by kernel_rfl) ?_
                  refine LL.op (.bool false) (by kernel_rfl) (fun w _ => by kernel_rfl) ?_
                  refine LL.op (.bool false) (by kernel_rfl) (fun w _ => by kernel_rfl) ?_
                  refine LL.done (s' := [(6, .bool false)]) [6] (by kernel_rfl) ?_
                  refine NN.then ?_
                  refine J.ret ?_
                  refine NN.fin1 6 (.bool false) (by kernel_rfl) (by kernel_rfl) (.inl rfl) (fun w hi => hi.ret ?_)
                  first | (cases H; rfl) | (obtain rfl := Option.some.inj H; rfl) | (simp only [Option.some.injEq, Prod.mk.injEq] at H; obtain ⟨rfl⟩ := H; rfl)
              · rw [if_neg (of_decide_eq_false c1294)] at H
                refine LL.bool 80 (decide ((mx x1284 x1285) ≤ x1293)) false c1294 (by kernel_rfl) ?_
                refine LL.off (by kernel_rfl) (by kernel_rfl) ?_
                refine LL.off (by kernel_rfl) (by kernel_rfl) ?_
                refine LL.off (by kernel_rfl) (by kernel_rfl) ?_
                refine LL.op (.bool false) (by kernel_rfl) (fun w _ => by kernel_rfl) ?_
                refine LL.op (.bool false) (by kernel_rfl) (fun w _ => by kernel_rfl) ?_
                refine LL.off (by kernel_rfl) (by kernel_rfl) ?_
                refine LL.off (by kernel_rfl) (by kernel_rfl) ?_
                refine LL.off (by kernel_rfl) (by kernel_rfl) ?_
                refine LL.off (by kernel_rfl) (by kernel_rfl) ?_
                refine LL.off (by kernel_rfl) (by kernel_rfl) ?_
                refine LL.op (.bool false) (by kernel_rfl) (fun w _ => by kernel_rfl) ?_
                refine LL.op (.bool false) (by kernel_rfl) (fun w _ => by kernel_rfl) ?_
                refine LL.off (by kernel_rfl) (by kernel_rfl) ?_
                refine LL.off (by kernel_rfl) (by kernel_rfl) ?_
                refine LL.off (by kernel_rfl) (by kernel_rfl) ?_
                refine LL.off (by kernel_rfl) (by kernel_rfl) ?_
                refine LL.off (by kernel_rfl) (by kernel_rfl) ?_
                refine LL.op (.bool false) (by kernel_rfl) (fun w _ => by kernel_rfl) ?_
                refine LL.op (.bool false) (by kernel_rfl) (fun w _ => by kernel_rfl) ?_
                refine LL.off (by kernel_rfl) (by kernel_rfl) ?_
                refine LL.op (.bool false) (by kernel_rfl) (fun w _ => by kernel_rfl) ?_
                refine LL.op (.bool false) (by kernel_rfl) (fun w _ => by kernel_rfl) ?_
                refine LL.done (s' := [(6, .bool false)]) [6] (by kernel_rfl) ?_
                refine NN.then ?_
                refine J.ret ?_
                refine NN.fin1 6 (.bool false) (by kernel_rfl) (by kernel_rfl) (.inl rfl) (fun w hi => hi.ret ?_)
                first | (cases H; rfl) | (obtain rfl := Option.some.inj H; rfl) | (simp only [Option.some.injEq, Prod.mk.injEq] at H; obtain ⟨rfl⟩ := H; rfl)
      · rw [if_neg (nebf c1279)] at H
        refine LL.bool 33 (!(x1278 == 0)) true (by rw [show (!(x1278 == 0)) = !((x1278 == 0)) from rfl, c1279]; rfl) (by kernel_rfl) ?_
        refine LL.off (by kernel_rfl) (by kernel_rfl) ?_
        refine LL.off (by kernel_rfl) (by kernel_rfl) ?_
        refine LL.op (.bool true) (by kernel_rfl) (fun w _ => by kernel_rfl) ?_
        refine LL.op (.bool true) (by kernel_rfl) (fun w _ => by kernel_rfl) ?_
        refine LL.off (by kernel_rfl) (by kernel_rfl) ?_
        refine LL.off (by kernel_rfl) (by kernel_rfl) ?_
        refine LL.op (.bool true) (by kernel_rfl) (fun w _ => by kernel_rfl) ?_
        refine LL.done (s' := [(0, .slice Aa0 a0.length ca0), (6, .bool false), (7, .slice A1268 y1267.length c1269), (8, .int .i64 (mn a2_0 a2_1)), (9, .int .i64 (mx a2_0 a2_1)), (40, .bool true)]) [0, 6, 7, 8, 9, 40] (by kernel_rfl) ?_
        refine NN.then ?_
        refine J.condT (b := true) rfl (by kernel_rfl) (by kernel_rfl) ?_
        refine J.seq ?_
        refine J.plain ?_
        obtain ⟨x1301, hx1301, H⟩ := bind_some H
        refine LL.call 30 #[] (.bool x1301) (by kernel_rfl) (fun w => by kernel_rfl) (fun w hw => sawmilllaw13_awake.calls K    _ w   hx1301) ?_
        refine LL.op (.bool x1301) (by kernel_rfl) (fun w _ => by kernel_rfl) ?_
        refine LL.done (s' := [(0, .slice Aa0 a0.length ca0), (6, .bool x1301), (7, .slice A1268 y1267.length c1269), (8, .int .i64 (mn a2_0 a2_1)), (9, .int .i64 (mx a2_0 a2_1))]) [0, 6, 7, 8, 9] (by kernel_rfl) ?_
        refine NN.then ?_
        refine J.ret ?_
        refine NN.then_ret ?_
        refine NN.fin1 6 (.bool x1301) (by kernel_rfl) (by kernel_rfl) (.inl rfl) (fun w hi => hi.ret ?_)
        first | (cases H; rfl) | (obtain rfl := Option.some.inj H; rfl) | (simp only [Option.some.injEq, Prod.mk.injEq] at H; obtain ⟨rfl⟩ := H; rfl)
    · skip
      refine HS.lit 26 1 #[(0, .tmp 17)] [.int .i64 a1_0, .int .i64 a1_1, .int .i64 a1_2, .int .i64 a1_3, .int .i64 a1_4, .int .i64 a1_5, .int .i64 a1_6] 41 ([(a1_0, a1_1, a1_2, a1_3, a1_4, a1_5, a1_6)] : List E41) rfl (by kernel_rfl) rfl (by kernel_rfl) ok41.len rfl rfl (fun _ h => h) (fun R1302 F1303 A1304 c1305 le1306 k1307 fr1308 => ?_)
      refine HH.all1 2 (by kernel_rfl) ?_
      obtain ⟨y1310, hy1310, H⟩ := bind_some H
      refine HS.app (l2 := a0) (cap := 0) (c2 := ca0) [(g1249, cl [.int .i64 a2_0, .int .i64 a2_1] 62), (g1248, cl [.int .i64 a1_0, .int .i64 a1_1, .int .i64 a1_2, .int .i64 a1_3, .int .i64 a1_4, .int .i64 a1_5, .int .i64 a1_6] 41)] (.tmp 14) (.tmp 15) el26 ok41 o1251 (ha0.le le1306) hy1310 rfl (by kernel_rfl) rfl (by kernel_rfl) (by kernel_rfl) (fun _ h => (h).back le1306) (fun A1311 c1312 ba1313 o1314 => ?_)
      refine HH.all1 5 (by kernel_rfl) ?_
      obtain ⟨y1316, hy1316, H⟩ := bind_some H
      refine HS.app (l2 := ([(a1_0, a1_1, a1_2, a1_3, a1_4, a1_5, a1_6)] : List E41)) (cap := c1312) (c2 := c1305) [(g1249, cl [.int .i64 a2_0, .int .i64 a2_1] 62), (g1248, cl [.int .i64 a1_0, .int .i64 a1_1, .int .i64 a1_2, .int .i64 a1_3, .int .i64 a1_4, .int .i64 a1_5, .int .i64 a1_6] 41)] (.tmp 16) (.tmp 18) el26 ok41 o1314 k1307 hy1316 rfl (by kernel_rfl) rfl (by kernel_rfl) (by kernel_rfl) (fun _ h => (h).back le1306) (fun A1317 c1318 ba1319 o1320 => ?_)
      refine HH.take 6 (.slice A1317 y1316.length c1318) rfl (by kernel_rfl) (by kernel_rfl) (fun _ h => (h.sub (List.sublist_append_left _ _)).back le1306) (fun w _ => by kernel_rfl) ?_
      refine HH.done (s' := [(0, .slice Aa0 a0.length ca0), (5, .pointer (some ⟨g1249, 0, none⟩)), (6, .bool false), (7, .slice A1317 y1316.length c1318)]) [0, 5, 6, 7] (by kernel_rfl) (by kernel_rfl) ?_
      refine NN.then ?_
      refine J.seq ?_
      refine J.drawn follows (by kernel_rfl) ?_
      refine QQ.op (.pointer (some ⟨g1249, 0, none⟩)) (by kernel_rfl) (fun w _ => by kernel_rfl) ?_
      refine QQ.op (.int .i64 a2_0) (by kernel_rfl) (ld 0 g1249 0 rfl (by kernel_rfl) rfl (by kernel_rfl)) ?_
      refine QQ.op (.pointer (some ⟨g1249, 1, none⟩)) (by kernel_rfl) (fun w _ => by kernel_rfl) ?_
      refine QQ.op (.int .i64 a2_1) (by kernel_rfl) (ld 0 g1249 1 rfl (by kernel_rfl) rfl (by kernel_rfl)) ?_
      refine QQ.op (.int .i64 (mn a2_0 a2_1)) (by kernel_rfl) (fun w _ => by kernel_rfl) ?_
      refine QQ.op (.pointer (some ⟨g1249, 0, none⟩)) (by kernel_rfl) (fun w _ => by kernel_rfl) ?_
      refine QQ.op (.int .i64 a2_0) (by kernel_rfl) (ld 0 g1249 0 rfl (by kernel_rfl) rfl (by kernel_rfl)) ?_
      refine QQ.op (.pointer (some ⟨g1249, 1, none⟩)) (by kernel_rfl) (fun w _ => by kernel_rfl) ?_
      refine QQ.op (.int .i64 a2_1) (by kernel_rfl) (ld 0 g1249 1 rfl (by kernel_rfl) rfl (by kernel_rfl)) ?_
      refine QQ.op (.int .i64 (mx a2_0 a2_1)) (by kernel_rfl) (fun w _ => by kernel_rfl) ?_
      refine QQ.op (.int .i64 (mn a2_0 a2_1)) (by kernel_rfl) (fun w _ => by kernel_rfl) ?_
      refine QQ.op (.int .i64 (mx a2_0 a2_1)) (by kernel_rfl) (fun w _ => by kernel_rfl) ?_
      refine QQ.done (s' := [(0, .slice Aa0 a0.length ca0), (6, .bool false), (7, .slice A1317 y1316.length c1318), (8, .int .i64 (mn a2_0 a2_1)), (9, .int .i64 (mx a2_0 a2_1))]) [0, 6, 7, 8, 9] (by kernel_rfl) ?_
      refine NN.then ?_
      refine J.seq ?_
      refine J.seq ?_
      refine J.plain ?_
      refine LL.op (.slice A1317 y1316.length c1318) (by kernel_rfl) (fun w _ => by kernel_rfl) ?_
      refine LL.freeze (pre := [(g1249, cl [.int .i64 a2_0, .int .i64 a2_1] 62), (g1248, cl [.int .i64 a1_0, .int .i64 a1_1, .int .i64 a1_2, .int .i64 a1_3, .int .i64 a1_4, .int .i64 a1_5, .int .i64 a1_6] 41)]) ok41 o1320 (fun R1322 F1323 le1324 k1325 fr1326 => ?_)
      obtain ⟨x1327, hx1327, H⟩ := bind_some H
      refine LL.call 26 #[.slice A1317 y1316.length c1318] (.int .i64 x1327) (by kernel_rfl) (fun w => by kernel_rfl) (fun w hw => sawmillref13_Check.calls K y1316  _ _ _ w  (k1325.at hw) hx1327) ?_
      refine LL.op (.bool (!(x1327 == 0))) (by kernel_rfl) (fun w _ => by kernel_rfl) ?_
      refine LL.op (.bool (!(x1327 == 0))) (by kernel_rfl) (fun w _ => by kernel_rfl) ?_
      rcases Bool.eq_false_or_eq_true ((x1327 == 0)) with c1328 | c1328
      · rw [if_pos (eq_of_beq c1328)] at H
        refine LL.bool 33 (!(x1327 == 0)) false (by rw [show (!(x1327 == 0)) = !((x1327 == 0)) from rfl, c1328]; rfl) (by kernel_rfl) ?_
        refine LL.op (.int .i64 (mn a2_0 a2_1)) (by kernel_rfl) (fun w _ => by kernel_rfl) ?_
        refine LL.op (.bool (decide ((mn a2_0 a2_1) < 1))) (by kernel_rfl) (fun w _ => by kernel_rfl) ?_
        refine LL.op (.bool (decide ((mn a2_0 a2_1) < 1))) (by kernel_rfl) (fun w _ => by kernel_rfl) ?_
        refine LL.op (.bool (decide ((mn a2_0 a2_1) < 1))) (by kernel_rfl) (fun w _ => by kernel_rfl) ?_
        rcases Bool.eq_false_or_eq_true (decide ((mn a2_0 a2_1) < 1)) with c1329 | c1329
        · rw [if_pos (of_decide_eq_true c1329)] at H
          refine LL.bool 37 (decide ((mn a2_0 a2_1) < 1)) true c1329 (by kernel_rfl) ?_
          refine LL.off (by kernel_rfl) (by kernel_rfl) ?_
          refine LL.off (by kernel_rfl) (by kernel_rfl) ?_
          refine LL.op (.bool true) (by kernel_rfl) (fun w _ => by kernel_rfl) ?_
          refine LL.done (s' := [(0, .slice Aa0 a0.length ca0), (6, .bool false), (7, .slice A1317 y1316.length c1318), (8, .int .i64 (mn a2_0 a2_1)), (9, .int .i64 (mx a2_0 a2_1)), (40, .bool true)]) [0, 6, 7, 8, 9, 40] (by kernel_rfl) ?_
          refine NN.then ?_
          refine J.condT (b := true) rfl (by kernel_rfl) (by kernel_rfl) ?_
          refine J.seq ?_
          refine J.plain ?_
          obtain ⟨x1330, hx1330, H⟩ := bind_some H
          refine LL.call 30 #[] (.bool x1330) (by kernel_rfl) (fun w => by kernel_rfl) (fun w hw => sawmilllaw13_awake.calls K    _ w   hx1330) ?_
          refine LL.op (.bool x1330) (by kernel_rfl) (fun w _ => by kernel_rfl) ?_
          refine LL.done (s' := [(0, .slice Aa0 a0.length ca0), (6, .bool x1330), (7, .slice A1317 y1316.length c1318), (8, .int .i64 (mn a2_0 a2_1)), (9, .int .i64 (mx a2_0 a2_1))]) [0, 6, 7, 8, 9] (by kernel_rfl) ?_
          refine NN.then ?_
          refine J.ret ?_
          refine NN.then_ret ?_
          refine NN.fin1 6 (.bool x1330) (by kernel_rfl) (by kernel_rfl) (.inl rfl) (fun w hi => hi.ret ?_)
          first | (cases H; rfl) | (obtain rfl := Option.some.inj H; rfl) | (simp only [Option.some.injEq, Prod.mk.injEq] at H; obtain ⟨rfl⟩ := H; rfl)
        · rw [if_neg (of_decide_eq_false c1329)] at H
          refine LL.bool 37 (decide ((mn a2_0 a2_1) < 1)) false c1329 (by kernel_rfl) ?_
          refine LL.op (.int .i64 (mx a2_0 a2_1)) (by kernel_rfl) (fun w _ => by kernel_rfl) ?_
          refine LL.op (.bool (decide (20000 < (mx a2_0 a2_1)))) (by kernel_rfl) (fun w _ => by kernel_rfl) ?_
          refine LL.op (.bool (decide (20000 < (mx a2_0 a2_1)))) (by kernel_rfl) (fun w _ => by kernel_rfl) ?_
          refine LL.done (s' := [(0, .slice Aa0 a0.length ca0), (6, .bool false), (7, .slice A1317 y1316.length c1318), (8, .int .i64 (mn a2_0 a2_1)), (9, .int .i64 (mx a2_0 a2_1)), (40, .bool (decide (20000 < (mx a2_0 a2_1))))]) [0, 6, 7, 8, 9, 40] (by kernel_rfl) ?_
          refine NN.then ?_
          rcases Bool.eq_false_or_eq_true (decide (20000 < (mx a2_0 a2_1))) with c1331 | c1331
          · rw [if_pos (of_decide_eq_true c1331)] at H
            refine J.condT (b := decide (20000 < (mx a2_0 a2_1))) c1331 (by kernel_rfl) (by kernel_rfl) ?_
            refine J.seq ?_
            refine J.plain ?_
            obtain ⟨x1332, hx1332, H⟩ := bind_some H
            refine LL.call 30 #[] (.bool x1332) (by kernel_rfl) (fun w => by kernel_rfl) (fun w hw => sawmilllaw13_awake.calls K    _ w   hx1332) ?_
            refine LL.op (.bool x1332) (by kernel_rfl) (fun w _ => by kernel_rfl) ?_
            refine LL.done (s' := [(0, .slice Aa0 a0.length ca0), (6, .bool x1332), (7, .slice A1317 y1316.length c1318), (8, .int .i64 (mn a2_0 a2_1)), (9, .int .i64 (mx a2_0 a2_1))]) [0, 6, 7, 8, 9] (by kernel_rfl) ?_
            refine NN.then ?_
            refine J.ret ?_
            refine NN.then_ret ?_
            refine NN.fin1 6 (.bool x1332) (by kernel_rfl) (by kernel_rfl) (.inl rfl) (fun w hi => hi.ret ?_)
            first | (cases H; rfl) | (obtain rfl := Option.some.inj H; rfl) | (simp only [Option.some.injEq, Prod.mk.injEq] at H; obtain ⟨rfl⟩ := H; rfl)
          · rw [if_neg (of_decide_eq_false c1331)] at H
            refine J.condF (b := decide (20000 < (mx a2_0 a2_1))) c1331 (by kernel_rfl) (by kernel_rfl) ?_
            refine J.skip ?_
            refine NN.then ?_
            refine J.seq ?_
            refine J.plain ?_
            refine LL.op (.slice Aa0 a0.length ca0) (by kernel_rfl) (fun w _ => by kernel_rfl) ?_
            obtain ⟨x1333, hx1333, H⟩ := bind_some H
            refine LL.call 36 #[.slice Aa0 a0.length ca0, .int .i64 1] (.int .i64 x1333) (by kernel_rfl) (fun w => by kernel_rfl) (fun w hw => defect_Largest.calls K a0 1  _ _ _ w  (((ha0.le le1306).le le1324).at hw) hx1333) ?_
            refine LL.op (.slice Aa0 a0.length ca0) (by kernel_rfl) (fun w _ => by kernel_rfl) ?_
            obtain ⟨x1334, hx1334, H⟩ := bind_some H
            refine LL.call 36 #[.slice Aa0 a0.length ca0, .int .i64 2] (.int .i64 x1334) (by kernel_rfl) (fun w => by kernel_rfl) (fun w hw => defect_Largest.calls K a0 2  _ _ _ w  (((ha0.le le1306).le le1324).at hw) hx1334) ?_
            refine LL.op (.int .i64 (mx x1333 x1334)) (by kernel_rfl) (fun w _ => by kernel_rfl) ?_
            refine LL.op (.int .i64 0) (by kernel_rfl) (fun w _ => by kernel_rfl) ?_
            refine LL.op (.int .i64 (mx x1333 x1334)) (by kernel_rfl) (fun w _ => by kernel_rfl) ?_
            refine LL.done (s' := [(0, .slice Aa0 a0.length ca0), (6, .bool false), (7, .slice A1317 y1316.length c1318), (8, .int .i64 (mn a2_0 a2_1)), (9, .int .i64 (mx a2_0 a2_1)), (10, .int .i64 0), (11, .int .i64 (mx x1333 x1334))]) [0, 6, 7, 8, 9, 10, 11] (by kernel_rfl) ?_
            refine NN.then ?_
            refine J.seq ?_
            refine J.seq ?_
            refine J.plain ?_
            refine LL.op (.int .i64 0) (by kernel_rfl) (fun w _ => by kernel_rfl) ?_
            refine LL.done (s' := [(0, .slice Aa0 a0.length ca0), (6, .bool false), (7, .slice A1317 y1316.length c1318), (8, .int .i64 (mn a2_0 a2_1)), (9, .int .i64 (mx a2_0 a2_1)), (10, .int .i64 0), (11, .int .i64 (mx x1333 x1334)), (12, .int .i64 0)]) [0, 6, 7, 8, 9, 10, 11, 12] (by kernel_rfl) ?_
            refine NN.then ?_
            refine J.block ?_
            refine J.to [0, 6, 7, 8, 9, 10, 11, 12] (s' := [(0, .slice Aa0 a0.length ca0), (6, .bool false), (7, .slice A1317 y1316.length c1318), (8, .int .i64 (mn a2_0 a2_1)), (9, .int .i64 (mx a2_0 a2_1)), (10, .int .i64 0), (11, .int .i64 (mx x1333 x1334)), (12, .int .i64 0)]) (by kernel_rfl) ?_
            refine J.loop (fun n_ s_ bs_ => ∃ (x10l0 : Int) (x12l0 : Int), sawmilllaw13_DefectWindows.l0 K a0 a2_0 a2_1 y1316 x1333 x1334 n_ x10l0 x12l0 = some r1 ∧ s_ = [(0, .slice Aa0 a0.length ca0), (6, .bool false), (7, .slice A1317 y1316.length c1318), (8, .int .i64 (mn a2_0 a2_1)), (9, .int .i64 (mx a2_0 a2_1)), (10, .int .i64 x10l0), (11, .int .i64 (mx x1333 x1334)), (12, .int .i64 x12l0)] ∧ [(g1249, cl [.int .i64 a2_0, .int .i64 a2_1] 62), (g1248, cl [.int .i64 a1_0, .int .i64 a1_1, .int .i64 a1_2, .int .i64 a1_3, .int .i64 a1_4, .int .i64 a1_5, .int .i64 a1_6] 41)] = bs_) K ⟨0, 0, H, rfl, rfl⟩ ?_
            rintro (_ | n_) s_ bs_ ⟨x10l0, x12l0, H, rfl, rfl⟩
            · exact absurd H (by simp [sawmilllaw13_DefectWindows.l0])
            simp only [sawmilllaw13_DefectWindows.l0] at H
            refine J.seq ?_
            refine J.seq ?_
            refine J.plain ?_
            refine LL.op (.int .i64 x12l0) (by kernel_rfl) (fun w _ => by kernel_rfl) ?_
            refine LL.op (.slice Aa0 a0.length ca0) (by kernel_rfl) (fun w _ => by kernel_rfl) ?_
            refine LL.op (.int .i64 (a0.length : Int)) (by kernel_rfl) (fun w _ => by kernel_rfl) ?_
            refine LL.op (.bool (decide (x12l0 < (a0.length : Int)))) (by kernel_rfl) (fun w _ => by kernel_rfl) ?_
            refine LL.done (s' := [(0, .slice Aa0 a0.length ca0), (6, .bool false), (7, .slice A1317 y1316.length c1318), (8, .int .i64 (mn a2_0 a2_1)), (9, .int .i64 (mx a2_0 a2_1)), (10, .int .i64 x10l0), (11, .int .i64 (mx x1333 x1334)), (12, .int .i64 x12l0), (50, .bool (decide (x12l0 < (a0.length : Int))))]) [0, 6, 7, 8, 9, 10, 11, 12, 50] (by kernel_rfl) ?_
            refine NN.then ?_
            rcases Bool.eq_false_or_eq_true (decide (x12l0 < (a0.length : Int))) with c1336 | c1336
            · rw [if_pos (of_decide_eq_true c1336)] at H
              refine J.condT (b := decide (x12l0 < (a0.length : Int))) c1336 (by kernel_rfl) (by kernel_rfl) ?_
              refine J.skip ?_
              refine NN.then ?_
              refine J.seq ?_
              refine J.block ?_
              refine J.seq ?_
              refine J.plain ?_
              refine LL.op (.slice Aa0 a0.length ca0) (by kernel_rfl) (fun w _ => by kernel_rfl) ?_
              refine LL.op (.int .i64 x12l0) (by kernel_rfl) (fun w _ => by kernel_rfl) ?_
              obtain ⟨⟨e1337_1, e1337_2, e1337_3, e1337_4, e1337_5, e1337_6, e1337_7⟩, he1337, H⟩ := bind_some H
              (try dsimp only at H)
              refine LL.op (.pointer (rp Aa0 (x12l0.toNat * 7 + 0))) (by kernel_rfl) (idxR (cp := ca0) (ik := .i64) ((ha0.le le1306).le le1324) he1337 rfl (by kernel_rfl) (by kernel_rfl) (by kernel_rfl)) ?_
              refine LL.op (.pointer (rp Aa0 (x12l0.toNat * 7 + 0))) (by kernel_rfl) (fldR (b := x12l0.toNat * 7) (off := 0) (o1 := 0) (o2 := 0) ((ha0.le le1306).le le1324) he1337 rfl (by kernel_rfl) (by kernel_rfl) rfl) ?_
              refine LL.op (.int .i64 e1337_1) (by kernel_rfl) (ldR (off := 0) ((ha0.le le1306).le le1324) he1337 rfl (by kernel_rfl) (by kernel_rfl)) ?_
              refine LL.op (.bool (e1337_1 == 1)) (by kernel_rfl) (fun w _ => by kernel_rfl) ?_
              refine LL.op (.bool (e1337_1 == 1)) (by kernel_rfl) (fun w _ => by kernel_rfl) ?_
              rcases Bool.eq_false_or_eq_true ((e1337_1 == 1)) with c1338 | c1338
              · rw [if_pos (eq_of_beq c1338)] at H
                refine LL.bool 59 ((e1337_1 == 1)) true c1338 (by kernel_rfl) ?_
                refine LL.off (by kernel_rfl) (by kernel_rfl) ?_
                refine LL.off (by kernel_rfl) (by kernel_rfl) ?_
                refine LL.off (by kernel_rfl) (by kernel_rfl) ?_
                refine LL.off (by kernel_rfl) (by kernel_rfl) ?_
                refine LL.off (by kernel_rfl) (by kernel_rfl) ?_
                refine LL.off (by kernel_rfl) (by kernel_rfl) ?_
                refine LL.op (.bool true) (by kernel_rfl) (fun w _ => by kernel_rfl) ?_
                refine LL.done (s' := [(0, .slice Aa0 a0.length ca0), (6, .bool false), (7, .slice A1317 y1316.length c1318), (8, .int .i64 (mn a2_0 a2_1)), (9, .int .i64 (mx a2_0 a2_1)), (10, .int .i64 x10l0), (11, .int .i64 (mx x1333 x1334)), (12, .int .i64 x12l0), (66, .bool true)]) [0, 6, 7, 8, 9, 10, 11, 12, 66] (by kernel_rfl) ?_
                refine NN.then ?_
                refine J.condT (b := true) rfl (by kernel_rfl) (by kernel_rfl) ?_
                refine J.plain ?_
                refine LL.op (.int .i64 x10l0) (by kernel_rfl) (fun w _ => by kernel_rfl) ?_
                refine LL.op (.slice Aa0 a0.length ca0) (by kernel_rfl) (fun w _ => by kernel_rfl) ?_
                refine LL.op (.int .i64 x12l0) (by kernel_rfl) (fun w _ => by kernel_rfl) ?_
                refine LL.op (.pointer (rp Aa0 (x12l0.toNat * 7 + 0))) (by kernel_rfl) (idxR (cp := ca0) (ik := .i64) ((ha0.le le1306).le le1324) he1337 rfl (by kernel_rfl) (by kernel_rfl) (by kernel_rfl)) ?_
                refine LL.op (.agg #[.int .i64 e1337_1, .int .i64 e1337_2, .int .i64 e1337_3, .int .i64 e1337_4, .int .i64 e1337_5, .int .i64 e1337_6, .int .i64 e1337_7]) (by kernel_rfl) (ldR (off := 0) ((ha0.le le1306).le le1324) he1337 rfl (by kernel_rfl) (by kernel_rfl)) ?_
                obtain ⟨x1339, hx1339, H⟩ := bind_some H
                refine LL.call 31 #[.agg #[.int .i64 e1337_1, .int .i64 e1337_2, .int .i64 e1337_3, .int .i64 e1337_4, .int .i64 e1337_5, .int .i64 e1337_6, .int .i64 e1337_7]] (.int .i64 x1339) (by kernel_rfl) (fun w => by kernel_rfl) (fun w hw => defect_Size.calls e1337_1 e1337_2 e1337_3 e1337_4 e1337_5 e1337_6 e1337_7   _ w   hx1339) ?_
                refine LL.op (.int .i64 (IntKind.i64.wrap (x10l0 + x1339))) (by kernel_rfl) (fun w _ => by kernel_rfl) ?_
                refine LL.op (.int .i64 (IntKind.i64.wrap (x10l0 + x1339))) (by kernel_rfl) (fun w _ => by kernel_rfl) ?_
                refine LL.done (s' := [(0, .slice Aa0 a0.length ca0), (6, .bool false), (7, .slice A1317 y1316.length c1318), (8, .int .i64 (mn a2_0 a2_1)), (9, .int .i64 (mx a2_0 a2_1)), (10, .int .i64 (IntKind.i64.wrap (x10l0 + x1339))), (11, .int .i64 (mx x1333 x1334)), (12, .int .i64 x12l0)]) [0, 6, 7, 8, 9, 10, 11, 12] (by kernel_rfl) ?_
                refine NN.block_n ?_
                refine NN.then ?_
                refine J.plain ?_
                refine LL.op (.int .i64 x12l0) (by kernel_rfl) (fun w _ => by kernel_rfl) ?_
                refine LL.op (.int .i64 (IntKind.i64.wrap (x12l0 + 1))) (by kernel_rfl) (fun w _ => by kernel_rfl) ?_
                refine LL.op (.int .i64 (IntKind.i64.wrap (x12l0 + 1))) (by kernel_rfl) (fun w _ => by kernel_rfl) ?_
                refine LL.done (s' := [(0, .slice Aa0 a0.length ca0), (6, .bool false), (7, .slice A1317 y1316.length c1318), (8, .int .i64 (mn a2_0 a2_1)), (9, .int .i64 (mx a2_0 a2_1)), (10, .int .i64 (IntKind.i64.wrap (x10l0 + x1339))), (11, .int .i64 (mx x1333 x1334)), (12, .int .i64 (IntKind.i64.wrap (x12l0 + 1)))]) [0, 6, 7, 8, 9, 10, 11, 12] (by kernel_rfl) ?_
                exact NN.round' [0, 6, 7, 8, 9, 10, 11, 12] (bs' := [(g1249, cl [.int .i64 a2_0, .int .i64 a2_1] 62), (g1248, cl [.int .i64 a1_0, .int .i64 a1_1, .int .i64 a1_2, .int .i64 a1_3, .int .i64 a1_4, .int .i64 a1_5, .int .i64 a1_6] 41)]) (Nat.lt_succ_self _) (List.Sublist.refl _) (by kernel_rfl) ⟨IntKind.i64.wrap (x10l0 + x1339), IntKind.i64.wrap (x12l0 + 1), H, rfl, rfl⟩
              · rw [if_neg (nebf c1338)] at H
                refine LL.bool 59 ((e1337_1 == 1)) false c1338 (by kernel_rfl) ?_
                refine LL.op (.slice Aa0 a0.length ca0) (by kernel_rfl) (fun w _ => by kernel_rfl) ?_
                refine LL.op (.int .i64 x12l0) (by kernel_rfl) (fun w _ => by kernel_rfl) ?_
                refine LL.op (.pointer (rp Aa0 (x12l0.toNat * 7 + 0))) (by kernel_rfl) (idxR (cp := ca0) (ik := .i64) ((ha0.le le1306).le le1324) he1337 rfl (by kernel_rfl) (by kernel_rfl) (by kernel_rfl)) ?_
                refine LL.op (.pointer (rp Aa0 (x12l0.toNat * 7 + 0))) (by kernel_rfl) (fldR (b := x12l0.toNat * 7) (off := 0) (o1 := 0) (o2 := 0) ((ha0.le le1306).le le1324) he1337 rfl (by kernel_rfl) (by kernel_rfl) rfl) ?_
                refine LL.op (.int .i64 e1337_1) (by kernel_rfl) (ldR (off := 0) ((ha0.le le1306).le le1324) he1337 rfl (by kernel_rfl) (by kernel_rfl)) ?_
                refine LL.op (.bool (e1337_1 == 2)) (by kernel_rfl) (fun w _ => by kernel_rfl) ?_
                refine LL.op (.bool (e1337_1 == 2)) (by kernel_rfl) (fun w _ => by kernel_rfl) ?_
                refine LL.done (s' := [(0, .slice Aa0 a0.length ca0), (6, .bool false), (7, .slice A1317 y1316.length c1318), (8, .int .i64 (mn a2_0 a2_1)), (9, .int .i64 (mx a2_0 a2_1)), (10, .int .i64 x10l0), (11, .int .i64 (mx x1333 x1334)), (12, .int .i64 x12l0), (66, .bool (e1337_1 == 2))]) [0, 6, 7, 8, 9, 10, 11, 12, 66] (by kernel_rfl) ?_
                refine NN.then ?_
                rcases Bool.eq_false_or_eq_true ((e1337_1 == 2)) with c1340 | c1340
                · rw [if_pos (eq_of_beq c1340)] at H
                  refine J.condT (b := (e1337_1 == 2)) c1340 (by kernel_rfl) (by kernel_rfl) ?_
                  refine J.plain ?_
                  refine LL.op (.int .i64 x10l0) (by kernel_rfl) (fun w _ => by kernel_rfl) ?_
                  refine LL.op (.slice Aa0 a0.length ca0) (by kernel_rfl) (fun w _ => by kernel_rfl) ?_
                  refine LL.op (.int .i64 x12l0) (by kernel_rfl) (fun w _ => by kernel_rfl) ?_
                  refine LL.op (.pointer (rp Aa0 (x12l0.toNat * 7 + 0))) (by kernel_rfl) (idxR (cp := ca0) (ik := .i64) ((ha0.le le1306).le le1324) he1337 rfl (by kernel_rfl) (by kernel_rfl) (by kernel_rfl)) ?_
                  refine LL.op (.agg #[.int .i64 e1337_1, .int .i64 e1337_2, .int .i64 e1337_3, .int .i64 e1337_4, .int .i64 e1337_5, .int .i64 e1337_6, .int .i64 e1337_7]) (by kernel_rfl) (ldR (off := 0) ((ha0.le le1306).le le1324) he1337 rfl (by kernel_rfl) (by kernel_rfl)) ?_
                  obtain ⟨x1341, hx1341, H⟩ := bind_some H
                  refine LL.call 31 #[.agg #[.int .i64 e1337_1, .int .i64 e1337_2, .int .i64 e1337_3, .int .i64 e1337_4, .int .i64 e1337_5, .int .i64 e1337_6, .int .i64 e1337_7]] (.int .i64 x1341) (by kernel_rfl) (fun w => by kernel_rfl) (fun w hw => defect_Size.calls e1337_1 e1337_2 e1337_3 e1337_4 e1337_5 e1337_6 e1337_7   _ w   hx1341) ?_
                  refine LL.op (.int .i64 (IntKind.i64.wrap (x10l0 + x1341))) (by kernel_rfl) (fun w _ => by kernel_rfl) ?_
                  refine LL.op (.int .i64 (IntKind.i64.wrap (x10l0 + x1341))) (by kernel_rfl) (fun w _ => by kernel_rfl) ?_
                  refine LL.done (s' := [(0, .slice Aa0 a0.length ca0), (6, .bool false), (7, .slice A1317 y1316.length c1318), (8, .int .i64 (mn a2_0 a2_1)), (9, .int .i64 (mx a2_0 a2_1)), (10, .int .i64 (IntKind.i64.wrap (x10l0 + x1341))), (11, .int .i64 (mx x1333 x1334)), (12, .int .i64 x12l0)]) [0, 6, 7, 8, 9, 10, 11, 12] (by kernel_rfl) ?_
                  refine NN.block_n ?_
                  refine NN.then ?_
                  refine J.plain ?_
                  refine LL.op (.int .i64 x12l0) (by kernel_rfl) (fun w _ => by kernel_rfl) ?_
                  refine LL.op (.int .i64 (IntKind.i64.wrap (x12l0 + 1))) (by kernel_rfl) (fun w _ => by kernel_rfl) ?_
                  refine LL.op (.int .i64 (IntKind.i64.wrap (x12l0 + 1))) (by kernel_rfl) (fun w _ => by kernel_rfl) ?_
                  refine LL.done (s' := [(0, .slice Aa0 a0.length ca0), (6, .bool false), (7, .slice A1317 y1316.length c1318), (8, .int .i64 (mn a2_0 a2_1)), (9, .int .i64 (mx a2_0 a2_1)), (10, .int .i64 (IntKind.i64.wrap (x10l0 + x1341))), (11, .int .i64 (mx x1333 x1334)), (12, .int .i64 (IntKind.i64.wrap (x12l0 + 1)))]) [0, 6, 7, 8, 9, 10, 11, 12] (by kernel_rfl) ?_
                  exact NN.round' [0, 6, 7, 8, 9, 10, 11, 12] (bs' := [(g1249, cl [.int .i64 a2_0, .int .i64 a2_1] 62), (g1248, cl [.int .i64 a1_0, .int .i64 a1_1, .int .i64 a1_2, .int .i64 a1_3, .int .i64 a1_4, .int .i64 a1_5, .int .i64 a1_6] 41)]) (Nat.lt_succ_self _) (List.Sublist.refl _) (by kernel_rfl) ⟨IntKind.i64.wrap (x10l0 + x1341), IntKind.i64.wrap (x12l0 + 1), H, rfl, rfl⟩
                · rw [if_neg (nebf c1340)] at H
                  refine J.condF (b := (e1337_1 == 2)) c1340 (by kernel_rfl) (by kernel_rfl) ?_
                  refine J.skip ?_
                  refine NN.block_n ?_
                  refine NN.then ?_
                  refine J.plain ?_
                  refine LL.op (.int .i64 x12l0) (by kernel_rfl) (fun w _ => by kernel_rfl) ?_
                  refine LL.op (.int .i64 (IntKind.i64.wrap (x12l0 + 1))) (by kernel_rfl) (fun w _ => by kernel_rfl) ?_
                  refine LL.op (.int .i64 (IntKind.i64.wrap (x12l0 + 1))) (by kernel_rfl) (fun w _ => by kernel_rfl) ?_
                  refine LL.done (s' := [(0, .slice Aa0 a0.length ca0), (6, .bool false), (7, .slice A1317 y1316.length c1318), (8, .int .i64 (mn a2_0 a2_1)), (9, .int .i64 (mx a2_0 a2_1)), (10, .int .i64 x10l0), (11, .int .i64 (mx x1333 x1334)), (12, .int .i64 (IntKind.i64.wrap (x12l0 + 1)))]) [0, 6, 7, 8, 9, 10, 11, 12] (by kernel_rfl) ?_
                  exact NN.round' [0, 6, 7, 8, 9, 10, 11, 12] (bs' := [(g1249, cl [.int .i64 a2_0, .int .i64 a2_1] 62), (g1248, cl [.int .i64 a1_0, .int .i64 a1_1, .int .i64 a1_2, .int .i64 a1_3, .int .i64 a1_4, .int .i64 a1_5, .int .i64 a1_6] 41)]) (Nat.lt_succ_self _) (List.Sublist.refl _) (by kernel_rfl) ⟨x10l0, IntKind.i64.wrap (x12l0 + 1), H, rfl, rfl⟩
            · rw [if_neg (of_decide_eq_false c1336)] at H
              refine J.condF (b := decide (x12l0 < (a0.length : Int))) c1336 (by kernel_rfl) (by kernel_rfl) ?_
              refine J.exit ?_
              refine NN.then_exit ?_
              refine NN.then_exit ?_
              refine NN.block_same ?_
              refine NN.then ?_
              refine J.seq ?_
              refine J.plain ?_
              refine LL.op (.slice Aa0 a0.length ca0) (by kernel_rfl) (fun w _ => by kernel_rfl) ?_
              refine LL.op (.int .i64 (mn a2_0 a2_1)) (by kernel_rfl) (fun w _ => by kernel_rfl) ?_
              obtain ⟨x1342, hx1342, H⟩ := bind_some H
              refine LL.call 45 #[.slice Aa0 a0.length ca0, .int .i64 (mn a2_0 a2_1)] (.int .i64 x1342) (by kernel_rfl) (fun w => by kernel_rfl) (fun w hw => defect_Worst.calls K a0 (mn a2_0 a2_1)  _ _ _ w  (((ha0.le le1306).le le1324).at hw) hx1342) ?_
              refine LL.op (.int .i64 x1342) (by kernel_rfl) (fun w _ => by kernel_rfl) ?_
              refine LL.done (s' := [(0, .slice Aa0 a0.length ca0), (6, .bool false), (7, .slice A1317 y1316.length c1318), (8, .int .i64 (mn a2_0 a2_1)), (9, .int .i64 (mx a2_0 a2_1)), (10, .int .i64 x10l0), (11, .int .i64 (mx x1333 x1334)), (13, .int .i64 x1342)]) [0, 6, 7, 8, 9, 10, 11, 13] (by kernel_rfl) ?_
              refine NN.then ?_
              refine J.seq ?_
              refine J.plain ?_
              refine LL.op (.int .i64 (mx x1333 x1334)) (by kernel_rfl) (fun w _ => by kernel_rfl) ?_
              refine LL.op (.int .i64 x1342) (by kernel_rfl) (fun w _ => by kernel_rfl) ?_
              refine LL.op (.bool (decide ((mx x1333 x1334) ≤ x1342))) (by kernel_rfl) (fun w _ => by kernel_rfl) ?_
              refine LL.op (.bool (decide ((mx x1333 x1334) ≤ x1342))) (by kernel_rfl) (fun w _ => by kernel_rfl) ?_
              rcases Bool.eq_false_or_eq_true (decide ((mx x1333 x1334) ≤ x1342)) with c1343 | c1343
              · rw [if_pos (of_decide_eq_true c1343)] at H
                refine LL.bool 80 (decide ((mx x1333 x1334) ≤ x1342)) true c1343 (by kernel_rfl) ?_
                refine LL.op (.int .i64 x1342) (by kernel_rfl) (fun w _ => by kernel_rfl) ?_
                refine LL.op (.int .i64 x10l0) (by kernel_rfl) (fun w _ => by kernel_rfl) ?_
                refine LL.op (.bool (decide (x1342 ≤ x10l0))) (by kernel_rfl) (fun w _ => by kernel_rfl) ?_
                refine LL.op (.bool (decide (x1342 ≤ x10l0))) (by kernel_rfl) (fun w _ => by kernel_rfl) ?_
                refine LL.op (.bool (decide (x1342 ≤ x10l0))) (by kernel_rfl) (fun w _ => by kernel_rfl) ?_
                rcases Bool.eq_false_or_eq_true (decide (x1342 ≤ x10l0)) with c1344 | c1344
                · rw [if_pos (of_decide_eq_true c1344)] at H
                  refine LL.bool 85 (decide (x1342 ≤ x10l0)) true c1344 (by kernel_rfl) ?_
                  refine LL.op (.int .i64 x1342) (by kernel_rfl) (fun w _ => by kernel_rfl) ?_
                  refine LL.op (.slice Aa0 a0.length ca0) (by kernel_rfl) (fun w _ => by kernel_rfl) ?_
                  refine LL.op (.int .i64 (mx a2_0 a2_1)) (by kernel_rfl) (fun w _ => by kernel_rfl) ?_
                  obtain ⟨x1345, hx1345, H⟩ := bind_some H
                  refine LL.call 45 #[.slice Aa0 a0.length ca0, .int .i64 (mx a2_0 a2_1)] (.int .i64 x1345) (by kernel_rfl) (fun w => by kernel_rfl) (fun w hw => defect_Worst.calls K a0 (mx a2_0 a2_1)  _ _ _ w  (((ha0.le le1306).le le1324).at hw) hx1345) ?_
                  refine LL.op (.bool (decide (x1342 ≤ x1345))) (by kernel_rfl) (fun w _ => by kernel_rfl) ?_
                  refine LL.op (.bool (decide (x1342 ≤ x1345))) (by kernel_rfl) (fun w _ => by kernel_rfl) ?_
                  refine LL.op (.bool (decide (x1342 ≤ x1345))) (by kernel_rfl) (fun w _ => by kernel_rfl) ?_
                  rcases Bool.eq_false_or_eq_true (decide (x1342 ≤ x1345)) with c1346 | c1346
                  · rw [if_pos (of_decide_eq_true c1346)] at H
                    refine LL.bool 92 (decide (x1342 ≤ x1345)) true c1346 (by kernel_rfl) ?_
                    refine LL.op (.int .i64 x1342) (by kernel_rfl) (fun w _ => by kernel_rfl) ?_
                    refine LL.op (.slice A1317 y1316.length c1318) (by kernel_rfl) (fun w _ => by kernel_rfl) ?_
                    refine LL.op (.int .i64 (mn a2_0 a2_1)) (by kernel_rfl) (fun w _ => by kernel_rfl) ?_
                    obtain ⟨x1347, hx1347, H⟩ := bind_some H
                    refine LL.call 45 #[.slice A1317 y1316.length c1318, .int .i64 (mn a2_0 a2_1)] (.int .i64 x1347) (by kernel_rfl) (fun w => by kernel_rfl) (fun w hw => defect_Worst.calls K y1316 (mn a2_0 a2_1)  _ _ _ w  (k1325.at hw) hx1347) ?_
                    refine LL.op (.bool (decide (x1342 ≤ x1347))) (by kernel_rfl) (fun w _ => by kernel_rfl) ?_
                    refine LL.op (.bool (decide (x1342 ≤ x1347))) (by kernel_rfl) (fun w _ => by kernel_rfl) ?_
                    refine LL.op (.bool (decide (x1342 ≤ x1347))) (by kernel_rfl) (fun w _ => by kernel_rfl) ?_
                    rcases Bool.eq_false_or_eq_true (decide (x1342 ≤ x1347)) with c1348 | c1348
                    · rw [if_pos (of_decide_eq_true c1348)] at H
                      refine LL.bool 99 (decide (x1342 ≤ x1347)) true c1348 (by kernel_rfl) ?_
                      obtain ⟨x1349, hx1349, H⟩ := bind_some H
                      refine LL.call 30 #[] (.bool x1349) (by kernel_rfl) (fun w => by kernel_rfl) (fun w hw => sawmilllaw13_awake.calls K    _ w   hx1349) ?_
                      refine LL.op (.bool x1349) (by kernel_rfl) (fun w _ => by kernel_rfl) ?_
                      refine LL.op (.bool x1349) (by kernel_rfl) (fun w _ => by kernel_rfl) ?_
                      refine LL.done (s' := [(6, .bool x1349)]) [6] (by kernel_rfl) ?_
                      refine NN.then ?_
                      refine J.ret ?_
                      refine NN.fin1 6 (.bool x1349) (by kernel_rfl) (by kernel_rfl) (.inl rfl) (fun w hi => hi.ret ?_)
                      first | (cases H; rfl) | (obtain rfl := Option.some.inj H; rfl) | (simp only [Option.some.injEq, Prod.mk.injEq] at H; obtain ⟨rfl⟩ := H; rfl)
                    · rw [if_neg (of_decide_eq_false c1348)] at H
                      refine LL.bool 99 (decide (x1342 ≤ x1347)) false c1348 (by kernel_rfl) ?_
                      refine LL.off (by kernel_rfl) (by kernel_rfl) ?_
                      refine LL.op (.bool false) (by kernel_rfl) (fun w _ => by kernel_rfl) ?_
                      refine LL.op (.bool false) (by kernel_rfl) (fun w _ => by kernel_rfl) ?_
                      refine LL.done (s' := [(6, .bool false)]) [6] (by kernel_rfl) ?_
                      refine NN.then ?_
                      refine J.ret ?_
                      refine NN.fin1 6 (.bool false) (by kernel_rfl) (by kernel_rfl) (.inl rfl) (fun w hi => hi.ret ?_)
                      first | (cases H; rfl) | (obtain rfl := Option.some.inj H; rfl) | (simp only [Option.some.injEq, Prod.mk.injEq] at H; obtain ⟨rfl⟩ := H; rfl)
                  · rw [if_neg (of_decide_eq_false c1346)] at H
                    refine LL.bool 92 (decide (x1342 ≤ x1345)) false c1346 (by kernel_rfl) ?_
                    refine LL.off (by kernel_rfl) (by kernel_rfl) ?_
                    refine LL.off (by kernel_rfl) (by kernel_rfl) ?_
                    refine LL.off (by kernel_rfl) (by kernel_rfl) ?_
                    refine LL.off (by kernel_rfl) (by kernel_rfl) ?_
                    refine LL.off (by kernel_rfl) (by kernel_rfl) ?_
                    refine LL.op (.bool false) (by kernel_rfl) (fun w _ => by kernel_rfl) ?_
                    refine LL.op (.bool false) (by kernel_rfl) (fun w _ => by kernel_rfl) ?_
                    refine LL.off (by kernel_rfl) (by kernel_rfl) ?_
                    refine LL.op (.bool false) (by kernel_rfl) (fun w _ => by kernel_rfl) ?_
                    refine LL.op (.bool false) (by kernel_rfl) (fun w _ => by kernel_rfl) ?_
                    refine LL.done (s' := [(6, .bool false)]) [6] (by kernel_rfl) ?_
                    refine NN.then ?_
                    refine J.ret ?_
                    refine NN.fin1 6 (.bool false) (by kernel_rfl) (by kernel_rfl) (.inl rfl) (fun w hi => hi.ret ?_)
                    first | (cases H; rfl) | (obtain rfl := Option.some.inj H; rfl) | (simp only [Option.some.injEq, Prod.mk.injEq] at H; obtain ⟨rfl⟩ := H; rfl)
                · rw [if_neg (of_decide_eq_false c1344)] at H
                  refine LL.bool 85 (decide (x1342 ≤ x10l0)) false c1344 (by kernel_rfl) ?_
                  refine LL.off (by kernel_rfl) (by kernel_rfl) ?_
                  refine LL.off (by kernel_rfl) (by kernel_rfl) ?_
                  refine LL.off (by kernel_rfl) (by kernel_rfl) ?_
                  refine LL.off (by kernel_rfl) (by kernel_rfl) ?_
                  refine LL.off (by kernel_rfl) (by kernel_rfl) ?_
                  refine LL.op (.bool false) (by kernel_rfl) (fun w _ => by kernel_rfl) ?_
                  refine LL.op (.bool false) (by kernel_rfl) (fun w _ => by kernel_rfl) ?_
                  refine LL.off (by kernel_rfl) (by kernel_rfl) ?_
                  refine LL.off (by kernel_rfl) (by kernel_rfl) ?_
                  refine LL.off (by kernel_rfl) (by kernel_rfl) ?_
                  refine LL.off (by kernel_rfl) (by kernel_rfl) ?_
                  refine LL.off (by kernel_rfl) (by kernel_rfl) ?_
                  refine LL.op (.bool false) (by kernel_rfl) (fun w _ => by kernel_rfl) ?_
                  refine LL.op (.bool false) (by kernel_rfl) (fun w _ => by kernel_rfl) ?_
                  refine LL.off (by kernel_rfl) (by kernel_rfl) ?_
                  refine LL.op (.bool false) (by kernel_rfl) (fun w _ => by kernel_rfl) ?_
                  refine LL.op (.bool false) (by kernel_rfl) (fun w _ => by kernel_rfl) ?_
                  refine LL.done (s' := [(6, .bool false)]) [6] (by kernel_rfl) ?_
                  refine NN.then ?_
                  refine J.ret ?_
                  refine NN.fin1 6 (.bool false) (by kernel_rfl) (by kernel_rfl) (.inl rfl) (fun w hi => hi.ret ?_)
                  first | (cases H; rfl) | (obtain rfl := Option.some.inj H; rfl) | (simp only [Option.some.injEq, Prod.mk.injEq] at H; obtain ⟨rfl⟩ := H; rfl)
              · rw [if_neg (of_decide_eq_false c1343)] at H
                refine LL.bool 80 (decide ((mx x1333 x1334) ≤ x1342)) false c1343 (by kernel_rfl) ?_
                refine LL.off (by kernel_rfl) (by kernel_rfl) ?_
                refine LL.off (by kernel_rfl) (by kernel_rfl) ?_
                refine LL.off (by kernel_rfl) (by kernel_rfl) ?_
                refine LL.op (.bool false) (by kernel_rfl) (fun w _ => by kernel_rfl) ?_
                refine LL.op (.bool false) (by kernel_rfl) (fun w _ => by kernel_rfl) ?_
                refine LL.off (by kernel_rfl) (by kernel_rfl) ?_
                refine LL.off (by kernel_rfl) (by kernel_rfl) ?_
                refine LL.off (by kernel_rfl) (by kernel_rfl) ?_
                refine LL.off (by kernel_rfl) (by kernel_rfl) ?_
                refine LL.off (by kernel_rfl) (by kernel_rfl) ?_
                refine LL.op (.bool false) (by kernel_rfl) (fun w _ => by kernel_rfl) ?_
                refine LL.op (.bool false) (by kernel_rfl) (fun w _ => by kernel_rfl) ?_
                refine LL.off (by kernel_rfl) (by kernel_rfl) ?_
                refine LL.off (by kernel_rfl) (by kernel_rfl) ?_
                refine LL.off (by kernel_rfl) (by kernel_rfl) ?_
                refine LL.off (by kernel_rfl) (by kernel_rfl) ?_
                refine LL.off (by kernel_rfl) (by kernel_rfl) ?_
                refine LL.op (.bool false) (by kernel_rfl) (fun w _ => by kernel_rfl) ?_
                refine LL.op (.bool false) (by kernel_rfl) (fun w _ => by kernel_rfl) ?_
                refine LL.off (by kernel_rfl) (by kernel_rfl) ?_
                refine LL.op (.bool false) (by kernel_rfl) (fun w _ => by kernel_rfl) ?_
                refine LL.op (.bool false) (by kernel_rfl) (fun w _ => by kernel_rfl) ?_
                refine LL.done (s' := [(6, .bool false)]) [6] (by kernel_rfl) ?_
                refine NN.then ?_
                refine J.ret ?_
                refine NN.fin1 6 (.bool false) (by kernel_rfl) (by kernel_rfl) (.inl rfl) (fun w hi => hi.ret ?_)
                first | (cases H; rfl) | (obtain rfl := Option.some.inj H; rfl) | (simp only [Option.some.injEq, Prod.mk.injEq] at H; obtain ⟨rfl⟩ := H; rfl)
      · rw [if_neg (nebf c1328)] at H
        refine LL.bool 33 (!(x1327 == 0)) true (by rw [show (!(x1327 == 0)) = !((x1327 == 0)) from rfl, c1328]; rfl) (by kernel_rfl) ?_
        refine LL.off (by kernel_rfl) (by kernel_rfl) ?_
        refine LL.off (by kernel_rfl) (by kernel_rfl) ?_
        refine LL.op (.bool true) (by kernel_rfl) (fun w _ => by kernel_rfl) ?_
        refine LL.op (.bool true) (by kernel_rfl) (fun w _ => by kernel_rfl) ?_
        refine LL.off (by kernel_rfl) (by kernel_rfl) ?_
        refine LL.off (by kernel_rfl) (by kernel_rfl) ?_
        refine LL.op (.bool true) (by kernel_rfl) (fun w _ => by kernel_rfl) ?_
        refine LL.done (s' := [(0, .slice Aa0 a0.length ca0), (6, .bool false), (7, .slice A1317 y1316.length c1318), (8, .int .i64 (mn a2_0 a2_1)), (9, .int .i64 (mx a2_0 a2_1)), (40, .bool true)]) [0, 6, 7, 8, 9, 40] (by kernel_rfl) ?_
        refine NN.then ?_
        refine J.condT (b := true) rfl (by kernel_rfl) (by kernel_rfl) ?_
        refine J.seq ?_
        refine J.plain ?_
        obtain ⟨x1350, hx1350, H⟩ := bind_some H
        refine LL.call 30 #[] (.bool x1350) (by kernel_rfl) (fun w => by kernel_rfl) (fun w hw => sawmilllaw13_awake.calls K    _ w   hx1350) ?_
        refine LL.op (.bool x1350) (by kernel_rfl) (fun w _ => by kernel_rfl) ?_
        refine LL.done (s' := [(0, .slice Aa0 a0.length ca0), (6, .bool x1350), (7, .slice A1317 y1316.length c1318), (8, .int .i64 (mn a2_0 a2_1)), (9, .int .i64 (mx a2_0 a2_1))]) [0, 6, 7, 8, 9] (by kernel_rfl) ?_
        refine NN.then ?_
        refine J.ret ?_
        refine NN.then_ret ?_
        refine NN.fin1 6 (.bool x1350) (by kernel_rfl) (by kernel_rfl) (.inl rfl) (fun w hi => hi.ret ?_)
        first | (cases H; rfl) | (obtain rfl := Option.some.inj H; rfl) | (simp only [Option.some.injEq, Prod.mk.injEq] at H; obtain ⟨rfl⟩ := H; rfl)
  · skip
    refine HS.lit 26 1 #[(0, .tmp 17)] [.int .i64 a1_0, .int .i64 a1_1, .int .i64 a1_2, .int .i64 a1_3, .int .i64 a1_4, .int .i64 a1_5, .int .i64 a1_6] 41 ([(a1_0, a1_1, a1_2, a1_3, a1_4, a1_5, a1_6)] : List E41) rfl (by kernel_rfl) rfl (by kernel_rfl) ok41.len rfl rfl (fun _ h => h) (fun R1351 F1352 A1353 c1354 le1355 k1356 fr1357 => ?_)
    refine HH.all1 0 (by kernel_rfl) ?_
    refine HS.lit0 26 41 7 enc41 rfl (by kernel_rfl) rfl (by kernel_rfl) (fun _ h => (h).back le1355) (fun A1359 o1360 => ?_)
    refine HH.all1 2 (by kernel_rfl) ?_
    obtain ⟨y1362, hy1362, H⟩ := bind_some H
    refine HS.app (l2 := a0) (cap := 0) (c2 := ca0) [(g1249, cl [.int .i64 a2_0, .int .i64 a2_1] 62), (g1248, cl [.int .i64 a1_0, .int .i64 a1_1, .int .i64 a1_2, .int .i64 a1_3, .int .i64 a1_4, .int .i64 a1_5, .int .i64 a1_6] 41)] (.tmp 14) (.tmp 15) el26 ok41 o1360 (ha0.le le1355) hy1362 rfl (by kernel_rfl) rfl (by kernel_rfl) (by kernel_rfl) (fun _ h => (h).back le1355) (fun A1363 c1364 ba1365 o1366 => ?_)
    refine HH.all1 5 (by kernel_rfl) ?_
    obtain ⟨y1368, hy1368, H⟩ := bind_some H
    refine HS.app (l2 := ([(a1_0, a1_1, a1_2, a1_3, a1_4, a1_5, a1_6)] : List E41)) (cap := c1364) (c2 := c1354) [(g1249, cl [.int .i64 a2_0, .int .i64 a2_1] 62), (g1248, cl [.int .i64 a1_0, .int .i64 a1_1, .int .i64 a1_2, .int .i64 a1_3, .int .i64 a1_4, .int .i64 a1_5, .int .i64 a1_6] 41)] (.tmp 16) (.tmp 18) el26 ok41 o1366 k1356 hy1368 rfl (by kernel_rfl) rfl (by kernel_rfl) (by kernel_rfl) (fun _ h => (h).back le1355) (fun A1369 c1370 ba1371 o1372 => ?_)
    refine HH.take 6 (.slice A1369 y1368.length c1370) rfl (by kernel_rfl) (by kernel_rfl) (fun _ h => (h.sub (List.sublist_append_left _ _)).back le1355) (fun w _ => by kernel_rfl) ?_
    refine HH.done (s' := [(0, .slice Aa0 a0.length ca0), (5, .pointer (some ⟨g1249, 0, none⟩)), (6, .bool false), (7, .slice A1369 y1368.length c1370)]) [0, 5, 6, 7] (by kernel_rfl) (by kernel_rfl) ?_
    refine NN.then ?_
    refine J.seq ?_
    refine J.drawn follows (by kernel_rfl) ?_
    refine QQ.op (.pointer (some ⟨g1249, 0, none⟩)) (by kernel_rfl) (fun w _ => by kernel_rfl) ?_
    refine QQ.op (.int .i64 a2_0) (by kernel_rfl) (ld 0 g1249 0 rfl (by kernel_rfl) rfl (by kernel_rfl)) ?_
    refine QQ.op (.pointer (some ⟨g1249, 1, none⟩)) (by kernel_rfl) (fun w _ => by kernel_rfl) ?_
    refine QQ.op (.int .i64 a2_1) (by kernel_rfl) (ld 0 g1249 1 rfl (by kernel_rfl) rfl (by kernel_rfl)) ?_
    refine QQ.op (.int .i64 (mn a2_0 a2_1)) (by kernel_rfl) (fun w _ => by kernel_rfl) ?_
    refine QQ.op (.pointer (some ⟨g1249, 0, none⟩)) (by kernel_rfl) (fun w _ => by kernel_rfl) ?_
    refine QQ.op (.int .i64 a2_0) (by kernel_rfl) (ld 0 g1249 0 rfl (by kernel_rfl) rfl (by kernel_rfl)) ?_
    refine QQ.op (.pointer (some ⟨g1249, 1, none⟩)) (by kernel_rfl) (fun w _ => by kernel_rfl) ?_
    refine QQ.op (.int .i64 a2_1) (by kernel_rfl) (ld 0 g1249 1 rfl (by kernel_rfl) rfl (by kernel_rfl)) ?_
    refine QQ.op (.int .i64 (mx a2_0 a2_1)) (by kernel_rfl) (fun w _ => by kernel_rfl) ?_
    refine QQ.op (.int .i64 (mn a2_0 a2_1)) (by kernel_rfl) (fun w _ => by kernel_rfl) ?_
    refine QQ.op (.int .i64 (mx a2_0 a2_1)) (by kernel_rfl) (fun w _ => by kernel_rfl) ?_
    refine QQ.done (s' := [(0, .slice Aa0 a0.length ca0), (6, .bool false), (7, .slice A1369 y1368.length c1370), (8, .int .i64 (mn a2_0 a2_1)), (9, .int .i64 (mx a2_0 a2_1))]) [0, 6, 7, 8, 9] (by kernel_rfl) ?_
    refine NN.then ?_
    refine J.seq ?_
    refine J.seq ?_
    refine J.plain ?_
    refine LL.op (.slice A1369 y1368.length c1370) (by kernel_rfl) (fun w _ => by kernel_rfl) ?_
    refine LL.freeze (pre := [(g1249, cl [.int .i64 a2_0, .int .i64 a2_1] 62), (g1248, cl [.int .i64 a1_0, .int .i64 a1_1, .int .i64 a1_2, .int .i64 a1_3, .int .i64 a1_4, .int .i64 a1_5, .int .i64 a1_6] 41)]) ok41 o1372 (fun R1374 F1375 le1376 k1377 fr1378 => ?_)
    obtain ⟨x1379, hx1379, H⟩ := bind_some H
    refine LL.call 26 #[.slice A1369 y1368.length c1370] (.int .i64 x1379) (by kernel_rfl) (fun w => by kernel_rfl) (fun w hw => sawmillref13_Check.calls K y1368  _ _ _ w  (k1377.at hw) hx1379) ?_
    refine LL.op (.bool (!(x1379 == 0))) (by kernel_rfl) (fun w _ => by kernel_rfl) ?_
    refine LL.op (.bool (!(x1379 == 0))) (by kernel_rfl) (fun w _ => by kernel_rfl) ?_
    rcases Bool.eq_false_or_eq_true ((x1379 == 0)) with c1380 | c1380
    · rw [if_pos (eq_of_beq c1380)] at H
      refine LL.bool 33 (!(x1379 == 0)) false (by rw [show (!(x1379 == 0)) = !((x1379 == 0)) from rfl, c1380]; rfl) (by kernel_rfl) ?_
      refine LL.op (.int .i64 (mn a2_0 a2_1)) (by kernel_rfl) (fun w _ => by kernel_rfl) ?_
      refine LL.op (.bool (decide ((mn a2_0 a2_1) < 1))) (by kernel_rfl) (fun w _ => by kernel_rfl) ?_
      refine LL.op (.bool (decide ((mn a2_0 a2_1) < 1))) (by kernel_rfl) (fun w _ => by kernel_rfl) ?_
      refine LL.op (.bool (decide ((mn a2_0 a2_1) < 1))) (by kernel_rfl) (fun w _ => by kernel_rfl) ?_
      rcases Bool.eq_false_or_eq_true (decide ((mn a2_0 a2_1) < 1)) with c1381 | c1381
      · rw [if_pos (of_decide_eq_true c1381)] at H
        refine LL.bool 37 (decide ((mn a2_0 a2_1) < 1)) true c1381 (by kernel_rfl) ?_
        refine LL.off (by kernel_rfl) (by kernel_rfl) ?_
        refine LL.off (by kernel_rfl) (by kernel_rfl) ?_
        refine LL.op (.bool true) (by kernel_rfl) (fun w _ => by kernel_rfl) ?_
        refine LL.done (s' := [(0, .slice Aa0 a0.length ca0), (6, .bool false), (7, .slice A1369 y1368.length c1370), (8, .int .i64 (mn a2_0 a2_1)), (9, .int .i64 (mx a2_0 a2_1)), (40, .bool true)]) [0, 6, 7, 8, 9, 40] (by kernel_rfl) ?_
        refine NN.then ?_
        refine J.condT (b := true) rfl (by kernel_rfl) (by kernel_rfl) ?_
        refine J.seq ?_
        refine J.plain ?_
        obtain ⟨x1382, hx1382, H⟩ := bind_some H
        refine LL.call 30 #[] (.bool x1382) (by kernel_rfl) (fun w => by kernel_rfl) (fun w hw => sawmilllaw13_awake.calls K    _ w   hx1382) ?_
        refine LL.op (.bool x1382) (by kernel_rfl) (fun w _ => by kernel_rfl) ?_
        refine LL.done (s' := [(0, .slice Aa0 a0.length ca0), (6, .bool x1382), (7, .slice A1369 y1368.length c1370), (8, .int .i64 (mn a2_0 a2_1)), (9, .int .i64 (mx a2_0 a2_1))]) [0, 6, 7, 8, 9] (by kernel_rfl) ?_
        refine NN.then ?_
        refine J.ret ?_
        refine NN.then_ret ?_
        refine NN.fin1 6 (.bool x1382) (by kernel_rfl) (by kernel_rfl) (.inl rfl) (fun w hi => hi.ret ?_)
        first | (cases H; rfl) | (obtain rfl := Option.some.inj H; rfl) | (simp only [Option.some.injEq, Prod.mk.injEq] at H; obtain ⟨rfl⟩ := H; rfl)
      · rw [if_neg (of_decide_eq_false c1381)] at H
        refine LL.bool 37 (decide ((mn a2_0 a2_1) < 1)) false c1381 (by kernel_rfl) ?_
        refine LL.op (.int .i64 (mx a2_0 a2_1)) (by kernel_rfl) (fun w _ => by kernel_rfl) ?_
        refine LL.op (.bool (decide (20000 < (mx a2_0 a2_1)))) (by kernel_rfl) (fun w _ => by kernel_rfl) ?_
        refine LL.op (.bool (decide (20000 < (mx a2_0 a2_1)))) (by kernel_rfl) (fun w _ => by kernel_rfl) ?_
        refine LL.done (s' := [(0, .slice Aa0 a0.length ca0), (6, .bool false), (7, .slice A1369 y1368.length c1370), (8, .int .i64 (mn a2_0 a2_1)), (9, .int .i64 (mx a2_0 a2_1)), (40, .bool (decide (20000 < (mx a2_0 a2_1))))]) [0, 6, 7, 8, 9, 40] (by kernel_rfl) ?_
        refine NN.then ?_
        rcases Bool.eq_false_or_eq_true (decide (20000 < (mx a2_0 a2_1))) with c1383 | c1383
        · rw [if_pos (of_decide_eq_true c1383)] at H
          refine J.condT (b := decide (20000 < (mx a2_0 a2_1))) c1383 (by kernel_rfl) (by kernel_rfl) ?_
          refine J.seq ?_
          refine J.plain ?_
          obtain ⟨x1384, hx1384, H⟩ := bind_some H
          refine LL.call 30 #[] (.bool x1384) (by kernel_rfl) (fun w => by kernel_rfl) (fun w hw => sawmilllaw13_awake.calls K    _ w   hx1384) ?_
          refine LL.op (.bool x1384) (by kernel_rfl) (fun w _ => by kernel_rfl) ?_
          refine LL.done (s' := [(0, .slice Aa0 a0.length ca0), (6, .bool x1384), (7, .slice A1369 y1368.length c1370), (8, .int .i64 (mn a2_0 a2_1)), (9, .int .i64 (mx a2_0 a2_1))]) [0, 6, 7, 8, 9] (by kernel_rfl) ?_
          refine NN.then ?_
          refine J.ret ?_
          refine NN.then_ret ?_
          refine NN.fin1 6 (.bool x1384) (by kernel_rfl) (by kernel_rfl) (.inl rfl) (fun w hi => hi.ret ?_)
          first | (cases H; rfl) | (obtain rfl := Option.some.inj H; rfl) | (simp only [Option.some.injEq, Prod.mk.injEq] at H; obtain ⟨rfl⟩ := H; rfl)
        · rw [if_neg (of_decide_eq_false c1383)] at H
          refine J.condF (b := decide (20000 < (mx a2_0 a2_1))) c1383 (by kernel_rfl) (by kernel_rfl) ?_
          refine J.skip ?_
          refine NN.then ?_
          refine J.seq ?_
          refine J.plain ?_
          refine LL.op (.slice Aa0 a0.length ca0) (by kernel_rfl) (fun w _ => by kernel_rfl) ?_
          obtain ⟨x1385, hx1385, H⟩ := bind_some H
          refine LL.call 36 #[.slice Aa0 a0.length ca0, .int .i64 1] (.int .i64 x1385) (by kernel_rfl) (fun w => by kernel_rfl) (fun w hw => defect_Largest.calls K a0 1  _ _ _ w  (((ha0.le le1355).le le1376).at hw) hx1385) ?_
          refine LL.op (.slice Aa0 a0.length ca0) (by kernel_rfl) (fun w _ => by kernel_rfl) ?_
          obtain ⟨x1386, hx1386, H⟩ := bind_some H
          refine LL.call 36 #[.slice Aa0 a0.length ca0, .int .i64 2] (.int .i64 x1386) (by kernel_rfl) (fun w => by kernel_rfl) (fun w hw => defect_Largest.calls K a0 2  _ _ _ w  (((ha0.le le1355).le le1376).at hw) hx1386) ?_
          refine LL.op (.int .i64 (mx x1385 x1386)) (by kernel_rfl) (fun w _ => by kernel_rfl) ?_
          refine LL.op (.int .i64 0) (by kernel_rfl) (fun w _ => by kernel_rfl) ?_
          refine LL.op (.int .i64 (mx x1385 x1386)) (by kernel_rfl) (fun w _ => by kernel_rfl) ?_
          refine LL.done (s' := [(0, .slice Aa0 a0.length ca0), (6, .bool false), (7, .slice A1369 y1368.length c1370), (8, .int .i64 (mn a2_0 a2_1)), (9, .int .i64 (mx a2_0 a2_1)), (10, .int .i64 0), (11, .int .i64 (mx x1385 x1386))]) [0, 6, 7, 8, 9, 10, 11] (by kernel_rfl) ?_
          refine NN.then ?_
          refine J.seq ?_
          refine J.seq ?_
          refine J.plain ?_
          refine LL.op (.int .i64 0) (by kernel_rfl) (fun w _ => by kernel_rfl) ?_
          refine LL.done (s' := [(0, .slice Aa0 a0.length ca0), (6, .bool false), (7, .slice A1369 y1368.length c1370), (8, .int .i64 (mn a2_0 a2_1)), (9, .int .i64 (mx a2_0 a2_1)), (10, .int .i64 0), (11, .int .i64 (mx x1385 x1386)), (12, .int .i64 0)]) [0, 6, 7, 8, 9, 10, 11, 12] (by kernel_rfl) ?_
          refine NN.then ?_
          refine J.block ?_
          refine J.to [0, 6, 7, 8, 9, 10, 11, 12] (s' := [(0, .slice Aa0 a0.length ca0), (6, .bool false), (7, .slice A1369 y1368.length c1370), (8, .int .i64 (mn a2_0 a2_1)), (9, .int .i64 (mx a2_0 a2_1)), (10, .int .i64 0), (11, .int .i64 (mx x1385 x1386)), (12, .int .i64 0)]) (by kernel_rfl) ?_
          refine J.loop (fun n_ s_ bs_ => ∃ (x10l0 : Int) (x12l0 : Int), sawmilllaw13_DefectWindows.l0 K a0 a2_0 a2_1 y1368 x1385 x1386 n_ x10l0 x12l0 = some r1 ∧ s_ = [(0, .slice Aa0 a0.length ca0), (6, .bool false), (7, .slice A1369 y1368.length c1370), (8, .int .i64 (mn a2_0 a2_1)), (9, .int .i64 (mx a2_0 a2_1)), (10, .int .i64 x10l0), (11, .int .i64 (mx x1385 x1386)), (12, .int .i64 x12l0)] ∧ [(g1249, cl [.int .i64 a2_0, .int .i64 a2_1] 62), (g1248, cl [.int .i64 a1_0, .int .i64 a1_1, .int .i64 a1_2, .int .i64 a1_3, .int .i64 a1_4, .int .i64 a1_5, .int .i64 a1_6] 41)] = bs_) K ⟨0, 0, H, rfl, rfl⟩ ?_
          rintro (_ | n_) s_ bs_ ⟨x10l0, x12l0, H, rfl, rfl⟩
          · exact absurd H (by simp [sawmilllaw13_DefectWindows.l0])
          simp only [sawmilllaw13_DefectWindows.l0] at H
          refine J.seq ?_
          refine J.seq ?_
          refine J.plain ?_
          refine LL.op (.int .i64 x12l0) (by kernel_rfl) (fun w _ => by kernel_rfl) ?_
          refine LL.op (.slice Aa0 a0.length ca0) (by kernel_rfl) (fun w _ => by kernel_rfl) ?_
          refine LL.op (.int .i64 (a0.length : Int)) (by kernel_rfl) (fun w _ => by kernel_rfl) ?_
          refine LL.op (.bool (decide (x12l0 < (a0.length : Int)))) (by kernel_rfl) (fun w _ => by kernel_rfl) ?_
          refine LL.done (s' := [(0, .slice Aa0 a0.length ca0), (6, .bool false), (7, .slice A1369 y1368.length c1370), (8, .int .i64 (mn a2_0 a2_1)), (9, .int .i64 (mx a2_0 a2_1)), (10, .int .i64 x10l0), (11, .int .i64 (mx x1385 x1386)), (12, .int .i64 x12l0), (50, .bool (decide (x12l0 < (a0.length : Int))))]) [0, 6, 7, 8, 9, 10, 11, 12, 50] (by kernel_rfl) ?_
          refine NN.then ?_
          rcases Bool.eq_false_or_eq_true (decide (x12l0 < (a0.length : Int))) with c1388 | c1388
          · rw [if_pos (of_decide_eq_true c1388)] at H
            refine J.condT (b := decide (x12l0 < (a0.length : Int))) c1388 (by kernel_rfl) (by kernel_rfl) ?_
            refine J.skip ?_
            refine NN.then ?_
            refine J.seq ?_
            refine J.block ?_
            refine J.seq ?_
            refine J.plain ?_
            refine LL.op (.slice Aa0 a0.length ca0) (by kernel_rfl) (fun w _ => by kernel_rfl) ?_
            refine LL.op (.int .i64 x12l0) (by kernel_rfl) (fun w _ => by kernel_rfl) ?_
            obtain ⟨⟨e1389_1, e1389_2, e1389_3, e1389_4, e1389_5, e1389_6, e1389_7⟩, he1389, H⟩ := bind_some H
            (try dsimp only at H)
            refine LL.op (.pointer (rp Aa0 (x12l0.toNat * 7 + 0))) (by kernel_rfl) (idxR (cp := ca0) (ik := .i64) ((ha0.le le1355).le le1376) he1389 rfl (by kernel_rfl) (by kernel_rfl) (by kernel_rfl)) ?_
            refine LL.op (.pointer (rp Aa0 (x12l0.toNat * 7 + 0))) (by kernel_rfl) (fldR (b := x12l0.toNat * 7) (off := 0) (o1 := 0) (o2 := 0) ((ha0.le le1355).le le1376) he1389 rfl (by kernel_rfl) (by kernel_rfl) rfl) ?_
            refine LL.op (.int .i64 e1389_1) (by kernel_rfl) (ldR (off := 0) ((ha0.le le1355).le le1376) he1389 rfl (by kernel_rfl) (by kernel_rfl)) ?_
            refine LL.op (.bool (e1389_1 == 1)) (by kernel_rfl) (fun w _ => by kernel_rfl) ?_
            refine LL.op (.bool (e1389_1 == 1)) (by kernel_rfl) (fun w _ => by kernel_rfl) ?_
            rcases Bool.eq_false_or_eq_true ((e1389_1 == 1)) with c1390 | c1390
            · rw [if_pos (eq_of_beq c1390)] at H
              refine LL.bool 59 ((e1389_1 == 1)) true c1390 (by kernel_rfl) ?_
              refine LL.off (by kernel_rfl) (by kernel_rfl) ?_
              refine LL.off (by kernel_rfl) (by kernel_rfl) ?_
              refine LL.off (by kernel_rfl) (by kernel_rfl) ?_
              refine LL.off (by kernel_rfl) (by kernel_rfl) ?_
              refine LL.off (by kernel_rfl) (by kernel_rfl) ?_
              refine LL.off (by kernel_rfl) (by kernel_rfl) ?_
              refine LL.op (.bool true) (by kernel_rfl) (fun w _ => by kernel_rfl) ?_
              refine LL.done (s' := [(0, .slice Aa0 a0.length ca0), (6, .bool false), (7, .slice A1369 y1368.length c1370), (8, .int .i64 (mn a2_0 a2_1)), (9, .int .i64 (mx a2_0 a2_1)), (10, .int .i64 x10l0), (11, .int .i64 (mx x1385 x1386)), (12, .int .i64 x12l0), (66, .bool true)]) [0, 6, 7, 8, 9, 10, 11, 12, 66] (by kernel_rfl) ?_
              refine NN.then ?_
              refine J.condT (b := true) rfl (by kernel_rfl) (by kernel_rfl) ?_
              refine J.plain ?_
              refine LL.op (.int .i64 x10l0) (by kernel_rfl) (fun w _ => by kernel_rfl) ?_
              refine LL.op (.slice Aa0 a0.length ca0) (by kernel_rfl) (fun w _ => by kernel_rfl) ?_
              refine LL.op (.int .i64 x12l0) (by kernel_rfl) (fun w _ => by kernel_rfl) ?_
              refine LL.op (.pointer (rp Aa0 (x12l0.toNat * 7 + 0))) (by kernel_rfl) (idxR (cp := ca0) (ik := .i64) ((ha0.le le1355).le le1376) he1389 rfl (by kernel_rfl) (by kernel_rfl) (by kernel_rfl)) ?_
              refine LL.op (.agg #[.int .i64 e1389_1, .int .i64 e1389_2, .int .i64 e1389_3, .int .i64 e1389_4, .int .i64 e1389_5, .int .i64 e1389_6, .int .i64 e1389_7]) (by kernel_rfl) (ldR (off := 0) ((ha0.le le1355).le le1376) he1389 rfl (by kernel_rfl) (by kernel_rfl)) ?_
              obtain ⟨x1391, hx1391, H⟩ := bind_some H
              refine LL.call 31 #[.agg #[.int .i64 e1389_1, .int .i64 e1389_2, .int .i64 e1389_3, .int .i64 e1389_4, .int .i64 e1389_5, .int .i64 e1389_6, .int .i64 e1389_7]] (.int .i64 x1391) (by kernel_rfl) (fun w => by kernel_rfl) (fun w hw => defect_Size.calls e1389_1 e1389_2 e1389_3 e1389_4 e1389_5 e1389_6 e1389_7   _ w   hx1391) ?_
              refine LL.op (.int .i64 (IntKind.i64.wrap (x10l0 + x1391))) (by kernel_rfl) (fun w _ => by kernel_rfl) ?_
              refine LL.op (.int .i64 (IntKind.i64.wrap (x10l0 + x1391))) (by kernel_rfl) (fun w _ => by kernel_rfl) ?_
              refine LL.done (s' := [(0, .slice Aa0 a0.length ca0), (6, .bool false), (7, .slice A1369 y1368.length c1370), (8, .int .i64 (mn a2_0 a2_1)), (9, .int .i64 (mx a2_0 a2_1)), (10, .int .i64 (IntKind.i64.wrap (x10l0 + x1391))), (11, .int .i64 (mx x1385 x1386)), (12, .int .i64 x12l0)]) [0, 6, 7, 8, 9, 10, 11, 12] (by kernel_rfl) ?_
              refine NN.block_n ?_
              refine NN.then ?_
              refine J.plain ?_
              refine LL.op (.int .i64 x12l0) (by kernel_rfl) (fun w _ => by kernel_rfl) ?_
              refine LL.op (.int .i64 (IntKind.i64.wrap (x12l0 + 1))) (by kernel_rfl) (fun w _ => by kernel_rfl) ?_
              refine LL.op (.int .i64 (IntKind.i64.wrap (x12l0 + 1))) (by kernel_rfl) (fun w _ => by kernel_rfl) ?_
              refine LL.done (s' := [(0, .slice Aa0 a0.length ca0), (6, .bool false), (7, .slice A1369 y1368.length c1370), (8, .int .i64 (mn a2_0 a2_1)), (9, .int .i64 (mx a2_0 a2_1)), (10, .int .i64 (IntKind.i64.wrap (x10l0 + x1391))), (11, .int .i64 (mx x1385 x1386)), (12, .int .i64 (IntKind.i64.wrap (x12l0 + 1)))]) [0, 6, 7, 8, 9, 10, 11, 12] (by kernel_rfl) ?_
              exact NN.round' [0, 6, 7, 8, 9, 10, 11, 12] (bs' := [(g1249, cl [.int .i64 a2_0, .int .i64 a2_1] 62), (g1248, cl [.int .i64 a1_0, .int .i64 a1_1, .int .i64 a1_2, .int .i64 a1_3, .int .i64 a1_4, .int .i64 a1_5, .int .i64 a1_6] 41)]) (Nat.lt_succ_self _) (List.Sublist.refl _) (by kernel_rfl) ⟨IntKind.i64.wrap (x10l0 + x1391), IntKind.i64.wrap (x12l0 + 1), H, rfl, rfl⟩
            · rw [if_neg (nebf c1390)] at H
              refine LL.bool 59 ((e1389_1 == 1)) false c1390 (by kernel_rfl) ?_
              refine LL.op (.slice Aa0 a0.length ca0) (by kernel_rfl) (fun w _ => by kernel_rfl) ?_
              refine LL.op (.int .i64 x12l0) (by kernel_rfl) (fun w _ => by kernel_rfl) ?_
              refine LL.op (.pointer (rp Aa0 (x12l0.toNat * 7 + 0))) (by kernel_rfl) (idxR (cp := ca0) (ik := .i64) ((ha0.le le1355).le le1376) he1389 rfl (by kernel_rfl) (by kernel_rfl) (by kernel_rfl)) ?_
              refine LL.op (.pointer (rp Aa0 (x12l0.toNat * 7 + 0))) (by kernel_rfl) (fldR (b := x12l0.toNat * 7) (off := 0) (o1 := 0) (o2 := 0) ((ha0.le le1355).le le1376) he1389 rfl (by kernel_rfl) (by kernel_rfl) rfl) ?_
              refine LL.op (.int .i64 e1389_1) (by kernel_rfl) (ldR (off := 0) ((ha0.le le1355).le le1376) he1389 rfl (by kernel_rfl) (by kernel_rfl)) ?_
              refine LL.op (.bool (e1389_1 == 2)) (by kernel_rfl) (fun w _ => by kernel_rfl) ?_
              refine LL.op (.bool (e1389_1 == 2)) (by kernel_rfl) (fun w _ => by kernel_rfl) ?_
              refine LL.done (s' := [(0, .slice Aa0 a0.length ca0), (6, .bool false), (7, .slice A1369 y1368.length c1370), (8, .int .i64 (mn a2_0 a2_1)), (9, .int .i64 (mx a2_0 a2_1)), (10, .int .i64 x10l0), (11, .int .i64 (mx x1385 x1386)), (12, .int .i64 x12l0), (66, .bool (e1389_1 == 2))]) [0, 6, 7, 8, 9, 10, 11, 12, 66] (by kernel_rfl) ?_
              refine NN.then ?_
              rcases Bool.eq_false_or_eq_true ((e1389_1 == 2)) with c1392 | c1392
              · rw [if_pos (eq_of_beq c1392)] at H
                refine J.condT (b := (e1389_1 == 2)) c1392 (by kernel_rfl) (by kernel_rfl) ?_
                refine J.plain ?_
                refine LL.op (.int .i64 x10l0) (by kernel_rfl) (fun w _ => by kernel_rfl) ?_
                refine LL.op (.slice Aa0 a0.length ca0) (by kernel_rfl) (fun w _ => by kernel_rfl) ?_
                refine LL.op (.int .i64 x12l0) (by kernel_rfl) (fun w _ => by kernel_rfl) ?_
                refine LL.op (.pointer (rp Aa0 (x12l0.toNat * 7 + 0))) (by kernel_rfl) (idxR (cp := ca0) (ik := .i64) ((ha0.le le1355).le le1376) he1389 rfl (by kernel_rfl) (by kernel_rfl) (by kernel_rfl)) ?_
                refine LL.op (.agg #[.int .i64 e1389_1, .int .i64 e1389_2, .int .i64 e1389_3, .int .i64 e1389_4, .int .i64 e1389_5, .int .i64 e1389_6, .int .i64 e1389_7]) (by kernel_rfl) (ldR (off := 0) ((ha0.le le1355).le le1376) he1389 rfl (by kernel_rfl) (by kernel_rfl)) ?_
                obtain ⟨x1393, hx1393, H⟩ := bind_some H
                refine LL.call 31 #[.agg #[.int .i64 e1389_1, .int .i64 e1389_2, .int .i64 e1389_3, .int .i64 e1389_4, .int .i64 e1389_5, .int .i64 e1389_6, .int .i64 e1389_7]] (.int .i64 x1393) (by kernel_rfl) (fun w => by kernel_rfl) (fun w hw => defect_Size.calls e1389_1 e1389_2 e1389_3 e1389_4 e1389_5 e1389_6 e1389_7   _ w   hx1393) ?_
                refine LL.op (.int .i64 (IntKind.i64.wrap (x10l0 + x1393))) (by kernel_rfl) (fun w _ => by kernel_rfl) ?_
                refine LL.op (.int .i64 (IntKind.i64.wrap (x10l0 + x1393))) (by kernel_rfl) (fun w _ => by kernel_rfl) ?_
                refine LL.done (s' := [(0, .slice Aa0 a0.length ca0), (6, .bool false), (7, .slice A1369 y1368.length c1370), (8, .int .i64 (mn a2_0 a2_1)), (9, .int .i64 (mx a2_0 a2_1)), (10, .int .i64 (IntKind.i64.wrap (x10l0 + x1393))), (11, .int .i64 (mx x1385 x1386)), (12, .int .i64 x12l0)]) [0, 6, 7, 8, 9, 10, 11, 12] (by kernel_rfl) ?_
                refine NN.block_n ?_
                refine NN.then ?_
                refine J.plain ?_
                refine LL.op (.int .i64 x12l0) (by kernel_rfl) (fun w _ => by kernel_rfl) ?_
                refine LL.op (.int .i64 (IntKind.i64.wrap (x12l0 + 1))) (by kernel_rfl) (fun w _ => by kernel_rfl) ?_
                refine LL.op (.int .i64 (IntKind.i64.wrap (x12l0 + 1))) (by kernel_rfl) (fun w _ => by kernel_rfl) ?_
                refine LL.done (s' := [(0, .slice Aa0 a0.length ca0), (6, .bool false), (7, .slice A1369 y1368.length c1370), (8, .int .i64 (mn a2_0 a2_1)), (9, .int .i64 (mx a2_0 a2_1)), (10, .int .i64 (IntKind.i64.wrap (x10l0 + x1393))), (11, .int .i64 (mx x1385 x1386)), (12, .int .i64 (IntKind.i64.wrap (x12l0 + 1)))]) [0, 6, 7, 8, 9, 10, 11, 12] (by kernel_rfl) ?_
                exact NN.round' [0, 6, 7, 8, 9, 10, 11, 12] (bs' := [(g1249, cl [.int .i64 a2_0, .int .i64 a2_1] 62), (g1248, cl [.int .i64 a1_0, .int .i64 a1_1, .int .i64 a1_2, .int .i64 a1_3, .int .i64 a1_4, .int .i64 a1_5, .int .i64 a1_6] 41)]) (Nat.lt_succ_self _) (List.Sublist.refl _) (by kernel_rfl) ⟨IntKind.i64.wrap (x10l0 + x1393), IntKind.i64.wrap (x12l0 + 1), H, rfl, rfl⟩
              · rw [if_neg (nebf c1392)] at H
                refine J.condF (b := (e1389_1 == 2)) c1392 (by kernel_rfl) (by kernel_rfl) ?_
                refine J.skip ?_
                refine NN.block_n ?_
                refine NN.then ?_
                refine J.plain ?_
                refine LL.op (.int .i64 x12l0) (by kernel_rfl) (fun w _ => by kernel_rfl) ?_
                refine LL.op (.int .i64 (IntKind.i64.wrap (x12l0 + 1))) (by kernel_rfl) (fun w _ => by kernel_rfl) ?_
                refine LL.op (.int .i64 (IntKind.i64.wrap (x12l0 + 1))) (by kernel_rfl) (fun w _ => by kernel_rfl) ?_
                refine LL.done (s' := [(0, .slice Aa0 a0.length ca0), (6, .bool false), (7, .slice A1369 y1368.length c1370), (8, .int .i64 (mn a2_0 a2_1)), (9, .int .i64 (mx a2_0 a2_1)), (10, .int .i64 x10l0), (11, .int .i64 (mx x1385 x1386)), (12, .int .i64 (IntKind.i64.wrap (x12l0 + 1)))]) [0, 6, 7, 8, 9, 10, 11, 12] (by kernel_rfl) ?_
                exact NN.round' [0, 6, 7, 8, 9, 10, 11, 12] (bs' := [(g1249, cl [.int .i64 a2_0, .int .i64 a2_1] 62), (g1248, cl [.int .i64 a1_0, .int .i64 a1_1, .int .i64 a1_2, .int .i64 a1_3, .int .i64 a1_4, .int .i64 a1_5, .int .i64 a1_6] 41)]) (Nat.lt_succ_self _) (List.Sublist.refl _) (by kernel_rfl) ⟨x10l0, IntKind.i64.wrap (x12l0 + 1), H, rfl, rfl⟩
          · rw [if_neg (of_decide_eq_false c1388)] at H
            refine J.condF (b := decide (x12l0 < (a0.length : Int))) c1388 (by kernel_rfl) (by kernel_rfl) ?_
            refine J.exit ?_
            refine NN.then_exit ?_
            refine NN.then_exit ?_
            refine NN.block_same ?_
            refine NN.then ?_
            refine J.seq ?_
            refine J.plain ?_
            refine LL.op (.slice Aa0 a0.length ca0) (by kernel_rfl) (fun w _ => by kernel_rfl) ?_
            refine LL.op (.int .i64 (mn a2_0 a2_1)) (by kernel_rfl) (fun w _ => by kernel_rfl) ?_
            obtain ⟨x1394, hx1394, H⟩ := bind_some H
            refine LL.call 45 #[.slice Aa0 a0.length ca0, .int .i64 (mn a2_0 a2_1)] (.int .i64 x1394) (by kernel_rfl) (fun w => by kernel_rfl) (fun w hw => defect_Worst.calls K a0 (mn a2_0 a2_1)  _ _ _ w  (((ha0.le le1355).le le1376).at hw) hx1394) ?_
            refine LL.op (.int .i64 x1394) (by kernel_rfl) (fun w _ => by kernel_rfl) ?_
            refine LL.done (s' := [(0, .slice Aa0 a0.length ca0), (6, .bool false), (7, .slice A1369 y1368.length c1370), (8, .int .i64 (mn a2_0 a2_1)), (9, .int .i64 (mx a2_0 a2_1)), (10, .int .i64 x10l0), (11, .int .i64 (mx x1385 x1386)), (13, .int .i64 x1394)]) [0, 6, 7, 8, 9, 10, 11, 13] (by kernel_rfl) ?_
            refine NN.then ?_
            refine J.seq ?_
            refine J.plain ?_
            refine LL.op (.int .i64 (mx x1385 x1386)) (by kernel_rfl) (fun w _ => by kernel_rfl) ?_
            refine LL.op (.int .i64 x1394) (by kernel_rfl) (fun w _ => by kernel_rfl) ?_
            refine LL.op (.bool (decide ((mx x1385 x1386) ≤ x1394))) (by kernel_rfl) (fun w _ => by kernel_rfl) ?_
            refine LL.op (.bool (decide ((mx x1385 x1386) ≤ x1394))) (by kernel_rfl) (fun w _ => by kernel_rfl) ?_
            rcases Bool.eq_false_or_eq_true (decide ((mx x1385 x1386) ≤ x1394)) with c1395 | c1395
            · rw [if_pos (of_decide_eq_true c1395)] at H
              refine LL.bool 80 (decide ((mx x1385 x1386) ≤ x1394)) true c1395 (by kernel_rfl) ?_
              refine LL.op (.int .i64 x1394) (by kernel_rfl) (fun w _ => by kernel_rfl) ?_
              refine LL.op (.int .i64 x10l0) (by kernel_rfl) (fun w _ => by kernel_rfl) ?_
              refine LL.op (.bool (decide (x1394 ≤ x10l0))) (by kernel_rfl) (fun w _ => by kernel_rfl) ?_
              refine LL.op (.bool (decide (x1394 ≤ x10l0))) (by kernel_rfl) (fun w _ => by kernel_rfl) ?_
              refine LL.op (.bool (decide (x1394 ≤ x10l0))) (by kernel_rfl) (fun w _ => by kernel_rfl) ?_
              rcases Bool.eq_false_or_eq_true (decide (x1394 ≤ x10l0)) with c1396 | c1396
              · rw [if_pos (of_decide_eq_true c1396)] at H
                refine LL.bool 85 (decide (x1394 ≤ x10l0)) true c1396 (by kernel_rfl) ?_
                refine LL.op (.int .i64 x1394) (by kernel_rfl) (fun w _ => by kernel_rfl) ?_
                refine LL.op (.slice Aa0 a0.length ca0) (by kernel_rfl) (fun w _ => by kernel_rfl) ?_
                refine LL.op (.int .i64 (mx a2_0 a2_1)) (by kernel_rfl) (fun w _ => by kernel_rfl) ?_
                obtain ⟨x1397, hx1397, H⟩ := bind_some H
                refine LL.call 45 #[.slice Aa0 a0.length ca0, .int .i64 (mx a2_0 a2_1)] (.int .i64 x1397) (by kernel_rfl) (fun w => by kernel_rfl) (fun w hw => defect_Worst.calls K a0 (mx a2_0 a2_1)  _ _ _ w  (((ha0.le le1355).le le1376).at hw) hx1397) ?_
                refine LL.op (.bool (decide (x1394 ≤ x1397))) (by kernel_rfl) (fun w _ => by kernel_rfl) ?_
                refine LL.op (.bool (decide (x1394 ≤ x1397))) (by kernel_rfl) (fun w _ => by kernel_rfl) ?_
                refine LL.op (.bool (decide (x1394 ≤ x1397))) (by kernel_rfl) (fun w _ => by kernel_rfl) ?_
                rcases Bool.eq_false_or_eq_true (decide (x1394 ≤ x1397)) with c1398 | c1398
                · rw [if_pos (of_decide_eq_true c1398)] at H
                  refine LL.bool 92 (decide (x1394 ≤ x1397)) true c1398 (by kernel_rfl) ?_
                  refine LL.op (.int .i64 x1394) (by kernel_rfl) (fun w _ => by kernel_rfl) ?_
                  refine LL.op (.slice A1369 y1368.length c1370) (by kernel_rfl) (fun w _ => by kernel_rfl) ?_
                  refine LL.op (.int .i64 (mn a2_0 a2_1)) (by kernel_rfl) (fun w _ => by kernel_rfl) ?_
                  obtain ⟨x1399, hx1399, H⟩ := bind_some H
                  refine LL.call 45 #[.slice A1369 y1368.length c1370, .int .i64 (mn a2_0 a2_1)] (.int .i64 x1399) (by kernel_rfl) (fun w => by kernel_rfl) (fun w hw => defect_Worst.calls K y1368 (mn a2_0 a2_1)  _ _ _ w  (k1377.at hw) hx1399) ?_
                  refine LL.op (.bool (decide (x1394 ≤ x1399))) (by kernel_rfl) (fun w _ => by kernel_rfl) ?_
                  refine LL.op (.bool (decide (x1394 ≤ x1399))) (by kernel_rfl) (fun w _ => by kernel_rfl) ?_
                  refine LL.op (.bool (decide (x1394 ≤ x1399))) (by kernel_rfl) (fun w _ => by kernel_rfl) ?_
                  rcases Bool.eq_false_or_eq_true (decide (x1394 ≤ x1399)) with c1400 | c1400
                  · rw [if_pos (of_decide_eq_true c1400)] at H
                    refine LL.bool 99 (decide (x1394 ≤ x1399)) true c1400 (by kernel_rfl) ?_
                    obtain ⟨x1401, hx1401, H⟩ := bind_some H
                    refine LL.call 30 #[] (.bool x1401) (by kernel_rfl) (fun w => by kernel_rfl) (fun w hw => sawmilllaw13_awake.calls K    _ w   hx1401) ?_
                    refine LL.op (.bool x1401) (by kernel_rfl) (fun w _ => by kernel_rfl) ?_
                    refine LL.op (.bool x1401) (by kernel_rfl) (fun w _ => by kernel_rfl) ?_
                    refine LL.done (s' := [(6, .bool x1401)]) [6] (by kernel_rfl) ?_
                    refine NN.then ?_
                    refine J.ret ?_
                    refine NN.fin1 6 (.bool x1401) (by kernel_rfl) (by kernel_rfl) (.inl rfl) (fun w hi => hi.ret ?_)
                    first | (cases H; rfl) | (obtain rfl := Option.some.inj H; rfl) | (simp only [Option.some.injEq, Prod.mk.injEq] at H; obtain ⟨rfl⟩ := H; rfl)
                  · rw [if_neg (of_decide_eq_false c1400)] at H
                    refine LL.bool 99 (decide (x1394 ≤ x1399)) false c1400 (by kernel_rfl) ?_
                    refine LL.off (by kernel_rfl) (by kernel_rfl) ?_
                    refine LL.op (.bool false) (by kernel_rfl) (fun w _ => by kernel_rfl) ?_
                    refine LL.op (.bool false) (by kernel_rfl) (fun w _ => by kernel_rfl) ?_
                    refine LL.done (s' := [(6, .bool false)]) [6] (by kernel_rfl) ?_
                    refine NN.then ?_
                    refine J.ret ?_
                    refine NN.fin1 6 (.bool false) (by kernel_rfl) (by kernel_rfl) (.inl rfl) (fun w hi => hi.ret ?_)
                    first | (cases H; rfl) | (obtain rfl := Option.some.inj H; rfl) | (simp only [Option.some.injEq, Prod.mk.injEq] at H; obtain ⟨rfl⟩ := H; rfl)
                · rw [if_neg (of_decide_eq_false c1398)] at H
                  refine LL.bool 92 (decide (x1394 ≤ x1397)) false c1398 (by kernel_rfl) ?_
                  refine LL.off (by kernel_rfl) (by kernel_rfl) ?_
                  refine LL.off (by kernel_rfl) (by kernel_rfl) ?_
                  refine LL.off (by kernel_rfl) (by kernel_rfl) ?_
                  refine LL.off (by kernel_rfl) (by kernel_rfl) ?_
                  refine LL.off (by kernel_rfl) (by kernel_rfl) ?_
                  refine LL.op (.bool false) (by kernel_rfl) (fun w _ => by kernel_rfl) ?_
                  refine LL.op (.bool false) (by kernel_rfl) (fun w _ => by kernel_rfl) ?_
                  refine LL.off (by kernel_rfl) (by kernel_rfl) ?_
                  refine LL.op (.bool false) (by kernel_rfl) (fun w _ => by kernel_rfl) ?_
                  refine LL.op (.bool false) (by kernel_rfl) (fun w _ => by kernel_rfl) ?_
                  refine LL.done (s' := [(6, .bool false)]) [6] (by kernel_rfl) ?_
                  refine NN.then ?_
                  refine J.ret ?_
                  refine NN.fin1 6 (.bool false) (by kernel_rfl) (by kernel_rfl) (.inl rfl) (fun w hi => hi.ret ?_)
                  first | (cases H; rfl) | (obtain rfl := Option.some.inj H; rfl) | (simp only [Option.some.injEq, Prod.mk.injEq] at H; obtain ⟨rfl⟩ := H; rfl)
              · rw [if_neg (of_decide_eq_false c1396)] at H
                refine LL.bool 85 (decide (x1394 ≤ x10l0)) false c1396 (by kernel_rfl) ?_
                refine LL.off (by kernel_rfl) (by kernel_rfl) ?_
                refine LL.off (by kernel_rfl) (by kernel_rfl) ?_
                refine LL.off (by kernel_rfl) (by kernel_rfl) ?_
                refine LL.off (by kernel_rfl) (by kernel_rfl) ?_
                refine LL.off (by kernel_rfl) (by kernel_rfl) ?_
                refine LL.op (.bool false) (by kernel_rfl) (fun w _ => by kernel_rfl) ?_
                refine LL.op (.bool false) (by kernel_rfl) (fun w _ => by kernel_rfl) ?_
                refine LL.off (by kernel_rfl) (by kernel_rfl) ?_
                refine LL.off (by kernel_rfl) (by kernel_rfl) ?_
                refine LL.off (by kernel_rfl) (by kernel_rfl) ?_
                refine LL.off (by kernel_rfl) (by kernel_rfl) ?_
                refine LL.off (by kernel_rfl) (by kernel_rfl) ?_
                refine LL.op (.bool false) (by kernel_rfl) (fun w _ => by kernel_rfl) ?_
                refine LL.op (.bool false) (by kernel_rfl) (fun w _ => by kernel_rfl) ?_
                refine LL.off (by kernel_rfl) (by kernel_rfl) ?_
                refine LL.op (.bool false) (by kernel_rfl) (fun w _ => by kernel_rfl) ?_
                refine LL.op (.bool false) (by kernel_rfl) (fun w _ => by kernel_rfl) ?_
                refine LL.done (s' := [(6, .bool false)]) [6] (by kernel_rfl) ?_
                refine NN.then ?_
                refine J.ret ?_
                refine NN.fin1 6 (.bool false) (by kernel_rfl) (by kernel_rfl) (.inl rfl) (fun w hi => hi.ret ?_)
                first | (cases H; rfl) | (obtain rfl := Option.some.inj H; rfl) | (simp only [Option.some.injEq, Prod.mk.injEq] at H; obtain ⟨rfl⟩ := H; rfl)
            · rw [if_neg (of_decide_eq_false c1395)] at H
              refine LL.bool 80 (decide ((mx x1385 x1386) ≤ x1394)) false c1395 (by kernel_rfl) ?_
              refine LL.off (by kernel_rfl) (by kernel_rfl) ?_
              refine LL.off (by kernel_rfl) (by kernel_rfl) ?_
              refine LL.off (by kernel_rfl) (by kernel_rfl) ?_
              refine LL.op (.bool false) (by kernel_rfl) (fun w _ => by kernel_rfl) ?_
              refine LL.op (.bool false) (by kernel_rfl) (fun w _ => by kernel_rfl) ?_
              refine LL.off (by kernel_rfl) (by kernel_rfl) ?_
              refine LL.off (by kernel_rfl) (by kernel_rfl) ?_
              refine LL.off (by kernel_rfl) (by kernel_rfl) ?_
              refine LL.off (by kernel_rfl) (by kernel_rfl) ?_
              refine LL.off (by kernel_rfl) (by kernel_rfl) ?_
              refine LL.op (.bool false) (by kernel_rfl) (fun w _ => by kernel_rfl) ?_
              refine LL.op (.bool false) (by kernel_rfl) (fun w _ => by kernel_rfl) ?_
              refine LL.off (by kernel_rfl) (by kernel_rfl) ?_
              refine LL.off (by kernel_rfl) (by kernel_rfl) ?_
              refine LL.off (by kernel_rfl) (by kernel_rfl) ?_
              refine LL.off (by kernel_rfl) (by kernel_rfl) ?_
              refine LL.off (by kernel_rfl) (by kernel_rfl) ?_
              refine LL.op (.bool false) (by kernel_rfl) (fun w _ => by kernel_rfl) ?_
              refine LL.op (.bool false) (by kernel_rfl) (fun w _ => by kernel_rfl) ?_
              refine LL.off (by kernel_rfl) (by kernel_rfl) ?_
              refine LL.op (.bool false) (by kernel_rfl) (fun w _ => by kernel_rfl) ?_
              refine LL.op (.bool false) (by kernel_rfl) (fun w _ => by kernel_rfl) ?_
              refine LL.done (s' := [(6, .bool false)]) [6] (by kernel_rfl) ?_
              refine NN.then ?_
              refine J.ret ?_
              refine NN.fin1 6 (.bool false) (by kernel_rfl) (by kernel_rfl) (.inl rfl) (fun w hi => hi.ret ?_)
              first | (cases H; rfl) | (obtain rfl := Option.some.inj H; rfl) | (simp only [Option.some.injEq, Prod.mk.injEq] at H; obtain ⟨rfl⟩ := H; rfl)
    · rw [if_neg (nebf c1380)] at H
      refine LL.bool 33 (!(x1379 == 0)) true (by rw [show (!(x1379 == 0)) = !((x1379 == 0)) from rfl, c1380]; rfl) (by kernel_rfl) ?_
      refine LL.off (by kernel_rfl) (by kernel_rfl) ?_
      refine LL.off (by kernel_rfl) (by kernel_rfl) ?_
      refine LL.op (.bool true) (by kernel_rfl) (fun w _ => by kernel_rfl) ?_
      refine LL.op (.bool true) (by kernel_rfl) (fun w _ => by kernel_rfl) ?_
      refine LL.off (by kernel_rfl) (by kernel_rfl) ?_
      refine LL.off (by kernel_rfl) (by kernel_rfl) ?_
      refine LL.op (.bool true) (by kernel_rfl) (fun w _ => by kernel_rfl) ?_
      refine LL.done (s' := [(0, .slice Aa0 a0.length ca0), (6, .bool false), (7, .slice A1369 y1368.length c1370), (8, .int .i64 (mn a2_0 a2_1)), (9, .int .i64 (mx a2_0 a2_1)), (40, .bool true)]) [0, 6, 7, 8, 9, 40] (by kernel_rfl) ?_
      refine NN.then ?_
      refine J.condT (b := true) rfl (by kernel_rfl) (by kernel_rfl) ?_
      refine J.seq ?_
      refine J.plain ?_
      obtain ⟨x1402, hx1402, H⟩ := bind_some H
      refine LL.call 30 #[] (.bool x1402) (by kernel_rfl) (fun w => by kernel_rfl) (fun w hw => sawmilllaw13_awake.calls K    _ w   hx1402) ?_
      refine LL.op (.bool x1402) (by kernel_rfl) (fun w _ => by kernel_rfl) ?_
      refine LL.done (s' := [(0, .slice Aa0 a0.length ca0), (6, .bool x1402), (7, .slice A1369 y1368.length c1370), (8, .int .i64 (mn a2_0 a2_1)), (9, .int .i64 (mx a2_0 a2_1))]) [0, 6, 7, 8, 9] (by kernel_rfl) ?_
      refine NN.then ?_
      refine J.ret ?_
      refine NN.then_ret ?_
      refine NN.fin1 6 (.bool x1402) (by kernel_rfl) (by kernel_rfl) (.inl rfl) (fun w hi => hi.ret ?_)
      first | (cases H; rfl) | (obtain rfl := Option.some.inj H; rfl) | (simp only [Option.some.injEq, Prod.mk.injEq] at H; obtain ⟨rfl⟩ := H; rfl)

end Go.Proofs.Ytfjbhmpnmpphoaa
