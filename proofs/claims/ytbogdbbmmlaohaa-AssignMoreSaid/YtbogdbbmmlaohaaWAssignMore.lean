/- Walks of functions of the seat: each call does what the Lean function of the same name says. Printed by the session's own program absgen.py. -/
import Derived.Test.YtbogdbbmmlaohaaF2
namespace Go.Proofs.Ytbogdbbmmlaohaa
open Go.Saw
set_option linter.unusedVariables false
set_option linter.unusedSimpArgs false

/-! ### sawmilllaw48_AssignMore: function 8 -/
def sawmilllaw48_AssignMore.l0 (K : Nat) (a0_0 : List (List E4)) (a0_2 : List E3) (a1 : List E4) (a2 : Int) (x1182_1 : List E3) : Nat → List (List E4) → Int → Option (Bool)
  | 0, _, _ => none
  | k + 1, x9l0, x10l0 => if x10l0 < (a0_0.length : Int) then ((idx a0_0 x10l0).bind fun e1198 => ((app 1 ([] : List E4) e1198).bind fun y1204 => (if x10l0 < (a1.length : Int) then ((idx a1 x10l0).bind fun e1211 => ((app 1 y1204 ([e1211] : List E4)).bind fun y1220 => ((app 24 x9l0 ([y1220] : List (List E4))).bind fun y1240 => (sawmilllaw48_AssignMore.l0 K a0_0 a0_2 a1 a2 x1182_1 k y1240 (IntKind.i64.wrap (x10l0 + 1)))))) else ((app 1 y1204 ([false] : List E4)).bind fun y1254 => ((app 24 x9l0 ([y1254] : List (List E4))).bind fun y1274 => (sawmilllaw48_AssignMore.l0 K a0_0 a0_2 a1 a2 x1182_1 k y1274 (IntKind.i64.wrap (x10l0 + 1)))))))) else ((assign_Counts.f K x9l0 a0_2).bind fun bx1285 => ((app 8 ([] : List E3) a0_2).bind fun y1296 => (if (y1296.length : Int) = 0 then (none) else ((idx y1296 (Int.tmod (IntKind.i64.wrap a2) (y1296.length : Int))).bind fun e1303 => ((assign_Counts.f K a0_0 (y1296.set (Int.tmod (IntKind.i64.wrap a2) (y1296.length : Int)).toNat (mn (IntKind.i64.wrap (e1303 + 1)) 200))).bind fun bx1311 => (if bx1285.2 = 0 then (if bx1311.2 = 0 then (if (bx1285.1.length : Int) = (x1182_1.length : Int) then (if (bx1311.1.length : Int) = (x1182_1.length : Int) then ((sawmilllaw48_better.f K x1182_1 bx1285.1).bind fun x1323 => (if x1323 = true then (some false) else ((sawmilllaw48_better.f K x1182_1 bx1311.1).bind fun x1325 => (if x1325 = true then (some false) else ((sawmilllaw48_awake.f K ).bind fun x1327 => (some x1327)))))) else (some false)) else (some false)) else (some false)) else (some false)))))))
def sawmilllaw48_AssignMore.f (K : Nat) (a0_0 : List (List E4)) (a0_1 : List E3) (a0_2 : List E3) (a1 : List E4) (a2 : Int) : Option (Bool) := (sawmilllaw48_small.f K a0_0).bind fun x1166 => (if x1166 = true then (if 50 < (a0_2.length : Int) then ((sawmilllaw48_awake.f K ).bind fun x1169 => (some x1169)) else (if 50 < (a1.length : Int) then ((sawmilllaw48_awake.f K ).bind fun x1171 => (some x1171)) else (if (a0_0.length : Int) = 0 then ((sawmilllaw48_awake.f K ).bind fun x1173 => (some x1173)) else ((idx a0_0 0).bind fun e1174 => (if 13 < (e1174.length : Int) then ((sawmilllaw48_awake.f K ).bind fun x1181 => (some x1181)) else ((assign_Counts.f K a0_0 a0_2).bind fun bx1182 => (if bx1182.2 = 0 then (if (a0_2.length : Int) = (a0_0.length : Int) then (sawmilllaw48_AssignMore.l0 K a0_0 a0_2 a1 a2 bx1182.1 K ([] : List (List E4)) 0) else (some false)) else (if (bx1182.1.length : Int) = 0 then ((sawmilllaw48_awake.f K ).bind fun x1329 => (some x1329)) else (some false))))))))) else ((sawmilllaw48_awake.f K ).bind fun x1330 => (some x1330)))
set_option maxRecDepth 100000 in
theorem sawmilllaw48_AssignMore.calls (K : Nat) (a0_0 : List (List E4)) (a0_1 : List E3) (a0_2 : List E3) (a1 : List E4) (a2 : Int)  (Aa0_0 : Option Addr) (ca0_0 : Nat) (Aa0_1 : Option Addr) (ca0_1 : Nat) (Aa0_2 : Option Addr) (ca0_2 : Nat) (Aa1 : Option Addr) (ca1 : Nat)  (r1 : Bool) (w : World)   (ha0_0 : KRow2 (Cx.start w) enc4 1 a0_0 Aa0_0) (ha0_1 : KRow (Cx.start w) enc3 1 a0_1 Aa0_1) (ha0_2 : KRow (Cx.start w) enc3 1 a0_2 Aa0_2) (ha1 : KRow (Cx.start w) enc4 1 a1 Aa1) (h : sawmilllaw48_AssignMore.f K a0_0 a0_1 a0_2 a1 a2 = some r1) :
    Calls Try.prog 8 #[.agg #[.slice Aa0_0 a0_0.length ca0_0, .slice Aa0_1 a0_1.length ca0_1, .slice Aa0_2 a0_2.length ca0_2], .slice Aa1 a1.length ca1, .int .u8 a2] w (Ret w (.bool r1)) := by
  have H := h
  clear h
  unfold sawmilllaw48_AssignMore.f at H
  refine Go.Saw.calls (args := [.agg #[.slice Aa0_0 a0_0.length ca0_0, .slice Aa0_1 a0_1.length ca0_1, .slice Aa0_2 a0_2.length ca0_2], .slice Aa1 a1.length ca1, .int .u8 a2]) Try.func8 rfl Try.ntmps8 (by kernel_rfl) ?_
  refine J.seq ?_
  refine J.plain ?_
  refine LL.box 51 (.tmp 0) [.slice Aa0_0 a0_0.length ca0_0, .slice Aa0_1 a0_1.length ca0_1, .slice Aa0_2 a0_2.length ca0_2] (by kernel_rfl) rfl (by kernel_rfl) (fun g1165 => ?_)
  refine LL.op (.bool false) (by kernel_rfl) (fun w _ => by kernel_rfl) ?_
  refine LL.done (s' := [(1, .slice Aa1 a1.length ca1), (2, .int .u8 a2), (3, .pointer (some ⟨g1165, 0, none⟩)), (6, .bool false)]) [1, 2, 3, 6] (by kernel_rfl) ?_
  refine NN.then ?_
  refine J.seq ?_
  refine J.seq ?_
  refine J.plain ?_
  refine LL.op (.pointer (some ⟨g1165, 0, none⟩)) (by kernel_rfl) (fun w _ => by kernel_rfl) ?_
  refine LL.op (.slice Aa0_0 a0_0.length ca0_0) (by kernel_rfl) (ld 0 g1165 0 rfl (by kernel_rfl) rfl (by kernel_rfl)) ?_
  obtain ⟨x1166, hx1166, H⟩ := bind_some H
  refine LL.call 20 #[.slice Aa0_0 a0_0.length ca0_0] (.bool x1166) (by kernel_rfl) (fun w => by kernel_rfl) (fun w hw => sawmilllaw48_small.calls K a0_0  _ _ _ w  (ha0_0.at hw) hx1166) ?_
  refine LL.op (.bool (!x1166)) (by kernel_rfl) (fun w _ => by kernel_rfl) ?_
  refine LL.op (.bool (!x1166)) (by kernel_rfl) (fun w _ => by kernel_rfl) ?_
  rcases Bool.eq_false_or_eq_true (x1166) with c1167 | c1167
  · rw [if_pos (c1167)] at H
    refine LL.bool 21 (!x1166) false (by rw [show (!x1166) = !(x1166) from rfl, c1167]; rfl) (by kernel_rfl) ?_
    refine LL.op (.pointer (some ⟨g1165, 2, none⟩)) (by kernel_rfl) (fun w _ => by kernel_rfl) ?_
    refine LL.op (.slice Aa0_2 a0_2.length ca0_2) (by kernel_rfl) (ld 0 g1165 2 rfl (by kernel_rfl) rfl (by kernel_rfl)) ?_
    refine LL.op (.int .i64 (a0_2.length : Int)) (by kernel_rfl) (fun w _ => by kernel_rfl) ?_
    refine LL.op (.bool (decide (50 < (a0_2.length : Int)))) (by kernel_rfl) (fun w _ => by kernel_rfl) ?_
    refine LL.op (.bool (decide (50 < (a0_2.length : Int)))) (by kernel_rfl) (fun w _ => by kernel_rfl) ?_
    refine LL.op (.bool (decide (50 < (a0_2.length : Int)))) (by kernel_rfl) (fun w _ => by kernel_rfl) ?_
    rcases Bool.eq_false_or_eq_true (decide (50 < (a0_2.length : Int))) with c1168 | c1168
    · rw [if_pos (of_decide_eq_true c1168)] at H
      refine LL.bool 27 (decide (50 < (a0_2.length : Int))) true c1168 (by kernel_rfl) ?_
      refine LL.off (by kernel_rfl) (by kernel_rfl) ?_
      refine LL.off (by kernel_rfl) (by kernel_rfl) ?_
      refine LL.off (by kernel_rfl) (by kernel_rfl) ?_
      refine LL.op (.bool true) (by kernel_rfl) (fun w _ => by kernel_rfl) ?_
      refine LL.op (.bool true) (by kernel_rfl) (fun w _ => by kernel_rfl) ?_
      refine LL.off (by kernel_rfl) (by kernel_rfl) ?_
      refine LL.off (by kernel_rfl) (by kernel_rfl) ?_
      refine LL.off (by kernel_rfl) (by kernel_rfl) ?_
      refine LL.off (by kernel_rfl) (by kernel_rfl) ?_
      refine LL.op (.bool true) (by kernel_rfl) (fun w _ => by kernel_rfl) ?_
      refine LL.op (.bool true) (by kernel_rfl) (fun w _ => by kernel_rfl) ?_
      refine LL.off (by kernel_rfl) (by kernel_rfl) ?_
      refine LL.off (by kernel_rfl) (by kernel_rfl) ?_
      refine LL.off (by kernel_rfl) (by kernel_rfl) ?_
      refine LL.off (by kernel_rfl) (by kernel_rfl) ?_
      refine LL.off (by kernel_rfl) (by kernel_rfl) ?_
      refine LL.off (by kernel_rfl) (by kernel_rfl) ?_
      refine LL.op (.bool true) (by kernel_rfl) (fun w _ => by kernel_rfl) ?_
      refine LL.done (s' := [(1, .slice Aa1 a1.length ca1), (2, .int .u8 a2), (3, .pointer (some ⟨g1165, 0, none⟩)), (6, .bool false), (45, .bool true)]) [1, 2, 3, 6, 45] (by kernel_rfl) ?_
      refine NN.then ?_
      refine J.condT (b := true) rfl (by kernel_rfl) (by kernel_rfl) ?_
      refine J.seq ?_
      refine J.plain ?_
      obtain ⟨x1169, hx1169, H⟩ := bind_some H
      refine LL.call 18 #[] (.bool x1169) (by kernel_rfl) (fun w => by kernel_rfl) (fun w hw => sawmilllaw48_awake.calls K    _ w   hx1169) ?_
      refine LL.op (.bool x1169) (by kernel_rfl) (fun w _ => by kernel_rfl) ?_
      refine LL.done (s' := [(1, .slice Aa1 a1.length ca1), (2, .int .u8 a2), (3, .pointer (some ⟨g1165, 0, none⟩)), (6, .bool x1169)]) [1, 2, 3, 6] (by kernel_rfl) ?_
      refine NN.then ?_
      refine J.ret ?_
      refine NN.then_ret ?_
      refine NN.fin1 6 (.bool x1169) (by kernel_rfl) (by kernel_rfl) (.inl rfl) (fun w hi => hi.ret ?_)
      first | (cases H; rfl) | (obtain rfl := Option.some.inj H; rfl) | (simp only [Option.some.injEq, Prod.mk.injEq] at H; obtain ⟨rfl⟩ := H; rfl)
    · rw [if_neg (of_decide_eq_false c1168)] at H
      refine LL.bool 27 (decide (50 < (a0_2.length : Int))) false c1168 (by kernel_rfl) ?_
      refine LL.op (.slice Aa1 a1.length ca1) (by kernel_rfl) (fun w _ => by kernel_rfl) ?_
      refine LL.op (.int .i64 (a1.length : Int)) (by kernel_rfl) (fun w _ => by kernel_rfl) ?_
      refine LL.op (.bool (decide (50 < (a1.length : Int)))) (by kernel_rfl) (fun w _ => by kernel_rfl) ?_
      refine LL.op (.bool (decide (50 < (a1.length : Int)))) (by kernel_rfl) (fun w _ => by kernel_rfl) ?_
      refine LL.op (.bool (decide (50 < (a1.length : Int)))) (by kernel_rfl) (fun w _ => by kernel_rfl) ?_
      rcases Bool.eq_false_or_eq_true (decide (50 < (a1.length : Int))) with c1170 | c1170
      · rw [if_pos (of_decide_eq_true c1170)] at H
        refine LL.bool 32 (decide (50 < (a1.length : Int))) true c1170 (by kernel_rfl) ?_
        refine LL.off (by kernel_rfl) (by kernel_rfl) ?_
        refine LL.off (by kernel_rfl) (by kernel_rfl) ?_
        refine LL.off (by kernel_rfl) (by kernel_rfl) ?_
        refine LL.off (by kernel_rfl) (by kernel_rfl) ?_
        refine LL.op (.bool true) (by kernel_rfl) (fun w _ => by kernel_rfl) ?_
        refine LL.op (.bool true) (by kernel_rfl) (fun w _ => by kernel_rfl) ?_
        refine LL.off (by kernel_rfl) (by kernel_rfl) ?_
        refine LL.off (by kernel_rfl) (by kernel_rfl) ?_
        refine LL.off (by kernel_rfl) (by kernel_rfl) ?_
        refine LL.off (by kernel_rfl) (by kernel_rfl) ?_
        refine LL.off (by kernel_rfl) (by kernel_rfl) ?_
        refine LL.off (by kernel_rfl) (by kernel_rfl) ?_
        refine LL.op (.bool true) (by kernel_rfl) (fun w _ => by kernel_rfl) ?_
        refine LL.done (s' := [(1, .slice Aa1 a1.length ca1), (2, .int .u8 a2), (3, .pointer (some ⟨g1165, 0, none⟩)), (6, .bool false), (45, .bool true)]) [1, 2, 3, 6, 45] (by kernel_rfl) ?_
        refine NN.then ?_
        refine J.condT (b := true) rfl (by kernel_rfl) (by kernel_rfl) ?_
        refine J.seq ?_
        refine J.plain ?_
        obtain ⟨x1171, hx1171, H⟩ := bind_some H
        refine LL.call 18 #[] (.bool x1171) (by kernel_rfl) (fun w => by kernel_rfl) (fun w hw => sawmilllaw48_awake.calls K    _ w   hx1171) ?_
        refine LL.op (.bool x1171) (by kernel_rfl) (fun w _ => by kernel_rfl) ?_
        refine LL.done (s' := [(1, .slice Aa1 a1.length ca1), (2, .int .u8 a2), (3, .pointer (some ⟨g1165, 0, none⟩)), (6, .bool x1171)]) [1, 2, 3, 6] (by kernel_rfl) ?_
        refine NN.then ?_
        refine J.ret ?_
        refine NN.then_ret ?_
        refine NN.fin1 6 (.bool x1171) (by kernel_rfl) (by kernel_rfl) (.inl rfl) (fun w hi => hi.ret ?_)
        first | (cases H; rfl) | (obtain rfl := Option.some.inj H; rfl) | (simp only [Option.some.injEq, Prod.mk.injEq] at H; obtain ⟨rfl⟩ := H; rfl)
      · rw [if_neg (of_decide_eq_false c1170)] at H
        refine LL.bool 32 (decide (50 < (a1.length : Int))) false c1170 (by kernel_rfl) ?_
        refine LL.op (.pointer (some ⟨g1165, 0, none⟩)) (by kernel_rfl) (fun w _ => by kernel_rfl) ?_
        refine LL.op (.slice Aa0_0 a0_0.length ca0_0) (by kernel_rfl) (ld 0 g1165 0 rfl (by kernel_rfl) rfl (by kernel_rfl)) ?_
        refine LL.op (.int .i64 (a0_0.length : Int)) (by kernel_rfl) (fun w _ => by kernel_rfl) ?_
        refine LL.op (.bool ((a0_0.length : Int) == 0)) (by kernel_rfl) (fun w _ => by kernel_rfl) ?_
        refine LL.op (.bool ((a0_0.length : Int) == 0)) (by kernel_rfl) (fun w _ => by kernel_rfl) ?_
        refine LL.op (.bool ((a0_0.length : Int) == 0)) (by kernel_rfl) (fun w _ => by kernel_rfl) ?_
        rcases Bool.eq_false_or_eq_true (((a0_0.length : Int) == 0)) with c1172 | c1172
        · rw [if_pos (eq_of_beq c1172)] at H
          refine LL.bool 38 (((a0_0.length : Int) == 0)) true c1172 (by kernel_rfl) ?_
          refine LL.off (by kernel_rfl) (by kernel_rfl) ?_
          refine LL.off (by kernel_rfl) (by kernel_rfl) ?_
          refine LL.off (by kernel_rfl) (by kernel_rfl) ?_
          refine LL.off (by kernel_rfl) (by kernel_rfl) ?_
          refine LL.off (by kernel_rfl) (by kernel_rfl) ?_
          refine LL.off (by kernel_rfl) (by kernel_rfl) ?_
          refine LL.op (.bool true) (by kernel_rfl) (fun w _ => by kernel_rfl) ?_
          refine LL.done (s' := [(1, .slice Aa1 a1.length ca1), (2, .int .u8 a2), (3, .pointer (some ⟨g1165, 0, none⟩)), (6, .bool false), (45, .bool true)]) [1, 2, 3, 6, 45] (by kernel_rfl) ?_
          refine NN.then ?_
          refine J.condT (b := true) rfl (by kernel_rfl) (by kernel_rfl) ?_
          refine J.seq ?_
          refine J.plain ?_
          obtain ⟨x1173, hx1173, H⟩ := bind_some H
          refine LL.call 18 #[] (.bool x1173) (by kernel_rfl) (fun w => by kernel_rfl) (fun w hw => sawmilllaw48_awake.calls K    _ w   hx1173) ?_
          refine LL.op (.bool x1173) (by kernel_rfl) (fun w _ => by kernel_rfl) ?_
          refine LL.done (s' := [(1, .slice Aa1 a1.length ca1), (2, .int .u8 a2), (3, .pointer (some ⟨g1165, 0, none⟩)), (6, .bool x1173)]) [1, 2, 3, 6] (by kernel_rfl) ?_
          refine NN.then ?_
          refine J.ret ?_
          refine NN.then_ret ?_
          refine NN.fin1 6 (.bool x1173) (by kernel_rfl) (by kernel_rfl) (.inl rfl) (fun w hi => hi.ret ?_)
          first | (cases H; rfl) | (obtain rfl := Option.some.inj H; rfl) | (simp only [Option.some.injEq, Prod.mk.injEq] at H; obtain ⟨rfl⟩ := H; rfl)
        · rw [if_neg (nebf c1172)] at H
          refine LL.bool 38 (((a0_0.length : Int) == 0)) false c1172 (by kernel_rfl) ?_
          refine LL.op (.pointer (some ⟨g1165, 0, none⟩)) (by kernel_rfl) (fun w _ => by kernel_rfl) ?_
          refine LL.op (.slice Aa0_0 a0_0.length ca0_0) (by kernel_rfl) (ld 0 g1165 0 rfl (by kernel_rfl) rfl (by kernel_rfl)) ?_
          obtain ⟨e1174, he1174, H⟩ := bind_some H
          refine LL.op (.pointer (rp Aa0_0 ((0 : Int).toNat * 1 + 0))) (by kernel_rfl) (idx2 (cp := ca0_0) (ik := .i64) ha0_0 he1174 rfl (by kernel_rfl) (by kernel_rfl) (by kernel_rfl)) ?_
          obtain ⟨A1175, c1176, k1177, ld1178⟩ := KRow2.row ha0_0 he1174
          refine LL.op (.slice A1175 e1174.length c1176) (by kernel_rfl) (ld1178 rfl (by kernel_rfl) (by kernel_rfl)) ?_
          refine LL.op (.int .i64 (e1174.length : Int)) (by kernel_rfl) (fun w _ => by kernel_rfl) ?_
          refine LL.op (.bool (decide (13 < (e1174.length : Int)))) (by kernel_rfl) (fun w _ => by kernel_rfl) ?_
          refine LL.op (.bool (decide (13 < (e1174.length : Int)))) (by kernel_rfl) (fun w _ => by kernel_rfl) ?_
          refine LL.done (s' := [(1, .slice Aa1 a1.length ca1), (2, .int .u8 a2), (3, .pointer (some ⟨g1165, 0, none⟩)), (6, .bool false), (45, .bool (decide (13 < (e1174.length : Int))))]) [1, 2, 3, 6, 45] (by kernel_rfl) ?_
          refine NN.then ?_
          rcases Bool.eq_false_or_eq_true (decide (13 < (e1174.length : Int))) with c1180 | c1180
          · rw [if_pos (of_decide_eq_true c1180)] at H
            refine J.condT (b := decide (13 < (e1174.length : Int))) c1180 (by kernel_rfl) (by kernel_rfl) ?_
            refine J.seq ?_
            refine J.plain ?_
            obtain ⟨x1181, hx1181, H⟩ := bind_some H
            refine LL.call 18 #[] (.bool x1181) (by kernel_rfl) (fun w => by kernel_rfl) (fun w hw => sawmilllaw48_awake.calls K    _ w   hx1181) ?_
            refine LL.op (.bool x1181) (by kernel_rfl) (fun w _ => by kernel_rfl) ?_
            refine LL.done (s' := [(1, .slice Aa1 a1.length ca1), (2, .int .u8 a2), (3, .pointer (some ⟨g1165, 0, none⟩)), (6, .bool x1181)]) [1, 2, 3, 6] (by kernel_rfl) ?_
            refine NN.then ?_
            refine J.ret ?_
            refine NN.then_ret ?_
            refine NN.fin1 6 (.bool x1181) (by kernel_rfl) (by kernel_rfl) (.inl rfl) (fun w hi => hi.ret ?_)
            first | (cases H; rfl) | (obtain rfl := Option.some.inj H; rfl) | (simp only [Option.some.injEq, Prod.mk.injEq] at H; obtain ⟨rfl⟩ := H; rfl)
          · rw [if_neg (of_decide_eq_false c1180)] at H
            refine J.condF (b := decide (13 < (e1174.length : Int))) c1180 (by kernel_rfl) (by kernel_rfl) ?_
            refine J.skip ?_
            refine NN.then ?_
            refine J.seq ?_
            refine J.plain ?_
            refine LL.op (.pointer (some ⟨g1165, 0, none⟩)) (by kernel_rfl) (fun w _ => by kernel_rfl) ?_
            refine LL.op (.slice Aa0_0 a0_0.length ca0_0) (by kernel_rfl) (ld 0 g1165 0 rfl (by kernel_rfl) rfl (by kernel_rfl)) ?_
            refine LL.op (.pointer (some ⟨g1165, 2, none⟩)) (by kernel_rfl) (fun w _ => by kernel_rfl) ?_
            refine LL.op (.slice Aa0_2 a0_2.length ca0_2) (by kernel_rfl) (ld 0 g1165 2 rfl (by kernel_rfl) rfl (by kernel_rfl)) ?_
            obtain ⟨⟨x1182_1, x1182_2⟩, hx1182, H⟩ := bind_some H
            (try dsimp only at H)
            refine LL.callR (enc := enc3) (m := 1) (l := x1182_1) 13 #[.slice Aa0_0 a0_0.length ca0_0, .slice Aa0_2 a0_2.length ca0_2] (fun A_ c_ => .tuple #[.slice A_ x1182_1.length c_, .int .i64 x1182_2]) (by kernel_rfl) (fun w => by kernel_rfl) (fun w hw => assign_Counts.calls K a0_0 a0_2  _ _ _ _ _ _ w  (ha0_0.at hw) (ha0_2.at hw) hx1182) (fun R1183 F1184 A1185 c1186 le1187 k1188 fr1189 => ?_)
            refine LL.op (.tuple #[.slice A1185 x1182_1.length c1186, .int .i64 x1182_2]) (by kernel_rfl) (fun w _ => by kernel_rfl) ?_
            refine LL.op (.slice A1185 x1182_1.length c1186) (by kernel_rfl) (fun w _ => by kernel_rfl) ?_
            refine LL.op (.int .i64 x1182_2) (by kernel_rfl) (fun w _ => by kernel_rfl) ?_
            refine LL.op (.slice A1185 x1182_1.length c1186) (by kernel_rfl) (fun w _ => by kernel_rfl) ?_
            refine LL.op (.int .i64 x1182_2) (by kernel_rfl) (fun w _ => by kernel_rfl) ?_
            refine LL.done (s' := [(1, .slice Aa1 a1.length ca1), (2, .int .u8 a2), (3, .pointer (some ⟨g1165, 0, none⟩)), (6, .bool false), (7, .slice A1185 x1182_1.length c1186), (8, .int .i64 x1182_2)]) [1, 2, 3, 6, 7, 8] (by kernel_rfl) ?_
            refine NN.then ?_
            refine J.seq ?_
            refine J.seq ?_
            refine J.plain ?_
            refine LL.op (.int .i64 x1182_2) (by kernel_rfl) (fun w _ => by kernel_rfl) ?_
            refine LL.op (.bool (!(x1182_2 == 0))) (by kernel_rfl) (fun w _ => by kernel_rfl) ?_
            refine LL.op (.bool (!(x1182_2 == 0))) (by kernel_rfl) (fun w _ => by kernel_rfl) ?_
            rcases Bool.eq_false_or_eq_true ((x1182_2 == 0)) with c1190 | c1190
            · rw [if_pos (eq_of_beq c1190)] at H
              refine LL.bool 57 (!(x1182_2 == 0)) false (by rw [show (!(x1182_2 == 0)) = !((x1182_2 == 0)) from rfl, c1190]; rfl) (by kernel_rfl) ?_
              refine LL.op (.pointer (some ⟨g1165, 2, none⟩)) (by kernel_rfl) (fun w _ => by kernel_rfl) ?_
              refine LL.op (.slice Aa0_2 a0_2.length ca0_2) (by kernel_rfl) (ld 0 g1165 2 rfl (by kernel_rfl) rfl (by kernel_rfl)) ?_
              refine LL.op (.int .i64 (a0_2.length : Int)) (by kernel_rfl) (fun w _ => by kernel_rfl) ?_
              refine LL.op (.pointer (some ⟨g1165, 0, none⟩)) (by kernel_rfl) (fun w _ => by kernel_rfl) ?_
              refine LL.op (.slice Aa0_0 a0_0.length ca0_0) (by kernel_rfl) (ld 0 g1165 0 rfl (by kernel_rfl) rfl (by kernel_rfl)) ?_
              refine LL.op (.int .i64 (a0_0.length : Int)) (by kernel_rfl) (fun w _ => by kernel_rfl) ?_
              refine LL.op (.bool (!((a0_2.length : Int) == (a0_0.length : Int)))) (by kernel_rfl) (fun w _ => by kernel_rfl) ?_
              refine LL.op (.bool (!((a0_2.length : Int) == (a0_0.length : Int)))) (by kernel_rfl) (fun w _ => by kernel_rfl) ?_
              refine LL.done (s' := [(1, .slice Aa1 a1.length ca1), (2, .int .u8 a2), (3, .pointer (some ⟨g1165, 0, none⟩)), (6, .bool false), (7, .slice A1185 x1182_1.length c1186), (8, .int .i64 x1182_2), (65, .bool (!((a0_2.length : Int) == (a0_0.length : Int))))]) [1, 2, 3, 6, 7, 8, 65] (by kernel_rfl) ?_
              refine NN.then ?_
              rcases Bool.eq_false_or_eq_true (((a0_2.length : Int) == (a0_0.length : Int))) with c1191 | c1191
              · rw [if_pos (eq_of_beq c1191)] at H
                refine J.condF (b := !((a0_2.length : Int) == (a0_0.length : Int))) (by rw [show (!((a0_2.length : Int) == (a0_0.length : Int))) = !(((a0_2.length : Int) == (a0_0.length : Int))) from rfl, c1191]; rfl) (by kernel_rfl) (by kernel_rfl) ?_
                refine J.skip ?_
                refine NN.then ?_
                refine J.seq ?_
                refine J.plain ?_
                refine LL.op (.slice none 0 0) (by kernel_rfl) (fun w _ => by kernel_rfl) ?_
                refine LL.done (s' := [(1, .slice Aa1 a1.length ca1), (2, .int .u8 a2), (3, .pointer (some ⟨g1165, 0, none⟩)), (6, .bool false), (7, .slice A1185 x1182_1.length c1186), (9, .slice none 0 0)]) [1, 2, 3, 6, 7, 9] (by kernel_rfl) ?_
                refine NN.then ?_
                refine J.seq ?_
                refine J.seq ?_
                refine J.plain ?_
                refine LL.op (.int .i64 0) (by kernel_rfl) (fun w _ => by kernel_rfl) ?_
                refine LL.done (s' := [(1, .slice Aa1 a1.length ca1), (2, .int .u8 a2), (3, .pointer (some ⟨g1165, 0, none⟩)), (6, .bool false), (7, .slice A1185 x1182_1.length c1186), (9, .slice none 0 0), (10, .int .i64 0)]) [1, 2, 3, 6, 7, 9, 10] (by kernel_rfl) ?_
                refine NN.then ?_
                refine J.block ?_
                refine J.to [1, 2, 3, 6, 7, 9, 10] (s' := [(1, .slice Aa1 a1.length ca1), (2, .int .u8 a2), (3, .pointer (some ⟨g1165, 0, none⟩)), (6, .bool false), (7, .slice A1185 x1182_1.length c1186), (9, .slice none 0 0), (10, .int .i64 0)]) (by kernel_rfl) ?_
                refine J.loopC (fun c_ n_ s_ bs_ => ∃ (x9l0 : List (List E4)) (x10l0 : Int) (Ax9l0 : Option Addr) (cx9l0 : Nat) (bax9l0 : Bs), sawmilllaw48_AssignMore.l0 K a0_0 a0_2 a1 a2 x1182_1 n_ x9l0 x10l0 = some r1 ∧ Own2 c_ enc4 1 48 x9l0 Ax9l0 cx9l0 bax9l0 ∧ s_ = [(1, .slice Aa1 a1.length ca1), (2, .int .u8 a2), (3, .pointer (some ⟨g1165, 0, none⟩)), (6, .bool false), (7, .slice A1185 x1182_1.length c1186), (9, .slice Ax9l0 x9l0.length cx9l0), (10, .int .i64 x10l0)] ∧ [(g1165, cl [.slice Aa0_0 a0_0.length ca0_0, .slice Aa0_1 a0_1.length ca0_1, .slice Aa0_2 a0_2.length ca0_2] 51)] ++ bax9l0 = bs_) K ⟨([] : List (List E4)), 0, none, 0, [], H, (Own2.nil none), rfl, rfl⟩ ?_
                rintro R_ F_ (_ | n_) s_ bs_ le1193 ⟨x9l0, x10l0, Ax9l0, cx9l0, bax9l0, H, ox9l0, rfl, rfl⟩
                · exact absurd H (by simp [sawmilllaw48_AssignMore.l0])
                simp only [sawmilllaw48_AssignMore.l0] at H
                refine J.seq ?_
                refine J.seq ?_
                refine J.plain ?_
                refine LL.op (.int .i64 x10l0) (by kernel_rfl) (fun w _ => by kernel_rfl) ?_
                refine LL.op (.pointer (some ⟨g1165, 0, none⟩)) (by kernel_rfl) (fun w _ => by kernel_rfl) ?_
                refine LL.op (.slice Aa0_0 a0_0.length ca0_0) (by kernel_rfl) (ld 0 g1165 0 rfl (by kernel_rfl) rfl (by kernel_rfl)) ?_
                refine LL.op (.int .i64 (a0_0.length : Int)) (by kernel_rfl) (fun w _ => by kernel_rfl) ?_
                refine LL.op (.bool (decide (x10l0 < (a0_0.length : Int)))) (by kernel_rfl) (fun w _ => by kernel_rfl) ?_
                refine LL.done (s' := [(1, .slice Aa1 a1.length ca1), (2, .int .u8 a2), (3, .pointer (some ⟨g1165, 0, none⟩)), (6, .bool false), (7, .slice A1185 x1182_1.length c1186), (9, .slice Ax9l0 x9l0.length cx9l0), (10, .int .i64 x10l0), (80, .bool (decide (x10l0 < (a0_0.length : Int))))]) [1, 2, 3, 6, 7, 9, 10, 80] (by kernel_rfl) ?_
                refine NN.then ?_
                rcases Bool.eq_false_or_eq_true (decide (x10l0 < (a0_0.length : Int))) with c1194 | c1194
                · rw [if_pos (of_decide_eq_true c1194)] at H
                  refine J.condT (b := decide (x10l0 < (a0_0.length : Int))) c1194 (by kernel_rfl) (by kernel_rfl) ?_
                  refine J.skip ?_
                  refine NN.then ?_
                  refine J.seq ?_
                  refine J.block ?_
                  refine J.plain ?_
                  refine LL.op (.slice Ax9l0 x9l0.length cx9l0) (by kernel_rfl) (fun w _ => by kernel_rfl) ?_
                  refine LL.lit0 48 4 1 enc4 (by kernel_rfl) rfl (by kernel_rfl) (fun A1195 o1196 => ?_)
                  refine LL.op (.pointer (some ⟨g1165, 0, none⟩)) (by kernel_rfl) (fun w _ => by kernel_rfl) ?_
                  refine LL.op (.slice Aa0_0 a0_0.length ca0_0) (by kernel_rfl) (ld 0 g1165 0 rfl (by kernel_rfl) rfl (by kernel_rfl)) ?_
                  refine LL.op (.int .i64 x10l0) (by kernel_rfl) (fun w _ => by kernel_rfl) ?_
                  obtain ⟨e1198, he1198, H⟩ := bind_some H
                  refine LL.op (.pointer (rp Aa0_0 (x10l0.toNat * 1 + 0))) (by kernel_rfl) (idx2 (cp := ca0_0) (ik := .i64) ((ha0_0.le le1187).le le1193) he1198 rfl (by kernel_rfl) (by kernel_rfl) (by kernel_rfl)) ?_
                  obtain ⟨A1199, c1200, k1201, ld1202⟩ := KRow2.row ((ha0_0.le le1187).le le1193) he1198
                  refine LL.op (.slice A1199 e1198.length c1200) (by kernel_rfl) (ld1202 rfl (by kernel_rfl) (by kernel_rfl)) ?_
                  refine LL.addnil ?_
                  obtain ⟨y1204, hy1204, H⟩ := bind_some H
                  refine LL.app (l2 := e1198) (cap := 0) (c2 := c1200) ([(g1165, cl [.slice Aa0_0 a0_0.length ca0_0, .slice Aa0_1 a0_1.length ca0_1, .slice Aa0_2 a0_2.length ca0_2] 51)] ++ bax9l0) (.tmp 84) (.tmp 89) el48 ok4 o1196 k1201 hy1204 (by kernel_rfl) rfl (by kernel_rfl) (by kernel_rfl) (fun A1205 c1206 ba1207 o1208 => ?_)
                  refine LL.op (.int .i64 x10l0) (by kernel_rfl) (fun w _ => by kernel_rfl) ?_
                  refine LL.op (.slice Aa1 a1.length ca1) (by kernel_rfl) (fun w _ => by kernel_rfl) ?_
                  refine LL.op (.int .i64 (a1.length : Int)) (by kernel_rfl) (fun w _ => by kernel_rfl) ?_
                  refine LL.op (.bool (decide (x10l0 < (a1.length : Int)))) (by kernel_rfl) (fun w _ => by kernel_rfl) ?_
                  refine LL.op (.bool (decide (x10l0 < (a1.length : Int)))) (by kernel_rfl) (fun w _ => by kernel_rfl) ?_
                  rcases Bool.eq_false_or_eq_true (decide (x10l0 < (a1.length : Int))) with c1210 | c1210
                  · rw [if_pos (of_decide_eq_true c1210)] at H
                    refine LL.bool 95 (decide (x10l0 < (a1.length : Int))) true c1210 (by kernel_rfl) ?_
                    refine LL.op (.slice Aa1 a1.length ca1) (by kernel_rfl) (fun w _ => by kernel_rfl) ?_
                    refine LL.op (.int .i64 x10l0) (by kernel_rfl) (fun w _ => by kernel_rfl) ?_
                    obtain ⟨e1211, he1211, H⟩ := bind_some H
                    refine LL.op (.pointer (rp Aa1 (x10l0.toNat * 1 + 0))) (by kernel_rfl) (idxR (cp := ca1) (ik := .i64) ((ha1.le le1187).le le1193) he1211 rfl (by kernel_rfl) (by kernel_rfl) (by kernel_rfl)) ?_
                    refine LL.op (.bool e1211) (by kernel_rfl) (ldR (off := 0) ((ha1.le le1187).le le1193) he1211 rfl (by kernel_rfl) (by kernel_rfl)) ?_
                    refine LL.op (.bool e1211) (by kernel_rfl) (fun w _ => by kernel_rfl) ?_
                    refine LL.lit 48 1 #[(0, .tmp 100)] [.bool e1211] 4 ([e1211] : List E4) (by kernel_rfl) rfl (by kernel_rfl) ok4.len rfl rfl (fun R1212 F1213 A1214 c1215 le1216 k1217 fr1218 => ?_)
                    obtain ⟨y1220, hy1220, H⟩ := bind_some H
                    refine LL.app (l2 := ([e1211] : List E4)) (cap := c1206) (c2 := c1215) ([(g1165, cl [.slice Aa0_0 a0_0.length ca0_0, .slice Aa0_1 a0_1.length ca0_1, .slice Aa0_2 a0_2.length ca0_2] 51)] ++ bax9l0) (.tmp 90) (.tmp 101) el48 ok4 o1208 k1217 hy1220 (by kernel_rfl) rfl (by kernel_rfl) (by kernel_rfl) (fun A1221 c1222 ba1223 o1224 => ?_)
                    refine LL.freeze (pre := ([(g1165, cl [.slice Aa0_0 a0_0.length ca0_0, .slice Aa0_1 a0_1.length ca0_1, .slice Aa0_2 a0_2.length ca0_2] 51)] ++ bax9l0)) ok4 o1224 (fun R1226 F1227 le1228 k1229 fr1230 => ?_)
                    refine LL.lit (enc := encS) (m := 1) 38 1 #[(0, .tmp 102)] [.slice A1221 y1220.length c1222] 48 ([(y1220, A1221, c1222)] : List (List E4 × Option Addr × Nat)) (by kernel_rfl) rfl (by kernel_rfl) encS_ok.len rfl rfl (fun R1231 F1232 A1233 c1234 le1235 k1236 fr1237 => ?_)
                    have k1239 := lit2_row k1236 (All.cons (k1229.le le1235) (fun _ h => nomatch h))
                    obtain ⟨y1240, hy1240, H⟩ := bind_some H
                    refine LL.app2 (r := y1220) (cap := cx9l0) (c2 := c1234) [(g1165, cl [.slice Aa0_0 a0_0.length ca0_0, .slice Aa0_1 a0_1.length ca0_1, .slice Aa0_2 a0_2.length ca0_2] 51)] (.tmp 83) (.tmp 103) el38 (((ox9l0.le le1216).le le1228).le le1235) (k1229.le le1235) fr1230 k1236 hy1240 (by kernel_rfl) rfl (by kernel_rfl) (by kernel_rfl) (fun A1241 c1242 ba1243 o1244 => ?_)
                    refine LL.op (.slice A1241 y1240.length c1242) (by kernel_rfl) (fun w _ => by kernel_rfl) ?_
                    refine LL.done (s' := [(1, .slice Aa1 a1.length ca1), (2, .int .u8 a2), (3, .pointer (some ⟨g1165, 0, none⟩)), (6, .bool false), (7, .slice A1185 x1182_1.length c1186), (9, .slice A1241 y1240.length c1242), (10, .int .i64 x10l0)]) [1, 2, 3, 6, 7, 9, 10] (by kernel_rfl) ?_
                    refine NN.block_n ?_
                    refine NN.then ?_
                    refine J.plain ?_
                    refine LL.op (.int .i64 x10l0) (by kernel_rfl) (fun w _ => by kernel_rfl) ?_
                    refine LL.op (.int .i64 (IntKind.i64.wrap (x10l0 + 1))) (by kernel_rfl) (fun w _ => by kernel_rfl) ?_
                    refine LL.op (.int .i64 (IntKind.i64.wrap (x10l0 + 1))) (by kernel_rfl) (fun w _ => by kernel_rfl) ?_
                    refine LL.done (s' := [(1, .slice Aa1 a1.length ca1), (2, .int .u8 a2), (3, .pointer (some ⟨g1165, 0, none⟩)), (6, .bool false), (7, .slice A1185 x1182_1.length c1186), (9, .slice A1241 y1240.length c1242), (10, .int .i64 (IntKind.i64.wrap (x10l0 + 1)))]) [1, 2, 3, 6, 7, 9, 10] (by kernel_rfl) ?_
                    exact NN.roundC [1, 2, 3, 6, 7, 9, 10] (bs' := [(g1165, cl [.slice Aa0_0 a0_0.length ca0_0, .slice Aa0_1 a0_1.length ca0_1, .slice Aa0_2 a0_2.length ca0_2] 51)] ++ ba1243) ((le1216.trans le1228).trans le1235) (Nat.lt_succ_self _) ((List.Sublist.refl _).append_right _) (by kernel_rfl) ⟨y1240, IntKind.i64.wrap (x10l0 + 1), A1241, c1242, ba1243, H, o1244, rfl, rfl⟩
                  · rw [if_neg (of_decide_eq_false c1210)] at H
                    refine LL.bool 95 (decide (x10l0 < (a1.length : Int))) false c1210 (by kernel_rfl) ?_
                    refine LL.off (by kernel_rfl) (by kernel_rfl) ?_
                    refine LL.off (by kernel_rfl) (by kernel_rfl) ?_
                    refine LL.off (by kernel_rfl) (by kernel_rfl) ?_
                    refine LL.off (by kernel_rfl) (by kernel_rfl) ?_
                    refine LL.op (.bool false) (by kernel_rfl) (fun w _ => by kernel_rfl) ?_
                    refine LL.lit 48 1 #[(0, .tmp 100)] [.bool false] 4 ([false] : List E4) (by kernel_rfl) rfl (by kernel_rfl) ok4.len rfl rfl (fun R1246 F1247 A1248 c1249 le1250 k1251 fr1252 => ?_)
                    obtain ⟨y1254, hy1254, H⟩ := bind_some H
                    refine LL.app (l2 := ([false] : List E4)) (cap := c1206) (c2 := c1249) ([(g1165, cl [.slice Aa0_0 a0_0.length ca0_0, .slice Aa0_1 a0_1.length ca0_1, .slice Aa0_2 a0_2.length ca0_2] 51)] ++ bax9l0) (.tmp 90) (.tmp 101) el48 ok4 o1208 k1251 hy1254 (by kernel_rfl) rfl (by kernel_rfl) (by kernel_rfl) (fun A1255 c1256 ba1257 o1258 => ?_)
                    refine LL.freeze (pre := ([(g1165, cl [.slice Aa0_0 a0_0.length ca0_0, .slice Aa0_1 a0_1.length ca0_1, .slice Aa0_2 a0_2.length ca0_2] 51)] ++ bax9l0)) ok4 o1258 (fun R1260 F1261 le1262 k1263 fr1264 => ?_)
                    refine LL.lit (enc := encS) (m := 1) 38 1 #[(0, .tmp 102)] [.slice A1255 y1254.length c1256] 48 ([(y1254, A1255, c1256)] : List (List E4 × Option Addr × Nat)) (by kernel_rfl) rfl (by kernel_rfl) encS_ok.len rfl rfl (fun R1265 F1266 A1267 c1268 le1269 k1270 fr1271 => ?_)
                    have k1273 := lit2_row k1270 (All.cons (k1263.le le1269) (fun _ h => nomatch h))
                    obtain ⟨y1274, hy1274, H⟩ := bind_some H
                    refine LL.app2 (r := y1254) (cap := cx9l0) (c2 := c1268) [(g1165, cl [.slice Aa0_0 a0_0.length ca0_0, .slice Aa0_1 a0_1.length ca0_1, .slice Aa0_2 a0_2.length ca0_2] 51)] (.tmp 83) (.tmp 103) el38 (((ox9l0.le le1250).le le1262).le le1269) (k1263.le le1269) fr1264 k1270 hy1274 (by kernel_rfl) rfl (by kernel_rfl) (by kernel_rfl) (fun A1275 c1276 ba1277 o1278 => ?_)
                    refine LL.op (.slice A1275 y1274.length c1276) (by kernel_rfl) (fun w _ => by kernel_rfl) ?_
                    refine LL.done (s' := [(1, .slice Aa1 a1.length ca1), (2, .int .u8 a2), (3, .pointer (some ⟨g1165, 0, none⟩)), (6, .bool false), (7, .slice A1185 x1182_1.length c1186), (9, .slice A1275 y1274.length c1276), (10, .int .i64 x10l0)]) [1, 2, 3, 6, 7, 9, 10] (by kernel_rfl) ?_
                    refine NN.block_n ?_
                    refine NN.then ?_
                    refine J.plain ?_
                    refine LL.op (.int .i64 x10l0) (by kernel_rfl) (fun w _ => by kernel_rfl) ?_
                    refine LL.op (.int .i64 (IntKind.i64.wrap (x10l0 + 1))) (by kernel_rfl) (fun w _ => by kernel_rfl) ?_
                    refine LL.op (.int .i64 (IntKind.i64.wrap (x10l0 + 1))) (by kernel_rfl) (fun w _ => by kernel_rfl) ?_
                    refine LL.done (s' := [(1, .slice Aa1 a1.length ca1), (2, .int .u8 a2), (3, .pointer (some ⟨g1165, 0, none⟩)), (6, .bool false), (7, .slice A1185 x1182_1.length c1186), (9, .slice A1275 y1274.length c1276), (10, .int .i64 (IntKind.i64.wrap (x10l0 + 1)))]) [1, 2, 3, 6, 7, 9, 10] (by kernel_rfl) ?_
                    exact NN.roundC [1, 2, 3, 6, 7, 9, 10] (bs' := [(g1165, cl [.slice Aa0_0 a0_0.length ca0_0, .slice Aa0_1 a0_1.length ca0_1, .slice Aa0_2 a0_2.length ca0_2] 51)] ++ ba1277) ((le1250.trans le1262).trans le1269) (Nat.lt_succ_self _) ((List.Sublist.refl _).append_right _) (by kernel_rfl) ⟨y1274, IntKind.i64.wrap (x10l0 + 1), A1275, c1276, ba1277, H, o1278, rfl, rfl⟩
                · rw [if_neg (of_decide_eq_false c1194)] at H
                  refine J.condF (b := decide (x10l0 < (a0_0.length : Int))) c1194 (by kernel_rfl) (by kernel_rfl) ?_
                  refine J.exit ?_
                  refine NN.then_exit ?_
                  refine NN.then_exit ?_
                  refine NN.block_same ?_
                  refine NN.then ?_
                  refine J.seq ?_
                  refine J.plain ?_
                  refine LL.op (.slice Ax9l0 x9l0.length cx9l0) (by kernel_rfl) (fun w _ => by kernel_rfl) ?_
                  refine LL.op (.pointer (some ⟨g1165, 2, none⟩)) (by kernel_rfl) (fun w _ => by kernel_rfl) ?_
                  refine LL.op (.slice Aa0_2 a0_2.length ca0_2) (by kernel_rfl) (ld 0 g1165 2 rfl (by kernel_rfl) rfl (by kernel_rfl)) ?_
                  refine LL.freeze2 (pre := [(g1165, cl [.slice Aa0_0 a0_0.length ca0_0, .slice Aa0_1 a0_1.length ca0_1, .slice Aa0_2 a0_2.length ca0_2] 51)]) ox9l0 (fun R1280 F1281 le1282 k1283 => ?_)
                  obtain ⟨⟨x1285_1, x1285_2⟩, hx1285, H⟩ := bind_some H
                  (try dsimp only at H)
                  refine LL.callR (enc := enc3) (m := 1) (l := x1285_1) 13 #[.slice Ax9l0 x9l0.length cx9l0, .slice Aa0_2 a0_2.length ca0_2] (fun A_ c_ => .tuple #[.slice A_ x1285_1.length c_, .int .i64 x1285_2]) (by kernel_rfl) (fun w => by kernel_rfl) (fun w hw => assign_Counts.calls K x9l0 a0_2  _ _ _ _ _ _ w  (k1283.at hw) ((((ha0_2.le le1187).le le1193).le le1282).at hw) hx1285) (fun R1286 F1287 A1288 c1289 le1290 k1291 fr1292 => ?_)
                  refine LL.op (.tuple #[.slice A1288 x1285_1.length c1289, .int .i64 x1285_2]) (by kernel_rfl) (fun w _ => by kernel_rfl) ?_
                  refine LL.op (.slice A1288 x1285_1.length c1289) (by kernel_rfl) (fun w _ => by kernel_rfl) ?_
                  refine LL.op (.int .i64 x1285_2) (by kernel_rfl) (fun w _ => by kernel_rfl) ?_
                  refine LL.op (.slice A1288 x1285_1.length c1289) (by kernel_rfl) (fun w _ => by kernel_rfl) ?_
                  refine LL.op (.int .i64 x1285_2) (by kernel_rfl) (fun w _ => by kernel_rfl) ?_
                  refine LL.done (s' := [(2, .int .u8 a2), (3, .pointer (some ⟨g1165, 0, none⟩)), (6, .bool false), (7, .slice A1185 x1182_1.length c1186), (11, .slice A1288 x1285_1.length c1289), (12, .int .i64 x1285_2)]) [2, 3, 6, 7, 11, 12] (by kernel_rfl) ?_
                  refine NN.then ?_
                  refine J.seq ?_
                  refine J.plain ?_
                  refine LL.lit0 24 3 1 enc3 (by kernel_rfl) rfl (by kernel_rfl) (fun A1293 o1294 => ?_)
                  refine LL.op (.pointer (some ⟨g1165, 2, none⟩)) (by kernel_rfl) (fun w _ => by kernel_rfl) ?_
                  refine LL.op (.slice Aa0_2 a0_2.length ca0_2) (by kernel_rfl) (ld 0 g1165 2 rfl (by kernel_rfl) rfl (by kernel_rfl)) ?_
                  obtain ⟨y1296, hy1296, H⟩ := bind_some H
                  refine LL.app (l2 := a0_2) (cap := 0) (c2 := ca0_2) [(g1165, cl [.slice Aa0_0 a0_0.length ca0_0, .slice Aa0_1 a0_1.length ca0_1, .slice Aa0_2 a0_2.length ca0_2] 51)] (.tmp 112) (.tmp 114) el24 ok3 o1294 ((((ha0_2.le le1187).le le1193).le le1282).le le1290) hy1296 (by kernel_rfl) rfl (by kernel_rfl) (by kernel_rfl) (fun A1297 c1298 ba1299 o1300 => ?_)
                  refine LL.op (.slice A1297 y1296.length c1298) (by kernel_rfl) (fun w _ => by kernel_rfl) ?_
                  refine LL.done (s' := [(2, .int .u8 a2), (3, .pointer (some ⟨g1165, 0, none⟩)), (6, .bool false), (7, .slice A1185 x1182_1.length c1186), (11, .slice A1288 x1285_1.length c1289), (12, .int .i64 x1285_2), (13, .slice A1297 y1296.length c1298)]) [2, 3, 6, 7, 11, 12, 13] (by kernel_rfl) ?_
                  refine NN.then ?_
                  refine J.seq ?_
                  refine J.plain ?_
                  refine LL.op (.int .u8 a2) (by kernel_rfl) (fun w _ => by kernel_rfl) ?_
                  refine LL.op (.int .i64 (IntKind.i64.wrap a2)) (by kernel_rfl) (fun w _ => by kernel_rfl) ?_
                  refine LL.op (.slice A1297 y1296.length c1298) (by kernel_rfl) (fun w _ => by kernel_rfl) ?_
                  refine LL.op (.int .i64 (y1296.length : Int)) (by kernel_rfl) (fun w _ => by kernel_rfl) ?_
                  rcases Bool.eq_false_or_eq_true (((y1296.length : Int) == 0)) with c1302 | c1302
                  · rw [if_pos (eq_of_beq c1302)] at H
                    cases H
                  · rw [if_neg (nebf c1302)] at H
                    refine LL.op (.int .i64 (Int.tmod (IntKind.i64.wrap a2) (y1296.length : Int))) (by kernel_rfl) (run_rem rfl (by kernel_rfl) (by kernel_rfl) (nebf c1302) rfl) ?_
                    refine LL.op (.int .i64 (Int.tmod (IntKind.i64.wrap a2) (y1296.length : Int))) (by kernel_rfl) (fun w _ => by kernel_rfl) ?_
                    refine LL.done (s' := [(3, .pointer (some ⟨g1165, 0, none⟩)), (6, .bool false), (7, .slice A1185 x1182_1.length c1186), (11, .slice A1288 x1285_1.length c1289), (12, .int .i64 x1285_2), (13, .slice A1297 y1296.length c1298), (14, .int .i64 (Int.tmod (IntKind.i64.wrap a2) (y1296.length : Int)))]) [3, 6, 7, 11, 12, 13, 14] (by kernel_rfl) ?_
                    refine NN.then ?_
                    refine J.seq ?_
                    refine J.plain ?_
                    refine LL.op (.slice A1297 y1296.length c1298) (by kernel_rfl) (fun w _ => by kernel_rfl) ?_
                    refine LL.op (.int .i64 (Int.tmod (IntKind.i64.wrap a2) (y1296.length : Int))) (by kernel_rfl) (fun w _ => by kernel_rfl) ?_
                    refine LL.op (.slice A1297 y1296.length c1298) (by kernel_rfl) (fun w _ => by kernel_rfl) ?_
                    refine LL.op (.int .i64 (Int.tmod (IntKind.i64.wrap a2) (y1296.length : Int))) (by kernel_rfl) (fun w _ => by kernel_rfl) ?_
                    obtain ⟨e1303, he1303, H⟩ := bind_some H
                    refine LL.op (.pointer (rp A1297 ((Int.tmod (IntKind.i64.wrap a2) (y1296.length : Int)).toNat * 1 + 0))) (by kernel_rfl) (idxO (pre := [(g1165, cl [.slice Aa0_0 a0_0.length ca0_0, .slice Aa0_1 a0_1.length ca0_1, .slice Aa0_2 a0_2.length ca0_2] 51)]) (cap := c1298) (ik := .i64) ok3 o1300 he1303 rfl (by kernel_rfl) (by kernel_rfl) (by kernel_rfl)) ?_
                    refine LL.op (.int .i64 e1303) (by kernel_rfl) (ldO (pre := [(g1165, cl [.slice Aa0_0 a0_0.length ca0_0, .slice Aa0_1 a0_1.length ca0_1, .slice Aa0_2 a0_2.length ca0_2] 51)]) (off := 0) ok3 o1300 he1303 rfl (by kernel_rfl) (by kernel_rfl)) ?_
                    refine LL.op (.int .i64 (IntKind.i64.wrap (e1303 + 1))) (by kernel_rfl) (fun w _ => by kernel_rfl) ?_
                    refine LL.op (.int .i64 (mn (IntKind.i64.wrap (e1303 + 1)) 200)) (by kernel_rfl) (fun w _ => by kernel_rfl) ?_
                    refine LL.op (.pointer (rp A1297 ((Int.tmod (IntKind.i64.wrap a2) (y1296.length : Int)).toNat * 1 + 0))) (by kernel_rfl) (idxO (pre := [(g1165, cl [.slice Aa0_0 a0_0.length ca0_0, .slice Aa0_1 a0_1.length ca0_1, .slice Aa0_2 a0_2.length ca0_2] 51)]) (cap := c1298) (ik := .i64) ok3 o1300 he1303 rfl (by kernel_rfl) (by kernel_rfl) (by kernel_rfl)) ?_
                    refine LL.storeOwn1 (e := mn (IntKind.i64.wrap (e1303 + 1)) 200) (pre := [(g1165, cl [.slice Aa0_0 a0_0.length ca0_0, .slice Aa0_1 a0_1.length ca0_1, .slice Aa0_2 a0_2.length ca0_2] 51)]) ok3 o1300 he1303 (by kernel_rfl) rfl (by kernel_rfl) (by kernel_rfl) (by kernel_rfl) (fun ba1304 o1305 => ?_)
                    rw [show y1296.length = (y1296.set (Int.tmod (IntKind.i64.wrap a2) (y1296.length : Int)).toNat (mn (IntKind.i64.wrap (e1303 + 1)) 200)).length from List.length_set.symm]
                    refine LL.done (s' := [(3, .pointer (some ⟨g1165, 0, none⟩)), (6, .bool false), (7, .slice A1185 x1182_1.length c1186), (11, .slice A1288 x1285_1.length c1289), (12, .int .i64 x1285_2), (13, .slice A1297 ((y1296.set (Int.tmod (IntKind.i64.wrap a2) (y1296.length : Int)).toNat (mn (IntKind.i64.wrap (e1303 + 1)) 200)).length) c1298)]) [3, 6, 7, 11, 12, 13] (by kernel_rfl) ?_
                    refine NN.then ?_
                    refine J.seq ?_
                    refine J.plain ?_
                    refine LL.op (.pointer (some ⟨g1165, 0, none⟩)) (by kernel_rfl) (fun w _ => by kernel_rfl) ?_
                    refine LL.op (.slice Aa0_0 a0_0.length ca0_0) (by kernel_rfl) (ld 0 g1165 0 rfl (by kernel_rfl) rfl (by kernel_rfl)) ?_
                    refine LL.op (.slice A1297 ((y1296.set (Int.tmod (IntKind.i64.wrap a2) (y1296.length : Int)).toNat (mn (IntKind.i64.wrap (e1303 + 1)) 200)).length) c1298) (by kernel_rfl) (fun w _ => by kernel_rfl) ?_
                    refine LL.freeze (pre := [(g1165, cl [.slice Aa0_0 a0_0.length ca0_0, .slice Aa0_1 a0_1.length ca0_1, .slice Aa0_2 a0_2.length ca0_2] 51)]) ok3 o1305 (fun R1306 F1307 le1308 k1309 fr1310 => ?_)
                    obtain ⟨⟨x1311_1, x1311_2⟩, hx1311, H⟩ := bind_some H
                    (try dsimp only at H)
                    refine LL.callR (enc := enc3) (m := 1) (l := x1311_1) 13 #[.slice Aa0_0 a0_0.length ca0_0, .slice A1297 ((y1296.set (Int.tmod (IntKind.i64.wrap a2) (y1296.length : Int)).toNat (mn (IntKind.i64.wrap (e1303 + 1)) 200)).length) c1298] (fun A_ c_ => .tuple #[.slice A_ x1311_1.length c_, .int .i64 x1311_2]) (by kernel_rfl) (fun w => by kernel_rfl) (fun w hw => assign_Counts.calls K a0_0 (y1296.set (Int.tmod (IntKind.i64.wrap a2) (y1296.length : Int)).toNat (mn (IntKind.i64.wrap (e1303 + 1)) 200))  _ _ _ _ _ _ w  ((((((ha0_0.le le1187).le le1193).le le1282).le le1290).le le1308).at hw) (k1309.at hw) hx1311) (fun R1312 F1313 A1314 c1315 le1316 k1317 fr1318 => ?_)
                    refine LL.op (.tuple #[.slice A1314 x1311_1.length c1315, .int .i64 x1311_2]) (by kernel_rfl) (fun w _ => by kernel_rfl) ?_
                    refine LL.op (.slice A1314 x1311_1.length c1315) (by kernel_rfl) (fun w _ => by kernel_rfl) ?_
                    refine LL.op (.int .i64 x1311_2) (by kernel_rfl) (fun w _ => by kernel_rfl) ?_
                    refine LL.op (.slice A1314 x1311_1.length c1315) (by kernel_rfl) (fun w _ => by kernel_rfl) ?_
                    refine LL.op (.int .i64 x1311_2) (by kernel_rfl) (fun w _ => by kernel_rfl) ?_
                    refine LL.done (s' := [(6, .bool false), (7, .slice A1185 x1182_1.length c1186), (11, .slice A1288 x1285_1.length c1289), (12, .int .i64 x1285_2), (15, .slice A1314 x1311_1.length c1315), (16, .int .i64 x1311_2)]) [6, 7, 11, 12, 15, 16] (by kernel_rfl) ?_
                    refine NN.then ?_
                    refine J.seq ?_
                    refine J.plain ?_
                    refine LL.op (.int .i64 x1285_2) (by kernel_rfl) (fun w _ => by kernel_rfl) ?_
                    refine LL.op (.bool (x1285_2 == 0)) (by kernel_rfl) (fun w _ => by kernel_rfl) ?_
                    refine LL.op (.bool (x1285_2 == 0)) (by kernel_rfl) (fun w _ => by kernel_rfl) ?_
                    rcases Bool.eq_false_or_eq_true ((x1285_2 == 0)) with c1319 | c1319
                    · rw [if_pos (eq_of_beq c1319)] at H
                      refine LL.bool 139 ((x1285_2 == 0)) true c1319 (by kernel_rfl) ?_
                      refine LL.op (.int .i64 x1311_2) (by kernel_rfl) (fun w _ => by kernel_rfl) ?_
                      refine LL.op (.bool (x1311_2 == 0)) (by kernel_rfl) (fun w _ => by kernel_rfl) ?_
                      refine LL.op (.bool (x1311_2 == 0)) (by kernel_rfl) (fun w _ => by kernel_rfl) ?_
                      refine LL.op (.bool (x1311_2 == 0)) (by kernel_rfl) (fun w _ => by kernel_rfl) ?_
                      rcases Bool.eq_false_or_eq_true ((x1311_2 == 0)) with c1320 | c1320
                      · rw [if_pos (eq_of_beq c1320)] at H
                        refine LL.bool 143 ((x1311_2 == 0)) true c1320 (by kernel_rfl) ?_
                        refine LL.op (.slice A1288 x1285_1.length c1289) (by kernel_rfl) (fun w _ => by kernel_rfl) ?_
                        refine LL.op (.int .i64 (x1285_1.length : Int)) (by kernel_rfl) (fun w _ => by kernel_rfl) ?_
                        refine LL.op (.slice A1185 x1182_1.length c1186) (by kernel_rfl) (fun w _ => by kernel_rfl) ?_
                        refine LL.op (.int .i64 (x1182_1.length : Int)) (by kernel_rfl) (fun w _ => by kernel_rfl) ?_
                        refine LL.op (.bool ((x1285_1.length : Int) == (x1182_1.length : Int))) (by kernel_rfl) (fun w _ => by kernel_rfl) ?_
                        refine LL.op (.bool ((x1285_1.length : Int) == (x1182_1.length : Int))) (by kernel_rfl) (fun w _ => by kernel_rfl) ?_
                        refine LL.op (.bool ((x1285_1.length : Int) == (x1182_1.length : Int))) (by kernel_rfl) (fun w _ => by kernel_rfl) ?_
                        rcases Bool.eq_false_or_eq_true (((x1285_1.length : Int) == (x1182_1.length : Int))) with c1321 | c1321
                        · rw [if_pos (eq_of_beq c1321)] at H
                          refine LL.bool 150 (((x1285_1.length : Int) == (x1182_1.length : Int))) true c1321 (by kernel_rfl) ?_
                          refine LL.op (.slice A1314 x1311_1.length c1315) (by kernel_rfl) (fun w _ => by kernel_rfl) ?_
                          refine LL.op (.int .i64 (x1311_1.length : Int)) (by kernel_rfl) (fun w _ => by kernel_rfl) ?_
                          refine LL.op (.slice A1185 x1182_1.length c1186) (by kernel_rfl) (fun w _ => by kernel_rfl) ?_
                          refine LL.op (.int .i64 (x1182_1.length : Int)) (by kernel_rfl) (fun w _ => by kernel_rfl) ?_
                          refine LL.op (.bool ((x1311_1.length : Int) == (x1182_1.length : Int))) (by kernel_rfl) (fun w _ => by kernel_rfl) ?_
                          refine LL.op (.bool ((x1311_1.length : Int) == (x1182_1.length : Int))) (by kernel_rfl) (fun w _ => by kernel_rfl) ?_
                          refine LL.op (.bool ((x1311_1.length : Int) == (x1182_1.length : Int))) (by kernel_rfl) (fun w _ => by kernel_rfl) ?_
                          rcases Bool.eq_false_or_eq_true (((x1311_1.length : Int) == (x1182_1.length : Int))) with c1322 | c1322
                          · rw [if_pos (eq_of_beq c1322)] at H
                            refine LL.bool 157 (((x1311_1.length : Int) == (x1182_1.length : Int))) true c1322 (by kernel_rfl) ?_
                            refine LL.op (.slice A1185 x1182_1.length c1186) (by kernel_rfl) (fun w _ => by kernel_rfl) ?_
                            refine LL.op (.slice A1288 x1285_1.length c1289) (by kernel_rfl) (fun w _ => by kernel_rfl) ?_
                            obtain ⟨x1323, hx1323, H⟩ := bind_some H
                            refine LL.call 24 #[.slice A1185 x1182_1.length c1186, .slice A1288 x1285_1.length c1289] (.bool x1323) (by kernel_rfl) (fun w => by kernel_rfl) (fun w hw => sawmilllaw48_better.calls K x1182_1 x1285_1  _ _ _ _ _ w  ((((((k1188.le le1193).le le1282).le le1290).le le1308).le le1316).at hw) (((k1291.le le1308).le le1316).at hw) hx1323) ?_
                            refine LL.op (.bool (!x1323)) (by kernel_rfl) (fun w _ => by kernel_rfl) ?_
                            refine LL.op (.bool (!x1323)) (by kernel_rfl) (fun w _ => by kernel_rfl) ?_
                            refine LL.op (.bool (!x1323)) (by kernel_rfl) (fun w _ => by kernel_rfl) ?_
                            rcases Bool.eq_false_or_eq_true (x1323) with c1324 | c1324
                            · rw [if_pos (c1324)] at H
                              refine LL.bool 163 (!x1323) false (by rw [show (!x1323) = !(x1323) from rfl, c1324]; rfl) (by kernel_rfl) ?_
                              refine LL.off (by kernel_rfl) (by kernel_rfl) ?_
                              refine LL.off (by kernel_rfl) (by kernel_rfl) ?_
                              refine LL.off (by kernel_rfl) (by kernel_rfl) ?_
                              refine LL.off (by kernel_rfl) (by kernel_rfl) ?_
                              refine LL.op (.bool false) (by kernel_rfl) (fun w _ => by kernel_rfl) ?_
                              refine LL.op (.bool false) (by kernel_rfl) (fun w _ => by kernel_rfl) ?_
                              refine LL.off (by kernel_rfl) (by kernel_rfl) ?_
                              refine LL.op (.bool false) (by kernel_rfl) (fun w _ => by kernel_rfl) ?_
                              refine LL.op (.bool false) (by kernel_rfl) (fun w _ => by kernel_rfl) ?_
                              refine LL.done (s' := [(6, .bool false)]) [6] (by kernel_rfl) ?_
                              refine NN.then ?_
                              refine J.ret ?_
                              refine NN.fin1 6 (.bool false) (by kernel_rfl) (by kernel_rfl) (.inl rfl) (fun w hi => hi.ret ?_)
                              first | (cases H; rfl) | (obtain rfl := Option.some.inj H; rfl) | (simp only [Option.some.injEq, Prod.mk.injEq] at H; obtain ⟨rfl⟩ := H; rfl)
                            · rw [if_neg (nebt c1324)] at H
                              refine LL.bool 163 (!x1323) true (by rw [show (!x1323) = !(x1323) from rfl, c1324]; rfl) (by kernel_rfl) ?_
                              refine LL.op (.slice A1185 x1182_1.length c1186) (by kernel_rfl) (fun w _ => by kernel_rfl) ?_
                              refine LL.op (.slice A1314 x1311_1.length c1315) (by kernel_rfl) (fun w _ => by kernel_rfl) ?_
                              obtain ⟨x1325, hx1325, H⟩ := bind_some H
                              refine LL.call 24 #[.slice A1185 x1182_1.length c1186, .slice A1314 x1311_1.length c1315] (.bool x1325) (by kernel_rfl) (fun w => by kernel_rfl) (fun w hw => sawmilllaw48_better.calls K x1182_1 x1311_1  _ _ _ _ _ w  ((((((k1188.le le1193).le le1282).le le1290).le le1308).le le1316).at hw) (k1317.at hw) hx1325) ?_
                              refine LL.op (.bool (!x1325)) (by kernel_rfl) (fun w _ => by kernel_rfl) ?_
                              refine LL.op (.bool (!x1325)) (by kernel_rfl) (fun w _ => by kernel_rfl) ?_
                              refine LL.op (.bool (!x1325)) (by kernel_rfl) (fun w _ => by kernel_rfl) ?_
                              rcases Bool.eq_false_or_eq_true (x1325) with c1326 | c1326
                              · rw [if_pos (c1326)] at H
                                refine LL.bool 169 (!x1325) false (by rw [show (!x1325) = !(x1325) from rfl, c1326]; rfl) (by kernel_rfl) ?_
                                refine LL.off (by kernel_rfl) (by kernel_rfl) ?_
                                refine LL.op (.bool false) (by kernel_rfl) (fun w _ => by kernel_rfl) ?_
                                refine LL.op (.bool false) (by kernel_rfl) (fun w _ => by kernel_rfl) ?_
                                refine LL.done (s' := [(6, .bool false)]) [6] (by kernel_rfl) ?_
                                refine NN.then ?_
                                refine J.ret ?_
                                refine NN.fin1 6 (.bool false) (by kernel_rfl) (by kernel_rfl) (.inl rfl) (fun w hi => hi.ret ?_)
                                first | (cases H; rfl) | (obtain rfl := Option.some.inj H; rfl) | (simp only [Option.some.injEq, Prod.mk.injEq] at H; obtain ⟨rfl⟩ := H; rfl)
                              · rw [if_neg (nebt c1326)] at H
                                refine LL.bool 169 (!x1325) true (by rw [show (!x1325) = !(x1325) from rfl, c1326]; rfl) (by kernel_rfl) ?_
                                obtain ⟨x1327, hx1327, H⟩ := bind_some H
                                refine LL.call 18 #[] (.bool x1327) (by kernel_rfl) (fun w => by kernel_rfl) (fun w hw => sawmilllaw48_awake.calls K    _ w   hx1327) ?_
                                refine LL.op (.bool x1327) (by kernel_rfl) (fun w _ => by kernel_rfl) ?_
                                refine LL.op (.bool x1327) (by kernel_rfl) (fun w _ => by kernel_rfl) ?_
                                refine LL.done (s' := [(6, .bool x1327)]) [6] (by kernel_rfl) ?_
                                refine NN.then ?_
                                refine J.ret ?_
                                refine NN.fin1 6 (.bool x1327) (by kernel_rfl) (by kernel_rfl) (.inl rfl) (fun w hi => hi.ret ?_)
                                first | (cases H; rfl) | (obtain rfl := Option.some.inj H; rfl) | (simp only [Option.some.injEq, Prod.mk.injEq] at H; obtain ⟨rfl⟩ := H; rfl)
                          · rw [if_neg (nebf c1322)] at H
                            refine LL.bool 157 (((x1311_1.length : Int) == (x1182_1.length : Int))) false c1322 (by kernel_rfl) ?_
                            refine LL.off (by kernel_rfl) (by kernel_rfl) ?_
                            refine LL.off (by kernel_rfl) (by kernel_rfl) ?_
                            refine LL.off (by kernel_rfl) (by kernel_rfl) ?_
                            refine LL.off (by kernel_rfl) (by kernel_rfl) ?_
                            refine LL.op (.bool false) (by kernel_rfl) (fun w _ => by kernel_rfl) ?_
                            refine LL.op (.bool false) (by kernel_rfl) (fun w _ => by kernel_rfl) ?_
                            refine LL.off (by kernel_rfl) (by kernel_rfl) ?_
                            refine LL.off (by kernel_rfl) (by kernel_rfl) ?_
                            refine LL.off (by kernel_rfl) (by kernel_rfl) ?_
                            refine LL.off (by kernel_rfl) (by kernel_rfl) ?_
                            refine LL.op (.bool false) (by kernel_rfl) (fun w _ => by kernel_rfl) ?_
                            refine LL.op (.bool false) (by kernel_rfl) (fun w _ => by kernel_rfl) ?_
                            refine LL.off (by kernel_rfl) (by kernel_rfl) ?_
                            refine LL.op (.bool false) (by kernel_rfl) (fun w _ => by kernel_rfl) ?_
                            refine LL.op (.bool false) (by kernel_rfl) (fun w _ => by kernel_rfl) ?_
                            refine LL.done (s' := [(6, .bool false)]) [6] (by kernel_rfl) ?_
                            refine NN.then ?_
                            refine J.ret ?_
                            refine NN.fin1 6 (.bool false) (by kernel_rfl) (by kernel_rfl) (.inl rfl) (fun w hi => hi.ret ?_)
                            first | (cases H; rfl) | (obtain rfl := Option.some.inj H; rfl) | (simp only [Option.some.injEq, Prod.mk.injEq] at H; obtain ⟨rfl⟩ := H; rfl)
                        · rw [if_neg (nebf c1321)] at H
                          refine LL.bool 150 (((x1285_1.length : Int) == (x1182_1.length : Int))) false c1321 (by kernel_rfl) ?_
                          refine LL.off (by kernel_rfl) (by kernel_rfl) ?_
                          refine LL.off (by kernel_rfl) (by kernel_rfl) ?_
                          refine LL.off (by kernel_rfl) (by kernel_rfl) ?_
                          refine LL.off (by kernel_rfl) (by kernel_rfl) ?_
                          refine LL.off (by kernel_rfl) (by kernel_rfl) ?_
                          refine LL.op (.bool false) (by kernel_rfl) (fun w _ => by kernel_rfl) ?_
                          refine LL.op (.bool false) (by kernel_rfl) (fun w _ => by kernel_rfl) ?_
                          refine LL.off (by kernel_rfl) (by kernel_rfl) ?_
                          refine LL.off (by kernel_rfl) (by kernel_rfl) ?_
                          refine LL.off (by kernel_rfl) (by kernel_rfl) ?_
                          refine LL.off (by kernel_rfl) (by kernel_rfl) ?_
                          refine LL.op (.bool false) (by kernel_rfl) (fun w _ => by kernel_rfl) ?_
                          refine LL.op (.bool false) (by kernel_rfl) (fun w _ => by kernel_rfl) ?_
                          refine LL.off (by kernel_rfl) (by kernel_rfl) ?_
                          refine LL.off (by kernel_rfl) (by kernel_rfl) ?_
                          refine LL.off (by kernel_rfl) (by kernel_rfl) ?_
                          refine LL.off (by kernel_rfl) (by kernel_rfl) ?_
                          refine LL.op (.bool false) (by kernel_rfl) (fun w _ => by kernel_rfl) ?_
                          refine LL.op (.bool false) (by kernel_rfl) (fun w _ => by kernel_rfl) ?_
                          refine LL.off (by kernel_rfl) (by kernel_rfl) ?_
                          refine LL.op (.bool false) (by kernel_rfl) (fun w _ => by kernel_rfl) ?_
                          refine LL.op (.bool false) (by kernel_rfl) (fun w _ => by kernel_rfl) ?_
                          refine LL.done (s' := [(6, .bool false)]) [6] (by kernel_rfl) ?_
                          refine NN.then ?_
                          refine J.ret ?_
                          refine NN.fin1 6 (.bool false) (by kernel_rfl) (by kernel_rfl) (.inl rfl) (fun w hi => hi.ret ?_)
                          first | (cases H; rfl) | (obtain rfl := Option.some.inj H; rfl) | (simp only [Option.some.injEq, Prod.mk.injEq] at H; obtain ⟨rfl⟩ := H; rfl)
                      · rw [if_neg (nebf c1320)] at H
                        refine LL.bool 143 ((x1311_2 == 0)) false c1320 (by kernel_rfl) ?_
                        refine LL.off (by kernel_rfl) (by kernel_rfl) ?_
                        refine LL.off (by kernel_rfl) (by kernel_rfl) ?_
                        refine LL.off (by kernel_rfl) (by kernel_rfl) ?_
                        refine LL.off (by kernel_rfl) (by kernel_rfl) ?_
                        refine LL.off (by kernel_rfl) (by kernel_rfl) ?_
                        refine LL.op (.bool false) (by kernel_rfl) (fun w _ => by kernel_rfl) ?_
                        refine LL.op (.bool false) (by kernel_rfl) (fun w _ => by kernel_rfl) ?_
                        refine LL.off (by kernel_rfl) (by kernel_rfl) ?_
                        refine LL.off (by kernel_rfl) (by kernel_rfl) ?_
                        refine LL.off (by kernel_rfl) (by kernel_rfl) ?_
                        refine LL.off (by kernel_rfl) (by kernel_rfl) ?_
                        refine LL.off (by kernel_rfl) (by kernel_rfl) ?_
                        refine LL.op (.bool false) (by kernel_rfl) (fun w _ => by kernel_rfl) ?_
                        refine LL.op (.bool false) (by kernel_rfl) (fun w _ => by kernel_rfl) ?_
                        refine LL.off (by kernel_rfl) (by kernel_rfl) ?_
                        refine LL.off (by kernel_rfl) (by kernel_rfl) ?_
                        refine LL.off (by kernel_rfl) (by kernel_rfl) ?_
                        refine LL.off (by kernel_rfl) (by kernel_rfl) ?_
                        refine LL.op (.bool false) (by kernel_rfl) (fun w _ => by kernel_rfl) ?_
                        refine LL.op (.bool false) (by kernel_rfl) (fun w _ => by kernel_rfl) ?_
                        refine LL.off (by kernel_rfl) (by kernel_rfl) ?_
                        refine LL.off (by kernel_rfl) (by kernel_rfl) ?_
                        refine LL.off (by kernel_rfl) (by kernel_rfl) ?_
                        refine LL.off (by kernel_rfl) (by kernel_rfl) ?_
                        refine LL.op (.bool false) (by kernel_rfl) (fun w _ => by kernel_rfl) ?_
                        refine LL.op (.bool false) (by kernel_rfl) (fun w _ => by kernel_rfl) ?_
                        refine LL.off (by kernel_rfl) (by kernel_rfl) ?_
                        refine LL.op (.bool false) (by kernel_rfl) (fun w _ => by kernel_rfl) ?_
                        refine LL.op (.bool false) (by kernel_rfl) (fun w _ => by kernel_rfl) ?_
                        refine LL.done (s' := [(6, .bool false)]) [6] (by kernel_rfl) ?_
                        refine NN.then ?_
                        refine J.ret ?_
                        refine NN.fin1 6 (.bool false) (by kernel_rfl) (by kernel_rfl) (.inl rfl) (fun w hi => hi.ret ?_)
                        first | (cases H; rfl) | (obtain rfl := Option.some.inj H; rfl) | (simp only [Option.some.injEq, Prod.mk.injEq] at H; obtain ⟨rfl⟩ := H; rfl)
                    · rw [if_neg (nebf c1319)] at H
                      refine LL.bool 139 ((x1285_2 == 0)) false c1319 (by kernel_rfl) ?_
                      refine LL.off (by kernel_rfl) (by kernel_rfl) ?_
                      refine LL.off (by kernel_rfl) (by kernel_rfl) ?_
                      refine LL.op (.bool false) (by kernel_rfl) (fun w _ => by kernel_rfl) ?_
                      refine LL.op (.bool false) (by kernel_rfl) (fun w _ => by kernel_rfl) ?_
                      refine LL.off (by kernel_rfl) (by kernel_rfl) ?_
                      refine LL.off (by kernel_rfl) (by kernel_rfl) ?_
                      refine LL.off (by kernel_rfl) (by kernel_rfl) ?_
                      refine LL.off (by kernel_rfl) (by kernel_rfl) ?_
                      refine LL.off (by kernel_rfl) (by kernel_rfl) ?_
                      refine LL.op (.bool false) (by kernel_rfl) (fun w _ => by kernel_rfl) ?_
                      refine LL.op (.bool false) (by kernel_rfl) (fun w _ => by kernel_rfl) ?_
                      refine LL.off (by kernel_rfl) (by kernel_rfl) ?_
                      refine LL.off (by kernel_rfl) (by kernel_rfl) ?_
                      refine LL.off (by kernel_rfl) (by kernel_rfl) ?_
                      refine LL.off (by kernel_rfl) (by kernel_rfl) ?_
                      refine LL.off (by kernel_rfl) (by kernel_rfl) ?_
                      refine LL.op (.bool false) (by kernel_rfl) (fun w _ => by kernel_rfl) ?_
                      refine LL.op (.bool false) (by kernel_rfl) (fun w _ => by kernel_rfl) ?_
                      refine LL.off (by kernel_rfl) (by kernel_rfl) ?_
                      refine LL.off (by kernel_rfl) (by kernel_rfl) ?_
                      refine LL.off (by kernel_rfl) (by kernel_rfl) ?_
                      refine LL.off (by kernel_rfl) (by kernel_rfl) ?_
                      refine LL.op (.bool false) (by kernel_rfl) (fun w _ => by kernel_rfl) ?_
                      refine LL.op (.bool false) (by kernel_rfl) (fun w _ => by kernel_rfl) ?_
                      refine LL.off (by kernel_rfl) (by kernel_rfl) ?_
                      refine LL.off (by kernel_rfl) (by kernel_rfl) ?_
                      refine LL.off (by kernel_rfl) (by kernel_rfl) ?_
                      refine LL.off (by kernel_rfl) (by kernel_rfl) ?_
                      refine LL.op (.bool false) (by kernel_rfl) (fun w _ => by kernel_rfl) ?_
                      refine LL.op (.bool false) (by kernel_rfl) (fun w _ => by kernel_rfl) ?_
                      refine LL.off (by kernel_rfl) (by kernel_rfl) ?_
                      refine LL.op (.bool false) (by kernel_rfl) (fun w _ => by kernel_rfl) ?_
                      refine LL.op (.bool false) (by kernel_rfl) (fun w _ => by kernel_rfl) ?_
                      refine LL.done (s' := [(6, .bool false)]) [6] (by kernel_rfl) ?_
                      refine NN.then ?_
                      refine J.ret ?_
                      refine NN.fin1 6 (.bool false) (by kernel_rfl) (by kernel_rfl) (.inl rfl) (fun w hi => hi.ret ?_)
                      first | (cases H; rfl) | (obtain rfl := Option.some.inj H; rfl) | (simp only [Option.some.injEq, Prod.mk.injEq] at H; obtain ⟨rfl⟩ := H; rfl)
              · rw [if_neg (nebf c1191)] at H
                refine J.condT (b := !((a0_2.length : Int) == (a0_0.length : Int))) (by rw [show (!((a0_2.length : Int) == (a0_0.length : Int))) = !(((a0_2.length : Int) == (a0_0.length : Int))) from rfl, c1191]; rfl) (by kernel_rfl) (by kernel_rfl) ?_
                refine J.seq ?_
                refine J.plain ?_
                refine LL.op (.int .i64 x1182_2) (by kernel_rfl) (fun w _ => by kernel_rfl) ?_
                refine LL.op (.bool (!(x1182_2 == 0))) (by kernel_rfl) (fun w _ => by kernel_rfl) ?_
                refine LL.op (.bool (!(x1182_2 == 0))) (by kernel_rfl) (fun w _ => by kernel_rfl) ?_
                refine LL.bool 68 (!(x1182_2 == 0)) false (by rw [show (!(x1182_2 == 0)) = !((x1182_2 == 0)) from rfl, c1190]; rfl) (by kernel_rfl) ?_
                refine LL.off (by kernel_rfl) (by kernel_rfl) ?_
                refine LL.off (by kernel_rfl) (by kernel_rfl) ?_
                refine LL.off (by kernel_rfl) (by kernel_rfl) ?_
                refine LL.op (.bool false) (by kernel_rfl) (fun w _ => by kernel_rfl) ?_
                refine LL.op (.bool false) (by kernel_rfl) (fun w _ => by kernel_rfl) ?_
                refine LL.off (by kernel_rfl) (by kernel_rfl) ?_
                refine LL.op (.bool false) (by kernel_rfl) (fun w _ => by kernel_rfl) ?_
                refine LL.op (.bool false) (by kernel_rfl) (fun w _ => by kernel_rfl) ?_
                refine LL.done (s' := [(1, .slice Aa1 a1.length ca1), (2, .int .u8 a2), (3, .pointer (some ⟨g1165, 0, none⟩)), (6, .bool false), (7, .slice A1185 x1182_1.length c1186)]) [1, 2, 3, 6, 7] (by kernel_rfl) ?_
                refine NN.then ?_
                refine J.ret ?_
                refine NN.then_ret ?_
                refine NN.fin1 6 (.bool false) (by kernel_rfl) (by kernel_rfl) (.inl rfl) (fun w hi => hi.ret ?_)
                first | (cases H; rfl) | (obtain rfl := Option.some.inj H; rfl) | (simp only [Option.some.injEq, Prod.mk.injEq] at H; obtain ⟨rfl⟩ := H; rfl)
            · rw [if_neg (nebf c1190)] at H
              refine LL.bool 57 (!(x1182_2 == 0)) true (by rw [show (!(x1182_2 == 0)) = !((x1182_2 == 0)) from rfl, c1190]; rfl) (by kernel_rfl) ?_
              refine LL.off (by kernel_rfl) (by kernel_rfl) ?_
              refine LL.off (by kernel_rfl) (by kernel_rfl) ?_
              refine LL.off (by kernel_rfl) (by kernel_rfl) ?_
              refine LL.off (by kernel_rfl) (by kernel_rfl) ?_
              refine LL.off (by kernel_rfl) (by kernel_rfl) ?_
              refine LL.off (by kernel_rfl) (by kernel_rfl) ?_
              refine LL.off (by kernel_rfl) (by kernel_rfl) ?_
              refine LL.op (.bool true) (by kernel_rfl) (fun w _ => by kernel_rfl) ?_
              refine LL.done (s' := [(1, .slice Aa1 a1.length ca1), (2, .int .u8 a2), (3, .pointer (some ⟨g1165, 0, none⟩)), (6, .bool false), (7, .slice A1185 x1182_1.length c1186), (8, .int .i64 x1182_2), (65, .bool true)]) [1, 2, 3, 6, 7, 8, 65] (by kernel_rfl) ?_
              refine NN.then ?_
              refine J.condT (b := true) rfl (by kernel_rfl) (by kernel_rfl) ?_
              refine J.seq ?_
              refine J.plain ?_
              refine LL.op (.int .i64 x1182_2) (by kernel_rfl) (fun w _ => by kernel_rfl) ?_
              refine LL.op (.bool (!(x1182_2 == 0))) (by kernel_rfl) (fun w _ => by kernel_rfl) ?_
              refine LL.op (.bool (!(x1182_2 == 0))) (by kernel_rfl) (fun w _ => by kernel_rfl) ?_
              refine LL.bool 68 (!(x1182_2 == 0)) true (by rw [show (!(x1182_2 == 0)) = !((x1182_2 == 0)) from rfl, c1190]; rfl) (by kernel_rfl) ?_
              refine LL.op (.slice A1185 x1182_1.length c1186) (by kernel_rfl) (fun w _ => by kernel_rfl) ?_
              refine LL.op (.int .i64 (x1182_1.length : Int)) (by kernel_rfl) (fun w _ => by kernel_rfl) ?_
              refine LL.op (.bool ((x1182_1.length : Int) == 0)) (by kernel_rfl) (fun w _ => by kernel_rfl) ?_
              refine LL.op (.bool ((x1182_1.length : Int) == 0)) (by kernel_rfl) (fun w _ => by kernel_rfl) ?_
              refine LL.op (.bool ((x1182_1.length : Int) == 0)) (by kernel_rfl) (fun w _ => by kernel_rfl) ?_
              rcases Bool.eq_false_or_eq_true (((x1182_1.length : Int) == 0)) with c1328 | c1328
              · rw [if_pos (eq_of_beq c1328)] at H
                refine LL.bool 73 (((x1182_1.length : Int) == 0)) true c1328 (by kernel_rfl) ?_
                obtain ⟨x1329, hx1329, H⟩ := bind_some H
                refine LL.call 18 #[] (.bool x1329) (by kernel_rfl) (fun w => by kernel_rfl) (fun w hw => sawmilllaw48_awake.calls K    _ w   hx1329) ?_
                refine LL.op (.bool x1329) (by kernel_rfl) (fun w _ => by kernel_rfl) ?_
                refine LL.op (.bool x1329) (by kernel_rfl) (fun w _ => by kernel_rfl) ?_
                refine LL.done (s' := [(1, .slice Aa1 a1.length ca1), (2, .int .u8 a2), (3, .pointer (some ⟨g1165, 0, none⟩)), (6, .bool x1329), (7, .slice A1185 x1182_1.length c1186)]) [1, 2, 3, 6, 7] (by kernel_rfl) ?_
                refine NN.then ?_
                refine J.ret ?_
                refine NN.then_ret ?_
                refine NN.fin1 6 (.bool x1329) (by kernel_rfl) (by kernel_rfl) (.inl rfl) (fun w hi => hi.ret ?_)
                first | (cases H; rfl) | (obtain rfl := Option.some.inj H; rfl) | (simp only [Option.some.injEq, Prod.mk.injEq] at H; obtain ⟨rfl⟩ := H; rfl)
              · rw [if_neg (nebf c1328)] at H
                refine LL.bool 73 (((x1182_1.length : Int) == 0)) false c1328 (by kernel_rfl) ?_
                refine LL.off (by kernel_rfl) (by kernel_rfl) ?_
                refine LL.op (.bool false) (by kernel_rfl) (fun w _ => by kernel_rfl) ?_
                refine LL.op (.bool false) (by kernel_rfl) (fun w _ => by kernel_rfl) ?_
                refine LL.done (s' := [(1, .slice Aa1 a1.length ca1), (2, .int .u8 a2), (3, .pointer (some ⟨g1165, 0, none⟩)), (6, .bool false), (7, .slice A1185 x1182_1.length c1186)]) [1, 2, 3, 6, 7] (by kernel_rfl) ?_
                refine NN.then ?_
                refine J.ret ?_
                refine NN.then_ret ?_
                refine NN.fin1 6 (.bool false) (by kernel_rfl) (by kernel_rfl) (.inl rfl) (fun w hi => hi.ret ?_)
                first | (cases H; rfl) | (obtain rfl := Option.some.inj H; rfl) | (simp only [Option.some.injEq, Prod.mk.injEq] at H; obtain ⟨rfl⟩ := H; rfl)
  · rw [if_neg (nebt c1167)] at H
    refine LL.bool 21 (!x1166) true (by rw [show (!x1166) = !(x1166) from rfl, c1167]; rfl) (by kernel_rfl) ?_
    refine LL.off (by kernel_rfl) (by kernel_rfl) ?_
    refine LL.off (by kernel_rfl) (by kernel_rfl) ?_
    refine LL.off (by kernel_rfl) (by kernel_rfl) ?_
    refine LL.off (by kernel_rfl) (by kernel_rfl) ?_
    refine LL.op (.bool true) (by kernel_rfl) (fun w _ => by kernel_rfl) ?_
    refine LL.op (.bool true) (by kernel_rfl) (fun w _ => by kernel_rfl) ?_
    refine LL.off (by kernel_rfl) (by kernel_rfl) ?_
    refine LL.off (by kernel_rfl) (by kernel_rfl) ?_
    refine LL.off (by kernel_rfl) (by kernel_rfl) ?_
    refine LL.op (.bool true) (by kernel_rfl) (fun w _ => by kernel_rfl) ?_
    refine LL.op (.bool true) (by kernel_rfl) (fun w _ => by kernel_rfl) ?_
    refine LL.off (by kernel_rfl) (by kernel_rfl) ?_
    refine LL.off (by kernel_rfl) (by kernel_rfl) ?_
    refine LL.off (by kernel_rfl) (by kernel_rfl) ?_
    refine LL.off (by kernel_rfl) (by kernel_rfl) ?_
    refine LL.op (.bool true) (by kernel_rfl) (fun w _ => by kernel_rfl) ?_
    refine LL.op (.bool true) (by kernel_rfl) (fun w _ => by kernel_rfl) ?_
    refine LL.off (by kernel_rfl) (by kernel_rfl) ?_
    refine LL.off (by kernel_rfl) (by kernel_rfl) ?_
    refine LL.off (by kernel_rfl) (by kernel_rfl) ?_
    refine LL.off (by kernel_rfl) (by kernel_rfl) ?_
    refine LL.off (by kernel_rfl) (by kernel_rfl) ?_
    refine LL.off (by kernel_rfl) (by kernel_rfl) ?_
    refine LL.op (.bool true) (by kernel_rfl) (fun w _ => by kernel_rfl) ?_
    refine LL.done (s' := [(1, .slice Aa1 a1.length ca1), (2, .int .u8 a2), (3, .pointer (some ⟨g1165, 0, none⟩)), (6, .bool false), (45, .bool true)]) [1, 2, 3, 6, 45] (by kernel_rfl) ?_
    refine NN.then ?_
    refine J.condT (b := true) rfl (by kernel_rfl) (by kernel_rfl) ?_
    refine J.seq ?_
    refine J.plain ?_
    obtain ⟨x1330, hx1330, H⟩ := bind_some H
    refine LL.call 18 #[] (.bool x1330) (by kernel_rfl) (fun w => by kernel_rfl) (fun w hw => sawmilllaw48_awake.calls K    _ w   hx1330) ?_
    refine LL.op (.bool x1330) (by kernel_rfl) (fun w _ => by kernel_rfl) ?_
    refine LL.done (s' := [(1, .slice Aa1 a1.length ca1), (2, .int .u8 a2), (3, .pointer (some ⟨g1165, 0, none⟩)), (6, .bool x1330)]) [1, 2, 3, 6] (by kernel_rfl) ?_
    refine NN.then ?_
    refine J.ret ?_
    refine NN.then_ret ?_
    refine NN.fin1 6 (.bool x1330) (by kernel_rfl) (by kernel_rfl) (.inl rfl) (fun w hi => hi.ret ?_)
    first | (cases H; rfl) | (obtain rfl := Option.some.inj H; rfl) | (simp only [Option.some.injEq, Prod.mk.injEq] at H; obtain ⟨rfl⟩ := H; rfl)

end Go.Proofs.Ytbogdbbmmlaohaa
