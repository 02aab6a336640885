/- Walks of functions of the seat: each call does what the Lean function of the same name says. Printed by the session's own program absgen.py. -/
import Derived.Test.YtbgdgghijheopaaF1
namespace Go.Proofs.Ytbgdgghijheopaa
open Go.Saw
set_option linter.unusedVariables false
set_option linter.unusedSimpArgs false

/-! ### sawmilllaw39_SizingMoister: function 5 -/
def sawmilllaw39_SizingMoister.f (K : Nat) (a0_0 : ByteArray) (a0_1 : ByteArray) (a0_2 : ByteArray) (a0_3 : Int) (a0_4 : Int) (a0_5 : Int) (a0_6 : Int) (a0_7 : Int) (a0_8 : Int) (a0_9 : Int) (a0_10 : Int) (a0_12 : Int) (a0_13 : Int) (a0_14 : Int) (a0_15 : Int) (a0_16 : Bool) (a0_17 : Int) (a1_0 : ByteArray) (a1_1 : Int) (a1_2 : Int) (a1_3 : Int) (a1_4 : Int) (a1_5 : Int) (a1_6 : Int) (a1_7 : Int) (a1_8 : Int) (a1_9 : Int) (a1_10 : Int) (a1_11 : Int) (a1_12 : Int) (a2_0 : Int) (a2_1 : Int) : Option (Bool) := if a2_0 < 0 then ((sawmilllaw39_awake.f K ).bind fun x223 => (some x223)) else (if 20000 < a2_0 then ((sawmilllaw39_awake.f K ).bind fun x225 => (some x225)) else (if a2_1 < 0 then ((sawmilllaw39_awake.f K ).bind fun x227 => (some x227)) else (if 200 < a2_1 then ((sawmilllaw39_awake.f K ).bind fun x229 => (some x229)) else ((sawmilllaw39_wood.f a1_0 a1_1 a1_2 a1_3 a1_4 a1_5 a1_6 a1_7 a1_8 a1_9 a1_10 a1_11 a1_12).bind fun x230 => (if x230 = true then ((moist_Check.f a0_13 a0_14 a0_15).bind fun x232 => (if x232 = 0 then ((sizing_Dried.f a0_0 a0_1 a0_2 a0_3 a0_4 a0_5 a0_6 a0_7 a0_8 a0_9 a0_10 a0_12 a0_13 a0_14 a0_15 a0_16 a0_17 a1_0 a1_1 a1_2 a1_3 a1_4 a1_5 a1_6 a1_7 a1_8 a1_9 a1_10 a1_11 a1_12).bind fun bx234 => ((sizing_Dried.f a0_0 a0_1 a0_2 a0_3 a0_4 a0_5 a0_6 a0_7 a0_8 a0_9 a0_10 a0_12 a0_13 (IntKind.i64.wrap (a0_14 + a2_0)) a0_15 a0_16 a0_17 a1_0 a1_1 a1_2 a1_3 a1_4 a1_5 a1_6 a1_7 a1_8 a1_9 a1_10 a1_11 a1_12).bind fun bx235 => ((sizing_Dried.f a0_0 a0_1 a0_2 a0_3 a0_4 a0_5 a0_6 a0_7 a0_8 a0_9 a0_10 a0_12 a0_13 a0_14 a0_15 a0_16 a0_17 a1_0 a1_1 a1_2 a1_3 a1_4 a1_5 a1_6 a1_7 a1_8 a1_9 a1_10 a1_11 (IntKind.i64.wrap (a1_12 + a2_1))).bind fun bx236 => ((moist_Check.f a0_13 (IntKind.i64.wrap (a0_14 + a2_0)) a0_15).bind fun x237 => (if x237 = 0 then (if bx235.1 < bx234.1 then (some false) else (if bx235.2 < bx234.2 then (some false) else ((sawmilllaw39_wood.f a1_0 a1_1 a1_2 a1_3 a1_4 a1_5 a1_6 a1_7 a1_8 a1_9 a1_10 a1_11 (IntKind.i64.wrap (a1_12 + a2_1))).bind fun x241 => (if x241 = true then (if bx236.1 ≤ bx234.1 then (if bx236.2 ≤ bx234.2 then ((sawmilllaw39_awake.f K ).bind fun x245 => (some x245)) else (some false)) else (some false)) else ((sawmilllaw39_awake.f K ).bind fun x246 => (some x246)))))) else ((sawmilllaw39_wood.f a1_0 a1_1 a1_2 a1_3 a1_4 a1_5 a1_6 a1_7 a1_8 a1_9 a1_10 a1_11 (IntKind.i64.wrap (a1_12 + a2_1))).bind fun x247 => (if x247 = true then (if bx236.1 ≤ bx234.1 then (if bx236.2 ≤ bx234.2 then ((sawmilllaw39_awake.f K ).bind fun x251 => (some x251)) else (some false)) else (some false)) else ((sawmilllaw39_awake.f K ).bind fun x252 => (some x252))))))))) else ((sawmilllaw39_awake.f K ).bind fun x253 => (some x253)))) else ((sawmilllaw39_awake.f K ).bind fun x254 => (some x254)))))))
set_option maxRecDepth 100000 in
theorem sawmilllaw39_SizingMoister.calls (K : Nat) (a0_0 : ByteArray) (a0_1 : ByteArray) (a0_2 : ByteArray) (a0_3 : Int) (a0_4 : Int) (a0_5 : Int) (a0_6 : Int) (a0_7 : Int) (a0_8 : Int) (a0_9 : Int) (a0_10 : Int) (a0_12 : Int) (a0_13 : Int) (a0_14 : Int) (a0_15 : Int) (a0_16 : Bool) (a0_17 : Int) (a1_0 : ByteArray) (a1_1 : Int) (a1_2 : Int) (a1_3 : Int) (a1_4 : Int) (a1_5 : Int) (a1_6 : Int) (a1_7 : Int) (a1_8 : Int) (a1_9 : Int) (a1_10 : Int) (a1_11 : Int) (a1_12 : Int) (a2_0 : Int) (a2_1 : Int)  (Aa0_11 : Option Addr) (na0_11 ca0_11 : Nat) (r1 : Bool) (w : World)   (h : sawmilllaw39_SizingMoister.f K a0_0 a0_1 a0_2 a0_3 a0_4 a0_5 a0_6 a0_7 a0_8 a0_9 a0_10 a0_12 a0_13 a0_14 a0_15 a0_16 a0_17 a1_0 a1_1 a1_2 a1_3 a1_4 a1_5 a1_6 a1_7 a1_8 a1_9 a1_10 a1_11 a1_12 a2_0 a2_1 = some r1) :
    Calls Try.prog 5 #[.agg #[.string a0_0, .string a0_1, .string a0_2, .int .i64 a0_3, .int .i64 a0_4, .int .i64 a0_5, .int .i64 a0_6, .int .i64 a0_7, .int .i64 a0_8, .int .i64 a0_9, .int .i64 a0_10, .slice Aa0_11 na0_11 ca0_11, .int .i64 a0_12, .int .i64 a0_13, .int .i64 a0_14, .int .i64 a0_15, .bool a0_16, .int .i64 a0_17], .agg #[.string a1_0, .int .i64 a1_1, .int .i64 a1_2, .int .i64 a1_3, .int .i64 a1_4, .int .i64 a1_5, .int .i64 a1_6, .int .i64 a1_7, .int .i64 a1_8, .int .i64 a1_9, .int .i64 a1_10, .int .i64 a1_11, .int .i64 a1_12], .agg #[.int .i64 a2_0, .int .i64 a2_1]] w (Ret w (.bool r1)) := by
  have H := h
  clear h
  unfold sawmilllaw39_SizingMoister.f at H
  refine Go.Saw.calls (args := [.agg #[.string a0_0, .string a0_1, .string a0_2, .int .i64 a0_3, .int .i64 a0_4, .int .i64 a0_5, .int .i64 a0_6, .int .i64 a0_7, .int .i64 a0_8, .int .i64 a0_9, .int .i64 a0_10, .slice Aa0_11 na0_11 ca0_11, .int .i64 a0_12, .int .i64 a0_13, .int .i64 a0_14, .int .i64 a0_15, .bool a0_16, .int .i64 a0_17], .agg #[.string a1_0, .int .i64 a1_1, .int .i64 a1_2, .int .i64 a1_3, .int .i64 a1_4, .int .i64 a1_5, .int .i64 a1_6, .int .i64 a1_7, .int .i64 a1_8, .int .i64 a1_9, .int .i64 a1_10, .int .i64 a1_11, .int .i64 a1_12], .agg #[.int .i64 a2_0, .int .i64 a2_1]]) Try.func5 rfl Try.ntmps5 (by kernel_rfl) ?_
  refine J.seq ?_
  refine J.plain ?_
  refine LL.box 30 (.tmp 0) [.string a0_0, .string a0_1, .string a0_2, .int .i64 a0_3, .int .i64 a0_4, .int .i64 a0_5, .int .i64 a0_6, .int .i64 a0_7, .int .i64 a0_8, .int .i64 a0_9, .int .i64 a0_10, .slice Aa0_11 na0_11 ca0_11, .int .i64 a0_12, .int .i64 a0_13, .int .i64 a0_14, .int .i64 a0_15, .bool a0_16, .int .i64 a0_17] (by kernel_rfl) rfl (by kernel_rfl) (fun g217 => ?_)
  refine LL.box 35 (.tmp 1) [.string a1_0, .int .i64 a1_1, .int .i64 a1_2, .int .i64 a1_3, .int .i64 a1_4, .int .i64 a1_5, .int .i64 a1_6, .int .i64 a1_7, .int .i64 a1_8, .int .i64 a1_9, .int .i64 a1_10, .int .i64 a1_11, .int .i64 a1_12] (by kernel_rfl) rfl (by kernel_rfl) (fun g218 => ?_)
  refine LL.box 43 (.tmp 2) [.int .i64 a2_0, .int .i64 a2_1] (by kernel_rfl) rfl (by kernel_rfl) (fun g219 => ?_)
  refine LL.op (.bool false) (by kernel_rfl) (fun w _ => by kernel_rfl) ?_
  refine LL.done (s' := [(3, .pointer (some ⟨g217, 0, none⟩)), (4, .pointer (some ⟨g218, 0, none⟩)), (5, .pointer (some ⟨g219, 0, none⟩)), (6, .bool false)]) [3, 4, 5, 6] (by kernel_rfl) ?_
  refine NN.then ?_
  refine J.seq ?_
  refine J.held follows ?_
  refine HH.take 0 (.agg #[.string a0_0, .string a0_1, .string a0_2, .int .i64 a0_3, .int .i64 a0_4, .int .i64 a0_5, .int .i64 a0_6, .int .i64 a0_7, .int .i64 a0_8, .int .i64 a0_9, .int .i64 a0_10, .slice Aa0_11 na0_11 ca0_11, .int .i64 a0_12, .int .i64 a0_13, .int .i64 a0_14, .int .i64 a0_15, .bool a0_16, .int .i64 a0_17]) rfl (by kernel_rfl) (by kernel_rfl) (fun _ h => h) (ld 2 g217 0 rfl (by kernel_rfl) rfl (by kernel_rfl)) ?_
  refine HH.take 1 (.agg #[.string a1_0, .int .i64 a1_1, .int .i64 a1_2, .int .i64 a1_3, .int .i64 a1_4, .int .i64 a1_5, .int .i64 a1_6, .int .i64 a1_7, .int .i64 a1_8, .int .i64 a1_9, .int .i64 a1_10, .int .i64 a1_11, .int .i64 a1_12]) rfl (by kernel_rfl) (by kernel_rfl) (fun _ h => h) (ld 1 g218 0 rfl (by kernel_rfl) rfl (by kernel_rfl)) ?_
  refine HH.all2 2 3 (by kernel_rfl) ?_ ?_
  · skip
    refine HS.alloc 30 [.string (⟨#[]⟩ : ByteArray), .string (⟨#[]⟩ : ByteArray), .string (⟨#[]⟩ : ByteArray), .int .i64 0, .int .i64 0, .int .i64 0, .int .i64 0, .int .i64 0, .int .i64 0, .int .i64 0, .int .i64 0, .slice none 0 0, .int .i64 0, .int .i64 0, .int .i64 0, .int .i64 0, .bool false, .int .i64 0] rfl (by kernel_rfl) rfl (by kernel_rfl) (fun _ h => h) (fun g220 => ?_)
    refine HH.all1 3 (by kernel_rfl) ?_
    refine HS.alloc 35 [.string (⟨#[]⟩ : ByteArray), .int .i64 0, .int .i64 0, .int .i64 0, .int .i64 0, .int .i64 0, .int .i64 0, .int .i64 0, .int .i64 0, .int .i64 0, .int .i64 0, .int .i64 0, .int .i64 0] rfl (by kernel_rfl) rfl (by kernel_rfl) (fun _ h => h.sub (List.Sublist.cons _ (List.Sublist.refl _))) (fun g221 => ?_)
    refine HH.all1 4 (by kernel_rfl) ?_
    refine HS.store 1 g220 0 30 (.tmp 7) (.tmp 15) [.string a0_0, .string a0_1, .string a0_2, .int .i64 a0_3, .int .i64 a0_4, .int .i64 a0_5, .int .i64 a0_6, .int .i64 a0_7, .int .i64 a0_8, .int .i64 a0_9, .int .i64 a0_10, .slice Aa0_11 na0_11 ca0_11, .int .i64 a0_12, .int .i64 a0_13, .int .i64 a0_14, .int .i64 a0_15, .bool a0_16, .int .i64 a0_17] (bs' := [(g221, cl [.string (⟨#[]⟩ : ByteArray), .int .i64 0, .int .i64 0, .int .i64 0, .int .i64 0, .int .i64 0, .int .i64 0, .int .i64 0, .int .i64 0, .int .i64 0, .int .i64 0, .int .i64 0, .int .i64 0] 35), (g220, cl [.string a0_0, .string a0_1, .string a0_2, .int .i64 a0_3, .int .i64 a0_4, .int .i64 a0_5, .int .i64 a0_6, .int .i64 a0_7, .int .i64 a0_8, .int .i64 a0_9, .int .i64 a0_10, .slice Aa0_11 na0_11 ca0_11, .int .i64 a0_12, .int .i64 a0_13, .int .i64 a0_14, .int .i64 a0_15, .bool a0_16, .int .i64 a0_17] 30), (g219, cl [.int .i64 a2_0, .int .i64 a2_1] 43), (g218, cl [.string a1_0, .int .i64 a1_1, .int .i64 a1_2, .int .i64 a1_3, .int .i64 a1_4, .int .i64 a1_5, .int .i64 a1_6, .int .i64 a1_7, .int .i64 a1_8, .int .i64 a1_9, .int .i64 a1_10, .int .i64 a1_11, .int .i64 a1_12] 35), (g217, cl [.string a0_0, .string a0_1, .string a0_2, .int .i64 a0_3, .int .i64 a0_4, .int .i64 a0_5, .int .i64 a0_6, .int .i64 a0_7, .int .i64 a0_8, .int .i64 a0_9, .int .i64 a0_10, .slice Aa0_11 na0_11 ca0_11, .int .i64 a0_12, .int .i64 a0_13, .int .i64 a0_14, .int .i64 a0_15, .bool a0_16, .int .i64 a0_17] 30)]) rfl rfl (by kernel_rfl) rfl (by kernel_rfl) rfl (by kernel_rfl) (fun _ h => h.sub (List.Sublist.cons _ (List.Sublist.cons _ (List.Sublist.refl _)))) ?_
    refine HH.all1 5 (by kernel_rfl) ?_
    refine HS.store 0 g221 0 35 (.tmp 8) (.tmp 16) [.string a1_0, .int .i64 a1_1, .int .i64 a1_2, .int .i64 a1_3, .int .i64 a1_4, .int .i64 a1_5, .int .i64 a1_6, .int .i64 a1_7, .int .i64 a1_8, .int .i64 a1_9, .int .i64 a1_10, .int .i64 a1_11, .int .i64 a1_12] (bs' := [(g221, cl [.string a1_0, .int .i64 a1_1, .int .i64 a1_2, .int .i64 a1_3, .int .i64 a1_4, .int .i64 a1_5, .int .i64 a1_6, .int .i64 a1_7, .int .i64 a1_8, .int .i64 a1_9, .int .i64 a1_10, .int .i64 a1_11, .int .i64 a1_12] 35), (g220, cl [.string a0_0, .string a0_1, .string a0_2, .int .i64 a0_3, .int .i64 a0_4, .int .i64 a0_5, .int .i64 a0_6, .int .i64 a0_7, .int .i64 a0_8, .int .i64 a0_9, .int .i64 a0_10, .slice Aa0_11 na0_11 ca0_11, .int .i64 a0_12, .int .i64 a0_13, .int .i64 a0_14, .int .i64 a0_15, .bool a0_16, .int .i64 a0_17] 30), (g219, cl [.int .i64 a2_0, .int .i64 a2_1] 43), (g218, cl [.string a1_0, .int .i64 a1_1, .int .i64 a1_2, .int .i64 a1_3, .int .i64 a1_4, .int .i64 a1_5, .int .i64 a1_6, .int .i64 a1_7, .int .i64 a1_8, .int .i64 a1_9, .int .i64 a1_10, .int .i64 a1_11, .int .i64 a1_12] 35), (g217, cl [.string a0_0, .string a0_1, .string a0_2, .int .i64 a0_3, .int .i64 a0_4, .int .i64 a0_5, .int .i64 a0_6, .int .i64 a0_7, .int .i64 a0_8, .int .i64 a0_9, .int .i64 a0_10, .slice Aa0_11 na0_11 ca0_11, .int .i64 a0_12, .int .i64 a0_13, .int .i64 a0_14, .int .i64 a0_15, .bool a0_16, .int .i64 a0_17] 30)]) rfl rfl (by kernel_rfl) rfl (by kernel_rfl) rfl (by kernel_rfl) (fun _ h => h.sub (List.Sublist.cons _ (List.Sublist.cons _ (List.Sublist.refl _)))) ?_
    refine HH.done (s' := [(3, .pointer (some ⟨g217, 0, none⟩)), (4, .pointer (some ⟨g218, 0, none⟩)), (5, .pointer (some ⟨g219, 0, none⟩)), (6, .bool false), (7, .pointer (some ⟨g220, 0, none⟩)), (8, .pointer (some ⟨g221, 0, none⟩))]) [3, 4, 5, 6, 7, 8] (by kernel_rfl) (by kernel_rfl) ?_
    refine NN.then ?_
    refine J.seq ?_
    refine J.seq ?_
    refine J.plain ?_
    refine LL.op (.pointer (some ⟨g219, 0, none⟩)) (by kernel_rfl) (fun w _ => by kernel_rfl) ?_
    refine LL.op (.int .i64 a2_0) (by kernel_rfl) (ld 2 g219 0 rfl (by kernel_rfl) rfl (by kernel_rfl)) ?_
    refine LL.op (.bool (decide (a2_0 < 0))) (by kernel_rfl) (fun w _ => by kernel_rfl) ?_
    refine LL.op (.bool (decide (a2_0 < 0))) (by kernel_rfl) (fun w _ => by kernel_rfl) ?_
    rcases Bool.eq_false_or_eq_true (decide (a2_0 < 0)) with c222 | c222
    · rw [if_pos (of_decide_eq_true c222)] at H
      refine LL.bool 20 (decide (a2_0 < 0)) true c222 (by kernel_rfl) ?_
      refine LL.off (by kernel_rfl) (by kernel_rfl) ?_
      refine LL.off (by kernel_rfl) (by kernel_rfl) ?_
      refine LL.off (by kernel_rfl) (by kernel_rfl) ?_
      refine LL.op (.bool true) (by kernel_rfl) (fun w _ => by kernel_rfl) ?_
      refine LL.op (.bool true) (by kernel_rfl) (fun w _ => by kernel_rfl) ?_
      refine LL.off (by kernel_rfl) (by kernel_rfl) ?_
      refine LL.off (by kernel_rfl) (by kernel_rfl) ?_
      refine LL.off (by kernel_rfl) (by kernel_rfl) ?_
      refine LL.op (.bool true) (by kernel_rfl) (fun w _ => by kernel_rfl) ?_
      refine LL.op (.bool true) (by kernel_rfl) (fun w _ => by kernel_rfl) ?_
      refine LL.off (by kernel_rfl) (by kernel_rfl) ?_
      refine LL.off (by kernel_rfl) (by kernel_rfl) ?_
      refine LL.off (by kernel_rfl) (by kernel_rfl) ?_
      refine LL.op (.bool true) (by kernel_rfl) (fun w _ => by kernel_rfl) ?_
      refine LL.op (.bool true) (by kernel_rfl) (fun w _ => by kernel_rfl) ?_
      refine LL.off (by kernel_rfl) (by kernel_rfl) ?_
      refine LL.off (by kernel_rfl) (by kernel_rfl) ?_
      refine LL.off (by kernel_rfl) (by kernel_rfl) ?_
      refine LL.op (.bool true) (by kernel_rfl) (fun w _ => by kernel_rfl) ?_
      refine LL.op (.bool true) (by kernel_rfl) (fun w _ => by kernel_rfl) ?_
      refine LL.off (by kernel_rfl) (by kernel_rfl) ?_
      refine LL.off (by kernel_rfl) (by kernel_rfl) ?_
      refine LL.off (by kernel_rfl) (by kernel_rfl) ?_
      refine LL.off (by kernel_rfl) (by kernel_rfl) ?_
      refine LL.op (.bool true) (by kernel_rfl) (fun w _ => by kernel_rfl) ?_
      refine LL.done (s' := [(3, .pointer (some ⟨g217, 0, none⟩)), (4, .pointer (some ⟨g218, 0, none⟩)), (5, .pointer (some ⟨g219, 0, none⟩)), (6, .bool false), (7, .pointer (some ⟨g220, 0, none⟩)), (8, .pointer (some ⟨g221, 0, none⟩)), (45, .bool true)]) [3, 4, 5, 6, 7, 8, 45] (by kernel_rfl) ?_
      refine NN.then ?_
      refine J.condT (b := true) rfl (by kernel_rfl) (by kernel_rfl) ?_
      refine J.seq ?_
      refine J.plain ?_
      obtain ⟨x223, hx223, H⟩ := bind_some H
      refine LL.call 15 #[] (.bool x223) (by kernel_rfl) (fun w => by kernel_rfl) (fun w hw => sawmilllaw39_awake.calls K    _ w   hx223) ?_
      refine LL.op (.bool x223) (by kernel_rfl) (fun w _ => by kernel_rfl) ?_
      refine LL.done (s' := [(3, .pointer (some ⟨g217, 0, none⟩)), (4, .pointer (some ⟨g218, 0, none⟩)), (5, .pointer (some ⟨g219, 0, none⟩)), (6, .bool x223), (7, .pointer (some ⟨g220, 0, none⟩)), (8, .pointer (some ⟨g221, 0, none⟩))]) [3, 4, 5, 6, 7, 8] (by kernel_rfl) ?_
      refine NN.then ?_
      refine J.ret ?_
      refine NN.then_ret ?_
      refine NN.fin1 6 (.bool x223) (by kernel_rfl) (by kernel_rfl) (.inl rfl) (fun w hi => hi.ret ?_)
      first | (cases H; rfl) | (obtain rfl := Option.some.inj H; rfl) | (simp only [Option.some.injEq, Prod.mk.injEq] at H; obtain ⟨rfl⟩ := H; rfl)
    · rw [if_neg (of_decide_eq_false c222)] at H
      refine LL.bool 20 (decide (a2_0 < 0)) false c222 (by kernel_rfl) ?_
      refine LL.op (.pointer (some ⟨g219, 0, none⟩)) (by kernel_rfl) (fun w _ => by kernel_rfl) ?_
      refine LL.op (.int .i64 a2_0) (by kernel_rfl) (ld 2 g219 0 rfl (by kernel_rfl) rfl (by kernel_rfl)) ?_
      refine LL.op (.bool (decide (20000 < a2_0))) (by kernel_rfl) (fun w _ => by kernel_rfl) ?_
      refine LL.op (.bool (decide (20000 < a2_0))) (by kernel_rfl) (fun w _ => by kernel_rfl) ?_
      refine LL.op (.bool (decide (20000 < a2_0))) (by kernel_rfl) (fun w _ => by kernel_rfl) ?_
      rcases Bool.eq_false_or_eq_true (decide (20000 < a2_0)) with c224 | c224
      · rw [if_pos (of_decide_eq_true c224)] at H
        refine LL.bool 25 (decide (20000 < a2_0)) true c224 (by kernel_rfl) ?_
        refine LL.off (by kernel_rfl) (by kernel_rfl) ?_
        refine LL.off (by kernel_rfl) (by kernel_rfl) ?_
        refine LL.off (by kernel_rfl) (by kernel_rfl) ?_
        refine LL.op (.bool true) (by kernel_rfl) (fun w _ => by kernel_rfl) ?_
        refine LL.op (.bool true) (by kernel_rfl) (fun w _ => by kernel_rfl) ?_
        refine LL.off (by kernel_rfl) (by kernel_rfl) ?_
        refine LL.off (by kernel_rfl) (by kernel_rfl) ?_
        refine LL.off (by kernel_rfl) (by kernel_rfl) ?_
        refine LL.op (.bool true) (by kernel_rfl) (fun w _ => by kernel_rfl) ?_
        refine LL.op (.bool true) (by kernel_rfl) (fun w _ => by kernel_rfl) ?_
        refine LL.off (by kernel_rfl) (by kernel_rfl) ?_
        refine LL.off (by kernel_rfl) (by kernel_rfl) ?_
        refine LL.off (by kernel_rfl) (by kernel_rfl) ?_
        refine LL.op (.bool true) (by kernel_rfl) (fun w _ => by kernel_rfl) ?_
        refine LL.op (.bool true) (by kernel_rfl) (fun w _ => by kernel_rfl) ?_
        refine LL.off (by kernel_rfl) (by kernel_rfl) ?_
        refine LL.off (by kernel_rfl) (by kernel_rfl) ?_
        refine LL.off (by kernel_rfl) (by kernel_rfl) ?_
        refine LL.off (by kernel_rfl) (by kernel_rfl) ?_
        refine LL.op (.bool true) (by kernel_rfl) (fun w _ => by kernel_rfl) ?_
        refine LL.done (s' := [(3, .pointer (some ⟨g217, 0, none⟩)), (4, .pointer (some ⟨g218, 0, none⟩)), (5, .pointer (some ⟨g219, 0, none⟩)), (6, .bool false), (7, .pointer (some ⟨g220, 0, none⟩)), (8, .pointer (some ⟨g221, 0, none⟩)), (45, .bool true)]) [3, 4, 5, 6, 7, 8, 45] (by kernel_rfl) ?_
        refine NN.then ?_
        refine J.condT (b := true) rfl (by kernel_rfl) (by kernel_rfl) ?_
        refine J.seq ?_
        refine J.plain ?_
        obtain ⟨x225, hx225, H⟩ := bind_some H
        refine LL.call 15 #[] (.bool x225) (by kernel_rfl) (fun w => by kernel_rfl) (fun w hw => sawmilllaw39_awake.calls K    _ w   hx225) ?_
        refine LL.op (.bool x225) (by kernel_rfl) (fun w _ => by kernel_rfl) ?_
        refine LL.done (s' := [(3, .pointer (some ⟨g217, 0, none⟩)), (4, .pointer (some ⟨g218, 0, none⟩)), (5, .pointer (some ⟨g219, 0, none⟩)), (6, .bool x225), (7, .pointer (some ⟨g220, 0, none⟩)), (8, .pointer (some ⟨g221, 0, none⟩))]) [3, 4, 5, 6, 7, 8] (by kernel_rfl) ?_
        refine NN.then ?_
        refine J.ret ?_
        refine NN.then_ret ?_
        refine NN.fin1 6 (.bool x225) (by kernel_rfl) (by kernel_rfl) (.inl rfl) (fun w hi => hi.ret ?_)
        first | (cases H; rfl) | (obtain rfl := Option.some.inj H; rfl) | (simp only [Option.some.injEq, Prod.mk.injEq] at H; obtain ⟨rfl⟩ := H; rfl)
      · rw [if_neg (of_decide_eq_false c224)] at H
        refine LL.bool 25 (decide (20000 < a2_0)) false c224 (by kernel_rfl) ?_
        refine LL.op (.pointer (some ⟨g219, 1, none⟩)) (by kernel_rfl) (fun w _ => by kernel_rfl) ?_
        refine LL.op (.int .i64 a2_1) (by kernel_rfl) (ld 2 g219 1 rfl (by kernel_rfl) rfl (by kernel_rfl)) ?_
        refine LL.op (.bool (decide (a2_1 < 0))) (by kernel_rfl) (fun w _ => by kernel_rfl) ?_
        refine LL.op (.bool (decide (a2_1 < 0))) (by kernel_rfl) (fun w _ => by kernel_rfl) ?_
        refine LL.op (.bool (decide (a2_1 < 0))) (by kernel_rfl) (fun w _ => by kernel_rfl) ?_
        rcases Bool.eq_false_or_eq_true (decide (a2_1 < 0)) with c226 | c226
        · rw [if_pos (of_decide_eq_true c226)] at H
          refine LL.bool 30 (decide (a2_1 < 0)) true c226 (by kernel_rfl) ?_
          refine LL.off (by kernel_rfl) (by kernel_rfl) ?_
          refine LL.off (by kernel_rfl) (by kernel_rfl) ?_
          refine LL.off (by kernel_rfl) (by kernel_rfl) ?_
          refine LL.op (.bool true) (by kernel_rfl) (fun w _ => by kernel_rfl) ?_
          refine LL.op (.bool true) (by kernel_rfl) (fun w _ => by kernel_rfl) ?_
          refine LL.off (by kernel_rfl) (by kernel_rfl) ?_
          refine LL.off (by kernel_rfl) (by kernel_rfl) ?_
          refine LL.off (by kernel_rfl) (by kernel_rfl) ?_
          refine LL.op (.bool true) (by kernel_rfl) (fun w _ => by kernel_rfl) ?_
          refine LL.op (.bool true) (by kernel_rfl) (fun w _ => by kernel_rfl) ?_
          refine LL.off (by kernel_rfl) (by kernel_rfl) ?_
          refine LL.off (by kernel_rfl) (by kernel_rfl) ?_
          refine LL.off (by kernel_rfl) (by kernel_rfl) ?_
          refine LL.off (by kernel_rfl) (by kernel_rfl) ?_
          refine LL.op (.bool true) (by kernel_rfl) (fun w _ => by kernel_rfl) ?_
          refine LL.done (s' := [(3, .pointer (some ⟨g217, 0, none⟩)), (4, .pointer (some ⟨g218, 0, none⟩)), (5, .pointer (some ⟨g219, 0, none⟩)), (6, .bool false), (7, .pointer (some ⟨g220, 0, none⟩)), (8, .pointer (some ⟨g221, 0, none⟩)), (45, .bool true)]) [3, 4, 5, 6, 7, 8, 45] (by kernel_rfl) ?_
          refine NN.then ?_
          refine J.condT (b := true) rfl (by kernel_rfl) (by kernel_rfl) ?_
          refine J.seq ?_
          refine J.plain ?_
          obtain ⟨x227, hx227, H⟩ := bind_some H
          refine LL.call 15 #[] (.bool x227) (by kernel_rfl) (fun w => by kernel_rfl) (fun w hw => sawmilllaw39_awake.calls K    _ w   hx227) ?_
          refine LL.op (.bool x227) (by kernel_rfl) (fun w _ => by kernel_rfl) ?_
          refine LL.done (s' := [(3, .pointer (some ⟨g217, 0, none⟩)), (4, .pointer (some ⟨g218, 0, none⟩)), (5, .pointer (some ⟨g219, 0, none⟩)), (6, .bool x227), (7, .pointer (some ⟨g220, 0, none⟩)), (8, .pointer (some ⟨g221, 0, none⟩))]) [3, 4, 5, 6, 7, 8] (by kernel_rfl) ?_
          refine NN.then ?_
          refine J.ret ?_
          refine NN.then_ret ?_
          refine NN.fin1 6 (.bool x227) (by kernel_rfl) (by kernel_rfl) (.inl rfl) (fun w hi => hi.ret ?_)
          first | (cases H; rfl) | (obtain rfl := Option.some.inj H; rfl) | (simp only [Option.some.injEq, Prod.mk.injEq] at H; obtain ⟨rfl⟩ := H; rfl)
        · rw [if_neg (of_decide_eq_false c226)] at H
          refine LL.bool 30 (decide (a2_1 < 0)) false c226 (by kernel_rfl) ?_
          refine LL.op (.pointer (some ⟨g219, 1, none⟩)) (by kernel_rfl) (fun w _ => by kernel_rfl) ?_
          refine LL.op (.int .i64 a2_1) (by kernel_rfl) (ld 2 g219 1 rfl (by kernel_rfl) rfl (by kernel_rfl)) ?_
          refine LL.op (.bool (decide (200 < a2_1))) (by kernel_rfl) (fun w _ => by kernel_rfl) ?_
          refine LL.op (.bool (decide (200 < a2_1))) (by kernel_rfl) (fun w _ => by kernel_rfl) ?_
          refine LL.op (.bool (decide (200 < a2_1))) (by kernel_rfl) (fun w _ => by kernel_rfl) ?_
          rcases Bool.eq_false_or_eq_true (decide (200 < a2_1)) with c228 | c228
          · rw [if_pos (of_decide_eq_true c228)] at H
            refine LL.bool 35 (decide (200 < a2_1)) true c228 (by kernel_rfl) ?_
            refine LL.off (by kernel_rfl) (by kernel_rfl) ?_
            refine LL.off (by kernel_rfl) (by kernel_rfl) ?_
            refine LL.off (by kernel_rfl) (by kernel_rfl) ?_
            refine LL.op (.bool true) (by kernel_rfl) (fun w _ => by kernel_rfl) ?_
            refine LL.op (.bool true) (by kernel_rfl) (fun w _ => by kernel_rfl) ?_
            refine LL.off (by kernel_rfl) (by kernel_rfl) ?_
            refine LL.off (by kernel_rfl) (by kernel_rfl) ?_
            refine LL.off (by kernel_rfl) (by kernel_rfl) ?_
            refine LL.off (by kernel_rfl) (by kernel_rfl) ?_
            refine LL.op (.bool true) (by kernel_rfl) (fun w _ => by kernel_rfl) ?_
            refine LL.done (s' := [(3, .pointer (some ⟨g217, 0, none⟩)), (4, .pointer (some ⟨g218, 0, none⟩)), (5, .pointer (some ⟨g219, 0, none⟩)), (6, .bool false), (7, .pointer (some ⟨g220, 0, none⟩)), (8, .pointer (some ⟨g221, 0, none⟩)), (45, .bool true)]) [3, 4, 5, 6, 7, 8, 45] (by kernel_rfl) ?_
            refine NN.then ?_
            refine J.condT (b := true) rfl (by kernel_rfl) (by kernel_rfl) ?_
            refine J.seq ?_
            refine J.plain ?_
            obtain ⟨x229, hx229, H⟩ := bind_some H
            refine LL.call 15 #[] (.bool x229) (by kernel_rfl) (fun w => by kernel_rfl) (fun w hw => sawmilllaw39_awake.calls K    _ w   hx229) ?_
            refine LL.op (.bool x229) (by kernel_rfl) (fun w _ => by kernel_rfl) ?_
            refine LL.done (s' := [(3, .pointer (some ⟨g217, 0, none⟩)), (4, .pointer (some ⟨g218, 0, none⟩)), (5, .pointer (some ⟨g219, 0, none⟩)), (6, .bool x229), (7, .pointer (some ⟨g220, 0, none⟩)), (8, .pointer (some ⟨g221, 0, none⟩))]) [3, 4, 5, 6, 7, 8] (by kernel_rfl) ?_
            refine NN.then ?_
            refine J.ret ?_
            refine NN.then_ret ?_
            refine NN.fin1 6 (.bool x229) (by kernel_rfl) (by kernel_rfl) (.inl rfl) (fun w hi => hi.ret ?_)
            first | (cases H; rfl) | (obtain rfl := Option.some.inj H; rfl) | (simp only [Option.some.injEq, Prod.mk.injEq] at H; obtain ⟨rfl⟩ := H; rfl)
          · rw [if_neg (of_decide_eq_false c228)] at H
            refine LL.bool 35 (decide (200 < a2_1)) false c228 (by kernel_rfl) ?_
            refine LL.op (.agg #[.string a1_0, .int .i64 a1_1, .int .i64 a1_2, .int .i64 a1_3, .int .i64 a1_4, .int .i64 a1_5, .int .i64 a1_6, .int .i64 a1_7, .int .i64 a1_8, .int .i64 a1_9, .int .i64 a1_10, .int .i64 a1_11, .int .i64 a1_12]) (by kernel_rfl) (ld 3 g218 0 rfl (by kernel_rfl) rfl (by kernel_rfl)) ?_
            obtain ⟨x230, hx230, H⟩ := bind_some H
            refine LL.call 18 #[.agg #[.string a1_0, .int .i64 a1_1, .int .i64 a1_2, .int .i64 a1_3, .int .i64 a1_4, .int .i64 a1_5, .int .i64 a1_6, .int .i64 a1_7, .int .i64 a1_8, .int .i64 a1_9, .int .i64 a1_10, .int .i64 a1_11, .int .i64 a1_12]] (.bool x230) (by kernel_rfl) (fun w => by kernel_rfl) (fun w hw => sawmilllaw39_wood.calls a1_0 a1_1 a1_2 a1_3 a1_4 a1_5 a1_6 a1_7 a1_8 a1_9 a1_10 a1_11 a1_12   _ w   hx230) ?_
            refine LL.op (.bool (!x230)) (by kernel_rfl) (fun w _ => by kernel_rfl) ?_
            refine LL.op (.bool (!x230)) (by kernel_rfl) (fun w _ => by kernel_rfl) ?_
            refine LL.op (.bool (!x230)) (by kernel_rfl) (fun w _ => by kernel_rfl) ?_
            rcases Bool.eq_false_or_eq_true (x230) with c231 | c231
            · rw [if_pos (c231)] at H
              refine LL.bool 40 (!x230) false (by rw [show (!x230) = !(x230) from rfl, c231]; rfl) (by kernel_rfl) ?_
              refine LL.op (.pointer (some ⟨g217, 13, none⟩)) (by kernel_rfl) (fun w _ => by kernel_rfl) ?_
              refine LL.op (.agg #[.int .i64 a0_13, .int .i64 a0_14, .int .i64 a0_15]) (by kernel_rfl) (ld 4 g217 13 rfl (by kernel_rfl) rfl (by kernel_rfl)) ?_
              obtain ⟨x232, hx232, H⟩ := bind_some H
              refine LL.call 19 #[.agg #[.int .i64 a0_13, .int .i64 a0_14, .int .i64 a0_15]] (.int .i64 x232) (by kernel_rfl) (fun w => by kernel_rfl) (fun w hw => moist_Check.calls a0_13 a0_14 a0_15   _ w   hx232) ?_
              refine LL.op (.bool (!(x232 == 0))) (by kernel_rfl) (fun w _ => by kernel_rfl) ?_
              refine LL.op (.bool (!(x232 == 0))) (by kernel_rfl) (fun w _ => by kernel_rfl) ?_
              refine LL.done (s' := [(3, .pointer (some ⟨g217, 0, none⟩)), (4, .pointer (some ⟨g218, 0, none⟩)), (5, .pointer (some ⟨g219, 0, none⟩)), (6, .bool false), (7, .pointer (some ⟨g220, 0, none⟩)), (8, .pointer (some ⟨g221, 0, none⟩)), (45, .bool (!(x232 == 0)))]) [3, 4, 5, 6, 7, 8, 45] (by kernel_rfl) ?_
              refine NN.then ?_
              rcases Bool.eq_false_or_eq_true ((x232 == 0)) with c233 | c233
              · rw [if_pos (eq_of_beq c233)] at H
                refine J.condF (b := !(x232 == 0)) (by rw [show (!(x232 == 0)) = !((x232 == 0)) from rfl, c233]; rfl) (by kernel_rfl) (by kernel_rfl) ?_
                refine J.skip ?_
                refine NN.then ?_
                refine J.seq ?_
                refine J.plain ?_
                refine LL.op (.pointer (some ⟨g217, 13, none⟩)) (by kernel_rfl) (fun w _ => by kernel_rfl) ?_
                refine LL.op (.pointer (some ⟨g217, 14, none⟩)) (by kernel_rfl) (fun w _ => by kernel_rfl) ?_
                refine LL.op (.int .i64 a0_14) (by kernel_rfl) (ld 4 g217 14 rfl (by kernel_rfl) rfl (by kernel_rfl)) ?_
                refine LL.op (.pointer (some ⟨g219, 0, none⟩)) (by kernel_rfl) (fun w _ => by kernel_rfl) ?_
                refine LL.op (.int .i64 a2_0) (by kernel_rfl) (ld 2 g219 0 rfl (by kernel_rfl) rfl (by kernel_rfl)) ?_
                refine LL.op (.int .i64 (IntKind.i64.wrap (a0_14 + a2_0))) (by kernel_rfl) (fun w _ => by kernel_rfl) ?_
                refine LL.op (.pointer (some ⟨g220, 13, none⟩)) (by kernel_rfl) (fun w _ => by kernel_rfl) ?_
                refine LL.op (.pointer (some ⟨g220, 14, none⟩)) (by kernel_rfl) (fun w _ => by kernel_rfl) ?_
                refine LL.store 1 g220 14 3 (.tmp 54) (.tmp 52) [.string a0_0, .string a0_1, .string a0_2, .int .i64 a0_3, .int .i64 a0_4, .int .i64 a0_5, .int .i64 a0_6, .int .i64 a0_7, .int .i64 a0_8, .int .i64 a0_9, .int .i64 a0_10, .slice Aa0_11 na0_11 ca0_11, .int .i64 a0_12, .int .i64 a0_13, .int .i64 (IntKind.i64.wrap (a0_14 + a2_0)), .int .i64 a0_15, .bool a0_16, .int .i64 a0_17] (bs' := [(g221, cl [.string a1_0, .int .i64 a1_1, .int .i64 a1_2, .int .i64 a1_3, .int .i64 a1_4, .int .i64 a1_5, .int .i64 a1_6, .int .i64 a1_7, .int .i64 a1_8, .int .i64 a1_9, .int .i64 a1_10, .int .i64 a1_11, .int .i64 a1_12] 35), (g220, cl [.string a0_0, .string a0_1, .string a0_2, .int .i64 a0_3, .int .i64 a0_4, .int .i64 a0_5, .int .i64 a0_6, .int .i64 a0_7, .int .i64 a0_8, .int .i64 a0_9, .int .i64 a0_10, .slice Aa0_11 na0_11 ca0_11, .int .i64 a0_12, .int .i64 a0_13, .int .i64 (IntKind.i64.wrap (a0_14 + a2_0)), .int .i64 a0_15, .bool a0_16, .int .i64 a0_17] 30), (g219, cl [.int .i64 a2_0, .int .i64 a2_1] 43), (g218, cl [.string a1_0, .int .i64 a1_1, .int .i64 a1_2, .int .i64 a1_3, .int .i64 a1_4, .int .i64 a1_5, .int .i64 a1_6, .int .i64 a1_7, .int .i64 a1_8, .int .i64 a1_9, .int .i64 a1_10, .int .i64 a1_11, .int .i64 a1_12] 35), (g217, cl [.string a0_0, .string a0_1, .string a0_2, .int .i64 a0_3, .int .i64 a0_4, .int .i64 a0_5, .int .i64 a0_6, .int .i64 a0_7, .int .i64 a0_8, .int .i64 a0_9, .int .i64 a0_10, .slice Aa0_11 na0_11 ca0_11, .int .i64 a0_12, .int .i64 a0_13, .int .i64 a0_14, .int .i64 a0_15, .bool a0_16, .int .i64 a0_17] 30)]) rfl (by kernel_rfl) rfl (by kernel_rfl) rfl (by kernel_rfl) ?_
                refine LL.done (s' := [(3, .pointer (some ⟨g217, 0, none⟩)), (4, .pointer (some ⟨g218, 0, none⟩)), (5, .pointer (some ⟨g219, 0, none⟩)), (6, .bool false), (7, .pointer (some ⟨g220, 0, none⟩)), (8, .pointer (some ⟨g221, 0, none⟩))]) [3, 4, 5, 6, 7, 8] (by kernel_rfl) ?_
                refine NN.then ?_
                refine J.seq ?_
                refine J.plain ?_
                refine LL.op (.pointer (some ⟨g218, 12, none⟩)) (by kernel_rfl) (fun w _ => by kernel_rfl) ?_
                refine LL.op (.int .i64 a1_12) (by kernel_rfl) (ld 3 g218 12 rfl (by kernel_rfl) rfl (by kernel_rfl)) ?_
                refine LL.op (.pointer (some ⟨g219, 1, none⟩)) (by kernel_rfl) (fun w _ => by kernel_rfl) ?_
                refine LL.op (.int .i64 a2_1) (by kernel_rfl) (ld 2 g219 1 rfl (by kernel_rfl) rfl (by kernel_rfl)) ?_
                refine LL.op (.int .i64 (IntKind.i64.wrap (a1_12 + a2_1))) (by kernel_rfl) (fun w _ => by kernel_rfl) ?_
                refine LL.op (.pointer (some ⟨g221, 12, none⟩)) (by kernel_rfl) (fun w _ => by kernel_rfl) ?_
                refine LL.store 0 g221 12 3 (.tmp 60) (.tmp 59) [.string a1_0, .int .i64 a1_1, .int .i64 a1_2, .int .i64 a1_3, .int .i64 a1_4, .int .i64 a1_5, .int .i64 a1_6, .int .i64 a1_7, .int .i64 a1_8, .int .i64 a1_9, .int .i64 a1_10, .int .i64 a1_11, .int .i64 (IntKind.i64.wrap (a1_12 + a2_1))] (bs' := [(g221, cl [.string a1_0, .int .i64 a1_1, .int .i64 a1_2, .int .i64 a1_3, .int .i64 a1_4, .int .i64 a1_5, .int .i64 a1_6, .int .i64 a1_7, .int .i64 a1_8, .int .i64 a1_9, .int .i64 a1_10, .int .i64 a1_11, .int .i64 (IntKind.i64.wrap (a1_12 + a2_1))] 35), (g220, cl [.string a0_0, .string a0_1, .string a0_2, .int .i64 a0_3, .int .i64 a0_4, .int .i64 a0_5, .int .i64 a0_6, .int .i64 a0_7, .int .i64 a0_8, .int .i64 a0_9, .int .i64 a0_10, .slice Aa0_11 na0_11 ca0_11, .int .i64 a0_12, .int .i64 a0_13, .int .i64 (IntKind.i64.wrap (a0_14 + a2_0)), .int .i64 a0_15, .bool a0_16, .int .i64 a0_17] 30), (g219, cl [.int .i64 a2_0, .int .i64 a2_1] 43), (g218, cl [.string a1_0, .int .i64 a1_1, .int .i64 a1_2, .int .i64 a1_3, .int .i64 a1_4, .int .i64 a1_5, .int .i64 a1_6, .int .i64 a1_7, .int .i64 a1_8, .int .i64 a1_9, .int .i64 a1_10, .int .i64 a1_11, .int .i64 a1_12] 35), (g217, cl [.string a0_0, .string a0_1, .string a0_2, .int .i64 a0_3, .int .i64 a0_4, .int .i64 a0_5, .int .i64 a0_6, .int .i64 a0_7, .int .i64 a0_8, .int .i64 a0_9, .int .i64 a0_10, .slice Aa0_11 na0_11 ca0_11, .int .i64 a0_12, .int .i64 a0_13, .int .i64 a0_14, .int .i64 a0_15, .bool a0_16, .int .i64 a0_17] 30)]) rfl (by kernel_rfl) rfl (by kernel_rfl) rfl (by kernel_rfl) ?_
                refine LL.done (s' := [(3, .pointer (some ⟨g217, 0, none⟩)), (4, .pointer (some ⟨g218, 0, none⟩)), (6, .bool false), (7, .pointer (some ⟨g220, 0, none⟩)), (8, .pointer (some ⟨g221, 0, none⟩))]) [3, 4, 6, 7, 8] (by kernel_rfl) ?_
                refine NN.then ?_
                refine J.seq ?_
                refine J.plain ?_
                refine LL.op (.agg #[.string a0_0, .string a0_1, .string a0_2, .int .i64 a0_3, .int .i64 a0_4, .int .i64 a0_5, .int .i64 a0_6, .int .i64 a0_7, .int .i64 a0_8, .int .i64 a0_9, .int .i64 a0_10, .slice Aa0_11 na0_11 ca0_11, .int .i64 a0_12, .int .i64 a0_13, .int .i64 a0_14, .int .i64 a0_15, .bool a0_16, .int .i64 a0_17]) (by kernel_rfl) (ld 4 g217 0 rfl (by kernel_rfl) rfl (by kernel_rfl)) ?_
                refine LL.op (.agg #[.string a1_0, .int .i64 a1_1, .int .i64 a1_2, .int .i64 a1_3, .int .i64 a1_4, .int .i64 a1_5, .int .i64 a1_6, .int .i64 a1_7, .int .i64 a1_8, .int .i64 a1_9, .int .i64 a1_10, .int .i64 a1_11, .int .i64 a1_12]) (by kernel_rfl) (ld 3 g218 0 rfl (by kernel_rfl) rfl (by kernel_rfl)) ?_
                obtain ⟨⟨x234_1, x234_2⟩, hx234, H⟩ := bind_some H
                (try dsimp only at H)
                refine LL.call 9 #[.agg #[.string a0_0, .string a0_1, .string a0_2, .int .i64 a0_3, .int .i64 a0_4, .int .i64 a0_5, .int .i64 a0_6, .int .i64 a0_7, .int .i64 a0_8, .int .i64 a0_9, .int .i64 a0_10, .slice Aa0_11 na0_11 ca0_11, .int .i64 a0_12, .int .i64 a0_13, .int .i64 a0_14, .int .i64 a0_15, .bool a0_16, .int .i64 a0_17], .agg #[.string a1_0, .int .i64 a1_1, .int .i64 a1_2, .int .i64 a1_3, .int .i64 a1_4, .int .i64 a1_5, .int .i64 a1_6, .int .i64 a1_7, .int .i64 a1_8, .int .i64 a1_9, .int .i64 a1_10, .int .i64 a1_11, .int .i64 a1_12]] (.tuple #[.int .i64 x234_1, .int .i64 x234_2]) (by kernel_rfl) (fun w => by kernel_rfl) (fun w hw => sizing_Dried.calls a0_0 a0_1 a0_2 a0_3 a0_4 a0_5 a0_6 a0_7 a0_8 a0_9 a0_10 a0_12 a0_13 a0_14 a0_15 a0_16 a0_17 a1_0 a1_1 a1_2 a1_3 a1_4 a1_5 a1_6 a1_7 a1_8 a1_9 a1_10 a1_11 a1_12  _ _ _ _ _ w   hx234) ?_
                refine LL.op (.tuple #[.int .i64 x234_1, .int .i64 x234_2]) (by kernel_rfl) (fun w _ => by kernel_rfl) ?_
                refine LL.op (.int .i64 x234_1) (by kernel_rfl) (fun w _ => by kernel_rfl) ?_
                refine LL.op (.int .i64 x234_2) (by kernel_rfl) (fun w _ => by kernel_rfl) ?_
                refine LL.op (.int .i64 x234_1) (by kernel_rfl) (fun w _ => by kernel_rfl) ?_
                refine LL.op (.int .i64 x234_2) (by kernel_rfl) (fun w _ => by kernel_rfl) ?_
                refine LL.done (s' := [(3, .pointer (some ⟨g217, 0, none⟩)), (4, .pointer (some ⟨g218, 0, none⟩)), (6, .bool false), (7, .pointer (some ⟨g220, 0, none⟩)), (8, .pointer (some ⟨g221, 0, none⟩)), (9, .int .i64 x234_1), (10, .int .i64 x234_2)]) [3, 4, 6, 7, 8, 9, 10] (by kernel_rfl) ?_
                refine NN.then ?_
                refine J.seq ?_
                refine J.plain ?_
                refine LL.op (.agg #[.string a0_0, .string a0_1, .string a0_2, .int .i64 a0_3, .int .i64 a0_4, .int .i64 a0_5, .int .i64 a0_6, .int .i64 a0_7, .int .i64 a0_8, .int .i64 a0_9, .int .i64 a0_10, .slice Aa0_11 na0_11 ca0_11, .int .i64 a0_12, .int .i64 a0_13, .int .i64 (IntKind.i64.wrap (a0_14 + a2_0)), .int .i64 a0_15, .bool a0_16, .int .i64 a0_17]) (by kernel_rfl) (ld 1 g220 0 rfl (by kernel_rfl) rfl (by kernel_rfl)) ?_
                refine LL.op (.agg #[.string a1_0, .int .i64 a1_1, .int .i64 a1_2, .int .i64 a1_3, .int .i64 a1_4, .int .i64 a1_5, .int .i64 a1_6, .int .i64 a1_7, .int .i64 a1_8, .int .i64 a1_9, .int .i64 a1_10, .int .i64 a1_11, .int .i64 a1_12]) (by kernel_rfl) (ld 3 g218 0 rfl (by kernel_rfl) rfl (by kernel_rfl)) ?_
                obtain ⟨⟨x235_1, x235_2⟩, hx235, H⟩ := bind_some H
                (try dsimp only at H)
                refine LL.call 9 #[.agg #[.string a0_0, .string a0_1, .string a0_2, .int .i64 a0_3, .int .i64 a0_4, .int .i64 a0_5, .int .i64 a0_6, .int .i64 a0_7, .int .i64 a0_8, .int .i64 a0_9, .int .i64 a0_10, .slice Aa0_11 na0_11 ca0_11, .int .i64 a0_12, .int .i64 a0_13, .int .i64 (IntKind.i64.wrap (a0_14 + a2_0)), .int .i64 a0_15, .bool a0_16, .int .i64 a0_17], .agg #[.string a1_0, .int .i64 a1_1, .int .i64 a1_2, .int .i64 a1_3, .int .i64 a1_4, .int .i64 a1_5, .int .i64 a1_6, .int .i64 a1_7, .int .i64 a1_8, .int .i64 a1_9, .int .i64 a1_10, .int .i64 a1_11, .int .i64 a1_12]] (.tuple #[.int .i64 x235_1, .int .i64 x235_2]) (by kernel_rfl) (fun w => by kernel_rfl) (fun w hw => sizing_Dried.calls a0_0 a0_1 a0_2 a0_3 a0_4 a0_5 a0_6 a0_7 a0_8 a0_9 a0_10 a0_12 a0_13 (IntKind.i64.wrap (a0_14 + a2_0)) a0_15 a0_16 a0_17 a1_0 a1_1 a1_2 a1_3 a1_4 a1_5 a1_6 a1_7 a1_8 a1_9 a1_10 a1_11 a1_12  _ _ _ _ _ w   hx235) ?_
                refine LL.op (.tuple #[.int .i64 x235_1, .int .i64 x235_2]) (by kernel_rfl) (fun w _ => by kernel_rfl) ?_
                refine LL.op (.int .i64 x235_1) (by kernel_rfl) (fun w _ => by kernel_rfl) ?_
                refine LL.op (.int .i64 x235_2) (by kernel_rfl) (fun w _ => by kernel_rfl) ?_
                refine LL.op (.int .i64 x235_1) (by kernel_rfl) (fun w _ => by kernel_rfl) ?_
                refine LL.op (.int .i64 x235_2) (by kernel_rfl) (fun w _ => by kernel_rfl) ?_
                refine LL.done (s' := [(3, .pointer (some ⟨g217, 0, none⟩)), (6, .bool false), (7, .pointer (some ⟨g220, 0, none⟩)), (8, .pointer (some ⟨g221, 0, none⟩)), (9, .int .i64 x234_1), (10, .int .i64 x234_2), (11, .int .i64 x235_1), (12, .int .i64 x235_2)]) [3, 6, 7, 8, 9, 10, 11, 12] (by kernel_rfl) ?_
                refine NN.then ?_
                refine J.seq ?_
                refine J.plain ?_
                refine LL.op (.agg #[.string a0_0, .string a0_1, .string a0_2, .int .i64 a0_3, .int .i64 a0_4, .int .i64 a0_5, .int .i64 a0_6, .int .i64 a0_7, .int .i64 a0_8, .int .i64 a0_9, .int .i64 a0_10, .slice Aa0_11 na0_11 ca0_11, .int .i64 a0_12, .int .i64 a0_13, .int .i64 a0_14, .int .i64 a0_15, .bool a0_16, .int .i64 a0_17]) (by kernel_rfl) (ld 4 g217 0 rfl (by kernel_rfl) rfl (by kernel_rfl)) ?_
                refine LL.op (.agg #[.string a1_0, .int .i64 a1_1, .int .i64 a1_2, .int .i64 a1_3, .int .i64 a1_4, .int .i64 a1_5, .int .i64 a1_6, .int .i64 a1_7, .int .i64 a1_8, .int .i64 a1_9, .int .i64 a1_10, .int .i64 a1_11, .int .i64 (IntKind.i64.wrap (a1_12 + a2_1))]) (by kernel_rfl) (ld 0 g221 0 rfl (by kernel_rfl) rfl (by kernel_rfl)) ?_
                obtain ⟨⟨x236_1, x236_2⟩, hx236, H⟩ := bind_some H
                (try dsimp only at H)
                refine LL.call 9 #[.agg #[.string a0_0, .string a0_1, .string a0_2, .int .i64 a0_3, .int .i64 a0_4, .int .i64 a0_5, .int .i64 a0_6, .int .i64 a0_7, .int .i64 a0_8, .int .i64 a0_9, .int .i64 a0_10, .slice Aa0_11 na0_11 ca0_11, .int .i64 a0_12, .int .i64 a0_13, .int .i64 a0_14, .int .i64 a0_15, .bool a0_16, .int .i64 a0_17], .agg #[.string a1_0, .int .i64 a1_1, .int .i64 a1_2, .int .i64 a1_3, .int .i64 a1_4, .int .i64 a1_5, .int .i64 a1_6, .int .i64 a1_7, .int .i64 a1_8, .int .i64 a1_9, .int .i64 a1_10, .int .i64 a1_11, .int .i64 (IntKind.i64.wrap (a1_12 + a2_1))]] (.tuple #[.int .i64 x236_1, .int .i64 x236_2]) (by kernel_rfl) (fun w => by kernel_rfl) (fun w hw => sizing_Dried.calls a0_0 a0_1 a0_2 a0_3 a0_4 a0_5 a0_6 a0_7 a0_8 a0_9 a0_10 a0_12 a0_13 a0_14 a0_15 a0_16 a0_17 a1_0 a1_1 a1_2 a1_3 a1_4 a1_5 a1_6 a1_7 a1_8 a1_9 a1_10 a1_11 (IntKind.i64.wrap (a1_12 + a2_1))  _ _ _ _ _ w   hx236) ?_
                refine LL.op (.tuple #[.int .i64 x236_1, .int .i64 x236_2]) (by kernel_rfl) (fun w _ => by kernel_rfl) ?_
                refine LL.op (.int .i64 x236_1) (by kernel_rfl) (fun w _ => by kernel_rfl) ?_
                refine LL.op (.int .i64 x236_2) (by kernel_rfl) (fun w _ => by kernel_rfl) ?_
                refine LL.op (.int .i64 x236_1) (by kernel_rfl) (fun w _ => by kernel_rfl) ?_
                refine LL.op (.int .i64 x236_2) (by kernel_rfl) (fun w _ => by kernel_rfl) ?_
                refine LL.done (s' := [(6, .bool false), (7, .pointer (some ⟨g220, 0, none⟩)), (8, .pointer (some ⟨g221, 0, none⟩)), (9, .int .i64 x234_1), (10, .int .i64 x234_2), (11, .int .i64 x235_1), (12, .int .i64 x235_2), (13, .int .i64 x236_1), (14, .int .i64 x236_2)]) [6, 7, 8, 9, 10, 11, 12, 13, 14] (by kernel_rfl) ?_
                refine NN.then ?_
                refine J.seq ?_
                refine J.seq ?_
                refine J.plain ?_
                refine LL.op (.pointer (some ⟨g220, 13, none⟩)) (by kernel_rfl) (fun w _ => by kernel_rfl) ?_
                refine LL.op (.agg #[.int .i64 a0_13, .int .i64 (IntKind.i64.wrap (a0_14 + a2_0)), .int .i64 a0_15]) (by kernel_rfl) (ld 1 g220 13 rfl (by kernel_rfl) rfl (by kernel_rfl)) ?_
                obtain ⟨x237, hx237, H⟩ := bind_some H
                refine LL.call 19 #[.agg #[.int .i64 a0_13, .int .i64 (IntKind.i64.wrap (a0_14 + a2_0)), .int .i64 a0_15]] (.int .i64 x237) (by kernel_rfl) (fun w => by kernel_rfl) (fun w hw => moist_Check.calls a0_13 (IntKind.i64.wrap (a0_14 + a2_0)) a0_15   _ w   hx237) ?_
                refine LL.op (.bool (x237 == 0)) (by kernel_rfl) (fun w _ => by kernel_rfl) ?_
                refine LL.op (.bool (x237 == 0)) (by kernel_rfl) (fun w _ => by kernel_rfl) ?_
                rcases Bool.eq_false_or_eq_true ((x237 == 0)) with c238 | c238
                · rw [if_pos (eq_of_beq c238)] at H
                  refine LL.bool 83 ((x237 == 0)) true c238 (by kernel_rfl) ?_
                  refine LL.op (.int .i64 x235_1) (by kernel_rfl) (fun w _ => by kernel_rfl) ?_
                  refine LL.op (.int .i64 x234_1) (by kernel_rfl) (fun w _ => by kernel_rfl) ?_
                  refine LL.op (.bool (decide (x235_1 < x234_1))) (by kernel_rfl) (fun w _ => by kernel_rfl) ?_
                  refine LL.op (.bool (decide (x235_1 < x234_1))) (by kernel_rfl) (fun w _ => by kernel_rfl) ?_
                  rcases Bool.eq_false_or_eq_true (decide (x235_1 < x234_1)) with c239 | c239
                  · rw [if_pos (of_decide_eq_true c239)] at H
                    refine LL.bool 87 (decide (x235_1 < x234_1)) true c239 (by kernel_rfl) ?_
                    refine LL.off (by kernel_rfl) (by kernel_rfl) ?_
                    refine LL.off (by kernel_rfl) (by kernel_rfl) ?_
                    refine LL.off (by kernel_rfl) (by kernel_rfl) ?_
                    refine LL.op (.bool true) (by kernel_rfl) (fun w _ => by kernel_rfl) ?_
                    refine LL.op (.bool true) (by kernel_rfl) (fun w _ => by kernel_rfl) ?_
                    refine LL.done (s' := [(6, .bool false), (8, .pointer (some ⟨g221, 0, none⟩)), (9, .int .i64 x234_1), (10, .int .i64 x234_2), (13, .int .i64 x236_1), (14, .int .i64 x236_2), (92, .bool true)]) [6, 8, 9, 10, 13, 14, 92] (by kernel_rfl) ?_
                    refine NN.then ?_
                    refine J.condT (b := true) rfl (by kernel_rfl) (by kernel_rfl) ?_
                    refine J.seq ?_
                    refine J.plain ?_
                    refine LL.op (.bool false) (by kernel_rfl) (fun w _ => by kernel_rfl) ?_
                    refine LL.done (s' := [(6, .bool false), (8, .pointer (some ⟨g221, 0, none⟩)), (9, .int .i64 x234_1), (10, .int .i64 x234_2), (13, .int .i64 x236_1), (14, .int .i64 x236_2)]) [6, 8, 9, 10, 13, 14] (by kernel_rfl) ?_
                    refine NN.then ?_
                    refine J.ret ?_
                    refine NN.then_ret ?_
                    refine NN.fin1 6 (.bool false) (by kernel_rfl) (by kernel_rfl) (.inl rfl) (fun w hi => hi.ret ?_)
                    first | (cases H; rfl) | (obtain rfl := Option.some.inj H; rfl) | (simp only [Option.some.injEq, Prod.mk.injEq] at H; obtain ⟨rfl⟩ := H; rfl)
                  · rw [if_neg (of_decide_eq_false c239)] at H
                    refine LL.bool 87 (decide (x235_1 < x234_1)) false c239 (by kernel_rfl) ?_
                    refine LL.op (.int .i64 x235_2) (by kernel_rfl) (fun w _ => by kernel_rfl) ?_
                    refine LL.op (.int .i64 x234_2) (by kernel_rfl) (fun w _ => by kernel_rfl) ?_
                    refine LL.op (.bool (decide (x235_2 < x234_2))) (by kernel_rfl) (fun w _ => by kernel_rfl) ?_
                    refine LL.op (.bool (decide (x235_2 < x234_2))) (by kernel_rfl) (fun w _ => by kernel_rfl) ?_
                    refine LL.op (.bool (decide (x235_2 < x234_2))) (by kernel_rfl) (fun w _ => by kernel_rfl) ?_
                    refine LL.done (s' := [(6, .bool false), (8, .pointer (some ⟨g221, 0, none⟩)), (9, .int .i64 x234_1), (10, .int .i64 x234_2), (13, .int .i64 x236_1), (14, .int .i64 x236_2), (92, .bool (decide (x235_2 < x234_2)))]) [6, 8, 9, 10, 13, 14, 92] (by kernel_rfl) ?_
                    refine NN.then ?_
                    rcases Bool.eq_false_or_eq_true (decide (x235_2 < x234_2)) with c240 | c240
                    · rw [if_pos (of_decide_eq_true c240)] at H
                      refine J.condT (b := decide (x235_2 < x234_2)) c240 (by kernel_rfl) (by kernel_rfl) ?_
                      refine J.seq ?_
                      refine J.plain ?_
                      refine LL.op (.bool false) (by kernel_rfl) (fun w _ => by kernel_rfl) ?_
                      refine LL.done (s' := [(6, .bool false), (8, .pointer (some ⟨g221, 0, none⟩)), (9, .int .i64 x234_1), (10, .int .i64 x234_2), (13, .int .i64 x236_1), (14, .int .i64 x236_2)]) [6, 8, 9, 10, 13, 14] (by kernel_rfl) ?_
                      refine NN.then ?_
                      refine J.ret ?_
                      refine NN.then_ret ?_
                      refine NN.fin1 6 (.bool false) (by kernel_rfl) (by kernel_rfl) (.inl rfl) (fun w hi => hi.ret ?_)
                      first | (cases H; rfl) | (obtain rfl := Option.some.inj H; rfl) | (simp only [Option.some.injEq, Prod.mk.injEq] at H; obtain ⟨rfl⟩ := H; rfl)
                    · rw [if_neg (of_decide_eq_false c240)] at H
                      refine J.condF (b := decide (x235_2 < x234_2)) c240 (by kernel_rfl) (by kernel_rfl) ?_
                      refine J.skip ?_
                      refine NN.then ?_
                      refine J.seq ?_
                      refine J.plain ?_
                      refine LL.op (.agg #[.string a1_0, .int .i64 a1_1, .int .i64 a1_2, .int .i64 a1_3, .int .i64 a1_4, .int .i64 a1_5, .int .i64 a1_6, .int .i64 a1_7, .int .i64 a1_8, .int .i64 a1_9, .int .i64 a1_10, .int .i64 a1_11, .int .i64 (IntKind.i64.wrap (a1_12 + a2_1))]) (by kernel_rfl) (ld 0 g221 0 rfl (by kernel_rfl) rfl (by kernel_rfl)) ?_
                      obtain ⟨x241, hx241, H⟩ := bind_some H
                      refine LL.call 18 #[.agg #[.string a1_0, .int .i64 a1_1, .int .i64 a1_2, .int .i64 a1_3, .int .i64 a1_4, .int .i64 a1_5, .int .i64 a1_6, .int .i64 a1_7, .int .i64 a1_8, .int .i64 a1_9, .int .i64 a1_10, .int .i64 a1_11, .int .i64 (IntKind.i64.wrap (a1_12 + a2_1))]] (.bool x241) (by kernel_rfl) (fun w => by kernel_rfl) (fun w hw => sawmilllaw39_wood.calls a1_0 a1_1 a1_2 a1_3 a1_4 a1_5 a1_6 a1_7 a1_8 a1_9 a1_10 a1_11 (IntKind.i64.wrap (a1_12 + a2_1))   _ w   hx241) ?_
                      refine LL.op (.bool (!x241)) (by kernel_rfl) (fun w _ => by kernel_rfl) ?_
                      refine LL.op (.bool (!x241)) (by kernel_rfl) (fun w _ => by kernel_rfl) ?_
                      rcases Bool.eq_false_or_eq_true (x241) with c242 | c242
                      · rw [if_pos (c242)] at H
                        refine LL.bool 96 (!x241) false (by rw [show (!x241) = !(x241) from rfl, c242]; rfl) (by kernel_rfl) ?_
                        refine LL.op (.int .i64 x236_1) (by kernel_rfl) (fun w _ => by kernel_rfl) ?_
                        refine LL.op (.int .i64 x234_1) (by kernel_rfl) (fun w _ => by kernel_rfl) ?_
                        refine LL.op (.bool (decide (x236_1 ≤ x234_1))) (by kernel_rfl) (fun w _ => by kernel_rfl) ?_
                        refine LL.op (.bool (decide (x236_1 ≤ x234_1))) (by kernel_rfl) (fun w _ => by kernel_rfl) ?_
                        rcases Bool.eq_false_or_eq_true (decide (x236_1 ≤ x234_1)) with c243 | c243
                        · rw [if_pos (of_decide_eq_true c243)] at H
                          refine LL.bool 100 (decide (x236_1 ≤ x234_1)) true c243 (by kernel_rfl) ?_
                          refine LL.op (.int .i64 x236_2) (by kernel_rfl) (fun w _ => by kernel_rfl) ?_
                          refine LL.op (.int .i64 x234_2) (by kernel_rfl) (fun w _ => by kernel_rfl) ?_
                          refine LL.op (.bool (decide (x236_2 ≤ x234_2))) (by kernel_rfl) (fun w _ => by kernel_rfl) ?_
                          refine LL.op (.bool (decide (x236_2 ≤ x234_2))) (by kernel_rfl) (fun w _ => by kernel_rfl) ?_
                          refine LL.op (.bool (decide (x236_2 ≤ x234_2))) (by kernel_rfl) (fun w _ => by kernel_rfl) ?_
                          refine LL.op (.bool (decide (x236_2 ≤ x234_2))) (by kernel_rfl) (fun w _ => by kernel_rfl) ?_
                          rcases Bool.eq_false_or_eq_true (decide (x236_2 ≤ x234_2)) with c244 | c244
                          · rw [if_pos (of_decide_eq_true c244)] at H
                            refine LL.bool 106 (decide (x236_2 ≤ x234_2)) true c244 (by kernel_rfl) ?_
                            obtain ⟨x245, hx245, H⟩ := bind_some H
                            refine LL.call 15 #[] (.bool x245) (by kernel_rfl) (fun w => by kernel_rfl) (fun w hw => sawmilllaw39_awake.calls K    _ w   hx245) ?_
                            refine LL.op (.bool x245) (by kernel_rfl) (fun w _ => by kernel_rfl) ?_
                            refine LL.op (.bool x245) (by kernel_rfl) (fun w _ => by kernel_rfl) ?_
                            refine LL.done (s' := [(6, .bool x245)]) [6] (by kernel_rfl) ?_
                            refine NN.then ?_
                            refine J.ret ?_
                            refine NN.fin1 6 (.bool x245) (by kernel_rfl) (by kernel_rfl) (.inl rfl) (fun w hi => hi.ret ?_)
                            first | (cases H; rfl) | (obtain rfl := Option.some.inj H; rfl) | (simp only [Option.some.injEq, Prod.mk.injEq] at H; obtain ⟨rfl⟩ := H; rfl)
                          · rw [if_neg (of_decide_eq_false c244)] at H
                            refine LL.bool 106 (decide (x236_2 ≤ x234_2)) false c244 (by kernel_rfl) ?_
                            refine LL.off (by kernel_rfl) (by kernel_rfl) ?_
                            refine LL.op (.bool false) (by kernel_rfl) (fun w _ => by kernel_rfl) ?_
                            refine LL.op (.bool false) (by kernel_rfl) (fun w _ => by kernel_rfl) ?_
                            refine LL.done (s' := [(6, .bool false)]) [6] (by kernel_rfl) ?_
                            refine NN.then ?_
                            refine J.ret ?_
                            refine NN.fin1 6 (.bool false) (by kernel_rfl) (by kernel_rfl) (.inl rfl) (fun w hi => hi.ret ?_)
                            first | (cases H; rfl) | (obtain rfl := Option.some.inj H; rfl) | (simp only [Option.some.injEq, Prod.mk.injEq] at H; obtain ⟨rfl⟩ := H; rfl)
                        · rw [if_neg (of_decide_eq_false c243)] at H
                          refine LL.bool 100 (decide (x236_1 ≤ x234_1)) false c243 (by kernel_rfl) ?_
                          refine LL.off (by kernel_rfl) (by kernel_rfl) ?_
                          refine LL.off (by kernel_rfl) (by kernel_rfl) ?_
                          refine LL.off (by kernel_rfl) (by kernel_rfl) ?_
                          refine LL.op (.bool false) (by kernel_rfl) (fun w _ => by kernel_rfl) ?_
                          refine LL.op (.bool false) (by kernel_rfl) (fun w _ => by kernel_rfl) ?_
                          refine LL.op (.bool false) (by kernel_rfl) (fun w _ => by kernel_rfl) ?_
                          refine LL.off (by kernel_rfl) (by kernel_rfl) ?_
                          refine LL.op (.bool false) (by kernel_rfl) (fun w _ => by kernel_rfl) ?_
                          refine LL.op (.bool false) (by kernel_rfl) (fun w _ => by kernel_rfl) ?_
                          refine LL.done (s' := [(6, .bool false)]) [6] (by kernel_rfl) ?_
                          refine NN.then ?_
                          refine J.ret ?_
                          refine NN.fin1 6 (.bool false) (by kernel_rfl) (by kernel_rfl) (.inl rfl) (fun w hi => hi.ret ?_)
                          first | (cases H; rfl) | (obtain rfl := Option.some.inj H; rfl) | (simp only [Option.some.injEq, Prod.mk.injEq] at H; obtain ⟨rfl⟩ := H; rfl)
                      · rw [if_neg (nebt c242)] at H
                        refine LL.bool 96 (!x241) true (by rw [show (!x241) = !(x241) from rfl, c242]; rfl) (by kernel_rfl) ?_
                        refine LL.off (by kernel_rfl) (by kernel_rfl) ?_
                        refine LL.off (by kernel_rfl) (by kernel_rfl) ?_
                        refine LL.off (by kernel_rfl) (by kernel_rfl) ?_
                        refine LL.off (by kernel_rfl) (by kernel_rfl) ?_
                        refine LL.off (by kernel_rfl) (by kernel_rfl) ?_
                        refine LL.off (by kernel_rfl) (by kernel_rfl) ?_
                        refine LL.off (by kernel_rfl) (by kernel_rfl) ?_
                        refine LL.off (by kernel_rfl) (by kernel_rfl) ?_
                        refine LL.op (.bool true) (by kernel_rfl) (fun w _ => by kernel_rfl) ?_
                        refine LL.op (.bool true) (by kernel_rfl) (fun w _ => by kernel_rfl) ?_
                        obtain ⟨x246, hx246, H⟩ := bind_some H
                        refine LL.call 15 #[] (.bool x246) (by kernel_rfl) (fun w => by kernel_rfl) (fun w hw => sawmilllaw39_awake.calls K    _ w   hx246) ?_
                        refine LL.op (.bool x246) (by kernel_rfl) (fun w _ => by kernel_rfl) ?_
                        refine LL.op (.bool x246) (by kernel_rfl) (fun w _ => by kernel_rfl) ?_
                        refine LL.done (s' := [(6, .bool x246)]) [6] (by kernel_rfl) ?_
                        refine NN.then ?_
                        refine J.ret ?_
                        refine NN.fin1 6 (.bool x246) (by kernel_rfl) (by kernel_rfl) (.inl rfl) (fun w hi => hi.ret ?_)
                        first | (cases H; rfl) | (obtain rfl := Option.some.inj H; rfl) | (simp only [Option.some.injEq, Prod.mk.injEq] at H; obtain ⟨rfl⟩ := H; rfl)
                · rw [if_neg (nebf c238)] at H
                  refine LL.bool 83 ((x237 == 0)) false c238 (by kernel_rfl) ?_
                  refine LL.off (by kernel_rfl) (by kernel_rfl) ?_
                  refine LL.off (by kernel_rfl) (by kernel_rfl) ?_
                  refine LL.off (by kernel_rfl) (by kernel_rfl) ?_
                  refine LL.off (by kernel_rfl) (by kernel_rfl) ?_
                  refine LL.off (by kernel_rfl) (by kernel_rfl) ?_
                  refine LL.off (by kernel_rfl) (by kernel_rfl) ?_
                  refine LL.off (by kernel_rfl) (by kernel_rfl) ?_
                  refine LL.off (by kernel_rfl) (by kernel_rfl) ?_
                  refine LL.op (.bool false) (by kernel_rfl) (fun w _ => by kernel_rfl) ?_
                  refine LL.done (s' := [(6, .bool false), (8, .pointer (some ⟨g221, 0, none⟩)), (9, .int .i64 x234_1), (10, .int .i64 x234_2), (13, .int .i64 x236_1), (14, .int .i64 x236_2), (92, .bool false)]) [6, 8, 9, 10, 13, 14, 92] (by kernel_rfl) ?_
                  refine NN.then ?_
                  refine J.condF (b := false) rfl (by kernel_rfl) (by kernel_rfl) ?_
                  refine J.skip ?_
                  refine NN.then ?_
                  refine J.seq ?_
                  refine J.plain ?_
                  refine LL.op (.agg #[.string a1_0, .int .i64 a1_1, .int .i64 a1_2, .int .i64 a1_3, .int .i64 a1_4, .int .i64 a1_5, .int .i64 a1_6, .int .i64 a1_7, .int .i64 a1_8, .int .i64 a1_9, .int .i64 a1_10, .int .i64 a1_11, .int .i64 (IntKind.i64.wrap (a1_12 + a2_1))]) (by kernel_rfl) (ld 0 g221 0 rfl (by kernel_rfl) rfl (by kernel_rfl)) ?_
                  obtain ⟨x247, hx247, H⟩ := bind_some H
                  refine LL.call 18 #[.agg #[.string a1_0, .int .i64 a1_1, .int .i64 a1_2, .int .i64 a1_3, .int .i64 a1_4, .int .i64 a1_5, .int .i64 a1_6, .int .i64 a1_7, .int .i64 a1_8, .int .i64 a1_9, .int .i64 a1_10, .int .i64 a1_11, .int .i64 (IntKind.i64.wrap (a1_12 + a2_1))]] (.bool x247) (by kernel_rfl) (fun w => by kernel_rfl) (fun w hw => sawmilllaw39_wood.calls a1_0 a1_1 a1_2 a1_3 a1_4 a1_5 a1_6 a1_7 a1_8 a1_9 a1_10 a1_11 (IntKind.i64.wrap (a1_12 + a2_1))   _ w   hx247) ?_
                  refine LL.op (.bool (!x247)) (by kernel_rfl) (fun w _ => by kernel_rfl) ?_
                  refine LL.op (.bool (!x247)) (by kernel_rfl) (fun w _ => by kernel_rfl) ?_
                  rcases Bool.eq_false_or_eq_true (x247) with c248 | c248
                  · rw [if_pos (c248)] at H
                    refine LL.bool 96 (!x247) false (by rw [show (!x247) = !(x247) from rfl, c248]; rfl) (by kernel_rfl) ?_
                    refine LL.op (.int .i64 x236_1) (by kernel_rfl) (fun w _ => by kernel_rfl) ?_
                    refine LL.op (.int .i64 x234_1) (by kernel_rfl) (fun w _ => by kernel_rfl) ?_
                    refine LL.op (.bool (decide (x236_1 ≤ x234_1))) (by kernel_rfl) (fun w _ => by kernel_rfl) ?_
                    refine LL.op (.bool (decide (x236_1 ≤ x234_1))) (by kernel_rfl) (fun w _ => by kernel_rfl) ?_
                    rcases Bool.eq_false_or_eq_true (decide (x236_1 ≤ x234_1)) with c249 | c249
                    · rw [if_pos (of_decide_eq_true c249)] at H
                      refine LL.bool 100 (decide (x236_1 ≤ x234_1)) true c249 (by kernel_rfl) ?_
                      refine LL.op (.int .i64 x236_2) (by kernel_rfl) (fun w _ => by kernel_rfl) ?_
                      refine LL.op (.int .i64 x234_2) (by kernel_rfl) (fun w _ => by kernel_rfl) ?_
                      refine LL.op (.bool (decide (x236_2 ≤ x234_2))) (by kernel_rfl) (fun w _ => by kernel_rfl) ?_
                      refine LL.op (.bool (decide (x236_2 ≤ x234_2))) (by kernel_rfl) (fun w _ => by kernel_rfl) ?_
                      refine LL.op (.bool (decide (x236_2 ≤ x234_2))) (by kernel_rfl) (fun w _ => by kernel_rfl) ?_
                      refine LL.op (.bool (decide (x236_2 ≤ x234_2))) (by kernel_rfl) (fun w _ => by kernel_rfl) ?_
                      rcases Bool.eq_false_or_eq_true (decide (x236_2 ≤ x234_2)) with c250 | c250
                      · rw [if_pos (of_decide_eq_true c250)] at H
                        refine LL.bool 106 (decide (x236_2 ≤ x234_2)) true c250 (by kernel_rfl) ?_
                        obtain ⟨x251, hx251, H⟩ := bind_some H
                        refine LL.call 15 #[] (.bool x251) (by kernel_rfl) (fun w => by kernel_rfl) (fun w hw => sawmilllaw39_awake.calls K    _ w   hx251) ?_
                        refine LL.op (.bool x251) (by kernel_rfl) (fun w _ => by kernel_rfl) ?_
                        refine LL.op (.bool x251) (by kernel_rfl) (fun w _ => by kernel_rfl) ?_
                        refine LL.done (s' := [(6, .bool x251)]) [6] (by kernel_rfl) ?_
                        refine NN.then ?_
                        refine J.ret ?_
                        refine NN.fin1 6 (.bool x251) (by kernel_rfl) (by kernel_rfl) (.inl rfl) (fun w hi => hi.ret ?_)
                        first | (cases H; rfl) | (obtain rfl := Option.some.inj H; rfl) | (simp only [Option.some.injEq, Prod.mk.injEq] at H; obtain ⟨rfl⟩ := H; rfl)
                      · rw [if_neg (of_decide_eq_false c250)] at H
                        refine LL.bool 106 (decide (x236_2 ≤ x234_2)) false c250 (by kernel_rfl) ?_
                        refine LL.off (by kernel_rfl) (by kernel_rfl) ?_
                        refine LL.op (.bool false) (by kernel_rfl) (fun w _ => by kernel_rfl) ?_
                        refine LL.op (.bool false) (by kernel_rfl) (fun w _ => by kernel_rfl) ?_
                        refine LL.done (s' := [(6, .bool false)]) [6] (by kernel_rfl) ?_
                        refine NN.then ?_
                        refine J.ret ?_
                        refine NN.fin1 6 (.bool false) (by kernel_rfl) (by kernel_rfl) (.inl rfl) (fun w hi => hi.ret ?_)
                        first | (cases H; rfl) | (obtain rfl := Option.some.inj H; rfl) | (simp only [Option.some.injEq, Prod.mk.injEq] at H; obtain ⟨rfl⟩ := H; rfl)
                    · rw [if_neg (of_decide_eq_false c249)] at H
                      refine LL.bool 100 (decide (x236_1 ≤ x234_1)) false c249 (by kernel_rfl) ?_
                      refine LL.off (by kernel_rfl) (by kernel_rfl) ?_
                      refine LL.off (by kernel_rfl) (by kernel_rfl) ?_
                      refine LL.off (by kernel_rfl) (by kernel_rfl) ?_
                      refine LL.op (.bool false) (by kernel_rfl) (fun w _ => by kernel_rfl) ?_
                      refine LL.op (.bool false) (by kernel_rfl) (fun w _ => by kernel_rfl) ?_
                      refine LL.op (.bool false) (by kernel_rfl) (fun w _ => by kernel_rfl) ?_
                      refine LL.off (by kernel_rfl) (by kernel_rfl) ?_
                      refine LL.op (.bool false) (by kernel_rfl) (fun w _ => by kernel_rfl) ?_
                      refine LL.op (.bool false) (by kernel_rfl) (fun w _ => by kernel_rfl) ?_
                      refine LL.done (s' := [(6, .bool false)]) [6] (by kernel_rfl) ?_
                      refine NN.then ?_
                      refine J.ret ?_
                      refine NN.fin1 6 (.bool false) (by kernel_rfl) (by kernel_rfl) (.inl rfl) (fun w hi => hi.ret ?_)
                      first | (cases H; rfl) | (obtain rfl := Option.some.inj H; rfl) | (simp only [Option.some.injEq, Prod.mk.injEq] at H; obtain ⟨rfl⟩ := H; rfl)
                  · rw [if_neg (nebt c248)] at H
                    refine LL.bool 96 (!x247) true (by rw [show (!x247) = !(x247) from rfl, c248]; rfl) (by kernel_rfl) ?_
                    refine LL.off (by kernel_rfl) (by kernel_rfl) ?_
                    refine LL.off (by kernel_rfl) (by kernel_rfl) ?_
                    refine LL.off (by kernel_rfl) (by kernel_rfl) ?_
                    refine LL.off (by kernel_rfl) (by kernel_rfl) ?_
                    refine LL.off (by kernel_rfl) (by kernel_rfl) ?_
                    refine LL.off (by kernel_rfl) (by kernel_rfl) ?_
                    refine LL.off (by kernel_rfl) (by kernel_rfl) ?_
                    refine LL.off (by kernel_rfl) (by kernel_rfl) ?_
                    refine LL.op (.bool true) (by kernel_rfl) (fun w _ => by kernel_rfl) ?_
                    refine LL.op (.bool true) (by kernel_rfl) (fun w _ => by kernel_rfl) ?_
                    obtain ⟨x252, hx252, H⟩ := bind_some H
                    refine LL.call 15 #[] (.bool x252) (by kernel_rfl) (fun w => by kernel_rfl) (fun w hw => sawmilllaw39_awake.calls K    _ w   hx252) ?_
                    refine LL.op (.bool x252) (by kernel_rfl) (fun w _ => by kernel_rfl) ?_
                    refine LL.op (.bool x252) (by kernel_rfl) (fun w _ => by kernel_rfl) ?_
                    refine LL.done (s' := [(6, .bool x252)]) [6] (by kernel_rfl) ?_
                    refine NN.then ?_
                    refine J.ret ?_
                    refine NN.fin1 6 (.bool x252) (by kernel_rfl) (by kernel_rfl) (.inl rfl) (fun w hi => hi.ret ?_)
                    first | (cases H; rfl) | (obtain rfl := Option.some.inj H; rfl) | (simp only [Option.some.injEq, Prod.mk.injEq] at H; obtain ⟨rfl⟩ := H; rfl)
              · rw [if_neg (nebf c233)] at H
                refine J.condT (b := !(x232 == 0)) (by rw [show (!(x232 == 0)) = !((x232 == 0)) from rfl, c233]; rfl) (by kernel_rfl) (by kernel_rfl) ?_
                refine J.seq ?_
                refine J.plain ?_
                obtain ⟨x253, hx253, H⟩ := bind_some H
                refine LL.call 15 #[] (.bool x253) (by kernel_rfl) (fun w => by kernel_rfl) (fun w hw => sawmilllaw39_awake.calls K    _ w   hx253) ?_
                refine LL.op (.bool x253) (by kernel_rfl) (fun w _ => by kernel_rfl) ?_
                refine LL.done (s' := [(3, .pointer (some ⟨g217, 0, none⟩)), (4, .pointer (some ⟨g218, 0, none⟩)), (5, .pointer (some ⟨g219, 0, none⟩)), (6, .bool x253), (7, .pointer (some ⟨g220, 0, none⟩)), (8, .pointer (some ⟨g221, 0, none⟩))]) [3, 4, 5, 6, 7, 8] (by kernel_rfl) ?_
                refine NN.then ?_
                refine J.ret ?_
                refine NN.then_ret ?_
                refine NN.fin1 6 (.bool x253) (by kernel_rfl) (by kernel_rfl) (.inl rfl) (fun w hi => hi.ret ?_)
                first | (cases H; rfl) | (obtain rfl := Option.some.inj H; rfl) | (simp only [Option.some.injEq, Prod.mk.injEq] at H; obtain ⟨rfl⟩ := H; rfl)
            · rw [if_neg (nebt c231)] at H
              refine LL.bool 40 (!x230) true (by rw [show (!x230) = !(x230) from rfl, c231]; rfl) (by kernel_rfl) ?_
              refine LL.off (by kernel_rfl) (by kernel_rfl) ?_
              refine LL.off (by kernel_rfl) (by kernel_rfl) ?_
              refine LL.off (by kernel_rfl) (by kernel_rfl) ?_
              refine LL.off (by kernel_rfl) (by kernel_rfl) ?_
              refine LL.op (.bool true) (by kernel_rfl) (fun w _ => by kernel_rfl) ?_
              refine LL.done (s' := [(3, .pointer (some ⟨g217, 0, none⟩)), (4, .pointer (some ⟨g218, 0, none⟩)), (5, .pointer (some ⟨g219, 0, none⟩)), (6, .bool false), (7, .pointer (some ⟨g220, 0, none⟩)), (8, .pointer (some ⟨g221, 0, none⟩)), (45, .bool true)]) [3, 4, 5, 6, 7, 8, 45] (by kernel_rfl) ?_
              refine NN.then ?_
              refine J.condT (b := true) rfl (by kernel_rfl) (by kernel_rfl) ?_
              refine J.seq ?_
              refine J.plain ?_
              obtain ⟨x254, hx254, H⟩ := bind_some H
              refine LL.call 15 #[] (.bool x254) (by kernel_rfl) (fun w => by kernel_rfl) (fun w hw => sawmilllaw39_awake.calls K    _ w   hx254) ?_
              refine LL.op (.bool x254) (by kernel_rfl) (fun w _ => by kernel_rfl) ?_
              refine LL.done (s' := [(3, .pointer (some ⟨g217, 0, none⟩)), (4, .pointer (some ⟨g218, 0, none⟩)), (5, .pointer (some ⟨g219, 0, none⟩)), (6, .bool x254), (7, .pointer (some ⟨g220, 0, none⟩)), (8, .pointer (some ⟨g221, 0, none⟩))]) [3, 4, 5, 6, 7, 8] (by kernel_rfl) ?_
              refine NN.then ?_
              refine J.ret ?_
              refine NN.then_ret ?_
              refine NN.fin1 6 (.bool x254) (by kernel_rfl) (by kernel_rfl) (.inl rfl) (fun w hi => hi.ret ?_)
              first | (cases H; rfl) | (obtain rfl := Option.some.inj H; rfl) | (simp only [Option.some.injEq, Prod.mk.injEq] at H; obtain ⟨rfl⟩ := H; rfl)
  · skip
    refine HS.alloc 35 [.string (⟨#[]⟩ : ByteArray), .int .i64 0, .int .i64 0, .int .i64 0, .int .i64 0, .int .i64 0, .int .i64 0, .int .i64 0, .int .i64 0, .int .i64 0, .int .i64 0, .int .i64 0, .int .i64 0] rfl (by kernel_rfl) rfl (by kernel_rfl) (fun _ h => h) (fun g255 => ?_)
    refine HH.all1 2 (by kernel_rfl) ?_
    refine HS.alloc 30 [.string (⟨#[]⟩ : ByteArray), .string (⟨#[]⟩ : ByteArray), .string (⟨#[]⟩ : ByteArray), .int .i64 0, .int .i64 0, .int .i64 0, .int .i64 0, .int .i64 0, .int .i64 0, .int .i64 0, .int .i64 0, .slice none 0 0, .int .i64 0, .int .i64 0, .int .i64 0, .int .i64 0, .bool false, .int .i64 0] rfl (by kernel_rfl) rfl (by kernel_rfl) (fun _ h => h.sub (List.Sublist.cons _ (List.Sublist.refl _))) (fun g256 => ?_)
    refine HH.all1 4 (by kernel_rfl) ?_
    refine HS.store 0 g256 0 30 (.tmp 7) (.tmp 15) [.string a0_0, .string a0_1, .string a0_2, .int .i64 a0_3, .int .i64 a0_4, .int .i64 a0_5, .int .i64 a0_6, .int .i64 a0_7, .int .i64 a0_8, .int .i64 a0_9, .int .i64 a0_10, .slice Aa0_11 na0_11 ca0_11, .int .i64 a0_12, .int .i64 a0_13, .int .i64 a0_14, .int .i64 a0_15, .bool a0_16, .int .i64 a0_17] (bs' := [(g256, cl [.string a0_0, .string a0_1, .string a0_2, .int .i64 a0_3, .int .i64 a0_4, .int .i64 a0_5, .int .i64 a0_6, .int .i64 a0_7, .int .i64 a0_8, .int .i64 a0_9, .int .i64 a0_10, .slice Aa0_11 na0_11 ca0_11, .int .i64 a0_12, .int .i64 a0_13, .int .i64 a0_14, .int .i64 a0_15, .bool a0_16, .int .i64 a0_17] 30), (g255, cl [.string (⟨#[]⟩ : ByteArray), .int .i64 0, .int .i64 0, .int .i64 0, .int .i64 0, .int .i64 0, .int .i64 0, .int .i64 0, .int .i64 0, .int .i64 0, .int .i64 0, .int .i64 0, .int .i64 0] 35), (g219, cl [.int .i64 a2_0, .int .i64 a2_1] 43), (g218, cl [.string a1_0, .int .i64 a1_1, .int .i64 a1_2, .int .i64 a1_3, .int .i64 a1_4, .int .i64 a1_5, .int .i64 a1_6, .int .i64 a1_7, .int .i64 a1_8, .int .i64 a1_9, .int .i64 a1_10, .int .i64 a1_11, .int .i64 a1_12] 35), (g217, cl [.string a0_0, .string a0_1, .string a0_2, .int .i64 a0_3, .int .i64 a0_4, .int .i64 a0_5, .int .i64 a0_6, .int .i64 a0_7, .int .i64 a0_8, .int .i64 a0_9, .int .i64 a0_10, .slice Aa0_11 na0_11 ca0_11, .int .i64 a0_12, .int .i64 a0_13, .int .i64 a0_14, .int .i64 a0_15, .bool a0_16, .int .i64 a0_17] 30)]) rfl rfl (by kernel_rfl) rfl (by kernel_rfl) rfl (by kernel_rfl) (fun _ h => h.sub (List.Sublist.cons _ (List.Sublist.cons _ (List.Sublist.refl _)))) ?_
    refine HH.all1 5 (by kernel_rfl) ?_
    refine HS.store 1 g255 0 35 (.tmp 8) (.tmp 16) [.string a1_0, .int .i64 a1_1, .int .i64 a1_2, .int .i64 a1_3, .int .i64 a1_4, .int .i64 a1_5, .int .i64 a1_6, .int .i64 a1_7, .int .i64 a1_8, .int .i64 a1_9, .int .i64 a1_10, .int .i64 a1_11, .int .i64 a1_12] (bs' := [(g256, cl [.string a0_0, .string a0_1, .string a0_2, .int .i64 a0_3, .int .i64 a0_4, .int .i64 a0_5, .int .i64 a0_6, .int .i64 a0_7, .int .i64 a0_8, .int .i64 a0_9, .int .i64 a0_10, .slice Aa0_11 na0_11 ca0_11, .int .i64 a0_12, .int .i64 a0_13, .int .i64 a0_14, .int .i64 a0_15, .bool a0_16, .int .i64 a0_17] 30), (g255, cl [.string a1_0, .int .i64 a1_1, .int .i64 a1_2, .int .i64 a1_3, .int .i64 a1_4, .int .i64 a1_5, .int .i64 a1_6, .int .i64 a1_7, .int .i64 a1_8, .int .i64 a1_9, .int .i64 a1_10, .int .i64 a1_11, .int .i64 a1_12] 35), (g219, cl [.int .i64 a2_0, .int .i64 a2_1] 43), (g218, cl [.string a1_0, .int .i64 a1_1, .int .i64 a1_2, .int .i64 a1_3, .int .i64 a1_4, .int .i64 a1_5, .int .i64 a1_6, .int .i64 a1_7, .int .i64 a1_8, .int .i64 a1_9, .int .i64 a1_10, .int .i64 a1_11, .int .i64 a1_12] 35), (g217, cl [.string a0_0, .string a0_1, .string a0_2, .int .i64 a0_3, .int .i64 a0_4, .int .i64 a0_5, .int .i64 a0_6, .int .i64 a0_7, .int .i64 a0_8, .int .i64 a0_9, .int .i64 a0_10, .slice Aa0_11 na0_11 ca0_11, .int .i64 a0_12, .int .i64 a0_13, .int .i64 a0_14, .int .i64 a0_15, .bool a0_16, .int .i64 a0_17] 30)]) rfl rfl (by kernel_rfl) rfl (by kernel_rfl) rfl (by kernel_rfl) (fun _ h => h.sub (List.Sublist.cons _ (List.Sublist.cons _ (List.Sublist.refl _)))) ?_
    refine HH.done (s' := [(3, .pointer (some ⟨g217, 0, none⟩)), (4, .pointer (some ⟨g218, 0, none⟩)), (5, .pointer (some ⟨g219, 0, none⟩)), (6, .bool false), (7, .pointer (some ⟨g256, 0, none⟩)), (8, .pointer (some ⟨g255, 0, none⟩))]) [3, 4, 5, 6, 7, 8] (by kernel_rfl) (by kernel_rfl) ?_
    refine NN.then ?_
    refine J.seq ?_
    refine J.seq ?_
    refine J.plain ?_
    refine LL.op (.pointer (some ⟨g219, 0, none⟩)) (by kernel_rfl) (fun w _ => by kernel_rfl) ?_
    refine LL.op (.int .i64 a2_0) (by kernel_rfl) (ld 2 g219 0 rfl (by kernel_rfl) rfl (by kernel_rfl)) ?_
    refine LL.op (.bool (decide (a2_0 < 0))) (by kernel_rfl) (fun w _ => by kernel_rfl) ?_
    refine LL.op (.bool (decide (a2_0 < 0))) (by kernel_rfl) (fun w _ => by kernel_rfl) ?_
    rcases Bool.eq_false_or_eq_true (decide (a2_0 < 0)) with c257 | c257
    · rw [if_pos (of_decide_eq_true c257)] at H
      refine LL.bool 20 (decide (a2_0 < 0)) true c257 (by kernel_rfl) ?_
      refine LL.off (by kernel_rfl) (by kernel_rfl) ?_
      refine LL.off (by kernel_rfl) (by kernel_rfl) ?_
      refine LL.off (by kernel_rfl) (by kernel_rfl) ?_
      refine LL.op (.bool true) (by kernel_rfl) (fun w _ => by kernel_rfl) ?_
      refine LL.op (.bool true) (by kernel_rfl) (fun w _ => by kernel_rfl) ?_
      refine LL.off (by kernel_rfl) (by kernel_rfl) ?_
      refine LL.off (by kernel_rfl) (by kernel_rfl) ?_
      refine LL.off (by kernel_rfl) (by kernel_rfl) ?_
      refine LL.op (.bool true) (by kernel_rfl) (fun w _ => by kernel_rfl) ?_
      refine LL.op (.bool true) (by kernel_rfl) (fun w _ => by kernel_rfl) ?_
      refine LL.off (by kernel_rfl) (by kernel_rfl) ?_
      refine LL.off (by kernel_rfl) (by kernel_rfl) ?_
      refine LL.off (by kernel_rfl) (by kernel_rfl) ?_
      refine LL.op (.bool true) (by kernel_rfl) (fun w _ => by kernel_rfl) ?_
      refine LL.op (.bool true) (by kernel_rfl) (fun w _ => by kernel_rfl) ?_
      refine LL.off (by kernel_rfl) (by kernel_rfl) ?_
      refine LL.off (by kernel_rfl) (by kernel_rfl) ?_
      refine LL.off (by kernel_rfl) (by kernel_rfl) ?_
      refine LL.op (.bool true) (by kernel_rfl) (fun w _ => by kernel_rfl) ?_
      refine LL.op (.bool true) (by kernel_rfl) (fun w _ => by kernel_rfl) ?_
      refine LL.off (by kernel_rfl) (by kernel_rfl) ?_
      refine LL.off (by kernel_rfl) (by kernel_rfl) ?_
      refine LL.off (by kernel_rfl) (by kernel_rfl) ?_
      refine LL.off (by kernel_rfl) (by kernel_rfl) ?_
      refine LL.op (.bool true) (by kernel_rfl) (fun w _ => by kernel_rfl) ?_
      refine LL.done (s' := [(3, .pointer (some ⟨g217, 0, none⟩)), (4, .pointer (some ⟨g218, 0, none⟩)), (5, .pointer (some ⟨g219, 0, none⟩)), (6, .bool false), (7, .pointer (some ⟨g256, 0, none⟩)), (8, .pointer (some ⟨g255, 0, none⟩)), (45, .bool true)]) [3, 4, 5, 6, 7, 8, 45] (by kernel_rfl) ?_
      refine NN.then ?_
      refine J.condT (b := true) rfl (by kernel_rfl) (by kernel_rfl) ?_
      refine J.seq ?_
      refine J.plain ?_
      obtain ⟨x258, hx258, H⟩ := bind_some H
      refine LL.call 15 #[] (.bool x258) (by kernel_rfl) (fun w => by kernel_rfl) (fun w hw => sawmilllaw39_awake.calls K    _ w   hx258) ?_
      refine LL.op (.bool x258) (by kernel_rfl) (fun w _ => by kernel_rfl) ?_
      refine LL.done (s' := [(3, .pointer (some ⟨g217, 0, none⟩)), (4, .pointer (some ⟨g218, 0, none⟩)), (5, .pointer (some ⟨g219, 0, none⟩)), (6, .bool x258), (7, .pointer (some ⟨g256, 0, none⟩)), (8, .pointer (some ⟨g255, 0, none⟩))]) [3, 4, 5, 6, 7, 8] (by kernel_rfl) ?_
      refine NN.then ?_
      refine J.ret ?_
      refine NN.then_ret ?_
      refine NN.fin1 6 (.bool x258) (by kernel_rfl) (by kernel_rfl) (.inl rfl) (fun w hi => hi.ret ?_)
      first | (cases H; rfl) | (obtain rfl := Option.some.inj H; rfl) | (simp only [Option.some.injEq, Prod.mk.injEq] at H; obtain ⟨rfl⟩ := H; rfl)
    · rw [if_neg (of_decide_eq_false c257)] at H
      refine LL.bool 20 (decide (a2_0 < 0)) false c257 (by kernel_rfl) ?_
      refine LL.op (.pointer (some ⟨g219, 0, none⟩)) (by kernel_rfl) (fun w _ => by kernel_rfl) ?_
      refine LL.op (.int .i64 a2_0) (by kernel_rfl) (ld 2 g219 0 rfl (by kernel_rfl) rfl (by kernel_rfl)) ?_
      refine LL.op (.bool (decide (20000 < a2_0))) (by kernel_rfl) (fun w _ => by kernel_rfl) ?_
      refine LL.op (.bool (decide (20000 < a2_0))) (by kernel_rfl) (fun w _ => by kernel_rfl) ?_
      refine LL.op (.bool (decide (20000 < a2_0))) (by kernel_rfl) (fun w _ => by kernel_rfl) ?_
      rcases Bool.eq_false_or_eq_true (decide (20000 < a2_0)) with c259 | c259
      · rw [if_pos (of_decide_eq_true c259)] at H
        refine LL.bool 25 (decide (20000 < a2_0)) true c259 (by kernel_rfl) ?_
        refine LL.off (by kernel_rfl) (by kernel_rfl) ?_
        refine LL.off (by kernel_rfl) (by kernel_rfl) ?_
        refine LL.off (by kernel_rfl) (by kernel_rfl) ?_
        refine LL.op (.bool true) (by kernel_rfl) (fun w _ => by kernel_rfl) ?_
        refine LL.op (.bool true) (by kernel_rfl) (fun w _ => by kernel_rfl) ?_
        refine LL.off (by kernel_rfl) (by kernel_rfl) ?_
        refine LL.off (by kernel_rfl) (by kernel_rfl) ?_
        refine LL.off (by kernel_rfl) (by kernel_rfl) ?_
        refine LL.op (.bool true) (by kernel_rfl) (fun w _ => by kernel_rfl) ?_
        refine LL.op (.bool true) (by kernel_rfl) (fun w _ => by kernel_rfl) ?_
        refine LL.off (by kernel_rfl) (by kernel_rfl) ?_
        refine LL.off (by kernel_rfl) (by kernel_rfl) ?_
        refine LL.off (by kernel_rfl) (by kernel_rfl) ?_
        refine LL.op (.bool true) (by kernel_rfl) (fun w _ => by kernel_rfl) ?_
        refine LL.op (.bool true) (by kernel_rfl) (fun w _ => by kernel_rfl) ?_
        refine LL.off (by kernel_rfl) (by kernel_rfl) ?_
        refine LL.off (by kernel_rfl) (by kernel_rfl) ?_
        refine LL.off (by kernel_rfl) (by kernel_rfl) ?_
        refine LL.off (by kernel_rfl) (by kernel_rfl) ?_
        refine LL.op (.bool true) (by kernel_rfl) (fun w _ => by kernel_rfl) ?_
        refine LL.done (s' := [(3, .pointer (some ⟨g217, 0, none⟩)), (4, .pointer (some ⟨g218, 0, none⟩)), (5, .pointer (some ⟨g219, 0, none⟩)), (6, .bool false), (7, .pointer (some ⟨g256, 0, none⟩)), (8, .pointer (some ⟨g255, 0, none⟩)), (45, .bool true)]) [3, 4, 5, 6, 7, 8, 45] (by kernel_rfl) ?_
        refine NN.then ?_
        refine J.condT (b := true) rfl (by kernel_rfl) (by kernel_rfl) ?_
        refine J.seq ?_
        refine J.plain ?_
        obtain ⟨x260, hx260, H⟩ := bind_some H
        refine LL.call 15 #[] (.bool x260) (by kernel_rfl) (fun w => by kernel_rfl) (fun w hw => sawmilllaw39_awake.calls K    _ w   hx260) ?_
        refine LL.op (.bool x260) (by kernel_rfl) (fun w _ => by kernel_rfl) ?_
        refine LL.done (s' := [(3, .pointer (some ⟨g217, 0, none⟩)), (4, .pointer (some ⟨g218, 0, none⟩)), (5, .pointer (some ⟨g219, 0, none⟩)), (6, .bool x260), (7, .pointer (some ⟨g256, 0, none⟩)), (8, .pointer (some ⟨g255, 0, none⟩))]) [3, 4, 5, 6, 7, 8] (by kernel_rfl) ?_
        refine NN.then ?_
        refine J.ret ?_
        refine NN.then_ret ?_
        refine NN.fin1 6 (.bool x260) (by kernel_rfl) (by kernel_rfl) (.inl rfl) (fun w hi => hi.ret ?_)
        first | (cases H; rfl) | (obtain rfl := Option.some.inj H; rfl) | (simp only [Option.some.injEq, Prod.mk.injEq] at H; obtain ⟨rfl⟩ := H; rfl)
      · rw [if_neg (of_decide_eq_false c259)] at H
        refine LL.bool 25 (decide (20000 < a2_0)) false c259 (by kernel_rfl) ?_
        refine LL.op (.pointer (some ⟨g219, 1, none⟩)) (by kernel_rfl) (fun w _ => by kernel_rfl) ?_
        refine LL.op (.int .i64 a2_1) (by kernel_rfl) (ld 2 g219 1 rfl (by kernel_rfl) rfl (by kernel_rfl)) ?_
        refine LL.op (.bool (decide (a2_1 < 0))) (by kernel_rfl) (fun w _ => by kernel_rfl) ?_
        refine LL.op (.bool (decide (a2_1 < 0))) (by kernel_rfl) (fun w _ => by kernel_rfl) ?_
        refine LL.op (.bool (decide (a2_1 < 0))) (by kernel_rfl) (fun w _ => by kernel_rfl) ?_
        rcases Bool.eq_false_or_eq_true (decide (a2_1 < 0)) with c261 | c261
        · rw [if_pos (of_decide_eq_true c261)] at H
          refine LL.bool 30 (decide (a2_1 < 0)) true c261 (by kernel_rfl) ?_
          refine LL.off (by kernel_rfl) (by kernel_rfl) ?_
          refine LL.off (by kernel_rfl) (by kernel_rfl) ?_
          refine LL.off (by kernel_rfl) (by kernel_rfl) ?_
          refine LL.op (.bool true) (by kernel_rfl) (fun w _ => by kernel_rfl) ?_
          refine LL.op (.bool true) (by kernel_rfl) (fun w _ => by kernel_rfl) ?_
          refine LL.off (by kernel_rfl) (by kernel_rfl) ?_
          refine LL.off (by kernel_rfl) (by kernel_rfl) ?_
          refine LL.off (by kernel_rfl) (by kernel_rfl) ?_
          refine LL.op (.bool true) (by kernel_rfl) (fun w _ => by kernel_rfl) ?_
          refine LL.op (.bool true) (by kernel_rfl) (fun w _ => by kernel_rfl) ?_
          refine LL.off (by kernel_rfl) (by kernel_rfl) ?_
          refine LL.off (by kernel_rfl) (by kernel_rfl) ?_
          refine LL.off (by kernel_rfl) (by kernel_rfl) ?_
          refine LL.off (by kernel_rfl) (by kernel_rfl) ?_
          refine LL.op (.bool true) (by kernel_rfl) (fun w _ => by kernel_rfl) ?_
          refine LL.done (s' := [(3, .pointer (some ⟨g217, 0, none⟩)), (4, .pointer (some ⟨g218, 0, none⟩)), (5, .pointer (some ⟨g219, 0, none⟩)), (6, .bool false), (7, .pointer (some ⟨g256, 0, none⟩)), (8, .pointer (some ⟨g255, 0, none⟩)), (45, .bool true)]) [3, 4, 5, 6, 7, 8, 45] (by kernel_rfl) ?_
          refine NN.then ?_
          refine J.condT (b := true) rfl (by kernel_rfl) (by kernel_rfl) ?_
          refine J.seq ?_
          refine J.plain ?_
          obtain ⟨x262, hx262, H⟩ := bind_some H
          refine LL.call 15 #[] (.bool x262) (by kernel_rfl) (fun w => by kernel_rfl) (fun w hw => sawmilllaw39_awake.calls K    _ w   hx262) ?_
          refine LL.op (.bool x262) (by kernel_rfl) (fun w _ => by kernel_rfl) ?_
          refine LL.done (s' := [(3, .pointer (some ⟨g217, 0, none⟩)), (4, .pointer (some ⟨g218, 0, none⟩)), (5, .pointer (some ⟨g219, 0, none⟩)), (6, .bool x262), (7, .pointer (some ⟨g256, 0, none⟩)), (8, .pointer (some ⟨g255, 0, none⟩))]) [3, 4, 5, 6, 7, 8] (by kernel_rfl) ?_
          refine NN.then ?_
          refine J.ret ?_
          refine NN.then_ret ?_
          refine NN.fin1 6 (.bool x262) (by kernel_rfl) (by kernel_rfl) (.inl rfl) (fun w hi => hi.ret ?_)
          first | (cases H; rfl) | (obtain rfl := Option.some.inj H; rfl) | (simp only [Option.some.injEq, Prod.mk.injEq] at H; obtain ⟨rfl⟩ := H; rfl)
        · rw [if_neg (of_decide_eq_false c261)] at H
          refine LL.bool 30 (decide (a2_1 < 0)) false c261 (by kernel_rfl) ?_
          refine LL.op (.pointer (some ⟨g219, 1, none⟩)) (by kernel_rfl) (fun w _ => by kernel_rfl) ?_
          refine LL.op (.int .i64 a2_1) (by kernel_rfl) (ld 2 g219 1 rfl (by kernel_rfl) rfl (by kernel_rfl)) ?_
          refine LL.op (.bool (decide (200 < a2_1))) (by kernel_rfl) (fun w _ => by kernel_rfl) ?_
          refine LL.op (.bool (decide (200 < a2_1))) (by kernel_rfl) (fun w _ => by kernel_rfl) ?_
          refine LL.op (.bool (decide (200 < a2_1))) (by kernel_rfl) (fun w _ => by kernel_rfl) ?_
          rcases Bool.eq_false_or_eq_true (decide (200 < a2_1)) with c263 | c263
          · rw [if_pos (of_decide_eq_true c263)] at H
            refine LL.bool 35 (decide (200 < a2_1)) true c263 (by kernel_rfl) ?_
            refine LL.off (by kernel_rfl) (by kernel_rfl) ?_
            refine LL.off (by kernel_rfl) (by kernel_rfl) ?_
            refine LL.off (by kernel_rfl) (by kernel_rfl) ?_
            refine LL.op (.bool true) (by kernel_rfl) (fun w _ => by kernel_rfl) ?_
            refine LL.op (.bool true) (by kernel_rfl) (fun w _ => by kernel_rfl) ?_
            refine LL.off (by kernel_rfl) (by kernel_rfl) ?_
            refine LL.off (by kernel_rfl) (by kernel_rfl) ?_
            refine LL.off (by kernel_rfl) (by kernel_rfl) ?_
            refine LL.off (by kernel_rfl) (by kernel_rfl) ?_
            refine LL.op (.bool true) (by kernel_rfl) (fun w _ => by kernel_rfl) ?_
            refine LL.done (s' := [(3, .pointer (some ⟨g217, 0, none⟩)), (4, .pointer (some ⟨g218, 0, none⟩)), (5, .pointer (some ⟨g219, 0, none⟩)), (6, .bool false), (7, .pointer (some ⟨g256, 0, none⟩)), (8, .pointer (some ⟨g255, 0, none⟩)), (45, .bool true)]) [3, 4, 5, 6, 7, 8, 45] (by kernel_rfl) ?_
            refine NN.then ?_
            refine J.condT (b := true) rfl (by kernel_rfl) (by kernel_rfl) ?_
            refine J.seq ?_
            refine J.plain ?_
            obtain ⟨x264, hx264, H⟩ := bind_some H
            refine LL.call 15 #[] (.bool x264) (by kernel_rfl) (fun w => by kernel_rfl) (fun w hw => sawmilllaw39_awake.calls K    _ w   hx264) ?_
            refine LL.op (.bool x264) (by kernel_rfl) (fun w _ => by kernel_rfl) ?_
            refine LL.done (s' := [(3, .pointer (some ⟨g217, 0, none⟩)), (4, .pointer (some ⟨g218, 0, none⟩)), (5, .pointer (some ⟨g219, 0, none⟩)), (6, .bool x264), (7, .pointer (some ⟨g256, 0, none⟩)), (8, .pointer (some ⟨g255, 0, none⟩))]) [3, 4, 5, 6, 7, 8] (by kernel_rfl) ?_
            refine NN.then ?_
            refine J.ret ?_
            refine NN.then_ret ?_
            refine NN.fin1 6 (.bool x264) (by kernel_rfl) (by kernel_rfl) (.inl rfl) (fun w hi => hi.ret ?_)
            first | (cases H; rfl) | (obtain rfl := Option.some.inj H; rfl) | (simp only [Option.some.injEq, Prod.mk.injEq] at H; obtain ⟨rfl⟩ := H; rfl)
          · rw [if_neg (of_decide_eq_false c263)] at H
            refine LL.bool 35 (decide (200 < a2_1)) false c263 (by kernel_rfl) ?_
            refine LL.op (.agg #[.string a1_0, .int .i64 a1_1, .int .i64 a1_2, .int .i64 a1_3, .int .i64 a1_4, .int .i64 a1_5, .int .i64 a1_6, .int .i64 a1_7, .int .i64 a1_8, .int .i64 a1_9, .int .i64 a1_10, .int .i64 a1_11, .int .i64 a1_12]) (by kernel_rfl) (ld 3 g218 0 rfl (by kernel_rfl) rfl (by kernel_rfl)) ?_
            obtain ⟨x265, hx265, H⟩ := bind_some H
            refine LL.call 18 #[.agg #[.string a1_0, .int .i64 a1_1, .int .i64 a1_2, .int .i64 a1_3, .int .i64 a1_4, .int .i64 a1_5, .int .i64 a1_6, .int .i64 a1_7, .int .i64 a1_8, .int .i64 a1_9, .int .i64 a1_10, .int .i64 a1_11, .int .i64 a1_12]] (.bool x265) (by kernel_rfl) (fun w => by kernel_rfl) (fun w hw => sawmilllaw39_wood.calls a1_0 a1_1 a1_2 a1_3 a1_4 a1_5 a1_6 a1_7 a1_8 a1_9 a1_10 a1_11 a1_12   _ w   hx265) ?_
            refine LL.op (.bool (!x265)) (by kernel_rfl) (fun w _ => by kernel_rfl) ?_
            refine LL.op (.bool (!x265)) (by kernel_rfl) (fun w _ => by kernel_rfl) ?_
            refine LL.op (.bool (!x265)) (by kernel_rfl) (fun w _ => by kernel_rfl) ?_
            rcases Bool.eq_false_or_eq_true (x265) with c266 | c266
            · rw [if_pos (c266)] at H
              refine LL.bool 40 (!x265) false (by rw [show (!x265) = !(x265) from rfl, c266]; rfl) (by kernel_rfl) ?_
              refine LL.op (.pointer (some ⟨g217, 13, none⟩)) (by kernel_rfl) (fun w _ => by kernel_rfl) ?_
              refine LL.op (.agg #[.int .i64 a0_13, .int .i64 a0_14, .int .i64 a0_15]) (by kernel_rfl) (ld 4 g217 13 rfl (by kernel_rfl) rfl (by kernel_rfl)) ?_
              obtain ⟨x267, hx267, H⟩ := bind_some H
              refine LL.call 19 #[.agg #[.int .i64 a0_13, .int .i64 a0_14, .int .i64 a0_15]] (.int .i64 x267) (by kernel_rfl) (fun w => by kernel_rfl) (fun w hw => moist_Check.calls a0_13 a0_14 a0_15   _ w   hx267) ?_
              refine LL.op (.bool (!(x267 == 0))) (by kernel_rfl) (fun w _ => by kernel_rfl) ?_
              refine LL.op (.bool (!(x267 == 0))) (by kernel_rfl) (fun w _ => by kernel_rfl) ?_
              refine LL.done (s' := [(3, .pointer (some ⟨g217, 0, none⟩)), (4, .pointer (some ⟨g218, 0, none⟩)), (5, .pointer (some ⟨g219, 0, none⟩)), (6, .bool false), (7, .pointer (some ⟨g256, 0, none⟩)), (8, .pointer (some ⟨g255, 0, none⟩)), (45, .bool (!(x267 == 0)))]) [3, 4, 5, 6, 7, 8, 45] (by kernel_rfl) ?_
              refine NN.then ?_
              rcases Bool.eq_false_or_eq_true ((x267 == 0)) with c268 | c268
              · rw [if_pos (eq_of_beq c268)] at H
                refine J.condF (b := !(x267 == 0)) (by rw [show (!(x267 == 0)) = !((x267 == 0)) from rfl, c268]; rfl) (by kernel_rfl) (by kernel_rfl) ?_
                refine J.skip ?_
                refine NN.then ?_
                refine J.seq ?_
                refine J.plain ?_
                refine LL.op (.pointer (some ⟨g217, 13, none⟩)) (by kernel_rfl) (fun w _ => by kernel_rfl) ?_
                refine LL.op (.pointer (some ⟨g217, 14, none⟩)) (by kernel_rfl) (fun w _ => by kernel_rfl) ?_
                refine LL.op (.int .i64 a0_14) (by kernel_rfl) (ld 4 g217 14 rfl (by kernel_rfl) rfl (by kernel_rfl)) ?_
                refine LL.op (.pointer (some ⟨g219, 0, none⟩)) (by kernel_rfl) (fun w _ => by kernel_rfl) ?_
                refine LL.op (.int .i64 a2_0) (by kernel_rfl) (ld 2 g219 0 rfl (by kernel_rfl) rfl (by kernel_rfl)) ?_
                refine LL.op (.int .i64 (IntKind.i64.wrap (a0_14 + a2_0))) (by kernel_rfl) (fun w _ => by kernel_rfl) ?_
                refine LL.op (.pointer (some ⟨g256, 13, none⟩)) (by kernel_rfl) (fun w _ => by kernel_rfl) ?_
                refine LL.op (.pointer (some ⟨g256, 14, none⟩)) (by kernel_rfl) (fun w _ => by kernel_rfl) ?_
                refine LL.store 0 g256 14 3 (.tmp 54) (.tmp 52) [.string a0_0, .string a0_1, .string a0_2, .int .i64 a0_3, .int .i64 a0_4, .int .i64 a0_5, .int .i64 a0_6, .int .i64 a0_7, .int .i64 a0_8, .int .i64 a0_9, .int .i64 a0_10, .slice Aa0_11 na0_11 ca0_11, .int .i64 a0_12, .int .i64 a0_13, .int .i64 (IntKind.i64.wrap (a0_14 + a2_0)), .int .i64 a0_15, .bool a0_16, .int .i64 a0_17] (bs' := [(g256, cl [.string a0_0, .string a0_1, .string a0_2, .int .i64 a0_3, .int .i64 a0_4, .int .i64 a0_5, .int .i64 a0_6, .int .i64 a0_7, .int .i64 a0_8, .int .i64 a0_9, .int .i64 a0_10, .slice Aa0_11 na0_11 ca0_11, .int .i64 a0_12, .int .i64 a0_13, .int .i64 (IntKind.i64.wrap (a0_14 + a2_0)), .int .i64 a0_15, .bool a0_16, .int .i64 a0_17] 30), (g255, cl [.string a1_0, .int .i64 a1_1, .int .i64 a1_2, .int .i64 a1_3, .int .i64 a1_4, .int .i64 a1_5, .int .i64 a1_6, .int .i64 a1_7, .int .i64 a1_8, .int .i64 a1_9, .int .i64 a1_10, .int .i64 a1_11, .int .i64 a1_12] 35), (g219, cl [.int .i64 a2_0, .int .i64 a2_1] 43), (g218, cl [.string a1_0, .int .i64 a1_1, .int .i64 a1_2, .int .i64 a1_3, .int .i64 a1_4, .int .i64 a1_5, .int .i64 a1_6, .int .i64 a1_7, .int .i64 a1_8, .int .i64 a1_9, .int .i64 a1_10, .int .i64 a1_11, .int .i64 a1_12] 35), (g217, cl [.string a0_0, .string a0_1, .string a0_2, .int .i64 a0_3, .int .i64 a0_4, .int .i64 a0_5, .int .i64 a0_6, .int .i64 a0_7, .int .i64 a0_8, .int .i64 a0_9, .int .i64 a0_10, .slice Aa0_11 na0_11 ca0_11, .int .i64 a0_12, .int .i64 a0_13, .int .i64 a0_14, .int .i64 a0_15, .bool a0_16, .int .i64 a0_17] 30)]) rfl (by kernel_rfl) rfl (by kernel_rfl) rfl (by kernel_rfl) ?_
                refine LL.done (s' := [(3, .pointer (some ⟨g217, 0, none⟩)), (4, .pointer (some ⟨g218, 0, none⟩)), (5, .pointer (some ⟨g219, 0, none⟩)), (6, .bool false), (7, .pointer (some ⟨g256, 0, none⟩)), (8, .pointer (some ⟨g255, 0, none⟩))]) [3, 4, 5, 6, 7, 8] (by kernel_rfl) ?_
                refine NN.then ?_
                refine J.seq ?_
                refine J.plain ?_
                refine LL.op (.pointer (some ⟨g218, 12, none⟩)) (by kernel_rfl) (fun w _ => by kernel_rfl) ?_
                refine LL.op (.int .i64 a1_12) (by kernel_rfl) (ld 3 g218 12 rfl (by kernel_rfl) rfl (by kernel_rfl)) ?_
                refine LL.op (.pointer (some ⟨g219, 1, none⟩)) (by kernel_rfl) (fun w _ => by kernel_rfl) ?_
                refine LL.op (.int .i64 a2_1) (by kernel_rfl) (ld 2 g219 1 rfl (by kernel_rfl) rfl (by kernel_rfl)) ?_
                refine LL.op (.int .i64 (IntKind.i64.wrap (a1_12 + a2_1))) (by kernel_rfl) (fun w _ => by kernel_rfl) ?_
                refine LL.op (.pointer (some ⟨g255, 12, none⟩)) (by kernel_rfl) (fun w _ => by kernel_rfl) ?_
                refine LL.store 1 g255 12 3 (.tmp 60) (.tmp 59) [.string a1_0, .int .i64 a1_1, .int .i64 a1_2, .int .i64 a1_3, .int .i64 a1_4, .int .i64 a1_5, .int .i64 a1_6, .int .i64 a1_7, .int .i64 a1_8, .int .i64 a1_9, .int .i64 a1_10, .int .i64 a1_11, .int .i64 (IntKind.i64.wrap (a1_12 + a2_1))] (bs' := [(g256, cl [.string a0_0, .string a0_1, .string a0_2, .int .i64 a0_3, .int .i64 a0_4, .int .i64 a0_5, .int .i64 a0_6, .int .i64 a0_7, .int .i64 a0_8, .int .i64 a0_9, .int .i64 a0_10, .slice Aa0_11 na0_11 ca0_11, .int .i64 a0_12, .int .i64 a0_13, .int .i64 (IntKind.i64.wrap (a0_14 + a2_0)), .int .i64 a0_15, .bool a0_16, .int .i64 a0_17] 30), (g255, cl [.string a1_0, .int .i64 a1_1, .int .i64 a1_2, .int .i64 a1_3, .int .i64 a1_4, .int .i64 a1_5, .int .i64 a1_6, .int .i64 a1_7, .int .i64 a1_8, .int .i64 a1_9, .int .i64 a1_10, .int .i64 a1_11, .int .i64 (IntKind.i64.wrap (a1_12 + a2_1))] 35), (g219, cl [.int .i64 a2_0, .int .i64 a2_1] 43), (g218, cl [.string a1_0, .int .i64 a1_1, .int .i64 a1_2, .int .i64 a1_3, .int .i64 a1_4, .int .i64 a1_5, .int .i64 a1_6, .int .i64 a1_7, .int .i64 a1_8, .int .i64 a1_9, .int .i64 a1_10, .int .i64 a1_11, .int .i64 a1_12] 35), (g217, cl [.string a0_0, .string a0_1, .string a0_2, .int .i64 a0_3, .int .i64 a0_4, .int .i64 a0_5, .int .i64 a0_6, .int .i64 a0_7, .int .i64 a0_8, .int .i64 a0_9, .int .i64 a0_10, .slice Aa0_11 na0_11 ca0_11, .int .i64 a0_12, .int .i64 a0_13, .int .i64 a0_14, .int .i64 a0_15, .bool a0_16, .int .i64 a0_17] 30)]) rfl (by kernel_rfl) rfl (by kernel_rfl) rfl (by kernel_rfl) ?_
                refine LL.done (s' := [(3, .pointer (some ⟨g217, 0, none⟩)), (4, .pointer (some ⟨g218, 0, none⟩)), (6, .bool false), (7, .pointer (some ⟨g256, 0, none⟩)), (8, .pointer (some ⟨g255, 0, none⟩))]) [3, 4, 6, 7, 8] (by kernel_rfl) ?_
                refine NN.then ?_
                refine J.seq ?_
                refine J.plain ?_
                refine LL.op (.agg #[.string a0_0, .string a0_1, .string a0_2, .int .i64 a0_3, .int .i64 a0_4, .int .i64 a0_5, .int .i64 a0_6, .int .i64 a0_7, .int .i64 a0_8, .int .i64 a0_9, .int .i64 a0_10, .slice Aa0_11 na0_11 ca0_11, .int .i64 a0_12, .int .i64 a0_13, .int .i64 a0_14, .int .i64 a0_15, .bool a0_16, .int .i64 a0_17]) (by kernel_rfl) (ld 4 g217 0 rfl (by kernel_rfl) rfl (by kernel_rfl)) ?_
                refine LL.op (.agg #[.string a1_0, .int .i64 a1_1, .int .i64 a1_2, .int .i64 a1_3, .int .i64 a1_4, .int .i64 a1_5, .int .i64 a1_6, .int .i64 a1_7, .int .i64 a1_8, .int .i64 a1_9, .int .i64 a1_10, .int .i64 a1_11, .int .i64 a1_12]) (by kernel_rfl) (ld 3 g218 0 rfl (by kernel_rfl) rfl (by kernel_rfl)) ?_
                obtain ⟨⟨x269_1, x269_2⟩, hx269, H⟩ := bind_some H
                (try dsimp only at H)
                refine LL.call 9 #[.agg #[.string a0_0, .string a0_1, .string a0_2, .int .i64 a0_3, .int .i64 a0_4, .int .i64 a0_5, .int .i64 a0_6, .int .i64 a0_7, .int .i64 a0_8, .int .i64 a0_9, .int .i64 a0_10, .slice Aa0_11 na0_11 ca0_11, .int .i64 a0_12, .int .i64 a0_13, .int .i64 a0_14, .int .i64 a0_15, .bool a0_16, .int .i64 a0_17], .agg #[.string a1_0, .int .i64 a1_1, .int .i64 a1_2, .int .i64 a1_3, .int .i64 a1_4, .int .i64 a1_5, .int .i64 a1_6, .int .i64 a1_7, .int .i64 a1_8, .int .i64 a1_9, .int .i64 a1_10, .int .i64 a1_11, .int .i64 a1_12]] (.tuple #[.int .i64 x269_1, .int .i64 x269_2]) (by kernel_rfl) (fun w => by kernel_rfl) (fun w hw => sizing_Dried.calls a0_0 a0_1 a0_2 a0_3 a0_4 a0_5 a0_6 a0_7 a0_8 a0_9 a0_10 a0_12 a0_13 a0_14 a0_15 a0_16 a0_17 a1_0 a1_1 a1_2 a1_3 a1_4 a1_5 a1_6 a1_7 a1_8 a1_9 a1_10 a1_11 a1_12  _ _ _ _ _ w   hx269) ?_
                refine LL.op (.tuple #[.int .i64 x269_1, .int .i64 x269_2]) (by kernel_rfl) (fun w _ => by kernel_rfl) ?_
                refine LL.op (.int .i64 x269_1) (by kernel_rfl) (fun w _ => by kernel_rfl) ?_
                refine LL.op (.int .i64 x269_2) (by kernel_rfl) (fun w _ => by kernel_rfl) ?_
                refine LL.op (.int .i64 x269_1) (by kernel_rfl) (fun w _ => by kernel_rfl) ?_
                refine LL.op (.int .i64 x269_2) (by kernel_rfl) (fun w _ => by kernel_rfl) ?_
                refine LL.done (s' := [(3, .pointer (some ⟨g217, 0, none⟩)), (4, .pointer (some ⟨g218, 0, none⟩)), (6, .bool false), (7, .pointer (some ⟨g256, 0, none⟩)), (8, .pointer (some ⟨g255, 0, none⟩)), (9, .int .i64 x269_1), (10, .int .i64 x269_2)]) [3, 4, 6, 7, 8, 9, 10] (by kernel_rfl) ?_
                refine NN.then ?_
                refine J.seq ?_
                refine J.plain ?_
                refine LL.op (.agg #[.string a0_0, .string a0_1, .string a0_2, .int .i64 a0_3, .int .i64 a0_4, .int .i64 a0_5, .int .i64 a0_6, .int .i64 a0_7, .int .i64 a0_8, .int .i64 a0_9, .int .i64 a0_10, .slice Aa0_11 na0_11 ca0_11, .int .i64 a0_12, .int .i64 a0_13, .int .i64 (IntKind.i64.wrap (a0_14 + a2_0)), .int .i64 a0_15, .bool a0_16, .int .i64 a0_17]) (by kernel_rfl) (ld 0 g256 0 rfl (by kernel_rfl) rfl (by kernel_rfl)) ?_
                refine LL.op (.agg #[.string a1_0, .int .i64 a1_1, .int .i64 a1_2, .int .i64 a1_3, .int .i64 a1_4, .int .i64 a1_5, .int .i64 a1_6, .int .i64 a1_7, .int .i64 a1_8, .int .i64 a1_9, .int .i64 a1_10, .int .i64 a1_11, .int .i64 a1_12]) (by kernel_rfl) (ld 3 g218 0 rfl (by kernel_rfl) rfl (by kernel_rfl)) ?_
                obtain ⟨⟨x270_1, x270_2⟩, hx270, H⟩ := bind_some H
                (try dsimp only at H)
                refine LL.call 9 #[.agg #[.string a0_0, .string a0_1, .string a0_2, .int .i64 a0_3, .int .i64 a0_4, .int .i64 a0_5, .int .i64 a0_6, .int .i64 a0_7, .int .i64 a0_8, .int .i64 a0_9, .int .i64 a0_10, .slice Aa0_11 na0_11 ca0_11, .int .i64 a0_12, .int .i64 a0_13, .int .i64 (IntKind.i64.wrap (a0_14 + a2_0)), .int .i64 a0_15, .bool a0_16, .int .i64 a0_17], .agg #[.string a1_0, .int .i64 a1_1, .int .i64 a1_2, .int .i64 a1_3, .int .i64 a1_4, .int .i64 a1_5, .int .i64 a1_6, .int .i64 a1_7, .int .i64 a1_8, .int .i64 a1_9, .int .i64 a1_10, .int .i64 a1_11, .int .i64 a1_12]] (.tuple #[.int .i64 x270_1, .int .i64 x270_2]) (by kernel_rfl) (fun w => by kernel_rfl) (fun w hw => sizing_Dried.calls a0_0 a0_1 a0_2 a0_3 a0_4 a0_5 a0_6 a0_7 a0_8 a0_9 a0_10 a0_12 a0_13 (IntKind.i64.wrap (a0_14 + a2_0)) a0_15 a0_16 a0_17 a1_0 a1_1 a1_2 a1_3 a1_4 a1_5 a1_6 a1_7 a1_8 a1_9 a1_10 a1_11 a1_12  _ _ _ _ _ w   hx270) ?_
                refine LL.op (.tuple #[.int .i64 x270_1, .int .i64 x270_2]) (by kernel_rfl) (fun w _ => by kernel_rfl) ?_
                refine LL.op (.int .i64 x270_1) (by kernel_rfl) (fun w _ => by kernel_rfl) ?_
                refine LL.op (.int .i64 x270_2) (by kernel_rfl) (fun w _ => by kernel_rfl) ?_
                refine LL.op (.int .i64 x270_1) (by kernel_rfl) (fun w _ => by kernel_rfl) ?_
                refine LL.op (.int .i64 x270_2) (by kernel_rfl) (fun w _ => by kernel_rfl) ?_
                refine LL.done (s' := [(3, .pointer (some ⟨g217, 0, none⟩)), (6, .bool false), (7, .pointer (some ⟨g256, 0, none⟩)), (8, .pointer (some ⟨g255, 0, none⟩)), (9, .int .i64 x269_1), (10, .int .i64 x269_2), (11, .int .i64 x270_1), (12, .int .i64 x270_2)]) [3, 6, 7, 8, 9, 10, 11, 12] (by kernel_rfl) ?_
                refine NN.then ?_
                refine J.seq ?_
                refine J.plain ?_
                refine LL.op (.agg #[.string a0_0, .string a0_1, .string a0_2, .int .i64 a0_3, .int .i64 a0_4, .int .i64 a0_5, .int .i64 a0_6, .int .i64 a0_7, .int .i64 a0_8, .int .i64 a0_9, .int .i64 a0_10, .slice Aa0_11 na0_11 ca0_11, .int .i64 a0_12, .int .i64 a0_13, .int .i64 a0_14, .int .i64 a0_15, .bool a0_16, .int .i64 a0_17]) (by kernel_rfl) (ld 4 g217 0 rfl (by kernel_rfl) rfl (by kernel_rfl)) ?_
                refine LL.op (.agg #[.string a1_0, .int .i64 a1_1, .int .i64 a1_2, .int .i64 a1_3, .int .i64 a1_4, .int .i64 a1_5, .int .i64 a1_6, .int .i64 a1_7, .int .i64 a1_8, .int .i64 a1_9, .int .i64 a1_10, .int .i64 a1_11, .int .i64 (IntKind.i64.wrap (a1_12 + a2_1))]) (by kernel_rfl) (ld 1 g255 0 rfl (by kernel_rfl) rfl (by kernel_rfl)) ?_
                obtain ⟨⟨x271_1, x271_2⟩, hx271, H⟩ := bind_some H
                (try dsimp only at H)
                refine LL.call 9 #[.agg #[.string a0_0, .string a0_1, .string a0_2, .int .i64 a0_3, .int .i64 a0_4, .int .i64 a0_5, .int .i64 a0_6, .int .i64 a0_7, .int .i64 a0_8, .int .i64 a0_9, .int .i64 a0_10, .slice Aa0_11 na0_11 ca0_11, .int .i64 a0_12, .int .i64 a0_13, .int .i64 a0_14, .int .i64 a0_15, .bool a0_16, .int .i64 a0_17], .agg #[.string a1_0, .int .i64 a1_1, .int .i64 a1_2, .int .i64 a1_3, .int .i64 a1_4, .int .i64 a1_5, .int .i64 a1_6, .int .i64 a1_7, .int .i64 a1_8, .int .i64 a1_9, .int .i64 a1_10, .int .i64 a1_11, .int .i64 (IntKind.i64.wrap (a1_12 + a2_1))]] (.tuple #[.int .i64 x271_1, .int .i64 x271_2]) (by kernel_rfl) (fun w => by kernel_rfl) (fun w hw => sizing_Dried.calls a0_0 a0_1 a0_2 a0_3 a0_4 a0_5 a0_6 a0_7 a0_8 a0_9 a0_10 a0_12 a0_13 a0_14 a0_15 a0_16 a0_17 a1_0 a1_1 a1_2 a1_3 a1_4 a1_5 a1_6 a1_7 a1_8 a1_9 a1_10 a1_11 (IntKind.i64.wrap (a1_12 + a2_1))  _ _ _ _ _ w   hx271) ?_
                refine LL.op (.tuple #[.int .i64 x271_1, .int .i64 x271_2]) (by kernel_rfl) (fun w _ => by kernel_rfl) ?_
                refine LL.op (.int .i64 x271_1) (by kernel_rfl) (fun w _ => by kernel_rfl) ?_
                refine LL.op (.int .i64 x271_2) (by kernel_rfl) (fun w _ => by kernel_rfl) ?_
                refine LL.op (.int .i64 x271_1) (by kernel_rfl) (fun w _ => by kernel_rfl) ?_
                refine LL.op (.int .i64 x271_2) (by kernel_rfl) (fun w _ => by kernel_rfl) ?_
                refine LL.done (s' := [(6, .bool false), (7, .pointer (some ⟨g256, 0, none⟩)), (8, .pointer (some ⟨g255, 0, none⟩)), (9, .int .i64 x269_1), (10, .int .i64 x269_2), (11, .int .i64 x270_1), (12, .int .i64 x270_2), (13, .int .i64 x271_1), (14, .int .i64 x271_2)]) [6, 7, 8, 9, 10, 11, 12, 13, 14] (by kernel_rfl) ?_
                refine NN.then ?_
                refine J.seq ?_
                refine J.seq ?_
                refine J.plain ?_
                refine LL.op (.pointer (some ⟨g256, 13, none⟩)) (by kernel_rfl) (fun w _ => by kernel_rfl) ?_
                refine LL.op (.agg #[.int .i64 a0_13, .int .i64 (IntKind.i64.wrap (a0_14 + a2_0)), .int .i64 a0_15]) (by kernel_rfl) (ld 0 g256 13 rfl (by kernel_rfl) rfl (by kernel_rfl)) ?_
                obtain ⟨x272, hx272, H⟩ := bind_some H
                refine LL.call 19 #[.agg #[.int .i64 a0_13, .int .i64 (IntKind.i64.wrap (a0_14 + a2_0)), .int .i64 a0_15]] (.int .i64 x272) (by kernel_rfl) (fun w => by kernel_rfl) (fun w hw => moist_Check.calls a0_13 (IntKind.i64.wrap (a0_14 + a2_0)) a0_15   _ w   hx272) ?_
                refine LL.op (.bool (x272 == 0)) (by kernel_rfl) (fun w _ => by kernel_rfl) ?_
                refine LL.op (.bool (x272 == 0)) (by kernel_rfl) (fun w _ => by kernel_rfl) ?_
                rcases Bool.eq_false_or_eq_true ((x272 == 0)) with c273 | c273
                · rw [if_pos (eq_of_beq c273)] at H
                  refine LL.bool 83 ((x272 == 0)) true c273 (by kernel_rfl) ?_
                  refine LL.op (.int .i64 x270_1) (by kernel_rfl) (fun w _ => by kernel_rfl) ?_
                  refine LL.op (.int .i64 x269_1) (by kernel_rfl) (fun w _ => by kernel_rfl) ?_
                  refine LL.op (.bool (decide (x270_1 < x269_1))) (by kernel_rfl) (fun w _ => by kernel_rfl) ?_
                  refine LL.op (.bool (decide (x270_1 < x269_1))) (by kernel_rfl) (fun w _ => by kernel_rfl) ?_
                  rcases Bool.eq_false_or_eq_true (decide (x270_1 < x269_1)) with c274 | c274
                  · rw [if_pos (of_decide_eq_true c274)] at H
                    refine LL.bool 87 (decide (x270_1 < x269_1)) true c274 (by kernel_rfl) ?_
                    refine LL.off (by kernel_rfl) (by kernel_rfl) ?_
                    refine LL.off (by kernel_rfl) (by kernel_rfl) ?_
                    refine LL.off (by kernel_rfl) (by kernel_rfl) ?_
                    refine LL.op (.bool true) (by kernel_rfl) (fun w _ => by kernel_rfl) ?_
                    refine LL.op (.bool true) (by kernel_rfl) (fun w _ => by kernel_rfl) ?_
                    refine LL.done (s' := [(6, .bool false), (8, .pointer (some ⟨g255, 0, none⟩)), (9, .int .i64 x269_1), (10, .int .i64 x269_2), (13, .int .i64 x271_1), (14, .int .i64 x271_2), (92, .bool true)]) [6, 8, 9, 10, 13, 14, 92] (by kernel_rfl) ?_
                    refine NN.then ?_
                    refine J.condT (b := true) rfl (by kernel_rfl) (by kernel_rfl) ?_
                    refine J.seq ?_
                    refine J.plain ?_
                    refine LL.op (.bool false) (by kernel_rfl) (fun w _ => by kernel_rfl) ?_
                    refine LL.done (s' := [(6, .bool false), (8, .pointer (some ⟨g255, 0, none⟩)), (9, .int .i64 x269_1), (10, .int .i64 x269_2), (13, .int .i64 x271_1), (14, .int .i64 x271_2)]) [6, 8, 9, 10, 13, 14] (by kernel_rfl) ?_
                    refine NN.then ?_
                    refine J.ret ?_
                    refine NN.then_ret ?_
                    refine NN.fin1 6 (.bool false) (by kernel_rfl) (by kernel_rfl) (.inl rfl) (fun w hi => hi.ret ?_)
                    first | (cases H; rfl) | (obtain rfl := Option.some.inj H; rfl) | (simp only [Option.some.injEq, Prod.mk.injEq] at H; obtain ⟨rfl⟩ := H; rfl)
                  · rw [if_neg (of_decide_eq_false c274)] at H
                    refine LL.bool 87 (decide (x270_1 < x269_1)) false c274 (by kernel_rfl) ?_
                    refine LL.op (.int .i64 x270_2) (by kernel_rfl) (fun w _ => by kernel_rfl) ?_
                    refine LL.op (.int .i64 x269_2) (by kernel_rfl) (fun w _ => by kernel_rfl) ?_
                    refine LL.op (.bool (decide (x270_2 < x269_2))) (by kernel_rfl) (fun w _ => by kernel_rfl) ?_
                    refine LL.op (.bool (decide (x270_2 < x269_2))) (by kernel_rfl) (fun w _ => by kernel_rfl) ?_
                    refine LL.op (.bool (decide (x270_2 < x269_2))) (by kernel_rfl) (fun w _ => by kernel_rfl) ?_
                    refine LL.done (s' := [(6, .bool false), (8, .pointer (some ⟨g255, 0, none⟩)), (9, .int .i64 x269_1), (10, .int .i64 x269_2), (13, .int .i64 x271_1), (14, .int .i64 x271_2), (92, .bool (decide (x270_2 < x269_2)))]) [6, 8, 9, 10, 13, 14, 92] (by kernel_rfl) ?_
                    refine NN.then ?_
                    rcases Bool.eq_false_or_eq_true (decide (x270_2 < x269_2)) with c275 | c275
                    · rw [if_pos (of_decide_eq_true c275)] at H
                      refine J.condT (b := decide (x270_2 < x269_2)) c275 (by kernel_rfl) (by kernel_rfl) ?_
                      refine J.seq ?_
                      refine J.plain ?_
                      refine LL.op (.bool false) (by kernel_rfl) (fun w _ => by kernel_rfl) ?_
                      refine LL.done (s' := [(6, .bool false), (8, .pointer (some ⟨g255, 0, none⟩)), (9, .int .i64 x269_1), (10, .int .i64 x269_2), (13, .int .i64 x271_1), (14, .int .i64 x271_2)]) [6, 8, 9, 10, 13, 14] (by kernel_rfl) ?_
                      refine NN.then ?_
                      refine J.ret ?_
                      refine NN.then_ret ?_
                      refine NN.fin1 6 (.bool false) (by kernel_rfl) (by kernel_rfl) (.inl rfl) (fun w hi => hi.ret ?_)
                      first | (cases H; rfl) | (obtain rfl := Option.some.inj H; rfl) | (simp only [Option.some.injEq, Prod.mk.injEq] at H; obtain ⟨rfl⟩ := H; rfl)
                    · rw [if_neg (of_decide_eq_false c275)] at H
                      refine J.condF (b := decide (x270_2 < x269_2)) c275 (by kernel_rfl) (by kernel_rfl) ?_
                      refine J.skip ?_
                      refine NN.then ?_
                      refine J.seq ?_
                      refine J.plain ?_
                      refine LL.op (.agg #[.string a1_0, .int .i64 a1_1, .int .i64 a1_2, .int .i64 a1_3, .int .i64 a1_4, .int .i64 a1_5, .int .i64 a1_6, .int .i64 a1_7, .int .i64 a1_8, .int .i64 a1_9, .int .i64 a1_10, .int .i64 a1_11, .int .i64 (IntKind.i64.wrap (a1_12 + a2_1))]) (by kernel_rfl) (ld 1 g255 0 rfl (by kernel_rfl) rfl (by kernel_rfl)) ?_
                      obtain ⟨x276, hx276, H⟩ := bind_some H
                      refine LL.call 18 #[.agg #[.string a1_0, .int .i64 a1_1, .int .i64 a1_2, .int .i64 a1_3, .int .i64 a1_4, .int .i64 a1_5, .int .i64 a1_6, .int .i64 a1_7, .int .i64 a1_8, .int .i64 a1_9, .int .i64 a1_10, .int .i64 a1_11, .int .i64 (IntKind.i64.wrap (a1_12 + a2_1))]] (.bool x276) (by kernel_rfl) (fun w => by kernel_rfl) (fun w hw => sawmilllaw39_wood.calls a1_0 a1_1 a1_2 a1_3 a1_4 a1_5 a1_6 a1_7 a1_8 a1_9 a1_10 a1_11 (IntKind.i64.wrap (a1_12 + a2_1))   _ w   hx276) ?_
                      refine LL.op (.bool (!x276)) (by kernel_rfl) (fun w _ => by kernel_rfl) ?_
                      refine LL.op (.bool (!x276)) (by kernel_rfl) (fun w _ => by kernel_rfl) ?_
                      rcases Bool.eq_false_or_eq_true (x276) with c277 | c277
                      · rw [if_pos (c277)] at H
                        refine LL.bool 96 (!x276) false (by rw [show (!x276) = !(x276) from rfl, c277]; rfl) (by kernel_rfl) ?_
                        refine LL.op (.int .i64 x271_1) (by kernel_rfl) (fun w _ => by kernel_rfl) ?_
                        refine LL.op (.int .i64 x269_1) (by kernel_rfl) (fun w _ => by kernel_rfl) ?_
                        refine LL.op (.bool (decide (x271_1 ≤ x269_1))) (by kernel_rfl) (fun w _ => by kernel_rfl) ?_
                        refine LL.op (.bool (decide (x271_1 ≤ x269_1))) (by kernel_rfl) (fun w _ => by kernel_rfl) ?_
                        rcases Bool.eq_false_or_eq_true (decide (x271_1 ≤ x269_1)) with c278 | c278
                        · rw [if_pos (of_decide_eq_true c278)] at H
                          refine LL.bool 100 (decide (x271_1 ≤ x269_1)) true c278 (by kernel_rfl) ?_
                          refine LL.op (.int .i64 x271_2) (by kernel_rfl) (fun w _ => by kernel_rfl) ?_
                          refine LL.op (.int .i64 x269_2) (by kernel_rfl) (fun w _ => by kernel_rfl) ?_
                          refine LL.op (.bool (decide (x271_2 ≤ x269_2))) (by kernel_rfl) (fun w _ => by kernel_rfl) ?_
                          refine LL.op (.bool (decide (x271_2 ≤ x269_2))) (by kernel_rfl) (fun w _ => by kernel_rfl) ?_
                          refine LL.op (.bool (decide (x271_2 ≤ x269_2))) (by kernel_rfl) (fun w _ => by kernel_rfl) ?_
                          refine LL.op (.bool (decide (x271_2 ≤ x269_2))) (by kernel_rfl) (fun w _ => by kernel_rfl) ?_
                          rcases Bool.eq_false_or_eq_true (decide (x271_2 ≤ x269_2)) with c279 | c279
                          · rw [if_pos (of_decide_eq_true c279)] at H
                            refine LL.bool 106 (decide (x271_2 ≤ x269_2)) true c279 (by kernel_rfl) ?_
                            obtain ⟨x280, hx280, H⟩ := bind_some H
                            refine LL.call 15 #[] (.bool x280) (by kernel_rfl) (fun w => by kernel_rfl) (fun w hw => sawmilllaw39_awake.calls K    _ w   hx280) ?_
                            refine LL.op (.bool x280) (by kernel_rfl) (fun w _ => by kernel_rfl) ?_
                            refine LL.op (.bool x280) (by kernel_rfl) (fun w _ => by kernel_rfl) ?_
                            refine LL.done (s' := [(6, .bool x280)]) [6] (by kernel_rfl) ?_
                            refine NN.then ?_
                            refine J.ret ?_
                            refine NN.fin1 6 (.bool x280) (by kernel_rfl) (by kernel_rfl) (.inl rfl) (fun w hi => hi.ret ?_)
                            first | (cases H; rfl) | (obtain rfl := Option.some.inj H; rfl) | (simp only [Option.some.injEq, Prod.mk.injEq] at H; obtain ⟨rfl⟩ := H; rfl)
                          · rw [if_neg (of_decide_eq_false c279)] at H
                            refine LL.bool 106 (decide (x271_2 ≤ x269_2)) false c279 (by kernel_rfl) ?_
                            refine LL.off (by kernel_rfl) (by kernel_rfl) ?_
                            refine LL.op (.bool false) (by kernel_rfl) (fun w _ => by kernel_rfl) ?_
                            refine LL.op (.bool false) (by kernel_rfl) (fun w _ => by kernel_rfl) ?_
                            refine LL.done (s' := [(6, .bool false)]) [6] (by kernel_rfl) ?_
                            refine NN.then ?_
                            refine J.ret ?_
                            refine NN.fin1 6 (.bool false) (by kernel_rfl) (by kernel_rfl) (.inl rfl) (fun w hi => hi.ret ?_)
                            first | (cases H; rfl) | (obtain rfl := Option.some.inj H; rfl) | (simp only [Option.some.injEq, Prod.mk.injEq] at H; obtain ⟨rfl⟩ := H; rfl)
                        · rw [if_neg (of_decide_eq_false c278)] at H
                          refine LL.bool 100 (decide (x271_1 ≤ x269_1)) false c278 (by kernel_rfl) ?_
                          refine LL.off (by kernel_rfl) (by kernel_rfl) ?_
                          refine LL.off (by kernel_rfl) (by kernel_rfl) ?_
                          refine LL.off (by kernel_rfl) (by kernel_rfl) ?_
                          refine LL.op (.bool false) (by kernel_rfl) (fun w _ => by kernel_rfl) ?_
                          refine LL.op (.bool false) (by kernel_rfl) (fun w _ => by kernel_rfl) ?_
                          refine LL.op (.bool false) (by kernel_rfl) (fun w _ => by kernel_rfl) ?_
                          refine LL.off (by kernel_rfl) (by kernel_rfl) ?_
                          refine LL.op (.bool false) (by kernel_rfl) (fun w _ => by kernel_rfl) ?_
                          refine LL.op (.bool false) (by kernel_rfl) (fun w _ => by kernel_rfl) ?_
                          refine LL.done (s' := [(6, .bool false)]) [6] (by kernel_rfl) ?_
                          refine NN.then ?_
                          refine J.ret ?_
                          refine NN.fin1 6 (.bool false) (by kernel_rfl) (by kernel_rfl) (.inl rfl) (fun w hi => hi.ret ?_)
                          first | (cases H; rfl) | (obtain rfl := Option.some.inj H; rfl) | (simp only [Option.some.injEq, Prod.mk.injEq] at H; obtain ⟨rfl⟩ := H; rfl)
                      · rw [if_neg (nebt c277)] at H
                        refine LL.bool 96 (!x276) true (by rw [show (!x276) = !(x276) from rfl, c277]; rfl) (by kernel_rfl) ?_
                        refine LL.off (by kernel_rfl) (by kernel_rfl) ?_
                        refine LL.off (by kernel_rfl) (by kernel_rfl) ?_
                        refine LL.off (by kernel_rfl) (by kernel_rfl) ?_
                        refine LL.off (by kernel_rfl) (by kernel_rfl) ?_
                        refine LL.off (by kernel_rfl) (by kernel_rfl) ?_
                        refine LL.off (by kernel_rfl) (by kernel_rfl) ?_
                        refine LL.off (by kernel_rfl) (by kernel_rfl) ?_
                        refine LL.off (by kernel_rfl) (by kernel_rfl) ?_
                        refine LL.op (.bool true) (by kernel_rfl) (fun w _ => by kernel_rfl) ?_
                        refine LL.op (.bool true) (by kernel_rfl) (fun w _ => by kernel_rfl) ?_
                        obtain ⟨x281, hx281, H⟩ := bind_some H
                        refine LL.call 15 #[] (.bool x281) (by kernel_rfl) (fun w => by kernel_rfl) (fun w hw => sawmilllaw39_awake.calls K    _ w   hx281) ?_
                        refine LL.op (.bool x281) (by kernel_rfl) (fun w _ => by kernel_rfl) ?_
                        refine LL.op (.bool x281) (by kernel_rfl) (fun w _ => by kernel_rfl) ?_
                        refine LL.done (s' := [(6, .bool x281)]) [6] (by kernel_rfl) ?_
                        refine NN.then ?_
                        refine J.ret ?_
                        refine NN.fin1 6 (.bool x281) (by kernel_rfl) (by kernel_rfl) (.inl rfl) (fun w hi => hi.ret ?_)
                        first | (cases H; rfl) | (obtain rfl := Option.some.inj H; rfl) | (simp only [Option.some.injEq, Prod.mk.injEq] at H; obtain ⟨rfl⟩ := H; rfl)
                · rw [if_neg (nebf c273)] at H
                  refine LL.bool 83 ((x272 == 0)) false c273 (by kernel_rfl) ?_
                  refine LL.off (by kernel_rfl) (by kernel_rfl) ?_
                  refine LL.off (by kernel_rfl) (by kernel_rfl) ?_
                  refine LL.off (by kernel_rfl) (by kernel_rfl) ?_
                  refine LL.off (by kernel_rfl) (by kernel_rfl) ?_
                  refine LL.off (by kernel_rfl) (by kernel_rfl) ?_
                  refine LL.off (by kernel_rfl) (by kernel_rfl) ?_
                  refine LL.off (by kernel_rfl) (by kernel_rfl) ?_
                  refine LL.off (by kernel_rfl) (by kernel_rfl) ?_
                  refine LL.op (.bool false) (by kernel_rfl) (fun w _ => by kernel_rfl) ?_
                  refine LL.done (s' := [(6, .bool false), (8, .pointer (some ⟨g255, 0, none⟩)), (9, .int .i64 x269_1), (10, .int .i64 x269_2), (13, .int .i64 x271_1), (14, .int .i64 x271_2), (92, .bool false)]) [6, 8, 9, 10, 13, 14, 92] (by kernel_rfl) ?_
                  refine NN.then ?_
                  refine J.condF (b := false) rfl (by kernel_rfl) (by kernel_rfl) ?_
                  refine J.skip ?_
                  refine NN.then ?_
                  refine J.seq ?_
                  refine J.plain ?_
                  refine LL.op (.agg #[.string a1_0, .int .i64 a1_1, .int .i64 a1_2, .int .i64 a1_3, .int .i64 a1_4, .int .i64 a1_5, .int .i64 a1_6, .int .i64 a1_7, .int .i64 a1_8, .int .i64 a1_9, .int .i64 a1_10, .int .i64 a1_11, .int .i64 (IntKind.i64.wrap (a1_12 + a2_1))]) (by kernel_rfl) (ld 1 g255 0 rfl (by kernel_rfl) rfl (by kernel_rfl)) ?_
                  obtain ⟨x282, hx282, H⟩ := bind_some H
                  refine LL.call 18 #[.agg #[.string a1_0, .int .i64 a1_1, .int .i64 a1_2, .int .i64 a1_3, .int .i64 a1_4, .int .i64 a1_5, .int .i64 a1_6, .int .i64 a1_7, .int .i64 a1_8, .int .i64 a1_9, .int .i64 a1_10, .int .i64 a1_11, .int .i64 (IntKind.i64.wrap (a1_12 + a2_1))]] (.bool x282) (by kernel_rfl) (fun w => by kernel_rfl) (fun w hw => sawmilllaw39_wood.calls a1_0 a1_1 a1_2 a1_3 a1_4 a1_5 a1_6 a1_7 a1_8 a1_9 a1_10 a1_11 (IntKind.i64.wrap (a1_12 + a2_1))   _ w   hx282) ?_
                  refine LL.op (.bool (!x282)) (by kernel_rfl) (fun w _ => by kernel_rfl) ?_
                  refine LL.op (.bool (!x282)) (by kernel_rfl) (fun w _ => by kernel_rfl) ?_
                  rcases Bool.eq_false_or_eq_true (x282) with c283 | c283
                  · rw [if_pos (c283)] at H
                    refine LL.bool 96 (!x282) false (by rw [show (!x282) = !(x282) from rfl, c283]; rfl) (by kernel_rfl) ?_
                    refine LL.op (.int .i64 x271_1) (by kernel_rfl) (fun w _ => by kernel_rfl) ?_
                    refine LL.op (.int .i64 x269_1) (by kernel_rfl) (fun w _ => by kernel_rfl) ?_
                    refine LL.op (.bool (decide (x271_1 ≤ x269_1))) (by kernel_rfl) (fun w _ => by kernel_rfl) ?_
                    refine LL.op (.bool (decide (x271_1 ≤ x269_1))) (by kernel_rfl) (fun w _ => by kernel_rfl) ?_
                    rcases Bool.eq_false_or_eq_true (decide (x271_1 ≤ x269_1)) with c284 | c284
                    · rw [if_pos (of_decide_eq_true c284)] at H
                      refine LL.bool 100 (decide (x271_1 ≤ x269_1)) true c284 (by kernel_rfl) ?_
                      refine LL.op (.int .i64 x271_2) (by kernel_rfl) (fun w _ => by kernel_rfl) ?_
                      refine LL.op (.int .i64 x269_2) (by kernel_rfl) (fun w _ => by kernel_rfl) ?_
                      refine LL.op (.bool (decide (x271_2 ≤ x269_2))) (by kernel_rfl) (fun w _ => by kernel_rfl) ?_
                      refine LL.op (.bool (decide (x271_2 ≤ x269_2))) (by kernel_rfl) (fun w _ => by kernel_rfl) ?_
                      refine LL.op (.bool (decide (x271_2 ≤ x269_2))) (by kernel_rfl) (fun w _ => by kernel_rfl) ?_
                      refine LL.op (.bool (decide (x271_2 ≤ x269_2))) (by kernel_rfl) (fun w _ => by kernel_rfl) ?_
                      rcases Bool.eq_false_or_eq_true (decide (x271_2 ≤ x269_2)) with c285 | c285
                      · rw [if_pos (of_decide_eq_true c285)] at H
                        refine LL.bool 106 (decide (x271_2 ≤ x269_2)) true c285 (by kernel_rfl) ?_
                        obtain ⟨x286, hx286, H⟩ := bind_some H
                        refine LL.call 15 #[] (.bool x286) (by kernel_rfl) (fun w => by kernel_rfl) (fun w hw => sawmilllaw39_awake.calls K    _ w   hx286) ?_
                        refine LL.op (.bool x286) (by kernel_rfl) (fun w _ => by kernel_rfl) ?_
                        refine LL.op (.bool x286) (by kernel_rfl) (fun w _ => by kernel_rfl) ?_
                        refine LL.done (s' := [(6, .bool x286)]) [6] (by kernel_rfl) ?_
                        refine NN.then ?_
                        refine J.ret ?_
                        refine NN.fin1 6 (.bool x286) (by kernel_rfl) (by kernel_rfl) (.inl rfl) (fun w hi => hi.ret ?_)
                        first | (cases H; rfl) | (obtain rfl := Option.some.inj H; rfl) | (simp only [Option.some.injEq, Prod.mk.injEq] at H; obtain ⟨rfl⟩ := H; rfl)
                      · rw [if_neg (of_decide_eq_false c285)] at H
                        refine LL.bool 106 (decide (x271_2 ≤ x269_2)) false c285 (by kernel_rfl) ?_
                        refine LL.off (by kernel_rfl) (by kernel_rfl) ?_
                        refine LL.op (.bool false) (by kernel_rfl) (fun w _ => by kernel_rfl) ?_
                        refine LL.op (.bool false) (by kernel_rfl) (fun w _ => by kernel_rfl) ?_
                        refine LL.done (s' := [(6, .bool false)]) [6] (by kernel_rfl) ?_
                        refine NN.then ?_
                        refine J.ret ?_
                        refine NN.fin1 6 (.bool false) (by kernel_rfl) (by kernel_rfl) (.inl rfl) (fun w hi => hi.ret ?_)
                        first | (cases H; rfl) | (obtain rfl := Option.some.inj H; rfl) | (simp only [Option.some.injEq, Prod.mk.injEq] at H; obtain ⟨rfl⟩ := H; rfl)
                    · rw [if_neg (of_decide_eq_false c284)] at H
                      refine LL.bool 100 (decide (x271_1 ≤ x269_1)) false c284 (by kernel_rfl) ?_
                      refine LL.off (by kernel_rfl) (by kernel_rfl) ?_
                      refine LL.off (by kernel_rfl) (by kernel_rfl) ?_
                      refine LL.off (by kernel_rfl) (by kernel_rfl) ?_
                      refine LL.op (.bool false) (by kernel_rfl) (fun w _ => by kernel_rfl) ?_
                      refine LL.op (.bool false) (by kernel_rfl) (fun w _ => by kernel_rfl) ?_
                      refine LL.op (.bool false) (by kernel_rfl) (fun w _ => by kernel_rfl) ?_
                      refine LL.off (by kernel_rfl) (by kernel_rfl) ?_
                      refine LL.op (.bool false) (by kernel_rfl) (fun w _ => by kernel_rfl) ?_
                      refine LL.op (.bool false) (by kernel_rfl) (fun w _ => by kernel_rfl) ?_
                      refine LL.done (s' := [(6, .bool false)]) [6] (by kernel_rfl) ?_
                      refine NN.then ?_
                      refine J.ret ?_
                      refine NN.fin1 6 (.bool false) (by kernel_rfl) (by kernel_rfl) (.inl rfl) (fun w hi => hi.ret ?_)
                      first | (cases H; rfl) | (obtain rfl := Option.some.inj H; rfl) | (simp only [Option.some.injEq, Prod.mk.injEq] at H; obtain ⟨rfl⟩ := H; rfl)
                  · rw [if_neg (nebt c283)] at H
                    refine LL.bool 96 (!x282) true (by rw [show (!x282) = !(x282) from rfl, c283]; rfl) (by kernel_rfl) ?_
                    refine LL.off (by kernel_rfl) (by kernel_rfl) ?_
                    refine LL.off (by kernel_rfl) (by kernel_rfl) ?_
                    refine LL.off (by kernel_rfl) (by kernel_rfl) ?_
                    refine LL.off (by kernel_rfl) (by kernel_rfl) ?_
                    refine LL.off (by kernel_rfl) (by kernel_rfl) ?_
                    refine LL.off (by kernel_rfl) (by kernel_rfl) ?_
                    refine LL.off (by kernel_rfl) (by kernel_rfl) ?_
                    refine LL.off (by kernel_rfl) (by kernel_rfl) ?_
                    refine LL.op (.bool true) (by kernel_rfl) (fun w _ => by kernel_rfl) ?_
                    refine LL.op (.bool true) (by kernel_rfl) (fun w _ => by kernel_rfl) ?_
                    obtain ⟨x287, hx287, H⟩ := bind_some H
                    refine LL.call 15 #[] (.bool x287) (by kernel_rfl) (fun w => by kernel_rfl) (fun w hw => sawmilllaw39_awake.calls K    _ w   hx287) ?_
                    refine LL.op (.bool x287) (by kernel_rfl) (fun w _ => by kernel_rfl) ?_
                    refine LL.op (.bool x287) (by kernel_rfl) (fun w _ => by kernel_rfl) ?_
                    refine LL.done (s' := [(6, .bool x287)]) [6] (by kernel_rfl) ?_
                    refine NN.then ?_
                    refine J.ret ?_
                    refine NN.fin1 6 (.bool x287) (by kernel_rfl) (by kernel_rfl) (.inl rfl) (fun w hi => hi.ret ?_)
                    first | (cases H; rfl) | (obtain rfl := Option.some.inj H; rfl) | (simp only [Option.some.injEq, Prod.mk.injEq] at H; obtain ⟨rfl⟩ := H; rfl)
              · rw [if_neg (nebf c268)] at H
                refine J.condT (b := !(x267 == 0)) (by rw [show (!(x267 == 0)) = !((x267 == 0)) from rfl, c268]; rfl) (by kernel_rfl) (by kernel_rfl) ?_
                refine J.seq ?_
                refine J.plain ?_
                obtain ⟨x288, hx288, H⟩ := bind_some H
                refine LL.call 15 #[] (.bool x288) (by kernel_rfl) (fun w => by kernel_rfl) (fun w hw => sawmilllaw39_awake.calls K    _ w   hx288) ?_
                refine LL.op (.bool x288) (by kernel_rfl) (fun w _ => by kernel_rfl) ?_
                refine LL.done (s' := [(3, .pointer (some ⟨g217, 0, none⟩)), (4, .pointer (some ⟨g218, 0, none⟩)), (5, .pointer (some ⟨g219, 0, none⟩)), (6, .bool x288), (7, .pointer (some ⟨g256, 0, none⟩)), (8, .pointer (some ⟨g255, 0, none⟩))]) [3, 4, 5, 6, 7, 8] (by kernel_rfl) ?_
                refine NN.then ?_
                refine J.ret ?_
                refine NN.then_ret ?_
                refine NN.fin1 6 (.bool x288) (by kernel_rfl) (by kernel_rfl) (.inl rfl) (fun w hi => hi.ret ?_)
                first | (cases H; rfl) | (obtain rfl := Option.some.inj H; rfl) | (simp only [Option.some.injEq, Prod.mk.injEq] at H; obtain ⟨rfl⟩ := H; rfl)
            · rw [if_neg (nebt c266)] at H
              refine LL.bool 40 (!x265) true (by rw [show (!x265) = !(x265) from rfl, c266]; rfl) (by kernel_rfl) ?_
              refine LL.off (by kernel_rfl) (by kernel_rfl) ?_
              refine LL.off (by kernel_rfl) (by kernel_rfl) ?_
              refine LL.off (by kernel_rfl) (by kernel_rfl) ?_
              refine LL.off (by kernel_rfl) (by kernel_rfl) ?_
              refine LL.op (.bool true) (by kernel_rfl) (fun w _ => by kernel_rfl) ?_
              refine LL.done (s' := [(3, .pointer (some ⟨g217, 0, none⟩)), (4, .pointer (some ⟨g218, 0, none⟩)), (5, .pointer (some ⟨g219, 0, none⟩)), (6, .bool false), (7, .pointer (some ⟨g256, 0, none⟩)), (8, .pointer (some ⟨g255, 0, none⟩)), (45, .bool true)]) [3, 4, 5, 6, 7, 8, 45] (by kernel_rfl) ?_
              refine NN.then ?_
              refine J.condT (b := true) rfl (by kernel_rfl) (by kernel_rfl) ?_
              refine J.seq ?_
              refine J.plain ?_
              obtain ⟨x289, hx289, H⟩ := bind_some H
              refine LL.call 15 #[] (.bool x289) (by kernel_rfl) (fun w => by kernel_rfl) (fun w hw => sawmilllaw39_awake.calls K    _ w   hx289) ?_
              refine LL.op (.bool x289) (by kernel_rfl) (fun w _ => by kernel_rfl) ?_
              refine LL.done (s' := [(3, .pointer (some ⟨g217, 0, none⟩)), (4, .pointer (some ⟨g218, 0, none⟩)), (5, .pointer (some ⟨g219, 0, none⟩)), (6, .bool x289), (7, .pointer (some ⟨g256, 0, none⟩)), (8, .pointer (some ⟨g255, 0, none⟩))]) [3, 4, 5, 6, 7, 8] (by kernel_rfl) ?_
              refine NN.then ?_
              refine J.ret ?_
              refine NN.then_ret ?_
              refine NN.fin1 6 (.bool x289) (by kernel_rfl) (by kernel_rfl) (.inl rfl) (fun w hi => hi.ret ?_)
              first | (cases H; rfl) | (obtain rfl := Option.some.inj H; rfl) | (simp only [Option.some.injEq, Prod.mk.injEq] at H; obtain ⟨rfl⟩ := H; rfl)

end Go.Proofs.Ytbgdgghijheopaa
