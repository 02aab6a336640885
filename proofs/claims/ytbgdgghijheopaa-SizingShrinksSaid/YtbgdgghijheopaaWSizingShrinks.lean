/- Walks of functions of the seat: each call does what the Lean function of the same name says. Printed by the session's own program absgen.py. -/
import Derived.Test.YtbgdgghijheopaaF1
namespace Go.Proofs.Ytbgdgghijheopaa
open Go.Saw
set_option linter.unusedVariables false
set_option linter.unusedSimpArgs false

/-! ### sawmilllaw39_SizingShrinks: function 8 -/
def sawmilllaw39_SizingShrinks.f (K : Nat) (a0_0 : ByteArray) (a0_1 : ByteArray) (a0_2 : ByteArray) (a0_3 : Int) (a0_4 : Int) (a0_5 : Int) (a0_6 : Int) (a0_7 : Int) (a0_8 : Int) (a0_9 : Int) (a0_10 : Int) (a0_12 : Int) (a0_13 : Int) (a0_14 : Int) (a0_15 : Int) (a0_16 : Bool) (a0_17 : Int) (a1_0 : ByteArray) (a1_1 : Int) (a1_2 : Int) (a1_3 : Int) (a1_4 : Int) (a1_5 : Int) (a1_6 : Int) (a1_7 : Int) (a1_8 : Int) (a1_9 : Int) (a1_10 : Int) (a1_11 : Int) (a1_12 : Int) : Option (Bool) := (sizing_Dried.f a0_0 a0_1 a0_2 a0_3 a0_4 a0_5 a0_6 a0_7 a0_8 a0_9 a0_10 a0_12 a0_13 a0_14 a0_15 a0_16 a0_17 a1_0 a1_1 a1_2 a1_3 a1_4 a1_5 a1_6 a1_7 a1_8 a1_9 a1_10 a1_11 a1_12).bind fun bx349 => ((sizing_Dried.f a0_0 a0_1 a0_2 a0_3 a0_6 a0_7 a0_4 a0_5 a0_8 a0_9 a0_10 a0_12 a0_13 a0_14 a0_15 a0_16 a0_17 a1_0 a1_1 a1_2 a1_3 a1_4 a1_5 a1_6 a1_7 a1_8 a1_9 a1_10 a1_11 a1_12).bind fun bx351 => (if bx351.1 = bx349.1 then (if bx351.2 = bx349.2 then (if bx349.1 < 0 then (some false) else (if bx349.2 < bx349.1 then (some false) else ((board_Volume.f a0_0 a0_1 a0_2 a0_3 a0_4 a0_5 a0_6 a0_7 a0_8 a0_9 a0_10 a0_12 a0_13 a0_14 a0_15 a0_16 a0_17).bind fun x356 => (if x356 = 0 then ((sawmilllaw39_awake.f K ).bind fun x358 => (some x358)) else ((sawmilllaw39_wood.f a1_0 a1_1 a1_2 a1_3 a1_4 a1_5 a1_6 a1_7 a1_8 a1_9 a1_10 a1_11 a1_12).bind fun x359 => (if x359 = true then (if (mn (IntKind.i64.wrap (a0_5 - a0_4)) (IntKind.i64.wrap (a0_7 - a0_6))) < bx349.1 then (some false) else (if (mx (IntKind.i64.wrap (a0_5 - a0_4)) (IntKind.i64.wrap (a0_7 - a0_6))) < bx349.2 then (some false) else ((sizing_Volume.f a0_0 a0_1 a0_2 a0_3 a0_4 a0_5 a0_6 a0_7 a0_8 a0_9 a0_10 a0_12 a0_13 a0_14 a0_15 a0_16 a0_17 a1_0 a1_1 a1_2 a1_3 a1_4 a1_5 a1_6 a1_7 a1_8 a1_9 a1_10 a1_11 a1_12).bind fun x363 => ((board_Volume.f a0_0 a0_1 a0_2 a0_3 a0_4 a0_5 a0_6 a0_7 a0_8 a0_9 a0_10 a0_12 a0_13 a0_14 a0_15 a0_16 a0_17).bind fun x364 => (if x364 < x363 then (some false) else ((moist_Mean.f a0_13 a0_14 a0_15).bind fun x366 => (if x366 < 3000 then ((sawmilllaw39_awake.f K ).bind fun x368 => (some x368)) else (if bx349.1 = (mn (IntKind.i64.wrap (a0_5 - a0_4)) (IntKind.i64.wrap (a0_7 - a0_6))) then (if bx349.2 = (mx (IntKind.i64.wrap (a0_5 - a0_4)) (IntKind.i64.wrap (a0_7 - a0_6))) then ((sawmilllaw39_awake.f K ).bind fun x371 => (some x371)) else (some false)) else (some false))))))))) else ((sawmilllaw39_awake.f K ).bind fun x372 => (some x372)))))))) else (some false)) else (some false)))
set_option maxRecDepth 100000 in
theorem sawmilllaw39_SizingShrinks.calls (K : Nat) (a0_0 : ByteArray) (a0_1 : ByteArray) (a0_2 : ByteArray) (a0_3 : Int) (a0_4 : Int) (a0_5 : Int) (a0_6 : Int) (a0_7 : Int) (a0_8 : Int) (a0_9 : Int) (a0_10 : Int) (a0_12 : Int) (a0_13 : Int) (a0_14 : Int) (a0_15 : Int) (a0_16 : Bool) (a0_17 : Int) (a1_0 : ByteArray) (a1_1 : Int) (a1_2 : Int) (a1_3 : Int) (a1_4 : Int) (a1_5 : Int) (a1_6 : Int) (a1_7 : Int) (a1_8 : Int) (a1_9 : Int) (a1_10 : Int) (a1_11 : Int) (a1_12 : Int)  (Aa0_11 : Option Addr) (na0_11 ca0_11 : Nat) (r1 : Bool) (w : World)   (h : sawmilllaw39_SizingShrinks.f K a0_0 a0_1 a0_2 a0_3 a0_4 a0_5 a0_6 a0_7 a0_8 a0_9 a0_10 a0_12 a0_13 a0_14 a0_15 a0_16 a0_17 a1_0 a1_1 a1_2 a1_3 a1_4 a1_5 a1_6 a1_7 a1_8 a1_9 a1_10 a1_11 a1_12 = some r1) :
    Calls Try.prog 8 #[.agg #[.string a0_0, .string a0_1, .string a0_2, .int .i64 a0_3, .int .i64 a0_4, .int .i64 a0_5, .int .i64 a0_6, .int .i64 a0_7, .int .i64 a0_8, .int .i64 a0_9, .int .i64 a0_10, .slice Aa0_11 na0_11 ca0_11, .int .i64 a0_12, .int .i64 a0_13, .int .i64 a0_14, .int .i64 a0_15, .bool a0_16, .int .i64 a0_17], .agg #[.string a1_0, .int .i64 a1_1, .int .i64 a1_2, .int .i64 a1_3, .int .i64 a1_4, .int .i64 a1_5, .int .i64 a1_6, .int .i64 a1_7, .int .i64 a1_8, .int .i64 a1_9, .int .i64 a1_10, .int .i64 a1_11, .int .i64 a1_12]] w (Ret w (.bool r1)) := by
  have H := h
  clear h
  unfold sawmilllaw39_SizingShrinks.f at H
  refine Go.Saw.calls (args := [.agg #[.string a0_0, .string a0_1, .string a0_2, .int .i64 a0_3, .int .i64 a0_4, .int .i64 a0_5, .int .i64 a0_6, .int .i64 a0_7, .int .i64 a0_8, .int .i64 a0_9, .int .i64 a0_10, .slice Aa0_11 na0_11 ca0_11, .int .i64 a0_12, .int .i64 a0_13, .int .i64 a0_14, .int .i64 a0_15, .bool a0_16, .int .i64 a0_17], .agg #[.string a1_0, .int .i64 a1_1, .int .i64 a1_2, .int .i64 a1_3, .int .i64 a1_4, .int .i64 a1_5, .int .i64 a1_6, .int .i64 a1_7, .int .i64 a1_8, .int .i64 a1_9, .int .i64 a1_10, .int .i64 a1_11, .int .i64 a1_12]]) Try.func8 rfl Try.ntmps8 (by kernel_rfl) ?_
  refine J.seq ?_
  refine J.plain ?_
  refine LL.box 30 (.tmp 0) [.string a0_0, .string a0_1, .string a0_2, .int .i64 a0_3, .int .i64 a0_4, .int .i64 a0_5, .int .i64 a0_6, .int .i64 a0_7, .int .i64 a0_8, .int .i64 a0_9, .int .i64 a0_10, .slice Aa0_11 na0_11 ca0_11, .int .i64 a0_12, .int .i64 a0_13, .int .i64 a0_14, .int .i64 a0_15, .bool a0_16, .int .i64 a0_17] (by kernel_rfl) rfl (by kernel_rfl) (fun g347 => ?_)
  refine LL.box 35 (.tmp 1) [.string a1_0, .int .i64 a1_1, .int .i64 a1_2, .int .i64 a1_3, .int .i64 a1_4, .int .i64 a1_5, .int .i64 a1_6, .int .i64 a1_7, .int .i64 a1_8, .int .i64 a1_9, .int .i64 a1_10, .int .i64 a1_11, .int .i64 a1_12] (by kernel_rfl) rfl (by kernel_rfl) (fun g348 => ?_)
  refine LL.op (.bool false) (by kernel_rfl) (fun w _ => by kernel_rfl) ?_
  refine LL.done (s' := [(2, .pointer (some ⟨g347, 0, none⟩)), (3, .pointer (some ⟨g348, 0, none⟩)), (4, .bool false)]) [2, 3, 4] (by kernel_rfl) ?_
  refine NN.then ?_
  refine J.seq ?_
  refine J.plain ?_
  refine LL.op (.agg #[.string a0_0, .string a0_1, .string a0_2, .int .i64 a0_3, .int .i64 a0_4, .int .i64 a0_5, .int .i64 a0_6, .int .i64 a0_7, .int .i64 a0_8, .int .i64 a0_9, .int .i64 a0_10, .slice Aa0_11 na0_11 ca0_11, .int .i64 a0_12, .int .i64 a0_13, .int .i64 a0_14, .int .i64 a0_15, .bool a0_16, .int .i64 a0_17]) (by kernel_rfl) (ld 1 g347 0 rfl (by kernel_rfl) rfl (by kernel_rfl)) ?_
  refine LL.op (.agg #[.string a1_0, .int .i64 a1_1, .int .i64 a1_2, .int .i64 a1_3, .int .i64 a1_4, .int .i64 a1_5, .int .i64 a1_6, .int .i64 a1_7, .int .i64 a1_8, .int .i64 a1_9, .int .i64 a1_10, .int .i64 a1_11, .int .i64 a1_12]) (by kernel_rfl) (ld 0 g348 0 rfl (by kernel_rfl) rfl (by kernel_rfl)) ?_
  obtain ⟨⟨x349_1, x349_2⟩, hx349, H⟩ := bind_some H
  (try dsimp only at H)
  refine LL.call 9 #[.agg #[.string a0_0, .string a0_1, .string a0_2, .int .i64 a0_3, .int .i64 a0_4, .int .i64 a0_5, .int .i64 a0_6, .int .i64 a0_7, .int .i64 a0_8, .int .i64 a0_9, .int .i64 a0_10, .slice Aa0_11 na0_11 ca0_11, .int .i64 a0_12, .int .i64 a0_13, .int .i64 a0_14, .int .i64 a0_15, .bool a0_16, .int .i64 a0_17], .agg #[.string a1_0, .int .i64 a1_1, .int .i64 a1_2, .int .i64 a1_3, .int .i64 a1_4, .int .i64 a1_5, .int .i64 a1_6, .int .i64 a1_7, .int .i64 a1_8, .int .i64 a1_9, .int .i64 a1_10, .int .i64 a1_11, .int .i64 a1_12]] (.tuple #[.int .i64 x349_1, .int .i64 x349_2]) (by kernel_rfl) (fun w => by kernel_rfl) (fun w hw => sizing_Dried.calls a0_0 a0_1 a0_2 a0_3 a0_4 a0_5 a0_6 a0_7 a0_8 a0_9 a0_10 a0_12 a0_13 a0_14 a0_15 a0_16 a0_17 a1_0 a1_1 a1_2 a1_3 a1_4 a1_5 a1_6 a1_7 a1_8 a1_9 a1_10 a1_11 a1_12  _ _ _ _ _ w   hx349) ?_
  refine LL.op (.tuple #[.int .i64 x349_1, .int .i64 x349_2]) (by kernel_rfl) (fun w _ => by kernel_rfl) ?_
  refine LL.op (.int .i64 x349_1) (by kernel_rfl) (fun w _ => by kernel_rfl) ?_
  refine LL.op (.int .i64 x349_2) (by kernel_rfl) (fun w _ => by kernel_rfl) ?_
  refine LL.op (.int .i64 x349_1) (by kernel_rfl) (fun w _ => by kernel_rfl) ?_
  refine LL.op (.int .i64 x349_2) (by kernel_rfl) (fun w _ => by kernel_rfl) ?_
  refine LL.done (s' := [(2, .pointer (some ⟨g347, 0, none⟩)), (3, .pointer (some ⟨g348, 0, none⟩)), (4, .bool false), (5, .int .i64 x349_1), (6, .int .i64 x349_2)]) [2, 3, 4, 5, 6] (by kernel_rfl) ?_
  refine NN.then ?_
  refine J.seq ?_
  refine J.plain ?_
  refine LL.op (.agg #[.string a0_0, .string a0_1, .string a0_2, .int .i64 a0_3, .int .i64 a0_4, .int .i64 a0_5, .int .i64 a0_6, .int .i64 a0_7, .int .i64 a0_8, .int .i64 a0_9, .int .i64 a0_10, .slice Aa0_11 na0_11 ca0_11, .int .i64 a0_12, .int .i64 a0_13, .int .i64 a0_14, .int .i64 a0_15, .bool a0_16, .int .i64 a0_17]) (by kernel_rfl) (ld 1 g347 0 rfl (by kernel_rfl) rfl (by kernel_rfl)) ?_
  refine LL.alloc 30 [.string (⟨#[]⟩ : ByteArray), .string (⟨#[]⟩ : ByteArray), .string (⟨#[]⟩ : ByteArray), .int .i64 0, .int .i64 0, .int .i64 0, .int .i64 0, .int .i64 0, .int .i64 0, .int .i64 0, .int .i64 0, .slice none 0 0, .int .i64 0, .int .i64 0, .int .i64 0, .int .i64 0, .bool false, .int .i64 0] (by kernel_rfl) rfl (by kernel_rfl) (fun g350 => ?_)
  refine LL.store 0 g350 0 30 (.tmp 7) (.tmp 18) [.string a0_0, .string a0_1, .string a0_2, .int .i64 a0_3, .int .i64 a0_4, .int .i64 a0_5, .int .i64 a0_6, .int .i64 a0_7, .int .i64 a0_8, .int .i64 a0_9, .int .i64 a0_10, .slice Aa0_11 na0_11 ca0_11, .int .i64 a0_12, .int .i64 a0_13, .int .i64 a0_14, .int .i64 a0_15, .bool a0_16, .int .i64 a0_17] (bs' := [(g350, cl [.string a0_0, .string a0_1, .string a0_2, .int .i64 a0_3, .int .i64 a0_4, .int .i64 a0_5, .int .i64 a0_6, .int .i64 a0_7, .int .i64 a0_8, .int .i64 a0_9, .int .i64 a0_10, .slice Aa0_11 na0_11 ca0_11, .int .i64 a0_12, .int .i64 a0_13, .int .i64 a0_14, .int .i64 a0_15, .bool a0_16, .int .i64 a0_17] 30), (g348, cl [.string a1_0, .int .i64 a1_1, .int .i64 a1_2, .int .i64 a1_3, .int .i64 a1_4, .int .i64 a1_5, .int .i64 a1_6, .int .i64 a1_7, .int .i64 a1_8, .int .i64 a1_9, .int .i64 a1_10, .int .i64 a1_11, .int .i64 a1_12] 35), (g347, cl [.string a0_0, .string a0_1, .string a0_2, .int .i64 a0_3, .int .i64 a0_4, .int .i64 a0_5, .int .i64 a0_6, .int .i64 a0_7, .int .i64 a0_8, .int .i64 a0_9, .int .i64 a0_10, .slice Aa0_11 na0_11 ca0_11, .int .i64 a0_12, .int .i64 a0_13, .int .i64 a0_14, .int .i64 a0_15, .bool a0_16, .int .i64 a0_17] 30)]) rfl (by kernel_rfl) rfl (by kernel_rfl) rfl (by kernel_rfl) ?_
  refine LL.done (s' := [(2, .pointer (some ⟨g347, 0, none⟩)), (3, .pointer (some ⟨g348, 0, none⟩)), (4, .bool false), (5, .int .i64 x349_1), (6, .int .i64 x349_2), (7, .pointer (some ⟨g350, 0, none⟩))]) [2, 3, 4, 5, 6, 7] (by kernel_rfl) ?_
  refine NN.then ?_
  refine J.seq ?_
  refine J.plain ?_
  refine LL.op (.pointer (some ⟨g347, 4, none⟩)) (by kernel_rfl) (fun w _ => by kernel_rfl) ?_
  refine LL.op (.pointer (some ⟨g347, 6, none⟩)) (by kernel_rfl) (fun w _ => by kernel_rfl) ?_
  refine LL.op (.agg #[.int .i64 a0_6, .int .i64 a0_7]) (by kernel_rfl) (ld 2 g347 6 rfl (by kernel_rfl) rfl (by kernel_rfl)) ?_
  refine LL.op (.pointer (some ⟨g350, 4, none⟩)) (by kernel_rfl) (fun w _ => by kernel_rfl) ?_
  refine LL.op (.pointer (some ⟨g350, 4, none⟩)) (by kernel_rfl) (fun w _ => by kernel_rfl) ?_
  refine LL.store 0 g350 4 23 (.tmp 23) (.tmp 21) [.string a0_0, .string a0_1, .string a0_2, .int .i64 a0_3, .int .i64 a0_6, .int .i64 a0_7, .int .i64 a0_6, .int .i64 a0_7, .int .i64 a0_8, .int .i64 a0_9, .int .i64 a0_10, .slice Aa0_11 na0_11 ca0_11, .int .i64 a0_12, .int .i64 a0_13, .int .i64 a0_14, .int .i64 a0_15, .bool a0_16, .int .i64 a0_17] (bs' := [(g350, cl [.string a0_0, .string a0_1, .string a0_2, .int .i64 a0_3, .int .i64 a0_6, .int .i64 a0_7, .int .i64 a0_6, .int .i64 a0_7, .int .i64 a0_8, .int .i64 a0_9, .int .i64 a0_10, .slice Aa0_11 na0_11 ca0_11, .int .i64 a0_12, .int .i64 a0_13, .int .i64 a0_14, .int .i64 a0_15, .bool a0_16, .int .i64 a0_17] 30), (g348, cl [.string a1_0, .int .i64 a1_1, .int .i64 a1_2, .int .i64 a1_3, .int .i64 a1_4, .int .i64 a1_5, .int .i64 a1_6, .int .i64 a1_7, .int .i64 a1_8, .int .i64 a1_9, .int .i64 a1_10, .int .i64 a1_11, .int .i64 a1_12] 35), (g347, cl [.string a0_0, .string a0_1, .string a0_2, .int .i64 a0_3, .int .i64 a0_4, .int .i64 a0_5, .int .i64 a0_6, .int .i64 a0_7, .int .i64 a0_8, .int .i64 a0_9, .int .i64 a0_10, .slice Aa0_11 na0_11 ca0_11, .int .i64 a0_12, .int .i64 a0_13, .int .i64 a0_14, .int .i64 a0_15, .bool a0_16, .int .i64 a0_17] 30)]) rfl (by kernel_rfl) rfl (by kernel_rfl) rfl (by kernel_rfl) ?_
  refine LL.done (s' := [(2, .pointer (some ⟨g347, 0, none⟩)), (3, .pointer (some ⟨g348, 0, none⟩)), (4, .bool false), (5, .int .i64 x349_1), (6, .int .i64 x349_2), (7, .pointer (some ⟨g350, 0, none⟩))]) [2, 3, 4, 5, 6, 7] (by kernel_rfl) ?_
  refine NN.then ?_
  refine J.seq ?_
  refine J.plain ?_
  refine LL.op (.pointer (some ⟨g347, 4, none⟩)) (by kernel_rfl) (fun w _ => by kernel_rfl) ?_
  refine LL.op (.pointer (some ⟨g347, 4, none⟩)) (by kernel_rfl) (fun w _ => by kernel_rfl) ?_
  refine LL.op (.agg #[.int .i64 a0_4, .int .i64 a0_5]) (by kernel_rfl) (ld 2 g347 4 rfl (by kernel_rfl) rfl (by kernel_rfl)) ?_
  refine LL.op (.pointer (some ⟨g350, 4, none⟩)) (by kernel_rfl) (fun w _ => by kernel_rfl) ?_
  refine LL.op (.pointer (some ⟨g350, 6, none⟩)) (by kernel_rfl) (fun w _ => by kernel_rfl) ?_
  refine LL.store 0 g350 6 23 (.tmp 28) (.tmp 26) [.string a0_0, .string a0_1, .string a0_2, .int .i64 a0_3, .int .i64 a0_6, .int .i64 a0_7, .int .i64 a0_4, .int .i64 a0_5, .int .i64 a0_8, .int .i64 a0_9, .int .i64 a0_10, .slice Aa0_11 na0_11 ca0_11, .int .i64 a0_12, .int .i64 a0_13, .int .i64 a0_14, .int .i64 a0_15, .bool a0_16, .int .i64 a0_17] (bs' := [(g350, cl [.string a0_0, .string a0_1, .string a0_2, .int .i64 a0_3, .int .i64 a0_6, .int .i64 a0_7, .int .i64 a0_4, .int .i64 a0_5, .int .i64 a0_8, .int .i64 a0_9, .int .i64 a0_10, .slice Aa0_11 na0_11 ca0_11, .int .i64 a0_12, .int .i64 a0_13, .int .i64 a0_14, .int .i64 a0_15, .bool a0_16, .int .i64 a0_17] 30), (g348, cl [.string a1_0, .int .i64 a1_1, .int .i64 a1_2, .int .i64 a1_3, .int .i64 a1_4, .int .i64 a1_5, .int .i64 a1_6, .int .i64 a1_7, .int .i64 a1_8, .int .i64 a1_9, .int .i64 a1_10, .int .i64 a1_11, .int .i64 a1_12] 35), (g347, cl [.string a0_0, .string a0_1, .string a0_2, .int .i64 a0_3, .int .i64 a0_4, .int .i64 a0_5, .int .i64 a0_6, .int .i64 a0_7, .int .i64 a0_8, .int .i64 a0_9, .int .i64 a0_10, .slice Aa0_11 na0_11 ca0_11, .int .i64 a0_12, .int .i64 a0_13, .int .i64 a0_14, .int .i64 a0_15, .bool a0_16, .int .i64 a0_17] 30)]) rfl (by kernel_rfl) rfl (by kernel_rfl) rfl (by kernel_rfl) ?_
  refine LL.done (s' := [(2, .pointer (some ⟨g347, 0, none⟩)), (3, .pointer (some ⟨g348, 0, none⟩)), (4, .bool false), (5, .int .i64 x349_1), (6, .int .i64 x349_2), (7, .pointer (some ⟨g350, 0, none⟩))]) [2, 3, 4, 5, 6, 7] (by kernel_rfl) ?_
  refine NN.then ?_
  refine J.seq ?_
  refine J.plain ?_
  refine LL.op (.agg #[.string a0_0, .string a0_1, .string a0_2, .int .i64 a0_3, .int .i64 a0_6, .int .i64 a0_7, .int .i64 a0_4, .int .i64 a0_5, .int .i64 a0_8, .int .i64 a0_9, .int .i64 a0_10, .slice Aa0_11 na0_11 ca0_11, .int .i64 a0_12, .int .i64 a0_13, .int .i64 a0_14, .int .i64 a0_15, .bool a0_16, .int .i64 a0_17]) (by kernel_rfl) (ld 0 g350 0 rfl (by kernel_rfl) rfl (by kernel_rfl)) ?_
  refine LL.op (.agg #[.string a1_0, .int .i64 a1_1, .int .i64 a1_2, .int .i64 a1_3, .int .i64 a1_4, .int .i64 a1_5, .int .i64 a1_6, .int .i64 a1_7, .int .i64 a1_8, .int .i64 a1_9, .int .i64 a1_10, .int .i64 a1_11, .int .i64 a1_12]) (by kernel_rfl) (ld 1 g348 0 rfl (by kernel_rfl) rfl (by kernel_rfl)) ?_
  obtain ⟨⟨x351_1, x351_2⟩, hx351, H⟩ := bind_some H
  (try dsimp only at H)
  refine LL.call 9 #[.agg #[.string a0_0, .string a0_1, .string a0_2, .int .i64 a0_3, .int .i64 a0_6, .int .i64 a0_7, .int .i64 a0_4, .int .i64 a0_5, .int .i64 a0_8, .int .i64 a0_9, .int .i64 a0_10, .slice Aa0_11 na0_11 ca0_11, .int .i64 a0_12, .int .i64 a0_13, .int .i64 a0_14, .int .i64 a0_15, .bool a0_16, .int .i64 a0_17], .agg #[.string a1_0, .int .i64 a1_1, .int .i64 a1_2, .int .i64 a1_3, .int .i64 a1_4, .int .i64 a1_5, .int .i64 a1_6, .int .i64 a1_7, .int .i64 a1_8, .int .i64 a1_9, .int .i64 a1_10, .int .i64 a1_11, .int .i64 a1_12]] (.tuple #[.int .i64 x351_1, .int .i64 x351_2]) (by kernel_rfl) (fun w => by kernel_rfl) (fun w hw => sizing_Dried.calls a0_0 a0_1 a0_2 a0_3 a0_6 a0_7 a0_4 a0_5 a0_8 a0_9 a0_10 a0_12 a0_13 a0_14 a0_15 a0_16 a0_17 a1_0 a1_1 a1_2 a1_3 a1_4 a1_5 a1_6 a1_7 a1_8 a1_9 a1_10 a1_11 a1_12  _ _ _ _ _ w   hx351) ?_
  refine LL.op (.tuple #[.int .i64 x351_1, .int .i64 x351_2]) (by kernel_rfl) (fun w _ => by kernel_rfl) ?_
  refine LL.op (.int .i64 x351_1) (by kernel_rfl) (fun w _ => by kernel_rfl) ?_
  refine LL.op (.int .i64 x351_2) (by kernel_rfl) (fun w _ => by kernel_rfl) ?_
  refine LL.op (.int .i64 x351_1) (by kernel_rfl) (fun w _ => by kernel_rfl) ?_
  refine LL.op (.int .i64 x351_2) (by kernel_rfl) (fun w _ => by kernel_rfl) ?_
  refine LL.done (s' := [(2, .pointer (some ⟨g347, 0, none⟩)), (3, .pointer (some ⟨g348, 0, none⟩)), (4, .bool false), (5, .int .i64 x349_1), (6, .int .i64 x349_2), (8, .int .i64 x351_1), (9, .int .i64 x351_2)]) [2, 3, 4, 5, 6, 8, 9] (by kernel_rfl) ?_
  refine NN.then ?_
  refine J.seq ?_
  refine J.seq ?_
  refine J.plain ?_
  refine LL.op (.int .i64 x351_1) (by kernel_rfl) (fun w _ => by kernel_rfl) ?_
  refine LL.op (.int .i64 x349_1) (by kernel_rfl) (fun w _ => by kernel_rfl) ?_
  refine LL.op (.bool (!(x351_1 == x349_1))) (by kernel_rfl) (fun w _ => by kernel_rfl) ?_
  refine LL.op (.bool (!(x351_1 == x349_1))) (by kernel_rfl) (fun w _ => by kernel_rfl) ?_
  rcases Bool.eq_false_or_eq_true ((x351_1 == x349_1)) with c352 | c352
  · rw [if_pos (eq_of_beq c352)] at H
    refine LL.bool 38 (!(x351_1 == x349_1)) false (by rw [show (!(x351_1 == x349_1)) = !((x351_1 == x349_1)) from rfl, c352]; rfl) (by kernel_rfl) ?_
    refine LL.op (.int .i64 x351_2) (by kernel_rfl) (fun w _ => by kernel_rfl) ?_
    refine LL.op (.int .i64 x349_2) (by kernel_rfl) (fun w _ => by kernel_rfl) ?_
    refine LL.op (.bool (!(x351_2 == x349_2))) (by kernel_rfl) (fun w _ => by kernel_rfl) ?_
    refine LL.op (.bool (!(x351_2 == x349_2))) (by kernel_rfl) (fun w _ => by kernel_rfl) ?_
    refine LL.op (.bool (!(x351_2 == x349_2))) (by kernel_rfl) (fun w _ => by kernel_rfl) ?_
    rcases Bool.eq_false_or_eq_true ((x351_2 == x349_2)) with c353 | c353
    · rw [if_pos (eq_of_beq c353)] at H
      refine LL.bool 43 (!(x351_2 == x349_2)) false (by rw [show (!(x351_2 == x349_2)) = !((x351_2 == x349_2)) from rfl, c353]; rfl) (by kernel_rfl) ?_
      refine LL.op (.int .i64 x349_1) (by kernel_rfl) (fun w _ => by kernel_rfl) ?_
      refine LL.op (.bool (decide (x349_1 < 0))) (by kernel_rfl) (fun w _ => by kernel_rfl) ?_
      refine LL.op (.bool (decide (x349_1 < 0))) (by kernel_rfl) (fun w _ => by kernel_rfl) ?_
      refine LL.op (.bool (decide (x349_1 < 0))) (by kernel_rfl) (fun w _ => by kernel_rfl) ?_
      rcases Bool.eq_false_or_eq_true (decide (x349_1 < 0)) with c354 | c354
      · rw [if_pos (of_decide_eq_true c354)] at H
        refine LL.bool 47 (decide (x349_1 < 0)) true c354 (by kernel_rfl) ?_
        refine LL.off (by kernel_rfl) (by kernel_rfl) ?_
        refine LL.off (by kernel_rfl) (by kernel_rfl) ?_
        refine LL.off (by kernel_rfl) (by kernel_rfl) ?_
        refine LL.op (.bool true) (by kernel_rfl) (fun w _ => by kernel_rfl) ?_
        refine LL.done (s' := [(2, .pointer (some ⟨g347, 0, none⟩)), (3, .pointer (some ⟨g348, 0, none⟩)), (4, .bool false), (5, .int .i64 x349_1), (6, .int .i64 x349_2), (51, .bool true)]) [2, 3, 4, 5, 6, 51] (by kernel_rfl) ?_
        refine NN.then ?_
        refine J.condT (b := true) rfl (by kernel_rfl) (by kernel_rfl) ?_
        refine J.seq ?_
        refine J.plain ?_
        refine LL.op (.bool false) (by kernel_rfl) (fun w _ => by kernel_rfl) ?_
        refine LL.done (s' := [(2, .pointer (some ⟨g347, 0, none⟩)), (3, .pointer (some ⟨g348, 0, none⟩)), (4, .bool false), (5, .int .i64 x349_1), (6, .int .i64 x349_2)]) [2, 3, 4, 5, 6] (by kernel_rfl) ?_
        refine NN.then ?_
        refine J.ret ?_
        refine NN.then_ret ?_
        refine NN.fin1 4 (.bool false) (by kernel_rfl) (by kernel_rfl) (.inl rfl) (fun w hi => hi.ret ?_)
        first | (cases H; rfl) | (obtain rfl := Option.some.inj H; rfl) | (simp only [Option.some.injEq, Prod.mk.injEq] at H; obtain ⟨rfl⟩ := H; rfl)
      · rw [if_neg (of_decide_eq_false c354)] at H
        refine LL.bool 47 (decide (x349_1 < 0)) false c354 (by kernel_rfl) ?_
        refine LL.op (.int .i64 x349_2) (by kernel_rfl) (fun w _ => by kernel_rfl) ?_
        refine LL.op (.int .i64 x349_1) (by kernel_rfl) (fun w _ => by kernel_rfl) ?_
        refine LL.op (.bool (decide (x349_2 < x349_1))) (by kernel_rfl) (fun w _ => by kernel_rfl) ?_
        refine LL.op (.bool (decide (x349_2 < x349_1))) (by kernel_rfl) (fun w _ => by kernel_rfl) ?_
        refine LL.done (s' := [(2, .pointer (some ⟨g347, 0, none⟩)), (3, .pointer (some ⟨g348, 0, none⟩)), (4, .bool false), (5, .int .i64 x349_1), (6, .int .i64 x349_2), (51, .bool (decide (x349_2 < x349_1)))]) [2, 3, 4, 5, 6, 51] (by kernel_rfl) ?_
        refine NN.then ?_
        rcases Bool.eq_false_or_eq_true (decide (x349_2 < x349_1)) with c355 | c355
        · rw [if_pos (of_decide_eq_true c355)] at H
          refine J.condT (b := decide (x349_2 < x349_1)) c355 (by kernel_rfl) (by kernel_rfl) ?_
          refine J.seq ?_
          refine J.plain ?_
          refine LL.op (.bool false) (by kernel_rfl) (fun w _ => by kernel_rfl) ?_
          refine LL.done (s' := [(2, .pointer (some ⟨g347, 0, none⟩)), (3, .pointer (some ⟨g348, 0, none⟩)), (4, .bool false), (5, .int .i64 x349_1), (6, .int .i64 x349_2)]) [2, 3, 4, 5, 6] (by kernel_rfl) ?_
          refine NN.then ?_
          refine J.ret ?_
          refine NN.then_ret ?_
          refine NN.fin1 4 (.bool false) (by kernel_rfl) (by kernel_rfl) (.inl rfl) (fun w hi => hi.ret ?_)
          first | (cases H; rfl) | (obtain rfl := Option.some.inj H; rfl) | (simp only [Option.some.injEq, Prod.mk.injEq] at H; obtain ⟨rfl⟩ := H; rfl)
        · rw [if_neg (of_decide_eq_false c355)] at H
          refine J.condF (b := decide (x349_2 < x349_1)) c355 (by kernel_rfl) (by kernel_rfl) ?_
          refine J.skip ?_
          refine NN.then ?_
          refine J.seq ?_
          refine J.seq ?_
          refine J.plain ?_
          refine LL.op (.agg #[.string a0_0, .string a0_1, .string a0_2, .int .i64 a0_3, .int .i64 a0_4, .int .i64 a0_5, .int .i64 a0_6, .int .i64 a0_7, .int .i64 a0_8, .int .i64 a0_9, .int .i64 a0_10, .slice Aa0_11 na0_11 ca0_11, .int .i64 a0_12, .int .i64 a0_13, .int .i64 a0_14, .int .i64 a0_15, .bool a0_16, .int .i64 a0_17]) (by kernel_rfl) (ld 2 g347 0 rfl (by kernel_rfl) rfl (by kernel_rfl)) ?_
          obtain ⟨x356, hx356, H⟩ := bind_some H
          refine LL.call 21 #[.agg #[.string a0_0, .string a0_1, .string a0_2, .int .i64 a0_3, .int .i64 a0_4, .int .i64 a0_5, .int .i64 a0_6, .int .i64 a0_7, .int .i64 a0_8, .int .i64 a0_9, .int .i64 a0_10, .slice Aa0_11 na0_11 ca0_11, .int .i64 a0_12, .int .i64 a0_13, .int .i64 a0_14, .int .i64 a0_15, .bool a0_16, .int .i64 a0_17]] (.int .i64 x356) (by kernel_rfl) (fun w => by kernel_rfl) (fun w hw => board_Volume.calls a0_0 a0_1 a0_2 a0_3 a0_4 a0_5 a0_6 a0_7 a0_8 a0_9 a0_10 a0_12 a0_13 a0_14 a0_15 a0_16 a0_17  _ _ _ _ w   hx356) ?_
          refine LL.op (.bool (x356 == 0)) (by kernel_rfl) (fun w _ => by kernel_rfl) ?_
          refine LL.op (.bool (x356 == 0)) (by kernel_rfl) (fun w _ => by kernel_rfl) ?_
          rcases Bool.eq_false_or_eq_true ((x356 == 0)) with c357 | c357
          · rw [if_pos (eq_of_beq c357)] at H
            refine LL.bool 55 ((x356 == 0)) true c357 (by kernel_rfl) ?_
            refine LL.off (by kernel_rfl) (by kernel_rfl) ?_
            refine LL.off (by kernel_rfl) (by kernel_rfl) ?_
            refine LL.off (by kernel_rfl) (by kernel_rfl) ?_
            refine LL.op (.bool true) (by kernel_rfl) (fun w _ => by kernel_rfl) ?_
            refine LL.done (s' := [(2, .pointer (some ⟨g347, 0, none⟩)), (3, .pointer (some ⟨g348, 0, none⟩)), (4, .bool false), (5, .int .i64 x349_1), (6, .int .i64 x349_2), (59, .bool true)]) [2, 3, 4, 5, 6, 59] (by kernel_rfl) ?_
            refine NN.then ?_
            refine J.condT (b := true) rfl (by kernel_rfl) (by kernel_rfl) ?_
            refine J.seq ?_
            refine J.plain ?_
            obtain ⟨x358, hx358, H⟩ := bind_some H
            refine LL.call 15 #[] (.bool x358) (by kernel_rfl) (fun w => by kernel_rfl) (fun w hw => sawmilllaw39_awake.calls K    _ w   hx358) ?_
            refine LL.op (.bool x358) (by kernel_rfl) (fun w _ => by kernel_rfl) ?_
            refine LL.done (s' := [(2, .pointer (some ⟨g347, 0, none⟩)), (3, .pointer (some ⟨g348, 0, none⟩)), (4, .bool x358), (5, .int .i64 x349_1), (6, .int .i64 x349_2)]) [2, 3, 4, 5, 6] (by kernel_rfl) ?_
            refine NN.then ?_
            refine J.ret ?_
            refine NN.then_ret ?_
            refine NN.fin1 4 (.bool x358) (by kernel_rfl) (by kernel_rfl) (.inl rfl) (fun w hi => hi.ret ?_)
            first | (cases H; rfl) | (obtain rfl := Option.some.inj H; rfl) | (simp only [Option.some.injEq, Prod.mk.injEq] at H; obtain ⟨rfl⟩ := H; rfl)
          · rw [if_neg (nebf c357)] at H
            refine LL.bool 55 ((x356 == 0)) false c357 (by kernel_rfl) ?_
            refine LL.op (.agg #[.string a1_0, .int .i64 a1_1, .int .i64 a1_2, .int .i64 a1_3, .int .i64 a1_4, .int .i64 a1_5, .int .i64 a1_6, .int .i64 a1_7, .int .i64 a1_8, .int .i64 a1_9, .int .i64 a1_10, .int .i64 a1_11, .int .i64 a1_12]) (by kernel_rfl) (ld 1 g348 0 rfl (by kernel_rfl) rfl (by kernel_rfl)) ?_
            obtain ⟨x359, hx359, H⟩ := bind_some H
            refine LL.call 18 #[.agg #[.string a1_0, .int .i64 a1_1, .int .i64 a1_2, .int .i64 a1_3, .int .i64 a1_4, .int .i64 a1_5, .int .i64 a1_6, .int .i64 a1_7, .int .i64 a1_8, .int .i64 a1_9, .int .i64 a1_10, .int .i64 a1_11, .int .i64 a1_12]] (.bool x359) (by kernel_rfl) (fun w => by kernel_rfl) (fun w hw => sawmilllaw39_wood.calls a1_0 a1_1 a1_2 a1_3 a1_4 a1_5 a1_6 a1_7 a1_8 a1_9 a1_10 a1_11 a1_12   _ w   hx359) ?_
            refine LL.op (.bool (!x359)) (by kernel_rfl) (fun w _ => by kernel_rfl) ?_
            refine LL.op (.bool (!x359)) (by kernel_rfl) (fun w _ => by kernel_rfl) ?_
            refine LL.done (s' := [(2, .pointer (some ⟨g347, 0, none⟩)), (3, .pointer (some ⟨g348, 0, none⟩)), (4, .bool false), (5, .int .i64 x349_1), (6, .int .i64 x349_2), (59, .bool (!x359))]) [2, 3, 4, 5, 6, 59] (by kernel_rfl) ?_
            refine NN.then ?_
            rcases Bool.eq_false_or_eq_true (x359) with c360 | c360
            · rw [if_pos (c360)] at H
              refine J.condF (b := !x359) (by rw [show (!x359) = !(x359) from rfl, c360]; rfl) (by kernel_rfl) (by kernel_rfl) ?_
              refine J.skip ?_
              refine NN.then ?_
              refine J.seq ?_
              refine J.drawn follows (by kernel_rfl) ?_
              refine QQ.op (.pointer (some ⟨g347, 4, none⟩)) (by kernel_rfl) (fun w _ => by kernel_rfl) ?_
              refine QQ.op (.pointer (some ⟨g347, 4, none⟩)) (by kernel_rfl) (fun w _ => by kernel_rfl) ?_
              refine QQ.op (.pointer (some ⟨g347, 5, none⟩)) (by kernel_rfl) (fun w _ => by kernel_rfl) ?_
              refine QQ.op (.int .i64 a0_5) (by kernel_rfl) (ld 2 g347 5 rfl (by kernel_rfl) rfl (by kernel_rfl)) ?_
              refine QQ.op (.pointer (some ⟨g347, 4, none⟩)) (by kernel_rfl) (fun w _ => by kernel_rfl) ?_
              refine QQ.op (.pointer (some ⟨g347, 4, none⟩)) (by kernel_rfl) (fun w _ => by kernel_rfl) ?_
              refine QQ.op (.pointer (some ⟨g347, 4, none⟩)) (by kernel_rfl) (fun w _ => by kernel_rfl) ?_
              refine QQ.op (.int .i64 a0_4) (by kernel_rfl) (ld 2 g347 4 rfl (by kernel_rfl) rfl (by kernel_rfl)) ?_
              refine QQ.op (.int .i64 (IntKind.i64.wrap (a0_5 - a0_4))) (by kernel_rfl) (fun w _ => by kernel_rfl) ?_
              refine QQ.op (.pointer (some ⟨g347, 4, none⟩)) (by kernel_rfl) (fun w _ => by kernel_rfl) ?_
              refine QQ.op (.pointer (some ⟨g347, 6, none⟩)) (by kernel_rfl) (fun w _ => by kernel_rfl) ?_
              refine QQ.op (.pointer (some ⟨g347, 7, none⟩)) (by kernel_rfl) (fun w _ => by kernel_rfl) ?_
              refine QQ.op (.int .i64 a0_7) (by kernel_rfl) (ld 2 g347 7 rfl (by kernel_rfl) rfl (by kernel_rfl)) ?_
              refine QQ.op (.pointer (some ⟨g347, 4, none⟩)) (by kernel_rfl) (fun w _ => by kernel_rfl) ?_
              refine QQ.op (.pointer (some ⟨g347, 6, none⟩)) (by kernel_rfl) (fun w _ => by kernel_rfl) ?_
              refine QQ.op (.pointer (some ⟨g347, 6, none⟩)) (by kernel_rfl) (fun w _ => by kernel_rfl) ?_
              refine QQ.op (.int .i64 a0_6) (by kernel_rfl) (ld 2 g347 6 rfl (by kernel_rfl) rfl (by kernel_rfl)) ?_
              refine QQ.op (.int .i64 (IntKind.i64.wrap (a0_7 - a0_6))) (by kernel_rfl) (fun w _ => by kernel_rfl) ?_
              refine QQ.op (.int .i64 (IntKind.i64.wrap (a0_5 - a0_4))) (by kernel_rfl) (fun w _ => by kernel_rfl) ?_
              refine QQ.op (.int .i64 (IntKind.i64.wrap (a0_7 - a0_6))) (by kernel_rfl) (fun w _ => by kernel_rfl) ?_
              refine QQ.done (s' := [(2, .pointer (some ⟨g347, 0, none⟩)), (3, .pointer (some ⟨g348, 0, none⟩)), (4, .bool false), (5, .int .i64 x349_1), (6, .int .i64 x349_2), (10, .int .i64 (IntKind.i64.wrap (a0_5 - a0_4))), (11, .int .i64 (IntKind.i64.wrap (a0_7 - a0_6)))]) [2, 3, 4, 5, 6, 10, 11] (by kernel_rfl) ?_
              refine NN.then ?_
              refine J.seq ?_
              refine J.seq ?_
              refine J.drawn follows (by kernel_rfl) ?_
              refine QQ.op (.int .i64 x349_1) (by kernel_rfl) (fun w _ => by kernel_rfl) ?_
              refine QQ.op (.int .i64 (IntKind.i64.wrap (a0_5 - a0_4))) (by kernel_rfl) (fun w _ => by kernel_rfl) ?_
              refine QQ.op (.int .i64 (IntKind.i64.wrap (a0_7 - a0_6))) (by kernel_rfl) (fun w _ => by kernel_rfl) ?_
              refine QQ.op (.int .i64 (mn (IntKind.i64.wrap (a0_5 - a0_4)) (IntKind.i64.wrap (a0_7 - a0_6)))) (by kernel_rfl) (fun w _ => by kernel_rfl) ?_
              refine QQ.op (.bool (decide ((mn (IntKind.i64.wrap (a0_5 - a0_4)) (IntKind.i64.wrap (a0_7 - a0_6))) < x349_1))) (by kernel_rfl) (fun w _ => by kernel_rfl) ?_
              refine QQ.op (.bool (decide ((mn (IntKind.i64.wrap (a0_5 - a0_4)) (IntKind.i64.wrap (a0_7 - a0_6))) < x349_1))) (by kernel_rfl) (fun w _ => by kernel_rfl) ?_
              rcases Bool.eq_false_or_eq_true (decide ((mn (IntKind.i64.wrap (a0_5 - a0_4)) (IntKind.i64.wrap (a0_7 - a0_6))) < x349_1)) with c361 | c361
              · rw [if_pos (of_decide_eq_true c361)] at H
                refine QQ.bool 84 (decide ((mn (IntKind.i64.wrap (a0_5 - a0_4)) (IntKind.i64.wrap (a0_7 - a0_6))) < x349_1)) true c361 (by kernel_rfl) ?_
                refine QQ.off (by kernel_rfl) (by kernel_rfl) ?_
                refine QQ.off (by kernel_rfl) (by kernel_rfl) ?_
                refine QQ.off (by kernel_rfl) (by kernel_rfl) ?_
                refine QQ.off (by kernel_rfl) (by kernel_rfl) ?_
                refine QQ.off (by kernel_rfl) (by kernel_rfl) ?_
                refine QQ.op (.bool true) (by kernel_rfl) (fun w _ => by kernel_rfl) ?_
                refine QQ.op (.bool true) (by kernel_rfl) (fun w _ => by kernel_rfl) ?_
                refine QQ.off (by kernel_rfl) (by kernel_rfl) ?_
                refine QQ.off (by kernel_rfl) (by kernel_rfl) ?_
                refine QQ.off (by kernel_rfl) (by kernel_rfl) ?_
                refine QQ.off (by kernel_rfl) (by kernel_rfl) ?_
                refine QQ.off (by kernel_rfl) (by kernel_rfl) ?_
                refine QQ.off (by kernel_rfl) (by kernel_rfl) ?_
                refine QQ.op (.bool true) (by kernel_rfl) (fun w _ => by kernel_rfl) ?_
                refine QQ.done (s' := [(2, .pointer (some ⟨g347, 0, none⟩)), (4, .bool false), (5, .int .i64 x349_1), (6, .int .i64 x349_2), (10, .int .i64 (IntKind.i64.wrap (a0_5 - a0_4))), (11, .int .i64 (IntKind.i64.wrap (a0_7 - a0_6))), (98, .bool true)]) [2, 4, 5, 6, 10, 11, 98] (by kernel_rfl) ?_
                refine NN.then ?_
                refine J.condT (b := true) rfl (by kernel_rfl) (by kernel_rfl) ?_
                refine J.seq ?_
                refine J.plain ?_
                refine LL.op (.bool false) (by kernel_rfl) (fun w _ => by kernel_rfl) ?_
                refine LL.done (s' := [(2, .pointer (some ⟨g347, 0, none⟩)), (4, .bool false), (5, .int .i64 x349_1), (6, .int .i64 x349_2), (10, .int .i64 (IntKind.i64.wrap (a0_5 - a0_4))), (11, .int .i64 (IntKind.i64.wrap (a0_7 - a0_6)))]) [2, 4, 5, 6, 10, 11] (by kernel_rfl) ?_
                refine NN.then ?_
                refine J.ret ?_
                refine NN.then_ret ?_
                refine NN.fin1 4 (.bool false) (by kernel_rfl) (by kernel_rfl) (.inl rfl) (fun w hi => hi.ret ?_)
                first | (cases H; rfl) | (obtain rfl := Option.some.inj H; rfl) | (simp only [Option.some.injEq, Prod.mk.injEq] at H; obtain ⟨rfl⟩ := H; rfl)
              · rw [if_neg (of_decide_eq_false c361)] at H
                refine QQ.bool 84 (decide ((mn (IntKind.i64.wrap (a0_5 - a0_4)) (IntKind.i64.wrap (a0_7 - a0_6))) < x349_1)) false c361 (by kernel_rfl) ?_
                refine QQ.op (.int .i64 x349_2) (by kernel_rfl) (fun w _ => by kernel_rfl) ?_
                refine QQ.op (.int .i64 (IntKind.i64.wrap (a0_5 - a0_4))) (by kernel_rfl) (fun w _ => by kernel_rfl) ?_
                refine QQ.op (.int .i64 (IntKind.i64.wrap (a0_7 - a0_6))) (by kernel_rfl) (fun w _ => by kernel_rfl) ?_
                refine QQ.op (.int .i64 (mx (IntKind.i64.wrap (a0_5 - a0_4)) (IntKind.i64.wrap (a0_7 - a0_6)))) (by kernel_rfl) (fun w _ => by kernel_rfl) ?_
                refine QQ.op (.bool (decide ((mx (IntKind.i64.wrap (a0_5 - a0_4)) (IntKind.i64.wrap (a0_7 - a0_6))) < x349_2))) (by kernel_rfl) (fun w _ => by kernel_rfl) ?_
                refine QQ.op (.bool (decide ((mx (IntKind.i64.wrap (a0_5 - a0_4)) (IntKind.i64.wrap (a0_7 - a0_6))) < x349_2))) (by kernel_rfl) (fun w _ => by kernel_rfl) ?_
                refine QQ.op (.bool (decide ((mx (IntKind.i64.wrap (a0_5 - a0_4)) (IntKind.i64.wrap (a0_7 - a0_6))) < x349_2))) (by kernel_rfl) (fun w _ => by kernel_rfl) ?_
                rcases Bool.eq_false_or_eq_true (decide ((mx (IntKind.i64.wrap (a0_5 - a0_4)) (IntKind.i64.wrap (a0_7 - a0_6))) < x349_2)) with c362 | c362
                · rw [if_pos (of_decide_eq_true c362)] at H
                  refine QQ.bool 91 (decide ((mx (IntKind.i64.wrap (a0_5 - a0_4)) (IntKind.i64.wrap (a0_7 - a0_6))) < x349_2)) true c362 (by kernel_rfl) ?_
                  refine QQ.off (by kernel_rfl) (by kernel_rfl) ?_
                  refine QQ.off (by kernel_rfl) (by kernel_rfl) ?_
                  refine QQ.off (by kernel_rfl) (by kernel_rfl) ?_
                  refine QQ.off (by kernel_rfl) (by kernel_rfl) ?_
                  refine QQ.off (by kernel_rfl) (by kernel_rfl) ?_
                  refine QQ.off (by kernel_rfl) (by kernel_rfl) ?_
                  refine QQ.op (.bool true) (by kernel_rfl) (fun w _ => by kernel_rfl) ?_
                  refine QQ.done (s' := [(2, .pointer (some ⟨g347, 0, none⟩)), (4, .bool false), (5, .int .i64 x349_1), (6, .int .i64 x349_2), (10, .int .i64 (IntKind.i64.wrap (a0_5 - a0_4))), (11, .int .i64 (IntKind.i64.wrap (a0_7 - a0_6))), (98, .bool true)]) [2, 4, 5, 6, 10, 11, 98] (by kernel_rfl) ?_
                  refine NN.then ?_
                  refine J.condT (b := true) rfl (by kernel_rfl) (by kernel_rfl) ?_
                  refine J.seq ?_
                  refine J.plain ?_
                  refine LL.op (.bool false) (by kernel_rfl) (fun w _ => by kernel_rfl) ?_
                  refine LL.done (s' := [(2, .pointer (some ⟨g347, 0, none⟩)), (4, .bool false), (5, .int .i64 x349_1), (6, .int .i64 x349_2), (10, .int .i64 (IntKind.i64.wrap (a0_5 - a0_4))), (11, .int .i64 (IntKind.i64.wrap (a0_7 - a0_6)))]) [2, 4, 5, 6, 10, 11] (by kernel_rfl) ?_
                  refine NN.then ?_
                  refine J.ret ?_
                  refine NN.then_ret ?_
                  refine NN.fin1 4 (.bool false) (by kernel_rfl) (by kernel_rfl) (.inl rfl) (fun w hi => hi.ret ?_)
                  first | (cases H; rfl) | (obtain rfl := Option.some.inj H; rfl) | (simp only [Option.some.injEq, Prod.mk.injEq] at H; obtain ⟨rfl⟩ := H; rfl)
                · rw [if_neg (of_decide_eq_false c362)] at H
                  refine QQ.bool 91 (decide ((mx (IntKind.i64.wrap (a0_5 - a0_4)) (IntKind.i64.wrap (a0_7 - a0_6))) < x349_2)) false c362 (by kernel_rfl) ?_
                  refine QQ.op (.agg #[.string a0_0, .string a0_1, .string a0_2, .int .i64 a0_3, .int .i64 a0_4, .int .i64 a0_5, .int .i64 a0_6, .int .i64 a0_7, .int .i64 a0_8, .int .i64 a0_9, .int .i64 a0_10, .slice Aa0_11 na0_11 ca0_11, .int .i64 a0_12, .int .i64 a0_13, .int .i64 a0_14, .int .i64 a0_15, .bool a0_16, .int .i64 a0_17]) (by kernel_rfl) (ld 2 g347 0 rfl (by kernel_rfl) rfl (by kernel_rfl)) ?_
                  refine QQ.op (.agg #[.string a1_0, .int .i64 a1_1, .int .i64 a1_2, .int .i64 a1_3, .int .i64 a1_4, .int .i64 a1_5, .int .i64 a1_6, .int .i64 a1_7, .int .i64 a1_8, .int .i64 a1_9, .int .i64 a1_10, .int .i64 a1_11, .int .i64 a1_12]) (by kernel_rfl) (ld 1 g348 0 rfl (by kernel_rfl) rfl (by kernel_rfl)) ?_
                  obtain ⟨x363, hx363, H⟩ := bind_some H
                  refine QQ.call 13 #[.agg #[.string a0_0, .string a0_1, .string a0_2, .int .i64 a0_3, .int .i64 a0_4, .int .i64 a0_5, .int .i64 a0_6, .int .i64 a0_7, .int .i64 a0_8, .int .i64 a0_9, .int .i64 a0_10, .slice Aa0_11 na0_11 ca0_11, .int .i64 a0_12, .int .i64 a0_13, .int .i64 a0_14, .int .i64 a0_15, .bool a0_16, .int .i64 a0_17], .agg #[.string a1_0, .int .i64 a1_1, .int .i64 a1_2, .int .i64 a1_3, .int .i64 a1_4, .int .i64 a1_5, .int .i64 a1_6, .int .i64 a1_7, .int .i64 a1_8, .int .i64 a1_9, .int .i64 a1_10, .int .i64 a1_11, .int .i64 a1_12]] (.int .i64 x363) (by kernel_rfl) (fun w => by kernel_rfl) (fun w hw => sizing_Volume.calls a0_0 a0_1 a0_2 a0_3 a0_4 a0_5 a0_6 a0_7 a0_8 a0_9 a0_10 a0_12 a0_13 a0_14 a0_15 a0_16 a0_17 a1_0 a1_1 a1_2 a1_3 a1_4 a1_5 a1_6 a1_7 a1_8 a1_9 a1_10 a1_11 a1_12  _ _ _ _ w   hx363) ?_
                  refine QQ.op (.agg #[.string a0_0, .string a0_1, .string a0_2, .int .i64 a0_3, .int .i64 a0_4, .int .i64 a0_5, .int .i64 a0_6, .int .i64 a0_7, .int .i64 a0_8, .int .i64 a0_9, .int .i64 a0_10, .slice Aa0_11 na0_11 ca0_11, .int .i64 a0_12, .int .i64 a0_13, .int .i64 a0_14, .int .i64 a0_15, .bool a0_16, .int .i64 a0_17]) (by kernel_rfl) (ld 2 g347 0 rfl (by kernel_rfl) rfl (by kernel_rfl)) ?_
                  obtain ⟨x364, hx364, H⟩ := bind_some H
                  refine QQ.call 21 #[.agg #[.string a0_0, .string a0_1, .string a0_2, .int .i64 a0_3, .int .i64 a0_4, .int .i64 a0_5, .int .i64 a0_6, .int .i64 a0_7, .int .i64 a0_8, .int .i64 a0_9, .int .i64 a0_10, .slice Aa0_11 na0_11 ca0_11, .int .i64 a0_12, .int .i64 a0_13, .int .i64 a0_14, .int .i64 a0_15, .bool a0_16, .int .i64 a0_17]] (.int .i64 x364) (by kernel_rfl) (fun w => by kernel_rfl) (fun w hw => board_Volume.calls a0_0 a0_1 a0_2 a0_3 a0_4 a0_5 a0_6 a0_7 a0_8 a0_9 a0_10 a0_12 a0_13 a0_14 a0_15 a0_16 a0_17  _ _ _ _ w   hx364) ?_
                  refine QQ.op (.bool (decide (x364 < x363))) (by kernel_rfl) (fun w _ => by kernel_rfl) ?_
                  refine QQ.op (.bool (decide (x364 < x363))) (by kernel_rfl) (fun w _ => by kernel_rfl) ?_
                  refine QQ.done (s' := [(2, .pointer (some ⟨g347, 0, none⟩)), (4, .bool false), (5, .int .i64 x349_1), (6, .int .i64 x349_2), (10, .int .i64 (IntKind.i64.wrap (a0_5 - a0_4))), (11, .int .i64 (IntKind.i64.wrap (a0_7 - a0_6))), (98, .bool (decide (x364 < x363)))]) [2, 4, 5, 6, 10, 11, 98] (by kernel_rfl) ?_
                  refine NN.then ?_
                  rcases Bool.eq_false_or_eq_true (decide (x364 < x363)) with c365 | c365
                  · rw [if_pos (of_decide_eq_true c365)] at H
                    refine J.condT (b := decide (x364 < x363)) c365 (by kernel_rfl) (by kernel_rfl) ?_
                    refine J.seq ?_
                    refine J.plain ?_
                    refine LL.op (.bool false) (by kernel_rfl) (fun w _ => by kernel_rfl) ?_
                    refine LL.done (s' := [(2, .pointer (some ⟨g347, 0, none⟩)), (4, .bool false), (5, .int .i64 x349_1), (6, .int .i64 x349_2), (10, .int .i64 (IntKind.i64.wrap (a0_5 - a0_4))), (11, .int .i64 (IntKind.i64.wrap (a0_7 - a0_6)))]) [2, 4, 5, 6, 10, 11] (by kernel_rfl) ?_
                    refine NN.then ?_
                    refine J.ret ?_
                    refine NN.then_ret ?_
                    refine NN.fin1 4 (.bool false) (by kernel_rfl) (by kernel_rfl) (.inl rfl) (fun w hi => hi.ret ?_)
                    first | (cases H; rfl) | (obtain rfl := Option.some.inj H; rfl) | (simp only [Option.some.injEq, Prod.mk.injEq] at H; obtain ⟨rfl⟩ := H; rfl)
                  · rw [if_neg (of_decide_eq_false c365)] at H
                    refine J.condF (b := decide (x364 < x363)) c365 (by kernel_rfl) (by kernel_rfl) ?_
                    refine J.skip ?_
                    refine NN.then ?_
                    refine J.seq ?_
                    refine J.plain ?_
                    refine LL.op (.pointer (some ⟨g347, 13, none⟩)) (by kernel_rfl) (fun w _ => by kernel_rfl) ?_
                    refine LL.op (.agg #[.int .i64 a0_13, .int .i64 a0_14, .int .i64 a0_15]) (by kernel_rfl) (ld 2 g347 13 rfl (by kernel_rfl) rfl (by kernel_rfl)) ?_
                    obtain ⟨x366, hx366, H⟩ := bind_some H
                    refine LL.call 22 #[.agg #[.int .i64 a0_13, .int .i64 a0_14, .int .i64 a0_15]] (.int .i64 x366) (by kernel_rfl) (fun w => by kernel_rfl) (fun w hw => moist_Mean.calls a0_13 a0_14 a0_15   _ w   hx366) ?_
                    refine LL.op (.bool (decide (x366 < 3000))) (by kernel_rfl) (fun w _ => by kernel_rfl) ?_
                    refine LL.op (.bool (decide (x366 < 3000))) (by kernel_rfl) (fun w _ => by kernel_rfl) ?_
                    rcases Bool.eq_false_or_eq_true (decide (x366 < 3000)) with c367 | c367
                    · rw [if_pos (of_decide_eq_true c367)] at H
                      refine LL.bool 103 (decide (x366 < 3000)) true c367 (by kernel_rfl) ?_
                      refine LL.off (by kernel_rfl) (by kernel_rfl) ?_
                      refine LL.off (by kernel_rfl) (by kernel_rfl) ?_
                      refine LL.off (by kernel_rfl) (by kernel_rfl) ?_
                      refine LL.off (by kernel_rfl) (by kernel_rfl) ?_
                      refine LL.off (by kernel_rfl) (by kernel_rfl) ?_
                      refine LL.off (by kernel_rfl) (by kernel_rfl) ?_
                      refine LL.off (by kernel_rfl) (by kernel_rfl) ?_
                      refine LL.off (by kernel_rfl) (by kernel_rfl) ?_
                      refine LL.off (by kernel_rfl) (by kernel_rfl) ?_
                      refine LL.off (by kernel_rfl) (by kernel_rfl) ?_
                      refine LL.off (by kernel_rfl) (by kernel_rfl) ?_
                      refine LL.off (by kernel_rfl) (by kernel_rfl) ?_
                      refine LL.op (.bool true) (by kernel_rfl) (fun w _ => by kernel_rfl) ?_
                      refine LL.op (.bool true) (by kernel_rfl) (fun w _ => by kernel_rfl) ?_
                      obtain ⟨x368, hx368, H⟩ := bind_some H
                      refine LL.call 15 #[] (.bool x368) (by kernel_rfl) (fun w => by kernel_rfl) (fun w hw => sawmilllaw39_awake.calls K    _ w   hx368) ?_
                      refine LL.op (.bool x368) (by kernel_rfl) (fun w _ => by kernel_rfl) ?_
                      refine LL.op (.bool x368) (by kernel_rfl) (fun w _ => by kernel_rfl) ?_
                      refine LL.done (s' := [(4, .bool x368)]) [4] (by kernel_rfl) ?_
                      refine NN.then ?_
                      refine J.ret ?_
                      refine NN.fin1 4 (.bool x368) (by kernel_rfl) (by kernel_rfl) (.inl rfl) (fun w hi => hi.ret ?_)
                      first | (cases H; rfl) | (obtain rfl := Option.some.inj H; rfl) | (simp only [Option.some.injEq, Prod.mk.injEq] at H; obtain ⟨rfl⟩ := H; rfl)
                    · rw [if_neg (of_decide_eq_false c367)] at H
                      refine LL.bool 103 (decide (x366 < 3000)) false c367 (by kernel_rfl) ?_
                      refine LL.op (.int .i64 x349_1) (by kernel_rfl) (fun w _ => by kernel_rfl) ?_
                      refine LL.op (.int .i64 (IntKind.i64.wrap (a0_5 - a0_4))) (by kernel_rfl) (fun w _ => by kernel_rfl) ?_
                      refine LL.op (.int .i64 (IntKind.i64.wrap (a0_7 - a0_6))) (by kernel_rfl) (fun w _ => by kernel_rfl) ?_
                      refine LL.op (.int .i64 (mn (IntKind.i64.wrap (a0_5 - a0_4)) (IntKind.i64.wrap (a0_7 - a0_6)))) (by kernel_rfl) (fun w _ => by kernel_rfl) ?_
                      refine LL.op (.bool (x349_1 == (mn (IntKind.i64.wrap (a0_5 - a0_4)) (IntKind.i64.wrap (a0_7 - a0_6))))) (by kernel_rfl) (fun w _ => by kernel_rfl) ?_
                      refine LL.op (.bool (x349_1 == (mn (IntKind.i64.wrap (a0_5 - a0_4)) (IntKind.i64.wrap (a0_7 - a0_6))))) (by kernel_rfl) (fun w _ => by kernel_rfl) ?_
                      rcases Bool.eq_false_or_eq_true ((x349_1 == (mn (IntKind.i64.wrap (a0_5 - a0_4)) (IntKind.i64.wrap (a0_7 - a0_6))))) with c369 | c369
                      · rw [if_pos (eq_of_beq c369)] at H
                        refine LL.bool 109 ((x349_1 == (mn (IntKind.i64.wrap (a0_5 - a0_4)) (IntKind.i64.wrap (a0_7 - a0_6))))) true c369 (by kernel_rfl) ?_
                        refine LL.op (.int .i64 x349_2) (by kernel_rfl) (fun w _ => by kernel_rfl) ?_
                        refine LL.op (.int .i64 (IntKind.i64.wrap (a0_5 - a0_4))) (by kernel_rfl) (fun w _ => by kernel_rfl) ?_
                        refine LL.op (.int .i64 (IntKind.i64.wrap (a0_7 - a0_6))) (by kernel_rfl) (fun w _ => by kernel_rfl) ?_
                        refine LL.op (.int .i64 (mx (IntKind.i64.wrap (a0_5 - a0_4)) (IntKind.i64.wrap (a0_7 - a0_6)))) (by kernel_rfl) (fun w _ => by kernel_rfl) ?_
                        refine LL.op (.bool (x349_2 == (mx (IntKind.i64.wrap (a0_5 - a0_4)) (IntKind.i64.wrap (a0_7 - a0_6))))) (by kernel_rfl) (fun w _ => by kernel_rfl) ?_
                        refine LL.op (.bool (x349_2 == (mx (IntKind.i64.wrap (a0_5 - a0_4)) (IntKind.i64.wrap (a0_7 - a0_6))))) (by kernel_rfl) (fun w _ => by kernel_rfl) ?_
                        refine LL.op (.bool (x349_2 == (mx (IntKind.i64.wrap (a0_5 - a0_4)) (IntKind.i64.wrap (a0_7 - a0_6))))) (by kernel_rfl) (fun w _ => by kernel_rfl) ?_
                        refine LL.op (.bool (x349_2 == (mx (IntKind.i64.wrap (a0_5 - a0_4)) (IntKind.i64.wrap (a0_7 - a0_6))))) (by kernel_rfl) (fun w _ => by kernel_rfl) ?_
                        rcases Bool.eq_false_or_eq_true ((x349_2 == (mx (IntKind.i64.wrap (a0_5 - a0_4)) (IntKind.i64.wrap (a0_7 - a0_6))))) with c370 | c370
                        · rw [if_pos (eq_of_beq c370)] at H
                          refine LL.bool 117 ((x349_2 == (mx (IntKind.i64.wrap (a0_5 - a0_4)) (IntKind.i64.wrap (a0_7 - a0_6))))) true c370 (by kernel_rfl) ?_
                          obtain ⟨x371, hx371, H⟩ := bind_some H
                          refine LL.call 15 #[] (.bool x371) (by kernel_rfl) (fun w => by kernel_rfl) (fun w hw => sawmilllaw39_awake.calls K    _ w   hx371) ?_
                          refine LL.op (.bool x371) (by kernel_rfl) (fun w _ => by kernel_rfl) ?_
                          refine LL.op (.bool x371) (by kernel_rfl) (fun w _ => by kernel_rfl) ?_
                          refine LL.done (s' := [(4, .bool x371)]) [4] (by kernel_rfl) ?_
                          refine NN.then ?_
                          refine J.ret ?_
                          refine NN.fin1 4 (.bool x371) (by kernel_rfl) (by kernel_rfl) (.inl rfl) (fun w hi => hi.ret ?_)
                          first | (cases H; rfl) | (obtain rfl := Option.some.inj H; rfl) | (simp only [Option.some.injEq, Prod.mk.injEq] at H; obtain ⟨rfl⟩ := H; rfl)
                        · rw [if_neg (nebf c370)] at H
                          refine LL.bool 117 ((x349_2 == (mx (IntKind.i64.wrap (a0_5 - a0_4)) (IntKind.i64.wrap (a0_7 - a0_6))))) false c370 (by kernel_rfl) ?_
                          refine LL.off (by kernel_rfl) (by kernel_rfl) ?_
                          refine LL.op (.bool false) (by kernel_rfl) (fun w _ => by kernel_rfl) ?_
                          refine LL.op (.bool false) (by kernel_rfl) (fun w _ => by kernel_rfl) ?_
                          refine LL.done (s' := [(4, .bool false)]) [4] (by kernel_rfl) ?_
                          refine NN.then ?_
                          refine J.ret ?_
                          refine NN.fin1 4 (.bool false) (by kernel_rfl) (by kernel_rfl) (.inl rfl) (fun w hi => hi.ret ?_)
                          first | (cases H; rfl) | (obtain rfl := Option.some.inj H; rfl) | (simp only [Option.some.injEq, Prod.mk.injEq] at H; obtain ⟨rfl⟩ := H; rfl)
                      · rw [if_neg (nebf c369)] at H
                        refine LL.bool 109 ((x349_1 == (mn (IntKind.i64.wrap (a0_5 - a0_4)) (IntKind.i64.wrap (a0_7 - a0_6))))) false c369 (by kernel_rfl) ?_
                        refine LL.off (by kernel_rfl) (by kernel_rfl) ?_
                        refine LL.off (by kernel_rfl) (by kernel_rfl) ?_
                        refine LL.off (by kernel_rfl) (by kernel_rfl) ?_
                        refine LL.off (by kernel_rfl) (by kernel_rfl) ?_
                        refine LL.off (by kernel_rfl) (by kernel_rfl) ?_
                        refine LL.op (.bool false) (by kernel_rfl) (fun w _ => by kernel_rfl) ?_
                        refine LL.op (.bool false) (by kernel_rfl) (fun w _ => by kernel_rfl) ?_
                        refine LL.op (.bool false) (by kernel_rfl) (fun w _ => by kernel_rfl) ?_
                        refine LL.off (by kernel_rfl) (by kernel_rfl) ?_
                        refine LL.op (.bool false) (by kernel_rfl) (fun w _ => by kernel_rfl) ?_
                        refine LL.op (.bool false) (by kernel_rfl) (fun w _ => by kernel_rfl) ?_
                        refine LL.done (s' := [(4, .bool false)]) [4] (by kernel_rfl) ?_
                        refine NN.then ?_
                        refine J.ret ?_
                        refine NN.fin1 4 (.bool false) (by kernel_rfl) (by kernel_rfl) (.inl rfl) (fun w hi => hi.ret ?_)
                        first | (cases H; rfl) | (obtain rfl := Option.some.inj H; rfl) | (simp only [Option.some.injEq, Prod.mk.injEq] at H; obtain ⟨rfl⟩ := H; rfl)
            · rw [if_neg (nebt c360)] at H
              refine J.condT (b := !x359) (by rw [show (!x359) = !(x359) from rfl, c360]; rfl) (by kernel_rfl) (by kernel_rfl) ?_
              refine J.seq ?_
              refine J.plain ?_
              obtain ⟨x372, hx372, H⟩ := bind_some H
              refine LL.call 15 #[] (.bool x372) (by kernel_rfl) (fun w => by kernel_rfl) (fun w hw => sawmilllaw39_awake.calls K    _ w   hx372) ?_
              refine LL.op (.bool x372) (by kernel_rfl) (fun w _ => by kernel_rfl) ?_
              refine LL.done (s' := [(2, .pointer (some ⟨g347, 0, none⟩)), (3, .pointer (some ⟨g348, 0, none⟩)), (4, .bool x372), (5, .int .i64 x349_1), (6, .int .i64 x349_2)]) [2, 3, 4, 5, 6] (by kernel_rfl) ?_
              refine NN.then ?_
              refine J.ret ?_
              refine NN.then_ret ?_
              refine NN.fin1 4 (.bool x372) (by kernel_rfl) (by kernel_rfl) (.inl rfl) (fun w hi => hi.ret ?_)
              first | (cases H; rfl) | (obtain rfl := Option.some.inj H; rfl) | (simp only [Option.some.injEq, Prod.mk.injEq] at H; obtain ⟨rfl⟩ := H; rfl)
    · rw [if_neg (nebf c353)] at H
      refine LL.bool 43 (!(x351_2 == x349_2)) true (by rw [show (!(x351_2 == x349_2)) = !((x351_2 == x349_2)) from rfl, c353]; rfl) (by kernel_rfl) ?_
      refine LL.off (by kernel_rfl) (by kernel_rfl) ?_
      refine LL.off (by kernel_rfl) (by kernel_rfl) ?_
      refine LL.op (.bool true) (by kernel_rfl) (fun w _ => by kernel_rfl) ?_
      refine LL.op (.bool true) (by kernel_rfl) (fun w _ => by kernel_rfl) ?_
      refine LL.off (by kernel_rfl) (by kernel_rfl) ?_
      refine LL.off (by kernel_rfl) (by kernel_rfl) ?_
      refine LL.off (by kernel_rfl) (by kernel_rfl) ?_
      refine LL.op (.bool true) (by kernel_rfl) (fun w _ => by kernel_rfl) ?_
      refine LL.done (s' := [(2, .pointer (some ⟨g347, 0, none⟩)), (3, .pointer (some ⟨g348, 0, none⟩)), (4, .bool false), (5, .int .i64 x349_1), (6, .int .i64 x349_2), (51, .bool true)]) [2, 3, 4, 5, 6, 51] (by kernel_rfl) ?_
      refine NN.then ?_
      refine J.condT (b := true) rfl (by kernel_rfl) (by kernel_rfl) ?_
      refine J.seq ?_
      refine J.plain ?_
      refine LL.op (.bool false) (by kernel_rfl) (fun w _ => by kernel_rfl) ?_
      refine LL.done (s' := [(2, .pointer (some ⟨g347, 0, none⟩)), (3, .pointer (some ⟨g348, 0, none⟩)), (4, .bool false), (5, .int .i64 x349_1), (6, .int .i64 x349_2)]) [2, 3, 4, 5, 6] (by kernel_rfl) ?_
      refine NN.then ?_
      refine J.ret ?_
      refine NN.then_ret ?_
      refine NN.fin1 4 (.bool false) (by kernel_rfl) (by kernel_rfl) (.inl rfl) (fun w hi => hi.ret ?_)
      first | (cases H; rfl) | (obtain rfl := Option.some.inj H; rfl) | (simp only [Option.some.injEq, Prod.mk.injEq] at H; obtain ⟨rfl⟩ := H; rfl)
  · rw [if_neg (nebf c352)] at H
    refine LL.bool 38 (!(x351_1 == x349_1)) true (by rw [show (!(x351_1 == x349_1)) = !((x351_1 == x349_1)) from rfl, c352]; rfl) (by kernel_rfl) ?_
    refine LL.off (by kernel_rfl) (by kernel_rfl) ?_
    refine LL.off (by kernel_rfl) (by kernel_rfl) ?_
    refine LL.off (by kernel_rfl) (by kernel_rfl) ?_
    refine LL.op (.bool true) (by kernel_rfl) (fun w _ => by kernel_rfl) ?_
    refine LL.op (.bool true) (by kernel_rfl) (fun w _ => by kernel_rfl) ?_
    refine LL.off (by kernel_rfl) (by kernel_rfl) ?_
    refine LL.off (by kernel_rfl) (by kernel_rfl) ?_
    refine LL.op (.bool true) (by kernel_rfl) (fun w _ => by kernel_rfl) ?_
    refine LL.op (.bool true) (by kernel_rfl) (fun w _ => by kernel_rfl) ?_
    refine LL.off (by kernel_rfl) (by kernel_rfl) ?_
    refine LL.off (by kernel_rfl) (by kernel_rfl) ?_
    refine LL.off (by kernel_rfl) (by kernel_rfl) ?_
    refine LL.op (.bool true) (by kernel_rfl) (fun w _ => by kernel_rfl) ?_
    refine LL.done (s' := [(2, .pointer (some ⟨g347, 0, none⟩)), (3, .pointer (some ⟨g348, 0, none⟩)), (4, .bool false), (5, .int .i64 x349_1), (6, .int .i64 x349_2), (51, .bool true)]) [2, 3, 4, 5, 6, 51] (by kernel_rfl) ?_
    refine NN.then ?_
    refine J.condT (b := true) rfl (by kernel_rfl) (by kernel_rfl) ?_
    refine J.seq ?_
    refine J.plain ?_
    refine LL.op (.bool false) (by kernel_rfl) (fun w _ => by kernel_rfl) ?_
    refine LL.done (s' := [(2, .pointer (some ⟨g347, 0, none⟩)), (3, .pointer (some ⟨g348, 0, none⟩)), (4, .bool false), (5, .int .i64 x349_1), (6, .int .i64 x349_2)]) [2, 3, 4, 5, 6] (by kernel_rfl) ?_
    refine NN.then ?_
    refine J.ret ?_
    refine NN.then_ret ?_
    refine NN.fin1 4 (.bool false) (by kernel_rfl) (by kernel_rfl) (.inl rfl) (fun w hi => hi.ret ?_)
    first | (cases H; rfl) | (obtain rfl := Option.some.inj H; rfl) | (simp only [Option.some.injEq, Prod.mk.injEq] at H; obtain ⟨rfl⟩ := H; rfl)

end Go.Proofs.Ytbgdgghijheopaa
