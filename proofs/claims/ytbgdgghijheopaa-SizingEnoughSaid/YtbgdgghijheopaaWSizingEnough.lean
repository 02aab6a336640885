/- Walks of functions of the seat: each call does what the Lean function of the same name says. Printed by the session's own program absgen.py. -/
import Derived.Test.YtbgdgghijheopaaF1
namespace Go.Proofs.Ytbgdgghijheopaa
open Go.Saw
set_option linter.unusedVariables false
set_option linter.unusedSimpArgs false

/-! ### sawmilllaw39_SizingEnough: function 6 -/
def sawmilllaw39_SizingEnough.f (K : Nat) (a0_0 : ByteArray) (a0_1 : Int) (a0_2 : Int) (a0_3 : Int) (a0_4 : Int) (a1_0 : ByteArray) (a1_1 : Int) (a1_2 : Int) (a1_3 : Int) (a1_4 : Int) (a1_5 : Int) (a1_6 : Int) (a1_7 : Int) (a1_8 : Int) (a1_9 : Int) (a1_10 : Int) (a1_11 : Int) (a1_12 : Int) (a2 : Int) : Option (Bool) := if a0_1 < 1 then ((sawmilllaw39_awake.f K ).bind fun x293 => (some x293)) else (if a0_2 < 1 then ((sawmilllaw39_awake.f K ).bind fun x295 => (some x295)) else (if 480 < a0_1 then ((sawmilllaw39_awake.f K ).bind fun x297 => (some x297)) else (if 480 < a0_2 then ((sawmilllaw39_awake.f K ).bind fun x299 => (some x299)) else (if a2 < 0 then ((sawmilllaw39_awake.f K ).bind fun x301 => (some x301)) else (if 20000 < a2 then ((sawmilllaw39_awake.f K ).bind fun x303 => (some x303)) else ((sizing_Allow.f K a0_0 a0_1 a0_2 a0_3 a0_4 a1_0 a1_1 a1_2 a1_3 a1_4 a1_5 a1_6 a1_7 a1_8 a1_9 a1_10 a1_11 a1_12 a2).bind fun x304 => (if x304 < 0 then (some false) else (if 201 < x304 then (some false) else (if x304 ≤ 200 then ((product_Green.f a0_0 a0_1 a0_2 x304 a0_4).bind fun bx309 => (if a0_1 ≤ a0_2 then ((sizing_Under.f (⟨#[]⟩ : ByteArray) (⟨#[]⟩ : ByteArray) (⟨#[]⟩ : ByteArray) 0 (IntKind.i64.wrap (0 - bx309.1)) 0 0 bx309.2 0 1000 0 0 a2 a2 0 false 0 a0_0 a0_1 a0_2 x304 a0_4 a1_0 a1_1 a1_2 a1_3 a1_4 a1_5 a1_6 a1_7 a1_8 a1_9 a1_10 a1_11 a1_12).bind fun x311 => (if x311 = true then (some false) else (if 0 < x304 then ((product_Green.f a0_0 a0_1 a0_2 (IntKind.i64.wrap (x304 - 1)) a0_4).bind fun bx314 => ((sizing_Under.f (⟨#[]⟩ : ByteArray) (⟨#[]⟩ : ByteArray) (⟨#[]⟩ : ByteArray) 0 (IntKind.i64.wrap (0 - bx314.1)) 0 0 bx314.2 0 1000 0 0 a2 a2 0 false 0 a0_0 a0_1 a0_2 (IntKind.i64.wrap (x304 - 1)) a0_4 a1_0 a1_1 a1_2 a1_3 a1_4 a1_5 a1_6 a1_7 a1_8 a1_9 a1_10 a1_11 a1_12).bind fun x315 => (if x315 = true then ((sawmilllaw39_awake.f K ).bind fun x317 => (some x317)) else (some false)))) else ((sawmilllaw39_awake.f K ).bind fun x318 => (some x318))))) else (if 0 < x304 then ((product_Green.f a0_0 a0_1 a0_2 (IntKind.i64.wrap (x304 - 1)) a0_4).bind fun bx320 => ((sawmilllaw39_awake.f K ).bind fun x321 => (some x321))) else ((sawmilllaw39_awake.f K ).bind fun x322 => (some x322))))) else (if 0 < x304 then ((product_Green.f a0_0 a0_1 a0_2 (IntKind.i64.wrap (x304 - 1)) a0_4).bind fun bx324 => (if a0_1 ≤ a0_2 then ((sizing_Under.f (⟨#[]⟩ : ByteArray) (⟨#[]⟩ : ByteArray) (⟨#[]⟩ : ByteArray) 0 (IntKind.i64.wrap (0 - bx324.1)) 0 0 bx324.2 0 1000 0 0 a2 a2 0 false 0 a0_0 a0_1 a0_2 (IntKind.i64.wrap (x304 - 1)) a0_4 a1_0 a1_1 a1_2 a1_3 a1_4 a1_5 a1_6 a1_7 a1_8 a1_9 a1_10 a1_11 a1_12).bind fun x326 => (if x326 = true then ((sawmilllaw39_awake.f K ).bind fun x328 => (some x328)) else (some false))) else ((sawmilllaw39_awake.f K ).bind fun x329 => (some x329)))) else ((sawmilllaw39_awake.f K ).bind fun x330 => (some x330))))))))))))
set_option maxRecDepth 100000 in
theorem sawmilllaw39_SizingEnough.calls (K : Nat) (a0_0 : ByteArray) (a0_1 : Int) (a0_2 : Int) (a0_3 : Int) (a0_4 : Int) (a1_0 : ByteArray) (a1_1 : Int) (a1_2 : Int) (a1_3 : Int) (a1_4 : Int) (a1_5 : Int) (a1_6 : Int) (a1_7 : Int) (a1_8 : Int) (a1_9 : Int) (a1_10 : Int) (a1_11 : Int) (a1_12 : Int) (a2 : Int)  (Aa0_5 : Option Addr) (na0_5 ca0_5 : Nat) (Aa0_6 : Option Addr) (na0_6 ca0_6 : Nat) (r1 : Bool) (w : World)   (h : sawmilllaw39_SizingEnough.f K a0_0 a0_1 a0_2 a0_3 a0_4 a1_0 a1_1 a1_2 a1_3 a1_4 a1_5 a1_6 a1_7 a1_8 a1_9 a1_10 a1_11 a1_12 a2 = some r1) :
    Calls Try.prog 6 #[.agg #[.string a0_0, .int .i64 a0_1, .int .i64 a0_2, .int .i64 a0_3, .int .i64 a0_4, .slice Aa0_5 na0_5 ca0_5, .slice Aa0_6 na0_6 ca0_6], .agg #[.string a1_0, .int .i64 a1_1, .int .i64 a1_2, .int .i64 a1_3, .int .i64 a1_4, .int .i64 a1_5, .int .i64 a1_6, .int .i64 a1_7, .int .i64 a1_8, .int .i64 a1_9, .int .i64 a1_10, .int .i64 a1_11, .int .i64 a1_12], .int .i64 a2] w (Ret w (.bool r1)) := by
  have H := h
  clear h
  unfold sawmilllaw39_SizingEnough.f at H
  refine Go.Saw.calls (args := [.agg #[.string a0_0, .int .i64 a0_1, .int .i64 a0_2, .int .i64 a0_3, .int .i64 a0_4, .slice Aa0_5 na0_5 ca0_5, .slice Aa0_6 na0_6 ca0_6], .agg #[.string a1_0, .int .i64 a1_1, .int .i64 a1_2, .int .i64 a1_3, .int .i64 a1_4, .int .i64 a1_5, .int .i64 a1_6, .int .i64 a1_7, .int .i64 a1_8, .int .i64 a1_9, .int .i64 a1_10, .int .i64 a1_11, .int .i64 a1_12], .int .i64 a2]) Try.func6 rfl Try.ntmps6 (by kernel_rfl) ?_
  refine J.seq ?_
  refine J.plain ?_
  refine LL.box 33 (.tmp 0) [.string a0_0, .int .i64 a0_1, .int .i64 a0_2, .int .i64 a0_3, .int .i64 a0_4, .slice Aa0_5 na0_5 ca0_5, .slice Aa0_6 na0_6 ca0_6] (by kernel_rfl) rfl (by kernel_rfl) (fun g290 => ?_)
  refine LL.box 35 (.tmp 1) [.string a1_0, .int .i64 a1_1, .int .i64 a1_2, .int .i64 a1_3, .int .i64 a1_4, .int .i64 a1_5, .int .i64 a1_6, .int .i64 a1_7, .int .i64 a1_8, .int .i64 a1_9, .int .i64 a1_10, .int .i64 a1_11, .int .i64 a1_12] (by kernel_rfl) rfl (by kernel_rfl) (fun g291 => ?_)
  refine LL.op (.bool false) (by kernel_rfl) (fun w _ => by kernel_rfl) ?_
  refine LL.done (s' := [(2, .int .i64 a2), (3, .pointer (some ⟨g290, 0, none⟩)), (4, .pointer (some ⟨g291, 0, none⟩)), (6, .bool false)]) [2, 3, 4, 6] (by kernel_rfl) ?_
  refine NN.then ?_
  refine J.seq ?_
  refine J.seq ?_
  refine J.plain ?_
  refine LL.op (.pointer (some ⟨g290, 1, none⟩)) (by kernel_rfl) (fun w _ => by kernel_rfl) ?_
  refine LL.op (.int .i64 a0_1) (by kernel_rfl) (ld 1 g290 1 rfl (by kernel_rfl) rfl (by kernel_rfl)) ?_
  refine LL.op (.bool (decide (a0_1 < 1))) (by kernel_rfl) (fun w _ => by kernel_rfl) ?_
  refine LL.op (.bool (decide (a0_1 < 1))) (by kernel_rfl) (fun w _ => by kernel_rfl) ?_
  rcases Bool.eq_false_or_eq_true (decide (a0_1 < 1)) with c292 | c292
  · rw [if_pos (of_decide_eq_true c292)] at H
    refine LL.bool 16 (decide (a0_1 < 1)) true c292 (by kernel_rfl) ?_
    refine LL.off (by kernel_rfl) (by kernel_rfl) ?_
    refine LL.off (by kernel_rfl) (by kernel_rfl) ?_
    refine LL.off (by kernel_rfl) (by kernel_rfl) ?_
    refine LL.op (.bool true) (by kernel_rfl) (fun w _ => by kernel_rfl) ?_
    refine LL.op (.bool true) (by kernel_rfl) (fun w _ => by kernel_rfl) ?_
    refine LL.off (by kernel_rfl) (by kernel_rfl) ?_
    refine LL.off (by kernel_rfl) (by kernel_rfl) ?_
    refine LL.off (by kernel_rfl) (by kernel_rfl) ?_
    refine LL.op (.bool true) (by kernel_rfl) (fun w _ => by kernel_rfl) ?_
    refine LL.op (.bool true) (by kernel_rfl) (fun w _ => by kernel_rfl) ?_
    refine LL.off (by kernel_rfl) (by kernel_rfl) ?_
    refine LL.off (by kernel_rfl) (by kernel_rfl) ?_
    refine LL.off (by kernel_rfl) (by kernel_rfl) ?_
    refine LL.op (.bool true) (by kernel_rfl) (fun w _ => by kernel_rfl) ?_
    refine LL.op (.bool true) (by kernel_rfl) (fun w _ => by kernel_rfl) ?_
    refine LL.off (by kernel_rfl) (by kernel_rfl) ?_
    refine LL.off (by kernel_rfl) (by kernel_rfl) ?_
    refine LL.op (.bool true) (by kernel_rfl) (fun w _ => by kernel_rfl) ?_
    refine LL.op (.bool true) (by kernel_rfl) (fun w _ => by kernel_rfl) ?_
    refine LL.off (by kernel_rfl) (by kernel_rfl) ?_
    refine LL.off (by kernel_rfl) (by kernel_rfl) ?_
    refine LL.op (.bool true) (by kernel_rfl) (fun w _ => by kernel_rfl) ?_
    refine LL.done (s' := [(2, .int .i64 a2), (3, .pointer (some ⟨g290, 0, none⟩)), (4, .pointer (some ⟨g291, 0, none⟩)), (6, .bool false), (38, .bool true)]) [2, 3, 4, 6, 38] (by kernel_rfl) ?_
    refine NN.then ?_
    refine J.condT (b := true) rfl (by kernel_rfl) (by kernel_rfl) ?_
    refine J.seq ?_
    refine J.plain ?_
    obtain ⟨x293, hx293, H⟩ := bind_some H
    refine LL.call 15 #[] (.bool x293) (by kernel_rfl) (fun w => by kernel_rfl) (fun w hw => sawmilllaw39_awake.calls K    _ w   hx293) ?_
    refine LL.op (.bool x293) (by kernel_rfl) (fun w _ => by kernel_rfl) ?_
    refine LL.done (s' := [(2, .int .i64 a2), (3, .pointer (some ⟨g290, 0, none⟩)), (4, .pointer (some ⟨g291, 0, none⟩)), (6, .bool x293)]) [2, 3, 4, 6] (by kernel_rfl) ?_
    refine NN.then ?_
    refine J.ret ?_
    refine NN.then_ret ?_
    refine NN.fin1 6 (.bool x293) (by kernel_rfl) (by kernel_rfl) (.inl rfl) (fun w hi => hi.ret ?_)
    first | (cases H; rfl) | (obtain rfl := Option.some.inj H; rfl) | (simp only [Option.some.injEq, Prod.mk.injEq] at H; obtain ⟨rfl⟩ := H; rfl)
  · rw [if_neg (of_decide_eq_false c292)] at H
    refine LL.bool 16 (decide (a0_1 < 1)) false c292 (by kernel_rfl) ?_
    refine LL.op (.pointer (some ⟨g290, 2, none⟩)) (by kernel_rfl) (fun w _ => by kernel_rfl) ?_
    refine LL.op (.int .i64 a0_2) (by kernel_rfl) (ld 1 g290 2 rfl (by kernel_rfl) rfl (by kernel_rfl)) ?_
    refine LL.op (.bool (decide (a0_2 < 1))) (by kernel_rfl) (fun w _ => by kernel_rfl) ?_
    refine LL.op (.bool (decide (a0_2 < 1))) (by kernel_rfl) (fun w _ => by kernel_rfl) ?_
    refine LL.op (.bool (decide (a0_2 < 1))) (by kernel_rfl) (fun w _ => by kernel_rfl) ?_
    rcases Bool.eq_false_or_eq_true (decide (a0_2 < 1)) with c294 | c294
    · rw [if_pos (of_decide_eq_true c294)] at H
      refine LL.bool 21 (decide (a0_2 < 1)) true c294 (by kernel_rfl) ?_
      refine LL.off (by kernel_rfl) (by kernel_rfl) ?_
      refine LL.off (by kernel_rfl) (by kernel_rfl) ?_
      refine LL.off (by kernel_rfl) (by kernel_rfl) ?_
      refine LL.op (.bool true) (by kernel_rfl) (fun w _ => by kernel_rfl) ?_
      refine LL.op (.bool true) (by kernel_rfl) (fun w _ => by kernel_rfl) ?_
      refine LL.off (by kernel_rfl) (by kernel_rfl) ?_
      refine LL.off (by kernel_rfl) (by kernel_rfl) ?_
      refine LL.off (by kernel_rfl) (by kernel_rfl) ?_
      refine LL.op (.bool true) (by kernel_rfl) (fun w _ => by kernel_rfl) ?_
      refine LL.op (.bool true) (by kernel_rfl) (fun w _ => by kernel_rfl) ?_
      refine LL.off (by kernel_rfl) (by kernel_rfl) ?_
      refine LL.off (by kernel_rfl) (by kernel_rfl) ?_
      refine LL.op (.bool true) (by kernel_rfl) (fun w _ => by kernel_rfl) ?_
      refine LL.op (.bool true) (by kernel_rfl) (fun w _ => by kernel_rfl) ?_
      refine LL.off (by kernel_rfl) (by kernel_rfl) ?_
      refine LL.off (by kernel_rfl) (by kernel_rfl) ?_
      refine LL.op (.bool true) (by kernel_rfl) (fun w _ => by kernel_rfl) ?_
      refine LL.done (s' := [(2, .int .i64 a2), (3, .pointer (some ⟨g290, 0, none⟩)), (4, .pointer (some ⟨g291, 0, none⟩)), (6, .bool false), (38, .bool true)]) [2, 3, 4, 6, 38] (by kernel_rfl) ?_
      refine NN.then ?_
      refine J.condT (b := true) rfl (by kernel_rfl) (by kernel_rfl) ?_
      refine J.seq ?_
      refine J.plain ?_
      obtain ⟨x295, hx295, H⟩ := bind_some H
      refine LL.call 15 #[] (.bool x295) (by kernel_rfl) (fun w => by kernel_rfl) (fun w hw => sawmilllaw39_awake.calls K    _ w   hx295) ?_
      refine LL.op (.bool x295) (by kernel_rfl) (fun w _ => by kernel_rfl) ?_
      refine LL.done (s' := [(2, .int .i64 a2), (3, .pointer (some ⟨g290, 0, none⟩)), (4, .pointer (some ⟨g291, 0, none⟩)), (6, .bool x295)]) [2, 3, 4, 6] (by kernel_rfl) ?_
      refine NN.then ?_
      refine J.ret ?_
      refine NN.then_ret ?_
      refine NN.fin1 6 (.bool x295) (by kernel_rfl) (by kernel_rfl) (.inl rfl) (fun w hi => hi.ret ?_)
      first | (cases H; rfl) | (obtain rfl := Option.some.inj H; rfl) | (simp only [Option.some.injEq, Prod.mk.injEq] at H; obtain ⟨rfl⟩ := H; rfl)
    · rw [if_neg (of_decide_eq_false c294)] at H
      refine LL.bool 21 (decide (a0_2 < 1)) false c294 (by kernel_rfl) ?_
      refine LL.op (.pointer (some ⟨g290, 1, none⟩)) (by kernel_rfl) (fun w _ => by kernel_rfl) ?_
      refine LL.op (.int .i64 a0_1) (by kernel_rfl) (ld 1 g290 1 rfl (by kernel_rfl) rfl (by kernel_rfl)) ?_
      refine LL.op (.bool (decide (480 < a0_1))) (by kernel_rfl) (fun w _ => by kernel_rfl) ?_
      refine LL.op (.bool (decide (480 < a0_1))) (by kernel_rfl) (fun w _ => by kernel_rfl) ?_
      refine LL.op (.bool (decide (480 < a0_1))) (by kernel_rfl) (fun w _ => by kernel_rfl) ?_
      rcases Bool.eq_false_or_eq_true (decide (480 < a0_1)) with c296 | c296
      · rw [if_pos (of_decide_eq_true c296)] at H
        refine LL.bool 26 (decide (480 < a0_1)) true c296 (by kernel_rfl) ?_
        refine LL.off (by kernel_rfl) (by kernel_rfl) ?_
        refine LL.off (by kernel_rfl) (by kernel_rfl) ?_
        refine LL.off (by kernel_rfl) (by kernel_rfl) ?_
        refine LL.op (.bool true) (by kernel_rfl) (fun w _ => by kernel_rfl) ?_
        refine LL.op (.bool true) (by kernel_rfl) (fun w _ => by kernel_rfl) ?_
        refine LL.off (by kernel_rfl) (by kernel_rfl) ?_
        refine LL.off (by kernel_rfl) (by kernel_rfl) ?_
        refine LL.op (.bool true) (by kernel_rfl) (fun w _ => by kernel_rfl) ?_
        refine LL.op (.bool true) (by kernel_rfl) (fun w _ => by kernel_rfl) ?_
        refine LL.off (by kernel_rfl) (by kernel_rfl) ?_
        refine LL.off (by kernel_rfl) (by kernel_rfl) ?_
        refine LL.op (.bool true) (by kernel_rfl) (fun w _ => by kernel_rfl) ?_
        refine LL.done (s' := [(2, .int .i64 a2), (3, .pointer (some ⟨g290, 0, none⟩)), (4, .pointer (some ⟨g291, 0, none⟩)), (6, .bool false), (38, .bool true)]) [2, 3, 4, 6, 38] (by kernel_rfl) ?_
        refine NN.then ?_
        refine J.condT (b := true) rfl (by kernel_rfl) (by kernel_rfl) ?_
        refine J.seq ?_
        refine J.plain ?_
        obtain ⟨x297, hx297, H⟩ := bind_some H
        refine LL.call 15 #[] (.bool x297) (by kernel_rfl) (fun w => by kernel_rfl) (fun w hw => sawmilllaw39_awake.calls K    _ w   hx297) ?_
        refine LL.op (.bool x297) (by kernel_rfl) (fun w _ => by kernel_rfl) ?_
        refine LL.done (s' := [(2, .int .i64 a2), (3, .pointer (some ⟨g290, 0, none⟩)), (4, .pointer (some ⟨g291, 0, none⟩)), (6, .bool x297)]) [2, 3, 4, 6] (by kernel_rfl) ?_
        refine NN.then ?_
        refine J.ret ?_
        refine NN.then_ret ?_
        refine NN.fin1 6 (.bool x297) (by kernel_rfl) (by kernel_rfl) (.inl rfl) (fun w hi => hi.ret ?_)
        first | (cases H; rfl) | (obtain rfl := Option.some.inj H; rfl) | (simp only [Option.some.injEq, Prod.mk.injEq] at H; obtain ⟨rfl⟩ := H; rfl)
      · rw [if_neg (of_decide_eq_false c296)] at H
        refine LL.bool 26 (decide (480 < a0_1)) false c296 (by kernel_rfl) ?_
        refine LL.op (.pointer (some ⟨g290, 2, none⟩)) (by kernel_rfl) (fun w _ => by kernel_rfl) ?_
        refine LL.op (.int .i64 a0_2) (by kernel_rfl) (ld 1 g290 2 rfl (by kernel_rfl) rfl (by kernel_rfl)) ?_
        refine LL.op (.bool (decide (480 < a0_2))) (by kernel_rfl) (fun w _ => by kernel_rfl) ?_
        refine LL.op (.bool (decide (480 < a0_2))) (by kernel_rfl) (fun w _ => by kernel_rfl) ?_
        refine LL.op (.bool (decide (480 < a0_2))) (by kernel_rfl) (fun w _ => by kernel_rfl) ?_
        rcases Bool.eq_false_or_eq_true (decide (480 < a0_2)) with c298 | c298
        · rw [if_pos (of_decide_eq_true c298)] at H
          refine LL.bool 31 (decide (480 < a0_2)) true c298 (by kernel_rfl) ?_
          refine LL.off (by kernel_rfl) (by kernel_rfl) ?_
          refine LL.off (by kernel_rfl) (by kernel_rfl) ?_
          refine LL.op (.bool true) (by kernel_rfl) (fun w _ => by kernel_rfl) ?_
          refine LL.op (.bool true) (by kernel_rfl) (fun w _ => by kernel_rfl) ?_
          refine LL.off (by kernel_rfl) (by kernel_rfl) ?_
          refine LL.off (by kernel_rfl) (by kernel_rfl) ?_
          refine LL.op (.bool true) (by kernel_rfl) (fun w _ => by kernel_rfl) ?_
          refine LL.done (s' := [(2, .int .i64 a2), (3, .pointer (some ⟨g290, 0, none⟩)), (4, .pointer (some ⟨g291, 0, none⟩)), (6, .bool false), (38, .bool true)]) [2, 3, 4, 6, 38] (by kernel_rfl) ?_
          refine NN.then ?_
          refine J.condT (b := true) rfl (by kernel_rfl) (by kernel_rfl) ?_
          refine J.seq ?_
          refine J.plain ?_
          obtain ⟨x299, hx299, H⟩ := bind_some H
          refine LL.call 15 #[] (.bool x299) (by kernel_rfl) (fun w => by kernel_rfl) (fun w hw => sawmilllaw39_awake.calls K    _ w   hx299) ?_
          refine LL.op (.bool x299) (by kernel_rfl) (fun w _ => by kernel_rfl) ?_
          refine LL.done (s' := [(2, .int .i64 a2), (3, .pointer (some ⟨g290, 0, none⟩)), (4, .pointer (some ⟨g291, 0, none⟩)), (6, .bool x299)]) [2, 3, 4, 6] (by kernel_rfl) ?_
          refine NN.then ?_
          refine J.ret ?_
          refine NN.then_ret ?_
          refine NN.fin1 6 (.bool x299) (by kernel_rfl) (by kernel_rfl) (.inl rfl) (fun w hi => hi.ret ?_)
          first | (cases H; rfl) | (obtain rfl := Option.some.inj H; rfl) | (simp only [Option.some.injEq, Prod.mk.injEq] at H; obtain ⟨rfl⟩ := H; rfl)
        · rw [if_neg (of_decide_eq_false c298)] at H
          refine LL.bool 31 (decide (480 < a0_2)) false c298 (by kernel_rfl) ?_
          refine LL.op (.int .i64 a2) (by kernel_rfl) (fun w _ => by kernel_rfl) ?_
          refine LL.op (.bool (decide (a2 < 0))) (by kernel_rfl) (fun w _ => by kernel_rfl) ?_
          refine LL.op (.bool (decide (a2 < 0))) (by kernel_rfl) (fun w _ => by kernel_rfl) ?_
          refine LL.op (.bool (decide (a2 < 0))) (by kernel_rfl) (fun w _ => by kernel_rfl) ?_
          rcases Bool.eq_false_or_eq_true (decide (a2 < 0)) with c300 | c300
          · rw [if_pos (of_decide_eq_true c300)] at H
            refine LL.bool 35 (decide (a2 < 0)) true c300 (by kernel_rfl) ?_
            refine LL.off (by kernel_rfl) (by kernel_rfl) ?_
            refine LL.off (by kernel_rfl) (by kernel_rfl) ?_
            refine LL.op (.bool true) (by kernel_rfl) (fun w _ => by kernel_rfl) ?_
            refine LL.done (s' := [(2, .int .i64 a2), (3, .pointer (some ⟨g290, 0, none⟩)), (4, .pointer (some ⟨g291, 0, none⟩)), (6, .bool false), (38, .bool true)]) [2, 3, 4, 6, 38] (by kernel_rfl) ?_
            refine NN.then ?_
            refine J.condT (b := true) rfl (by kernel_rfl) (by kernel_rfl) ?_
            refine J.seq ?_
            refine J.plain ?_
            obtain ⟨x301, hx301, H⟩ := bind_some H
            refine LL.call 15 #[] (.bool x301) (by kernel_rfl) (fun w => by kernel_rfl) (fun w hw => sawmilllaw39_awake.calls K    _ w   hx301) ?_
            refine LL.op (.bool x301) (by kernel_rfl) (fun w _ => by kernel_rfl) ?_
            refine LL.done (s' := [(2, .int .i64 a2), (3, .pointer (some ⟨g290, 0, none⟩)), (4, .pointer (some ⟨g291, 0, none⟩)), (6, .bool x301)]) [2, 3, 4, 6] (by kernel_rfl) ?_
            refine NN.then ?_
            refine J.ret ?_
            refine NN.then_ret ?_
            refine NN.fin1 6 (.bool x301) (by kernel_rfl) (by kernel_rfl) (.inl rfl) (fun w hi => hi.ret ?_)
            first | (cases H; rfl) | (obtain rfl := Option.some.inj H; rfl) | (simp only [Option.some.injEq, Prod.mk.injEq] at H; obtain ⟨rfl⟩ := H; rfl)
          · rw [if_neg (of_decide_eq_false c300)] at H
            refine LL.bool 35 (decide (a2 < 0)) false c300 (by kernel_rfl) ?_
            refine LL.op (.int .i64 a2) (by kernel_rfl) (fun w _ => by kernel_rfl) ?_
            refine LL.op (.bool (decide (20000 < a2))) (by kernel_rfl) (fun w _ => by kernel_rfl) ?_
            refine LL.op (.bool (decide (20000 < a2))) (by kernel_rfl) (fun w _ => by kernel_rfl) ?_
            refine LL.done (s' := [(2, .int .i64 a2), (3, .pointer (some ⟨g290, 0, none⟩)), (4, .pointer (some ⟨g291, 0, none⟩)), (6, .bool false), (38, .bool (decide (20000 < a2)))]) [2, 3, 4, 6, 38] (by kernel_rfl) ?_
            refine NN.then ?_
            rcases Bool.eq_false_or_eq_true (decide (20000 < a2)) with c302 | c302
            · rw [if_pos (of_decide_eq_true c302)] at H
              refine J.condT (b := decide (20000 < a2)) c302 (by kernel_rfl) (by kernel_rfl) ?_
              refine J.seq ?_
              refine J.plain ?_
              obtain ⟨x303, hx303, H⟩ := bind_some H
              refine LL.call 15 #[] (.bool x303) (by kernel_rfl) (fun w => by kernel_rfl) (fun w hw => sawmilllaw39_awake.calls K    _ w   hx303) ?_
              refine LL.op (.bool x303) (by kernel_rfl) (fun w _ => by kernel_rfl) ?_
              refine LL.done (s' := [(2, .int .i64 a2), (3, .pointer (some ⟨g290, 0, none⟩)), (4, .pointer (some ⟨g291, 0, none⟩)), (6, .bool x303)]) [2, 3, 4, 6] (by kernel_rfl) ?_
              refine NN.then ?_
              refine J.ret ?_
              refine NN.then_ret ?_
              refine NN.fin1 6 (.bool x303) (by kernel_rfl) (by kernel_rfl) (.inl rfl) (fun w hi => hi.ret ?_)
              first | (cases H; rfl) | (obtain rfl := Option.some.inj H; rfl) | (simp only [Option.some.injEq, Prod.mk.injEq] at H; obtain ⟨rfl⟩ := H; rfl)
            · rw [if_neg (of_decide_eq_false c302)] at H
              refine J.condF (b := decide (20000 < a2)) c302 (by kernel_rfl) (by kernel_rfl) ?_
              refine J.skip ?_
              refine NN.then ?_
              refine J.seq ?_
              refine J.plain ?_
              refine LL.op (.agg #[.string a0_0, .int .i64 a0_1, .int .i64 a0_2, .int .i64 a0_3, .int .i64 a0_4, .slice Aa0_5 na0_5 ca0_5, .slice Aa0_6 na0_6 ca0_6]) (by kernel_rfl) (ld 1 g290 0 rfl (by kernel_rfl) rfl (by kernel_rfl)) ?_
              refine LL.op (.agg #[.string a1_0, .int .i64 a1_1, .int .i64 a1_2, .int .i64 a1_3, .int .i64 a1_4, .int .i64 a1_5, .int .i64 a1_6, .int .i64 a1_7, .int .i64 a1_8, .int .i64 a1_9, .int .i64 a1_10, .int .i64 a1_11, .int .i64 a1_12]) (by kernel_rfl) (ld 0 g291 0 rfl (by kernel_rfl) rfl (by kernel_rfl)) ?_
              refine LL.op (.int .i64 a2) (by kernel_rfl) (fun w _ => by kernel_rfl) ?_
              obtain ⟨x304, hx304, H⟩ := bind_some H
              refine LL.call 16 #[.agg #[.string a0_0, .int .i64 a0_1, .int .i64 a0_2, .int .i64 a0_3, .int .i64 a0_4, .slice Aa0_5 na0_5 ca0_5, .slice Aa0_6 na0_6 ca0_6], .agg #[.string a1_0, .int .i64 a1_1, .int .i64 a1_2, .int .i64 a1_3, .int .i64 a1_4, .int .i64 a1_5, .int .i64 a1_6, .int .i64 a1_7, .int .i64 a1_8, .int .i64 a1_9, .int .i64 a1_10, .int .i64 a1_11, .int .i64 a1_12], .int .i64 a2] (.int .i64 x304) (by kernel_rfl) (fun w => by kernel_rfl) (fun w hw => sizing_Allow.calls K a0_0 a0_1 a0_2 a0_3 a0_4 a1_0 a1_1 a1_2 a1_3 a1_4 a1_5 a1_6 a1_7 a1_8 a1_9 a1_10 a1_11 a1_12 a2  _ _ _ _ _ _ _ w   hx304) ?_
              refine LL.op (.int .i64 x304) (by kernel_rfl) (fun w _ => by kernel_rfl) ?_
              refine LL.done (s' := [(2, .int .i64 a2), (3, .pointer (some ⟨g290, 0, none⟩)), (4, .pointer (some ⟨g291, 0, none⟩)), (6, .bool false), (7, .int .i64 x304)]) [2, 3, 4, 6, 7] (by kernel_rfl) ?_
              refine NN.then ?_
              refine J.seq ?_
              refine J.seq ?_
              refine J.plain ?_
              refine LL.op (.int .i64 x304) (by kernel_rfl) (fun w _ => by kernel_rfl) ?_
              refine LL.op (.bool (decide (x304 < 0))) (by kernel_rfl) (fun w _ => by kernel_rfl) ?_
              refine LL.op (.bool (decide (x304 < 0))) (by kernel_rfl) (fun w _ => by kernel_rfl) ?_
              rcases Bool.eq_false_or_eq_true (decide (x304 < 0)) with c305 | c305
              · rw [if_pos (of_decide_eq_true c305)] at H
                refine LL.bool 46 (decide (x304 < 0)) true c305 (by kernel_rfl) ?_
                refine LL.off (by kernel_rfl) (by kernel_rfl) ?_
                refine LL.off (by kernel_rfl) (by kernel_rfl) ?_
                refine LL.op (.bool true) (by kernel_rfl) (fun w _ => by kernel_rfl) ?_
                refine LL.done (s' := [(2, .int .i64 a2), (3, .pointer (some ⟨g290, 0, none⟩)), (4, .pointer (some ⟨g291, 0, none⟩)), (6, .bool false), (7, .int .i64 x304), (49, .bool true)]) [2, 3, 4, 6, 7, 49] (by kernel_rfl) ?_
                refine NN.then ?_
                refine J.condT (b := true) rfl (by kernel_rfl) (by kernel_rfl) ?_
                refine J.seq ?_
                refine J.plain ?_
                refine LL.op (.bool false) (by kernel_rfl) (fun w _ => by kernel_rfl) ?_
                refine LL.done (s' := [(2, .int .i64 a2), (3, .pointer (some ⟨g290, 0, none⟩)), (4, .pointer (some ⟨g291, 0, none⟩)), (6, .bool false), (7, .int .i64 x304)]) [2, 3, 4, 6, 7] (by kernel_rfl) ?_
                refine NN.then ?_
                refine J.ret ?_
                refine NN.then_ret ?_
                refine NN.fin1 6 (.bool false) (by kernel_rfl) (by kernel_rfl) (.inl rfl) (fun w hi => hi.ret ?_)
                first | (cases H; rfl) | (obtain rfl := Option.some.inj H; rfl) | (simp only [Option.some.injEq, Prod.mk.injEq] at H; obtain ⟨rfl⟩ := H; rfl)
              · rw [if_neg (of_decide_eq_false c305)] at H
                refine LL.bool 46 (decide (x304 < 0)) false c305 (by kernel_rfl) ?_
                refine LL.op (.int .i64 x304) (by kernel_rfl) (fun w _ => by kernel_rfl) ?_
                refine LL.op (.bool (decide (201 < x304))) (by kernel_rfl) (fun w _ => by kernel_rfl) ?_
                refine LL.op (.bool (decide (201 < x304))) (by kernel_rfl) (fun w _ => by kernel_rfl) ?_
                refine LL.done (s' := [(2, .int .i64 a2), (3, .pointer (some ⟨g290, 0, none⟩)), (4, .pointer (some ⟨g291, 0, none⟩)), (6, .bool false), (7, .int .i64 x304), (49, .bool (decide (201 < x304)))]) [2, 3, 4, 6, 7, 49] (by kernel_rfl) ?_
                refine NN.then ?_
                rcases Bool.eq_false_or_eq_true (decide (201 < x304)) with c306 | c306
                · rw [if_pos (of_decide_eq_true c306)] at H
                  refine J.condT (b := decide (201 < x304)) c306 (by kernel_rfl) (by kernel_rfl) ?_
                  refine J.seq ?_
                  refine J.plain ?_
                  refine LL.op (.bool false) (by kernel_rfl) (fun w _ => by kernel_rfl) ?_
                  refine LL.done (s' := [(2, .int .i64 a2), (3, .pointer (some ⟨g290, 0, none⟩)), (4, .pointer (some ⟨g291, 0, none⟩)), (6, .bool false), (7, .int .i64 x304)]) [2, 3, 4, 6, 7] (by kernel_rfl) ?_
                  refine NN.then ?_
                  refine J.ret ?_
                  refine NN.then_ret ?_
                  refine NN.fin1 6 (.bool false) (by kernel_rfl) (by kernel_rfl) (.inl rfl) (fun w hi => hi.ret ?_)
                  first | (cases H; rfl) | (obtain rfl := Option.some.inj H; rfl) | (simp only [Option.some.injEq, Prod.mk.injEq] at H; obtain ⟨rfl⟩ := H; rfl)
                · rw [if_neg (of_decide_eq_false c306)] at H
                  refine J.condF (b := decide (201 < x304)) c306 (by kernel_rfl) (by kernel_rfl) ?_
                  refine J.skip ?_
                  refine NN.then ?_
                  refine J.seq ?_
                  refine J.plain ?_
                  refine LL.op (.agg #[.int .i64 0, .int .i64 1000]) (by kernel_rfl) (fun w _ => by kernel_rfl) ?_
                  refine LL.op (.agg #[.int .i64 0, .int .i64 0, .int .i64 0, .int .i64 0, .int .i64 0, .int .i64 1000]) (by kernel_rfl) (fun w _ => by kernel_rfl) ?_
                  refine LL.op (.int .i64 a2) (by kernel_rfl) (fun w _ => by kernel_rfl) ?_
                  refine LL.op (.int .i64 a2) (by kernel_rfl) (fun w _ => by kernel_rfl) ?_
                  refine LL.op (.agg #[.int .i64 a2, .int .i64 a2, .int .i64 0]) (by kernel_rfl) (fun w _ => by kernel_rfl) ?_
                  refine LL.op (.agg #[.string (⟨#[]⟩ : ByteArray), .string (⟨#[]⟩ : ByteArray), .string (⟨#[]⟩ : ByteArray), .int .i64 0, .int .i64 0, .int .i64 0, .int .i64 0, .int .i64 0, .int .i64 0, .int .i64 1000, .int .i64 0, .slice none 0 0, .int .i64 0, .int .i64 a2, .int .i64 a2, .int .i64 0, .bool false, .int .i64 0]) (by kernel_rfl) (fun w _ => by kernel_rfl) ?_
                  refine LL.alloc 30 [.string (⟨#[]⟩ : ByteArray), .string (⟨#[]⟩ : ByteArray), .string (⟨#[]⟩ : ByteArray), .int .i64 0, .int .i64 0, .int .i64 0, .int .i64 0, .int .i64 0, .int .i64 0, .int .i64 0, .int .i64 0, .slice none 0 0, .int .i64 0, .int .i64 0, .int .i64 0, .int .i64 0, .bool false, .int .i64 0] (by kernel_rfl) rfl (by kernel_rfl) (fun g307 => ?_)
                  refine LL.store 0 g307 0 30 (.tmp 8) (.tmp 55) [.string (⟨#[]⟩ : ByteArray), .string (⟨#[]⟩ : ByteArray), .string (⟨#[]⟩ : ByteArray), .int .i64 0, .int .i64 0, .int .i64 0, .int .i64 0, .int .i64 0, .int .i64 0, .int .i64 1000, .int .i64 0, .slice none 0 0, .int .i64 0, .int .i64 a2, .int .i64 a2, .int .i64 0, .bool false, .int .i64 0] (bs' := [(g307, cl [.string (⟨#[]⟩ : ByteArray), .string (⟨#[]⟩ : ByteArray), .string (⟨#[]⟩ : ByteArray), .int .i64 0, .int .i64 0, .int .i64 0, .int .i64 0, .int .i64 0, .int .i64 0, .int .i64 1000, .int .i64 0, .slice none 0 0, .int .i64 0, .int .i64 a2, .int .i64 a2, .int .i64 0, .bool false, .int .i64 0] 30), (g291, cl [.string a1_0, .int .i64 a1_1, .int .i64 a1_2, .int .i64 a1_3, .int .i64 a1_4, .int .i64 a1_5, .int .i64 a1_6, .int .i64 a1_7, .int .i64 a1_8, .int .i64 a1_9, .int .i64 a1_10, .int .i64 a1_11, .int .i64 a1_12] 35), (g290, cl [.string a0_0, .int .i64 a0_1, .int .i64 a0_2, .int .i64 a0_3, .int .i64 a0_4, .slice Aa0_5 na0_5 ca0_5, .slice Aa0_6 na0_6 ca0_6] 33)]) rfl (by kernel_rfl) rfl (by kernel_rfl) rfl (by kernel_rfl) ?_
                  refine LL.done (s' := [(3, .pointer (some ⟨g290, 0, none⟩)), (4, .pointer (some ⟨g291, 0, none⟩)), (6, .bool false), (7, .int .i64 x304), (8, .pointer (some ⟨g307, 0, none⟩))]) [3, 4, 6, 7, 8] (by kernel_rfl) ?_
                  refine NN.then ?_
                  refine J.seq ?_
                  refine J.seq ?_
                  refine J.plain ?_
                  refine LL.op (.int .i64 x304) (by kernel_rfl) (fun w _ => by kernel_rfl) ?_
                  refine LL.op (.bool (decide (x304 ≤ 200))) (by kernel_rfl) (fun w _ => by kernel_rfl) ?_
                  refine LL.done (s' := [(3, .pointer (some ⟨g290, 0, none⟩)), (4, .pointer (some ⟨g291, 0, none⟩)), (6, .bool false), (7, .int .i64 x304), (8, .pointer (some ⟨g307, 0, none⟩)), (57, .bool (decide (x304 ≤ 200)))]) [3, 4, 6, 7, 8, 57] (by kernel_rfl) ?_
                  refine NN.then ?_
                  rcases Bool.eq_false_or_eq_true (decide (x304 ≤ 200)) with c308 | c308
                  · rw [if_pos (of_decide_eq_true c308)] at H
                    refine J.condT (b := decide (x304 ≤ 200)) c308 (by kernel_rfl) (by kernel_rfl) ?_
                    refine J.seq ?_
                    refine J.plain ?_
                    refine LL.op (.int .i64 x304) (by kernel_rfl) (fun w _ => by kernel_rfl) ?_
                    refine LL.op (.pointer (some ⟨g290, 3, none⟩)) (by kernel_rfl) (fun w _ => by kernel_rfl) ?_
                    refine LL.store 2 g290 3 3 (.tmp 59) (.tmp 58) [.string a0_0, .int .i64 a0_1, .int .i64 a0_2, .int .i64 x304, .int .i64 a0_4, .slice Aa0_5 na0_5 ca0_5, .slice Aa0_6 na0_6 ca0_6] (bs' := [(g307, cl [.string (⟨#[]⟩ : ByteArray), .string (⟨#[]⟩ : ByteArray), .string (⟨#[]⟩ : ByteArray), .int .i64 0, .int .i64 0, .int .i64 0, .int .i64 0, .int .i64 0, .int .i64 0, .int .i64 1000, .int .i64 0, .slice none 0 0, .int .i64 0, .int .i64 a2, .int .i64 a2, .int .i64 0, .bool false, .int .i64 0] 30), (g291, cl [.string a1_0, .int .i64 a1_1, .int .i64 a1_2, .int .i64 a1_3, .int .i64 a1_4, .int .i64 a1_5, .int .i64 a1_6, .int .i64 a1_7, .int .i64 a1_8, .int .i64 a1_9, .int .i64 a1_10, .int .i64 a1_11, .int .i64 a1_12] 35), (g290, cl [.string a0_0, .int .i64 a0_1, .int .i64 a0_2, .int .i64 x304, .int .i64 a0_4, .slice Aa0_5 na0_5 ca0_5, .slice Aa0_6 na0_6 ca0_6] 33)]) rfl (by kernel_rfl) rfl (by kernel_rfl) rfl (by kernel_rfl) ?_
                    refine LL.done (s' := [(3, .pointer (some ⟨g290, 0, none⟩)), (4, .pointer (some ⟨g291, 0, none⟩)), (6, .bool false), (7, .int .i64 x304), (8, .pointer (some ⟨g307, 0, none⟩))]) [3, 4, 6, 7, 8] (by kernel_rfl) ?_
                    refine NN.then ?_
                    refine J.seq ?_
                    refine J.plain ?_
                    refine LL.op (.agg #[.string a0_0, .int .i64 a0_1, .int .i64 a0_2, .int .i64 x304, .int .i64 a0_4, .slice Aa0_5 na0_5 ca0_5, .slice Aa0_6 na0_6 ca0_6]) (by kernel_rfl) (ld 2 g290 0 rfl (by kernel_rfl) rfl (by kernel_rfl)) ?_
                    obtain ⟨⟨x309_1, x309_2⟩, hx309, H⟩ := bind_some H
                    (try dsimp only at H)
                    refine LL.call 20 #[.agg #[.string a0_0, .int .i64 a0_1, .int .i64 a0_2, .int .i64 x304, .int .i64 a0_4, .slice Aa0_5 na0_5 ca0_5, .slice Aa0_6 na0_6 ca0_6]] (.tuple #[.int .i64 x309_1, .int .i64 x309_2]) (by kernel_rfl) (fun w => by kernel_rfl) (fun w hw => product_Green.calls a0_0 a0_1 a0_2 x304 a0_4  _ _ _ _ _ _ _ _ w   hx309) ?_
                    refine LL.op (.tuple #[.int .i64 x309_1, .int .i64 x309_2]) (by kernel_rfl) (fun w _ => by kernel_rfl) ?_
                    refine LL.op (.int .i64 x309_1) (by kernel_rfl) (fun w _ => by kernel_rfl) ?_
                    refine LL.op (.int .i64 x309_2) (by kernel_rfl) (fun w _ => by kernel_rfl) ?_
                    refine LL.op (.int .i64 x309_1) (by kernel_rfl) (fun w _ => by kernel_rfl) ?_
                    refine LL.op (.int .i64 x309_2) (by kernel_rfl) (fun w _ => by kernel_rfl) ?_
                    refine LL.done (s' := [(3, .pointer (some ⟨g290, 0, none⟩)), (4, .pointer (some ⟨g291, 0, none⟩)), (6, .bool false), (7, .int .i64 x304), (8, .pointer (some ⟨g307, 0, none⟩)), (9, .int .i64 x309_1), (10, .int .i64 x309_2)]) [3, 4, 6, 7, 8, 9, 10] (by kernel_rfl) ?_
                    refine NN.then ?_
                    refine J.seq ?_
                    refine J.plain ?_
                    refine LL.op (.int .i64 x309_1) (by kernel_rfl) (fun w _ => by kernel_rfl) ?_
                    refine LL.op (.int .i64 (IntKind.i64.wrap (0 - x309_1))) (by kernel_rfl) (fun w _ => by kernel_rfl) ?_
                    refine LL.op (.agg #[.int .i64 (IntKind.i64.wrap (0 - x309_1)), .int .i64 0]) (by kernel_rfl) (fun w _ => by kernel_rfl) ?_
                    refine LL.op (.pointer (some ⟨g307, 4, none⟩)) (by kernel_rfl) (fun w _ => by kernel_rfl) ?_
                    refine LL.op (.pointer (some ⟨g307, 4, none⟩)) (by kernel_rfl) (fun w _ => by kernel_rfl) ?_
                    refine LL.store 0 g307 4 23 (.tmp 69) (.tmp 67) [.string (⟨#[]⟩ : ByteArray), .string (⟨#[]⟩ : ByteArray), .string (⟨#[]⟩ : ByteArray), .int .i64 0, .int .i64 (IntKind.i64.wrap (0 - x309_1)), .int .i64 0, .int .i64 0, .int .i64 0, .int .i64 0, .int .i64 1000, .int .i64 0, .slice none 0 0, .int .i64 0, .int .i64 a2, .int .i64 a2, .int .i64 0, .bool false, .int .i64 0] (bs' := [(g307, cl [.string (⟨#[]⟩ : ByteArray), .string (⟨#[]⟩ : ByteArray), .string (⟨#[]⟩ : ByteArray), .int .i64 0, .int .i64 (IntKind.i64.wrap (0 - x309_1)), .int .i64 0, .int .i64 0, .int .i64 0, .int .i64 0, .int .i64 1000, .int .i64 0, .slice none 0 0, .int .i64 0, .int .i64 a2, .int .i64 a2, .int .i64 0, .bool false, .int .i64 0] 30), (g291, cl [.string a1_0, .int .i64 a1_1, .int .i64 a1_2, .int .i64 a1_3, .int .i64 a1_4, .int .i64 a1_5, .int .i64 a1_6, .int .i64 a1_7, .int .i64 a1_8, .int .i64 a1_9, .int .i64 a1_10, .int .i64 a1_11, .int .i64 a1_12] 35), (g290, cl [.string a0_0, .int .i64 a0_1, .int .i64 a0_2, .int .i64 x304, .int .i64 a0_4, .slice Aa0_5 na0_5 ca0_5, .slice Aa0_6 na0_6 ca0_6] 33)]) rfl (by kernel_rfl) rfl (by kernel_rfl) rfl (by kernel_rfl) ?_
                    refine LL.done (s' := [(3, .pointer (some ⟨g290, 0, none⟩)), (4, .pointer (some ⟨g291, 0, none⟩)), (6, .bool false), (7, .int .i64 x304), (8, .pointer (some ⟨g307, 0, none⟩)), (10, .int .i64 x309_2)]) [3, 4, 6, 7, 8, 10] (by kernel_rfl) ?_
                    refine NN.then ?_
                    refine J.seq ?_
                    refine J.plain ?_
                    refine LL.op (.int .i64 x309_2) (by kernel_rfl) (fun w _ => by kernel_rfl) ?_
                    refine LL.op (.agg #[.int .i64 0, .int .i64 x309_2]) (by kernel_rfl) (fun w _ => by kernel_rfl) ?_
                    refine LL.op (.pointer (some ⟨g307, 4, none⟩)) (by kernel_rfl) (fun w _ => by kernel_rfl) ?_
                    refine LL.op (.pointer (some ⟨g307, 6, none⟩)) (by kernel_rfl) (fun w _ => by kernel_rfl) ?_
                    refine LL.store 0 g307 6 23 (.tmp 73) (.tmp 71) [.string (⟨#[]⟩ : ByteArray), .string (⟨#[]⟩ : ByteArray), .string (⟨#[]⟩ : ByteArray), .int .i64 0, .int .i64 (IntKind.i64.wrap (0 - x309_1)), .int .i64 0, .int .i64 0, .int .i64 x309_2, .int .i64 0, .int .i64 1000, .int .i64 0, .slice none 0 0, .int .i64 0, .int .i64 a2, .int .i64 a2, .int .i64 0, .bool false, .int .i64 0] (bs' := [(g307, cl [.string (⟨#[]⟩ : ByteArray), .string (⟨#[]⟩ : ByteArray), .string (⟨#[]⟩ : ByteArray), .int .i64 0, .int .i64 (IntKind.i64.wrap (0 - x309_1)), .int .i64 0, .int .i64 0, .int .i64 x309_2, .int .i64 0, .int .i64 1000, .int .i64 0, .slice none 0 0, .int .i64 0, .int .i64 a2, .int .i64 a2, .int .i64 0, .bool false, .int .i64 0] 30), (g291, cl [.string a1_0, .int .i64 a1_1, .int .i64 a1_2, .int .i64 a1_3, .int .i64 a1_4, .int .i64 a1_5, .int .i64 a1_6, .int .i64 a1_7, .int .i64 a1_8, .int .i64 a1_9, .int .i64 a1_10, .int .i64 a1_11, .int .i64 a1_12] 35), (g290, cl [.string a0_0, .int .i64 a0_1, .int .i64 a0_2, .int .i64 x304, .int .i64 a0_4, .slice Aa0_5 na0_5 ca0_5, .slice Aa0_6 na0_6 ca0_6] 33)]) rfl (by kernel_rfl) rfl (by kernel_rfl) rfl (by kernel_rfl) ?_
                    refine LL.done (s' := [(3, .pointer (some ⟨g290, 0, none⟩)), (4, .pointer (some ⟨g291, 0, none⟩)), (6, .bool false), (7, .int .i64 x304), (8, .pointer (some ⟨g307, 0, none⟩))]) [3, 4, 6, 7, 8] (by kernel_rfl) ?_
                    refine NN.then ?_
                    refine J.seq ?_
                    refine J.plain ?_
                    refine LL.op (.pointer (some ⟨g290, 1, none⟩)) (by kernel_rfl) (fun w _ => by kernel_rfl) ?_
                    refine LL.op (.int .i64 a0_1) (by kernel_rfl) (ld 2 g290 1 rfl (by kernel_rfl) rfl (by kernel_rfl)) ?_
                    refine LL.op (.pointer (some ⟨g290, 2, none⟩)) (by kernel_rfl) (fun w _ => by kernel_rfl) ?_
                    refine LL.op (.int .i64 a0_2) (by kernel_rfl) (ld 2 g290 2 rfl (by kernel_rfl) rfl (by kernel_rfl)) ?_
                    refine LL.op (.bool (decide (a0_1 ≤ a0_2))) (by kernel_rfl) (fun w _ => by kernel_rfl) ?_
                    refine LL.op (.bool (decide (a0_1 ≤ a0_2))) (by kernel_rfl) (fun w _ => by kernel_rfl) ?_
                    rcases Bool.eq_false_or_eq_true (decide (a0_1 ≤ a0_2)) with c310 | c310
                    · rw [if_pos (of_decide_eq_true c310)] at H
                      refine LL.bool 79 (decide (a0_1 ≤ a0_2)) true c310 (by kernel_rfl) ?_
                      refine LL.op (.agg #[.string (⟨#[]⟩ : ByteArray), .string (⟨#[]⟩ : ByteArray), .string (⟨#[]⟩ : ByteArray), .int .i64 0, .int .i64 (IntKind.i64.wrap (0 - x309_1)), .int .i64 0, .int .i64 0, .int .i64 x309_2, .int .i64 0, .int .i64 1000, .int .i64 0, .slice none 0 0, .int .i64 0, .int .i64 a2, .int .i64 a2, .int .i64 0, .bool false, .int .i64 0]) (by kernel_rfl) (ld 0 g307 0 rfl (by kernel_rfl) rfl (by kernel_rfl)) ?_
                      refine LL.op (.agg #[.string a0_0, .int .i64 a0_1, .int .i64 a0_2, .int .i64 x304, .int .i64 a0_4, .slice Aa0_5 na0_5 ca0_5, .slice Aa0_6 na0_6 ca0_6]) (by kernel_rfl) (ld 2 g290 0 rfl (by kernel_rfl) rfl (by kernel_rfl)) ?_
                      refine LL.op (.agg #[.string a1_0, .int .i64 a1_1, .int .i64 a1_2, .int .i64 a1_3, .int .i64 a1_4, .int .i64 a1_5, .int .i64 a1_6, .int .i64 a1_7, .int .i64 a1_8, .int .i64 a1_9, .int .i64 a1_10, .int .i64 a1_11, .int .i64 a1_12]) (by kernel_rfl) (ld 1 g291 0 rfl (by kernel_rfl) rfl (by kernel_rfl)) ?_
                      obtain ⟨x311, hx311, H⟩ := bind_some H
                      refine LL.call 11 #[.agg #[.string (⟨#[]⟩ : ByteArray), .string (⟨#[]⟩ : ByteArray), .string (⟨#[]⟩ : ByteArray), .int .i64 0, .int .i64 (IntKind.i64.wrap (0 - x309_1)), .int .i64 0, .int .i64 0, .int .i64 x309_2, .int .i64 0, .int .i64 1000, .int .i64 0, .slice none 0 0, .int .i64 0, .int .i64 a2, .int .i64 a2, .int .i64 0, .bool false, .int .i64 0], .agg #[.string a0_0, .int .i64 a0_1, .int .i64 a0_2, .int .i64 x304, .int .i64 a0_4, .slice Aa0_5 na0_5 ca0_5, .slice Aa0_6 na0_6 ca0_6], .agg #[.string a1_0, .int .i64 a1_1, .int .i64 a1_2, .int .i64 a1_3, .int .i64 a1_4, .int .i64 a1_5, .int .i64 a1_6, .int .i64 a1_7, .int .i64 a1_8, .int .i64 a1_9, .int .i64 a1_10, .int .i64 a1_11, .int .i64 a1_12]] (.bool x311) (by kernel_rfl) (fun w => by kernel_rfl) (fun w hw => sizing_Under.calls (⟨#[]⟩ : ByteArray) (⟨#[]⟩ : ByteArray) (⟨#[]⟩ : ByteArray) 0 (IntKind.i64.wrap (0 - x309_1)) 0 0 x309_2 0 1000 0 0 a2 a2 0 false 0 a0_0 a0_1 a0_2 x304 a0_4 a1_0 a1_1 a1_2 a1_3 a1_4 a1_5 a1_6 a1_7 a1_8 a1_9 a1_10 a1_11 a1_12  _ _ _ _ _ _ _ _ _ _ w   hx311) ?_
                      refine LL.op (.bool x311) (by kernel_rfl) (fun w _ => by kernel_rfl) ?_
                      refine LL.done (s' := [(3, .pointer (some ⟨g290, 0, none⟩)), (4, .pointer (some ⟨g291, 0, none⟩)), (6, .bool false), (7, .int .i64 x304), (8, .pointer (some ⟨g307, 0, none⟩)), (84, .bool x311)]) [3, 4, 6, 7, 8, 84] (by kernel_rfl) ?_
                      refine NN.then ?_
                      rcases Bool.eq_false_or_eq_true (x311) with c312 | c312
                      · rw [if_pos (c312)] at H
                        refine J.condT (b := x311) c312 (by kernel_rfl) (by kernel_rfl) ?_
                        refine J.seq ?_
                        refine J.plain ?_
                        refine LL.op (.bool false) (by kernel_rfl) (fun w _ => by kernel_rfl) ?_
                        refine LL.done (s' := [(3, .pointer (some ⟨g290, 0, none⟩)), (4, .pointer (some ⟨g291, 0, none⟩)), (6, .bool false), (7, .int .i64 x304), (8, .pointer (some ⟨g307, 0, none⟩))]) [3, 4, 6, 7, 8] (by kernel_rfl) ?_
                        refine NN.then ?_
                        refine J.ret ?_
                        refine NN.then_ret ?_
                        refine NN.fin1 6 (.bool false) (by kernel_rfl) (by kernel_rfl) (.inl rfl) (fun w hi => hi.ret ?_)
                        first | (cases H; rfl) | (obtain rfl := Option.some.inj H; rfl) | (simp only [Option.some.injEq, Prod.mk.injEq] at H; obtain ⟨rfl⟩ := H; rfl)
                      · rw [if_neg (nebt c312)] at H
                        refine J.condF (b := x311) c312 (by kernel_rfl) (by kernel_rfl) ?_
                        refine J.skip ?_
                        refine NN.then ?_
                        refine J.seq ?_
                        refine J.seq ?_
                        refine J.plain ?_
                        refine LL.op (.int .i64 x304) (by kernel_rfl) (fun w _ => by kernel_rfl) ?_
                        refine LL.op (.bool (decide (0 < x304))) (by kernel_rfl) (fun w _ => by kernel_rfl) ?_
                        refine LL.done (s' := [(3, .pointer (some ⟨g290, 0, none⟩)), (4, .pointer (some ⟨g291, 0, none⟩)), (6, .bool false), (7, .int .i64 x304), (8, .pointer (some ⟨g307, 0, none⟩)), (86, .bool (decide (0 < x304)))]) [3, 4, 6, 7, 8, 86] (by kernel_rfl) ?_
                        refine NN.then ?_
                        rcases Bool.eq_false_or_eq_true (decide (0 < x304)) with c313 | c313
                        · rw [if_pos (of_decide_eq_true c313)] at H
                          refine J.condT (b := decide (0 < x304)) c313 (by kernel_rfl) (by kernel_rfl) ?_
                          refine J.seq ?_
                          refine J.plain ?_
                          refine LL.op (.int .i64 x304) (by kernel_rfl) (fun w _ => by kernel_rfl) ?_
                          refine LL.op (.int .i64 (IntKind.i64.wrap (x304 - 1))) (by kernel_rfl) (fun w _ => by kernel_rfl) ?_
                          refine LL.op (.pointer (some ⟨g290, 3, none⟩)) (by kernel_rfl) (fun w _ => by kernel_rfl) ?_
                          refine LL.store 2 g290 3 3 (.tmp 89) (.tmp 88) [.string a0_0, .int .i64 a0_1, .int .i64 a0_2, .int .i64 (IntKind.i64.wrap (x304 - 1)), .int .i64 a0_4, .slice Aa0_5 na0_5 ca0_5, .slice Aa0_6 na0_6 ca0_6] (bs' := [(g307, cl [.string (⟨#[]⟩ : ByteArray), .string (⟨#[]⟩ : ByteArray), .string (⟨#[]⟩ : ByteArray), .int .i64 0, .int .i64 (IntKind.i64.wrap (0 - x309_1)), .int .i64 0, .int .i64 0, .int .i64 x309_2, .int .i64 0, .int .i64 1000, .int .i64 0, .slice none 0 0, .int .i64 0, .int .i64 a2, .int .i64 a2, .int .i64 0, .bool false, .int .i64 0] 30), (g291, cl [.string a1_0, .int .i64 a1_1, .int .i64 a1_2, .int .i64 a1_3, .int .i64 a1_4, .int .i64 a1_5, .int .i64 a1_6, .int .i64 a1_7, .int .i64 a1_8, .int .i64 a1_9, .int .i64 a1_10, .int .i64 a1_11, .int .i64 a1_12] 35), (g290, cl [.string a0_0, .int .i64 a0_1, .int .i64 a0_2, .int .i64 (IntKind.i64.wrap (x304 - 1)), .int .i64 a0_4, .slice Aa0_5 na0_5 ca0_5, .slice Aa0_6 na0_6 ca0_6] 33)]) rfl (by kernel_rfl) rfl (by kernel_rfl) rfl (by kernel_rfl) ?_
                          refine LL.done (s' := [(3, .pointer (some ⟨g290, 0, none⟩)), (4, .pointer (some ⟨g291, 0, none⟩)), (6, .bool false), (8, .pointer (some ⟨g307, 0, none⟩))]) [3, 4, 6, 8] (by kernel_rfl) ?_
                          refine NN.then ?_
                          refine J.seq ?_
                          refine J.plain ?_
                          refine LL.op (.agg #[.string a0_0, .int .i64 a0_1, .int .i64 a0_2, .int .i64 (IntKind.i64.wrap (x304 - 1)), .int .i64 a0_4, .slice Aa0_5 na0_5 ca0_5, .slice Aa0_6 na0_6 ca0_6]) (by kernel_rfl) (ld 2 g290 0 rfl (by kernel_rfl) rfl (by kernel_rfl)) ?_
                          obtain ⟨⟨x314_1, x314_2⟩, hx314, H⟩ := bind_some H
                          (try dsimp only at H)
                          refine LL.call 20 #[.agg #[.string a0_0, .int .i64 a0_1, .int .i64 a0_2, .int .i64 (IntKind.i64.wrap (x304 - 1)), .int .i64 a0_4, .slice Aa0_5 na0_5 ca0_5, .slice Aa0_6 na0_6 ca0_6]] (.tuple #[.int .i64 x314_1, .int .i64 x314_2]) (by kernel_rfl) (fun w => by kernel_rfl) (fun w hw => product_Green.calls a0_0 a0_1 a0_2 (IntKind.i64.wrap (x304 - 1)) a0_4  _ _ _ _ _ _ _ _ w   hx314) ?_
                          refine LL.op (.tuple #[.int .i64 x314_1, .int .i64 x314_2]) (by kernel_rfl) (fun w _ => by kernel_rfl) ?_
                          refine LL.op (.int .i64 x314_1) (by kernel_rfl) (fun w _ => by kernel_rfl) ?_
                          refine LL.op (.int .i64 x314_2) (by kernel_rfl) (fun w _ => by kernel_rfl) ?_
                          refine LL.op (.int .i64 x314_1) (by kernel_rfl) (fun w _ => by kernel_rfl) ?_
                          refine LL.op (.int .i64 x314_2) (by kernel_rfl) (fun w _ => by kernel_rfl) ?_
                          refine LL.done (s' := [(3, .pointer (some ⟨g290, 0, none⟩)), (4, .pointer (some ⟨g291, 0, none⟩)), (6, .bool false), (8, .pointer (some ⟨g307, 0, none⟩)), (11, .int .i64 x314_1), (12, .int .i64 x314_2)]) [3, 4, 6, 8, 11, 12] (by kernel_rfl) ?_
                          refine NN.then ?_
                          refine J.seq ?_
                          refine J.plain ?_
                          refine LL.op (.int .i64 x314_1) (by kernel_rfl) (fun w _ => by kernel_rfl) ?_
                          refine LL.op (.int .i64 (IntKind.i64.wrap (0 - x314_1))) (by kernel_rfl) (fun w _ => by kernel_rfl) ?_
                          refine LL.op (.agg #[.int .i64 (IntKind.i64.wrap (0 - x314_1)), .int .i64 0]) (by kernel_rfl) (fun w _ => by kernel_rfl) ?_
                          refine LL.op (.pointer (some ⟨g307, 4, none⟩)) (by kernel_rfl) (fun w _ => by kernel_rfl) ?_
                          refine LL.op (.pointer (some ⟨g307, 4, none⟩)) (by kernel_rfl) (fun w _ => by kernel_rfl) ?_
                          refine LL.store 0 g307 4 23 (.tmp 99) (.tmp 97) [.string (⟨#[]⟩ : ByteArray), .string (⟨#[]⟩ : ByteArray), .string (⟨#[]⟩ : ByteArray), .int .i64 0, .int .i64 (IntKind.i64.wrap (0 - x314_1)), .int .i64 0, .int .i64 0, .int .i64 x309_2, .int .i64 0, .int .i64 1000, .int .i64 0, .slice none 0 0, .int .i64 0, .int .i64 a2, .int .i64 a2, .int .i64 0, .bool false, .int .i64 0] (bs' := [(g307, cl [.string (⟨#[]⟩ : ByteArray), .string (⟨#[]⟩ : ByteArray), .string (⟨#[]⟩ : ByteArray), .int .i64 0, .int .i64 (IntKind.i64.wrap (0 - x314_1)), .int .i64 0, .int .i64 0, .int .i64 x309_2, .int .i64 0, .int .i64 1000, .int .i64 0, .slice none 0 0, .int .i64 0, .int .i64 a2, .int .i64 a2, .int .i64 0, .bool false, .int .i64 0] 30), (g291, cl [.string a1_0, .int .i64 a1_1, .int .i64 a1_2, .int .i64 a1_3, .int .i64 a1_4, .int .i64 a1_5, .int .i64 a1_6, .int .i64 a1_7, .int .i64 a1_8, .int .i64 a1_9, .int .i64 a1_10, .int .i64 a1_11, .int .i64 a1_12] 35), (g290, cl [.string a0_0, .int .i64 a0_1, .int .i64 a0_2, .int .i64 (IntKind.i64.wrap (x304 - 1)), .int .i64 a0_4, .slice Aa0_5 na0_5 ca0_5, .slice Aa0_6 na0_6 ca0_6] 33)]) rfl (by kernel_rfl) rfl (by kernel_rfl) rfl (by kernel_rfl) ?_
                          refine LL.done (s' := [(3, .pointer (some ⟨g290, 0, none⟩)), (4, .pointer (some ⟨g291, 0, none⟩)), (6, .bool false), (8, .pointer (some ⟨g307, 0, none⟩)), (12, .int .i64 x314_2)]) [3, 4, 6, 8, 12] (by kernel_rfl) ?_
                          refine NN.then ?_
                          refine J.seq ?_
                          refine J.plain ?_
                          refine LL.op (.int .i64 x314_2) (by kernel_rfl) (fun w _ => by kernel_rfl) ?_
                          refine LL.op (.agg #[.int .i64 0, .int .i64 x314_2]) (by kernel_rfl) (fun w _ => by kernel_rfl) ?_
                          refine LL.op (.pointer (some ⟨g307, 4, none⟩)) (by kernel_rfl) (fun w _ => by kernel_rfl) ?_
                          refine LL.op (.pointer (some ⟨g307, 6, none⟩)) (by kernel_rfl) (fun w _ => by kernel_rfl) ?_
                          refine LL.store 0 g307 6 23 (.tmp 103) (.tmp 101) [.string (⟨#[]⟩ : ByteArray), .string (⟨#[]⟩ : ByteArray), .string (⟨#[]⟩ : ByteArray), .int .i64 0, .int .i64 (IntKind.i64.wrap (0 - x314_1)), .int .i64 0, .int .i64 0, .int .i64 x314_2, .int .i64 0, .int .i64 1000, .int .i64 0, .slice none 0 0, .int .i64 0, .int .i64 a2, .int .i64 a2, .int .i64 0, .bool false, .int .i64 0] (bs' := [(g307, cl [.string (⟨#[]⟩ : ByteArray), .string (⟨#[]⟩ : ByteArray), .string (⟨#[]⟩ : ByteArray), .int .i64 0, .int .i64 (IntKind.i64.wrap (0 - x314_1)), .int .i64 0, .int .i64 0, .int .i64 x314_2, .int .i64 0, .int .i64 1000, .int .i64 0, .slice none 0 0, .int .i64 0, .int .i64 a2, .int .i64 a2, .int .i64 0, .bool false, .int .i64 0] 30), (g291, cl [.string a1_0, .int .i64 a1_1, .int .i64 a1_2, .int .i64 a1_3, .int .i64 a1_4, .int .i64 a1_5, .int .i64 a1_6, .int .i64 a1_7, .int .i64 a1_8, .int .i64 a1_9, .int .i64 a1_10, .int .i64 a1_11, .int .i64 a1_12] 35), (g290, cl [.string a0_0, .int .i64 a0_1, .int .i64 a0_2, .int .i64 (IntKind.i64.wrap (x304 - 1)), .int .i64 a0_4, .slice Aa0_5 na0_5 ca0_5, .slice Aa0_6 na0_6 ca0_6] 33)]) rfl (by kernel_rfl) rfl (by kernel_rfl) rfl (by kernel_rfl) ?_
                          refine LL.done (s' := [(3, .pointer (some ⟨g290, 0, none⟩)), (4, .pointer (some ⟨g291, 0, none⟩)), (6, .bool false), (8, .pointer (some ⟨g307, 0, none⟩))]) [3, 4, 6, 8] (by kernel_rfl) ?_
                          refine NN.then ?_
                          refine J.seq ?_
                          refine J.plain ?_
                          refine LL.op (.pointer (some ⟨g290, 1, none⟩)) (by kernel_rfl) (fun w _ => by kernel_rfl) ?_
                          refine LL.op (.int .i64 a0_1) (by kernel_rfl) (ld 2 g290 1 rfl (by kernel_rfl) rfl (by kernel_rfl)) ?_
                          refine LL.op (.pointer (some ⟨g290, 2, none⟩)) (by kernel_rfl) (fun w _ => by kernel_rfl) ?_
                          refine LL.op (.int .i64 a0_2) (by kernel_rfl) (ld 2 g290 2 rfl (by kernel_rfl) rfl (by kernel_rfl)) ?_
                          refine LL.op (.bool (decide (a0_1 ≤ a0_2))) (by kernel_rfl) (fun w _ => by kernel_rfl) ?_
                          refine LL.op (.bool (decide (a0_1 ≤ a0_2))) (by kernel_rfl) (fun w _ => by kernel_rfl) ?_
                          refine LL.bool 109 (decide (a0_1 ≤ a0_2)) true c310 (by kernel_rfl) ?_
                          refine LL.op (.agg #[.string (⟨#[]⟩ : ByteArray), .string (⟨#[]⟩ : ByteArray), .string (⟨#[]⟩ : ByteArray), .int .i64 0, .int .i64 (IntKind.i64.wrap (0 - x314_1)), .int .i64 0, .int .i64 0, .int .i64 x314_2, .int .i64 0, .int .i64 1000, .int .i64 0, .slice none 0 0, .int .i64 0, .int .i64 a2, .int .i64 a2, .int .i64 0, .bool false, .int .i64 0]) (by kernel_rfl) (ld 0 g307 0 rfl (by kernel_rfl) rfl (by kernel_rfl)) ?_
                          refine LL.op (.agg #[.string a0_0, .int .i64 a0_1, .int .i64 a0_2, .int .i64 (IntKind.i64.wrap (x304 - 1)), .int .i64 a0_4, .slice Aa0_5 na0_5 ca0_5, .slice Aa0_6 na0_6 ca0_6]) (by kernel_rfl) (ld 2 g290 0 rfl (by kernel_rfl) rfl (by kernel_rfl)) ?_
                          refine LL.op (.agg #[.string a1_0, .int .i64 a1_1, .int .i64 a1_2, .int .i64 a1_3, .int .i64 a1_4, .int .i64 a1_5, .int .i64 a1_6, .int .i64 a1_7, .int .i64 a1_8, .int .i64 a1_9, .int .i64 a1_10, .int .i64 a1_11, .int .i64 a1_12]) (by kernel_rfl) (ld 1 g291 0 rfl (by kernel_rfl) rfl (by kernel_rfl)) ?_
                          obtain ⟨x315, hx315, H⟩ := bind_some H
                          refine LL.call 11 #[.agg #[.string (⟨#[]⟩ : ByteArray), .string (⟨#[]⟩ : ByteArray), .string (⟨#[]⟩ : ByteArray), .int .i64 0, .int .i64 (IntKind.i64.wrap (0 - x314_1)), .int .i64 0, .int .i64 0, .int .i64 x314_2, .int .i64 0, .int .i64 1000, .int .i64 0, .slice none 0 0, .int .i64 0, .int .i64 a2, .int .i64 a2, .int .i64 0, .bool false, .int .i64 0], .agg #[.string a0_0, .int .i64 a0_1, .int .i64 a0_2, .int .i64 (IntKind.i64.wrap (x304 - 1)), .int .i64 a0_4, .slice Aa0_5 na0_5 ca0_5, .slice Aa0_6 na0_6 ca0_6], .agg #[.string a1_0, .int .i64 a1_1, .int .i64 a1_2, .int .i64 a1_3, .int .i64 a1_4, .int .i64 a1_5, .int .i64 a1_6, .int .i64 a1_7, .int .i64 a1_8, .int .i64 a1_9, .int .i64 a1_10, .int .i64 a1_11, .int .i64 a1_12]] (.bool x315) (by kernel_rfl) (fun w => by kernel_rfl) (fun w hw => sizing_Under.calls (⟨#[]⟩ : ByteArray) (⟨#[]⟩ : ByteArray) (⟨#[]⟩ : ByteArray) 0 (IntKind.i64.wrap (0 - x314_1)) 0 0 x314_2 0 1000 0 0 a2 a2 0 false 0 a0_0 a0_1 a0_2 (IntKind.i64.wrap (x304 - 1)) a0_4 a1_0 a1_1 a1_2 a1_3 a1_4 a1_5 a1_6 a1_7 a1_8 a1_9 a1_10 a1_11 a1_12  _ _ _ _ _ _ _ _ _ _ w   hx315) ?_
                          refine LL.op (.bool (!x315)) (by kernel_rfl) (fun w _ => by kernel_rfl) ?_
                          refine LL.op (.bool (!x315)) (by kernel_rfl) (fun w _ => by kernel_rfl) ?_
                          refine LL.done (s' := [(6, .bool false), (115, .bool (!x315))]) [6, 115] (by kernel_rfl) ?_
                          refine NN.then ?_
                          rcases Bool.eq_false_or_eq_true (x315) with c316 | c316
                          · rw [if_pos (c316)] at H
                            refine J.condF (b := !x315) (by rw [show (!x315) = !(x315) from rfl, c316]; rfl) (by kernel_rfl) (by kernel_rfl) ?_
                            refine J.skip ?_
                            refine NN.then ?_
                            refine J.seq ?_
                            refine J.plain ?_
                            obtain ⟨x317, hx317, H⟩ := bind_some H
                            refine LL.call 15 #[] (.bool x317) (by kernel_rfl) (fun w => by kernel_rfl) (fun w hw => sawmilllaw39_awake.calls K    _ w   hx317) ?_
                            refine LL.op (.bool x317) (by kernel_rfl) (fun w _ => by kernel_rfl) ?_
                            refine LL.done (s' := [(6, .bool x317)]) [6] (by kernel_rfl) ?_
                            refine NN.then ?_
                            refine J.ret ?_
                            refine NN.fin1 6 (.bool x317) (by kernel_rfl) (by kernel_rfl) (.inl rfl) (fun w hi => hi.ret ?_)
                            first | (cases H; rfl) | (obtain rfl := Option.some.inj H; rfl) | (simp only [Option.some.injEq, Prod.mk.injEq] at H; obtain ⟨rfl⟩ := H; rfl)
                          · rw [if_neg (nebt c316)] at H
                            refine J.condT (b := !x315) (by rw [show (!x315) = !(x315) from rfl, c316]; rfl) (by kernel_rfl) (by kernel_rfl) ?_
                            refine J.seq ?_
                            refine J.plain ?_
                            refine LL.op (.bool false) (by kernel_rfl) (fun w _ => by kernel_rfl) ?_
                            refine LL.done (s' := [(6, .bool false)]) [6] (by kernel_rfl) ?_
                            refine NN.then ?_
                            refine J.ret ?_
                            refine NN.then_ret ?_
                            refine NN.fin1 6 (.bool false) (by kernel_rfl) (by kernel_rfl) (.inl rfl) (fun w hi => hi.ret ?_)
                            first | (cases H; rfl) | (obtain rfl := Option.some.inj H; rfl) | (simp only [Option.some.injEq, Prod.mk.injEq] at H; obtain ⟨rfl⟩ := H; rfl)
                        · rw [if_neg (of_decide_eq_false c313)] at H
                          refine J.condF (b := decide (0 < x304)) c313 (by kernel_rfl) (by kernel_rfl) ?_
                          refine J.skip ?_
                          refine NN.then ?_
                          refine J.seq ?_
                          refine J.plain ?_
                          obtain ⟨x318, hx318, H⟩ := bind_some H
                          refine LL.call 15 #[] (.bool x318) (by kernel_rfl) (fun w => by kernel_rfl) (fun w hw => sawmilllaw39_awake.calls K    _ w   hx318) ?_
                          refine LL.op (.bool x318) (by kernel_rfl) (fun w _ => by kernel_rfl) ?_
                          refine LL.done (s' := [(6, .bool x318)]) [6] (by kernel_rfl) ?_
                          refine NN.then ?_
                          refine J.ret ?_
                          refine NN.fin1 6 (.bool x318) (by kernel_rfl) (by kernel_rfl) (.inl rfl) (fun w hi => hi.ret ?_)
                          first | (cases H; rfl) | (obtain rfl := Option.some.inj H; rfl) | (simp only [Option.some.injEq, Prod.mk.injEq] at H; obtain ⟨rfl⟩ := H; rfl)
                    · rw [if_neg (of_decide_eq_false c310)] at H
                      refine LL.bool 79 (decide (a0_1 ≤ a0_2)) false c310 (by kernel_rfl) ?_
                      refine LL.off (by kernel_rfl) (by kernel_rfl) ?_
                      refine LL.off (by kernel_rfl) (by kernel_rfl) ?_
                      refine LL.off (by kernel_rfl) (by kernel_rfl) ?_
                      refine LL.off (by kernel_rfl) (by kernel_rfl) ?_
                      refine LL.op (.bool false) (by kernel_rfl) (fun w _ => by kernel_rfl) ?_
                      refine LL.done (s' := [(3, .pointer (some ⟨g290, 0, none⟩)), (4, .pointer (some ⟨g291, 0, none⟩)), (6, .bool false), (7, .int .i64 x304), (8, .pointer (some ⟨g307, 0, none⟩)), (84, .bool false)]) [3, 4, 6, 7, 8, 84] (by kernel_rfl) ?_
                      refine NN.then ?_
                      refine J.condF (b := false) rfl (by kernel_rfl) (by kernel_rfl) ?_
                      refine J.skip ?_
                      refine NN.then ?_
                      refine J.seq ?_
                      refine J.seq ?_
                      refine J.plain ?_
                      refine LL.op (.int .i64 x304) (by kernel_rfl) (fun w _ => by kernel_rfl) ?_
                      refine LL.op (.bool (decide (0 < x304))) (by kernel_rfl) (fun w _ => by kernel_rfl) ?_
                      refine LL.done (s' := [(3, .pointer (some ⟨g290, 0, none⟩)), (4, .pointer (some ⟨g291, 0, none⟩)), (6, .bool false), (7, .int .i64 x304), (8, .pointer (some ⟨g307, 0, none⟩)), (86, .bool (decide (0 < x304)))]) [3, 4, 6, 7, 8, 86] (by kernel_rfl) ?_
                      refine NN.then ?_
                      rcases Bool.eq_false_or_eq_true (decide (0 < x304)) with c319 | c319
                      · rw [if_pos (of_decide_eq_true c319)] at H
                        refine J.condT (b := decide (0 < x304)) c319 (by kernel_rfl) (by kernel_rfl) ?_
                        refine J.seq ?_
                        refine J.plain ?_
                        refine LL.op (.int .i64 x304) (by kernel_rfl) (fun w _ => by kernel_rfl) ?_
                        refine LL.op (.int .i64 (IntKind.i64.wrap (x304 - 1))) (by kernel_rfl) (fun w _ => by kernel_rfl) ?_
                        refine LL.op (.pointer (some ⟨g290, 3, none⟩)) (by kernel_rfl) (fun w _ => by kernel_rfl) ?_
                        refine LL.store 2 g290 3 3 (.tmp 89) (.tmp 88) [.string a0_0, .int .i64 a0_1, .int .i64 a0_2, .int .i64 (IntKind.i64.wrap (x304 - 1)), .int .i64 a0_4, .slice Aa0_5 na0_5 ca0_5, .slice Aa0_6 na0_6 ca0_6] (bs' := [(g307, cl [.string (⟨#[]⟩ : ByteArray), .string (⟨#[]⟩ : ByteArray), .string (⟨#[]⟩ : ByteArray), .int .i64 0, .int .i64 (IntKind.i64.wrap (0 - x309_1)), .int .i64 0, .int .i64 0, .int .i64 x309_2, .int .i64 0, .int .i64 1000, .int .i64 0, .slice none 0 0, .int .i64 0, .int .i64 a2, .int .i64 a2, .int .i64 0, .bool false, .int .i64 0] 30), (g291, cl [.string a1_0, .int .i64 a1_1, .int .i64 a1_2, .int .i64 a1_3, .int .i64 a1_4, .int .i64 a1_5, .int .i64 a1_6, .int .i64 a1_7, .int .i64 a1_8, .int .i64 a1_9, .int .i64 a1_10, .int .i64 a1_11, .int .i64 a1_12] 35), (g290, cl [.string a0_0, .int .i64 a0_1, .int .i64 a0_2, .int .i64 (IntKind.i64.wrap (x304 - 1)), .int .i64 a0_4, .slice Aa0_5 na0_5 ca0_5, .slice Aa0_6 na0_6 ca0_6] 33)]) rfl (by kernel_rfl) rfl (by kernel_rfl) rfl (by kernel_rfl) ?_
                        refine LL.done (s' := [(3, .pointer (some ⟨g290, 0, none⟩)), (4, .pointer (some ⟨g291, 0, none⟩)), (6, .bool false), (8, .pointer (some ⟨g307, 0, none⟩))]) [3, 4, 6, 8] (by kernel_rfl) ?_
                        refine NN.then ?_
                        refine J.seq ?_
                        refine J.plain ?_
                        refine LL.op (.agg #[.string a0_0, .int .i64 a0_1, .int .i64 a0_2, .int .i64 (IntKind.i64.wrap (x304 - 1)), .int .i64 a0_4, .slice Aa0_5 na0_5 ca0_5, .slice Aa0_6 na0_6 ca0_6]) (by kernel_rfl) (ld 2 g290 0 rfl (by kernel_rfl) rfl (by kernel_rfl)) ?_
                        obtain ⟨⟨x320_1, x320_2⟩, hx320, H⟩ := bind_some H
                        (try dsimp only at H)
                        refine LL.call 20 #[.agg #[.string a0_0, .int .i64 a0_1, .int .i64 a0_2, .int .i64 (IntKind.i64.wrap (x304 - 1)), .int .i64 a0_4, .slice Aa0_5 na0_5 ca0_5, .slice Aa0_6 na0_6 ca0_6]] (.tuple #[.int .i64 x320_1, .int .i64 x320_2]) (by kernel_rfl) (fun w => by kernel_rfl) (fun w hw => product_Green.calls a0_0 a0_1 a0_2 (IntKind.i64.wrap (x304 - 1)) a0_4  _ _ _ _ _ _ _ _ w   hx320) ?_
                        refine LL.op (.tuple #[.int .i64 x320_1, .int .i64 x320_2]) (by kernel_rfl) (fun w _ => by kernel_rfl) ?_
                        refine LL.op (.int .i64 x320_1) (by kernel_rfl) (fun w _ => by kernel_rfl) ?_
                        refine LL.op (.int .i64 x320_2) (by kernel_rfl) (fun w _ => by kernel_rfl) ?_
                        refine LL.op (.int .i64 x320_1) (by kernel_rfl) (fun w _ => by kernel_rfl) ?_
                        refine LL.op (.int .i64 x320_2) (by kernel_rfl) (fun w _ => by kernel_rfl) ?_
                        refine LL.done (s' := [(3, .pointer (some ⟨g290, 0, none⟩)), (4, .pointer (some ⟨g291, 0, none⟩)), (6, .bool false), (8, .pointer (some ⟨g307, 0, none⟩)), (11, .int .i64 x320_1), (12, .int .i64 x320_2)]) [3, 4, 6, 8, 11, 12] (by kernel_rfl) ?_
                        refine NN.then ?_
                        refine J.seq ?_
                        refine J.plain ?_
                        refine LL.op (.int .i64 x320_1) (by kernel_rfl) (fun w _ => by kernel_rfl) ?_
                        refine LL.op (.int .i64 (IntKind.i64.wrap (0 - x320_1))) (by kernel_rfl) (fun w _ => by kernel_rfl) ?_
                        refine LL.op (.agg #[.int .i64 (IntKind.i64.wrap (0 - x320_1)), .int .i64 0]) (by kernel_rfl) (fun w _ => by kernel_rfl) ?_
                        refine LL.op (.pointer (some ⟨g307, 4, none⟩)) (by kernel_rfl) (fun w _ => by kernel_rfl) ?_
                        refine LL.op (.pointer (some ⟨g307, 4, none⟩)) (by kernel_rfl) (fun w _ => by kernel_rfl) ?_
                        refine LL.store 0 g307 4 23 (.tmp 99) (.tmp 97) [.string (⟨#[]⟩ : ByteArray), .string (⟨#[]⟩ : ByteArray), .string (⟨#[]⟩ : ByteArray), .int .i64 0, .int .i64 (IntKind.i64.wrap (0 - x320_1)), .int .i64 0, .int .i64 0, .int .i64 x309_2, .int .i64 0, .int .i64 1000, .int .i64 0, .slice none 0 0, .int .i64 0, .int .i64 a2, .int .i64 a2, .int .i64 0, .bool false, .int .i64 0] (bs' := [(g307, cl [.string (⟨#[]⟩ : ByteArray), .string (⟨#[]⟩ : ByteArray), .string (⟨#[]⟩ : ByteArray), .int .i64 0, .int .i64 (IntKind.i64.wrap (0 - x320_1)), .int .i64 0, .int .i64 0, .int .i64 x309_2, .int .i64 0, .int .i64 1000, .int .i64 0, .slice none 0 0, .int .i64 0, .int .i64 a2, .int .i64 a2, .int .i64 0, .bool false, .int .i64 0] 30), (g291, cl [.string a1_0, .int .i64 a1_1, .int .i64 a1_2, .int .i64 a1_3, .int .i64 a1_4, .int .i64 a1_5, .int .i64 a1_6, .int .i64 a1_7, .int .i64 a1_8, .int .i64 a1_9, .int .i64 a1_10, .int .i64 a1_11, .int .i64 a1_12] 35), (g290, cl [.string a0_0, .int .i64 a0_1, .int .i64 a0_2, .int .i64 (IntKind.i64.wrap (x304 - 1)), .int .i64 a0_4, .slice Aa0_5 na0_5 ca0_5, .slice Aa0_6 na0_6 ca0_6] 33)]) rfl (by kernel_rfl) rfl (by kernel_rfl) rfl (by kernel_rfl) ?_
                        refine LL.done (s' := [(3, .pointer (some ⟨g290, 0, none⟩)), (4, .pointer (some ⟨g291, 0, none⟩)), (6, .bool false), (8, .pointer (some ⟨g307, 0, none⟩)), (12, .int .i64 x320_2)]) [3, 4, 6, 8, 12] (by kernel_rfl) ?_
                        refine NN.then ?_
                        refine J.seq ?_
                        refine J.plain ?_
                        refine LL.op (.int .i64 x320_2) (by kernel_rfl) (fun w _ => by kernel_rfl) ?_
                        refine LL.op (.agg #[.int .i64 0, .int .i64 x320_2]) (by kernel_rfl) (fun w _ => by kernel_rfl) ?_
                        refine LL.op (.pointer (some ⟨g307, 4, none⟩)) (by kernel_rfl) (fun w _ => by kernel_rfl) ?_
                        refine LL.op (.pointer (some ⟨g307, 6, none⟩)) (by kernel_rfl) (fun w _ => by kernel_rfl) ?_
                        refine LL.store 0 g307 6 23 (.tmp 103) (.tmp 101) [.string (⟨#[]⟩ : ByteArray), .string (⟨#[]⟩ : ByteArray), .string (⟨#[]⟩ : ByteArray), .int .i64 0, .int .i64 (IntKind.i64.wrap (0 - x320_1)), .int .i64 0, .int .i64 0, .int .i64 x320_2, .int .i64 0, .int .i64 1000, .int .i64 0, .slice none 0 0, .int .i64 0, .int .i64 a2, .int .i64 a2, .int .i64 0, .bool false, .int .i64 0] (bs' := [(g307, cl [.string (⟨#[]⟩ : ByteArray), .string (⟨#[]⟩ : ByteArray), .string (⟨#[]⟩ : ByteArray), .int .i64 0, .int .i64 (IntKind.i64.wrap (0 - x320_1)), .int .i64 0, .int .i64 0, .int .i64 x320_2, .int .i64 0, .int .i64 1000, .int .i64 0, .slice none 0 0, .int .i64 0, .int .i64 a2, .int .i64 a2, .int .i64 0, .bool false, .int .i64 0] 30), (g291, cl [.string a1_0, .int .i64 a1_1, .int .i64 a1_2, .int .i64 a1_3, .int .i64 a1_4, .int .i64 a1_5, .int .i64 a1_6, .int .i64 a1_7, .int .i64 a1_8, .int .i64 a1_9, .int .i64 a1_10, .int .i64 a1_11, .int .i64 a1_12] 35), (g290, cl [.string a0_0, .int .i64 a0_1, .int .i64 a0_2, .int .i64 (IntKind.i64.wrap (x304 - 1)), .int .i64 a0_4, .slice Aa0_5 na0_5 ca0_5, .slice Aa0_6 na0_6 ca0_6] 33)]) rfl (by kernel_rfl) rfl (by kernel_rfl) rfl (by kernel_rfl) ?_
                        refine LL.done (s' := [(3, .pointer (some ⟨g290, 0, none⟩)), (4, .pointer (some ⟨g291, 0, none⟩)), (6, .bool false), (8, .pointer (some ⟨g307, 0, none⟩))]) [3, 4, 6, 8] (by kernel_rfl) ?_
                        refine NN.then ?_
                        refine J.seq ?_
                        refine J.plain ?_
                        refine LL.op (.pointer (some ⟨g290, 1, none⟩)) (by kernel_rfl) (fun w _ => by kernel_rfl) ?_
                        refine LL.op (.int .i64 a0_1) (by kernel_rfl) (ld 2 g290 1 rfl (by kernel_rfl) rfl (by kernel_rfl)) ?_
                        refine LL.op (.pointer (some ⟨g290, 2, none⟩)) (by kernel_rfl) (fun w _ => by kernel_rfl) ?_
                        refine LL.op (.int .i64 a0_2) (by kernel_rfl) (ld 2 g290 2 rfl (by kernel_rfl) rfl (by kernel_rfl)) ?_
                        refine LL.op (.bool (decide (a0_1 ≤ a0_2))) (by kernel_rfl) (fun w _ => by kernel_rfl) ?_
                        refine LL.op (.bool (decide (a0_1 ≤ a0_2))) (by kernel_rfl) (fun w _ => by kernel_rfl) ?_
                        refine LL.bool 109 (decide (a0_1 ≤ a0_2)) false c310 (by kernel_rfl) ?_
                        refine LL.off (by kernel_rfl) (by kernel_rfl) ?_
                        refine LL.off (by kernel_rfl) (by kernel_rfl) ?_
                        refine LL.off (by kernel_rfl) (by kernel_rfl) ?_
                        refine LL.off (by kernel_rfl) (by kernel_rfl) ?_
                        refine LL.off (by kernel_rfl) (by kernel_rfl) ?_
                        refine LL.op (.bool false) (by kernel_rfl) (fun w _ => by kernel_rfl) ?_
                        refine LL.done (s' := [(6, .bool false), (115, .bool false)]) [6, 115] (by kernel_rfl) ?_
                        refine NN.then ?_
                        refine J.condF (b := false) rfl (by kernel_rfl) (by kernel_rfl) ?_
                        refine J.skip ?_
                        refine NN.then ?_
                        refine J.seq ?_
                        refine J.plain ?_
                        obtain ⟨x321, hx321, H⟩ := bind_some H
                        refine LL.call 15 #[] (.bool x321) (by kernel_rfl) (fun w => by kernel_rfl) (fun w hw => sawmilllaw39_awake.calls K    _ w   hx321) ?_
                        refine LL.op (.bool x321) (by kernel_rfl) (fun w _ => by kernel_rfl) ?_
                        refine LL.done (s' := [(6, .bool x321)]) [6] (by kernel_rfl) ?_
                        refine NN.then ?_
                        refine J.ret ?_
                        refine NN.fin1 6 (.bool x321) (by kernel_rfl) (by kernel_rfl) (.inl rfl) (fun w hi => hi.ret ?_)
                        first | (cases H; rfl) | (obtain rfl := Option.some.inj H; rfl) | (simp only [Option.some.injEq, Prod.mk.injEq] at H; obtain ⟨rfl⟩ := H; rfl)
                      · rw [if_neg (of_decide_eq_false c319)] at H
                        refine J.condF (b := decide (0 < x304)) c319 (by kernel_rfl) (by kernel_rfl) ?_
                        refine J.skip ?_
                        refine NN.then ?_
                        refine J.seq ?_
                        refine J.plain ?_
                        obtain ⟨x322, hx322, H⟩ := bind_some H
                        refine LL.call 15 #[] (.bool x322) (by kernel_rfl) (fun w => by kernel_rfl) (fun w hw => sawmilllaw39_awake.calls K    _ w   hx322) ?_
                        refine LL.op (.bool x322) (by kernel_rfl) (fun w _ => by kernel_rfl) ?_
                        refine LL.done (s' := [(6, .bool x322)]) [6] (by kernel_rfl) ?_
                        refine NN.then ?_
                        refine J.ret ?_
                        refine NN.fin1 6 (.bool x322) (by kernel_rfl) (by kernel_rfl) (.inl rfl) (fun w hi => hi.ret ?_)
                        first | (cases H; rfl) | (obtain rfl := Option.some.inj H; rfl) | (simp only [Option.some.injEq, Prod.mk.injEq] at H; obtain ⟨rfl⟩ := H; rfl)
                  · rw [if_neg (of_decide_eq_false c308)] at H
                    refine J.condF (b := decide (x304 ≤ 200)) c308 (by kernel_rfl) (by kernel_rfl) ?_
                    refine J.skip ?_
                    refine NN.then ?_
                    refine J.seq ?_
                    refine J.seq ?_
                    refine J.plain ?_
                    refine LL.op (.int .i64 x304) (by kernel_rfl) (fun w _ => by kernel_rfl) ?_
                    refine LL.op (.bool (decide (0 < x304))) (by kernel_rfl) (fun w _ => by kernel_rfl) ?_
                    refine LL.done (s' := [(3, .pointer (some ⟨g290, 0, none⟩)), (4, .pointer (some ⟨g291, 0, none⟩)), (6, .bool false), (7, .int .i64 x304), (8, .pointer (some ⟨g307, 0, none⟩)), (86, .bool (decide (0 < x304)))]) [3, 4, 6, 7, 8, 86] (by kernel_rfl) ?_
                    refine NN.then ?_
                    rcases Bool.eq_false_or_eq_true (decide (0 < x304)) with c323 | c323
                    · rw [if_pos (of_decide_eq_true c323)] at H
                      refine J.condT (b := decide (0 < x304)) c323 (by kernel_rfl) (by kernel_rfl) ?_
                      refine J.seq ?_
                      refine J.plain ?_
                      refine LL.op (.int .i64 x304) (by kernel_rfl) (fun w _ => by kernel_rfl) ?_
                      refine LL.op (.int .i64 (IntKind.i64.wrap (x304 - 1))) (by kernel_rfl) (fun w _ => by kernel_rfl) ?_
                      refine LL.op (.pointer (some ⟨g290, 3, none⟩)) (by kernel_rfl) (fun w _ => by kernel_rfl) ?_
                      refine LL.store 2 g290 3 3 (.tmp 89) (.tmp 88) [.string a0_0, .int .i64 a0_1, .int .i64 a0_2, .int .i64 (IntKind.i64.wrap (x304 - 1)), .int .i64 a0_4, .slice Aa0_5 na0_5 ca0_5, .slice Aa0_6 na0_6 ca0_6] (bs' := [(g307, cl [.string (⟨#[]⟩ : ByteArray), .string (⟨#[]⟩ : ByteArray), .string (⟨#[]⟩ : ByteArray), .int .i64 0, .int .i64 0, .int .i64 0, .int .i64 0, .int .i64 0, .int .i64 0, .int .i64 1000, .int .i64 0, .slice none 0 0, .int .i64 0, .int .i64 a2, .int .i64 a2, .int .i64 0, .bool false, .int .i64 0] 30), (g291, cl [.string a1_0, .int .i64 a1_1, .int .i64 a1_2, .int .i64 a1_3, .int .i64 a1_4, .int .i64 a1_5, .int .i64 a1_6, .int .i64 a1_7, .int .i64 a1_8, .int .i64 a1_9, .int .i64 a1_10, .int .i64 a1_11, .int .i64 a1_12] 35), (g290, cl [.string a0_0, .int .i64 a0_1, .int .i64 a0_2, .int .i64 (IntKind.i64.wrap (x304 - 1)), .int .i64 a0_4, .slice Aa0_5 na0_5 ca0_5, .slice Aa0_6 na0_6 ca0_6] 33)]) rfl (by kernel_rfl) rfl (by kernel_rfl) rfl (by kernel_rfl) ?_
                      refine LL.done (s' := [(3, .pointer (some ⟨g290, 0, none⟩)), (4, .pointer (some ⟨g291, 0, none⟩)), (6, .bool false), (8, .pointer (some ⟨g307, 0, none⟩))]) [3, 4, 6, 8] (by kernel_rfl) ?_
                      refine NN.then ?_
                      refine J.seq ?_
                      refine J.plain ?_
                      refine LL.op (.agg #[.string a0_0, .int .i64 a0_1, .int .i64 a0_2, .int .i64 (IntKind.i64.wrap (x304 - 1)), .int .i64 a0_4, .slice Aa0_5 na0_5 ca0_5, .slice Aa0_6 na0_6 ca0_6]) (by kernel_rfl) (ld 2 g290 0 rfl (by kernel_rfl) rfl (by kernel_rfl)) ?_
                      obtain ⟨⟨x324_1, x324_2⟩, hx324, H⟩ := bind_some H
                      (try dsimp only at H)
                      refine LL.call 20 #[.agg #[.string a0_0, .int .i64 a0_1, .int .i64 a0_2, .int .i64 (IntKind.i64.wrap (x304 - 1)), .int .i64 a0_4, .slice Aa0_5 na0_5 ca0_5, .slice Aa0_6 na0_6 ca0_6]] (.tuple #[.int .i64 x324_1, .int .i64 x324_2]) (by kernel_rfl) (fun w => by kernel_rfl) (fun w hw => product_Green.calls a0_0 a0_1 a0_2 (IntKind.i64.wrap (x304 - 1)) a0_4  _ _ _ _ _ _ _ _ w   hx324) ?_
                      refine LL.op (.tuple #[.int .i64 x324_1, .int .i64 x324_2]) (by kernel_rfl) (fun w _ => by kernel_rfl) ?_
                      refine LL.op (.int .i64 x324_1) (by kernel_rfl) (fun w _ => by kernel_rfl) ?_
                      refine LL.op (.int .i64 x324_2) (by kernel_rfl) (fun w _ => by kernel_rfl) ?_
                      refine LL.op (.int .i64 x324_1) (by kernel_rfl) (fun w _ => by kernel_rfl) ?_
                      refine LL.op (.int .i64 x324_2) (by kernel_rfl) (fun w _ => by kernel_rfl) ?_
                      refine LL.done (s' := [(3, .pointer (some ⟨g290, 0, none⟩)), (4, .pointer (some ⟨g291, 0, none⟩)), (6, .bool false), (8, .pointer (some ⟨g307, 0, none⟩)), (11, .int .i64 x324_1), (12, .int .i64 x324_2)]) [3, 4, 6, 8, 11, 12] (by kernel_rfl) ?_
                      refine NN.then ?_
                      refine J.seq ?_
                      refine J.plain ?_
                      refine LL.op (.int .i64 x324_1) (by kernel_rfl) (fun w _ => by kernel_rfl) ?_
                      refine LL.op (.int .i64 (IntKind.i64.wrap (0 - x324_1))) (by kernel_rfl) (fun w _ => by kernel_rfl) ?_
                      refine LL.op (.agg #[.int .i64 (IntKind.i64.wrap (0 - x324_1)), .int .i64 0]) (by kernel_rfl) (fun w _ => by kernel_rfl) ?_
                      refine LL.op (.pointer (some ⟨g307, 4, none⟩)) (by kernel_rfl) (fun w _ => by kernel_rfl) ?_
                      refine LL.op (.pointer (some ⟨g307, 4, none⟩)) (by kernel_rfl) (fun w _ => by kernel_rfl) ?_
                      refine LL.store 0 g307 4 23 (.tmp 99) (.tmp 97) [.string (⟨#[]⟩ : ByteArray), .string (⟨#[]⟩ : ByteArray), .string (⟨#[]⟩ : ByteArray), .int .i64 0, .int .i64 (IntKind.i64.wrap (0 - x324_1)), .int .i64 0, .int .i64 0, .int .i64 0, .int .i64 0, .int .i64 1000, .int .i64 0, .slice none 0 0, .int .i64 0, .int .i64 a2, .int .i64 a2, .int .i64 0, .bool false, .int .i64 0] (bs' := [(g307, cl [.string (⟨#[]⟩ : ByteArray), .string (⟨#[]⟩ : ByteArray), .string (⟨#[]⟩ : ByteArray), .int .i64 0, .int .i64 (IntKind.i64.wrap (0 - x324_1)), .int .i64 0, .int .i64 0, .int .i64 0, .int .i64 0, .int .i64 1000, .int .i64 0, .slice none 0 0, .int .i64 0, .int .i64 a2, .int .i64 a2, .int .i64 0, .bool false, .int .i64 0] 30), (g291, cl [.string a1_0, .int .i64 a1_1, .int .i64 a1_2, .int .i64 a1_3, .int .i64 a1_4, .int .i64 a1_5, .int .i64 a1_6, .int .i64 a1_7, .int .i64 a1_8, .int .i64 a1_9, .int .i64 a1_10, .int .i64 a1_11, .int .i64 a1_12] 35), (g290, cl [.string a0_0, .int .i64 a0_1, .int .i64 a0_2, .int .i64 (IntKind.i64.wrap (x304 - 1)), .int .i64 a0_4, .slice Aa0_5 na0_5 ca0_5, .slice Aa0_6 na0_6 ca0_6] 33)]) rfl (by kernel_rfl) rfl (by kernel_rfl) rfl (by kernel_rfl) ?_
                      refine LL.done (s' := [(3, .pointer (some ⟨g290, 0, none⟩)), (4, .pointer (some ⟨g291, 0, none⟩)), (6, .bool false), (8, .pointer (some ⟨g307, 0, none⟩)), (12, .int .i64 x324_2)]) [3, 4, 6, 8, 12] (by kernel_rfl) ?_
                      refine NN.then ?_
                      refine J.seq ?_
                      refine J.plain ?_
                      refine LL.op (.int .i64 x324_2) (by kernel_rfl) (fun w _ => by kernel_rfl) ?_
                      refine LL.op (.agg #[.int .i64 0, .int .i64 x324_2]) (by kernel_rfl) (fun w _ => by kernel_rfl) ?_
                      refine LL.op (.pointer (some ⟨g307, 4, none⟩)) (by kernel_rfl) (fun w _ => by kernel_rfl) ?_
                      refine LL.op (.pointer (some ⟨g307, 6, none⟩)) (by kernel_rfl) (fun w _ => by kernel_rfl) ?_
                      refine LL.store 0 g307 6 23 (.tmp 103) (.tmp 101) [.string (⟨#[]⟩ : ByteArray), .string (⟨#[]⟩ : ByteArray), .string (⟨#[]⟩ : ByteArray), .int .i64 0, .int .i64 (IntKind.i64.wrap (0 - x324_1)), .int .i64 0, .int .i64 0, .int .i64 x324_2, .int .i64 0, .int .i64 1000, .int .i64 0, .slice none 0 0, .int .i64 0, .int .i64 a2, .int .i64 a2, .int .i64 0, .bool false, .int .i64 0] (bs' := [(g307, cl [.string (⟨#[]⟩ : ByteArray), .string (⟨#[]⟩ : ByteArray), .string (⟨#[]⟩ : ByteArray), .int .i64 0, .int .i64 (IntKind.i64.wrap (0 - x324_1)), .int .i64 0, .int .i64 0, .int .i64 x324_2, .int .i64 0, .int .i64 1000, .int .i64 0, .slice none 0 0, .int .i64 0, .int .i64 a2, .int .i64 a2, .int .i64 0, .bool false, .int .i64 0] 30), (g291, cl [.string a1_0, .int .i64 a1_1, .int .i64 a1_2, .int .i64 a1_3, .int .i64 a1_4, .int .i64 a1_5, .int .i64 a1_6, .int .i64 a1_7, .int .i64 a1_8, .int .i64 a1_9, .int .i64 a1_10, .int .i64 a1_11, .int .i64 a1_12] 35), (g290, cl [.string a0_0, .int .i64 a0_1, .int .i64 a0_2, .int .i64 (IntKind.i64.wrap (x304 - 1)), .int .i64 a0_4, .slice Aa0_5 na0_5 ca0_5, .slice Aa0_6 na0_6 ca0_6] 33)]) rfl (by kernel_rfl) rfl (by kernel_rfl) rfl (by kernel_rfl) ?_
                      refine LL.done (s' := [(3, .pointer (some ⟨g290, 0, none⟩)), (4, .pointer (some ⟨g291, 0, none⟩)), (6, .bool false), (8, .pointer (some ⟨g307, 0, none⟩))]) [3, 4, 6, 8] (by kernel_rfl) ?_
                      refine NN.then ?_
                      refine J.seq ?_
                      refine J.plain ?_
                      refine LL.op (.pointer (some ⟨g290, 1, none⟩)) (by kernel_rfl) (fun w _ => by kernel_rfl) ?_
                      refine LL.op (.int .i64 a0_1) (by kernel_rfl) (ld 2 g290 1 rfl (by kernel_rfl) rfl (by kernel_rfl)) ?_
                      refine LL.op (.pointer (some ⟨g290, 2, none⟩)) (by kernel_rfl) (fun w _ => by kernel_rfl) ?_
                      refine LL.op (.int .i64 a0_2) (by kernel_rfl) (ld 2 g290 2 rfl (by kernel_rfl) rfl (by kernel_rfl)) ?_
                      refine LL.op (.bool (decide (a0_1 ≤ a0_2))) (by kernel_rfl) (fun w _ => by kernel_rfl) ?_
                      refine LL.op (.bool (decide (a0_1 ≤ a0_2))) (by kernel_rfl) (fun w _ => by kernel_rfl) ?_
                      rcases Bool.eq_false_or_eq_true (decide (a0_1 ≤ a0_2)) with c325 | c325
                      · rw [if_pos (of_decide_eq_true c325)] at H
                        refine LL.bool 109 (decide (a0_1 ≤ a0_2)) true c325 (by kernel_rfl) ?_
                        refine LL.op (.agg #[.string (⟨#[]⟩ : ByteArray), .string (⟨#[]⟩ : ByteArray), .string (⟨#[]⟩ : ByteArray), .int .i64 0, .int .i64 (IntKind.i64.wrap (0 - x324_1)), .int .i64 0, .int .i64 0, .int .i64 x324_2, .int .i64 0, .int .i64 1000, .int .i64 0, .slice none 0 0, .int .i64 0, .int .i64 a2, .int .i64 a2, .int .i64 0, .bool false, .int .i64 0]) (by kernel_rfl) (ld 0 g307 0 rfl (by kernel_rfl) rfl (by kernel_rfl)) ?_
                        refine LL.op (.agg #[.string a0_0, .int .i64 a0_1, .int .i64 a0_2, .int .i64 (IntKind.i64.wrap (x304 - 1)), .int .i64 a0_4, .slice Aa0_5 na0_5 ca0_5, .slice Aa0_6 na0_6 ca0_6]) (by kernel_rfl) (ld 2 g290 0 rfl (by kernel_rfl) rfl (by kernel_rfl)) ?_
                        refine LL.op (.agg #[.string a1_0, .int .i64 a1_1, .int .i64 a1_2, .int .i64 a1_3, .int .i64 a1_4, .int .i64 a1_5, .int .i64 a1_6, .int .i64 a1_7, .int .i64 a1_8, .int .i64 a1_9, .int .i64 a1_10, .int .i64 a1_11, .int .i64 a1_12]) (by kernel_rfl) (ld 1 g291 0 rfl (by kernel_rfl) rfl (by kernel_rfl)) ?_
                        obtain ⟨x326, hx326, H⟩ := bind_some H
                        refine LL.call 11 #[.agg #[.string (⟨#[]⟩ : ByteArray), .string (⟨#[]⟩ : ByteArray), .string (⟨#[]⟩ : ByteArray), .int .i64 0, .int .i64 (IntKind.i64.wrap (0 - x324_1)), .int .i64 0, .int .i64 0, .int .i64 x324_2, .int .i64 0, .int .i64 1000, .int .i64 0, .slice none 0 0, .int .i64 0, .int .i64 a2, .int .i64 a2, .int .i64 0, .bool false, .int .i64 0], .agg #[.string a0_0, .int .i64 a0_1, .int .i64 a0_2, .int .i64 (IntKind.i64.wrap (x304 - 1)), .int .i64 a0_4, .slice Aa0_5 na0_5 ca0_5, .slice Aa0_6 na0_6 ca0_6], .agg #[.string a1_0, .int .i64 a1_1, .int .i64 a1_2, .int .i64 a1_3, .int .i64 a1_4, .int .i64 a1_5, .int .i64 a1_6, .int .i64 a1_7, .int .i64 a1_8, .int .i64 a1_9, .int .i64 a1_10, .int .i64 a1_11, .int .i64 a1_12]] (.bool x326) (by kernel_rfl) (fun w => by kernel_rfl) (fun w hw => sizing_Under.calls (⟨#[]⟩ : ByteArray) (⟨#[]⟩ : ByteArray) (⟨#[]⟩ : ByteArray) 0 (IntKind.i64.wrap (0 - x324_1)) 0 0 x324_2 0 1000 0 0 a2 a2 0 false 0 a0_0 a0_1 a0_2 (IntKind.i64.wrap (x304 - 1)) a0_4 a1_0 a1_1 a1_2 a1_3 a1_4 a1_5 a1_6 a1_7 a1_8 a1_9 a1_10 a1_11 a1_12  _ _ _ _ _ _ _ _ _ _ w   hx326) ?_
                        refine LL.op (.bool (!x326)) (by kernel_rfl) (fun w _ => by kernel_rfl) ?_
                        refine LL.op (.bool (!x326)) (by kernel_rfl) (fun w _ => by kernel_rfl) ?_
                        refine LL.done (s' := [(6, .bool false), (115, .bool (!x326))]) [6, 115] (by kernel_rfl) ?_
                        refine NN.then ?_
                        rcases Bool.eq_false_or_eq_true (x326) with c327 | c327
                        · rw [if_pos (c327)] at H
                          refine J.condF (b := !x326) (by rw [show (!x326) = !(x326) from rfl, c327]; rfl) (by kernel_rfl) (by kernel_rfl) ?_
                          refine J.skip ?_
                          refine NN.then ?_
                          refine J.seq ?_
                          refine J.plain ?_
                          obtain ⟨x328, hx328, H⟩ := bind_some H
                          refine LL.call 15 #[] (.bool x328) (by kernel_rfl) (fun w => by kernel_rfl) (fun w hw => sawmilllaw39_awake.calls K    _ w   hx328) ?_
                          refine LL.op (.bool x328) (by kernel_rfl) (fun w _ => by kernel_rfl) ?_
                          refine LL.done (s' := [(6, .bool x328)]) [6] (by kernel_rfl) ?_
                          refine NN.then ?_
                          refine J.ret ?_
                          refine NN.fin1 6 (.bool x328) (by kernel_rfl) (by kernel_rfl) (.inl rfl) (fun w hi => hi.ret ?_)
                          first | (cases H; rfl) | (obtain rfl := Option.some.inj H; rfl) | (simp only [Option.some.injEq, Prod.mk.injEq] at H; obtain ⟨rfl⟩ := H; rfl)
                        · rw [if_neg (nebt c327)] at H
                          refine J.condT (b := !x326) (by rw [show (!x326) = !(x326) from rfl, c327]; rfl) (by kernel_rfl) (by kernel_rfl) ?_
                          refine J.seq ?_
                          refine J.plain ?_
                          refine LL.op (.bool false) (by kernel_rfl) (fun w _ => by kernel_rfl) ?_
                          refine LL.done (s' := [(6, .bool false)]) [6] (by kernel_rfl) ?_
                          refine NN.then ?_
                          refine J.ret ?_
                          refine NN.then_ret ?_
                          refine NN.fin1 6 (.bool false) (by kernel_rfl) (by kernel_rfl) (.inl rfl) (fun w hi => hi.ret ?_)
                          first | (cases H; rfl) | (obtain rfl := Option.some.inj H; rfl) | (simp only [Option.some.injEq, Prod.mk.injEq] at H; obtain ⟨rfl⟩ := H; rfl)
                      · rw [if_neg (of_decide_eq_false c325)] at H
                        refine LL.bool 109 (decide (a0_1 ≤ a0_2)) false c325 (by kernel_rfl) ?_
                        refine LL.off (by kernel_rfl) (by kernel_rfl) ?_
                        refine LL.off (by kernel_rfl) (by kernel_rfl) ?_
                        refine LL.off (by kernel_rfl) (by kernel_rfl) ?_
                        refine LL.off (by kernel_rfl) (by kernel_rfl) ?_
                        refine LL.off (by kernel_rfl) (by kernel_rfl) ?_
                        refine LL.op (.bool false) (by kernel_rfl) (fun w _ => by kernel_rfl) ?_
                        refine LL.done (s' := [(6, .bool false), (115, .bool false)]) [6, 115] (by kernel_rfl) ?_
                        refine NN.then ?_
                        refine J.condF (b := false) rfl (by kernel_rfl) (by kernel_rfl) ?_
                        refine J.skip ?_
                        refine NN.then ?_
                        refine J.seq ?_
                        refine J.plain ?_
                        obtain ⟨x329, hx329, H⟩ := bind_some H
                        refine LL.call 15 #[] (.bool x329) (by kernel_rfl) (fun w => by kernel_rfl) (fun w hw => sawmilllaw39_awake.calls K    _ w   hx329) ?_
                        refine LL.op (.bool x329) (by kernel_rfl) (fun w _ => by kernel_rfl) ?_
                        refine LL.done (s' := [(6, .bool x329)]) [6] (by kernel_rfl) ?_
                        refine NN.then ?_
                        refine J.ret ?_
                        refine NN.fin1 6 (.bool x329) (by kernel_rfl) (by kernel_rfl) (.inl rfl) (fun w hi => hi.ret ?_)
                        first | (cases H; rfl) | (obtain rfl := Option.some.inj H; rfl) | (simp only [Option.some.injEq, Prod.mk.injEq] at H; obtain ⟨rfl⟩ := H; rfl)
                    · rw [if_neg (of_decide_eq_false c323)] at H
                      refine J.condF (b := decide (0 < x304)) c323 (by kernel_rfl) (by kernel_rfl) ?_
                      refine J.skip ?_
                      refine NN.then ?_
                      refine J.seq ?_
                      refine J.plain ?_
                      obtain ⟨x330, hx330, H⟩ := bind_some H
                      refine LL.call 15 #[] (.bool x330) (by kernel_rfl) (fun w => by kernel_rfl) (fun w hw => sawmilllaw39_awake.calls K    _ w   hx330) ?_
                      refine LL.op (.bool x330) (by kernel_rfl) (fun w _ => by kernel_rfl) ?_
                      refine LL.done (s' := [(6, .bool x330)]) [6] (by kernel_rfl) ?_
                      refine NN.then ?_
                      refine J.ret ?_
                      refine NN.fin1 6 (.bool x330) (by kernel_rfl) (by kernel_rfl) (.inl rfl) (fun w hi => hi.ret ?_)
                      first | (cases H; rfl) | (obtain rfl := Option.some.inj H; rfl) | (simp only [Option.some.injEq, Prod.mk.injEq] at H; obtain ⟨rfl⟩ := H; rfl)

end Go.Proofs.Ytbgdgghijheopaa
