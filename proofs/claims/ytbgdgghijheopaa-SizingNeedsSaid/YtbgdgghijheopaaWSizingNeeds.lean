/- Walks of functions of the seat: each call does what the Lean function of the same name says. Printed by the session's own program absgen.py. -/
import Derived.Test.YtbgdgghijheopaaF1
namespace Go.Proofs.Ytbgdgghijheopaa
open Go.Saw
set_option linter.unusedVariables false
set_option linter.unusedSimpArgs false

/-! ### sawmilllaw39_SizingNeeds: function 7 -/
def sawmilllaw39_SizingNeeds.f (K : Nat) (a0_0 : ByteArray) (a0_1 : Int) (a0_2 : Int) (a0_3 : Int) (a0_4 : Int) (a1_0 : ByteArray) (a1_1 : Int) (a1_2 : Int) (a1_3 : Int) (a1_4 : Int) (a1_5 : Int) (a1_6 : Int) (a1_7 : Int) (a1_8 : Int) (a1_9 : Int) (a1_10 : Int) (a1_11 : Int) (a1_12 : Int) (a2_0 : Int) (a2_1 : Int) : Option (Bool) := if a2_1 < a2_0 then ((sawmilllaw39_awake.f K ).bind fun x335 => (some x335)) else ((sawmilllaw39_wood.f a1_0 a1_1 a1_2 a1_3 a1_4 a1_5 a1_6 a1_7 a1_8 a1_9 a1_10 a1_11 a1_12).bind fun x336 => (if x336 = true then ((sizing_Allow.f K a0_0 a0_1 a0_2 a0_3 a0_4 a1_0 a1_1 a1_2 a1_3 a1_4 a1_5 a1_6 a1_7 a1_8 a1_9 a1_10 a1_11 a1_12 a2_0).bind fun x339 => ((sizing_Allow.f K a0_0 a0_1 a0_2 a0_3 a0_4 a1_0 a1_1 a1_2 a1_3 a1_4 a1_5 a1_6 a1_7 a1_8 a1_9 a1_10 a1_11 a1_12 a2_1).bind fun x340 => (if x340 ≤ x339 then ((sizing_Allow.f K a0_0 a0_1 a0_2 a0_3 a0_4 a1_0 a1_1 a1_2 a1_3 a1_4 a1_5 a1_6 a1_7 a1_8 a1_9 a1_10 a1_11 (IntKind.i64.wrap (Int.tdiv (IntKind.i64.wrap (a1_12 + 200)) 2)) a2_0).bind fun x342 => ((sizing_Allow.f K a0_0 a0_1 a0_2 a0_3 a0_4 a1_0 a1_1 a1_2 a1_3 a1_4 a1_5 a1_6 a1_7 a1_8 a1_9 a1_10 a1_11 a1_12 a2_0).bind fun x343 => (if x343 ≤ x342 then ((sawmilllaw39_awake.f K ).bind fun x345 => (some x345)) else (some false)))) else (some false)))) else ((sawmilllaw39_awake.f K ).bind fun x346 => (some x346))))
set_option maxRecDepth 100000 in
theorem sawmilllaw39_SizingNeeds.calls (K : Nat) (a0_0 : ByteArray) (a0_1 : Int) (a0_2 : Int) (a0_3 : Int) (a0_4 : Int) (a1_0 : ByteArray) (a1_1 : Int) (a1_2 : Int) (a1_3 : Int) (a1_4 : Int) (a1_5 : Int) (a1_6 : Int) (a1_7 : Int) (a1_8 : Int) (a1_9 : Int) (a1_10 : Int) (a1_11 : Int) (a1_12 : Int) (a2_0 : Int) (a2_1 : Int)  (Aa0_5 : Option Addr) (na0_5 ca0_5 : Nat) (Aa0_6 : Option Addr) (na0_6 ca0_6 : Nat) (r1 : Bool) (w : World)   (h : sawmilllaw39_SizingNeeds.f K a0_0 a0_1 a0_2 a0_3 a0_4 a1_0 a1_1 a1_2 a1_3 a1_4 a1_5 a1_6 a1_7 a1_8 a1_9 a1_10 a1_11 a1_12 a2_0 a2_1 = some r1) :
    Calls Try.prog 7 #[.agg #[.string a0_0, .int .i64 a0_1, .int .i64 a0_2, .int .i64 a0_3, .int .i64 a0_4, .slice Aa0_5 na0_5 ca0_5, .slice Aa0_6 na0_6 ca0_6], .agg #[.string a1_0, .int .i64 a1_1, .int .i64 a1_2, .int .i64 a1_3, .int .i64 a1_4, .int .i64 a1_5, .int .i64 a1_6, .int .i64 a1_7, .int .i64 a1_8, .int .i64 a1_9, .int .i64 a1_10, .int .i64 a1_11, .int .i64 a1_12], .agg #[.int .i64 a2_0, .int .i64 a2_1]] w (Ret w (.bool r1)) := by
  have H := h
  clear h
  unfold sawmilllaw39_SizingNeeds.f at H
  refine Go.Saw.calls (args := [.agg #[.string a0_0, .int .i64 a0_1, .int .i64 a0_2, .int .i64 a0_3, .int .i64 a0_4, .slice Aa0_5 na0_5 ca0_5, .slice Aa0_6 na0_6 ca0_6], .agg #[.string a1_0, .int .i64 a1_1, .int .i64 a1_2, .int .i64 a1_3, .int .i64 a1_4, .int .i64 a1_5, .int .i64 a1_6, .int .i64 a1_7, .int .i64 a1_8, .int .i64 a1_9, .int .i64 a1_10, .int .i64 a1_11, .int .i64 a1_12], .agg #[.int .i64 a2_0, .int .i64 a2_1]]) Try.func7 rfl Try.ntmps7 (by kernel_rfl) ?_
  refine J.seq ?_
  refine J.plain ?_
  refine LL.box 33 (.tmp 0) [.string a0_0, .int .i64 a0_1, .int .i64 a0_2, .int .i64 a0_3, .int .i64 a0_4, .slice Aa0_5 na0_5 ca0_5, .slice Aa0_6 na0_6 ca0_6] (by kernel_rfl) rfl (by kernel_rfl) (fun g331 => ?_)
  refine LL.box 35 (.tmp 1) [.string a1_0, .int .i64 a1_1, .int .i64 a1_2, .int .i64 a1_3, .int .i64 a1_4, .int .i64 a1_5, .int .i64 a1_6, .int .i64 a1_7, .int .i64 a1_8, .int .i64 a1_9, .int .i64 a1_10, .int .i64 a1_11, .int .i64 a1_12] (by kernel_rfl) rfl (by kernel_rfl) (fun g332 => ?_)
  refine LL.box 43 (.tmp 2) [.int .i64 a2_0, .int .i64 a2_1] (by kernel_rfl) rfl (by kernel_rfl) (fun g333 => ?_)
  refine LL.op (.bool false) (by kernel_rfl) (fun w _ => by kernel_rfl) ?_
  refine LL.done (s' := [(3, .pointer (some ⟨g331, 0, none⟩)), (4, .pointer (some ⟨g332, 0, none⟩)), (5, .pointer (some ⟨g333, 0, none⟩)), (6, .bool false)]) [3, 4, 5, 6] (by kernel_rfl) ?_
  refine NN.then ?_
  refine J.seq ?_
  refine J.seq ?_
  refine J.plain ?_
  refine LL.op (.pointer (some ⟨g333, 0, none⟩)) (by kernel_rfl) (fun w _ => by kernel_rfl) ?_
  refine LL.op (.int .i64 a2_0) (by kernel_rfl) (ld 0 g333 0 rfl (by kernel_rfl) rfl (by kernel_rfl)) ?_
  refine LL.op (.pointer (some ⟨g333, 1, none⟩)) (by kernel_rfl) (fun w _ => by kernel_rfl) ?_
  refine LL.op (.int .i64 a2_1) (by kernel_rfl) (ld 0 g333 1 rfl (by kernel_rfl) rfl (by kernel_rfl)) ?_
  refine LL.op (.bool (decide (a2_1 < a2_0))) (by kernel_rfl) (fun w _ => by kernel_rfl) ?_
  refine LL.op (.bool (decide (a2_1 < a2_0))) (by kernel_rfl) (fun w _ => by kernel_rfl) ?_
  rcases Bool.eq_false_or_eq_true (decide (a2_1 < a2_0)) with c334 | c334
  · rw [if_pos (of_decide_eq_true c334)] at H
    refine LL.bool 13 (decide (a2_1 < a2_0)) true c334 (by kernel_rfl) ?_
    refine LL.off (by kernel_rfl) (by kernel_rfl) ?_
    refine LL.off (by kernel_rfl) (by kernel_rfl) ?_
    refine LL.off (by kernel_rfl) (by kernel_rfl) ?_
    refine LL.op (.bool true) (by kernel_rfl) (fun w _ => by kernel_rfl) ?_
    refine LL.done (s' := [(3, .pointer (some ⟨g331, 0, none⟩)), (4, .pointer (some ⟨g332, 0, none⟩)), (5, .pointer (some ⟨g333, 0, none⟩)), (6, .bool false), (17, .bool true)]) [3, 4, 5, 6, 17] (by kernel_rfl) ?_
    refine NN.then ?_
    refine J.condT (b := true) rfl (by kernel_rfl) (by kernel_rfl) ?_
    refine J.seq ?_
    refine J.plain ?_
    obtain ⟨x335, hx335, H⟩ := bind_some H
    refine LL.call 15 #[] (.bool x335) (by kernel_rfl) (fun w => by kernel_rfl) (fun w hw => sawmilllaw39_awake.calls K    _ w   hx335) ?_
    refine LL.op (.bool x335) (by kernel_rfl) (fun w _ => by kernel_rfl) ?_
    refine LL.done (s' := [(3, .pointer (some ⟨g331, 0, none⟩)), (4, .pointer (some ⟨g332, 0, none⟩)), (5, .pointer (some ⟨g333, 0, none⟩)), (6, .bool x335)]) [3, 4, 5, 6] (by kernel_rfl) ?_
    refine NN.then ?_
    refine J.ret ?_
    refine NN.then_ret ?_
    refine NN.fin1 6 (.bool x335) (by kernel_rfl) (by kernel_rfl) (.inl rfl) (fun w hi => hi.ret ?_)
    first | (cases H; rfl) | (obtain rfl := Option.some.inj H; rfl) | (simp only [Option.some.injEq, Prod.mk.injEq] at H; obtain ⟨rfl⟩ := H; rfl)
  · rw [if_neg (of_decide_eq_false c334)] at H
    refine LL.bool 13 (decide (a2_1 < a2_0)) false c334 (by kernel_rfl) ?_
    refine LL.op (.agg #[.string a1_0, .int .i64 a1_1, .int .i64 a1_2, .int .i64 a1_3, .int .i64 a1_4, .int .i64 a1_5, .int .i64 a1_6, .int .i64 a1_7, .int .i64 a1_8, .int .i64 a1_9, .int .i64 a1_10, .int .i64 a1_11, .int .i64 a1_12]) (by kernel_rfl) (ld 1 g332 0 rfl (by kernel_rfl) rfl (by kernel_rfl)) ?_
    obtain ⟨x336, hx336, H⟩ := bind_some H
    refine LL.call 18 #[.agg #[.string a1_0, .int .i64 a1_1, .int .i64 a1_2, .int .i64 a1_3, .int .i64 a1_4, .int .i64 a1_5, .int .i64 a1_6, .int .i64 a1_7, .int .i64 a1_8, .int .i64 a1_9, .int .i64 a1_10, .int .i64 a1_11, .int .i64 a1_12]] (.bool x336) (by kernel_rfl) (fun w => by kernel_rfl) (fun w hw => sawmilllaw39_wood.calls a1_0 a1_1 a1_2 a1_3 a1_4 a1_5 a1_6 a1_7 a1_8 a1_9 a1_10 a1_11 a1_12   _ w   hx336) ?_
    refine LL.op (.bool (!x336)) (by kernel_rfl) (fun w _ => by kernel_rfl) ?_
    refine LL.op (.bool (!x336)) (by kernel_rfl) (fun w _ => by kernel_rfl) ?_
    refine LL.done (s' := [(3, .pointer (some ⟨g331, 0, none⟩)), (4, .pointer (some ⟨g332, 0, none⟩)), (5, .pointer (some ⟨g333, 0, none⟩)), (6, .bool false), (17, .bool (!x336))]) [3, 4, 5, 6, 17] (by kernel_rfl) ?_
    refine NN.then ?_
    rcases Bool.eq_false_or_eq_true (x336) with c337 | c337
    · rw [if_pos (c337)] at H
      refine J.condF (b := !x336) (by rw [show (!x336) = !(x336) from rfl, c337]; rfl) (by kernel_rfl) (by kernel_rfl) ?_
      refine J.skip ?_
      refine NN.then ?_
      refine J.seq ?_
      refine J.plain ?_
      refine LL.op (.agg #[.string a1_0, .int .i64 a1_1, .int .i64 a1_2, .int .i64 a1_3, .int .i64 a1_4, .int .i64 a1_5, .int .i64 a1_6, .int .i64 a1_7, .int .i64 a1_8, .int .i64 a1_9, .int .i64 a1_10, .int .i64 a1_11, .int .i64 a1_12]) (by kernel_rfl) (ld 1 g332 0 rfl (by kernel_rfl) rfl (by kernel_rfl)) ?_
      refine LL.alloc 35 [.string (⟨#[]⟩ : ByteArray), .int .i64 0, .int .i64 0, .int .i64 0, .int .i64 0, .int .i64 0, .int .i64 0, .int .i64 0, .int .i64 0, .int .i64 0, .int .i64 0, .int .i64 0, .int .i64 0] (by kernel_rfl) rfl (by kernel_rfl) (fun g338 => ?_)
      refine LL.store 0 g338 0 35 (.tmp 7) (.tmp 19) [.string a1_0, .int .i64 a1_1, .int .i64 a1_2, .int .i64 a1_3, .int .i64 a1_4, .int .i64 a1_5, .int .i64 a1_6, .int .i64 a1_7, .int .i64 a1_8, .int .i64 a1_9, .int .i64 a1_10, .int .i64 a1_11, .int .i64 a1_12] (bs' := [(g338, cl [.string a1_0, .int .i64 a1_1, .int .i64 a1_2, .int .i64 a1_3, .int .i64 a1_4, .int .i64 a1_5, .int .i64 a1_6, .int .i64 a1_7, .int .i64 a1_8, .int .i64 a1_9, .int .i64 a1_10, .int .i64 a1_11, .int .i64 a1_12] 35), (g333, cl [.int .i64 a2_0, .int .i64 a2_1] 43), (g332, cl [.string a1_0, .int .i64 a1_1, .int .i64 a1_2, .int .i64 a1_3, .int .i64 a1_4, .int .i64 a1_5, .int .i64 a1_6, .int .i64 a1_7, .int .i64 a1_8, .int .i64 a1_9, .int .i64 a1_10, .int .i64 a1_11, .int .i64 a1_12] 35), (g331, cl [.string a0_0, .int .i64 a0_1, .int .i64 a0_2, .int .i64 a0_3, .int .i64 a0_4, .slice Aa0_5 na0_5 ca0_5, .slice Aa0_6 na0_6 ca0_6] 33)]) rfl (by kernel_rfl) rfl (by kernel_rfl) rfl (by kernel_rfl) ?_
      refine LL.done (s' := [(3, .pointer (some ⟨g331, 0, none⟩)), (4, .pointer (some ⟨g332, 0, none⟩)), (5, .pointer (some ⟨g333, 0, none⟩)), (6, .bool false), (7, .pointer (some ⟨g338, 0, none⟩))]) [3, 4, 5, 6, 7] (by kernel_rfl) ?_
      refine NN.then ?_
      refine J.seq ?_
      refine J.plain ?_
      refine LL.op (.pointer (some ⟨g332, 12, none⟩)) (by kernel_rfl) (fun w _ => by kernel_rfl) ?_
      refine LL.op (.int .i64 a1_12) (by kernel_rfl) (ld 2 g332 12 rfl (by kernel_rfl) rfl (by kernel_rfl)) ?_
      refine LL.op (.int .i64 (IntKind.i64.wrap (a1_12 + 200))) (by kernel_rfl) (fun w _ => by kernel_rfl) ?_
      refine LL.op (.int .i64 (IntKind.i64.wrap (Int.tdiv (IntKind.i64.wrap (a1_12 + 200)) 2))) (by kernel_rfl) (fun w _ => by kernel_rfl) ?_
      refine LL.op (.pointer (some ⟨g338, 12, none⟩)) (by kernel_rfl) (fun w _ => by kernel_rfl) ?_
      refine LL.store 0 g338 12 3 (.tmp 24) (.tmp 23) [.string a1_0, .int .i64 a1_1, .int .i64 a1_2, .int .i64 a1_3, .int .i64 a1_4, .int .i64 a1_5, .int .i64 a1_6, .int .i64 a1_7, .int .i64 a1_8, .int .i64 a1_9, .int .i64 a1_10, .int .i64 a1_11, .int .i64 (IntKind.i64.wrap (Int.tdiv (IntKind.i64.wrap (a1_12 + 200)) 2))] (bs' := [(g338, cl [.string a1_0, .int .i64 a1_1, .int .i64 a1_2, .int .i64 a1_3, .int .i64 a1_4, .int .i64 a1_5, .int .i64 a1_6, .int .i64 a1_7, .int .i64 a1_8, .int .i64 a1_9, .int .i64 a1_10, .int .i64 a1_11, .int .i64 (IntKind.i64.wrap (Int.tdiv (IntKind.i64.wrap (a1_12 + 200)) 2))] 35), (g333, cl [.int .i64 a2_0, .int .i64 a2_1] 43), (g332, cl [.string a1_0, .int .i64 a1_1, .int .i64 a1_2, .int .i64 a1_3, .int .i64 a1_4, .int .i64 a1_5, .int .i64 a1_6, .int .i64 a1_7, .int .i64 a1_8, .int .i64 a1_9, .int .i64 a1_10, .int .i64 a1_11, .int .i64 a1_12] 35), (g331, cl [.string a0_0, .int .i64 a0_1, .int .i64 a0_2, .int .i64 a0_3, .int .i64 a0_4, .slice Aa0_5 na0_5 ca0_5, .slice Aa0_6 na0_6 ca0_6] 33)]) rfl (by kernel_rfl) rfl (by kernel_rfl) rfl (by kernel_rfl) ?_
      refine LL.done (s' := [(3, .pointer (some ⟨g331, 0, none⟩)), (4, .pointer (some ⟨g332, 0, none⟩)), (5, .pointer (some ⟨g333, 0, none⟩)), (6, .bool false), (7, .pointer (some ⟨g338, 0, none⟩))]) [3, 4, 5, 6, 7] (by kernel_rfl) ?_
      refine NN.then ?_
      refine J.seq ?_
      refine J.drawn follows (by kernel_rfl) ?_
      refine QQ.op (.agg #[.string a0_0, .int .i64 a0_1, .int .i64 a0_2, .int .i64 a0_3, .int .i64 a0_4, .slice Aa0_5 na0_5 ca0_5, .slice Aa0_6 na0_6 ca0_6]) (by kernel_rfl) (ld 3 g331 0 rfl (by kernel_rfl) rfl (by kernel_rfl)) ?_
      refine QQ.op (.agg #[.string a1_0, .int .i64 a1_1, .int .i64 a1_2, .int .i64 a1_3, .int .i64 a1_4, .int .i64 a1_5, .int .i64 a1_6, .int .i64 a1_7, .int .i64 a1_8, .int .i64 a1_9, .int .i64 a1_10, .int .i64 a1_11, .int .i64 a1_12]) (by kernel_rfl) (ld 2 g332 0 rfl (by kernel_rfl) rfl (by kernel_rfl)) ?_
      refine QQ.op (.pointer (some ⟨g333, 0, none⟩)) (by kernel_rfl) (fun w _ => by kernel_rfl) ?_
      refine QQ.op (.int .i64 a2_0) (by kernel_rfl) (ld 1 g333 0 rfl (by kernel_rfl) rfl (by kernel_rfl)) ?_
      obtain ⟨x339, hx339, H⟩ := bind_some H
      refine QQ.call 16 #[.agg #[.string a0_0, .int .i64 a0_1, .int .i64 a0_2, .int .i64 a0_3, .int .i64 a0_4, .slice Aa0_5 na0_5 ca0_5, .slice Aa0_6 na0_6 ca0_6], .agg #[.string a1_0, .int .i64 a1_1, .int .i64 a1_2, .int .i64 a1_3, .int .i64 a1_4, .int .i64 a1_5, .int .i64 a1_6, .int .i64 a1_7, .int .i64 a1_8, .int .i64 a1_9, .int .i64 a1_10, .int .i64 a1_11, .int .i64 a1_12], .int .i64 a2_0] (.int .i64 x339) (by kernel_rfl) (fun w => by kernel_rfl) (fun w hw => sizing_Allow.calls K a0_0 a0_1 a0_2 a0_3 a0_4 a1_0 a1_1 a1_2 a1_3 a1_4 a1_5 a1_6 a1_7 a1_8 a1_9 a1_10 a1_11 a1_12 a2_0  _ _ _ _ _ _ _ w   hx339) ?_
      refine QQ.op (.agg #[.string a0_0, .int .i64 a0_1, .int .i64 a0_2, .int .i64 a0_3, .int .i64 a0_4, .slice Aa0_5 na0_5 ca0_5, .slice Aa0_6 na0_6 ca0_6]) (by kernel_rfl) (ld 3 g331 0 rfl (by kernel_rfl) rfl (by kernel_rfl)) ?_
      refine QQ.op (.agg #[.string a1_0, .int .i64 a1_1, .int .i64 a1_2, .int .i64 a1_3, .int .i64 a1_4, .int .i64 a1_5, .int .i64 a1_6, .int .i64 a1_7, .int .i64 a1_8, .int .i64 a1_9, .int .i64 a1_10, .int .i64 a1_11, .int .i64 a1_12]) (by kernel_rfl) (ld 2 g332 0 rfl (by kernel_rfl) rfl (by kernel_rfl)) ?_
      refine QQ.op (.pointer (some ⟨g333, 1, none⟩)) (by kernel_rfl) (fun w _ => by kernel_rfl) ?_
      refine QQ.op (.int .i64 a2_1) (by kernel_rfl) (ld 1 g333 1 rfl (by kernel_rfl) rfl (by kernel_rfl)) ?_
      obtain ⟨x340, hx340, H⟩ := bind_some H
      refine QQ.call 16 #[.agg #[.string a0_0, .int .i64 a0_1, .int .i64 a0_2, .int .i64 a0_3, .int .i64 a0_4, .slice Aa0_5 na0_5 ca0_5, .slice Aa0_6 na0_6 ca0_6], .agg #[.string a1_0, .int .i64 a1_1, .int .i64 a1_2, .int .i64 a1_3, .int .i64 a1_4, .int .i64 a1_5, .int .i64 a1_6, .int .i64 a1_7, .int .i64 a1_8, .int .i64 a1_9, .int .i64 a1_10, .int .i64 a1_11, .int .i64 a1_12], .int .i64 a2_1] (.int .i64 x340) (by kernel_rfl) (fun w => by kernel_rfl) (fun w hw => sizing_Allow.calls K a0_0 a0_1 a0_2 a0_3 a0_4 a1_0 a1_1 a1_2 a1_3 a1_4 a1_5 a1_6 a1_7 a1_8 a1_9 a1_10 a1_11 a1_12 a2_1  _ _ _ _ _ _ _ w   hx340) ?_
      refine QQ.op (.bool (decide (x340 ≤ x339))) (by kernel_rfl) (fun w _ => by kernel_rfl) ?_
      refine QQ.op (.bool (decide (x340 ≤ x339))) (by kernel_rfl) (fun w _ => by kernel_rfl) ?_
      rcases Bool.eq_false_or_eq_true (decide (x340 ≤ x339)) with c341 | c341
      · rw [if_pos (of_decide_eq_true c341)] at H
        refine QQ.bool 36 (decide (x340 ≤ x339)) true c341 (by kernel_rfl) ?_
        refine QQ.op (.agg #[.string a0_0, .int .i64 a0_1, .int .i64 a0_2, .int .i64 a0_3, .int .i64 a0_4, .slice Aa0_5 na0_5 ca0_5, .slice Aa0_6 na0_6 ca0_6]) (by kernel_rfl) (ld 3 g331 0 rfl (by kernel_rfl) rfl (by kernel_rfl)) ?_
        refine QQ.op (.agg #[.string a1_0, .int .i64 a1_1, .int .i64 a1_2, .int .i64 a1_3, .int .i64 a1_4, .int .i64 a1_5, .int .i64 a1_6, .int .i64 a1_7, .int .i64 a1_8, .int .i64 a1_9, .int .i64 a1_10, .int .i64 a1_11, .int .i64 (IntKind.i64.wrap (Int.tdiv (IntKind.i64.wrap (a1_12 + 200)) 2))]) (by kernel_rfl) (ld 0 g338 0 rfl (by kernel_rfl) rfl (by kernel_rfl)) ?_
        refine QQ.op (.pointer (some ⟨g333, 0, none⟩)) (by kernel_rfl) (fun w _ => by kernel_rfl) ?_
        refine QQ.op (.int .i64 a2_0) (by kernel_rfl) (ld 1 g333 0 rfl (by kernel_rfl) rfl (by kernel_rfl)) ?_
        obtain ⟨x342, hx342, H⟩ := bind_some H
        refine QQ.call 16 #[.agg #[.string a0_0, .int .i64 a0_1, .int .i64 a0_2, .int .i64 a0_3, .int .i64 a0_4, .slice Aa0_5 na0_5 ca0_5, .slice Aa0_6 na0_6 ca0_6], .agg #[.string a1_0, .int .i64 a1_1, .int .i64 a1_2, .int .i64 a1_3, .int .i64 a1_4, .int .i64 a1_5, .int .i64 a1_6, .int .i64 a1_7, .int .i64 a1_8, .int .i64 a1_9, .int .i64 a1_10, .int .i64 a1_11, .int .i64 (IntKind.i64.wrap (Int.tdiv (IntKind.i64.wrap (a1_12 + 200)) 2))], .int .i64 a2_0] (.int .i64 x342) (by kernel_rfl) (fun w => by kernel_rfl) (fun w hw => sizing_Allow.calls K a0_0 a0_1 a0_2 a0_3 a0_4 a1_0 a1_1 a1_2 a1_3 a1_4 a1_5 a1_6 a1_7 a1_8 a1_9 a1_10 a1_11 (IntKind.i64.wrap (Int.tdiv (IntKind.i64.wrap (a1_12 + 200)) 2)) a2_0  _ _ _ _ _ _ _ w   hx342) ?_
        refine QQ.op (.agg #[.string a0_0, .int .i64 a0_1, .int .i64 a0_2, .int .i64 a0_3, .int .i64 a0_4, .slice Aa0_5 na0_5 ca0_5, .slice Aa0_6 na0_6 ca0_6]) (by kernel_rfl) (ld 3 g331 0 rfl (by kernel_rfl) rfl (by kernel_rfl)) ?_
        refine QQ.op (.agg #[.string a1_0, .int .i64 a1_1, .int .i64 a1_2, .int .i64 a1_3, .int .i64 a1_4, .int .i64 a1_5, .int .i64 a1_6, .int .i64 a1_7, .int .i64 a1_8, .int .i64 a1_9, .int .i64 a1_10, .int .i64 a1_11, .int .i64 a1_12]) (by kernel_rfl) (ld 2 g332 0 rfl (by kernel_rfl) rfl (by kernel_rfl)) ?_
        refine QQ.op (.pointer (some ⟨g333, 0, none⟩)) (by kernel_rfl) (fun w _ => by kernel_rfl) ?_
        refine QQ.op (.int .i64 a2_0) (by kernel_rfl) (ld 1 g333 0 rfl (by kernel_rfl) rfl (by kernel_rfl)) ?_
        obtain ⟨x343, hx343, H⟩ := bind_some H
        refine QQ.call 16 #[.agg #[.string a0_0, .int .i64 a0_1, .int .i64 a0_2, .int .i64 a0_3, .int .i64 a0_4, .slice Aa0_5 na0_5 ca0_5, .slice Aa0_6 na0_6 ca0_6], .agg #[.string a1_0, .int .i64 a1_1, .int .i64 a1_2, .int .i64 a1_3, .int .i64 a1_4, .int .i64 a1_5, .int .i64 a1_6, .int .i64 a1_7, .int .i64 a1_8, .int .i64 a1_9, .int .i64 a1_10, .int .i64 a1_11, .int .i64 a1_12], .int .i64 a2_0] (.int .i64 x343) (by kernel_rfl) (fun w => by kernel_rfl) (fun w hw => sizing_Allow.calls K a0_0 a0_1 a0_2 a0_3 a0_4 a1_0 a1_1 a1_2 a1_3 a1_4 a1_5 a1_6 a1_7 a1_8 a1_9 a1_10 a1_11 a1_12 a2_0  _ _ _ _ _ _ _ w   hx343) ?_
        refine QQ.op (.bool (decide (x343 ≤ x342))) (by kernel_rfl) (fun w _ => by kernel_rfl) ?_
        refine QQ.op (.bool (decide (x343 ≤ x342))) (by kernel_rfl) (fun w _ => by kernel_rfl) ?_
        refine QQ.op (.bool (decide (x343 ≤ x342))) (by kernel_rfl) (fun w _ => by kernel_rfl) ?_
        rcases Bool.eq_false_or_eq_true (decide (x343 ≤ x342)) with c344 | c344
        · rw [if_pos (of_decide_eq_true c344)] at H
          refine QQ.bool 49 (decide (x343 ≤ x342)) true c344 (by kernel_rfl) ?_
          obtain ⟨x345, hx345, H⟩ := bind_some H
          refine QQ.call 15 #[] (.bool x345) (by kernel_rfl) (fun w => by kernel_rfl) (fun w hw => sawmilllaw39_awake.calls K    _ w   hx345) ?_
          refine QQ.op (.bool x345) (by kernel_rfl) (fun w _ => by kernel_rfl) ?_
          refine QQ.op (.bool x345) (by kernel_rfl) (fun w _ => by kernel_rfl) ?_
          refine QQ.done (s' := [(6, .bool x345)]) [6] (by kernel_rfl) ?_
          refine NN.then ?_
          refine J.ret ?_
          refine NN.fin1 6 (.bool x345) (by kernel_rfl) (by kernel_rfl) (.inl rfl) (fun w hi => hi.ret ?_)
          first | (cases H; rfl) | (obtain rfl := Option.some.inj H; rfl) | (simp only [Option.some.injEq, Prod.mk.injEq] at H; obtain ⟨rfl⟩ := H; rfl)
        · rw [if_neg (of_decide_eq_false c344)] at H
          refine QQ.bool 49 (decide (x343 ≤ x342)) false c344 (by kernel_rfl) ?_
          refine QQ.off (by kernel_rfl) (by kernel_rfl) ?_
          refine QQ.op (.bool false) (by kernel_rfl) (fun w _ => by kernel_rfl) ?_
          refine QQ.op (.bool false) (by kernel_rfl) (fun w _ => by kernel_rfl) ?_
          refine QQ.done (s' := [(6, .bool false)]) [6] (by kernel_rfl) ?_
          refine NN.then ?_
          refine J.ret ?_
          refine NN.fin1 6 (.bool false) (by kernel_rfl) (by kernel_rfl) (.inl rfl) (fun w hi => hi.ret ?_)
          first | (cases H; rfl) | (obtain rfl := Option.some.inj H; rfl) | (simp only [Option.some.injEq, Prod.mk.injEq] at H; obtain ⟨rfl⟩ := H; rfl)
      · rw [if_neg (of_decide_eq_false c341)] at H
        refine QQ.bool 36 (decide (x340 ≤ x339)) false c341 (by kernel_rfl) ?_
        refine QQ.off (by kernel_rfl) (by kernel_rfl) ?_
        refine QQ.off (by kernel_rfl) (by kernel_rfl) ?_
        refine QQ.off (by kernel_rfl) (by kernel_rfl) ?_
        refine QQ.off (by kernel_rfl) (by kernel_rfl) ?_
        refine QQ.off (by kernel_rfl) (by kernel_rfl) ?_
        refine QQ.off (by kernel_rfl) (by kernel_rfl) ?_
        refine QQ.off (by kernel_rfl) (by kernel_rfl) ?_
        refine QQ.off (by kernel_rfl) (by kernel_rfl) ?_
        refine QQ.off (by kernel_rfl) (by kernel_rfl) ?_
        refine QQ.off (by kernel_rfl) (by kernel_rfl) ?_
        refine QQ.off (by kernel_rfl) (by kernel_rfl) ?_
        refine QQ.op (.bool false) (by kernel_rfl) (fun w _ => by kernel_rfl) ?_
        refine QQ.op (.bool false) (by kernel_rfl) (fun w _ => by kernel_rfl) ?_
        refine QQ.off (by kernel_rfl) (by kernel_rfl) ?_
        refine QQ.op (.bool false) (by kernel_rfl) (fun w _ => by kernel_rfl) ?_
        refine QQ.op (.bool false) (by kernel_rfl) (fun w _ => by kernel_rfl) ?_
        refine QQ.done (s' := [(6, .bool false)]) [6] (by kernel_rfl) ?_
        refine NN.then ?_
        refine J.ret ?_
        refine NN.fin1 6 (.bool false) (by kernel_rfl) (by kernel_rfl) (.inl rfl) (fun w hi => hi.ret ?_)
        first | (cases H; rfl) | (obtain rfl := Option.some.inj H; rfl) | (simp only [Option.some.injEq, Prod.mk.injEq] at H; obtain ⟨rfl⟩ := H; rfl)
    · rw [if_neg (nebt c337)] at H
      refine J.condT (b := !x336) (by rw [show (!x336) = !(x336) from rfl, c337]; rfl) (by kernel_rfl) (by kernel_rfl) ?_
      refine J.seq ?_
      refine J.plain ?_
      obtain ⟨x346, hx346, H⟩ := bind_some H
      refine LL.call 15 #[] (.bool x346) (by kernel_rfl) (fun w => by kernel_rfl) (fun w hw => sawmilllaw39_awake.calls K    _ w   hx346) ?_
      refine LL.op (.bool x346) (by kernel_rfl) (fun w _ => by kernel_rfl) ?_
      refine LL.done (s' := [(3, .pointer (some ⟨g331, 0, none⟩)), (4, .pointer (some ⟨g332, 0, none⟩)), (5, .pointer (some ⟨g333, 0, none⟩)), (6, .bool x346)]) [3, 4, 5, 6] (by kernel_rfl) ?_
      refine NN.then ?_
      refine J.ret ?_
      refine NN.then_ret ?_
      refine NN.fin1 6 (.bool x346) (by kernel_rfl) (by kernel_rfl) (.inl rfl) (fun w hi => hi.ret ?_)
      first | (cases H; rfl) | (obtain rfl := Option.some.inj H; rfl) | (simp only [Option.some.injEq, Prod.mk.injEq] at H; obtain ⟨rfl⟩ := H; rfl)

end Go.Proofs.Ytbgdgghijheopaa
