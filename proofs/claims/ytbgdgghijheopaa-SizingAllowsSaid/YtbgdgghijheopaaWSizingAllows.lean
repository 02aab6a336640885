/- Walks of functions of the seat: each call does what the Lean function of the same name says. Printed by the session's own program absgen.py. -/
import Derived.Test.YtbgdgghijheopaaF1
namespace Go.Proofs.Ytbgdgghijheopaa
open Go.Saw
set_option linter.unusedVariables false
set_option linter.unusedSimpArgs false

/-! ### sawmilllaw39_SizingAllows: function 4 -/
def sawmilllaw39_SizingAllows.f (K : Nat) (a0_0 : ByteArray) (a0_1 : Int) (a0_2 : Int) (a0_3 : Int) (a0_4 : Int) (a1_0 : ByteArray) (a1_1 : Int) (a1_2 : Int) (a1_3 : Int) (a1_4 : Int) (a1_5 : Int) (a1_6 : Int) (a1_7 : Int) (a1_8 : Int) (a1_9 : Int) (a1_10 : Int) (a1_11 : Int) (a1_12 : Int) (a2 : Int) : Option (Bool) := (sizing_Allow.f K a0_0 a0_1 a0_2 a0_3 a0_4 a1_0 a1_1 a1_2 a1_3 a1_4 a1_5 a1_6 a1_7 a1_8 a1_9 a1_10 a1_11 a1_12 a2).bind fun x213 => ((sawmillref39_Allow.f K a0_0 a0_1 a0_2 a0_3 a0_4 a1_0 a1_1 a1_2 a1_3 a1_4 a1_5 a1_6 a1_7 a1_8 a1_9 a1_10 a1_11 a1_12 a2).bind fun x214 => (if x213 = x214 then ((sawmilllaw39_awake.f K ).bind fun x216 => (some x216)) else (some false)))
set_option maxRecDepth 100000 in
theorem sawmilllaw39_SizingAllows.calls (K : Nat) (a0_0 : ByteArray) (a0_1 : Int) (a0_2 : Int) (a0_3 : Int) (a0_4 : Int) (a1_0 : ByteArray) (a1_1 : Int) (a1_2 : Int) (a1_3 : Int) (a1_4 : Int) (a1_5 : Int) (a1_6 : Int) (a1_7 : Int) (a1_8 : Int) (a1_9 : Int) (a1_10 : Int) (a1_11 : Int) (a1_12 : Int) (a2 : Int)  (Aa0_5 : Option Addr) (na0_5 ca0_5 : Nat) (Aa0_6 : Option Addr) (na0_6 ca0_6 : Nat) (r1 : Bool) (w : World)   (h : sawmilllaw39_SizingAllows.f K a0_0 a0_1 a0_2 a0_3 a0_4 a1_0 a1_1 a1_2 a1_3 a1_4 a1_5 a1_6 a1_7 a1_8 a1_9 a1_10 a1_11 a1_12 a2 = some r1) :
    Calls Try.prog 4 #[.agg #[.string a0_0, .int .i64 a0_1, .int .i64 a0_2, .int .i64 a0_3, .int .i64 a0_4, .slice Aa0_5 na0_5 ca0_5, .slice Aa0_6 na0_6 ca0_6], .agg #[.string a1_0, .int .i64 a1_1, .int .i64 a1_2, .int .i64 a1_3, .int .i64 a1_4, .int .i64 a1_5, .int .i64 a1_6, .int .i64 a1_7, .int .i64 a1_8, .int .i64 a1_9, .int .i64 a1_10, .int .i64 a1_11, .int .i64 a1_12], .int .i64 a2] w (Ret w (.bool r1)) := by
  have H := h
  clear h
  unfold sawmilllaw39_SizingAllows.f at H
  refine Go.Saw.calls (args := [.agg #[.string a0_0, .int .i64 a0_1, .int .i64 a0_2, .int .i64 a0_3, .int .i64 a0_4, .slice Aa0_5 na0_5 ca0_5, .slice Aa0_6 na0_6 ca0_6], .agg #[.string a1_0, .int .i64 a1_1, .int .i64 a1_2, .int .i64 a1_3, .int .i64 a1_4, .int .i64 a1_5, .int .i64 a1_6, .int .i64 a1_7, .int .i64 a1_8, .int .i64 a1_9, .int .i64 a1_10, .int .i64 a1_11, .int .i64 a1_12], .int .i64 a2]) Try.func4 rfl Try.ntmps4 (by kernel_rfl) ?_
  refine J.seq ?_
  refine J.plain ?_
  refine LL.box 33 (.tmp 0) [.string a0_0, .int .i64 a0_1, .int .i64 a0_2, .int .i64 a0_3, .int .i64 a0_4, .slice Aa0_5 na0_5 ca0_5, .slice Aa0_6 na0_6 ca0_6] (by kernel_rfl) rfl (by kernel_rfl) (fun g211 => ?_)
  refine LL.box 35 (.tmp 1) [.string a1_0, .int .i64 a1_1, .int .i64 a1_2, .int .i64 a1_3, .int .i64 a1_4, .int .i64 a1_5, .int .i64 a1_6, .int .i64 a1_7, .int .i64 a1_8, .int .i64 a1_9, .int .i64 a1_10, .int .i64 a1_11, .int .i64 a1_12] (by kernel_rfl) rfl (by kernel_rfl) (fun g212 => ?_)
  refine LL.op (.bool false) (by kernel_rfl) (fun w _ => by kernel_rfl) ?_
  refine LL.done (s' := [(2, .int .i64 a2), (3, .pointer (some ⟨g211, 0, none⟩)), (4, .pointer (some ⟨g212, 0, none⟩)), (6, .bool false)]) [2, 3, 4, 6] (by kernel_rfl) ?_
  refine NN.then ?_
  refine J.seq ?_
  refine J.drawn follows (by kernel_rfl) ?_
  refine QQ.op (.agg #[.string a0_0, .int .i64 a0_1, .int .i64 a0_2, .int .i64 a0_3, .int .i64 a0_4, .slice Aa0_5 na0_5 ca0_5, .slice Aa0_6 na0_6 ca0_6]) (by kernel_rfl) (ld 1 g211 0 rfl (by kernel_rfl) rfl (by kernel_rfl)) ?_
  refine QQ.op (.agg #[.string a1_0, .int .i64 a1_1, .int .i64 a1_2, .int .i64 a1_3, .int .i64 a1_4, .int .i64 a1_5, .int .i64 a1_6, .int .i64 a1_7, .int .i64 a1_8, .int .i64 a1_9, .int .i64 a1_10, .int .i64 a1_11, .int .i64 a1_12]) (by kernel_rfl) (ld 0 g212 0 rfl (by kernel_rfl) rfl (by kernel_rfl)) ?_
  refine QQ.op (.int .i64 a2) (by kernel_rfl) (fun w _ => by kernel_rfl) ?_
  obtain ⟨x213, hx213, H⟩ := bind_some H
  refine QQ.call 16 #[.agg #[.string a0_0, .int .i64 a0_1, .int .i64 a0_2, .int .i64 a0_3, .int .i64 a0_4, .slice Aa0_5 na0_5 ca0_5, .slice Aa0_6 na0_6 ca0_6], .agg #[.string a1_0, .int .i64 a1_1, .int .i64 a1_2, .int .i64 a1_3, .int .i64 a1_4, .int .i64 a1_5, .int .i64 a1_6, .int .i64 a1_7, .int .i64 a1_8, .int .i64 a1_9, .int .i64 a1_10, .int .i64 a1_11, .int .i64 a1_12], .int .i64 a2] (.int .i64 x213) (by kernel_rfl) (fun w => by kernel_rfl) (fun w hw => sizing_Allow.calls K a0_0 a0_1 a0_2 a0_3 a0_4 a1_0 a1_1 a1_2 a1_3 a1_4 a1_5 a1_6 a1_7 a1_8 a1_9 a1_10 a1_11 a1_12 a2  _ _ _ _ _ _ _ w   hx213) ?_
  refine QQ.op (.agg #[.string a0_0, .int .i64 a0_1, .int .i64 a0_2, .int .i64 a0_3, .int .i64 a0_4, .slice Aa0_5 na0_5 ca0_5, .slice Aa0_6 na0_6 ca0_6]) (by kernel_rfl) (ld 1 g211 0 rfl (by kernel_rfl) rfl (by kernel_rfl)) ?_
  refine QQ.op (.agg #[.string a1_0, .int .i64 a1_1, .int .i64 a1_2, .int .i64 a1_3, .int .i64 a1_4, .int .i64 a1_5, .int .i64 a1_6, .int .i64 a1_7, .int .i64 a1_8, .int .i64 a1_9, .int .i64 a1_10, .int .i64 a1_11, .int .i64 a1_12]) (by kernel_rfl) (ld 0 g212 0 rfl (by kernel_rfl) rfl (by kernel_rfl)) ?_
  refine QQ.op (.int .i64 a2) (by kernel_rfl) (fun w _ => by kernel_rfl) ?_
  obtain ⟨x214, hx214, H⟩ := bind_some H
  refine QQ.call 17 #[.agg #[.string a0_0, .int .i64 a0_1, .int .i64 a0_2, .int .i64 a0_3, .int .i64 a0_4, .slice Aa0_5 na0_5 ca0_5, .slice Aa0_6 na0_6 ca0_6], .agg #[.string a1_0, .int .i64 a1_1, .int .i64 a1_2, .int .i64 a1_3, .int .i64 a1_4, .int .i64 a1_5, .int .i64 a1_6, .int .i64 a1_7, .int .i64 a1_8, .int .i64 a1_9, .int .i64 a1_10, .int .i64 a1_11, .int .i64 a1_12], .int .i64 a2] (.int .i64 x214) (by kernel_rfl) (fun w => by kernel_rfl) (fun w hw => sawmillref39_Allow.calls K a0_0 a0_1 a0_2 a0_3 a0_4 a1_0 a1_1 a1_2 a1_3 a1_4 a1_5 a1_6 a1_7 a1_8 a1_9 a1_10 a1_11 a1_12 a2  _ _ _ _ _ _ _ w   hx214) ?_
  refine QQ.op (.bool (x213 == x214)) (by kernel_rfl) (fun w _ => by kernel_rfl) ?_
  refine QQ.op (.bool (x213 == x214)) (by kernel_rfl) (fun w _ => by kernel_rfl) ?_
  rcases Bool.eq_false_or_eq_true ((x213 == x214)) with c215 | c215
  · rw [if_pos (eq_of_beq c215)] at H
    refine QQ.bool 16 ((x213 == x214)) true c215 (by kernel_rfl) ?_
    obtain ⟨x216, hx216, H⟩ := bind_some H
    refine QQ.call 15 #[] (.bool x216) (by kernel_rfl) (fun w => by kernel_rfl) (fun w hw => sawmilllaw39_awake.calls K    _ w   hx216) ?_
    refine QQ.op (.bool x216) (by kernel_rfl) (fun w _ => by kernel_rfl) ?_
    refine QQ.op (.bool x216) (by kernel_rfl) (fun w _ => by kernel_rfl) ?_
    refine QQ.done (s' := [(6, .bool x216)]) [6] (by kernel_rfl) ?_
    refine NN.then ?_
    refine J.ret ?_
    refine NN.fin1 6 (.bool x216) (by kernel_rfl) (by kernel_rfl) (.inl rfl) (fun w hi => hi.ret ?_)
    first | (cases H; rfl) | (obtain rfl := Option.some.inj H; rfl) | (simp only [Option.some.injEq, Prod.mk.injEq] at H; obtain ⟨rfl⟩ := H; rfl)
  · rw [if_neg (nebf c215)] at H
    refine QQ.bool 16 ((x213 == x214)) false c215 (by kernel_rfl) ?_
    refine QQ.off (by kernel_rfl) (by kernel_rfl) ?_
    refine QQ.op (.bool false) (by kernel_rfl) (fun w _ => by kernel_rfl) ?_
    refine QQ.op (.bool false) (by kernel_rfl) (fun w _ => by kernel_rfl) ?_
    refine QQ.done (s' := [(6, .bool false)]) [6] (by kernel_rfl) ?_
    refine NN.then ?_
    refine J.ret ?_
    refine NN.fin1 6 (.bool false) (by kernel_rfl) (by kernel_rfl) (.inl rfl) (fun w hi => hi.ret ?_)
    first | (cases H; rfl) | (obtain rfl := Option.some.inj H; rfl) | (simp only [Option.some.injEq, Prod.mk.injEq] at H; obtain ⟨rfl⟩ := H; rfl)

end Go.Proofs.Ytbgdgghijheopaa
