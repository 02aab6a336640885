/- Walks of functions of the seat: each call does what the Lean function of the same name says. Printed by the session's own program absgen.py. -/
import Derived.Test.YtbogdbbmmlaohaaF2
namespace Go.Proofs.Ytbogdbbmmlaohaa
open Go.Saw
set_option linter.unusedVariables false
set_option linter.unusedSimpArgs false

/-! ### sawmilllaw48_AssignValids: function 5 -/
def sawmilllaw48_AssignValids.f (K : Nat) (a0_0 : List (List E4)) (a0_1 : List E3) (a0_2 : List E3) (a1 : List E3) : Option (Bool) := (sawmilllaw48_small.f K a0_0).bind fun x989 => (if x989 = true then (if 50 < (a0_2.length : Int) then ((sawmilllaw48_awake.f K ).bind fun x992 => (some x992)) else (if 1000 < (a1.length : Int) then ((sawmilllaw48_awake.f K ).bind fun x994 => (some x994)) else ((assign_Valid.f K a0_0 a0_2 a1).bind fun x995 => ((sawmillref48_Valid.f K a0_0 a0_2 a1).bind fun x996 => (if x995 = x996 then ((sawmilllaw48_awake.f K ).bind fun x998 => (some x998)) else (some false)))))) else ((sawmilllaw48_awake.f K ).bind fun x999 => (some x999)))
set_option maxRecDepth 100000 in
theorem sawmilllaw48_AssignValids.calls (K : Nat) (a0_0 : List (List E4)) (a0_1 : List E3) (a0_2 : List E3) (a1 : List E3)  (Aa0_0 : Option Addr) (ca0_0 : Nat) (Aa0_1 : Option Addr) (ca0_1 : Nat) (Aa0_2 : Option Addr) (ca0_2 : Nat) (Aa1 : Option Addr) (ca1 : Nat)  (r1 : Bool) (w : World)   (ha0_0 : KRow2 (Cx.start w) enc4 1 a0_0 Aa0_0) (ha0_1 : KRow (Cx.start w) enc3 1 a0_1 Aa0_1) (ha0_2 : KRow (Cx.start w) enc3 1 a0_2 Aa0_2) (ha1 : KRow (Cx.start w) enc3 1 a1 Aa1) (h : sawmilllaw48_AssignValids.f K a0_0 a0_1 a0_2 a1 = some r1) :
    Calls Try.prog 5 #[.agg #[.slice Aa0_0 a0_0.length ca0_0, .slice Aa0_1 a0_1.length ca0_1, .slice Aa0_2 a0_2.length ca0_2], .slice Aa1 a1.length ca1] w (Ret w (.bool r1)) := by
  have H := h
  clear h
  unfold sawmilllaw48_AssignValids.f at H
  refine Go.Saw.calls (args := [.agg #[.slice Aa0_0 a0_0.length ca0_0, .slice Aa0_1 a0_1.length ca0_1, .slice Aa0_2 a0_2.length ca0_2], .slice Aa1 a1.length ca1]) Try.func5 rfl Try.ntmps5 (by kernel_rfl) ?_
  refine J.seq ?_
  refine J.plain ?_
  refine LL.box 51 (.tmp 0) [.slice Aa0_0 a0_0.length ca0_0, .slice Aa0_1 a0_1.length ca0_1, .slice Aa0_2 a0_2.length ca0_2] (by kernel_rfl) rfl (by kernel_rfl) (fun g988 => ?_)
  refine LL.op (.bool false) (by kernel_rfl) (fun w _ => by kernel_rfl) ?_
  refine LL.done (s' := [(1, .slice Aa1 a1.length ca1), (2, .pointer (some ⟨g988, 0, none⟩)), (4, .bool false)]) [1, 2, 4] (by kernel_rfl) ?_
  refine NN.then ?_
  refine J.seq ?_
  refine J.seq ?_
  refine J.plain ?_
  refine LL.op (.pointer (some ⟨g988, 0, none⟩)) (by kernel_rfl) (fun w _ => by kernel_rfl) ?_
  refine LL.op (.slice Aa0_0 a0_0.length ca0_0) (by kernel_rfl) (ld 0 g988 0 rfl (by kernel_rfl) rfl (by kernel_rfl)) ?_
  obtain ⟨x989, hx989, H⟩ := bind_some H
  refine LL.call 20 #[.slice Aa0_0 a0_0.length ca0_0] (.bool x989) (by kernel_rfl) (fun w => by kernel_rfl) (fun w hw => sawmilllaw48_small.calls K a0_0  _ _ _ w  (ha0_0.at hw) hx989) ?_
  refine LL.op (.bool (!x989)) (by kernel_rfl) (fun w _ => by kernel_rfl) ?_
  refine LL.op (.bool (!x989)) (by kernel_rfl) (fun w _ => by kernel_rfl) ?_
  rcases Bool.eq_false_or_eq_true (x989) with c990 | c990
  · rw [if_pos (c990)] at H
    refine LL.bool 9 (!x989) false (by rw [show (!x989) = !(x989) from rfl, c990]; rfl) (by kernel_rfl) ?_
    refine LL.op (.pointer (some ⟨g988, 2, none⟩)) (by kernel_rfl) (fun w _ => by kernel_rfl) ?_
    refine LL.op (.slice Aa0_2 a0_2.length ca0_2) (by kernel_rfl) (ld 0 g988 2 rfl (by kernel_rfl) rfl (by kernel_rfl)) ?_
    refine LL.op (.int .i64 (a0_2.length : Int)) (by kernel_rfl) (fun w _ => by kernel_rfl) ?_
    refine LL.op (.bool (decide (50 < (a0_2.length : Int)))) (by kernel_rfl) (fun w _ => by kernel_rfl) ?_
    refine LL.op (.bool (decide (50 < (a0_2.length : Int)))) (by kernel_rfl) (fun w _ => by kernel_rfl) ?_
    refine LL.op (.bool (decide (50 < (a0_2.length : Int)))) (by kernel_rfl) (fun w _ => by kernel_rfl) ?_
    rcases Bool.eq_false_or_eq_true (decide (50 < (a0_2.length : Int))) with c991 | c991
    · rw [if_pos (of_decide_eq_true c991)] at H
      refine LL.bool 15 (decide (50 < (a0_2.length : Int))) true c991 (by kernel_rfl) ?_
      refine LL.off (by kernel_rfl) (by kernel_rfl) ?_
      refine LL.off (by kernel_rfl) (by kernel_rfl) ?_
      refine LL.off (by kernel_rfl) (by kernel_rfl) ?_
      refine LL.op (.bool true) (by kernel_rfl) (fun w _ => by kernel_rfl) ?_
      refine LL.done (s' := [(1, .slice Aa1 a1.length ca1), (2, .pointer (some ⟨g988, 0, none⟩)), (4, .bool false), (19, .bool true)]) [1, 2, 4, 19] (by kernel_rfl) ?_
      refine NN.then ?_
      refine J.condT (b := true) rfl (by kernel_rfl) (by kernel_rfl) ?_
      refine J.seq ?_
      refine J.plain ?_
      obtain ⟨x992, hx992, H⟩ := bind_some H
      refine LL.call 18 #[] (.bool x992) (by kernel_rfl) (fun w => by kernel_rfl) (fun w hw => sawmilllaw48_awake.calls K    _ w   hx992) ?_
      refine LL.op (.bool x992) (by kernel_rfl) (fun w _ => by kernel_rfl) ?_
      refine LL.done (s' := [(1, .slice Aa1 a1.length ca1), (2, .pointer (some ⟨g988, 0, none⟩)), (4, .bool x992)]) [1, 2, 4] (by kernel_rfl) ?_
      refine NN.then ?_
      refine J.ret ?_
      refine NN.then_ret ?_
      refine NN.fin1 4 (.bool x992) (by kernel_rfl) (by kernel_rfl) (.inl rfl) (fun w hi => hi.ret ?_)
      first | (cases H; rfl) | (obtain rfl := Option.some.inj H; rfl) | (simp only [Option.some.injEq, Prod.mk.injEq] at H; obtain ⟨rfl⟩ := H; rfl)
    · rw [if_neg (of_decide_eq_false c991)] at H
      refine LL.bool 15 (decide (50 < (a0_2.length : Int))) false c991 (by kernel_rfl) ?_
      refine LL.op (.slice Aa1 a1.length ca1) (by kernel_rfl) (fun w _ => by kernel_rfl) ?_
      refine LL.op (.int .i64 (a1.length : Int)) (by kernel_rfl) (fun w _ => by kernel_rfl) ?_
      refine LL.op (.bool (decide (1000 < (a1.length : Int)))) (by kernel_rfl) (fun w _ => by kernel_rfl) ?_
      refine LL.op (.bool (decide (1000 < (a1.length : Int)))) (by kernel_rfl) (fun w _ => by kernel_rfl) ?_
      refine LL.done (s' := [(1, .slice Aa1 a1.length ca1), (2, .pointer (some ⟨g988, 0, none⟩)), (4, .bool false), (19, .bool (decide (1000 < (a1.length : Int))))]) [1, 2, 4, 19] (by kernel_rfl) ?_
      refine NN.then ?_
      rcases Bool.eq_false_or_eq_true (decide (1000 < (a1.length : Int))) with c993 | c993
      · rw [if_pos (of_decide_eq_true c993)] at H
        refine J.condT (b := decide (1000 < (a1.length : Int))) c993 (by kernel_rfl) (by kernel_rfl) ?_
        refine J.seq ?_
        refine J.plain ?_
        obtain ⟨x994, hx994, H⟩ := bind_some H
        refine LL.call 18 #[] (.bool x994) (by kernel_rfl) (fun w => by kernel_rfl) (fun w hw => sawmilllaw48_awake.calls K    _ w   hx994) ?_
        refine LL.op (.bool x994) (by kernel_rfl) (fun w _ => by kernel_rfl) ?_
        refine LL.done (s' := [(1, .slice Aa1 a1.length ca1), (2, .pointer (some ⟨g988, 0, none⟩)), (4, .bool x994)]) [1, 2, 4] (by kernel_rfl) ?_
        refine NN.then ?_
        refine J.ret ?_
        refine NN.then_ret ?_
        refine NN.fin1 4 (.bool x994) (by kernel_rfl) (by kernel_rfl) (.inl rfl) (fun w hi => hi.ret ?_)
        first | (cases H; rfl) | (obtain rfl := Option.some.inj H; rfl) | (simp only [Option.some.injEq, Prod.mk.injEq] at H; obtain ⟨rfl⟩ := H; rfl)
      · rw [if_neg (of_decide_eq_false c993)] at H
        refine J.condF (b := decide (1000 < (a1.length : Int))) c993 (by kernel_rfl) (by kernel_rfl) ?_
        refine J.skip ?_
        refine NN.then ?_
        refine J.seq ?_
        refine J.drawn follows (by kernel_rfl) ?_
        refine QQ.op (.pointer (some ⟨g988, 0, none⟩)) (by kernel_rfl) (fun w _ => by kernel_rfl) ?_
        refine QQ.op (.slice Aa0_0 a0_0.length ca0_0) (by kernel_rfl) (ld 0 g988 0 rfl (by kernel_rfl) rfl (by kernel_rfl)) ?_
        refine QQ.op (.pointer (some ⟨g988, 2, none⟩)) (by kernel_rfl) (fun w _ => by kernel_rfl) ?_
        refine QQ.op (.slice Aa0_2 a0_2.length ca0_2) (by kernel_rfl) (ld 0 g988 2 rfl (by kernel_rfl) rfl (by kernel_rfl)) ?_
        refine QQ.op (.slice Aa1 a1.length ca1) (by kernel_rfl) (fun w _ => by kernel_rfl) ?_
        obtain ⟨x995, hx995, H⟩ := bind_some H
        refine QQ.call 15 #[.slice Aa0_0 a0_0.length ca0_0, .slice Aa0_2 a0_2.length ca0_2, .slice Aa1 a1.length ca1] (.bool x995) (by kernel_rfl) (fun w => by kernel_rfl) (fun w hw => assign_Valid.calls K a0_0 a0_2 a1  _ _ _ _ _ _ _ w  (ha0_0.at hw) (ha0_2.at hw) (ha1.at hw) hx995) ?_
        refine QQ.op (.pointer (some ⟨g988, 0, none⟩)) (by kernel_rfl) (fun w _ => by kernel_rfl) ?_
        refine QQ.op (.slice Aa0_0 a0_0.length ca0_0) (by kernel_rfl) (ld 0 g988 0 rfl (by kernel_rfl) rfl (by kernel_rfl)) ?_
        refine QQ.op (.pointer (some ⟨g988, 2, none⟩)) (by kernel_rfl) (fun w _ => by kernel_rfl) ?_
        refine QQ.op (.slice Aa0_2 a0_2.length ca0_2) (by kernel_rfl) (ld 0 g988 2 rfl (by kernel_rfl) rfl (by kernel_rfl)) ?_
        refine QQ.op (.slice Aa1 a1.length ca1) (by kernel_rfl) (fun w _ => by kernel_rfl) ?_
        obtain ⟨x996, hx996, H⟩ := bind_some H
        refine QQ.call 21 #[.slice Aa0_0 a0_0.length ca0_0, .slice Aa0_2 a0_2.length ca0_2, .slice Aa1 a1.length ca1] (.bool x996) (by kernel_rfl) (fun w => by kernel_rfl) (fun w hw => sawmillref48_Valid.calls K a0_0 a0_2 a1  _ _ _ _ _ _ _ w  (ha0_0.at hw) (ha0_2.at hw) (ha1.at hw) hx996) ?_
        refine QQ.op (.bool (x995 == x996)) (by kernel_rfl) (fun w _ => by kernel_rfl) ?_
        refine QQ.op (.bool (x995 == x996)) (by kernel_rfl) (fun w _ => by kernel_rfl) ?_
        rcases Bool.eq_false_or_eq_true ((x995 == x996)) with c997 | c997
        · rw [if_pos (eq_of_beq c997)] at H
          refine QQ.bool 34 ((x995 == x996)) true c997 (by kernel_rfl) ?_
          obtain ⟨x998, hx998, H⟩ := bind_some H
          refine QQ.call 18 #[] (.bool x998) (by kernel_rfl) (fun w => by kernel_rfl) (fun w hw => sawmilllaw48_awake.calls K    _ w   hx998) ?_
          refine QQ.op (.bool x998) (by kernel_rfl) (fun w _ => by kernel_rfl) ?_
          refine QQ.op (.bool x998) (by kernel_rfl) (fun w _ => by kernel_rfl) ?_
          refine QQ.done (s' := [(4, .bool x998)]) [4] (by kernel_rfl) ?_
          refine NN.then ?_
          refine J.ret ?_
          refine NN.fin1 4 (.bool x998) (by kernel_rfl) (by kernel_rfl) (.inl rfl) (fun w hi => hi.ret ?_)
          first | (cases H; rfl) | (obtain rfl := Option.some.inj H; rfl) | (simp only [Option.some.injEq, Prod.mk.injEq] at H; obtain ⟨rfl⟩ := H; rfl)
        · rw [if_neg (nebf c997)] at H
          refine QQ.bool 34 ((x995 == x996)) false c997 (by kernel_rfl) ?_
          refine QQ.off (by kernel_rfl) (by kernel_rfl) ?_
          refine QQ.op (.bool false) (by kernel_rfl) (fun w _ => by kernel_rfl) ?_
          refine QQ.op (.bool false) (by kernel_rfl) (fun w _ => by kernel_rfl) ?_
          refine QQ.done (s' := [(4, .bool false)]) [4] (by kernel_rfl) ?_
          refine NN.then ?_
          refine J.ret ?_
          refine NN.fin1 4 (.bool false) (by kernel_rfl) (by kernel_rfl) (.inl rfl) (fun w hi => hi.ret ?_)
          first | (cases H; rfl) | (obtain rfl := Option.some.inj H; rfl) | (simp only [Option.some.injEq, Prod.mk.injEq] at H; obtain ⟨rfl⟩ := H; rfl)
  · rw [if_neg (nebt c990)] at H
    refine LL.bool 9 (!x989) true (by rw [show (!x989) = !(x989) from rfl, c990]; rfl) (by kernel_rfl) ?_
    refine LL.off (by kernel_rfl) (by kernel_rfl) ?_
    refine LL.off (by kernel_rfl) (by kernel_rfl) ?_
    refine LL.off (by kernel_rfl) (by kernel_rfl) ?_
    refine LL.off (by kernel_rfl) (by kernel_rfl) ?_
    refine LL.op (.bool true) (by kernel_rfl) (fun w _ => by kernel_rfl) ?_
    refine LL.op (.bool true) (by kernel_rfl) (fun w _ => by kernel_rfl) ?_
    refine LL.off (by kernel_rfl) (by kernel_rfl) ?_
    refine LL.off (by kernel_rfl) (by kernel_rfl) ?_
    refine LL.off (by kernel_rfl) (by kernel_rfl) ?_
    refine LL.op (.bool true) (by kernel_rfl) (fun w _ => by kernel_rfl) ?_
    refine LL.done (s' := [(1, .slice Aa1 a1.length ca1), (2, .pointer (some ⟨g988, 0, none⟩)), (4, .bool false), (19, .bool true)]) [1, 2, 4, 19] (by kernel_rfl) ?_
    refine NN.then ?_
    refine J.condT (b := true) rfl (by kernel_rfl) (by kernel_rfl) ?_
    refine J.seq ?_
    refine J.plain ?_
    obtain ⟨x999, hx999, H⟩ := bind_some H
    refine LL.call 18 #[] (.bool x999) (by kernel_rfl) (fun w => by kernel_rfl) (fun w hw => sawmilllaw48_awake.calls K    _ w   hx999) ?_
    refine LL.op (.bool x999) (by kernel_rfl) (fun w _ => by kernel_rfl) ?_
    refine LL.done (s' := [(1, .slice Aa1 a1.length ca1), (2, .pointer (some ⟨g988, 0, none⟩)), (4, .bool x999)]) [1, 2, 4] (by kernel_rfl) ?_
    refine NN.then ?_
    refine J.ret ?_
    refine NN.then_ret ?_
    refine NN.fin1 4 (.bool x999) (by kernel_rfl) (by kernel_rfl) (.inl rfl) (fun w hi => hi.ret ?_)
    first | (cases H; rfl) | (obtain rfl := Option.some.inj H; rfl) | (simp only [Option.some.injEq, Prod.mk.injEq] at H; obtain ⟨rfl⟩ := H; rfl)

end Go.Proofs.Ytbogdbbmmlaohaa
