/- Walks of functions of the seat: each call does what the Lean function of the same name says. Printed by the session's own program absgen.py. -/
import Derived.Test.YtbgdgghijheopaaF0
namespace Go.Proofs.Ytbgdgghijheopaa
open Go.Saw
set_option linter.unusedVariables false
set_option linter.unusedSimpArgs false

/-! ### sawmillref39_Allow: function 17 -/
def sawmillref39_Allow.l0 (K : Nat) (a0_1 : Int) (a0_2 : Int) (a1_0 : ByteArray) (a1_1 : Int) (a1_2 : Int) (a1_3 : Int) (a1_4 : Int) (a1_5 : Int) (a1_6 : Int) (a1_7 : Int) (a1_8 : Int) (a1_9 : Int) (a1_10 : Int) (a1_11 : Int) (a1_12 : Int) (a2 : Int) : Nat → Int → Option (Int)
  | 0, _ => none
  | k + 1, x7 => if x7 ≤ 200 then ((sawmillref19_Green.f (⟨#[]⟩ : ByteArray) a0_1 a0_2 x7 0).bind fun bx137 => ((sawmillref34_Shrunk.f a1_0 a1_1 a1_2 a1_3 a1_4 a1_5 a1_6 a1_7 a1_8 a1_9 a1_10 a1_11 a1_12 bx137.1 a2).bind fun x138 => (if a0_1 ≤ x138 then ((sawmillref34_Shrunk.f a1_0 a1_1 a1_2 a1_3 a1_4 a1_5 a1_6 a1_7 a1_8 a1_9 a1_10 a1_11 a1_12 bx137.2 a2).bind fun x140 => (if a0_2 ≤ x140 then (some x7) else (sawmillref39_Allow.l0 K a0_1 a0_2 a1_0 a1_1 a1_2 a1_3 a1_4 a1_5 a1_6 a1_7 a1_8 a1_9 a1_10 a1_11 a1_12 a2 k (IntKind.i64.wrap (x7 + 1))))) else (sawmillref39_Allow.l0 K a0_1 a0_2 a1_0 a1_1 a1_2 a1_3 a1_4 a1_5 a1_6 a1_7 a1_8 a1_9 a1_10 a1_11 a1_12 a2 k (IntKind.i64.wrap (x7 + 1)))))) else (some 201)
def sawmillref39_Allow.f (K : Nat) (a0_0 : ByteArray) (a0_1 : Int) (a0_2 : Int) (a0_3 : Int) (a0_4 : Int) (a1_0 : ByteArray) (a1_1 : Int) (a1_2 : Int) (a1_3 : Int) (a1_4 : Int) (a1_5 : Int) (a1_6 : Int) (a1_7 : Int) (a1_8 : Int) (a1_9 : Int) (a1_10 : Int) (a1_11 : Int) (a1_12 : Int) (a2 : Int) : Option (Int) := if a0_1 < 1 then (some 201) else (if 600 < a0_1 then (some 201) else (if a0_2 < 1 then (some 201) else (if 600 < a0_2 then (some 201) else (sawmillref39_Allow.l0 K a0_1 a0_2 a1_0 a1_1 a1_2 a1_3 a1_4 a1_5 a1_6 a1_7 a1_8 a1_9 a1_10 a1_11 a1_12 a2 K 0))))
set_option maxRecDepth 100000 in
theorem sawmillref39_Allow.calls (K : Nat) (a0_0 : ByteArray) (a0_1 : Int) (a0_2 : Int) (a0_3 : Int) (a0_4 : Int) (a1_0 : ByteArray) (a1_1 : Int) (a1_2 : Int) (a1_3 : Int) (a1_4 : Int) (a1_5 : Int) (a1_6 : Int) (a1_7 : Int) (a1_8 : Int) (a1_9 : Int) (a1_10 : Int) (a1_11 : Int) (a1_12 : Int) (a2 : Int)  (Aa0_5 : Option Addr) (na0_5 ca0_5 : Nat) (Aa0_6 : Option Addr) (na0_6 ca0_6 : Nat) (r1 : Int) (w : World)   (h : sawmillref39_Allow.f K a0_0 a0_1 a0_2 a0_3 a0_4 a1_0 a1_1 a1_2 a1_3 a1_4 a1_5 a1_6 a1_7 a1_8 a1_9 a1_10 a1_11 a1_12 a2 = some r1) :
    Calls Try.prog 17 #[.agg #[.string a0_0, .int .i64 a0_1, .int .i64 a0_2, .int .i64 a0_3, .int .i64 a0_4, .slice Aa0_5 na0_5 ca0_5, .slice Aa0_6 na0_6 ca0_6], .agg #[.string a1_0, .int .i64 a1_1, .int .i64 a1_2, .int .i64 a1_3, .int .i64 a1_4, .int .i64 a1_5, .int .i64 a1_6, .int .i64 a1_7, .int .i64 a1_8, .int .i64 a1_9, .int .i64 a1_10, .int .i64 a1_11, .int .i64 a1_12], .int .i64 a2] w (Ret w (.int .i64 r1)) := by
  have H := h
  clear h
  unfold sawmillref39_Allow.f at H
  refine Go.Saw.calls (args := [.agg #[.string a0_0, .int .i64 a0_1, .int .i64 a0_2, .int .i64 a0_3, .int .i64 a0_4, .slice Aa0_5 na0_5 ca0_5, .slice Aa0_6 na0_6 ca0_6], .agg #[.string a1_0, .int .i64 a1_1, .int .i64 a1_2, .int .i64 a1_3, .int .i64 a1_4, .int .i64 a1_5, .int .i64 a1_6, .int .i64 a1_7, .int .i64 a1_8, .int .i64 a1_9, .int .i64 a1_10, .int .i64 a1_11, .int .i64 a1_12], .int .i64 a2]) Try.func17 rfl Try.ntmps17 (by kernel_rfl) ?_
  refine J.seq ?_
  refine J.plain ?_
  refine LL.box 33 (.tmp 0) [.string a0_0, .int .i64 a0_1, .int .i64 a0_2, .int .i64 a0_3, .int .i64 a0_4, .slice Aa0_5 na0_5 ca0_5, .slice Aa0_6 na0_6 ca0_6] (by kernel_rfl) rfl (by kernel_rfl) (fun g130 => ?_)
  refine LL.box 35 (.tmp 1) [.string a1_0, .int .i64 a1_1, .int .i64 a1_2, .int .i64 a1_3, .int .i64 a1_4, .int .i64 a1_5, .int .i64 a1_6, .int .i64 a1_7, .int .i64 a1_8, .int .i64 a1_9, .int .i64 a1_10, .int .i64 a1_11, .int .i64 a1_12] (by kernel_rfl) rfl (by kernel_rfl) (fun g131 => ?_)
  refine LL.op (.int .i64 0) (by kernel_rfl) (fun w _ => by kernel_rfl) ?_
  refine LL.done (s' := [(2, .int .i64 a2), (3, .pointer (some ⟨g130, 0, none⟩)), (4, .pointer (some ⟨g131, 0, none⟩)), (6, .int .i64 0)]) [2, 3, 4, 6] (by kernel_rfl) ?_
  refine NN.then ?_
  refine J.seq ?_
  refine J.seq ?_
  refine J.plain ?_
  refine LL.op (.pointer (some ⟨g130, 1, none⟩)) (by kernel_rfl) (fun w _ => by kernel_rfl) ?_
  refine LL.op (.int .i64 a0_1) (by kernel_rfl) (ld 1 g130 1 rfl (by kernel_rfl) rfl (by kernel_rfl)) ?_
  refine LL.op (.bool (decide (a0_1 < 1))) (by kernel_rfl) (fun w _ => by kernel_rfl) ?_
  refine LL.op (.bool (decide (a0_1 < 1))) (by kernel_rfl) (fun w _ => by kernel_rfl) ?_
  rcases Bool.eq_false_or_eq_true (decide (a0_1 < 1)) with c132 | c132
  · rw [if_pos (of_decide_eq_true c132)] at H
    refine LL.bool 13 (decide (a0_1 < 1)) true c132 (by kernel_rfl) ?_
    refine LL.off (by kernel_rfl) (by kernel_rfl) ?_
    refine LL.off (by kernel_rfl) (by kernel_rfl) ?_
    refine LL.off (by kernel_rfl) (by kernel_rfl) ?_
    refine LL.op (.bool true) (by kernel_rfl) (fun w _ => by kernel_rfl) ?_
    refine LL.op (.bool true) (by kernel_rfl) (fun w _ => by kernel_rfl) ?_
    refine LL.off (by kernel_rfl) (by kernel_rfl) ?_
    refine LL.off (by kernel_rfl) (by kernel_rfl) ?_
    refine LL.off (by kernel_rfl) (by kernel_rfl) ?_
    refine LL.op (.bool true) (by kernel_rfl) (fun w _ => by kernel_rfl) ?_
    refine LL.op (.bool true) (by kernel_rfl) (fun w _ => by kernel_rfl) ?_
    refine LL.off (by kernel_rfl) (by kernel_rfl) ?_
    refine LL.off (by kernel_rfl) (by kernel_rfl) ?_
    refine LL.off (by kernel_rfl) (by kernel_rfl) ?_
    refine LL.op (.bool true) (by kernel_rfl) (fun w _ => by kernel_rfl) ?_
    refine LL.done (s' := [(2, .int .i64 a2), (3, .pointer (some ⟨g130, 0, none⟩)), (4, .pointer (some ⟨g131, 0, none⟩)), (6, .int .i64 0), (27, .bool true)]) [2, 3, 4, 6, 27] (by kernel_rfl) ?_
    refine NN.then ?_
    refine J.condT (b := true) rfl (by kernel_rfl) (by kernel_rfl) ?_
    refine J.seq ?_
    refine J.plain ?_
    refine LL.op (.int .i64 201) (by kernel_rfl) (fun w _ => by kernel_rfl) ?_
    refine LL.done (s' := [(2, .int .i64 a2), (3, .pointer (some ⟨g130, 0, none⟩)), (4, .pointer (some ⟨g131, 0, none⟩)), (6, .int .i64 201)]) [2, 3, 4, 6] (by kernel_rfl) ?_
    refine NN.then ?_
    refine J.ret ?_
    refine NN.then_ret ?_
    refine NN.fin1 6 (.int .i64 201) (by kernel_rfl) (by kernel_rfl) (.inl rfl) (fun w hi => hi.ret ?_)
    first | (cases H; rfl) | (obtain rfl := Option.some.inj H; rfl) | (simp only [Option.some.injEq, Prod.mk.injEq] at H; obtain ⟨rfl⟩ := H; rfl)
  · rw [if_neg (of_decide_eq_false c132)] at H
    refine LL.bool 13 (decide (a0_1 < 1)) false c132 (by kernel_rfl) ?_
    refine LL.op (.pointer (some ⟨g130, 1, none⟩)) (by kernel_rfl) (fun w _ => by kernel_rfl) ?_
    refine LL.op (.int .i64 a0_1) (by kernel_rfl) (ld 1 g130 1 rfl (by kernel_rfl) rfl (by kernel_rfl)) ?_
    refine LL.op (.bool (decide (600 < a0_1))) (by kernel_rfl) (fun w _ => by kernel_rfl) ?_
    refine LL.op (.bool (decide (600 < a0_1))) (by kernel_rfl) (fun w _ => by kernel_rfl) ?_
    refine LL.op (.bool (decide (600 < a0_1))) (by kernel_rfl) (fun w _ => by kernel_rfl) ?_
    rcases Bool.eq_false_or_eq_true (decide (600 < a0_1)) with c133 | c133
    · rw [if_pos (of_decide_eq_true c133)] at H
      refine LL.bool 18 (decide (600 < a0_1)) true c133 (by kernel_rfl) ?_
      refine LL.off (by kernel_rfl) (by kernel_rfl) ?_
      refine LL.off (by kernel_rfl) (by kernel_rfl) ?_
      refine LL.off (by kernel_rfl) (by kernel_rfl) ?_
      refine LL.op (.bool true) (by kernel_rfl) (fun w _ => by kernel_rfl) ?_
      refine LL.op (.bool true) (by kernel_rfl) (fun w _ => by kernel_rfl) ?_
      refine LL.off (by kernel_rfl) (by kernel_rfl) ?_
      refine LL.off (by kernel_rfl) (by kernel_rfl) ?_
      refine LL.off (by kernel_rfl) (by kernel_rfl) ?_
      refine LL.op (.bool true) (by kernel_rfl) (fun w _ => by kernel_rfl) ?_
      refine LL.done (s' := [(2, .int .i64 a2), (3, .pointer (some ⟨g130, 0, none⟩)), (4, .pointer (some ⟨g131, 0, none⟩)), (6, .int .i64 0), (27, .bool true)]) [2, 3, 4, 6, 27] (by kernel_rfl) ?_
      refine NN.then ?_
      refine J.condT (b := true) rfl (by kernel_rfl) (by kernel_rfl) ?_
      refine J.seq ?_
      refine J.plain ?_
      refine LL.op (.int .i64 201) (by kernel_rfl) (fun w _ => by kernel_rfl) ?_
      refine LL.done (s' := [(2, .int .i64 a2), (3, .pointer (some ⟨g130, 0, none⟩)), (4, .pointer (some ⟨g131, 0, none⟩)), (6, .int .i64 201)]) [2, 3, 4, 6] (by kernel_rfl) ?_
      refine NN.then ?_
      refine J.ret ?_
      refine NN.then_ret ?_
      refine NN.fin1 6 (.int .i64 201) (by kernel_rfl) (by kernel_rfl) (.inl rfl) (fun w hi => hi.ret ?_)
      first | (cases H; rfl) | (obtain rfl := Option.some.inj H; rfl) | (simp only [Option.some.injEq, Prod.mk.injEq] at H; obtain ⟨rfl⟩ := H; rfl)
    · rw [if_neg (of_decide_eq_false c133)] at H
      refine LL.bool 18 (decide (600 < a0_1)) false c133 (by kernel_rfl) ?_
      refine LL.op (.pointer (some ⟨g130, 2, none⟩)) (by kernel_rfl) (fun w _ => by kernel_rfl) ?_
      refine LL.op (.int .i64 a0_2) (by kernel_rfl) (ld 1 g130 2 rfl (by kernel_rfl) rfl (by kernel_rfl)) ?_
      refine LL.op (.bool (decide (a0_2 < 1))) (by kernel_rfl) (fun w _ => by kernel_rfl) ?_
      refine LL.op (.bool (decide (a0_2 < 1))) (by kernel_rfl) (fun w _ => by kernel_rfl) ?_
      refine LL.op (.bool (decide (a0_2 < 1))) (by kernel_rfl) (fun w _ => by kernel_rfl) ?_
      rcases Bool.eq_false_or_eq_true (decide (a0_2 < 1)) with c134 | c134
      · rw [if_pos (of_decide_eq_true c134)] at H
        refine LL.bool 23 (decide (a0_2 < 1)) true c134 (by kernel_rfl) ?_
        refine LL.off (by kernel_rfl) (by kernel_rfl) ?_
        refine LL.off (by kernel_rfl) (by kernel_rfl) ?_
        refine LL.off (by kernel_rfl) (by kernel_rfl) ?_
        refine LL.op (.bool true) (by kernel_rfl) (fun w _ => by kernel_rfl) ?_
        refine LL.done (s' := [(2, .int .i64 a2), (3, .pointer (some ⟨g130, 0, none⟩)), (4, .pointer (some ⟨g131, 0, none⟩)), (6, .int .i64 0), (27, .bool true)]) [2, 3, 4, 6, 27] (by kernel_rfl) ?_
        refine NN.then ?_
        refine J.condT (b := true) rfl (by kernel_rfl) (by kernel_rfl) ?_
        refine J.seq ?_
        refine J.plain ?_
        refine LL.op (.int .i64 201) (by kernel_rfl) (fun w _ => by kernel_rfl) ?_
        refine LL.done (s' := [(2, .int .i64 a2), (3, .pointer (some ⟨g130, 0, none⟩)), (4, .pointer (some ⟨g131, 0, none⟩)), (6, .int .i64 201)]) [2, 3, 4, 6] (by kernel_rfl) ?_
        refine NN.then ?_
        refine J.ret ?_
        refine NN.then_ret ?_
        refine NN.fin1 6 (.int .i64 201) (by kernel_rfl) (by kernel_rfl) (.inl rfl) (fun w hi => hi.ret ?_)
        first | (cases H; rfl) | (obtain rfl := Option.some.inj H; rfl) | (simp only [Option.some.injEq, Prod.mk.injEq] at H; obtain ⟨rfl⟩ := H; rfl)
      · rw [if_neg (of_decide_eq_false c134)] at H
        refine LL.bool 23 (decide (a0_2 < 1)) false c134 (by kernel_rfl) ?_
        refine LL.op (.pointer (some ⟨g130, 2, none⟩)) (by kernel_rfl) (fun w _ => by kernel_rfl) ?_
        refine LL.op (.int .i64 a0_2) (by kernel_rfl) (ld 1 g130 2 rfl (by kernel_rfl) rfl (by kernel_rfl)) ?_
        refine LL.op (.bool (decide (600 < a0_2))) (by kernel_rfl) (fun w _ => by kernel_rfl) ?_
        refine LL.op (.bool (decide (600 < a0_2))) (by kernel_rfl) (fun w _ => by kernel_rfl) ?_
        refine LL.done (s' := [(2, .int .i64 a2), (3, .pointer (some ⟨g130, 0, none⟩)), (4, .pointer (some ⟨g131, 0, none⟩)), (6, .int .i64 0), (27, .bool (decide (600 < a0_2)))]) [2, 3, 4, 6, 27] (by kernel_rfl) ?_
        refine NN.then ?_
        rcases Bool.eq_false_or_eq_true (decide (600 < a0_2)) with c135 | c135
        · rw [if_pos (of_decide_eq_true c135)] at H
          refine J.condT (b := decide (600 < a0_2)) c135 (by kernel_rfl) (by kernel_rfl) ?_
          refine J.seq ?_
          refine J.plain ?_
          refine LL.op (.int .i64 201) (by kernel_rfl) (fun w _ => by kernel_rfl) ?_
          refine LL.done (s' := [(2, .int .i64 a2), (3, .pointer (some ⟨g130, 0, none⟩)), (4, .pointer (some ⟨g131, 0, none⟩)), (6, .int .i64 201)]) [2, 3, 4, 6] (by kernel_rfl) ?_
          refine NN.then ?_
          refine J.ret ?_
          refine NN.then_ret ?_
          refine NN.fin1 6 (.int .i64 201) (by kernel_rfl) (by kernel_rfl) (.inl rfl) (fun w hi => hi.ret ?_)
          first | (cases H; rfl) | (obtain rfl := Option.some.inj H; rfl) | (simp only [Option.some.injEq, Prod.mk.injEq] at H; obtain ⟨rfl⟩ := H; rfl)
        · rw [if_neg (of_decide_eq_false c135)] at H
          refine J.condF (b := decide (600 < a0_2)) c135 (by kernel_rfl) (by kernel_rfl) ?_
          refine J.skip ?_
          refine NN.then ?_
          refine J.seq ?_
          refine J.seq ?_
          refine J.plain ?_
          refine LL.op (.int .i64 0) (by kernel_rfl) (fun w _ => by kernel_rfl) ?_
          refine LL.done (s' := [(2, .int .i64 a2), (3, .pointer (some ⟨g130, 0, none⟩)), (4, .pointer (some ⟨g131, 0, none⟩)), (6, .int .i64 0), (7, .int .i64 0)]) [2, 3, 4, 6, 7] (by kernel_rfl) ?_
          refine NN.then ?_
          refine J.block ?_
          refine J.to [2, 3, 4, 6, 7] (s' := [(2, .int .i64 a2), (3, .pointer (some ⟨g130, 0, none⟩)), (4, .pointer (some ⟨g131, 0, none⟩)), (6, .int .i64 0), (7, .int .i64 0)]) (by kernel_rfl) ?_
          refine J.loop (fun n_ s_ bs_ => ∃ (x7 : Int), sawmillref39_Allow.l0 K a0_1 a0_2 a1_0 a1_1 a1_2 a1_3 a1_4 a1_5 a1_6 a1_7 a1_8 a1_9 a1_10 a1_11 a1_12 a2 n_ x7 = some r1 ∧ s_ = [(2, .int .i64 a2), (3, .pointer (some ⟨g130, 0, none⟩)), (4, .pointer (some ⟨g131, 0, none⟩)), (6, .int .i64 0), (7, .int .i64 x7)] ∧ bs_ = [(g131, cl [.string a1_0, .int .i64 a1_1, .int .i64 a1_2, .int .i64 a1_3, .int .i64 a1_4, .int .i64 a1_5, .int .i64 a1_6, .int .i64 a1_7, .int .i64 a1_8, .int .i64 a1_9, .int .i64 a1_10, .int .i64 a1_11, .int .i64 a1_12] 35), (g130, cl [.string a0_0, .int .i64 a0_1, .int .i64 a0_2, .int .i64 a0_3, .int .i64 a0_4, .slice Aa0_5 na0_5 ca0_5, .slice Aa0_6 na0_6 ca0_6] 33)]) K ⟨0, H, rfl, rfl⟩ ?_
          rintro (_ | n_) s_ bs_ ⟨x7, H, rfl, rfl⟩
          · exact absurd H (by simp [sawmillref39_Allow.l0])
          simp only [sawmillref39_Allow.l0] at H
          refine J.seq ?_
          refine J.seq ?_
          refine J.plain ?_
          refine LL.op (.int .i64 x7) (by kernel_rfl) (fun w _ => by kernel_rfl) ?_
          refine LL.op (.bool (decide (x7 ≤ 200))) (by kernel_rfl) (fun w _ => by kernel_rfl) ?_
          refine LL.done (s' := [(2, .int .i64 a2), (3, .pointer (some ⟨g130, 0, none⟩)), (4, .pointer (some ⟨g131, 0, none⟩)), (6, .int .i64 0), (7, .int .i64 x7), (29, .bool (decide (x7 ≤ 200)))]) [2, 3, 4, 6, 7, 29] (by kernel_rfl) ?_
          refine NN.then ?_
          rcases Bool.eq_false_or_eq_true (decide (x7 ≤ 200)) with c136 | c136
          · rw [if_pos (of_decide_eq_true c136)] at H
            refine J.condT (b := decide (x7 ≤ 200)) c136 (by kernel_rfl) (by kernel_rfl) ?_
            refine J.skip ?_
            refine NN.then ?_
            refine J.seq ?_
            refine J.block ?_
            refine J.seq ?_
            refine J.plain ?_
            refine LL.op (.pointer (some ⟨g130, 1, none⟩)) (by kernel_rfl) (fun w _ => by kernel_rfl) ?_
            refine LL.op (.int .i64 a0_1) (by kernel_rfl) (ld 1 g130 1 rfl (by kernel_rfl) rfl (by kernel_rfl)) ?_
            refine LL.op (.pointer (some ⟨g130, 2, none⟩)) (by kernel_rfl) (fun w _ => by kernel_rfl) ?_
            refine LL.op (.int .i64 a0_2) (by kernel_rfl) (ld 1 g130 2 rfl (by kernel_rfl) rfl (by kernel_rfl)) ?_
            refine LL.op (.int .i64 x7) (by kernel_rfl) (fun w _ => by kernel_rfl) ?_
            refine LL.op (.agg #[.string (⟨#[]⟩ : ByteArray), .int .i64 a0_1, .int .i64 a0_2, .int .i64 x7, .int .i64 0, .slice none 0 0, .slice none 0 0]) (by kernel_rfl) (fun w _ => by kernel_rfl) ?_
            obtain ⟨⟨x137_1, x137_2⟩, hx137, H⟩ := bind_some H
            (try dsimp only at H)
            refine LL.call 31 #[.agg #[.string (⟨#[]⟩ : ByteArray), .int .i64 a0_1, .int .i64 a0_2, .int .i64 x7, .int .i64 0, .slice none 0 0, .slice none 0 0]] (.tuple #[.int .i64 x137_1, .int .i64 x137_2]) (by kernel_rfl) (fun w => by kernel_rfl) (fun w hw => sawmillref19_Green.calls (⟨#[]⟩ : ByteArray) a0_1 a0_2 x7 0  _ _ _ _ _ _ _ _ w   hx137) ?_
            refine LL.op (.tuple #[.int .i64 x137_1, .int .i64 x137_2]) (by kernel_rfl) (fun w _ => by kernel_rfl) ?_
            refine LL.op (.int .i64 x137_1) (by kernel_rfl) (fun w _ => by kernel_rfl) ?_
            refine LL.op (.int .i64 x137_2) (by kernel_rfl) (fun w _ => by kernel_rfl) ?_
            refine LL.op (.int .i64 x137_1) (by kernel_rfl) (fun w _ => by kernel_rfl) ?_
            refine LL.op (.int .i64 x137_2) (by kernel_rfl) (fun w _ => by kernel_rfl) ?_
            refine LL.done (s' := [(2, .int .i64 a2), (3, .pointer (some ⟨g130, 0, none⟩)), (4, .pointer (some ⟨g131, 0, none⟩)), (6, .int .i64 0), (7, .int .i64 x7), (8, .int .i64 x137_1), (9, .int .i64 x137_2)]) [2, 3, 4, 6, 7, 8, 9] (by kernel_rfl) ?_
            refine NN.then ?_
            refine J.seq ?_
            refine J.drawn follows (by kernel_rfl) ?_
            refine QQ.op (.agg #[.string a1_0, .int .i64 a1_1, .int .i64 a1_2, .int .i64 a1_3, .int .i64 a1_4, .int .i64 a1_5, .int .i64 a1_6, .int .i64 a1_7, .int .i64 a1_8, .int .i64 a1_9, .int .i64 a1_10, .int .i64 a1_11, .int .i64 a1_12]) (by kernel_rfl) (ld 0 g131 0 rfl (by kernel_rfl) rfl (by kernel_rfl)) ?_
            refine QQ.op (.int .i64 x137_1) (by kernel_rfl) (fun w _ => by kernel_rfl) ?_
            refine QQ.op (.int .i64 a2) (by kernel_rfl) (fun w _ => by kernel_rfl) ?_
            obtain ⟨x138, hx138, H⟩ := bind_some H
            refine QQ.call 27 #[.agg #[.string a1_0, .int .i64 a1_1, .int .i64 a1_2, .int .i64 a1_3, .int .i64 a1_4, .int .i64 a1_5, .int .i64 a1_6, .int .i64 a1_7, .int .i64 a1_8, .int .i64 a1_9, .int .i64 a1_10, .int .i64 a1_11, .int .i64 a1_12], .int .i64 x137_1, .int .i64 a2] (.int .i64 x138) (by kernel_rfl) (fun w => by kernel_rfl) (fun w hw => sawmillref34_Shrunk.calls a1_0 a1_1 a1_2 a1_3 a1_4 a1_5 a1_6 a1_7 a1_8 a1_9 a1_10 a1_11 a1_12 x137_1 a2   _ w   hx138) ?_
            refine QQ.op (.pointer (some ⟨g130, 1, none⟩)) (by kernel_rfl) (fun w _ => by kernel_rfl) ?_
            refine QQ.op (.int .i64 a0_1) (by kernel_rfl) (ld 1 g130 1 rfl (by kernel_rfl) rfl (by kernel_rfl)) ?_
            refine QQ.op (.bool (decide (a0_1 ≤ x138))) (by kernel_rfl) (fun w _ => by kernel_rfl) ?_
            refine QQ.op (.bool (decide (a0_1 ≤ x138))) (by kernel_rfl) (fun w _ => by kernel_rfl) ?_
            rcases Bool.eq_false_or_eq_true (decide (a0_1 ≤ x138)) with c139 | c139
            · rw [if_pos (of_decide_eq_true c139)] at H
              refine QQ.bool 49 (decide (a0_1 ≤ x138)) true c139 (by kernel_rfl) ?_
              refine QQ.op (.agg #[.string a1_0, .int .i64 a1_1, .int .i64 a1_2, .int .i64 a1_3, .int .i64 a1_4, .int .i64 a1_5, .int .i64 a1_6, .int .i64 a1_7, .int .i64 a1_8, .int .i64 a1_9, .int .i64 a1_10, .int .i64 a1_11, .int .i64 a1_12]) (by kernel_rfl) (ld 0 g131 0 rfl (by kernel_rfl) rfl (by kernel_rfl)) ?_
              refine QQ.op (.int .i64 x137_2) (by kernel_rfl) (fun w _ => by kernel_rfl) ?_
              refine QQ.op (.int .i64 a2) (by kernel_rfl) (fun w _ => by kernel_rfl) ?_
              obtain ⟨x140, hx140, H⟩ := bind_some H
              refine QQ.call 27 #[.agg #[.string a1_0, .int .i64 a1_1, .int .i64 a1_2, .int .i64 a1_3, .int .i64 a1_4, .int .i64 a1_5, .int .i64 a1_6, .int .i64 a1_7, .int .i64 a1_8, .int .i64 a1_9, .int .i64 a1_10, .int .i64 a1_11, .int .i64 a1_12], .int .i64 x137_2, .int .i64 a2] (.int .i64 x140) (by kernel_rfl) (fun w => by kernel_rfl) (fun w hw => sawmillref34_Shrunk.calls a1_0 a1_1 a1_2 a1_3 a1_4 a1_5 a1_6 a1_7 a1_8 a1_9 a1_10 a1_11 a1_12 x137_2 a2   _ w   hx140) ?_
              refine QQ.op (.pointer (some ⟨g130, 2, none⟩)) (by kernel_rfl) (fun w _ => by kernel_rfl) ?_
              refine QQ.op (.int .i64 a0_2) (by kernel_rfl) (ld 1 g130 2 rfl (by kernel_rfl) rfl (by kernel_rfl)) ?_
              refine QQ.op (.bool (decide (a0_2 ≤ x140))) (by kernel_rfl) (fun w _ => by kernel_rfl) ?_
              refine QQ.op (.bool (decide (a0_2 ≤ x140))) (by kernel_rfl) (fun w _ => by kernel_rfl) ?_
              refine QQ.done (s' := [(2, .int .i64 a2), (3, .pointer (some ⟨g130, 0, none⟩)), (4, .pointer (some ⟨g131, 0, none⟩)), (6, .int .i64 0), (7, .int .i64 x7), (57, .bool (decide (a0_2 ≤ x140)))]) [2, 3, 4, 6, 7, 57] (by kernel_rfl) ?_
              refine NN.then ?_
              rcases Bool.eq_false_or_eq_true (decide (a0_2 ≤ x140)) with c141 | c141
              · rw [if_pos (of_decide_eq_true c141)] at H
                refine J.condT (b := decide (a0_2 ≤ x140)) c141 (by kernel_rfl) (by kernel_rfl) ?_
                refine J.seq ?_
                refine J.plain ?_
                refine LL.op (.int .i64 x7) (by kernel_rfl) (fun w _ => by kernel_rfl) ?_
                refine LL.op (.int .i64 x7) (by kernel_rfl) (fun w _ => by kernel_rfl) ?_
                refine LL.done (s' := [(2, .int .i64 a2), (3, .pointer (some ⟨g130, 0, none⟩)), (4, .pointer (some ⟨g131, 0, none⟩)), (6, .int .i64 x7), (7, .int .i64 x7)]) [2, 3, 4, 6, 7] (by kernel_rfl) ?_
                refine NN.then ?_
                refine J.ret ?_
                refine NN.block_ret ?_
                refine NN.then_ret ?_
                refine NN.then_ret ?_
                refine NN.block_ret ?_
                refine NN.then_ret ?_
                refine NN.fin1 6 (.int .i64 x7) (by kernel_rfl) (by kernel_rfl) (.inl rfl) (fun w hi => hi.ret ?_)
                first | (cases H; rfl) | (obtain rfl := Option.some.inj H; rfl) | (simp only [Option.some.injEq, Prod.mk.injEq] at H; obtain ⟨rfl⟩ := H; rfl)
              · rw [if_neg (of_decide_eq_false c141)] at H
                refine J.condF (b := decide (a0_2 ≤ x140)) c141 (by kernel_rfl) (by kernel_rfl) ?_
                refine J.skip ?_
                refine NN.block_n ?_
                refine NN.then ?_
                refine J.plain ?_
                refine LL.op (.int .i64 x7) (by kernel_rfl) (fun w _ => by kernel_rfl) ?_
                refine LL.op (.int .i64 (IntKind.i64.wrap (x7 + 1))) (by kernel_rfl) (fun w _ => by kernel_rfl) ?_
                refine LL.op (.int .i64 (IntKind.i64.wrap (x7 + 1))) (by kernel_rfl) (fun w _ => by kernel_rfl) ?_
                refine LL.done (s' := [(2, .int .i64 a2), (3, .pointer (some ⟨g130, 0, none⟩)), (4, .pointer (some ⟨g131, 0, none⟩)), (6, .int .i64 0), (7, .int .i64 (IntKind.i64.wrap (x7 + 1)))]) [2, 3, 4, 6, 7] (by kernel_rfl) ?_
                exact NN.round' [2, 3, 4, 6, 7] (bs' := [(g131, cl [.string a1_0, .int .i64 a1_1, .int .i64 a1_2, .int .i64 a1_3, .int .i64 a1_4, .int .i64 a1_5, .int .i64 a1_6, .int .i64 a1_7, .int .i64 a1_8, .int .i64 a1_9, .int .i64 a1_10, .int .i64 a1_11, .int .i64 a1_12] 35), (g130, cl [.string a0_0, .int .i64 a0_1, .int .i64 a0_2, .int .i64 a0_3, .int .i64 a0_4, .slice Aa0_5 na0_5 ca0_5, .slice Aa0_6 na0_6 ca0_6] 33)]) (Nat.lt_succ_self _) (List.Sublist.refl _) (by kernel_rfl) ⟨IntKind.i64.wrap (x7 + 1), H, rfl, rfl⟩
            · rw [if_neg (of_decide_eq_false c139)] at H
              refine QQ.bool 49 (decide (a0_1 ≤ x138)) false c139 (by kernel_rfl) ?_
              refine QQ.off (by kernel_rfl) (by kernel_rfl) ?_
              refine QQ.off (by kernel_rfl) (by kernel_rfl) ?_
              refine QQ.off (by kernel_rfl) (by kernel_rfl) ?_
              refine QQ.off (by kernel_rfl) (by kernel_rfl) ?_
              refine QQ.off (by kernel_rfl) (by kernel_rfl) ?_
              refine QQ.off (by kernel_rfl) (by kernel_rfl) ?_
              refine QQ.off (by kernel_rfl) (by kernel_rfl) ?_
              refine QQ.op (.bool false) (by kernel_rfl) (fun w _ => by kernel_rfl) ?_
              refine QQ.done (s' := [(2, .int .i64 a2), (3, .pointer (some ⟨g130, 0, none⟩)), (4, .pointer (some ⟨g131, 0, none⟩)), (6, .int .i64 0), (7, .int .i64 x7), (57, .bool false)]) [2, 3, 4, 6, 7, 57] (by kernel_rfl) ?_
              refine NN.then ?_
              refine J.condF (b := false) rfl (by kernel_rfl) (by kernel_rfl) ?_
              refine J.skip ?_
              refine NN.block_n ?_
              refine NN.then ?_
              refine J.plain ?_
              refine LL.op (.int .i64 x7) (by kernel_rfl) (fun w _ => by kernel_rfl) ?_
              refine LL.op (.int .i64 (IntKind.i64.wrap (x7 + 1))) (by kernel_rfl) (fun w _ => by kernel_rfl) ?_
              refine LL.op (.int .i64 (IntKind.i64.wrap (x7 + 1))) (by kernel_rfl) (fun w _ => by kernel_rfl) ?_
              refine LL.done (s' := [(2, .int .i64 a2), (3, .pointer (some ⟨g130, 0, none⟩)), (4, .pointer (some ⟨g131, 0, none⟩)), (6, .int .i64 0), (7, .int .i64 (IntKind.i64.wrap (x7 + 1)))]) [2, 3, 4, 6, 7] (by kernel_rfl) ?_
              exact NN.round' [2, 3, 4, 6, 7] (bs' := [(g131, cl [.string a1_0, .int .i64 a1_1, .int .i64 a1_2, .int .i64 a1_3, .int .i64 a1_4, .int .i64 a1_5, .int .i64 a1_6, .int .i64 a1_7, .int .i64 a1_8, .int .i64 a1_9, .int .i64 a1_10, .int .i64 a1_11, .int .i64 a1_12] 35), (g130, cl [.string a0_0, .int .i64 a0_1, .int .i64 a0_2, .int .i64 a0_3, .int .i64 a0_4, .slice Aa0_5 na0_5 ca0_5, .slice Aa0_6 na0_6 ca0_6] 33)]) (Nat.lt_succ_self _) (List.Sublist.refl _) (by kernel_rfl) ⟨IntKind.i64.wrap (x7 + 1), H, rfl, rfl⟩
          · rw [if_neg (of_decide_eq_false c136)] at H
            refine J.condF (b := decide (x7 ≤ 200)) c136 (by kernel_rfl) (by kernel_rfl) ?_
            refine J.exit ?_
            refine NN.then_exit ?_
            refine NN.then_exit ?_
            refine NN.block_same ?_
            refine NN.then ?_
            refine J.seq ?_
            refine J.plain ?_
            refine LL.op (.int .i64 201) (by kernel_rfl) (fun w _ => by kernel_rfl) ?_
            refine LL.done (s' := [(6, .int .i64 201)]) [6] (by kernel_rfl) ?_
            refine NN.then ?_
            refine J.ret ?_
            refine NN.fin1 6 (.int .i64 201) (by kernel_rfl) (by kernel_rfl) (.inl rfl) (fun w hi => hi.ret ?_)
            first | (cases H; rfl) | (obtain rfl := Option.some.inj H; rfl) | (simp only [Option.some.injEq, Prod.mk.injEq] at H; obtain ⟨rfl⟩ := H; rfl)

/-! ### units_division_of__42: function 43 -/
def units_division_of__42.f (a1 : Int) (a2 : Int) : Option (Int × Bool) := if a2 = 0 then (some (0, false)) else (if a1 = (-9223372036854775808) then (if a2 = (-1) then (some (0, false)) else (if (Int.tmod a1 a2) = 0 then ((units_Floor_1.f (Int.tmod a1 a2) a2).bind fun x147 => (if x147 = true then (some (IntKind.i64.wrap ((IntKind.i64.wrap (Int.tdiv a1 a2)) + 1), true)) else (some (IntKind.i64.wrap (Int.tdiv a1 a2), true)))) else (if (decide ((Int.tmod a1 a2) < 0)) = (decide (a2 < 0)) then ((units_Floor_1.f (Int.tmod a1 a2) a2).bind fun x150 => (if x150 = true then (some (IntKind.i64.wrap ((IntKind.i64.wrap (Int.tdiv a1 a2)) + 1), true)) else (some (IntKind.i64.wrap (Int.tdiv a1 a2), true)))) else ((units_Floor_1.f (IntKind.i64.wrap ((Int.tmod a1 a2) + a2)) a2).bind fun x152 => (if x152 = true then (some (IntKind.i64.wrap ((IntKind.i64.wrap ((IntKind.i64.wrap (Int.tdiv a1 a2)) - 1)) + 1), true)) else (some (IntKind.i64.wrap ((IntKind.i64.wrap (Int.tdiv a1 a2)) - 1), true))))))) else (if (Int.tmod a1 a2) = 0 then ((units_Floor_1.f (Int.tmod a1 a2) a2).bind fun x155 => (if x155 = true then (some (IntKind.i64.wrap ((IntKind.i64.wrap (Int.tdiv a1 a2)) + 1), true)) else (some (IntKind.i64.wrap (Int.tdiv a1 a2), true)))) else (if (decide ((Int.tmod a1 a2) < 0)) = (decide (a2 < 0)) then ((units_Floor_1.f (Int.tmod a1 a2) a2).bind fun x158 => (if x158 = true then (some (IntKind.i64.wrap ((IntKind.i64.wrap (Int.tdiv a1 a2)) + 1), true)) else (some (IntKind.i64.wrap (Int.tdiv a1 a2), true)))) else ((units_Floor_1.f (IntKind.i64.wrap ((Int.tmod a1 a2) + a2)) a2).bind fun x160 => (if x160 = true then (some (IntKind.i64.wrap ((IntKind.i64.wrap ((IntKind.i64.wrap (Int.tdiv a1 a2)) - 1)) + 1), true)) else (some (IntKind.i64.wrap ((IntKind.i64.wrap (Int.tdiv a1 a2)) - 1), true)))))))
set_option maxRecDepth 100000 in
theorem units_division_of__42.calls (a1 : Int) (a2 : Int)   (r1 : Int) (r2 : Bool) (w : World)   (h : units_division_of__42.f a1 a2 = some (r1, r2)) :
    Calls Try.prog 43 #[.agg #[.func (.func 42) #[] #[]], .int .i64 a1, .int .i64 a2] w (Ret w (.tuple #[.int .i64 r1, .bool r2])) := by
  have H := h
  clear h
  unfold units_division_of__42.f at H
  refine Go.Saw.calls (args := [.agg #[.func (.func 42) #[] #[]], .int .i64 a1, .int .i64 a2]) Try.func43 rfl Try.ntmps43 (by kernel_rfl) ?_
  refine J.seq ?_
  refine J.plain ?_
  refine LL.box 70 (.tmp 0) [.func (.func 42) #[] #[]] (by kernel_rfl) rfl (by kernel_rfl) (fun g142 => ?_)
  refine LL.op (.int .i64 0) (by kernel_rfl) (fun w _ => by kernel_rfl) ?_
  refine LL.op (.bool false) (by kernel_rfl) (fun w _ => by kernel_rfl) ?_
  refine LL.done (s' := [(1, .int .i64 a1), (2, .int .i64 a2), (3, .pointer (some ⟨g142, 0, none⟩)), (6, .int .i64 0), (7, .bool false)]) [1, 2, 3, 6, 7] (by kernel_rfl) ?_
  refine NN.then ?_
  refine J.seq ?_
  refine J.seq ?_
  refine J.plain ?_
  refine LL.op (.int .i64 a2) (by kernel_rfl) (fun w _ => by kernel_rfl) ?_
  refine LL.op (.bool (a2 == 0)) (by kernel_rfl) (fun w _ => by kernel_rfl) ?_
  refine LL.op (.bool (a2 == 0)) (by kernel_rfl) (fun w _ => by kernel_rfl) ?_
  rcases Bool.eq_false_or_eq_true ((a2 == 0)) with c143 | c143
  · rw [if_pos (eq_of_beq c143)] at H
    refine LL.bool 12 ((a2 == 0)) true c143 (by kernel_rfl) ?_
    refine LL.off (by kernel_rfl) (by kernel_rfl) ?_
    refine LL.off (by kernel_rfl) (by kernel_rfl) ?_
    refine LL.off (by kernel_rfl) (by kernel_rfl) ?_
    refine LL.off (by kernel_rfl) (by kernel_rfl) ?_
    refine LL.off (by kernel_rfl) (by kernel_rfl) ?_
    refine LL.off (by kernel_rfl) (by kernel_rfl) ?_
    refine LL.op (.bool true) (by kernel_rfl) (fun w _ => by kernel_rfl) ?_
    refine LL.done (s' := [(1, .int .i64 a1), (2, .int .i64 a2), (3, .pointer (some ⟨g142, 0, none⟩)), (6, .int .i64 0), (7, .bool false), (19, .bool true)]) [1, 2, 3, 6, 7, 19] (by kernel_rfl) ?_
    refine NN.then ?_
    refine J.condT (b := true) rfl (by kernel_rfl) (by kernel_rfl) ?_
    refine J.seq ?_
    refine J.plain ?_
    refine LL.op (.int .i64 0) (by kernel_rfl) (fun w _ => by kernel_rfl) ?_
    refine LL.op (.bool false) (by kernel_rfl) (fun w _ => by kernel_rfl) ?_
    refine LL.done (s' := [(1, .int .i64 a1), (2, .int .i64 a2), (3, .pointer (some ⟨g142, 0, none⟩)), (6, .int .i64 0), (7, .bool false)]) [1, 2, 3, 6, 7] (by kernel_rfl) ?_
    refine NN.then ?_
    refine J.ret ?_
    refine NN.then_ret ?_
    refine NN.fin2 6 7 (.int .i64 0) (.bool false) (by kernel_rfl) (by kernel_rfl) (by kernel_rfl) (.inl rfl) (fun w hi => hi.ret ?_)
    first | (cases H; rfl) | (obtain rfl := Option.some.inj H; rfl) | (simp only [Option.some.injEq, Prod.mk.injEq] at H; obtain ⟨rfl, rfl⟩ := H; rfl)
  · rw [if_neg (nebf c143)] at H
    refine LL.bool 12 ((a2 == 0)) false c143 (by kernel_rfl) ?_
    refine LL.op (.int .i64 a1) (by kernel_rfl) (fun w _ => by kernel_rfl) ?_
    refine LL.op (.bool (a1 == (-9223372036854775808))) (by kernel_rfl) (fun w _ => by kernel_rfl) ?_
    refine LL.op (.bool (a1 == (-9223372036854775808))) (by kernel_rfl) (fun w _ => by kernel_rfl) ?_
    rcases Bool.eq_false_or_eq_true ((a1 == (-9223372036854775808))) with c144 | c144
    · rw [if_pos (eq_of_beq c144)] at H
      refine LL.bool 15 ((a1 == (-9223372036854775808))) true c144 (by kernel_rfl) ?_
      refine LL.op (.int .i64 a2) (by kernel_rfl) (fun w _ => by kernel_rfl) ?_
      refine LL.op (.bool (a2 == (-1))) (by kernel_rfl) (fun w _ => by kernel_rfl) ?_
      refine LL.op (.bool (a2 == (-1))) (by kernel_rfl) (fun w _ => by kernel_rfl) ?_
      refine LL.op (.bool (a2 == (-1))) (by kernel_rfl) (fun w _ => by kernel_rfl) ?_
      refine LL.done (s' := [(1, .int .i64 a1), (2, .int .i64 a2), (3, .pointer (some ⟨g142, 0, none⟩)), (6, .int .i64 0), (7, .bool false), (19, .bool (a2 == (-1)))]) [1, 2, 3, 6, 7, 19] (by kernel_rfl) ?_
      refine NN.then ?_
      rcases Bool.eq_false_or_eq_true ((a2 == (-1))) with c145 | c145
      · rw [if_pos (eq_of_beq c145)] at H
        refine J.condT (b := (a2 == (-1))) c145 (by kernel_rfl) (by kernel_rfl) ?_
        refine J.seq ?_
        refine J.plain ?_
        refine LL.op (.int .i64 0) (by kernel_rfl) (fun w _ => by kernel_rfl) ?_
        refine LL.op (.bool false) (by kernel_rfl) (fun w _ => by kernel_rfl) ?_
        refine LL.done (s' := [(1, .int .i64 a1), (2, .int .i64 a2), (3, .pointer (some ⟨g142, 0, none⟩)), (6, .int .i64 0), (7, .bool false)]) [1, 2, 3, 6, 7] (by kernel_rfl) ?_
        refine NN.then ?_
        refine J.ret ?_
        refine NN.then_ret ?_
        refine NN.fin2 6 7 (.int .i64 0) (.bool false) (by kernel_rfl) (by kernel_rfl) (by kernel_rfl) (.inl rfl) (fun w hi => hi.ret ?_)
        first | (cases H; rfl) | (obtain rfl := Option.some.inj H; rfl) | (simp only [Option.some.injEq, Prod.mk.injEq] at H; obtain ⟨rfl, rfl⟩ := H; rfl)
      · rw [if_neg (nebf c145)] at H
        refine J.condF (b := (a2 == (-1))) c145 (by kernel_rfl) (by kernel_rfl) ?_
        refine J.skip ?_
        refine NN.then ?_
        refine J.seq ?_
        refine J.drawn follows (by kernel_rfl) ?_
        refine QQ.op (.int .i64 a1) (by kernel_rfl) (fun w _ => by kernel_rfl) ?_
        refine QQ.op (.int .i64 a2) (by kernel_rfl) (fun w _ => by kernel_rfl) ?_
        refine QQ.op (.int .i64 (IntKind.i64.wrap (Int.tdiv a1 a2))) (by kernel_rfl) (run_quo rfl (by kernel_rfl) (by kernel_rfl) (nebf c143) rfl) ?_
        refine QQ.op (.int .i64 a1) (by kernel_rfl) (fun w _ => by kernel_rfl) ?_
        refine QQ.op (.int .i64 a2) (by kernel_rfl) (fun w _ => by kernel_rfl) ?_
        refine QQ.op (.int .i64 (Int.tmod a1 a2)) (by kernel_rfl) (run_rem rfl (by kernel_rfl) (by kernel_rfl) (nebf c143) rfl) ?_
        refine QQ.op (.int .i64 (IntKind.i64.wrap (Int.tdiv a1 a2))) (by kernel_rfl) (fun w _ => by kernel_rfl) ?_
        refine QQ.op (.int .i64 (Int.tmod a1 a2)) (by kernel_rfl) (fun w _ => by kernel_rfl) ?_
        refine QQ.done (s' := [(2, .int .i64 a2), (3, .pointer (some ⟨g142, 0, none⟩)), (6, .int .i64 0), (7, .bool false), (8, .int .i64 (IntKind.i64.wrap (Int.tdiv a1 a2))), (9, .int .i64 (Int.tmod a1 a2))]) [2, 3, 6, 7, 8, 9] (by kernel_rfl) ?_
        refine NN.then ?_
        refine J.seq ?_
        refine J.seq ?_
        refine J.plain ?_
        refine LL.op (.int .i64 (Int.tmod a1 a2)) (by kernel_rfl) (fun w _ => by kernel_rfl) ?_
        refine LL.op (.bool (!((Int.tmod a1 a2) == 0))) (by kernel_rfl) (fun w _ => by kernel_rfl) ?_
        refine LL.op (.bool (!((Int.tmod a1 a2) == 0))) (by kernel_rfl) (fun w _ => by kernel_rfl) ?_
        rcases Bool.eq_false_or_eq_true (((Int.tmod a1 a2) == 0)) with c146 | c146
        · rw [if_pos (eq_of_beq c146)] at H
          refine LL.bool 28 (!((Int.tmod a1 a2) == 0)) false (by rw [show (!((Int.tmod a1 a2) == 0)) = !(((Int.tmod a1 a2) == 0)) from rfl, c146]; rfl) (by kernel_rfl) ?_
          refine LL.off (by kernel_rfl) (by kernel_rfl) ?_
          refine LL.off (by kernel_rfl) (by kernel_rfl) ?_
          refine LL.off (by kernel_rfl) (by kernel_rfl) ?_
          refine LL.off (by kernel_rfl) (by kernel_rfl) ?_
          refine LL.off (by kernel_rfl) (by kernel_rfl) ?_
          refine LL.op (.bool false) (by kernel_rfl) (fun w _ => by kernel_rfl) ?_
          refine LL.done (s' := [(2, .int .i64 a2), (3, .pointer (some ⟨g142, 0, none⟩)), (6, .int .i64 0), (7, .bool false), (8, .int .i64 (IntKind.i64.wrap (Int.tdiv a1 a2))), (9, .int .i64 (Int.tmod a1 a2)), (34, .bool false)]) [2, 3, 6, 7, 8, 9, 34] (by kernel_rfl) ?_
          refine NN.then ?_
          refine J.condF (b := false) rfl (by kernel_rfl) (by kernel_rfl) ?_
          refine J.skip ?_
          refine NN.then ?_
          refine J.seq ?_
          refine J.seq ?_
          refine J.plain ?_
          refine LL.op (.pointer (some ⟨g142, 0, none⟩)) (by kernel_rfl) (fun w _ => by kernel_rfl) ?_
          refine LL.op (.func (.func 42) #[] #[]) (by kernel_rfl) (ld 0 g142 0 rfl (by kernel_rfl) rfl (by kernel_rfl)) ?_
          refine LL.op (.int .i64 (Int.tmod a1 a2)) (by kernel_rfl) (fun w _ => by kernel_rfl) ?_
          refine LL.op (.int .i64 a2) (by kernel_rfl) (fun w _ => by kernel_rfl) ?_
          obtain ⟨x147, hx147, H⟩ := bind_some H
          refine LL.call 42 #[.int .i64 (Int.tmod a1 a2), .int .i64 a2] (.bool x147) (by kernel_rfl) (fun w => by kernel_rfl) (fun w hw => units_Floor_1.calls (Int.tmod a1 a2) a2   _ w   hx147) ?_
          refine LL.done (s' := [(6, .int .i64 0), (7, .bool false), (8, .int .i64 (IntKind.i64.wrap (Int.tdiv a1 a2))), (44, .bool x147)]) [6, 7, 8, 44] (by kernel_rfl) ?_
          refine NN.then ?_
          rcases Bool.eq_false_or_eq_true (x147) with c148 | c148
          · rw [if_pos (c148)] at H
            refine J.condT (b := x147) c148 (by kernel_rfl) (by kernel_rfl) ?_
            refine J.plain ?_
            refine LL.op (.int .i64 (IntKind.i64.wrap (Int.tdiv a1 a2))) (by kernel_rfl) (fun w _ => by kernel_rfl) ?_
            refine LL.op (.int .i64 (IntKind.i64.wrap ((IntKind.i64.wrap (Int.tdiv a1 a2)) + 1))) (by kernel_rfl) (fun w _ => by kernel_rfl) ?_
            refine LL.op (.int .i64 (IntKind.i64.wrap ((IntKind.i64.wrap (Int.tdiv a1 a2)) + 1))) (by kernel_rfl) (fun w _ => by kernel_rfl) ?_
            refine LL.done (s' := [(6, .int .i64 0), (7, .bool false), (8, .int .i64 (IntKind.i64.wrap ((IntKind.i64.wrap (Int.tdiv a1 a2)) + 1)))]) [6, 7, 8] (by kernel_rfl) ?_
            refine NN.then ?_
            refine J.seq ?_
            refine J.plain ?_
            refine LL.op (.int .i64 (IntKind.i64.wrap ((IntKind.i64.wrap (Int.tdiv a1 a2)) + 1))) (by kernel_rfl) (fun w _ => by kernel_rfl) ?_
            refine LL.op (.int .i64 (IntKind.i64.wrap ((IntKind.i64.wrap (Int.tdiv a1 a2)) + 1))) (by kernel_rfl) (fun w _ => by kernel_rfl) ?_
            refine LL.op (.bool true) (by kernel_rfl) (fun w _ => by kernel_rfl) ?_
            refine LL.done (s' := [(6, .int .i64 (IntKind.i64.wrap ((IntKind.i64.wrap (Int.tdiv a1 a2)) + 1))), (7, .bool true)]) [6, 7] (by kernel_rfl) ?_
            refine NN.then ?_
            refine J.ret ?_
            refine NN.fin2 6 7 (.int .i64 (IntKind.i64.wrap ((IntKind.i64.wrap (Int.tdiv a1 a2)) + 1))) (.bool true) (by kernel_rfl) (by kernel_rfl) (by kernel_rfl) (.inl rfl) (fun w hi => hi.ret ?_)
            first | (cases H; rfl) | (obtain rfl := Option.some.inj H; rfl) | (simp only [Option.some.injEq, Prod.mk.injEq] at H; obtain ⟨rfl, rfl⟩ := H; rfl)
          · rw [if_neg (nebt c148)] at H
            refine J.condF (b := x147) c148 (by kernel_rfl) (by kernel_rfl) ?_
            refine J.skip ?_
            refine NN.then ?_
            refine J.seq ?_
            refine J.plain ?_
            refine LL.op (.int .i64 (IntKind.i64.wrap (Int.tdiv a1 a2))) (by kernel_rfl) (fun w _ => by kernel_rfl) ?_
            refine LL.op (.int .i64 (IntKind.i64.wrap (Int.tdiv a1 a2))) (by kernel_rfl) (fun w _ => by kernel_rfl) ?_
            refine LL.op (.bool true) (by kernel_rfl) (fun w _ => by kernel_rfl) ?_
            refine LL.done (s' := [(6, .int .i64 (IntKind.i64.wrap (Int.tdiv a1 a2))), (7, .bool true)]) [6, 7] (by kernel_rfl) ?_
            refine NN.then ?_
            refine J.ret ?_
            refine NN.fin2 6 7 (.int .i64 (IntKind.i64.wrap (Int.tdiv a1 a2))) (.bool true) (by kernel_rfl) (by kernel_rfl) (by kernel_rfl) (.inl rfl) (fun w hi => hi.ret ?_)
            first | (cases H; rfl) | (obtain rfl := Option.some.inj H; rfl) | (simp only [Option.some.injEq, Prod.mk.injEq] at H; obtain ⟨rfl, rfl⟩ := H; rfl)
        · rw [if_neg (nebf c146)] at H
          refine LL.bool 28 (!((Int.tmod a1 a2) == 0)) true (by rw [show (!((Int.tmod a1 a2) == 0)) = !(((Int.tmod a1 a2) == 0)) from rfl, c146]; rfl) (by kernel_rfl) ?_
          refine LL.op (.int .i64 (Int.tmod a1 a2)) (by kernel_rfl) (fun w _ => by kernel_rfl) ?_
          refine LL.op (.bool (decide ((Int.tmod a1 a2) < 0))) (by kernel_rfl) (fun w _ => by kernel_rfl) ?_
          refine LL.op (.int .i64 a2) (by kernel_rfl) (fun w _ => by kernel_rfl) ?_
          refine LL.op (.bool (decide (a2 < 0))) (by kernel_rfl) (fun w _ => by kernel_rfl) ?_
          refine LL.op (.bool ((decide ((Int.tmod a1 a2) < 0)) != (decide (a2 < 0)))) (by kernel_rfl) (fun w _ => by kernel_rfl) ?_
          refine LL.op (.bool ((decide ((Int.tmod a1 a2) < 0)) != (decide (a2 < 0)))) (by kernel_rfl) (fun w _ => by kernel_rfl) ?_
          refine LL.done (s' := [(2, .int .i64 a2), (3, .pointer (some ⟨g142, 0, none⟩)), (6, .int .i64 0), (7, .bool false), (8, .int .i64 (IntKind.i64.wrap (Int.tdiv a1 a2))), (9, .int .i64 (Int.tmod a1 a2)), (34, .bool ((decide ((Int.tmod a1 a2) < 0)) != (decide (a2 < 0))))]) [2, 3, 6, 7, 8, 9, 34] (by kernel_rfl) ?_
          refine NN.then ?_
          rcases Bool.eq_false_or_eq_true (((decide ((Int.tmod a1 a2) < 0)) == (decide (a2 < 0)))) with c149 | c149
          · rw [if_pos (eq_of_beq c149)] at H
            refine J.condF (b := ((decide ((Int.tmod a1 a2) < 0)) != (decide (a2 < 0)))) (by rw [show ((decide ((Int.tmod a1 a2) < 0)) != (decide (a2 < 0))) = !(((decide ((Int.tmod a1 a2) < 0)) == (decide (a2 < 0)))) from rfl, c149]; rfl) (by kernel_rfl) (by kernel_rfl) ?_
            refine J.skip ?_
            refine NN.then ?_
            refine J.seq ?_
            refine J.seq ?_
            refine J.plain ?_
            refine LL.op (.pointer (some ⟨g142, 0, none⟩)) (by kernel_rfl) (fun w _ => by kernel_rfl) ?_
            refine LL.op (.func (.func 42) #[] #[]) (by kernel_rfl) (ld 0 g142 0 rfl (by kernel_rfl) rfl (by kernel_rfl)) ?_
            refine LL.op (.int .i64 (Int.tmod a1 a2)) (by kernel_rfl) (fun w _ => by kernel_rfl) ?_
            refine LL.op (.int .i64 a2) (by kernel_rfl) (fun w _ => by kernel_rfl) ?_
            obtain ⟨x150, hx150, H⟩ := bind_some H
            refine LL.call 42 #[.int .i64 (Int.tmod a1 a2), .int .i64 a2] (.bool x150) (by kernel_rfl) (fun w => by kernel_rfl) (fun w hw => units_Floor_1.calls (Int.tmod a1 a2) a2   _ w   hx150) ?_
            refine LL.done (s' := [(6, .int .i64 0), (7, .bool false), (8, .int .i64 (IntKind.i64.wrap (Int.tdiv a1 a2))), (44, .bool x150)]) [6, 7, 8, 44] (by kernel_rfl) ?_
            refine NN.then ?_
            rcases Bool.eq_false_or_eq_true (x150) with c151 | c151
            · rw [if_pos (c151)] at H
              refine J.condT (b := x150) c151 (by kernel_rfl) (by kernel_rfl) ?_
              refine J.plain ?_
              refine LL.op (.int .i64 (IntKind.i64.wrap (Int.tdiv a1 a2))) (by kernel_rfl) (fun w _ => by kernel_rfl) ?_
              refine LL.op (.int .i64 (IntKind.i64.wrap ((IntKind.i64.wrap (Int.tdiv a1 a2)) + 1))) (by kernel_rfl) (fun w _ => by kernel_rfl) ?_
              refine LL.op (.int .i64 (IntKind.i64.wrap ((IntKind.i64.wrap (Int.tdiv a1 a2)) + 1))) (by kernel_rfl) (fun w _ => by kernel_rfl) ?_
              refine LL.done (s' := [(6, .int .i64 0), (7, .bool false), (8, .int .i64 (IntKind.i64.wrap ((IntKind.i64.wrap (Int.tdiv a1 a2)) + 1)))]) [6, 7, 8] (by kernel_rfl) ?_
              refine NN.then ?_
              refine J.seq ?_
              refine J.plain ?_
              refine LL.op (.int .i64 (IntKind.i64.wrap ((IntKind.i64.wrap (Int.tdiv a1 a2)) + 1))) (by kernel_rfl) (fun w _ => by kernel_rfl) ?_
              refine LL.op (.int .i64 (IntKind.i64.wrap ((IntKind.i64.wrap (Int.tdiv a1 a2)) + 1))) (by kernel_rfl) (fun w _ => by kernel_rfl) ?_
              refine LL.op (.bool true) (by kernel_rfl) (fun w _ => by kernel_rfl) ?_
              refine LL.done (s' := [(6, .int .i64 (IntKind.i64.wrap ((IntKind.i64.wrap (Int.tdiv a1 a2)) + 1))), (7, .bool true)]) [6, 7] (by kernel_rfl) ?_
              refine NN.then ?_
              refine J.ret ?_
              refine NN.fin2 6 7 (.int .i64 (IntKind.i64.wrap ((IntKind.i64.wrap (Int.tdiv a1 a2)) + 1))) (.bool true) (by kernel_rfl) (by kernel_rfl) (by kernel_rfl) (.inl rfl) (fun w hi => hi.ret ?_)
              first | (cases H; rfl) | (obtain rfl := Option.some.inj H; rfl) | (simp only [Option.some.injEq, Prod.mk.injEq] at H; obtain ⟨rfl, rfl⟩ := H; rfl)
            · rw [if_neg (nebt c151)] at H
              refine J.condF (b := x150) c151 (by kernel_rfl) (by kernel_rfl) ?_
              refine J.skip ?_
              refine NN.then ?_
              refine J.seq ?_
              refine J.plain ?_
              refine LL.op (.int .i64 (IntKind.i64.wrap (Int.tdiv a1 a2))) (by kernel_rfl) (fun w _ => by kernel_rfl) ?_
              refine LL.op (.int .i64 (IntKind.i64.wrap (Int.tdiv a1 a2))) (by kernel_rfl) (fun w _ => by kernel_rfl) ?_
              refine LL.op (.bool true) (by kernel_rfl) (fun w _ => by kernel_rfl) ?_
              refine LL.done (s' := [(6, .int .i64 (IntKind.i64.wrap (Int.tdiv a1 a2))), (7, .bool true)]) [6, 7] (by kernel_rfl) ?_
              refine NN.then ?_
              refine J.ret ?_
              refine NN.fin2 6 7 (.int .i64 (IntKind.i64.wrap (Int.tdiv a1 a2))) (.bool true) (by kernel_rfl) (by kernel_rfl) (by kernel_rfl) (.inl rfl) (fun w hi => hi.ret ?_)
              first | (cases H; rfl) | (obtain rfl := Option.some.inj H; rfl) | (simp only [Option.some.injEq, Prod.mk.injEq] at H; obtain ⟨rfl, rfl⟩ := H; rfl)
          · rw [if_neg (nebf c149)] at H
            refine J.condT (b := ((decide ((Int.tmod a1 a2) < 0)) != (decide (a2 < 0)))) (by rw [show ((decide ((Int.tmod a1 a2) < 0)) != (decide (a2 < 0))) = !(((decide ((Int.tmod a1 a2) < 0)) == (decide (a2 < 0)))) from rfl, c149]; rfl) (by kernel_rfl) (by kernel_rfl) ?_
            refine J.seq ?_
            refine J.plain ?_
            refine LL.op (.int .i64 (IntKind.i64.wrap (Int.tdiv a1 a2))) (by kernel_rfl) (fun w _ => by kernel_rfl) ?_
            refine LL.op (.int .i64 (IntKind.i64.wrap ((IntKind.i64.wrap (Int.tdiv a1 a2)) - 1))) (by kernel_rfl) (fun w _ => by kernel_rfl) ?_
            refine LL.op (.int .i64 (IntKind.i64.wrap ((IntKind.i64.wrap (Int.tdiv a1 a2)) - 1))) (by kernel_rfl) (fun w _ => by kernel_rfl) ?_
            refine LL.done (s' := [(2, .int .i64 a2), (3, .pointer (some ⟨g142, 0, none⟩)), (6, .int .i64 0), (7, .bool false), (8, .int .i64 (IntKind.i64.wrap ((IntKind.i64.wrap (Int.tdiv a1 a2)) - 1))), (9, .int .i64 (Int.tmod a1 a2))]) [2, 3, 6, 7, 8, 9] (by kernel_rfl) ?_
            refine NN.then ?_
            refine J.plain ?_
            refine LL.op (.int .i64 (Int.tmod a1 a2)) (by kernel_rfl) (fun w _ => by kernel_rfl) ?_
            refine LL.op (.int .i64 a2) (by kernel_rfl) (fun w _ => by kernel_rfl) ?_
            refine LL.op (.int .i64 (IntKind.i64.wrap ((Int.tmod a1 a2) + a2))) (by kernel_rfl) (fun w _ => by kernel_rfl) ?_
            refine LL.op (.int .i64 (IntKind.i64.wrap ((Int.tmod a1 a2) + a2))) (by kernel_rfl) (fun w _ => by kernel_rfl) ?_
            refine LL.done (s' := [(2, .int .i64 a2), (3, .pointer (some ⟨g142, 0, none⟩)), (6, .int .i64 0), (7, .bool false), (8, .int .i64 (IntKind.i64.wrap ((IntKind.i64.wrap (Int.tdiv a1 a2)) - 1))), (9, .int .i64 (IntKind.i64.wrap ((Int.tmod a1 a2) + a2)))]) [2, 3, 6, 7, 8, 9] (by kernel_rfl) ?_
            refine NN.then ?_
            refine J.seq ?_
            refine J.seq ?_
            refine J.plain ?_
            refine LL.op (.pointer (some ⟨g142, 0, none⟩)) (by kernel_rfl) (fun w _ => by kernel_rfl) ?_
            refine LL.op (.func (.func 42) #[] #[]) (by kernel_rfl) (ld 0 g142 0 rfl (by kernel_rfl) rfl (by kernel_rfl)) ?_
            refine LL.op (.int .i64 (IntKind.i64.wrap ((Int.tmod a1 a2) + a2))) (by kernel_rfl) (fun w _ => by kernel_rfl) ?_
            refine LL.op (.int .i64 a2) (by kernel_rfl) (fun w _ => by kernel_rfl) ?_
            obtain ⟨x152, hx152, H⟩ := bind_some H
            refine LL.call 42 #[.int .i64 (IntKind.i64.wrap ((Int.tmod a1 a2) + a2)), .int .i64 a2] (.bool x152) (by kernel_rfl) (fun w => by kernel_rfl) (fun w hw => units_Floor_1.calls (IntKind.i64.wrap ((Int.tmod a1 a2) + a2)) a2   _ w   hx152) ?_
            refine LL.done (s' := [(6, .int .i64 0), (7, .bool false), (8, .int .i64 (IntKind.i64.wrap ((IntKind.i64.wrap (Int.tdiv a1 a2)) - 1))), (44, .bool x152)]) [6, 7, 8, 44] (by kernel_rfl) ?_
            refine NN.then ?_
            rcases Bool.eq_false_or_eq_true (x152) with c153 | c153
            · rw [if_pos (c153)] at H
              refine J.condT (b := x152) c153 (by kernel_rfl) (by kernel_rfl) ?_
              refine J.plain ?_
              refine LL.op (.int .i64 (IntKind.i64.wrap ((IntKind.i64.wrap (Int.tdiv a1 a2)) - 1))) (by kernel_rfl) (fun w _ => by kernel_rfl) ?_
              refine LL.op (.int .i64 (IntKind.i64.wrap ((IntKind.i64.wrap ((IntKind.i64.wrap (Int.tdiv a1 a2)) - 1)) + 1))) (by kernel_rfl) (fun w _ => by kernel_rfl) ?_
              refine LL.op (.int .i64 (IntKind.i64.wrap ((IntKind.i64.wrap ((IntKind.i64.wrap (Int.tdiv a1 a2)) - 1)) + 1))) (by kernel_rfl) (fun w _ => by kernel_rfl) ?_
              refine LL.done (s' := [(6, .int .i64 0), (7, .bool false), (8, .int .i64 (IntKind.i64.wrap ((IntKind.i64.wrap ((IntKind.i64.wrap (Int.tdiv a1 a2)) - 1)) + 1)))]) [6, 7, 8] (by kernel_rfl) ?_
              refine NN.then ?_
              refine J.seq ?_
              refine J.plain ?_
              refine LL.op (.int .i64 (IntKind.i64.wrap ((IntKind.i64.wrap ((IntKind.i64.wrap (Int.tdiv a1 a2)) - 1)) + 1))) (by kernel_rfl) (fun w _ => by kernel_rfl) ?_
              refine LL.op (.int .i64 (IntKind.i64.wrap ((IntKind.i64.wrap ((IntKind.i64.wrap (Int.tdiv a1 a2)) - 1)) + 1))) (by kernel_rfl) (fun w _ => by kernel_rfl) ?_
              refine LL.op (.bool true) (by kernel_rfl) (fun w _ => by kernel_rfl) ?_
              refine LL.done (s' := [(6, .int .i64 (IntKind.i64.wrap ((IntKind.i64.wrap ((IntKind.i64.wrap (Int.tdiv a1 a2)) - 1)) + 1))), (7, .bool true)]) [6, 7] (by kernel_rfl) ?_
              refine NN.then ?_
              refine J.ret ?_
              refine NN.fin2 6 7 (.int .i64 (IntKind.i64.wrap ((IntKind.i64.wrap ((IntKind.i64.wrap (Int.tdiv a1 a2)) - 1)) + 1))) (.bool true) (by kernel_rfl) (by kernel_rfl) (by kernel_rfl) (.inl rfl) (fun w hi => hi.ret ?_)
              first | (cases H; rfl) | (obtain rfl := Option.some.inj H; rfl) | (simp only [Option.some.injEq, Prod.mk.injEq] at H; obtain ⟨rfl, rfl⟩ := H; rfl)
            · rw [if_neg (nebt c153)] at H
              refine J.condF (b := x152) c153 (by kernel_rfl) (by kernel_rfl) ?_
              refine J.skip ?_
              refine NN.then ?_
              refine J.seq ?_
              refine J.plain ?_
              refine LL.op (.int .i64 (IntKind.i64.wrap ((IntKind.i64.wrap (Int.tdiv a1 a2)) - 1))) (by kernel_rfl) (fun w _ => by kernel_rfl) ?_
              refine LL.op (.int .i64 (IntKind.i64.wrap ((IntKind.i64.wrap (Int.tdiv a1 a2)) - 1))) (by kernel_rfl) (fun w _ => by kernel_rfl) ?_
              refine LL.op (.bool true) (by kernel_rfl) (fun w _ => by kernel_rfl) ?_
              refine LL.done (s' := [(6, .int .i64 (IntKind.i64.wrap ((IntKind.i64.wrap (Int.tdiv a1 a2)) - 1))), (7, .bool true)]) [6, 7] (by kernel_rfl) ?_
              refine NN.then ?_
              refine J.ret ?_
              refine NN.fin2 6 7 (.int .i64 (IntKind.i64.wrap ((IntKind.i64.wrap (Int.tdiv a1 a2)) - 1))) (.bool true) (by kernel_rfl) (by kernel_rfl) (by kernel_rfl) (.inl rfl) (fun w hi => hi.ret ?_)
              first | (cases H; rfl) | (obtain rfl := Option.some.inj H; rfl) | (simp only [Option.some.injEq, Prod.mk.injEq] at H; obtain ⟨rfl, rfl⟩ := H; rfl)
    · rw [if_neg (nebf c144)] at H
      refine LL.bool 15 ((a1 == (-9223372036854775808))) false c144 (by kernel_rfl) ?_
      refine LL.off (by kernel_rfl) (by kernel_rfl) ?_
      refine LL.off (by kernel_rfl) (by kernel_rfl) ?_
      refine LL.op (.bool false) (by kernel_rfl) (fun w _ => by kernel_rfl) ?_
      refine LL.op (.bool false) (by kernel_rfl) (fun w _ => by kernel_rfl) ?_
      refine LL.done (s' := [(1, .int .i64 a1), (2, .int .i64 a2), (3, .pointer (some ⟨g142, 0, none⟩)), (6, .int .i64 0), (7, .bool false), (19, .bool false)]) [1, 2, 3, 6, 7, 19] (by kernel_rfl) ?_
      refine NN.then ?_
      refine J.condF (b := false) rfl (by kernel_rfl) (by kernel_rfl) ?_
      refine J.skip ?_
      refine NN.then ?_
      refine J.seq ?_
      refine J.drawn follows (by kernel_rfl) ?_
      refine QQ.op (.int .i64 a1) (by kernel_rfl) (fun w _ => by kernel_rfl) ?_
      refine QQ.op (.int .i64 a2) (by kernel_rfl) (fun w _ => by kernel_rfl) ?_
      refine QQ.op (.int .i64 (IntKind.i64.wrap (Int.tdiv a1 a2))) (by kernel_rfl) (run_quo rfl (by kernel_rfl) (by kernel_rfl) (nebf c143) rfl) ?_
      refine QQ.op (.int .i64 a1) (by kernel_rfl) (fun w _ => by kernel_rfl) ?_
      refine QQ.op (.int .i64 a2) (by kernel_rfl) (fun w _ => by kernel_rfl) ?_
      refine QQ.op (.int .i64 (Int.tmod a1 a2)) (by kernel_rfl) (run_rem rfl (by kernel_rfl) (by kernel_rfl) (nebf c143) rfl) ?_
      refine QQ.op (.int .i64 (IntKind.i64.wrap (Int.tdiv a1 a2))) (by kernel_rfl) (fun w _ => by kernel_rfl) ?_
      refine QQ.op (.int .i64 (Int.tmod a1 a2)) (by kernel_rfl) (fun w _ => by kernel_rfl) ?_
      refine QQ.done (s' := [(2, .int .i64 a2), (3, .pointer (some ⟨g142, 0, none⟩)), (6, .int .i64 0), (7, .bool false), (8, .int .i64 (IntKind.i64.wrap (Int.tdiv a1 a2))), (9, .int .i64 (Int.tmod a1 a2))]) [2, 3, 6, 7, 8, 9] (by kernel_rfl) ?_
      refine NN.then ?_
      refine J.seq ?_
      refine J.seq ?_
      refine J.plain ?_
      refine LL.op (.int .i64 (Int.tmod a1 a2)) (by kernel_rfl) (fun w _ => by kernel_rfl) ?_
      refine LL.op (.bool (!((Int.tmod a1 a2) == 0))) (by kernel_rfl) (fun w _ => by kernel_rfl) ?_
      refine LL.op (.bool (!((Int.tmod a1 a2) == 0))) (by kernel_rfl) (fun w _ => by kernel_rfl) ?_
      rcases Bool.eq_false_or_eq_true (((Int.tmod a1 a2) == 0)) with c154 | c154
      · rw [if_pos (eq_of_beq c154)] at H
        refine LL.bool 28 (!((Int.tmod a1 a2) == 0)) false (by rw [show (!((Int.tmod a1 a2) == 0)) = !(((Int.tmod a1 a2) == 0)) from rfl, c154]; rfl) (by kernel_rfl) ?_
        refine LL.off (by kernel_rfl) (by kernel_rfl) ?_
        refine LL.off (by kernel_rfl) (by kernel_rfl) ?_
        refine LL.off (by kernel_rfl) (by kernel_rfl) ?_
        refine LL.off (by kernel_rfl) (by kernel_rfl) ?_
        refine LL.off (by kernel_rfl) (by kernel_rfl) ?_
        refine LL.op (.bool false) (by kernel_rfl) (fun w _ => by kernel_rfl) ?_
        refine LL.done (s' := [(2, .int .i64 a2), (3, .pointer (some ⟨g142, 0, none⟩)), (6, .int .i64 0), (7, .bool false), (8, .int .i64 (IntKind.i64.wrap (Int.tdiv a1 a2))), (9, .int .i64 (Int.tmod a1 a2)), (34, .bool false)]) [2, 3, 6, 7, 8, 9, 34] (by kernel_rfl) ?_
        refine NN.then ?_
        refine J.condF (b := false) rfl (by kernel_rfl) (by kernel_rfl) ?_
        refine J.skip ?_
        refine NN.then ?_
        refine J.seq ?_
        refine J.seq ?_
        refine J.plain ?_
        refine LL.op (.pointer (some ⟨g142, 0, none⟩)) (by kernel_rfl) (fun w _ => by kernel_rfl) ?_
        refine LL.op (.func (.func 42) #[] #[]) (by kernel_rfl) (ld 0 g142 0 rfl (by kernel_rfl) rfl (by kernel_rfl)) ?_
        refine LL.op (.int .i64 (Int.tmod a1 a2)) (by kernel_rfl) (fun w _ => by kernel_rfl) ?_
        refine LL.op (.int .i64 a2) (by kernel_rfl) (fun w _ => by kernel_rfl) ?_
        obtain ⟨x155, hx155, H⟩ := bind_some H
        refine LL.call 42 #[.int .i64 (Int.tmod a1 a2), .int .i64 a2] (.bool x155) (by kernel_rfl) (fun w => by kernel_rfl) (fun w hw => units_Floor_1.calls (Int.tmod a1 a2) a2   _ w   hx155) ?_
        refine LL.done (s' := [(6, .int .i64 0), (7, .bool false), (8, .int .i64 (IntKind.i64.wrap (Int.tdiv a1 a2))), (44, .bool x155)]) [6, 7, 8, 44] (by kernel_rfl) ?_
        refine NN.then ?_
        rcases Bool.eq_false_or_eq_true (x155) with c156 | c156
        · rw [if_pos (c156)] at H
          refine J.condT (b := x155) c156 (by kernel_rfl) (by kernel_rfl) ?_
          refine J.plain ?_
          refine LL.op (.int .i64 (IntKind.i64.wrap (Int.tdiv a1 a2))) (by kernel_rfl) (fun w _ => by kernel_rfl) ?_
          refine LL.op (.int .i64 (IntKind.i64.wrap ((IntKind.i64.wrap (Int.tdiv a1 a2)) + 1))) (by kernel_rfl) (fun w _ => by kernel_rfl) ?_
          refine LL.op (.int .i64 (IntKind.i64.wrap ((IntKind.i64.wrap (Int.tdiv a1 a2)) + 1))) (by kernel_rfl) (fun w _ => by kernel_rfl) ?_
          refine LL.done (s' := [(6, .int .i64 0), (7, .bool false), (8, .int .i64 (IntKind.i64.wrap ((IntKind.i64.wrap (Int.tdiv a1 a2)) + 1)))]) [6, 7, 8] (by kernel_rfl) ?_
          refine NN.then ?_
          refine J.seq ?_
          refine J.plain ?_
          refine LL.op (.int .i64 (IntKind.i64.wrap ((IntKind.i64.wrap (Int.tdiv a1 a2)) + 1))) (by kernel_rfl) (fun w _ => by kernel_rfl) ?_
          refine LL.op (.int .i64 (IntKind.i64.wrap ((IntKind.i64.wrap (Int.tdiv a1 a2)) + 1))) (by kernel_rfl) (fun w _ => by kernel_rfl) ?_
          refine LL.op (.bool true) (by kernel_rfl) (fun w _ => by kernel_rfl) ?_
          refine LL.done (s' := [(6, .int .i64 (IntKind.i64.wrap ((IntKind.i64.wrap (Int.tdiv a1 a2)) + 1))), (7, .bool true)]) [6, 7] (by kernel_rfl) ?_
          refine NN.then ?_
          refine J.ret ?_
          refine NN.fin2 6 7 (.int .i64 (IntKind.i64.wrap ((IntKind.i64.wrap (Int.tdiv a1 a2)) + 1))) (.bool true) (by kernel_rfl) (by kernel_rfl) (by kernel_rfl) (.inl rfl) (fun w hi => hi.ret ?_)
          first | (cases H; rfl) | (obtain rfl := Option.some.inj H; rfl) | (simp only [Option.some.injEq, Prod.mk.injEq] at H; obtain ⟨rfl, rfl⟩ := H; rfl)
        · rw [if_neg (nebt c156)] at H
          refine J.condF (b := x155) c156 (by kernel_rfl) (by kernel_rfl) ?_
          refine J.skip ?_
          refine NN.then ?_
          refine J.seq ?_
          refine J.plain ?_
          refine LL.op (.int .i64 (IntKind.i64.wrap (Int.tdiv a1 a2))) (by kernel_rfl) (fun w _ => by kernel_rfl) ?_
          refine LL.op (.int .i64 (IntKind.i64.wrap (Int.tdiv a1 a2))) (by kernel_rfl) (fun w _ => by kernel_rfl) ?_
          refine LL.op (.bool true) (by kernel_rfl) (fun w _ => by kernel_rfl) ?_
          refine LL.done (s' := [(6, .int .i64 (IntKind.i64.wrap (Int.tdiv a1 a2))), (7, .bool true)]) [6, 7] (by kernel_rfl) ?_
          refine NN.then ?_
          refine J.ret ?_
          refine NN.fin2 6 7 (.int .i64 (IntKind.i64.wrap (Int.tdiv a1 a2))) (.bool true) (by kernel_rfl) (by kernel_rfl) (by kernel_rfl) (.inl rfl) (fun w hi => hi.ret ?_)
          first | (cases H; rfl) | (obtain rfl := Option.some.inj H; rfl) | (simp only [Option.some.injEq, Prod.mk.injEq] at H; obtain ⟨rfl, rfl⟩ := H; rfl)
      · rw [if_neg (nebf c154)] at H
        refine LL.bool 28 (!((Int.tmod a1 a2) == 0)) true (by rw [show (!((Int.tmod a1 a2) == 0)) = !(((Int.tmod a1 a2) == 0)) from rfl, c154]; rfl) (by kernel_rfl) ?_
        refine LL.op (.int .i64 (Int.tmod a1 a2)) (by kernel_rfl) (fun w _ => by kernel_rfl) ?_
        refine LL.op (.bool (decide ((Int.tmod a1 a2) < 0))) (by kernel_rfl) (fun w _ => by kernel_rfl) ?_
        refine LL.op (.int .i64 a2) (by kernel_rfl) (fun w _ => by kernel_rfl) ?_
        refine LL.op (.bool (decide (a2 < 0))) (by kernel_rfl) (fun w _ => by kernel_rfl) ?_
        refine LL.op (.bool ((decide ((Int.tmod a1 a2) < 0)) != (decide (a2 < 0)))) (by kernel_rfl) (fun w _ => by kernel_rfl) ?_
        refine LL.op (.bool ((decide ((Int.tmod a1 a2) < 0)) != (decide (a2 < 0)))) (by kernel_rfl) (fun w _ => by kernel_rfl) ?_
        refine LL.done (s' := [(2, .int .i64 a2), (3, .pointer (some ⟨g142, 0, none⟩)), (6, .int .i64 0), (7, .bool false), (8, .int .i64 (IntKind.i64.wrap (Int.tdiv a1 a2))), (9, .int .i64 (Int.tmod a1 a2)), (34, .bool ((decide ((Int.tmod a1 a2) < 0)) != (decide (a2 < 0))))]) [2, 3, 6, 7, 8, 9, 34] (by kernel_rfl) ?_
        refine NN.then ?_
        rcases Bool.eq_false_or_eq_true (((decide ((Int.tmod a1 a2) < 0)) == (decide (a2 < 0)))) with c157 | c157
        · rw [if_pos (eq_of_beq c157)] at H
          refine J.condF (b := ((decide ((Int.tmod a1 a2) < 0)) != (decide (a2 < 0)))) (by rw [show ((decide ((Int.tmod a1 a2) < 0)) != (decide (a2 < 0))) = !(((decide ((Int.tmod a1 a2) < 0)) == (decide (a2 < 0)))) from rfl, c157]; rfl) (by kernel_rfl) (by kernel_rfl) ?_
          refine J.skip ?_
          refine NN.then ?_
          refine J.seq ?_
          refine J.seq ?_
          refine J.plain ?_
          refine LL.op (.pointer (some ⟨g142, 0, none⟩)) (by kernel_rfl) (fun w _ => by kernel_rfl) ?_
          refine LL.op (.func (.func 42) #[] #[]) (by kernel_rfl) (ld 0 g142 0 rfl (by kernel_rfl) rfl (by kernel_rfl)) ?_
          refine LL.op (.int .i64 (Int.tmod a1 a2)) (by kernel_rfl) (fun w _ => by kernel_rfl) ?_
          refine LL.op (.int .i64 a2) (by kernel_rfl) (fun w _ => by kernel_rfl) ?_
          obtain ⟨x158, hx158, H⟩ := bind_some H
          refine LL.call 42 #[.int .i64 (Int.tmod a1 a2), .int .i64 a2] (.bool x158) (by kernel_rfl) (fun w => by kernel_rfl) (fun w hw => units_Floor_1.calls (Int.tmod a1 a2) a2   _ w   hx158) ?_
          refine LL.done (s' := [(6, .int .i64 0), (7, .bool false), (8, .int .i64 (IntKind.i64.wrap (Int.tdiv a1 a2))), (44, .bool x158)]) [6, 7, 8, 44] (by kernel_rfl) ?_
          refine NN.then ?_
          rcases Bool.eq_false_or_eq_true (x158) with c159 | c159
          · rw [if_pos (c159)] at H
            refine J.condT (b := x158) c159 (by kernel_rfl) (by kernel_rfl) ?_
            refine J.plain ?_
            refine LL.op (.int .i64 (IntKind.i64.wrap (Int.tdiv a1 a2))) (by kernel_rfl) (fun w _ => by kernel_rfl) ?_
            refine LL.op (.int .i64 (IntKind.i64.wrap ((IntKind.i64.wrap (Int.tdiv a1 a2)) + 1))) (by kernel_rfl) (fun w _ => by kernel_rfl) ?_
            refine LL.op (.int .i64 (IntKind.i64.wrap ((IntKind.i64.wrap (Int.tdiv a1 a2)) + 1))) (by kernel_rfl) (fun w _ => by kernel_rfl) ?_
            refine LL.done (s' := [(6, .int .i64 0), (7, .bool false), (8, .int .i64 (IntKind.i64.wrap ((IntKind.i64.wrap (Int.tdiv a1 a2)) + 1)))]) [6, 7, 8] (by kernel_rfl) ?_
            refine NN.then ?_
            refine J.seq ?_
            refine J.plain ?_
            refine LL.op (.int .i64 (IntKind.i64.wrap ((IntKind.i64.wrap (Int.tdiv a1 a2)) + 1))) (by kernel_rfl) (fun w _ => by kernel_rfl) ?_
            refine LL.op (.int .i64 (IntKind.i64.wrap ((IntKind.i64.wrap (Int.tdiv a1 a2)) + 1))) (by kernel_rfl) (fun w _ => by kernel_rfl) ?_
            refine LL.op (.bool true) (by kernel_rfl) (fun w _ => by kernel_rfl) ?_
            refine LL.done (s' := [(6, .int .i64 (IntKind.i64.wrap ((IntKind.i64.wrap (Int.tdiv a1 a2)) + 1))), (7, .bool true)]) [6, 7] (by kernel_rfl) ?_
            refine NN.then ?_
            refine J.ret ?_
            refine NN.fin2 6 7 (.int .i64 (IntKind.i64.wrap ((IntKind.i64.wrap (Int.tdiv a1 a2)) + 1))) (.bool true) (by kernel_rfl) (by kernel_rfl) (by kernel_rfl) (.inl rfl) (fun w hi => hi.ret ?_)
            first | (cases H; rfl) | (obtain rfl := Option.some.inj H; rfl) | (simp only [Option.some.injEq, Prod.mk.injEq] at H; obtain ⟨rfl, rfl⟩ := H; rfl)
          · rw [if_neg (nebt c159)] at H
            refine J.condF (b := x158) c159 (by kernel_rfl) (by kernel_rfl) ?_
            refine J.skip ?_
            refine NN.then ?_
            refine J.seq ?_
            refine J.plain ?_
            refine LL.op (.int .i64 (IntKind.i64.wrap (Int.tdiv a1 a2))) (by kernel_rfl) (fun w _ => by kernel_rfl) ?_
            refine LL.op (.int .i64 (IntKind.i64.wrap (Int.tdiv a1 a2))) (by kernel_rfl) (fun w _ => by kernel_rfl) ?_
            refine LL.op (.bool true) (by kernel_rfl) (fun w _ => by kernel_rfl) ?_
            refine LL.done (s' := [(6, .int .i64 (IntKind.i64.wrap (Int.tdiv a1 a2))), (7, .bool true)]) [6, 7] (by kernel_rfl) ?_
            refine NN.then ?_
            refine J.ret ?_
            refine NN.fin2 6 7 (.int .i64 (IntKind.i64.wrap (Int.tdiv a1 a2))) (.bool true) (by kernel_rfl) (by kernel_rfl) (by kernel_rfl) (.inl rfl) (fun w hi => hi.ret ?_)
            first | (cases H; rfl) | (obtain rfl := Option.some.inj H; rfl) | (simp only [Option.some.injEq, Prod.mk.injEq] at H; obtain ⟨rfl, rfl⟩ := H; rfl)
        · rw [if_neg (nebf c157)] at H
          refine J.condT (b := ((decide ((Int.tmod a1 a2) < 0)) != (decide (a2 < 0)))) (by rw [show ((decide ((Int.tmod a1 a2) < 0)) != (decide (a2 < 0))) = !(((decide ((Int.tmod a1 a2) < 0)) == (decide (a2 < 0)))) from rfl, c157]; rfl) (by kernel_rfl) (by kernel_rfl) ?_
          refine J.seq ?_
          refine J.plain ?_
          refine LL.op (.int .i64 (IntKind.i64.wrap (Int.tdiv a1 a2))) (by kernel_rfl) (fun w _ => by kernel_rfl) ?_
          refine LL.op (.int .i64 (IntKind.i64.wrap ((IntKind.i64.wrap (Int.tdiv a1 a2)) - 1))) (by kernel_rfl) (fun w _ => by kernel_rfl) ?_
          refine LL.op (.int .i64 (IntKind.i64.wrap ((IntKind.i64.wrap (Int.tdiv a1 a2)) - 1))) (by kernel_rfl) (fun w _ => by kernel_rfl) ?_
          refine LL.done (s' := [(2, .int .i64 a2), (3, .pointer (some ⟨g142, 0, none⟩)), (6, .int .i64 0), (7, .bool false), (8, .int .i64 (IntKind.i64.wrap ((IntKind.i64.wrap (Int.tdiv a1 a2)) - 1))), (9, .int .i64 (Int.tmod a1 a2))]) [2, 3, 6, 7, 8, 9] (by kernel_rfl) ?_
          refine NN.then ?_
          refine J.plain ?_
          refine LL.op (.int .i64 (Int.tmod a1 a2)) (by kernel_rfl) (fun w _ => by kernel_rfl) ?_
          refine LL.op (.int .i64 a2) (by kernel_rfl) (fun w _ => by kernel_rfl) ?_
          refine LL.op (.int .i64 (IntKind.i64.wrap ((Int.tmod a1 a2) + a2))) (by kernel_rfl) (fun w _ => by kernel_rfl) ?_
          refine LL.op (.int .i64 (IntKind.i64.wrap ((Int.tmod a1 a2) + a2))) (by kernel_rfl) (fun w _ => by kernel_rfl) ?_
          refine LL.done (s' := [(2, .int .i64 a2), (3, .pointer (some ⟨g142, 0, none⟩)), (6, .int .i64 0), (7, .bool false), (8, .int .i64 (IntKind.i64.wrap ((IntKind.i64.wrap (Int.tdiv a1 a2)) - 1))), (9, .int .i64 (IntKind.i64.wrap ((Int.tmod a1 a2) + a2)))]) [2, 3, 6, 7, 8, 9] (by kernel_rfl) ?_
          refine NN.then ?_
          refine J.seq ?_
          refine J.seq ?_
          refine J.plain ?_
          refine LL.op (.pointer (some ⟨g142, 0, none⟩)) (by kernel_rfl) (fun w _ => by kernel_rfl) ?_
          refine LL.op (.func (.func 42) #[] #[]) (by kernel_rfl) (ld 0 g142 0 rfl (by kernel_rfl) rfl (by kernel_rfl)) ?_
          refine LL.op (.int .i64 (IntKind.i64.wrap ((Int.tmod a1 a2) + a2))) (by kernel_rfl) (fun w _ => by kernel_rfl) ?_
          refine LL.op (.int .i64 a2) (by kernel_rfl) (fun w _ => by kernel_rfl) ?_
          obtain ⟨x160, hx160, H⟩ := bind_some H
          refine LL.call 42 #[.int .i64 (IntKind.i64.wrap ((Int.tmod a1 a2) + a2)), .int .i64 a2] (.bool x160) (by kernel_rfl) (fun w => by kernel_rfl) (fun w hw => units_Floor_1.calls (IntKind.i64.wrap ((Int.tmod a1 a2) + a2)) a2   _ w   hx160) ?_
          refine LL.done (s' := [(6, .int .i64 0), (7, .bool false), (8, .int .i64 (IntKind.i64.wrap ((IntKind.i64.wrap (Int.tdiv a1 a2)) - 1))), (44, .bool x160)]) [6, 7, 8, 44] (by kernel_rfl) ?_
          refine NN.then ?_
          rcases Bool.eq_false_or_eq_true (x160) with c161 | c161
          · rw [if_pos (c161)] at H
            refine J.condT (b := x160) c161 (by kernel_rfl) (by kernel_rfl) ?_
            refine J.plain ?_
            refine LL.op (.int .i64 (IntKind.i64.wrap ((IntKind.i64.wrap (Int.tdiv a1 a2)) - 1))) (by kernel_rfl) (fun w _ => by kernel_rfl) ?_
            refine LL.op (.int .i64 (IntKind.i64.wrap ((IntKind.i64.wrap ((IntKind.i64.wrap (Int.tdiv a1 a2)) - 1)) + 1))) (by kernel_rfl) (fun w _ => by kernel_rfl) ?_
            refine LL.op (.int .i64 (IntKind.i64.wrap ((IntKind.i64.wrap ((IntKind.i64.wrap (Int.tdiv a1 a2)) - 1)) + 1))) (by kernel_rfl) (fun w _ => by kernel_rfl) ?_
            refine LL.done (s' := [(6, .int .i64 0), (7, .bool false), (8, .int .i64 (IntKind.i64.wrap ((IntKind.i64.wrap ((IntKind.i64.wrap (Int.tdiv a1 a2)) - 1)) + 1)))]) [6, 7, 8] (by kernel_rfl) ?_
            refine NN.then ?_
            refine J.seq ?_
            refine J.plain ?_
            refine LL.op (.int .i64 (IntKind.i64.wrap ((IntKind.i64.wrap ((IntKind.i64.wrap (Int.tdiv a1 a2)) - 1)) + 1))) (by kernel_rfl) (fun w _ => by kernel_rfl) ?_
            refine LL.op (.int .i64 (IntKind.i64.wrap ((IntKind.i64.wrap ((IntKind.i64.wrap (Int.tdiv a1 a2)) - 1)) + 1))) (by kernel_rfl) (fun w _ => by kernel_rfl) ?_
            refine LL.op (.bool true) (by kernel_rfl) (fun w _ => by kernel_rfl) ?_
            refine LL.done (s' := [(6, .int .i64 (IntKind.i64.wrap ((IntKind.i64.wrap ((IntKind.i64.wrap (Int.tdiv a1 a2)) - 1)) + 1))), (7, .bool true)]) [6, 7] (by kernel_rfl) ?_
            refine NN.then ?_
            refine J.ret ?_
            refine NN.fin2 6 7 (.int .i64 (IntKind.i64.wrap ((IntKind.i64.wrap ((IntKind.i64.wrap (Int.tdiv a1 a2)) - 1)) + 1))) (.bool true) (by kernel_rfl) (by kernel_rfl) (by kernel_rfl) (.inl rfl) (fun w hi => hi.ret ?_)
            first | (cases H; rfl) | (obtain rfl := Option.some.inj H; rfl) | (simp only [Option.some.injEq, Prod.mk.injEq] at H; obtain ⟨rfl, rfl⟩ := H; rfl)
          · rw [if_neg (nebt c161)] at H
            refine J.condF (b := x160) c161 (by kernel_rfl) (by kernel_rfl) ?_
            refine J.skip ?_
            refine NN.then ?_
            refine J.seq ?_
            refine J.plain ?_
            refine LL.op (.int .i64 (IntKind.i64.wrap ((IntKind.i64.wrap (Int.tdiv a1 a2)) - 1))) (by kernel_rfl) (fun w _ => by kernel_rfl) ?_
            refine LL.op (.int .i64 (IntKind.i64.wrap ((IntKind.i64.wrap (Int.tdiv a1 a2)) - 1))) (by kernel_rfl) (fun w _ => by kernel_rfl) ?_
            refine LL.op (.bool true) (by kernel_rfl) (fun w _ => by kernel_rfl) ?_
            refine LL.done (s' := [(6, .int .i64 (IntKind.i64.wrap ((IntKind.i64.wrap (Int.tdiv a1 a2)) - 1))), (7, .bool true)]) [6, 7] (by kernel_rfl) ?_
            refine NN.then ?_
            refine J.ret ?_
            refine NN.fin2 6 7 (.int .i64 (IntKind.i64.wrap ((IntKind.i64.wrap (Int.tdiv a1 a2)) - 1))) (.bool true) (by kernel_rfl) (by kernel_rfl) (by kernel_rfl) (.inl rfl) (fun w hi => hi.ret ?_)
            first | (cases H; rfl) | (obtain rfl := Option.some.inj H; rfl) | (simp only [Option.some.injEq, Prod.mk.injEq] at H; obtain ⟨rfl, rfl⟩ := H; rfl)

/-! ### units_Floor: function 32 -/
def units_Floor.f (a0 : Int) (a1 : Int) : Option (Int × Bool) := (units_division_of__42.f a0 a1).bind fun bx162 => (some (bx162.1, bx162.2))
set_option maxRecDepth 100000 in
theorem units_Floor.calls (a0 : Int) (a1 : Int)   (r1 : Int) (r2 : Bool) (w : World)   (h : units_Floor.f a0 a1 = some (r1, r2)) :
    Calls Try.prog 32 #[.int .i64 a0, .int .i64 a1] w (Ret w (.tuple #[.int .i64 r1, .bool r2])) := by
  have H := h
  clear h
  unfold units_Floor.f at H
  refine Go.Saw.calls (args := [.int .i64 a0, .int .i64 a1]) Try.func32 rfl Try.ntmps32 (by kernel_rfl) ?_
  refine J.seq ?_
  refine J.plain ?_
  refine LL.op (.int .i64 0) (by kernel_rfl) (fun w _ => by kernel_rfl) ?_
  refine LL.op (.bool false) (by kernel_rfl) (fun w _ => by kernel_rfl) ?_
  refine LL.done (s' := [(0, .int .i64 a0), (1, .int .i64 a1), (4, .int .i64 0), (5, .bool false)]) [0, 1, 4, 5] (by kernel_rfl) ?_
  refine NN.then ?_
  refine J.seq ?_
  refine J.plain ?_
  refine LL.op (.agg #[.func (.func 42) #[] #[]]) (by kernel_rfl) (fun w _ => by kernel_rfl) ?_
  refine LL.op (.int .i64 a0) (by kernel_rfl) (fun w _ => by kernel_rfl) ?_
  refine LL.op (.int .i64 a1) (by kernel_rfl) (fun w _ => by kernel_rfl) ?_
  obtain ⟨⟨x162_1, x162_2⟩, hx162, H⟩ := bind_some H
  (try dsimp only at H)
  refine LL.call 43 #[.agg #[.func (.func 42) #[] #[]], .int .i64 a0, .int .i64 a1] (.tuple #[.int .i64 x162_1, .bool x162_2]) (by kernel_rfl) (fun w => by kernel_rfl) (fun w hw => units_division_of__42.calls a0 a1   _ _ w   hx162) ?_
  refine LL.op (.int .i64 x162_1) (by kernel_rfl) (fun w _ => by kernel_rfl) ?_
  refine LL.op (.bool x162_2) (by kernel_rfl) (fun w _ => by kernel_rfl) ?_
  refine LL.op (.int .i64 x162_1) (by kernel_rfl) (fun w _ => by kernel_rfl) ?_
  refine LL.op (.bool x162_2) (by kernel_rfl) (fun w _ => by kernel_rfl) ?_
  refine LL.done (s' := [(4, .int .i64 x162_1), (5, .bool x162_2)]) [4, 5] (by kernel_rfl) ?_
  refine NN.then ?_
  refine J.ret ?_
  refine NN.fin2 4 5 (.int .i64 x162_1) (.bool x162_2) (by kernel_rfl) (by kernel_rfl) (by kernel_rfl) (.inl rfl) (fun w hi => hi.ret ?_)
  first | (cases H; rfl) | (obtain rfl := Option.some.inj H; rfl) | (simp only [Option.some.injEq, Prod.mk.injEq] at H; obtain ⟨rfl, rfl⟩ := H; rfl)

/-! ### product_Green: function 20 -/
def product_Green.f (a0_0 : ByteArray) (a0_1 : Int) (a0_2 : Int) (a0_3 : Int) (a0_4 : Int) : Option (Int × Int) := if (mn a0_1 a0_2) < 1 then (some (0, 0)) else (if 600 < (mx a0_1 a0_2) then (some (0, 0)) else (if a0_3 < 0 then (some (0, 0)) else (if 200 < a0_3 then (some (0, 0)) else ((units_Floor.f (IntKind.i64.wrap ((IntKind.i64.wrap ((IntKind.i64.wrap (a0_1 * (IntKind.i64.wrap (1000 + a0_3)))) + 1000)) - 1)) 1000).bind fun bx168 => ((units_Floor.f (IntKind.i64.wrap ((IntKind.i64.wrap ((IntKind.i64.wrap (a0_2 * (IntKind.i64.wrap (1000 + a0_3)))) + 1000)) - 1)) 1000).bind fun bx169 => (some (bx168.1, bx169.1)))))))
set_option maxRecDepth 100000 in
theorem product_Green.calls (a0_0 : ByteArray) (a0_1 : Int) (a0_2 : Int) (a0_3 : Int) (a0_4 : Int)  (Aa0_5 : Option Addr) (na0_5 ca0_5 : Nat) (Aa0_6 : Option Addr) (na0_6 ca0_6 : Nat) (r1 : Int) (r2 : Int) (w : World)   (h : product_Green.f a0_0 a0_1 a0_2 a0_3 a0_4 = some (r1, r2)) :
    Calls Try.prog 20 #[.agg #[.string a0_0, .int .i64 a0_1, .int .i64 a0_2, .int .i64 a0_3, .int .i64 a0_4, .slice Aa0_5 na0_5 ca0_5, .slice Aa0_6 na0_6 ca0_6]] w (Ret w (.tuple #[.int .i64 r1, .int .i64 r2])) := by
  have H := h
  clear h
  unfold product_Green.f at H
  refine Go.Saw.calls (args := [.agg #[.string a0_0, .int .i64 a0_1, .int .i64 a0_2, .int .i64 a0_3, .int .i64 a0_4, .slice Aa0_5 na0_5 ca0_5, .slice Aa0_6 na0_6 ca0_6]]) Try.func20 rfl Try.ntmps20 (by kernel_rfl) ?_
  refine J.seq ?_
  refine J.plain ?_
  refine LL.box 33 (.tmp 0) [.string a0_0, .int .i64 a0_1, .int .i64 a0_2, .int .i64 a0_3, .int .i64 a0_4, .slice Aa0_5 na0_5 ca0_5, .slice Aa0_6 na0_6 ca0_6] (by kernel_rfl) rfl (by kernel_rfl) (fun g163 => ?_)
  refine LL.op (.int .i64 0) (by kernel_rfl) (fun w _ => by kernel_rfl) ?_
  refine LL.op (.int .i64 0) (by kernel_rfl) (fun w _ => by kernel_rfl) ?_
  refine LL.done (s' := [(1, .pointer (some ⟨g163, 0, none⟩)), (2, .int .i64 0), (3, .int .i64 0)]) [1, 2, 3] (by kernel_rfl) ?_
  refine NN.then ?_
  refine J.seq ?_
  refine J.seq ?_
  refine J.plain ?_
  refine LL.op (.pointer (some ⟨g163, 1, none⟩)) (by kernel_rfl) (fun w _ => by kernel_rfl) ?_
  refine LL.op (.int .i64 a0_1) (by kernel_rfl) (ld 0 g163 1 rfl (by kernel_rfl) rfl (by kernel_rfl)) ?_
  refine LL.op (.pointer (some ⟨g163, 2, none⟩)) (by kernel_rfl) (fun w _ => by kernel_rfl) ?_
  refine LL.op (.int .i64 a0_2) (by kernel_rfl) (ld 0 g163 2 rfl (by kernel_rfl) rfl (by kernel_rfl)) ?_
  refine LL.op (.int .i64 (mn a0_1 a0_2)) (by kernel_rfl) (fun w _ => by kernel_rfl) ?_
  refine LL.op (.bool (decide ((mn a0_1 a0_2) < 1))) (by kernel_rfl) (fun w _ => by kernel_rfl) ?_
  refine LL.op (.bool (decide ((mn a0_1 a0_2) < 1))) (by kernel_rfl) (fun w _ => by kernel_rfl) ?_
  rcases Bool.eq_false_or_eq_true (decide ((mn a0_1 a0_2) < 1)) with c164 | c164
  · rw [if_pos (of_decide_eq_true c164)] at H
    refine LL.bool 14 (decide ((mn a0_1 a0_2) < 1)) true c164 (by kernel_rfl) ?_
    refine LL.off (by kernel_rfl) (by kernel_rfl) ?_
    refine LL.off (by kernel_rfl) (by kernel_rfl) ?_
    refine LL.off (by kernel_rfl) (by kernel_rfl) ?_
    refine LL.off (by kernel_rfl) (by kernel_rfl) ?_
    refine LL.off (by kernel_rfl) (by kernel_rfl) ?_
    refine LL.off (by kernel_rfl) (by kernel_rfl) ?_
    refine LL.op (.bool true) (by kernel_rfl) (fun w _ => by kernel_rfl) ?_
    refine LL.op (.bool true) (by kernel_rfl) (fun w _ => by kernel_rfl) ?_
    refine LL.off (by kernel_rfl) (by kernel_rfl) ?_
    refine LL.off (by kernel_rfl) (by kernel_rfl) ?_
    refine LL.off (by kernel_rfl) (by kernel_rfl) ?_
    refine LL.op (.bool true) (by kernel_rfl) (fun w _ => by kernel_rfl) ?_
    refine LL.op (.bool true) (by kernel_rfl) (fun w _ => by kernel_rfl) ?_
    refine LL.off (by kernel_rfl) (by kernel_rfl) ?_
    refine LL.off (by kernel_rfl) (by kernel_rfl) ?_
    refine LL.off (by kernel_rfl) (by kernel_rfl) ?_
    refine LL.op (.bool true) (by kernel_rfl) (fun w _ => by kernel_rfl) ?_
    refine LL.done (s' := [(1, .pointer (some ⟨g163, 0, none⟩)), (2, .int .i64 0), (3, .int .i64 0), (31, .bool true)]) [1, 2, 3, 31] (by kernel_rfl) ?_
    refine NN.then ?_
    refine J.condT (b := true) rfl (by kernel_rfl) (by kernel_rfl) ?_
    refine J.seq ?_
    refine J.plain ?_
    refine LL.op (.int .i64 0) (by kernel_rfl) (fun w _ => by kernel_rfl) ?_
    refine LL.op (.int .i64 0) (by kernel_rfl) (fun w _ => by kernel_rfl) ?_
    refine LL.done (s' := [(1, .pointer (some ⟨g163, 0, none⟩)), (2, .int .i64 0), (3, .int .i64 0)]) [1, 2, 3] (by kernel_rfl) ?_
    refine NN.then ?_
    refine J.ret ?_
    refine NN.then_ret ?_
    refine NN.fin2 2 3 (.int .i64 0) (.int .i64 0) (by kernel_rfl) (by kernel_rfl) (by kernel_rfl) (.inl rfl) (fun w hi => hi.ret ?_)
    first | (cases H; rfl) | (obtain rfl := Option.some.inj H; rfl) | (simp only [Option.some.injEq, Prod.mk.injEq] at H; obtain ⟨rfl, rfl⟩ := H; rfl)
  · rw [if_neg (of_decide_eq_false c164)] at H
    refine LL.bool 14 (decide ((mn a0_1 a0_2) < 1)) false c164 (by kernel_rfl) ?_
    refine LL.op (.pointer (some ⟨g163, 1, none⟩)) (by kernel_rfl) (fun w _ => by kernel_rfl) ?_
    refine LL.op (.int .i64 a0_1) (by kernel_rfl) (ld 0 g163 1 rfl (by kernel_rfl) rfl (by kernel_rfl)) ?_
    refine LL.op (.pointer (some ⟨g163, 2, none⟩)) (by kernel_rfl) (fun w _ => by kernel_rfl) ?_
    refine LL.op (.int .i64 a0_2) (by kernel_rfl) (ld 0 g163 2 rfl (by kernel_rfl) rfl (by kernel_rfl)) ?_
    refine LL.op (.int .i64 (mx a0_1 a0_2)) (by kernel_rfl) (fun w _ => by kernel_rfl) ?_
    refine LL.op (.bool (decide (600 < (mx a0_1 a0_2)))) (by kernel_rfl) (fun w _ => by kernel_rfl) ?_
    refine LL.op (.bool (decide (600 < (mx a0_1 a0_2)))) (by kernel_rfl) (fun w _ => by kernel_rfl) ?_
    refine LL.op (.bool (decide (600 < (mx a0_1 a0_2)))) (by kernel_rfl) (fun w _ => by kernel_rfl) ?_
    rcases Bool.eq_false_or_eq_true (decide (600 < (mx a0_1 a0_2))) with c165 | c165
    · rw [if_pos (of_decide_eq_true c165)] at H
      refine LL.bool 22 (decide (600 < (mx a0_1 a0_2))) true c165 (by kernel_rfl) ?_
      refine LL.off (by kernel_rfl) (by kernel_rfl) ?_
      refine LL.off (by kernel_rfl) (by kernel_rfl) ?_
      refine LL.off (by kernel_rfl) (by kernel_rfl) ?_
      refine LL.op (.bool true) (by kernel_rfl) (fun w _ => by kernel_rfl) ?_
      refine LL.op (.bool true) (by kernel_rfl) (fun w _ => by kernel_rfl) ?_
      refine LL.off (by kernel_rfl) (by kernel_rfl) ?_
      refine LL.off (by kernel_rfl) (by kernel_rfl) ?_
      refine LL.off (by kernel_rfl) (by kernel_rfl) ?_
      refine LL.op (.bool true) (by kernel_rfl) (fun w _ => by kernel_rfl) ?_
      refine LL.done (s' := [(1, .pointer (some ⟨g163, 0, none⟩)), (2, .int .i64 0), (3, .int .i64 0), (31, .bool true)]) [1, 2, 3, 31] (by kernel_rfl) ?_
      refine NN.then ?_
      refine J.condT (b := true) rfl (by kernel_rfl) (by kernel_rfl) ?_
      refine J.seq ?_
      refine J.plain ?_
      refine LL.op (.int .i64 0) (by kernel_rfl) (fun w _ => by kernel_rfl) ?_
      refine LL.op (.int .i64 0) (by kernel_rfl) (fun w _ => by kernel_rfl) ?_
      refine LL.done (s' := [(1, .pointer (some ⟨g163, 0, none⟩)), (2, .int .i64 0), (3, .int .i64 0)]) [1, 2, 3] (by kernel_rfl) ?_
      refine NN.then ?_
      refine J.ret ?_
      refine NN.then_ret ?_
      refine NN.fin2 2 3 (.int .i64 0) (.int .i64 0) (by kernel_rfl) (by kernel_rfl) (by kernel_rfl) (.inl rfl) (fun w hi => hi.ret ?_)
      first | (cases H; rfl) | (obtain rfl := Option.some.inj H; rfl) | (simp only [Option.some.injEq, Prod.mk.injEq] at H; obtain ⟨rfl, rfl⟩ := H; rfl)
    · rw [if_neg (of_decide_eq_false c165)] at H
      refine LL.bool 22 (decide (600 < (mx a0_1 a0_2))) false c165 (by kernel_rfl) ?_
      refine LL.op (.pointer (some ⟨g163, 3, none⟩)) (by kernel_rfl) (fun w _ => by kernel_rfl) ?_
      refine LL.op (.int .i64 a0_3) (by kernel_rfl) (ld 0 g163 3 rfl (by kernel_rfl) rfl (by kernel_rfl)) ?_
      refine LL.op (.bool (decide (a0_3 < 0))) (by kernel_rfl) (fun w _ => by kernel_rfl) ?_
      refine LL.op (.bool (decide (a0_3 < 0))) (by kernel_rfl) (fun w _ => by kernel_rfl) ?_
      refine LL.op (.bool (decide (a0_3 < 0))) (by kernel_rfl) (fun w _ => by kernel_rfl) ?_
      rcases Bool.eq_false_or_eq_true (decide (a0_3 < 0)) with c166 | c166
      · rw [if_pos (of_decide_eq_true c166)] at H
        refine LL.bool 27 (decide (a0_3 < 0)) true c166 (by kernel_rfl) ?_
        refine LL.off (by kernel_rfl) (by kernel_rfl) ?_
        refine LL.off (by kernel_rfl) (by kernel_rfl) ?_
        refine LL.off (by kernel_rfl) (by kernel_rfl) ?_
        refine LL.op (.bool true) (by kernel_rfl) (fun w _ => by kernel_rfl) ?_
        refine LL.done (s' := [(1, .pointer (some ⟨g163, 0, none⟩)), (2, .int .i64 0), (3, .int .i64 0), (31, .bool true)]) [1, 2, 3, 31] (by kernel_rfl) ?_
        refine NN.then ?_
        refine J.condT (b := true) rfl (by kernel_rfl) (by kernel_rfl) ?_
        refine J.seq ?_
        refine J.plain ?_
        refine LL.op (.int .i64 0) (by kernel_rfl) (fun w _ => by kernel_rfl) ?_
        refine LL.op (.int .i64 0) (by kernel_rfl) (fun w _ => by kernel_rfl) ?_
        refine LL.done (s' := [(1, .pointer (some ⟨g163, 0, none⟩)), (2, .int .i64 0), (3, .int .i64 0)]) [1, 2, 3] (by kernel_rfl) ?_
        refine NN.then ?_
        refine J.ret ?_
        refine NN.then_ret ?_
        refine NN.fin2 2 3 (.int .i64 0) (.int .i64 0) (by kernel_rfl) (by kernel_rfl) (by kernel_rfl) (.inl rfl) (fun w hi => hi.ret ?_)
        first | (cases H; rfl) | (obtain rfl := Option.some.inj H; rfl) | (simp only [Option.some.injEq, Prod.mk.injEq] at H; obtain ⟨rfl, rfl⟩ := H; rfl)
      · rw [if_neg (of_decide_eq_false c166)] at H
        refine LL.bool 27 (decide (a0_3 < 0)) false c166 (by kernel_rfl) ?_
        refine LL.op (.pointer (some ⟨g163, 3, none⟩)) (by kernel_rfl) (fun w _ => by kernel_rfl) ?_
        refine LL.op (.int .i64 a0_3) (by kernel_rfl) (ld 0 g163 3 rfl (by kernel_rfl) rfl (by kernel_rfl)) ?_
        refine LL.op (.bool (decide (200 < a0_3))) (by kernel_rfl) (fun w _ => by kernel_rfl) ?_
        refine LL.op (.bool (decide (200 < a0_3))) (by kernel_rfl) (fun w _ => by kernel_rfl) ?_
        refine LL.done (s' := [(1, .pointer (some ⟨g163, 0, none⟩)), (2, .int .i64 0), (3, .int .i64 0), (31, .bool (decide (200 < a0_3)))]) [1, 2, 3, 31] (by kernel_rfl) ?_
        refine NN.then ?_
        rcases Bool.eq_false_or_eq_true (decide (200 < a0_3)) with c167 | c167
        · rw [if_pos (of_decide_eq_true c167)] at H
          refine J.condT (b := decide (200 < a0_3)) c167 (by kernel_rfl) (by kernel_rfl) ?_
          refine J.seq ?_
          refine J.plain ?_
          refine LL.op (.int .i64 0) (by kernel_rfl) (fun w _ => by kernel_rfl) ?_
          refine LL.op (.int .i64 0) (by kernel_rfl) (fun w _ => by kernel_rfl) ?_
          refine LL.done (s' := [(1, .pointer (some ⟨g163, 0, none⟩)), (2, .int .i64 0), (3, .int .i64 0)]) [1, 2, 3] (by kernel_rfl) ?_
          refine NN.then ?_
          refine J.ret ?_
          refine NN.then_ret ?_
          refine NN.fin2 2 3 (.int .i64 0) (.int .i64 0) (by kernel_rfl) (by kernel_rfl) (by kernel_rfl) (.inl rfl) (fun w hi => hi.ret ?_)
          first | (cases H; rfl) | (obtain rfl := Option.some.inj H; rfl) | (simp only [Option.some.injEq, Prod.mk.injEq] at H; obtain ⟨rfl, rfl⟩ := H; rfl)
        · rw [if_neg (of_decide_eq_false c167)] at H
          refine J.condF (b := decide (200 < a0_3)) c167 (by kernel_rfl) (by kernel_rfl) ?_
          refine J.skip ?_
          refine NN.then ?_
          refine J.seq ?_
          refine J.plain ?_
          refine LL.op (.pointer (some ⟨g163, 1, none⟩)) (by kernel_rfl) (fun w _ => by kernel_rfl) ?_
          refine LL.op (.int .i64 a0_1) (by kernel_rfl) (ld 0 g163 1 rfl (by kernel_rfl) rfl (by kernel_rfl)) ?_
          refine LL.op (.pointer (some ⟨g163, 3, none⟩)) (by kernel_rfl) (fun w _ => by kernel_rfl) ?_
          refine LL.op (.int .i64 a0_3) (by kernel_rfl) (ld 0 g163 3 rfl (by kernel_rfl) rfl (by kernel_rfl)) ?_
          refine LL.op (.int .i64 (IntKind.i64.wrap (1000 + a0_3))) (by kernel_rfl) (fun w _ => by kernel_rfl) ?_
          refine LL.op (.int .i64 (IntKind.i64.wrap (a0_1 * (IntKind.i64.wrap (1000 + a0_3))))) (by kernel_rfl) (fun w _ => by kernel_rfl) ?_
          refine LL.op (.int .i64 (IntKind.i64.wrap ((IntKind.i64.wrap (a0_1 * (IntKind.i64.wrap (1000 + a0_3)))) + 1000))) (by kernel_rfl) (fun w _ => by kernel_rfl) ?_
          refine LL.op (.int .i64 (IntKind.i64.wrap ((IntKind.i64.wrap ((IntKind.i64.wrap (a0_1 * (IntKind.i64.wrap (1000 + a0_3)))) + 1000)) - 1))) (by kernel_rfl) (fun w _ => by kernel_rfl) ?_
          obtain ⟨⟨x168_1, x168_2⟩, hx168, H⟩ := bind_some H
          (try dsimp only at H)
          refine LL.call 32 #[.int .i64 (IntKind.i64.wrap ((IntKind.i64.wrap ((IntKind.i64.wrap (a0_1 * (IntKind.i64.wrap (1000 + a0_3)))) + 1000)) - 1)), .int .i64 1000] (.tuple #[.int .i64 x168_1, .bool x168_2]) (by kernel_rfl) (fun w => by kernel_rfl) (fun w hw => units_Floor.calls (IntKind.i64.wrap ((IntKind.i64.wrap ((IntKind.i64.wrap (a0_1 * (IntKind.i64.wrap (1000 + a0_3)))) + 1000)) - 1)) 1000   _ _ w   hx168) ?_
          refine LL.op (.tuple #[.int .i64 x168_1, .bool x168_2]) (by kernel_rfl) (fun w _ => by kernel_rfl) ?_
          refine LL.op (.int .i64 x168_1) (by kernel_rfl) (fun w _ => by kernel_rfl) ?_
          refine LL.op (.bool x168_2) (by kernel_rfl) (fun w _ => by kernel_rfl) ?_
          refine LL.op (.int .i64 x168_1) (by kernel_rfl) (fun w _ => by kernel_rfl) ?_
          refine LL.op (.bool x168_2) (by kernel_rfl) (fun w _ => by kernel_rfl) ?_
          refine LL.done (s' := [(1, .pointer (some ⟨g163, 0, none⟩)), (2, .int .i64 0), (3, .int .i64 0), (4, .int .i64 x168_1)]) [1, 2, 3, 4] (by kernel_rfl) ?_
          refine NN.then ?_
          refine J.seq ?_
          refine J.plain ?_
          refine LL.op (.pointer (some ⟨g163, 2, none⟩)) (by kernel_rfl) (fun w _ => by kernel_rfl) ?_
          refine LL.op (.int .i64 a0_2) (by kernel_rfl) (ld 0 g163 2 rfl (by kernel_rfl) rfl (by kernel_rfl)) ?_
          refine LL.op (.pointer (some ⟨g163, 3, none⟩)) (by kernel_rfl) (fun w _ => by kernel_rfl) ?_
          refine LL.op (.int .i64 a0_3) (by kernel_rfl) (ld 0 g163 3 rfl (by kernel_rfl) rfl (by kernel_rfl)) ?_
          refine LL.op (.int .i64 (IntKind.i64.wrap (1000 + a0_3))) (by kernel_rfl) (fun w _ => by kernel_rfl) ?_
          refine LL.op (.int .i64 (IntKind.i64.wrap (a0_2 * (IntKind.i64.wrap (1000 + a0_3))))) (by kernel_rfl) (fun w _ => by kernel_rfl) ?_
          refine LL.op (.int .i64 (IntKind.i64.wrap ((IntKind.i64.wrap (a0_2 * (IntKind.i64.wrap (1000 + a0_3)))) + 1000))) (by kernel_rfl) (fun w _ => by kernel_rfl) ?_
          refine LL.op (.int .i64 (IntKind.i64.wrap ((IntKind.i64.wrap ((IntKind.i64.wrap (a0_2 * (IntKind.i64.wrap (1000 + a0_3)))) + 1000)) - 1))) (by kernel_rfl) (fun w _ => by kernel_rfl) ?_
          obtain ⟨⟨x169_1, x169_2⟩, hx169, H⟩ := bind_some H
          (try dsimp only at H)
          refine LL.call 32 #[.int .i64 (IntKind.i64.wrap ((IntKind.i64.wrap ((IntKind.i64.wrap (a0_2 * (IntKind.i64.wrap (1000 + a0_3)))) + 1000)) - 1)), .int .i64 1000] (.tuple #[.int .i64 x169_1, .bool x169_2]) (by kernel_rfl) (fun w => by kernel_rfl) (fun w hw => units_Floor.calls (IntKind.i64.wrap ((IntKind.i64.wrap ((IntKind.i64.wrap (a0_2 * (IntKind.i64.wrap (1000 + a0_3)))) + 1000)) - 1)) 1000   _ _ w   hx169) ?_
          refine LL.op (.tuple #[.int .i64 x169_1, .bool x169_2]) (by kernel_rfl) (fun w _ => by kernel_rfl) ?_
          refine LL.op (.int .i64 x169_1) (by kernel_rfl) (fun w _ => by kernel_rfl) ?_
          refine LL.op (.bool x169_2) (by kernel_rfl) (fun w _ => by kernel_rfl) ?_
          refine LL.op (.int .i64 x169_1) (by kernel_rfl) (fun w _ => by kernel_rfl) ?_
          refine LL.op (.bool x169_2) (by kernel_rfl) (fun w _ => by kernel_rfl) ?_
          refine LL.done (s' := [(2, .int .i64 0), (3, .int .i64 0), (4, .int .i64 x168_1), (6, .int .i64 x169_1)]) [2, 3, 4, 6] (by kernel_rfl) ?_
          refine NN.then ?_
          refine J.seq ?_
          refine J.plain ?_
          refine LL.op (.int .i64 x168_1) (by kernel_rfl) (fun w _ => by kernel_rfl) ?_
          refine LL.op (.int .i64 x169_1) (by kernel_rfl) (fun w _ => by kernel_rfl) ?_
          refine LL.op (.int .i64 x168_1) (by kernel_rfl) (fun w _ => by kernel_rfl) ?_
          refine LL.op (.int .i64 x169_1) (by kernel_rfl) (fun w _ => by kernel_rfl) ?_
          refine LL.done (s' := [(2, .int .i64 x168_1), (3, .int .i64 x169_1)]) [2, 3] (by kernel_rfl) ?_
          refine NN.then ?_
          refine J.ret ?_
          refine NN.fin2 2 3 (.int .i64 x168_1) (.int .i64 x169_1) (by kernel_rfl) (by kernel_rfl) (by kernel_rfl) (.inl rfl) (fun w hi => hi.ret ?_)
          first | (cases H; rfl) | (obtain rfl := Option.some.inj H; rfl) | (simp only [Option.some.injEq, Prod.mk.injEq] at H; obtain ⟨rfl, rfl⟩ := H; rfl)

/-! ### sizing_Allow: function 16 -/
def sizing_Allow.l0 (K : Nat) (a0_0 : ByteArray) (a0_1 : Int) (a0_2 : Int) (a0_4 : Int) (a1_0 : ByteArray) (a1_1 : Int) (a1_2 : Int) (a1_3 : Int) (a1_4 : Int) (a1_5 : Int) (a1_6 : Int) (a1_7 : Int) (a1_8 : Int) (a1_9 : Int) (a1_10 : Int) (a1_11 : Int) (a1_12 : Int) (a2 : Int) : Nat → Int → Option (Int)
  | 0, _ => none
  | k + 1, yg170_3 => if yg170_3 ≤ 200 then ((product_Green.f a0_0 a0_1 a0_2 yg170_3 a0_4).bind fun bx175 => ((wood_Shrunk.f a1_0 a1_1 a1_2 a1_3 a1_4 a1_5 a1_6 a1_7 a1_8 a1_9 a1_10 a1_11 a1_12 bx175.1 a2).bind fun x176 => (if x176 < a0_1 then (sizing_Allow.l0 K a0_0 a0_1 a0_2 a0_4 a1_0 a1_1 a1_2 a1_3 a1_4 a1_5 a1_6 a1_7 a1_8 a1_9 a1_10 a1_11 a1_12 a2 k (IntKind.i64.wrap (yg170_3 + 1))) else ((wood_Shrunk.f a1_0 a1_1 a1_2 a1_3 a1_4 a1_5 a1_6 a1_7 a1_8 a1_9 a1_10 a1_11 a1_12 bx175.2 a2).bind fun x178 => (if x178 < a0_2 then (sizing_Allow.l0 K a0_0 a0_1 a0_2 a0_4 a1_0 a1_1 a1_2 a1_3 a1_4 a1_5 a1_6 a1_7 a1_8 a1_9 a1_10 a1_11 a1_12 a2 k (IntKind.i64.wrap (yg170_3 + 1))) else (some yg170_3)))))) else (some 201)
def sizing_Allow.f (K : Nat) (a0_0 : ByteArray) (a0_1 : Int) (a0_2 : Int) (a0_3 : Int) (a0_4 : Int) (a1_0 : ByteArray) (a1_1 : Int) (a1_2 : Int) (a1_3 : Int) (a1_4 : Int) (a1_5 : Int) (a1_6 : Int) (a1_7 : Int) (a1_8 : Int) (a1_9 : Int) (a1_10 : Int) (a1_11 : Int) (a1_12 : Int) (a2 : Int) : Option (Int) := if (mn a0_1 a0_2) < 1 then (some 201) else (if 600 < (mx a0_1 a0_2) then (some 201) else (sizing_Allow.l0 K a0_0 a0_1 a0_2 a0_4 a1_0 a1_1 a1_2 a1_3 a1_4 a1_5 a1_6 a1_7 a1_8 a1_9 a1_10 a1_11 a1_12 a2 K 0))
set_option maxRecDepth 100000 in
theorem sizing_Allow.calls (K : Nat) (a0_0 : ByteArray) (a0_1 : Int) (a0_2 : Int) (a0_3 : Int) (a0_4 : Int) (a1_0 : ByteArray) (a1_1 : Int) (a1_2 : Int) (a1_3 : Int) (a1_4 : Int) (a1_5 : Int) (a1_6 : Int) (a1_7 : Int) (a1_8 : Int) (a1_9 : Int) (a1_10 : Int) (a1_11 : Int) (a1_12 : Int) (a2 : Int)  (Aa0_5 : Option Addr) (na0_5 ca0_5 : Nat) (Aa0_6 : Option Addr) (na0_6 ca0_6 : Nat) (r1 : Int) (w : World)   (h : sizing_Allow.f K a0_0 a0_1 a0_2 a0_3 a0_4 a1_0 a1_1 a1_2 a1_3 a1_4 a1_5 a1_6 a1_7 a1_8 a1_9 a1_10 a1_11 a1_12 a2 = some r1) :
    Calls Try.prog 16 #[.agg #[.string a0_0, .int .i64 a0_1, .int .i64 a0_2, .int .i64 a0_3, .int .i64 a0_4, .slice Aa0_5 na0_5 ca0_5, .slice Aa0_6 na0_6 ca0_6], .agg #[.string a1_0, .int .i64 a1_1, .int .i64 a1_2, .int .i64 a1_3, .int .i64 a1_4, .int .i64 a1_5, .int .i64 a1_6, .int .i64 a1_7, .int .i64 a1_8, .int .i64 a1_9, .int .i64 a1_10, .int .i64 a1_11, .int .i64 a1_12], .int .i64 a2] w (Ret w (.int .i64 r1)) := by
  have H := h
  clear h
  unfold sizing_Allow.f at H
  refine Go.Saw.calls (args := [.agg #[.string a0_0, .int .i64 a0_1, .int .i64 a0_2, .int .i64 a0_3, .int .i64 a0_4, .slice Aa0_5 na0_5 ca0_5, .slice Aa0_6 na0_6 ca0_6], .agg #[.string a1_0, .int .i64 a1_1, .int .i64 a1_2, .int .i64 a1_3, .int .i64 a1_4, .int .i64 a1_5, .int .i64 a1_6, .int .i64 a1_7, .int .i64 a1_8, .int .i64 a1_9, .int .i64 a1_10, .int .i64 a1_11, .int .i64 a1_12], .int .i64 a2]) Try.func16 rfl Try.ntmps16 (by kernel_rfl) ?_
  refine J.seq ?_
  refine J.plain ?_
  refine LL.box 33 (.tmp 0) [.string a0_0, .int .i64 a0_1, .int .i64 a0_2, .int .i64 a0_3, .int .i64 a0_4, .slice Aa0_5 na0_5 ca0_5, .slice Aa0_6 na0_6 ca0_6] (by kernel_rfl) rfl (by kernel_rfl) (fun g170 => ?_)
  refine LL.box 35 (.tmp 1) [.string a1_0, .int .i64 a1_1, .int .i64 a1_2, .int .i64 a1_3, .int .i64 a1_4, .int .i64 a1_5, .int .i64 a1_6, .int .i64 a1_7, .int .i64 a1_8, .int .i64 a1_9, .int .i64 a1_10, .int .i64 a1_11, .int .i64 a1_12] (by kernel_rfl) rfl (by kernel_rfl) (fun g171 => ?_)
  refine LL.op (.int .i64 0) (by kernel_rfl) (fun w _ => by kernel_rfl) ?_
  refine LL.done (s' := [(2, .int .i64 a2), (3, .pointer (some ⟨g170, 0, none⟩)), (4, .pointer (some ⟨g171, 0, none⟩)), (6, .int .i64 0)]) [2, 3, 4, 6] (by kernel_rfl) ?_
  refine NN.then ?_
  refine J.scope ?_
  refine J.seq ?_
  refine J.seq ?_
  refine J.plain ?_
  refine LL.op (.pointer (some ⟨g170, 1, none⟩)) (by kernel_rfl) (fun w _ => by kernel_rfl) ?_
  refine LL.op (.int .i64 a0_1) (by kernel_rfl) (ld 1 g170 1 rfl (by kernel_rfl) rfl (by kernel_rfl)) ?_
  refine LL.op (.pointer (some ⟨g170, 2, none⟩)) (by kernel_rfl) (fun w _ => by kernel_rfl) ?_
  refine LL.op (.int .i64 a0_2) (by kernel_rfl) (ld 1 g170 2 rfl (by kernel_rfl) rfl (by kernel_rfl)) ?_
  refine LL.op (.int .i64 (mn a0_1 a0_2)) (by kernel_rfl) (fun w _ => by kernel_rfl) ?_
  refine LL.op (.bool (decide ((mn a0_1 a0_2) < 1))) (by kernel_rfl) (fun w _ => by kernel_rfl) ?_
  refine LL.op (.bool (decide ((mn a0_1 a0_2) < 1))) (by kernel_rfl) (fun w _ => by kernel_rfl) ?_
  rcases Bool.eq_false_or_eq_true (decide ((mn a0_1 a0_2) < 1)) with c172 | c172
  · rw [if_pos (of_decide_eq_true c172)] at H
    refine LL.bool 15 (decide ((mn a0_1 a0_2) < 1)) true c172 (by kernel_rfl) ?_
    refine LL.off (by kernel_rfl) (by kernel_rfl) ?_
    refine LL.off (by kernel_rfl) (by kernel_rfl) ?_
    refine LL.off (by kernel_rfl) (by kernel_rfl) ?_
    refine LL.off (by kernel_rfl) (by kernel_rfl) ?_
    refine LL.off (by kernel_rfl) (by kernel_rfl) ?_
    refine LL.off (by kernel_rfl) (by kernel_rfl) ?_
    refine LL.op (.bool true) (by kernel_rfl) (fun w _ => by kernel_rfl) ?_
    refine LL.done (s' := [(2, .int .i64 a2), (3, .pointer (some ⟨g170, 0, none⟩)), (4, .pointer (some ⟨g171, 0, none⟩)), (6, .int .i64 0), (22, .bool true)]) [2, 3, 4, 6, 22] (by kernel_rfl) ?_
    refine NN.then ?_
    refine J.condT (b := true) rfl (by kernel_rfl) (by kernel_rfl) ?_
    refine J.seq ?_
    refine J.plain ?_
    refine LL.op (.int .i64 201) (by kernel_rfl) (fun w _ => by kernel_rfl) ?_
    refine LL.done (s' := [(2, .int .i64 a2), (3, .pointer (some ⟨g170, 0, none⟩)), (4, .pointer (some ⟨g171, 0, none⟩)), (6, .int .i64 201)]) [2, 3, 4, 6] (by kernel_rfl) ?_
    refine NN.then ?_
    refine J.ret ?_
    refine NN.then_ret ?_
    refine NN.scope_ret ?_
    refine NN.fin1 6 (.int .i64 201) (by kernel_rfl) (by kernel_rfl) (.inl rfl) (fun w hi => hi.ret ?_)
    first | (cases H; rfl) | (obtain rfl := Option.some.inj H; rfl) | (simp only [Option.some.injEq, Prod.mk.injEq] at H; obtain ⟨rfl⟩ := H; rfl)
  · rw [if_neg (of_decide_eq_false c172)] at H
    refine LL.bool 15 (decide ((mn a0_1 a0_2) < 1)) false c172 (by kernel_rfl) ?_
    refine LL.op (.pointer (some ⟨g170, 1, none⟩)) (by kernel_rfl) (fun w _ => by kernel_rfl) ?_
    refine LL.op (.int .i64 a0_1) (by kernel_rfl) (ld 1 g170 1 rfl (by kernel_rfl) rfl (by kernel_rfl)) ?_
    refine LL.op (.pointer (some ⟨g170, 2, none⟩)) (by kernel_rfl) (fun w _ => by kernel_rfl) ?_
    refine LL.op (.int .i64 a0_2) (by kernel_rfl) (ld 1 g170 2 rfl (by kernel_rfl) rfl (by kernel_rfl)) ?_
    refine LL.op (.int .i64 (mx a0_1 a0_2)) (by kernel_rfl) (fun w _ => by kernel_rfl) ?_
    refine LL.op (.bool (decide (600 < (mx a0_1 a0_2)))) (by kernel_rfl) (fun w _ => by kernel_rfl) ?_
    refine LL.op (.bool (decide (600 < (mx a0_1 a0_2)))) (by kernel_rfl) (fun w _ => by kernel_rfl) ?_
    refine LL.done (s' := [(2, .int .i64 a2), (3, .pointer (some ⟨g170, 0, none⟩)), (4, .pointer (some ⟨g171, 0, none⟩)), (6, .int .i64 0), (22, .bool (decide (600 < (mx a0_1 a0_2))))]) [2, 3, 4, 6, 22] (by kernel_rfl) ?_
    refine NN.then ?_
    rcases Bool.eq_false_or_eq_true (decide (600 < (mx a0_1 a0_2))) with c173 | c173
    · rw [if_pos (of_decide_eq_true c173)] at H
      refine J.condT (b := decide (600 < (mx a0_1 a0_2))) c173 (by kernel_rfl) (by kernel_rfl) ?_
      refine J.seq ?_
      refine J.plain ?_
      refine LL.op (.int .i64 201) (by kernel_rfl) (fun w _ => by kernel_rfl) ?_
      refine LL.done (s' := [(2, .int .i64 a2), (3, .pointer (some ⟨g170, 0, none⟩)), (4, .pointer (some ⟨g171, 0, none⟩)), (6, .int .i64 201)]) [2, 3, 4, 6] (by kernel_rfl) ?_
      refine NN.then ?_
      refine J.ret ?_
      refine NN.then_ret ?_
      refine NN.scope_ret ?_
      refine NN.fin1 6 (.int .i64 201) (by kernel_rfl) (by kernel_rfl) (.inl rfl) (fun w hi => hi.ret ?_)
      first | (cases H; rfl) | (obtain rfl := Option.some.inj H; rfl) | (simp only [Option.some.injEq, Prod.mk.injEq] at H; obtain ⟨rfl⟩ := H; rfl)
    · rw [if_neg (of_decide_eq_false c173)] at H
      refine J.condF (b := decide (600 < (mx a0_1 a0_2))) c173 (by kernel_rfl) (by kernel_rfl) ?_
      refine J.skip ?_
      refine NN.then ?_
      refine J.seq ?_
      refine J.label ?_
      refine NN.then ?_
      refine J.seq ?_
      refine J.seq ?_
      refine J.plain ?_
      refine LL.op (.pointer (some ⟨g170, 3, none⟩)) (by kernel_rfl) (fun w _ => by kernel_rfl) ?_
      refine LL.store 1 g170 3 3 (.tmp 23) (.const (.int .i64 0)) [.string a0_0, .int .i64 a0_1, .int .i64 a0_2, .int .i64 0, .int .i64 a0_4, .slice Aa0_5 na0_5 ca0_5, .slice Aa0_6 na0_6 ca0_6] (bs' := [(g171, cl [.string a1_0, .int .i64 a1_1, .int .i64 a1_2, .int .i64 a1_3, .int .i64 a1_4, .int .i64 a1_5, .int .i64 a1_6, .int .i64 a1_7, .int .i64 a1_8, .int .i64 a1_9, .int .i64 a1_10, .int .i64 a1_11, .int .i64 a1_12] 35), (g170, cl [.string a0_0, .int .i64 a0_1, .int .i64 a0_2, .int .i64 0, .int .i64 a0_4, .slice Aa0_5 na0_5 ca0_5, .slice Aa0_6 na0_6 ca0_6] 33)]) rfl (by kernel_rfl) rfl (by kernel_rfl) rfl (by kernel_rfl) ?_
      refine LL.done (s' := [(2, .int .i64 a2), (3, .pointer (some ⟨g170, 0, none⟩)), (4, .pointer (some ⟨g171, 0, none⟩)), (6, .int .i64 0)]) [2, 3, 4, 6] (by kernel_rfl) ?_
      refine NN.then ?_
      refine J.block ?_
      refine J.to [2, 3, 4, 6] (s' := [(2, .int .i64 a2), (3, .pointer (some ⟨g170, 0, none⟩)), (4, .pointer (some ⟨g171, 0, none⟩)), (6, .int .i64 0)]) (by kernel_rfl) ?_
      refine J.loop (fun n_ s_ bs_ => ∃ (yg170_3 : Int), sizing_Allow.l0 K a0_0 a0_1 a0_2 a0_4 a1_0 a1_1 a1_2 a1_3 a1_4 a1_5 a1_6 a1_7 a1_8 a1_9 a1_10 a1_11 a1_12 a2 n_ yg170_3 = some r1 ∧ s_ = [(2, .int .i64 a2), (3, .pointer (some ⟨g170, 0, none⟩)), (4, .pointer (some ⟨g171, 0, none⟩)), (6, .int .i64 0)] ∧ bs_ = [(g171, cl [.string a1_0, .int .i64 a1_1, .int .i64 a1_2, .int .i64 a1_3, .int .i64 a1_4, .int .i64 a1_5, .int .i64 a1_6, .int .i64 a1_7, .int .i64 a1_8, .int .i64 a1_9, .int .i64 a1_10, .int .i64 a1_11, .int .i64 a1_12] 35), (g170, cl [.string a0_0, .int .i64 a0_1, .int .i64 a0_2, .int .i64 yg170_3, .int .i64 a0_4, .slice Aa0_5 na0_5 ca0_5, .slice Aa0_6 na0_6 ca0_6] 33)]) K ⟨0, H, rfl, rfl⟩ ?_
      rintro (_ | n_) s_ bs_ ⟨yg170_3, H, rfl, rfl⟩
      · exact absurd H (by simp [sizing_Allow.l0])
      simp only [sizing_Allow.l0] at H
      refine J.seq ?_
      refine J.seq ?_
      refine J.plain ?_
      refine LL.op (.pointer (some ⟨g170, 3, none⟩)) (by kernel_rfl) (fun w _ => by kernel_rfl) ?_
      refine LL.op (.int .i64 yg170_3) (by kernel_rfl) (ld 1 g170 3 rfl (by kernel_rfl) rfl (by kernel_rfl)) ?_
      refine LL.op (.bool (decide (yg170_3 ≤ 200))) (by kernel_rfl) (fun w _ => by kernel_rfl) ?_
      refine LL.done (s' := [(2, .int .i64 a2), (3, .pointer (some ⟨g170, 0, none⟩)), (4, .pointer (some ⟨g171, 0, none⟩)), (6, .int .i64 0), (26, .bool (decide (yg170_3 ≤ 200)))]) [2, 3, 4, 6, 26] (by kernel_rfl) ?_
      refine NN.then ?_
      rcases Bool.eq_false_or_eq_true (decide (yg170_3 ≤ 200)) with c174 | c174
      · rw [if_pos (of_decide_eq_true c174)] at H
        refine J.condT (b := decide (yg170_3 ≤ 200)) c174 (by kernel_rfl) (by kernel_rfl) ?_
        refine J.skip ?_
        refine NN.then ?_
        refine J.seq ?_
        refine J.block ?_
        refine J.seq ?_
        refine J.plain ?_
        refine LL.op (.agg #[.string a0_0, .int .i64 a0_1, .int .i64 a0_2, .int .i64 yg170_3, .int .i64 a0_4, .slice Aa0_5 na0_5 ca0_5, .slice Aa0_6 na0_6 ca0_6]) (by kernel_rfl) (ld 1 g170 0 rfl (by kernel_rfl) rfl (by kernel_rfl)) ?_
        obtain ⟨⟨x175_1, x175_2⟩, hx175, H⟩ := bind_some H
        (try dsimp only at H)
        refine LL.call 20 #[.agg #[.string a0_0, .int .i64 a0_1, .int .i64 a0_2, .int .i64 yg170_3, .int .i64 a0_4, .slice Aa0_5 na0_5 ca0_5, .slice Aa0_6 na0_6 ca0_6]] (.tuple #[.int .i64 x175_1, .int .i64 x175_2]) (by kernel_rfl) (fun w => by kernel_rfl) (fun w hw => product_Green.calls a0_0 a0_1 a0_2 yg170_3 a0_4  _ _ _ _ _ _ _ _ w   hx175) ?_
        refine LL.op (.tuple #[.int .i64 x175_1, .int .i64 x175_2]) (by kernel_rfl) (fun w _ => by kernel_rfl) ?_
        refine LL.op (.int .i64 x175_1) (by kernel_rfl) (fun w _ => by kernel_rfl) ?_
        refine LL.op (.int .i64 x175_2) (by kernel_rfl) (fun w _ => by kernel_rfl) ?_
        refine LL.op (.int .i64 x175_1) (by kernel_rfl) (fun w _ => by kernel_rfl) ?_
        refine LL.op (.int .i64 x175_2) (by kernel_rfl) (fun w _ => by kernel_rfl) ?_
        refine LL.done (s' := [(2, .int .i64 a2), (3, .pointer (some ⟨g170, 0, none⟩)), (4, .pointer (some ⟨g171, 0, none⟩)), (6, .int .i64 0), (7, .int .i64 x175_1), (8, .int .i64 x175_2)]) [2, 3, 4, 6, 7, 8] (by kernel_rfl) ?_
        refine NN.then ?_
        refine J.seq ?_
        refine J.seq ?_
        refine J.drawn follows (by kernel_rfl) ?_
        refine QQ.op (.agg #[.string a1_0, .int .i64 a1_1, .int .i64 a1_2, .int .i64 a1_3, .int .i64 a1_4, .int .i64 a1_5, .int .i64 a1_6, .int .i64 a1_7, .int .i64 a1_8, .int .i64 a1_9, .int .i64 a1_10, .int .i64 a1_11, .int .i64 a1_12]) (by kernel_rfl) (ld 0 g171 0 rfl (by kernel_rfl) rfl (by kernel_rfl)) ?_
        refine QQ.op (.int .i64 x175_1) (by kernel_rfl) (fun w _ => by kernel_rfl) ?_
        refine QQ.op (.int .i64 a2) (by kernel_rfl) (fun w _ => by kernel_rfl) ?_
        obtain ⟨x176, hx176, H⟩ := bind_some H
        refine QQ.call 24 #[.agg #[.string a1_0, .int .i64 a1_1, .int .i64 a1_2, .int .i64 a1_3, .int .i64 a1_4, .int .i64 a1_5, .int .i64 a1_6, .int .i64 a1_7, .int .i64 a1_8, .int .i64 a1_9, .int .i64 a1_10, .int .i64 a1_11, .int .i64 a1_12], .int .i64 x175_1, .int .i64 a2] (.int .i64 x176) (by kernel_rfl) (fun w => by kernel_rfl) (fun w hw => wood_Shrunk.calls a1_0 a1_1 a1_2 a1_3 a1_4 a1_5 a1_6 a1_7 a1_8 a1_9 a1_10 a1_11 a1_12 x175_1 a2   _ w   hx176) ?_
        refine QQ.op (.pointer (some ⟨g170, 1, none⟩)) (by kernel_rfl) (fun w _ => by kernel_rfl) ?_
        refine QQ.op (.int .i64 a0_1) (by kernel_rfl) (ld 1 g170 1 rfl (by kernel_rfl) rfl (by kernel_rfl)) ?_
        refine QQ.op (.bool (decide (x176 < a0_1))) (by kernel_rfl) (fun w _ => by kernel_rfl) ?_
        refine QQ.op (.bool (decide (x176 < a0_1))) (by kernel_rfl) (fun w _ => by kernel_rfl) ?_
        rcases Bool.eq_false_or_eq_true (decide (x176 < a0_1)) with c177 | c177
        · rw [if_pos (of_decide_eq_true c177)] at H
          refine QQ.bool 43 (decide (x176 < a0_1)) true c177 (by kernel_rfl) ?_
          refine QQ.off (by kernel_rfl) (by kernel_rfl) ?_
          refine QQ.off (by kernel_rfl) (by kernel_rfl) ?_
          refine QQ.off (by kernel_rfl) (by kernel_rfl) ?_
          refine QQ.off (by kernel_rfl) (by kernel_rfl) ?_
          refine QQ.off (by kernel_rfl) (by kernel_rfl) ?_
          refine QQ.off (by kernel_rfl) (by kernel_rfl) ?_
          refine QQ.off (by kernel_rfl) (by kernel_rfl) ?_
          refine QQ.op (.bool true) (by kernel_rfl) (fun w _ => by kernel_rfl) ?_
          refine QQ.done (s' := [(2, .int .i64 a2), (3, .pointer (some ⟨g170, 0, none⟩)), (4, .pointer (some ⟨g171, 0, none⟩)), (6, .int .i64 0), (51, .bool true)]) [2, 3, 4, 6, 51] (by kernel_rfl) ?_
          refine NN.then ?_
          refine J.condT (b := true) rfl (by kernel_rfl) (by kernel_rfl) ?_
          refine J.exit ?_
          refine NN.then_exit ?_
          refine NN.block_same ?_
          refine NN.then ?_
          refine J.plain ?_
          refine LL.op (.pointer (some ⟨g170, 3, none⟩)) (by kernel_rfl) (fun w _ => by kernel_rfl) ?_
          refine LL.op (.int .i64 yg170_3) (by kernel_rfl) (ld 1 g170 3 rfl (by kernel_rfl) rfl (by kernel_rfl)) ?_
          refine LL.op (.int .i64 (IntKind.i64.wrap (yg170_3 + 1))) (by kernel_rfl) (fun w _ => by kernel_rfl) ?_
          refine LL.op (.pointer (some ⟨g170, 3, none⟩)) (by kernel_rfl) (fun w _ => by kernel_rfl) ?_
          refine LL.store 1 g170 3 3 (.tmp 30) (.tmp 29) [.string a0_0, .int .i64 a0_1, .int .i64 a0_2, .int .i64 (IntKind.i64.wrap (yg170_3 + 1)), .int .i64 a0_4, .slice Aa0_5 na0_5 ca0_5, .slice Aa0_6 na0_6 ca0_6] (bs' := [(g171, cl [.string a1_0, .int .i64 a1_1, .int .i64 a1_2, .int .i64 a1_3, .int .i64 a1_4, .int .i64 a1_5, .int .i64 a1_6, .int .i64 a1_7, .int .i64 a1_8, .int .i64 a1_9, .int .i64 a1_10, .int .i64 a1_11, .int .i64 a1_12] 35), (g170, cl [.string a0_0, .int .i64 a0_1, .int .i64 a0_2, .int .i64 (IntKind.i64.wrap (yg170_3 + 1)), .int .i64 a0_4, .slice Aa0_5 na0_5 ca0_5, .slice Aa0_6 na0_6 ca0_6] 33)]) rfl (by kernel_rfl) rfl (by kernel_rfl) rfl (by kernel_rfl) ?_
          refine LL.done (s' := [(2, .int .i64 a2), (3, .pointer (some ⟨g170, 0, none⟩)), (4, .pointer (some ⟨g171, 0, none⟩)), (6, .int .i64 0)]) [2, 3, 4, 6] (by kernel_rfl) ?_
          exact NN.round' [2, 3, 4, 6] (bs' := [(g171, cl [.string a1_0, .int .i64 a1_1, .int .i64 a1_2, .int .i64 a1_3, .int .i64 a1_4, .int .i64 a1_5, .int .i64 a1_6, .int .i64 a1_7, .int .i64 a1_8, .int .i64 a1_9, .int .i64 a1_10, .int .i64 a1_11, .int .i64 a1_12] 35), (g170, cl [.string a0_0, .int .i64 a0_1, .int .i64 a0_2, .int .i64 (IntKind.i64.wrap (yg170_3 + 1)), .int .i64 a0_4, .slice Aa0_5 na0_5 ca0_5, .slice Aa0_6 na0_6 ca0_6] 33)]) (Nat.lt_succ_self _) (List.Sublist.refl _) (by kernel_rfl) ⟨IntKind.i64.wrap (yg170_3 + 1), H, rfl, rfl⟩
        · rw [if_neg (of_decide_eq_false c177)] at H
          refine QQ.bool 43 (decide (x176 < a0_1)) false c177 (by kernel_rfl) ?_
          refine QQ.op (.agg #[.string a1_0, .int .i64 a1_1, .int .i64 a1_2, .int .i64 a1_3, .int .i64 a1_4, .int .i64 a1_5, .int .i64 a1_6, .int .i64 a1_7, .int .i64 a1_8, .int .i64 a1_9, .int .i64 a1_10, .int .i64 a1_11, .int .i64 a1_12]) (by kernel_rfl) (ld 0 g171 0 rfl (by kernel_rfl) rfl (by kernel_rfl)) ?_
          refine QQ.op (.int .i64 x175_2) (by kernel_rfl) (fun w _ => by kernel_rfl) ?_
          refine QQ.op (.int .i64 a2) (by kernel_rfl) (fun w _ => by kernel_rfl) ?_
          obtain ⟨x178, hx178, H⟩ := bind_some H
          refine QQ.call 24 #[.agg #[.string a1_0, .int .i64 a1_1, .int .i64 a1_2, .int .i64 a1_3, .int .i64 a1_4, .int .i64 a1_5, .int .i64 a1_6, .int .i64 a1_7, .int .i64 a1_8, .int .i64 a1_9, .int .i64 a1_10, .int .i64 a1_11, .int .i64 a1_12], .int .i64 x175_2, .int .i64 a2] (.int .i64 x178) (by kernel_rfl) (fun w => by kernel_rfl) (fun w hw => wood_Shrunk.calls a1_0 a1_1 a1_2 a1_3 a1_4 a1_5 a1_6 a1_7 a1_8 a1_9 a1_10 a1_11 a1_12 x175_2 a2   _ w   hx178) ?_
          refine QQ.op (.pointer (some ⟨g170, 2, none⟩)) (by kernel_rfl) (fun w _ => by kernel_rfl) ?_
          refine QQ.op (.int .i64 a0_2) (by kernel_rfl) (ld 1 g170 2 rfl (by kernel_rfl) rfl (by kernel_rfl)) ?_
          refine QQ.op (.bool (decide (x178 < a0_2))) (by kernel_rfl) (fun w _ => by kernel_rfl) ?_
          refine QQ.op (.bool (decide (x178 < a0_2))) (by kernel_rfl) (fun w _ => by kernel_rfl) ?_
          refine QQ.done (s' := [(2, .int .i64 a2), (3, .pointer (some ⟨g170, 0, none⟩)), (4, .pointer (some ⟨g171, 0, none⟩)), (6, .int .i64 0), (51, .bool (decide (x178 < a0_2)))]) [2, 3, 4, 6, 51] (by kernel_rfl) ?_
          refine NN.then ?_
          rcases Bool.eq_false_or_eq_true (decide (x178 < a0_2)) with c179 | c179
          · rw [if_pos (of_decide_eq_true c179)] at H
            refine J.condT (b := decide (x178 < a0_2)) c179 (by kernel_rfl) (by kernel_rfl) ?_
            refine J.exit ?_
            refine NN.then_exit ?_
            refine NN.block_same ?_
            refine NN.then ?_
            refine J.plain ?_
            refine LL.op (.pointer (some ⟨g170, 3, none⟩)) (by kernel_rfl) (fun w _ => by kernel_rfl) ?_
            refine LL.op (.int .i64 yg170_3) (by kernel_rfl) (ld 1 g170 3 rfl (by kernel_rfl) rfl (by kernel_rfl)) ?_
            refine LL.op (.int .i64 (IntKind.i64.wrap (yg170_3 + 1))) (by kernel_rfl) (fun w _ => by kernel_rfl) ?_
            refine LL.op (.pointer (some ⟨g170, 3, none⟩)) (by kernel_rfl) (fun w _ => by kernel_rfl) ?_
            refine LL.store 1 g170 3 3 (.tmp 30) (.tmp 29) [.string a0_0, .int .i64 a0_1, .int .i64 a0_2, .int .i64 (IntKind.i64.wrap (yg170_3 + 1)), .int .i64 a0_4, .slice Aa0_5 na0_5 ca0_5, .slice Aa0_6 na0_6 ca0_6] (bs' := [(g171, cl [.string a1_0, .int .i64 a1_1, .int .i64 a1_2, .int .i64 a1_3, .int .i64 a1_4, .int .i64 a1_5, .int .i64 a1_6, .int .i64 a1_7, .int .i64 a1_8, .int .i64 a1_9, .int .i64 a1_10, .int .i64 a1_11, .int .i64 a1_12] 35), (g170, cl [.string a0_0, .int .i64 a0_1, .int .i64 a0_2, .int .i64 (IntKind.i64.wrap (yg170_3 + 1)), .int .i64 a0_4, .slice Aa0_5 na0_5 ca0_5, .slice Aa0_6 na0_6 ca0_6] 33)]) rfl (by kernel_rfl) rfl (by kernel_rfl) rfl (by kernel_rfl) ?_
            refine LL.done (s' := [(2, .int .i64 a2), (3, .pointer (some ⟨g170, 0, none⟩)), (4, .pointer (some ⟨g171, 0, none⟩)), (6, .int .i64 0)]) [2, 3, 4, 6] (by kernel_rfl) ?_
            exact NN.round' [2, 3, 4, 6] (bs' := [(g171, cl [.string a1_0, .int .i64 a1_1, .int .i64 a1_2, .int .i64 a1_3, .int .i64 a1_4, .int .i64 a1_5, .int .i64 a1_6, .int .i64 a1_7, .int .i64 a1_8, .int .i64 a1_9, .int .i64 a1_10, .int .i64 a1_11, .int .i64 a1_12] 35), (g170, cl [.string a0_0, .int .i64 a0_1, .int .i64 a0_2, .int .i64 (IntKind.i64.wrap (yg170_3 + 1)), .int .i64 a0_4, .slice Aa0_5 na0_5 ca0_5, .slice Aa0_6 na0_6 ca0_6] 33)]) (Nat.lt_succ_self _) (List.Sublist.refl _) (by kernel_rfl) ⟨IntKind.i64.wrap (yg170_3 + 1), H, rfl, rfl⟩
          · rw [if_neg (of_decide_eq_false c179)] at H
            refine J.condF (b := decide (x178 < a0_2)) c179 (by kernel_rfl) (by kernel_rfl) ?_
            refine J.skip ?_
            refine NN.then ?_
            refine J.seq ?_
            refine J.plain ?_
            refine LL.op (.pointer (some ⟨g170, 3, none⟩)) (by kernel_rfl) (fun w _ => by kernel_rfl) ?_
            refine LL.op (.int .i64 yg170_3) (by kernel_rfl) (ld 1 g170 3 rfl (by kernel_rfl) rfl (by kernel_rfl)) ?_
            refine LL.op (.int .i64 yg170_3) (by kernel_rfl) (fun w _ => by kernel_rfl) ?_
            refine LL.done (s' := [(2, .int .i64 a2), (3, .pointer (some ⟨g170, 0, none⟩)), (4, .pointer (some ⟨g171, 0, none⟩)), (6, .int .i64 yg170_3)]) [2, 3, 4, 6] (by kernel_rfl) ?_
            refine NN.then ?_
            refine J.ret ?_
            refine NN.block_ret ?_
            refine NN.then_ret ?_
            refine NN.then_ret ?_
            refine NN.block_ret ?_
            refine NN.then_ret ?_
            refine NN.scope_ret ?_
            refine NN.fin1 6 (.int .i64 yg170_3) (by kernel_rfl) (by kernel_rfl) (.inl rfl) (fun w hi => hi.ret ?_)
            first | (cases H; rfl) | (obtain rfl := Option.some.inj H; rfl) | (simp only [Option.some.injEq, Prod.mk.injEq] at H; obtain ⟨rfl⟩ := H; rfl)
      · rw [if_neg (of_decide_eq_false c174)] at H
        refine J.condF (b := decide (yg170_3 ≤ 200)) c174 (by kernel_rfl) (by kernel_rfl) ?_
        refine J.exit ?_
        refine NN.then_exit ?_
        refine NN.then_exit ?_
        refine NN.block_same ?_
        refine NN.then ?_
        refine J.seq ?_
        refine J.plain ?_
        refine LL.op (.int .i64 201) (by kernel_rfl) (fun w _ => by kernel_rfl) ?_
        refine LL.done (s' := [(6, .int .i64 201)]) [6] (by kernel_rfl) ?_
        refine NN.then ?_
        refine J.ret ?_
        refine NN.scope_ret ?_
        refine NN.fin1 6 (.int .i64 201) (by kernel_rfl) (by kernel_rfl) (.inl rfl) (fun w hi => hi.ret ?_)
        first | (cases H; rfl) | (obtain rfl := Option.some.inj H; rfl) | (simp only [Option.some.injEq, Prod.mk.injEq] at H; obtain ⟨rfl⟩ := H; rfl)

/-! ### sawmilllaw39_awake: function 15 -/
def sawmilllaw39_awake.f (K : Nat)  : Option (Bool) := (sawmilllaw39_sample.f ).bind fun bx180 => ((sizing_Dried.f bx180.2.2.2.2.2.2.2.2.2.2.2.2.2.2.2.2.2.2.1 bx180.2.2.2.2.2.2.2.2.2.2.2.2.2.2.2.2.2.2.2.1 bx180.2.2.2.2.2.2.2.2.2.2.2.2.2.2.2.2.2.2.2.2.1 bx180.2.2.2.2.2.2.2.2.2.2.2.2.2.2.2.2.2.2.2.2.2.1 bx180.2.2.2.2.2.2.2.2.2.2.2.2.2.2.2.2.2.2.2.2.2.2.1 bx180.2.2.2.2.2.2.2.2.2.2.2.2.2.2.2.2.2.2.2.2.2.2.2.1 bx180.2.2.2.2.2.2.2.2.2.2.2.2.2.2.2.2.2.2.2.2.2.2.2.2.1 bx180.2.2.2.2.2.2.2.2.2.2.2.2.2.2.2.2.2.2.2.2.2.2.2.2.2.1 bx180.2.2.2.2.2.2.2.2.2.2.2.2.2.2.2.2.2.2.2.2.2.2.2.2.2.2.1 bx180.2.2.2.2.2.2.2.2.2.2.2.2.2.2.2.2.2.2.2.2.2.2.2.2.2.2.2.1 bx180.2.2.2.2.2.2.2.2.2.2.2.2.2.2.2.2.2.2.2.2.2.2.2.2.2.2.2.2.1 bx180.2.2.2.2.2.2.2.2.2.2.2.2.2.2.2.2.2.2.2.2.2.2.2.2.2.2.2.2.2.1 bx180.2.2.2.2.2.2.2.2.2.2.2.2.2.2.2.2.2.2.2.2.2.2.2.2.2.2.2.2.2.2.1 bx180.2.2.2.2.2.2.2.2.2.2.2.2.2.2.2.2.2.2.2.2.2.2.2.2.2.2.2.2.2.2.2.1 bx180.2.2.2.2.2.2.2.2.2.2.2.2.2.2.2.2.2.2.2.2.2.2.2.2.2.2.2.2.2.2.2.2.1 bx180.2.2.2.2.2.2.2.2.2.2.2.2.2.2.2.2.2.2.2.2.2.2.2.2.2.2.2.2.2.2.2.2.2.1 bx180.2.2.2.2.2.2.2.2.2.2.2.2.2.2.2.2.2.2.2.2.2.2.2.2.2.2.2.2.2.2.2.2.2.2 bx180.1 bx180.2.1 bx180.2.2.1 bx180.2.2.2.1 bx180.2.2.2.2.1 bx180.2.2.2.2.2.1 bx180.2.2.2.2.2.2.1 bx180.2.2.2.2.2.2.2.1 bx180.2.2.2.2.2.2.2.2.1 bx180.2.2.2.2.2.2.2.2.2.1 bx180.2.2.2.2.2.2.2.2.2.2.1 bx180.2.2.2.2.2.2.2.2.2.2.2.1 bx180.2.2.2.2.2.2.2.2.2.2.2.2.1).bind fun bx184 => (if bx184.1 = 41 then (if bx184.2 = 101 then ((sizing_Under.f bx180.2.2.2.2.2.2.2.2.2.2.2.2.2.2.2.2.2.2.1 bx180.2.2.2.2.2.2.2.2.2.2.2.2.2.2.2.2.2.2.2.1 bx180.2.2.2.2.2.2.2.2.2.2.2.2.2.2.2.2.2.2.2.2.1 bx180.2.2.2.2.2.2.2.2.2.2.2.2.2.2.2.2.2.2.2.2.2.1 bx180.2.2.2.2.2.2.2.2.2.2.2.2.2.2.2.2.2.2.2.2.2.2.1 bx180.2.2.2.2.2.2.2.2.2.2.2.2.2.2.2.2.2.2.2.2.2.2.2.1 bx180.2.2.2.2.2.2.2.2.2.2.2.2.2.2.2.2.2.2.2.2.2.2.2.2.1 bx180.2.2.2.2.2.2.2.2.2.2.2.2.2.2.2.2.2.2.2.2.2.2.2.2.2.1 bx180.2.2.2.2.2.2.2.2.2.2.2.2.2.2.2.2.2.2.2.2.2.2.2.2.2.2.1 bx180.2.2.2.2.2.2.2.2.2.2.2.2.2.2.2.2.2.2.2.2.2.2.2.2.2.2.2.1 bx180.2.2.2.2.2.2.2.2.2.2.2.2.2.2.2.2.2.2.2.2.2.2.2.2.2.2.2.2.1 bx180.2.2.2.2.2.2.2.2.2.2.2.2.2.2.2.2.2.2.2.2.2.2.2.2.2.2.2.2.2.1 bx180.2.2.2.2.2.2.2.2.2.2.2.2.2.2.2.2.2.2.2.2.2.2.2.2.2.2.2.2.2.2.1 bx180.2.2.2.2.2.2.2.2.2.2.2.2.2.2.2.2.2.2.2.2.2.2.2.2.2.2.2.2.2.2.2.1 bx180.2.2.2.2.2.2.2.2.2.2.2.2.2.2.2.2.2.2.2.2.2.2.2.2.2.2.2.2.2.2.2.2.1 bx180.2.2.2.2.2.2.2.2.2.2.2.2.2.2.2.2.2.2.2.2.2.2.2.2.2.2.2.2.2.2.2.2.2.1 bx180.2.2.2.2.2.2.2.2.2.2.2.2.2.2.2.2.2.2.2.2.2.2.2.2.2.2.2.2.2.2.2.2.2.2 bx180.2.2.2.2.2.2.2.2.2.2.2.2.2.1 bx180.2.2.2.2.2.2.2.2.2.2.2.2.2.2.1 bx180.2.2.2.2.2.2.2.2.2.2.2.2.2.2.2.1 bx180.2.2.2.2.2.2.2.2.2.2.2.2.2.2.2.2.1 bx180.2.2.2.2.2.2.2.2.2.2.2.2.2.2.2.2.2.1 bx180.1 bx180.2.1 bx180.2.2.1 bx180.2.2.2.1 bx180.2.2.2.2.1 bx180.2.2.2.2.2.1 bx180.2.2.2.2.2.2.1 bx180.2.2.2.2.2.2.2.1 bx180.2.2.2.2.2.2.2.2.1 bx180.2.2.2.2.2.2.2.2.2.1 bx180.2.2.2.2.2.2.2.2.2.2.1 bx180.2.2.2.2.2.2.2.2.2.2.2.1 bx180.2.2.2.2.2.2.2.2.2.2.2.2.1).bind fun x188 => (if x188 = true then (some false) else ((sizing_Under.f bx180.2.2.2.2.2.2.2.2.2.2.2.2.2.2.2.2.2.2.1 bx180.2.2.2.2.2.2.2.2.2.2.2.2.2.2.2.2.2.2.2.1 bx180.2.2.2.2.2.2.2.2.2.2.2.2.2.2.2.2.2.2.2.2.1 bx180.2.2.2.2.2.2.2.2.2.2.2.2.2.2.2.2.2.2.2.2.2.1 bx180.2.2.2.2.2.2.2.2.2.2.2.2.2.2.2.2.2.2.2.2.2.2.1 bx180.2.2.2.2.2.2.2.2.2.2.2.2.2.2.2.2.2.2.2.2.2.2.2.1 bx180.2.2.2.2.2.2.2.2.2.2.2.2.2.2.2.2.2.2.2.2.2.2.2.2.1 40 bx180.2.2.2.2.2.2.2.2.2.2.2.2.2.2.2.2.2.2.2.2.2.2.2.2.2.2.1 bx180.2.2.2.2.2.2.2.2.2.2.2.2.2.2.2.2.2.2.2.2.2.2.2.2.2.2.2.1 bx180.2.2.2.2.2.2.2.2.2.2.2.2.2.2.2.2.2.2.2.2.2.2.2.2.2.2.2.2.1 bx180.2.2.2.2.2.2.2.2.2.2.2.2.2.2.2.2.2.2.2.2.2.2.2.2.2.2.2.2.2.1 bx180.2.2.2.2.2.2.2.2.2.2.2.2.2.2.2.2.2.2.2.2.2.2.2.2.2.2.2.2.2.2.1 bx180.2.2.2.2.2.2.2.2.2.2.2.2.2.2.2.2.2.2.2.2.2.2.2.2.2.2.2.2.2.2.2.1 bx180.2.2.2.2.2.2.2.2.2.2.2.2.2.2.2.2.2.2.2.2.2.2.2.2.2.2.2.2.2.2.2.2.1 bx180.2.2.2.2.2.2.2.2.2.2.2.2.2.2.2.2.2.2.2.2.2.2.2.2.2.2.2.2.2.2.2.2.2.1 bx180.2.2.2.2.2.2.2.2.2.2.2.2.2.2.2.2.2.2.2.2.2.2.2.2.2.2.2.2.2.2.2.2.2.2 bx180.2.2.2.2.2.2.2.2.2.2.2.2.2.1 bx180.2.2.2.2.2.2.2.2.2.2.2.2.2.2.1 bx180.2.2.2.2.2.2.2.2.2.2.2.2.2.2.2.1 bx180.2.2.2.2.2.2.2.2.2.2.2.2.2.2.2.2.1 bx180.2.2.2.2.2.2.2.2.2.2.2.2.2.2.2.2.2.1 bx180.1 bx180.2.1 bx180.2.2.1 bx180.2.2.2.1 bx180.2.2.2.2.1 bx180.2.2.2.2.2.1 bx180.2.2.2.2.2.2.1 bx180.2.2.2.2.2.2.2.1 bx180.2.2.2.2.2.2.2.2.1 bx180.2.2.2.2.2.2.2.2.2.1 bx180.2.2.2.2.2.2.2.2.2.2.1 bx180.2.2.2.2.2.2.2.2.2.2.2.1 bx180.2.2.2.2.2.2.2.2.2.2.2.2.1).bind fun x190 => (if x190 = true then ((sizing_Allow.f K bx180.2.2.2.2.2.2.2.2.2.2.2.2.2.1 bx180.2.2.2.2.2.2.2.2.2.2.2.2.2.2.1 bx180.2.2.2.2.2.2.2.2.2.2.2.2.2.2.2.1 bx180.2.2.2.2.2.2.2.2.2.2.2.2.2.2.2.2.1 bx180.2.2.2.2.2.2.2.2.2.2.2.2.2.2.2.2.2.1 bx180.1 bx180.2.1 bx180.2.2.1 bx180.2.2.2.1 bx180.2.2.2.2.1 bx180.2.2.2.2.2.1 bx180.2.2.2.2.2.2.1 bx180.2.2.2.2.2.2.2.1 bx180.2.2.2.2.2.2.2.2.1 bx180.2.2.2.2.2.2.2.2.2.1 bx180.2.2.2.2.2.2.2.2.2.2.1 bx180.2.2.2.2.2.2.2.2.2.2.2.1 bx180.2.2.2.2.2.2.2.2.2.2.2.2.1 1200).bind fun x192 => (if x192 = 31 then ((sizing_Allow.f K bx180.2.2.2.2.2.2.2.2.2.2.2.2.2.1 bx180.2.2.2.2.2.2.2.2.2.2.2.2.2.2.1 bx180.2.2.2.2.2.2.2.2.2.2.2.2.2.2.2.1 bx180.2.2.2.2.2.2.2.2.2.2.2.2.2.2.2.2.1 bx180.2.2.2.2.2.2.2.2.2.2.2.2.2.2.2.2.2.1 bx180.1 bx180.2.1 bx180.2.2.1 bx180.2.2.2.1 bx180.2.2.2.2.1 bx180.2.2.2.2.2.1 bx180.2.2.2.2.2.2.1 bx180.2.2.2.2.2.2.2.1 bx180.2.2.2.2.2.2.2.2.1 bx180.2.2.2.2.2.2.2.2.2.1 bx180.2.2.2.2.2.2.2.2.2.2.1 bx180.2.2.2.2.2.2.2.2.2.2.2.1 bx180.2.2.2.2.2.2.2.2.2.2.2.2.1 3000).bind fun x194 => (if x194 = 0 then ((sizing_Volume.f bx180.2.2.2.2.2.2.2.2.2.2.2.2.2.2.2.2.2.2.1 bx180.2.2.2.2.2.2.2.2.2.2.2.2.2.2.2.2.2.2.2.1 bx180.2.2.2.2.2.2.2.2.2.2.2.2.2.2.2.2.2.2.2.2.1 bx180.2.2.2.2.2.2.2.2.2.2.2.2.2.2.2.2.2.2.2.2.2.1 bx180.2.2.2.2.2.2.2.2.2.2.2.2.2.2.2.2.2.2.2.2.2.2.1 bx180.2.2.2.2.2.2.2.2.2.2.2.2.2.2.2.2.2.2.2.2.2.2.2.1 bx180.2.2.2.2.2.2.2.2.2.2.2.2.2.2.2.2.2.2.2.2.2.2.2.2.1 bx180.2.2.2.2.2.2.2.2.2.2.2.2.2.2.2.2.2.2.2.2.2.2.2.2.2.1 bx180.2.2.2.2.2.2.2.2.2.2.2.2.2.2.2.2.2.2.2.2.2.2.2.2.2.2.1 bx180.2.2.2.2.2.2.2.2.2.2.2.2.2.2.2.2.2.2.2.2.2.2.2.2.2.2.2.1 bx180.2.2.2.2.2.2.2.2.2.2.2.2.2.2.2.2.2.2.2.2.2.2.2.2.2.2.2.2.1 bx180.2.2.2.2.2.2.2.2.2.2.2.2.2.2.2.2.2.2.2.2.2.2.2.2.2.2.2.2.2.1 bx180.2.2.2.2.2.2.2.2.2.2.2.2.2.2.2.2.2.2.2.2.2.2.2.2.2.2.2.2.2.2.1 bx180.2.2.2.2.2.2.2.2.2.2.2.2.2.2.2.2.2.2.2.2.2.2.2.2.2.2.2.2.2.2.2.1 bx180.2.2.2.2.2.2.2.2.2.2.2.2.2.2.2.2.2.2.2.2.2.2.2.2.2.2.2.2.2.2.2.2.1 bx180.2.2.2.2.2.2.2.2.2.2.2.2.2.2.2.2.2.2.2.2.2.2.2.2.2.2.2.2.2.2.2.2.2.1 bx180.2.2.2.2.2.2.2.2.2.2.2.2.2.2.2.2.2.2.2.2.2.2.2.2.2.2.2.2.2.2.2.2.2.2 bx180.1 bx180.2.1 bx180.2.2.1 bx180.2.2.2.1 bx180.2.2.2.2.1 bx180.2.2.2.2.2.1 bx180.2.2.2.2.2.2.1 bx180.2.2.2.2.2.2.2.1 bx180.2.2.2.2.2.2.2.2.1 bx180.2.2.2.2.2.2.2.2.2.1 bx180.2.2.2.2.2.2.2.2.2.2.1 bx180.2.2.2.2.2.2.2.2.2.2.2.1 bx180.2.2.2.2.2.2.2.2.2.2.2.2.1).bind fun x196 => (some (x196 == 8282000))) else (some false))) else (some false))) else (some false))))) else (some false)) else (some false)))
set_option maxRecDepth 100000 in
theorem sawmilllaw39_awake.calls (K : Nat)    (r1 : Bool) (w : World)   (h : sawmilllaw39_awake.f K  = some r1) :
    Calls Try.prog 15 #[] w (Ret w (.bool r1)) := by
  have H := h
  clear h
  unfold sawmilllaw39_awake.f at H
  refine Go.Saw.calls (args := []) Try.func15 rfl Try.ntmps15 (by kernel_rfl) ?_
  refine J.seq ?_
  refine J.plain ?_
  refine LL.op (.bool false) (by kernel_rfl) (fun w _ => by kernel_rfl) ?_
  refine LL.done (s' := [(0, .bool false)]) [0] (by kernel_rfl) ?_
  refine NN.then ?_
  refine J.seq ?_
  refine J.plain ?_
  obtain ⟨⟨x180_1, x180_2, x180_3, x180_4, x180_5, x180_6, x180_7, x180_8, x180_9, x180_10, x180_11, x180_12, x180_13, x180_14, x180_15, x180_16, x180_17, x180_18, x180_19, x180_20, x180_21, x180_22, x180_23, x180_24, x180_25, x180_26, x180_27, x180_28, x180_29, x180_30, x180_31, x180_32, x180_33, x180_34, x180_35⟩, hx180, H⟩ := bind_some H
  (try dsimp only at H)
  refine LL.call 30 #[] (.tuple #[.agg #[.string x180_1, .int .i64 x180_2, .int .i64 x180_3, .int .i64 x180_4, .int .i64 x180_5, .int .i64 x180_6, .int .i64 x180_7, .int .i64 x180_8, .int .i64 x180_9, .int .i64 x180_10, .int .i64 x180_11, .int .i64 x180_12, .int .i64 x180_13], .agg #[.string x180_14, .int .i64 x180_15, .int .i64 x180_16, .int .i64 x180_17, .int .i64 x180_18, .slice none 0 0, .slice none 0 0], .agg #[.string x180_19, .string x180_20, .string x180_21, .int .i64 x180_22, .int .i64 x180_23, .int .i64 x180_24, .int .i64 x180_25, .int .i64 x180_26, .int .i64 x180_27, .int .i64 x180_28, .int .i64 x180_29, .slice none 0 0, .int .i64 x180_30, .int .i64 x180_31, .int .i64 x180_32, .int .i64 x180_33, .bool x180_34, .int .i64 x180_35]]) (by kernel_rfl) (fun w => by kernel_rfl) (fun w hw => sawmilllaw39_sample.calls    _ _ _ _ _ _ _ _ _ _ _ _ _ _ _ _ _ _ _ _ _ _ _ _ _ _ _ _ _ _ _ _ _ _ _ w   hx180) ?_
  refine LL.op (.tuple #[.agg #[.string x180_1, .int .i64 x180_2, .int .i64 x180_3, .int .i64 x180_4, .int .i64 x180_5, .int .i64 x180_6, .int .i64 x180_7, .int .i64 x180_8, .int .i64 x180_9, .int .i64 x180_10, .int .i64 x180_11, .int .i64 x180_12, .int .i64 x180_13], .agg #[.string x180_14, .int .i64 x180_15, .int .i64 x180_16, .int .i64 x180_17, .int .i64 x180_18, .slice none 0 0, .slice none 0 0], .agg #[.string x180_19, .string x180_20, .string x180_21, .int .i64 x180_22, .int .i64 x180_23, .int .i64 x180_24, .int .i64 x180_25, .int .i64 x180_26, .int .i64 x180_27, .int .i64 x180_28, .int .i64 x180_29, .slice none 0 0, .int .i64 x180_30, .int .i64 x180_31, .int .i64 x180_32, .int .i64 x180_33, .bool x180_34, .int .i64 x180_35]]) (by kernel_rfl) (fun w _ => by kernel_rfl) ?_
  refine LL.op (.agg #[.string x180_1, .int .i64 x180_2, .int .i64 x180_3, .int .i64 x180_4, .int .i64 x180_5, .int .i64 x180_6, .int .i64 x180_7, .int .i64 x180_8, .int .i64 x180_9, .int .i64 x180_10, .int .i64 x180_11, .int .i64 x180_12, .int .i64 x180_13]) (by kernel_rfl) (fun w _ => by kernel_rfl) ?_
  refine LL.op (.agg #[.string x180_14, .int .i64 x180_15, .int .i64 x180_16, .int .i64 x180_17, .int .i64 x180_18, .slice none 0 0, .slice none 0 0]) (by kernel_rfl) (fun w _ => by kernel_rfl) ?_
  refine LL.op (.agg #[.string x180_19, .string x180_20, .string x180_21, .int .i64 x180_22, .int .i64 x180_23, .int .i64 x180_24, .int .i64 x180_25, .int .i64 x180_26, .int .i64 x180_27, .int .i64 x180_28, .int .i64 x180_29, .slice none 0 0, .int .i64 x180_30, .int .i64 x180_31, .int .i64 x180_32, .int .i64 x180_33, .bool x180_34, .int .i64 x180_35]) (by kernel_rfl) (fun w _ => by kernel_rfl) ?_
  refine LL.alloc 35 [.string (⟨#[]⟩ : ByteArray), .int .i64 0, .int .i64 0, .int .i64 0, .int .i64 0, .int .i64 0, .int .i64 0, .int .i64 0, .int .i64 0, .int .i64 0, .int .i64 0, .int .i64 0, .int .i64 0] (by kernel_rfl) rfl (by kernel_rfl) (fun g181 => ?_)
  refine LL.alloc 33 [.string (⟨#[]⟩ : ByteArray), .int .i64 0, .int .i64 0, .int .i64 0, .int .i64 0, .slice none 0 0, .slice none 0 0] (by kernel_rfl) rfl (by kernel_rfl) (fun g182 => ?_)
  refine LL.alloc 30 [.string (⟨#[]⟩ : ByteArray), .string (⟨#[]⟩ : ByteArray), .string (⟨#[]⟩ : ByteArray), .int .i64 0, .int .i64 0, .int .i64 0, .int .i64 0, .int .i64 0, .int .i64 0, .int .i64 0, .int .i64 0, .slice none 0 0, .int .i64 0, .int .i64 0, .int .i64 0, .int .i64 0, .bool false, .int .i64 0] (by kernel_rfl) rfl (by kernel_rfl) (fun g183 => ?_)
  refine LL.store 2 g181 0 35 (.tmp 1) (.tmp 9) [.string x180_1, .int .i64 x180_2, .int .i64 x180_3, .int .i64 x180_4, .int .i64 x180_5, .int .i64 x180_6, .int .i64 x180_7, .int .i64 x180_8, .int .i64 x180_9, .int .i64 x180_10, .int .i64 x180_11, .int .i64 x180_12, .int .i64 x180_13] (bs' := [(g183, cl [.string (⟨#[]⟩ : ByteArray), .string (⟨#[]⟩ : ByteArray), .string (⟨#[]⟩ : ByteArray), .int .i64 0, .int .i64 0, .int .i64 0, .int .i64 0, .int .i64 0, .int .i64 0, .int .i64 0, .int .i64 0, .slice none 0 0, .int .i64 0, .int .i64 0, .int .i64 0, .int .i64 0, .bool false, .int .i64 0] 30), (g182, cl [.string (⟨#[]⟩ : ByteArray), .int .i64 0, .int .i64 0, .int .i64 0, .int .i64 0, .slice none 0 0, .slice none 0 0] 33), (g181, cl [.string x180_1, .int .i64 x180_2, .int .i64 x180_3, .int .i64 x180_4, .int .i64 x180_5, .int .i64 x180_6, .int .i64 x180_7, .int .i64 x180_8, .int .i64 x180_9, .int .i64 x180_10, .int .i64 x180_11, .int .i64 x180_12, .int .i64 x180_13] 35)]) rfl (by kernel_rfl) rfl (by kernel_rfl) rfl (by kernel_rfl) ?_
  refine LL.store 1 g182 0 33 (.tmp 2) (.tmp 10) [.string x180_14, .int .i64 x180_15, .int .i64 x180_16, .int .i64 x180_17, .int .i64 x180_18, .slice none 0 0, .slice none 0 0] (bs' := [(g183, cl [.string (⟨#[]⟩ : ByteArray), .string (⟨#[]⟩ : ByteArray), .string (⟨#[]⟩ : ByteArray), .int .i64 0, .int .i64 0, .int .i64 0, .int .i64 0, .int .i64 0, .int .i64 0, .int .i64 0, .int .i64 0, .slice none 0 0, .int .i64 0, .int .i64 0, .int .i64 0, .int .i64 0, .bool false, .int .i64 0] 30), (g182, cl [.string x180_14, .int .i64 x180_15, .int .i64 x180_16, .int .i64 x180_17, .int .i64 x180_18, .slice none 0 0, .slice none 0 0] 33), (g181, cl [.string x180_1, .int .i64 x180_2, .int .i64 x180_3, .int .i64 x180_4, .int .i64 x180_5, .int .i64 x180_6, .int .i64 x180_7, .int .i64 x180_8, .int .i64 x180_9, .int .i64 x180_10, .int .i64 x180_11, .int .i64 x180_12, .int .i64 x180_13] 35)]) rfl (by kernel_rfl) rfl (by kernel_rfl) rfl (by kernel_rfl) ?_
  refine LL.store 0 g183 0 30 (.tmp 3) (.tmp 11) [.string x180_19, .string x180_20, .string x180_21, .int .i64 x180_22, .int .i64 x180_23, .int .i64 x180_24, .int .i64 x180_25, .int .i64 x180_26, .int .i64 x180_27, .int .i64 x180_28, .int .i64 x180_29, .slice none 0 0, .int .i64 x180_30, .int .i64 x180_31, .int .i64 x180_32, .int .i64 x180_33, .bool x180_34, .int .i64 x180_35] (bs' := [(g183, cl [.string x180_19, .string x180_20, .string x180_21, .int .i64 x180_22, .int .i64 x180_23, .int .i64 x180_24, .int .i64 x180_25, .int .i64 x180_26, .int .i64 x180_27, .int .i64 x180_28, .int .i64 x180_29, .slice none 0 0, .int .i64 x180_30, .int .i64 x180_31, .int .i64 x180_32, .int .i64 x180_33, .bool x180_34, .int .i64 x180_35] 30), (g182, cl [.string x180_14, .int .i64 x180_15, .int .i64 x180_16, .int .i64 x180_17, .int .i64 x180_18, .slice none 0 0, .slice none 0 0] 33), (g181, cl [.string x180_1, .int .i64 x180_2, .int .i64 x180_3, .int .i64 x180_4, .int .i64 x180_5, .int .i64 x180_6, .int .i64 x180_7, .int .i64 x180_8, .int .i64 x180_9, .int .i64 x180_10, .int .i64 x180_11, .int .i64 x180_12, .int .i64 x180_13] 35)]) rfl (by kernel_rfl) rfl (by kernel_rfl) rfl (by kernel_rfl) ?_
  refine LL.done (s' := [(0, .bool false), (1, .pointer (some ⟨g181, 0, none⟩)), (2, .pointer (some ⟨g182, 0, none⟩)), (3, .pointer (some ⟨g183, 0, none⟩))]) [0, 1, 2, 3] (by kernel_rfl) ?_
  refine NN.then ?_
  refine J.seq ?_
  refine J.plain ?_
  refine LL.op (.agg #[.string x180_19, .string x180_20, .string x180_21, .int .i64 x180_22, .int .i64 x180_23, .int .i64 x180_24, .int .i64 x180_25, .int .i64 x180_26, .int .i64 x180_27, .int .i64 x180_28, .int .i64 x180_29, .slice none 0 0, .int .i64 x180_30, .int .i64 x180_31, .int .i64 x180_32, .int .i64 x180_33, .bool x180_34, .int .i64 x180_35]) (by kernel_rfl) (ld 0 g183 0 rfl (by kernel_rfl) rfl (by kernel_rfl)) ?_
  refine LL.op (.agg #[.string x180_1, .int .i64 x180_2, .int .i64 x180_3, .int .i64 x180_4, .int .i64 x180_5, .int .i64 x180_6, .int .i64 x180_7, .int .i64 x180_8, .int .i64 x180_9, .int .i64 x180_10, .int .i64 x180_11, .int .i64 x180_12, .int .i64 x180_13]) (by kernel_rfl) (ld 2 g181 0 rfl (by kernel_rfl) rfl (by kernel_rfl)) ?_
  obtain ⟨⟨x184_1, x184_2⟩, hx184, H⟩ := bind_some H
  (try dsimp only at H)
  refine LL.call 9 #[.agg #[.string x180_19, .string x180_20, .string x180_21, .int .i64 x180_22, .int .i64 x180_23, .int .i64 x180_24, .int .i64 x180_25, .int .i64 x180_26, .int .i64 x180_27, .int .i64 x180_28, .int .i64 x180_29, .slice none 0 0, .int .i64 x180_30, .int .i64 x180_31, .int .i64 x180_32, .int .i64 x180_33, .bool x180_34, .int .i64 x180_35], .agg #[.string x180_1, .int .i64 x180_2, .int .i64 x180_3, .int .i64 x180_4, .int .i64 x180_5, .int .i64 x180_6, .int .i64 x180_7, .int .i64 x180_8, .int .i64 x180_9, .int .i64 x180_10, .int .i64 x180_11, .int .i64 x180_12, .int .i64 x180_13]] (.tuple #[.int .i64 x184_1, .int .i64 x184_2]) (by kernel_rfl) (fun w => by kernel_rfl) (fun w hw => sizing_Dried.calls x180_19 x180_20 x180_21 x180_22 x180_23 x180_24 x180_25 x180_26 x180_27 x180_28 x180_29 x180_30 x180_31 x180_32 x180_33 x180_34 x180_35 x180_1 x180_2 x180_3 x180_4 x180_5 x180_6 x180_7 x180_8 x180_9 x180_10 x180_11 x180_12 x180_13  _ _ _ _ _ w   hx184) ?_
  refine LL.op (.tuple #[.int .i64 x184_1, .int .i64 x184_2]) (by kernel_rfl) (fun w _ => by kernel_rfl) ?_
  refine LL.op (.int .i64 x184_1) (by kernel_rfl) (fun w _ => by kernel_rfl) ?_
  refine LL.op (.int .i64 x184_2) (by kernel_rfl) (fun w _ => by kernel_rfl) ?_
  refine LL.op (.int .i64 x184_1) (by kernel_rfl) (fun w _ => by kernel_rfl) ?_
  refine LL.op (.int .i64 x184_2) (by kernel_rfl) (fun w _ => by kernel_rfl) ?_
  refine LL.done (s' := [(0, .bool false), (1, .pointer (some ⟨g181, 0, none⟩)), (2, .pointer (some ⟨g182, 0, none⟩)), (3, .pointer (some ⟨g183, 0, none⟩)), (4, .int .i64 x184_1), (5, .int .i64 x184_2)]) [0, 1, 2, 3, 4, 5] (by kernel_rfl) ?_
  refine NN.then ?_
  refine J.seq ?_
  refine J.plain ?_
  refine LL.op (.agg #[.string x180_19, .string x180_20, .string x180_21, .int .i64 x180_22, .int .i64 x180_23, .int .i64 x180_24, .int .i64 x180_25, .int .i64 x180_26, .int .i64 x180_27, .int .i64 x180_28, .int .i64 x180_29, .slice none 0 0, .int .i64 x180_30, .int .i64 x180_31, .int .i64 x180_32, .int .i64 x180_33, .bool x180_34, .int .i64 x180_35]) (by kernel_rfl) (ld 0 g183 0 rfl (by kernel_rfl) rfl (by kernel_rfl)) ?_
  refine LL.alloc 30 [.string (⟨#[]⟩ : ByteArray), .string (⟨#[]⟩ : ByteArray), .string (⟨#[]⟩ : ByteArray), .int .i64 0, .int .i64 0, .int .i64 0, .int .i64 0, .int .i64 0, .int .i64 0, .int .i64 0, .int .i64 0, .slice none 0 0, .int .i64 0, .int .i64 0, .int .i64 0, .int .i64 0, .bool false, .int .i64 0] (by kernel_rfl) rfl (by kernel_rfl) (fun g185 => ?_)
  refine LL.store 0 g185 0 30 (.tmp 6) (.tmp 18) [.string x180_19, .string x180_20, .string x180_21, .int .i64 x180_22, .int .i64 x180_23, .int .i64 x180_24, .int .i64 x180_25, .int .i64 x180_26, .int .i64 x180_27, .int .i64 x180_28, .int .i64 x180_29, .slice none 0 0, .int .i64 x180_30, .int .i64 x180_31, .int .i64 x180_32, .int .i64 x180_33, .bool x180_34, .int .i64 x180_35] (bs' := [(g185, cl [.string x180_19, .string x180_20, .string x180_21, .int .i64 x180_22, .int .i64 x180_23, .int .i64 x180_24, .int .i64 x180_25, .int .i64 x180_26, .int .i64 x180_27, .int .i64 x180_28, .int .i64 x180_29, .slice none 0 0, .int .i64 x180_30, .int .i64 x180_31, .int .i64 x180_32, .int .i64 x180_33, .bool x180_34, .int .i64 x180_35] 30), (g183, cl [.string x180_19, .string x180_20, .string x180_21, .int .i64 x180_22, .int .i64 x180_23, .int .i64 x180_24, .int .i64 x180_25, .int .i64 x180_26, .int .i64 x180_27, .int .i64 x180_28, .int .i64 x180_29, .slice none 0 0, .int .i64 x180_30, .int .i64 x180_31, .int .i64 x180_32, .int .i64 x180_33, .bool x180_34, .int .i64 x180_35] 30), (g182, cl [.string x180_14, .int .i64 x180_15, .int .i64 x180_16, .int .i64 x180_17, .int .i64 x180_18, .slice none 0 0, .slice none 0 0] 33), (g181, cl [.string x180_1, .int .i64 x180_2, .int .i64 x180_3, .int .i64 x180_4, .int .i64 x180_5, .int .i64 x180_6, .int .i64 x180_7, .int .i64 x180_8, .int .i64 x180_9, .int .i64 x180_10, .int .i64 x180_11, .int .i64 x180_12, .int .i64 x180_13] 35)]) rfl (by kernel_rfl) rfl (by kernel_rfl) rfl (by kernel_rfl) ?_
  refine LL.done (s' := [(0, .bool false), (1, .pointer (some ⟨g181, 0, none⟩)), (2, .pointer (some ⟨g182, 0, none⟩)), (3, .pointer (some ⟨g183, 0, none⟩)), (4, .int .i64 x184_1), (5, .int .i64 x184_2), (6, .pointer (some ⟨g185, 0, none⟩))]) [0, 1, 2, 3, 4, 5, 6] (by kernel_rfl) ?_
  refine NN.then ?_
  refine J.seq ?_
  refine J.plain ?_
  refine LL.op (.pointer (some ⟨g185, 4, none⟩)) (by kernel_rfl) (fun w _ => by kernel_rfl) ?_
  refine LL.op (.pointer (some ⟨g185, 6, none⟩)) (by kernel_rfl) (fun w _ => by kernel_rfl) ?_
  refine LL.op (.pointer (some ⟨g185, 7, none⟩)) (by kernel_rfl) (fun w _ => by kernel_rfl) ?_
  refine LL.store 0 g185 7 3 (.tmp 21) (.const (.int .i64 40)) [.string x180_19, .string x180_20, .string x180_21, .int .i64 x180_22, .int .i64 x180_23, .int .i64 x180_24, .int .i64 x180_25, .int .i64 40, .int .i64 x180_27, .int .i64 x180_28, .int .i64 x180_29, .slice none 0 0, .int .i64 x180_30, .int .i64 x180_31, .int .i64 x180_32, .int .i64 x180_33, .bool x180_34, .int .i64 x180_35] (bs' := [(g185, cl [.string x180_19, .string x180_20, .string x180_21, .int .i64 x180_22, .int .i64 x180_23, .int .i64 x180_24, .int .i64 x180_25, .int .i64 40, .int .i64 x180_27, .int .i64 x180_28, .int .i64 x180_29, .slice none 0 0, .int .i64 x180_30, .int .i64 x180_31, .int .i64 x180_32, .int .i64 x180_33, .bool x180_34, .int .i64 x180_35] 30), (g183, cl [.string x180_19, .string x180_20, .string x180_21, .int .i64 x180_22, .int .i64 x180_23, .int .i64 x180_24, .int .i64 x180_25, .int .i64 x180_26, .int .i64 x180_27, .int .i64 x180_28, .int .i64 x180_29, .slice none 0 0, .int .i64 x180_30, .int .i64 x180_31, .int .i64 x180_32, .int .i64 x180_33, .bool x180_34, .int .i64 x180_35] 30), (g182, cl [.string x180_14, .int .i64 x180_15, .int .i64 x180_16, .int .i64 x180_17, .int .i64 x180_18, .slice none 0 0, .slice none 0 0] 33), (g181, cl [.string x180_1, .int .i64 x180_2, .int .i64 x180_3, .int .i64 x180_4, .int .i64 x180_5, .int .i64 x180_6, .int .i64 x180_7, .int .i64 x180_8, .int .i64 x180_9, .int .i64 x180_10, .int .i64 x180_11, .int .i64 x180_12, .int .i64 x180_13] 35)]) rfl (by kernel_rfl) rfl (by kernel_rfl) rfl (by kernel_rfl) ?_
  refine LL.done (s' := [(0, .bool false), (1, .pointer (some ⟨g181, 0, none⟩)), (2, .pointer (some ⟨g182, 0, none⟩)), (3, .pointer (some ⟨g183, 0, none⟩)), (4, .int .i64 x184_1), (5, .int .i64 x184_2), (6, .pointer (some ⟨g185, 0, none⟩))]) [0, 1, 2, 3, 4, 5, 6] (by kernel_rfl) ?_
  refine NN.then ?_
  refine J.seq ?_
  refine J.plain ?_
  refine LL.op (.int .i64 x184_1) (by kernel_rfl) (fun w _ => by kernel_rfl) ?_
  refine LL.op (.bool (x184_1 == 41)) (by kernel_rfl) (fun w _ => by kernel_rfl) ?_
  refine LL.op (.bool (x184_1 == 41)) (by kernel_rfl) (fun w _ => by kernel_rfl) ?_
  rcases Bool.eq_false_or_eq_true ((x184_1 == 41)) with c186 | c186
  · rw [if_pos (eq_of_beq c186)] at H
    refine LL.bool 24 ((x184_1 == 41)) true c186 (by kernel_rfl) ?_
    refine LL.op (.int .i64 x184_2) (by kernel_rfl) (fun w _ => by kernel_rfl) ?_
    refine LL.op (.bool (x184_2 == 101)) (by kernel_rfl) (fun w _ => by kernel_rfl) ?_
    refine LL.op (.bool (x184_2 == 101)) (by kernel_rfl) (fun w _ => by kernel_rfl) ?_
    refine LL.op (.bool (x184_2 == 101)) (by kernel_rfl) (fun w _ => by kernel_rfl) ?_
    rcases Bool.eq_false_or_eq_true ((x184_2 == 101)) with c187 | c187
    · rw [if_pos (eq_of_beq c187)] at H
      refine LL.bool 28 ((x184_2 == 101)) true c187 (by kernel_rfl) ?_
      refine LL.op (.agg #[.string x180_19, .string x180_20, .string x180_21, .int .i64 x180_22, .int .i64 x180_23, .int .i64 x180_24, .int .i64 x180_25, .int .i64 x180_26, .int .i64 x180_27, .int .i64 x180_28, .int .i64 x180_29, .slice none 0 0, .int .i64 x180_30, .int .i64 x180_31, .int .i64 x180_32, .int .i64 x180_33, .bool x180_34, .int .i64 x180_35]) (by kernel_rfl) (ld 1 g183 0 rfl (by kernel_rfl) rfl (by kernel_rfl)) ?_
      refine LL.op (.agg #[.string x180_14, .int .i64 x180_15, .int .i64 x180_16, .int .i64 x180_17, .int .i64 x180_18, .slice none 0 0, .slice none 0 0]) (by kernel_rfl) (ld 2 g182 0 rfl (by kernel_rfl) rfl (by kernel_rfl)) ?_
      refine LL.op (.agg #[.string x180_1, .int .i64 x180_2, .int .i64 x180_3, .int .i64 x180_4, .int .i64 x180_5, .int .i64 x180_6, .int .i64 x180_7, .int .i64 x180_8, .int .i64 x180_9, .int .i64 x180_10, .int .i64 x180_11, .int .i64 x180_12, .int .i64 x180_13]) (by kernel_rfl) (ld 3 g181 0 rfl (by kernel_rfl) rfl (by kernel_rfl)) ?_
      obtain ⟨x188, hx188, H⟩ := bind_some H
      refine LL.call 11 #[.agg #[.string x180_19, .string x180_20, .string x180_21, .int .i64 x180_22, .int .i64 x180_23, .int .i64 x180_24, .int .i64 x180_25, .int .i64 x180_26, .int .i64 x180_27, .int .i64 x180_28, .int .i64 x180_29, .slice none 0 0, .int .i64 x180_30, .int .i64 x180_31, .int .i64 x180_32, .int .i64 x180_33, .bool x180_34, .int .i64 x180_35], .agg #[.string x180_14, .int .i64 x180_15, .int .i64 x180_16, .int .i64 x180_17, .int .i64 x180_18, .slice none 0 0, .slice none 0 0], .agg #[.string x180_1, .int .i64 x180_2, .int .i64 x180_3, .int .i64 x180_4, .int .i64 x180_5, .int .i64 x180_6, .int .i64 x180_7, .int .i64 x180_8, .int .i64 x180_9, .int .i64 x180_10, .int .i64 x180_11, .int .i64 x180_12, .int .i64 x180_13]] (.bool x188) (by kernel_rfl) (fun w => by kernel_rfl) (fun w hw => sizing_Under.calls x180_19 x180_20 x180_21 x180_22 x180_23 x180_24 x180_25 x180_26 x180_27 x180_28 x180_29 x180_30 x180_31 x180_32 x180_33 x180_34 x180_35 x180_14 x180_15 x180_16 x180_17 x180_18 x180_1 x180_2 x180_3 x180_4 x180_5 x180_6 x180_7 x180_8 x180_9 x180_10 x180_11 x180_12 x180_13  _ _ _ _ _ _ _ _ _ _ w   hx188) ?_
      refine LL.op (.bool (!x188)) (by kernel_rfl) (fun w _ => by kernel_rfl) ?_
      refine LL.op (.bool (!x188)) (by kernel_rfl) (fun w _ => by kernel_rfl) ?_
      refine LL.op (.bool (!x188)) (by kernel_rfl) (fun w _ => by kernel_rfl) ?_
      rcases Bool.eq_false_or_eq_true (x188) with c189 | c189
      · rw [if_pos (c189)] at H
        refine LL.bool 35 (!x188) false (by rw [show (!x188) = !(x188) from rfl, c189]; rfl) (by kernel_rfl) ?_
        refine LL.off (by kernel_rfl) (by kernel_rfl) ?_
        refine LL.off (by kernel_rfl) (by kernel_rfl) ?_
        refine LL.off (by kernel_rfl) (by kernel_rfl) ?_
        refine LL.off (by kernel_rfl) (by kernel_rfl) ?_
        refine LL.op (.bool false) (by kernel_rfl) (fun w _ => by kernel_rfl) ?_
        refine LL.op (.bool false) (by kernel_rfl) (fun w _ => by kernel_rfl) ?_
        refine LL.off (by kernel_rfl) (by kernel_rfl) ?_
        refine LL.off (by kernel_rfl) (by kernel_rfl) ?_
        refine LL.off (by kernel_rfl) (by kernel_rfl) ?_
        refine LL.off (by kernel_rfl) (by kernel_rfl) ?_
        refine LL.op (.bool false) (by kernel_rfl) (fun w _ => by kernel_rfl) ?_
        refine LL.op (.bool false) (by kernel_rfl) (fun w _ => by kernel_rfl) ?_
        refine LL.off (by kernel_rfl) (by kernel_rfl) ?_
        refine LL.off (by kernel_rfl) (by kernel_rfl) ?_
        refine LL.off (by kernel_rfl) (by kernel_rfl) ?_
        refine LL.off (by kernel_rfl) (by kernel_rfl) ?_
        refine LL.op (.bool false) (by kernel_rfl) (fun w _ => by kernel_rfl) ?_
        refine LL.op (.bool false) (by kernel_rfl) (fun w _ => by kernel_rfl) ?_
        refine LL.off (by kernel_rfl) (by kernel_rfl) ?_
        refine LL.off (by kernel_rfl) (by kernel_rfl) ?_
        refine LL.off (by kernel_rfl) (by kernel_rfl) ?_
        refine LL.off (by kernel_rfl) (by kernel_rfl) ?_
        refine LL.op (.bool false) (by kernel_rfl) (fun w _ => by kernel_rfl) ?_
        refine LL.op (.bool false) (by kernel_rfl) (fun w _ => by kernel_rfl) ?_
        refine LL.done (s' := [(0, .bool false)]) [0] (by kernel_rfl) ?_
        refine NN.then ?_
        refine J.ret ?_
        refine NN.fin1 0 (.bool false) (by kernel_rfl) (by kernel_rfl) (.inl rfl) (fun w hi => hi.ret ?_)
        first | (cases H; rfl) | (obtain rfl := Option.some.inj H; rfl) | (simp only [Option.some.injEq, Prod.mk.injEq] at H; obtain ⟨rfl⟩ := H; rfl)
      · rw [if_neg (nebt c189)] at H
        refine LL.bool 35 (!x188) true (by rw [show (!x188) = !(x188) from rfl, c189]; rfl) (by kernel_rfl) ?_
        refine LL.op (.agg #[.string x180_19, .string x180_20, .string x180_21, .int .i64 x180_22, .int .i64 x180_23, .int .i64 x180_24, .int .i64 x180_25, .int .i64 40, .int .i64 x180_27, .int .i64 x180_28, .int .i64 x180_29, .slice none 0 0, .int .i64 x180_30, .int .i64 x180_31, .int .i64 x180_32, .int .i64 x180_33, .bool x180_34, .int .i64 x180_35]) (by kernel_rfl) (ld 0 g185 0 rfl (by kernel_rfl) rfl (by kernel_rfl)) ?_
        refine LL.op (.agg #[.string x180_14, .int .i64 x180_15, .int .i64 x180_16, .int .i64 x180_17, .int .i64 x180_18, .slice none 0 0, .slice none 0 0]) (by kernel_rfl) (ld 2 g182 0 rfl (by kernel_rfl) rfl (by kernel_rfl)) ?_
        refine LL.op (.agg #[.string x180_1, .int .i64 x180_2, .int .i64 x180_3, .int .i64 x180_4, .int .i64 x180_5, .int .i64 x180_6, .int .i64 x180_7, .int .i64 x180_8, .int .i64 x180_9, .int .i64 x180_10, .int .i64 x180_11, .int .i64 x180_12, .int .i64 x180_13]) (by kernel_rfl) (ld 3 g181 0 rfl (by kernel_rfl) rfl (by kernel_rfl)) ?_
        obtain ⟨x190, hx190, H⟩ := bind_some H
        refine LL.call 11 #[.agg #[.string x180_19, .string x180_20, .string x180_21, .int .i64 x180_22, .int .i64 x180_23, .int .i64 x180_24, .int .i64 x180_25, .int .i64 40, .int .i64 x180_27, .int .i64 x180_28, .int .i64 x180_29, .slice none 0 0, .int .i64 x180_30, .int .i64 x180_31, .int .i64 x180_32, .int .i64 x180_33, .bool x180_34, .int .i64 x180_35], .agg #[.string x180_14, .int .i64 x180_15, .int .i64 x180_16, .int .i64 x180_17, .int .i64 x180_18, .slice none 0 0, .slice none 0 0], .agg #[.string x180_1, .int .i64 x180_2, .int .i64 x180_3, .int .i64 x180_4, .int .i64 x180_5, .int .i64 x180_6, .int .i64 x180_7, .int .i64 x180_8, .int .i64 x180_9, .int .i64 x180_10, .int .i64 x180_11, .int .i64 x180_12, .int .i64 x180_13]] (.bool x190) (by kernel_rfl) (fun w => by kernel_rfl) (fun w hw => sizing_Under.calls x180_19 x180_20 x180_21 x180_22 x180_23 x180_24 x180_25 40 x180_27 x180_28 x180_29 x180_30 x180_31 x180_32 x180_33 x180_34 x180_35 x180_14 x180_15 x180_16 x180_17 x180_18 x180_1 x180_2 x180_3 x180_4 x180_5 x180_6 x180_7 x180_8 x180_9 x180_10 x180_11 x180_12 x180_13  _ _ _ _ _ _ _ _ _ _ w   hx190) ?_
        refine LL.op (.bool x190) (by kernel_rfl) (fun w _ => by kernel_rfl) ?_
        refine LL.op (.bool x190) (by kernel_rfl) (fun w _ => by kernel_rfl) ?_
        rcases Bool.eq_false_or_eq_true (x190) with c191 | c191
        · rw [if_pos (c191)] at H
          refine LL.bool 41 (x190) true c191 (by kernel_rfl) ?_
          refine LL.op (.agg #[.string x180_14, .int .i64 x180_15, .int .i64 x180_16, .int .i64 x180_17, .int .i64 x180_18, .slice none 0 0, .slice none 0 0]) (by kernel_rfl) (ld 2 g182 0 rfl (by kernel_rfl) rfl (by kernel_rfl)) ?_
          refine LL.op (.agg #[.string x180_1, .int .i64 x180_2, .int .i64 x180_3, .int .i64 x180_4, .int .i64 x180_5, .int .i64 x180_6, .int .i64 x180_7, .int .i64 x180_8, .int .i64 x180_9, .int .i64 x180_10, .int .i64 x180_11, .int .i64 x180_12, .int .i64 x180_13]) (by kernel_rfl) (ld 3 g181 0 rfl (by kernel_rfl) rfl (by kernel_rfl)) ?_
          obtain ⟨x192, hx192, H⟩ := bind_some H
          refine LL.call 16 #[.agg #[.string x180_14, .int .i64 x180_15, .int .i64 x180_16, .int .i64 x180_17, .int .i64 x180_18, .slice none 0 0, .slice none 0 0], .agg #[.string x180_1, .int .i64 x180_2, .int .i64 x180_3, .int .i64 x180_4, .int .i64 x180_5, .int .i64 x180_6, .int .i64 x180_7, .int .i64 x180_8, .int .i64 x180_9, .int .i64 x180_10, .int .i64 x180_11, .int .i64 x180_12, .int .i64 x180_13], .int .i64 1200] (.int .i64 x192) (by kernel_rfl) (fun w => by kernel_rfl) (fun w hw => sizing_Allow.calls K x180_14 x180_15 x180_16 x180_17 x180_18 x180_1 x180_2 x180_3 x180_4 x180_5 x180_6 x180_7 x180_8 x180_9 x180_10 x180_11 x180_12 x180_13 1200  _ _ _ _ _ _ _ w   hx192) ?_
          refine LL.op (.bool (x192 == 31)) (by kernel_rfl) (fun w _ => by kernel_rfl) ?_
          refine LL.op (.bool (x192 == 31)) (by kernel_rfl) (fun w _ => by kernel_rfl) ?_
          refine LL.op (.bool (x192 == 31)) (by kernel_rfl) (fun w _ => by kernel_rfl) ?_
          rcases Bool.eq_false_or_eq_true ((x192 == 31)) with c193 | c193
          · rw [if_pos (eq_of_beq c193)] at H
            refine LL.bool 47 ((x192 == 31)) true c193 (by kernel_rfl) ?_
            refine LL.op (.agg #[.string x180_14, .int .i64 x180_15, .int .i64 x180_16, .int .i64 x180_17, .int .i64 x180_18, .slice none 0 0, .slice none 0 0]) (by kernel_rfl) (ld 2 g182 0 rfl (by kernel_rfl) rfl (by kernel_rfl)) ?_
            refine LL.op (.agg #[.string x180_1, .int .i64 x180_2, .int .i64 x180_3, .int .i64 x180_4, .int .i64 x180_5, .int .i64 x180_6, .int .i64 x180_7, .int .i64 x180_8, .int .i64 x180_9, .int .i64 x180_10, .int .i64 x180_11, .int .i64 x180_12, .int .i64 x180_13]) (by kernel_rfl) (ld 3 g181 0 rfl (by kernel_rfl) rfl (by kernel_rfl)) ?_
            obtain ⟨x194, hx194, H⟩ := bind_some H
            refine LL.call 16 #[.agg #[.string x180_14, .int .i64 x180_15, .int .i64 x180_16, .int .i64 x180_17, .int .i64 x180_18, .slice none 0 0, .slice none 0 0], .agg #[.string x180_1, .int .i64 x180_2, .int .i64 x180_3, .int .i64 x180_4, .int .i64 x180_5, .int .i64 x180_6, .int .i64 x180_7, .int .i64 x180_8, .int .i64 x180_9, .int .i64 x180_10, .int .i64 x180_11, .int .i64 x180_12, .int .i64 x180_13], .int .i64 3000] (.int .i64 x194) (by kernel_rfl) (fun w => by kernel_rfl) (fun w hw => sizing_Allow.calls K x180_14 x180_15 x180_16 x180_17 x180_18 x180_1 x180_2 x180_3 x180_4 x180_5 x180_6 x180_7 x180_8 x180_9 x180_10 x180_11 x180_12 x180_13 3000  _ _ _ _ _ _ _ w   hx194) ?_
            refine LL.op (.bool (x194 == 0)) (by kernel_rfl) (fun w _ => by kernel_rfl) ?_
            refine LL.op (.bool (x194 == 0)) (by kernel_rfl) (fun w _ => by kernel_rfl) ?_
            refine LL.op (.bool (x194 == 0)) (by kernel_rfl) (fun w _ => by kernel_rfl) ?_
            rcases Bool.eq_false_or_eq_true ((x194 == 0)) with c195 | c195
            · rw [if_pos (eq_of_beq c195)] at H
              refine LL.bool 53 ((x194 == 0)) true c195 (by kernel_rfl) ?_
              refine LL.op (.agg #[.string x180_19, .string x180_20, .string x180_21, .int .i64 x180_22, .int .i64 x180_23, .int .i64 x180_24, .int .i64 x180_25, .int .i64 x180_26, .int .i64 x180_27, .int .i64 x180_28, .int .i64 x180_29, .slice none 0 0, .int .i64 x180_30, .int .i64 x180_31, .int .i64 x180_32, .int .i64 x180_33, .bool x180_34, .int .i64 x180_35]) (by kernel_rfl) (ld 1 g183 0 rfl (by kernel_rfl) rfl (by kernel_rfl)) ?_
              refine LL.op (.agg #[.string x180_1, .int .i64 x180_2, .int .i64 x180_3, .int .i64 x180_4, .int .i64 x180_5, .int .i64 x180_6, .int .i64 x180_7, .int .i64 x180_8, .int .i64 x180_9, .int .i64 x180_10, .int .i64 x180_11, .int .i64 x180_12, .int .i64 x180_13]) (by kernel_rfl) (ld 3 g181 0 rfl (by kernel_rfl) rfl (by kernel_rfl)) ?_
              obtain ⟨x196, hx196, H⟩ := bind_some H
              refine LL.call 13 #[.agg #[.string x180_19, .string x180_20, .string x180_21, .int .i64 x180_22, .int .i64 x180_23, .int .i64 x180_24, .int .i64 x180_25, .int .i64 x180_26, .int .i64 x180_27, .int .i64 x180_28, .int .i64 x180_29, .slice none 0 0, .int .i64 x180_30, .int .i64 x180_31, .int .i64 x180_32, .int .i64 x180_33, .bool x180_34, .int .i64 x180_35], .agg #[.string x180_1, .int .i64 x180_2, .int .i64 x180_3, .int .i64 x180_4, .int .i64 x180_5, .int .i64 x180_6, .int .i64 x180_7, .int .i64 x180_8, .int .i64 x180_9, .int .i64 x180_10, .int .i64 x180_11, .int .i64 x180_12, .int .i64 x180_13]] (.int .i64 x196) (by kernel_rfl) (fun w => by kernel_rfl) (fun w hw => sizing_Volume.calls x180_19 x180_20 x180_21 x180_22 x180_23 x180_24 x180_25 x180_26 x180_27 x180_28 x180_29 x180_30 x180_31 x180_32 x180_33 x180_34 x180_35 x180_1 x180_2 x180_3 x180_4 x180_5 x180_6 x180_7 x180_8 x180_9 x180_10 x180_11 x180_12 x180_13  _ _ _ _ w   hx196) ?_
              refine LL.op (.bool (x196 == 8282000)) (by kernel_rfl) (fun w _ => by kernel_rfl) ?_
              refine LL.op (.bool (x196 == 8282000)) (by kernel_rfl) (fun w _ => by kernel_rfl) ?_
              refine LL.op (.bool (x196 == 8282000)) (by kernel_rfl) (fun w _ => by kernel_rfl) ?_
              refine LL.done (s' := [(0, .bool (x196 == 8282000))]) [0] (by kernel_rfl) ?_
              refine NN.then ?_
              refine J.ret ?_
              refine NN.fin1 0 (.bool (x196 == 8282000)) (by kernel_rfl) (by kernel_rfl) (.inl rfl) (fun w hi => hi.ret ?_)
              first | (cases H; rfl) | (obtain rfl := Option.some.inj H; rfl) | (simp only [Option.some.injEq, Prod.mk.injEq] at H; obtain ⟨rfl⟩ := H; rfl)
            · rw [if_neg (nebf c195)] at H
              refine LL.bool 53 ((x194 == 0)) false c195 (by kernel_rfl) ?_
              refine LL.off (by kernel_rfl) (by kernel_rfl) ?_
              refine LL.off (by kernel_rfl) (by kernel_rfl) ?_
              refine LL.off (by kernel_rfl) (by kernel_rfl) ?_
              refine LL.off (by kernel_rfl) (by kernel_rfl) ?_
              refine LL.op (.bool false) (by kernel_rfl) (fun w _ => by kernel_rfl) ?_
              refine LL.op (.bool false) (by kernel_rfl) (fun w _ => by kernel_rfl) ?_
              refine LL.done (s' := [(0, .bool false)]) [0] (by kernel_rfl) ?_
              refine NN.then ?_
              refine J.ret ?_
              refine NN.fin1 0 (.bool false) (by kernel_rfl) (by kernel_rfl) (.inl rfl) (fun w hi => hi.ret ?_)
              first | (cases H; rfl) | (obtain rfl := Option.some.inj H; rfl) | (simp only [Option.some.injEq, Prod.mk.injEq] at H; obtain ⟨rfl⟩ := H; rfl)
          · rw [if_neg (nebf c193)] at H
            refine LL.bool 47 ((x192 == 31)) false c193 (by kernel_rfl) ?_
            refine LL.off (by kernel_rfl) (by kernel_rfl) ?_
            refine LL.off (by kernel_rfl) (by kernel_rfl) ?_
            refine LL.off (by kernel_rfl) (by kernel_rfl) ?_
            refine LL.off (by kernel_rfl) (by kernel_rfl) ?_
            refine LL.op (.bool false) (by kernel_rfl) (fun w _ => by kernel_rfl) ?_
            refine LL.op (.bool false) (by kernel_rfl) (fun w _ => by kernel_rfl) ?_
            refine LL.off (by kernel_rfl) (by kernel_rfl) ?_
            refine LL.off (by kernel_rfl) (by kernel_rfl) ?_
            refine LL.off (by kernel_rfl) (by kernel_rfl) ?_
            refine LL.off (by kernel_rfl) (by kernel_rfl) ?_
            refine LL.op (.bool false) (by kernel_rfl) (fun w _ => by kernel_rfl) ?_
            refine LL.op (.bool false) (by kernel_rfl) (fun w _ => by kernel_rfl) ?_
            refine LL.done (s' := [(0, .bool false)]) [0] (by kernel_rfl) ?_
            refine NN.then ?_
            refine J.ret ?_
            refine NN.fin1 0 (.bool false) (by kernel_rfl) (by kernel_rfl) (.inl rfl) (fun w hi => hi.ret ?_)
            first | (cases H; rfl) | (obtain rfl := Option.some.inj H; rfl) | (simp only [Option.some.injEq, Prod.mk.injEq] at H; obtain ⟨rfl⟩ := H; rfl)
        · rw [if_neg (nebt c191)] at H
          refine LL.bool 41 (x190) false c191 (by kernel_rfl) ?_
          refine LL.off (by kernel_rfl) (by kernel_rfl) ?_
          refine LL.off (by kernel_rfl) (by kernel_rfl) ?_
          refine LL.off (by kernel_rfl) (by kernel_rfl) ?_
          refine LL.off (by kernel_rfl) (by kernel_rfl) ?_
          refine LL.op (.bool false) (by kernel_rfl) (fun w _ => by kernel_rfl) ?_
          refine LL.op (.bool false) (by kernel_rfl) (fun w _ => by kernel_rfl) ?_
          refine LL.off (by kernel_rfl) (by kernel_rfl) ?_
          refine LL.off (by kernel_rfl) (by kernel_rfl) ?_
          refine LL.off (by kernel_rfl) (by kernel_rfl) ?_
          refine LL.off (by kernel_rfl) (by kernel_rfl) ?_
          refine LL.op (.bool false) (by kernel_rfl) (fun w _ => by kernel_rfl) ?_
          refine LL.op (.bool false) (by kernel_rfl) (fun w _ => by kernel_rfl) ?_
          refine LL.off (by kernel_rfl) (by kernel_rfl) ?_
          refine LL.off (by kernel_rfl) (by kernel_rfl) ?_
          refine LL.off (by kernel_rfl) (by kernel_rfl) ?_
          refine LL.off (by kernel_rfl) (by kernel_rfl) ?_
          refine LL.op (.bool false) (by kernel_rfl) (fun w _ => by kernel_rfl) ?_
          refine LL.op (.bool false) (by kernel_rfl) (fun w _ => by kernel_rfl) ?_
          refine LL.done (s' := [(0, .bool false)]) [0] (by kernel_rfl) ?_
          refine NN.then ?_
          refine J.ret ?_
          refine NN.fin1 0 (.bool false) (by kernel_rfl) (by kernel_rfl) (.inl rfl) (fun w hi => hi.ret ?_)
          first | (cases H; rfl) | (obtain rfl := Option.some.inj H; rfl) | (simp only [Option.some.injEq, Prod.mk.injEq] at H; obtain ⟨rfl⟩ := H; rfl)
    · rw [if_neg (nebf c187)] at H
      refine LL.bool 28 ((x184_2 == 101)) false c187 (by kernel_rfl) ?_
      refine LL.off (by kernel_rfl) (by kernel_rfl) ?_
      refine LL.off (by kernel_rfl) (by kernel_rfl) ?_
      refine LL.off (by kernel_rfl) (by kernel_rfl) ?_
      refine LL.off (by kernel_rfl) (by kernel_rfl) ?_
      refine LL.off (by kernel_rfl) (by kernel_rfl) ?_
      refine LL.op (.bool false) (by kernel_rfl) (fun w _ => by kernel_rfl) ?_
      refine LL.op (.bool false) (by kernel_rfl) (fun w _ => by kernel_rfl) ?_
      refine LL.off (by kernel_rfl) (by kernel_rfl) ?_
      refine LL.off (by kernel_rfl) (by kernel_rfl) ?_
      refine LL.off (by kernel_rfl) (by kernel_rfl) ?_
      refine LL.off (by kernel_rfl) (by kernel_rfl) ?_
      refine LL.op (.bool false) (by kernel_rfl) (fun w _ => by kernel_rfl) ?_
      refine LL.op (.bool false) (by kernel_rfl) (fun w _ => by kernel_rfl) ?_
      refine LL.off (by kernel_rfl) (by kernel_rfl) ?_
      refine LL.off (by kernel_rfl) (by kernel_rfl) ?_
      refine LL.off (by kernel_rfl) (by kernel_rfl) ?_
      refine LL.off (by kernel_rfl) (by kernel_rfl) ?_
      refine LL.op (.bool false) (by kernel_rfl) (fun w _ => by kernel_rfl) ?_
      refine LL.op (.bool false) (by kernel_rfl) (fun w _ => by kernel_rfl) ?_
      refine LL.off (by kernel_rfl) (by kernel_rfl) ?_
      refine LL.off (by kernel_rfl) (by kernel_rfl) ?_
      refine LL.off (by kernel_rfl) (by kernel_rfl) ?_
      refine LL.off (by kernel_rfl) (by kernel_rfl) ?_
      refine LL.op (.bool false) (by kernel_rfl) (fun w _ => by kernel_rfl) ?_
      refine LL.op (.bool false) (by kernel_rfl) (fun w _ => by kernel_rfl) ?_
      refine LL.off (by kernel_rfl) (by kernel_rfl) ?_
      refine LL.off (by kernel_rfl) (by kernel_rfl) ?_
      refine LL.off (by kernel_rfl) (by kernel_rfl) ?_
      refine LL.off (by kernel_rfl) (by kernel_rfl) ?_
      refine LL.op (.bool false) (by kernel_rfl) (fun w _ => by kernel_rfl) ?_
      refine LL.op (.bool false) (by kernel_rfl) (fun w _ => by kernel_rfl) ?_
      refine LL.done (s' := [(0, .bool false)]) [0] (by kernel_rfl) ?_
      refine NN.then ?_
      refine J.ret ?_
      refine NN.fin1 0 (.bool false) (by kernel_rfl) (by kernel_rfl) (.inl rfl) (fun w hi => hi.ret ?_)
      first | (cases H; rfl) | (obtain rfl := Option.some.inj H; rfl) | (simp only [Option.some.injEq, Prod.mk.injEq] at H; obtain ⟨rfl⟩ := H; rfl)
  · rw [if_neg (nebf c186)] at H
    refine LL.bool 24 ((x184_1 == 41)) false c186 (by kernel_rfl) ?_
    refine LL.off (by kernel_rfl) (by kernel_rfl) ?_
    refine LL.off (by kernel_rfl) (by kernel_rfl) ?_
    refine LL.op (.bool false) (by kernel_rfl) (fun w _ => by kernel_rfl) ?_
    refine LL.op (.bool false) (by kernel_rfl) (fun w _ => by kernel_rfl) ?_
    refine LL.off (by kernel_rfl) (by kernel_rfl) ?_
    refine LL.off (by kernel_rfl) (by kernel_rfl) ?_
    refine LL.off (by kernel_rfl) (by kernel_rfl) ?_
    refine LL.off (by kernel_rfl) (by kernel_rfl) ?_
    refine LL.off (by kernel_rfl) (by kernel_rfl) ?_
    refine LL.op (.bool false) (by kernel_rfl) (fun w _ => by kernel_rfl) ?_
    refine LL.op (.bool false) (by kernel_rfl) (fun w _ => by kernel_rfl) ?_
    refine LL.off (by kernel_rfl) (by kernel_rfl) ?_
    refine LL.off (by kernel_rfl) (by kernel_rfl) ?_
    refine LL.off (by kernel_rfl) (by kernel_rfl) ?_
    refine LL.off (by kernel_rfl) (by kernel_rfl) ?_
    refine LL.op (.bool false) (by kernel_rfl) (fun w _ => by kernel_rfl) ?_
    refine LL.op (.bool false) (by kernel_rfl) (fun w _ => by kernel_rfl) ?_
    refine LL.off (by kernel_rfl) (by kernel_rfl) ?_
    refine LL.off (by kernel_rfl) (by kernel_rfl) ?_
    refine LL.off (by kernel_rfl) (by kernel_rfl) ?_
    refine LL.off (by kernel_rfl) (by kernel_rfl) ?_
    refine LL.op (.bool false) (by kernel_rfl) (fun w _ => by kernel_rfl) ?_
    refine LL.op (.bool false) (by kernel_rfl) (fun w _ => by kernel_rfl) ?_
    refine LL.off (by kernel_rfl) (by kernel_rfl) ?_
    refine LL.off (by kernel_rfl) (by kernel_rfl) ?_
    refine LL.off (by kernel_rfl) (by kernel_rfl) ?_
    refine LL.off (by kernel_rfl) (by kernel_rfl) ?_
    refine LL.op (.bool false) (by kernel_rfl) (fun w _ => by kernel_rfl) ?_
    refine LL.op (.bool false) (by kernel_rfl) (fun w _ => by kernel_rfl) ?_
    refine LL.off (by kernel_rfl) (by kernel_rfl) ?_
    refine LL.off (by kernel_rfl) (by kernel_rfl) ?_
    refine LL.off (by kernel_rfl) (by kernel_rfl) ?_
    refine LL.off (by kernel_rfl) (by kernel_rfl) ?_
    refine LL.op (.bool false) (by kernel_rfl) (fun w _ => by kernel_rfl) ?_
    refine LL.op (.bool false) (by kernel_rfl) (fun w _ => by kernel_rfl) ?_
    refine LL.done (s' := [(0, .bool false)]) [0] (by kernel_rfl) ?_
    refine NN.then ?_
    refine J.ret ?_
    refine NN.fin1 0 (.bool false) (by kernel_rfl) (by kernel_rfl) (.inl rfl) (fun w hi => hi.ret ?_)
    first | (cases H; rfl) | (obtain rfl := Option.some.inj H; rfl) | (simp only [Option.some.injEq, Prod.mk.injEq] at H; obtain ⟨rfl⟩ := H; rfl)

end Go.Proofs.Ytbgdgghijheopaa
