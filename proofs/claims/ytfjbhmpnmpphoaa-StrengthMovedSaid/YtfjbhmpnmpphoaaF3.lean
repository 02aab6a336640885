/- Walks of functions of the seat: each call does what the Lean function of the same name says. Printed by the session's own program absgen.py. -/
import Derived.Test.YtfjbhmpnmpphoaaF2
namespace Go.Proofs.Ytfjbhmpnmpphoaa
open Go.Saw
set_option linter.unusedVariables false
set_option linter.unusedSimpArgs false

/-! ### defect_Turn: function 43 -/
def defect_Turn.l1 (K : Nat) (a1 : Int) (kont_ : Int → Int → Int → Int → Int → Option ((List E41))) : Nat → Int → Int → Int → Int → Int → Option ((List E41))
  | 0, _, _, _, _, _ => none
  | k + 1, x19l1, yg398_1l1, yg398_2l1, yg398_3l1, yg398_4l1 => if x19l1 < (Go.bits .and .i64 a1 3) then (defect_Turn.l1 K a1 kont_ k (IntKind.i64.wrap (x19l1 + 1)) (IntKind.i64.wrap (0 - yg398_4l1)) (IntKind.i64.wrap (0 - yg398_3l1)) yg398_1l1 yg398_2l1) else (kont_ x19l1 yg398_1l1 yg398_2l1 yg398_3l1 yg398_4l1)
def defect_Turn.l0 (K : Nat) (a0 : List E41) (a1 : Int) : Nat → List E41 → Int → Option ((List E41))
  | 0, _, _ => none
  | k + 1, x5l0, x13l0 => if x13l0 < (a0.length : Int) then ((idx a0 x13l0).bind fun be397 => (defect_Turn.l1 K a1 (fun (x19l1 : Int) (yg398_1l1 : Int) (yg398_2l1 : Int) (yg398_3l1 : Int) (yg398_4l1 : Int) => (app 56 x5l0 ([(be397.1, yg398_1l1, yg398_2l1, yg398_3l1, yg398_4l1, be397.2.2.2.2.2.1, be397.2.2.2.2.2.2)] : List E41)).bind fun y409 => (defect_Turn.l0 K a0 a1 k y409 (IntKind.i64.wrap (x13l0 + 1)))) K 0 be397.2.1 be397.2.2.1 be397.2.2.2.1 be397.2.2.2.2.1)) else (some x5l0)
def defect_Turn.f (K : Nat) (a0 : List E41) (a1 : Int) : Option ((List E41)) := (defect_Check.f K a0).bind fun x393 => (if x393 = 0 then (defect_Turn.l0 K a0 a1 K ([] : List E41) 0) else (some []))
set_option maxRecDepth 100000 in
theorem defect_Turn.calls (K : Nat) (a0 : List E41) (a1 : Int)  (Aa0 : Option Addr) (ca0 : Nat)  (r1 : List E41) (w : World)   (ha0 : KRow (Cx.start w) enc41 7 a0 Aa0) (h : defect_Turn.f K a0 a1 = some r1) :
    Calls Try.prog 43 #[.slice Aa0 a0.length ca0, .int .i64 a1] w (RetR w enc41 7 r1 (fun A_ c_ => .slice A_ r1.length c_)) := by
  have H := h
  clear h
  unfold defect_Turn.f at H
  refine Go.Saw.calls (args := [.slice Aa0 a0.length ca0, .int .i64 a1]) Try.func43 rfl Try.ntmps43 (by kernel_rfl) ?_
  refine J.seq ?_
  refine J.plain ?_
  refine LL.op (.slice none 0 0) (by kernel_rfl) (fun w _ => by kernel_rfl) ?_
  refine LL.done (s' := [(0, .slice Aa0 a0.length ca0), (1, .int .i64 a1), (4, .slice none 0 0)]) [0, 1, 4] (by kernel_rfl) ?_
  refine NN.then ?_
  refine J.seq ?_
  refine J.seq ?_
  refine J.plain ?_
  refine LL.op (.slice Aa0 a0.length ca0) (by kernel_rfl) (fun w _ => by kernel_rfl) ?_
  obtain ⟨x393, hx393, H⟩ := bind_some H
  refine LL.call 33 #[.slice Aa0 a0.length ca0] (.int .i64 x393) (by kernel_rfl) (fun w => by kernel_rfl) (fun w hw => defect_Check.calls K a0  _ _ _ w  (ha0.at hw) hx393) ?_
  refine LL.op (.bool (!(x393 == 0))) (by kernel_rfl) (fun w _ => by kernel_rfl) ?_
  refine LL.done (s' := [(0, .slice Aa0 a0.length ca0), (1, .int .i64 a1), (4, .slice none 0 0), (10, .bool (!(x393 == 0)))]) [0, 1, 4, 10] (by kernel_rfl) ?_
  refine NN.then ?_
  rcases Bool.eq_false_or_eq_true ((x393 == 0)) with c394 | c394
  · rw [if_pos (eq_of_beq c394)] at H
    refine J.condF (b := !(x393 == 0)) (by rw [show (!(x393 == 0)) = !((x393 == 0)) from rfl, c394]; rfl) (by kernel_rfl) (by kernel_rfl) ?_
    refine J.skip ?_
    refine NN.then ?_
    refine J.seq ?_
    refine J.plain ?_
    refine LL.op (.slice none 0 0) (by kernel_rfl) (fun w _ => by kernel_rfl) ?_
    refine LL.done (s' := [(0, .slice Aa0 a0.length ca0), (1, .int .i64 a1), (4, .slice none 0 0), (5, .slice none 0 0)]) [0, 1, 4, 5] (by kernel_rfl) ?_
    refine NN.then ?_
    refine J.seq ?_
    refine J.seq ?_
    refine J.plain ?_
    refine LL.op (.slice Aa0 a0.length ca0) (by kernel_rfl) (fun w _ => by kernel_rfl) ?_
    refine LL.op (.int .i64 (a0.length : Int)) (by kernel_rfl) (fun w _ => by kernel_rfl) ?_
    refine LL.op (.int .i64 0) (by kernel_rfl) (fun w _ => by kernel_rfl) ?_
    refine LL.done (s' := [(1, .int .i64 a1), (4, .slice none 0 0), (5, .slice none 0 0), (11, .slice Aa0 a0.length ca0), (12, .int .i64 (a0.length : Int)), (13, .int .i64 0)]) [1, 4, 5, 11, 12, 13] (by kernel_rfl) ?_
    refine NN.then ?_
    refine J.block ?_
    refine J.to [1, 4, 5, 11, 12, 13] (s' := [(1, .int .i64 a1), (4, .slice none 0 0), (5, .slice none 0 0), (11, .slice Aa0 a0.length ca0), (12, .int .i64 (a0.length : Int)), (13, .int .i64 0)]) (by kernel_rfl) ?_
    refine J.loop (fun n_ s_ bs_ => ∃ (x5l0 : List E41) (x13l0 : Int) (Ax5l0 : Option Addr) (cx5l0 : Nat) (bax5l0 : Bs), defect_Turn.l0 K a0 a1 n_ x5l0 x13l0 = some r1 ∧ Own enc41 7 41 x5l0 Ax5l0 cx5l0 bax5l0 ∧ s_ = [(1, .int .i64 a1), (4, .slice none 0 0), (5, .slice Ax5l0 x5l0.length cx5l0), (11, .slice Aa0 a0.length ca0), (12, .int .i64 (a0.length : Int)), (13, .int .i64 x13l0)] ∧ [] ++ bax5l0 = bs_) K ⟨([] : List E41), 0, none, 0, [], H, (.nil none rfl), rfl, rfl⟩ ?_
    rintro (_ | n_) s_ bs_ ⟨x5l0, x13l0, Ax5l0, cx5l0, bax5l0, H, ox5l0, rfl, rfl⟩
    · exact absurd H (by simp [defect_Turn.l0])
    simp only [defect_Turn.l0] at H
    refine J.seq ?_
    refine J.plain ?_
    refine LL.op (.bool (decide (x13l0 < (a0.length : Int)))) (by kernel_rfl) (fun w _ => by kernel_rfl) ?_
    refine LL.done (s' := [(1, .int .i64 a1), (4, .slice none 0 0), (5, .slice Ax5l0 x5l0.length cx5l0), (11, .slice Aa0 a0.length ca0), (12, .int .i64 (a0.length : Int)), (13, .int .i64 x13l0), (14, .bool (decide (x13l0 < (a0.length : Int))))]) [1, 4, 5, 11, 12, 13, 14] (by kernel_rfl) ?_
    refine NN.then ?_
    refine J.seq ?_
    rcases Bool.eq_false_or_eq_true (decide (x13l0 < (a0.length : Int))) with c396 | c396
    · rw [if_pos (of_decide_eq_true c396)] at H
      refine J.condT (b := decide (x13l0 < (a0.length : Int))) c396 (by kernel_rfl) (by kernel_rfl) ?_
      refine J.skip ?_
      refine NN.then ?_
      refine J.seq ?_
      refine J.block ?_
      refine J.seq ?_
      refine J.plain ?_
      obtain ⟨⟨e397_1, e397_2, e397_3, e397_4, e397_5, e397_6, e397_7⟩, he397, H⟩ := bind_some H
      (try dsimp only at H)
      refine LL.op (.pointer (rp Aa0 (x13l0.toNat * 7 + 0))) (by kernel_rfl) (idxR (cp := ca0) (ik := .i64) ha0 he397 rfl (by kernel_rfl) (by kernel_rfl) (by kernel_rfl)) ?_
      refine LL.op (.agg #[.int .i64 e397_1, .int .i64 e397_2, .int .i64 e397_3, .int .i64 e397_4, .int .i64 e397_5, .int .i64 e397_6, .int .i64 e397_7]) (by kernel_rfl) (ldR (off := 0) ha0 he397 rfl (by kernel_rfl) (by kernel_rfl)) ?_
      refine LL.alloc 41 [.int .i64 0, .int .i64 0, .int .i64 0, .int .i64 0, .int .i64 0, .int .i64 0, .int .i64 0] (by kernel_rfl) rfl (by kernel_rfl) (fun g398 => ?_)
      refine LL.store 0 g398 0 41 (.tmp 7) (.tmp 16) [.int .i64 e397_1, .int .i64 e397_2, .int .i64 e397_3, .int .i64 e397_4, .int .i64 e397_5, .int .i64 e397_6, .int .i64 e397_7] (bs' := [(g398, cl [.int .i64 e397_1, .int .i64 e397_2, .int .i64 e397_3, .int .i64 e397_4, .int .i64 e397_5, .int .i64 e397_6, .int .i64 e397_7] 41)] ++ bax5l0) rfl (by kernel_rfl) rfl (by kernel_rfl) rfl (by kernel_rfl) ?_
      refine LL.done (s' := [(1, .int .i64 a1), (4, .slice none 0 0), (5, .slice Ax5l0 x5l0.length cx5l0), (7, .pointer (some ⟨g398, 0, none⟩)), (11, .slice Aa0 a0.length ca0), (12, .int .i64 (a0.length : Int)), (13, .int .i64 x13l0)]) [1, 4, 5, 7, 11, 12, 13] (by kernel_rfl) ?_
      refine NN.then ?_
      refine J.seq ?_
      refine J.seq ?_
      refine J.plain ?_
      refine LL.op (.int .i64 a1) (by kernel_rfl) (fun w _ => by kernel_rfl) ?_
      refine LL.op (.int .i64 (Go.bits .and .i64 a1 3)) (by kernel_rfl) (fun w _ => by kernel_rfl) ?_
      refine LL.op (.int .i64 0) (by kernel_rfl) (fun w _ => by kernel_rfl) ?_
      refine LL.done (s' := [(1, .int .i64 a1), (4, .slice none 0 0), (5, .slice Ax5l0 x5l0.length cx5l0), (7, .pointer (some ⟨g398, 0, none⟩)), (11, .slice Aa0 a0.length ca0), (12, .int .i64 (a0.length : Int)), (13, .int .i64 x13l0), (18, .int .i64 (Go.bits .and .i64 a1 3)), (19, .int .i64 0)]) [1, 4, 5, 7, 11, 12, 13, 18, 19] (by kernel_rfl) ?_
      refine NN.then ?_
      refine J.block ?_
      refine J.to [1, 4, 5, 7, 11, 12, 13, 18, 19] (s' := [(1, .int .i64 a1), (4, .slice none 0 0), (5, .slice Ax5l0 x5l0.length cx5l0), (7, .pointer (some ⟨g398, 0, none⟩)), (11, .slice Aa0 a0.length ca0), (12, .int .i64 (a0.length : Int)), (13, .int .i64 x13l0), (18, .int .i64 (Go.bits .and .i64 a1 3)), (19, .int .i64 0)]) (by kernel_rfl) ?_
      obtain ⟨kont399, hk399, H⟩ := kont_intro (P := fun q_ => defect_Turn.l1 K a1 q_ K 0 e397_2 e397_3 e397_4 e397_5 = some r1) H
      refine J.loop (fun n_ s_ bs_ => ∃ (x19l1 : Int) (yg398_1l1 : Int) (yg398_2l1 : Int) (yg398_3l1 : Int) (yg398_4l1 : Int), defect_Turn.l1 K a1 kont399 n_ x19l1 yg398_1l1 yg398_2l1 yg398_3l1 yg398_4l1 = some r1 ∧ s_ = [(1, .int .i64 a1), (4, .slice none 0 0), (5, .slice Ax5l0 x5l0.length cx5l0), (7, .pointer (some ⟨g398, 0, none⟩)), (11, .slice Aa0 a0.length ca0), (12, .int .i64 (a0.length : Int)), (13, .int .i64 x13l0), (18, .int .i64 (Go.bits .and .i64 a1 3)), (19, .int .i64 x19l1)] ∧ [(g398, cl [.int .i64 e397_1, .int .i64 yg398_1l1, .int .i64 yg398_2l1, .int .i64 yg398_3l1, .int .i64 yg398_4l1, .int .i64 e397_6, .int .i64 e397_7] 41)] ++ bax5l0 = bs_) K ⟨0, e397_2, e397_3, e397_4, e397_5, H, rfl, rfl⟩ ?_
      rintro (_ | n_) s_ bs_ ⟨x19l1, yg398_1l1, yg398_2l1, yg398_3l1, yg398_4l1, H, rfl, rfl⟩
      · exact absurd H (by simp [defect_Turn.l1])
      simp only [defect_Turn.l1] at H
      refine J.seq ?_
      refine J.plain ?_
      refine LL.op (.bool (decide (x19l1 < (Go.bits .and .i64 a1 3)))) (by kernel_rfl) (fun w _ => by kernel_rfl) ?_
      refine LL.done (s' := [(1, .int .i64 a1), (4, .slice none 0 0), (5, .slice Ax5l0 x5l0.length cx5l0), (7, .pointer (some ⟨g398, 0, none⟩)), (11, .slice Aa0 a0.length ca0), (12, .int .i64 (a0.length : Int)), (13, .int .i64 x13l0), (18, .int .i64 (Go.bits .and .i64 a1 3)), (19, .int .i64 x19l1), (20, .bool (decide (x19l1 < (Go.bits .and .i64 a1 3))))]) [1, 4, 5, 7, 11, 12, 13, 18, 19, 20] (by kernel_rfl) ?_
      refine NN.then ?_
      refine J.seq ?_
      rcases Bool.eq_false_or_eq_true (decide (x19l1 < (Go.bits .and .i64 a1 3))) with c400 | c400
      · rw [if_pos (of_decide_eq_true c400)] at H
        refine J.condT (b := decide (x19l1 < (Go.bits .and .i64 a1 3))) c400 (by kernel_rfl) (by kernel_rfl) ?_
        refine J.skip ?_
        refine NN.then ?_
        refine J.seq ?_
        refine J.block ?_
        refine J.plain ?_
        refine LL.op (.pointer (some ⟨g398, 1, none⟩)) (by kernel_rfl) (fun w _ => by kernel_rfl) ?_
        refine LL.op (.pointer (some ⟨g398, 3, none⟩)) (by kernel_rfl) (fun w _ => by kernel_rfl) ?_
        refine LL.op (.pointer (some ⟨g398, 4, none⟩)) (by kernel_rfl) (fun w _ => by kernel_rfl) ?_
        refine LL.op (.int .i64 yg398_4l1) (by kernel_rfl) (ld 0 g398 4 rfl (by kernel_rfl) rfl (by kernel_rfl)) ?_
        refine LL.op (.int .i64 (IntKind.i64.wrap (0 - yg398_4l1))) (by kernel_rfl) (fun w _ => by kernel_rfl) ?_
        refine LL.op (.pointer (some ⟨g398, 1, none⟩)) (by kernel_rfl) (fun w _ => by kernel_rfl) ?_
        refine LL.op (.pointer (some ⟨g398, 3, none⟩)) (by kernel_rfl) (fun w _ => by kernel_rfl) ?_
        refine LL.op (.pointer (some ⟨g398, 3, none⟩)) (by kernel_rfl) (fun w _ => by kernel_rfl) ?_
        refine LL.op (.int .i64 yg398_3l1) (by kernel_rfl) (ld 0 g398 3 rfl (by kernel_rfl) rfl (by kernel_rfl)) ?_
        refine LL.op (.int .i64 (IntKind.i64.wrap (0 - yg398_3l1))) (by kernel_rfl) (fun w _ => by kernel_rfl) ?_
        refine LL.op (.agg #[.int .i64 (IntKind.i64.wrap (0 - yg398_4l1)), .int .i64 (IntKind.i64.wrap (0 - yg398_3l1))]) (by kernel_rfl) (fun w _ => by kernel_rfl) ?_
        refine LL.op (.pointer (some ⟨g398, 1, none⟩)) (by kernel_rfl) (fun w _ => by kernel_rfl) ?_
        refine LL.op (.pointer (some ⟨g398, 1, none⟩)) (by kernel_rfl) (fun w _ => by kernel_rfl) ?_
        refine LL.op (.agg #[.int .i64 yg398_1l1, .int .i64 yg398_2l1]) (by kernel_rfl) (ld 0 g398 1 rfl (by kernel_rfl) rfl (by kernel_rfl)) ?_
        refine LL.op (.pointer (some ⟨g398, 1, none⟩)) (by kernel_rfl) (fun w _ => by kernel_rfl) ?_
        refine LL.op (.pointer (some ⟨g398, 1, none⟩)) (by kernel_rfl) (fun w _ => by kernel_rfl) ?_
        refine LL.store 0 g398 1 23 (.tmp 36) (.tmp 31) [.int .i64 e397_1, .int .i64 (IntKind.i64.wrap (0 - yg398_4l1)), .int .i64 (IntKind.i64.wrap (0 - yg398_3l1)), .int .i64 yg398_3l1, .int .i64 yg398_4l1, .int .i64 e397_6, .int .i64 e397_7] (bs' := [(g398, cl [.int .i64 e397_1, .int .i64 (IntKind.i64.wrap (0 - yg398_4l1)), .int .i64 (IntKind.i64.wrap (0 - yg398_3l1)), .int .i64 yg398_3l1, .int .i64 yg398_4l1, .int .i64 e397_6, .int .i64 e397_7] 41)] ++ bax5l0) rfl (by kernel_rfl) rfl (by kernel_rfl) rfl (by kernel_rfl) ?_
        refine LL.op (.pointer (some ⟨g398, 1, none⟩)) (by kernel_rfl) (fun w _ => by kernel_rfl) ?_
        refine LL.op (.pointer (some ⟨g398, 3, none⟩)) (by kernel_rfl) (fun w _ => by kernel_rfl) ?_
        refine LL.store 0 g398 3 23 (.tmp 38) (.tmp 34) [.int .i64 e397_1, .int .i64 (IntKind.i64.wrap (0 - yg398_4l1)), .int .i64 (IntKind.i64.wrap (0 - yg398_3l1)), .int .i64 yg398_1l1, .int .i64 yg398_2l1, .int .i64 e397_6, .int .i64 e397_7] (bs' := [(g398, cl [.int .i64 e397_1, .int .i64 (IntKind.i64.wrap (0 - yg398_4l1)), .int .i64 (IntKind.i64.wrap (0 - yg398_3l1)), .int .i64 yg398_1l1, .int .i64 yg398_2l1, .int .i64 e397_6, .int .i64 e397_7] 41)] ++ bax5l0) rfl (by kernel_rfl) rfl (by kernel_rfl) rfl (by kernel_rfl) ?_
        refine LL.done (s' := [(1, .int .i64 a1), (4, .slice none 0 0), (5, .slice Ax5l0 x5l0.length cx5l0), (7, .pointer (some ⟨g398, 0, none⟩)), (11, .slice Aa0 a0.length ca0), (12, .int .i64 (a0.length : Int)), (13, .int .i64 x13l0), (18, .int .i64 (Go.bits .and .i64 a1 3)), (19, .int .i64 x19l1)]) [1, 4, 5, 7, 11, 12, 13, 18, 19] (by kernel_rfl) ?_
        refine NN.block_n ?_
        refine NN.then ?_
        refine J.plain ?_
        refine LL.op (.int .i64 (IntKind.i64.wrap (x19l1 + 1))) (by kernel_rfl) (fun w _ => by kernel_rfl) ?_
        refine LL.op (.int .i64 (IntKind.i64.wrap (x19l1 + 1))) (by kernel_rfl) (fun w _ => by kernel_rfl) ?_
        refine LL.done (s' := [(1, .int .i64 a1), (4, .slice none 0 0), (5, .slice Ax5l0 x5l0.length cx5l0), (7, .pointer (some ⟨g398, 0, none⟩)), (11, .slice Aa0 a0.length ca0), (12, .int .i64 (a0.length : Int)), (13, .int .i64 x13l0), (18, .int .i64 (Go.bits .and .i64 a1 3)), (19, .int .i64 (IntKind.i64.wrap (x19l1 + 1)))]) [1, 4, 5, 7, 11, 12, 13, 18, 19] (by kernel_rfl) ?_
        exact NN.round' [1, 4, 5, 7, 11, 12, 13, 18, 19] (bs' := [(g398, cl [.int .i64 e397_1, .int .i64 (IntKind.i64.wrap (0 - yg398_4l1)), .int .i64 (IntKind.i64.wrap (0 - yg398_3l1)), .int .i64 yg398_1l1, .int .i64 yg398_2l1, .int .i64 e397_6, .int .i64 e397_7] 41)] ++ bax5l0) (Nat.lt_succ_self _) ((List.Sublist.refl _).append_right _) (by kernel_rfl) ⟨IntKind.i64.wrap (x19l1 + 1), IntKind.i64.wrap (0 - yg398_4l1), IntKind.i64.wrap (0 - yg398_3l1), yg398_1l1, yg398_2l1, H, rfl, rfl⟩
      · rw [if_neg (of_decide_eq_false c400)] at H
        refine J.condF (b := decide (x19l1 < (Go.bits .and .i64 a1 3))) c400 (by kernel_rfl) (by kernel_rfl) ?_
        refine J.exit ?_
        refine NN.then_exit ?_
        rw [← hk399] at H
        (try dsimp only at H)
        refine NN.then_exit ?_
        refine NN.block_same ?_
        refine NN.then ?_
        refine J.plain ?_
        refine LL.op (.slice Ax5l0 x5l0.length cx5l0) (by kernel_rfl) (fun w _ => by kernel_rfl) ?_
        refine LL.op (.agg #[.int .i64 e397_1, .int .i64 yg398_1l1, .int .i64 yg398_2l1, .int .i64 yg398_3l1, .int .i64 yg398_4l1, .int .i64 e397_6, .int .i64 e397_7]) (by kernel_rfl) (ld 0 g398 0 rfl (by kernel_rfl) rfl (by kernel_rfl)) ?_
        refine LL.lit 26 1 #[(0, .tmp 41)] [.int .i64 e397_1, .int .i64 yg398_1l1, .int .i64 yg398_2l1, .int .i64 yg398_3l1, .int .i64 yg398_4l1, .int .i64 e397_6, .int .i64 e397_7] 41 ([(e397_1, yg398_1l1, yg398_2l1, yg398_3l1, yg398_4l1, e397_6, e397_7)] : List E41) (by kernel_rfl) rfl (by kernel_rfl) ok41.len rfl rfl (fun R401 F402 A403 c404 le405 k406 fr407 => ?_)
        obtain ⟨y409, hy409, H⟩ := bind_some H
        refine LL.app (l2 := ([(e397_1, yg398_1l1, yg398_2l1, yg398_3l1, yg398_4l1, e397_6, e397_7)] : List E41)) (cap := cx5l0) (c2 := c404) [(g398, cl [.int .i64 e397_1, .int .i64 yg398_1l1, .int .i64 yg398_2l1, .int .i64 yg398_3l1, .int .i64 yg398_4l1, .int .i64 e397_6, .int .i64 e397_7] 41)] (.tmp 40) (.tmp 42) el26 ok41 ox5l0 k406 hy409 (by kernel_rfl) rfl (by kernel_rfl) (by kernel_rfl) (fun A410 c411 ba412 o413 => ?_)
        refine LL.op (.slice A410 y409.length c411) (by kernel_rfl) (fun w _ => by kernel_rfl) ?_
        refine LL.done (s' := [(1, .int .i64 a1), (4, .slice none 0 0), (5, .slice A410 y409.length c411), (11, .slice Aa0 a0.length ca0), (12, .int .i64 (a0.length : Int)), (13, .int .i64 x13l0)]) [1, 4, 5, 11, 12, 13] (by kernel_rfl) ?_
        refine NN.block_n ?_
        refine NN.then ?_
        refine J.plain ?_
        refine LL.op (.int .i64 (IntKind.i64.wrap (x13l0 + 1))) (by kernel_rfl) (fun w _ => by kernel_rfl) ?_
        refine LL.op (.int .i64 (IntKind.i64.wrap (x13l0 + 1))) (by kernel_rfl) (fun w _ => by kernel_rfl) ?_
        refine LL.done (s' := [(1, .int .i64 a1), (4, .slice none 0 0), (5, .slice A410 y409.length c411), (11, .slice Aa0 a0.length ca0), (12, .int .i64 (a0.length : Int)), (13, .int .i64 (IntKind.i64.wrap (x13l0 + 1)))]) [1, 4, 5, 11, 12, 13] (by kernel_rfl) ?_
        exact NN.roundR [1, 4, 5, 11, 12, 13] (bs' := [] ++ ba412) (fun _ _ h => (h.back le405)) (Nat.lt_succ_self _) ((List.Sublist.cons _ (List.Sublist.refl _)).append_right _) (by kernel_rfl) ⟨y409, IntKind.i64.wrap (x13l0 + 1), A410, c411, ba412, H, o413, rfl, rfl⟩
    · rw [if_neg (of_decide_eq_false c396)] at H
      refine J.condF (b := decide (x13l0 < (a0.length : Int))) c396 (by kernel_rfl) (by kernel_rfl) ?_
      refine J.exit ?_
      refine NN.then_exit ?_
      refine NN.then_exit ?_
      refine NN.block_same ?_
      refine NN.then ?_
      refine J.seq ?_
      refine J.plain ?_
      refine LL.op (.slice Ax5l0 x5l0.length cx5l0) (by kernel_rfl) (fun w _ => by kernel_rfl) ?_
      refine LL.op (.slice Ax5l0 x5l0.length cx5l0) (by kernel_rfl) (fun w _ => by kernel_rfl) ?_
      refine LL.done (s' := [(4, .slice Ax5l0 x5l0.length cx5l0)]) [4] (by kernel_rfl) ?_
      refine NN.then ?_
      refine J.ret ?_
      first | (obtain rfl := Option.some.inj H) | (simp only [Option.some.injEq, Prod.mk.injEq] at H; obtain ⟨rfl⟩ := H)
      refine NN.fin1 4 (.slice Ax5l0 x5l0.length cx5l0) (by kernel_rfl) (by kernel_rfl) (.inl rfl) (fun w hi => hi.retOwn (pre := []) ok41 ox5l0 rfl)
  · rw [if_neg (nebf c394)] at H
    refine J.condT (b := !(x393 == 0)) (by rw [show (!(x393 == 0)) = !((x393 == 0)) from rfl, c394]; rfl) (by kernel_rfl) (by kernel_rfl) ?_
    refine J.seq ?_
    refine J.plain ?_
    refine LL.op (.slice none 0 0) (by kernel_rfl) (fun w _ => by kernel_rfl) ?_
    refine LL.done (s' := [(0, .slice Aa0 a0.length ca0), (1, .int .i64 a1), (4, .slice none 0 0)]) [0, 1, 4] (by kernel_rfl) ?_
    refine NN.then ?_
    refine J.ret ?_
    refine NN.then_ret ?_
    first | (obtain rfl := Option.some.inj H) | (simp only [Option.some.injEq, Prod.mk.injEq] at H; obtain ⟨rfl⟩ := H)
    refine NN.fin1 4 (.slice none 0 0) (by kernel_rfl) (by kernel_rfl) (.inl rfl) (fun w hi => hi.retNil rfl)

/-! ### sawmilllaw13_few: function 29 -/
def sawmilllaw13_few.f (a0 : List E41) : Option (Bool) := some (decide ((a0.length : Int) ≤ 100))
set_option maxRecDepth 100000 in
theorem sawmilllaw13_few.calls (a0 : List E41)  (Aa0 : Option Addr) (ca0 : Nat)  (r1 : Bool) (w : World)   (ha0 : KRow (Cx.start w) enc41 7 a0 Aa0) (h : sawmilllaw13_few.f a0 = some r1) :
    Calls Try.prog 29 #[.slice Aa0 a0.length ca0] w (Ret w (.bool r1)) := by
  have H := h
  clear h
  unfold sawmilllaw13_few.f at H
  refine Go.Saw.calls (args := [.slice Aa0 a0.length ca0]) Try.func29 rfl Try.ntmps29 (by kernel_rfl) ?_
  refine J.seq ?_
  refine J.plain ?_
  refine LL.op (.bool false) (by kernel_rfl) (fun w _ => by kernel_rfl) ?_
  refine LL.done (s' := [(0, .slice Aa0 a0.length ca0), (2, .bool false)]) [0, 2] (by kernel_rfl) ?_
  refine NN.then ?_
  refine J.seq ?_
  refine J.plain ?_
  refine LL.op (.slice Aa0 a0.length ca0) (by kernel_rfl) (fun w _ => by kernel_rfl) ?_
  refine LL.op (.int .i64 (a0.length : Int)) (by kernel_rfl) (fun w _ => by kernel_rfl) ?_
  refine LL.op (.bool (decide ((a0.length : Int) ≤ 100))) (by kernel_rfl) (fun w _ => by kernel_rfl) ?_
  refine LL.op (.bool (decide ((a0.length : Int) ≤ 100))) (by kernel_rfl) (fun w _ => by kernel_rfl) ?_
  refine LL.done (s' := [(2, .bool (decide ((a0.length : Int) ≤ 100)))]) [2] (by kernel_rfl) ?_
  refine NN.then ?_
  refine J.ret ?_
  refine NN.fin1 2 (.bool (decide ((a0.length : Int) ≤ 100))) (by kernel_rfl) (by kernel_rfl) (.inl rfl) (fun w hi => hi.ret ?_)
  first | (cases H; rfl) | (obtain rfl := Option.some.inj H; rfl) | (simp only [Option.some.injEq, Prod.mk.injEq] at H; obtain ⟨rfl⟩ := H; rfl)

/-! ### sawmilllaw13_box: function 48 -/
def sawmilllaw13_box.f (a0 : Int) (a1 : Int) (a2 : Int) (a3 : Int) (a4 : Int) (a5 : Int) : Option (Int × Int × Int × Int × Int × Int) := some (a0, a1, a2, a3, a4, a5)
set_option maxRecDepth 100000 in
theorem sawmilllaw13_box.calls (a0 : Int) (a1 : Int) (a2 : Int) (a3 : Int) (a4 : Int) (a5 : Int)    (r1 : Int) (r2 : Int) (r3 : Int) (r4 : Int) (r5 : Int) (r6 : Int) (w : World)    (h : sawmilllaw13_box.f a0 a1 a2 a3 a4 a5 = some (r1, r2, r3, r4, r5, r6)) :
    Calls Try.prog 48 #[.int .i64 a0, .int .i64 a1, .int .i64 a2, .int .i64 a3, .int .i64 a4, .int .i64 a5] w (Ret w (.agg #[.int .i64 r1, .int .i64 r2, .int .i64 r3, .int .i64 r4, .int .i64 r5, .int .i64 r6])) := by
  have H := h
  clear h
  unfold sawmilllaw13_box.f at H
  refine Go.Saw.calls (args := [.int .i64 a0, .int .i64 a1, .int .i64 a2, .int .i64 a3, .int .i64 a4, .int .i64 a5]) Try.func48 rfl Try.ntmps48 (by kernel_rfl) ?_
  refine J.seq ?_
  refine J.plain ?_
  refine LL.alloc 25 [.int .i64 0, .int .i64 0, .int .i64 0, .int .i64 0, .int .i64 0, .int .i64 0] (by kernel_rfl) rfl (by kernel_rfl) (fun g415 => ?_)
  refine LL.done (s' := [(0, .int .i64 a0), (1, .int .i64 a1), (2, .int .i64 a2), (3, .int .i64 a3), (4, .int .i64 a4), (5, .int .i64 a5), (12, .pointer (some ⟨g415, 0, none⟩))]) [0, 1, 2, 3, 4, 5, 12] (by kernel_rfl) ?_
  refine NN.then ?_
  refine J.seq ?_
  refine J.plain ?_
  refine LL.op (.int .i64 a0) (by kernel_rfl) (fun w _ => by kernel_rfl) ?_
  refine LL.op (.int .i64 a1) (by kernel_rfl) (fun w _ => by kernel_rfl) ?_
  refine LL.op (.agg #[.int .i64 a0, .int .i64 a1]) (by kernel_rfl) (fun w _ => by kernel_rfl) ?_
  refine LL.op (.int .i64 a2) (by kernel_rfl) (fun w _ => by kernel_rfl) ?_
  refine LL.op (.int .i64 a3) (by kernel_rfl) (fun w _ => by kernel_rfl) ?_
  refine LL.op (.agg #[.int .i64 a2, .int .i64 a3]) (by kernel_rfl) (fun w _ => by kernel_rfl) ?_
  refine LL.op (.int .i64 a4) (by kernel_rfl) (fun w _ => by kernel_rfl) ?_
  refine LL.op (.int .i64 a5) (by kernel_rfl) (fun w _ => by kernel_rfl) ?_
  refine LL.op (.agg #[.int .i64 a4, .int .i64 a5]) (by kernel_rfl) (fun w _ => by kernel_rfl) ?_
  refine LL.op (.agg #[.int .i64 a0, .int .i64 a1, .int .i64 a2, .int .i64 a3, .int .i64 a4, .int .i64 a5]) (by kernel_rfl) (fun w _ => by kernel_rfl) ?_
  refine LL.store 0 g415 0 25 (.tmp 12) (.tmp 22) [.int .i64 a0, .int .i64 a1, .int .i64 a2, .int .i64 a3, .int .i64 a4, .int .i64 a5] (bs' := [(g415, cl [.int .i64 a0, .int .i64 a1, .int .i64 a2, .int .i64 a3, .int .i64 a4, .int .i64 a5] 25)]) rfl (by kernel_rfl) rfl (by kernel_rfl) rfl (by kernel_rfl) ?_
  refine LL.done (s' := [(12, .pointer (some ⟨g415, 0, none⟩))]) [12] (by kernel_rfl) ?_
  refine NN.then ?_
  refine J.ret ?_
  refine NN.finV (.agg #[.int .i64 a0, .int .i64 a1, .int .i64 a2, .int .i64 a3, .int .i64 a4, .int .i64 a5]) (.inl rfl) ?_ (fun w hi => hi.ret ?_)
  · exact resOk_1 (by kernel_rfl) (.cell (d := 12) (t := 25) 0 g415 0 (by kernel_rfl) rfl (by kernel_rfl))
  first | (cases H; rfl) | (obtain rfl := Option.some.inj H; rfl) | (simp only [Option.some.injEq, Prod.mk.injEq] at H; obtain ⟨rfl, rfl, rfl, rfl, rfl, rfl⟩ := H; rfl)

/-! ### sawmilllaw13_fits: function 47 -/
def sawmilllaw13_fits.f (a0_0 : Int) (a0_1 : Int) (a0_2 : Int) (a0_3 : Int) (a0_4 : Int) (a0_5 : Int) : Option (Bool) := (sawmillref13_Ranged.f a0_0 a0_1 a0_2 a0_3 a0_4 a0_5).bind fun x417 => (if x417 = true then ((sawmillref13_Empty.f a0_0 a0_1 a0_2 a0_3 a0_4 a0_5).bind fun x419 => (if x419 = true then (some false) else (if (IntKind.i64.wrap (a0_1 - a0_0)) ≤ 600 then (some (decide ((IntKind.i64.wrap (a0_3 - a0_2)) ≤ 600))) else (some false)))) else (some false))
set_option maxRecDepth 100000 in
theorem sawmilllaw13_fits.calls (a0_0 : Int) (a0_1 : Int) (a0_2 : Int) (a0_3 : Int) (a0_4 : Int) (a0_5 : Int)    (r1 : Bool) (w : World)    (h : sawmilllaw13_fits.f a0_0 a0_1 a0_2 a0_3 a0_4 a0_5 = some r1) :
    Calls Try.prog 47 #[.agg #[.int .i64 a0_0, .int .i64 a0_1, .int .i64 a0_2, .int .i64 a0_3, .int .i64 a0_4, .int .i64 a0_5]] w (Ret w (.bool r1)) := by
  have H := h
  clear h
  unfold sawmilllaw13_fits.f at H
  refine Go.Saw.calls (args := [.agg #[.int .i64 a0_0, .int .i64 a0_1, .int .i64 a0_2, .int .i64 a0_3, .int .i64 a0_4, .int .i64 a0_5]]) Try.func47 rfl Try.ntmps47 (by kernel_rfl) ?_
  refine J.seq ?_
  refine J.plain ?_
  refine LL.box 25 (.tmp 0) [.int .i64 a0_0, .int .i64 a0_1, .int .i64 a0_2, .int .i64 a0_3, .int .i64 a0_4, .int .i64 a0_5] (by kernel_rfl) rfl (by kernel_rfl) (fun g416 => ?_)
  refine LL.op (.bool false) (by kernel_rfl) (fun w _ => by kernel_rfl) ?_
  refine LL.done (s' := [(1, .pointer (some ⟨g416, 0, none⟩)), (2, .bool false)]) [1, 2] (by kernel_rfl) ?_
  refine NN.then ?_
  refine J.seq ?_
  refine J.plain ?_
  refine LL.op (.agg #[.int .i64 a0_0, .int .i64 a0_1, .int .i64 a0_2, .int .i64 a0_3, .int .i64 a0_4, .int .i64 a0_5]) (by kernel_rfl) (ld 0 g416 0 rfl (by kernel_rfl) rfl (by kernel_rfl)) ?_
  obtain ⟨x417, hx417, H⟩ := bind_some H
  refine LL.call 60 #[.agg #[.int .i64 a0_0, .int .i64 a0_1, .int .i64 a0_2, .int .i64 a0_3, .int .i64 a0_4, .int .i64 a0_5]] (.bool x417) (by kernel_rfl) (fun w => by kernel_rfl) (fun w hw => sawmillref13_Ranged.calls a0_0 a0_1 a0_2 a0_3 a0_4 a0_5   _ w   hx417) ?_
  refine LL.op (.bool x417) (by kernel_rfl) (fun w _ => by kernel_rfl) ?_
  rcases Bool.eq_false_or_eq_true (x417) with c418 | c418
  · rw [if_pos (c418)] at H
    refine LL.bool 5 (x417) true c418 (by kernel_rfl) ?_
    refine LL.op (.agg #[.int .i64 a0_0, .int .i64 a0_1, .int .i64 a0_2, .int .i64 a0_3, .int .i64 a0_4, .int .i64 a0_5]) (by kernel_rfl) (ld 0 g416 0 rfl (by kernel_rfl) rfl (by kernel_rfl)) ?_
    obtain ⟨x419, hx419, H⟩ := bind_some H
    refine LL.call 50 #[.agg #[.int .i64 a0_0, .int .i64 a0_1, .int .i64 a0_2, .int .i64 a0_3, .int .i64 a0_4, .int .i64 a0_5]] (.bool x419) (by kernel_rfl) (fun w => by kernel_rfl) (fun w hw => sawmillref13_Empty.calls a0_0 a0_1 a0_2 a0_3 a0_4 a0_5   _ w   hx419) ?_
    refine LL.op (.bool (!x419)) (by kernel_rfl) (fun w _ => by kernel_rfl) ?_
    refine LL.op (.bool (!x419)) (by kernel_rfl) (fun w _ => by kernel_rfl) ?_
    refine LL.op (.bool (!x419)) (by kernel_rfl) (fun w _ => by kernel_rfl) ?_
    rcases Bool.eq_false_or_eq_true (x419) with c420 | c420
    · rw [if_pos (c420)] at H
      refine LL.bool 10 (!x419) false (by rw [show (!x419) = !(x419) from rfl, c420]; rfl) (by kernel_rfl) ?_
      refine LL.off (by kernel_rfl) (by kernel_rfl) ?_
      refine LL.off (by kernel_rfl) (by kernel_rfl) ?_
      refine LL.off (by kernel_rfl) (by kernel_rfl) ?_
      refine LL.off (by kernel_rfl) (by kernel_rfl) ?_
      refine LL.off (by kernel_rfl) (by kernel_rfl) ?_
      refine LL.off (by kernel_rfl) (by kernel_rfl) ?_
      refine LL.off (by kernel_rfl) (by kernel_rfl) ?_
      refine LL.off (by kernel_rfl) (by kernel_rfl) ?_
      refine LL.op (.bool false) (by kernel_rfl) (fun w _ => by kernel_rfl) ?_
      refine LL.op (.bool false) (by kernel_rfl) (fun w _ => by kernel_rfl) ?_
      refine LL.off (by kernel_rfl) (by kernel_rfl) ?_
      refine LL.off (by kernel_rfl) (by kernel_rfl) ?_
      refine LL.off (by kernel_rfl) (by kernel_rfl) ?_
      refine LL.off (by kernel_rfl) (by kernel_rfl) ?_
      refine LL.off (by kernel_rfl) (by kernel_rfl) ?_
      refine LL.off (by kernel_rfl) (by kernel_rfl) ?_
      refine LL.off (by kernel_rfl) (by kernel_rfl) ?_
      refine LL.off (by kernel_rfl) (by kernel_rfl) ?_
      refine LL.op (.bool false) (by kernel_rfl) (fun w _ => by kernel_rfl) ?_
      refine LL.op (.bool false) (by kernel_rfl) (fun w _ => by kernel_rfl) ?_
      refine LL.done (s' := [(2, .bool false)]) [2] (by kernel_rfl) ?_
      refine NN.then ?_
      refine J.ret ?_
      refine NN.fin1 2 (.bool false) (by kernel_rfl) (by kernel_rfl) (.inl rfl) (fun w hi => hi.ret ?_)
      first | (cases H; rfl) | (obtain rfl := Option.some.inj H; rfl) | (simp only [Option.some.injEq, Prod.mk.injEq] at H; obtain ⟨rfl⟩ := H; rfl)
    · rw [if_neg (nebt c420)] at H
      refine LL.bool 10 (!x419) true (by rw [show (!x419) = !(x419) from rfl, c420]; rfl) (by kernel_rfl) ?_
      refine LL.op (.pointer (some ⟨g416, 0, none⟩)) (by kernel_rfl) (fun w _ => by kernel_rfl) ?_
      refine LL.op (.pointer (some ⟨g416, 1, none⟩)) (by kernel_rfl) (fun w _ => by kernel_rfl) ?_
      refine LL.op (.int .i64 a0_1) (by kernel_rfl) (ld 0 g416 1 rfl (by kernel_rfl) rfl (by kernel_rfl)) ?_
      refine LL.op (.pointer (some ⟨g416, 0, none⟩)) (by kernel_rfl) (fun w _ => by kernel_rfl) ?_
      refine LL.op (.pointer (some ⟨g416, 0, none⟩)) (by kernel_rfl) (fun w _ => by kernel_rfl) ?_
      refine LL.op (.int .i64 a0_0) (by kernel_rfl) (ld 0 g416 0 rfl (by kernel_rfl) rfl (by kernel_rfl)) ?_
      refine LL.op (.int .i64 (IntKind.i64.wrap (a0_1 - a0_0))) (by kernel_rfl) (fun w _ => by kernel_rfl) ?_
      refine LL.op (.bool (decide ((IntKind.i64.wrap (a0_1 - a0_0)) ≤ 600))) (by kernel_rfl) (fun w _ => by kernel_rfl) ?_
      refine LL.op (.bool (decide ((IntKind.i64.wrap (a0_1 - a0_0)) ≤ 600))) (by kernel_rfl) (fun w _ => by kernel_rfl) ?_
      refine LL.op (.bool (decide ((IntKind.i64.wrap (a0_1 - a0_0)) ≤ 600))) (by kernel_rfl) (fun w _ => by kernel_rfl) ?_
      rcases Bool.eq_false_or_eq_true (decide ((IntKind.i64.wrap (a0_1 - a0_0)) ≤ 600)) with c421 | c421
      · rw [if_pos (of_decide_eq_true c421)] at H
        refine LL.bool 20 (decide ((IntKind.i64.wrap (a0_1 - a0_0)) ≤ 600)) true c421 (by kernel_rfl) ?_
        refine LL.op (.pointer (some ⟨g416, 2, none⟩)) (by kernel_rfl) (fun w _ => by kernel_rfl) ?_
        refine LL.op (.pointer (some ⟨g416, 3, none⟩)) (by kernel_rfl) (fun w _ => by kernel_rfl) ?_
        refine LL.op (.int .i64 a0_3) (by kernel_rfl) (ld 0 g416 3 rfl (by kernel_rfl) rfl (by kernel_rfl)) ?_
        refine LL.op (.pointer (some ⟨g416, 2, none⟩)) (by kernel_rfl) (fun w _ => by kernel_rfl) ?_
        refine LL.op (.pointer (some ⟨g416, 2, none⟩)) (by kernel_rfl) (fun w _ => by kernel_rfl) ?_
        refine LL.op (.int .i64 a0_2) (by kernel_rfl) (ld 0 g416 2 rfl (by kernel_rfl) rfl (by kernel_rfl)) ?_
        refine LL.op (.int .i64 (IntKind.i64.wrap (a0_3 - a0_2))) (by kernel_rfl) (fun w _ => by kernel_rfl) ?_
        refine LL.op (.bool (decide ((IntKind.i64.wrap (a0_3 - a0_2)) ≤ 600))) (by kernel_rfl) (fun w _ => by kernel_rfl) ?_
        refine LL.op (.bool (decide ((IntKind.i64.wrap (a0_3 - a0_2)) ≤ 600))) (by kernel_rfl) (fun w _ => by kernel_rfl) ?_
        refine LL.op (.bool (decide ((IntKind.i64.wrap (a0_3 - a0_2)) ≤ 600))) (by kernel_rfl) (fun w _ => by kernel_rfl) ?_
        refine LL.done (s' := [(2, .bool (decide ((IntKind.i64.wrap (a0_3 - a0_2)) ≤ 600)))]) [2] (by kernel_rfl) ?_
        refine NN.then ?_
        refine J.ret ?_
        refine NN.fin1 2 (.bool (decide ((IntKind.i64.wrap (a0_3 - a0_2)) ≤ 600))) (by kernel_rfl) (by kernel_rfl) (.inl rfl) (fun w hi => hi.ret ?_)
        first | (cases H; rfl) | (obtain rfl := Option.some.inj H; rfl) | (simp only [Option.some.injEq, Prod.mk.injEq] at H; obtain ⟨rfl⟩ := H; rfl)
      · rw [if_neg (of_decide_eq_false c421)] at H
        refine LL.bool 20 (decide ((IntKind.i64.wrap (a0_1 - a0_0)) ≤ 600)) false c421 (by kernel_rfl) ?_
        refine LL.off (by kernel_rfl) (by kernel_rfl) ?_
        refine LL.off (by kernel_rfl) (by kernel_rfl) ?_
        refine LL.off (by kernel_rfl) (by kernel_rfl) ?_
        refine LL.off (by kernel_rfl) (by kernel_rfl) ?_
        refine LL.off (by kernel_rfl) (by kernel_rfl) ?_
        refine LL.off (by kernel_rfl) (by kernel_rfl) ?_
        refine LL.off (by kernel_rfl) (by kernel_rfl) ?_
        refine LL.off (by kernel_rfl) (by kernel_rfl) ?_
        refine LL.op (.bool false) (by kernel_rfl) (fun w _ => by kernel_rfl) ?_
        refine LL.op (.bool false) (by kernel_rfl) (fun w _ => by kernel_rfl) ?_
        refine LL.done (s' := [(2, .bool false)]) [2] (by kernel_rfl) ?_
        refine NN.then ?_
        refine J.ret ?_
        refine NN.fin1 2 (.bool false) (by kernel_rfl) (by kernel_rfl) (.inl rfl) (fun w hi => hi.ret ?_)
        first | (cases H; rfl) | (obtain rfl := Option.some.inj H; rfl) | (simp only [Option.some.injEq, Prod.mk.injEq] at H; obtain ⟨rfl⟩ := H; rfl)
  · rw [if_neg (nebt c418)] at H
    refine LL.bool 5 (x417) false c418 (by kernel_rfl) ?_
    refine LL.off (by kernel_rfl) (by kernel_rfl) ?_
    refine LL.off (by kernel_rfl) (by kernel_rfl) ?_
    refine LL.off (by kernel_rfl) (by kernel_rfl) ?_
    refine LL.op (.bool false) (by kernel_rfl) (fun w _ => by kernel_rfl) ?_
    refine LL.op (.bool false) (by kernel_rfl) (fun w _ => by kernel_rfl) ?_
    refine LL.off (by kernel_rfl) (by kernel_rfl) ?_
    refine LL.off (by kernel_rfl) (by kernel_rfl) ?_
    refine LL.off (by kernel_rfl) (by kernel_rfl) ?_
    refine LL.off (by kernel_rfl) (by kernel_rfl) ?_
    refine LL.off (by kernel_rfl) (by kernel_rfl) ?_
    refine LL.off (by kernel_rfl) (by kernel_rfl) ?_
    refine LL.off (by kernel_rfl) (by kernel_rfl) ?_
    refine LL.off (by kernel_rfl) (by kernel_rfl) ?_
    refine LL.op (.bool false) (by kernel_rfl) (fun w _ => by kernel_rfl) ?_
    refine LL.op (.bool false) (by kernel_rfl) (fun w _ => by kernel_rfl) ?_
    refine LL.off (by kernel_rfl) (by kernel_rfl) ?_
    refine LL.off (by kernel_rfl) (by kernel_rfl) ?_
    refine LL.off (by kernel_rfl) (by kernel_rfl) ?_
    refine LL.off (by kernel_rfl) (by kernel_rfl) ?_
    refine LL.off (by kernel_rfl) (by kernel_rfl) ?_
    refine LL.off (by kernel_rfl) (by kernel_rfl) ?_
    refine LL.off (by kernel_rfl) (by kernel_rfl) ?_
    refine LL.off (by kernel_rfl) (by kernel_rfl) ?_
    refine LL.op (.bool false) (by kernel_rfl) (fun w _ => by kernel_rfl) ?_
    refine LL.op (.bool false) (by kernel_rfl) (fun w _ => by kernel_rfl) ?_
    refine LL.done (s' := [(2, .bool false)]) [2] (by kernel_rfl) ?_
    refine NN.then ?_
    refine J.ret ?_
    refine NN.fin1 2 (.bool false) (by kernel_rfl) (by kernel_rfl) (.inl rfl) (fun w hi => hi.ret ?_)
    first | (cases H; rfl) | (obtain rfl := Option.some.inj H; rfl) | (simp only [Option.some.injEq, Prod.mk.injEq] at H; obtain ⟨rfl⟩ := H; rfl)

/-! ### sawmillref34_from: function 86 -/
def sawmillref34_from.f (a0 : Int) (a1 : Int) (a2 : Int) : Option (Bool) := if a1 ≤ a0 then (some (decide (a0 ≤ a2))) else (some false)
set_option maxRecDepth 100000 in
theorem sawmillref34_from.calls (a0 : Int) (a1 : Int) (a2 : Int)    (r1 : Bool) (w : World)    (h : sawmillref34_from.f a0 a1 a2 = some r1) :
    Calls Try.prog 86 #[.int .i64 a0, .int .i64 a1, .int .i64 a2] w (Ret w (.bool r1)) := by
  have H := h
  clear h
  unfold sawmillref34_from.f at H
  refine Go.Saw.calls (args := [.int .i64 a0, .int .i64 a1, .int .i64 a2]) Try.func86 rfl Try.ntmps86 (by kernel_rfl) ?_
  refine J.seq ?_
  refine J.plain ?_
  refine LL.op (.bool false) (by kernel_rfl) (fun w _ => by kernel_rfl) ?_
  refine LL.done (s' := [(0, .int .i64 a0), (1, .int .i64 a1), (2, .int .i64 a2), (6, .bool false)]) [0, 1, 2, 6] (by kernel_rfl) ?_
  refine NN.then ?_
  refine J.seq ?_
  refine J.plain ?_
  refine LL.op (.int .i64 a0) (by kernel_rfl) (fun w _ => by kernel_rfl) ?_
  refine LL.op (.int .i64 a1) (by kernel_rfl) (fun w _ => by kernel_rfl) ?_
  refine LL.op (.bool (decide (a1 ≤ a0))) (by kernel_rfl) (fun w _ => by kernel_rfl) ?_
  refine LL.op (.bool (decide (a1 ≤ a0))) (by kernel_rfl) (fun w _ => by kernel_rfl) ?_
  rcases Bool.eq_false_or_eq_true (decide (a1 ≤ a0)) with c422 | c422
  · rw [if_pos (of_decide_eq_true c422)] at H
    refine LL.bool 10 (decide (a1 ≤ a0)) true c422 (by kernel_rfl) ?_
    refine LL.op (.int .i64 a0) (by kernel_rfl) (fun w _ => by kernel_rfl) ?_
    refine LL.op (.int .i64 a2) (by kernel_rfl) (fun w _ => by kernel_rfl) ?_
    refine LL.op (.bool (decide (a0 ≤ a2))) (by kernel_rfl) (fun w _ => by kernel_rfl) ?_
    refine LL.op (.bool (decide (a0 ≤ a2))) (by kernel_rfl) (fun w _ => by kernel_rfl) ?_
    refine LL.op (.bool (decide (a0 ≤ a2))) (by kernel_rfl) (fun w _ => by kernel_rfl) ?_
    refine LL.done (s' := [(6, .bool (decide (a0 ≤ a2)))]) [6] (by kernel_rfl) ?_
    refine NN.then ?_
    refine J.ret ?_
    refine NN.fin1 6 (.bool (decide (a0 ≤ a2))) (by kernel_rfl) (by kernel_rfl) (.inl rfl) (fun w hi => hi.ret ?_)
    first | (cases H; rfl) | (obtain rfl := Option.some.inj H; rfl) | (simp only [Option.some.injEq, Prod.mk.injEq] at H; obtain ⟨rfl⟩ := H; rfl)
  · rw [if_neg (of_decide_eq_false c422)] at H
    refine LL.bool 10 (decide (a1 ≤ a0)) false c422 (by kernel_rfl) ?_
    refine LL.off (by kernel_rfl) (by kernel_rfl) ?_
    refine LL.off (by kernel_rfl) (by kernel_rfl) ?_
    refine LL.off (by kernel_rfl) (by kernel_rfl) ?_
    refine LL.op (.bool false) (by kernel_rfl) (fun w _ => by kernel_rfl) ?_
    refine LL.op (.bool false) (by kernel_rfl) (fun w _ => by kernel_rfl) ?_
    refine LL.done (s' := [(6, .bool false)]) [6] (by kernel_rfl) ?_
    refine NN.then ?_
    refine J.ret ?_
    refine NN.fin1 6 (.bool false) (by kernel_rfl) (by kernel_rfl) (.inl rfl) (fun w hi => hi.ret ?_)
    first | (cases H; rfl) | (obtain rfl := Option.some.inj H; rfl) | (simp only [Option.some.injEq, Prod.mk.injEq] at H; obtain ⟨rfl⟩ := H; rfl)

/-! ### sawmillref34_valid: function 77 -/
def sawmillref34_valid.f (a0_0 : ByteArray) (a0_1 : Int) (a0_2 : Int) (a0_3 : Int) (a0_4 : Int) (a0_5 : Int) (a0_6 : Int) (a0_7 : Int) (a0_8 : Int) (a0_9 : Int) (a0_10 : Int) (a0_11 : Int) (a0_12 : Int) : Option (Bool) := (sawmillref34_from.f a0_1 3000 20000).bind fun x424 => (if x424 = true then ((sawmillref34_from.f a0_2 1 10000).bind fun x426 => (if x426 = true then ((sawmillref34_from.f a0_3 1 a0_2).bind fun x428 => (if x428 = true then ((sawmillref34_from.f a0_5 1 20000).bind fun x430 => (if x430 = true then ((sawmillref34_from.f a0_4 0 a0_5).bind fun x432 => (if x432 = true then ((sawmillref34_from.f a0_6 1 1000000).bind fun x434 => (if x434 = true then ((sawmillref34_from.f a0_7 200 1200).bind fun x436 => (if x436 = true then ((sawmillref34_from.f a0_8 100 400).bind fun x438 => (if x438 = true then ((sawmillref34_from.f a0_9 200 1500).bind fun x440 => (if x440 = true then ((sawmillref34_from.f a0_10 1000 30000).bind fun x442 => (if x442 = true then ((sawmillref34_from.f a0_11 0 1000).bind fun x444 => (if x444 = true then ((sawmillref34_from.f a0_12 0 200).bind fun x446 => (some x446)) else (some false))) else (some false))) else (some false))) else (some false))) else (some false))) else (some false))) else (some false))) else (some false))) else (some false))) else (some false))) else (some false))
set_option maxRecDepth 100000 in
theorem sawmillref34_valid.calls (a0_0 : ByteArray) (a0_1 : Int) (a0_2 : Int) (a0_3 : Int) (a0_4 : Int) (a0_5 : Int) (a0_6 : Int) (a0_7 : Int) (a0_8 : Int) (a0_9 : Int) (a0_10 : Int) (a0_11 : Int) (a0_12 : Int)    (r1 : Bool) (w : World)    (h : sawmillref34_valid.f a0_0 a0_1 a0_2 a0_3 a0_4 a0_5 a0_6 a0_7 a0_8 a0_9 a0_10 a0_11 a0_12 = some r1) :
    Calls Try.prog 77 #[.agg #[.string a0_0, .int .i64 a0_1, .int .i64 a0_2, .int .i64 a0_3, .int .i64 a0_4, .int .i64 a0_5, .int .i64 a0_6, .int .i64 a0_7, .int .i64 a0_8, .int .i64 a0_9, .int .i64 a0_10, .int .i64 a0_11, .int .i64 a0_12]] w (Ret w (.bool r1)) := by
  have H := h
  clear h
  unfold sawmillref34_valid.f at H
  refine Go.Saw.calls (args := [.agg #[.string a0_0, .int .i64 a0_1, .int .i64 a0_2, .int .i64 a0_3, .int .i64 a0_4, .int .i64 a0_5, .int .i64 a0_6, .int .i64 a0_7, .int .i64 a0_8, .int .i64 a0_9, .int .i64 a0_10, .int .i64 a0_11, .int .i64 a0_12]]) Try.func77 rfl Try.ntmps77 (by kernel_rfl) ?_
  refine J.seq ?_
  refine J.plain ?_
  refine LL.box 32 (.tmp 0) [.string a0_0, .int .i64 a0_1, .int .i64 a0_2, .int .i64 a0_3, .int .i64 a0_4, .int .i64 a0_5, .int .i64 a0_6, .int .i64 a0_7, .int .i64 a0_8, .int .i64 a0_9, .int .i64 a0_10, .int .i64 a0_11, .int .i64 a0_12] (by kernel_rfl) rfl (by kernel_rfl) (fun g423 => ?_)
  refine LL.op (.bool false) (by kernel_rfl) (fun w _ => by kernel_rfl) ?_
  refine LL.done (s' := [(1, .pointer (some ⟨g423, 0, none⟩)), (2, .bool false)]) [1, 2] (by kernel_rfl) ?_
  refine NN.then ?_
  refine J.seq ?_
  refine J.seq ?_
  refine J.plain ?_
  refine LL.op (.pointer (some ⟨g423, 1, none⟩)) (by kernel_rfl) (fun w _ => by kernel_rfl) ?_
  refine LL.op (.int .i64 a0_1) (by kernel_rfl) (ld 0 g423 1 rfl (by kernel_rfl) rfl (by kernel_rfl)) ?_
  obtain ⟨x424, hx424, H⟩ := bind_some H
  refine LL.call 86 #[.int .i64 a0_1, .int .i64 3000, .int .i64 20000] (.bool x424) (by kernel_rfl) (fun w => by kernel_rfl) (fun w hw => sawmillref34_from.calls a0_1 3000 20000   _ w   hx424) ?_
  refine LL.op (.bool (!x424)) (by kernel_rfl) (fun w _ => by kernel_rfl) ?_
  refine LL.op (.bool (!x424)) (by kernel_rfl) (fun w _ => by kernel_rfl) ?_
  rcases Bool.eq_false_or_eq_true (x424) with c425 | c425
  · rw [if_pos (c425)] at H
    refine LL.bool 7 (!x424) false (by rw [show (!x424) = !(x424) from rfl, c425]; rfl) (by kernel_rfl) ?_
    refine LL.op (.pointer (some ⟨g423, 2, none⟩)) (by kernel_rfl) (fun w _ => by kernel_rfl) ?_
    refine LL.op (.int .i64 a0_2) (by kernel_rfl) (ld 0 g423 2 rfl (by kernel_rfl) rfl (by kernel_rfl)) ?_
    obtain ⟨x426, hx426, H⟩ := bind_some H
    refine LL.call 86 #[.int .i64 a0_2, .int .i64 1, .int .i64 10000] (.bool x426) (by kernel_rfl) (fun w => by kernel_rfl) (fun w hw => sawmillref34_from.calls a0_2 1 10000   _ w   hx426) ?_
    refine LL.op (.bool (!x426)) (by kernel_rfl) (fun w _ => by kernel_rfl) ?_
    refine LL.op (.bool (!x426)) (by kernel_rfl) (fun w _ => by kernel_rfl) ?_
    refine LL.op (.bool (!x426)) (by kernel_rfl) (fun w _ => by kernel_rfl) ?_
    rcases Bool.eq_false_or_eq_true (x426) with c427 | c427
    · rw [if_pos (c427)] at H
      refine LL.bool 13 (!x426) false (by rw [show (!x426) = !(x426) from rfl, c427]; rfl) (by kernel_rfl) ?_
      refine LL.op (.pointer (some ⟨g423, 3, none⟩)) (by kernel_rfl) (fun w _ => by kernel_rfl) ?_
      refine LL.op (.int .i64 a0_3) (by kernel_rfl) (ld 0 g423 3 rfl (by kernel_rfl) rfl (by kernel_rfl)) ?_
      refine LL.op (.pointer (some ⟨g423, 2, none⟩)) (by kernel_rfl) (fun w _ => by kernel_rfl) ?_
      refine LL.op (.int .i64 a0_2) (by kernel_rfl) (ld 0 g423 2 rfl (by kernel_rfl) rfl (by kernel_rfl)) ?_
      obtain ⟨x428, hx428, H⟩ := bind_some H
      refine LL.call 86 #[.int .i64 a0_3, .int .i64 1, .int .i64 a0_2] (.bool x428) (by kernel_rfl) (fun w => by kernel_rfl) (fun w hw => sawmillref34_from.calls a0_3 1 a0_2   _ w   hx428) ?_
      refine LL.op (.bool (!x428)) (by kernel_rfl) (fun w _ => by kernel_rfl) ?_
      refine LL.op (.bool (!x428)) (by kernel_rfl) (fun w _ => by kernel_rfl) ?_
      refine LL.op (.bool (!x428)) (by kernel_rfl) (fun w _ => by kernel_rfl) ?_
      rcases Bool.eq_false_or_eq_true (x428) with c429 | c429
      · rw [if_pos (c429)] at H
        refine LL.bool 21 (!x428) false (by rw [show (!x428) = !(x428) from rfl, c429]; rfl) (by kernel_rfl) ?_
        refine LL.op (.pointer (some ⟨g423, 5, none⟩)) (by kernel_rfl) (fun w _ => by kernel_rfl) ?_
        refine LL.op (.int .i64 a0_5) (by kernel_rfl) (ld 0 g423 5 rfl (by kernel_rfl) rfl (by kernel_rfl)) ?_
        obtain ⟨x430, hx430, H⟩ := bind_some H
        refine LL.call 86 #[.int .i64 a0_5, .int .i64 1, .int .i64 20000] (.bool x430) (by kernel_rfl) (fun w => by kernel_rfl) (fun w hw => sawmillref34_from.calls a0_5 1 20000   _ w   hx430) ?_
        refine LL.op (.bool (!x430)) (by kernel_rfl) (fun w _ => by kernel_rfl) ?_
        refine LL.op (.bool (!x430)) (by kernel_rfl) (fun w _ => by kernel_rfl) ?_
        refine LL.op (.bool (!x430)) (by kernel_rfl) (fun w _ => by kernel_rfl) ?_
        rcases Bool.eq_false_or_eq_true (x430) with c431 | c431
        · rw [if_pos (c431)] at H
          refine LL.bool 27 (!x430) false (by rw [show (!x430) = !(x430) from rfl, c431]; rfl) (by kernel_rfl) ?_
          refine LL.op (.pointer (some ⟨g423, 4, none⟩)) (by kernel_rfl) (fun w _ => by kernel_rfl) ?_
          refine LL.op (.int .i64 a0_4) (by kernel_rfl) (ld 0 g423 4 rfl (by kernel_rfl) rfl (by kernel_rfl)) ?_
          refine LL.op (.pointer (some ⟨g423, 5, none⟩)) (by kernel_rfl) (fun w _ => by kernel_rfl) ?_
          refine LL.op (.int .i64 a0_5) (by kernel_rfl) (ld 0 g423 5 rfl (by kernel_rfl) rfl (by kernel_rfl)) ?_
          obtain ⟨x432, hx432, H⟩ := bind_some H
          refine LL.call 86 #[.int .i64 a0_4, .int .i64 0, .int .i64 a0_5] (.bool x432) (by kernel_rfl) (fun w => by kernel_rfl) (fun w hw => sawmillref34_from.calls a0_4 0 a0_5   _ w   hx432) ?_
          refine LL.op (.bool (!x432)) (by kernel_rfl) (fun w _ => by kernel_rfl) ?_
          refine LL.op (.bool (!x432)) (by kernel_rfl) (fun w _ => by kernel_rfl) ?_
          refine LL.op (.bool (!x432)) (by kernel_rfl) (fun w _ => by kernel_rfl) ?_
          rcases Bool.eq_false_or_eq_true (x432) with c433 | c433
          · rw [if_pos (c433)] at H
            refine LL.bool 35 (!x432) false (by rw [show (!x432) = !(x432) from rfl, c433]; rfl) (by kernel_rfl) ?_
            refine LL.op (.pointer (some ⟨g423, 6, none⟩)) (by kernel_rfl) (fun w _ => by kernel_rfl) ?_
            refine LL.op (.int .i64 a0_6) (by kernel_rfl) (ld 0 g423 6 rfl (by kernel_rfl) rfl (by kernel_rfl)) ?_
            obtain ⟨x434, hx434, H⟩ := bind_some H
            refine LL.call 86 #[.int .i64 a0_6, .int .i64 1, .int .i64 1000000] (.bool x434) (by kernel_rfl) (fun w => by kernel_rfl) (fun w hw => sawmillref34_from.calls a0_6 1 1000000   _ w   hx434) ?_
            refine LL.op (.bool (!x434)) (by kernel_rfl) (fun w _ => by kernel_rfl) ?_
            refine LL.op (.bool (!x434)) (by kernel_rfl) (fun w _ => by kernel_rfl) ?_
            refine LL.done (s' := [(1, .pointer (some ⟨g423, 0, none⟩)), (2, .bool false), (40, .bool (!x434))]) [1, 2, 40] (by kernel_rfl) ?_
            refine NN.then ?_
            rcases Bool.eq_false_or_eq_true (x434) with c435 | c435
            · rw [if_pos (c435)] at H
              refine J.condF (b := !x434) (by rw [show (!x434) = !(x434) from rfl, c435]; rfl) (by kernel_rfl) (by kernel_rfl) ?_
              refine J.skip ?_
              refine NN.then ?_
              refine J.seq ?_
              refine J.seq ?_
              refine J.plain ?_
              refine LL.op (.pointer (some ⟨g423, 7, none⟩)) (by kernel_rfl) (fun w _ => by kernel_rfl) ?_
              refine LL.op (.int .i64 a0_7) (by kernel_rfl) (ld 0 g423 7 rfl (by kernel_rfl) rfl (by kernel_rfl)) ?_
              obtain ⟨x436, hx436, H⟩ := bind_some H
              refine LL.call 86 #[.int .i64 a0_7, .int .i64 200, .int .i64 1200] (.bool x436) (by kernel_rfl) (fun w => by kernel_rfl) (fun w hw => sawmillref34_from.calls a0_7 200 1200   _ w   hx436) ?_
              refine LL.op (.bool (!x436)) (by kernel_rfl) (fun w _ => by kernel_rfl) ?_
              refine LL.op (.bool (!x436)) (by kernel_rfl) (fun w _ => by kernel_rfl) ?_
              rcases Bool.eq_false_or_eq_true (x436) with c437 | c437
              · rw [if_pos (c437)] at H
                refine LL.bool 45 (!x436) false (by rw [show (!x436) = !(x436) from rfl, c437]; rfl) (by kernel_rfl) ?_
                refine LL.op (.pointer (some ⟨g423, 8, none⟩)) (by kernel_rfl) (fun w _ => by kernel_rfl) ?_
                refine LL.op (.int .i64 a0_8) (by kernel_rfl) (ld 0 g423 8 rfl (by kernel_rfl) rfl (by kernel_rfl)) ?_
                obtain ⟨x438, hx438, H⟩ := bind_some H
                refine LL.call 86 #[.int .i64 a0_8, .int .i64 100, .int .i64 400] (.bool x438) (by kernel_rfl) (fun w => by kernel_rfl) (fun w hw => sawmillref34_from.calls a0_8 100 400   _ w   hx438) ?_
                refine LL.op (.bool (!x438)) (by kernel_rfl) (fun w _ => by kernel_rfl) ?_
                refine LL.op (.bool (!x438)) (by kernel_rfl) (fun w _ => by kernel_rfl) ?_
                refine LL.done (s' := [(1, .pointer (some ⟨g423, 0, none⟩)), (2, .bool false), (50, .bool (!x438))]) [1, 2, 50] (by kernel_rfl) ?_
                refine NN.then ?_
                rcases Bool.eq_false_or_eq_true (x438) with c439 | c439
                · rw [if_pos (c439)] at H
                  refine J.condF (b := !x438) (by rw [show (!x438) = !(x438) from rfl, c439]; rfl) (by kernel_rfl) (by kernel_rfl) ?_
                  refine J.skip ?_
                  refine NN.then ?_
                  refine J.seq ?_
                  refine J.plain ?_
                  refine LL.op (.pointer (some ⟨g423, 9, none⟩)) (by kernel_rfl) (fun w _ => by kernel_rfl) ?_
                  refine LL.op (.int .i64 a0_9) (by kernel_rfl) (ld 0 g423 9 rfl (by kernel_rfl) rfl (by kernel_rfl)) ?_
                  obtain ⟨x440, hx440, H⟩ := bind_some H
                  refine LL.call 86 #[.int .i64 a0_9, .int .i64 200, .int .i64 1500] (.bool x440) (by kernel_rfl) (fun w => by kernel_rfl) (fun w hw => sawmillref34_from.calls a0_9 200 1500   _ w   hx440) ?_
                  refine LL.op (.bool x440) (by kernel_rfl) (fun w _ => by kernel_rfl) ?_
                  rcases Bool.eq_false_or_eq_true (x440) with c441 | c441
                  · rw [if_pos (c441)] at H
                    refine LL.bool 54 (x440) true c441 (by kernel_rfl) ?_
                    refine LL.op (.pointer (some ⟨g423, 10, none⟩)) (by kernel_rfl) (fun w _ => by kernel_rfl) ?_
                    refine LL.op (.int .i64 a0_10) (by kernel_rfl) (ld 0 g423 10 rfl (by kernel_rfl) rfl (by kernel_rfl)) ?_
                    obtain ⟨x442, hx442, H⟩ := bind_some H
                    refine LL.call 86 #[.int .i64 a0_10, .int .i64 1000, .int .i64 30000] (.bool x442) (by kernel_rfl) (fun w => by kernel_rfl) (fun w hw => sawmillref34_from.calls a0_10 1000 30000   _ w   hx442) ?_
                    refine LL.op (.bool x442) (by kernel_rfl) (fun w _ => by kernel_rfl) ?_
                    refine LL.op (.bool x442) (by kernel_rfl) (fun w _ => by kernel_rfl) ?_
                    rcases Bool.eq_false_or_eq_true (x442) with c443 | c443
                    · rw [if_pos (c443)] at H
                      refine LL.bool 59 (x442) true c443 (by kernel_rfl) ?_
                      refine LL.op (.pointer (some ⟨g423, 11, none⟩)) (by kernel_rfl) (fun w _ => by kernel_rfl) ?_
                      refine LL.op (.int .i64 a0_11) (by kernel_rfl) (ld 0 g423 11 rfl (by kernel_rfl) rfl (by kernel_rfl)) ?_
                      obtain ⟨x444, hx444, H⟩ := bind_some H
                      refine LL.call 86 #[.int .i64 a0_11, .int .i64 0, .int .i64 1000] (.bool x444) (by kernel_rfl) (fun w => by kernel_rfl) (fun w hw => sawmillref34_from.calls a0_11 0 1000   _ w   hx444) ?_
                      refine LL.op (.bool x444) (by kernel_rfl) (fun w _ => by kernel_rfl) ?_
                      refine LL.op (.bool x444) (by kernel_rfl) (fun w _ => by kernel_rfl) ?_
                      rcases Bool.eq_false_or_eq_true (x444) with c445 | c445
                      · rw [if_pos (c445)] at H
                        refine LL.bool 64 (x444) true c445 (by kernel_rfl) ?_
                        refine LL.op (.pointer (some ⟨g423, 12, none⟩)) (by kernel_rfl) (fun w _ => by kernel_rfl) ?_
                        refine LL.op (.int .i64 a0_12) (by kernel_rfl) (ld 0 g423 12 rfl (by kernel_rfl) rfl (by kernel_rfl)) ?_
                        obtain ⟨x446, hx446, H⟩ := bind_some H
                        refine LL.call 86 #[.int .i64 a0_12, .int .i64 0, .int .i64 200] (.bool x446) (by kernel_rfl) (fun w => by kernel_rfl) (fun w hw => sawmillref34_from.calls a0_12 0 200   _ w   hx446) ?_
                        refine LL.op (.bool x446) (by kernel_rfl) (fun w _ => by kernel_rfl) ?_
                        refine LL.op (.bool x446) (by kernel_rfl) (fun w _ => by kernel_rfl) ?_
                        refine LL.done (s' := [(2, .bool x446)]) [2] (by kernel_rfl) ?_
                        refine NN.then ?_
                        refine J.ret ?_
                        refine NN.fin1 2 (.bool x446) (by kernel_rfl) (by kernel_rfl) (.inl rfl) (fun w hi => hi.ret ?_)
                        first | (cases H; rfl) | (obtain rfl := Option.some.inj H; rfl) | (simp only [Option.some.injEq, Prod.mk.injEq] at H; obtain ⟨rfl⟩ := H; rfl)
                      · rw [if_neg (nebt c445)] at H
                        refine LL.bool 64 (x444) false c445 (by kernel_rfl) ?_
                        refine LL.off (by kernel_rfl) (by kernel_rfl) ?_
                        refine LL.off (by kernel_rfl) (by kernel_rfl) ?_
                        refine LL.off (by kernel_rfl) (by kernel_rfl) ?_
                        refine LL.op (.bool false) (by kernel_rfl) (fun w _ => by kernel_rfl) ?_
                        refine LL.op (.bool false) (by kernel_rfl) (fun w _ => by kernel_rfl) ?_
                        refine LL.done (s' := [(2, .bool false)]) [2] (by kernel_rfl) ?_
                        refine NN.then ?_
                        refine J.ret ?_
                        refine NN.fin1 2 (.bool false) (by kernel_rfl) (by kernel_rfl) (.inl rfl) (fun w hi => hi.ret ?_)
                        first | (cases H; rfl) | (obtain rfl := Option.some.inj H; rfl) | (simp only [Option.some.injEq, Prod.mk.injEq] at H; obtain ⟨rfl⟩ := H; rfl)
                    · rw [if_neg (nebt c443)] at H
                      refine LL.bool 59 (x442) false c443 (by kernel_rfl) ?_
                      refine LL.off (by kernel_rfl) (by kernel_rfl) ?_
                      refine LL.off (by kernel_rfl) (by kernel_rfl) ?_
                      refine LL.off (by kernel_rfl) (by kernel_rfl) ?_
                      refine LL.op (.bool false) (by kernel_rfl) (fun w _ => by kernel_rfl) ?_
                      refine LL.op (.bool false) (by kernel_rfl) (fun w _ => by kernel_rfl) ?_
                      refine LL.off (by kernel_rfl) (by kernel_rfl) ?_
                      refine LL.off (by kernel_rfl) (by kernel_rfl) ?_
                      refine LL.off (by kernel_rfl) (by kernel_rfl) ?_
                      refine LL.op (.bool false) (by kernel_rfl) (fun w _ => by kernel_rfl) ?_
                      refine LL.op (.bool false) (by kernel_rfl) (fun w _ => by kernel_rfl) ?_
                      refine LL.done (s' := [(2, .bool false)]) [2] (by kernel_rfl) ?_
                      refine NN.then ?_
                      refine J.ret ?_
                      refine NN.fin1 2 (.bool false) (by kernel_rfl) (by kernel_rfl) (.inl rfl) (fun w hi => hi.ret ?_)
                      first | (cases H; rfl) | (obtain rfl := Option.some.inj H; rfl) | (simp only [Option.some.injEq, Prod.mk.injEq] at H; obtain ⟨rfl⟩ := H; rfl)
                  · rw [if_neg (nebt c441)] at H
                    refine LL.bool 54 (x440) false c441 (by kernel_rfl) ?_
                    refine LL.off (by kernel_rfl) (by kernel_rfl) ?_
                    refine LL.off (by kernel_rfl) (by kernel_rfl) ?_
                    refine LL.off (by kernel_rfl) (by kernel_rfl) ?_
                    refine LL.op (.bool false) (by kernel_rfl) (fun w _ => by kernel_rfl) ?_
                    refine LL.op (.bool false) (by kernel_rfl) (fun w _ => by kernel_rfl) ?_
                    refine LL.off (by kernel_rfl) (by kernel_rfl) ?_
                    refine LL.off (by kernel_rfl) (by kernel_rfl) ?_
                    refine LL.off (by kernel_rfl) (by kernel_rfl) ?_
                    refine LL.op (.bool false) (by kernel_rfl) (fun w _ => by kernel_rfl) ?_
                    refine LL.op (.bool false) (by kernel_rfl) (fun w _ => by kernel_rfl) ?_
                    refine LL.off (by kernel_rfl) (by kernel_rfl) ?_
                    refine LL.off (by kernel_rfl) (by kernel_rfl) ?_
                    refine LL.off (by kernel_rfl) (by kernel_rfl) ?_
                    refine LL.op (.bool false) (by kernel_rfl) (fun w _ => by kernel_rfl) ?_
                    refine LL.op (.bool false) (by kernel_rfl) (fun w _ => by kernel_rfl) ?_
                    refine LL.done (s' := [(2, .bool false)]) [2] (by kernel_rfl) ?_
                    refine NN.then ?_
                    refine J.ret ?_
                    refine NN.fin1 2 (.bool false) (by kernel_rfl) (by kernel_rfl) (.inl rfl) (fun w hi => hi.ret ?_)
                    first | (cases H; rfl) | (obtain rfl := Option.some.inj H; rfl) | (simp only [Option.some.injEq, Prod.mk.injEq] at H; obtain ⟨rfl⟩ := H; rfl)
                · rw [if_neg (nebt c439)] at H
                  refine J.condT (b := !x438) (by rw [show (!x438) = !(x438) from rfl, c439]; rfl) (by kernel_rfl) (by kernel_rfl) ?_
                  refine J.seq ?_
                  refine J.plain ?_
                  refine LL.op (.bool false) (by kernel_rfl) (fun w _ => by kernel_rfl) ?_
                  refine LL.done (s' := [(1, .pointer (some ⟨g423, 0, none⟩)), (2, .bool false)]) [1, 2] (by kernel_rfl) ?_
                  refine NN.then ?_
                  refine J.ret ?_
                  refine NN.then_ret ?_
                  refine NN.fin1 2 (.bool false) (by kernel_rfl) (by kernel_rfl) (.inl rfl) (fun w hi => hi.ret ?_)
                  first | (cases H; rfl) | (obtain rfl := Option.some.inj H; rfl) | (simp only [Option.some.injEq, Prod.mk.injEq] at H; obtain ⟨rfl⟩ := H; rfl)
              · rw [if_neg (nebt c437)] at H
                refine LL.bool 45 (!x436) true (by rw [show (!x436) = !(x436) from rfl, c437]; rfl) (by kernel_rfl) ?_
                refine LL.off (by kernel_rfl) (by kernel_rfl) ?_
                refine LL.off (by kernel_rfl) (by kernel_rfl) ?_
                refine LL.off (by kernel_rfl) (by kernel_rfl) ?_
                refine LL.off (by kernel_rfl) (by kernel_rfl) ?_
                refine LL.op (.bool true) (by kernel_rfl) (fun w _ => by kernel_rfl) ?_
                refine LL.done (s' := [(1, .pointer (some ⟨g423, 0, none⟩)), (2, .bool false), (50, .bool true)]) [1, 2, 50] (by kernel_rfl) ?_
                refine NN.then ?_
                refine J.condT (b := true) rfl (by kernel_rfl) (by kernel_rfl) ?_
                refine J.seq ?_
                refine J.plain ?_
                refine LL.op (.bool false) (by kernel_rfl) (fun w _ => by kernel_rfl) ?_
                refine LL.done (s' := [(1, .pointer (some ⟨g423, 0, none⟩)), (2, .bool false)]) [1, 2] (by kernel_rfl) ?_
                refine NN.then ?_
                refine J.ret ?_
                refine NN.then_ret ?_
                refine NN.fin1 2 (.bool false) (by kernel_rfl) (by kernel_rfl) (.inl rfl) (fun w hi => hi.ret ?_)
                first | (cases H; rfl) | (obtain rfl := Option.some.inj H; rfl) | (simp only [Option.some.injEq, Prod.mk.injEq] at H; obtain ⟨rfl⟩ := H; rfl)
            · rw [if_neg (nebt c435)] at H
              refine J.condT (b := !x434) (by rw [show (!x434) = !(x434) from rfl, c435]; rfl) (by kernel_rfl) (by kernel_rfl) ?_
              refine J.seq ?_
              refine J.plain ?_
              refine LL.op (.bool false) (by kernel_rfl) (fun w _ => by kernel_rfl) ?_
              refine LL.done (s' := [(1, .pointer (some ⟨g423, 0, none⟩)), (2, .bool false)]) [1, 2] (by kernel_rfl) ?_
              refine NN.then ?_
              refine J.ret ?_
              refine NN.then_ret ?_
              refine NN.fin1 2 (.bool false) (by kernel_rfl) (by kernel_rfl) (.inl rfl) (fun w hi => hi.ret ?_)
              first | (cases H; rfl) | (obtain rfl := Option.some.inj H; rfl) | (simp only [Option.some.injEq, Prod.mk.injEq] at H; obtain ⟨rfl⟩ := H; rfl)
          · rw [if_neg (nebt c433)] at H
            refine LL.bool 35 (!x432) true (by rw [show (!x432) = !(x432) from rfl, c433]; rfl) (by kernel_rfl) ?_
            refine LL.off (by kernel_rfl) (by kernel_rfl) ?_
            refine LL.off (by kernel_rfl) (by kernel_rfl) ?_
            refine LL.off (by kernel_rfl) (by kernel_rfl) ?_
            refine LL.off (by kernel_rfl) (by kernel_rfl) ?_
            refine LL.op (.bool true) (by kernel_rfl) (fun w _ => by kernel_rfl) ?_
            refine LL.done (s' := [(1, .pointer (some ⟨g423, 0, none⟩)), (2, .bool false), (40, .bool true)]) [1, 2, 40] (by kernel_rfl) ?_
            refine NN.then ?_
            refine J.condT (b := true) rfl (by kernel_rfl) (by kernel_rfl) ?_
            refine J.seq ?_
            refine J.plain ?_
            refine LL.op (.bool false) (by kernel_rfl) (fun w _ => by kernel_rfl) ?_
            refine LL.done (s' := [(1, .pointer (some ⟨g423, 0, none⟩)), (2, .bool false)]) [1, 2] (by kernel_rfl) ?_
            refine NN.then ?_
            refine J.ret ?_
            refine NN.then_ret ?_
            refine NN.fin1 2 (.bool false) (by kernel_rfl) (by kernel_rfl) (.inl rfl) (fun w hi => hi.ret ?_)
            first | (cases H; rfl) | (obtain rfl := Option.some.inj H; rfl) | (simp only [Option.some.injEq, Prod.mk.injEq] at H; obtain ⟨rfl⟩ := H; rfl)
        · rw [if_neg (nebt c431)] at H
          refine LL.bool 27 (!x430) true (by rw [show (!x430) = !(x430) from rfl, c431]; rfl) (by kernel_rfl) ?_
          refine LL.off (by kernel_rfl) (by kernel_rfl) ?_
          refine LL.off (by kernel_rfl) (by kernel_rfl) ?_
          refine LL.off (by kernel_rfl) (by kernel_rfl) ?_
          refine LL.off (by kernel_rfl) (by kernel_rfl) ?_
          refine LL.off (by kernel_rfl) (by kernel_rfl) ?_
          refine LL.off (by kernel_rfl) (by kernel_rfl) ?_
          refine LL.op (.bool true) (by kernel_rfl) (fun w _ => by kernel_rfl) ?_
          refine LL.op (.bool true) (by kernel_rfl) (fun w _ => by kernel_rfl) ?_
          refine LL.off (by kernel_rfl) (by kernel_rfl) ?_
          refine LL.off (by kernel_rfl) (by kernel_rfl) ?_
          refine LL.off (by kernel_rfl) (by kernel_rfl) ?_
          refine LL.off (by kernel_rfl) (by kernel_rfl) ?_
          refine LL.op (.bool true) (by kernel_rfl) (fun w _ => by kernel_rfl) ?_
          refine LL.done (s' := [(1, .pointer (some ⟨g423, 0, none⟩)), (2, .bool false), (40, .bool true)]) [1, 2, 40] (by kernel_rfl) ?_
          refine NN.then ?_
          refine J.condT (b := true) rfl (by kernel_rfl) (by kernel_rfl) ?_
          refine J.seq ?_
          refine J.plain ?_
          refine LL.op (.bool false) (by kernel_rfl) (fun w _ => by kernel_rfl) ?_
          refine LL.done (s' := [(1, .pointer (some ⟨g423, 0, none⟩)), (2, .bool false)]) [1, 2] (by kernel_rfl) ?_
          refine NN.then ?_
          refine J.ret ?_
          refine NN.then_ret ?_
          refine NN.fin1 2 (.bool false) (by kernel_rfl) (by kernel_rfl) (.inl rfl) (fun w hi => hi.ret ?_)
          first | (cases H; rfl) | (obtain rfl := Option.some.inj H; rfl) | (simp only [Option.some.injEq, Prod.mk.injEq] at H; obtain ⟨rfl⟩ := H; rfl)
      · rw [if_neg (nebt c429)] at H
        refine LL.bool 21 (!x428) true (by rw [show (!x428) = !(x428) from rfl, c429]; rfl) (by kernel_rfl) ?_
        refine LL.off (by kernel_rfl) (by kernel_rfl) ?_
        refine LL.off (by kernel_rfl) (by kernel_rfl) ?_
        refine LL.off (by kernel_rfl) (by kernel_rfl) ?_
        refine LL.off (by kernel_rfl) (by kernel_rfl) ?_
        refine LL.op (.bool true) (by kernel_rfl) (fun w _ => by kernel_rfl) ?_
        refine LL.op (.bool true) (by kernel_rfl) (fun w _ => by kernel_rfl) ?_
        refine LL.off (by kernel_rfl) (by kernel_rfl) ?_
        refine LL.off (by kernel_rfl) (by kernel_rfl) ?_
        refine LL.off (by kernel_rfl) (by kernel_rfl) ?_
        refine LL.off (by kernel_rfl) (by kernel_rfl) ?_
        refine LL.off (by kernel_rfl) (by kernel_rfl) ?_
        refine LL.off (by kernel_rfl) (by kernel_rfl) ?_
        refine LL.op (.bool true) (by kernel_rfl) (fun w _ => by kernel_rfl) ?_
        refine LL.op (.bool true) (by kernel_rfl) (fun w _ => by kernel_rfl) ?_
        refine LL.off (by kernel_rfl) (by kernel_rfl) ?_
        refine LL.off (by kernel_rfl) (by kernel_rfl) ?_
        refine LL.off (by kernel_rfl) (by kernel_rfl) ?_
        refine LL.off (by kernel_rfl) (by kernel_rfl) ?_
        refine LL.op (.bool true) (by kernel_rfl) (fun w _ => by kernel_rfl) ?_
        refine LL.done (s' := [(1, .pointer (some ⟨g423, 0, none⟩)), (2, .bool false), (40, .bool true)]) [1, 2, 40] (by kernel_rfl) ?_
        refine NN.then ?_
        refine J.condT (b := true) rfl (by kernel_rfl) (by kernel_rfl) ?_
        refine J.seq ?_
        refine J.plain ?_
        refine LL.op (.bool false) (by kernel_rfl) (fun w _ => by kernel_rfl) ?_
        refine LL.done (s' := [(1, .pointer (some ⟨g423, 0, none⟩)), (2, .bool false)]) [1, 2] (by kernel_rfl) ?_
        refine NN.then ?_
        refine J.ret ?_
        refine NN.then_ret ?_
        refine NN.fin1 2 (.bool false) (by kernel_rfl) (by kernel_rfl) (.inl rfl) (fun w hi => hi.ret ?_)
        first | (cases H; rfl) | (obtain rfl := Option.some.inj H; rfl) | (simp only [Option.some.injEq, Prod.mk.injEq] at H; obtain ⟨rfl⟩ := H; rfl)
    · rw [if_neg (nebt c427)] at H
      refine LL.bool 13 (!x426) true (by rw [show (!x426) = !(x426) from rfl, c427]; rfl) (by kernel_rfl) ?_
      refine LL.off (by kernel_rfl) (by kernel_rfl) ?_
      refine LL.off (by kernel_rfl) (by kernel_rfl) ?_
      refine LL.off (by kernel_rfl) (by kernel_rfl) ?_
      refine LL.off (by kernel_rfl) (by kernel_rfl) ?_
      refine LL.off (by kernel_rfl) (by kernel_rfl) ?_
      refine LL.off (by kernel_rfl) (by kernel_rfl) ?_
      refine LL.op (.bool true) (by kernel_rfl) (fun w _ => by kernel_rfl) ?_
      refine LL.op (.bool true) (by kernel_rfl) (fun w _ => by kernel_rfl) ?_
      refine LL.off (by kernel_rfl) (by kernel_rfl) ?_
      refine LL.off (by kernel_rfl) (by kernel_rfl) ?_
      refine LL.off (by kernel_rfl) (by kernel_rfl) ?_
      refine LL.off (by kernel_rfl) (by kernel_rfl) ?_
      refine LL.op (.bool true) (by kernel_rfl) (fun w _ => by kernel_rfl) ?_
      refine LL.op (.bool true) (by kernel_rfl) (fun w _ => by kernel_rfl) ?_
      refine LL.off (by kernel_rfl) (by kernel_rfl) ?_
      refine LL.off (by kernel_rfl) (by kernel_rfl) ?_
      refine LL.off (by kernel_rfl) (by kernel_rfl) ?_
      refine LL.off (by kernel_rfl) (by kernel_rfl) ?_
      refine LL.off (by kernel_rfl) (by kernel_rfl) ?_
      refine LL.off (by kernel_rfl) (by kernel_rfl) ?_
      refine LL.op (.bool true) (by kernel_rfl) (fun w _ => by kernel_rfl) ?_
      refine LL.op (.bool true) (by kernel_rfl) (fun w _ => by kernel_rfl) ?_
      refine LL.off (by kernel_rfl) (by kernel_rfl) ?_
      refine LL.off (by kernel_rfl) (by kernel_rfl) ?_
      refine LL.off (by kernel_rfl) (by kernel_rfl) ?_
      refine LL.off (by kernel_rfl) (by kernel_rfl) ?_
      refine LL.op (.bool true) (by kernel_rfl) (fun w _ => by kernel_rfl) ?_
      refine LL.done (s' := [(1, .pointer (some ⟨g423, 0, none⟩)), (2, .bool false), (40, .bool true)]) [1, 2, 40] (by kernel_rfl) ?_
      refine NN.then ?_
      refine J.condT (b := true) rfl (by kernel_rfl) (by kernel_rfl) ?_
      refine J.seq ?_
      refine J.plain ?_
      refine LL.op (.bool false) (by kernel_rfl) (fun w _ => by kernel_rfl) ?_
      refine LL.done (s' := [(1, .pointer (some ⟨g423, 0, none⟩)), (2, .bool false)]) [1, 2] (by kernel_rfl) ?_
      refine NN.then ?_
      refine J.ret ?_
      refine NN.then_ret ?_
      refine NN.fin1 2 (.bool false) (by kernel_rfl) (by kernel_rfl) (.inl rfl) (fun w hi => hi.ret ?_)
      first | (cases H; rfl) | (obtain rfl := Option.some.inj H; rfl) | (simp only [Option.some.injEq, Prod.mk.injEq] at H; obtain ⟨rfl⟩ := H; rfl)
  · rw [if_neg (nebt c425)] at H
    refine LL.bool 7 (!x424) true (by rw [show (!x424) = !(x424) from rfl, c425]; rfl) (by kernel_rfl) ?_
    refine LL.off (by kernel_rfl) (by kernel_rfl) ?_
    refine LL.off (by kernel_rfl) (by kernel_rfl) ?_
    refine LL.off (by kernel_rfl) (by kernel_rfl) ?_
    refine LL.off (by kernel_rfl) (by kernel_rfl) ?_
    refine LL.op (.bool true) (by kernel_rfl) (fun w _ => by kernel_rfl) ?_
    refine LL.op (.bool true) (by kernel_rfl) (fun w _ => by kernel_rfl) ?_
    refine LL.off (by kernel_rfl) (by kernel_rfl) ?_
    refine LL.off (by kernel_rfl) (by kernel_rfl) ?_
    refine LL.off (by kernel_rfl) (by kernel_rfl) ?_
    refine LL.off (by kernel_rfl) (by kernel_rfl) ?_
    refine LL.off (by kernel_rfl) (by kernel_rfl) ?_
    refine LL.off (by kernel_rfl) (by kernel_rfl) ?_
    refine LL.op (.bool true) (by kernel_rfl) (fun w _ => by kernel_rfl) ?_
    refine LL.op (.bool true) (by kernel_rfl) (fun w _ => by kernel_rfl) ?_
    refine LL.off (by kernel_rfl) (by kernel_rfl) ?_
    refine LL.off (by kernel_rfl) (by kernel_rfl) ?_
    refine LL.off (by kernel_rfl) (by kernel_rfl) ?_
    refine LL.off (by kernel_rfl) (by kernel_rfl) ?_
    refine LL.op (.bool true) (by kernel_rfl) (fun w _ => by kernel_rfl) ?_
    refine LL.op (.bool true) (by kernel_rfl) (fun w _ => by kernel_rfl) ?_
    refine LL.off (by kernel_rfl) (by kernel_rfl) ?_
    refine LL.off (by kernel_rfl) (by kernel_rfl) ?_
    refine LL.off (by kernel_rfl) (by kernel_rfl) ?_
    refine LL.off (by kernel_rfl) (by kernel_rfl) ?_
    refine LL.off (by kernel_rfl) (by kernel_rfl) ?_
    refine LL.off (by kernel_rfl) (by kernel_rfl) ?_
    refine LL.op (.bool true) (by kernel_rfl) (fun w _ => by kernel_rfl) ?_
    refine LL.op (.bool true) (by kernel_rfl) (fun w _ => by kernel_rfl) ?_
    refine LL.off (by kernel_rfl) (by kernel_rfl) ?_
    refine LL.off (by kernel_rfl) (by kernel_rfl) ?_
    refine LL.off (by kernel_rfl) (by kernel_rfl) ?_
    refine LL.off (by kernel_rfl) (by kernel_rfl) ?_
    refine LL.op (.bool true) (by kernel_rfl) (fun w _ => by kernel_rfl) ?_
    refine LL.done (s' := [(1, .pointer (some ⟨g423, 0, none⟩)), (2, .bool false), (40, .bool true)]) [1, 2, 40] (by kernel_rfl) ?_
    refine NN.then ?_
    refine J.condT (b := true) rfl (by kernel_rfl) (by kernel_rfl) ?_
    refine J.seq ?_
    refine J.plain ?_
    refine LL.op (.bool false) (by kernel_rfl) (fun w _ => by kernel_rfl) ?_
    refine LL.done (s' := [(1, .pointer (some ⟨g423, 0, none⟩)), (2, .bool false)]) [1, 2] (by kernel_rfl) ?_
    refine NN.then ?_
    refine J.ret ?_
    refine NN.then_ret ?_
    refine NN.fin1 2 (.bool false) (by kernel_rfl) (by kernel_rfl) (.inl rfl) (fun w hi => hi.ret ?_)
    first | (cases H; rfl) | (obtain rfl := Option.some.inj H; rfl) | (simp only [Option.some.injEq, Prod.mk.injEq] at H; obtain ⟨rfl⟩ := H; rfl)

/-! ### sawmillref02_digit: function 85 -/
def sawmillref02_digit.f (a0 : Int) : Option (Bool) := if 48 ≤ a0 then (some (decide (a0 ≤ 57))) else (some false)
set_option maxRecDepth 100000 in
theorem sawmillref02_digit.calls (a0 : Int)    (r1 : Bool) (w : World)    (h : sawmillref02_digit.f a0 = some r1) :
    Calls Try.prog 85 #[.int .u8 a0] w (Ret w (.bool r1)) := by
  have H := h
  clear h
  unfold sawmillref02_digit.f at H
  refine Go.Saw.calls (args := [.int .u8 a0]) Try.func85 rfl Try.ntmps85 (by kernel_rfl) ?_
  refine J.seq ?_
  refine J.plain ?_
  refine LL.op (.bool false) (by kernel_rfl) (fun w _ => by kernel_rfl) ?_
  refine LL.done (s' := [(0, .int .u8 a0), (2, .bool false)]) [0, 2] (by kernel_rfl) ?_
  refine NN.then ?_
  refine J.seq ?_
  refine J.plain ?_
  refine LL.op (.int .u8 a0) (by kernel_rfl) (fun w _ => by kernel_rfl) ?_
  refine LL.op (.bool (decide (48 ≤ a0))) (by kernel_rfl) (fun w _ => by kernel_rfl) ?_
  refine LL.op (.bool (decide (48 ≤ a0))) (by kernel_rfl) (fun w _ => by kernel_rfl) ?_
  rcases Bool.eq_false_or_eq_true (decide (48 ≤ a0)) with c447 | c447
  · rw [if_pos (of_decide_eq_true c447)] at H
    refine LL.bool 5 (decide (48 ≤ a0)) true c447 (by kernel_rfl) ?_
    refine LL.op (.int .u8 a0) (by kernel_rfl) (fun w _ => by kernel_rfl) ?_
    refine LL.op (.bool (decide (a0 ≤ 57))) (by kernel_rfl) (fun w _ => by kernel_rfl) ?_
    refine LL.op (.bool (decide (a0 ≤ 57))) (by kernel_rfl) (fun w _ => by kernel_rfl) ?_
    refine LL.op (.bool (decide (a0 ≤ 57))) (by kernel_rfl) (fun w _ => by kernel_rfl) ?_
    refine LL.done (s' := [(2, .bool (decide (a0 ≤ 57)))]) [2] (by kernel_rfl) ?_
    refine NN.then ?_
    refine J.ret ?_
    refine NN.fin1 2 (.bool (decide (a0 ≤ 57))) (by kernel_rfl) (by kernel_rfl) (.inl rfl) (fun w hi => hi.ret ?_)
    first | (cases H; rfl) | (obtain rfl := Option.some.inj H; rfl) | (simp only [Option.some.injEq, Prod.mk.injEq] at H; obtain ⟨rfl⟩ := H; rfl)
  · rw [if_neg (of_decide_eq_false c447)] at H
    refine LL.bool 5 (decide (48 ≤ a0)) false c447 (by kernel_rfl) ?_
    refine LL.off (by kernel_rfl) (by kernel_rfl) ?_
    refine LL.off (by kernel_rfl) (by kernel_rfl) ?_
    refine LL.op (.bool false) (by kernel_rfl) (fun w _ => by kernel_rfl) ?_
    refine LL.op (.bool false) (by kernel_rfl) (fun w _ => by kernel_rfl) ?_
    refine LL.done (s' := [(2, .bool false)]) [2] (by kernel_rfl) ?_
    refine NN.then ?_
    refine J.ret ?_
    refine NN.fin1 2 (.bool false) (by kernel_rfl) (by kernel_rfl) (.inl rfl) (fun w hi => hi.ret ?_)
    first | (cases H; rfl) | (obtain rfl := Option.some.inj H; rfl) | (simp only [Option.some.injEq, Prod.mk.injEq] at H; obtain ⟨rfl⟩ := H; rfl)

/-! ### sawmillref02_IsName: function 76 -/
def sawmillref02_IsName.l0 (K : Nat) (a0 : ByteArray) : Nat → Int → Option (Bool)
  | 0, _ => none
  | k + 1, x3l0 => if x3l0 < (a0.size : Int) then ((sidx a0 x3l0).bind fun e452 => (if 97 ≤ e452 then (if e452 ≤ 122 then (sawmillref02_IsName.l0 K a0 k (IntKind.i64.wrap (x3l0 + 1))) else (if x3l0 = 0 then (some false) else (if e452 = 95 then (sawmillref02_IsName.l0 K a0 k (IntKind.i64.wrap (x3l0 + 1))) else ((sawmillref02_digit.f e452).bind fun x457 => (if x457 = true then (sawmillref02_IsName.l0 K a0 k (IntKind.i64.wrap (x3l0 + 1))) else (some false)))))) else (if x3l0 = 0 then (some false) else (if e452 = 95 then (sawmillref02_IsName.l0 K a0 k (IntKind.i64.wrap (x3l0 + 1))) else ((sawmillref02_digit.f e452).bind fun x461 => (if x461 = true then (sawmillref02_IsName.l0 K a0 k (IntKind.i64.wrap (x3l0 + 1))) else (some false))))))) else (some true)
def sawmillref02_IsName.f (K : Nat) (a0 : ByteArray) : Option (Bool) := if (a0.size : Int) < 1 then (some false) else (if 16 < (a0.size : Int) then (some false) else (sawmillref02_IsName.l0 K a0 K 0))
set_option maxRecDepth 100000 in
theorem sawmillref02_IsName.calls (K : Nat) (a0 : ByteArray)    (r1 : Bool) (w : World)    (h : sawmillref02_IsName.f K a0 = some r1) :
    Calls Try.prog 76 #[.string a0] w (Ret w (.bool r1)) := by
  have H := h
  clear h
  unfold sawmillref02_IsName.f at H
  refine Go.Saw.calls (args := [.string a0]) Try.func76 rfl Try.ntmps76 (by kernel_rfl) ?_
  refine J.seq ?_
  refine J.plain ?_
  refine LL.op (.bool false) (by kernel_rfl) (fun w _ => by kernel_rfl) ?_
  refine LL.done (s' := [(0, .string a0), (2, .bool false)]) [0, 2] (by kernel_rfl) ?_
  refine NN.then ?_
  refine J.seq ?_
  refine J.seq ?_
  refine J.plain ?_
  refine LL.op (.string a0) (by kernel_rfl) (fun w _ => by kernel_rfl) ?_
  refine LL.op (.int .i64 (a0.size : Int)) (by kernel_rfl) (fun w _ => by kernel_rfl) ?_
  refine LL.op (.bool (decide ((a0.size : Int) < 1))) (by kernel_rfl) (fun w _ => by kernel_rfl) ?_
  refine LL.op (.bool (decide ((a0.size : Int) < 1))) (by kernel_rfl) (fun w _ => by kernel_rfl) ?_
  rcases Bool.eq_false_or_eq_true (decide ((a0.size : Int) < 1)) with c448 | c448
  · rw [if_pos (of_decide_eq_true c448)] at H
    refine LL.bool 8 (decide ((a0.size : Int) < 1)) true c448 (by kernel_rfl) ?_
    refine LL.off (by kernel_rfl) (by kernel_rfl) ?_
    refine LL.off (by kernel_rfl) (by kernel_rfl) ?_
    refine LL.off (by kernel_rfl) (by kernel_rfl) ?_
    refine LL.op (.bool true) (by kernel_rfl) (fun w _ => by kernel_rfl) ?_
    refine LL.done (s' := [(0, .string a0), (2, .bool false), (12, .bool true)]) [0, 2, 12] (by kernel_rfl) ?_
    refine NN.then ?_
    refine J.condT (b := true) rfl (by kernel_rfl) (by kernel_rfl) ?_
    refine J.seq ?_
    refine J.plain ?_
    refine LL.op (.bool false) (by kernel_rfl) (fun w _ => by kernel_rfl) ?_
    refine LL.done (s' := [(0, .string a0), (2, .bool false)]) [0, 2] (by kernel_rfl) ?_
    refine NN.then ?_
    refine J.ret ?_
    refine NN.then_ret ?_
    refine NN.fin1 2 (.bool false) (by kernel_rfl) (by kernel_rfl) (.inl rfl) (fun w hi => hi.ret ?_)
    first | (cases H; rfl) | (obtain rfl := Option.some.inj H; rfl) | (simp only [Option.some.injEq, Prod.mk.injEq] at H; obtain ⟨rfl⟩ := H; rfl)
  · rw [if_neg (of_decide_eq_false c448)] at H
    refine LL.bool 8 (decide ((a0.size : Int) < 1)) false c448 (by kernel_rfl) ?_
    refine LL.op (.string a0) (by kernel_rfl) (fun w _ => by kernel_rfl) ?_
    refine LL.op (.int .i64 (a0.size : Int)) (by kernel_rfl) (fun w _ => by kernel_rfl) ?_
    refine LL.op (.bool (decide (16 < (a0.size : Int)))) (by kernel_rfl) (fun w _ => by kernel_rfl) ?_
    refine LL.op (.bool (decide (16 < (a0.size : Int)))) (by kernel_rfl) (fun w _ => by kernel_rfl) ?_
    refine LL.done (s' := [(0, .string a0), (2, .bool false), (12, .bool (decide (16 < (a0.size : Int))))]) [0, 2, 12] (by kernel_rfl) ?_
    refine NN.then ?_
    rcases Bool.eq_false_or_eq_true (decide (16 < (a0.size : Int))) with c449 | c449
    · rw [if_pos (of_decide_eq_true c449)] at H
      refine J.condT (b := decide (16 < (a0.size : Int))) c449 (by kernel_rfl) (by kernel_rfl) ?_
      refine J.seq ?_
      refine J.plain ?_
      refine LL.op (.bool false) (by kernel_rfl) (fun w _ => by kernel_rfl) ?_
      refine LL.done (s' := [(0, .string a0), (2, .bool false)]) [0, 2] (by kernel_rfl) ?_
      refine NN.then ?_
      refine J.ret ?_
      refine NN.then_ret ?_
      refine NN.fin1 2 (.bool false) (by kernel_rfl) (by kernel_rfl) (.inl rfl) (fun w hi => hi.ret ?_)
      first | (cases H; rfl) | (obtain rfl := Option.some.inj H; rfl) | (simp only [Option.some.injEq, Prod.mk.injEq] at H; obtain ⟨rfl⟩ := H; rfl)
    · rw [if_neg (of_decide_eq_false c449)] at H
      refine J.condF (b := decide (16 < (a0.size : Int))) c449 (by kernel_rfl) (by kernel_rfl) ?_
      refine J.skip ?_
      refine NN.then ?_
      refine J.seq ?_
      refine J.seq ?_
      refine J.plain ?_
      refine LL.op (.int .i64 0) (by kernel_rfl) (fun w _ => by kernel_rfl) ?_
      refine LL.done (s' := [(0, .string a0), (2, .bool false), (3, .int .i64 0)]) [0, 2, 3] (by kernel_rfl) ?_
      refine NN.then ?_
      refine J.block ?_
      refine J.to [0, 2, 3] (s' := [(0, .string a0), (2, .bool false), (3, .int .i64 0)]) (by kernel_rfl) ?_
      refine J.loop (fun n_ s_ bs_ => ∃ (x3l0 : Int), sawmillref02_IsName.l0 K a0 n_ x3l0 = some r1 ∧ s_ = [(0, .string a0), (2, .bool false), (3, .int .i64 x3l0)] ∧ [] = bs_) K ⟨0, H, rfl, rfl⟩ ?_
      rintro (_ | n_) s_ bs_ ⟨x3l0, H, rfl, rfl⟩
      · exact absurd H (by simp [sawmillref02_IsName.l0])
      simp only [sawmillref02_IsName.l0] at H
      refine J.seq ?_
      refine J.seq ?_
      refine J.plain ?_
      refine LL.op (.int .i64 x3l0) (by kernel_rfl) (fun w _ => by kernel_rfl) ?_
      refine LL.op (.string a0) (by kernel_rfl) (fun w _ => by kernel_rfl) ?_
      refine LL.op (.int .i64 (a0.size : Int)) (by kernel_rfl) (fun w _ => by kernel_rfl) ?_
      refine LL.op (.bool (decide (x3l0 < (a0.size : Int)))) (by kernel_rfl) (fun w _ => by kernel_rfl) ?_
      refine LL.done (s' := [(0, .string a0), (2, .bool false), (3, .int .i64 x3l0), (16, .bool (decide (x3l0 < (a0.size : Int))))]) [0, 2, 3, 16] (by kernel_rfl) ?_
      refine NN.then ?_
      rcases Bool.eq_false_or_eq_true (decide (x3l0 < (a0.size : Int))) with c451 | c451
      · rw [if_pos (of_decide_eq_true c451)] at H
        refine J.condT (b := decide (x3l0 < (a0.size : Int))) c451 (by kernel_rfl) (by kernel_rfl) ?_
        refine J.skip ?_
        refine NN.then ?_
        refine J.seq ?_
        refine J.block ?_
        refine J.seq ?_
        refine J.plain ?_
        refine LL.op (.string a0) (by kernel_rfl) (fun w _ => by kernel_rfl) ?_
        refine LL.op (.int .i64 x3l0) (by kernel_rfl) (fun w _ => by kernel_rfl) ?_
        obtain ⟨e452, he452, H⟩ := bind_some H
        refine LL.op (.int .u8 e452) (by kernel_rfl) (run_sidx (ik := .i64) rfl (by kernel_rfl) (by kernel_rfl) (by kernel_rfl) he452) ?_
        refine LL.op (.bool (decide (97 ≤ e452))) (by kernel_rfl) (fun w _ => by kernel_rfl) ?_
        refine LL.op (.bool (decide (97 ≤ e452))) (by kernel_rfl) (fun w _ => by kernel_rfl) ?_
        rcases Bool.eq_false_or_eq_true (decide (97 ≤ e452)) with c453 | c453
        · rw [if_pos (of_decide_eq_true c453)] at H
          refine LL.bool 23 (decide (97 ≤ e452)) true c453 (by kernel_rfl) ?_
          refine LL.op (.string a0) (by kernel_rfl) (fun w _ => by kernel_rfl) ?_
          refine LL.op (.int .i64 x3l0) (by kernel_rfl) (fun w _ => by kernel_rfl) ?_
          refine LL.op (.int .u8 e452) (by kernel_rfl) (run_sidx (ik := .i64) rfl (by kernel_rfl) (by kernel_rfl) (by kernel_rfl) he452) ?_
          refine LL.op (.bool (decide (e452 ≤ 122))) (by kernel_rfl) (fun w _ => by kernel_rfl) ?_
          refine LL.op (.bool (decide (e452 ≤ 122))) (by kernel_rfl) (fun w _ => by kernel_rfl) ?_
          refine LL.op (.bool (decide (e452 ≤ 122))) (by kernel_rfl) (fun w _ => by kernel_rfl) ?_
          refine LL.done (s' := [(0, .string a0), (2, .bool false), (3, .int .i64 x3l0), (4, .bool (decide (e452 ≤ 122)))]) [0, 2, 3, 4] (by kernel_rfl) ?_
          refine NN.then ?_
          refine J.seq ?_
          refine J.plain ?_
          refine LL.op (.bool (decide (e452 ≤ 122))) (by kernel_rfl) (fun w _ => by kernel_rfl) ?_
          refine LL.op (.bool (!(decide (e452 ≤ 122)))) (by kernel_rfl) (fun w _ => by kernel_rfl) ?_
          refine LL.op (.bool (!(decide (e452 ≤ 122)))) (by kernel_rfl) (fun w _ => by kernel_rfl) ?_
          rcases Bool.eq_false_or_eq_true (decide (e452 ≤ 122)) with c454 | c454
          · rw [if_pos (of_decide_eq_true c454)] at H
            refine LL.bool 31 (!(decide (e452 ≤ 122))) false (by rw [show (!(decide (e452 ≤ 122))) = !(decide (e452 ≤ 122)) from rfl, c454]; rfl) (by kernel_rfl) ?_
            refine LL.off (by kernel_rfl) (by kernel_rfl) ?_
            refine LL.off (by kernel_rfl) (by kernel_rfl) ?_
            refine LL.off (by kernel_rfl) (by kernel_rfl) ?_
            refine LL.off (by kernel_rfl) (by kernel_rfl) ?_
            refine LL.off (by kernel_rfl) (by kernel_rfl) ?_
            refine LL.off (by kernel_rfl) (by kernel_rfl) ?_
            refine LL.off (by kernel_rfl) (by kernel_rfl) ?_
            refine LL.off (by kernel_rfl) (by kernel_rfl) ?_
            refine LL.off (by kernel_rfl) (by kernel_rfl) ?_
            refine LL.off (by kernel_rfl) (by kernel_rfl) ?_
            refine LL.off (by kernel_rfl) (by kernel_rfl) ?_
            refine LL.off (by kernel_rfl) (by kernel_rfl) ?_
            refine LL.off (by kernel_rfl) (by kernel_rfl) ?_
            refine LL.off (by kernel_rfl) (by kernel_rfl) ?_
            refine LL.off (by kernel_rfl) (by kernel_rfl) ?_
            refine LL.op (.bool false) (by kernel_rfl) (fun w _ => by kernel_rfl) ?_
            refine LL.done (s' := [(0, .string a0), (2, .bool false), (3, .int .i64 x3l0), (47, .bool false)]) [0, 2, 3, 47] (by kernel_rfl) ?_
            refine NN.then ?_
            refine J.condF (b := false) rfl (by kernel_rfl) (by kernel_rfl) ?_
            refine J.skip ?_
            refine NN.block_n ?_
            refine NN.then ?_
            refine J.plain ?_
            refine LL.op (.int .i64 x3l0) (by kernel_rfl) (fun w _ => by kernel_rfl) ?_
            refine LL.op (.int .i64 (IntKind.i64.wrap (x3l0 + 1))) (by kernel_rfl) (fun w _ => by kernel_rfl) ?_
            refine LL.op (.int .i64 (IntKind.i64.wrap (x3l0 + 1))) (by kernel_rfl) (fun w _ => by kernel_rfl) ?_
            refine LL.done (s' := [(0, .string a0), (2, .bool false), (3, .int .i64 (IntKind.i64.wrap (x3l0 + 1)))]) [0, 2, 3] (by kernel_rfl) ?_
            exact NN.round' [0, 2, 3] (bs' := []) (Nat.lt_succ_self _) (List.Sublist.refl _) (by kernel_rfl) ⟨IntKind.i64.wrap (x3l0 + 1), H, rfl, rfl⟩
          · rw [if_neg (of_decide_eq_false c454)] at H
            refine LL.bool 31 (!(decide (e452 ≤ 122))) true (by rw [show (!(decide (e452 ≤ 122))) = !(decide (e452 ≤ 122)) from rfl, c454]; rfl) (by kernel_rfl) ?_
            refine LL.op (.int .i64 x3l0) (by kernel_rfl) (fun w _ => by kernel_rfl) ?_
            refine LL.op (.bool (x3l0 == 0)) (by kernel_rfl) (fun w _ => by kernel_rfl) ?_
            refine LL.op (.bool (x3l0 == 0)) (by kernel_rfl) (fun w _ => by kernel_rfl) ?_
            rcases Bool.eq_false_or_eq_true ((x3l0 == 0)) with c455 | c455
            · rw [if_pos (eq_of_beq c455)] at H
              refine LL.bool 34 ((x3l0 == 0)) true c455 (by kernel_rfl) ?_
              refine LL.off (by kernel_rfl) (by kernel_rfl) ?_
              refine LL.off (by kernel_rfl) (by kernel_rfl) ?_
              refine LL.off (by kernel_rfl) (by kernel_rfl) ?_
              refine LL.off (by kernel_rfl) (by kernel_rfl) ?_
              refine LL.off (by kernel_rfl) (by kernel_rfl) ?_
              refine LL.off (by kernel_rfl) (by kernel_rfl) ?_
              refine LL.off (by kernel_rfl) (by kernel_rfl) ?_
              refine LL.off (by kernel_rfl) (by kernel_rfl) ?_
              refine LL.off (by kernel_rfl) (by kernel_rfl) ?_
              refine LL.off (by kernel_rfl) (by kernel_rfl) ?_
              refine LL.off (by kernel_rfl) (by kernel_rfl) ?_
              refine LL.op (.bool true) (by kernel_rfl) (fun w _ => by kernel_rfl) ?_
              refine LL.op (.bool true) (by kernel_rfl) (fun w _ => by kernel_rfl) ?_
              refine LL.done (s' := [(0, .string a0), (2, .bool false), (3, .int .i64 x3l0), (47, .bool true)]) [0, 2, 3, 47] (by kernel_rfl) ?_
              refine NN.then ?_
              refine J.condT (b := true) rfl (by kernel_rfl) (by kernel_rfl) ?_
              refine J.seq ?_
              refine J.plain ?_
              refine LL.op (.bool false) (by kernel_rfl) (fun w _ => by kernel_rfl) ?_
              refine LL.done (s' := [(0, .string a0), (2, .bool false), (3, .int .i64 x3l0)]) [0, 2, 3] (by kernel_rfl) ?_
              refine NN.then ?_
              refine J.ret ?_
              refine NN.block_ret ?_
              refine NN.then_ret ?_
              refine NN.then_ret ?_
              refine NN.block_ret ?_
              refine NN.then_ret ?_
              refine NN.fin1 2 (.bool false) (by kernel_rfl) (by kernel_rfl) (.inl rfl) (fun w hi => hi.ret ?_)
              first | (cases H; rfl) | (obtain rfl := Option.some.inj H; rfl) | (simp only [Option.some.injEq, Prod.mk.injEq] at H; obtain ⟨rfl⟩ := H; rfl)
            · rw [if_neg (nebf c455)] at H
              refine LL.bool 34 ((x3l0 == 0)) false c455 (by kernel_rfl) ?_
              refine LL.op (.string a0) (by kernel_rfl) (fun w _ => by kernel_rfl) ?_
              refine LL.op (.int .i64 x3l0) (by kernel_rfl) (fun w _ => by kernel_rfl) ?_
              refine LL.op (.int .u8 e452) (by kernel_rfl) (run_sidx (ik := .i64) rfl (by kernel_rfl) (by kernel_rfl) (by kernel_rfl) he452) ?_
              refine LL.op (.bool (!(e452 == 95))) (by kernel_rfl) (fun w _ => by kernel_rfl) ?_
              refine LL.op (.bool (!(e452 == 95))) (by kernel_rfl) (fun w _ => by kernel_rfl) ?_
              rcases Bool.eq_false_or_eq_true ((e452 == 95)) with c456 | c456
              · rw [if_pos (eq_of_beq c456)] at H
                refine LL.bool 39 (!(e452 == 95)) false (by rw [show (!(e452 == 95)) = !((e452 == 95)) from rfl, c456]; rfl) (by kernel_rfl) ?_
                refine LL.off (by kernel_rfl) (by kernel_rfl) ?_
                refine LL.off (by kernel_rfl) (by kernel_rfl) ?_
                refine LL.off (by kernel_rfl) (by kernel_rfl) ?_
                refine LL.off (by kernel_rfl) (by kernel_rfl) ?_
                refine LL.off (by kernel_rfl) (by kernel_rfl) ?_
                refine LL.op (.bool false) (by kernel_rfl) (fun w _ => by kernel_rfl) ?_
                refine LL.op (.bool false) (by kernel_rfl) (fun w _ => by kernel_rfl) ?_
                refine LL.op (.bool false) (by kernel_rfl) (fun w _ => by kernel_rfl) ?_
                refine LL.done (s' := [(0, .string a0), (2, .bool false), (3, .int .i64 x3l0), (47, .bool false)]) [0, 2, 3, 47] (by kernel_rfl) ?_
                refine NN.then ?_
                refine J.condF (b := false) rfl (by kernel_rfl) (by kernel_rfl) ?_
                refine J.skip ?_
                refine NN.block_n ?_
                refine NN.then ?_
                refine J.plain ?_
                refine LL.op (.int .i64 x3l0) (by kernel_rfl) (fun w _ => by kernel_rfl) ?_
                refine LL.op (.int .i64 (IntKind.i64.wrap (x3l0 + 1))) (by kernel_rfl) (fun w _ => by kernel_rfl) ?_
                refine LL.op (.int .i64 (IntKind.i64.wrap (x3l0 + 1))) (by kernel_rfl) (fun w _ => by kernel_rfl) ?_
                refine LL.done (s' := [(0, .string a0), (2, .bool false), (3, .int .i64 (IntKind.i64.wrap (x3l0 + 1)))]) [0, 2, 3] (by kernel_rfl) ?_
                exact NN.round' [0, 2, 3] (bs' := []) (Nat.lt_succ_self _) (List.Sublist.refl _) (by kernel_rfl) ⟨IntKind.i64.wrap (x3l0 + 1), H, rfl, rfl⟩
              · rw [if_neg (nebf c456)] at H
                refine LL.bool 39 (!(e452 == 95)) true (by rw [show (!(e452 == 95)) = !((e452 == 95)) from rfl, c456]; rfl) (by kernel_rfl) ?_
                refine LL.op (.string a0) (by kernel_rfl) (fun w _ => by kernel_rfl) ?_
                refine LL.op (.int .i64 x3l0) (by kernel_rfl) (fun w _ => by kernel_rfl) ?_
                refine LL.op (.int .u8 e452) (by kernel_rfl) (run_sidx (ik := .i64) rfl (by kernel_rfl) (by kernel_rfl) (by kernel_rfl) he452) ?_
                obtain ⟨x457, hx457, H⟩ := bind_some H
                refine LL.call 85 #[.int .u8 e452] (.bool x457) (by kernel_rfl) (fun w => by kernel_rfl) (fun w hw => sawmillref02_digit.calls e452   _ w   hx457) ?_
                refine LL.op (.bool (!x457)) (by kernel_rfl) (fun w _ => by kernel_rfl) ?_
                refine LL.op (.bool (!x457)) (by kernel_rfl) (fun w _ => by kernel_rfl) ?_
                refine LL.op (.bool (!x457)) (by kernel_rfl) (fun w _ => by kernel_rfl) ?_
                refine LL.op (.bool (!x457)) (by kernel_rfl) (fun w _ => by kernel_rfl) ?_
                refine LL.done (s' := [(0, .string a0), (2, .bool false), (3, .int .i64 x3l0), (47, .bool (!x457))]) [0, 2, 3, 47] (by kernel_rfl) ?_
                refine NN.then ?_
                rcases Bool.eq_false_or_eq_true (x457) with c458 | c458
                · rw [if_pos (c458)] at H
                  refine J.condF (b := !x457) (by rw [show (!x457) = !(x457) from rfl, c458]; rfl) (by kernel_rfl) (by kernel_rfl) ?_
                  refine J.skip ?_
                  refine NN.block_n ?_
                  refine NN.then ?_
                  refine J.plain ?_
                  refine LL.op (.int .i64 x3l0) (by kernel_rfl) (fun w _ => by kernel_rfl) ?_
                  refine LL.op (.int .i64 (IntKind.i64.wrap (x3l0 + 1))) (by kernel_rfl) (fun w _ => by kernel_rfl) ?_
                  refine LL.op (.int .i64 (IntKind.i64.wrap (x3l0 + 1))) (by kernel_rfl) (fun w _ => by kernel_rfl) ?_
                  refine LL.done (s' := [(0, .string a0), (2, .bool false), (3, .int .i64 (IntKind.i64.wrap (x3l0 + 1)))]) [0, 2, 3] (by kernel_rfl) ?_
                  exact NN.round' [0, 2, 3] (bs' := []) (Nat.lt_succ_self _) (List.Sublist.refl _) (by kernel_rfl) ⟨IntKind.i64.wrap (x3l0 + 1), H, rfl, rfl⟩
                · rw [if_neg (nebt c458)] at H
                  refine J.condT (b := !x457) (by rw [show (!x457) = !(x457) from rfl, c458]; rfl) (by kernel_rfl) (by kernel_rfl) ?_
                  refine J.seq ?_
                  refine J.plain ?_
                  refine LL.op (.bool false) (by kernel_rfl) (fun w _ => by kernel_rfl) ?_
                  refine LL.done (s' := [(0, .string a0), (2, .bool false), (3, .int .i64 x3l0)]) [0, 2, 3] (by kernel_rfl) ?_
                  refine NN.then ?_
                  refine J.ret ?_
                  refine NN.block_ret ?_
                  refine NN.then_ret ?_
                  refine NN.then_ret ?_
                  refine NN.block_ret ?_
                  refine NN.then_ret ?_
                  refine NN.fin1 2 (.bool false) (by kernel_rfl) (by kernel_rfl) (.inl rfl) (fun w hi => hi.ret ?_)
                  first | (cases H; rfl) | (obtain rfl := Option.some.inj H; rfl) | (simp only [Option.some.injEq, Prod.mk.injEq] at H; obtain ⟨rfl⟩ := H; rfl)
        · rw [if_neg (of_decide_eq_false c453)] at H
          refine LL.bool 23 (decide (97 ≤ e452)) false c453 (by kernel_rfl) ?_
          refine LL.off (by kernel_rfl) (by kernel_rfl) ?_
          refine LL.off (by kernel_rfl) (by kernel_rfl) ?_
          refine LL.off (by kernel_rfl) (by kernel_rfl) ?_
          refine LL.off (by kernel_rfl) (by kernel_rfl) ?_
          refine LL.op (.bool false) (by kernel_rfl) (fun w _ => by kernel_rfl) ?_
          refine LL.op (.bool false) (by kernel_rfl) (fun w _ => by kernel_rfl) ?_
          refine LL.done (s' := [(0, .string a0), (2, .bool false), (3, .int .i64 x3l0), (4, .bool false)]) [0, 2, 3, 4] (by kernel_rfl) ?_
          refine NN.then ?_
          refine J.seq ?_
          refine J.plain ?_
          refine LL.op (.bool false) (by kernel_rfl) (fun w _ => by kernel_rfl) ?_
          refine LL.op (.bool true) (by kernel_rfl) (fun w _ => by kernel_rfl) ?_
          refine LL.op (.bool true) (by kernel_rfl) (fun w _ => by kernel_rfl) ?_
          refine LL.op (.int .i64 x3l0) (by kernel_rfl) (fun w _ => by kernel_rfl) ?_
          refine LL.op (.bool (x3l0 == 0)) (by kernel_rfl) (fun w _ => by kernel_rfl) ?_
          refine LL.op (.bool (x3l0 == 0)) (by kernel_rfl) (fun w _ => by kernel_rfl) ?_
          rcases Bool.eq_false_or_eq_true ((x3l0 == 0)) with c459 | c459
          · rw [if_pos (eq_of_beq c459)] at H
            refine LL.bool 34 ((x3l0 == 0)) true c459 (by kernel_rfl) ?_
            refine LL.off (by kernel_rfl) (by kernel_rfl) ?_
            refine LL.off (by kernel_rfl) (by kernel_rfl) ?_
            refine LL.off (by kernel_rfl) (by kernel_rfl) ?_
            refine LL.off (by kernel_rfl) (by kernel_rfl) ?_
            refine LL.off (by kernel_rfl) (by kernel_rfl) ?_
            refine LL.off (by kernel_rfl) (by kernel_rfl) ?_
            refine LL.off (by kernel_rfl) (by kernel_rfl) ?_
            refine LL.off (by kernel_rfl) (by kernel_rfl) ?_
            refine LL.off (by kernel_rfl) (by kernel_rfl) ?_
            refine LL.off (by kernel_rfl) (by kernel_rfl) ?_
            refine LL.off (by kernel_rfl) (by kernel_rfl) ?_
            refine LL.op (.bool true) (by kernel_rfl) (fun w _ => by kernel_rfl) ?_
            refine LL.op (.bool true) (by kernel_rfl) (fun w _ => by kernel_rfl) ?_
            refine LL.done (s' := [(0, .string a0), (2, .bool false), (3, .int .i64 x3l0), (47, .bool true)]) [0, 2, 3, 47] (by kernel_rfl) ?_
            refine NN.then ?_
            refine J.condT (b := true) rfl (by kernel_rfl) (by kernel_rfl) ?_
            refine J.seq ?_
            refine J.plain ?_
            refine LL.op (.bool false) (by kernel_rfl) (fun w _ => by kernel_rfl) ?_
            refine LL.done (s' := [(0, .string a0), (2, .bool false), (3, .int .i64 x3l0)]) [0, 2, 3] (by kernel_rfl) ?_
            refine NN.then ?_
            refine J.ret ?_
            refine NN.block_ret ?_
            refine NN.then_ret ?_
            refine NN.then_ret ?_
            refine NN.block_ret ?_
            refine NN.then_ret ?_
            refine NN.fin1 2 (.bool false) (by kernel_rfl) (by kernel_rfl) (.inl rfl) (fun w hi => hi.ret ?_)
            first | (cases H; rfl) | (obtain rfl := Option.some.inj H; rfl) | (simp only [Option.some.injEq, Prod.mk.injEq] at H; obtain ⟨rfl⟩ := H; rfl)
          · rw [if_neg (nebf c459)] at H
            refine LL.bool 34 ((x3l0 == 0)) false c459 (by kernel_rfl) ?_
            refine LL.op (.string a0) (by kernel_rfl) (fun w _ => by kernel_rfl) ?_
            refine LL.op (.int .i64 x3l0) (by kernel_rfl) (fun w _ => by kernel_rfl) ?_
            refine LL.op (.int .u8 e452) (by kernel_rfl) (run_sidx (ik := .i64) rfl (by kernel_rfl) (by kernel_rfl) (by kernel_rfl) he452) ?_
            refine LL.op (.bool (!(e452 == 95))) (by kernel_rfl) (fun w _ => by kernel_rfl) ?_
            refine LL.op (.bool (!(e452 == 95))) (by kernel_rfl) (fun w _ => by kernel_rfl) ?_
            rcases Bool.eq_false_or_eq_true ((e452 == 95)) with c460 | c460
            · rw [if_pos (eq_of_beq c460)] at H
              refine LL.bool 39 (!(e452 == 95)) false (by rw [show (!(e452 == 95)) = !((e452 == 95)) from rfl, c460]; rfl) (by kernel_rfl) ?_
              refine LL.off (by kernel_rfl) (by kernel_rfl) ?_
              refine LL.off (by kernel_rfl) (by kernel_rfl) ?_
              refine LL.off (by kernel_rfl) (by kernel_rfl) ?_
              refine LL.off (by kernel_rfl) (by kernel_rfl) ?_
              refine LL.off (by kernel_rfl) (by kernel_rfl) ?_
              refine LL.op (.bool false) (by kernel_rfl) (fun w _ => by kernel_rfl) ?_
              refine LL.op (.bool false) (by kernel_rfl) (fun w _ => by kernel_rfl) ?_
              refine LL.op (.bool false) (by kernel_rfl) (fun w _ => by kernel_rfl) ?_
              refine LL.done (s' := [(0, .string a0), (2, .bool false), (3, .int .i64 x3l0), (47, .bool false)]) [0, 2, 3, 47] (by kernel_rfl) ?_
              refine NN.then ?_
              refine J.condF (b := false) rfl (by kernel_rfl) (by kernel_rfl) ?_
              refine J.skip ?_
              refine NN.block_n ?_
              refine NN.then ?_
              refine J.plain ?_
              refine LL.op (.int .i64 x3l0) (by kernel_rfl) (fun w _ => by kernel_rfl) ?_
              refine LL.op (.int .i64 (IntKind.i64.wrap (x3l0 + 1))) (by kernel_rfl) (fun w _ => by kernel_rfl) ?_
              refine LL.op (.int .i64 (IntKind.i64.wrap (x3l0 + 1))) (by kernel_rfl) (fun w _ => by kernel_rfl) ?_
              refine LL.done (s' := [(0, .string a0), (2, .bool false), (3, .int .i64 (IntKind.i64.wrap (x3l0 + 1)))]) [0, 2, 3] (by kernel_rfl) ?_
              exact NN.round' [0, 2, 3] (bs' := []) (Nat.lt_succ_self _) (List.Sublist.refl _) (by kernel_rfl) ⟨IntKind.i64.wrap (x3l0 + 1), H, rfl, rfl⟩
            · rw [if_neg (nebf c460)] at H
              refine LL.bool 39 (!(e452 == 95)) true (by rw [show (!(e452 == 95)) = !((e452 == 95)) from rfl, c460]; rfl) (by kernel_rfl) ?_
              refine LL.op (.string a0) (by kernel_rfl) (fun w _ => by kernel_rfl) ?_
              refine LL.op (.int .i64 x3l0) (by kernel_rfl) (fun w _ => by kernel_rfl) ?_
              refine LL.op (.int .u8 e452) (by kernel_rfl) (run_sidx (ik := .i64) rfl (by kernel_rfl) (by kernel_rfl) (by kernel_rfl) he452) ?_
              obtain ⟨x461, hx461, H⟩ := bind_some H
              refine LL.call 85 #[.int .u8 e452] (.bool x461) (by kernel_rfl) (fun w => by kernel_rfl) (fun w hw => sawmillref02_digit.calls e452   _ w   hx461) ?_
              refine LL.op (.bool (!x461)) (by kernel_rfl) (fun w _ => by kernel_rfl) ?_
              refine LL.op (.bool (!x461)) (by kernel_rfl) (fun w _ => by kernel_rfl) ?_
              refine LL.op (.bool (!x461)) (by kernel_rfl) (fun w _ => by kernel_rfl) ?_
              refine LL.op (.bool (!x461)) (by kernel_rfl) (fun w _ => by kernel_rfl) ?_
              refine LL.done (s' := [(0, .string a0), (2, .bool false), (3, .int .i64 x3l0), (47, .bool (!x461))]) [0, 2, 3, 47] (by kernel_rfl) ?_
              refine NN.then ?_
              rcases Bool.eq_false_or_eq_true (x461) with c462 | c462
              · rw [if_pos (c462)] at H
                refine J.condF (b := !x461) (by rw [show (!x461) = !(x461) from rfl, c462]; rfl) (by kernel_rfl) (by kernel_rfl) ?_
                refine J.skip ?_
                refine NN.block_n ?_
                refine NN.then ?_
                refine J.plain ?_
                refine LL.op (.int .i64 x3l0) (by kernel_rfl) (fun w _ => by kernel_rfl) ?_
                refine LL.op (.int .i64 (IntKind.i64.wrap (x3l0 + 1))) (by kernel_rfl) (fun w _ => by kernel_rfl) ?_
                refine LL.op (.int .i64 (IntKind.i64.wrap (x3l0 + 1))) (by kernel_rfl) (fun w _ => by kernel_rfl) ?_
                refine LL.done (s' := [(0, .string a0), (2, .bool false), (3, .int .i64 (IntKind.i64.wrap (x3l0 + 1)))]) [0, 2, 3] (by kernel_rfl) ?_
                exact NN.round' [0, 2, 3] (bs' := []) (Nat.lt_succ_self _) (List.Sublist.refl _) (by kernel_rfl) ⟨IntKind.i64.wrap (x3l0 + 1), H, rfl, rfl⟩
              · rw [if_neg (nebt c462)] at H
                refine J.condT (b := !x461) (by rw [show (!x461) = !(x461) from rfl, c462]; rfl) (by kernel_rfl) (by kernel_rfl) ?_
                refine J.seq ?_
                refine J.plain ?_
                refine LL.op (.bool false) (by kernel_rfl) (fun w _ => by kernel_rfl) ?_
                refine LL.done (s' := [(0, .string a0), (2, .bool false), (3, .int .i64 x3l0)]) [0, 2, 3] (by kernel_rfl) ?_
                refine NN.then ?_
                refine J.ret ?_
                refine NN.block_ret ?_
                refine NN.then_ret ?_
                refine NN.then_ret ?_
                refine NN.block_ret ?_
                refine NN.then_ret ?_
                refine NN.fin1 2 (.bool false) (by kernel_rfl) (by kernel_rfl) (.inl rfl) (fun w hi => hi.ret ?_)
                first | (cases H; rfl) | (obtain rfl := Option.some.inj H; rfl) | (simp only [Option.some.injEq, Prod.mk.injEq] at H; obtain ⟨rfl⟩ := H; rfl)
      · rw [if_neg (of_decide_eq_false c451)] at H
        refine J.condF (b := decide (x3l0 < (a0.size : Int))) c451 (by kernel_rfl) (by kernel_rfl) ?_
        refine J.exit ?_
        refine NN.then_exit ?_
        refine NN.then_exit ?_
        refine NN.block_same ?_
        refine NN.then ?_
        refine J.seq ?_
        refine J.plain ?_
        refine LL.op (.bool true) (by kernel_rfl) (fun w _ => by kernel_rfl) ?_
        refine LL.done (s' := [(2, .bool true)]) [2] (by kernel_rfl) ?_
        refine NN.then ?_
        refine J.ret ?_
        refine NN.fin1 2 (.bool true) (by kernel_rfl) (by kernel_rfl) (.inl rfl) (fun w hi => hi.ret ?_)
        first | (cases H; rfl) | (obtain rfl := Option.some.inj H; rfl) | (simp only [Option.some.injEq, Prod.mk.injEq] at H; obtain ⟨rfl⟩ := H; rfl)

/-! ### sawmillref34_Check: function 54 -/
def sawmillref34_Check.l1 (K : Nat) (a0 : List E32) (x3l0 : Int) (e466_1 : ByteArray) (kont_ : Int → Option (Int)) : Nat → Int → Option (Int)
  | 0, _ => none
  | k + 1, x4l1 => if x4l1 < x3l0 then ((idx a0 x4l1).bind fun be471 => (if be471.1.toList = e466_1.toList then (some 7) else (sawmillref34_Check.l1 K a0 x3l0 e466_1 kont_ k (IntKind.i64.wrap (x4l1 + 1))))) else (kont_ x4l1)
def sawmillref34_Check.l0 (K : Nat) (a0 : List E32) : Nat → Int → Option (Int)
  | 0, _ => none
  | k + 1, x3l0 => if x3l0 < (a0.length : Int) then ((idx a0 x3l0).bind fun be466 => ((sawmillref02_IsName.f K be466.1).bind fun x467 => (if x467 = true then (sawmillref34_Check.l1 K a0 x3l0 be466.1 (fun (x4l1 : Int) => (sawmillref34_valid.f be466.1 be466.2.1 be466.2.2.1 be466.2.2.2.1 be466.2.2.2.2.1 be466.2.2.2.2.2.1 be466.2.2.2.2.2.2.1 be466.2.2.2.2.2.2.2.1 be466.2.2.2.2.2.2.2.2.1 be466.2.2.2.2.2.2.2.2.2.1 be466.2.2.2.2.2.2.2.2.2.2.1 be466.2.2.2.2.2.2.2.2.2.2.2.1 be466.2.2.2.2.2.2.2.2.2.2.2.2).bind fun x473 => (if x473 = true then (sawmillref34_Check.l0 K a0 k (IntKind.i64.wrap (x3l0 + 1))) else (some 9))) K 0) else (some 6)))) else (some 0)
def sawmillref34_Check.f (K : Nat) (a0 : List E32) : Option (Int) := if 8 < (a0.length : Int) then (some 4) else (sawmillref34_Check.l0 K a0 K 0)
set_option maxRecDepth 100000 in
theorem sawmillref34_Check.calls (K : Nat) (a0 : List E32)  (Aa0 : Option Addr) (ca0 : Nat)  (r1 : Int) (w : World)   (ha0 : KRow (Cx.start w) enc32 13 a0 Aa0) (h : sawmillref34_Check.f K a0 = some r1) :
    Calls Try.prog 54 #[.slice Aa0 a0.length ca0] w (Ret w (.int .i64 r1)) := by
  have H := h
  clear h
  unfold sawmillref34_Check.f at H
  refine Go.Saw.calls (args := [.slice Aa0 a0.length ca0]) Try.func54 rfl Try.ntmps54 (by kernel_rfl) ?_
  refine J.seq ?_
  refine J.plain ?_
  refine LL.op (.int .i64 0) (by kernel_rfl) (fun w _ => by kernel_rfl) ?_
  refine LL.done (s' := [(0, .slice Aa0 a0.length ca0), (2, .int .i64 0)]) [0, 2] (by kernel_rfl) ?_
  refine NN.then ?_
  refine J.seq ?_
  refine J.seq ?_
  refine J.plain ?_
  refine LL.op (.slice Aa0 a0.length ca0) (by kernel_rfl) (fun w _ => by kernel_rfl) ?_
  refine LL.op (.int .i64 (a0.length : Int)) (by kernel_rfl) (fun w _ => by kernel_rfl) ?_
  refine LL.op (.bool (decide (8 < (a0.length : Int)))) (by kernel_rfl) (fun w _ => by kernel_rfl) ?_
  refine LL.done (s' := [(0, .slice Aa0 a0.length ca0), (2, .int .i64 0), (7, .bool (decide (8 < (a0.length : Int))))]) [0, 2, 7] (by kernel_rfl) ?_
  refine NN.then ?_
  rcases Bool.eq_false_or_eq_true (decide (8 < (a0.length : Int))) with c463 | c463
  · rw [if_pos (of_decide_eq_true c463)] at H
    refine J.condT (b := decide (8 < (a0.length : Int))) c463 (by kernel_rfl) (by kernel_rfl) ?_
    refine J.seq ?_
    refine J.plain ?_
    refine LL.op (.int .i64 4) (by kernel_rfl) (fun w _ => by kernel_rfl) ?_
    refine LL.done (s' := [(0, .slice Aa0 a0.length ca0), (2, .int .i64 4)]) [0, 2] (by kernel_rfl) ?_
    refine NN.then ?_
    refine J.ret ?_
    refine NN.then_ret ?_
    refine NN.fin1 2 (.int .i64 4) (by kernel_rfl) (by kernel_rfl) (.inl rfl) (fun w hi => hi.ret ?_)
    first | (cases H; rfl) | (obtain rfl := Option.some.inj H; rfl) | (simp only [Option.some.injEq, Prod.mk.injEq] at H; obtain ⟨rfl⟩ := H; rfl)
  · rw [if_neg (of_decide_eq_false c463)] at H
    refine J.condF (b := decide (8 < (a0.length : Int))) c463 (by kernel_rfl) (by kernel_rfl) ?_
    refine J.skip ?_
    refine NN.then ?_
    refine J.seq ?_
    refine J.seq ?_
    refine J.plain ?_
    refine LL.op (.int .i64 0) (by kernel_rfl) (fun w _ => by kernel_rfl) ?_
    refine LL.done (s' := [(0, .slice Aa0 a0.length ca0), (2, .int .i64 0), (3, .int .i64 0)]) [0, 2, 3] (by kernel_rfl) ?_
    refine NN.then ?_
    refine J.block ?_
    refine J.to [0, 2, 3] (s' := [(0, .slice Aa0 a0.length ca0), (2, .int .i64 0), (3, .int .i64 0)]) (by kernel_rfl) ?_
    refine J.loop (fun n_ s_ bs_ => ∃ (x3l0 : Int), sawmillref34_Check.l0 K a0 n_ x3l0 = some r1 ∧ s_ = [(0, .slice Aa0 a0.length ca0), (2, .int .i64 0), (3, .int .i64 x3l0)] ∧ [] = bs_) K ⟨0, H, rfl, rfl⟩ ?_
    rintro (_ | n_) s_ bs_ ⟨x3l0, H, rfl, rfl⟩
    · exact absurd H (by simp [sawmillref34_Check.l0])
    simp only [sawmillref34_Check.l0] at H
    refine J.seq ?_
    refine J.seq ?_
    refine J.plain ?_
    refine LL.op (.int .i64 x3l0) (by kernel_rfl) (fun w _ => by kernel_rfl) ?_
    refine LL.op (.slice Aa0 a0.length ca0) (by kernel_rfl) (fun w _ => by kernel_rfl) ?_
    refine LL.op (.int .i64 (a0.length : Int)) (by kernel_rfl) (fun w _ => by kernel_rfl) ?_
    refine LL.op (.bool (decide (x3l0 < (a0.length : Int)))) (by kernel_rfl) (fun w _ => by kernel_rfl) ?_
    refine LL.done (s' := [(0, .slice Aa0 a0.length ca0), (2, .int .i64 0), (3, .int .i64 x3l0), (11, .bool (decide (x3l0 < (a0.length : Int))))]) [0, 2, 3, 11] (by kernel_rfl) ?_
    refine NN.then ?_
    rcases Bool.eq_false_or_eq_true (decide (x3l0 < (a0.length : Int))) with c465 | c465
    · rw [if_pos (of_decide_eq_true c465)] at H
      refine J.condT (b := decide (x3l0 < (a0.length : Int))) c465 (by kernel_rfl) (by kernel_rfl) ?_
      refine J.skip ?_
      refine NN.then ?_
      refine J.seq ?_
      refine J.block ?_
      refine J.seq ?_
      refine J.seq ?_
      refine J.plain ?_
      refine LL.op (.slice Aa0 a0.length ca0) (by kernel_rfl) (fun w _ => by kernel_rfl) ?_
      refine LL.op (.int .i64 x3l0) (by kernel_rfl) (fun w _ => by kernel_rfl) ?_
      obtain ⟨⟨e466_1, e466_2, e466_3, e466_4, e466_5, e466_6, e466_7, e466_8, e466_9, e466_10, e466_11, e466_12, e466_13⟩, he466, H⟩ := bind_some H
      (try dsimp only at H)
      refine LL.op (.pointer (rp Aa0 (x3l0.toNat * 13 + 0))) (by kernel_rfl) (idxR (cp := ca0) (ik := .i64) ha0 he466 rfl (by kernel_rfl) (by kernel_rfl) (by kernel_rfl)) ?_
      refine LL.op (.pointer (rp Aa0 (x3l0.toNat * 13 + 0))) (by kernel_rfl) (fldR (b := x3l0.toNat * 13) (off := 0) (o1 := 0) (o2 := 0) ha0 he466 rfl (by kernel_rfl) (by kernel_rfl) rfl) ?_
      refine LL.op (.string e466_1) (by kernel_rfl) (ldR (off := 0) ha0 he466 rfl (by kernel_rfl) (by kernel_rfl)) ?_
      obtain ⟨x467, hx467, H⟩ := bind_some H
      refine LL.call 76 #[.string e466_1] (.bool x467) (by kernel_rfl) (fun w => by kernel_rfl) (fun w hw => sawmillref02_IsName.calls K e466_1   _ w   hx467) ?_
      refine LL.op (.bool (!x467)) (by kernel_rfl) (fun w _ => by kernel_rfl) ?_
      refine LL.done (s' := [(0, .slice Aa0 a0.length ca0), (2, .int .i64 0), (3, .int .i64 x3l0), (20, .bool (!x467))]) [0, 2, 3, 20] (by kernel_rfl) ?_
      refine NN.then ?_
      rcases Bool.eq_false_or_eq_true (x467) with c468 | c468
      · rw [if_pos (c468)] at H
        refine J.condF (b := !x467) (by rw [show (!x467) = !(x467) from rfl, c468]; rfl) (by kernel_rfl) (by kernel_rfl) ?_
        refine J.skip ?_
        refine NN.then ?_
        refine J.seq ?_
        refine J.seq ?_
        refine J.plain ?_
        refine LL.op (.int .i64 0) (by kernel_rfl) (fun w _ => by kernel_rfl) ?_
        refine LL.done (s' := [(0, .slice Aa0 a0.length ca0), (2, .int .i64 0), (3, .int .i64 x3l0), (4, .int .i64 0)]) [0, 2, 3, 4] (by kernel_rfl) ?_
        refine NN.then ?_
        refine J.block ?_
        refine J.to [0, 2, 3, 4] (s' := [(0, .slice Aa0 a0.length ca0), (2, .int .i64 0), (3, .int .i64 x3l0), (4, .int .i64 0)]) (by kernel_rfl) ?_
        obtain ⟨kont469, hk469, H⟩ := kont_intro (P := fun q_ => sawmillref34_Check.l1 K a0 x3l0 e466_1 q_ K 0 = some r1) H
        refine J.loop (fun n_ s_ bs_ => ∃ (x4l1 : Int), sawmillref34_Check.l1 K a0 x3l0 e466_1 kont469 n_ x4l1 = some r1 ∧ s_ = [(0, .slice Aa0 a0.length ca0), (2, .int .i64 0), (3, .int .i64 x3l0), (4, .int .i64 x4l1)] ∧ [] = bs_) K ⟨0, H, rfl, rfl⟩ ?_
        rintro (_ | n_) s_ bs_ ⟨x4l1, H, rfl, rfl⟩
        · exact absurd H (by simp [sawmillref34_Check.l1])
        simp only [sawmillref34_Check.l1] at H
        refine J.seq ?_
        refine J.seq ?_
        refine J.plain ?_
        refine LL.op (.int .i64 x4l1) (by kernel_rfl) (fun w _ => by kernel_rfl) ?_
        refine LL.op (.int .i64 x3l0) (by kernel_rfl) (fun w _ => by kernel_rfl) ?_
        refine LL.op (.bool (decide (x4l1 < x3l0))) (by kernel_rfl) (fun w _ => by kernel_rfl) ?_
        refine LL.done (s' := [(0, .slice Aa0 a0.length ca0), (2, .int .i64 0), (3, .int .i64 x3l0), (4, .int .i64 x4l1), (23, .bool (decide (x4l1 < x3l0)))]) [0, 2, 3, 4, 23] (by kernel_rfl) ?_
        refine NN.then ?_
        rcases Bool.eq_false_or_eq_true (decide (x4l1 < x3l0)) with c470 | c470
        · rw [if_pos (of_decide_eq_true c470)] at H
          refine J.condT (b := decide (x4l1 < x3l0)) c470 (by kernel_rfl) (by kernel_rfl) ?_
          refine J.skip ?_
          refine NN.then ?_
          refine J.seq ?_
          refine J.block ?_
          refine J.seq ?_
          refine J.drawn follows (by kernel_rfl) ?_
          refine QQ.op (.slice Aa0 a0.length ca0) (by kernel_rfl) (fun w _ => by kernel_rfl) ?_
          refine QQ.op (.int .i64 x4l1) (by kernel_rfl) (fun w _ => by kernel_rfl) ?_
          obtain ⟨⟨e471_1, e471_2, e471_3, e471_4, e471_5, e471_6, e471_7, e471_8, e471_9, e471_10, e471_11, e471_12, e471_13⟩, he471, H⟩ := bind_some H
          (try dsimp only at H)
          refine QQ.op (.pointer (rp Aa0 (x4l1.toNat * 13 + 0))) (by kernel_rfl) (idxR (cp := ca0) (ik := .i64) ha0 he471 rfl (by kernel_rfl) (by kernel_rfl) (by kernel_rfl)) ?_
          refine QQ.op (.pointer (rp Aa0 (x4l1.toNat * 13 + 0))) (by kernel_rfl) (fldR (b := x4l1.toNat * 13) (off := 0) (o1 := 0) (o2 := 0) ha0 he471 rfl (by kernel_rfl) (by kernel_rfl) rfl) ?_
          refine QQ.op (.string e471_1) (by kernel_rfl) (ldR (off := 0) ha0 he471 rfl (by kernel_rfl) (by kernel_rfl)) ?_
          refine QQ.op (.slice Aa0 a0.length ca0) (by kernel_rfl) (fun w _ => by kernel_rfl) ?_
          refine QQ.op (.int .i64 x3l0) (by kernel_rfl) (fun w _ => by kernel_rfl) ?_
          refine QQ.op (.pointer (rp Aa0 (x3l0.toNat * 13 + 0))) (by kernel_rfl) (idxR (cp := ca0) (ik := .i64) ha0 he466 rfl (by kernel_rfl) (by kernel_rfl) (by kernel_rfl)) ?_
          refine QQ.op (.pointer (rp Aa0 (x3l0.toNat * 13 + 0))) (by kernel_rfl) (fldR (b := x3l0.toNat * 13) (off := 0) (o1 := 0) (o2 := 0) ha0 he466 rfl (by kernel_rfl) (by kernel_rfl) rfl) ?_
          refine QQ.op (.string e466_1) (by kernel_rfl) (ldR (off := 0) ha0 he466 rfl (by kernel_rfl) (by kernel_rfl)) ?_
          refine QQ.op (.bool (e471_1.toList == e466_1.toList)) (by kernel_rfl) (fun w _ => by kernel_rfl) ?_
          refine QQ.done (s' := [(0, .slice Aa0 a0.length ca0), (2, .int .i64 0), (3, .int .i64 x3l0), (4, .int .i64 x4l1), (36, .bool (e471_1.toList == e466_1.toList))]) [0, 2, 3, 4, 36] (by kernel_rfl) ?_
          refine NN.then ?_
          rcases Bool.eq_false_or_eq_true ((e471_1.toList == e466_1.toList)) with c472 | c472
          · rw [if_pos (eq_of_beq c472)] at H
            refine J.condT (b := (e471_1.toList == e466_1.toList)) c472 (by kernel_rfl) (by kernel_rfl) ?_
            refine J.seq ?_
            refine J.plain ?_
            refine LL.op (.int .i64 7) (by kernel_rfl) (fun w _ => by kernel_rfl) ?_
            refine LL.done (s' := [(0, .slice Aa0 a0.length ca0), (2, .int .i64 7), (3, .int .i64 x3l0), (4, .int .i64 x4l1)]) [0, 2, 3, 4] (by kernel_rfl) ?_
            refine NN.then ?_
            refine J.ret ?_
            refine NN.block_ret ?_
            refine NN.then_ret ?_
            refine NN.then_ret ?_
            refine NN.block_ret ?_
            refine NN.then_ret ?_
            refine NN.block_ret ?_
            refine NN.then_ret ?_
            refine NN.then_ret ?_
            refine NN.block_ret ?_
            refine NN.then_ret ?_
            refine NN.fin1 2 (.int .i64 7) (by kernel_rfl) (by kernel_rfl) (.inl rfl) (fun w hi => hi.ret ?_)
            first | (cases H; rfl) | (obtain rfl := Option.some.inj H; rfl) | (simp only [Option.some.injEq, Prod.mk.injEq] at H; obtain ⟨rfl⟩ := H; rfl)
          · rw [if_neg (nebf c472)] at H
            refine J.condF (b := (e471_1.toList == e466_1.toList)) c472 (by kernel_rfl) (by kernel_rfl) ?_
            refine J.skip ?_
            refine NN.block_n ?_
            refine NN.then ?_
            refine J.plain ?_
            refine LL.op (.int .i64 x4l1) (by kernel_rfl) (fun w _ => by kernel_rfl) ?_
            refine LL.op (.int .i64 (IntKind.i64.wrap (x4l1 + 1))) (by kernel_rfl) (fun w _ => by kernel_rfl) ?_
            refine LL.op (.int .i64 (IntKind.i64.wrap (x4l1 + 1))) (by kernel_rfl) (fun w _ => by kernel_rfl) ?_
            refine LL.done (s' := [(0, .slice Aa0 a0.length ca0), (2, .int .i64 0), (3, .int .i64 x3l0), (4, .int .i64 (IntKind.i64.wrap (x4l1 + 1)))]) [0, 2, 3, 4] (by kernel_rfl) ?_
            exact NN.round' [0, 2, 3, 4] (bs' := []) (Nat.lt_succ_self _) (List.Sublist.refl _) (by kernel_rfl) ⟨IntKind.i64.wrap (x4l1 + 1), H, rfl, rfl⟩
        · rw [if_neg (of_decide_eq_false c470)] at H
          refine J.condF (b := decide (x4l1 < x3l0)) c470 (by kernel_rfl) (by kernel_rfl) ?_
          refine J.exit ?_
          refine NN.then_exit ?_
          rw [← hk469] at H
          (try dsimp only at H)
          refine NN.then_exit ?_
          refine NN.block_same ?_
          refine NN.then ?_
          refine J.seq ?_
          refine J.plain ?_
          refine LL.op (.slice Aa0 a0.length ca0) (by kernel_rfl) (fun w _ => by kernel_rfl) ?_
          refine LL.op (.int .i64 x3l0) (by kernel_rfl) (fun w _ => by kernel_rfl) ?_
          refine LL.op (.pointer (rp Aa0 (x3l0.toNat * 13 + 0))) (by kernel_rfl) (idxR (cp := ca0) (ik := .i64) ha0 he466 rfl (by kernel_rfl) (by kernel_rfl) (by kernel_rfl)) ?_
          refine LL.op (.agg #[.string e466_1, .int .i64 e466_2, .int .i64 e466_3, .int .i64 e466_4, .int .i64 e466_5, .int .i64 e466_6, .int .i64 e466_7, .int .i64 e466_8, .int .i64 e466_9, .int .i64 e466_10, .int .i64 e466_11, .int .i64 e466_12, .int .i64 e466_13]) (by kernel_rfl) (ldR (off := 0) ha0 he466 rfl (by kernel_rfl) (by kernel_rfl)) ?_
          obtain ⟨x473, hx473, H⟩ := bind_some H
          refine LL.call 77 #[.agg #[.string e466_1, .int .i64 e466_2, .int .i64 e466_3, .int .i64 e466_4, .int .i64 e466_5, .int .i64 e466_6, .int .i64 e466_7, .int .i64 e466_8, .int .i64 e466_9, .int .i64 e466_10, .int .i64 e466_11, .int .i64 e466_12, .int .i64 e466_13]] (.bool x473) (by kernel_rfl) (fun w => by kernel_rfl) (fun w hw => sawmillref34_valid.calls e466_1 e466_2 e466_3 e466_4 e466_5 e466_6 e466_7 e466_8 e466_9 e466_10 e466_11 e466_12 e466_13   _ w   hx473) ?_
          refine LL.op (.bool (!x473)) (by kernel_rfl) (fun w _ => by kernel_rfl) ?_
          refine LL.done (s' := [(0, .slice Aa0 a0.length ca0), (2, .int .i64 0), (3, .int .i64 x3l0), (42, .bool (!x473))]) [0, 2, 3, 42] (by kernel_rfl) ?_
          refine NN.then ?_
          rcases Bool.eq_false_or_eq_true (x473) with c474 | c474
          · rw [if_pos (c474)] at H
            refine J.condF (b := !x473) (by rw [show (!x473) = !(x473) from rfl, c474]; rfl) (by kernel_rfl) (by kernel_rfl) ?_
            refine J.skip ?_
            refine NN.block_n ?_
            refine NN.then ?_
            refine J.plain ?_
            refine LL.op (.int .i64 x3l0) (by kernel_rfl) (fun w _ => by kernel_rfl) ?_
            refine LL.op (.int .i64 (IntKind.i64.wrap (x3l0 + 1))) (by kernel_rfl) (fun w _ => by kernel_rfl) ?_
            refine LL.op (.int .i64 (IntKind.i64.wrap (x3l0 + 1))) (by kernel_rfl) (fun w _ => by kernel_rfl) ?_
            refine LL.done (s' := [(0, .slice Aa0 a0.length ca0), (2, .int .i64 0), (3, .int .i64 (IntKind.i64.wrap (x3l0 + 1)))]) [0, 2, 3] (by kernel_rfl) ?_
            exact NN.round' [0, 2, 3] (bs' := []) (Nat.lt_succ_self _) (List.Sublist.refl _) (by kernel_rfl) ⟨IntKind.i64.wrap (x3l0 + 1), H, rfl, rfl⟩
          · rw [if_neg (nebt c474)] at H
            refine J.condT (b := !x473) (by rw [show (!x473) = !(x473) from rfl, c474]; rfl) (by kernel_rfl) (by kernel_rfl) ?_
            refine J.seq ?_
            refine J.plain ?_
            refine LL.op (.int .i64 9) (by kernel_rfl) (fun w _ => by kernel_rfl) ?_
            refine LL.done (s' := [(0, .slice Aa0 a0.length ca0), (2, .int .i64 9), (3, .int .i64 x3l0)]) [0, 2, 3] (by kernel_rfl) ?_
            refine NN.then ?_
            refine J.ret ?_
            refine NN.block_ret ?_
            refine NN.then_ret ?_
            refine NN.then_ret ?_
            refine NN.block_ret ?_
            refine NN.then_ret ?_
            refine NN.fin1 2 (.int .i64 9) (by kernel_rfl) (by kernel_rfl) (.inl rfl) (fun w hi => hi.ret ?_)
            first | (cases H; rfl) | (obtain rfl := Option.some.inj H; rfl) | (simp only [Option.some.injEq, Prod.mk.injEq] at H; obtain ⟨rfl⟩ := H; rfl)
      · rw [if_neg (nebt c468)] at H
        refine J.condT (b := !x467) (by rw [show (!x467) = !(x467) from rfl, c468]; rfl) (by kernel_rfl) (by kernel_rfl) ?_
        refine J.seq ?_
        refine J.plain ?_
        refine LL.op (.int .i64 6) (by kernel_rfl) (fun w _ => by kernel_rfl) ?_
        refine LL.done (s' := [(0, .slice Aa0 a0.length ca0), (2, .int .i64 6), (3, .int .i64 x3l0)]) [0, 2, 3] (by kernel_rfl) ?_
        refine NN.then ?_
        refine J.ret ?_
        refine NN.then_ret ?_
        refine NN.block_ret ?_
        refine NN.then_ret ?_
        refine NN.then_ret ?_
        refine NN.block_ret ?_
        refine NN.then_ret ?_
        refine NN.fin1 2 (.int .i64 6) (by kernel_rfl) (by kernel_rfl) (.inl rfl) (fun w hi => hi.ret ?_)
        first | (cases H; rfl) | (obtain rfl := Option.some.inj H; rfl) | (simp only [Option.some.injEq, Prod.mk.injEq] at H; obtain ⟨rfl⟩ := H; rfl)
    · rw [if_neg (of_decide_eq_false c465)] at H
      refine J.condF (b := decide (x3l0 < (a0.length : Int))) c465 (by kernel_rfl) (by kernel_rfl) ?_
      refine J.exit ?_
      refine NN.then_exit ?_
      refine NN.then_exit ?_
      refine NN.block_same ?_
      refine NN.then ?_
      refine J.seq ?_
      refine J.plain ?_
      refine LL.op (.int .i64 0) (by kernel_rfl) (fun w _ => by kernel_rfl) ?_
      refine LL.done (s' := [(2, .int .i64 0)]) [2] (by kernel_rfl) ?_
      refine NN.then ?_
      refine J.ret ?_
      refine NN.fin1 2 (.int .i64 0) (by kernel_rfl) (by kernel_rfl) (.inl rfl) (fun w hi => hi.ret ?_)
      first | (cases H; rfl) | (obtain rfl := Option.some.inj H; rfl) | (simp only [Option.some.injEq, Prod.mk.injEq] at H; obtain ⟨rfl⟩ := H; rfl)

/-! ### sawmillref36_Check: function 53 -/
def sawmillref36_Check.f (a0_0 : Int) (a0_1 : Int) (a0_2 : Int) : Option (Int) := if a0_0 < 0 then (some 25) else (if 20000 < a0_0 then (some 25) else (if a0_1 < 0 then (some 25) else (if 20000 < a0_1 then (some 25) else (if a0_2 < 0 then (some 9) else (if 1099511627776 < a0_2 then (some 9) else (some 0))))))
set_option maxRecDepth 100000 in
theorem sawmillref36_Check.calls (a0_0 : Int) (a0_1 : Int) (a0_2 : Int)    (r1 : Int) (w : World)    (h : sawmillref36_Check.f a0_0 a0_1 a0_2 = some r1) :
    Calls Try.prog 53 #[.agg #[.int .i64 a0_0, .int .i64 a0_1, .int .i64 a0_2]] w (Ret w (.int .i64 r1)) := by
  have H := h
  clear h
  unfold sawmillref36_Check.f at H
  refine Go.Saw.calls (args := [.agg #[.int .i64 a0_0, .int .i64 a0_1, .int .i64 a0_2]]) Try.func53 rfl Try.ntmps53 (by kernel_rfl) ?_
  refine J.seq ?_
  refine J.plain ?_
  refine LL.box 28 (.tmp 0) [.int .i64 a0_0, .int .i64 a0_1, .int .i64 a0_2] (by kernel_rfl) rfl (by kernel_rfl) (fun g475 => ?_)
  refine LL.op (.int .i64 0) (by kernel_rfl) (fun w _ => by kernel_rfl) ?_
  refine LL.done (s' := [(1, .pointer (some ⟨g475, 0, none⟩)), (2, .int .i64 0)]) [1, 2] (by kernel_rfl) ?_
  refine NN.then ?_
  refine J.seq ?_
  refine J.seq ?_
  refine J.plain ?_
  refine LL.op (.pointer (some ⟨g475, 0, none⟩)) (by kernel_rfl) (fun w _ => by kernel_rfl) ?_
  refine LL.op (.int .i64 a0_0) (by kernel_rfl) (ld 0 g475 0 rfl (by kernel_rfl) rfl (by kernel_rfl)) ?_
  refine LL.op (.bool (decide (a0_0 < 0))) (by kernel_rfl) (fun w _ => by kernel_rfl) ?_
  refine LL.op (.bool (decide (a0_0 < 0))) (by kernel_rfl) (fun w _ => by kernel_rfl) ?_
  rcases Bool.eq_false_or_eq_true (decide (a0_0 < 0)) with c476 | c476
  · rw [if_pos (of_decide_eq_true c476)] at H
    refine LL.bool 6 (decide (a0_0 < 0)) true c476 (by kernel_rfl) ?_
    refine LL.off (by kernel_rfl) (by kernel_rfl) ?_
    refine LL.off (by kernel_rfl) (by kernel_rfl) ?_
    refine LL.off (by kernel_rfl) (by kernel_rfl) ?_
    refine LL.op (.bool true) (by kernel_rfl) (fun w _ => by kernel_rfl) ?_
    refine LL.op (.bool true) (by kernel_rfl) (fun w _ => by kernel_rfl) ?_
    refine LL.off (by kernel_rfl) (by kernel_rfl) ?_
    refine LL.off (by kernel_rfl) (by kernel_rfl) ?_
    refine LL.off (by kernel_rfl) (by kernel_rfl) ?_
    refine LL.op (.bool true) (by kernel_rfl) (fun w _ => by kernel_rfl) ?_
    refine LL.op (.bool true) (by kernel_rfl) (fun w _ => by kernel_rfl) ?_
    refine LL.off (by kernel_rfl) (by kernel_rfl) ?_
    refine LL.off (by kernel_rfl) (by kernel_rfl) ?_
    refine LL.off (by kernel_rfl) (by kernel_rfl) ?_
    refine LL.op (.bool true) (by kernel_rfl) (fun w _ => by kernel_rfl) ?_
    refine LL.done (s' := [(1, .pointer (some ⟨g475, 0, none⟩)), (2, .int .i64 0), (20, .bool true)]) [1, 2, 20] (by kernel_rfl) ?_
    refine NN.then ?_
    refine J.condT (b := true) rfl (by kernel_rfl) (by kernel_rfl) ?_
    refine J.seq ?_
    refine J.plain ?_
    refine LL.op (.int .i64 25) (by kernel_rfl) (fun w _ => by kernel_rfl) ?_
    refine LL.done (s' := [(1, .pointer (some ⟨g475, 0, none⟩)), (2, .int .i64 25)]) [1, 2] (by kernel_rfl) ?_
    refine NN.then ?_
    refine J.ret ?_
    refine NN.then_ret ?_
    refine NN.fin1 2 (.int .i64 25) (by kernel_rfl) (by kernel_rfl) (.inl rfl) (fun w hi => hi.ret ?_)
    first | (cases H; rfl) | (obtain rfl := Option.some.inj H; rfl) | (simp only [Option.some.injEq, Prod.mk.injEq] at H; obtain ⟨rfl⟩ := H; rfl)
  · rw [if_neg (of_decide_eq_false c476)] at H
    refine LL.bool 6 (decide (a0_0 < 0)) false c476 (by kernel_rfl) ?_
    refine LL.op (.pointer (some ⟨g475, 0, none⟩)) (by kernel_rfl) (fun w _ => by kernel_rfl) ?_
    refine LL.op (.int .i64 a0_0) (by kernel_rfl) (ld 0 g475 0 rfl (by kernel_rfl) rfl (by kernel_rfl)) ?_
    refine LL.op (.bool (decide (20000 < a0_0))) (by kernel_rfl) (fun w _ => by kernel_rfl) ?_
    refine LL.op (.bool (decide (20000 < a0_0))) (by kernel_rfl) (fun w _ => by kernel_rfl) ?_
    refine LL.op (.bool (decide (20000 < a0_0))) (by kernel_rfl) (fun w _ => by kernel_rfl) ?_
    rcases Bool.eq_false_or_eq_true (decide (20000 < a0_0)) with c477 | c477
    · rw [if_pos (of_decide_eq_true c477)] at H
      refine LL.bool 11 (decide (20000 < a0_0)) true c477 (by kernel_rfl) ?_
      refine LL.off (by kernel_rfl) (by kernel_rfl) ?_
      refine LL.off (by kernel_rfl) (by kernel_rfl) ?_
      refine LL.off (by kernel_rfl) (by kernel_rfl) ?_
      refine LL.op (.bool true) (by kernel_rfl) (fun w _ => by kernel_rfl) ?_
      refine LL.op (.bool true) (by kernel_rfl) (fun w _ => by kernel_rfl) ?_
      refine LL.off (by kernel_rfl) (by kernel_rfl) ?_
      refine LL.off (by kernel_rfl) (by kernel_rfl) ?_
      refine LL.off (by kernel_rfl) (by kernel_rfl) ?_
      refine LL.op (.bool true) (by kernel_rfl) (fun w _ => by kernel_rfl) ?_
      refine LL.done (s' := [(1, .pointer (some ⟨g475, 0, none⟩)), (2, .int .i64 0), (20, .bool true)]) [1, 2, 20] (by kernel_rfl) ?_
      refine NN.then ?_
      refine J.condT (b := true) rfl (by kernel_rfl) (by kernel_rfl) ?_
      refine J.seq ?_
      refine J.plain ?_
      refine LL.op (.int .i64 25) (by kernel_rfl) (fun w _ => by kernel_rfl) ?_
      refine LL.done (s' := [(1, .pointer (some ⟨g475, 0, none⟩)), (2, .int .i64 25)]) [1, 2] (by kernel_rfl) ?_
      refine NN.then ?_
      refine J.ret ?_
      refine NN.then_ret ?_
      refine NN.fin1 2 (.int .i64 25) (by kernel_rfl) (by kernel_rfl) (.inl rfl) (fun w hi => hi.ret ?_)
      first | (cases H; rfl) | (obtain rfl := Option.some.inj H; rfl) | (simp only [Option.some.injEq, Prod.mk.injEq] at H; obtain ⟨rfl⟩ := H; rfl)
    · rw [if_neg (of_decide_eq_false c477)] at H
      refine LL.bool 11 (decide (20000 < a0_0)) false c477 (by kernel_rfl) ?_
      refine LL.op (.pointer (some ⟨g475, 1, none⟩)) (by kernel_rfl) (fun w _ => by kernel_rfl) ?_
      refine LL.op (.int .i64 a0_1) (by kernel_rfl) (ld 0 g475 1 rfl (by kernel_rfl) rfl (by kernel_rfl)) ?_
      refine LL.op (.bool (decide (a0_1 < 0))) (by kernel_rfl) (fun w _ => by kernel_rfl) ?_
      refine LL.op (.bool (decide (a0_1 < 0))) (by kernel_rfl) (fun w _ => by kernel_rfl) ?_
      refine LL.op (.bool (decide (a0_1 < 0))) (by kernel_rfl) (fun w _ => by kernel_rfl) ?_
      rcases Bool.eq_false_or_eq_true (decide (a0_1 < 0)) with c478 | c478
      · rw [if_pos (of_decide_eq_true c478)] at H
        refine LL.bool 16 (decide (a0_1 < 0)) true c478 (by kernel_rfl) ?_
        refine LL.off (by kernel_rfl) (by kernel_rfl) ?_
        refine LL.off (by kernel_rfl) (by kernel_rfl) ?_
        refine LL.off (by kernel_rfl) (by kernel_rfl) ?_
        refine LL.op (.bool true) (by kernel_rfl) (fun w _ => by kernel_rfl) ?_
        refine LL.done (s' := [(1, .pointer (some ⟨g475, 0, none⟩)), (2, .int .i64 0), (20, .bool true)]) [1, 2, 20] (by kernel_rfl) ?_
        refine NN.then ?_
        refine J.condT (b := true) rfl (by kernel_rfl) (by kernel_rfl) ?_
        refine J.seq ?_
        refine J.plain ?_
        refine LL.op (.int .i64 25) (by kernel_rfl) (fun w _ => by kernel_rfl) ?_
        refine LL.done (s' := [(1, .pointer (some ⟨g475, 0, none⟩)), (2, .int .i64 25)]) [1, 2] (by kernel_rfl) ?_
        refine NN.then ?_
        refine J.ret ?_
        refine NN.then_ret ?_
        refine NN.fin1 2 (.int .i64 25) (by kernel_rfl) (by kernel_rfl) (.inl rfl) (fun w hi => hi.ret ?_)
        first | (cases H; rfl) | (obtain rfl := Option.some.inj H; rfl) | (simp only [Option.some.injEq, Prod.mk.injEq] at H; obtain ⟨rfl⟩ := H; rfl)
      · rw [if_neg (of_decide_eq_false c478)] at H
        refine LL.bool 16 (decide (a0_1 < 0)) false c478 (by kernel_rfl) ?_
        refine LL.op (.pointer (some ⟨g475, 1, none⟩)) (by kernel_rfl) (fun w _ => by kernel_rfl) ?_
        refine LL.op (.int .i64 a0_1) (by kernel_rfl) (ld 0 g475 1 rfl (by kernel_rfl) rfl (by kernel_rfl)) ?_
        refine LL.op (.bool (decide (20000 < a0_1))) (by kernel_rfl) (fun w _ => by kernel_rfl) ?_
        refine LL.op (.bool (decide (20000 < a0_1))) (by kernel_rfl) (fun w _ => by kernel_rfl) ?_
        refine LL.done (s' := [(1, .pointer (some ⟨g475, 0, none⟩)), (2, .int .i64 0), (20, .bool (decide (20000 < a0_1)))]) [1, 2, 20] (by kernel_rfl) ?_
        refine NN.then ?_
        rcases Bool.eq_false_or_eq_true (decide (20000 < a0_1)) with c479 | c479
        · rw [if_pos (of_decide_eq_true c479)] at H
          refine J.condT (b := decide (20000 < a0_1)) c479 (by kernel_rfl) (by kernel_rfl) ?_
          refine J.seq ?_
          refine J.plain ?_
          refine LL.op (.int .i64 25) (by kernel_rfl) (fun w _ => by kernel_rfl) ?_
          refine LL.done (s' := [(1, .pointer (some ⟨g475, 0, none⟩)), (2, .int .i64 25)]) [1, 2] (by kernel_rfl) ?_
          refine NN.then ?_
          refine J.ret ?_
          refine NN.then_ret ?_
          refine NN.fin1 2 (.int .i64 25) (by kernel_rfl) (by kernel_rfl) (.inl rfl) (fun w hi => hi.ret ?_)
          first | (cases H; rfl) | (obtain rfl := Option.some.inj H; rfl) | (simp only [Option.some.injEq, Prod.mk.injEq] at H; obtain ⟨rfl⟩ := H; rfl)
        · rw [if_neg (of_decide_eq_false c479)] at H
          refine J.condF (b := decide (20000 < a0_1)) c479 (by kernel_rfl) (by kernel_rfl) ?_
          refine J.skip ?_
          refine NN.then ?_
          refine J.seq ?_
          refine J.seq ?_
          refine J.plain ?_
          refine LL.op (.pointer (some ⟨g475, 2, none⟩)) (by kernel_rfl) (fun w _ => by kernel_rfl) ?_
          refine LL.op (.int .i64 a0_2) (by kernel_rfl) (ld 0 g475 2 rfl (by kernel_rfl) rfl (by kernel_rfl)) ?_
          refine LL.op (.bool (decide (a0_2 < 0))) (by kernel_rfl) (fun w _ => by kernel_rfl) ?_
          refine LL.op (.bool (decide (a0_2 < 0))) (by kernel_rfl) (fun w _ => by kernel_rfl) ?_
          rcases Bool.eq_false_or_eq_true (decide (a0_2 < 0)) with c480 | c480
          · rw [if_pos (of_decide_eq_true c480)] at H
            refine LL.bool 24 (decide (a0_2 < 0)) true c480 (by kernel_rfl) ?_
            refine LL.off (by kernel_rfl) (by kernel_rfl) ?_
            refine LL.off (by kernel_rfl) (by kernel_rfl) ?_
            refine LL.off (by kernel_rfl) (by kernel_rfl) ?_
            refine LL.op (.bool true) (by kernel_rfl) (fun w _ => by kernel_rfl) ?_
            refine LL.done (s' := [(2, .int .i64 0), (28, .bool true)]) [2, 28] (by kernel_rfl) ?_
            refine NN.then ?_
            refine J.condT (b := true) rfl (by kernel_rfl) (by kernel_rfl) ?_
            refine J.seq ?_
            refine J.plain ?_
            refine LL.op (.int .i64 9) (by kernel_rfl) (fun w _ => by kernel_rfl) ?_
            refine LL.done (s' := [(2, .int .i64 9)]) [2] (by kernel_rfl) ?_
            refine NN.then ?_
            refine J.ret ?_
            refine NN.then_ret ?_
            refine NN.fin1 2 (.int .i64 9) (by kernel_rfl) (by kernel_rfl) (.inl rfl) (fun w hi => hi.ret ?_)
            first | (cases H; rfl) | (obtain rfl := Option.some.inj H; rfl) | (simp only [Option.some.injEq, Prod.mk.injEq] at H; obtain ⟨rfl⟩ := H; rfl)
          · rw [if_neg (of_decide_eq_false c480)] at H
            refine LL.bool 24 (decide (a0_2 < 0)) false c480 (by kernel_rfl) ?_
            refine LL.op (.pointer (some ⟨g475, 2, none⟩)) (by kernel_rfl) (fun w _ => by kernel_rfl) ?_
            refine LL.op (.int .i64 a0_2) (by kernel_rfl) (ld 0 g475 2 rfl (by kernel_rfl) rfl (by kernel_rfl)) ?_
            refine LL.op (.bool (decide (1099511627776 < a0_2))) (by kernel_rfl) (fun w _ => by kernel_rfl) ?_
            refine LL.op (.bool (decide (1099511627776 < a0_2))) (by kernel_rfl) (fun w _ => by kernel_rfl) ?_
            refine LL.done (s' := [(2, .int .i64 0), (28, .bool (decide (1099511627776 < a0_2)))]) [2, 28] (by kernel_rfl) ?_
            refine NN.then ?_
            rcases Bool.eq_false_or_eq_true (decide (1099511627776 < a0_2)) with c481 | c481
            · rw [if_pos (of_decide_eq_true c481)] at H
              refine J.condT (b := decide (1099511627776 < a0_2)) c481 (by kernel_rfl) (by kernel_rfl) ?_
              refine J.seq ?_
              refine J.plain ?_
              refine LL.op (.int .i64 9) (by kernel_rfl) (fun w _ => by kernel_rfl) ?_
              refine LL.done (s' := [(2, .int .i64 9)]) [2] (by kernel_rfl) ?_
              refine NN.then ?_
              refine J.ret ?_
              refine NN.then_ret ?_
              refine NN.fin1 2 (.int .i64 9) (by kernel_rfl) (by kernel_rfl) (.inl rfl) (fun w hi => hi.ret ?_)
              first | (cases H; rfl) | (obtain rfl := Option.some.inj H; rfl) | (simp only [Option.some.injEq, Prod.mk.injEq] at H; obtain ⟨rfl⟩ := H; rfl)
            · rw [if_neg (of_decide_eq_false c481)] at H
              refine J.condF (b := decide (1099511627776 < a0_2)) c481 (by kernel_rfl) (by kernel_rfl) ?_
              refine J.skip ?_
              refine NN.then ?_
              refine J.seq ?_
              refine J.plain ?_
              refine LL.op (.int .i64 0) (by kernel_rfl) (fun w _ => by kernel_rfl) ?_
              refine LL.done (s' := [(2, .int .i64 0)]) [2] (by kernel_rfl) ?_
              refine NN.then ?_
              refine J.ret ?_
              refine NN.fin1 2 (.int .i64 0) (by kernel_rfl) (by kernel_rfl) (.inl rfl) (fun w hi => hi.ret ?_)
              first | (cases H; rfl) | (obtain rfl := Option.some.inj H; rfl) | (simp only [Option.some.injEq, Prod.mk.injEq] at H; obtain ⟨rfl⟩ := H; rfl)

/-! ### moist_Check: function 79 -/
def moist_Check.f (a0_0 : Int) (a0_1 : Int) (a0_2 : Int) : Option (Int) := if (mn a0_0 a0_1) < 0 then (some 25) else (if 20000 < (mx a0_0 a0_1) then (some 25) else (if a0_2 < 0 then (some 9) else (if 1099511627776 < a0_2 then (some 9) else (some 0))))
set_option maxRecDepth 100000 in
theorem moist_Check.calls (a0_0 : Int) (a0_1 : Int) (a0_2 : Int)    (r1 : Int) (w : World)    (h : moist_Check.f a0_0 a0_1 a0_2 = some r1) :
    Calls Try.prog 79 #[.agg #[.int .i64 a0_0, .int .i64 a0_1, .int .i64 a0_2]] w (Ret w (.int .i64 r1)) := by
  have H := h
  clear h
  unfold moist_Check.f at H
  refine Go.Saw.calls (args := [.agg #[.int .i64 a0_0, .int .i64 a0_1, .int .i64 a0_2]]) Try.func79 rfl Try.ntmps79 (by kernel_rfl) ?_
  refine J.seq ?_
  refine J.plain ?_
  refine LL.box 28 (.tmp 0) [.int .i64 a0_0, .int .i64 a0_1, .int .i64 a0_2] (by kernel_rfl) rfl (by kernel_rfl) (fun g482 => ?_)
  refine LL.op (.int .i64 0) (by kernel_rfl) (fun w _ => by kernel_rfl) ?_
  refine LL.done (s' := [(1, .pointer (some ⟨g482, 0, none⟩)), (2, .int .i64 0)]) [1, 2] (by kernel_rfl) ?_
  refine NN.then ?_
  refine J.seq ?_
  refine J.seq ?_
  refine J.plain ?_
  refine LL.op (.pointer (some ⟨g482, 0, none⟩)) (by kernel_rfl) (fun w _ => by kernel_rfl) ?_
  refine LL.op (.int .i64 a0_0) (by kernel_rfl) (ld 0 g482 0 rfl (by kernel_rfl) rfl (by kernel_rfl)) ?_
  refine LL.op (.pointer (some ⟨g482, 1, none⟩)) (by kernel_rfl) (fun w _ => by kernel_rfl) ?_
  refine LL.op (.int .i64 a0_1) (by kernel_rfl) (ld 0 g482 1 rfl (by kernel_rfl) rfl (by kernel_rfl)) ?_
  refine LL.op (.int .i64 (mn a0_0 a0_1)) (by kernel_rfl) (fun w _ => by kernel_rfl) ?_
  refine LL.op (.bool (decide ((mn a0_0 a0_1) < 0))) (by kernel_rfl) (fun w _ => by kernel_rfl) ?_
  refine LL.op (.bool (decide ((mn a0_0 a0_1) < 0))) (by kernel_rfl) (fun w _ => by kernel_rfl) ?_
  rcases Bool.eq_false_or_eq_true (decide ((mn a0_0 a0_1) < 0)) with c483 | c483
  · rw [if_pos (of_decide_eq_true c483)] at H
    refine LL.bool 9 (decide ((mn a0_0 a0_1) < 0)) true c483 (by kernel_rfl) ?_
    refine LL.off (by kernel_rfl) (by kernel_rfl) ?_
    refine LL.off (by kernel_rfl) (by kernel_rfl) ?_
    refine LL.off (by kernel_rfl) (by kernel_rfl) ?_
    refine LL.off (by kernel_rfl) (by kernel_rfl) ?_
    refine LL.off (by kernel_rfl) (by kernel_rfl) ?_
    refine LL.off (by kernel_rfl) (by kernel_rfl) ?_
    refine LL.op (.bool true) (by kernel_rfl) (fun w _ => by kernel_rfl) ?_
    refine LL.done (s' := [(1, .pointer (some ⟨g482, 0, none⟩)), (2, .int .i64 0), (16, .bool true)]) [1, 2, 16] (by kernel_rfl) ?_
    refine NN.then ?_
    refine J.condT (b := true) rfl (by kernel_rfl) (by kernel_rfl) ?_
    refine J.seq ?_
    refine J.plain ?_
    refine LL.op (.int .i64 25) (by kernel_rfl) (fun w _ => by kernel_rfl) ?_
    refine LL.done (s' := [(1, .pointer (some ⟨g482, 0, none⟩)), (2, .int .i64 25)]) [1, 2] (by kernel_rfl) ?_
    refine NN.then ?_
    refine J.ret ?_
    refine NN.then_ret ?_
    refine NN.fin1 2 (.int .i64 25) (by kernel_rfl) (by kernel_rfl) (.inl rfl) (fun w hi => hi.ret ?_)
    first | (cases H; rfl) | (obtain rfl := Option.some.inj H; rfl) | (simp only [Option.some.injEq, Prod.mk.injEq] at H; obtain ⟨rfl⟩ := H; rfl)
  · rw [if_neg (of_decide_eq_false c483)] at H
    refine LL.bool 9 (decide ((mn a0_0 a0_1) < 0)) false c483 (by kernel_rfl) ?_
    refine LL.op (.pointer (some ⟨g482, 0, none⟩)) (by kernel_rfl) (fun w _ => by kernel_rfl) ?_
    refine LL.op (.int .i64 a0_0) (by kernel_rfl) (ld 0 g482 0 rfl (by kernel_rfl) rfl (by kernel_rfl)) ?_
    refine LL.op (.pointer (some ⟨g482, 1, none⟩)) (by kernel_rfl) (fun w _ => by kernel_rfl) ?_
    refine LL.op (.int .i64 a0_1) (by kernel_rfl) (ld 0 g482 1 rfl (by kernel_rfl) rfl (by kernel_rfl)) ?_
    refine LL.op (.int .i64 (mx a0_0 a0_1)) (by kernel_rfl) (fun w _ => by kernel_rfl) ?_
    refine LL.op (.bool (decide (20000 < (mx a0_0 a0_1)))) (by kernel_rfl) (fun w _ => by kernel_rfl) ?_
    refine LL.op (.bool (decide (20000 < (mx a0_0 a0_1)))) (by kernel_rfl) (fun w _ => by kernel_rfl) ?_
    refine LL.done (s' := [(1, .pointer (some ⟨g482, 0, none⟩)), (2, .int .i64 0), (16, .bool (decide (20000 < (mx a0_0 a0_1))))]) [1, 2, 16] (by kernel_rfl) ?_
    refine NN.then ?_
    rcases Bool.eq_false_or_eq_true (decide (20000 < (mx a0_0 a0_1))) with c484 | c484
    · rw [if_pos (of_decide_eq_true c484)] at H
      refine J.condT (b := decide (20000 < (mx a0_0 a0_1))) c484 (by kernel_rfl) (by kernel_rfl) ?_
      refine J.seq ?_
      refine J.plain ?_
      refine LL.op (.int .i64 25) (by kernel_rfl) (fun w _ => by kernel_rfl) ?_
      refine LL.done (s' := [(1, .pointer (some ⟨g482, 0, none⟩)), (2, .int .i64 25)]) [1, 2] (by kernel_rfl) ?_
      refine NN.then ?_
      refine J.ret ?_
      refine NN.then_ret ?_
      refine NN.fin1 2 (.int .i64 25) (by kernel_rfl) (by kernel_rfl) (.inl rfl) (fun w hi => hi.ret ?_)
      first | (cases H; rfl) | (obtain rfl := Option.some.inj H; rfl) | (simp only [Option.some.injEq, Prod.mk.injEq] at H; obtain ⟨rfl⟩ := H; rfl)
    · rw [if_neg (of_decide_eq_false c484)] at H
      refine J.condF (b := decide (20000 < (mx a0_0 a0_1))) c484 (by kernel_rfl) (by kernel_rfl) ?_
      refine J.skip ?_
      refine NN.then ?_
      refine J.seq ?_
      refine J.seq ?_
      refine J.plain ?_
      refine LL.op (.pointer (some ⟨g482, 2, none⟩)) (by kernel_rfl) (fun w _ => by kernel_rfl) ?_
      refine LL.op (.int .i64 a0_2) (by kernel_rfl) (ld 0 g482 2 rfl (by kernel_rfl) rfl (by kernel_rfl)) ?_
      refine LL.op (.bool (decide (a0_2 < 0))) (by kernel_rfl) (fun w _ => by kernel_rfl) ?_
      refine LL.op (.bool (decide (a0_2 < 0))) (by kernel_rfl) (fun w _ => by kernel_rfl) ?_
      rcases Bool.eq_false_or_eq_true (decide (a0_2 < 0)) with c485 | c485
      · rw [if_pos (of_decide_eq_true c485)] at H
        refine LL.bool 20 (decide (a0_2 < 0)) true c485 (by kernel_rfl) ?_
        refine LL.off (by kernel_rfl) (by kernel_rfl) ?_
        refine LL.off (by kernel_rfl) (by kernel_rfl) ?_
        refine LL.off (by kernel_rfl) (by kernel_rfl) ?_
        refine LL.op (.bool true) (by kernel_rfl) (fun w _ => by kernel_rfl) ?_
        refine LL.done (s' := [(2, .int .i64 0), (24, .bool true)]) [2, 24] (by kernel_rfl) ?_
        refine NN.then ?_
        refine J.condT (b := true) rfl (by kernel_rfl) (by kernel_rfl) ?_
        refine J.seq ?_
        refine J.plain ?_
        refine LL.op (.int .i64 9) (by kernel_rfl) (fun w _ => by kernel_rfl) ?_
        refine LL.done (s' := [(2, .int .i64 9)]) [2] (by kernel_rfl) ?_
        refine NN.then ?_
        refine J.ret ?_
        refine NN.then_ret ?_
        refine NN.fin1 2 (.int .i64 9) (by kernel_rfl) (by kernel_rfl) (.inl rfl) (fun w hi => hi.ret ?_)
        first | (cases H; rfl) | (obtain rfl := Option.some.inj H; rfl) | (simp only [Option.some.injEq, Prod.mk.injEq] at H; obtain ⟨rfl⟩ := H; rfl)
      · rw [if_neg (of_decide_eq_false c485)] at H
        refine LL.bool 20 (decide (a0_2 < 0)) false c485 (by kernel_rfl) ?_
        refine LL.op (.pointer (some ⟨g482, 2, none⟩)) (by kernel_rfl) (fun w _ => by kernel_rfl) ?_
        refine LL.op (.int .i64 a0_2) (by kernel_rfl) (ld 0 g482 2 rfl (by kernel_rfl) rfl (by kernel_rfl)) ?_
        refine LL.op (.bool (decide (1099511627776 < a0_2))) (by kernel_rfl) (fun w _ => by kernel_rfl) ?_
        refine LL.op (.bool (decide (1099511627776 < a0_2))) (by kernel_rfl) (fun w _ => by kernel_rfl) ?_
        refine LL.done (s' := [(2, .int .i64 0), (24, .bool (decide (1099511627776 < a0_2)))]) [2, 24] (by kernel_rfl) ?_
        refine NN.then ?_
        rcases Bool.eq_false_or_eq_true (decide (1099511627776 < a0_2)) with c486 | c486
        · rw [if_pos (of_decide_eq_true c486)] at H
          refine J.condT (b := decide (1099511627776 < a0_2)) c486 (by kernel_rfl) (by kernel_rfl) ?_
          refine J.seq ?_
          refine J.plain ?_
          refine LL.op (.int .i64 9) (by kernel_rfl) (fun w _ => by kernel_rfl) ?_
          refine LL.done (s' := [(2, .int .i64 9)]) [2] (by kernel_rfl) ?_
          refine NN.then ?_
          refine J.ret ?_
          refine NN.then_ret ?_
          refine NN.fin1 2 (.int .i64 9) (by kernel_rfl) (by kernel_rfl) (.inl rfl) (fun w hi => hi.ret ?_)
          first | (cases H; rfl) | (obtain rfl := Option.some.inj H; rfl) | (simp only [Option.some.injEq, Prod.mk.injEq] at H; obtain ⟨rfl⟩ := H; rfl)
        · rw [if_neg (of_decide_eq_false c486)] at H
          refine J.condF (b := decide (1099511627776 < a0_2)) c486 (by kernel_rfl) (by kernel_rfl) ?_
          refine J.skip ?_
          refine NN.then ?_
          refine J.seq ?_
          refine J.plain ?_
          refine LL.op (.int .i64 0) (by kernel_rfl) (fun w _ => by kernel_rfl) ?_
          refine LL.done (s' := [(2, .int .i64 0)]) [2] (by kernel_rfl) ?_
          refine NN.then ?_
          refine J.ret ?_
          refine NN.fin1 2 (.int .i64 0) (by kernel_rfl) (by kernel_rfl) (.inl rfl) (fun w hi => hi.ret ?_)
          first | (cases H; rfl) | (obtain rfl := Option.some.inj H; rfl) | (simp only [Option.some.injEq, Prod.mk.injEq] at H; obtain ⟨rfl⟩ := H; rfl)

/-! ### moist_Mean: function 57 -/
def moist_Mean.f (a0_0 : Int) (a0_1 : Int) (a0_2 : Int) : Option (Int) := (moist_Check.f a0_0 a0_1 a0_2).bind fun x488 => (if x488 = 0 then (some (IntKind.i64.wrap (Int.tdiv (IntKind.i64.wrap (a0_0 + (IntKind.i64.wrap (2 * a0_1)))) 3))) else (some 0))
set_option maxRecDepth 100000 in
theorem moist_Mean.calls (a0_0 : Int) (a0_1 : Int) (a0_2 : Int)    (r1 : Int) (w : World)    (h : moist_Mean.f a0_0 a0_1 a0_2 = some r1) :
    Calls Try.prog 57 #[.agg #[.int .i64 a0_0, .int .i64 a0_1, .int .i64 a0_2]] w (Ret w (.int .i64 r1)) := by
  have H := h
  clear h
  unfold moist_Mean.f at H
  refine Go.Saw.calls (args := [.agg #[.int .i64 a0_0, .int .i64 a0_1, .int .i64 a0_2]]) Try.func57 rfl Try.ntmps57 (by kernel_rfl) ?_
  refine J.seq ?_
  refine J.plain ?_
  refine LL.box 28 (.tmp 0) [.int .i64 a0_0, .int .i64 a0_1, .int .i64 a0_2] (by kernel_rfl) rfl (by kernel_rfl) (fun g487 => ?_)
  refine LL.op (.int .i64 0) (by kernel_rfl) (fun w _ => by kernel_rfl) ?_
  refine LL.done (s' := [(1, .pointer (some ⟨g487, 0, none⟩)), (2, .int .i64 0)]) [1, 2] (by kernel_rfl) ?_
  refine NN.then ?_
  refine J.seq ?_
  refine J.seq ?_
  refine J.plain ?_
  refine LL.op (.agg #[.int .i64 a0_0, .int .i64 a0_1, .int .i64 a0_2]) (by kernel_rfl) (ld 0 g487 0 rfl (by kernel_rfl) rfl (by kernel_rfl)) ?_
  obtain ⟨x488, hx488, H⟩ := bind_some H
  refine LL.call 79 #[.agg #[.int .i64 a0_0, .int .i64 a0_1, .int .i64 a0_2]] (.int .i64 x488) (by kernel_rfl) (fun w => by kernel_rfl) (fun w hw => moist_Check.calls a0_0 a0_1 a0_2   _ w   hx488) ?_
  refine LL.op (.bool (!(x488 == 0))) (by kernel_rfl) (fun w _ => by kernel_rfl) ?_
  refine LL.done (s' := [(1, .pointer (some ⟨g487, 0, none⟩)), (2, .int .i64 0), (5, .bool (!(x488 == 0)))]) [1, 2, 5] (by kernel_rfl) ?_
  refine NN.then ?_
  rcases Bool.eq_false_or_eq_true ((x488 == 0)) with c489 | c489
  · rw [if_pos (eq_of_beq c489)] at H
    refine J.condF (b := !(x488 == 0)) (by rw [show (!(x488 == 0)) = !((x488 == 0)) from rfl, c489]; rfl) (by kernel_rfl) (by kernel_rfl) ?_
    refine J.skip ?_
    refine NN.then ?_
    refine J.seq ?_
    refine J.plain ?_
    refine LL.op (.pointer (some ⟨g487, 0, none⟩)) (by kernel_rfl) (fun w _ => by kernel_rfl) ?_
    refine LL.op (.int .i64 a0_0) (by kernel_rfl) (ld 0 g487 0 rfl (by kernel_rfl) rfl (by kernel_rfl)) ?_
    refine LL.op (.pointer (some ⟨g487, 1, none⟩)) (by kernel_rfl) (fun w _ => by kernel_rfl) ?_
    refine LL.op (.int .i64 a0_1) (by kernel_rfl) (ld 0 g487 1 rfl (by kernel_rfl) rfl (by kernel_rfl)) ?_
    refine LL.op (.int .i64 (IntKind.i64.wrap (2 * a0_1))) (by kernel_rfl) (fun w _ => by kernel_rfl) ?_
    refine LL.op (.int .i64 (IntKind.i64.wrap (a0_0 + (IntKind.i64.wrap (2 * a0_1))))) (by kernel_rfl) (fun w _ => by kernel_rfl) ?_
    refine LL.op (.int .i64 (IntKind.i64.wrap (Int.tdiv (IntKind.i64.wrap (a0_0 + (IntKind.i64.wrap (2 * a0_1)))) 3))) (by kernel_rfl) (fun w _ => by kernel_rfl) ?_
    refine LL.op (.int .i64 (IntKind.i64.wrap (Int.tdiv (IntKind.i64.wrap (a0_0 + (IntKind.i64.wrap (2 * a0_1)))) 3))) (by kernel_rfl) (fun w _ => by kernel_rfl) ?_
    refine LL.done (s' := [(2, .int .i64 (IntKind.i64.wrap (Int.tdiv (IntKind.i64.wrap (a0_0 + (IntKind.i64.wrap (2 * a0_1)))) 3)))]) [2] (by kernel_rfl) ?_
    refine NN.then ?_
    refine J.ret ?_
    refine NN.fin1 2 (.int .i64 (IntKind.i64.wrap (Int.tdiv (IntKind.i64.wrap (a0_0 + (IntKind.i64.wrap (2 * a0_1)))) 3))) (by kernel_rfl) (by kernel_rfl) (.inl rfl) (fun w hi => hi.ret ?_)
    first | (cases H; rfl) | (obtain rfl := Option.some.inj H; rfl) | (simp only [Option.some.injEq, Prod.mk.injEq] at H; obtain ⟨rfl⟩ := H; rfl)
  · rw [if_neg (nebf c489)] at H
    refine J.condT (b := !(x488 == 0)) (by rw [show (!(x488 == 0)) = !((x488 == 0)) from rfl, c489]; rfl) (by kernel_rfl) (by kernel_rfl) ?_
    refine J.seq ?_
    refine J.plain ?_
    refine LL.op (.int .i64 0) (by kernel_rfl) (fun w _ => by kernel_rfl) ?_
    refine LL.done (s' := [(1, .pointer (some ⟨g487, 0, none⟩)), (2, .int .i64 0)]) [1, 2] (by kernel_rfl) ?_
    refine NN.then ?_
    refine J.ret ?_
    refine NN.then_ret ?_
    refine NN.fin1 2 (.int .i64 0) (by kernel_rfl) (by kernel_rfl) (.inl rfl) (fun w hi => hi.ret ?_)
    first | (cases H; rfl) | (obtain rfl := Option.some.inj H; rfl) | (simp only [Option.some.injEq, Prod.mk.injEq] at H; obtain ⟨rfl⟩ := H; rfl)

/-! ### sawmillref36_Mean: function 58 -/
def sawmillref36_Mean.f (a0_0 : Int) (a0_1 : Int) (a0_2 : Int) : Option (Int) := (sawmillref36_Check.f a0_0 a0_1 a0_2).bind fun x491 => (if x491 = 0 then (some (IntKind.i64.wrap (Int.tdiv (IntKind.i64.wrap (a0_0 + (IntKind.i64.wrap (2 * a0_1)))) 3))) else (some 0))
set_option maxRecDepth 100000 in
theorem sawmillref36_Mean.calls (a0_0 : Int) (a0_1 : Int) (a0_2 : Int)    (r1 : Int) (w : World)    (h : sawmillref36_Mean.f a0_0 a0_1 a0_2 = some r1) :
    Calls Try.prog 58 #[.agg #[.int .i64 a0_0, .int .i64 a0_1, .int .i64 a0_2]] w (Ret w (.int .i64 r1)) := by
  have H := h
  clear h
  unfold sawmillref36_Mean.f at H
  refine Go.Saw.calls (args := [.agg #[.int .i64 a0_0, .int .i64 a0_1, .int .i64 a0_2]]) Try.func58 rfl Try.ntmps58 (by kernel_rfl) ?_
  refine J.seq ?_
  refine J.plain ?_
  refine LL.box 28 (.tmp 0) [.int .i64 a0_0, .int .i64 a0_1, .int .i64 a0_2] (by kernel_rfl) rfl (by kernel_rfl) (fun g490 => ?_)
  refine LL.op (.int .i64 0) (by kernel_rfl) (fun w _ => by kernel_rfl) ?_
  refine LL.done (s' := [(1, .pointer (some ⟨g490, 0, none⟩)), (2, .int .i64 0)]) [1, 2] (by kernel_rfl) ?_
  refine NN.then ?_
  refine J.seq ?_
  refine J.seq ?_
  refine J.plain ?_
  refine LL.op (.agg #[.int .i64 a0_0, .int .i64 a0_1, .int .i64 a0_2]) (by kernel_rfl) (ld 0 g490 0 rfl (by kernel_rfl) rfl (by kernel_rfl)) ?_
  obtain ⟨x491, hx491, H⟩ := bind_some H
  refine LL.call 53 #[.agg #[.int .i64 a0_0, .int .i64 a0_1, .int .i64 a0_2]] (.int .i64 x491) (by kernel_rfl) (fun w => by kernel_rfl) (fun w hw => sawmillref36_Check.calls a0_0 a0_1 a0_2   _ w   hx491) ?_
  refine LL.op (.bool (!(x491 == 0))) (by kernel_rfl) (fun w _ => by kernel_rfl) ?_
  refine LL.done (s' := [(1, .pointer (some ⟨g490, 0, none⟩)), (2, .int .i64 0), (5, .bool (!(x491 == 0)))]) [1, 2, 5] (by kernel_rfl) ?_
  refine NN.then ?_
  rcases Bool.eq_false_or_eq_true ((x491 == 0)) with c492 | c492
  · rw [if_pos (eq_of_beq c492)] at H
    refine J.condF (b := !(x491 == 0)) (by rw [show (!(x491 == 0)) = !((x491 == 0)) from rfl, c492]; rfl) (by kernel_rfl) (by kernel_rfl) ?_
    refine J.skip ?_
    refine NN.then ?_
    refine J.seq ?_
    refine J.plain ?_
    refine LL.op (.pointer (some ⟨g490, 0, none⟩)) (by kernel_rfl) (fun w _ => by kernel_rfl) ?_
    refine LL.op (.int .i64 a0_0) (by kernel_rfl) (ld 0 g490 0 rfl (by kernel_rfl) rfl (by kernel_rfl)) ?_
    refine LL.op (.pointer (some ⟨g490, 1, none⟩)) (by kernel_rfl) (fun w _ => by kernel_rfl) ?_
    refine LL.op (.int .i64 a0_1) (by kernel_rfl) (ld 0 g490 1 rfl (by kernel_rfl) rfl (by kernel_rfl)) ?_
    refine LL.op (.int .i64 (IntKind.i64.wrap (2 * a0_1))) (by kernel_rfl) (fun w _ => by kernel_rfl) ?_
    refine LL.op (.int .i64 (IntKind.i64.wrap (a0_0 + (IntKind.i64.wrap (2 * a0_1))))) (by kernel_rfl) (fun w _ => by kernel_rfl) ?_
    refine LL.op (.int .i64 (IntKind.i64.wrap (Int.tdiv (IntKind.i64.wrap (a0_0 + (IntKind.i64.wrap (2 * a0_1)))) 3))) (by kernel_rfl) (fun w _ => by kernel_rfl) ?_
    refine LL.op (.int .i64 (IntKind.i64.wrap (Int.tdiv (IntKind.i64.wrap (a0_0 + (IntKind.i64.wrap (2 * a0_1)))) 3))) (by kernel_rfl) (fun w _ => by kernel_rfl) ?_
    refine LL.done (s' := [(2, .int .i64 (IntKind.i64.wrap (Int.tdiv (IntKind.i64.wrap (a0_0 + (IntKind.i64.wrap (2 * a0_1)))) 3)))]) [2] (by kernel_rfl) ?_
    refine NN.then ?_
    refine J.ret ?_
    refine NN.fin1 2 (.int .i64 (IntKind.i64.wrap (Int.tdiv (IntKind.i64.wrap (a0_0 + (IntKind.i64.wrap (2 * a0_1)))) 3))) (by kernel_rfl) (by kernel_rfl) (.inl rfl) (fun w hi => hi.ret ?_)
    first | (cases H; rfl) | (obtain rfl := Option.some.inj H; rfl) | (simp only [Option.some.injEq, Prod.mk.injEq] at H; obtain ⟨rfl⟩ := H; rfl)
  · rw [if_neg (nebf c492)] at H
    refine J.condT (b := !(x491 == 0)) (by rw [show (!(x491 == 0)) = !((x491 == 0)) from rfl, c492]; rfl) (by kernel_rfl) (by kernel_rfl) ?_
    refine J.seq ?_
    refine J.plain ?_
    refine LL.op (.int .i64 0) (by kernel_rfl) (fun w _ => by kernel_rfl) ?_
    refine LL.done (s' := [(1, .pointer (some ⟨g490, 0, none⟩)), (2, .int .i64 0)]) [1, 2] (by kernel_rfl) ?_
    refine NN.then ?_
    refine J.ret ?_
    refine NN.then_ret ?_
    refine NN.fin1 2 (.int .i64 0) (by kernel_rfl) (by kernel_rfl) (.inl rfl) (fun w hi => hi.ret ?_)
    first | (cases H; rfl) | (obtain rfl := Option.some.inj H; rfl) | (simp only [Option.some.injEq, Prod.mk.injEq] at H; obtain ⟨rfl⟩ := H; rfl)

/-! ### sawmillref41_Width: function 52 -/
def sawmillref41_Width.f (a0_0 : ByteArray) (a0_1 : ByteArray) (a0_2 : ByteArray) (a0_3 : Int) (a0_4 : Int) (a0_5 : Int) (a0_6 : Int) (a0_7 : Int) (a0_8 : Int) (a0_9 : Int) (a0_10 : Int) (a0_11 : List E41) (a0_12 : Int) (a0_13 : Int) (a0_14 : Int) (a0_15 : Int) (a0_16 : Bool) (a0_17 : Int) : Option (Int) := (sawmillref03_Len.f a0_4 a0_5).bind fun x494 => ((sawmillref03_Len.f a0_6 a0_7).bind fun x495 => (some (mx x494 x495)))
set_option maxRecDepth 100000 in
theorem sawmillref41_Width.calls (a0_0 : ByteArray) (a0_1 : ByteArray) (a0_2 : ByteArray) (a0_3 : Int) (a0_4 : Int) (a0_5 : Int) (a0_6 : Int) (a0_7 : Int) (a0_8 : Int) (a0_9 : Int) (a0_10 : Int) (a0_11 : List E41) (a0_12 : Int) (a0_13 : Int) (a0_14 : Int) (a0_15 : Int) (a0_16 : Bool) (a0_17 : Int)  (Aa0_11 : Option Addr) (ca0_11 : Nat)  (r1 : Int) (w : World)   (ha0_11 : KRow (Cx.start w) enc41 7 a0_11 Aa0_11) (h : sawmillref41_Width.f a0_0 a0_1 a0_2 a0_3 a0_4 a0_5 a0_6 a0_7 a0_8 a0_9 a0_10 a0_11 a0_12 a0_13 a0_14 a0_15 a0_16 a0_17 = some r1) :
    Calls Try.prog 52 #[.agg #[.string a0_0, .string a0_1, .string a0_2, .int .i64 a0_3, .int .i64 a0_4, .int .i64 a0_5, .int .i64 a0_6, .int .i64 a0_7, .int .i64 a0_8, .int .i64 a0_9, .int .i64 a0_10, .slice Aa0_11 a0_11.length ca0_11, .int .i64 a0_12, .int .i64 a0_13, .int .i64 a0_14, .int .i64 a0_15, .bool a0_16, .int .i64 a0_17]] w (Ret w (.int .i64 r1)) := by
  have H := h
  clear h
  unfold sawmillref41_Width.f at H
  refine Go.Saw.calls (args := [.agg #[.string a0_0, .string a0_1, .string a0_2, .int .i64 a0_3, .int .i64 a0_4, .int .i64 a0_5, .int .i64 a0_6, .int .i64 a0_7, .int .i64 a0_8, .int .i64 a0_9, .int .i64 a0_10, .slice Aa0_11 a0_11.length ca0_11, .int .i64 a0_12, .int .i64 a0_13, .int .i64 a0_14, .int .i64 a0_15, .bool a0_16, .int .i64 a0_17]]) Try.func52 rfl Try.ntmps52 (by kernel_rfl) ?_
  refine J.seq ?_
  refine J.plain ?_
  refine LL.box 30 (.tmp 0) [.string a0_0, .string a0_1, .string a0_2, .int .i64 a0_3, .int .i64 a0_4, .int .i64 a0_5, .int .i64 a0_6, .int .i64 a0_7, .int .i64 a0_8, .int .i64 a0_9, .int .i64 a0_10, .slice Aa0_11 a0_11.length ca0_11, .int .i64 a0_12, .int .i64 a0_13, .int .i64 a0_14, .int .i64 a0_15, .bool a0_16, .int .i64 a0_17] (by kernel_rfl) rfl (by kernel_rfl) (fun g493 => ?_)
  refine LL.op (.int .i64 0) (by kernel_rfl) (fun w _ => by kernel_rfl) ?_
  refine LL.done (s' := [(1, .pointer (some ⟨g493, 0, none⟩)), (2, .int .i64 0)]) [1, 2] (by kernel_rfl) ?_
  refine NN.then ?_
  refine J.seq ?_
  refine J.drawn follows (by kernel_rfl) ?_
  refine QQ.op (.pointer (some ⟨g493, 4, none⟩)) (by kernel_rfl) (fun w _ => by kernel_rfl) ?_
  refine QQ.op (.pointer (some ⟨g493, 4, none⟩)) (by kernel_rfl) (fun w _ => by kernel_rfl) ?_
  refine QQ.op (.agg #[.int .i64 a0_4, .int .i64 a0_5]) (by kernel_rfl) (ld 0 g493 4 rfl (by kernel_rfl) rfl (by kernel_rfl)) ?_
  obtain ⟨x494, hx494, H⟩ := bind_some H
  refine QQ.call 28 #[.agg #[.int .i64 a0_4, .int .i64 a0_5]] (.int .i64 x494) (by kernel_rfl) (fun w => by kernel_rfl) (fun w hw => sawmillref03_Len.calls a0_4 a0_5   _ w   hx494) ?_
  refine QQ.op (.pointer (some ⟨g493, 4, none⟩)) (by kernel_rfl) (fun w _ => by kernel_rfl) ?_
  refine QQ.op (.pointer (some ⟨g493, 6, none⟩)) (by kernel_rfl) (fun w _ => by kernel_rfl) ?_
  refine QQ.op (.agg #[.int .i64 a0_6, .int .i64 a0_7]) (by kernel_rfl) (ld 0 g493 6 rfl (by kernel_rfl) rfl (by kernel_rfl)) ?_
  obtain ⟨x495, hx495, H⟩ := bind_some H
  refine QQ.call 28 #[.agg #[.int .i64 a0_6, .int .i64 a0_7]] (.int .i64 x495) (by kernel_rfl) (fun w => by kernel_rfl) (fun w hw => sawmillref03_Len.calls a0_6 a0_7   _ w   hx495) ?_
  refine QQ.op (.int .i64 (mx x494 x495)) (by kernel_rfl) (fun w _ => by kernel_rfl) ?_
  refine QQ.op (.int .i64 (mx x494 x495)) (by kernel_rfl) (fun w _ => by kernel_rfl) ?_
  refine QQ.done (s' := [(2, .int .i64 (mx x494 x495))]) [2] (by kernel_rfl) ?_
  refine NN.then ?_
  refine J.ret ?_
  refine NN.fin1 2 (.int .i64 (mx x494 x495)) (by kernel_rfl) (by kernel_rfl) (.inl rfl) (fun w hi => hi.ret ?_)
  first | (cases H; rfl) | (obtain rfl := Option.some.inj H; rfl) | (simp only [Option.some.injEq, Prod.mk.injEq] at H; obtain ⟨rfl⟩ := H; rfl)

/-! ### strength_Class_1: function 59 -/
def strength_Class_1.f (a0 : Int) (q0_0 : Int) : Option (Bool) := some (decide (a0 ≤ q0_0))
set_option maxRecDepth 100000 in
theorem strength_Class_1.calls (a0 : Int) (q0_0 : Int) (p0 : Nat)   (r1 : Bool) (w : World)  (hp0 : w.heap[p0]? = some (.cells [.int .i64 q0_0].toArray 3 (0, 0)))  (h : strength_Class_1.f a0 q0_0 = some r1) :
    Calls Try.prog 59 #[.int .i64 a0, .pointer (some ⟨p0, 0, none⟩)] w (Ret w (.bool r1)) := by
  have H := h
  clear h
  unfold strength_Class_1.f at H
  refine Go.Saw.calls (args := [.int .i64 a0, .pointer (some ⟨p0, 0, none⟩)]) Try.func59 rfl Try.ntmps59 (by kernel_rfl) ?_
  refine J.seq ?_
  refine J.plain ?_
  refine LL.op (.bool false) (by kernel_rfl) (fun w _ => by kernel_rfl) ?_
  refine LL.done (s' := [(0, .int .i64 a0), (1, .pointer (some ⟨p0, 0, none⟩)), (3, .bool false)]) [0, 1, 3] (by kernel_rfl) ?_
  refine NN.then ?_
  refine J.seq ?_
  refine J.plain ?_
  refine LL.op (.int .i64 q0_0) (by kernel_rfl) (ldW (off := 0) rfl (by kernel_rfl) hp0 (lt_of_some hp0) (by kernel_rfl)) ?_
  refine LL.op (.int .i64 a0) (by kernel_rfl) (fun w _ => by kernel_rfl) ?_
  refine LL.op (.bool (decide (a0 ≤ q0_0))) (by kernel_rfl) (fun w _ => by kernel_rfl) ?_
  refine LL.op (.bool (decide (a0 ≤ q0_0))) (by kernel_rfl) (fun w _ => by kernel_rfl) ?_
  refine LL.done (s' := [(3, .bool (decide (a0 ≤ q0_0)))]) [3] (by kernel_rfl) ?_
  refine NN.then ?_
  refine J.ret ?_
  refine NN.fin1 3 (.bool (decide (a0 ≤ q0_0))) (by kernel_rfl) (by kernel_rfl) (.inl rfl) (fun w hi => hi.ret ?_)
  first | (cases H; rfl) | (obtain rfl := Option.some.inj H; rfl) | (simp only [Option.some.injEq, Prod.mk.injEq] at H; obtain ⟨rfl⟩ := H; rfl)

/-! ### strength_Class: function 22 -/
def strength_Class.f (a0 : Int) : Option (Int) := (strength_Class_1.f 14000 a0).bind fun x497 => (if x497 = true then (some 1) else ((strength_Class_1.f 11000 a0).bind fun x499 => (if x499 = true then (some 2) else ((strength_Class_1.f 9000 a0).bind fun x501 => (if x501 = true then (some 3) else ((strength_Class_1.f 7000 a0).bind fun x503 => (if x503 = true then (some 4) else (some 0))))))))
set_option maxRecDepth 100000 in
theorem strength_Class.calls (a0 : Int)    (r1 : Int) (w : World)    (h : strength_Class.f a0 = some r1) :
    Calls Try.prog 22 #[.int .i64 a0] w (Ret w (.int .i64 r1)) := by
  have H := h
  clear h
  unfold strength_Class.f at H
  refine Go.Saw.calls (args := [.int .i64 a0]) Try.func22 rfl Try.ntmps22 (by kernel_rfl) ?_
  refine J.seq ?_
  refine J.plain ?_
  refine LL.box 3 (.tmp 0) [.int .i64 a0] (by kernel_rfl) rfl (by kernel_rfl) (fun g496 => ?_)
  refine LL.op (.int .i64 0) (by kernel_rfl) (fun w _ => by kernel_rfl) ?_
  refine LL.done (s' := [(1, .pointer (some ⟨g496, 0, none⟩)), (2, .int .i64 0)]) [1, 2] (by kernel_rfl) ?_
  refine NN.then ?_
  refine J.seq ?_
  refine J.plain ?_
  refine LL.op (.func (.func 59) #[] #[.pointer (some ⟨g496, 0, none⟩)]) (by kernel_rfl) (fun w _ => by kernel_rfl) ?_
  refine LL.op (.func (.func 59) #[] #[.pointer (some ⟨g496, 0, none⟩)]) (by kernel_rfl) (fun w _ => by kernel_rfl) ?_
  refine LL.done (s' := [(2, .int .i64 0), (3, .func (.func 59) #[] #[.pointer (some ⟨g496, 0, none⟩)])]) [2, 3] (by kernel_rfl) ?_
  refine NN.then ?_
  refine J.seq ?_
  refine J.seq ?_
  refine J.plain ?_
  refine LL.op (.agg #[.int .i64 14000, .int .i64 11000, .int .i64 9000, .int .i64 7000]) (by kernel_rfl) (fun w _ => by kernel_rfl) ?_
  refine LL.op (.int .i64 0) (by kernel_rfl) (fun w _ => by kernel_rfl) ?_
  refine LL.done (s' := [(2, .int .i64 0), (3, .func (.func 59) #[] #[.pointer (some ⟨g496, 0, none⟩)]), (7, .agg #[.int .i64 14000, .int .i64 11000, .int .i64 9000, .int .i64 7000]), (8, .int .i64 0)]) [2, 3, 7, 8] (by kernel_rfl) ?_
  refine NN.then ?_
  refine J.block ?_
  refine J.rounds 4 ?_
  refine J.seq ?_
  refine J.plain ?_
  refine LL.op (.bool true) (by kernel_rfl) (fun w _ => by kernel_rfl) ?_
  refine LL.done (s' := [(2, .int .i64 0), (3, .func (.func 59) #[] #[.pointer (some ⟨g496, 0, none⟩)]), (7, .agg #[.int .i64 14000, .int .i64 11000, .int .i64 9000, .int .i64 7000]), (8, .int .i64 0), (9, .bool true)]) [2, 3, 7, 8, 9] (by kernel_rfl) ?_
  refine NN.then ?_
  refine J.seq ?_
  refine J.condT (b := true) rfl (by kernel_rfl) (by kernel_rfl) ?_
  refine J.skip ?_
  refine NN.then ?_
  refine J.seq ?_
  refine J.block ?_
  refine J.seq ?_
  refine J.plain ?_
  refine LL.op (.int .i64 0) (by kernel_rfl) (fun w _ => by kernel_rfl) ?_
  refine LL.op (.int .i64 14000) (by kernel_rfl) (fun w _ => by kernel_rfl) ?_
  refine LL.op (.int .i64 0) (by kernel_rfl) (fun w _ => by kernel_rfl) ?_
  refine LL.op (.int .i64 14000) (by kernel_rfl) (fun w _ => by kernel_rfl) ?_
  refine LL.done (s' := [(2, .int .i64 0), (3, .func (.func 59) #[] #[.pointer (some ⟨g496, 0, none⟩)]), (4, .int .i64 0), (5, .int .i64 14000), (7, .agg #[.int .i64 14000, .int .i64 11000, .int .i64 9000, .int .i64 7000]), (8, .int .i64 0), (9, .bool true), (10, .int .i64 0), (11, .int .i64 14000)]) [2, 3, 4, 5, 7, 8, 9, 10, 11] (by kernel_rfl) ?_
  refine NN.then ?_
  refine J.seq ?_
  refine J.plain ?_
  refine LL.op (.func (.func 59) #[] #[.pointer (some ⟨g496, 0, none⟩)]) (by kernel_rfl) (fun w _ => by kernel_rfl) ?_
  refine LL.op (.int .i64 14000) (by kernel_rfl) (fun w _ => by kernel_rfl) ?_
  obtain ⟨x497, hx497, H⟩ := bind_some H
  refine LL.call 59 #[.int .i64 14000, .pointer (some ⟨g496, 0, none⟩)] (.bool x497) (by kernel_rfl) (fun w => by kernel_rfl) (fun w hw => strength_Class_1.calls 14000 a0 g496  _ w (hw.cells (i := 0) rfl)  hx497) ?_
  refine LL.done (s' := [(2, .int .i64 0), (3, .func (.func 59) #[] #[.pointer (some ⟨g496, 0, none⟩)]), (4, .int .i64 0), (5, .int .i64 14000), (7, .agg #[.int .i64 14000, .int .i64 11000, .int .i64 9000, .int .i64 7000]), (8, .int .i64 0), (9, .bool true), (10, .int .i64 0), (11, .int .i64 14000), (12, .func (.func 59) #[] #[.pointer (some ⟨g496, 0, none⟩)]), (13, .int .i64 14000), (14, .bool x497)]) [2, 3, 4, 5, 7, 8, 9, 10, 11, 12, 13, 14] (by kernel_rfl) ?_
  refine NN.then ?_
  rcases Bool.eq_false_or_eq_true (x497) with c498 | c498
  · rw [if_pos (c498)] at H
    refine J.condT (b := x497) c498 (by kernel_rfl) (by kernel_rfl) ?_
    refine J.seq ?_
    refine J.plain ?_
    refine LL.op (.int .i64 0) (by kernel_rfl) (fun w _ => by kernel_rfl) ?_
    refine LL.op (.int .i64 1) (by kernel_rfl) (fun w _ => by kernel_rfl) ?_
    refine LL.op (.int .i64 1) (by kernel_rfl) (fun w _ => by kernel_rfl) ?_
    refine LL.done (s' := [(2, .int .i64 1), (3, .func (.func 59) #[] #[.pointer (some ⟨g496, 0, none⟩)]), (4, .int .i64 0), (5, .int .i64 14000), (7, .agg #[.int .i64 14000, .int .i64 11000, .int .i64 9000, .int .i64 7000]), (8, .int .i64 0), (9, .bool true), (10, .int .i64 0), (11, .int .i64 14000), (12, .func (.func 59) #[] #[.pointer (some ⟨g496, 0, none⟩)]), (13, .int .i64 14000), (14, .bool x497), (15, .int .i64 0), (16, .int .i64 1)]) [2, 3, 4, 5, 7, 8, 9, 10, 11, 12, 13, 14, 15, 16] (by kernel_rfl) ?_
    refine NN.then ?_
    refine J.ret ?_
    refine NN.block_ret ?_
    refine NN.then_ret ?_
    refine NN.then_ret ?_
    refine NN.block_ret ?_
    refine NN.then_ret ?_
    refine NN.fin1 2 (.int .i64 1) (by kernel_rfl) (by kernel_rfl) (.inl rfl) (fun w hi => hi.ret ?_)
    first | (cases H; rfl) | (obtain rfl := Option.some.inj H; rfl) | (simp only [Option.some.injEq, Prod.mk.injEq] at H; obtain ⟨rfl⟩ := H; rfl)
  · rw [if_neg (nebt c498)] at H
    refine J.condF (b := x497) c498 (by kernel_rfl) (by kernel_rfl) ?_
    refine J.skip ?_
    refine NN.block_n ?_
    refine NN.then ?_
    refine J.plain ?_
    refine LL.op (.int .i64 1) (by kernel_rfl) (fun w _ => by kernel_rfl) ?_
    refine LL.op (.int .i64 1) (by kernel_rfl) (fun w _ => by kernel_rfl) ?_
    refine LL.done (s' := [(2, .int .i64 0), (3, .func (.func 59) #[] #[.pointer (some ⟨g496, 0, none⟩)]), (4, .int .i64 0), (5, .int .i64 14000), (7, .agg #[.int .i64 14000, .int .i64 11000, .int .i64 9000, .int .i64 7000]), (8, .int .i64 1), (9, .bool true), (10, .int .i64 0), (11, .int .i64 14000), (12, .func (.func 59) #[] #[.pointer (some ⟨g496, 0, none⟩)]), (13, .int .i64 14000), (14, .bool x497), (17, .int .i64 1)]) [2, 3, 4, 5, 7, 8, 9, 10, 11, 12, 13, 14, 17] (by kernel_rfl) ?_
    refine NN.again ?_
    refine J.seq ?_
    refine J.plain ?_
    refine LL.op (.bool true) (by kernel_rfl) (fun w _ => by kernel_rfl) ?_
    refine LL.done (s' := [(2, .int .i64 0), (3, .func (.func 59) #[] #[.pointer (some ⟨g496, 0, none⟩)]), (4, .int .i64 0), (5, .int .i64 14000), (7, .agg #[.int .i64 14000, .int .i64 11000, .int .i64 9000, .int .i64 7000]), (8, .int .i64 1), (9, .bool true), (10, .int .i64 0), (11, .int .i64 14000), (12, .func (.func 59) #[] #[.pointer (some ⟨g496, 0, none⟩)]), (13, .int .i64 14000), (14, .bool x497), (17, .int .i64 1)]) [2, 3, 4, 5, 7, 8, 9, 10, 11, 12, 13, 14, 17] (by kernel_rfl) ?_
    refine NN.then ?_
    refine J.seq ?_
    refine J.condT (b := true) rfl (by kernel_rfl) (by kernel_rfl) ?_
    refine J.skip ?_
    refine NN.then ?_
    refine J.seq ?_
    refine J.block ?_
    refine J.seq ?_
    refine J.plain ?_
    refine LL.op (.int .i64 1) (by kernel_rfl) (fun w _ => by kernel_rfl) ?_
    refine LL.op (.int .i64 11000) (by kernel_rfl) (fun w _ => by kernel_rfl) ?_
    refine LL.op (.int .i64 1) (by kernel_rfl) (fun w _ => by kernel_rfl) ?_
    refine LL.op (.int .i64 11000) (by kernel_rfl) (fun w _ => by kernel_rfl) ?_
    refine LL.done (s' := [(2, .int .i64 0), (3, .func (.func 59) #[] #[.pointer (some ⟨g496, 0, none⟩)]), (4, .int .i64 1), (5, .int .i64 11000), (7, .agg #[.int .i64 14000, .int .i64 11000, .int .i64 9000, .int .i64 7000]), (8, .int .i64 1), (9, .bool true), (10, .int .i64 1), (11, .int .i64 11000), (12, .func (.func 59) #[] #[.pointer (some ⟨g496, 0, none⟩)]), (13, .int .i64 14000), (14, .bool x497), (17, .int .i64 1)]) [2, 3, 4, 5, 7, 8, 9, 10, 11, 12, 13, 14, 17] (by kernel_rfl) ?_
    refine NN.then ?_
    refine J.seq ?_
    refine J.plain ?_
    refine LL.op (.func (.func 59) #[] #[.pointer (some ⟨g496, 0, none⟩)]) (by kernel_rfl) (fun w _ => by kernel_rfl) ?_
    refine LL.op (.int .i64 11000) (by kernel_rfl) (fun w _ => by kernel_rfl) ?_
    obtain ⟨x499, hx499, H⟩ := bind_some H
    refine LL.call 59 #[.int .i64 11000, .pointer (some ⟨g496, 0, none⟩)] (.bool x499) (by kernel_rfl) (fun w => by kernel_rfl) (fun w hw => strength_Class_1.calls 11000 a0 g496  _ w (hw.cells (i := 0) rfl)  hx499) ?_
    refine LL.done (s' := [(2, .int .i64 0), (3, .func (.func 59) #[] #[.pointer (some ⟨g496, 0, none⟩)]), (4, .int .i64 1), (5, .int .i64 11000), (7, .agg #[.int .i64 14000, .int .i64 11000, .int .i64 9000, .int .i64 7000]), (8, .int .i64 1), (9, .bool true), (10, .int .i64 1), (11, .int .i64 11000), (12, .func (.func 59) #[] #[.pointer (some ⟨g496, 0, none⟩)]), (13, .int .i64 11000), (14, .bool x499), (17, .int .i64 1)]) [2, 3, 4, 5, 7, 8, 9, 10, 11, 12, 13, 14, 17] (by kernel_rfl) ?_
    refine NN.then ?_
    rcases Bool.eq_false_or_eq_true (x499) with c500 | c500
    · rw [if_pos (c500)] at H
      refine J.condT (b := x499) c500 (by kernel_rfl) (by kernel_rfl) ?_
      refine J.seq ?_
      refine J.plain ?_
      refine LL.op (.int .i64 1) (by kernel_rfl) (fun w _ => by kernel_rfl) ?_
      refine LL.op (.int .i64 2) (by kernel_rfl) (fun w _ => by kernel_rfl) ?_
      refine LL.op (.int .i64 2) (by kernel_rfl) (fun w _ => by kernel_rfl) ?_
      refine LL.done (s' := [(2, .int .i64 2), (3, .func (.func 59) #[] #[.pointer (some ⟨g496, 0, none⟩)]), (4, .int .i64 1), (5, .int .i64 11000), (7, .agg #[.int .i64 14000, .int .i64 11000, .int .i64 9000, .int .i64 7000]), (8, .int .i64 1), (9, .bool true), (10, .int .i64 1), (11, .int .i64 11000), (12, .func (.func 59) #[] #[.pointer (some ⟨g496, 0, none⟩)]), (13, .int .i64 11000), (14, .bool x499), (15, .int .i64 1), (16, .int .i64 2), (17, .int .i64 1)]) [2, 3, 4, 5, 7, 8, 9, 10, 11, 12, 13, 14, 15, 16, 17] (by kernel_rfl) ?_
      refine NN.then ?_
      refine J.ret ?_
      refine NN.block_ret ?_
      refine NN.then_ret ?_
      refine NN.then_ret ?_
      refine NN.block_ret ?_
      refine NN.then_ret ?_
      refine NN.fin1 2 (.int .i64 2) (by kernel_rfl) (by kernel_rfl) (.inl rfl) (fun w hi => hi.ret ?_)
      first | (cases H; rfl) | (obtain rfl := Option.some.inj H; rfl) | (simp only [Option.some.injEq, Prod.mk.injEq] at H; obtain ⟨rfl⟩ := H; rfl)
    · rw [if_neg (nebt c500)] at H
      refine J.condF (b := x499) c500 (by kernel_rfl) (by kernel_rfl) ?_
      refine J.skip ?_
      refine NN.block_n ?_
      refine NN.then ?_
      refine J.plain ?_
      refine LL.op (.int .i64 2) (by kernel_rfl) (fun w _ => by kernel_rfl) ?_
      refine LL.op (.int .i64 2) (by kernel_rfl) (fun w _ => by kernel_rfl) ?_
      refine LL.done (s' := [(2, .int .i64 0), (3, .func (.func 59) #[] #[.pointer (some ⟨g496, 0, none⟩)]), (4, .int .i64 1), (5, .int .i64 11000), (7, .agg #[.int .i64 14000, .int .i64 11000, .int .i64 9000, .int .i64 7000]), (8, .int .i64 2), (9, .bool true), (10, .int .i64 1), (11, .int .i64 11000), (12, .func (.func 59) #[] #[.pointer (some ⟨g496, 0, none⟩)]), (13, .int .i64 11000), (14, .bool x499), (17, .int .i64 2)]) [2, 3, 4, 5, 7, 8, 9, 10, 11, 12, 13, 14, 17] (by kernel_rfl) ?_
      refine NN.again ?_
      refine J.seq ?_
      refine J.plain ?_
      refine LL.op (.bool true) (by kernel_rfl) (fun w _ => by kernel_rfl) ?_
      refine LL.done (s' := [(2, .int .i64 0), (3, .func (.func 59) #[] #[.pointer (some ⟨g496, 0, none⟩)]), (4, .int .i64 1), (5, .int .i64 11000), (7, .agg #[.int .i64 14000, .int .i64 11000, .int .i64 9000, .int .i64 7000]), (8, .int .i64 2), (9, .bool true), (10, .int .i64 1), (11, .int .i64 11000), (12, .func (.func 59) #[] #[.pointer (some ⟨g496, 0, none⟩)]), (13, .int .i64 11000), (14, .bool x499), (17, .int .i64 2)]) [2, 3, 4, 5, 7, 8, 9, 10, 11, 12, 13, 14, 17] (by kernel_rfl) ?_
      refine NN.then ?_
      refine J.seq ?_
      refine J.condT (b := true) rfl (by kernel_rfl) (by kernel_rfl) ?_
      refine J.skip ?_
      refine NN.then ?_
      refine J.seq ?_
      refine J.block ?_
      refine J.seq ?_
      refine J.plain ?_
      refine LL.op (.int .i64 2) (by kernel_rfl) (fun w _ => by kernel_rfl) ?_
      refine LL.op (.int .i64 9000) (by kernel_rfl) (fun w _ => by kernel_rfl) ?_
      refine LL.op (.int .i64 2) (by kernel_rfl) (fun w _ => by kernel_rfl) ?_
      refine LL.op (.int .i64 9000) (by kernel_rfl) (fun w _ => by kernel_rfl) ?_
      refine LL.done (s' := [(2, .int .i64 0), (3, .func (.func 59) #[] #[.pointer (some ⟨g496, 0, none⟩)]), (4, .int .i64 2), (5, .int .i64 9000), (7, .agg #[.int .i64 14000, .int .i64 11000, .int .i64 9000, .int .i64 7000]), (8, .int .i64 2), (9, .bool true), (10, .int .i64 2), (11, .int .i64 9000), (12, .func (.func 59) #[] #[.pointer (some ⟨g496, 0, none⟩)]), (13, .int .i64 11000), (14, .bool x499), (17, .int .i64 2)]) [2, 3, 4, 5, 7, 8, 9, 10, 11, 12, 13, 14, 17] (by kernel_rfl) ?_
      refine NN.then ?_
      refine J.seq ?_
      refine J.plain ?_
      refine LL.op (.func (.func 59) #[] #[.pointer (some ⟨g496, 0, none⟩)]) (by kernel_rfl) (fun w _ => by kernel_rfl) ?_
      refine LL.op (.int .i64 9000) (by kernel_rfl) (fun w _ => by kernel_rfl) ?_
      obtain ⟨x501, hx501, H⟩ := bind_some H
      refine LL.call 59 #[.int .i64 9000, .pointer (some ⟨g496, 0, none⟩)] (.bool x501) (by kernel_rfl) (fun w => by kernel_rfl) (fun w hw => strength_Class_1.calls 9000 a0 g496  _ w (hw.cells (i := 0) rfl)  hx501) ?_
      refine LL.done (s' := [(2, .int .i64 0), (3, .func (.func 59) #[] #[.pointer (some ⟨g496, 0, none⟩)]), (4, .int .i64 2), (5, .int .i64 9000), (7, .agg #[.int .i64 14000, .int .i64 11000, .int .i64 9000, .int .i64 7000]), (8, .int .i64 2), (9, .bool true), (10, .int .i64 2), (11, .int .i64 9000), (12, .func (.func 59) #[] #[.pointer (some ⟨g496, 0, none⟩)]), (13, .int .i64 9000), (14, .bool x501), (17, .int .i64 2)]) [2, 3, 4, 5, 7, 8, 9, 10, 11, 12, 13, 14, 17] (by kernel_rfl) ?_
      refine NN.then ?_
      rcases Bool.eq_false_or_eq_true (x501) with c502 | c502
      · rw [if_pos (c502)] at H
        refine J.condT (b := x501) c502 (by kernel_rfl) (by kernel_rfl) ?_
        refine J.seq ?_
        refine J.plain ?_
        refine LL.op (.int .i64 2) (by kernel_rfl) (fun w _ => by kernel_rfl) ?_
        refine LL.op (.int .i64 3) (by kernel_rfl) (fun w _ => by kernel_rfl) ?_
        refine LL.op (.int .i64 3) (by kernel_rfl) (fun w _ => by kernel_rfl) ?_
        refine LL.done (s' := [(2, .int .i64 3), (3, .func (.func 59) #[] #[.pointer (some ⟨g496, 0, none⟩)]), (4, .int .i64 2), (5, .int .i64 9000), (7, .agg #[.int .i64 14000, .int .i64 11000, .int .i64 9000, .int .i64 7000]), (8, .int .i64 2), (9, .bool true), (10, .int .i64 2), (11, .int .i64 9000), (12, .func (.func 59) #[] #[.pointer (some ⟨g496, 0, none⟩)]), (13, .int .i64 9000), (14, .bool x501), (15, .int .i64 2), (16, .int .i64 3), (17, .int .i64 2)]) [2, 3, 4, 5, 7, 8, 9, 10, 11, 12, 13, 14, 15, 16, 17] (by kernel_rfl) ?_
        refine NN.then ?_
        refine J.ret ?_
        refine NN.block_ret ?_
        refine NN.then_ret ?_
        refine NN.then_ret ?_
        refine NN.block_ret ?_
        refine NN.then_ret ?_
        refine NN.fin1 2 (.int .i64 3) (by kernel_rfl) (by kernel_rfl) (.inl rfl) (fun w hi => hi.ret ?_)
        first | (cases H; rfl) | (obtain rfl := Option.some.inj H; rfl) | (simp only [Option.some.injEq, Prod.mk.injEq] at H; obtain ⟨rfl⟩ := H; rfl)
      · rw [if_neg (nebt c502)] at H
        refine J.condF (b := x501) c502 (by kernel_rfl) (by kernel_rfl) ?_
        refine J.skip ?_
        refine NN.block_n ?_
        refine NN.then ?_
        refine J.plain ?_
        refine LL.op (.int .i64 3) (by kernel_rfl) (fun w _ => by kernel_rfl) ?_
        refine LL.op (.int .i64 3) (by kernel_rfl) (fun w _ => by kernel_rfl) ?_
        refine LL.done (s' := [(2, .int .i64 0), (3, .func (.func 59) #[] #[.pointer (some ⟨g496, 0, none⟩)]), (4, .int .i64 2), (5, .int .i64 9000), (7, .agg #[.int .i64 14000, .int .i64 11000, .int .i64 9000, .int .i64 7000]), (8, .int .i64 3), (9, .bool true), (10, .int .i64 2), (11, .int .i64 9000), (12, .func (.func 59) #[] #[.pointer (some ⟨g496, 0, none⟩)]), (13, .int .i64 9000), (14, .bool x501), (17, .int .i64 3)]) [2, 3, 4, 5, 7, 8, 9, 10, 11, 12, 13, 14, 17] (by kernel_rfl) ?_
        refine NN.again ?_
        refine J.seq ?_
        refine J.plain ?_
        refine LL.op (.bool true) (by kernel_rfl) (fun w _ => by kernel_rfl) ?_
        refine LL.done (s' := [(2, .int .i64 0), (3, .func (.func 59) #[] #[.pointer (some ⟨g496, 0, none⟩)]), (4, .int .i64 2), (5, .int .i64 9000), (7, .agg #[.int .i64 14000, .int .i64 11000, .int .i64 9000, .int .i64 7000]), (8, .int .i64 3), (9, .bool true), (10, .int .i64 2), (11, .int .i64 9000), (12, .func (.func 59) #[] #[.pointer (some ⟨g496, 0, none⟩)]), (13, .int .i64 9000), (14, .bool x501), (17, .int .i64 3)]) [2, 3, 4, 5, 7, 8, 9, 10, 11, 12, 13, 14, 17] (by kernel_rfl) ?_
        refine NN.then ?_
        refine J.seq ?_
        refine J.condT (b := true) rfl (by kernel_rfl) (by kernel_rfl) ?_
        refine J.skip ?_
        refine NN.then ?_
        refine J.seq ?_
        refine J.block ?_
        refine J.seq ?_
        refine J.plain ?_
        refine LL.op (.int .i64 3) (by kernel_rfl) (fun w _ => by kernel_rfl) ?_
        refine LL.op (.int .i64 7000) (by kernel_rfl) (fun w _ => by kernel_rfl) ?_
        refine LL.op (.int .i64 3) (by kernel_rfl) (fun w _ => by kernel_rfl) ?_
        refine LL.op (.int .i64 7000) (by kernel_rfl) (fun w _ => by kernel_rfl) ?_
        refine LL.done (s' := [(2, .int .i64 0), (3, .func (.func 59) #[] #[.pointer (some ⟨g496, 0, none⟩)]), (4, .int .i64 3), (5, .int .i64 7000), (7, .agg #[.int .i64 14000, .int .i64 11000, .int .i64 9000, .int .i64 7000]), (8, .int .i64 3), (9, .bool true), (10, .int .i64 3), (11, .int .i64 7000), (12, .func (.func 59) #[] #[.pointer (some ⟨g496, 0, none⟩)]), (13, .int .i64 9000), (14, .bool x501), (17, .int .i64 3)]) [2, 3, 4, 5, 7, 8, 9, 10, 11, 12, 13, 14, 17] (by kernel_rfl) ?_
        refine NN.then ?_
        refine J.seq ?_
        refine J.plain ?_
        refine LL.op (.func (.func 59) #[] #[.pointer (some ⟨g496, 0, none⟩)]) (by kernel_rfl) (fun w _ => by kernel_rfl) ?_
        refine LL.op (.int .i64 7000) (by kernel_rfl) (fun w _ => by kernel_rfl) ?_
        obtain ⟨x503, hx503, H⟩ := bind_some H
        refine LL.call 59 #[.int .i64 7000, .pointer (some ⟨g496, 0, none⟩)] (.bool x503) (by kernel_rfl) (fun w => by kernel_rfl) (fun w hw => strength_Class_1.calls 7000 a0 g496  _ w (hw.cells (i := 0) rfl)  hx503) ?_
        refine LL.done (s' := [(2, .int .i64 0), (3, .func (.func 59) #[] #[.pointer (some ⟨g496, 0, none⟩)]), (4, .int .i64 3), (5, .int .i64 7000), (7, .agg #[.int .i64 14000, .int .i64 11000, .int .i64 9000, .int .i64 7000]), (8, .int .i64 3), (9, .bool true), (10, .int .i64 3), (11, .int .i64 7000), (12, .func (.func 59) #[] #[.pointer (some ⟨g496, 0, none⟩)]), (13, .int .i64 7000), (14, .bool x503), (17, .int .i64 3)]) [2, 3, 4, 5, 7, 8, 9, 10, 11, 12, 13, 14, 17] (by kernel_rfl) ?_
        refine NN.then ?_
        rcases Bool.eq_false_or_eq_true (x503) with c504 | c504
        · rw [if_pos (c504)] at H
          refine J.condT (b := x503) c504 (by kernel_rfl) (by kernel_rfl) ?_
          refine J.seq ?_
          refine J.plain ?_
          refine LL.op (.int .i64 3) (by kernel_rfl) (fun w _ => by kernel_rfl) ?_
          refine LL.op (.int .i64 4) (by kernel_rfl) (fun w _ => by kernel_rfl) ?_
          refine LL.op (.int .i64 4) (by kernel_rfl) (fun w _ => by kernel_rfl) ?_
          refine LL.done (s' := [(2, .int .i64 4), (3, .func (.func 59) #[] #[.pointer (some ⟨g496, 0, none⟩)]), (4, .int .i64 3), (5, .int .i64 7000), (7, .agg #[.int .i64 14000, .int .i64 11000, .int .i64 9000, .int .i64 7000]), (8, .int .i64 3), (9, .bool true), (10, .int .i64 3), (11, .int .i64 7000), (12, .func (.func 59) #[] #[.pointer (some ⟨g496, 0, none⟩)]), (13, .int .i64 7000), (14, .bool x503), (15, .int .i64 3), (16, .int .i64 4), (17, .int .i64 3)]) [2, 3, 4, 5, 7, 8, 9, 10, 11, 12, 13, 14, 15, 16, 17] (by kernel_rfl) ?_
          refine NN.then ?_
          refine J.ret ?_
          refine NN.block_ret ?_
          refine NN.then_ret ?_
          refine NN.then_ret ?_
          refine NN.block_ret ?_
          refine NN.then_ret ?_
          refine NN.fin1 2 (.int .i64 4) (by kernel_rfl) (by kernel_rfl) (.inl rfl) (fun w hi => hi.ret ?_)
          first | (cases H; rfl) | (obtain rfl := Option.some.inj H; rfl) | (simp only [Option.some.injEq, Prod.mk.injEq] at H; obtain ⟨rfl⟩ := H; rfl)
        · rw [if_neg (nebt c504)] at H
          refine J.condF (b := x503) c504 (by kernel_rfl) (by kernel_rfl) ?_
          refine J.skip ?_
          refine NN.block_n ?_
          refine NN.then ?_
          refine J.plain ?_
          refine LL.op (.int .i64 4) (by kernel_rfl) (fun w _ => by kernel_rfl) ?_
          refine LL.op (.int .i64 4) (by kernel_rfl) (fun w _ => by kernel_rfl) ?_
          refine LL.done (s' := [(2, .int .i64 0), (3, .func (.func 59) #[] #[.pointer (some ⟨g496, 0, none⟩)]), (4, .int .i64 3), (5, .int .i64 7000), (7, .agg #[.int .i64 14000, .int .i64 11000, .int .i64 9000, .int .i64 7000]), (8, .int .i64 4), (9, .bool true), (10, .int .i64 3), (11, .int .i64 7000), (12, .func (.func 59) #[] #[.pointer (some ⟨g496, 0, none⟩)]), (13, .int .i64 7000), (14, .bool x503), (17, .int .i64 4)]) [2, 3, 4, 5, 7, 8, 9, 10, 11, 12, 13, 14, 17] (by kernel_rfl) ?_
          refine NN.again ?_
          refine J.seq ?_
          refine J.plain ?_
          refine LL.op (.bool false) (by kernel_rfl) (fun w _ => by kernel_rfl) ?_
          refine LL.done (s' := [(2, .int .i64 0), (3, .func (.func 59) #[] #[.pointer (some ⟨g496, 0, none⟩)]), (4, .int .i64 3), (5, .int .i64 7000), (7, .agg #[.int .i64 14000, .int .i64 11000, .int .i64 9000, .int .i64 7000]), (8, .int .i64 4), (9, .bool false), (10, .int .i64 3), (11, .int .i64 7000), (12, .func (.func 59) #[] #[.pointer (some ⟨g496, 0, none⟩)]), (13, .int .i64 7000), (14, .bool x503), (17, .int .i64 4)]) [2, 3, 4, 5, 7, 8, 9, 10, 11, 12, 13, 14, 17] (by kernel_rfl) ?_
          refine NN.then ?_
          refine J.seq ?_
          refine J.condF (b := false) rfl (by kernel_rfl) (by kernel_rfl) ?_
          refine J.exit ?_
          refine NN.then_exit ?_
          refine NN.then_exit ?_
          refine NN.block_same ?_
          refine NN.then ?_
          refine J.seq ?_
          refine J.plain ?_
          refine LL.op (.int .i64 0) (by kernel_rfl) (fun w _ => by kernel_rfl) ?_
          refine LL.done (s' := [(2, .int .i64 0)]) [2] (by kernel_rfl) ?_
          refine NN.then ?_
          refine J.ret ?_
          refine NN.fin1 2 (.int .i64 0) (by kernel_rfl) (by kernel_rfl) (.inl rfl) (fun w hi => hi.ret ?_)
          first | (cases H; rfl) | (obtain rfl := Option.some.inj H; rfl) | (simp only [Option.some.injEq, Prod.mk.injEq] at H; obtain ⟨rfl⟩ := H; rfl)

/-! ### sawmillref41_Class: function 23 -/
def sawmillref41_Class.f (a0 : Int) : Option (Int) := if 14000 ≤ a0 then (some 1) else (if 11000 ≤ a0 then (some 2) else (if 9000 ≤ a0 then (some 3) else (if 7000 ≤ a0 then (some 4) else (some 0))))
set_option maxRecDepth 100000 in
theorem sawmillref41_Class.calls (a0 : Int)    (r1 : Int) (w : World)    (h : sawmillref41_Class.f a0 = some r1) :
    Calls Try.prog 23 #[.int .i64 a0] w (Ret w (.int .i64 r1)) := by
  have H := h
  clear h
  unfold sawmillref41_Class.f at H
  refine Go.Saw.calls (args := [.int .i64 a0]) Try.func23 rfl Try.ntmps23 (by kernel_rfl) ?_
  refine J.seq ?_
  refine J.plain ?_
  refine LL.op (.int .i64 0) (by kernel_rfl) (fun w _ => by kernel_rfl) ?_
  refine LL.done (s' := [(0, .int .i64 a0), (2, .int .i64 0)]) [0, 2] (by kernel_rfl) ?_
  refine NN.then ?_
  refine J.seq ?_
  refine J.block ?_
  refine J.seq ?_
  refine J.plain ?_
  refine LL.op (.int .i64 a0) (by kernel_rfl) (fun w _ => by kernel_rfl) ?_
  refine LL.op (.bool (decide (14000 ≤ a0))) (by kernel_rfl) (fun w _ => by kernel_rfl) ?_
  refine LL.op (.bool (decide (14000 ≤ a0))) (by kernel_rfl) (fun w _ => by kernel_rfl) ?_
  refine LL.done (s' := [(0, .int .i64 a0), (2, .int .i64 0), (3, .bool (decide (14000 ≤ a0)))]) [0, 2, 3] (by kernel_rfl) ?_
  refine NN.then ?_
  rcases Bool.eq_false_or_eq_true (decide (14000 ≤ a0)) with c505 | c505
  · rw [if_pos (of_decide_eq_true c505)] at H
    refine J.condT (b := decide (14000 ≤ a0)) c505 (by kernel_rfl) (by kernel_rfl) ?_
    refine J.seq ?_
    refine J.plain ?_
    refine LL.op (.int .i64 1) (by kernel_rfl) (fun w _ => by kernel_rfl) ?_
    refine LL.done (s' := [(2, .int .i64 1)]) [2] (by kernel_rfl) ?_
    refine NN.then ?_
    refine J.ret ?_
    refine NN.block_ret ?_
    refine NN.then_ret ?_
    refine NN.fin1 2 (.int .i64 1) (by kernel_rfl) (by kernel_rfl) (.inl rfl) (fun w hi => hi.ret ?_)
    first | (cases H; rfl) | (obtain rfl := Option.some.inj H; rfl) | (simp only [Option.some.injEq, Prod.mk.injEq] at H; obtain ⟨rfl⟩ := H; rfl)
  · rw [if_neg (of_decide_eq_false c505)] at H
    refine J.condF (b := decide (14000 ≤ a0)) c505 (by kernel_rfl) (by kernel_rfl) ?_
    refine J.seq ?_
    refine J.plain ?_
    refine LL.op (.int .i64 a0) (by kernel_rfl) (fun w _ => by kernel_rfl) ?_
    refine LL.op (.bool (decide (11000 ≤ a0))) (by kernel_rfl) (fun w _ => by kernel_rfl) ?_
    refine LL.op (.bool (decide (11000 ≤ a0))) (by kernel_rfl) (fun w _ => by kernel_rfl) ?_
    refine LL.done (s' := [(0, .int .i64 a0), (2, .int .i64 0), (6, .bool (decide (11000 ≤ a0)))]) [0, 2, 6] (by kernel_rfl) ?_
    refine NN.then ?_
    rcases Bool.eq_false_or_eq_true (decide (11000 ≤ a0)) with c506 | c506
    · rw [if_pos (of_decide_eq_true c506)] at H
      refine J.condT (b := decide (11000 ≤ a0)) c506 (by kernel_rfl) (by kernel_rfl) ?_
      refine J.seq ?_
      refine J.plain ?_
      refine LL.op (.int .i64 2) (by kernel_rfl) (fun w _ => by kernel_rfl) ?_
      refine LL.done (s' := [(2, .int .i64 2)]) [2] (by kernel_rfl) ?_
      refine NN.then ?_
      refine J.ret ?_
      refine NN.block_ret ?_
      refine NN.then_ret ?_
      refine NN.fin1 2 (.int .i64 2) (by kernel_rfl) (by kernel_rfl) (.inl rfl) (fun w hi => hi.ret ?_)
      first | (cases H; rfl) | (obtain rfl := Option.some.inj H; rfl) | (simp only [Option.some.injEq, Prod.mk.injEq] at H; obtain ⟨rfl⟩ := H; rfl)
    · rw [if_neg (of_decide_eq_false c506)] at H
      refine J.condF (b := decide (11000 ≤ a0)) c506 (by kernel_rfl) (by kernel_rfl) ?_
      refine J.seq ?_
      refine J.plain ?_
      refine LL.op (.int .i64 a0) (by kernel_rfl) (fun w _ => by kernel_rfl) ?_
      refine LL.op (.bool (decide (9000 ≤ a0))) (by kernel_rfl) (fun w _ => by kernel_rfl) ?_
      refine LL.op (.bool (decide (9000 ≤ a0))) (by kernel_rfl) (fun w _ => by kernel_rfl) ?_
      refine LL.done (s' := [(0, .int .i64 a0), (2, .int .i64 0), (9, .bool (decide (9000 ≤ a0)))]) [0, 2, 9] (by kernel_rfl) ?_
      refine NN.then ?_
      rcases Bool.eq_false_or_eq_true (decide (9000 ≤ a0)) with c507 | c507
      · rw [if_pos (of_decide_eq_true c507)] at H
        refine J.condT (b := decide (9000 ≤ a0)) c507 (by kernel_rfl) (by kernel_rfl) ?_
        refine J.seq ?_
        refine J.plain ?_
        refine LL.op (.int .i64 3) (by kernel_rfl) (fun w _ => by kernel_rfl) ?_
        refine LL.done (s' := [(2, .int .i64 3)]) [2] (by kernel_rfl) ?_
        refine NN.then ?_
        refine J.ret ?_
        refine NN.block_ret ?_
        refine NN.then_ret ?_
        refine NN.fin1 2 (.int .i64 3) (by kernel_rfl) (by kernel_rfl) (.inl rfl) (fun w hi => hi.ret ?_)
        first | (cases H; rfl) | (obtain rfl := Option.some.inj H; rfl) | (simp only [Option.some.injEq, Prod.mk.injEq] at H; obtain ⟨rfl⟩ := H; rfl)
      · rw [if_neg (of_decide_eq_false c507)] at H
        refine J.condF (b := decide (9000 ≤ a0)) c507 (by kernel_rfl) (by kernel_rfl) ?_
        refine J.seq ?_
        refine J.plain ?_
        refine LL.op (.int .i64 a0) (by kernel_rfl) (fun w _ => by kernel_rfl) ?_
        refine LL.op (.bool (decide (7000 ≤ a0))) (by kernel_rfl) (fun w _ => by kernel_rfl) ?_
        refine LL.op (.bool (decide (7000 ≤ a0))) (by kernel_rfl) (fun w _ => by kernel_rfl) ?_
        refine LL.done (s' := [(2, .int .i64 0), (12, .bool (decide (7000 ≤ a0)))]) [2, 12] (by kernel_rfl) ?_
        refine NN.then ?_
        rcases Bool.eq_false_or_eq_true (decide (7000 ≤ a0)) with c508 | c508
        · rw [if_pos (of_decide_eq_true c508)] at H
          refine J.condT (b := decide (7000 ≤ a0)) c508 (by kernel_rfl) (by kernel_rfl) ?_
          refine J.seq ?_
          refine J.plain ?_
          refine LL.op (.int .i64 4) (by kernel_rfl) (fun w _ => by kernel_rfl) ?_
          refine LL.done (s' := [(2, .int .i64 4)]) [2] (by kernel_rfl) ?_
          refine NN.then ?_
          refine J.ret ?_
          refine NN.block_ret ?_
          refine NN.then_ret ?_
          refine NN.fin1 2 (.int .i64 4) (by kernel_rfl) (by kernel_rfl) (.inl rfl) (fun w hi => hi.ret ?_)
          first | (cases H; rfl) | (obtain rfl := Option.some.inj H; rfl) | (simp only [Option.some.injEq, Prod.mk.injEq] at H; obtain ⟨rfl⟩ := H; rfl)
        · rw [if_neg (of_decide_eq_false c508)] at H
          refine J.condF (b := decide (7000 ≤ a0)) c508 (by kernel_rfl) (by kernel_rfl) ?_
          refine J.skip ?_
          refine NN.block_n ?_
          refine NN.then ?_
          refine J.seq ?_
          refine J.plain ?_
          refine LL.op (.int .i64 0) (by kernel_rfl) (fun w _ => by kernel_rfl) ?_
          refine LL.done (s' := [(2, .int .i64 0)]) [2] (by kernel_rfl) ?_
          refine NN.then ?_
          refine J.ret ?_
          refine NN.fin1 2 (.int .i64 0) (by kernel_rfl) (by kernel_rfl) (.inl rfl) (fun w hi => hi.ret ?_)
          first | (cases H; rfl) | (obtain rfl := Option.some.inj H; rfl) | (simp only [Option.some.injEq, Prod.mk.injEq] at H; obtain ⟨rfl⟩ := H; rfl)

/-! ### strength_Name: function 24 -/
def strength_Name.f (a0 : Int) : Option (ByteArray) := if a0 = 1 then (some (⟨#[67, 51, 53]⟩ : ByteArray)) else (if a0 = 2 then (some (⟨#[67, 50, 52]⟩ : ByteArray)) else (if a0 = 3 then (some (⟨#[67, 49, 56]⟩ : ByteArray)) else (if a0 = 4 then (some (⟨#[67, 49, 52]⟩ : ByteArray)) else (some (⟨#[]⟩ : ByteArray)))))
set_option maxRecDepth 100000 in
theorem strength_Name.calls (a0 : Int)    (r1 : ByteArray) (w : World)    (h : strength_Name.f a0 = some r1) :
    Calls Try.prog 24 #[.int .i64 a0] w (Ret w (.string r1)) := by
  have H := h
  clear h
  unfold strength_Name.f at H
  refine Go.Saw.calls (args := [.int .i64 a0]) Try.func24 rfl Try.ntmps24 (by kernel_rfl) ?_
  refine J.seq ?_
  refine J.plain ?_
  refine LL.op (.string (⟨#[]⟩ : ByteArray)) (by kernel_rfl) (fun w _ => by kernel_rfl) ?_
  refine LL.done (s' := [(0, .int .i64 a0), (2, .string (⟨#[]⟩ : ByteArray))]) [0, 2] (by kernel_rfl) ?_
  refine NN.then ?_
  refine J.seq ?_
  refine J.seq ?_
  refine J.plain ?_
  refine LL.op (.int .i64 a0) (by kernel_rfl) (fun w _ => by kernel_rfl) ?_
  refine LL.done (s' := [(2, .string (⟨#[]⟩ : ByteArray)), (3, .int .i64 a0)]) [2, 3] (by kernel_rfl) ?_
  refine NN.then ?_
  refine J.block ?_
  refine J.seq ?_
  refine J.plain ?_
  refine LL.op (.bool (a0 == 1)) (by kernel_rfl) (fun w _ => by kernel_rfl) ?_
  refine LL.op (.bool (a0 == 1)) (by kernel_rfl) (fun w _ => by kernel_rfl) ?_
  refine LL.done (s' := [(2, .string (⟨#[]⟩ : ByteArray)), (3, .int .i64 a0), (4, .bool (a0 == 1))]) [2, 3, 4] (by kernel_rfl) ?_
  refine NN.then ?_
  rcases Bool.eq_false_or_eq_true ((a0 == 1)) with c509 | c509
  · rw [if_pos (eq_of_beq c509)] at H
    refine J.condT (b := (a0 == 1)) c509 (by kernel_rfl) (by kernel_rfl) ?_
    refine J.seq ?_
    refine J.plain ?_
    refine LL.op (.string (⟨#[67, 51, 53]⟩ : ByteArray)) (by kernel_rfl) (fun w _ => by kernel_rfl) ?_
    refine LL.done (s' := [(2, .string (⟨#[67, 51, 53]⟩ : ByteArray))]) [2] (by kernel_rfl) ?_
    refine NN.then ?_
    refine J.ret ?_
    refine NN.block_ret ?_
    refine NN.then_ret ?_
    refine NN.fin1 2 (.string (⟨#[67, 51, 53]⟩ : ByteArray)) (by kernel_rfl) (by kernel_rfl) (.inl rfl) (fun w hi => hi.ret ?_)
    first | (cases H; rfl) | (obtain rfl := Option.some.inj H; rfl) | (simp only [Option.some.injEq, Prod.mk.injEq] at H; obtain ⟨rfl⟩ := H; rfl)
  · rw [if_neg (nebf c509)] at H
    refine J.condF (b := (a0 == 1)) c509 (by kernel_rfl) (by kernel_rfl) ?_
    refine J.seq ?_
    refine J.plain ?_
    refine LL.op (.bool (a0 == 2)) (by kernel_rfl) (fun w _ => by kernel_rfl) ?_
    refine LL.op (.bool (a0 == 2)) (by kernel_rfl) (fun w _ => by kernel_rfl) ?_
    refine LL.done (s' := [(2, .string (⟨#[]⟩ : ByteArray)), (3, .int .i64 a0), (6, .bool (a0 == 2))]) [2, 3, 6] (by kernel_rfl) ?_
    refine NN.then ?_
    rcases Bool.eq_false_or_eq_true ((a0 == 2)) with c510 | c510
    · rw [if_pos (eq_of_beq c510)] at H
      refine J.condT (b := (a0 == 2)) c510 (by kernel_rfl) (by kernel_rfl) ?_
      refine J.seq ?_
      refine J.plain ?_
      refine LL.op (.string (⟨#[67, 50, 52]⟩ : ByteArray)) (by kernel_rfl) (fun w _ => by kernel_rfl) ?_
      refine LL.done (s' := [(2, .string (⟨#[67, 50, 52]⟩ : ByteArray))]) [2] (by kernel_rfl) ?_
      refine NN.then ?_
      refine J.ret ?_
      refine NN.block_ret ?_
      refine NN.then_ret ?_
      refine NN.fin1 2 (.string (⟨#[67, 50, 52]⟩ : ByteArray)) (by kernel_rfl) (by kernel_rfl) (.inl rfl) (fun w hi => hi.ret ?_)
      first | (cases H; rfl) | (obtain rfl := Option.some.inj H; rfl) | (simp only [Option.some.injEq, Prod.mk.injEq] at H; obtain ⟨rfl⟩ := H; rfl)
    · rw [if_neg (nebf c510)] at H
      refine J.condF (b := (a0 == 2)) c510 (by kernel_rfl) (by kernel_rfl) ?_
      refine J.seq ?_
      refine J.plain ?_
      refine LL.op (.bool (a0 == 3)) (by kernel_rfl) (fun w _ => by kernel_rfl) ?_
      refine LL.op (.bool (a0 == 3)) (by kernel_rfl) (fun w _ => by kernel_rfl) ?_
      refine LL.done (s' := [(2, .string (⟨#[]⟩ : ByteArray)), (3, .int .i64 a0), (8, .bool (a0 == 3))]) [2, 3, 8] (by kernel_rfl) ?_
      refine NN.then ?_
      rcases Bool.eq_false_or_eq_true ((a0 == 3)) with c511 | c511
      · rw [if_pos (eq_of_beq c511)] at H
        refine J.condT (b := (a0 == 3)) c511 (by kernel_rfl) (by kernel_rfl) ?_
        refine J.seq ?_
        refine J.plain ?_
        refine LL.op (.string (⟨#[67, 49, 56]⟩ : ByteArray)) (by kernel_rfl) (fun w _ => by kernel_rfl) ?_
        refine LL.done (s' := [(2, .string (⟨#[67, 49, 56]⟩ : ByteArray))]) [2] (by kernel_rfl) ?_
        refine NN.then ?_
        refine J.ret ?_
        refine NN.block_ret ?_
        refine NN.then_ret ?_
        refine NN.fin1 2 (.string (⟨#[67, 49, 56]⟩ : ByteArray)) (by kernel_rfl) (by kernel_rfl) (.inl rfl) (fun w hi => hi.ret ?_)
        first | (cases H; rfl) | (obtain rfl := Option.some.inj H; rfl) | (simp only [Option.some.injEq, Prod.mk.injEq] at H; obtain ⟨rfl⟩ := H; rfl)
      · rw [if_neg (nebf c511)] at H
        refine J.condF (b := (a0 == 3)) c511 (by kernel_rfl) (by kernel_rfl) ?_
        refine J.seq ?_
        refine J.plain ?_
        refine LL.op (.bool (a0 == 4)) (by kernel_rfl) (fun w _ => by kernel_rfl) ?_
        refine LL.op (.bool (a0 == 4)) (by kernel_rfl) (fun w _ => by kernel_rfl) ?_
        refine LL.done (s' := [(2, .string (⟨#[]⟩ : ByteArray)), (10, .bool (a0 == 4))]) [2, 10] (by kernel_rfl) ?_
        refine NN.then ?_
        rcases Bool.eq_false_or_eq_true ((a0 == 4)) with c512 | c512
        · rw [if_pos (eq_of_beq c512)] at H
          refine J.condT (b := (a0 == 4)) c512 (by kernel_rfl) (by kernel_rfl) ?_
          refine J.seq ?_
          refine J.plain ?_
          refine LL.op (.string (⟨#[67, 49, 52]⟩ : ByteArray)) (by kernel_rfl) (fun w _ => by kernel_rfl) ?_
          refine LL.done (s' := [(2, .string (⟨#[67, 49, 52]⟩ : ByteArray))]) [2] (by kernel_rfl) ?_
          refine NN.then ?_
          refine J.ret ?_
          refine NN.block_ret ?_
          refine NN.then_ret ?_
          refine NN.fin1 2 (.string (⟨#[67, 49, 52]⟩ : ByteArray)) (by kernel_rfl) (by kernel_rfl) (.inl rfl) (fun w hi => hi.ret ?_)
          first | (cases H; rfl) | (obtain rfl := Option.some.inj H; rfl) | (simp only [Option.some.injEq, Prod.mk.injEq] at H; obtain ⟨rfl⟩ := H; rfl)
        · rw [if_neg (nebf c512)] at H
          refine J.condF (b := (a0 == 4)) c512 (by kernel_rfl) (by kernel_rfl) ?_
          refine J.skip ?_
          refine NN.block_n ?_
          refine NN.then ?_
          refine J.seq ?_
          refine J.plain ?_
          refine LL.op (.string (⟨#[]⟩ : ByteArray)) (by kernel_rfl) (fun w _ => by kernel_rfl) ?_
          refine LL.done (s' := [(2, .string (⟨#[]⟩ : ByteArray))]) [2] (by kernel_rfl) ?_
          refine NN.then ?_
          refine J.ret ?_
          refine NN.fin1 2 (.string (⟨#[]⟩ : ByteArray)) (by kernel_rfl) (by kernel_rfl) (.inl rfl) (fun w hi => hi.ret ?_)
          first | (cases H; rfl) | (obtain rfl := Option.some.inj H; rfl) | (simp only [Option.some.injEq, Prod.mk.injEq] at H; obtain ⟨rfl⟩ := H; rfl)

/-! ### sawmillref41_Name: function 25 -/
def sawmillref41_Name.f (a0 : Int) : Option (ByteArray) := if a0 = 1 then (some (⟨#[67, 51, 53]⟩ : ByteArray)) else (if a0 = 2 then (some (⟨#[67, 50, 52]⟩ : ByteArray)) else (if a0 = 3 then (some (⟨#[67, 49, 56]⟩ : ByteArray)) else (if a0 = 4 then (some (⟨#[67, 49, 52]⟩ : ByteArray)) else (some (⟨#[]⟩ : ByteArray)))))
set_option maxRecDepth 100000 in
theorem sawmillref41_Name.calls (a0 : Int)    (r1 : ByteArray) (w : World)    (h : sawmillref41_Name.f a0 = some r1) :
    Calls Try.prog 25 #[.int .i64 a0] w (Ret w (.string r1)) := by
  have H := h
  clear h
  unfold sawmillref41_Name.f at H
  refine Go.Saw.calls (args := [.int .i64 a0]) Try.func25 rfl Try.ntmps25 (by kernel_rfl) ?_
  refine J.seq ?_
  refine J.plain ?_
  refine LL.op (.string (⟨#[]⟩ : ByteArray)) (by kernel_rfl) (fun w _ => by kernel_rfl) ?_
  refine LL.done (s' := [(0, .int .i64 a0), (2, .string (⟨#[]⟩ : ByteArray))]) [0, 2] (by kernel_rfl) ?_
  refine NN.then ?_
  refine J.seq ?_
  refine J.seq ?_
  refine J.plain ?_
  refine LL.op (.int .i64 a0) (by kernel_rfl) (fun w _ => by kernel_rfl) ?_
  refine LL.done (s' := [(2, .string (⟨#[]⟩ : ByteArray)), (3, .int .i64 a0)]) [2, 3] (by kernel_rfl) ?_
  refine NN.then ?_
  refine J.block ?_
  refine J.seq ?_
  refine J.plain ?_
  refine LL.op (.bool (a0 == 1)) (by kernel_rfl) (fun w _ => by kernel_rfl) ?_
  refine LL.op (.bool (a0 == 1)) (by kernel_rfl) (fun w _ => by kernel_rfl) ?_
  refine LL.done (s' := [(2, .string (⟨#[]⟩ : ByteArray)), (3, .int .i64 a0), (4, .bool (a0 == 1))]) [2, 3, 4] (by kernel_rfl) ?_
  refine NN.then ?_
  rcases Bool.eq_false_or_eq_true ((a0 == 1)) with c513 | c513
  · rw [if_pos (eq_of_beq c513)] at H
    refine J.condT (b := (a0 == 1)) c513 (by kernel_rfl) (by kernel_rfl) ?_
    refine J.seq ?_
    refine J.plain ?_
    refine LL.op (.string (⟨#[67, 51, 53]⟩ : ByteArray)) (by kernel_rfl) (fun w _ => by kernel_rfl) ?_
    refine LL.done (s' := [(2, .string (⟨#[67, 51, 53]⟩ : ByteArray))]) [2] (by kernel_rfl) ?_
    refine NN.then ?_
    refine J.ret ?_
    refine NN.block_ret ?_
    refine NN.then_ret ?_
    refine NN.fin1 2 (.string (⟨#[67, 51, 53]⟩ : ByteArray)) (by kernel_rfl) (by kernel_rfl) (.inl rfl) (fun w hi => hi.ret ?_)
    first | (cases H; rfl) | (obtain rfl := Option.some.inj H; rfl) | (simp only [Option.some.injEq, Prod.mk.injEq] at H; obtain ⟨rfl⟩ := H; rfl)
  · rw [if_neg (nebf c513)] at H
    refine J.condF (b := (a0 == 1)) c513 (by kernel_rfl) (by kernel_rfl) ?_
    refine J.seq ?_
    refine J.plain ?_
    refine LL.op (.bool (a0 == 2)) (by kernel_rfl) (fun w _ => by kernel_rfl) ?_
    refine LL.op (.bool (a0 == 2)) (by kernel_rfl) (fun w _ => by kernel_rfl) ?_
    refine LL.done (s' := [(2, .string (⟨#[]⟩ : ByteArray)), (3, .int .i64 a0), (6, .bool (a0 == 2))]) [2, 3, 6] (by kernel_rfl) ?_
    refine NN.then ?_
    rcases Bool.eq_false_or_eq_true ((a0 == 2)) with c514 | c514
    · rw [if_pos (eq_of_beq c514)] at H
      refine J.condT (b := (a0 == 2)) c514 (by kernel_rfl) (by kernel_rfl) ?_
      refine J.seq ?_
      refine J.plain ?_
      refine LL.op (.string (⟨#[67, 50, 52]⟩ : ByteArray)) (by kernel_rfl) (fun w _ => by kernel_rfl) ?_
      refine LL.done (s' := [(2, .string (⟨#[67, 50, 52]⟩ : ByteArray))]) [2] (by kernel_rfl) ?_
      refine NN.then ?_
      refine J.ret ?_
      refine NN.block_ret ?_
      refine NN.then_ret ?_
      refine NN.fin1 2 (.string (⟨#[67, 50, 52]⟩ : ByteArray)) (by kernel_rfl) (by kernel_rfl) (.inl rfl) (fun w hi => hi.ret ?_)
      first | (cases H; rfl) | (obtain rfl := Option.some.inj H; rfl) | (simp only [Option.some.injEq, Prod.mk.injEq] at H; obtain ⟨rfl⟩ := H; rfl)
    · rw [if_neg (nebf c514)] at H
      refine J.condF (b := (a0 == 2)) c514 (by kernel_rfl) (by kernel_rfl) ?_
      refine J.seq ?_
      refine J.plain ?_
      refine LL.op (.bool (a0 == 3)) (by kernel_rfl) (fun w _ => by kernel_rfl) ?_
      refine LL.op (.bool (a0 == 3)) (by kernel_rfl) (fun w _ => by kernel_rfl) ?_
      refine LL.done (s' := [(2, .string (⟨#[]⟩ : ByteArray)), (3, .int .i64 a0), (8, .bool (a0 == 3))]) [2, 3, 8] (by kernel_rfl) ?_
      refine NN.then ?_
      rcases Bool.eq_false_or_eq_true ((a0 == 3)) with c515 | c515
      · rw [if_pos (eq_of_beq c515)] at H
        refine J.condT (b := (a0 == 3)) c515 (by kernel_rfl) (by kernel_rfl) ?_
        refine J.seq ?_
        refine J.plain ?_
        refine LL.op (.string (⟨#[67, 49, 56]⟩ : ByteArray)) (by kernel_rfl) (fun w _ => by kernel_rfl) ?_
        refine LL.done (s' := [(2, .string (⟨#[67, 49, 56]⟩ : ByteArray))]) [2] (by kernel_rfl) ?_
        refine NN.then ?_
        refine J.ret ?_
        refine NN.block_ret ?_
        refine NN.then_ret ?_
        refine NN.fin1 2 (.string (⟨#[67, 49, 56]⟩ : ByteArray)) (by kernel_rfl) (by kernel_rfl) (.inl rfl) (fun w hi => hi.ret ?_)
        first | (cases H; rfl) | (obtain rfl := Option.some.inj H; rfl) | (simp only [Option.some.injEq, Prod.mk.injEq] at H; obtain ⟨rfl⟩ := H; rfl)
      · rw [if_neg (nebf c515)] at H
        refine J.condF (b := (a0 == 3)) c515 (by kernel_rfl) (by kernel_rfl) ?_
        refine J.seq ?_
        refine J.plain ?_
        refine LL.op (.bool (a0 == 4)) (by kernel_rfl) (fun w _ => by kernel_rfl) ?_
        refine LL.op (.bool (a0 == 4)) (by kernel_rfl) (fun w _ => by kernel_rfl) ?_
        refine LL.done (s' := [(2, .string (⟨#[]⟩ : ByteArray)), (10, .bool (a0 == 4))]) [2, 10] (by kernel_rfl) ?_
        refine NN.then ?_
        rcases Bool.eq_false_or_eq_true ((a0 == 4)) with c516 | c516
        · rw [if_pos (eq_of_beq c516)] at H
          refine J.condT (b := (a0 == 4)) c516 (by kernel_rfl) (by kernel_rfl) ?_
          refine J.seq ?_
          refine J.plain ?_
          refine LL.op (.string (⟨#[67, 49, 52]⟩ : ByteArray)) (by kernel_rfl) (fun w _ => by kernel_rfl) ?_
          refine LL.done (s' := [(2, .string (⟨#[67, 49, 52]⟩ : ByteArray))]) [2] (by kernel_rfl) ?_
          refine NN.then ?_
          refine J.ret ?_
          refine NN.block_ret ?_
          refine NN.then_ret ?_
          refine NN.fin1 2 (.string (⟨#[67, 49, 52]⟩ : ByteArray)) (by kernel_rfl) (by kernel_rfl) (.inl rfl) (fun w hi => hi.ret ?_)
          first | (cases H; rfl) | (obtain rfl := Option.some.inj H; rfl) | (simp only [Option.some.injEq, Prod.mk.injEq] at H; obtain ⟨rfl⟩ := H; rfl)
        · rw [if_neg (nebf c516)] at H
          refine J.condF (b := (a0 == 4)) c516 (by kernel_rfl) (by kernel_rfl) ?_
          refine J.skip ?_
          refine NN.block_n ?_
          refine NN.then ?_
          refine J.seq ?_
          refine J.plain ?_
          refine LL.op (.string (⟨#[]⟩ : ByteArray)) (by kernel_rfl) (fun w _ => by kernel_rfl) ?_
          refine LL.done (s' := [(2, .string (⟨#[]⟩ : ByteArray))]) [2] (by kernel_rfl) ?_
          refine NN.then ?_
          refine J.ret ?_
          refine NN.fin1 2 (.string (⟨#[]⟩ : ByteArray)) (by kernel_rfl) (by kernel_rfl) (.inl rfl) (fun w hi => hi.ret ?_)
          first | (cases H; rfl) | (obtain rfl := Option.some.inj H; rfl) | (simp only [Option.some.injEq, Prod.mk.injEq] at H; obtain ⟨rfl⟩ := H; rfl)

/-! ### sawmilllaw41_few: function 15 -/
def sawmilllaw41_few.f (a0_0 : ByteArray) (a0_1 : ByteArray) (a0_2 : ByteArray) (a0_3 : Int) (a0_4 : Int) (a0_5 : Int) (a0_6 : Int) (a0_7 : Int) (a0_8 : Int) (a0_9 : Int) (a0_10 : Int) (a0_11 : List E41) (a0_12 : Int) (a0_13 : Int) (a0_14 : Int) (a0_15 : Int) (a0_16 : Bool) (a0_17 : Int) (a1_0 : ByteArray) (a1_1 : Int) (a1_2 : Int) (a1_3 : Int) (a1_4 : Int) (a1_5 : Int) (a1_6 : Int) (a1_7 : Int) (a1_8 : Int) (a1_9 : Int) (a1_10 : Int) (a1_11 : Int) (a1_12 : Int) : Option (Bool) := if (a0_11.length : Int) ≤ 70 then (some (decide ((a1_0.size : Int) ≤ 100))) else (some false)
set_option maxRecDepth 100000 in
theorem sawmilllaw41_few.calls (a0_0 : ByteArray) (a0_1 : ByteArray) (a0_2 : ByteArray) (a0_3 : Int) (a0_4 : Int) (a0_5 : Int) (a0_6 : Int) (a0_7 : Int) (a0_8 : Int) (a0_9 : Int) (a0_10 : Int) (a0_11 : List E41) (a0_12 : Int) (a0_13 : Int) (a0_14 : Int) (a0_15 : Int) (a0_16 : Bool) (a0_17 : Int) (a1_0 : ByteArray) (a1_1 : Int) (a1_2 : Int) (a1_3 : Int) (a1_4 : Int) (a1_5 : Int) (a1_6 : Int) (a1_7 : Int) (a1_8 : Int) (a1_9 : Int) (a1_10 : Int) (a1_11 : Int) (a1_12 : Int)  (Aa0_11 : Option Addr) (ca0_11 : Nat)  (r1 : Bool) (w : World)   (ha0_11 : KRow (Cx.start w) enc41 7 a0_11 Aa0_11) (h : sawmilllaw41_few.f a0_0 a0_1 a0_2 a0_3 a0_4 a0_5 a0_6 a0_7 a0_8 a0_9 a0_10 a0_11 a0_12 a0_13 a0_14 a0_15 a0_16 a0_17 a1_0 a1_1 a1_2 a1_3 a1_4 a1_5 a1_6 a1_7 a1_8 a1_9 a1_10 a1_11 a1_12 = some r1) :
    Calls Try.prog 15 #[.agg #[.string a0_0, .string a0_1, .string a0_2, .int .i64 a0_3, .int .i64 a0_4, .int .i64 a0_5, .int .i64 a0_6, .int .i64 a0_7, .int .i64 a0_8, .int .i64 a0_9, .int .i64 a0_10, .slice Aa0_11 a0_11.length ca0_11, .int .i64 a0_12, .int .i64 a0_13, .int .i64 a0_14, .int .i64 a0_15, .bool a0_16, .int .i64 a0_17], .agg #[.string a1_0, .int .i64 a1_1, .int .i64 a1_2, .int .i64 a1_3, .int .i64 a1_4, .int .i64 a1_5, .int .i64 a1_6, .int .i64 a1_7, .int .i64 a1_8, .int .i64 a1_9, .int .i64 a1_10, .int .i64 a1_11, .int .i64 a1_12]] w (Ret w (.bool r1)) := by
  have H := h
  clear h
  unfold sawmilllaw41_few.f at H
  refine Go.Saw.calls (args := [.agg #[.string a0_0, .string a0_1, .string a0_2, .int .i64 a0_3, .int .i64 a0_4, .int .i64 a0_5, .int .i64 a0_6, .int .i64 a0_7, .int .i64 a0_8, .int .i64 a0_9, .int .i64 a0_10, .slice Aa0_11 a0_11.length ca0_11, .int .i64 a0_12, .int .i64 a0_13, .int .i64 a0_14, .int .i64 a0_15, .bool a0_16, .int .i64 a0_17], .agg #[.string a1_0, .int .i64 a1_1, .int .i64 a1_2, .int .i64 a1_3, .int .i64 a1_4, .int .i64 a1_5, .int .i64 a1_6, .int .i64 a1_7, .int .i64 a1_8, .int .i64 a1_9, .int .i64 a1_10, .int .i64 a1_11, .int .i64 a1_12]]) Try.func15 rfl Try.ntmps15 (by kernel_rfl) ?_
  refine J.seq ?_
  refine J.plain ?_
  refine LL.box 30 (.tmp 0) [.string a0_0, .string a0_1, .string a0_2, .int .i64 a0_3, .int .i64 a0_4, .int .i64 a0_5, .int .i64 a0_6, .int .i64 a0_7, .int .i64 a0_8, .int .i64 a0_9, .int .i64 a0_10, .slice Aa0_11 a0_11.length ca0_11, .int .i64 a0_12, .int .i64 a0_13, .int .i64 a0_14, .int .i64 a0_15, .bool a0_16, .int .i64 a0_17] (by kernel_rfl) rfl (by kernel_rfl) (fun g517 => ?_)
  refine LL.box 32 (.tmp 1) [.string a1_0, .int .i64 a1_1, .int .i64 a1_2, .int .i64 a1_3, .int .i64 a1_4, .int .i64 a1_5, .int .i64 a1_6, .int .i64 a1_7, .int .i64 a1_8, .int .i64 a1_9, .int .i64 a1_10, .int .i64 a1_11, .int .i64 a1_12] (by kernel_rfl) rfl (by kernel_rfl) (fun g518 => ?_)
  refine LL.op (.bool false) (by kernel_rfl) (fun w _ => by kernel_rfl) ?_
  refine LL.done (s' := [(2, .pointer (some ⟨g517, 0, none⟩)), (3, .pointer (some ⟨g518, 0, none⟩)), (4, .bool false)]) [2, 3, 4] (by kernel_rfl) ?_
  refine NN.then ?_
  refine J.seq ?_
  refine J.plain ?_
  refine LL.op (.pointer (some ⟨g517, 11, none⟩)) (by kernel_rfl) (fun w _ => by kernel_rfl) ?_
  refine LL.op (.slice Aa0_11 a0_11.length ca0_11) (by kernel_rfl) (ld 1 g517 11 rfl (by kernel_rfl) rfl (by kernel_rfl)) ?_
  refine LL.op (.int .i64 (a0_11.length : Int)) (by kernel_rfl) (fun w _ => by kernel_rfl) ?_
  refine LL.op (.bool (decide ((a0_11.length : Int) ≤ 70))) (by kernel_rfl) (fun w _ => by kernel_rfl) ?_
  refine LL.op (.bool (decide ((a0_11.length : Int) ≤ 70))) (by kernel_rfl) (fun w _ => by kernel_rfl) ?_
  rcases Bool.eq_false_or_eq_true (decide ((a0_11.length : Int) ≤ 70)) with c519 | c519
  · rw [if_pos (of_decide_eq_true c519)] at H
    refine LL.bool 9 (decide ((a0_11.length : Int) ≤ 70)) true c519 (by kernel_rfl) ?_
    refine LL.op (.pointer (some ⟨g518, 0, none⟩)) (by kernel_rfl) (fun w _ => by kernel_rfl) ?_
    refine LL.op (.string a1_0) (by kernel_rfl) (ld 0 g518 0 rfl (by kernel_rfl) rfl (by kernel_rfl)) ?_
    refine LL.op (.int .i64 (a1_0.size : Int)) (by kernel_rfl) (fun w _ => by kernel_rfl) ?_
    refine LL.op (.bool (decide ((a1_0.size : Int) ≤ 100))) (by kernel_rfl) (fun w _ => by kernel_rfl) ?_
    refine LL.op (.bool (decide ((a1_0.size : Int) ≤ 100))) (by kernel_rfl) (fun w _ => by kernel_rfl) ?_
    refine LL.op (.bool (decide ((a1_0.size : Int) ≤ 100))) (by kernel_rfl) (fun w _ => by kernel_rfl) ?_
    refine LL.done (s' := [(4, .bool (decide ((a1_0.size : Int) ≤ 100)))]) [4] (by kernel_rfl) ?_
    refine NN.then ?_
    refine J.ret ?_
    refine NN.fin1 4 (.bool (decide ((a1_0.size : Int) ≤ 100))) (by kernel_rfl) (by kernel_rfl) (.inl rfl) (fun w hi => hi.ret ?_)
    first | (cases H; rfl) | (obtain rfl := Option.some.inj H; rfl) | (simp only [Option.some.injEq, Prod.mk.injEq] at H; obtain ⟨rfl⟩ := H; rfl)
  · rw [if_neg (of_decide_eq_false c519)] at H
    refine LL.bool 9 (decide ((a0_11.length : Int) ≤ 70)) false c519 (by kernel_rfl) ?_
    refine LL.off (by kernel_rfl) (by kernel_rfl) ?_
    refine LL.off (by kernel_rfl) (by kernel_rfl) ?_
    refine LL.off (by kernel_rfl) (by kernel_rfl) ?_
    refine LL.off (by kernel_rfl) (by kernel_rfl) ?_
    refine LL.op (.bool false) (by kernel_rfl) (fun w _ => by kernel_rfl) ?_
    refine LL.op (.bool false) (by kernel_rfl) (fun w _ => by kernel_rfl) ?_
    refine LL.done (s' := [(4, .bool false)]) [4] (by kernel_rfl) ?_
    refine NN.then ?_
    refine J.ret ?_
    refine NN.fin1 4 (.bool false) (by kernel_rfl) (by kernel_rfl) (.inl rfl) (fun w hi => hi.ret ?_)
    first | (cases H; rfl) | (obtain rfl := Option.some.inj H; rfl) | (simp only [Option.some.injEq, Prod.mk.injEq] at H; obtain ⟨rfl⟩ := H; rfl)

/-! ### sawmillref41_Right: function 16 -/
def sawmillref41_Right.f (K : Nat) (a0_0 : ByteArray) (a0_1 : ByteArray) (a0_2 : ByteArray) (a0_3 : Int) (a0_4 : Int) (a0_5 : Int) (a0_6 : Int) (a0_7 : Int) (a0_8 : Int) (a0_9 : Int) (a0_10 : Int) (a0_11 : List E41) (a0_12 : Int) (a0_13 : Int) (a0_14 : Int) (a0_15 : Int) (a0_16 : Bool) (a0_17 : Int) (a1_0 : ByteArray) (a1_1 : Int) (a1_2 : Int) (a1_3 : Int) (a1_4 : Int) (a1_5 : Int) (a1_6 : Int) (a1_7 : Int) (a1_8 : Int) (a1_9 : Int) (a1_10 : Int) (a1_11 : Int) (a1_12 : Int) : Option (Bool) := (sawmillref13_Check.f K a0_11).bind fun x522 => (if x522 = 0 then ((sawmillref41_Width.f a0_0 a0_1 a0_2 a0_3 a0_4 a0_5 a0_6 a0_7 a0_8 a0_9 a0_10 a0_11 a0_12 a0_13 a0_14 a0_15 a0_16 a0_17).bind fun x524 => (if 1 ≤ x524 then (if x524 ≤ 1200 then ((sawmillref36_Check.f a0_13 a0_14 a0_15).bind fun x527 => (if x527 = 0 then ((sawmillref34_Check.f K ([(a1_0, a1_1, a1_2, a1_3, a1_4, a1_5, a1_6, a1_7, a1_8, a1_9, a1_10, a1_11, a1_12)] : List E32)).bind fun x537 => (some (x537 == 0))) else (some false))) else (some false)) else (some false))) else (some false))
set_option maxRecDepth 100000 in
theorem sawmillref41_Right.calls (K : Nat) (a0_0 : ByteArray) (a0_1 : ByteArray) (a0_2 : ByteArray) (a0_3 : Int) (a0_4 : Int) (a0_5 : Int) (a0_6 : Int) (a0_7 : Int) (a0_8 : Int) (a0_9 : Int) (a0_10 : Int) (a0_11 : List E41) (a0_12 : Int) (a0_13 : Int) (a0_14 : Int) (a0_15 : Int) (a0_16 : Bool) (a0_17 : Int) (a1_0 : ByteArray) (a1_1 : Int) (a1_2 : Int) (a1_3 : Int) (a1_4 : Int) (a1_5 : Int) (a1_6 : Int) (a1_7 : Int) (a1_8 : Int) (a1_9 : Int) (a1_10 : Int) (a1_11 : Int) (a1_12 : Int)  (Aa0_11 : Option Addr) (ca0_11 : Nat)  (r1 : Bool) (w : World)   (ha0_11 : KRow (Cx.start w) enc41 7 a0_11 Aa0_11) (h : sawmillref41_Right.f K a0_0 a0_1 a0_2 a0_3 a0_4 a0_5 a0_6 a0_7 a0_8 a0_9 a0_10 a0_11 a0_12 a0_13 a0_14 a0_15 a0_16 a0_17 a1_0 a1_1 a1_2 a1_3 a1_4 a1_5 a1_6 a1_7 a1_8 a1_9 a1_10 a1_11 a1_12 = some r1) :
    Calls Try.prog 16 #[.agg #[.string a0_0, .string a0_1, .string a0_2, .int .i64 a0_3, .int .i64 a0_4, .int .i64 a0_5, .int .i64 a0_6, .int .i64 a0_7, .int .i64 a0_8, .int .i64 a0_9, .int .i64 a0_10, .slice Aa0_11 a0_11.length ca0_11, .int .i64 a0_12, .int .i64 a0_13, .int .i64 a0_14, .int .i64 a0_15, .bool a0_16, .int .i64 a0_17], .agg #[.string a1_0, .int .i64 a1_1, .int .i64 a1_2, .int .i64 a1_3, .int .i64 a1_4, .int .i64 a1_5, .int .i64 a1_6, .int .i64 a1_7, .int .i64 a1_8, .int .i64 a1_9, .int .i64 a1_10, .int .i64 a1_11, .int .i64 a1_12]] w (Ret w (.bool r1)) := by
  have H := h
  clear h
  unfold sawmillref41_Right.f at H
  refine Go.Saw.calls (args := [.agg #[.string a0_0, .string a0_1, .string a0_2, .int .i64 a0_3, .int .i64 a0_4, .int .i64 a0_5, .int .i64 a0_6, .int .i64 a0_7, .int .i64 a0_8, .int .i64 a0_9, .int .i64 a0_10, .slice Aa0_11 a0_11.length ca0_11, .int .i64 a0_12, .int .i64 a0_13, .int .i64 a0_14, .int .i64 a0_15, .bool a0_16, .int .i64 a0_17], .agg #[.string a1_0, .int .i64 a1_1, .int .i64 a1_2, .int .i64 a1_3, .int .i64 a1_4, .int .i64 a1_5, .int .i64 a1_6, .int .i64 a1_7, .int .i64 a1_8, .int .i64 a1_9, .int .i64 a1_10, .int .i64 a1_11, .int .i64 a1_12]]) Try.func16 rfl Try.ntmps16 (by kernel_rfl) ?_
  refine J.seq ?_
  refine J.plain ?_
  refine LL.box 30 (.tmp 0) [.string a0_0, .string a0_1, .string a0_2, .int .i64 a0_3, .int .i64 a0_4, .int .i64 a0_5, .int .i64 a0_6, .int .i64 a0_7, .int .i64 a0_8, .int .i64 a0_9, .int .i64 a0_10, .slice Aa0_11 a0_11.length ca0_11, .int .i64 a0_12, .int .i64 a0_13, .int .i64 a0_14, .int .i64 a0_15, .bool a0_16, .int .i64 a0_17] (by kernel_rfl) rfl (by kernel_rfl) (fun g520 => ?_)
  refine LL.box 32 (.tmp 1) [.string a1_0, .int .i64 a1_1, .int .i64 a1_2, .int .i64 a1_3, .int .i64 a1_4, .int .i64 a1_5, .int .i64 a1_6, .int .i64 a1_7, .int .i64 a1_8, .int .i64 a1_9, .int .i64 a1_10, .int .i64 a1_11, .int .i64 a1_12] (by kernel_rfl) rfl (by kernel_rfl) (fun g521 => ?_)
  refine LL.op (.bool false) (by kernel_rfl) (fun w _ => by kernel_rfl) ?_
  refine LL.done (s' := [(2, .pointer (some ⟨g520, 0, none⟩)), (3, .pointer (some ⟨g521, 0, none⟩)), (4, .bool false)]) [2, 3, 4] (by kernel_rfl) ?_
  refine NN.then ?_
  refine J.seq ?_
  refine J.plain ?_
  refine LL.op (.pointer (some ⟨g520, 11, none⟩)) (by kernel_rfl) (fun w _ => by kernel_rfl) ?_
  refine LL.op (.slice Aa0_11 a0_11.length ca0_11) (by kernel_rfl) (ld 1 g520 11 rfl (by kernel_rfl) rfl (by kernel_rfl)) ?_
  obtain ⟨x522, hx522, H⟩ := bind_some H
  refine LL.call 26 #[.slice Aa0_11 a0_11.length ca0_11] (.int .i64 x522) (by kernel_rfl) (fun w => by kernel_rfl) (fun w hw => sawmillref13_Check.calls K a0_11  _ _ _ w  (ha0_11.at hw) hx522) ?_
  refine LL.op (.bool (x522 == 0)) (by kernel_rfl) (fun w _ => by kernel_rfl) ?_
  refine LL.op (.bool (x522 == 0)) (by kernel_rfl) (fun w _ => by kernel_rfl) ?_
  rcases Bool.eq_false_or_eq_true ((x522 == 0)) with c523 | c523
  · rw [if_pos (eq_of_beq c523)] at H
    refine LL.bool 9 ((x522 == 0)) true c523 (by kernel_rfl) ?_
    refine LL.op (.agg #[.string a0_0, .string a0_1, .string a0_2, .int .i64 a0_3, .int .i64 a0_4, .int .i64 a0_5, .int .i64 a0_6, .int .i64 a0_7, .int .i64 a0_8, .int .i64 a0_9, .int .i64 a0_10, .slice Aa0_11 a0_11.length ca0_11, .int .i64 a0_12, .int .i64 a0_13, .int .i64 a0_14, .int .i64 a0_15, .bool a0_16, .int .i64 a0_17]) (by kernel_rfl) (ld 1 g520 0 rfl (by kernel_rfl) rfl (by kernel_rfl)) ?_
    obtain ⟨x524, hx524, H⟩ := bind_some H
    refine LL.call 52 #[.agg #[.string a0_0, .string a0_1, .string a0_2, .int .i64 a0_3, .int .i64 a0_4, .int .i64 a0_5, .int .i64 a0_6, .int .i64 a0_7, .int .i64 a0_8, .int .i64 a0_9, .int .i64 a0_10, .slice Aa0_11 a0_11.length ca0_11, .int .i64 a0_12, .int .i64 a0_13, .int .i64 a0_14, .int .i64 a0_15, .bool a0_16, .int .i64 a0_17]] (.int .i64 x524) (by kernel_rfl) (fun w => by kernel_rfl) (fun w hw => sawmillref41_Width.calls a0_0 a0_1 a0_2 a0_3 a0_4 a0_5 a0_6 a0_7 a0_8 a0_9 a0_10 a0_11 a0_12 a0_13 a0_14 a0_15 a0_16 a0_17  _ _ _ w  (ha0_11.at hw) hx524) ?_
    refine LL.op (.bool (decide (1 ≤ x524))) (by kernel_rfl) (fun w _ => by kernel_rfl) ?_
    refine LL.op (.bool (decide (1 ≤ x524))) (by kernel_rfl) (fun w _ => by kernel_rfl) ?_
    refine LL.op (.bool (decide (1 ≤ x524))) (by kernel_rfl) (fun w _ => by kernel_rfl) ?_
    rcases Bool.eq_false_or_eq_true (decide (1 ≤ x524)) with c525 | c525
    · rw [if_pos (of_decide_eq_true c525)] at H
      refine LL.bool 14 (decide (1 ≤ x524)) true c525 (by kernel_rfl) ?_
      refine LL.op (.agg #[.string a0_0, .string a0_1, .string a0_2, .int .i64 a0_3, .int .i64 a0_4, .int .i64 a0_5, .int .i64 a0_6, .int .i64 a0_7, .int .i64 a0_8, .int .i64 a0_9, .int .i64 a0_10, .slice Aa0_11 a0_11.length ca0_11, .int .i64 a0_12, .int .i64 a0_13, .int .i64 a0_14, .int .i64 a0_15, .bool a0_16, .int .i64 a0_17]) (by kernel_rfl) (ld 1 g520 0 rfl (by kernel_rfl) rfl (by kernel_rfl)) ?_
      refine LL.call 52 #[.agg #[.string a0_0, .string a0_1, .string a0_2, .int .i64 a0_3, .int .i64 a0_4, .int .i64 a0_5, .int .i64 a0_6, .int .i64 a0_7, .int .i64 a0_8, .int .i64 a0_9, .int .i64 a0_10, .slice Aa0_11 a0_11.length ca0_11, .int .i64 a0_12, .int .i64 a0_13, .int .i64 a0_14, .int .i64 a0_15, .bool a0_16, .int .i64 a0_17]] (.int .i64 x524) (by kernel_rfl) (fun w => by kernel_rfl) (fun w hw => sawmillref41_Width.calls a0_0 a0_1 a0_2 a0_3 a0_4 a0_5 a0_6 a0_7 a0_8 a0_9 a0_10 a0_11 a0_12 a0_13 a0_14 a0_15 a0_16 a0_17  _ _ _ w  (ha0_11.at hw) hx524) ?_
      refine LL.op (.bool (decide (x524 ≤ 1200))) (by kernel_rfl) (fun w _ => by kernel_rfl) ?_
      refine LL.op (.bool (decide (x524 ≤ 1200))) (by kernel_rfl) (fun w _ => by kernel_rfl) ?_
      refine LL.op (.bool (decide (x524 ≤ 1200))) (by kernel_rfl) (fun w _ => by kernel_rfl) ?_
      rcases Bool.eq_false_or_eq_true (decide (x524 ≤ 1200)) with c526 | c526
      · rw [if_pos (of_decide_eq_true c526)] at H
        refine LL.bool 19 (decide (x524 ≤ 1200)) true c526 (by kernel_rfl) ?_
        refine LL.op (.pointer (some ⟨g520, 13, none⟩)) (by kernel_rfl) (fun w _ => by kernel_rfl) ?_
        refine LL.op (.agg #[.int .i64 a0_13, .int .i64 a0_14, .int .i64 a0_15]) (by kernel_rfl) (ld 1 g520 13 rfl (by kernel_rfl) rfl (by kernel_rfl)) ?_
        obtain ⟨x527, hx527, H⟩ := bind_some H
        refine LL.call 53 #[.agg #[.int .i64 a0_13, .int .i64 a0_14, .int .i64 a0_15]] (.int .i64 x527) (by kernel_rfl) (fun w => by kernel_rfl) (fun w hw => sawmillref36_Check.calls a0_13 a0_14 a0_15   _ w   hx527) ?_
        refine LL.op (.bool (x527 == 0)) (by kernel_rfl) (fun w _ => by kernel_rfl) ?_
        refine LL.op (.bool (x527 == 0)) (by kernel_rfl) (fun w _ => by kernel_rfl) ?_
        refine LL.op (.bool (x527 == 0)) (by kernel_rfl) (fun w _ => by kernel_rfl) ?_
        rcases Bool.eq_false_or_eq_true ((x527 == 0)) with c528 | c528
        · rw [if_pos (eq_of_beq c528)] at H
          refine LL.bool 25 ((x527 == 0)) true c528 (by kernel_rfl) ?_
          refine LL.op (.agg #[.string a1_0, .int .i64 a1_1, .int .i64 a1_2, .int .i64 a1_3, .int .i64 a1_4, .int .i64 a1_5, .int .i64 a1_6, .int .i64 a1_7, .int .i64 a1_8, .int .i64 a1_9, .int .i64 a1_10, .int .i64 a1_11, .int .i64 a1_12]) (by kernel_rfl) (ld 0 g521 0 rfl (by kernel_rfl) rfl (by kernel_rfl)) ?_
          refine LL.lit 67 1 #[(0, .tmp 26)] [.string a1_0, .int .i64 a1_1, .int .i64 a1_2, .int .i64 a1_3, .int .i64 a1_4, .int .i64 a1_5, .int .i64 a1_6, .int .i64 a1_7, .int .i64 a1_8, .int .i64 a1_9, .int .i64 a1_10, .int .i64 a1_11, .int .i64 a1_12] 32 ([(a1_0, a1_1, a1_2, a1_3, a1_4, a1_5, a1_6, a1_7, a1_8, a1_9, a1_10, a1_11, a1_12)] : List E32) (by kernel_rfl) rfl (by kernel_rfl) ok32.len rfl rfl (fun R529 F530 A531 c532 le533 k534 fr535 => ?_)
          obtain ⟨x537, hx537, H⟩ := bind_some H
          refine LL.call 54 #[.slice A531 1 c532] (.int .i64 x537) (by kernel_rfl) (fun w => by kernel_rfl) (fun w hw => sawmillref34_Check.calls K ([(a1_0, a1_1, a1_2, a1_3, a1_4, a1_5, a1_6, a1_7, a1_8, a1_9, a1_10, a1_11, a1_12)] : List E32)  _ _ _ w  (k534.at hw) hx537) ?_
          refine LL.op (.bool (x537 == 0)) (by kernel_rfl) (fun w _ => by kernel_rfl) ?_
          refine LL.op (.bool (x537 == 0)) (by kernel_rfl) (fun w _ => by kernel_rfl) ?_
          refine LL.op (.bool (x537 == 0)) (by kernel_rfl) (fun w _ => by kernel_rfl) ?_
          refine LL.done (s' := [(4, .bool (x537 == 0))]) [4] (by kernel_rfl) ?_
          refine NN.then ?_
          refine J.ret ?_
          refine NN.fin1 4 (.bool (x537 == 0)) (by kernel_rfl) (by kernel_rfl) (.inl rfl) (fun w hi => hi.ret ?_)
          first | (cases H; rfl) | (obtain rfl := Option.some.inj H; rfl) | (simp only [Option.some.injEq, Prod.mk.injEq] at H; obtain ⟨rfl⟩ := H; rfl)
        · rw [if_neg (nebf c528)] at H
          refine LL.bool 25 ((x527 == 0)) false c528 (by kernel_rfl) ?_
          refine LL.off (by kernel_rfl) (by kernel_rfl) ?_
          refine LL.off (by kernel_rfl) (by kernel_rfl) ?_
          refine LL.off (by kernel_rfl) (by kernel_rfl) ?_
          refine LL.off (by kernel_rfl) (by kernel_rfl) ?_
          refine LL.op (.bool false) (by kernel_rfl) (fun w _ => by kernel_rfl) ?_
          refine LL.op (.bool false) (by kernel_rfl) (fun w _ => by kernel_rfl) ?_
          refine LL.done (s' := [(4, .bool false)]) [4] (by kernel_rfl) ?_
          refine NN.then ?_
          refine J.ret ?_
          refine NN.fin1 4 (.bool false) (by kernel_rfl) (by kernel_rfl) (.inl rfl) (fun w hi => hi.ret ?_)
          first | (cases H; rfl) | (obtain rfl := Option.some.inj H; rfl) | (simp only [Option.some.injEq, Prod.mk.injEq] at H; obtain ⟨rfl⟩ := H; rfl)
      · rw [if_neg (of_decide_eq_false c526)] at H
        refine LL.bool 19 (decide (x524 ≤ 1200)) false c526 (by kernel_rfl) ?_
        refine LL.off (by kernel_rfl) (by kernel_rfl) ?_
        refine LL.off (by kernel_rfl) (by kernel_rfl) ?_
        refine LL.off (by kernel_rfl) (by kernel_rfl) ?_
        refine LL.off (by kernel_rfl) (by kernel_rfl) ?_
        refine LL.op (.bool false) (by kernel_rfl) (fun w _ => by kernel_rfl) ?_
        refine LL.op (.bool false) (by kernel_rfl) (fun w _ => by kernel_rfl) ?_
        refine LL.off (by kernel_rfl) (by kernel_rfl) ?_
        refine LL.off (by kernel_rfl) (by kernel_rfl) ?_
        refine LL.off (by kernel_rfl) (by kernel_rfl) ?_
        refine LL.off (by kernel_rfl) (by kernel_rfl) ?_
        refine LL.op (.bool false) (by kernel_rfl) (fun w _ => by kernel_rfl) ?_
        refine LL.op (.bool false) (by kernel_rfl) (fun w _ => by kernel_rfl) ?_
        refine LL.done (s' := [(4, .bool false)]) [4] (by kernel_rfl) ?_
        refine NN.then ?_
        refine J.ret ?_
        refine NN.fin1 4 (.bool false) (by kernel_rfl) (by kernel_rfl) (.inl rfl) (fun w hi => hi.ret ?_)
        first | (cases H; rfl) | (obtain rfl := Option.some.inj H; rfl) | (simp only [Option.some.injEq, Prod.mk.injEq] at H; obtain ⟨rfl⟩ := H; rfl)
    · rw [if_neg (of_decide_eq_false c525)] at H
      refine LL.bool 14 (decide (1 ≤ x524)) false c525 (by kernel_rfl) ?_
      refine LL.off (by kernel_rfl) (by kernel_rfl) ?_
      refine LL.off (by kernel_rfl) (by kernel_rfl) ?_
      refine LL.off (by kernel_rfl) (by kernel_rfl) ?_
      refine LL.op (.bool false) (by kernel_rfl) (fun w _ => by kernel_rfl) ?_
      refine LL.op (.bool false) (by kernel_rfl) (fun w _ => by kernel_rfl) ?_
      refine LL.off (by kernel_rfl) (by kernel_rfl) ?_
      refine LL.off (by kernel_rfl) (by kernel_rfl) ?_
      refine LL.off (by kernel_rfl) (by kernel_rfl) ?_
      refine LL.off (by kernel_rfl) (by kernel_rfl) ?_
      refine LL.op (.bool false) (by kernel_rfl) (fun w _ => by kernel_rfl) ?_
      refine LL.op (.bool false) (by kernel_rfl) (fun w _ => by kernel_rfl) ?_
      refine LL.off (by kernel_rfl) (by kernel_rfl) ?_
      refine LL.off (by kernel_rfl) (by kernel_rfl) ?_
      refine LL.off (by kernel_rfl) (by kernel_rfl) ?_
      refine LL.off (by kernel_rfl) (by kernel_rfl) ?_
      refine LL.op (.bool false) (by kernel_rfl) (fun w _ => by kernel_rfl) ?_
      refine LL.op (.bool false) (by kernel_rfl) (fun w _ => by kernel_rfl) ?_
      refine LL.done (s' := [(4, .bool false)]) [4] (by kernel_rfl) ?_
      refine NN.then ?_
      refine J.ret ?_
      refine NN.fin1 4 (.bool false) (by kernel_rfl) (by kernel_rfl) (.inl rfl) (fun w hi => hi.ret ?_)
      first | (cases H; rfl) | (obtain rfl := Option.some.inj H; rfl) | (simp only [Option.some.injEq, Prod.mk.injEq] at H; obtain ⟨rfl⟩ := H; rfl)
  · rw [if_neg (nebf c523)] at H
    refine LL.bool 9 ((x522 == 0)) false c523 (by kernel_rfl) ?_
    refine LL.off (by kernel_rfl) (by kernel_rfl) ?_
    refine LL.off (by kernel_rfl) (by kernel_rfl) ?_
    refine LL.off (by kernel_rfl) (by kernel_rfl) ?_
    refine LL.op (.bool false) (by kernel_rfl) (fun w _ => by kernel_rfl) ?_
    refine LL.op (.bool false) (by kernel_rfl) (fun w _ => by kernel_rfl) ?_
    refine LL.off (by kernel_rfl) (by kernel_rfl) ?_
    refine LL.off (by kernel_rfl) (by kernel_rfl) ?_
    refine LL.off (by kernel_rfl) (by kernel_rfl) ?_
    refine LL.op (.bool false) (by kernel_rfl) (fun w _ => by kernel_rfl) ?_
    refine LL.op (.bool false) (by kernel_rfl) (fun w _ => by kernel_rfl) ?_
    refine LL.off (by kernel_rfl) (by kernel_rfl) ?_
    refine LL.off (by kernel_rfl) (by kernel_rfl) ?_
    refine LL.off (by kernel_rfl) (by kernel_rfl) ?_
    refine LL.off (by kernel_rfl) (by kernel_rfl) ?_
    refine LL.op (.bool false) (by kernel_rfl) (fun w _ => by kernel_rfl) ?_
    refine LL.op (.bool false) (by kernel_rfl) (fun w _ => by kernel_rfl) ?_
    refine LL.off (by kernel_rfl) (by kernel_rfl) ?_
    refine LL.off (by kernel_rfl) (by kernel_rfl) ?_
    refine LL.off (by kernel_rfl) (by kernel_rfl) ?_
    refine LL.off (by kernel_rfl) (by kernel_rfl) ?_
    refine LL.op (.bool false) (by kernel_rfl) (fun w _ => by kernel_rfl) ?_
    refine LL.op (.bool false) (by kernel_rfl) (fun w _ => by kernel_rfl) ?_
    refine LL.done (s' := [(4, .bool false)]) [4] (by kernel_rfl) ?_
    refine NN.then ?_
    refine J.ret ?_
    refine NN.fin1 4 (.bool false) (by kernel_rfl) (by kernel_rfl) (.inl rfl) (fun w hi => hi.ret ?_)
    first | (cases H; rfl) | (obtain rfl := Option.some.inj H; rfl) | (simp only [Option.some.injEq, Prod.mk.injEq] at H; obtain ⟨rfl⟩ := H; rfl)

/-! ### sawmillref41_Knots: function 19 -/
def sawmillref41_Knots.f (K : Nat) (a0_0 : ByteArray) (a0_1 : ByteArray) (a0_2 : ByteArray) (a0_3 : Int) (a0_4 : Int) (a0_5 : Int) (a0_6 : Int) (a0_7 : Int) (a0_8 : Int) (a0_9 : Int) (a0_10 : Int) (a0_11 : List E41) (a0_12 : Int) (a0_13 : Int) (a0_14 : Int) (a0_15 : Int) (a0_16 : Bool) (a0_17 : Int) : Option (Int) := (sawmillref41_Width.f a0_0 a0_1 a0_2 a0_3 a0_4 a0_5 a0_6 a0_7 a0_8 a0_9 a0_10 a0_11 a0_12 a0_13 a0_14 a0_15 a0_16 a0_17).bind fun x539 => (if x539 < 1 then (some 0) else ((sawmillref13_Worst.f K a0_11 150).bind fun x541 => (if x539 = 0 then (none) else (some (mn 1000 (IntKind.i64.wrap (Int.tdiv (IntKind.i64.wrap (x541 * 1000)) x539)))))))
set_option maxRecDepth 100000 in
theorem sawmillref41_Knots.calls (K : Nat) (a0_0 : ByteArray) (a0_1 : ByteArray) (a0_2 : ByteArray) (a0_3 : Int) (a0_4 : Int) (a0_5 : Int) (a0_6 : Int) (a0_7 : Int) (a0_8 : Int) (a0_9 : Int) (a0_10 : Int) (a0_11 : List E41) (a0_12 : Int) (a0_13 : Int) (a0_14 : Int) (a0_15 : Int) (a0_16 : Bool) (a0_17 : Int)  (Aa0_11 : Option Addr) (ca0_11 : Nat)  (r1 : Int) (w : World)   (ha0_11 : KRow (Cx.start w) enc41 7 a0_11 Aa0_11) (h : sawmillref41_Knots.f K a0_0 a0_1 a0_2 a0_3 a0_4 a0_5 a0_6 a0_7 a0_8 a0_9 a0_10 a0_11 a0_12 a0_13 a0_14 a0_15 a0_16 a0_17 = some r1) :
    Calls Try.prog 19 #[.agg #[.string a0_0, .string a0_1, .string a0_2, .int .i64 a0_3, .int .i64 a0_4, .int .i64 a0_5, .int .i64 a0_6, .int .i64 a0_7, .int .i64 a0_8, .int .i64 a0_9, .int .i64 a0_10, .slice Aa0_11 a0_11.length ca0_11, .int .i64 a0_12, .int .i64 a0_13, .int .i64 a0_14, .int .i64 a0_15, .bool a0_16, .int .i64 a0_17]] w (Ret w (.int .i64 r1)) := by
  have H := h
  clear h
  unfold sawmillref41_Knots.f at H
  refine Go.Saw.calls (args := [.agg #[.string a0_0, .string a0_1, .string a0_2, .int .i64 a0_3, .int .i64 a0_4, .int .i64 a0_5, .int .i64 a0_6, .int .i64 a0_7, .int .i64 a0_8, .int .i64 a0_9, .int .i64 a0_10, .slice Aa0_11 a0_11.length ca0_11, .int .i64 a0_12, .int .i64 a0_13, .int .i64 a0_14, .int .i64 a0_15, .bool a0_16, .int .i64 a0_17]]) Try.func19 rfl Try.ntmps19 (by kernel_rfl) ?_
  refine J.seq ?_
  refine J.plain ?_
  refine LL.box 30 (.tmp 0) [.string a0_0, .string a0_1, .string a0_2, .int .i64 a0_3, .int .i64 a0_4, .int .i64 a0_5, .int .i64 a0_6, .int .i64 a0_7, .int .i64 a0_8, .int .i64 a0_9, .int .i64 a0_10, .slice Aa0_11 a0_11.length ca0_11, .int .i64 a0_12, .int .i64 a0_13, .int .i64 a0_14, .int .i64 a0_15, .bool a0_16, .int .i64 a0_17] (by kernel_rfl) rfl (by kernel_rfl) (fun g538 => ?_)
  refine LL.op (.int .i64 0) (by kernel_rfl) (fun w _ => by kernel_rfl) ?_
  refine LL.done (s' := [(1, .pointer (some ⟨g538, 0, none⟩)), (2, .int .i64 0)]) [1, 2] (by kernel_rfl) ?_
  refine NN.then ?_
  refine J.seq ?_
  refine J.seq ?_
  refine J.plain ?_
  refine LL.op (.agg #[.string a0_0, .string a0_1, .string a0_2, .int .i64 a0_3, .int .i64 a0_4, .int .i64 a0_5, .int .i64 a0_6, .int .i64 a0_7, .int .i64 a0_8, .int .i64 a0_9, .int .i64 a0_10, .slice Aa0_11 a0_11.length ca0_11, .int .i64 a0_12, .int .i64 a0_13, .int .i64 a0_14, .int .i64 a0_15, .bool a0_16, .int .i64 a0_17]) (by kernel_rfl) (ld 0 g538 0 rfl (by kernel_rfl) rfl (by kernel_rfl)) ?_
  obtain ⟨x539, hx539, H⟩ := bind_some H
  refine LL.call 52 #[.agg #[.string a0_0, .string a0_1, .string a0_2, .int .i64 a0_3, .int .i64 a0_4, .int .i64 a0_5, .int .i64 a0_6, .int .i64 a0_7, .int .i64 a0_8, .int .i64 a0_9, .int .i64 a0_10, .slice Aa0_11 a0_11.length ca0_11, .int .i64 a0_12, .int .i64 a0_13, .int .i64 a0_14, .int .i64 a0_15, .bool a0_16, .int .i64 a0_17]] (.int .i64 x539) (by kernel_rfl) (fun w => by kernel_rfl) (fun w hw => sawmillref41_Width.calls a0_0 a0_1 a0_2 a0_3 a0_4 a0_5 a0_6 a0_7 a0_8 a0_9 a0_10 a0_11 a0_12 a0_13 a0_14 a0_15 a0_16 a0_17  _ _ _ w  (ha0_11.at hw) hx539) ?_
  refine LL.op (.bool (decide (x539 < 1))) (by kernel_rfl) (fun w _ => by kernel_rfl) ?_
  refine LL.done (s' := [(1, .pointer (some ⟨g538, 0, none⟩)), (2, .int .i64 0), (5, .bool (decide (x539 < 1)))]) [1, 2, 5] (by kernel_rfl) ?_
  refine NN.then ?_
  rcases Bool.eq_false_or_eq_true (decide (x539 < 1)) with c540 | c540
  · rw [if_pos (of_decide_eq_true c540)] at H
    refine J.condT (b := decide (x539 < 1)) c540 (by kernel_rfl) (by kernel_rfl) ?_
    refine J.seq ?_
    refine J.plain ?_
    refine LL.op (.int .i64 0) (by kernel_rfl) (fun w _ => by kernel_rfl) ?_
    refine LL.done (s' := [(1, .pointer (some ⟨g538, 0, none⟩)), (2, .int .i64 0)]) [1, 2] (by kernel_rfl) ?_
    refine NN.then ?_
    refine J.ret ?_
    refine NN.then_ret ?_
    refine NN.fin1 2 (.int .i64 0) (by kernel_rfl) (by kernel_rfl) (.inl rfl) (fun w hi => hi.ret ?_)
    first | (cases H; rfl) | (obtain rfl := Option.some.inj H; rfl) | (simp only [Option.some.injEq, Prod.mk.injEq] at H; obtain ⟨rfl⟩ := H; rfl)
  · rw [if_neg (of_decide_eq_false c540)] at H
    refine J.condF (b := decide (x539 < 1)) c540 (by kernel_rfl) (by kernel_rfl) ?_
    refine J.skip ?_
    refine NN.then ?_
    refine J.seq ?_
    refine J.drawn follows (by kernel_rfl) ?_
    refine QQ.op (.pointer (some ⟨g538, 11, none⟩)) (by kernel_rfl) (fun w _ => by kernel_rfl) ?_
    refine QQ.op (.slice Aa0_11 a0_11.length ca0_11) (by kernel_rfl) (ld 0 g538 11 rfl (by kernel_rfl) rfl (by kernel_rfl)) ?_
    obtain ⟨x541, hx541, H⟩ := bind_some H
    refine QQ.call 46 #[.slice Aa0_11 a0_11.length ca0_11, .int .i64 150] (.int .i64 x541) (by kernel_rfl) (fun w => by kernel_rfl) (fun w hw => sawmillref13_Worst.calls K a0_11 150  _ _ _ w  (ha0_11.at hw) hx541) ?_
    refine QQ.op (.int .i64 (IntKind.i64.wrap (x541 * 1000))) (by kernel_rfl) (fun w _ => by kernel_rfl) ?_
    refine QQ.op (.agg #[.string a0_0, .string a0_1, .string a0_2, .int .i64 a0_3, .int .i64 a0_4, .int .i64 a0_5, .int .i64 a0_6, .int .i64 a0_7, .int .i64 a0_8, .int .i64 a0_9, .int .i64 a0_10, .slice Aa0_11 a0_11.length ca0_11, .int .i64 a0_12, .int .i64 a0_13, .int .i64 a0_14, .int .i64 a0_15, .bool a0_16, .int .i64 a0_17]) (by kernel_rfl) (ld 0 g538 0 rfl (by kernel_rfl) rfl (by kernel_rfl)) ?_
    refine QQ.call 52 #[.agg #[.string a0_0, .string a0_1, .string a0_2, .int .i64 a0_3, .int .i64 a0_4, .int .i64 a0_5, .int .i64 a0_6, .int .i64 a0_7, .int .i64 a0_8, .int .i64 a0_9, .int .i64 a0_10, .slice Aa0_11 a0_11.length ca0_11, .int .i64 a0_12, .int .i64 a0_13, .int .i64 a0_14, .int .i64 a0_15, .bool a0_16, .int .i64 a0_17]] (.int .i64 x539) (by kernel_rfl) (fun w => by kernel_rfl) (fun w hw => sawmillref41_Width.calls a0_0 a0_1 a0_2 a0_3 a0_4 a0_5 a0_6 a0_7 a0_8 a0_9 a0_10 a0_11 a0_12 a0_13 a0_14 a0_15 a0_16 a0_17  _ _ _ w  (ha0_11.at hw) hx539) ?_
    rcases Bool.eq_false_or_eq_true ((x539 == 0)) with c542 | c542
    · rw [if_pos (eq_of_beq c542)] at H
      cases H
    · rw [if_neg (nebf c542)] at H
      refine QQ.op (.int .i64 (IntKind.i64.wrap (Int.tdiv (IntKind.i64.wrap (x541 * 1000)) x539))) (by kernel_rfl) (run_quo rfl (by kernel_rfl) (by kernel_rfl) (nebf c542) rfl) ?_
      refine QQ.op (.int .i64 (mn 1000 (IntKind.i64.wrap (Int.tdiv (IntKind.i64.wrap (x541 * 1000)) x539)))) (by kernel_rfl) (fun w _ => by kernel_rfl) ?_
      refine QQ.op (.int .i64 (mn 1000 (IntKind.i64.wrap (Int.tdiv (IntKind.i64.wrap (x541 * 1000)) x539)))) (by kernel_rfl) (fun w _ => by kernel_rfl) ?_
      refine QQ.done (s' := [(2, .int .i64 (mn 1000 (IntKind.i64.wrap (Int.tdiv (IntKind.i64.wrap (x541 * 1000)) x539))))]) [2] (by kernel_rfl) ?_
      refine NN.then ?_
      refine J.ret ?_
      refine NN.fin1 2 (.int .i64 (mn 1000 (IntKind.i64.wrap (Int.tdiv (IntKind.i64.wrap (x541 * 1000)) x539)))) (by kernel_rfl) (by kernel_rfl) (.inl rfl) (fun w hi => hi.ret ?_)
      first | (cases H; rfl) | (obtain rfl := Option.some.inj H; rfl) | (simp only [Option.some.injEq, Prod.mk.injEq] at H; obtain ⟨rfl⟩ := H; rfl)

/-! ### strength_Knots: function 18 -/
def strength_Knots.f (K : Nat) (a0_0 : ByteArray) (a0_1 : ByteArray) (a0_2 : ByteArray) (a0_3 : Int) (a0_4 : Int) (a0_5 : Int) (a0_6 : Int) (a0_7 : Int) (a0_8 : Int) (a0_9 : Int) (a0_10 : Int) (a0_11 : List E41) (a0_12 : Int) (a0_13 : Int) (a0_14 : Int) (a0_15 : Int) (a0_16 : Bool) (a0_17 : Int) : Option (Int) := (span_Len.f a0_4 a0_5).bind fun x544 => ((span_Len.f a0_6 a0_7).bind fun x545 => (if (mx x544 x545) < 1 then (some 0) else ((defect_Worst.f K a0_11 150).bind fun x547 => (if (mx x544 x545) = 0 then (none) else (some (mn (IntKind.i64.wrap (Int.tdiv (IntKind.i64.wrap (x547 * 1000)) (mx x544 x545))) 1000))))))
set_option maxRecDepth 100000 in
theorem strength_Knots.calls (K : Nat) (a0_0 : ByteArray) (a0_1 : ByteArray) (a0_2 : ByteArray) (a0_3 : Int) (a0_4 : Int) (a0_5 : Int) (a0_6 : Int) (a0_7 : Int) (a0_8 : Int) (a0_9 : Int) (a0_10 : Int) (a0_11 : List E41) (a0_12 : Int) (a0_13 : Int) (a0_14 : Int) (a0_15 : Int) (a0_16 : Bool) (a0_17 : Int)  (Aa0_11 : Option Addr) (ca0_11 : Nat)  (r1 : Int) (w : World)   (ha0_11 : KRow (Cx.start w) enc41 7 a0_11 Aa0_11) (h : strength_Knots.f K a0_0 a0_1 a0_2 a0_3 a0_4 a0_5 a0_6 a0_7 a0_8 a0_9 a0_10 a0_11 a0_12 a0_13 a0_14 a0_15 a0_16 a0_17 = some r1) :
    Calls Try.prog 18 #[.agg #[.string a0_0, .string a0_1, .string a0_2, .int .i64 a0_3, .int .i64 a0_4, .int .i64 a0_5, .int .i64 a0_6, .int .i64 a0_7, .int .i64 a0_8, .int .i64 a0_9, .int .i64 a0_10, .slice Aa0_11 a0_11.length ca0_11, .int .i64 a0_12, .int .i64 a0_13, .int .i64 a0_14, .int .i64 a0_15, .bool a0_16, .int .i64 a0_17]] w (Ret w (.int .i64 r1)) := by
  have H := h
  clear h
  unfold strength_Knots.f at H
  refine Go.Saw.calls (args := [.agg #[.string a0_0, .string a0_1, .string a0_2, .int .i64 a0_3, .int .i64 a0_4, .int .i64 a0_5, .int .i64 a0_6, .int .i64 a0_7, .int .i64 a0_8, .int .i64 a0_9, .int .i64 a0_10, .slice Aa0_11 a0_11.length ca0_11, .int .i64 a0_12, .int .i64 a0_13, .int .i64 a0_14, .int .i64 a0_15, .bool a0_16, .int .i64 a0_17]]) Try.func18 rfl Try.ntmps18 (by kernel_rfl) ?_
  refine J.seq ?_
  refine J.plain ?_
  refine LL.box 30 (.tmp 0) [.string a0_0, .string a0_1, .string a0_2, .int .i64 a0_3, .int .i64 a0_4, .int .i64 a0_5, .int .i64 a0_6, .int .i64 a0_7, .int .i64 a0_8, .int .i64 a0_9, .int .i64 a0_10, .slice Aa0_11 a0_11.length ca0_11, .int .i64 a0_12, .int .i64 a0_13, .int .i64 a0_14, .int .i64 a0_15, .bool a0_16, .int .i64 a0_17] (by kernel_rfl) rfl (by kernel_rfl) (fun g543 => ?_)
  refine LL.op (.int .i64 0) (by kernel_rfl) (fun w _ => by kernel_rfl) ?_
  refine LL.done (s' := [(1, .pointer (some ⟨g543, 0, none⟩)), (2, .int .i64 0)]) [1, 2] (by kernel_rfl) ?_
  refine NN.then ?_
  refine J.seq ?_
  refine J.drawn follows (by kernel_rfl) ?_
  refine QQ.op (.pointer (some ⟨g543, 4, none⟩)) (by kernel_rfl) (fun w _ => by kernel_rfl) ?_
  refine QQ.op (.pointer (some ⟨g543, 4, none⟩)) (by kernel_rfl) (fun w _ => by kernel_rfl) ?_
  refine QQ.op (.agg #[.int .i64 a0_4, .int .i64 a0_5]) (by kernel_rfl) (ld 0 g543 4 rfl (by kernel_rfl) rfl (by kernel_rfl)) ?_
  obtain ⟨x544, hx544, H⟩ := bind_some H
  refine QQ.call 56 #[.agg #[.int .i64 a0_4, .int .i64 a0_5]] (.int .i64 x544) (by kernel_rfl) (fun w => by kernel_rfl) (fun w hw => span_Len.calls a0_4 a0_5   _ w   hx544) ?_
  refine QQ.op (.pointer (some ⟨g543, 4, none⟩)) (by kernel_rfl) (fun w _ => by kernel_rfl) ?_
  refine QQ.op (.pointer (some ⟨g543, 6, none⟩)) (by kernel_rfl) (fun w _ => by kernel_rfl) ?_
  refine QQ.op (.agg #[.int .i64 a0_6, .int .i64 a0_7]) (by kernel_rfl) (ld 0 g543 6 rfl (by kernel_rfl) rfl (by kernel_rfl)) ?_
  obtain ⟨x545, hx545, H⟩ := bind_some H
  refine QQ.call 56 #[.agg #[.int .i64 a0_6, .int .i64 a0_7]] (.int .i64 x545) (by kernel_rfl) (fun w => by kernel_rfl) (fun w hw => span_Len.calls a0_6 a0_7   _ w   hx545) ?_
  refine QQ.op (.int .i64 (mx x544 x545)) (by kernel_rfl) (fun w _ => by kernel_rfl) ?_
  refine QQ.op (.int .i64 (mx x544 x545)) (by kernel_rfl) (fun w _ => by kernel_rfl) ?_
  refine QQ.done (s' := [(1, .pointer (some ⟨g543, 0, none⟩)), (2, .int .i64 0), (3, .int .i64 (mx x544 x545))]) [1, 2, 3] (by kernel_rfl) ?_
  refine NN.then ?_
  refine J.seq ?_
  refine J.seq ?_
  refine J.plain ?_
  refine LL.op (.int .i64 (mx x544 x545)) (by kernel_rfl) (fun w _ => by kernel_rfl) ?_
  refine LL.op (.bool (decide ((mx x544 x545) < 1))) (by kernel_rfl) (fun w _ => by kernel_rfl) ?_
  refine LL.done (s' := [(1, .pointer (some ⟨g543, 0, none⟩)), (2, .int .i64 0), (3, .int .i64 (mx x544 x545)), (14, .bool (decide ((mx x544 x545) < 1)))]) [1, 2, 3, 14] (by kernel_rfl) ?_
  refine NN.then ?_
  rcases Bool.eq_false_or_eq_true (decide ((mx x544 x545) < 1)) with c546 | c546
  · rw [if_pos (of_decide_eq_true c546)] at H
    refine J.condT (b := decide ((mx x544 x545) < 1)) c546 (by kernel_rfl) (by kernel_rfl) ?_
    refine J.seq ?_
    refine J.plain ?_
    refine LL.op (.int .i64 0) (by kernel_rfl) (fun w _ => by kernel_rfl) ?_
    refine LL.done (s' := [(1, .pointer (some ⟨g543, 0, none⟩)), (2, .int .i64 0), (3, .int .i64 (mx x544 x545))]) [1, 2, 3] (by kernel_rfl) ?_
    refine NN.then ?_
    refine J.ret ?_
    refine NN.then_ret ?_
    refine NN.fin1 2 (.int .i64 0) (by kernel_rfl) (by kernel_rfl) (.inl rfl) (fun w hi => hi.ret ?_)
    first | (cases H; rfl) | (obtain rfl := Option.some.inj H; rfl) | (simp only [Option.some.injEq, Prod.mk.injEq] at H; obtain ⟨rfl⟩ := H; rfl)
  · rw [if_neg (of_decide_eq_false c546)] at H
    refine J.condF (b := decide ((mx x544 x545) < 1)) c546 (by kernel_rfl) (by kernel_rfl) ?_
    refine J.skip ?_
    refine NN.then ?_
    refine J.seq ?_
    refine J.plain ?_
    refine LL.op (.pointer (some ⟨g543, 11, none⟩)) (by kernel_rfl) (fun w _ => by kernel_rfl) ?_
    refine LL.op (.slice Aa0_11 a0_11.length ca0_11) (by kernel_rfl) (ld 0 g543 11 rfl (by kernel_rfl) rfl (by kernel_rfl)) ?_
    obtain ⟨x547, hx547, H⟩ := bind_some H
    refine LL.call 45 #[.slice Aa0_11 a0_11.length ca0_11, .int .i64 150] (.int .i64 x547) (by kernel_rfl) (fun w => by kernel_rfl) (fun w hw => defect_Worst.calls K a0_11 150  _ _ _ w  (ha0_11.at hw) hx547) ?_
    refine LL.op (.int .i64 (IntKind.i64.wrap (x547 * 1000))) (by kernel_rfl) (fun w _ => by kernel_rfl) ?_
    refine LL.op (.int .i64 (mx x544 x545)) (by kernel_rfl) (fun w _ => by kernel_rfl) ?_
    rcases Bool.eq_false_or_eq_true (((mx x544 x545) == 0)) with c548 | c548
    · rw [if_pos (eq_of_beq c548)] at H
      cases H
    · rw [if_neg (nebf c548)] at H
      refine LL.op (.int .i64 (IntKind.i64.wrap (Int.tdiv (IntKind.i64.wrap (x547 * 1000)) (mx x544 x545)))) (by kernel_rfl) (run_quo rfl (by kernel_rfl) (by kernel_rfl) (nebf c548) rfl) ?_
      refine LL.op (.int .i64 (mn (IntKind.i64.wrap (Int.tdiv (IntKind.i64.wrap (x547 * 1000)) (mx x544 x545))) 1000)) (by kernel_rfl) (fun w _ => by kernel_rfl) ?_
      refine LL.op (.int .i64 (mn (IntKind.i64.wrap (Int.tdiv (IntKind.i64.wrap (x547 * 1000)) (mx x544 x545))) 1000)) (by kernel_rfl) (fun w _ => by kernel_rfl) ?_
      refine LL.done (s' := [(2, .int .i64 (mn (IntKind.i64.wrap (Int.tdiv (IntKind.i64.wrap (x547 * 1000)) (mx x544 x545))) 1000))]) [2] (by kernel_rfl) ?_
      refine NN.then ?_
      refine J.ret ?_
      refine NN.fin1 2 (.int .i64 (mn (IntKind.i64.wrap (Int.tdiv (IntKind.i64.wrap (x547 * 1000)) (mx x544 x545))) 1000)) (by kernel_rfl) (by kernel_rfl) (.inl rfl) (fun w hi => hi.ret ?_)
      first | (cases H; rfl) | (obtain rfl := Option.some.inj H; rfl) | (simp only [Option.some.injEq, Prod.mk.injEq] at H; obtain ⟨rfl⟩ := H; rfl)

/-! ### sawmillref41_Stiffness: function 21 -/
def sawmillref41_Stiffness.f (K : Nat) (a0_0 : ByteArray) (a0_1 : ByteArray) (a0_2 : ByteArray) (a0_3 : Int) (a0_4 : Int) (a0_5 : Int) (a0_6 : Int) (a0_7 : Int) (a0_8 : Int) (a0_9 : Int) (a0_10 : Int) (a0_11 : List E41) (a0_12 : Int) (a0_13 : Int) (a0_14 : Int) (a0_15 : Int) (a0_16 : Bool) (a0_17 : Int) (a1_0 : ByteArray) (a1_1 : Int) (a1_2 : Int) (a1_3 : Int) (a1_4 : Int) (a1_5 : Int) (a1_6 : Int) (a1_7 : Int) (a1_8 : Int) (a1_9 : Int) (a1_10 : Int) (a1_11 : Int) (a1_12 : Int) : Option (Int) := (sawmillref41_Knots.f K a0_0 a0_1 a0_2 a0_3 a0_4 a0_5 a0_6 a0_7 a0_8 a0_9 a0_10 a0_11 a0_12 a0_13 a0_14 a0_15 a0_16 a0_17).bind fun x551 => ((sawmillref36_Mean.f a0_13 a0_14 a0_15).bind fun x552 => (some (mx 0 (IntKind.i64.wrap (Int.tdiv (IntKind.i64.wrap ((IntKind.i64.wrap (Int.tdiv (IntKind.i64.wrap (a1_10 * (IntKind.i64.wrap (1000 - (IntKind.i64.wrap (Int.tdiv (IntKind.i64.wrap (a1_11 * x551)) 1000)))))) 1000)) * (IntKind.i64.wrap (10000 - (mx 0 (IntKind.i64.wrap (x552 - 1200))))))) 10000)))))
set_option maxRecDepth 100000 in
theorem sawmillref41_Stiffness.calls (K : Nat) (a0_0 : ByteArray) (a0_1 : ByteArray) (a0_2 : ByteArray) (a0_3 : Int) (a0_4 : Int) (a0_5 : Int) (a0_6 : Int) (a0_7 : Int) (a0_8 : Int) (a0_9 : Int) (a0_10 : Int) (a0_11 : List E41) (a0_12 : Int) (a0_13 : Int) (a0_14 : Int) (a0_15 : Int) (a0_16 : Bool) (a0_17 : Int) (a1_0 : ByteArray) (a1_1 : Int) (a1_2 : Int) (a1_3 : Int) (a1_4 : Int) (a1_5 : Int) (a1_6 : Int) (a1_7 : Int) (a1_8 : Int) (a1_9 : Int) (a1_10 : Int) (a1_11 : Int) (a1_12 : Int)  (Aa0_11 : Option Addr) (ca0_11 : Nat)  (r1 : Int) (w : World)   (ha0_11 : KRow (Cx.start w) enc41 7 a0_11 Aa0_11) (h : sawmillref41_Stiffness.f K a0_0 a0_1 a0_2 a0_3 a0_4 a0_5 a0_6 a0_7 a0_8 a0_9 a0_10 a0_11 a0_12 a0_13 a0_14 a0_15 a0_16 a0_17 a1_0 a1_1 a1_2 a1_3 a1_4 a1_5 a1_6 a1_7 a1_8 a1_9 a1_10 a1_11 a1_12 = some r1) :
    Calls Try.prog 21 #[.agg #[.string a0_0, .string a0_1, .string a0_2, .int .i64 a0_3, .int .i64 a0_4, .int .i64 a0_5, .int .i64 a0_6, .int .i64 a0_7, .int .i64 a0_8, .int .i64 a0_9, .int .i64 a0_10, .slice Aa0_11 a0_11.length ca0_11, .int .i64 a0_12, .int .i64 a0_13, .int .i64 a0_14, .int .i64 a0_15, .bool a0_16, .int .i64 a0_17], .agg #[.string a1_0, .int .i64 a1_1, .int .i64 a1_2, .int .i64 a1_3, .int .i64 a1_4, .int .i64 a1_5, .int .i64 a1_6, .int .i64 a1_7, .int .i64 a1_8, .int .i64 a1_9, .int .i64 a1_10, .int .i64 a1_11, .int .i64 a1_12]] w (Ret w (.int .i64 r1)) := by
  have H := h
  clear h
  unfold sawmillref41_Stiffness.f at H
  refine Go.Saw.calls (args := [.agg #[.string a0_0, .string a0_1, .string a0_2, .int .i64 a0_3, .int .i64 a0_4, .int .i64 a0_5, .int .i64 a0_6, .int .i64 a0_7, .int .i64 a0_8, .int .i64 a0_9, .int .i64 a0_10, .slice Aa0_11 a0_11.length ca0_11, .int .i64 a0_12, .int .i64 a0_13, .int .i64 a0_14, .int .i64 a0_15, .bool a0_16, .int .i64 a0_17], .agg #[.string a1_0, .int .i64 a1_1, .int .i64 a1_2, .int .i64 a1_3, .int .i64 a1_4, .int .i64 a1_5, .int .i64 a1_6, .int .i64 a1_7, .int .i64 a1_8, .int .i64 a1_9, .int .i64 a1_10, .int .i64 a1_11, .int .i64 a1_12]]) Try.func21 rfl Try.ntmps21 (by kernel_rfl) ?_
  refine J.seq ?_
  refine J.plain ?_
  refine LL.box 30 (.tmp 0) [.string a0_0, .string a0_1, .string a0_2, .int .i64 a0_3, .int .i64 a0_4, .int .i64 a0_5, .int .i64 a0_6, .int .i64 a0_7, .int .i64 a0_8, .int .i64 a0_9, .int .i64 a0_10, .slice Aa0_11 a0_11.length ca0_11, .int .i64 a0_12, .int .i64 a0_13, .int .i64 a0_14, .int .i64 a0_15, .bool a0_16, .int .i64 a0_17] (by kernel_rfl) rfl (by kernel_rfl) (fun g549 => ?_)
  refine LL.box 32 (.tmp 1) [.string a1_0, .int .i64 a1_1, .int .i64 a1_2, .int .i64 a1_3, .int .i64 a1_4, .int .i64 a1_5, .int .i64 a1_6, .int .i64 a1_7, .int .i64 a1_8, .int .i64 a1_9, .int .i64 a1_10, .int .i64 a1_11, .int .i64 a1_12] (by kernel_rfl) rfl (by kernel_rfl) (fun g550 => ?_)
  refine LL.op (.int .i64 0) (by kernel_rfl) (fun w _ => by kernel_rfl) ?_
  refine LL.done (s' := [(2, .pointer (some ⟨g549, 0, none⟩)), (3, .pointer (some ⟨g550, 0, none⟩)), (4, .int .i64 0)]) [2, 3, 4] (by kernel_rfl) ?_
  refine NN.then ?_
  refine J.seq ?_
  refine J.drawn follows (by kernel_rfl) ?_
  refine QQ.op (.pointer (some ⟨g550, 11, none⟩)) (by kernel_rfl) (fun w _ => by kernel_rfl) ?_
  refine QQ.op (.int .i64 a1_11) (by kernel_rfl) (ld 0 g550 11 rfl (by kernel_rfl) rfl (by kernel_rfl)) ?_
  refine QQ.op (.agg #[.string a0_0, .string a0_1, .string a0_2, .int .i64 a0_3, .int .i64 a0_4, .int .i64 a0_5, .int .i64 a0_6, .int .i64 a0_7, .int .i64 a0_8, .int .i64 a0_9, .int .i64 a0_10, .slice Aa0_11 a0_11.length ca0_11, .int .i64 a0_12, .int .i64 a0_13, .int .i64 a0_14, .int .i64 a0_15, .bool a0_16, .int .i64 a0_17]) (by kernel_rfl) (ld 1 g549 0 rfl (by kernel_rfl) rfl (by kernel_rfl)) ?_
  obtain ⟨x551, hx551, H⟩ := bind_some H
  refine QQ.call 19 #[.agg #[.string a0_0, .string a0_1, .string a0_2, .int .i64 a0_3, .int .i64 a0_4, .int .i64 a0_5, .int .i64 a0_6, .int .i64 a0_7, .int .i64 a0_8, .int .i64 a0_9, .int .i64 a0_10, .slice Aa0_11 a0_11.length ca0_11, .int .i64 a0_12, .int .i64 a0_13, .int .i64 a0_14, .int .i64 a0_15, .bool a0_16, .int .i64 a0_17]] (.int .i64 x551) (by kernel_rfl) (fun w => by kernel_rfl) (fun w hw => sawmillref41_Knots.calls K a0_0 a0_1 a0_2 a0_3 a0_4 a0_5 a0_6 a0_7 a0_8 a0_9 a0_10 a0_11 a0_12 a0_13 a0_14 a0_15 a0_16 a0_17  _ _ _ w  (ha0_11.at hw) hx551) ?_
  refine QQ.op (.int .i64 (IntKind.i64.wrap (a1_11 * x551))) (by kernel_rfl) (fun w _ => by kernel_rfl) ?_
  refine QQ.op (.int .i64 (IntKind.i64.wrap (Int.tdiv (IntKind.i64.wrap (a1_11 * x551)) 1000))) (by kernel_rfl) (fun w _ => by kernel_rfl) ?_
  refine QQ.op (.int .i64 (IntKind.i64.wrap (Int.tdiv (IntKind.i64.wrap (a1_11 * x551)) 1000))) (by kernel_rfl) (fun w _ => by kernel_rfl) ?_
  refine QQ.done (s' := [(2, .pointer (some ⟨g549, 0, none⟩)), (3, .pointer (some ⟨g550, 0, none⟩)), (4, .int .i64 0), (5, .int .i64 (IntKind.i64.wrap (Int.tdiv (IntKind.i64.wrap (a1_11 * x551)) 1000)))]) [2, 3, 4, 5] (by kernel_rfl) ?_
  refine NN.then ?_
  refine J.seq ?_
  refine J.plain ?_
  refine LL.op (.pointer (some ⟨g550, 10, none⟩)) (by kernel_rfl) (fun w _ => by kernel_rfl) ?_
  refine LL.op (.int .i64 a1_10) (by kernel_rfl) (ld 0 g550 10 rfl (by kernel_rfl) rfl (by kernel_rfl)) ?_
  refine LL.op (.int .i64 (IntKind.i64.wrap (Int.tdiv (IntKind.i64.wrap (a1_11 * x551)) 1000))) (by kernel_rfl) (fun w _ => by kernel_rfl) ?_
  refine LL.op (.int .i64 (IntKind.i64.wrap (1000 - (IntKind.i64.wrap (Int.tdiv (IntKind.i64.wrap (a1_11 * x551)) 1000))))) (by kernel_rfl) (fun w _ => by kernel_rfl) ?_
  refine LL.op (.int .i64 (IntKind.i64.wrap (a1_10 * (IntKind.i64.wrap (1000 - (IntKind.i64.wrap (Int.tdiv (IntKind.i64.wrap (a1_11 * x551)) 1000))))))) (by kernel_rfl) (fun w _ => by kernel_rfl) ?_
  refine LL.op (.int .i64 (IntKind.i64.wrap (Int.tdiv (IntKind.i64.wrap (a1_10 * (IntKind.i64.wrap (1000 - (IntKind.i64.wrap (Int.tdiv (IntKind.i64.wrap (a1_11 * x551)) 1000)))))) 1000))) (by kernel_rfl) (fun w _ => by kernel_rfl) ?_
  refine LL.op (.int .i64 (IntKind.i64.wrap (Int.tdiv (IntKind.i64.wrap (a1_10 * (IntKind.i64.wrap (1000 - (IntKind.i64.wrap (Int.tdiv (IntKind.i64.wrap (a1_11 * x551)) 1000)))))) 1000))) (by kernel_rfl) (fun w _ => by kernel_rfl) ?_
  refine LL.done (s' := [(2, .pointer (some ⟨g549, 0, none⟩)), (4, .int .i64 0), (6, .int .i64 (IntKind.i64.wrap (Int.tdiv (IntKind.i64.wrap (a1_10 * (IntKind.i64.wrap (1000 - (IntKind.i64.wrap (Int.tdiv (IntKind.i64.wrap (a1_11 * x551)) 1000)))))) 1000)))]) [2, 4, 6] (by kernel_rfl) ?_
  refine NN.then ?_
  refine J.seq ?_
  refine J.plain ?_
  refine LL.op (.pointer (some ⟨g549, 13, none⟩)) (by kernel_rfl) (fun w _ => by kernel_rfl) ?_
  refine LL.op (.agg #[.int .i64 a0_13, .int .i64 a0_14, .int .i64 a0_15]) (by kernel_rfl) (ld 1 g549 13 rfl (by kernel_rfl) rfl (by kernel_rfl)) ?_
  obtain ⟨x552, hx552, H⟩ := bind_some H
  refine LL.call 58 #[.agg #[.int .i64 a0_13, .int .i64 a0_14, .int .i64 a0_15]] (.int .i64 x552) (by kernel_rfl) (fun w => by kernel_rfl) (fun w hw => sawmillref36_Mean.calls a0_13 a0_14 a0_15   _ w   hx552) ?_
  refine LL.op (.int .i64 (IntKind.i64.wrap (x552 - 1200))) (by kernel_rfl) (fun w _ => by kernel_rfl) ?_
  refine LL.op (.int .i64 (mx 0 (IntKind.i64.wrap (x552 - 1200)))) (by kernel_rfl) (fun w _ => by kernel_rfl) ?_
  refine LL.op (.int .i64 (mx 0 (IntKind.i64.wrap (x552 - 1200)))) (by kernel_rfl) (fun w _ => by kernel_rfl) ?_
  refine LL.done (s' := [(4, .int .i64 0), (6, .int .i64 (IntKind.i64.wrap (Int.tdiv (IntKind.i64.wrap (a1_10 * (IntKind.i64.wrap (1000 - (IntKind.i64.wrap (Int.tdiv (IntKind.i64.wrap (a1_11 * x551)) 1000)))))) 1000))), (7, .int .i64 (mx 0 (IntKind.i64.wrap (x552 - 1200))))]) [4, 6, 7] (by kernel_rfl) ?_
  refine NN.then ?_
  refine J.seq ?_
  refine J.plain ?_
  refine LL.op (.int .i64 (IntKind.i64.wrap (Int.tdiv (IntKind.i64.wrap (a1_10 * (IntKind.i64.wrap (1000 - (IntKind.i64.wrap (Int.tdiv (IntKind.i64.wrap (a1_11 * x551)) 1000)))))) 1000))) (by kernel_rfl) (fun w _ => by kernel_rfl) ?_
  refine LL.op (.int .i64 (mx 0 (IntKind.i64.wrap (x552 - 1200)))) (by kernel_rfl) (fun w _ => by kernel_rfl) ?_
  refine LL.op (.int .i64 (IntKind.i64.wrap (10000 - (mx 0 (IntKind.i64.wrap (x552 - 1200)))))) (by kernel_rfl) (fun w _ => by kernel_rfl) ?_
  refine LL.op (.int .i64 (IntKind.i64.wrap ((IntKind.i64.wrap (Int.tdiv (IntKind.i64.wrap (a1_10 * (IntKind.i64.wrap (1000 - (IntKind.i64.wrap (Int.tdiv (IntKind.i64.wrap (a1_11 * x551)) 1000)))))) 1000)) * (IntKind.i64.wrap (10000 - (mx 0 (IntKind.i64.wrap (x552 - 1200)))))))) (by kernel_rfl) (fun w _ => by kernel_rfl) ?_
  refine LL.op (.int .i64 (IntKind.i64.wrap (Int.tdiv (IntKind.i64.wrap ((IntKind.i64.wrap (Int.tdiv (IntKind.i64.wrap (a1_10 * (IntKind.i64.wrap (1000 - (IntKind.i64.wrap (Int.tdiv (IntKind.i64.wrap (a1_11 * x551)) 1000)))))) 1000)) * (IntKind.i64.wrap (10000 - (mx 0 (IntKind.i64.wrap (x552 - 1200))))))) 10000))) (by kernel_rfl) (fun w _ => by kernel_rfl) ?_
  refine LL.op (.int .i64 (mx 0 (IntKind.i64.wrap (Int.tdiv (IntKind.i64.wrap ((IntKind.i64.wrap (Int.tdiv (IntKind.i64.wrap (a1_10 * (IntKind.i64.wrap (1000 - (IntKind.i64.wrap (Int.tdiv (IntKind.i64.wrap (a1_11 * x551)) 1000)))))) 1000)) * (IntKind.i64.wrap (10000 - (mx 0 (IntKind.i64.wrap (x552 - 1200))))))) 10000)))) (by kernel_rfl) (fun w _ => by kernel_rfl) ?_
  refine LL.op (.int .i64 (mx 0 (IntKind.i64.wrap (Int.tdiv (IntKind.i64.wrap ((IntKind.i64.wrap (Int.tdiv (IntKind.i64.wrap (a1_10 * (IntKind.i64.wrap (1000 - (IntKind.i64.wrap (Int.tdiv (IntKind.i64.wrap (a1_11 * x551)) 1000)))))) 1000)) * (IntKind.i64.wrap (10000 - (mx 0 (IntKind.i64.wrap (x552 - 1200))))))) 10000)))) (by kernel_rfl) (fun w _ => by kernel_rfl) ?_
  refine LL.done (s' := [(4, .int .i64 (mx 0 (IntKind.i64.wrap (Int.tdiv (IntKind.i64.wrap ((IntKind.i64.wrap (Int.tdiv (IntKind.i64.wrap (a1_10 * (IntKind.i64.wrap (1000 - (IntKind.i64.wrap (Int.tdiv (IntKind.i64.wrap (a1_11 * x551)) 1000)))))) 1000)) * (IntKind.i64.wrap (10000 - (mx 0 (IntKind.i64.wrap (x552 - 1200))))))) 10000))))]) [4] (by kernel_rfl) ?_
  refine NN.then ?_
  refine J.ret ?_
  refine NN.fin1 4 (.int .i64 (mx 0 (IntKind.i64.wrap (Int.tdiv (IntKind.i64.wrap ((IntKind.i64.wrap (Int.tdiv (IntKind.i64.wrap (a1_10 * (IntKind.i64.wrap (1000 - (IntKind.i64.wrap (Int.tdiv (IntKind.i64.wrap (a1_11 * x551)) 1000)))))) 1000)) * (IntKind.i64.wrap (10000 - (mx 0 (IntKind.i64.wrap (x552 - 1200))))))) 10000)))) (by kernel_rfl) (by kernel_rfl) (.inl rfl) (fun w hi => hi.ret ?_)
  first | (cases H; rfl) | (obtain rfl := Option.some.inj H; rfl) | (simp only [Option.some.injEq, Prod.mk.injEq] at H; obtain ⟨rfl⟩ := H; rfl)

/-! ### strength_Stiffness: function 20 -/
def strength_Stiffness.f (K : Nat) (a0_0 : ByteArray) (a0_1 : ByteArray) (a0_2 : ByteArray) (a0_3 : Int) (a0_4 : Int) (a0_5 : Int) (a0_6 : Int) (a0_7 : Int) (a0_8 : Int) (a0_9 : Int) (a0_10 : Int) (a0_11 : List E41) (a0_12 : Int) (a0_13 : Int) (a0_14 : Int) (a0_15 : Int) (a0_16 : Bool) (a0_17 : Int) (a1_0 : ByteArray) (a1_1 : Int) (a1_2 : Int) (a1_3 : Int) (a1_4 : Int) (a1_5 : Int) (a1_6 : Int) (a1_7 : Int) (a1_8 : Int) (a1_9 : Int) (a1_10 : Int) (a1_11 : Int) (a1_12 : Int) : Option (Int) := (strength_Knots.f K a0_0 a0_1 a0_2 a0_3 a0_4 a0_5 a0_6 a0_7 a0_8 a0_9 a0_10 a0_11 a0_12 a0_13 a0_14 a0_15 a0_16 a0_17).bind fun x555 => ((moist_Mean.f a0_13 a0_14 a0_15).bind fun x556 => (some (mx 0 (IntKind.i64.wrap (Int.tdiv (IntKind.i64.wrap ((IntKind.i64.wrap (Int.tdiv (IntKind.i64.wrap (a1_10 * (IntKind.i64.wrap (1000 - (IntKind.i64.wrap (Int.tdiv (IntKind.i64.wrap (a1_11 * x555)) 1000)))))) 1000)) * (IntKind.i64.wrap (10000 - (mx 0 (IntKind.i64.wrap (x556 - 1200))))))) 10000)))))
set_option maxRecDepth 100000 in
theorem strength_Stiffness.calls (K : Nat) (a0_0 : ByteArray) (a0_1 : ByteArray) (a0_2 : ByteArray) (a0_3 : Int) (a0_4 : Int) (a0_5 : Int) (a0_6 : Int) (a0_7 : Int) (a0_8 : Int) (a0_9 : Int) (a0_10 : Int) (a0_11 : List E41) (a0_12 : Int) (a0_13 : Int) (a0_14 : Int) (a0_15 : Int) (a0_16 : Bool) (a0_17 : Int) (a1_0 : ByteArray) (a1_1 : Int) (a1_2 : Int) (a1_3 : Int) (a1_4 : Int) (a1_5 : Int) (a1_6 : Int) (a1_7 : Int) (a1_8 : Int) (a1_9 : Int) (a1_10 : Int) (a1_11 : Int) (a1_12 : Int)  (Aa0_11 : Option Addr) (ca0_11 : Nat)  (r1 : Int) (w : World)   (ha0_11 : KRow (Cx.start w) enc41 7 a0_11 Aa0_11) (h : strength_Stiffness.f K a0_0 a0_1 a0_2 a0_3 a0_4 a0_5 a0_6 a0_7 a0_8 a0_9 a0_10 a0_11 a0_12 a0_13 a0_14 a0_15 a0_16 a0_17 a1_0 a1_1 a1_2 a1_3 a1_4 a1_5 a1_6 a1_7 a1_8 a1_9 a1_10 a1_11 a1_12 = some r1) :
    Calls Try.prog 20 #[.agg #[.string a0_0, .string a0_1, .string a0_2, .int .i64 a0_3, .int .i64 a0_4, .int .i64 a0_5, .int .i64 a0_6, .int .i64 a0_7, .int .i64 a0_8, .int .i64 a0_9, .int .i64 a0_10, .slice Aa0_11 a0_11.length ca0_11, .int .i64 a0_12, .int .i64 a0_13, .int .i64 a0_14, .int .i64 a0_15, .bool a0_16, .int .i64 a0_17], .agg #[.string a1_0, .int .i64 a1_1, .int .i64 a1_2, .int .i64 a1_3, .int .i64 a1_4, .int .i64 a1_5, .int .i64 a1_6, .int .i64 a1_7, .int .i64 a1_8, .int .i64 a1_9, .int .i64 a1_10, .int .i64 a1_11, .int .i64 a1_12]] w (Ret w (.int .i64 r1)) := by
  have H := h
  clear h
  unfold strength_Stiffness.f at H
  refine Go.Saw.calls (args := [.agg #[.string a0_0, .string a0_1, .string a0_2, .int .i64 a0_3, .int .i64 a0_4, .int .i64 a0_5, .int .i64 a0_6, .int .i64 a0_7, .int .i64 a0_8, .int .i64 a0_9, .int .i64 a0_10, .slice Aa0_11 a0_11.length ca0_11, .int .i64 a0_12, .int .i64 a0_13, .int .i64 a0_14, .int .i64 a0_15, .bool a0_16, .int .i64 a0_17], .agg #[.string a1_0, .int .i64 a1_1, .int .i64 a1_2, .int .i64 a1_3, .int .i64 a1_4, .int .i64 a1_5, .int .i64 a1_6, .int .i64 a1_7, .int .i64 a1_8, .int .i64 a1_9, .int .i64 a1_10, .int .i64 a1_11, .int .i64 a1_12]]) Try.func20 rfl Try.ntmps20 (by kernel_rfl) ?_
  refine J.seq ?_
  refine J.plain ?_
  refine LL.box 30 (.tmp 0) [.string a0_0, .string a0_1, .string a0_2, .int .i64 a0_3, .int .i64 a0_4, .int .i64 a0_5, .int .i64 a0_6, .int .i64 a0_7, .int .i64 a0_8, .int .i64 a0_9, .int .i64 a0_10, .slice Aa0_11 a0_11.length ca0_11, .int .i64 a0_12, .int .i64 a0_13, .int .i64 a0_14, .int .i64 a0_15, .bool a0_16, .int .i64 a0_17] (by kernel_rfl) rfl (by kernel_rfl) (fun g553 => ?_)
  refine LL.box 32 (.tmp 1) [.string a1_0, .int .i64 a1_1, .int .i64 a1_2, .int .i64 a1_3, .int .i64 a1_4, .int .i64 a1_5, .int .i64 a1_6, .int .i64 a1_7, .int .i64 a1_8, .int .i64 a1_9, .int .i64 a1_10, .int .i64 a1_11, .int .i64 a1_12] (by kernel_rfl) rfl (by kernel_rfl) (fun g554 => ?_)
  refine LL.op (.int .i64 0) (by kernel_rfl) (fun w _ => by kernel_rfl) ?_
  refine LL.done (s' := [(2, .pointer (some ⟨g553, 0, none⟩)), (3, .pointer (some ⟨g554, 0, none⟩)), (4, .int .i64 0)]) [2, 3, 4] (by kernel_rfl) ?_
  refine NN.then ?_
  refine J.seq ?_
  refine J.drawn follows (by kernel_rfl) ?_
  refine QQ.op (.pointer (some ⟨g554, 11, none⟩)) (by kernel_rfl) (fun w _ => by kernel_rfl) ?_
  refine QQ.op (.int .i64 a1_11) (by kernel_rfl) (ld 0 g554 11 rfl (by kernel_rfl) rfl (by kernel_rfl)) ?_
  refine QQ.op (.agg #[.string a0_0, .string a0_1, .string a0_2, .int .i64 a0_3, .int .i64 a0_4, .int .i64 a0_5, .int .i64 a0_6, .int .i64 a0_7, .int .i64 a0_8, .int .i64 a0_9, .int .i64 a0_10, .slice Aa0_11 a0_11.length ca0_11, .int .i64 a0_12, .int .i64 a0_13, .int .i64 a0_14, .int .i64 a0_15, .bool a0_16, .int .i64 a0_17]) (by kernel_rfl) (ld 1 g553 0 rfl (by kernel_rfl) rfl (by kernel_rfl)) ?_
  obtain ⟨x555, hx555, H⟩ := bind_some H
  refine QQ.call 18 #[.agg #[.string a0_0, .string a0_1, .string a0_2, .int .i64 a0_3, .int .i64 a0_4, .int .i64 a0_5, .int .i64 a0_6, .int .i64 a0_7, .int .i64 a0_8, .int .i64 a0_9, .int .i64 a0_10, .slice Aa0_11 a0_11.length ca0_11, .int .i64 a0_12, .int .i64 a0_13, .int .i64 a0_14, .int .i64 a0_15, .bool a0_16, .int .i64 a0_17]] (.int .i64 x555) (by kernel_rfl) (fun w => by kernel_rfl) (fun w hw => strength_Knots.calls K a0_0 a0_1 a0_2 a0_3 a0_4 a0_5 a0_6 a0_7 a0_8 a0_9 a0_10 a0_11 a0_12 a0_13 a0_14 a0_15 a0_16 a0_17  _ _ _ w  (ha0_11.at hw) hx555) ?_
  refine QQ.op (.int .i64 (IntKind.i64.wrap (a1_11 * x555))) (by kernel_rfl) (fun w _ => by kernel_rfl) ?_
  refine QQ.op (.int .i64 (IntKind.i64.wrap (Int.tdiv (IntKind.i64.wrap (a1_11 * x555)) 1000))) (by kernel_rfl) (fun w _ => by kernel_rfl) ?_
  refine QQ.op (.int .i64 (IntKind.i64.wrap (Int.tdiv (IntKind.i64.wrap (a1_11 * x555)) 1000))) (by kernel_rfl) (fun w _ => by kernel_rfl) ?_
  refine QQ.done (s' := [(2, .pointer (some ⟨g553, 0, none⟩)), (3, .pointer (some ⟨g554, 0, none⟩)), (4, .int .i64 0), (5, .int .i64 (IntKind.i64.wrap (Int.tdiv (IntKind.i64.wrap (a1_11 * x555)) 1000)))]) [2, 3, 4, 5] (by kernel_rfl) ?_
  refine NN.then ?_
  refine J.seq ?_
  refine J.plain ?_
  refine LL.op (.pointer (some ⟨g554, 10, none⟩)) (by kernel_rfl) (fun w _ => by kernel_rfl) ?_
  refine LL.op (.int .i64 a1_10) (by kernel_rfl) (ld 0 g554 10 rfl (by kernel_rfl) rfl (by kernel_rfl)) ?_
  refine LL.op (.int .i64 (IntKind.i64.wrap (Int.tdiv (IntKind.i64.wrap (a1_11 * x555)) 1000))) (by kernel_rfl) (fun w _ => by kernel_rfl) ?_
  refine LL.op (.int .i64 (IntKind.i64.wrap (1000 - (IntKind.i64.wrap (Int.tdiv (IntKind.i64.wrap (a1_11 * x555)) 1000))))) (by kernel_rfl) (fun w _ => by kernel_rfl) ?_
  refine LL.op (.int .i64 (IntKind.i64.wrap (a1_10 * (IntKind.i64.wrap (1000 - (IntKind.i64.wrap (Int.tdiv (IntKind.i64.wrap (a1_11 * x555)) 1000))))))) (by kernel_rfl) (fun w _ => by kernel_rfl) ?_
  refine LL.op (.int .i64 (IntKind.i64.wrap (Int.tdiv (IntKind.i64.wrap (a1_10 * (IntKind.i64.wrap (1000 - (IntKind.i64.wrap (Int.tdiv (IntKind.i64.wrap (a1_11 * x555)) 1000)))))) 1000))) (by kernel_rfl) (fun w _ => by kernel_rfl) ?_
  refine LL.op (.int .i64 (IntKind.i64.wrap (Int.tdiv (IntKind.i64.wrap (a1_10 * (IntKind.i64.wrap (1000 - (IntKind.i64.wrap (Int.tdiv (IntKind.i64.wrap (a1_11 * x555)) 1000)))))) 1000))) (by kernel_rfl) (fun w _ => by kernel_rfl) ?_
  refine LL.done (s' := [(2, .pointer (some ⟨g553, 0, none⟩)), (4, .int .i64 0), (6, .int .i64 (IntKind.i64.wrap (Int.tdiv (IntKind.i64.wrap (a1_10 * (IntKind.i64.wrap (1000 - (IntKind.i64.wrap (Int.tdiv (IntKind.i64.wrap (a1_11 * x555)) 1000)))))) 1000)))]) [2, 4, 6] (by kernel_rfl) ?_
  refine NN.then ?_
  refine J.seq ?_
  refine J.plain ?_
  refine LL.op (.pointer (some ⟨g553, 13, none⟩)) (by kernel_rfl) (fun w _ => by kernel_rfl) ?_
  refine LL.op (.agg #[.int .i64 a0_13, .int .i64 a0_14, .int .i64 a0_15]) (by kernel_rfl) (ld 1 g553 13 rfl (by kernel_rfl) rfl (by kernel_rfl)) ?_
  obtain ⟨x556, hx556, H⟩ := bind_some H
  refine LL.call 57 #[.agg #[.int .i64 a0_13, .int .i64 a0_14, .int .i64 a0_15]] (.int .i64 x556) (by kernel_rfl) (fun w => by kernel_rfl) (fun w hw => moist_Mean.calls a0_13 a0_14 a0_15   _ w   hx556) ?_
  refine LL.op (.int .i64 (IntKind.i64.wrap (x556 - 1200))) (by kernel_rfl) (fun w _ => by kernel_rfl) ?_
  refine LL.op (.int .i64 (mx 0 (IntKind.i64.wrap (x556 - 1200)))) (by kernel_rfl) (fun w _ => by kernel_rfl) ?_
  refine LL.op (.int .i64 (mx 0 (IntKind.i64.wrap (x556 - 1200)))) (by kernel_rfl) (fun w _ => by kernel_rfl) ?_
  refine LL.done (s' := [(4, .int .i64 0), (6, .int .i64 (IntKind.i64.wrap (Int.tdiv (IntKind.i64.wrap (a1_10 * (IntKind.i64.wrap (1000 - (IntKind.i64.wrap (Int.tdiv (IntKind.i64.wrap (a1_11 * x555)) 1000)))))) 1000))), (7, .int .i64 (mx 0 (IntKind.i64.wrap (x556 - 1200))))]) [4, 6, 7] (by kernel_rfl) ?_
  refine NN.then ?_
  refine J.seq ?_
  refine J.plain ?_
  refine LL.op (.int .i64 (IntKind.i64.wrap (Int.tdiv (IntKind.i64.wrap (a1_10 * (IntKind.i64.wrap (1000 - (IntKind.i64.wrap (Int.tdiv (IntKind.i64.wrap (a1_11 * x555)) 1000)))))) 1000))) (by kernel_rfl) (fun w _ => by kernel_rfl) ?_
  refine LL.op (.int .i64 (mx 0 (IntKind.i64.wrap (x556 - 1200)))) (by kernel_rfl) (fun w _ => by kernel_rfl) ?_
  refine LL.op (.int .i64 (IntKind.i64.wrap (10000 - (mx 0 (IntKind.i64.wrap (x556 - 1200)))))) (by kernel_rfl) (fun w _ => by kernel_rfl) ?_
  refine LL.op (.int .i64 (IntKind.i64.wrap ((IntKind.i64.wrap (Int.tdiv (IntKind.i64.wrap (a1_10 * (IntKind.i64.wrap (1000 - (IntKind.i64.wrap (Int.tdiv (IntKind.i64.wrap (a1_11 * x555)) 1000)))))) 1000)) * (IntKind.i64.wrap (10000 - (mx 0 (IntKind.i64.wrap (x556 - 1200)))))))) (by kernel_rfl) (fun w _ => by kernel_rfl) ?_
  refine LL.op (.int .i64 (IntKind.i64.wrap (Int.tdiv (IntKind.i64.wrap ((IntKind.i64.wrap (Int.tdiv (IntKind.i64.wrap (a1_10 * (IntKind.i64.wrap (1000 - (IntKind.i64.wrap (Int.tdiv (IntKind.i64.wrap (a1_11 * x555)) 1000)))))) 1000)) * (IntKind.i64.wrap (10000 - (mx 0 (IntKind.i64.wrap (x556 - 1200))))))) 10000))) (by kernel_rfl) (fun w _ => by kernel_rfl) ?_
  refine LL.op (.int .i64 (mx 0 (IntKind.i64.wrap (Int.tdiv (IntKind.i64.wrap ((IntKind.i64.wrap (Int.tdiv (IntKind.i64.wrap (a1_10 * (IntKind.i64.wrap (1000 - (IntKind.i64.wrap (Int.tdiv (IntKind.i64.wrap (a1_11 * x555)) 1000)))))) 1000)) * (IntKind.i64.wrap (10000 - (mx 0 (IntKind.i64.wrap (x556 - 1200))))))) 10000)))) (by kernel_rfl) (fun w _ => by kernel_rfl) ?_
  refine LL.op (.int .i64 (mx 0 (IntKind.i64.wrap (Int.tdiv (IntKind.i64.wrap ((IntKind.i64.wrap (Int.tdiv (IntKind.i64.wrap (a1_10 * (IntKind.i64.wrap (1000 - (IntKind.i64.wrap (Int.tdiv (IntKind.i64.wrap (a1_11 * x555)) 1000)))))) 1000)) * (IntKind.i64.wrap (10000 - (mx 0 (IntKind.i64.wrap (x556 - 1200))))))) 10000)))) (by kernel_rfl) (fun w _ => by kernel_rfl) ?_
  refine LL.done (s' := [(4, .int .i64 (mx 0 (IntKind.i64.wrap (Int.tdiv (IntKind.i64.wrap ((IntKind.i64.wrap (Int.tdiv (IntKind.i64.wrap (a1_10 * (IntKind.i64.wrap (1000 - (IntKind.i64.wrap (Int.tdiv (IntKind.i64.wrap (a1_11 * x555)) 1000)))))) 1000)) * (IntKind.i64.wrap (10000 - (mx 0 (IntKind.i64.wrap (x556 - 1200))))))) 10000))))]) [4] (by kernel_rfl) ?_
  refine NN.then ?_
  refine J.ret ?_
  refine NN.fin1 4 (.int .i64 (mx 0 (IntKind.i64.wrap (Int.tdiv (IntKind.i64.wrap ((IntKind.i64.wrap (Int.tdiv (IntKind.i64.wrap (a1_10 * (IntKind.i64.wrap (1000 - (IntKind.i64.wrap (Int.tdiv (IntKind.i64.wrap (a1_11 * x555)) 1000)))))) 1000)) * (IntKind.i64.wrap (10000 - (mx 0 (IntKind.i64.wrap (x556 - 1200))))))) 10000)))) (by kernel_rfl) (by kernel_rfl) (.inl rfl) (fun w hi => hi.ret ?_)
  first | (cases H; rfl) | (obtain rfl := Option.some.inj H; rfl) | (simp only [Option.some.injEq, Prod.mk.injEq] at H; obtain ⟨rfl⟩ := H; rfl)

/-! ### sawmilllaw41_example: function 55 -/
def sawmilllaw41_example.f  : Option (ByteArray × ByteArray × ByteArray × Int × Int × Int × Int × Int × Int × Int × Int × (List E41) × Int × Int × Int × Int × Bool × Int × ByteArray × Int × Int × Int × Int × Int × Int × Int × Int × Int × Int × Int × Int) := some ((⟨#[]⟩ : ByteArray), (⟨#[]⟩ : ByteArray), (⟨#[]⟩ : ByteArray), 0, 0, 100, 0, 40, 0, 2000, 0, ([(1, 0, 20, 0, 5, 100, 120), (2, 50, 60, 0, 5, 200, 210)] : List E41), 0, 1800, 1800, 0, false, 0, (⟨#[112, 105, 110, 101]⟩ : ByteArray), 6000, 100, 50, 300, 800, 1000, 700, 250, 500, 11000, 500, 80)
set_option maxRecDepth 100000 in
theorem sawmilllaw41_example.calls     (r1 : ByteArray) (r2 : ByteArray) (r3 : ByteArray) (r4 : Int) (r5 : Int) (r6 : Int) (r7 : Int) (r8 : Int) (r9 : Int) (r10 : Int) (r11 : Int) (r12 : List E41) (r13 : Int) (r14 : Int) (r15 : Int) (r16 : Int) (r17 : Bool) (r18 : Int) (r19 : ByteArray) (r20 : Int) (r21 : Int) (r22 : Int) (r23 : Int) (r24 : Int) (r25 : Int) (r26 : Int) (r27 : Int) (r28 : Int) (r29 : Int) (r30 : Int) (r31 : Int) (w : World)    (h : sawmilllaw41_example.f  = some (r1, r2, r3, r4, r5, r6, r7, r8, r9, r10, r11, r12, r13, r14, r15, r16, r17, r18, r19, r20, r21, r22, r23, r24, r25, r26, r27, r28, r29, r30, r31)) :
    Calls Try.prog 55 #[] w (RetR w enc41 7 r12 (fun A_ c_ => .tuple #[.agg #[.string r1, .string r2, .string r3, .int .i64 r4, .int .i64 r5, .int .i64 r6, .int .i64 r7, .int .i64 r8, .int .i64 r9, .int .i64 r10, .int .i64 r11, .slice A_ r12.length c_, .int .i64 r13, .int .i64 r14, .int .i64 r15, .int .i64 r16, .bool r17, .int .i64 r18], .agg #[.string r19, .int .i64 r20, .int .i64 r21, .int .i64 r22, .int .i64 r23, .int .i64 r24, .int .i64 r25, .int .i64 r26, .int .i64 r27, .int .i64 r28, .int .i64 r29, .int .i64 r30, .int .i64 r31]])) := by
  have H := h
  clear h
  unfold sawmilllaw41_example.f at H
  refine Go.Saw.calls (args := []) Try.func55 rfl Try.ntmps55 (by kernel_rfl) ?_
  refine J.seq ?_
  refine J.plain ?_
  refine LL.alloc 30 [.string (⟨#[]⟩ : ByteArray), .string (⟨#[]⟩ : ByteArray), .string (⟨#[]⟩ : ByteArray), .int .i64 0, .int .i64 0, .int .i64 0, .int .i64 0, .int .i64 0, .int .i64 0, .int .i64 0, .int .i64 0, .slice none 0 0, .int .i64 0, .int .i64 0, .int .i64 0, .int .i64 0, .bool false, .int .i64 0] (by kernel_rfl) rfl (by kernel_rfl) (fun g557 => ?_)
  refine LL.alloc 32 [.string (⟨#[]⟩ : ByteArray), .int .i64 0, .int .i64 0, .int .i64 0, .int .i64 0, .int .i64 0, .int .i64 0, .int .i64 0, .int .i64 0, .int .i64 0, .int .i64 0, .int .i64 0, .int .i64 0] (by kernel_rfl) rfl (by kernel_rfl) (fun g558 => ?_)
  refine LL.done (s' := [(0, .pointer (some ⟨g557, 0, none⟩)), (1, .pointer (some ⟨g558, 0, none⟩))]) [0, 1] (by kernel_rfl) ?_
  refine NN.then ?_
  refine J.seq ?_
  refine J.plain ?_
  refine LL.op (.agg #[.int .i64 0, .int .i64 100]) (by kernel_rfl) (fun w _ => by kernel_rfl) ?_
  refine LL.op (.agg #[.int .i64 0, .int .i64 40]) (by kernel_rfl) (fun w _ => by kernel_rfl) ?_
  refine LL.op (.agg #[.int .i64 0, .int .i64 2000]) (by kernel_rfl) (fun w _ => by kernel_rfl) ?_
  refine LL.op (.agg #[.int .i64 0, .int .i64 100, .int .i64 0, .int .i64 40, .int .i64 0, .int .i64 2000]) (by kernel_rfl) (fun w _ => by kernel_rfl) ?_
  refine LL.op (.agg #[.int .i64 1800, .int .i64 1800, .int .i64 0]) (by kernel_rfl) (fun w _ => by kernel_rfl) ?_
  refine LL.op (.agg #[.string (⟨#[]⟩ : ByteArray), .string (⟨#[]⟩ : ByteArray), .string (⟨#[]⟩ : ByteArray), .int .i64 0, .int .i64 0, .int .i64 100, .int .i64 0, .int .i64 40, .int .i64 0, .int .i64 2000, .int .i64 0, .slice none 0 0, .int .i64 0, .int .i64 1800, .int .i64 1800, .int .i64 0, .bool false, .int .i64 0]) (by kernel_rfl) (fun w _ => by kernel_rfl) ?_
  refine LL.alloc 30 [.string (⟨#[]⟩ : ByteArray), .string (⟨#[]⟩ : ByteArray), .string (⟨#[]⟩ : ByteArray), .int .i64 0, .int .i64 0, .int .i64 0, .int .i64 0, .int .i64 0, .int .i64 0, .int .i64 0, .int .i64 0, .slice none 0 0, .int .i64 0, .int .i64 0, .int .i64 0, .int .i64 0, .bool false, .int .i64 0] (by kernel_rfl) rfl (by kernel_rfl) (fun g559 => ?_)
  refine LL.store 0 g559 0 30 (.tmp 2) (.tmp 8) [.string (⟨#[]⟩ : ByteArray), .string (⟨#[]⟩ : ByteArray), .string (⟨#[]⟩ : ByteArray), .int .i64 0, .int .i64 0, .int .i64 100, .int .i64 0, .int .i64 40, .int .i64 0, .int .i64 2000, .int .i64 0, .slice none 0 0, .int .i64 0, .int .i64 1800, .int .i64 1800, .int .i64 0, .bool false, .int .i64 0] (bs' := [(g559, cl [.string (⟨#[]⟩ : ByteArray), .string (⟨#[]⟩ : ByteArray), .string (⟨#[]⟩ : ByteArray), .int .i64 0, .int .i64 0, .int .i64 100, .int .i64 0, .int .i64 40, .int .i64 0, .int .i64 2000, .int .i64 0, .slice none 0 0, .int .i64 0, .int .i64 1800, .int .i64 1800, .int .i64 0, .bool false, .int .i64 0] 30), (g558, cl [.string (⟨#[]⟩ : ByteArray), .int .i64 0, .int .i64 0, .int .i64 0, .int .i64 0, .int .i64 0, .int .i64 0, .int .i64 0, .int .i64 0, .int .i64 0, .int .i64 0, .int .i64 0, .int .i64 0] 32), (g557, cl [.string (⟨#[]⟩ : ByteArray), .string (⟨#[]⟩ : ByteArray), .string (⟨#[]⟩ : ByteArray), .int .i64 0, .int .i64 0, .int .i64 0, .int .i64 0, .int .i64 0, .int .i64 0, .int .i64 0, .int .i64 0, .slice none 0 0, .int .i64 0, .int .i64 0, .int .i64 0, .int .i64 0, .bool false, .int .i64 0] 30)]) rfl (by kernel_rfl) rfl (by kernel_rfl) rfl (by kernel_rfl) ?_
  refine LL.done (s' := [(0, .pointer (some ⟨g557, 0, none⟩)), (1, .pointer (some ⟨g558, 0, none⟩)), (2, .pointer (some ⟨g559, 0, none⟩))]) [0, 1, 2] (by kernel_rfl) ?_
  refine NN.then ?_
  refine J.seq ?_
  refine J.plain ?_
  refine LL.op (.agg #[.int .i64 0, .int .i64 20]) (by kernel_rfl) (fun w _ => by kernel_rfl) ?_
  refine LL.op (.agg #[.int .i64 0, .int .i64 5]) (by kernel_rfl) (fun w _ => by kernel_rfl) ?_
  refine LL.op (.agg #[.int .i64 100, .int .i64 120]) (by kernel_rfl) (fun w _ => by kernel_rfl) ?_
  refine LL.op (.agg #[.int .i64 0, .int .i64 20, .int .i64 0, .int .i64 5, .int .i64 100, .int .i64 120]) (by kernel_rfl) (fun w _ => by kernel_rfl) ?_
  refine LL.op (.agg #[.int .i64 1, .int .i64 0, .int .i64 20, .int .i64 0, .int .i64 5, .int .i64 100, .int .i64 120]) (by kernel_rfl) (fun w _ => by kernel_rfl) ?_
  refine LL.op (.agg #[.int .i64 50, .int .i64 60]) (by kernel_rfl) (fun w _ => by kernel_rfl) ?_
  refine LL.op (.agg #[.int .i64 0, .int .i64 5]) (by kernel_rfl) (fun w _ => by kernel_rfl) ?_
  refine LL.op (.agg #[.int .i64 200, .int .i64 210]) (by kernel_rfl) (fun w _ => by kernel_rfl) ?_
  refine LL.op (.agg #[.int .i64 50, .int .i64 60, .int .i64 0, .int .i64 5, .int .i64 200, .int .i64 210]) (by kernel_rfl) (fun w _ => by kernel_rfl) ?_
  refine LL.op (.agg #[.int .i64 2, .int .i64 50, .int .i64 60, .int .i64 0, .int .i64 5, .int .i64 200, .int .i64 210]) (by kernel_rfl) (fun w _ => by kernel_rfl) ?_
  refine LL.lit 26 2 #[(0, .tmp 13), (1, .tmp 18)] [.int .i64 1, .int .i64 0, .int .i64 20, .int .i64 0, .int .i64 5, .int .i64 100, .int .i64 120, .int .i64 2, .int .i64 50, .int .i64 60, .int .i64 0, .int .i64 5, .int .i64 200, .int .i64 210] 41 ([(1, 0, 20, 0, 5, 100, 120), (2, 50, 60, 0, 5, 200, 210)] : List E41) (by kernel_rfl) rfl (by kernel_rfl) ok41.len rfl rfl (fun R560 F561 A562 c563 le564 k565 fr566 => ?_)
  refine LL.op (.pointer (some ⟨g559, 11, none⟩)) (by kernel_rfl) (fun w _ => by kernel_rfl) ?_
  refine LL.store 0 g559 11 26 (.tmp 20) (.tmp 19) [.string (⟨#[]⟩ : ByteArray), .string (⟨#[]⟩ : ByteArray), .string (⟨#[]⟩ : ByteArray), .int .i64 0, .int .i64 0, .int .i64 100, .int .i64 0, .int .i64 40, .int .i64 0, .int .i64 2000, .int .i64 0, .slice A562 2 c563, .int .i64 0, .int .i64 1800, .int .i64 1800, .int .i64 0, .bool false, .int .i64 0] (bs' := [(g559, cl [.string (⟨#[]⟩ : ByteArray), .string (⟨#[]⟩ : ByteArray), .string (⟨#[]⟩ : ByteArray), .int .i64 0, .int .i64 0, .int .i64 100, .int .i64 0, .int .i64 40, .int .i64 0, .int .i64 2000, .int .i64 0, .slice A562 2 c563, .int .i64 0, .int .i64 1800, .int .i64 1800, .int .i64 0, .bool false, .int .i64 0] 30), (g558, cl [.string (⟨#[]⟩ : ByteArray), .int .i64 0, .int .i64 0, .int .i64 0, .int .i64 0, .int .i64 0, .int .i64 0, .int .i64 0, .int .i64 0, .int .i64 0, .int .i64 0, .int .i64 0, .int .i64 0] 32), (g557, cl [.string (⟨#[]⟩ : ByteArray), .string (⟨#[]⟩ : ByteArray), .string (⟨#[]⟩ : ByteArray), .int .i64 0, .int .i64 0, .int .i64 0, .int .i64 0, .int .i64 0, .int .i64 0, .int .i64 0, .int .i64 0, .slice none 0 0, .int .i64 0, .int .i64 0, .int .i64 0, .int .i64 0, .bool false, .int .i64 0] 30)]) rfl (by kernel_rfl) rfl (by kernel_rfl) rfl (by kernel_rfl) ?_
  refine LL.done (s' := [(0, .pointer (some ⟨g557, 0, none⟩)), (1, .pointer (some ⟨g558, 0, none⟩)), (2, .pointer (some ⟨g559, 0, none⟩))]) [0, 1, 2] (by kernel_rfl) ?_
  refine NN.then ?_
  refine J.seq ?_
  refine J.plain ?_
  refine LL.op (.agg #[.string (⟨#[]⟩ : ByteArray), .string (⟨#[]⟩ : ByteArray), .string (⟨#[]⟩ : ByteArray), .int .i64 0, .int .i64 0, .int .i64 100, .int .i64 0, .int .i64 40, .int .i64 0, .int .i64 2000, .int .i64 0, .slice A562 2 c563, .int .i64 0, .int .i64 1800, .int .i64 1800, .int .i64 0, .bool false, .int .i64 0]) (by kernel_rfl) (ld 0 g559 0 rfl (by kernel_rfl) rfl (by kernel_rfl)) ?_
  refine LL.op (.agg #[.string (⟨#[112, 105, 110, 101]⟩ : ByteArray), .int .i64 6000, .int .i64 100, .int .i64 50, .int .i64 300, .int .i64 800, .int .i64 1000, .int .i64 700, .int .i64 250, .int .i64 500, .int .i64 11000, .int .i64 500, .int .i64 80]) (by kernel_rfl) (fun w _ => by kernel_rfl) ?_
  refine LL.store 2 g557 0 30 (.tmp 0) (.tmp 21) [.string (⟨#[]⟩ : ByteArray), .string (⟨#[]⟩ : ByteArray), .string (⟨#[]⟩ : ByteArray), .int .i64 0, .int .i64 0, .int .i64 100, .int .i64 0, .int .i64 40, .int .i64 0, .int .i64 2000, .int .i64 0, .slice A562 2 c563, .int .i64 0, .int .i64 1800, .int .i64 1800, .int .i64 0, .bool false, .int .i64 0] (bs' := [(g559, cl [.string (⟨#[]⟩ : ByteArray), .string (⟨#[]⟩ : ByteArray), .string (⟨#[]⟩ : ByteArray), .int .i64 0, .int .i64 0, .int .i64 100, .int .i64 0, .int .i64 40, .int .i64 0, .int .i64 2000, .int .i64 0, .slice A562 2 c563, .int .i64 0, .int .i64 1800, .int .i64 1800, .int .i64 0, .bool false, .int .i64 0] 30), (g558, cl [.string (⟨#[]⟩ : ByteArray), .int .i64 0, .int .i64 0, .int .i64 0, .int .i64 0, .int .i64 0, .int .i64 0, .int .i64 0, .int .i64 0, .int .i64 0, .int .i64 0, .int .i64 0, .int .i64 0] 32), (g557, cl [.string (⟨#[]⟩ : ByteArray), .string (⟨#[]⟩ : ByteArray), .string (⟨#[]⟩ : ByteArray), .int .i64 0, .int .i64 0, .int .i64 100, .int .i64 0, .int .i64 40, .int .i64 0, .int .i64 2000, .int .i64 0, .slice A562 2 c563, .int .i64 0, .int .i64 1800, .int .i64 1800, .int .i64 0, .bool false, .int .i64 0] 30)]) rfl (by kernel_rfl) rfl (by kernel_rfl) rfl (by kernel_rfl) ?_
  refine LL.store 1 g558 0 32 (.tmp 1) (.tmp 22) [.string (⟨#[112, 105, 110, 101]⟩ : ByteArray), .int .i64 6000, .int .i64 100, .int .i64 50, .int .i64 300, .int .i64 800, .int .i64 1000, .int .i64 700, .int .i64 250, .int .i64 500, .int .i64 11000, .int .i64 500, .int .i64 80] (bs' := [(g559, cl [.string (⟨#[]⟩ : ByteArray), .string (⟨#[]⟩ : ByteArray), .string (⟨#[]⟩ : ByteArray), .int .i64 0, .int .i64 0, .int .i64 100, .int .i64 0, .int .i64 40, .int .i64 0, .int .i64 2000, .int .i64 0, .slice A562 2 c563, .int .i64 0, .int .i64 1800, .int .i64 1800, .int .i64 0, .bool false, .int .i64 0] 30), (g558, cl [.string (⟨#[112, 105, 110, 101]⟩ : ByteArray), .int .i64 6000, .int .i64 100, .int .i64 50, .int .i64 300, .int .i64 800, .int .i64 1000, .int .i64 700, .int .i64 250, .int .i64 500, .int .i64 11000, .int .i64 500, .int .i64 80] 32), (g557, cl [.string (⟨#[]⟩ : ByteArray), .string (⟨#[]⟩ : ByteArray), .string (⟨#[]⟩ : ByteArray), .int .i64 0, .int .i64 0, .int .i64 100, .int .i64 0, .int .i64 40, .int .i64 0, .int .i64 2000, .int .i64 0, .slice A562 2 c563, .int .i64 0, .int .i64 1800, .int .i64 1800, .int .i64 0, .bool false, .int .i64 0] 30)]) rfl (by kernel_rfl) rfl (by kernel_rfl) rfl (by kernel_rfl) ?_
  refine LL.done (s' := [(0, .pointer (some ⟨g557, 0, none⟩)), (1, .pointer (some ⟨g558, 0, none⟩))]) [0, 1] (by kernel_rfl) ?_
  refine NN.then ?_
  refine J.ret ?_
  first | (obtain rfl := Option.some.inj H) | (simp only [Option.some.injEq, Prod.mk.injEq] at H; obtain ⟨rfl, rfl, rfl, rfl, rfl, rfl, rfl, rfl, rfl, rfl, rfl, rfl, rfl, rfl, rfl, rfl, rfl, rfl, rfl, rfl, rfl, rfl, rfl, rfl, rfl, rfl, rfl, rfl, rfl, rfl, rfl⟩ := H)
  refine NN.finV (.tuple #[.agg #[.string (⟨#[]⟩ : ByteArray), .string (⟨#[]⟩ : ByteArray), .string (⟨#[]⟩ : ByteArray), .int .i64 0, .int .i64 0, .int .i64 100, .int .i64 0, .int .i64 40, .int .i64 0, .int .i64 2000, .int .i64 0, .slice A562 2 c563, .int .i64 0, .int .i64 1800, .int .i64 1800, .int .i64 0, .bool false, .int .i64 0], .agg #[.string (⟨#[112, 105, 110, 101]⟩ : ByteArray), .int .i64 6000, .int .i64 100, .int .i64 50, .int .i64 300, .int .i64 800, .int .i64 1000, .int .i64 700, .int .i64 250, .int .i64 500, .int .i64 11000, .int .i64 500, .int .i64 80]]) (.inl rfl) ?_ (fun w hi => hi.retRow k565 fr566 c563 rfl)
  · exact resOk_2 (by kernel_rfl) (.cell (d := 0) (t := 30) 2 g557 0 (by kernel_rfl) rfl (by kernel_rfl)) (.cell (d := 1) (t := 32) 1 g558 0 (by kernel_rfl) rfl (by kernel_rfl))

end Go.Proofs.Ytfjbhmpnmpphoaa
