/- Walks of functions of the seat: each call does what the Lean function of the same name says. Printed by the session's own program absgen.py. -/
import Derived.Test.YtbogdbbmmlaohaaF0
namespace Go.Proofs.Ytbogdbbmmlaohaa
open Go.Saw
set_option linter.unusedVariables false
set_option linter.unusedSimpArgs false

/-! ### assign_Table: function 12 -/
def assign_Table.l1 (K : Nat) (a1 : List E37) (e222_1 : ByteArray) (e222_2 : ByteArray) (e222_3 : Int) (e222_4 : Int) (e222_5 : Int) (e222_6 : Int) (e222_7 : Int) (e222_8 : Int) (e222_9 : Int) (e222_10 : Int) (e222_11 : Int) (kont_ : (List E4) → Int → Option ((List (List E4)))) : Nat → List E4 → Int → Option ((List (List E4)))
  | 0, _, _ => none
  | k + 1, x8l1, x19l1 => if x19l1 < (a1.length : Int) then ((idx a1 x19l1).bind fun be227 => ((order_Fits.f e222_1 e222_2 e222_3 e222_4 e222_5 e222_6 e222_7 e222_8 e222_9 e222_10 e222_11 be227.1 be227.2.1 be227.2.2.1 be227.2.2.2.1 be227.2.2.2.2.1 be227.2.2.2.2.2.1 be227.2.2.2.2.2.2.1 be227.2.2.2.2.2.2.2.1 be227.2.2.2.2.2.2.2.2.1 be227.2.2.2.2.2.2.2.2.2.1 be227.2.2.2.2.2.2.2.2.2.2.1 be227.2.2.2.2.2.2.2.2.2.2.2.1 be227.2.2.2.2.2.2.2.2.2.2.2.2.1 be227.2.2.2.2.2.2.2.2.2.2.2.2.2.1 be227.2.2.2.2.2.2.2.2.2.2.2.2.2.2.1 be227.2.2.2.2.2.2.2.2.2.2.2.2.2.2.2.1 be227.2.2.2.2.2.2.2.2.2.2.2.2.2.2.2.2.1 be227.2.2.2.2.2.2.2.2.2.2.2.2.2.2.2.2.2).bind fun x229 => ((app 1 x8l1 ([(x229 == 0)] : List E4)).bind fun y238 => (assign_Table.l1 K a1 e222_1 e222_2 e222_3 e222_4 e222_5 e222_6 e222_7 e222_8 e222_9 e222_10 e222_11 kont_ k y238 (IntKind.i64.wrap (x19l1 + 1)))))) else (kont_ x8l1 x19l1)
def assign_Table.l0 (K : Nat) (a0 : List E27) (a1 : List E37) : Nat → List (List E4) → Int → Option ((List (List E4)))
  | 0, _, _ => none
  | k + 1, x5l0, x13l0 => if x13l0 < (a0.length : Int) then ((idx a0 x13l0).bind fun be222 => (assign_Table.l1 K a1 be222.1 be222.2.1 be222.2.2.1 be222.2.2.2.1 be222.2.2.2.2.1 be222.2.2.2.2.2.1 be222.2.2.2.2.2.2.1 be222.2.2.2.2.2.2.2.1 be222.2.2.2.2.2.2.2.2.1 be222.2.2.2.2.2.2.2.2.2.1 be222.2.2.2.2.2.2.2.2.2.2 (fun (x8l1 : List E4) (x19l1 : Int) => (app 24 x5l0 ([x8l1] : List (List E4))).bind fun y2258 => (assign_Table.l0 K a0 a1 k y2258 (IntKind.i64.wrap (x13l0 + 1)))) K ([] : List E4) 0)) else (some x5l0)
def assign_Table.f (K : Nat) (a0 : List E27) (a1 : List E37) : Option ((List (List E4))) := assign_Table.l0 K a0 a1 K ([] : List (List E4)) 0
set_option maxRecDepth 100000 in
theorem assign_Table.calls (K : Nat) (a0 : List E27) (a1 : List E37)  (Aa0 : Option Addr) (ca0 : Nat) (Aa1 : Option Addr) (ca1 : Nat)  (r1 : List (List E4)) (w : World)   (ha0 : KRow (Cx.start w) enc27 11 a0 Aa0) (ha1 : KRow (Cx.start w) enc37 18 a1 Aa1) (h : assign_Table.f K a0 a1 = some r1) :
    Calls Try.prog 12 #[.slice Aa0 a0.length ca0, .slice Aa1 a1.length ca1] w (RetR2 w enc4 1 r1 (fun A_ c_ => .slice A_ r1.length c_)) := by
  have H := h
  clear h
  unfold assign_Table.f at H
  refine Go.Saw.calls (args := [.slice Aa0 a0.length ca0, .slice Aa1 a1.length ca1]) Try.func12 rfl Try.ntmps12 (by kernel_rfl) ?_
  refine J.seq ?_
  refine J.plain ?_
  refine LL.op (.slice none 0 0) (by kernel_rfl) (fun w _ => by kernel_rfl) ?_
  refine LL.done (s' := [(0, .slice Aa0 a0.length ca0), (1, .slice Aa1 a1.length ca1), (4, .slice none 0 0)]) [0, 1, 4] (by kernel_rfl) ?_
  refine NN.then ?_
  refine J.seq ?_
  refine J.plain ?_
  refine LL.op (.slice none 0 0) (by kernel_rfl) (fun w _ => by kernel_rfl) ?_
  refine LL.done (s' := [(0, .slice Aa0 a0.length ca0), (1, .slice Aa1 a1.length ca1), (4, .slice none 0 0), (5, .slice none 0 0)]) [0, 1, 4, 5] (by kernel_rfl) ?_
  refine NN.then ?_
  refine J.seq ?_
  refine J.seq ?_
  refine J.plain ?_
  refine LL.op (.slice Aa0 a0.length ca0) (by kernel_rfl) (fun w _ => by kernel_rfl) ?_
  refine LL.op (.int .i64 (a0.length : Int)) (by kernel_rfl) (fun w _ => by kernel_rfl) ?_
  refine LL.op (.int .i64 0) (by kernel_rfl) (fun w _ => by kernel_rfl) ?_
  refine LL.done (s' := [(1, .slice Aa1 a1.length ca1), (4, .slice none 0 0), (5, .slice none 0 0), (11, .slice Aa0 a0.length ca0), (12, .int .i64 (a0.length : Int)), (13, .int .i64 0)]) [1, 4, 5, 11, 12, 13] (by kernel_rfl) ?_
  refine NN.then ?_
  refine J.block ?_
  refine J.to [1, 4, 5, 11, 12, 13] (s' := [(1, .slice Aa1 a1.length ca1), (4, .slice none 0 0), (5, .slice none 0 0), (11, .slice Aa0 a0.length ca0), (12, .int .i64 (a0.length : Int)), (13, .int .i64 0)]) (by kernel_rfl) ?_
  refine J.loopC (fun c_ n_ s_ bs_ => ∃ (x5l0 : List (List E4)) (x13l0 : Int) (Ax5l0 : Option Addr) (cx5l0 : Nat) (bax5l0 : Bs), assign_Table.l0 K a0 a1 n_ x5l0 x13l0 = some r1 ∧ Own2 c_ enc4 1 48 x5l0 Ax5l0 cx5l0 bax5l0 ∧ s_ = [(1, .slice Aa1 a1.length ca1), (4, .slice none 0 0), (5, .slice Ax5l0 x5l0.length cx5l0), (11, .slice Aa0 a0.length ca0), (12, .int .i64 (a0.length : Int)), (13, .int .i64 x13l0)] ∧ [] ++ bax5l0 = bs_) K ⟨([] : List (List E4)), 0, none, 0, [], H, (Own2.nil none), rfl, rfl⟩ ?_
  rintro R_ F_ (_ | n_) s_ bs_ le220 ⟨x5l0, x13l0, Ax5l0, cx5l0, bax5l0, H, ox5l0, rfl, rfl⟩
  · exact absurd H (by simp [assign_Table.l0])
  simp only [assign_Table.l0] at H
  refine J.seq ?_
  refine J.plain ?_
  refine LL.op (.bool (decide (x13l0 < (a0.length : Int)))) (by kernel_rfl) (fun w _ => by kernel_rfl) ?_
  refine LL.done (s' := [(1, .slice Aa1 a1.length ca1), (4, .slice none 0 0), (5, .slice Ax5l0 x5l0.length cx5l0), (11, .slice Aa0 a0.length ca0), (12, .int .i64 (a0.length : Int)), (13, .int .i64 x13l0), (14, .bool (decide (x13l0 < (a0.length : Int))))]) [1, 4, 5, 11, 12, 13, 14] (by kernel_rfl) ?_
  refine NN.then ?_
  refine J.seq ?_
  rcases Bool.eq_false_or_eq_true (decide (x13l0 < (a0.length : Int))) with c221 | c221
  · rw [if_pos (of_decide_eq_true c221)] at H
    refine J.condT (b := decide (x13l0 < (a0.length : Int))) c221 (by kernel_rfl) (by kernel_rfl) ?_
    refine J.skip ?_
    refine NN.then ?_
    refine J.seq ?_
    refine J.block ?_
    refine J.seq ?_
    refine J.plain ?_
    obtain ⟨⟨e222_1, e222_2, e222_3, e222_4, e222_5, e222_6, e222_7, e222_8, e222_9, e222_10, e222_11⟩, he222, H⟩ := bind_some H
    (try dsimp only at H)
    refine LL.op (.pointer (rp Aa0 (x13l0.toNat * 11 + 0))) (by kernel_rfl) (idxR (cp := ca0) (ik := .i64) (ha0.le le220) he222 rfl (by kernel_rfl) (by kernel_rfl) (by kernel_rfl)) ?_
    refine LL.op (.agg #[.string e222_1, .string e222_2, .int .i64 e222_3, .int .i64 e222_4, .int .i64 e222_5, .int .i64 e222_6, .int .i64 e222_7, .int .i64 e222_8, .int .i64 e222_9, .int .i64 e222_10, .int .i64 e222_11]) (by kernel_rfl) (ldR (off := 0) (ha0.le le220) he222 rfl (by kernel_rfl) (by kernel_rfl)) ?_
    refine LL.alloc 27 [.string (⟨#[]⟩ : ByteArray), .string (⟨#[]⟩ : ByteArray), .int .i64 0, .int .i64 0, .int .i64 0, .int .i64 0, .int .i64 0, .int .i64 0, .int .i64 0, .int .i64 0, .int .i64 0] (by kernel_rfl) rfl (by kernel_rfl) (fun g223 => ?_)
    refine LL.store 0 g223 0 27 (.tmp 7) (.tmp 16) [.string e222_1, .string e222_2, .int .i64 e222_3, .int .i64 e222_4, .int .i64 e222_5, .int .i64 e222_6, .int .i64 e222_7, .int .i64 e222_8, .int .i64 e222_9, .int .i64 e222_10, .int .i64 e222_11] (bs' := [(g223, cl [.string e222_1, .string e222_2, .int .i64 e222_3, .int .i64 e222_4, .int .i64 e222_5, .int .i64 e222_6, .int .i64 e222_7, .int .i64 e222_8, .int .i64 e222_9, .int .i64 e222_10, .int .i64 e222_11] 27)] ++ bax5l0) rfl (by kernel_rfl) rfl (by kernel_rfl) rfl (by kernel_rfl) ?_
    refine LL.done (s' := [(1, .slice Aa1 a1.length ca1), (4, .slice none 0 0), (5, .slice Ax5l0 x5l0.length cx5l0), (7, .pointer (some ⟨g223, 0, none⟩)), (11, .slice Aa0 a0.length ca0), (12, .int .i64 (a0.length : Int)), (13, .int .i64 x13l0)]) [1, 4, 5, 7, 11, 12, 13] (by kernel_rfl) ?_
    refine NN.then ?_
    refine J.seq ?_
    refine J.plain ?_
    refine LL.op (.slice none 0 0) (by kernel_rfl) (fun w _ => by kernel_rfl) ?_
    refine LL.done (s' := [(1, .slice Aa1 a1.length ca1), (4, .slice none 0 0), (5, .slice Ax5l0 x5l0.length cx5l0), (7, .pointer (some ⟨g223, 0, none⟩)), (8, .slice none 0 0), (11, .slice Aa0 a0.length ca0), (12, .int .i64 (a0.length : Int)), (13, .int .i64 x13l0)]) [1, 4, 5, 7, 8, 11, 12, 13] (by kernel_rfl) ?_
    refine NN.then ?_
    refine J.seq ?_
    refine J.seq ?_
    refine J.plain ?_
    refine LL.op (.slice Aa1 a1.length ca1) (by kernel_rfl) (fun w _ => by kernel_rfl) ?_
    refine LL.op (.int .i64 (a1.length : Int)) (by kernel_rfl) (fun w _ => by kernel_rfl) ?_
    refine LL.op (.int .i64 0) (by kernel_rfl) (fun w _ => by kernel_rfl) ?_
    refine LL.done (s' := [(1, .slice Aa1 a1.length ca1), (4, .slice none 0 0), (5, .slice Ax5l0 x5l0.length cx5l0), (7, .pointer (some ⟨g223, 0, none⟩)), (8, .slice none 0 0), (11, .slice Aa0 a0.length ca0), (12, .int .i64 (a0.length : Int)), (13, .int .i64 x13l0), (17, .slice Aa1 a1.length ca1), (18, .int .i64 (a1.length : Int)), (19, .int .i64 0)]) [1, 4, 5, 7, 8, 11, 12, 13, 17, 18, 19] (by kernel_rfl) ?_
    refine NN.then ?_
    refine J.block ?_
    refine J.to [1, 4, 5, 7, 8, 11, 12, 13, 17, 18, 19] (s' := [(1, .slice Aa1 a1.length ca1), (4, .slice none 0 0), (5, .slice Ax5l0 x5l0.length cx5l0), (7, .pointer (some ⟨g223, 0, none⟩)), (8, .slice none 0 0), (11, .slice Aa0 a0.length ca0), (12, .int .i64 (a0.length : Int)), (13, .int .i64 x13l0), (17, .slice Aa1 a1.length ca1), (18, .int .i64 (a1.length : Int)), (19, .int .i64 0)]) (by kernel_rfl) ?_
    refine J.addnil ?_
    obtain ⟨kont224, hk224, H⟩ := kont_intro (P := fun q_ => assign_Table.l1 K a1 e222_1 e222_2 e222_3 e222_4 e222_5 e222_6 e222_7 e222_8 e222_9 e222_10 e222_11 q_ K ([] : List E4) 0 = some r1) H
    refine J.loop (fun n_ s_ bs_ => ∃ (x8l1 : List E4) (x19l1 : Int) (Ax8l1 : Option Addr) (cx8l1 : Nat) (bax8l1 : Bs), assign_Table.l1 K a1 e222_1 e222_2 e222_3 e222_4 e222_5 e222_6 e222_7 e222_8 e222_9 e222_10 e222_11 kont224 n_ x8l1 x19l1 = some r1 ∧ Own enc4 1 4 x8l1 Ax8l1 cx8l1 bax8l1 ∧ s_ = [(1, .slice Aa1 a1.length ca1), (4, .slice none 0 0), (5, .slice Ax5l0 x5l0.length cx5l0), (7, .pointer (some ⟨g223, 0, none⟩)), (8, .slice Ax8l1 x8l1.length cx8l1), (11, .slice Aa0 a0.length ca0), (12, .int .i64 (a0.length : Int)), (13, .int .i64 x13l0), (17, .slice Aa1 a1.length ca1), (18, .int .i64 (a1.length : Int)), (19, .int .i64 x19l1)] ∧ [(g223, cl [.string e222_1, .string e222_2, .int .i64 e222_3, .int .i64 e222_4, .int .i64 e222_5, .int .i64 e222_6, .int .i64 e222_7, .int .i64 e222_8, .int .i64 e222_9, .int .i64 e222_10, .int .i64 e222_11] 27)] ++ bax5l0 ++ bax8l1 = bs_) K ⟨([] : List E4), 0, none, 0, [], H, (.nil none rfl), rfl, rfl⟩ ?_
    rintro (_ | n_) s_ bs_ ⟨x8l1, x19l1, Ax8l1, cx8l1, bax8l1, H, ox8l1, rfl, rfl⟩
    · exact absurd H (by simp [assign_Table.l1])
    simp only [assign_Table.l1] at H
    refine J.seq ?_
    refine J.plain ?_
    refine LL.op (.bool (decide (x19l1 < (a1.length : Int)))) (by kernel_rfl) (fun w _ => by kernel_rfl) ?_
    refine LL.done (s' := [(1, .slice Aa1 a1.length ca1), (4, .slice none 0 0), (5, .slice Ax5l0 x5l0.length cx5l0), (7, .pointer (some ⟨g223, 0, none⟩)), (8, .slice Ax8l1 x8l1.length cx8l1), (11, .slice Aa0 a0.length ca0), (12, .int .i64 (a0.length : Int)), (13, .int .i64 x13l0), (17, .slice Aa1 a1.length ca1), (18, .int .i64 (a1.length : Int)), (19, .int .i64 x19l1), (20, .bool (decide (x19l1 < (a1.length : Int))))]) [1, 4, 5, 7, 8, 11, 12, 13, 17, 18, 19, 20] (by kernel_rfl) ?_
    refine NN.then ?_
    refine J.seq ?_
    rcases Bool.eq_false_or_eq_true (decide (x19l1 < (a1.length : Int))) with c226 | c226
    · rw [if_pos (of_decide_eq_true c226)] at H
      refine J.condT (b := decide (x19l1 < (a1.length : Int))) c226 (by kernel_rfl) (by kernel_rfl) ?_
      refine J.skip ?_
      refine NN.then ?_
      refine J.seq ?_
      refine J.block ?_
      refine J.seq ?_
      refine J.plain ?_
      obtain ⟨⟨e227_1, e227_2, e227_3, e227_4, e227_5, e227_6, e227_7, e227_8, e227_9, e227_10, e227_11, e227_12, e227_13, e227_14, e227_15, e227_16, e227_17, e227_18⟩, he227, H⟩ := bind_some H
      (try dsimp only at H)
      refine LL.op (.pointer (rp Aa1 (x19l1.toNat * 18 + 0))) (by kernel_rfl) (idxR (cp := ca1) (ik := .i64) (ha1.le le220) he227 rfl (by kernel_rfl) (by kernel_rfl) (by kernel_rfl)) ?_
      refine LL.op (.agg #[.string e227_1, .string e227_2, .string e227_3, .int .i64 e227_4, .int .i64 e227_5, .int .i64 e227_6, .int .i64 e227_7, .int .i64 e227_8, .int .i64 e227_9, .int .i64 e227_10, .int .i64 e227_11, .slice e227_12.1 e227_12.2.1 e227_12.2.2, .int .i64 e227_13, .int .i64 e227_14, .int .i64 e227_15, .int .i64 e227_16, .bool e227_17, .int .i64 e227_18]) (by kernel_rfl) (ldR (off := 0) (ha1.le le220) he227 rfl (by kernel_rfl) (by kernel_rfl)) ?_
      refine LL.alloc 37 [.string (⟨#[]⟩ : ByteArray), .string (⟨#[]⟩ : ByteArray), .string (⟨#[]⟩ : ByteArray), .int .i64 0, .int .i64 0, .int .i64 0, .int .i64 0, .int .i64 0, .int .i64 0, .int .i64 0, .int .i64 0, .slice none 0 0, .int .i64 0, .int .i64 0, .int .i64 0, .int .i64 0, .bool false, .int .i64 0] (by kernel_rfl) rfl (by kernel_rfl) (fun g228 => ?_)
      refine LL.store 0 g228 0 37 (.tmp 10) (.tmp 22) [.string e227_1, .string e227_2, .string e227_3, .int .i64 e227_4, .int .i64 e227_5, .int .i64 e227_6, .int .i64 e227_7, .int .i64 e227_8, .int .i64 e227_9, .int .i64 e227_10, .int .i64 e227_11, .slice e227_12.1 e227_12.2.1 e227_12.2.2, .int .i64 e227_13, .int .i64 e227_14, .int .i64 e227_15, .int .i64 e227_16, .bool e227_17, .int .i64 e227_18] (bs' := [(g228, cl [.string e227_1, .string e227_2, .string e227_3, .int .i64 e227_4, .int .i64 e227_5, .int .i64 e227_6, .int .i64 e227_7, .int .i64 e227_8, .int .i64 e227_9, .int .i64 e227_10, .int .i64 e227_11, .slice e227_12.1 e227_12.2.1 e227_12.2.2, .int .i64 e227_13, .int .i64 e227_14, .int .i64 e227_15, .int .i64 e227_16, .bool e227_17, .int .i64 e227_18] 37), (g223, cl [.string e222_1, .string e222_2, .int .i64 e222_3, .int .i64 e222_4, .int .i64 e222_5, .int .i64 e222_6, .int .i64 e222_7, .int .i64 e222_8, .int .i64 e222_9, .int .i64 e222_10, .int .i64 e222_11] 27)] ++ bax5l0 ++ bax8l1) rfl (by kernel_rfl) rfl (by kernel_rfl) rfl (by kernel_rfl) ?_
      refine LL.done (s' := [(1, .slice Aa1 a1.length ca1), (4, .slice none 0 0), (5, .slice Ax5l0 x5l0.length cx5l0), (7, .pointer (some ⟨g223, 0, none⟩)), (8, .slice Ax8l1 x8l1.length cx8l1), (10, .pointer (some ⟨g228, 0, none⟩)), (11, .slice Aa0 a0.length ca0), (12, .int .i64 (a0.length : Int)), (13, .int .i64 x13l0), (17, .slice Aa1 a1.length ca1), (18, .int .i64 (a1.length : Int)), (19, .int .i64 x19l1)]) [1, 4, 5, 7, 8, 10, 11, 12, 13, 17, 18, 19] (by kernel_rfl) ?_
      refine NN.then ?_
      refine J.plain ?_
      refine LL.op (.slice Ax8l1 x8l1.length cx8l1) (by kernel_rfl) (fun w _ => by kernel_rfl) ?_
      refine LL.op (.agg #[.string e222_1, .string e222_2, .int .i64 e222_3, .int .i64 e222_4, .int .i64 e222_5, .int .i64 e222_6, .int .i64 e222_7, .int .i64 e222_8, .int .i64 e222_9, .int .i64 e222_10, .int .i64 e222_11]) (by kernel_rfl) (ld 1 g223 0 rfl (by kernel_rfl) rfl (by kernel_rfl)) ?_
      refine LL.op (.agg #[.string e227_1, .string e227_2, .string e227_3, .int .i64 e227_4, .int .i64 e227_5, .int .i64 e227_6, .int .i64 e227_7, .int .i64 e227_8, .int .i64 e227_9, .int .i64 e227_10, .int .i64 e227_11, .slice e227_12.1 e227_12.2.1 e227_12.2.2, .int .i64 e227_13, .int .i64 e227_14, .int .i64 e227_15, .int .i64 e227_16, .bool e227_17, .int .i64 e227_18]) (by kernel_rfl) (ld 0 g228 0 rfl (by kernel_rfl) rfl (by kernel_rfl)) ?_
      obtain ⟨x229, hx229, H⟩ := bind_some H
      refine LL.call 17 #[.agg #[.string e222_1, .string e222_2, .int .i64 e222_3, .int .i64 e222_4, .int .i64 e222_5, .int .i64 e222_6, .int .i64 e222_7, .int .i64 e222_8, .int .i64 e222_9, .int .i64 e222_10, .int .i64 e222_11], .agg #[.string e227_1, .string e227_2, .string e227_3, .int .i64 e227_4, .int .i64 e227_5, .int .i64 e227_6, .int .i64 e227_7, .int .i64 e227_8, .int .i64 e227_9, .int .i64 e227_10, .int .i64 e227_11, .slice e227_12.1 e227_12.2.1 e227_12.2.2, .int .i64 e227_13, .int .i64 e227_14, .int .i64 e227_15, .int .i64 e227_16, .bool e227_17, .int .i64 e227_18]] (.int .i64 x229) (by kernel_rfl) (fun w => by kernel_rfl) (fun w hw => order_Fits.calls e222_1 e222_2 e222_3 e222_4 e222_5 e222_6 e222_7 e222_8 e222_9 e222_10 e222_11 e227_1 e227_2 e227_3 e227_4 e227_5 e227_6 e227_7 e227_8 e227_9 e227_10 e227_11 e227_12 e227_13 e227_14 e227_15 e227_16 e227_17 e227_18   _ w   hx229) ?_
      refine LL.op (.bool (x229 == 0)) (by kernel_rfl) (fun w _ => by kernel_rfl) ?_
      refine LL.lit 48 1 #[(0, .tmp 27)] [.bool (x229 == 0)] 4 ([(x229 == 0)] : List E4) (by kernel_rfl) rfl (by kernel_rfl) ok4.len rfl rfl (fun R230 F231 A232 c233 le234 k235 fr236 => ?_)
      obtain ⟨y238, hy238, H⟩ := bind_some H
      refine LL.app (l2 := ([(x229 == 0)] : List E4)) (cap := cx8l1) (c2 := c233) ([(g228, cl [.string e227_1, .string e227_2, .string e227_3, .int .i64 e227_4, .int .i64 e227_5, .int .i64 e227_6, .int .i64 e227_7, .int .i64 e227_8, .int .i64 e227_9, .int .i64 e227_10, .int .i64 e227_11, .slice e227_12.1 e227_12.2.1 e227_12.2.2, .int .i64 e227_13, .int .i64 e227_14, .int .i64 e227_15, .int .i64 e227_16, .bool e227_17, .int .i64 e227_18] 37), (g223, cl [.string e222_1, .string e222_2, .int .i64 e222_3, .int .i64 e222_4, .int .i64 e222_5, .int .i64 e222_6, .int .i64 e222_7, .int .i64 e222_8, .int .i64 e222_9, .int .i64 e222_10, .int .i64 e222_11] 27)] ++ bax5l0) (.tmp 23) (.tmp 28) el48 ok4 ox8l1 k235 hy238 (by kernel_rfl) rfl (by kernel_rfl) (by kernel_rfl) (fun A239 c240 ba241 o242 => ?_)
      refine LL.op (.slice A239 y238.length c240) (by kernel_rfl) (fun w _ => by kernel_rfl) ?_
      refine LL.done (s' := [(1, .slice Aa1 a1.length ca1), (4, .slice none 0 0), (5, .slice Ax5l0 x5l0.length cx5l0), (7, .pointer (some ⟨g223, 0, none⟩)), (8, .slice A239 y238.length c240), (11, .slice Aa0 a0.length ca0), (12, .int .i64 (a0.length : Int)), (13, .int .i64 x13l0), (17, .slice Aa1 a1.length ca1), (18, .int .i64 (a1.length : Int)), (19, .int .i64 x19l1)]) [1, 4, 5, 7, 8, 11, 12, 13, 17, 18, 19] (by kernel_rfl) ?_
      refine NN.block_n ?_
      refine NN.then ?_
      refine J.plain ?_
      refine LL.op (.int .i64 (IntKind.i64.wrap (x19l1 + 1))) (by kernel_rfl) (fun w _ => by kernel_rfl) ?_
      refine LL.op (.int .i64 (IntKind.i64.wrap (x19l1 + 1))) (by kernel_rfl) (fun w _ => by kernel_rfl) ?_
      refine LL.done (s' := [(1, .slice Aa1 a1.length ca1), (4, .slice none 0 0), (5, .slice Ax5l0 x5l0.length cx5l0), (7, .pointer (some ⟨g223, 0, none⟩)), (8, .slice A239 y238.length c240), (11, .slice Aa0 a0.length ca0), (12, .int .i64 (a0.length : Int)), (13, .int .i64 x13l0), (17, .slice Aa1 a1.length ca1), (18, .int .i64 (a1.length : Int)), (19, .int .i64 (IntKind.i64.wrap (x19l1 + 1)))]) [1, 4, 5, 7, 8, 11, 12, 13, 17, 18, 19] (by kernel_rfl) ?_
      exact NN.roundR [1, 4, 5, 7, 8, 11, 12, 13, 17, 18, 19] (bs' := [(g223, cl [.string e222_1, .string e222_2, .int .i64 e222_3, .int .i64 e222_4, .int .i64 e222_5, .int .i64 e222_6, .int .i64 e222_7, .int .i64 e222_8, .int .i64 e222_9, .int .i64 e222_10, .int .i64 e222_11] 27)] ++ bax5l0 ++ ba241) (fun _ _ h => (h.back le234)) (Nat.lt_succ_self _) (((List.Sublist.cons _ (List.Sublist.refl _)).append_right _).append_right _) (by kernel_rfl) ⟨y238, IntKind.i64.wrap (x19l1 + 1), A239, c240, ba241, H, o242, rfl, rfl⟩
    · rw [if_neg (of_decide_eq_false c226)] at H
      refine J.condF (b := decide (x19l1 < (a1.length : Int))) c226 (by kernel_rfl) (by kernel_rfl) ?_
      refine J.exit ?_
      refine NN.then_exit ?_
      rw [← hk224] at H
      (try dsimp only at H)
      refine NN.then_exit ?_
      refine NN.block_same ?_
      refine NN.then ?_
      refine J.plain ?_
      refine LL.op (.slice Ax5l0 x5l0.length cx5l0) (by kernel_rfl) (fun w _ => by kernel_rfl) ?_
      refine LL.op (.slice Ax8l1 x8l1.length cx8l1) (by kernel_rfl) (fun w _ => by kernel_rfl) ?_
      refine LL.freeze (pre := ([(g223, cl [.string e222_1, .string e222_2, .int .i64 e222_3, .int .i64 e222_4, .int .i64 e222_5, .int .i64 e222_6, .int .i64 e222_7, .int .i64 e222_8, .int .i64 e222_9, .int .i64 e222_10, .int .i64 e222_11] 27)] ++ bax5l0)) ok4 ox8l1 (fun R2244 F2245 le2246 k2247 fr2248 => ?_)
      refine LL.lit (enc := encS) (m := 1) 38 1 #[(0, .tmp 32)] [.slice Ax8l1 x8l1.length cx8l1] 48 ([(x8l1, Ax8l1, cx8l1)] : List (List E4 × Option Addr × Nat)) (by kernel_rfl) rfl (by kernel_rfl) encS_ok.len rfl rfl (fun R2249 F2250 A2251 c2252 le2253 k2254 fr2255 => ?_)
      have k2257 := lit2_row k2254 (All.cons (k2247.le le2253) (fun _ h => nomatch h))
      obtain ⟨y2258, hy2258, H⟩ := bind_some H
      refine LL.app2 (r := x8l1) (cap := cx5l0) (c2 := c2252) [(g223, cl [.string e222_1, .string e222_2, .int .i64 e222_3, .int .i64 e222_4, .int .i64 e222_5, .int .i64 e222_6, .int .i64 e222_7, .int .i64 e222_8, .int .i64 e222_9, .int .i64 e222_10, .int .i64 e222_11] 27)] (.tmp 31) (.tmp 33) el38 ((ox5l0.le le2246).le le2253) (k2247.le le2253) fr2248 k2254 hy2258 (by kernel_rfl) rfl (by kernel_rfl) (by kernel_rfl) (fun A2259 c2260 ba2261 o2262 => ?_)
      refine LL.op (.slice A2259 y2258.length c2260) (by kernel_rfl) (fun w _ => by kernel_rfl) ?_
      refine LL.done (s' := [(1, .slice Aa1 a1.length ca1), (4, .slice none 0 0), (5, .slice A2259 y2258.length c2260), (11, .slice Aa0 a0.length ca0), (12, .int .i64 (a0.length : Int)), (13, .int .i64 x13l0)]) [1, 4, 5, 11, 12, 13] (by kernel_rfl) ?_
      refine NN.block_n ?_
      refine NN.then ?_
      refine J.plain ?_
      refine LL.op (.int .i64 (IntKind.i64.wrap (x13l0 + 1))) (by kernel_rfl) (fun w _ => by kernel_rfl) ?_
      refine LL.op (.int .i64 (IntKind.i64.wrap (x13l0 + 1))) (by kernel_rfl) (fun w _ => by kernel_rfl) ?_
      refine LL.done (s' := [(1, .slice Aa1 a1.length ca1), (4, .slice none 0 0), (5, .slice A2259 y2258.length c2260), (11, .slice Aa0 a0.length ca0), (12, .int .i64 (a0.length : Int)), (13, .int .i64 (IntKind.i64.wrap (x13l0 + 1)))]) [1, 4, 5, 11, 12, 13] (by kernel_rfl) ?_
      exact NN.roundC [1, 4, 5, 11, 12, 13] (bs' := [] ++ ba2261) (le2246.trans le2253) (Nat.lt_succ_self _) ((List.Sublist.cons _ (List.Sublist.refl _)).append_right _) (by kernel_rfl) ⟨y2258, IntKind.i64.wrap (x13l0 + 1), A2259, c2260, ba2261, H, o2262, rfl, rfl⟩
  · rw [if_neg (of_decide_eq_false c221)] at H
    refine J.condF (b := decide (x13l0 < (a0.length : Int))) c221 (by kernel_rfl) (by kernel_rfl) ?_
    refine J.exit ?_
    refine NN.then_exit ?_
    refine NN.then_exit ?_
    refine NN.block_same ?_
    refine NN.then ?_
    refine J.seq ?_
    refine J.plain ?_
    refine LL.op (.slice Ax5l0 x5l0.length cx5l0) (by kernel_rfl) (fun w _ => by kernel_rfl) ?_
    refine LL.op (.slice Ax5l0 x5l0.length cx5l0) (by kernel_rfl) (fun w _ => by kernel_rfl) ?_
    refine LL.done (s' := [(4, .slice Ax5l0 x5l0.length cx5l0)]) [4] (by kernel_rfl) ?_
    refine NN.then ?_
    refine J.ret ?_
    first | (obtain rfl := Option.some.inj H) | (simp only [Option.some.injEq, Prod.mk.injEq] at H; obtain ⟨rfl⟩ := H)
    refine NN.fin1 4 (.slice Ax5l0 x5l0.length cx5l0) (by kernel_rfl) (by kernel_rfl) (.inl rfl) (fun w hi => hi.retOwn2 (pre := []) ox5l0 rfl)

/-! ### sawmillref48_Table: function 19 -/
def sawmillref48_Table.l1 (K : Nat) (a0 : List E27) (a1 : List E37) (x6l0 : Int) (kont_ : Int → (List E4) → Option ((List (List E4)))) : Nat → Int → List E4 → Option ((List (List E4)))
  | 0, _, _ => none
  | k + 1, x8l1, zg248l1 => if x8l1 < (a1.length : Int) then ((idx a0 x6l0).bind fun be253 => ((idx a1 x8l1).bind fun be254 => ((sawmillref46_Fits.f be253.1 be253.2.1 be253.2.2.1 be253.2.2.2.1 be253.2.2.2.2.1 be253.2.2.2.2.2.1 be253.2.2.2.2.2.2.1 be253.2.2.2.2.2.2.2.1 be253.2.2.2.2.2.2.2.2.1 be253.2.2.2.2.2.2.2.2.2.1 be253.2.2.2.2.2.2.2.2.2.2 be254.1 be254.2.1 be254.2.2.1 be254.2.2.2.1 be254.2.2.2.2.1 be254.2.2.2.2.2.1 be254.2.2.2.2.2.2.1 be254.2.2.2.2.2.2.2.1 be254.2.2.2.2.2.2.2.2.1 be254.2.2.2.2.2.2.2.2.2.1 be254.2.2.2.2.2.2.2.2.2.2.1 be254.2.2.2.2.2.2.2.2.2.2.2.1 be254.2.2.2.2.2.2.2.2.2.2.2.2.1 be254.2.2.2.2.2.2.2.2.2.2.2.2.2.1 be254.2.2.2.2.2.2.2.2.2.2.2.2.2.2.1 be254.2.2.2.2.2.2.2.2.2.2.2.2.2.2.2.1 be254.2.2.2.2.2.2.2.2.2.2.2.2.2.2.2.2.1 be254.2.2.2.2.2.2.2.2.2.2.2.2.2.2.2.2.2).bind fun x255 => ((idx zg248l1 x8l1).bind fun e256 => (sawmillref48_Table.l1 K a0 a1 x6l0 kont_ k (IntKind.i64.wrap (x8l1 + 1)) (zg248l1.set x8l1.toNat (x255 == 0))))))) else (kont_ x8l1 zg248l1)
def sawmillref48_Table.l0 (K : Nat) (a0 : List E27) (a1 : List E37) : Nat → List (List E4) → Int → Option ((List (List E4)))
  | 0, _, _ => none
  | k + 1, x5l0, x6l0 => if x6l0 < (a0.length : Int) then ((mk (a1.length : Int) false).bind fun y247 => (sawmillref48_Table.l1 K a0 a1 x6l0 (fun (x8l1 : Int) (zg248l1 : List E4) => (app 24 x5l0 ([zg248l1] : List (List E4))).bind fun y2271 => (sawmillref48_Table.l0 K a0 a1 k y2271 (IntKind.i64.wrap (x6l0 + 1)))) K 0 y247)) else (some x5l0)
def sawmillref48_Table.f (K : Nat) (a0 : List E27) (a1 : List E37) : Option ((List (List E4))) := sawmillref48_Table.l0 K a0 a1 K ([] : List (List E4)) 0
set_option maxRecDepth 100000 in
theorem sawmillref48_Table.calls (K : Nat) (a0 : List E27) (a1 : List E37)  (Aa0 : Option Addr) (ca0 : Nat) (Aa1 : Option Addr) (ca1 : Nat)  (r1 : List (List E4)) (w : World)   (ha0 : KRow (Cx.start w) enc27 11 a0 Aa0) (ha1 : KRow (Cx.start w) enc37 18 a1 Aa1) (h : sawmillref48_Table.f K a0 a1 = some r1) :
    Calls Try.prog 19 #[.slice Aa0 a0.length ca0, .slice Aa1 a1.length ca1] w (RetR2 w enc4 1 r1 (fun A_ c_ => .slice A_ r1.length c_)) := by
  have H := h
  clear h
  unfold sawmillref48_Table.f at H
  refine Go.Saw.calls (args := [.slice Aa0 a0.length ca0, .slice Aa1 a1.length ca1]) Try.func19 rfl Try.ntmps19 (by kernel_rfl) ?_
  refine J.seq ?_
  refine J.plain ?_
  refine LL.op (.slice none 0 0) (by kernel_rfl) (fun w _ => by kernel_rfl) ?_
  refine LL.done (s' := [(0, .slice Aa0 a0.length ca0), (1, .slice Aa1 a1.length ca1), (4, .slice none 0 0)]) [0, 1, 4] (by kernel_rfl) ?_
  refine NN.then ?_
  refine J.seq ?_
  refine J.plain ?_
  refine LL.op (.slice none 0 0) (by kernel_rfl) (fun w _ => by kernel_rfl) ?_
  refine LL.done (s' := [(0, .slice Aa0 a0.length ca0), (1, .slice Aa1 a1.length ca1), (4, .slice none 0 0), (5, .slice none 0 0)]) [0, 1, 4, 5] (by kernel_rfl) ?_
  refine NN.then ?_
  refine J.seq ?_
  refine J.seq ?_
  refine J.plain ?_
  refine LL.op (.int .i64 0) (by kernel_rfl) (fun w _ => by kernel_rfl) ?_
  refine LL.done (s' := [(0, .slice Aa0 a0.length ca0), (1, .slice Aa1 a1.length ca1), (4, .slice none 0 0), (5, .slice none 0 0), (6, .int .i64 0)]) [0, 1, 4, 5, 6] (by kernel_rfl) ?_
  refine NN.then ?_
  refine J.block ?_
  refine J.to [0, 1, 4, 5, 6] (s' := [(0, .slice Aa0 a0.length ca0), (1, .slice Aa1 a1.length ca1), (4, .slice none 0 0), (5, .slice none 0 0), (6, .int .i64 0)]) (by kernel_rfl) ?_
  refine J.loopC (fun c_ n_ s_ bs_ => ∃ (x5l0 : List (List E4)) (x6l0 : Int) (Ax5l0 : Option Addr) (cx5l0 : Nat) (bax5l0 : Bs), sawmillref48_Table.l0 K a0 a1 n_ x5l0 x6l0 = some r1 ∧ Own2 c_ enc4 1 48 x5l0 Ax5l0 cx5l0 bax5l0 ∧ s_ = [(0, .slice Aa0 a0.length ca0), (1, .slice Aa1 a1.length ca1), (4, .slice none 0 0), (5, .slice Ax5l0 x5l0.length cx5l0), (6, .int .i64 x6l0)] ∧ [] ++ bax5l0 = bs_) K ⟨([] : List (List E4)), 0, none, 0, [], H, (Own2.nil none), rfl, rfl⟩ ?_
  rintro R_ F_ (_ | n_) s_ bs_ le245 ⟨x5l0, x6l0, Ax5l0, cx5l0, bax5l0, H, ox5l0, rfl, rfl⟩
  · exact absurd H (by simp [sawmillref48_Table.l0])
  simp only [sawmillref48_Table.l0] at H
  refine J.seq ?_
  refine J.seq ?_
  refine J.plain ?_
  refine LL.op (.int .i64 x6l0) (by kernel_rfl) (fun w _ => by kernel_rfl) ?_
  refine LL.op (.slice Aa0 a0.length ca0) (by kernel_rfl) (fun w _ => by kernel_rfl) ?_
  refine LL.op (.int .i64 (a0.length : Int)) (by kernel_rfl) (fun w _ => by kernel_rfl) ?_
  refine LL.op (.bool (decide (x6l0 < (a0.length : Int)))) (by kernel_rfl) (fun w _ => by kernel_rfl) ?_
  refine LL.done (s' := [(0, .slice Aa0 a0.length ca0), (1, .slice Aa1 a1.length ca1), (4, .slice none 0 0), (5, .slice Ax5l0 x5l0.length cx5l0), (6, .int .i64 x6l0), (12, .bool (decide (x6l0 < (a0.length : Int))))]) [0, 1, 4, 5, 6, 12] (by kernel_rfl) ?_
  refine NN.then ?_
  rcases Bool.eq_false_or_eq_true (decide (x6l0 < (a0.length : Int))) with c246 | c246
  · rw [if_pos (of_decide_eq_true c246)] at H
    refine J.condT (b := decide (x6l0 < (a0.length : Int))) c246 (by kernel_rfl) (by kernel_rfl) ?_
    refine J.skip ?_
    refine NN.then ?_
    refine J.seq ?_
    refine J.block ?_
    refine J.seq ?_
    refine J.plain ?_
    refine LL.op (.slice Aa1 a1.length ca1) (by kernel_rfl) (fun w _ => by kernel_rfl) ?_
    refine LL.op (.int .i64 (a1.length : Int)) (by kernel_rfl) (fun w _ => by kernel_rfl) ?_
    obtain ⟨y247, hy247, H⟩ := bind_some H
    refine LL.mk (e1 := eB) mk4 hy247 (by kernel_rfl) rfl (by kernel_rfl) (by kernel_rfl) (fun g248 => ?_)
    refine LL.op (.slice (some ⟨g248, 0, none⟩) y247.length y247.length) (by kernel_rfl) (fun w _ => by kernel_rfl) ?_
    refine LL.done (s' := [(0, .slice Aa0 a0.length ca0), (1, .slice Aa1 a1.length ca1), (4, .slice none 0 0), (5, .slice Ax5l0 x5l0.length cx5l0), (6, .int .i64 x6l0), (7, .slice (some ⟨g248, 0, none⟩) y247.length y247.length)]) [0, 1, 4, 5, 6, 7] (by kernel_rfl) ?_
    refine NN.then ?_
    refine J.seq ?_
    refine J.seq ?_
    refine J.plain ?_
    refine LL.op (.int .i64 0) (by kernel_rfl) (fun w _ => by kernel_rfl) ?_
    refine LL.done (s' := [(0, .slice Aa0 a0.length ca0), (1, .slice Aa1 a1.length ca1), (4, .slice none 0 0), (5, .slice Ax5l0 x5l0.length cx5l0), (6, .int .i64 x6l0), (7, .slice (some ⟨g248, 0, none⟩) y247.length y247.length), (8, .int .i64 0)]) [0, 1, 4, 5, 6, 7, 8] (by kernel_rfl) ?_
    refine NN.then ?_
    refine J.block ?_
    refine J.to [0, 1, 4, 5, 6, 7, 8] (s' := [(0, .slice Aa0 a0.length ca0), (1, .slice Aa1 a1.length ca1), (4, .slice none 0 0), (5, .slice Ax5l0 x5l0.length cx5l0), (6, .int .i64 x6l0), (7, .slice (some ⟨g248, 0, none⟩) y247.length y247.length), (8, .int .i64 0)]) (by kernel_rfl) ?_
    obtain ⟨kont250, hk250, H⟩ := kont_intro (P := fun q_ => sawmillref48_Table.l1 K a0 a1 x6l0 q_ K 0 y247 = some r1) H
    refine J.loop (fun n_ s_ bs_ => ∃ (x8l1 : Int) (zg248l1 : List E4), sawmillref48_Table.l1 K a0 a1 x6l0 kont250 n_ x8l1 zg248l1 = some r1 ∧ zg248l1.length = y247.length ∧ s_ = [(0, .slice Aa0 a0.length ca0), (1, .slice Aa1 a1.length ca1), (4, .slice none 0 0), (5, .slice Ax5l0 x5l0.length cx5l0), (6, .int .i64 x6l0), (7, .slice (some ⟨g248, 0, none⟩) y247.length y247.length), (8, .int .i64 x8l1)] ∧ [(g248, cl (List.map eB zg248l1) 4)] ++ bax5l0 = bs_) K ⟨0, y247, H, rfl, rfl, rfl⟩ ?_
    rintro (_ | n_) s_ bs_ ⟨x8l1, zg248l1, H, lenzg248l1, rfl, rfl⟩
    · exact absurd H (by simp [sawmillref48_Table.l1])
    simp only [sawmillref48_Table.l1] at H
    refine J.seq ?_
    refine J.seq ?_
    refine J.plain ?_
    refine LL.op (.int .i64 x8l1) (by kernel_rfl) (fun w _ => by kernel_rfl) ?_
    refine LL.op (.slice Aa1 a1.length ca1) (by kernel_rfl) (fun w _ => by kernel_rfl) ?_
    refine LL.op (.int .i64 (a1.length : Int)) (by kernel_rfl) (fun w _ => by kernel_rfl) ?_
    refine LL.op (.bool (decide (x8l1 < (a1.length : Int)))) (by kernel_rfl) (fun w _ => by kernel_rfl) ?_
    refine LL.done (s' := [(0, .slice Aa0 a0.length ca0), (1, .slice Aa1 a1.length ca1), (4, .slice none 0 0), (5, .slice Ax5l0 x5l0.length cx5l0), (6, .int .i64 x6l0), (7, .slice (some ⟨g248, 0, none⟩) y247.length y247.length), (8, .int .i64 x8l1), (21, .bool (decide (x8l1 < (a1.length : Int))))]) [0, 1, 4, 5, 6, 7, 8, 21] (by kernel_rfl) ?_
    refine NN.then ?_
    rcases Bool.eq_false_or_eq_true (decide (x8l1 < (a1.length : Int))) with c252 | c252
    · rw [if_pos (of_decide_eq_true c252)] at H
      refine J.condT (b := decide (x8l1 < (a1.length : Int))) c252 (by kernel_rfl) (by kernel_rfl) ?_
      refine J.skip ?_
      refine NN.then ?_
      refine J.seq ?_
      refine J.block ?_
      obtain ⟨⟨e253_1, e253_2, e253_3, e253_4, e253_5, e253_6, e253_7, e253_8, e253_9, e253_10, e253_11⟩, he253, H⟩ := bind_some H
      (try dsimp only at H)
      obtain ⟨⟨e254_1, e254_2, e254_3, e254_4, e254_5, e254_6, e254_7, e254_8, e254_9, e254_10, e254_11, e254_12, e254_13, e254_14, e254_15, e254_16, e254_17, e254_18⟩, he254, H⟩ := bind_some H
      (try dsimp only at H)
      obtain ⟨x255, hx255, H⟩ := bind_some H
      obtain ⟨e256, he256, H⟩ := bind_some H
      refine J.heldBut [] follows ?_
      refine HH.take 0 (.slice (some ⟨g248, 0, none⟩) y247.length y247.length) rfl (by kernel_rfl) (by kernel_rfl) (fun _ h => h.sub ((List.Sublist.cons _ (List.Sublist.refl _)).trans (List.sublist_append_left _ _))) (fun w _ => by kernel_rfl) ?_
      refine HH.take 1 (.int .i64 x8l1) rfl (by kernel_rfl) (by kernel_rfl) (fun _ h => h.sub ((List.Sublist.cons _ (List.Sublist.refl _)).trans (List.sublist_append_left _ _))) (fun w _ => by kernel_rfl) ?_
      refine HH.take 2 (.slice Aa0 a0.length ca0) rfl (by kernel_rfl) (by kernel_rfl) (fun _ h => h.sub ((List.Sublist.cons _ (List.Sublist.refl _)).trans (List.sublist_append_left _ _))) (fun w _ => by kernel_rfl) ?_
      refine HH.take 3 (.int .i64 x6l0) rfl (by kernel_rfl) (by kernel_rfl) (fun _ h => h.sub ((List.Sublist.cons _ (List.Sublist.refl _)).trans (List.sublist_append_left _ _))) (fun w _ => by kernel_rfl) ?_
      refine HH.take 4 (.pointer (rp Aa0 (x6l0.toNat * 11 + 0))) rfl (by kernel_rfl) (by kernel_rfl) (fun _ h => h.sub ((List.Sublist.cons _ (List.Sublist.refl _)).trans (List.sublist_append_left _ _))) (idxR (cp := ca0) (ik := .i64) (ha0.le le245) he253 rfl (by kernel_rfl) (by kernel_rfl) (by kernel_rfl)) ?_
      refine HH.take 5 (.agg #[.string e253_1, .string e253_2, .int .i64 e253_3, .int .i64 e253_4, .int .i64 e253_5, .int .i64 e253_6, .int .i64 e253_7, .int .i64 e253_8, .int .i64 e253_9, .int .i64 e253_10, .int .i64 e253_11]) rfl (by kernel_rfl) (by kernel_rfl) (fun _ h => h.sub ((List.Sublist.cons _ (List.Sublist.refl _)).trans (List.sublist_append_left _ _))) (ldR (off := 0) (ha0.le le245) he253 rfl (by kernel_rfl) (by kernel_rfl)) ?_
      refine HH.take 6 (.slice Aa1 a1.length ca1) rfl (by kernel_rfl) (by kernel_rfl) (fun _ h => h.sub ((List.Sublist.cons _ (List.Sublist.refl _)).trans (List.sublist_append_left _ _))) (fun w _ => by kernel_rfl) ?_
      refine HH.take 7 (.int .i64 x8l1) rfl (by kernel_rfl) (by kernel_rfl) (fun _ h => h.sub ((List.Sublist.cons _ (List.Sublist.refl _)).trans (List.sublist_append_left _ _))) (fun w _ => by kernel_rfl) ?_
      refine HH.take 8 (.pointer (rp Aa1 (x8l1.toNat * 18 + 0))) rfl (by kernel_rfl) (by kernel_rfl) (fun _ h => h.sub ((List.Sublist.cons _ (List.Sublist.refl _)).trans (List.sublist_append_left _ _))) (idxR (cp := ca1) (ik := .i64) (ha1.le le245) he254 rfl (by kernel_rfl) (by kernel_rfl) (by kernel_rfl)) ?_
      refine HH.take 9 (.agg #[.string e254_1, .string e254_2, .string e254_3, .int .i64 e254_4, .int .i64 e254_5, .int .i64 e254_6, .int .i64 e254_7, .int .i64 e254_8, .int .i64 e254_9, .int .i64 e254_10, .int .i64 e254_11, .slice e254_12.1 e254_12.2.1 e254_12.2.2, .int .i64 e254_13, .int .i64 e254_14, .int .i64 e254_15, .int .i64 e254_16, .bool e254_17, .int .i64 e254_18]) rfl (by kernel_rfl) (by kernel_rfl) (fun _ h => h.sub ((List.Sublist.cons _ (List.Sublist.refl _)).trans (List.sublist_append_left _ _))) (ldR (off := 0) (ha1.le le245) he254 rfl (by kernel_rfl) (by kernel_rfl)) ?_
      refine HH.all1 10 (by kernel_rfl) ?_
      refine HS.call 38 #[.agg #[.string e253_1, .string e253_2, .int .i64 e253_3, .int .i64 e253_4, .int .i64 e253_5, .int .i64 e253_6, .int .i64 e253_7, .int .i64 e253_8, .int .i64 e253_9, .int .i64 e253_10, .int .i64 e253_11], .agg #[.string e254_1, .string e254_2, .string e254_3, .int .i64 e254_4, .int .i64 e254_5, .int .i64 e254_6, .int .i64 e254_7, .int .i64 e254_8, .int .i64 e254_9, .int .i64 e254_10, .int .i64 e254_11, .slice e254_12.1 e254_12.2.1 e254_12.2.2, .int .i64 e254_13, .int .i64 e254_14, .int .i64 e254_15, .int .i64 e254_16, .bool e254_17, .int .i64 e254_18]] (.int .i64 x255) rfl (by kernel_rfl) (fun w => by kernel_rfl) (fun _ h => h.sub ((List.Sublist.cons _ (List.Sublist.refl _)).trans (List.sublist_append_left _ _))) (fun w hw => sawmillref46_Fits.calls e253_1 e253_2 e253_3 e253_4 e253_5 e253_6 e253_7 e253_8 e253_9 e253_10 e253_11 e254_1 e254_2 e254_3 e254_4 e254_5 e254_6 e254_7 e254_8 e254_9 e254_10 e254_11 e254_12 e254_13 e254_14 e254_15 e254_16 e254_17 e254_18   _ w   hx255) ?_
      refine HH.take 11 (.bool (x255 == 0)) rfl (by kernel_rfl) (by kernel_rfl) (fun _ h => h.sub ((List.Sublist.cons _ (List.Sublist.refl _)).trans (List.sublist_append_left _ _))) (fun w _ => by kernel_rfl) ?_
      refine HH.all1 12 (by kernel_rfl) ?_
      refine HS.op (.pointer (rp (some ⟨g248, 0, none⟩) (x8l1.toNat * 1 + 0))) rfl (by kernel_rfl) (fun _ h => h.sub ((List.Sublist.cons _ (List.Sublist.refl _)).trans (List.sublist_append_left _ _))) (idxL (ik := .i64) (n := y247.length) (e1 := eB) (l := zg248l1) 0 g248 rfl he256 lenzg248l1 rfl (by kernel_rfl) (by kernel_rfl) (by kernel_rfl)) ?_
      refine HH.all1 13 (by kernel_rfl) ?_
      refine HS.storeL (e1 := eB) (l := zg248l1) (y := (x255 == 0)) (bs' := [(g248, cl (List.map eB (zg248l1.set x8l1.toNat (x255 == 0))) 4)] ++ bax5l0) 0 g248 one4 rfl rfl he256 rfl (by kernel_rfl) rfl (by kernel_rfl) (by kernel_rfl) (fun _ h => h.sub ((List.Sublist.cons _ (List.Sublist.refl _)).trans (List.sublist_append_left _ _))) ?_
      refine HH.done (s' := [(0, .slice Aa0 a0.length ca0), (1, .slice Aa1 a1.length ca1), (4, .slice none 0 0), (5, .slice Ax5l0 x5l0.length cx5l0), (6, .int .i64 x6l0), (7, .slice (some ⟨g248, 0, none⟩) y247.length y247.length), (8, .int .i64 x8l1)]) [0, 1, 4, 5, 6, 7, 8] (by kernel_rfl) (by kernel_rfl) ?_
      refine NN.block_n ?_
      refine NN.then ?_
      refine J.plain ?_
      refine LL.op (.int .i64 x8l1) (by kernel_rfl) (fun w _ => by kernel_rfl) ?_
      refine LL.op (.int .i64 (IntKind.i64.wrap (x8l1 + 1))) (by kernel_rfl) (fun w _ => by kernel_rfl) ?_
      refine LL.op (.int .i64 (IntKind.i64.wrap (x8l1 + 1))) (by kernel_rfl) (fun w _ => by kernel_rfl) ?_
      refine LL.done (s' := [(0, .slice Aa0 a0.length ca0), (1, .slice Aa1 a1.length ca1), (4, .slice none 0 0), (5, .slice Ax5l0 x5l0.length cx5l0), (6, .int .i64 x6l0), (7, .slice (some ⟨g248, 0, none⟩) y247.length y247.length), (8, .int .i64 (IntKind.i64.wrap (x8l1 + 1)))]) [0, 1, 4, 5, 6, 7, 8] (by kernel_rfl) ?_
      exact NN.round' [0, 1, 4, 5, 6, 7, 8] (bs' := [(g248, cl (List.map eB (zg248l1.set x8l1.toNat (x255 == 0))) 4)] ++ bax5l0) (Nat.lt_succ_self _) ((List.Sublist.refl _).append_right _) (by kernel_rfl) ⟨IntKind.i64.wrap (x8l1 + 1), (zg248l1.set x8l1.toNat (x255 == 0)), H, (List.length_set.trans lenzg248l1), rfl, rfl⟩
    · rw [if_neg (of_decide_eq_false c252)] at H
      refine J.condF (b := decide (x8l1 < (a1.length : Int))) c252 (by kernel_rfl) (by kernel_rfl) ?_
      refine J.exit ?_
      refine NN.then_exit ?_
      rw [← hk250] at H
      (try dsimp only at H)
      refine NN.then_exit ?_
      refine NN.block_same ?_
      refine NN.then ?_
      refine J.plain ?_
      refine LL.op (.slice Ax5l0 x5l0.length cx5l0) (by kernel_rfl) (fun w _ => by kernel_rfl) ?_
      refine LL.op (.slice (some ⟨g248, 0, none⟩) y247.length y247.length) (by kernel_rfl) (fun w _ => by kernel_rfl) ?_
      rw [show y247.length = zg248l1.length from (lenzg248l1).symm]
      refine LL.freezeL (bs' := [] ++ bax5l0) (enc := enc4) (l := zg248l1) 0 g248 rfl rfl rfl (fun R2257 F2258 le2259 k2260 fr2261 => ?_)
      refine LL.lit (enc := encS) (m := 1) 38 1 #[(0, .tmp 38)] [.slice (some ⟨g248, 0, none⟩) zg248l1.length zg248l1.length] 48 ([(zg248l1, (some ⟨g248, 0, none⟩), zg248l1.length)] : List (List E4 × Option Addr × Nat)) (by kernel_rfl) rfl (by kernel_rfl) encS_ok.len rfl rfl (fun R2262 F2263 A2264 c2265 le2266 k2267 fr2268 => ?_)
      have k2270 := lit2_row k2267 (All.cons (k2260.le le2266) (fun _ h => nomatch h))
      obtain ⟨y2271, hy2271, H⟩ := bind_some H
      refine LL.app2 (r := zg248l1) (cap := cx5l0) (c2 := c2265) [] (.tmp 37) (.tmp 39) el38 ((ox5l0.le le2259).le le2266) (k2260.le le2266) fr2261 k2267 hy2271 (by kernel_rfl) rfl (by kernel_rfl) (by kernel_rfl) (fun A2272 c2273 ba2274 o2275 => ?_)
      refine LL.op (.slice A2272 y2271.length c2273) (by kernel_rfl) (fun w _ => by kernel_rfl) ?_
      refine LL.done (s' := [(0, .slice Aa0 a0.length ca0), (1, .slice Aa1 a1.length ca1), (4, .slice none 0 0), (5, .slice A2272 y2271.length c2273), (6, .int .i64 x6l0)]) [0, 1, 4, 5, 6] (by kernel_rfl) ?_
      refine NN.block_n ?_
      refine NN.then ?_
      refine J.plain ?_
      refine LL.op (.int .i64 x6l0) (by kernel_rfl) (fun w _ => by kernel_rfl) ?_
      refine LL.op (.int .i64 (IntKind.i64.wrap (x6l0 + 1))) (by kernel_rfl) (fun w _ => by kernel_rfl) ?_
      refine LL.op (.int .i64 (IntKind.i64.wrap (x6l0 + 1))) (by kernel_rfl) (fun w _ => by kernel_rfl) ?_
      refine LL.done (s' := [(0, .slice Aa0 a0.length ca0), (1, .slice Aa1 a1.length ca1), (4, .slice none 0 0), (5, .slice A2272 y2271.length c2273), (6, .int .i64 (IntKind.i64.wrap (x6l0 + 1)))]) [0, 1, 4, 5, 6] (by kernel_rfl) ?_
      exact NN.roundC [0, 1, 4, 5, 6] (bs' := [] ++ ba2274) (le2259.trans le2266) (Nat.lt_succ_self _) ((List.Sublist.refl _).append_right _) (by kernel_rfl) ⟨y2271, IntKind.i64.wrap (x6l0 + 1), A2272, c2273, ba2274, H, o2275, rfl, rfl⟩
  · rw [if_neg (of_decide_eq_false c246)] at H
    refine J.condF (b := decide (x6l0 < (a0.length : Int))) c246 (by kernel_rfl) (by kernel_rfl) ?_
    refine J.exit ?_
    refine NN.then_exit ?_
    refine NN.then_exit ?_
    refine NN.block_same ?_
    refine NN.then ?_
    refine J.seq ?_
    refine J.plain ?_
    refine LL.op (.slice Ax5l0 x5l0.length cx5l0) (by kernel_rfl) (fun w _ => by kernel_rfl) ?_
    refine LL.op (.slice Ax5l0 x5l0.length cx5l0) (by kernel_rfl) (fun w _ => by kernel_rfl) ?_
    refine LL.done (s' := [(4, .slice Ax5l0 x5l0.length cx5l0)]) [4] (by kernel_rfl) ?_
    refine NN.then ?_
    refine J.ret ?_
    first | (obtain rfl := Option.some.inj H) | (simp only [Option.some.injEq, Prod.mk.injEq] at H; obtain ⟨rfl⟩ := H)
    refine NN.fin1 4 (.slice Ax5l0 x5l0.length cx5l0) (by kernel_rfl) (by kernel_rfl) (.inl rfl) (fun w hi => hi.retOwn2 (pre := []) ox5l0 rfl)

/-! ### assign_market_holder: function 34 -/
def assign_market_holder.f (a0 : List (List E4)) (a0t : (Int → Option Int)) (a1 : Int) : Option (Int) := if ((a0t a1).isSome) = true then (some ((a0t a1).getD 0)) else (some (-1))
set_option maxRecDepth 100000 in
theorem assign_market_holder.calls (a0 : List (List E4)) (a0t : (Int → Option Int)) (a1 : Int) (ma0 ta0 : Nat) (Aa0 : Option Addr) (ca0 : Nat) (r1 : Int)  (w : World) (ha0 : KRow2 (Cx.start w) enc4 1 a0 Aa0) (hm : BlkAt (Cx.start w) ma0 (cl [.slice Aa0 a0.length ca0, .map (some ta0)] 73)) (hT : BlkAt (Cx.start w) ta0 (mpO eI a0t)) (h : assign_market_holder.f a0 a0t a1 = some r1) :
    Calls Try.prog 34 #[.pointer (some ⟨ma0, 0, none⟩), .int .i64 a1] w (Ret w (.int .i64 r1)) := by
  have H := h
  clear h
  unfold assign_market_holder.f at H
  refine Go.Saw.calls (args := [.pointer (some ⟨ma0, 0, none⟩), .int .i64 a1]) Try.func34 rfl Try.ntmps34 (by kernel_rfl) ?_
  refine J.seq ?_
  refine J.plain ?_
  refine LL.op (.int .i64 0) (by kernel_rfl) (fun w _ => by kernel_rfl) ?_
  refine LL.done (s' := [(0, .pointer (some ⟨ma0, 0, none⟩)), (1, .int .i64 a1), (4, .int .i64 0)]) [0, 1, 4] (by kernel_rfl) ?_
  refine NN.then ?_
  refine J.seq ?_
  refine J.seq ?_
  refine J.plain ?_
  refine LL.op (.pointer (some ⟨ma0, 0, none⟩)) (by kernel_rfl) (fun w _ => by kernel_rfl) ?_
  refine LL.op (.pointer (some ⟨ma0, 0, none⟩)) (by kernel_rfl) (fun w _ => by kernel_rfl) ?_
  refine LL.op (.pointer (some ⟨ma0, 1, none⟩)) (by kernel_rfl) (fun w _ => by kernel_rfl) ?_
  refine LL.op (.map (some ta0)) (by kernel_rfl) (ldB (off := 1) rfl (by kernel_rfl) hm (by kernel_rfl)) ?_
  refine LL.op (.int .i64 a1) (by kernel_rfl) (fun w _ => by kernel_rfl) ?_
  refine LL.op (.tuple #[.int .i64 ((a0t a1).getD 0), .bool ((a0t a1).isSome)]) (by kernel_rfl) (lkW (T := a0t) mapI rfl (by kernel_rfl) (by kernel_rfl) hT (by cases a0t a1 <;> rfl)) ?_
  refine LL.op (.tuple #[.int .i64 ((a0t a1).getD 0), .bool ((a0t a1).isSome)]) (by kernel_rfl) (fun w _ => by kernel_rfl) ?_
  refine LL.op (.int .i64 ((a0t a1).getD 0)) (by kernel_rfl) (fun w _ => by kernel_rfl) ?_
  refine LL.op (.bool ((a0t a1).isSome)) (by kernel_rfl) (fun w _ => by kernel_rfl) ?_
  refine LL.op (.int .i64 ((a0t a1).getD 0)) (by kernel_rfl) (fun w _ => by kernel_rfl) ?_
  refine LL.op (.bool ((a0t a1).isSome)) (by kernel_rfl) (fun w _ => by kernel_rfl) ?_
  refine LL.done (s' := [(4, .int .i64 0), (5, .int .i64 ((a0t a1).getD 0)), (6, .bool ((a0t a1).isSome))]) [4, 5, 6] (by kernel_rfl) ?_
  refine NN.then ?_
  refine J.seq ?_
  refine J.plain ?_
  refine LL.op (.bool ((a0t a1).isSome)) (by kernel_rfl) (fun w _ => by kernel_rfl) ?_
  refine LL.done (s' := [(4, .int .i64 0), (5, .int .i64 ((a0t a1).getD 0)), (16, .bool ((a0t a1).isSome))]) [4, 5, 16] (by kernel_rfl) ?_
  refine NN.then ?_
  rcases Bool.eq_false_or_eq_true (((a0t a1).isSome)) with c257 | c257
  · rw [if_pos (c257)] at H
    refine J.condT (b := ((a0t a1).isSome)) c257 (by kernel_rfl) (by kernel_rfl) ?_
    refine J.seq ?_
    refine J.plain ?_
    refine LL.op (.int .i64 ((a0t a1).getD 0)) (by kernel_rfl) (fun w _ => by kernel_rfl) ?_
    refine LL.op (.int .i64 ((a0t a1).getD 0)) (by kernel_rfl) (fun w _ => by kernel_rfl) ?_
    refine LL.done (s' := [(4, .int .i64 ((a0t a1).getD 0))]) [4] (by kernel_rfl) ?_
    refine NN.then ?_
    refine J.ret ?_
    refine NN.then_ret ?_
    refine NN.fin1 4 (.int .i64 ((a0t a1).getD 0)) (by kernel_rfl) (by kernel_rfl) (.inl rfl) (fun w hi => hi.ret ?_)
    first | (cases H; rfl) | (obtain rfl := Option.some.inj H; rfl) | (simp only [Option.some.injEq, Prod.mk.injEq] at H; obtain ⟨rfl⟩ := H; rfl)
  · rw [if_neg (nebt c257)] at H
    refine J.condF (b := ((a0t a1).isSome)) c257 (by kernel_rfl) (by kernel_rfl) ?_
    refine J.skip ?_
    refine NN.then ?_
    refine J.seq ?_
    refine J.plain ?_
    refine LL.op (.int .i64 (-1)) (by kernel_rfl) (fun w _ => by kernel_rfl) ?_
    refine LL.done (s' := [(4, .int .i64 (-1))]) [4] (by kernel_rfl) ?_
    refine NN.then ?_
    refine J.ret ?_
    refine NN.fin1 4 (.int .i64 (-1)) (by kernel_rfl) (by kernel_rfl) (.inl rfl) (fun w hi => hi.ret ?_)
    first | (cases H; rfl) | (obtain rfl := Option.some.inj H; rfl) | (simp only [Option.some.injEq, Prod.mk.injEq] at H; obtain ⟨rfl⟩ := H; rfl)

/-! ### assign_market_holds: function 43 -/
def assign_market_holds.l0 (K : Nat) (a0 : List (List E4)) (a0t : (Int → Option Int)) (a1 : Int) : Nat → Int → Option (Bool)
  | 0, _ => none
  | k + 1, x7l0 => (assign_columns.f a0).bind fun x260 => (if x7l0 < x260 then ((assign_market_holder.f a0 a0t x7l0).bind fun x262 => (if x262 = a1 then (some true) else (assign_market_holds.l0 K a0 a0t a1 k (IntKind.i64.wrap (x7l0 + 1))))) else (some false))
def assign_market_holds.f (K : Nat) (a0 : List (List E4)) (a0t : (Int → Option Int)) (a1 : Int) (a2 : Int) : Option (Bool) := assign_market_holds.l0 K a0 a0t a1 K a2
set_option maxRecDepth 100000 in
theorem assign_market_holds.calls (K : Nat) (a0 : List (List E4)) (a0t : (Int → Option Int)) (a1 : Int) (a2 : Int) (ma0 ta0 : Nat) (Aa0 : Option Addr) (ca0 : Nat) (r1 : Bool)  (w : World) (ha0 : KRow2 (Cx.start w) enc4 1 a0 Aa0) (hm : BlkAt (Cx.start w) ma0 (cl [.slice Aa0 a0.length ca0, .map (some ta0)] 73)) (hT : BlkAt (Cx.start w) ta0 (mpO eI a0t)) (h : assign_market_holds.f K a0 a0t a1 a2 = some r1) :
    Calls Try.prog 43 #[.pointer (some ⟨ma0, 0, none⟩), .int .i64 a1, .int .i64 a2] w (Ret w (.bool r1)) := by
  have H := h
  clear h
  unfold assign_market_holds.f at H
  refine Go.Saw.calls (args := [.pointer (some ⟨ma0, 0, none⟩), .int .i64 a1, .int .i64 a2]) Try.func43 rfl Try.ntmps43 (by kernel_rfl) ?_
  refine J.seq ?_
  refine J.plain ?_
  refine LL.op (.bool false) (by kernel_rfl) (fun w _ => by kernel_rfl) ?_
  refine LL.done (s' := [(0, .pointer (some ⟨ma0, 0, none⟩)), (1, .int .i64 a1), (2, .int .i64 a2), (6, .bool false)]) [0, 1, 2, 6] (by kernel_rfl) ?_
  refine NN.then ?_
  refine J.seq ?_
  refine J.seq ?_
  refine J.plain ?_
  refine LL.op (.int .i64 a2) (by kernel_rfl) (fun w _ => by kernel_rfl) ?_
  refine LL.op (.int .i64 a2) (by kernel_rfl) (fun w _ => by kernel_rfl) ?_
  refine LL.done (s' := [(0, .pointer (some ⟨ma0, 0, none⟩)), (1, .int .i64 a1), (6, .bool false), (7, .int .i64 a2)]) [0, 1, 6, 7] (by kernel_rfl) ?_
  refine NN.then ?_
  refine J.block ?_
  refine J.to [0, 1, 6, 7] (s' := [(0, .pointer (some ⟨ma0, 0, none⟩)), (1, .int .i64 a1), (6, .bool false), (7, .int .i64 a2)]) (by kernel_rfl) ?_
  refine J.loop (fun n_ s_ bs_ => ∃ (x7l0 : Int), assign_market_holds.l0 K a0 a0t a1 n_ x7l0 = some r1 ∧ s_ = [(0, .pointer (some ⟨ma0, 0, none⟩)), (1, .int .i64 a1), (6, .bool false), (7, .int .i64 x7l0)] ∧ [] = bs_) K ⟨a2, H, rfl, rfl⟩ ?_
  rintro (_ | n_) s_ bs_ ⟨x7l0, H, rfl, rfl⟩
  · exact absurd H (by simp [assign_market_holds.l0])
  simp only [assign_market_holds.l0] at H
  refine J.seq ?_
  refine J.seq ?_
  refine J.plain ?_
  refine LL.op (.int .i64 x7l0) (by kernel_rfl) (fun w _ => by kernel_rfl) ?_
  refine LL.op (.pointer (some ⟨ma0, 0, none⟩)) (by kernel_rfl) (fun w _ => by kernel_rfl) ?_
  refine LL.op (.pointer (some ⟨ma0, 0, none⟩)) (by kernel_rfl) (fun w _ => by kernel_rfl) ?_
  refine LL.op (.pointer (some ⟨ma0, 0, none⟩)) (by kernel_rfl) (fun w _ => by kernel_rfl) ?_
  refine LL.op (.slice Aa0 a0.length ca0) (by kernel_rfl) (ldB (off := 0) rfl (by kernel_rfl) hm (by kernel_rfl)) ?_
  obtain ⟨x260, hx260, H⟩ := bind_some H
  refine LL.call 33 #[.slice Aa0 a0.length ca0] (.int .i64 x260) (by kernel_rfl) (fun w => by kernel_rfl) (fun w hw => assign_columns.calls a0  _ _ _ w  (ha0.at hw) hx260) ?_
  refine LL.op (.bool (decide (x7l0 < x260))) (by kernel_rfl) (fun w _ => by kernel_rfl) ?_
  refine LL.done (s' := [(0, .pointer (some ⟨ma0, 0, none⟩)), (1, .int .i64 a1), (6, .bool false), (7, .int .i64 x7l0), (15, .bool (decide (x7l0 < x260)))]) [0, 1, 6, 7, 15] (by kernel_rfl) ?_
  refine NN.then ?_
  rcases Bool.eq_false_or_eq_true (decide (x7l0 < x260)) with c261 | c261
  · rw [if_pos (of_decide_eq_true c261)] at H
    refine J.condT (b := decide (x7l0 < x260)) c261 (by kernel_rfl) (by kernel_rfl) ?_
    refine J.skip ?_
    refine NN.then ?_
    refine J.seq ?_
    refine J.block ?_
    refine J.seq ?_
    refine J.plain ?_
    refine LL.op (.pointer (some ⟨ma0, 0, none⟩)) (by kernel_rfl) (fun w _ => by kernel_rfl) ?_
    refine LL.op (.int .i64 x7l0) (by kernel_rfl) (fun w _ => by kernel_rfl) ?_
    obtain ⟨x262, hx262, H⟩ := bind_some H
    refine LL.call 34 #[.pointer (some ⟨ma0, 0, none⟩), .int .i64 x7l0] (.int .i64 x262) (by kernel_rfl) (fun w => by kernel_rfl) (fun w hw => assign_market_holder.calls a0 a0t x7l0 ma0 ta0 Aa0 ca0 _ w (ha0.at hw) (hm.at hw) (hT.at hw) hx262) ?_
    refine LL.op (.int .i64 a1) (by kernel_rfl) (fun w _ => by kernel_rfl) ?_
    refine LL.op (.bool (x262 == a1)) (by kernel_rfl) (fun w _ => by kernel_rfl) ?_
    refine LL.done (s' := [(0, .pointer (some ⟨ma0, 0, none⟩)), (1, .int .i64 a1), (6, .bool false), (7, .int .i64 x7l0), (22, .bool (x262 == a1))]) [0, 1, 6, 7, 22] (by kernel_rfl) ?_
    refine NN.then ?_
    rcases Bool.eq_false_or_eq_true ((x262 == a1)) with c263 | c263
    · rw [if_pos (eq_of_beq c263)] at H
      refine J.condT (b := (x262 == a1)) c263 (by kernel_rfl) (by kernel_rfl) ?_
      refine J.seq ?_
      refine J.plain ?_
      refine LL.op (.bool true) (by kernel_rfl) (fun w _ => by kernel_rfl) ?_
      refine LL.done (s' := [(0, .pointer (some ⟨ma0, 0, none⟩)), (1, .int .i64 a1), (6, .bool true), (7, .int .i64 x7l0)]) [0, 1, 6, 7] (by kernel_rfl) ?_
      refine NN.then ?_
      refine J.ret ?_
      refine NN.block_ret ?_
      refine NN.then_ret ?_
      refine NN.then_ret ?_
      refine NN.block_ret ?_
      refine NN.then_ret ?_
      refine NN.fin1 6 (.bool true) (by kernel_rfl) (by kernel_rfl) (.inl rfl) (fun w hi => hi.ret ?_)
      first | (cases H; rfl) | (obtain rfl := Option.some.inj H; rfl) | (simp only [Option.some.injEq, Prod.mk.injEq] at H; obtain ⟨rfl⟩ := H; rfl)
    · rw [if_neg (nebf c263)] at H
      refine J.condF (b := (x262 == a1)) c263 (by kernel_rfl) (by kernel_rfl) ?_
      refine J.skip ?_
      refine NN.block_n ?_
      refine NN.then ?_
      refine J.plain ?_
      refine LL.op (.int .i64 x7l0) (by kernel_rfl) (fun w _ => by kernel_rfl) ?_
      refine LL.op (.int .i64 (IntKind.i64.wrap (x7l0 + 1))) (by kernel_rfl) (fun w _ => by kernel_rfl) ?_
      refine LL.op (.int .i64 (IntKind.i64.wrap (x7l0 + 1))) (by kernel_rfl) (fun w _ => by kernel_rfl) ?_
      refine LL.done (s' := [(0, .pointer (some ⟨ma0, 0, none⟩)), (1, .int .i64 a1), (6, .bool false), (7, .int .i64 (IntKind.i64.wrap (x7l0 + 1)))]) [0, 1, 6, 7] (by kernel_rfl) ?_
      exact NN.round' [0, 1, 6, 7] (bs' := []) (Nat.lt_succ_self _) (List.Sublist.refl _) (by kernel_rfl) ⟨IntKind.i64.wrap (x7l0 + 1), H, rfl, rfl⟩
  · rw [if_neg (of_decide_eq_false c261)] at H
    refine J.condF (b := decide (x7l0 < x260)) c261 (by kernel_rfl) (by kernel_rfl) ?_
    refine J.exit ?_
    refine NN.then_exit ?_
    refine NN.then_exit ?_
    refine NN.block_same ?_
    refine NN.then ?_
    refine J.seq ?_
    refine J.plain ?_
    refine LL.op (.bool false) (by kernel_rfl) (fun w _ => by kernel_rfl) ?_
    refine LL.done (s' := [(6, .bool false)]) [6] (by kernel_rfl) ?_
    refine NN.then ?_
    refine J.ret ?_
    refine NN.fin1 6 (.bool false) (by kernel_rfl) (by kernel_rfl) (.inl rfl) (fun w hi => hi.ret ?_)
    first | (cases H; rfl) | (obtain rfl := Option.some.inj H; rfl) | (simp only [Option.some.injEq, Prod.mk.injEq] at H; obtain ⟨rfl⟩ := H; rfl)

/-! ### assign_market_size: function 45 -/
def assign_market_size.l0 (K : Nat) (a0 : List (List E4)) (a0t : (Int → Option Int)) (a1 : Int) : Nat → Int → Int → Option (Int)
  | 0, _, _ => none
  | k + 1, x7l0, x8l0 => (assign_columns.f a0).bind fun x266 => (if x8l0 < x266 then ((assign_market_holder.f a0 a0t x8l0).bind fun x268 => (if x268 = a1 then (assign_market_size.l0 K a0 a0t a1 k (IntKind.i64.wrap (x7l0 + 1)) (IntKind.i64.wrap (x8l0 + 1))) else (assign_market_size.l0 K a0 a0t a1 k x7l0 (IntKind.i64.wrap (x8l0 + 1))))) else (some x7l0))
def assign_market_size.f (K : Nat) (a0 : List (List E4)) (a0t : (Int → Option Int)) (a1 : Int) (a2 : Int) : Option (Int) := assign_market_size.l0 K a0 a0t a1 K 0 a2
set_option maxRecDepth 100000 in
theorem assign_market_size.calls (K : Nat) (a0 : List (List E4)) (a0t : (Int → Option Int)) (a1 : Int) (a2 : Int) (ma0 ta0 : Nat) (Aa0 : Option Addr) (ca0 : Nat) (r1 : Int)  (w : World) (ha0 : KRow2 (Cx.start w) enc4 1 a0 Aa0) (hm : BlkAt (Cx.start w) ma0 (cl [.slice Aa0 a0.length ca0, .map (some ta0)] 73)) (hT : BlkAt (Cx.start w) ta0 (mpO eI a0t)) (h : assign_market_size.f K a0 a0t a1 a2 = some r1) :
    Calls Try.prog 45 #[.pointer (some ⟨ma0, 0, none⟩), .int .i64 a1, .int .i64 a2] w (Ret w (.int .i64 r1)) := by
  have H := h
  clear h
  unfold assign_market_size.f at H
  refine Go.Saw.calls (args := [.pointer (some ⟨ma0, 0, none⟩), .int .i64 a1, .int .i64 a2]) Try.func45 rfl Try.ntmps45 (by kernel_rfl) ?_
  refine J.seq ?_
  refine J.plain ?_
  refine LL.op (.int .i64 0) (by kernel_rfl) (fun w _ => by kernel_rfl) ?_
  refine LL.done (s' := [(0, .pointer (some ⟨ma0, 0, none⟩)), (1, .int .i64 a1), (2, .int .i64 a2), (6, .int .i64 0)]) [0, 1, 2, 6] (by kernel_rfl) ?_
  refine NN.then ?_
  refine J.seq ?_
  refine J.plain ?_
  refine LL.op (.int .i64 0) (by kernel_rfl) (fun w _ => by kernel_rfl) ?_
  refine LL.done (s' := [(0, .pointer (some ⟨ma0, 0, none⟩)), (1, .int .i64 a1), (2, .int .i64 a2), (6, .int .i64 0), (7, .int .i64 0)]) [0, 1, 2, 6, 7] (by kernel_rfl) ?_
  refine NN.then ?_
  refine J.seq ?_
  refine J.seq ?_
  refine J.plain ?_
  refine LL.op (.int .i64 a2) (by kernel_rfl) (fun w _ => by kernel_rfl) ?_
  refine LL.op (.int .i64 a2) (by kernel_rfl) (fun w _ => by kernel_rfl) ?_
  refine LL.done (s' := [(0, .pointer (some ⟨ma0, 0, none⟩)), (1, .int .i64 a1), (6, .int .i64 0), (7, .int .i64 0), (8, .int .i64 a2)]) [0, 1, 6, 7, 8] (by kernel_rfl) ?_
  refine NN.then ?_
  refine J.block ?_
  refine J.to [0, 1, 6, 7, 8] (s' := [(0, .pointer (some ⟨ma0, 0, none⟩)), (1, .int .i64 a1), (6, .int .i64 0), (7, .int .i64 0), (8, .int .i64 a2)]) (by kernel_rfl) ?_
  refine J.loop (fun n_ s_ bs_ => ∃ (x7l0 : Int) (x8l0 : Int), assign_market_size.l0 K a0 a0t a1 n_ x7l0 x8l0 = some r1 ∧ s_ = [(0, .pointer (some ⟨ma0, 0, none⟩)), (1, .int .i64 a1), (6, .int .i64 0), (7, .int .i64 x7l0), (8, .int .i64 x8l0)] ∧ [] = bs_) K ⟨0, a2, H, rfl, rfl⟩ ?_
  rintro (_ | n_) s_ bs_ ⟨x7l0, x8l0, H, rfl, rfl⟩
  · exact absurd H (by simp [assign_market_size.l0])
  simp only [assign_market_size.l0] at H
  refine J.seq ?_
  refine J.seq ?_
  refine J.plain ?_
  refine LL.op (.int .i64 x8l0) (by kernel_rfl) (fun w _ => by kernel_rfl) ?_
  refine LL.op (.pointer (some ⟨ma0, 0, none⟩)) (by kernel_rfl) (fun w _ => by kernel_rfl) ?_
  refine LL.op (.pointer (some ⟨ma0, 0, none⟩)) (by kernel_rfl) (fun w _ => by kernel_rfl) ?_
  refine LL.op (.pointer (some ⟨ma0, 0, none⟩)) (by kernel_rfl) (fun w _ => by kernel_rfl) ?_
  refine LL.op (.slice Aa0 a0.length ca0) (by kernel_rfl) (ldB (off := 0) rfl (by kernel_rfl) hm (by kernel_rfl)) ?_
  obtain ⟨x266, hx266, H⟩ := bind_some H
  refine LL.call 33 #[.slice Aa0 a0.length ca0] (.int .i64 x266) (by kernel_rfl) (fun w => by kernel_rfl) (fun w hw => assign_columns.calls a0  _ _ _ w  (ha0.at hw) hx266) ?_
  refine LL.op (.bool (decide (x8l0 < x266))) (by kernel_rfl) (fun w _ => by kernel_rfl) ?_
  refine LL.done (s' := [(0, .pointer (some ⟨ma0, 0, none⟩)), (1, .int .i64 a1), (6, .int .i64 0), (7, .int .i64 x7l0), (8, .int .i64 x8l0), (16, .bool (decide (x8l0 < x266)))]) [0, 1, 6, 7, 8, 16] (by kernel_rfl) ?_
  refine NN.then ?_
  rcases Bool.eq_false_or_eq_true (decide (x8l0 < x266)) with c267 | c267
  · rw [if_pos (of_decide_eq_true c267)] at H
    refine J.condT (b := decide (x8l0 < x266)) c267 (by kernel_rfl) (by kernel_rfl) ?_
    refine J.skip ?_
    refine NN.then ?_
    refine J.seq ?_
    refine J.block ?_
    refine J.seq ?_
    refine J.plain ?_
    refine LL.op (.pointer (some ⟨ma0, 0, none⟩)) (by kernel_rfl) (fun w _ => by kernel_rfl) ?_
    refine LL.op (.int .i64 x8l0) (by kernel_rfl) (fun w _ => by kernel_rfl) ?_
    obtain ⟨x268, hx268, H⟩ := bind_some H
    refine LL.call 34 #[.pointer (some ⟨ma0, 0, none⟩), .int .i64 x8l0] (.int .i64 x268) (by kernel_rfl) (fun w => by kernel_rfl) (fun w hw => assign_market_holder.calls a0 a0t x8l0 ma0 ta0 Aa0 ca0 _ w (ha0.at hw) (hm.at hw) (hT.at hw) hx268) ?_
    refine LL.op (.int .i64 a1) (by kernel_rfl) (fun w _ => by kernel_rfl) ?_
    refine LL.op (.bool (x268 == a1)) (by kernel_rfl) (fun w _ => by kernel_rfl) ?_
    refine LL.done (s' := [(0, .pointer (some ⟨ma0, 0, none⟩)), (1, .int .i64 a1), (6, .int .i64 0), (7, .int .i64 x7l0), (8, .int .i64 x8l0), (23, .bool (x268 == a1))]) [0, 1, 6, 7, 8, 23] (by kernel_rfl) ?_
    refine NN.then ?_
    rcases Bool.eq_false_or_eq_true ((x268 == a1)) with c269 | c269
    · rw [if_pos (eq_of_beq c269)] at H
      refine J.condT (b := (x268 == a1)) c269 (by kernel_rfl) (by kernel_rfl) ?_
      refine J.plain ?_
      refine LL.op (.int .i64 x7l0) (by kernel_rfl) (fun w _ => by kernel_rfl) ?_
      refine LL.op (.int .i64 (IntKind.i64.wrap (x7l0 + 1))) (by kernel_rfl) (fun w _ => by kernel_rfl) ?_
      refine LL.op (.int .i64 (IntKind.i64.wrap (x7l0 + 1))) (by kernel_rfl) (fun w _ => by kernel_rfl) ?_
      refine LL.done (s' := [(0, .pointer (some ⟨ma0, 0, none⟩)), (1, .int .i64 a1), (6, .int .i64 0), (7, .int .i64 (IntKind.i64.wrap (x7l0 + 1))), (8, .int .i64 x8l0)]) [0, 1, 6, 7, 8] (by kernel_rfl) ?_
      refine NN.block_n ?_
      refine NN.then ?_
      refine J.plain ?_
      refine LL.op (.int .i64 x8l0) (by kernel_rfl) (fun w _ => by kernel_rfl) ?_
      refine LL.op (.int .i64 (IntKind.i64.wrap (x8l0 + 1))) (by kernel_rfl) (fun w _ => by kernel_rfl) ?_
      refine LL.op (.int .i64 (IntKind.i64.wrap (x8l0 + 1))) (by kernel_rfl) (fun w _ => by kernel_rfl) ?_
      refine LL.done (s' := [(0, .pointer (some ⟨ma0, 0, none⟩)), (1, .int .i64 a1), (6, .int .i64 0), (7, .int .i64 (IntKind.i64.wrap (x7l0 + 1))), (8, .int .i64 (IntKind.i64.wrap (x8l0 + 1)))]) [0, 1, 6, 7, 8] (by kernel_rfl) ?_
      exact NN.round' [0, 1, 6, 7, 8] (bs' := []) (Nat.lt_succ_self _) (List.Sublist.refl _) (by kernel_rfl) ⟨IntKind.i64.wrap (x7l0 + 1), IntKind.i64.wrap (x8l0 + 1), H, rfl, rfl⟩
    · rw [if_neg (nebf c269)] at H
      refine J.condF (b := (x268 == a1)) c269 (by kernel_rfl) (by kernel_rfl) ?_
      refine J.skip ?_
      refine NN.block_n ?_
      refine NN.then ?_
      refine J.plain ?_
      refine LL.op (.int .i64 x8l0) (by kernel_rfl) (fun w _ => by kernel_rfl) ?_
      refine LL.op (.int .i64 (IntKind.i64.wrap (x8l0 + 1))) (by kernel_rfl) (fun w _ => by kernel_rfl) ?_
      refine LL.op (.int .i64 (IntKind.i64.wrap (x8l0 + 1))) (by kernel_rfl) (fun w _ => by kernel_rfl) ?_
      refine LL.done (s' := [(0, .pointer (some ⟨ma0, 0, none⟩)), (1, .int .i64 a1), (6, .int .i64 0), (7, .int .i64 x7l0), (8, .int .i64 (IntKind.i64.wrap (x8l0 + 1)))]) [0, 1, 6, 7, 8] (by kernel_rfl) ?_
      exact NN.round' [0, 1, 6, 7, 8] (bs' := []) (Nat.lt_succ_self _) (List.Sublist.refl _) (by kernel_rfl) ⟨x7l0, IntKind.i64.wrap (x8l0 + 1), H, rfl, rfl⟩
  · rw [if_neg (of_decide_eq_false c267)] at H
    refine J.condF (b := decide (x8l0 < x266)) c267 (by kernel_rfl) (by kernel_rfl) ?_
    refine J.exit ?_
    refine NN.then_exit ?_
    refine NN.then_exit ?_
    refine NN.block_same ?_
    refine NN.then ?_
    refine J.seq ?_
    refine J.plain ?_
    refine LL.op (.int .i64 x7l0) (by kernel_rfl) (fun w _ => by kernel_rfl) ?_
    refine LL.op (.int .i64 x7l0) (by kernel_rfl) (fun w _ => by kernel_rfl) ?_
    refine LL.done (s' := [(6, .int .i64 x7l0)]) [6] (by kernel_rfl) ?_
    refine NN.then ?_
    refine J.ret ?_
    refine NN.fin1 6 (.int .i64 x7l0) (by kernel_rfl) (by kernel_rfl) (.inl rfl) (fun w hi => hi.ret ?_)
    first | (cases H; rfl) | (obtain rfl := Option.some.inj H; rfl) | (simp only [Option.some.injEq, Prod.mk.injEq] at H; obtain ⟨rfl⟩ := H; rfl)

/-! ### assign_market_drop: function 44 -/
def assign_market_drop.l0 (K : Nat) (a0 : List (List E4)) (a0t : (Int → Option Int)) (a1 : Int) : Nat → Int → Option (Bool × (Int → Option Int))
  | 0, _ => none
  | k + 1, x7l0 => (assign_columns.f a0).bind fun x272 => (if x7l0 < x272 then ((assign_market_holder.f a0 a0t x7l0).bind fun x274 => (if x274 = a1 then (some (true, (del a0t x7l0))) else (assign_market_drop.l0 K a0 a0t a1 k (IntKind.i64.wrap (x7l0 + 1))))) else (some (false, a0t)))
def assign_market_drop.f (K : Nat) (a0 : List (List E4)) (a0t : (Int → Option Int)) (a1 : Int) (a2 : Int) : Option (Bool × (Int → Option Int)) := assign_market_drop.l0 K a0 a0t a1 K a2
set_option maxRecDepth 100000 in
theorem assign_market_drop.calls (K : Nat) (a0 : List (List E4)) (a0t : (Int → Option Int)) (a1 : Int) (a2 : Int) (ma0 ta0 : Nat) (Aa0 : Option Addr) (ca0 : Nat) (c : Cx) (rest : Bs) (r1 : Bool) (rT : (Int → Option Int)) (w : World) (ha0 : KRow2 c enc4 1 a0 Aa0) (hm : BlkAt c ma0 (cl [.slice Aa0 a0.length ca0, .map (some ta0)] 73)) (hi : Inv c ([(ta0, mpO eI a0t)] ++ rest) w) (h : assign_market_drop.f K a0 a0t a1 a2 = some (r1, rT)) :
    Calls Try.prog 44 #[.pointer (some ⟨ma0, 0, none⟩), .int .i64 a1, .int .i64 a2] w (fun e w_ => e = .returned (.bool r1) ∧ Inv c ([(ta0, mpO eI rT)] ++ rest) w_) := by
  have H := h
  clear h
  unfold assign_market_drop.f at H
  refine Go.Saw.callsI (args := [.pointer (some ⟨ma0, 0, none⟩), .int .i64 a1, .int .i64 a2]) hi Try.func44 rfl Try.ntmps44 (by kernel_rfl) ?_
  clear hi
  refine J.seq ?_
  refine J.plain ?_
  refine LL.op (.bool false) (by kernel_rfl) (fun w _ => by kernel_rfl) ?_
  refine LL.done (s' := [(0, .pointer (some ⟨ma0, 0, none⟩)), (1, .int .i64 a1), (2, .int .i64 a2), (6, .bool false)]) [0, 1, 2, 6] (by kernel_rfl) ?_
  refine NN.then ?_
  refine J.seq ?_
  refine J.seq ?_
  refine J.plain ?_
  refine LL.op (.int .i64 a2) (by kernel_rfl) (fun w _ => by kernel_rfl) ?_
  refine LL.op (.int .i64 a2) (by kernel_rfl) (fun w _ => by kernel_rfl) ?_
  refine LL.done (s' := [(0, .pointer (some ⟨ma0, 0, none⟩)), (1, .int .i64 a1), (6, .bool false), (7, .int .i64 a2)]) [0, 1, 6, 7] (by kernel_rfl) ?_
  refine NN.then ?_
  refine J.block ?_
  refine J.to [0, 1, 6, 7] (s' := [(0, .pointer (some ⟨ma0, 0, none⟩)), (1, .int .i64 a1), (6, .bool false), (7, .int .i64 a2)]) (by kernel_rfl) ?_
  refine J.loop (fun n_ s_ bs_ => ∃ (x7l0 : Int), assign_market_drop.l0 K a0 a0t a1 n_ x7l0 = some (r1, rT) ∧ s_ = [(0, .pointer (some ⟨ma0, 0, none⟩)), (1, .int .i64 a1), (6, .bool false), (7, .int .i64 x7l0)] ∧ [(ta0, mpO eI a0t)] ++ rest = bs_) K ⟨a2, H, rfl, rfl⟩ ?_
  rintro (_ | n_) s_ bs_ ⟨x7l0, H, rfl, rfl⟩
  · exact absurd H (by simp [assign_market_drop.l0])
  simp only [assign_market_drop.l0] at H
  refine J.seq ?_
  refine J.seq ?_
  refine J.plain ?_
  refine LL.op (.int .i64 x7l0) (by kernel_rfl) (fun w _ => by kernel_rfl) ?_
  refine LL.op (.pointer (some ⟨ma0, 0, none⟩)) (by kernel_rfl) (fun w _ => by kernel_rfl) ?_
  refine LL.op (.pointer (some ⟨ma0, 0, none⟩)) (by kernel_rfl) (fun w _ => by kernel_rfl) ?_
  refine LL.op (.pointer (some ⟨ma0, 0, none⟩)) (by kernel_rfl) (fun w _ => by kernel_rfl) ?_
  refine LL.op (.slice Aa0 a0.length ca0) (by kernel_rfl) (ldB (off := 0) rfl (by kernel_rfl) hm (by kernel_rfl)) ?_
  obtain ⟨x272, hx272, H⟩ := bind_some H
  refine LL.call 33 #[.slice Aa0 a0.length ca0] (.int .i64 x272) (by kernel_rfl) (fun w => by kernel_rfl) (fun w hw => assign_columns.calls a0  _ _ _ w  (ha0.at hw) hx272) ?_
  refine LL.op (.bool (decide (x7l0 < x272))) (by kernel_rfl) (fun w _ => by kernel_rfl) ?_
  refine LL.done (s' := [(0, .pointer (some ⟨ma0, 0, none⟩)), (1, .int .i64 a1), (6, .bool false), (7, .int .i64 x7l0), (15, .bool (decide (x7l0 < x272)))]) [0, 1, 6, 7, 15] (by kernel_rfl) ?_
  refine NN.then ?_
  rcases Bool.eq_false_or_eq_true (decide (x7l0 < x272)) with c273 | c273
  · rw [if_pos (of_decide_eq_true c273)] at H
    refine J.condT (b := decide (x7l0 < x272)) c273 (by kernel_rfl) (by kernel_rfl) ?_
    refine J.skip ?_
    refine NN.then ?_
    refine J.seq ?_
    refine J.block ?_
    refine J.seq ?_
    refine J.plain ?_
    refine LL.op (.pointer (some ⟨ma0, 0, none⟩)) (by kernel_rfl) (fun w _ => by kernel_rfl) ?_
    refine LL.op (.int .i64 x7l0) (by kernel_rfl) (fun w _ => by kernel_rfl) ?_
    obtain ⟨x274, hx274, H⟩ := bind_some H
    refine LL.call 34 #[.pointer (some ⟨ma0, 0, none⟩), .int .i64 x7l0] (.int .i64 x274) (by kernel_rfl) (fun w => by kernel_rfl) (fun w hw => assign_market_holder.calls a0 a0t x7l0 ma0 ta0 Aa0 ca0 _ w (ha0.at hw) (hm.at hw) (hw.blkAt (i := 0) rfl) hx274) ?_
    refine LL.op (.int .i64 a1) (by kernel_rfl) (fun w _ => by kernel_rfl) ?_
    refine LL.op (.bool (x274 == a1)) (by kernel_rfl) (fun w _ => by kernel_rfl) ?_
    refine LL.done (s' := [(0, .pointer (some ⟨ma0, 0, none⟩)), (1, .int .i64 a1), (6, .bool false), (7, .int .i64 x7l0), (22, .bool (x274 == a1))]) [0, 1, 6, 7, 22] (by kernel_rfl) ?_
    refine NN.then ?_
    rcases Bool.eq_false_or_eq_true ((x274 == a1)) with c275 | c275
    · rw [if_pos (eq_of_beq c275)] at H
      refine J.condT (b := (x274 == a1)) c275 (by kernel_rfl) (by kernel_rfl) ?_
      refine J.seq ?_
      refine J.plain ?_
      refine LL.op (.pointer (some ⟨ma0, 0, none⟩)) (by kernel_rfl) (fun w _ => by kernel_rfl) ?_
      refine LL.op (.pointer (some ⟨ma0, 0, none⟩)) (by kernel_rfl) (fun w _ => by kernel_rfl) ?_
      refine LL.op (.pointer (some ⟨ma0, 1, none⟩)) (by kernel_rfl) (fun w _ => by kernel_rfl) ?_
      refine LL.op (.map (some ta0)) (by kernel_rfl) (ldB (off := 1) rfl (by kernel_rfl) hm (by kernel_rfl)) ?_
      refine LL.op (.int .i64 x7l0) (by kernel_rfl) (fun w _ => by kernel_rfl) ?_
      refine LL.delete (T := a0t) (bs' := [(ta0, mpO eI (del a0t x7l0))] ++ rest) 0 ta0 rfl mapI (by kernel_rfl) rfl (by kernel_rfl) (by kernel_rfl) rfl ?_
      refine LL.done (s' := [(0, .pointer (some ⟨ma0, 0, none⟩)), (1, .int .i64 a1), (6, .bool false), (7, .int .i64 x7l0)]) [0, 1, 6, 7] (by kernel_rfl) ?_
      refine NN.then ?_
      refine J.seq ?_
      refine J.plain ?_
      refine LL.op (.bool true) (by kernel_rfl) (fun w _ => by kernel_rfl) ?_
      refine LL.done (s' := [(0, .pointer (some ⟨ma0, 0, none⟩)), (1, .int .i64 a1), (6, .bool true), (7, .int .i64 x7l0)]) [0, 1, 6, 7] (by kernel_rfl) ?_
      refine NN.then ?_
      refine J.ret ?_
      refine NN.block_ret ?_
      refine NN.then_ret ?_
      refine NN.then_ret ?_
      refine NN.block_ret ?_
      refine NN.then_ret ?_
      simp only [Option.some.injEq, Prod.mk.injEq] at H; obtain ⟨rfl, rfl⟩ := H
      exact NN.fin1 6 (.bool true) (by kernel_rfl) (by kernel_rfl) (.inl rfl) (fun w hi => ⟨rfl, hi⟩)
    · rw [if_neg (nebf c275)] at H
      refine J.condF (b := (x274 == a1)) c275 (by kernel_rfl) (by kernel_rfl) ?_
      refine J.skip ?_
      refine NN.block_n ?_
      refine NN.then ?_
      refine J.plain ?_
      refine LL.op (.int .i64 x7l0) (by kernel_rfl) (fun w _ => by kernel_rfl) ?_
      refine LL.op (.int .i64 (IntKind.i64.wrap (x7l0 + 1))) (by kernel_rfl) (fun w _ => by kernel_rfl) ?_
      refine LL.op (.int .i64 (IntKind.i64.wrap (x7l0 + 1))) (by kernel_rfl) (fun w _ => by kernel_rfl) ?_
      refine LL.done (s' := [(0, .pointer (some ⟨ma0, 0, none⟩)), (1, .int .i64 a1), (6, .bool false), (7, .int .i64 (IntKind.i64.wrap (x7l0 + 1)))]) [0, 1, 6, 7] (by kernel_rfl) ?_
      exact NN.round' [0, 1, 6, 7] (bs' := [(ta0, mpO eI a0t)] ++ rest) (Nat.lt_succ_self _) ((List.Sublist.refl _).append_right _) (by kernel_rfl) ⟨IntKind.i64.wrap (x7l0 + 1), H, rfl, rfl⟩
  · rw [if_neg (of_decide_eq_false c273)] at H
    refine J.condF (b := decide (x7l0 < x272)) c273 (by kernel_rfl) (by kernel_rfl) ?_
    refine J.exit ?_
    refine NN.then_exit ?_
    refine NN.then_exit ?_
    refine NN.block_same ?_
    refine NN.then ?_
    refine J.seq ?_
    refine J.plain ?_
    refine LL.op (.bool false) (by kernel_rfl) (fun w _ => by kernel_rfl) ?_
    refine LL.done (s' := [(6, .bool false)]) [6] (by kernel_rfl) ?_
    refine NN.then ?_
    refine J.ret ?_
    simp only [Option.some.injEq, Prod.mk.injEq] at H; obtain ⟨rfl, rfl⟩ := H
    exact NN.fin1 6 (.bool false) (by kernel_rfl) (by kernel_rfl) (.inl rfl) (fun w hi => ⟨rfl, hi⟩)

/-! ### assign_market_find: function 42 -/
def assign_market_find.l0 (K : Nat) (a0 : List (List E4)) (a1 : Int) (a2 : Int) (a3 : Int) (rec_ : (List (List E4)) → (Int → Option Int) → Int → Int → Int → (Int → Option Bool) → Option (Bool × (Int → Option Bool) × (Int → Option Int))) : Nat → Int → (Int → Option Bool) → (Int → Option Int) → Option (Bool × (Int → Option Bool) × (Int → Option Int))
  | 0, _, _, _ => none
  | k + 1, x11l0, zta4l0, zta0l0 => (assign_columns.f a0).bind fun x278 => (if x11l0 < x278 then ((idx a0 a1).bind fun e280 => ((idx e280 x11l0).bind fun e286 => (if e286 = true then (if ((zta4l0 x11l0).getD false) = true then (assign_market_find.l0 K a0 a1 a2 a3 rec_ k (IntKind.i64.wrap (x11l0 + 1)) zta4l0 zta0l0) else ((assign_market_holder.f a0 zta0l0 x11l0).bind fun x289 => (if x289 = a1 then (assign_market_find.l0 K a0 a1 a2 a3 rec_ k (IntKind.i64.wrap (x11l0 + 1)) (upd zta4l0 x11l0 true) zta0l0) else (if x289 = (-1) then (some (true, (upd zta4l0 x11l0 true), (upd zta0l0 x11l0 a1))) else (if x289 = a3 then (some (true, (upd zta4l0 x11l0 true), (upd zta0l0 x11l0 a1))) else ((rec_ a0 zta0l0 x289 a2 a3 (upd zta4l0 x11l0 true)).bind fun bx293 => (if bx293.1 = true then (some (true, bx293.2.1, (upd bx293.2.2 x11l0 a1))) else (assign_market_find.l0 K a0 a1 a2 a3 rec_ k (IntKind.i64.wrap (x11l0 + 1)) bx293.2.1 bx293.2.2)))))))) else (assign_market_find.l0 K a0 a1 a2 a3 rec_ k (IntKind.i64.wrap (x11l0 + 1)) zta4l0 zta0l0)))) else (some (false, zta4l0, zta0l0)))
def assign_market_find.g (K : Nat) (rec_ : (List (List E4)) → (Int → Option Int) → Int → Int → Int → (Int → Option Bool) → Option (Bool × (Int → Option Bool) × (Int → Option Int))) (a0 : List (List E4)) (a0t : (Int → Option Int)) (a1 : Int) (a2 : Int) (a3 : Int) (a4t : (Int → Option Bool)) : Option (Bool × (Int → Option Bool) × (Int → Option Int)) := assign_market_find.l0 K a0 a1 a2 a3 rec_ K a2 a4t a0t
def assign_market_find.f : Nat → (List (List E4)) → (Int → Option Int) → Int → Int → Int → (Int → Option Bool) → Option (Bool × (Int → Option Bool) × (Int → Option Int))
  | 0, _, _, _, _, _, _ => none
  | K + 1, a0, a0t, a1, a2, a3, a4t => assign_market_find.g K (assign_market_find.f K) a0 a0t a1 a2 a3 a4t
set_option maxRecDepth 100000 in
theorem assign_market_find.calls : ∀ (K : Nat) (a0 : List (List E4)) (a0t : (Int → Option Int)) (a1 : Int) (a2 : Int) (a3 : Int) (a4t : (Int → Option Bool)) (ma0 ta0 : Nat) (Aa0 : Option Addr) (ca0 : Nat) (ta4 : Nat) (c : Cx) (rest : Bs) (r1 : Bool) (rS : (Int → Option Bool)) (rT : (Int → Option Int)) (w : World) (ha0 : KRow2 c enc4 1 a0 Aa0) (hm : BlkAt c ma0 (cl [.slice Aa0 a0.length ca0, .map (some ta0)] 73)) (hi : Inv c ([(ta4, mpO eB a4t), (ta0, mpO eI a0t)] ++ rest) w) (h : assign_market_find.f K a0 a0t a1 a2 a3 a4t = some (r1, rS, rT)),
    Calls Try.prog 42 #[.pointer (some ⟨ma0, 0, none⟩), .int .i64 a1, .int .i64 a2, .int .i64 a3, .map (some ta4)] w (fun e w_ => e = .returned (.bool r1) ∧ Inv c ([(ta4, mpO eB rS), (ta0, mpO eI rT)] ++ rest) w_) := by
  intro K
  induction K with
  | zero =>
    intro a0 a0t a1 a2 a3 a4t ma0 ta0 Aa0 ca0 ta4 c rest r1 rS rT w ha0 hm hi h
    exact absurd h (by simp [assign_market_find.f])
  | succ K ih =>
    intro a0 a0t a1 a2 a3 a4t ma0 ta0 Aa0 ca0 ta4 c rest r1 rS rT w ha0 hm hi h
    have H : assign_market_find.g K (assign_market_find.f K) a0 a0t a1 a2 a3 a4t = some (r1, rS, rT) := h
    clear h
    unfold assign_market_find.g at H
    refine Go.Saw.callsI (args := [.pointer (some ⟨ma0, 0, none⟩), .int .i64 a1, .int .i64 a2, .int .i64 a3, .map (some ta4)]) hi Try.func42 rfl Try.ntmps42 (by kernel_rfl) ?_
    clear hi
    refine J.seq ?_
    refine J.plain ?_
    refine LL.op (.bool false) (by kernel_rfl) (fun w _ => by kernel_rfl) ?_
    refine LL.done (s' := [(0, .pointer (some ⟨ma0, 0, none⟩)), (1, .int .i64 a1), (2, .int .i64 a2), (3, .int .i64 a3), (4, .map (some ta4)), (10, .bool false)]) [0, 1, 2, 3, 4, 10] (by kernel_rfl) ?_
    refine NN.then ?_
    refine J.seq ?_
    refine J.seq ?_
    refine J.plain ?_
    refine LL.op (.int .i64 a2) (by kernel_rfl) (fun w _ => by kernel_rfl) ?_
    refine LL.op (.int .i64 a2) (by kernel_rfl) (fun w _ => by kernel_rfl) ?_
    refine LL.done (s' := [(0, .pointer (some ⟨ma0, 0, none⟩)), (1, .int .i64 a1), (2, .int .i64 a2), (3, .int .i64 a3), (4, .map (some ta4)), (10, .bool false), (11, .int .i64 a2)]) [0, 1, 2, 3, 4, 10, 11] (by kernel_rfl) ?_
    refine NN.then ?_
    refine J.block ?_
    refine J.to [0, 1, 2, 3, 4, 10, 11] (s' := [(0, .pointer (some ⟨ma0, 0, none⟩)), (1, .int .i64 a1), (2, .int .i64 a2), (3, .int .i64 a3), (4, .map (some ta4)), (10, .bool false), (11, .int .i64 a2)]) (by kernel_rfl) ?_
    refine J.loop (fun n_ s_ bs_ => ∃ (x11l0 : Int) (zta4l0 : (Int → Option Bool)) (zta0l0 : (Int → Option Int)), assign_market_find.l0 K a0 a1 a2 a3 (assign_market_find.f K) n_ x11l0 zta4l0 zta0l0 = some (r1, rS, rT) ∧ s_ = [(0, .pointer (some ⟨ma0, 0, none⟩)), (1, .int .i64 a1), (2, .int .i64 a2), (3, .int .i64 a3), (4, .map (some ta4)), (10, .bool false), (11, .int .i64 x11l0)] ∧ [(ta4, mpO eB zta4l0), (ta0, mpO eI zta0l0)] ++ rest = bs_) K ⟨a2, a4t, a0t, H, rfl, rfl⟩ ?_
    rintro (_ | n_) s_ bs_ ⟨x11l0, zta4l0, zta0l0, H, rfl, rfl⟩
    · exact absurd H (by simp [assign_market_find.l0])
    simp only [assign_market_find.l0] at H
    refine J.seq ?_
    refine J.seq ?_
    refine J.plain ?_
    refine LL.op (.int .i64 x11l0) (by kernel_rfl) (fun w _ => by kernel_rfl) ?_
    refine LL.op (.pointer (some ⟨ma0, 0, none⟩)) (by kernel_rfl) (fun w _ => by kernel_rfl) ?_
    refine LL.op (.pointer (some ⟨ma0, 0, none⟩)) (by kernel_rfl) (fun w _ => by kernel_rfl) ?_
    refine LL.op (.pointer (some ⟨ma0, 0, none⟩)) (by kernel_rfl) (fun w _ => by kernel_rfl) ?_
    refine LL.op (.slice Aa0 a0.length ca0) (by kernel_rfl) (ldB (off := 0) rfl (by kernel_rfl) hm (by kernel_rfl)) ?_
    obtain ⟨x278, hx278, H⟩ := bind_some H
    refine LL.call 33 #[.slice Aa0 a0.length ca0] (.int .i64 x278) (by kernel_rfl) (fun w => by kernel_rfl) (fun w hw => assign_columns.calls a0  _ _ _ w  (ha0.at hw) hx278) ?_
    refine LL.op (.bool (decide (x11l0 < x278))) (by kernel_rfl) (fun w _ => by kernel_rfl) ?_
    refine LL.done (s' := [(0, .pointer (some ⟨ma0, 0, none⟩)), (1, .int .i64 a1), (2, .int .i64 a2), (3, .int .i64 a3), (4, .map (some ta4)), (10, .bool false), (11, .int .i64 x11l0), (20, .bool (decide (x11l0 < x278)))]) [0, 1, 2, 3, 4, 10, 11, 20] (by kernel_rfl) ?_
    refine NN.then ?_
    rcases Bool.eq_false_or_eq_true (decide (x11l0 < x278)) with c279 | c279
    · rw [if_pos (of_decide_eq_true c279)] at H
      refine J.condT (b := decide (x11l0 < x278)) c279 (by kernel_rfl) (by kernel_rfl) ?_
      refine J.skip ?_
      refine NN.then ?_
      refine J.seq ?_
      refine J.block ?_
      refine J.seq ?_
      refine J.seq ?_
      refine J.plain ?_
      refine LL.op (.pointer (some ⟨ma0, 0, none⟩)) (by kernel_rfl) (fun w _ => by kernel_rfl) ?_
      refine LL.op (.pointer (some ⟨ma0, 0, none⟩)) (by kernel_rfl) (fun w _ => by kernel_rfl) ?_
      refine LL.op (.pointer (some ⟨ma0, 0, none⟩)) (by kernel_rfl) (fun w _ => by kernel_rfl) ?_
      refine LL.op (.slice Aa0 a0.length ca0) (by kernel_rfl) (ldB (off := 0) rfl (by kernel_rfl) hm (by kernel_rfl)) ?_
      refine LL.op (.int .i64 a1) (by kernel_rfl) (fun w _ => by kernel_rfl) ?_
      obtain ⟨e280, he280, H⟩ := bind_some H
      refine LL.op (.pointer (rp Aa0 (a1.toNat * 1 + 0))) (by kernel_rfl) (idx2 (cp := ca0) (ik := .i64) ha0 he280 rfl (by kernel_rfl) (by kernel_rfl) (by kernel_rfl)) ?_
      obtain ⟨A281, c282, k283, ld284⟩ := KRow2.row ha0 he280
      refine LL.op (.slice A281 e280.length c282) (by kernel_rfl) (ld284 rfl (by kernel_rfl) (by kernel_rfl)) ?_
      refine LL.op (.int .i64 x11l0) (by kernel_rfl) (fun w _ => by kernel_rfl) ?_
      obtain ⟨e286, he286, H⟩ := bind_some H
      refine LL.op (.pointer (rp A281 (x11l0.toNat * 1 + 0))) (by kernel_rfl) (idxR (cp := c282) (ik := .i64) k283 he286 rfl (by kernel_rfl) (by kernel_rfl) (by kernel_rfl)) ?_
      refine LL.op (.bool e286) (by kernel_rfl) (ldR (off := 0) k283 he286 rfl (by kernel_rfl) (by kernel_rfl)) ?_
      refine LL.op (.bool (!e286)) (by kernel_rfl) (fun w _ => by kernel_rfl) ?_
      refine LL.op (.bool (!e286)) (by kernel_rfl) (fun w _ => by kernel_rfl) ?_
      rcases Bool.eq_false_or_eq_true (e286) with c287 | c287
      · rw [if_pos (c287)] at H
        refine LL.bool 34 (!e286) false (by rw [show (!e286) = !(e286) from rfl, c287]; rfl) (by kernel_rfl) ?_
        refine LL.op (.map (some ta4)) (by kernel_rfl) (fun w _ => by kernel_rfl) ?_
        refine LL.op (.int .i64 x11l0) (by kernel_rfl) (fun w _ => by kernel_rfl) ?_
        refine LL.op (.bool ((zta4l0 x11l0).getD false)) (by kernel_rfl) (lkO (T := zta4l0) 0 ta4 mapB rfl (by kernel_rfl) (by kernel_rfl) rfl (by cases zta4l0 x11l0 <;> rfl)) ?_
        refine LL.op (.bool ((zta4l0 x11l0).getD false)) (by kernel_rfl) (fun w _ => by kernel_rfl) ?_
        refine LL.done (s' := [(0, .pointer (some ⟨ma0, 0, none⟩)), (1, .int .i64 a1), (2, .int .i64 a2), (3, .int .i64 a3), (4, .map (some ta4)), (10, .bool false), (11, .int .i64 x11l0), (38, .bool ((zta4l0 x11l0).getD false))]) [0, 1, 2, 3, 4, 10, 11, 38] (by kernel_rfl) ?_
        refine NN.then ?_
        rcases Bool.eq_false_or_eq_true (((zta4l0 x11l0).getD false)) with c288 | c288
        · rw [if_pos (c288)] at H
          refine J.condT (b := ((zta4l0 x11l0).getD false)) c288 (by kernel_rfl) (by kernel_rfl) ?_
          refine J.exit ?_
          refine NN.then_exit ?_
          refine NN.block_same ?_
          refine NN.then ?_
          refine J.plain ?_
          refine LL.op (.int .i64 x11l0) (by kernel_rfl) (fun w _ => by kernel_rfl) ?_
          refine LL.op (.int .i64 (IntKind.i64.wrap (x11l0 + 1))) (by kernel_rfl) (fun w _ => by kernel_rfl) ?_
          refine LL.op (.int .i64 (IntKind.i64.wrap (x11l0 + 1))) (by kernel_rfl) (fun w _ => by kernel_rfl) ?_
          refine LL.done (s' := [(0, .pointer (some ⟨ma0, 0, none⟩)), (1, .int .i64 a1), (2, .int .i64 a2), (3, .int .i64 a3), (4, .map (some ta4)), (10, .bool false), (11, .int .i64 (IntKind.i64.wrap (x11l0 + 1)))]) [0, 1, 2, 3, 4, 10, 11] (by kernel_rfl) ?_
          exact NN.round' [0, 1, 2, 3, 4, 10, 11] (bs' := [(ta4, mpO eB zta4l0), (ta0, mpO eI zta0l0)] ++ rest) (Nat.lt_succ_self _) ((List.Sublist.refl _).append_right _) (by kernel_rfl) ⟨IntKind.i64.wrap (x11l0 + 1), zta4l0, zta0l0, H, rfl, rfl⟩
        · rw [if_neg (nebt c288)] at H
          refine J.condF (b := ((zta4l0 x11l0).getD false)) c288 (by kernel_rfl) (by kernel_rfl) ?_
          refine J.skip ?_
          refine NN.then ?_
          refine J.seq ?_
          refine J.plain ?_
          refine LL.op (.map (some ta4)) (by kernel_rfl) (fun w _ => by kernel_rfl) ?_
          refine LL.op (.int .i64 x11l0) (by kernel_rfl) (fun w _ => by kernel_rfl) ?_
          refine LL.mapUpdate (T := zta4l0) (bs' := [(ta4, mpO eB (upd zta4l0 x11l0 true)), (ta0, mpO eI zta0l0)] ++ rest) 0 ta4 true rfl mapB (by kernel_rfl) rfl (by kernel_rfl) (by kernel_rfl) (by kernel_rfl) rfl ?_
          refine LL.done (s' := [(0, .pointer (some ⟨ma0, 0, none⟩)), (1, .int .i64 a1), (2, .int .i64 a2), (3, .int .i64 a3), (4, .map (some ta4)), (10, .bool false), (11, .int .i64 x11l0)]) [0, 1, 2, 3, 4, 10, 11] (by kernel_rfl) ?_
          refine NN.then ?_
          refine J.seq ?_
          refine J.plain ?_
          refine LL.op (.pointer (some ⟨ma0, 0, none⟩)) (by kernel_rfl) (fun w _ => by kernel_rfl) ?_
          refine LL.op (.int .i64 x11l0) (by kernel_rfl) (fun w _ => by kernel_rfl) ?_
          obtain ⟨x289, hx289, H⟩ := bind_some H
          refine LL.call 34 #[.pointer (some ⟨ma0, 0, none⟩), .int .i64 x11l0] (.int .i64 x289) (by kernel_rfl) (fun w => by kernel_rfl) (fun w hw => assign_market_holder.calls a0 zta0l0 x11l0 ma0 ta0 Aa0 ca0 _ w (ha0.at hw) (hm.at hw) (hw.blkAt (i := 1) rfl) hx289) ?_
          refine LL.op (.int .i64 x289) (by kernel_rfl) (fun w _ => by kernel_rfl) ?_
          refine LL.done (s' := [(0, .pointer (some ⟨ma0, 0, none⟩)), (1, .int .i64 a1), (2, .int .i64 a2), (3, .int .i64 a3), (4, .map (some ta4)), (10, .bool false), (11, .int .i64 x11l0), (12, .int .i64 x289)]) [0, 1, 2, 3, 4, 10, 11, 12] (by kernel_rfl) ?_
          refine NN.then ?_
          refine J.seq ?_
          refine J.seq ?_
          refine J.plain ?_
          refine LL.op (.int .i64 x289) (by kernel_rfl) (fun w _ => by kernel_rfl) ?_
          refine LL.op (.int .i64 a1) (by kernel_rfl) (fun w _ => by kernel_rfl) ?_
          refine LL.op (.bool (x289 == a1)) (by kernel_rfl) (fun w _ => by kernel_rfl) ?_
          refine LL.done (s' := [(0, .pointer (some ⟨ma0, 0, none⟩)), (1, .int .i64 a1), (2, .int .i64 a2), (3, .int .i64 a3), (4, .map (some ta4)), (10, .bool false), (11, .int .i64 x11l0), (12, .int .i64 x289), (46, .bool (x289 == a1))]) [0, 1, 2, 3, 4, 10, 11, 12, 46] (by kernel_rfl) ?_
          refine NN.then ?_
          rcases Bool.eq_false_or_eq_true ((x289 == a1)) with c290 | c290
          · rw [if_pos (eq_of_beq c290)] at H
            refine J.condT (b := (x289 == a1)) c290 (by kernel_rfl) (by kernel_rfl) ?_
            refine J.exit ?_
            refine NN.then_exit ?_
            refine NN.block_same ?_
            refine NN.then ?_
            refine J.plain ?_
            refine LL.op (.int .i64 x11l0) (by kernel_rfl) (fun w _ => by kernel_rfl) ?_
            refine LL.op (.int .i64 (IntKind.i64.wrap (x11l0 + 1))) (by kernel_rfl) (fun w _ => by kernel_rfl) ?_
            refine LL.op (.int .i64 (IntKind.i64.wrap (x11l0 + 1))) (by kernel_rfl) (fun w _ => by kernel_rfl) ?_
            refine LL.done (s' := [(0, .pointer (some ⟨ma0, 0, none⟩)), (1, .int .i64 a1), (2, .int .i64 a2), (3, .int .i64 a3), (4, .map (some ta4)), (10, .bool false), (11, .int .i64 (IntKind.i64.wrap (x11l0 + 1)))]) [0, 1, 2, 3, 4, 10, 11] (by kernel_rfl) ?_
            exact NN.round' [0, 1, 2, 3, 4, 10, 11] (bs' := [(ta4, mpO eB (upd zta4l0 x11l0 true)), (ta0, mpO eI zta0l0)] ++ rest) (Nat.lt_succ_self _) ((List.Sublist.refl _).append_right _) (by kernel_rfl) ⟨IntKind.i64.wrap (x11l0 + 1), (upd zta4l0 x11l0 true), zta0l0, H, rfl, rfl⟩
          · rw [if_neg (nebf c290)] at H
            refine J.condF (b := (x289 == a1)) c290 (by kernel_rfl) (by kernel_rfl) ?_
            refine J.skip ?_
            refine NN.then ?_
            refine J.seq ?_
            refine J.plain ?_
            refine LL.op (.int .i64 x289) (by kernel_rfl) (fun w _ => by kernel_rfl) ?_
            refine LL.op (.bool (x289 == (-1))) (by kernel_rfl) (fun w _ => by kernel_rfl) ?_
            refine LL.op (.bool (x289 == (-1))) (by kernel_rfl) (fun w _ => by kernel_rfl) ?_
            rcases Bool.eq_false_or_eq_true ((x289 == (-1))) with c291 | c291
            · rw [if_pos (eq_of_beq c291)] at H
              refine LL.bool 49 ((x289 == (-1))) true c291 (by kernel_rfl) ?_
              refine LL.off (by kernel_rfl) (by kernel_rfl) ?_
              refine LL.off (by kernel_rfl) (by kernel_rfl) ?_
              refine LL.off (by kernel_rfl) (by kernel_rfl) ?_
              refine LL.op (.bool true) (by kernel_rfl) (fun w _ => by kernel_rfl) ?_
              refine LL.op (.bool true) (by kernel_rfl) (fun w _ => by kernel_rfl) ?_
              refine LL.off (by kernel_rfl) (by kernel_rfl) ?_
              refine LL.off (by kernel_rfl) (by kernel_rfl) ?_
              refine LL.off (by kernel_rfl) (by kernel_rfl) ?_
              refine LL.off (by kernel_rfl) (by kernel_rfl) ?_
              refine LL.off (by kernel_rfl) (by kernel_rfl) ?_
              refine LL.off (by kernel_rfl) (by kernel_rfl) ?_
              refine LL.op (.bool true) (by kernel_rfl) (fun w _ => by kernel_rfl) ?_
              refine LL.done (s' := [(0, .pointer (some ⟨ma0, 0, none⟩)), (1, .int .i64 a1), (2, .int .i64 a2), (3, .int .i64 a3), (4, .map (some ta4)), (10, .bool false), (11, .int .i64 x11l0), (61, .bool true)]) [0, 1, 2, 3, 4, 10, 11, 61] (by kernel_rfl) ?_
              refine NN.then ?_
              refine J.condT (b := true) rfl (by kernel_rfl) (by kernel_rfl) ?_
              refine J.seq ?_
              refine J.plain ?_
              refine LL.op (.pointer (some ⟨ma0, 0, none⟩)) (by kernel_rfl) (fun w _ => by kernel_rfl) ?_
              refine LL.op (.pointer (some ⟨ma0, 0, none⟩)) (by kernel_rfl) (fun w _ => by kernel_rfl) ?_
              refine LL.op (.pointer (some ⟨ma0, 1, none⟩)) (by kernel_rfl) (fun w _ => by kernel_rfl) ?_
              refine LL.op (.map (some ta0)) (by kernel_rfl) (ldB (off := 1) rfl (by kernel_rfl) hm (by kernel_rfl)) ?_
              refine LL.op (.int .i64 x11l0) (by kernel_rfl) (fun w _ => by kernel_rfl) ?_
              refine LL.op (.int .i64 a1) (by kernel_rfl) (fun w _ => by kernel_rfl) ?_
              refine LL.mapUpdate (T := zta0l0) (bs' := [(ta4, mpO eB (upd zta4l0 x11l0 true)), (ta0, mpO eI (upd zta0l0 x11l0 a1))] ++ rest) 1 ta0 a1 rfl mapI (by kernel_rfl) rfl (by kernel_rfl) (by kernel_rfl) (by kernel_rfl) rfl ?_
              refine LL.done (s' := [(0, .pointer (some ⟨ma0, 0, none⟩)), (1, .int .i64 a1), (2, .int .i64 a2), (3, .int .i64 a3), (4, .map (some ta4)), (10, .bool false), (11, .int .i64 x11l0)]) [0, 1, 2, 3, 4, 10, 11] (by kernel_rfl) ?_
              refine NN.then ?_
              refine J.seq ?_
              refine J.plain ?_
              refine LL.op (.bool true) (by kernel_rfl) (fun w _ => by kernel_rfl) ?_
              refine LL.done (s' := [(0, .pointer (some ⟨ma0, 0, none⟩)), (1, .int .i64 a1), (2, .int .i64 a2), (3, .int .i64 a3), (4, .map (some ta4)), (10, .bool true), (11, .int .i64 x11l0)]) [0, 1, 2, 3, 4, 10, 11] (by kernel_rfl) ?_
              refine NN.then ?_
              refine J.ret ?_
              refine NN.block_ret ?_
              refine NN.then_ret ?_
              refine NN.then_ret ?_
              refine NN.block_ret ?_
              refine NN.then_ret ?_
              simp only [Option.some.injEq, Prod.mk.injEq] at H; obtain ⟨rfl, rfl, rfl⟩ := H
              exact NN.fin1 10 (.bool true) (by kernel_rfl) (by kernel_rfl) (.inl rfl) (fun w hi => ⟨rfl, hi⟩)
            · rw [if_neg (nebf c291)] at H
              refine LL.bool 49 ((x289 == (-1))) false c291 (by kernel_rfl) ?_
              refine LL.op (.int .i64 x289) (by kernel_rfl) (fun w _ => by kernel_rfl) ?_
              refine LL.op (.int .i64 a3) (by kernel_rfl) (fun w _ => by kernel_rfl) ?_
              refine LL.op (.bool (x289 == a3)) (by kernel_rfl) (fun w _ => by kernel_rfl) ?_
              refine LL.op (.bool (x289 == a3)) (by kernel_rfl) (fun w _ => by kernel_rfl) ?_
              refine LL.op (.bool (x289 == a3)) (by kernel_rfl) (fun w _ => by kernel_rfl) ?_
              rcases Bool.eq_false_or_eq_true ((x289 == a3)) with c292 | c292
              · rw [if_pos (eq_of_beq c292)] at H
                refine LL.bool 54 ((x289 == a3)) true c292 (by kernel_rfl) ?_
                refine LL.off (by kernel_rfl) (by kernel_rfl) ?_
                refine LL.off (by kernel_rfl) (by kernel_rfl) ?_
                refine LL.off (by kernel_rfl) (by kernel_rfl) ?_
                refine LL.off (by kernel_rfl) (by kernel_rfl) ?_
                refine LL.off (by kernel_rfl) (by kernel_rfl) ?_
                refine LL.off (by kernel_rfl) (by kernel_rfl) ?_
                refine LL.op (.bool true) (by kernel_rfl) (fun w _ => by kernel_rfl) ?_
                refine LL.done (s' := [(0, .pointer (some ⟨ma0, 0, none⟩)), (1, .int .i64 a1), (2, .int .i64 a2), (3, .int .i64 a3), (4, .map (some ta4)), (10, .bool false), (11, .int .i64 x11l0), (61, .bool true)]) [0, 1, 2, 3, 4, 10, 11, 61] (by kernel_rfl) ?_
                refine NN.then ?_
                refine J.condT (b := true) rfl (by kernel_rfl) (by kernel_rfl) ?_
                refine J.seq ?_
                refine J.plain ?_
                refine LL.op (.pointer (some ⟨ma0, 0, none⟩)) (by kernel_rfl) (fun w _ => by kernel_rfl) ?_
                refine LL.op (.pointer (some ⟨ma0, 0, none⟩)) (by kernel_rfl) (fun w _ => by kernel_rfl) ?_
                refine LL.op (.pointer (some ⟨ma0, 1, none⟩)) (by kernel_rfl) (fun w _ => by kernel_rfl) ?_
                refine LL.op (.map (some ta0)) (by kernel_rfl) (ldB (off := 1) rfl (by kernel_rfl) hm (by kernel_rfl)) ?_
                refine LL.op (.int .i64 x11l0) (by kernel_rfl) (fun w _ => by kernel_rfl) ?_
                refine LL.op (.int .i64 a1) (by kernel_rfl) (fun w _ => by kernel_rfl) ?_
                refine LL.mapUpdate (T := zta0l0) (bs' := [(ta4, mpO eB (upd zta4l0 x11l0 true)), (ta0, mpO eI (upd zta0l0 x11l0 a1))] ++ rest) 1 ta0 a1 rfl mapI (by kernel_rfl) rfl (by kernel_rfl) (by kernel_rfl) (by kernel_rfl) rfl ?_
                refine LL.done (s' := [(0, .pointer (some ⟨ma0, 0, none⟩)), (1, .int .i64 a1), (2, .int .i64 a2), (3, .int .i64 a3), (4, .map (some ta4)), (10, .bool false), (11, .int .i64 x11l0)]) [0, 1, 2, 3, 4, 10, 11] (by kernel_rfl) ?_
                refine NN.then ?_
                refine J.seq ?_
                refine J.plain ?_
                refine LL.op (.bool true) (by kernel_rfl) (fun w _ => by kernel_rfl) ?_
                refine LL.done (s' := [(0, .pointer (some ⟨ma0, 0, none⟩)), (1, .int .i64 a1), (2, .int .i64 a2), (3, .int .i64 a3), (4, .map (some ta4)), (10, .bool true), (11, .int .i64 x11l0)]) [0, 1, 2, 3, 4, 10, 11] (by kernel_rfl) ?_
                refine NN.then ?_
                refine J.ret ?_
                refine NN.block_ret ?_
                refine NN.then_ret ?_
                refine NN.then_ret ?_
                refine NN.block_ret ?_
                refine NN.then_ret ?_
                simp only [Option.some.injEq, Prod.mk.injEq] at H; obtain ⟨rfl, rfl, rfl⟩ := H
                exact NN.fin1 10 (.bool true) (by kernel_rfl) (by kernel_rfl) (.inl rfl) (fun w hi => ⟨rfl, hi⟩)
              · rw [if_neg (nebf c292)] at H
                refine LL.bool 54 ((x289 == a3)) false c292 (by kernel_rfl) ?_
                refine LL.op (.pointer (some ⟨ma0, 0, none⟩)) (by kernel_rfl) (fun w _ => by kernel_rfl) ?_
                refine LL.op (.int .i64 x289) (by kernel_rfl) (fun w _ => by kernel_rfl) ?_
                refine LL.op (.int .i64 a2) (by kernel_rfl) (fun w _ => by kernel_rfl) ?_
                refine LL.op (.int .i64 a3) (by kernel_rfl) (fun w _ => by kernel_rfl) ?_
                refine LL.op (.map (some ta4)) (by kernel_rfl) (fun w _ => by kernel_rfl) ?_
                obtain ⟨⟨x293_1, x293_2, x293_3⟩, hx293, H⟩ := bind_some H
                (try dsimp only at H)
                refine LL.callM 42 #[.pointer (some ⟨ma0, 0, none⟩), .int .i64 x289, .int .i64 a2, .int .i64 a3, .map (some ta4)] (.bool x293_1) ([(ta4, mpO eB x293_2), (ta0, mpO eI x293_3)] ++ rest) (by kernel_rfl) (fun w => by kernel_rfl) (fun w hw => ih a0 zta0l0 x289 a2 a3 (upd zta4l0 x11l0 true) ma0 ta0 Aa0 ca0 ta4 _ rest _ _ _ w ha0 hm hw hx293) ?_
                refine LL.op (.bool x293_1) (by kernel_rfl) (fun w _ => by kernel_rfl) ?_
                refine LL.done (s' := [(0, .pointer (some ⟨ma0, 0, none⟩)), (1, .int .i64 a1), (2, .int .i64 a2), (3, .int .i64 a3), (4, .map (some ta4)), (10, .bool false), (11, .int .i64 x11l0), (61, .bool x293_1)]) [0, 1, 2, 3, 4, 10, 11, 61] (by kernel_rfl) ?_
                refine NN.then ?_
                rcases Bool.eq_false_or_eq_true (x293_1) with c294 | c294
                · rw [if_pos (c294)] at H
                  refine J.condT (b := x293_1) c294 (by kernel_rfl) (by kernel_rfl) ?_
                  refine J.seq ?_
                  refine J.plain ?_
                  refine LL.op (.pointer (some ⟨ma0, 0, none⟩)) (by kernel_rfl) (fun w _ => by kernel_rfl) ?_
                  refine LL.op (.pointer (some ⟨ma0, 0, none⟩)) (by kernel_rfl) (fun w _ => by kernel_rfl) ?_
                  refine LL.op (.pointer (some ⟨ma0, 1, none⟩)) (by kernel_rfl) (fun w _ => by kernel_rfl) ?_
                  refine LL.op (.map (some ta0)) (by kernel_rfl) (ldB (off := 1) rfl (by kernel_rfl) hm (by kernel_rfl)) ?_
                  refine LL.op (.int .i64 x11l0) (by kernel_rfl) (fun w _ => by kernel_rfl) ?_
                  refine LL.op (.int .i64 a1) (by kernel_rfl) (fun w _ => by kernel_rfl) ?_
                  refine LL.mapUpdate (T := x293_3) (bs' := [(ta4, mpO eB x293_2), (ta0, mpO eI (upd x293_3 x11l0 a1))] ++ rest) 1 ta0 a1 rfl mapI (by kernel_rfl) rfl (by kernel_rfl) (by kernel_rfl) (by kernel_rfl) rfl ?_
                  refine LL.done (s' := [(0, .pointer (some ⟨ma0, 0, none⟩)), (1, .int .i64 a1), (2, .int .i64 a2), (3, .int .i64 a3), (4, .map (some ta4)), (10, .bool false), (11, .int .i64 x11l0)]) [0, 1, 2, 3, 4, 10, 11] (by kernel_rfl) ?_
                  refine NN.then ?_
                  refine J.seq ?_
                  refine J.plain ?_
                  refine LL.op (.bool true) (by kernel_rfl) (fun w _ => by kernel_rfl) ?_
                  refine LL.done (s' := [(0, .pointer (some ⟨ma0, 0, none⟩)), (1, .int .i64 a1), (2, .int .i64 a2), (3, .int .i64 a3), (4, .map (some ta4)), (10, .bool true), (11, .int .i64 x11l0)]) [0, 1, 2, 3, 4, 10, 11] (by kernel_rfl) ?_
                  refine NN.then ?_
                  refine J.ret ?_
                  refine NN.block_ret ?_
                  refine NN.then_ret ?_
                  refine NN.then_ret ?_
                  refine NN.block_ret ?_
                  refine NN.then_ret ?_
                  simp only [Option.some.injEq, Prod.mk.injEq] at H; obtain ⟨rfl, rfl, rfl⟩ := H
                  exact NN.fin1 10 (.bool true) (by kernel_rfl) (by kernel_rfl) (.inl rfl) (fun w hi => ⟨rfl, hi⟩)
                · rw [if_neg (nebt c294)] at H
                  refine J.condF (b := x293_1) c294 (by kernel_rfl) (by kernel_rfl) ?_
                  refine J.skip ?_
                  refine NN.block_n ?_
                  refine NN.then ?_
                  refine J.plain ?_
                  refine LL.op (.int .i64 x11l0) (by kernel_rfl) (fun w _ => by kernel_rfl) ?_
                  refine LL.op (.int .i64 (IntKind.i64.wrap (x11l0 + 1))) (by kernel_rfl) (fun w _ => by kernel_rfl) ?_
                  refine LL.op (.int .i64 (IntKind.i64.wrap (x11l0 + 1))) (by kernel_rfl) (fun w _ => by kernel_rfl) ?_
                  refine LL.done (s' := [(0, .pointer (some ⟨ma0, 0, none⟩)), (1, .int .i64 a1), (2, .int .i64 a2), (3, .int .i64 a3), (4, .map (some ta4)), (10, .bool false), (11, .int .i64 (IntKind.i64.wrap (x11l0 + 1)))]) [0, 1, 2, 3, 4, 10, 11] (by kernel_rfl) ?_
                  exact NN.round' [0, 1, 2, 3, 4, 10, 11] (bs' := [(ta4, mpO eB x293_2), (ta0, mpO eI x293_3)] ++ rest) (Nat.lt_succ_self _) ((List.Sublist.refl _).append_right _) (by kernel_rfl) ⟨IntKind.i64.wrap (x11l0 + 1), x293_2, x293_3, H, rfl, rfl⟩
      · rw [if_neg (nebt c287)] at H
        refine LL.bool 34 (!e286) true (by rw [show (!e286) = !(e286) from rfl, c287]; rfl) (by kernel_rfl) ?_
        refine LL.off (by kernel_rfl) (by kernel_rfl) ?_
        refine LL.off (by kernel_rfl) (by kernel_rfl) ?_
        refine LL.off (by kernel_rfl) (by kernel_rfl) ?_
        refine LL.op (.bool true) (by kernel_rfl) (fun w _ => by kernel_rfl) ?_
        refine LL.done (s' := [(0, .pointer (some ⟨ma0, 0, none⟩)), (1, .int .i64 a1), (2, .int .i64 a2), (3, .int .i64 a3), (4, .map (some ta4)), (10, .bool false), (11, .int .i64 x11l0), (38, .bool true)]) [0, 1, 2, 3, 4, 10, 11, 38] (by kernel_rfl) ?_
        refine NN.then ?_
        refine J.condT (b := true) rfl (by kernel_rfl) (by kernel_rfl) ?_
        refine J.exit ?_
        refine NN.then_exit ?_
        refine NN.block_same ?_
        refine NN.then ?_
        refine J.plain ?_
        refine LL.op (.int .i64 x11l0) (by kernel_rfl) (fun w _ => by kernel_rfl) ?_
        refine LL.op (.int .i64 (IntKind.i64.wrap (x11l0 + 1))) (by kernel_rfl) (fun w _ => by kernel_rfl) ?_
        refine LL.op (.int .i64 (IntKind.i64.wrap (x11l0 + 1))) (by kernel_rfl) (fun w _ => by kernel_rfl) ?_
        refine LL.done (s' := [(0, .pointer (some ⟨ma0, 0, none⟩)), (1, .int .i64 a1), (2, .int .i64 a2), (3, .int .i64 a3), (4, .map (some ta4)), (10, .bool false), (11, .int .i64 (IntKind.i64.wrap (x11l0 + 1)))]) [0, 1, 2, 3, 4, 10, 11] (by kernel_rfl) ?_
        exact NN.round' [0, 1, 2, 3, 4, 10, 11] (bs' := [(ta4, mpO eB zta4l0), (ta0, mpO eI zta0l0)] ++ rest) (Nat.lt_succ_self _) ((List.Sublist.refl _).append_right _) (by kernel_rfl) ⟨IntKind.i64.wrap (x11l0 + 1), zta4l0, zta0l0, H, rfl, rfl⟩
    · rw [if_neg (of_decide_eq_false c279)] at H
      refine J.condF (b := decide (x11l0 < x278)) c279 (by kernel_rfl) (by kernel_rfl) ?_
      refine J.exit ?_
      refine NN.then_exit ?_
      refine NN.then_exit ?_
      refine NN.block_same ?_
      refine NN.then ?_
      refine J.seq ?_
      refine J.plain ?_
      refine LL.op (.bool false) (by kernel_rfl) (fun w _ => by kernel_rfl) ?_
      refine LL.done (s' := [(10, .bool false)]) [10] (by kernel_rfl) ?_
      refine NN.then ?_
      refine J.ret ?_
      simp only [Option.some.injEq, Prod.mk.injEq] at H; obtain ⟨rfl, rfl, rfl⟩ := H
      exact NN.fin1 10 (.bool false) (by kernel_rfl) (by kernel_rfl) (.inl rfl) (fun w hi => ⟨rfl, hi⟩)

/-! ### assign_market_prefer: function 35 -/
def assign_market_prefer.f (K : Nat) (a0 : List (List E4)) (a0t : (Int → Option Int)) (a1 : Int) (a2 : Int) : Option (Bool × (Int → Option Int)) := (idx a0 a2).bind fun e295 => ((idx e295 a1).bind fun e301 => (if e301 = true then ((assign_market_holds.f K a0 a0t a2 (IntKind.i64.wrap (a1 + 1))).bind fun x303 => (if x303 = true then ((assign_market_holder.f a0 a0t a1).bind fun x305 => (if x305 = (-1) then ((assign_market_drop.f K a0 a0t a2 (IntKind.i64.wrap (a1 + 1))).bind fun bx307 => (some (true, (upd bx307.2 a1 a2)))) else ((assign_market_size.f K a0 a0t a2 (IntKind.i64.wrap (a1 + 1))).bind fun x308 => ((assign_market_find.f K a0 a0t x305 (IntKind.i64.wrap (a1 + 1)) a2 (fun _ => none)).bind fun bx310 => (if bx310.1 = true then ((assign_market_size.f K a0 bx310.2.2 a2 (IntKind.i64.wrap (a1 + 1))).bind fun x312 => (if x312 = x308 then ((assign_market_drop.f K a0 bx310.2.2 a2 (IntKind.i64.wrap (a1 + 1))).bind fun bx314 => (some (true, (upd bx314.2 a1 a2)))) else (some (true, (upd bx310.2.2 a1 a2))))) else (some (false, bx310.2.2))))))) else (some (false, a0t)))) else (some (false, a0t))))
set_option maxRecDepth 100000 in
theorem assign_market_prefer.calls (K : Nat) (a0 : List (List E4)) (a0t : (Int → Option Int)) (a1 : Int) (a2 : Int) (ma0 ta0 : Nat) (Aa0 : Option Addr) (ca0 : Nat) (c : Cx) (rest : Bs) (r1 : Bool) (rT : (Int → Option Int)) (w : World) (ha0 : KRow2 c enc4 1 a0 Aa0) (hm : BlkAt c ma0 (cl [.slice Aa0 a0.length ca0, .map (some ta0)] 73)) (hi : Inv c ([(ta0, mpO eI a0t)] ++ rest) w) (h : assign_market_prefer.f K a0 a0t a1 a2 = some (r1, rT)) :
    Calls Try.prog 35 #[.pointer (some ⟨ma0, 0, none⟩), .int .i64 a1, .int .i64 a2] w (fun e w_ => e = .returned (.bool r1) ∧ Inv c ([(ta0, mpO eI rT)] ++ rest) w_) := by
  have H := h
  clear h
  unfold assign_market_prefer.f at H
  refine Go.Saw.callsI (args := [.pointer (some ⟨ma0, 0, none⟩), .int .i64 a1, .int .i64 a2]) hi Try.func35 rfl Try.ntmps35 (by kernel_rfl) ?_
  clear hi
  refine J.seq ?_
  refine J.plain ?_
  refine LL.op (.bool false) (by kernel_rfl) (fun w _ => by kernel_rfl) ?_
  refine LL.done (s' := [(0, .pointer (some ⟨ma0, 0, none⟩)), (1, .int .i64 a1), (2, .int .i64 a2), (6, .bool false)]) [0, 1, 2, 6] (by kernel_rfl) ?_
  refine NN.then ?_
  refine J.seq ?_
  refine J.seq ?_
  refine J.plain ?_
  refine LL.op (.pointer (some ⟨ma0, 0, none⟩)) (by kernel_rfl) (fun w _ => by kernel_rfl) ?_
  refine LL.op (.pointer (some ⟨ma0, 0, none⟩)) (by kernel_rfl) (fun w _ => by kernel_rfl) ?_
  refine LL.op (.pointer (some ⟨ma0, 0, none⟩)) (by kernel_rfl) (fun w _ => by kernel_rfl) ?_
  refine LL.op (.slice Aa0 a0.length ca0) (by kernel_rfl) (ldB (off := 0) rfl (by kernel_rfl) hm (by kernel_rfl)) ?_
  refine LL.op (.int .i64 a2) (by kernel_rfl) (fun w _ => by kernel_rfl) ?_
  obtain ⟨e295, he295, H⟩ := bind_some H
  refine LL.op (.pointer (rp Aa0 (a2.toNat * 1 + 0))) (by kernel_rfl) (idx2 (cp := ca0) (ik := .i64) ha0 he295 rfl (by kernel_rfl) (by kernel_rfl) (by kernel_rfl)) ?_
  obtain ⟨A296, c297, k298, ld299⟩ := KRow2.row ha0 he295
  refine LL.op (.slice A296 e295.length c297) (by kernel_rfl) (ld299 rfl (by kernel_rfl) (by kernel_rfl)) ?_
  refine LL.op (.int .i64 a1) (by kernel_rfl) (fun w _ => by kernel_rfl) ?_
  obtain ⟨e301, he301, H⟩ := bind_some H
  refine LL.op (.pointer (rp A296 (a1.toNat * 1 + 0))) (by kernel_rfl) (idxR (cp := c297) (ik := .i64) k298 he301 rfl (by kernel_rfl) (by kernel_rfl) (by kernel_rfl)) ?_
  refine LL.op (.bool e301) (by kernel_rfl) (ldR (off := 0) k298 he301 rfl (by kernel_rfl) (by kernel_rfl)) ?_
  refine LL.op (.bool (!e301)) (by kernel_rfl) (fun w _ => by kernel_rfl) ?_
  refine LL.op (.bool (!e301)) (by kernel_rfl) (fun w _ => by kernel_rfl) ?_
  rcases Bool.eq_false_or_eq_true (e301) with c302 | c302
  · rw [if_pos (c302)] at H
    refine LL.bool 20 (!e301) false (by rw [show (!e301) = !(e301) from rfl, c302]; rfl) (by kernel_rfl) ?_
    refine LL.op (.pointer (some ⟨ma0, 0, none⟩)) (by kernel_rfl) (fun w _ => by kernel_rfl) ?_
    refine LL.op (.int .i64 a2) (by kernel_rfl) (fun w _ => by kernel_rfl) ?_
    refine LL.op (.int .i64 a1) (by kernel_rfl) (fun w _ => by kernel_rfl) ?_
    refine LL.op (.int .i64 (IntKind.i64.wrap (a1 + 1))) (by kernel_rfl) (fun w _ => by kernel_rfl) ?_
    obtain ⟨x303, hx303, H⟩ := bind_some H
    refine LL.call 43 #[.pointer (some ⟨ma0, 0, none⟩), .int .i64 a2, .int .i64 (IntKind.i64.wrap (a1 + 1))] (.bool x303) (by kernel_rfl) (fun w => by kernel_rfl) (fun w hw => assign_market_holds.calls K a0 a0t a2 (IntKind.i64.wrap (a1 + 1)) ma0 ta0 Aa0 ca0 _ w (ha0.at hw) (hm.at hw) (hw.blkAt (i := 0) rfl) hx303) ?_
    refine LL.op (.bool (!x303)) (by kernel_rfl) (fun w _ => by kernel_rfl) ?_
    refine LL.op (.bool (!x303)) (by kernel_rfl) (fun w _ => by kernel_rfl) ?_
    refine LL.done (s' := [(0, .pointer (some ⟨ma0, 0, none⟩)), (1, .int .i64 a1), (2, .int .i64 a2), (6, .bool false), (27, .bool (!x303))]) [0, 1, 2, 6, 27] (by kernel_rfl) ?_
    refine NN.then ?_
    rcases Bool.eq_false_or_eq_true (x303) with c304 | c304
    · rw [if_pos (c304)] at H
      refine J.condF (b := !x303) (by rw [show (!x303) = !(x303) from rfl, c304]; rfl) (by kernel_rfl) (by kernel_rfl) ?_
      refine J.skip ?_
      refine NN.then ?_
      refine J.seq ?_
      refine J.plain ?_
      refine LL.op (.pointer (some ⟨ma0, 0, none⟩)) (by kernel_rfl) (fun w _ => by kernel_rfl) ?_
      refine LL.op (.int .i64 a1) (by kernel_rfl) (fun w _ => by kernel_rfl) ?_
      obtain ⟨x305, hx305, H⟩ := bind_some H
      refine LL.call 34 #[.pointer (some ⟨ma0, 0, none⟩), .int .i64 a1] (.int .i64 x305) (by kernel_rfl) (fun w => by kernel_rfl) (fun w hw => assign_market_holder.calls a0 a0t a1 ma0 ta0 Aa0 ca0 _ w (ha0.at hw) (hm.at hw) (hw.blkAt (i := 0) rfl) hx305) ?_
      refine LL.op (.int .i64 x305) (by kernel_rfl) (fun w _ => by kernel_rfl) ?_
      refine LL.done (s' := [(0, .pointer (some ⟨ma0, 0, none⟩)), (1, .int .i64 a1), (2, .int .i64 a2), (6, .bool false), (7, .int .i64 x305)]) [0, 1, 2, 6, 7] (by kernel_rfl) ?_
      refine NN.then ?_
      refine J.seq ?_
      refine J.seq ?_
      refine J.plain ?_
      refine LL.op (.int .i64 x305) (by kernel_rfl) (fun w _ => by kernel_rfl) ?_
      refine LL.op (.bool (x305 == (-1))) (by kernel_rfl) (fun w _ => by kernel_rfl) ?_
      refine LL.done (s' := [(0, .pointer (some ⟨ma0, 0, none⟩)), (1, .int .i64 a1), (2, .int .i64 a2), (6, .bool false), (7, .int .i64 x305), (32, .bool (x305 == (-1)))]) [0, 1, 2, 6, 7, 32] (by kernel_rfl) ?_
      refine NN.then ?_
      rcases Bool.eq_false_or_eq_true ((x305 == (-1))) with c306 | c306
      · rw [if_pos (eq_of_beq c306)] at H
        refine J.condT (b := (x305 == (-1))) c306 (by kernel_rfl) (by kernel_rfl) ?_
        refine J.seq ?_
        refine J.plain ?_
        refine LL.op (.pointer (some ⟨ma0, 0, none⟩)) (by kernel_rfl) (fun w _ => by kernel_rfl) ?_
        refine LL.op (.int .i64 a2) (by kernel_rfl) (fun w _ => by kernel_rfl) ?_
        refine LL.op (.int .i64 a1) (by kernel_rfl) (fun w _ => by kernel_rfl) ?_
        refine LL.op (.int .i64 (IntKind.i64.wrap (a1 + 1))) (by kernel_rfl) (fun w _ => by kernel_rfl) ?_
        obtain ⟨⟨x307_1, x307_2⟩, hx307, H⟩ := bind_some H
        (try dsimp only at H)
        refine LL.callM 44 #[.pointer (some ⟨ma0, 0, none⟩), .int .i64 a2, .int .i64 (IntKind.i64.wrap (a1 + 1))] (.bool x307_1) ([(ta0, mpO eI x307_2)] ++ rest) (by kernel_rfl) (fun w => by kernel_rfl) (fun w hw => assign_market_drop.calls K a0 a0t a2 (IntKind.i64.wrap (a1 + 1)) ma0 ta0 Aa0 ca0 _ rest _ _ w ha0 hm hw hx307) ?_
        refine LL.done (s' := [(0, .pointer (some ⟨ma0, 0, none⟩)), (1, .int .i64 a1), (2, .int .i64 a2), (6, .bool false), (7, .int .i64 x305)]) [0, 1, 2, 6, 7] (by kernel_rfl) ?_
        refine NN.then ?_
        refine J.seq ?_
        refine J.plain ?_
        refine LL.op (.pointer (some ⟨ma0, 0, none⟩)) (by kernel_rfl) (fun w _ => by kernel_rfl) ?_
        refine LL.op (.pointer (some ⟨ma0, 0, none⟩)) (by kernel_rfl) (fun w _ => by kernel_rfl) ?_
        refine LL.op (.pointer (some ⟨ma0, 1, none⟩)) (by kernel_rfl) (fun w _ => by kernel_rfl) ?_
        refine LL.op (.map (some ta0)) (by kernel_rfl) (ldB (off := 1) rfl (by kernel_rfl) hm (by kernel_rfl)) ?_
        refine LL.op (.int .i64 a1) (by kernel_rfl) (fun w _ => by kernel_rfl) ?_
        refine LL.op (.int .i64 a2) (by kernel_rfl) (fun w _ => by kernel_rfl) ?_
        refine LL.mapUpdate (T := x307_2) (bs' := [(ta0, mpO eI (upd x307_2 a1 a2))] ++ rest) 0 ta0 a2 rfl mapI (by kernel_rfl) rfl (by kernel_rfl) (by kernel_rfl) (by kernel_rfl) rfl ?_
        refine LL.done (s' := [(0, .pointer (some ⟨ma0, 0, none⟩)), (1, .int .i64 a1), (2, .int .i64 a2), (6, .bool false), (7, .int .i64 x305)]) [0, 1, 2, 6, 7] (by kernel_rfl) ?_
        refine NN.then ?_
        refine J.seq ?_
        refine J.plain ?_
        refine LL.op (.bool true) (by kernel_rfl) (fun w _ => by kernel_rfl) ?_
        refine LL.done (s' := [(0, .pointer (some ⟨ma0, 0, none⟩)), (1, .int .i64 a1), (2, .int .i64 a2), (6, .bool true), (7, .int .i64 x305)]) [0, 1, 2, 6, 7] (by kernel_rfl) ?_
        refine NN.then ?_
        refine J.ret ?_
        refine NN.then_ret ?_
        simp only [Option.some.injEq, Prod.mk.injEq] at H; obtain ⟨rfl, rfl⟩ := H
        exact NN.fin1 6 (.bool true) (by kernel_rfl) (by kernel_rfl) (.inl rfl) (fun w hi => ⟨rfl, hi⟩)
      · rw [if_neg (nebf c306)] at H
        refine J.condF (b := (x305 == (-1))) c306 (by kernel_rfl) (by kernel_rfl) ?_
        refine J.skip ?_
        refine NN.then ?_
        refine J.seq ?_
        refine J.plain ?_
        refine LL.op (.pointer (some ⟨ma0, 0, none⟩)) (by kernel_rfl) (fun w _ => by kernel_rfl) ?_
        refine LL.op (.int .i64 a2) (by kernel_rfl) (fun w _ => by kernel_rfl) ?_
        refine LL.op (.int .i64 a1) (by kernel_rfl) (fun w _ => by kernel_rfl) ?_
        refine LL.op (.int .i64 (IntKind.i64.wrap (a1 + 1))) (by kernel_rfl) (fun w _ => by kernel_rfl) ?_
        obtain ⟨x308, hx308, H⟩ := bind_some H
        refine LL.call 45 #[.pointer (some ⟨ma0, 0, none⟩), .int .i64 a2, .int .i64 (IntKind.i64.wrap (a1 + 1))] (.int .i64 x308) (by kernel_rfl) (fun w => by kernel_rfl) (fun w hw => assign_market_size.calls K a0 a0t a2 (IntKind.i64.wrap (a1 + 1)) ma0 ta0 Aa0 ca0 _ w (ha0.at hw) (hm.at hw) (hw.blkAt (i := 0) rfl) hx308) ?_
        refine LL.op (.int .i64 x308) (by kernel_rfl) (fun w _ => by kernel_rfl) ?_
        refine LL.done (s' := [(0, .pointer (some ⟨ma0, 0, none⟩)), (1, .int .i64 a1), (2, .int .i64 a2), (6, .bool false), (7, .int .i64 x305), (8, .int .i64 x308)]) [0, 1, 2, 6, 7, 8] (by kernel_rfl) ?_
        refine NN.then ?_
        refine J.seq ?_
        refine J.seq ?_
        refine J.plain ?_
        refine LL.op (.pointer (some ⟨ma0, 0, none⟩)) (by kernel_rfl) (fun w _ => by kernel_rfl) ?_
        refine LL.op (.int .i64 x305) (by kernel_rfl) (fun w _ => by kernel_rfl) ?_
        refine LL.op (.int .i64 a1) (by kernel_rfl) (fun w _ => by kernel_rfl) ?_
        refine LL.op (.int .i64 (IntKind.i64.wrap (a1 + 1))) (by kernel_rfl) (fun w _ => by kernel_rfl) ?_
        refine LL.op (.int .i64 a2) (by kernel_rfl) (fun w _ => by kernel_rfl) ?_
        refine LL.makeMap eB 75 (by kernel_rfl) rfl (fun g309 => ?_)
        obtain ⟨⟨x310_1, x310_2, x310_3⟩, hx310, H⟩ := bind_some H
        (try dsimp only at H)
        refine LL.callM 42 #[.pointer (some ⟨ma0, 0, none⟩), .int .i64 x305, .int .i64 (IntKind.i64.wrap (a1 + 1)), .int .i64 a2, .map (some g309)] (.bool x310_1) ([(g309, mpO eB x310_2), (ta0, mpO eI x310_3)] ++ rest) (by kernel_rfl) (fun w => by kernel_rfl) (fun w hw => assign_market_find.calls K a0 a0t x305 (IntKind.i64.wrap (a1 + 1)) a2 (fun _ => none) ma0 ta0 Aa0 ca0 g309 _ rest _ _ _ w ha0 hm hw hx310) ?_
        refine LL.op (.bool (!x310_1)) (by kernel_rfl) (fun w _ => by kernel_rfl) ?_
        refine LL.done (s' := [(0, .pointer (some ⟨ma0, 0, none⟩)), (1, .int .i64 a1), (2, .int .i64 a2), (6, .bool false), (8, .int .i64 x308), (56, .bool (!x310_1))]) [0, 1, 2, 6, 8, 56] (by kernel_rfl) ?_
        refine NN.then ?_
        rcases Bool.eq_false_or_eq_true (x310_1) with c311 | c311
        · rw [if_pos (c311)] at H
          refine J.condF (b := !x310_1) (by rw [show (!x310_1) = !(x310_1) from rfl, c311]; rfl) (by kernel_rfl) (by kernel_rfl) ?_
          refine J.skip ?_
          refine NN.then ?_
          refine J.seq ?_
          refine J.seq ?_
          refine J.plain ?_
          refine LL.op (.pointer (some ⟨ma0, 0, none⟩)) (by kernel_rfl) (fun w _ => by kernel_rfl) ?_
          refine LL.op (.int .i64 a2) (by kernel_rfl) (fun w _ => by kernel_rfl) ?_
          refine LL.op (.int .i64 a1) (by kernel_rfl) (fun w _ => by kernel_rfl) ?_
          refine LL.op (.int .i64 (IntKind.i64.wrap (a1 + 1))) (by kernel_rfl) (fun w _ => by kernel_rfl) ?_
          obtain ⟨x312, hx312, H⟩ := bind_some H
          refine LL.call 45 #[.pointer (some ⟨ma0, 0, none⟩), .int .i64 a2, .int .i64 (IntKind.i64.wrap (a1 + 1))] (.int .i64 x312) (by kernel_rfl) (fun w => by kernel_rfl) (fun w hw => assign_market_size.calls K a0 x310_3 a2 (IntKind.i64.wrap (a1 + 1)) ma0 ta0 Aa0 ca0 _ w (ha0.at hw) (hm.at hw) (hw.blkAt (i := 1) rfl) hx312) ?_
          refine LL.op (.int .i64 x308) (by kernel_rfl) (fun w _ => by kernel_rfl) ?_
          refine LL.op (.bool (x312 == x308)) (by kernel_rfl) (fun w _ => by kernel_rfl) ?_
          refine LL.done (s' := [(0, .pointer (some ⟨ma0, 0, none⟩)), (1, .int .i64 a1), (2, .int .i64 a2), (6, .bool false), (63, .bool (x312 == x308))]) [0, 1, 2, 6, 63] (by kernel_rfl) ?_
          refine NN.then ?_
          rcases Bool.eq_false_or_eq_true ((x312 == x308)) with c313 | c313
          · rw [if_pos (eq_of_beq c313)] at H
            refine J.condT (b := (x312 == x308)) c313 (by kernel_rfl) (by kernel_rfl) ?_
            refine J.plain ?_
            refine LL.op (.pointer (some ⟨ma0, 0, none⟩)) (by kernel_rfl) (fun w _ => by kernel_rfl) ?_
            refine LL.op (.int .i64 a2) (by kernel_rfl) (fun w _ => by kernel_rfl) ?_
            refine LL.op (.int .i64 a1) (by kernel_rfl) (fun w _ => by kernel_rfl) ?_
            refine LL.op (.int .i64 (IntKind.i64.wrap (a1 + 1))) (by kernel_rfl) (fun w _ => by kernel_rfl) ?_
            obtain ⟨⟨x314_1, x314_2⟩, hx314, H⟩ := bind_some H
            (try dsimp only at H)
            refine LL.perm (bs' := [(ta0, mpO eI x310_3), (g309, mpO eB x310_2)] ++ rest) (List.Perm.append_right _ (List.Perm.swap _ _ _)) ?_
            refine LL.callM 44 #[.pointer (some ⟨ma0, 0, none⟩), .int .i64 a2, .int .i64 (IntKind.i64.wrap (a1 + 1))] (.bool x314_1) ([(ta0, mpO eI x314_2), (g309, mpO eB x310_2)] ++ rest) (by kernel_rfl) (fun w => by kernel_rfl) (fun w hw => assign_market_drop.calls K a0 x310_3 a2 (IntKind.i64.wrap (a1 + 1)) ma0 ta0 Aa0 ca0 _ ([(g309, mpO eB x310_2)] ++ rest) _ _ w ha0 hm hw hx314) ?_
            refine LL.done (s' := [(0, .pointer (some ⟨ma0, 0, none⟩)), (1, .int .i64 a1), (2, .int .i64 a2), (6, .bool false)]) [0, 1, 2, 6] (by kernel_rfl) ?_
            refine NN.then ?_
            refine J.seq ?_
            refine J.plain ?_
            refine LL.op (.pointer (some ⟨ma0, 0, none⟩)) (by kernel_rfl) (fun w _ => by kernel_rfl) ?_
            refine LL.op (.pointer (some ⟨ma0, 0, none⟩)) (by kernel_rfl) (fun w _ => by kernel_rfl) ?_
            refine LL.op (.pointer (some ⟨ma0, 1, none⟩)) (by kernel_rfl) (fun w _ => by kernel_rfl) ?_
            refine LL.op (.map (some ta0)) (by kernel_rfl) (ldB (off := 1) rfl (by kernel_rfl) hm (by kernel_rfl)) ?_
            refine LL.op (.int .i64 a1) (by kernel_rfl) (fun w _ => by kernel_rfl) ?_
            refine LL.op (.int .i64 a2) (by kernel_rfl) (fun w _ => by kernel_rfl) ?_
            refine LL.mapUpdate (T := x314_2) (bs' := [(ta0, mpO eI (upd x314_2 a1 a2)), (g309, mpO eB x310_2)] ++ rest) 0 ta0 a2 rfl mapI (by kernel_rfl) rfl (by kernel_rfl) (by kernel_rfl) (by kernel_rfl) rfl ?_
            refine LL.done (s' := [(6, .bool false)]) [6] (by kernel_rfl) ?_
            refine NN.then ?_
            refine J.seq ?_
            refine J.plain ?_
            refine LL.op (.bool true) (by kernel_rfl) (fun w _ => by kernel_rfl) ?_
            refine LL.done (s' := [(6, .bool true)]) [6] (by kernel_rfl) ?_
            refine NN.then ?_
            refine J.ret ?_
            simp only [Option.some.injEq, Prod.mk.injEq] at H; obtain ⟨rfl, rfl⟩ := H
            exact NN.fin1 6 (.bool true) (by kernel_rfl) (by kernel_rfl) (.inl rfl) (fun w hi => ⟨rfl, (hi.sub ((List.Sublist.cons_cons _ (List.Sublist.cons _ (List.Sublist.refl _))).append_right _))⟩)
          · rw [if_neg (nebf c313)] at H
            refine J.condF (b := (x312 == x308)) c313 (by kernel_rfl) (by kernel_rfl) ?_
            refine J.skip ?_
            refine NN.then ?_
            refine J.seq ?_
            refine J.plain ?_
            refine LL.op (.pointer (some ⟨ma0, 0, none⟩)) (by kernel_rfl) (fun w _ => by kernel_rfl) ?_
            refine LL.op (.pointer (some ⟨ma0, 0, none⟩)) (by kernel_rfl) (fun w _ => by kernel_rfl) ?_
            refine LL.op (.pointer (some ⟨ma0, 1, none⟩)) (by kernel_rfl) (fun w _ => by kernel_rfl) ?_
            refine LL.op (.map (some ta0)) (by kernel_rfl) (ldB (off := 1) rfl (by kernel_rfl) hm (by kernel_rfl)) ?_
            refine LL.op (.int .i64 a1) (by kernel_rfl) (fun w _ => by kernel_rfl) ?_
            refine LL.op (.int .i64 a2) (by kernel_rfl) (fun w _ => by kernel_rfl) ?_
            refine LL.mapUpdate (T := x310_3) (bs' := [(g309, mpO eB x310_2), (ta0, mpO eI (upd x310_3 a1 a2))] ++ rest) 1 ta0 a2 rfl mapI (by kernel_rfl) rfl (by kernel_rfl) (by kernel_rfl) (by kernel_rfl) rfl ?_
            refine LL.done (s' := [(6, .bool false)]) [6] (by kernel_rfl) ?_
            refine NN.then ?_
            refine J.seq ?_
            refine J.plain ?_
            refine LL.op (.bool true) (by kernel_rfl) (fun w _ => by kernel_rfl) ?_
            refine LL.done (s' := [(6, .bool true)]) [6] (by kernel_rfl) ?_
            refine NN.then ?_
            refine J.ret ?_
            simp only [Option.some.injEq, Prod.mk.injEq] at H; obtain ⟨rfl, rfl⟩ := H
            exact NN.fin1 6 (.bool true) (by kernel_rfl) (by kernel_rfl) (.inl rfl) (fun w hi => ⟨rfl, (hi.sub ((List.Sublist.cons _ (List.Sublist.refl _)).append_right _))⟩)
        · rw [if_neg (nebt c311)] at H
          refine J.condT (b := !x310_1) (by rw [show (!x310_1) = !(x310_1) from rfl, c311]; rfl) (by kernel_rfl) (by kernel_rfl) ?_
          refine J.seq ?_
          refine J.plain ?_
          refine LL.op (.bool false) (by kernel_rfl) (fun w _ => by kernel_rfl) ?_
          refine LL.done (s' := [(0, .pointer (some ⟨ma0, 0, none⟩)), (1, .int .i64 a1), (2, .int .i64 a2), (6, .bool false), (8, .int .i64 x308)]) [0, 1, 2, 6, 8] (by kernel_rfl) ?_
          refine NN.then ?_
          refine J.ret ?_
          refine NN.then_ret ?_
          simp only [Option.some.injEq, Prod.mk.injEq] at H; obtain ⟨rfl, rfl⟩ := H
          exact NN.fin1 6 (.bool false) (by kernel_rfl) (by kernel_rfl) (.inl rfl) (fun w hi => ⟨rfl, (hi.sub ((List.Sublist.cons _ (List.Sublist.refl _)).append_right _))⟩)
    · rw [if_neg (nebt c304)] at H
      refine J.condT (b := !x303) (by rw [show (!x303) = !(x303) from rfl, c304]; rfl) (by kernel_rfl) (by kernel_rfl) ?_
      refine J.seq ?_
      refine J.plain ?_
      refine LL.op (.bool false) (by kernel_rfl) (fun w _ => by kernel_rfl) ?_
      refine LL.done (s' := [(0, .pointer (some ⟨ma0, 0, none⟩)), (1, .int .i64 a1), (2, .int .i64 a2), (6, .bool false)]) [0, 1, 2, 6] (by kernel_rfl) ?_
      refine NN.then ?_
      refine J.ret ?_
      refine NN.then_ret ?_
      simp only [Option.some.injEq, Prod.mk.injEq] at H; obtain ⟨rfl, rfl⟩ := H
      exact NN.fin1 6 (.bool false) (by kernel_rfl) (by kernel_rfl) (.inl rfl) (fun w hi => ⟨rfl, hi⟩)
  · rw [if_neg (nebt c302)] at H
    refine LL.bool 20 (!e301) true (by rw [show (!e301) = !(e301) from rfl, c302]; rfl) (by kernel_rfl) ?_
    refine LL.off (by kernel_rfl) (by kernel_rfl) ?_
    refine LL.off (by kernel_rfl) (by kernel_rfl) ?_
    refine LL.off (by kernel_rfl) (by kernel_rfl) ?_
    refine LL.off (by kernel_rfl) (by kernel_rfl) ?_
    refine LL.off (by kernel_rfl) (by kernel_rfl) ?_
    refine LL.off (by kernel_rfl) (by kernel_rfl) ?_
    refine LL.op (.bool true) (by kernel_rfl) (fun w _ => by kernel_rfl) ?_
    refine LL.done (s' := [(0, .pointer (some ⟨ma0, 0, none⟩)), (1, .int .i64 a1), (2, .int .i64 a2), (6, .bool false), (27, .bool true)]) [0, 1, 2, 6, 27] (by kernel_rfl) ?_
    refine NN.then ?_
    refine J.condT (b := true) rfl (by kernel_rfl) (by kernel_rfl) ?_
    refine J.seq ?_
    refine J.plain ?_
    refine LL.op (.bool false) (by kernel_rfl) (fun w _ => by kernel_rfl) ?_
    refine LL.done (s' := [(0, .pointer (some ⟨ma0, 0, none⟩)), (1, .int .i64 a1), (2, .int .i64 a2), (6, .bool false)]) [0, 1, 2, 6] (by kernel_rfl) ?_
    refine NN.then ?_
    refine J.ret ?_
    refine NN.then_ret ?_
    simp only [Option.some.injEq, Prod.mk.injEq] at H; obtain ⟨rfl, rfl⟩ := H
    exact NN.fin1 6 (.bool false) (by kernel_rfl) (by kernel_rfl) (.inl rfl) (fun w hi => ⟨rfl, hi⟩)

/-! ### assign_fill: function 30 -/
def assign_fill.l1 (K : Nat) (a0 : List (List E4)) (a1 : List E3) (x18l0 : Int) (kont_ : (List E3) → (Int → Option Int) → Option ((List E3) × (Int → Option Int))) : Nat → List E3 → (Int → Option Int) → Option ((List E3) × (Int → Option Int))
  | 0, _, _ => none
  | k + 1, zg323l1, zg315l1 => (idx zg323l1 x18l0).bind fun e330 => ((idx a1 x18l0).bind fun e331 => (if e330 < e331 then ((assign_market_find.f K a0 zg315l1 x18l0 0 (-2) (fun _ => none)).bind fun bx334 => (if bx334.1 = true then (assign_fill.l1 K a0 a1 x18l0 kont_ k (zg323l1.set x18l0.toNat (IntKind.i64.wrap (e330 + 1))) bx334.2.2) else (kont_ zg323l1 bx334.2.2))) else (kont_ zg323l1 zg315l1)))
def assign_fill.l0 (K : Nat) (a0 : List (List E4)) (a1 : List E3) : Nat → Int → List E3 → (Int → Option Int) → Option ((List E3) × (Int → Option Int))
  | 0, _, _, _ => none
  | k + 1, x18l0, zg323l0, zg315l0 => if x18l0 < (a0.length : Int) then (assign_fill.l1 K a0 a1 x18l0 (fun (zg323l1 : List E3) (zg315l1 : (Int → Option Int)) => assign_fill.l0 K a0 a1 k (IntKind.i64.wrap (x18l0 + 1)) zg323l1 zg315l1) K zg323l0 zg315l0) else (some (zg323l0, zg315l0))
def assign_fill.f (K : Nat) (a0 : List (List E4)) (a1 : List E3) : Option ((List E3) × (Int → Option Int)) := (mk (a0.length : Int) (0 : Int)).bind fun y322 => (assign_fill.l0 K a0 a1 K 0 y322 (fun _ => none))
set_option maxRecDepth 100000 in
theorem assign_fill.calls (K : Nat) (a0 : List (List E4)) (a1 : List E3) (Aa0 : Option Addr) (ca0 : Nat) (Aa1 : Option Addr) (ca1 : Nat) (r1 : List E3) (rT : (Int → Option Int)) (w : World) (ha0 : KRow2 (Cx.start w) enc4 1 a0 Aa0) (ha1 : KRow (Cx.start w) enc3 1 a1 Aa1) (h : assign_fill.f K a0 a1 = some (r1, rT)) :
    Calls Try.prog 30 #[.slice Aa0 a0.length ca0, .slice Aa1 a1.length ca1] w (Filled w a0 Aa0 ca0 r1 rT) := by
  have H := h
  clear h
  unfold assign_fill.f at H
  refine Go.Saw.calls (args := [.slice Aa0 a0.length ca0, .slice Aa1 a1.length ca1]) Try.func30 rfl Try.ntmps30 (by kernel_rfl) ?_
  refine J.seq ?_
  refine J.plain ?_
  refine LL.op (.pointer none) (by kernel_rfl) (fun w _ => by kernel_rfl) ?_
  refine LL.op (.slice none 0 0) (by kernel_rfl) (fun w _ => by kernel_rfl) ?_
  refine LL.done (s' := [(0, .slice Aa0 a0.length ca0), (1, .slice Aa1 a1.length ca1), (4, .pointer none), (5, .slice none 0 0)]) [0, 1, 4, 5] (by kernel_rfl) ?_
  refine NN.then ?_
  refine J.seq ?_
  refine J.plain ?_
  refine LL.op (.slice Aa0 a0.length ca0) (by kernel_rfl) (fun w _ => by kernel_rfl) ?_
  refine LL.makeMap eI 71 (by kernel_rfl) rfl (fun g315 => ?_)
  refine LL.op (.agg #[.slice Aa0 a0.length ca0, .map (some g315)]) (by kernel_rfl) (fun w _ => by kernel_rfl) ?_
  refine LL.box 73 (.tmp 11) [.slice Aa0 a0.length ca0, .map (some g315)] (by kernel_rfl) rfl (by kernel_rfl) (fun g316 => ?_)
  refine LL.keep1 (fun R317 F318 le319 k320 fr321 => ?_)
  refine LL.op (.pointer (some ⟨g316, 0, none⟩)) (by kernel_rfl) (fun w _ => by kernel_rfl) ?_
  refine LL.done (s' := [(0, .slice Aa0 a0.length ca0), (1, .slice Aa1 a1.length ca1), (4, .pointer none), (5, .slice none 0 0), (6, .pointer (some ⟨g316, 0, none⟩))]) [0, 1, 4, 5, 6] (by kernel_rfl) ?_
  refine NN.then ?_
  refine J.seq ?_
  refine J.plain ?_
  refine LL.op (.slice Aa0 a0.length ca0) (by kernel_rfl) (fun w _ => by kernel_rfl) ?_
  refine LL.op (.int .i64 (a0.length : Int)) (by kernel_rfl) (fun w _ => by kernel_rfl) ?_
  obtain ⟨y322, hy322, H⟩ := bind_some H
  refine LL.mk (e1 := eI) mk3 hy322 (by kernel_rfl) rfl (by kernel_rfl) (by kernel_rfl) (fun g323 => ?_)
  refine LL.op (.slice (some ⟨g323, 0, none⟩) y322.length y322.length) (by kernel_rfl) (fun w _ => by kernel_rfl) ?_
  refine LL.done (s' := [(0, .slice Aa0 a0.length ca0), (1, .slice Aa1 a1.length ca1), (4, .pointer none), (5, .slice none 0 0), (6, .pointer (some ⟨g316, 0, none⟩)), (7, .slice (some ⟨g323, 0, none⟩) y322.length y322.length)]) [0, 1, 4, 5, 6, 7] (by kernel_rfl) ?_
  refine NN.then ?_
  refine J.seq ?_
  refine J.seq ?_
  refine J.plain ?_
  refine LL.op (.slice Aa0 a0.length ca0) (by kernel_rfl) (fun w _ => by kernel_rfl) ?_
  refine LL.op (.int .i64 (a0.length : Int)) (by kernel_rfl) (fun w _ => by kernel_rfl) ?_
  refine LL.op (.int .i64 0) (by kernel_rfl) (fun w _ => by kernel_rfl) ?_
  refine LL.done (s' := [(1, .slice Aa1 a1.length ca1), (4, .pointer none), (5, .slice none 0 0), (6, .pointer (some ⟨g316, 0, none⟩)), (7, .slice (some ⟨g323, 0, none⟩) y322.length y322.length), (17, .int .i64 (a0.length : Int)), (18, .int .i64 0)]) [1, 4, 5, 6, 7, 17, 18] (by kernel_rfl) ?_
  refine NN.then ?_
  refine J.block ?_
  refine J.to [1, 4, 5, 6, 7, 17, 18] (s' := [(1, .slice Aa1 a1.length ca1), (4, .pointer none), (5, .slice none 0 0), (6, .pointer (some ⟨g316, 0, none⟩)), (7, .slice (some ⟨g323, 0, none⟩) y322.length y322.length), (17, .int .i64 (a0.length : Int)), (18, .int .i64 0)]) (by kernel_rfl) ?_
  refine J.loop (fun n_ s_ bs_ => ∃ (x18l0 : Int) (zg323l0 : List E3) (zg315l0 : (Int → Option Int)), assign_fill.l0 K a0 a1 n_ x18l0 zg323l0 zg315l0 = some (r1, rT) ∧ zg323l0.length = y322.length ∧ s_ = [(1, .slice Aa1 a1.length ca1), (4, .pointer none), (5, .slice none 0 0), (6, .pointer (some ⟨g316, 0, none⟩)), (7, .slice (some ⟨g323, 0, none⟩) y322.length y322.length), (17, .int .i64 (a0.length : Int)), (18, .int .i64 x18l0)] ∧ [(g323, cl (List.map eI zg323l0) 3), (g315, mpO eI zg315l0)] = bs_) K ⟨0, y322, (fun _ => none), H, rfl, rfl, rfl⟩ ?_
  rintro (_ | n_) s_ bs_ ⟨x18l0, zg323l0, zg315l0, H, lenzg323l0, rfl, rfl⟩
  · exact absurd H (by simp [assign_fill.l0])
  simp only [assign_fill.l0] at H
  refine J.seq ?_
  refine J.plain ?_
  refine LL.op (.bool (decide (x18l0 < (a0.length : Int)))) (by kernel_rfl) (fun w _ => by kernel_rfl) ?_
  refine LL.done (s' := [(1, .slice Aa1 a1.length ca1), (4, .pointer none), (5, .slice none 0 0), (6, .pointer (some ⟨g316, 0, none⟩)), (7, .slice (some ⟨g323, 0, none⟩) y322.length y322.length), (17, .int .i64 (a0.length : Int)), (18, .int .i64 x18l0), (19, .bool (decide (x18l0 < (a0.length : Int))))]) [1, 4, 5, 6, 7, 17, 18, 19] (by kernel_rfl) ?_
  refine NN.then ?_
  refine J.seq ?_
  rcases Bool.eq_false_or_eq_true (decide (x18l0 < (a0.length : Int))) with c327 | c327
  · rw [if_pos (of_decide_eq_true c327)] at H
    refine J.condT (b := decide (x18l0 < (a0.length : Int))) c327 (by kernel_rfl) (by kernel_rfl) ?_
    refine J.skip ?_
    refine NN.then ?_
    refine J.seq ?_
    refine J.block ?_
    refine J.seq ?_
    refine J.plain ?_
    refine LL.op (.int .i64 x18l0) (by kernel_rfl) (fun w _ => by kernel_rfl) ?_
    refine LL.op (.int .i64 x18l0) (by kernel_rfl) (fun w _ => by kernel_rfl) ?_
    refine LL.done (s' := [(1, .slice Aa1 a1.length ca1), (4, .pointer none), (5, .slice none 0 0), (6, .pointer (some ⟨g316, 0, none⟩)), (7, .slice (some ⟨g323, 0, none⟩) y322.length y322.length), (8, .int .i64 x18l0), (17, .int .i64 (a0.length : Int)), (18, .int .i64 x18l0)]) [1, 4, 5, 6, 7, 8, 17, 18] (by kernel_rfl) ?_
    refine NN.then ?_
    refine J.block ?_
    refine J.to [1, 4, 5, 6, 7, 8, 17, 18] (s' := [(1, .slice Aa1 a1.length ca1), (4, .pointer none), (5, .slice none 0 0), (6, .pointer (some ⟨g316, 0, none⟩)), (7, .slice (some ⟨g323, 0, none⟩) y322.length y322.length), (8, .int .i64 x18l0), (17, .int .i64 (a0.length : Int)), (18, .int .i64 x18l0)]) (by kernel_rfl) ?_
    obtain ⟨kont328, hk328, H⟩ := kont_intro (P := fun q_ => assign_fill.l1 K a0 a1 x18l0 q_ K zg323l0 zg315l0 = some (r1, rT)) H
    refine J.loop (fun n_ s_ bs_ => ∃ (zg323l1 : List E3) (zg315l1 : (Int → Option Int)), assign_fill.l1 K a0 a1 x18l0 kont328 n_ zg323l1 zg315l1 = some (r1, rT) ∧ zg323l1.length = y322.length ∧ s_ = [(1, .slice Aa1 a1.length ca1), (4, .pointer none), (5, .slice none 0 0), (6, .pointer (some ⟨g316, 0, none⟩)), (7, .slice (some ⟨g323, 0, none⟩) y322.length y322.length), (8, .int .i64 x18l0), (17, .int .i64 (a0.length : Int)), (18, .int .i64 x18l0)] ∧ [(g323, cl (List.map eI zg323l1) 3), (g315, mpO eI zg315l1)] = bs_) K ⟨zg323l0, zg315l0, H, lenzg323l0, rfl, rfl⟩ ?_
    rintro (_ | n_) s_ bs_ ⟨zg323l1, zg315l1, H, lenzg323l1, rfl, rfl⟩
    · exact absurd H (by simp [assign_fill.l1])
    simp only [assign_fill.l1] at H
    refine J.seq ?_
    refine J.seq ?_
    obtain ⟨e330, he330, H⟩ := bind_some H
    obtain ⟨e331, he331, H⟩ := bind_some H
    refine J.heldBut [(g323, cl (List.map eI zg323l1) 3)] follows ?_
    refine HH.take 0 (.slice (some ⟨g323, 0, none⟩) y322.length y322.length) rfl (by kernel_rfl) (by kernel_rfl) (fun _ h => h.sub (List.Sublist.cons_cons _ (List.Sublist.cons _ (List.Sublist.refl _)))) (fun w _ => by kernel_rfl) ?_
    refine HH.take 1 (.int .i64 x18l0) rfl (by kernel_rfl) (by kernel_rfl) (fun _ h => h.sub (List.Sublist.cons_cons _ (List.Sublist.cons _ (List.Sublist.refl _)))) (fun w _ => by kernel_rfl) ?_
    refine HH.take 2 (.pointer (rp (some ⟨g323, 0, none⟩) (x18l0.toNat * 1 + 0))) rfl (by kernel_rfl) (by kernel_rfl) (fun _ h => h.sub (List.Sublist.cons_cons _ (List.Sublist.cons _ (List.Sublist.refl _)))) (idxL (ik := .i64) (n := y322.length) (e1 := eI) (l := zg323l1) 0 g323 rfl he330 lenzg323l1 rfl (by kernel_rfl) (by kernel_rfl) (by kernel_rfl)) ?_
    refine HH.take 3 (.int .i64 e330) rfl (by kernel_rfl) (by kernel_rfl) (fun _ h => h.sub (List.Sublist.cons_cons _ (List.Sublist.cons _ (List.Sublist.refl _)))) (ldL (e1 := eI) (l := zg323l1) 0 g323 rfl he330 rfl (by kernel_rfl) (by kernel_rfl)) ?_
    refine HH.take 4 (.slice Aa1 a1.length ca1) rfl (by kernel_rfl) (by kernel_rfl) (fun _ h => h.sub (List.Sublist.cons_cons _ (List.Sublist.cons _ (List.Sublist.refl _)))) (fun w _ => by kernel_rfl) ?_
    refine HH.take 5 (.int .i64 x18l0) rfl (by kernel_rfl) (by kernel_rfl) (fun _ h => h.sub (List.Sublist.cons_cons _ (List.Sublist.cons _ (List.Sublist.refl _)))) (fun w _ => by kernel_rfl) ?_
    refine HH.take 6 (.pointer (rp Aa1 (x18l0.toNat * 1 + 0))) rfl (by kernel_rfl) (by kernel_rfl) (fun _ h => h.sub (List.Sublist.cons_cons _ (List.Sublist.cons _ (List.Sublist.refl _)))) (idxR (cp := ca1) (ik := .i64) (ha1.le le319) he331 rfl (by kernel_rfl) (by kernel_rfl) (by kernel_rfl)) ?_
    refine HH.take 7 (.int .i64 e331) rfl (by kernel_rfl) (by kernel_rfl) (fun _ h => h.sub (List.Sublist.cons_cons _ (List.Sublist.cons _ (List.Sublist.refl _)))) (ldR (off := 0) (ha1.le le319) he331 rfl (by kernel_rfl) (by kernel_rfl)) ?_
    refine HH.take 8 (.bool (decide (e330 < e331))) rfl (by kernel_rfl) (by kernel_rfl) (fun _ h => h.sub (List.Sublist.cons_cons _ (List.Sublist.cons _ (List.Sublist.refl _)))) (fun w _ => by kernel_rfl) ?_
    refine HH.take 9 (.bool (decide (e330 < e331))) rfl (by kernel_rfl) (by kernel_rfl) (fun _ h => h.sub (List.Sublist.cons_cons _ (List.Sublist.cons _ (List.Sublist.refl _)))) (fun w _ => by kernel_rfl) ?_
    rcases Bool.eq_false_or_eq_true (decide (e330 < e331)) with c332 | c332
    · rw [if_pos (of_decide_eq_true c332)] at H
      refine HH.bool 30 (decide (e330 < e331)) true c332 (by kernel_rfl) ?_
      obtain ⟨⟨x334_1, x334_2, x334_3⟩, hx334, H⟩ := bind_some H
      (try dsimp only at H)
      refine HH.take 10 (.pointer (some ⟨g316, 0, none⟩)) rfl (by kernel_rfl) (by kernel_rfl) (fun _ h => h.sub (List.Sublist.cons_cons _ (List.Sublist.cons _ (List.Sublist.refl _)))) (fun w _ => by kernel_rfl) ?_
      refine HH.take 11 (.int .i64 x18l0) rfl (by kernel_rfl) (by kernel_rfl) (fun _ h => h.sub (List.Sublist.cons_cons _ (List.Sublist.cons _ (List.Sublist.refl _)))) (fun w _ => by kernel_rfl) ?_
      refine HH.all1 12 (by kernel_rfl) ?_
      refine HS.makeMap eB 75 rfl (by kernel_rfl) rfl (fun _ h => h.sub (List.Sublist.cons_cons _ (List.Sublist.cons _ (List.Sublist.refl _)))) (fun g335 => ?_)
      refine HH.all1 13 (by kernel_rfl) ?_
      refine HS.perm (bs' := [(g335, mpO eB (fun _ => none)), (g315, mpO eI zg315l1), (g323, cl (List.map eI zg323l1) 3)]) (List.Perm.cons _ (List.Perm.swap _ _ _)) ?_
      refine HS.callM 42 #[.pointer (some ⟨g316, 0, none⟩), .int .i64 x18l0, .int .i64 0, .int .i64 (-2), .map (some g335)] (.bool x334_1) ([(g335, mpO eB x334_2), (g315, mpO eI x334_3), (g323, cl (List.map eI zg323l1) 3)]) rfl (by kernel_rfl) (fun w => by kernel_rfl) (fun _ h => h.sub (List.Sublist.cons _ (List.Sublist.cons _ (List.Sublist.refl _)))) (fun w hw => assign_market_find.calls K a0 zg315l1 x18l0 0 (-2) (fun _ => none) g316 g315 Aa0 ca0 g335 _ [(g323, cl (List.map eI zg323l1) 3)] _ _ _ w (ha0.le le319) k320 hw hx334) ?_
      refine HH.take 14 (.bool x334_1) rfl (by kernel_rfl) (by kernel_rfl) (fun _ h => h.sub (List.Sublist.cons _ (List.Sublist.cons _ (List.Sublist.refl _)))) (fun w _ => by kernel_rfl) ?_
      refine HH.done (s' := [(1, .slice Aa1 a1.length ca1), (4, .pointer none), (5, .slice none 0 0), (6, .pointer (some ⟨g316, 0, none⟩)), (7, .slice (some ⟨g323, 0, none⟩) y322.length y322.length), (8, .int .i64 x18l0), (17, .int .i64 (a0.length : Int)), (18, .int .i64 x18l0), (35, .bool x334_1)]) [1, 4, 5, 6, 7, 8, 17, 18, 35] (by kernel_rfl) (by kernel_rfl) ?_
      refine NN.then ?_
      rcases Bool.eq_false_or_eq_true (x334_1) with c336 | c336
      · rw [if_pos (c336)] at H
        refine J.condT (b := x334_1) c336 (by kernel_rfl) (by kernel_rfl) ?_
        refine J.skip ?_
        refine NN.then ?_
        refine J.block ?_
        refine J.plain ?_
        refine LL.op (.slice (some ⟨g323, 0, none⟩) y322.length y322.length) (by kernel_rfl) (fun w _ => by kernel_rfl) ?_
        refine LL.op (.int .i64 x18l0) (by kernel_rfl) (fun w _ => by kernel_rfl) ?_
        refine LL.op (.pointer (rp (some ⟨g323, 0, none⟩) (x18l0.toNat * 1 + 0))) (by kernel_rfl) (idxL (ik := .i64) (n := y322.length) (e1 := eI) (l := zg323l1) 2 g323 rfl he330 lenzg323l1 rfl (by kernel_rfl) (by kernel_rfl) (by kernel_rfl)) ?_
        refine LL.op (.int .i64 e330) (by kernel_rfl) (ldL (e1 := eI) (l := zg323l1) 2 g323 rfl he330 rfl (by kernel_rfl) (by kernel_rfl)) ?_
        refine LL.op (.int .i64 (IntKind.i64.wrap (e330 + 1))) (by kernel_rfl) (fun w _ => by kernel_rfl) ?_
        refine LL.op (.pointer (rp (some ⟨g323, 0, none⟩) (x18l0.toNat * 1 + 0))) (by kernel_rfl) (idxL (ik := .i64) (n := y322.length) (e1 := eI) (l := zg323l1) 2 g323 rfl he330 lenzg323l1 rfl (by kernel_rfl) (by kernel_rfl) (by kernel_rfl)) ?_
        refine LL.storeL (e1 := eI) (l := zg323l1) (y := IntKind.i64.wrap (e330 + 1)) (bs' := [(g335, mpO eB x334_2), (g315, mpO eI x334_3), (g323, cl (List.map eI (zg323l1.set x18l0.toNat (IntKind.i64.wrap (e330 + 1)))) 3)]) 2 g323 one3 rfl rfl he330 (by kernel_rfl) rfl (by kernel_rfl) (by kernel_rfl) ?_
        refine LL.done (s' := [(1, .slice Aa1 a1.length ca1), (4, .pointer none), (5, .slice none 0 0), (6, .pointer (some ⟨g316, 0, none⟩)), (7, .slice (some ⟨g323, 0, none⟩) y322.length y322.length), (8, .int .i64 x18l0), (17, .int .i64 (a0.length : Int)), (18, .int .i64 x18l0)]) [1, 4, 5, 6, 7, 8, 17, 18] (by kernel_rfl) ?_
        refine NN.block_n ?_
        refine NN.perm (bs' := [(g323, cl (List.map eI (zg323l1.set x18l0.toNat (IntKind.i64.wrap (e330 + 1)))) 3), (g315, mpO eI x334_3), (g335, mpO eB x334_2)]) (((List.Perm.cons _ (List.Perm.swap _ _ _)).trans (List.Perm.swap _ _ _)).trans (List.Perm.cons _ (List.Perm.swap _ _ _))) ?_
        exact NN.round' [1, 4, 5, 6, 7, 8, 17, 18] (bs' := [(g323, cl (List.map eI (zg323l1.set x18l0.toNat (IntKind.i64.wrap (e330 + 1)))) 3), (g315, mpO eI x334_3)]) (Nat.lt_succ_self _) (List.Sublist.cons_cons _ (List.Sublist.cons_cons _ (List.Sublist.cons _ (List.Sublist.refl _)))) (by kernel_rfl) ⟨(zg323l1.set x18l0.toNat (IntKind.i64.wrap (e330 + 1))), x334_3, H, (List.length_set.trans lenzg323l1), rfl, rfl⟩
      · rw [if_neg (nebt c336)] at H
        refine J.condF (b := x334_1) c336 (by kernel_rfl) (by kernel_rfl) ?_
        refine J.exit ?_
        refine NN.then_exit ?_
        rw [← hk328] at H
        (try dsimp only at H)
        refine NN.then_exit ?_
        refine NN.block_same ?_
        refine NN.block_n ?_
        refine NN.then ?_
        refine J.plain ?_
        refine LL.op (.int .i64 (IntKind.i64.wrap (x18l0 + 1))) (by kernel_rfl) (fun w _ => by kernel_rfl) ?_
        refine LL.op (.int .i64 (IntKind.i64.wrap (x18l0 + 1))) (by kernel_rfl) (fun w _ => by kernel_rfl) ?_
        refine LL.done (s' := [(1, .slice Aa1 a1.length ca1), (4, .pointer none), (5, .slice none 0 0), (6, .pointer (some ⟨g316, 0, none⟩)), (7, .slice (some ⟨g323, 0, none⟩) y322.length y322.length), (17, .int .i64 (a0.length : Int)), (18, .int .i64 (IntKind.i64.wrap (x18l0 + 1)))]) [1, 4, 5, 6, 7, 17, 18] (by kernel_rfl) ?_
        refine NN.perm (bs' := [(g323, cl (List.map eI zg323l1) 3), (g315, mpO eI x334_3), (g335, mpO eB x334_2)]) (((List.Perm.cons _ (List.Perm.swap _ _ _)).trans (List.Perm.swap _ _ _)).trans (List.Perm.cons _ (List.Perm.swap _ _ _))) ?_
        exact NN.round' [1, 4, 5, 6, 7, 17, 18] (bs' := [(g323, cl (List.map eI zg323l1) 3), (g315, mpO eI x334_3)]) (Nat.lt_succ_self _) (List.Sublist.cons_cons _ (List.Sublist.cons_cons _ (List.Sublist.cons _ (List.Sublist.refl _)))) (by kernel_rfl) ⟨IntKind.i64.wrap (x18l0 + 1), zg323l1, x334_3, H, lenzg323l1, rfl, rfl⟩
    · rw [if_neg (of_decide_eq_false c332)] at H
      refine HH.bool 30 (decide (e330 < e331)) false c332 (by kernel_rfl) ?_
      refine HH.off 10 rfl (by kernel_rfl) (by kernel_rfl) (by kernel_rfl) (fun _ h => h.sub (List.Sublist.cons_cons _ (List.Sublist.cons _ (List.Sublist.refl _)))) ?_
      refine HH.off 11 rfl (by kernel_rfl) (by kernel_rfl) (by kernel_rfl) (fun _ h => h.sub (List.Sublist.cons_cons _ (List.Sublist.cons _ (List.Sublist.refl _)))) ?_
      refine HH.off 12 rfl (by kernel_rfl) (by kernel_rfl) (by kernel_rfl) (fun _ h => h.sub (List.Sublist.cons_cons _ (List.Sublist.cons _ (List.Sublist.refl _)))) ?_
      refine HH.off 13 rfl (by kernel_rfl) (by kernel_rfl) (by kernel_rfl) (fun _ h => h.sub (List.Sublist.cons_cons _ (List.Sublist.cons _ (List.Sublist.refl _)))) ?_
      refine HH.take 14 (.bool false) rfl (by kernel_rfl) (by kernel_rfl) (fun _ h => h.sub (List.Sublist.cons_cons _ (List.Sublist.cons _ (List.Sublist.refl _)))) (fun w _ => by kernel_rfl) ?_
      refine HH.done (s' := [(1, .slice Aa1 a1.length ca1), (4, .pointer none), (5, .slice none 0 0), (6, .pointer (some ⟨g316, 0, none⟩)), (7, .slice (some ⟨g323, 0, none⟩) y322.length y322.length), (8, .int .i64 x18l0), (17, .int .i64 (a0.length : Int)), (18, .int .i64 x18l0), (35, .bool false)]) [1, 4, 5, 6, 7, 8, 17, 18, 35] (by kernel_rfl) (by kernel_rfl) ?_
      refine NN.then ?_
      refine J.condF (b := false) rfl (by kernel_rfl) (by kernel_rfl) ?_
      refine J.exit ?_
      refine NN.then_exit ?_
      rw [← hk328] at H
      (try dsimp only at H)
      refine NN.then_exit ?_
      refine NN.block_same ?_
      refine NN.block_n ?_
      refine NN.then ?_
      refine J.plain ?_
      refine LL.op (.int .i64 (IntKind.i64.wrap (x18l0 + 1))) (by kernel_rfl) (fun w _ => by kernel_rfl) ?_
      refine LL.op (.int .i64 (IntKind.i64.wrap (x18l0 + 1))) (by kernel_rfl) (fun w _ => by kernel_rfl) ?_
      refine LL.done (s' := [(1, .slice Aa1 a1.length ca1), (4, .pointer none), (5, .slice none 0 0), (6, .pointer (some ⟨g316, 0, none⟩)), (7, .slice (some ⟨g323, 0, none⟩) y322.length y322.length), (17, .int .i64 (a0.length : Int)), (18, .int .i64 (IntKind.i64.wrap (x18l0 + 1)))]) [1, 4, 5, 6, 7, 17, 18] (by kernel_rfl) ?_
      exact NN.round' [1, 4, 5, 6, 7, 17, 18] (bs' := [(g323, cl (List.map eI zg323l1) 3), (g315, mpO eI zg315l1)]) (Nat.lt_succ_self _) (List.Sublist.refl _) (by kernel_rfl) ⟨IntKind.i64.wrap (x18l0 + 1), zg323l1, zg315l1, H, lenzg323l1, rfl, rfl⟩
  · rw [if_neg (of_decide_eq_false c327)] at H
    refine J.condF (b := decide (x18l0 < (a0.length : Int))) c327 (by kernel_rfl) (by kernel_rfl) ?_
    refine J.exit ?_
    refine NN.then_exit ?_
    refine NN.then_exit ?_
    refine NN.block_same ?_
    refine NN.then ?_
    refine J.seq ?_
    refine J.plain ?_
    refine LL.op (.pointer (some ⟨g316, 0, none⟩)) (by kernel_rfl) (fun w _ => by kernel_rfl) ?_
    refine LL.op (.slice (some ⟨g323, 0, none⟩) y322.length y322.length) (by kernel_rfl) (fun w _ => by kernel_rfl) ?_
    refine LL.op (.pointer (some ⟨g316, 0, none⟩)) (by kernel_rfl) (fun w _ => by kernel_rfl) ?_
    refine LL.op (.slice (some ⟨g323, 0, none⟩) y322.length y322.length) (by kernel_rfl) (fun w _ => by kernel_rfl) ?_
    refine LL.done (s' := [(4, .pointer (some ⟨g316, 0, none⟩)), (5, .slice (some ⟨g323, 0, none⟩) y322.length y322.length)]) [4, 5] (by kernel_rfl) ?_
    refine NN.then ?_
    refine J.ret ?_
    simp only [Option.some.injEq, Prod.mk.injEq] at H; obtain ⟨rfl, rfl⟩ := H
    exact NN.fin2 4 5 (.pointer (some ⟨g316, 0, none⟩)) (.slice (some ⟨g323, 0, none⟩) y322.length y322.length) (by kernel_rfl) (by kernel_rfl) (by kernel_rfl) (.inl rfl) (fun w hi => ⟨g316, g315, g323, y322.length, _, _, rfl, lenzg323l0, le319, k320, fr321, hi⟩)

/-! ### sawmillref48_none: function 55 -/
def sawmillref48_none.l0 (K : Nat) (a0 : Int) : Nat → Int → List E3 → Option ((List E3))
  | 0, _, _ => none
  | k + 1, x4l0, zg338l0 => if x4l0 < a0 then ((idx zg338l0 x4l0).bind fun e343 => (sawmillref48_none.l0 K a0 k (IntKind.i64.wrap (x4l0 + 1)) (zg338l0.set x4l0.toNat (-1)))) else (some zg338l0)
def sawmillref48_none.f (K : Nat) (a0 : Int) : Option ((List E3)) := (mk a0 (0 : Int)).bind fun y337 => (sawmillref48_none.l0 K a0 K 0 y337)
set_option maxRecDepth 100000 in
theorem sawmillref48_none.calls (K : Nat) (a0 : Int) (w : World) (r1 : List E3)  (h : sawmillref48_none.f K a0 = some r1) :
    Calls Try.prog 55 #[.int .i64 a0] w (Made w r1) := by
  have H := h
  clear h
  unfold sawmillref48_none.f at H
  refine Go.Saw.calls (args := [.int .i64 a0]) Try.func55 rfl Try.ntmps55 (by kernel_rfl) ?_
  refine J.seq ?_
  refine J.plain ?_
  refine LL.op (.slice none 0 0) (by kernel_rfl) (fun w _ => by kernel_rfl) ?_
  refine LL.done (s' := [(0, .int .i64 a0), (2, .slice none 0 0)]) [0, 2] (by kernel_rfl) ?_
  refine NN.then ?_
  refine J.seq ?_
  refine J.plain ?_
  refine LL.op (.int .i64 a0) (by kernel_rfl) (fun w _ => by kernel_rfl) ?_
  obtain ⟨y337, hy337, H⟩ := bind_some H
  refine LL.mk (e1 := eI) mk3 hy337 (by kernel_rfl) rfl (by kernel_rfl) (by kernel_rfl) (fun g338 => ?_)
  refine LL.op (.slice (some ⟨g338, 0, none⟩) y337.length y337.length) (by kernel_rfl) (fun w _ => by kernel_rfl) ?_
  refine LL.done (s' := [(0, .int .i64 a0), (2, .slice none 0 0), (3, .slice (some ⟨g338, 0, none⟩) y337.length y337.length)]) [0, 2, 3] (by kernel_rfl) ?_
  refine NN.then ?_
  refine J.seq ?_
  refine J.seq ?_
  refine J.plain ?_
  refine LL.op (.int .i64 0) (by kernel_rfl) (fun w _ => by kernel_rfl) ?_
  refine LL.done (s' := [(0, .int .i64 a0), (2, .slice none 0 0), (3, .slice (some ⟨g338, 0, none⟩) y337.length y337.length), (4, .int .i64 0)]) [0, 2, 3, 4] (by kernel_rfl) ?_
  refine NN.then ?_
  refine J.block ?_
  refine J.to [0, 2, 3, 4] (s' := [(0, .int .i64 a0), (2, .slice none 0 0), (3, .slice (some ⟨g338, 0, none⟩) y337.length y337.length), (4, .int .i64 0)]) (by kernel_rfl) ?_
  refine J.loop (fun n_ s_ bs_ => ∃ (x4l0 : Int) (zg338l0 : List E3), sawmillref48_none.l0 K a0 n_ x4l0 zg338l0 = some r1 ∧ zg338l0.length = y337.length ∧ s_ = [(0, .int .i64 a0), (2, .slice none 0 0), (3, .slice (some ⟨g338, 0, none⟩) y337.length y337.length), (4, .int .i64 x4l0)] ∧ [(g338, cl (List.map eI zg338l0) 3)] = bs_) K ⟨0, y337, H, rfl, rfl, rfl⟩ ?_
  rintro (_ | n_) s_ bs_ ⟨x4l0, zg338l0, H, lenzg338l0, rfl, rfl⟩
  · exact absurd H (by simp [sawmillref48_none.l0])
  simp only [sawmillref48_none.l0] at H
  refine J.seq ?_
  refine J.seq ?_
  refine J.plain ?_
  refine LL.op (.int .i64 x4l0) (by kernel_rfl) (fun w _ => by kernel_rfl) ?_
  refine LL.op (.int .i64 a0) (by kernel_rfl) (fun w _ => by kernel_rfl) ?_
  refine LL.op (.bool (decide (x4l0 < a0))) (by kernel_rfl) (fun w _ => by kernel_rfl) ?_
  refine LL.done (s' := [(0, .int .i64 a0), (2, .slice none 0 0), (3, .slice (some ⟨g338, 0, none⟩) y337.length y337.length), (4, .int .i64 x4l0), (9, .bool (decide (x4l0 < a0)))]) [0, 2, 3, 4, 9] (by kernel_rfl) ?_
  refine NN.then ?_
  rcases Bool.eq_false_or_eq_true (decide (x4l0 < a0)) with c342 | c342
  · rw [if_pos (of_decide_eq_true c342)] at H
    refine J.condT (b := decide (x4l0 < a0)) c342 (by kernel_rfl) (by kernel_rfl) ?_
    refine J.skip ?_
    refine NN.then ?_
    refine J.seq ?_
    refine J.block ?_
    refine J.plain ?_
    refine LL.op (.slice (some ⟨g338, 0, none⟩) y337.length y337.length) (by kernel_rfl) (fun w _ => by kernel_rfl) ?_
    refine LL.op (.int .i64 x4l0) (by kernel_rfl) (fun w _ => by kernel_rfl) ?_
    obtain ⟨e343, he343, H⟩ := bind_some H
    refine LL.op (.pointer (rp (some ⟨g338, 0, none⟩) (x4l0.toNat * 1 + 0))) (by kernel_rfl) (idxL (ik := .i64) (n := y337.length) (e1 := eI) (l := zg338l0) 0 g338 rfl he343 lenzg338l0 rfl (by kernel_rfl) (by kernel_rfl) (by kernel_rfl)) ?_
    refine LL.storeL (e1 := eI) (l := zg338l0) (y := (-1)) (bs' := [(g338, cl (List.map eI (zg338l0.set x4l0.toNat (-1))) 3)]) 0 g338 one3 rfl rfl he343 (by kernel_rfl) rfl (by kernel_rfl) (by kernel_rfl) ?_
    refine LL.done (s' := [(0, .int .i64 a0), (2, .slice none 0 0), (3, .slice (some ⟨g338, 0, none⟩) y337.length y337.length), (4, .int .i64 x4l0)]) [0, 2, 3, 4] (by kernel_rfl) ?_
    refine NN.block_n ?_
    refine NN.then ?_
    refine J.plain ?_
    refine LL.op (.int .i64 x4l0) (by kernel_rfl) (fun w _ => by kernel_rfl) ?_
    refine LL.op (.int .i64 (IntKind.i64.wrap (x4l0 + 1))) (by kernel_rfl) (fun w _ => by kernel_rfl) ?_
    refine LL.op (.int .i64 (IntKind.i64.wrap (x4l0 + 1))) (by kernel_rfl) (fun w _ => by kernel_rfl) ?_
    refine LL.done (s' := [(0, .int .i64 a0), (2, .slice none 0 0), (3, .slice (some ⟨g338, 0, none⟩) y337.length y337.length), (4, .int .i64 (IntKind.i64.wrap (x4l0 + 1)))]) [0, 2, 3, 4] (by kernel_rfl) ?_
    exact NN.round' [0, 2, 3, 4] (bs' := [(g338, cl (List.map eI (zg338l0.set x4l0.toNat (-1))) 3)]) (Nat.lt_succ_self _) (List.Sublist.refl _) (by kernel_rfl) ⟨IntKind.i64.wrap (x4l0 + 1), (zg338l0.set x4l0.toNat (-1)), H, (List.length_set.trans lenzg338l0), rfl, rfl⟩
  · rw [if_neg (of_decide_eq_false c342)] at H
    refine J.condF (b := decide (x4l0 < a0)) c342 (by kernel_rfl) (by kernel_rfl) ?_
    refine J.exit ?_
    refine NN.then_exit ?_
    refine NN.then_exit ?_
    refine NN.block_same ?_
    refine NN.then ?_
    refine J.seq ?_
    refine J.plain ?_
    refine LL.op (.slice (some ⟨g338, 0, none⟩) y337.length y337.length) (by kernel_rfl) (fun w _ => by kernel_rfl) ?_
    refine LL.op (.slice (some ⟨g338, 0, none⟩) y337.length y337.length) (by kernel_rfl) (fun w _ => by kernel_rfl) ?_
    refine LL.done (s' := [(2, .slice (some ⟨g338, 0, none⟩) y337.length y337.length)]) [2] (by kernel_rfl) ?_
    refine NN.then ?_
    refine J.ret ?_
    obtain rfl := Option.some.inj H
    exact NN.fin1 2 (.slice (some ⟨g338, 0, none⟩) y337.length y337.length) (by kernel_rfl) (by kernel_rfl) (.inl rfl) (fun w hi => ⟨g338, y337.length, rfl, lenzg338l0, hi⟩)

/-! ### sawmillref48_augment: function 56 -/
def sawmillref48_augment.l0 (K : Nat) (a0 : List (List E4)) (a1 : Int) (a4 : Int) (rec_ : (List (List E4)) → Int → (List E3) → (List E4) → Int → Option (Bool × List E4 × List E3)) : Nat → Int → List E4 → List E3 → Option (Bool × List E4 × List E3)
  | 0, _, _, _ => none
  | k + 1, x11l0, zta3l0, zta2l0 => if x11l0 < (zta2l0.length : Int) then ((idx a0 a1).bind fun e347 => ((idx e347 x11l0).bind fun e353 => (if e353 = true then ((idx zta3l0 x11l0).bind fun e355 => (if e355 = true then (sawmillref48_augment.l0 K a0 a1 a4 rec_ k (IntKind.i64.wrap (x11l0 + 1)) zta3l0 zta2l0) else ((idx zta2l0 x11l0).bind fun e357 => (if e357 < 0 then (some (true, (zta3l0.set x11l0.toNat true), (zta2l0.set x11l0.toNat a1))) else ((rec_ a0 e357 zta2l0 (zta3l0.set x11l0.toNat true) a4).bind fun bx359 => (if bx359.1 = true then ((idx bx359.2.2 x11l0).bind fun e363 => (some (true, bx359.2.1, (bx359.2.2.set x11l0.toNat a1)))) else (sawmillref48_augment.l0 K a0 a1 a4 rec_ k (IntKind.i64.wrap (x11l0 + 1)) bx359.2.1 bx359.2.2))))))) else (sawmillref48_augment.l0 K a0 a1 a4 rec_ k (IntKind.i64.wrap (x11l0 + 1)) zta3l0 zta2l0)))) else (some (false, zta3l0, zta2l0))
def sawmillref48_augment.g (K : Nat) (rec_ : (List (List E4)) → Int → (List E3) → (List E4) → Int → Option (Bool × List E4 × List E3)) (a0 : List (List E4)) (a1 : Int) (a2 : List E3) (a3 : List E4) (a4 : Int) : Option (Bool × List E4 × List E3) := sawmillref48_augment.l0 K a0 a1 a4 rec_ K a4 a3 a2
def sawmillref48_augment.f : Nat → (List (List E4)) → Int → (List E3) → (List E4) → Int → Option (Bool × List E4 × List E3)
  | 0, _, _, _, _, _ => none
  | K + 1, a0, a1, a2, a3, a4 => sawmillref48_augment.g K (sawmillref48_augment.f K) a0 a1 a2 a3 a4
set_option maxRecDepth 100000 in
theorem sawmillref48_augment.calls : ∀ (K : Nat) (a0 : List (List E4)) (a1 : Int) (a2 : List E3) (a3 : List E4) (a4 : Int) (Aa0 : Option Addr) (ca0 : Nat) (ta3 na3 : Nat) (ta2 na2 : Nat) (c : Cx) (rest : Bs) (r1 : Bool) (rS : List E4) (rT : List E3) (w : World) (ha0 : KRow2 c enc4 1 a0 Aa0) (lena3 : a3.length = na3) (lena2 : a2.length = na2) (hi : Inv c ([(ta3, cl (List.map eB a3) 4), (ta2, cl (List.map eI a2) 3)] ++ rest) w) (h : sawmillref48_augment.f K a0 a1 a2 a3 a4 = some (r1, rS, rT)),
    Calls Try.prog 56 #[.slice Aa0 a0.length ca0, .int .i64 a1, .slice (some ⟨ta2, 0, none⟩) na2 na2, .slice (some ⟨ta3, 0, none⟩) na3 na3, .int .i64 a4] w (fun e w_ => e = .returned (.bool r1) ∧ Inv c ([(ta3, cl (List.map eB rS) 4), (ta2, cl (List.map eI rT) 3)] ++ rest) w_ ∧ rS.length = na3 ∧ rT.length = na2) := by
  intro K
  induction K with
  | zero =>
    intro a0 a1 a2 a3 a4 Aa0 ca0 ta3 na3 ta2 na2 c rest r1 rS rT w ha0 lena3 lena2 hi h
    exact absurd h (by simp [sawmillref48_augment.f])
  | succ K ih =>
    intro a0 a1 a2 a3 a4 Aa0 ca0 ta3 na3 ta2 na2 c rest r1 rS rT w ha0 lena3 lena2 hi h
    have H : sawmillref48_augment.g K (sawmillref48_augment.f K) a0 a1 a2 a3 a4 = some (r1, rS, rT) := h
    clear h
    unfold sawmillref48_augment.g at H
    refine Go.Saw.callsI (args := [.slice Aa0 a0.length ca0, .int .i64 a1, .slice (some ⟨ta2, 0, none⟩) na2 na2, .slice (some ⟨ta3, 0, none⟩) na3 na3, .int .i64 a4]) hi Try.func56 rfl Try.ntmps56 (by kernel_rfl) ?_
    clear hi
    refine J.seq ?_
    refine J.plain ?_
    refine LL.op (.bool false) (by kernel_rfl) (fun w _ => by kernel_rfl) ?_
    refine LL.done (s' := [(0, .slice Aa0 a0.length ca0), (1, .int .i64 a1), (2, .slice (some ⟨ta2, 0, none⟩) na2 na2), (3, .slice (some ⟨ta3, 0, none⟩) na3 na3), (4, .int .i64 a4), (10, .bool false)]) [0, 1, 2, 3, 4, 10] (by kernel_rfl) ?_
    refine NN.then ?_
    refine J.seq ?_
    refine J.seq ?_
    refine J.plain ?_
    refine LL.op (.int .i64 a4) (by kernel_rfl) (fun w _ => by kernel_rfl) ?_
    refine LL.op (.int .i64 a4) (by kernel_rfl) (fun w _ => by kernel_rfl) ?_
    refine LL.done (s' := [(0, .slice Aa0 a0.length ca0), (1, .int .i64 a1), (2, .slice (some ⟨ta2, 0, none⟩) na2 na2), (3, .slice (some ⟨ta3, 0, none⟩) na3 na3), (4, .int .i64 a4), (10, .bool false), (11, .int .i64 a4)]) [0, 1, 2, 3, 4, 10, 11] (by kernel_rfl) ?_
    refine NN.then ?_
    refine J.block ?_
    refine J.to [0, 1, 2, 3, 4, 10, 11] (s' := [(0, .slice Aa0 a0.length ca0), (1, .int .i64 a1), (2, .slice (some ⟨ta2, 0, none⟩) na2 na2), (3, .slice (some ⟨ta3, 0, none⟩) na3 na3), (4, .int .i64 a4), (10, .bool false), (11, .int .i64 a4)]) (by kernel_rfl) ?_
    refine J.loop (fun n_ s_ bs_ => ∃ (x11l0 : Int) (zta3l0 : List E4) (zta2l0 : List E3), sawmillref48_augment.l0 K a0 a1 a4 (sawmillref48_augment.f K) n_ x11l0 zta3l0 zta2l0 = some (r1, rS, rT) ∧ zta3l0.length = na3 ∧ zta2l0.length = na2 ∧ s_ = [(0, .slice Aa0 a0.length ca0), (1, .int .i64 a1), (2, .slice (some ⟨ta2, 0, none⟩) na2 na2), (3, .slice (some ⟨ta3, 0, none⟩) na3 na3), (4, .int .i64 a4), (10, .bool false), (11, .int .i64 x11l0)] ∧ [(ta3, cl (List.map eB zta3l0) 4), (ta2, cl (List.map eI zta2l0) 3)] ++ rest = bs_) K ⟨a4, a3, a2, H, lena3, lena2, rfl, rfl⟩ ?_
    rintro (_ | n_) s_ bs_ ⟨x11l0, zta3l0, zta2l0, H, lenzta3l0, lenzta2l0, rfl, rfl⟩
    · exact absurd H (by simp [sawmillref48_augment.l0])
    simp only [sawmillref48_augment.l0] at H
    refine J.seq ?_
    refine J.seq ?_
    refine J.plain ?_
    refine LL.op (.int .i64 x11l0) (by kernel_rfl) (fun w _ => by kernel_rfl) ?_
    refine LL.op (.slice (some ⟨ta2, 0, none⟩) na2 na2) (by kernel_rfl) (fun w _ => by kernel_rfl) ?_
    refine LL.op (.int .i64 (na2 : Int)) (by kernel_rfl) (fun w _ => by kernel_rfl) ?_
    refine LL.int 15 (na2 : Int) (zta2l0.length : Int) (by rw [show zta2l0.length = na2 from lenzta2l0]) (by kernel_rfl) ?_
    refine LL.op (.bool (decide (x11l0 < (zta2l0.length : Int)))) (by kernel_rfl) (fun w _ => by kernel_rfl) ?_
    refine LL.done (s' := [(0, .slice Aa0 a0.length ca0), (1, .int .i64 a1), (2, .slice (some ⟨ta2, 0, none⟩) na2 na2), (3, .slice (some ⟨ta3, 0, none⟩) na3 na3), (4, .int .i64 a4), (10, .bool false), (11, .int .i64 x11l0), (16, .bool (decide (x11l0 < (zta2l0.length : Int))))]) [0, 1, 2, 3, 4, 10, 11, 16] (by kernel_rfl) ?_
    refine NN.then ?_
    rcases Bool.eq_false_or_eq_true (decide (x11l0 < (zta2l0.length : Int))) with c346 | c346
    · rw [if_pos (of_decide_eq_true c346)] at H
      refine J.condT (b := decide (x11l0 < (zta2l0.length : Int))) c346 (by kernel_rfl) (by kernel_rfl) ?_
      refine J.skip ?_
      refine NN.then ?_
      refine J.seq ?_
      refine J.block ?_
      refine J.seq ?_
      refine J.seq ?_
      refine J.plain ?_
      refine LL.op (.slice Aa0 a0.length ca0) (by kernel_rfl) (fun w _ => by kernel_rfl) ?_
      refine LL.op (.int .i64 a1) (by kernel_rfl) (fun w _ => by kernel_rfl) ?_
      obtain ⟨e347, he347, H⟩ := bind_some H
      refine LL.op (.pointer (rp Aa0 (a1.toNat * 1 + 0))) (by kernel_rfl) (idx2 (cp := ca0) (ik := .i64) ha0 he347 rfl (by kernel_rfl) (by kernel_rfl) (by kernel_rfl)) ?_
      obtain ⟨A348, c349, k350, ld351⟩ := KRow2.row ha0 he347
      refine LL.op (.slice A348 e347.length c349) (by kernel_rfl) (ld351 rfl (by kernel_rfl) (by kernel_rfl)) ?_
      refine LL.op (.int .i64 x11l0) (by kernel_rfl) (fun w _ => by kernel_rfl) ?_
      obtain ⟨e353, he353, H⟩ := bind_some H
      refine LL.op (.pointer (rp A348 (x11l0.toNat * 1 + 0))) (by kernel_rfl) (idxR (cp := c349) (ik := .i64) k350 he353 rfl (by kernel_rfl) (by kernel_rfl) (by kernel_rfl)) ?_
      refine LL.op (.bool e353) (by kernel_rfl) (ldR (off := 0) k350 he353 rfl (by kernel_rfl) (by kernel_rfl)) ?_
      refine LL.op (.bool (!e353)) (by kernel_rfl) (fun w _ => by kernel_rfl) ?_
      refine LL.op (.bool (!e353)) (by kernel_rfl) (fun w _ => by kernel_rfl) ?_
      rcases Bool.eq_false_or_eq_true (e353) with c354 | c354
      · rw [if_pos (c354)] at H
        refine LL.bool 27 (!e353) false (by rw [show (!e353) = !(e353) from rfl, c354]; rfl) (by kernel_rfl) ?_
        refine LL.op (.slice (some ⟨ta3, 0, none⟩) na3 na3) (by kernel_rfl) (fun w _ => by kernel_rfl) ?_
        refine LL.op (.int .i64 x11l0) (by kernel_rfl) (fun w _ => by kernel_rfl) ?_
        obtain ⟨e355, he355, H⟩ := bind_some H
        refine LL.op (.pointer (rp (some ⟨ta3, 0, none⟩) (x11l0.toNat * 1 + 0))) (by kernel_rfl) (idxL (ik := .i64) (n := na3) (e1 := eB) (l := zta3l0) 0 ta3 rfl he355 lenzta3l0 rfl (by kernel_rfl) (by kernel_rfl) (by kernel_rfl)) ?_
        refine LL.op (.bool e355) (by kernel_rfl) (ldL (e1 := eB) (l := zta3l0) 0 ta3 rfl he355 rfl (by kernel_rfl) (by kernel_rfl)) ?_
        refine LL.op (.bool e355) (by kernel_rfl) (fun w _ => by kernel_rfl) ?_
        refine LL.done (s' := [(0, .slice Aa0 a0.length ca0), (1, .int .i64 a1), (2, .slice (some ⟨ta2, 0, none⟩) na2 na2), (3, .slice (some ⟨ta3, 0, none⟩) na3 na3), (4, .int .i64 a4), (10, .bool false), (11, .int .i64 x11l0), (32, .bool e355)]) [0, 1, 2, 3, 4, 10, 11, 32] (by kernel_rfl) ?_
        refine NN.then ?_
        rcases Bool.eq_false_or_eq_true (e355) with c356 | c356
        · rw [if_pos (c356)] at H
          refine J.condT (b := e355) c356 (by kernel_rfl) (by kernel_rfl) ?_
          refine J.exit ?_
          refine NN.then_exit ?_
          refine NN.block_same ?_
          refine NN.then ?_
          refine J.plain ?_
          refine LL.op (.int .i64 x11l0) (by kernel_rfl) (fun w _ => by kernel_rfl) ?_
          refine LL.op (.int .i64 (IntKind.i64.wrap (x11l0 + 1))) (by kernel_rfl) (fun w _ => by kernel_rfl) ?_
          refine LL.op (.int .i64 (IntKind.i64.wrap (x11l0 + 1))) (by kernel_rfl) (fun w _ => by kernel_rfl) ?_
          refine LL.done (s' := [(0, .slice Aa0 a0.length ca0), (1, .int .i64 a1), (2, .slice (some ⟨ta2, 0, none⟩) na2 na2), (3, .slice (some ⟨ta3, 0, none⟩) na3 na3), (4, .int .i64 a4), (10, .bool false), (11, .int .i64 (IntKind.i64.wrap (x11l0 + 1)))]) [0, 1, 2, 3, 4, 10, 11] (by kernel_rfl) ?_
          exact NN.round' [0, 1, 2, 3, 4, 10, 11] (bs' := [(ta3, cl (List.map eB zta3l0) 4), (ta2, cl (List.map eI zta2l0) 3)] ++ rest) (Nat.lt_succ_self _) ((List.Sublist.refl _).append_right _) (by kernel_rfl) ⟨IntKind.i64.wrap (x11l0 + 1), zta3l0, zta2l0, H, lenzta3l0, lenzta2l0, rfl, rfl⟩
        · rw [if_neg (nebt c356)] at H
          refine J.condF (b := e355) c356 (by kernel_rfl) (by kernel_rfl) ?_
          refine J.skip ?_
          refine NN.then ?_
          refine J.seq ?_
          refine J.plain ?_
          refine LL.op (.slice (some ⟨ta3, 0, none⟩) na3 na3) (by kernel_rfl) (fun w _ => by kernel_rfl) ?_
          refine LL.op (.int .i64 x11l0) (by kernel_rfl) (fun w _ => by kernel_rfl) ?_
          refine LL.op (.pointer (rp (some ⟨ta3, 0, none⟩) (x11l0.toNat * 1 + 0))) (by kernel_rfl) (idxL (ik := .i64) (n := na3) (e1 := eB) (l := zta3l0) 0 ta3 rfl he355 lenzta3l0 rfl (by kernel_rfl) (by kernel_rfl) (by kernel_rfl)) ?_
          refine LL.storeL (e1 := eB) (l := zta3l0) (y := true) (bs' := [(ta3, cl (List.map eB (zta3l0.set x11l0.toNat true)) 4), (ta2, cl (List.map eI zta2l0) 3)] ++ rest) 0 ta3 one4 rfl rfl he355 (by kernel_rfl) rfl (by kernel_rfl) (by kernel_rfl) ?_
          refine LL.done (s' := [(0, .slice Aa0 a0.length ca0), (1, .int .i64 a1), (2, .slice (some ⟨ta2, 0, none⟩) na2 na2), (3, .slice (some ⟨ta3, 0, none⟩) na3 na3), (4, .int .i64 a4), (10, .bool false), (11, .int .i64 x11l0)]) [0, 1, 2, 3, 4, 10, 11] (by kernel_rfl) ?_
          refine NN.then ?_
          refine J.seq ?_
          refine J.plain ?_
          refine LL.op (.slice (some ⟨ta2, 0, none⟩) na2 na2) (by kernel_rfl) (fun w _ => by kernel_rfl) ?_
          refine LL.op (.int .i64 x11l0) (by kernel_rfl) (fun w _ => by kernel_rfl) ?_
          obtain ⟨e357, he357, H⟩ := bind_some H
          refine LL.op (.pointer (rp (some ⟨ta2, 0, none⟩) (x11l0.toNat * 1 + 0))) (by kernel_rfl) (idxL (ik := .i64) (n := na2) (e1 := eI) (l := zta2l0) 1 ta2 rfl he357 lenzta2l0 rfl (by kernel_rfl) (by kernel_rfl) (by kernel_rfl)) ?_
          refine LL.op (.int .i64 e357) (by kernel_rfl) (ldL (e1 := eI) (l := zta2l0) 1 ta2 rfl he357 rfl (by kernel_rfl) (by kernel_rfl)) ?_
          refine LL.op (.bool (decide (e357 < 0))) (by kernel_rfl) (fun w _ => by kernel_rfl) ?_
          refine LL.op (.bool (decide (e357 < 0))) (by kernel_rfl) (fun w _ => by kernel_rfl) ?_
          rcases Bool.eq_false_or_eq_true (decide (e357 < 0)) with c358 | c358
          · rw [if_pos (of_decide_eq_true c358)] at H
            refine LL.bool 41 (decide (e357 < 0)) true c358 (by kernel_rfl) ?_
            refine LL.off (by kernel_rfl) (by kernel_rfl) ?_
            refine LL.off (by kernel_rfl) (by kernel_rfl) ?_
            refine LL.off (by kernel_rfl) (by kernel_rfl) ?_
            refine LL.off (by kernel_rfl) (by kernel_rfl) ?_
            refine LL.off (by kernel_rfl) (by kernel_rfl) ?_
            refine LL.off (by kernel_rfl) (by kernel_rfl) ?_
            refine LL.off (by kernel_rfl) (by kernel_rfl) ?_
            refine LL.off (by kernel_rfl) (by kernel_rfl) ?_
            refine LL.off (by kernel_rfl) (by kernel_rfl) ?_
            refine LL.op (.bool true) (by kernel_rfl) (fun w _ => by kernel_rfl) ?_
            refine LL.done (s' := [(0, .slice Aa0 a0.length ca0), (1, .int .i64 a1), (2, .slice (some ⟨ta2, 0, none⟩) na2 na2), (3, .slice (some ⟨ta3, 0, none⟩) na3 na3), (4, .int .i64 a4), (10, .bool false), (11, .int .i64 x11l0), (51, .bool true)]) [0, 1, 2, 3, 4, 10, 11, 51] (by kernel_rfl) ?_
            refine NN.then ?_
            refine J.condT (b := true) rfl (by kernel_rfl) (by kernel_rfl) ?_
            refine J.seq ?_
            refine J.plain ?_
            refine LL.op (.slice (some ⟨ta2, 0, none⟩) na2 na2) (by kernel_rfl) (fun w _ => by kernel_rfl) ?_
            refine LL.op (.int .i64 x11l0) (by kernel_rfl) (fun w _ => by kernel_rfl) ?_
            refine LL.op (.int .i64 a1) (by kernel_rfl) (fun w _ => by kernel_rfl) ?_
            refine LL.op (.pointer (rp (some ⟨ta2, 0, none⟩) (x11l0.toNat * 1 + 0))) (by kernel_rfl) (idxL (ik := .i64) (n := na2) (e1 := eI) (l := zta2l0) 1 ta2 rfl he357 lenzta2l0 rfl (by kernel_rfl) (by kernel_rfl) (by kernel_rfl)) ?_
            refine LL.storeL (e1 := eI) (l := zta2l0) (y := a1) (bs' := [(ta3, cl (List.map eB (zta3l0.set x11l0.toNat true)) 4), (ta2, cl (List.map eI (zta2l0.set x11l0.toNat a1)) 3)] ++ rest) 1 ta2 one3 rfl rfl he357 (by kernel_rfl) rfl (by kernel_rfl) (by kernel_rfl) ?_
            refine LL.done (s' := [(0, .slice Aa0 a0.length ca0), (1, .int .i64 a1), (2, .slice (some ⟨ta2, 0, none⟩) na2 na2), (3, .slice (some ⟨ta3, 0, none⟩) na3 na3), (4, .int .i64 a4), (10, .bool false), (11, .int .i64 x11l0)]) [0, 1, 2, 3, 4, 10, 11] (by kernel_rfl) ?_
            refine NN.then ?_
            refine J.seq ?_
            refine J.plain ?_
            refine LL.op (.bool true) (by kernel_rfl) (fun w _ => by kernel_rfl) ?_
            refine LL.done (s' := [(0, .slice Aa0 a0.length ca0), (1, .int .i64 a1), (2, .slice (some ⟨ta2, 0, none⟩) na2 na2), (3, .slice (some ⟨ta3, 0, none⟩) na3 na3), (4, .int .i64 a4), (10, .bool true), (11, .int .i64 x11l0)]) [0, 1, 2, 3, 4, 10, 11] (by kernel_rfl) ?_
            refine NN.then ?_
            refine J.ret ?_
            refine NN.block_ret ?_
            refine NN.then_ret ?_
            refine NN.then_ret ?_
            refine NN.block_ret ?_
            refine NN.then_ret ?_
            simp only [Option.some.injEq, Prod.mk.injEq] at H; obtain ⟨rfl, rfl, rfl⟩ := H
            exact NN.fin1 10 (.bool true) (by kernel_rfl) (by kernel_rfl) (.inl rfl) (fun w hi => ⟨rfl, hi, (List.length_set.trans lenzta3l0), (List.length_set.trans lenzta2l0)⟩)
          · rw [if_neg (of_decide_eq_false c358)] at H
            refine LL.bool 41 (decide (e357 < 0)) false c358 (by kernel_rfl) ?_
            refine LL.op (.slice Aa0 a0.length ca0) (by kernel_rfl) (fun w _ => by kernel_rfl) ?_
            refine LL.op (.slice (some ⟨ta2, 0, none⟩) na2 na2) (by kernel_rfl) (fun w _ => by kernel_rfl) ?_
            refine LL.op (.int .i64 x11l0) (by kernel_rfl) (fun w _ => by kernel_rfl) ?_
            refine LL.op (.pointer (rp (some ⟨ta2, 0, none⟩) (x11l0.toNat * 1 + 0))) (by kernel_rfl) (idxL (ik := .i64) (n := na2) (e1 := eI) (l := zta2l0) 1 ta2 rfl he357 lenzta2l0 rfl (by kernel_rfl) (by kernel_rfl) (by kernel_rfl)) ?_
            refine LL.op (.int .i64 e357) (by kernel_rfl) (ldL (e1 := eI) (l := zta2l0) 1 ta2 rfl he357 rfl (by kernel_rfl) (by kernel_rfl)) ?_
            refine LL.op (.slice (some ⟨ta2, 0, none⟩) na2 na2) (by kernel_rfl) (fun w _ => by kernel_rfl) ?_
            refine LL.op (.slice (some ⟨ta3, 0, none⟩) na3 na3) (by kernel_rfl) (fun w _ => by kernel_rfl) ?_
            refine LL.op (.int .i64 a4) (by kernel_rfl) (fun w _ => by kernel_rfl) ?_
            obtain ⟨⟨x359_1, x359_2, x359_3⟩, hx359, H⟩ := bind_some H
            (try dsimp only at H)
            refine LL.callA 56 #[.slice Aa0 a0.length ca0, .int .i64 e357, .slice (some ⟨ta2, 0, none⟩) na2 na2, .slice (some ⟨ta3, 0, none⟩) na3 na3, .int .i64 a4] (.bool x359_1) ([(ta3, cl (List.map eB x359_2) 4), (ta2, cl (List.map eI x359_3) 3)] ++ rest) (x359_2.length = na3 ∧ x359_3.length = na2) (by kernel_rfl) (fun w => by kernel_rfl) (fun w hw => ih a0 e357 zta2l0 (zta3l0.set x11l0.toNat true) a4 Aa0 ca0 ta3 na3 ta2 na2 _ rest _ _ _ w ha0 (List.length_set.trans lenzta3l0) lenzta2l0 hw hx359) (fun ⟨len360, len361⟩ => ?_)
            refine LL.op (.bool x359_1) (by kernel_rfl) (fun w _ => by kernel_rfl) ?_
            refine LL.done (s' := [(0, .slice Aa0 a0.length ca0), (1, .int .i64 a1), (2, .slice (some ⟨ta2, 0, none⟩) na2 na2), (3, .slice (some ⟨ta3, 0, none⟩) na3 na3), (4, .int .i64 a4), (10, .bool false), (11, .int .i64 x11l0), (51, .bool x359_1)]) [0, 1, 2, 3, 4, 10, 11, 51] (by kernel_rfl) ?_
            refine NN.then ?_
            rcases Bool.eq_false_or_eq_true (x359_1) with c362 | c362
            · rw [if_pos (c362)] at H
              refine J.condT (b := x359_1) c362 (by kernel_rfl) (by kernel_rfl) ?_
              refine J.seq ?_
              refine J.plain ?_
              refine LL.op (.slice (some ⟨ta2, 0, none⟩) na2 na2) (by kernel_rfl) (fun w _ => by kernel_rfl) ?_
              refine LL.op (.int .i64 x11l0) (by kernel_rfl) (fun w _ => by kernel_rfl) ?_
              refine LL.op (.int .i64 a1) (by kernel_rfl) (fun w _ => by kernel_rfl) ?_
              obtain ⟨e363, he363, H⟩ := bind_some H
              refine LL.op (.pointer (rp (some ⟨ta2, 0, none⟩) (x11l0.toNat * 1 + 0))) (by kernel_rfl) (idxL (ik := .i64) (n := na2) (e1 := eI) (l := x359_3) 1 ta2 rfl he363 len361 rfl (by kernel_rfl) (by kernel_rfl) (by kernel_rfl)) ?_
              refine LL.storeL (e1 := eI) (l := x359_3) (y := a1) (bs' := [(ta3, cl (List.map eB x359_2) 4), (ta2, cl (List.map eI (x359_3.set x11l0.toNat a1)) 3)] ++ rest) 1 ta2 one3 rfl rfl he363 (by kernel_rfl) rfl (by kernel_rfl) (by kernel_rfl) ?_
              refine LL.done (s' := [(0, .slice Aa0 a0.length ca0), (1, .int .i64 a1), (2, .slice (some ⟨ta2, 0, none⟩) na2 na2), (3, .slice (some ⟨ta3, 0, none⟩) na3 na3), (4, .int .i64 a4), (10, .bool false), (11, .int .i64 x11l0)]) [0, 1, 2, 3, 4, 10, 11] (by kernel_rfl) ?_
              refine NN.then ?_
              refine J.seq ?_
              refine J.plain ?_
              refine LL.op (.bool true) (by kernel_rfl) (fun w _ => by kernel_rfl) ?_
              refine LL.done (s' := [(0, .slice Aa0 a0.length ca0), (1, .int .i64 a1), (2, .slice (some ⟨ta2, 0, none⟩) na2 na2), (3, .slice (some ⟨ta3, 0, none⟩) na3 na3), (4, .int .i64 a4), (10, .bool true), (11, .int .i64 x11l0)]) [0, 1, 2, 3, 4, 10, 11] (by kernel_rfl) ?_
              refine NN.then ?_
              refine J.ret ?_
              refine NN.block_ret ?_
              refine NN.then_ret ?_
              refine NN.then_ret ?_
              refine NN.block_ret ?_
              refine NN.then_ret ?_
              simp only [Option.some.injEq, Prod.mk.injEq] at H; obtain ⟨rfl, rfl, rfl⟩ := H
              exact NN.fin1 10 (.bool true) (by kernel_rfl) (by kernel_rfl) (.inl rfl) (fun w hi => ⟨rfl, hi, len360, (List.length_set.trans len361)⟩)
            · rw [if_neg (nebt c362)] at H
              refine J.condF (b := x359_1) c362 (by kernel_rfl) (by kernel_rfl) ?_
              refine J.skip ?_
              refine NN.block_n ?_
              refine NN.then ?_
              refine J.plain ?_
              refine LL.op (.int .i64 x11l0) (by kernel_rfl) (fun w _ => by kernel_rfl) ?_
              refine LL.op (.int .i64 (IntKind.i64.wrap (x11l0 + 1))) (by kernel_rfl) (fun w _ => by kernel_rfl) ?_
              refine LL.op (.int .i64 (IntKind.i64.wrap (x11l0 + 1))) (by kernel_rfl) (fun w _ => by kernel_rfl) ?_
              refine LL.done (s' := [(0, .slice Aa0 a0.length ca0), (1, .int .i64 a1), (2, .slice (some ⟨ta2, 0, none⟩) na2 na2), (3, .slice (some ⟨ta3, 0, none⟩) na3 na3), (4, .int .i64 a4), (10, .bool false), (11, .int .i64 (IntKind.i64.wrap (x11l0 + 1)))]) [0, 1, 2, 3, 4, 10, 11] (by kernel_rfl) ?_
              exact NN.round' [0, 1, 2, 3, 4, 10, 11] (bs' := [(ta3, cl (List.map eB x359_2) 4), (ta2, cl (List.map eI x359_3) 3)] ++ rest) (Nat.lt_succ_self _) ((List.Sublist.refl _).append_right _) (by kernel_rfl) ⟨IntKind.i64.wrap (x11l0 + 1), x359_2, x359_3, H, len360, len361, rfl, rfl⟩
      · rw [if_neg (nebt c354)] at H
        refine LL.bool 27 (!e353) true (by rw [show (!e353) = !(e353) from rfl, c354]; rfl) (by kernel_rfl) ?_
        refine LL.off (by kernel_rfl) (by kernel_rfl) ?_
        refine LL.off (by kernel_rfl) (by kernel_rfl) ?_
        refine LL.off (by kernel_rfl) (by kernel_rfl) ?_
        refine LL.off (by kernel_rfl) (by kernel_rfl) ?_
        refine LL.op (.bool true) (by kernel_rfl) (fun w _ => by kernel_rfl) ?_
        refine LL.done (s' := [(0, .slice Aa0 a0.length ca0), (1, .int .i64 a1), (2, .slice (some ⟨ta2, 0, none⟩) na2 na2), (3, .slice (some ⟨ta3, 0, none⟩) na3 na3), (4, .int .i64 a4), (10, .bool false), (11, .int .i64 x11l0), (32, .bool true)]) [0, 1, 2, 3, 4, 10, 11, 32] (by kernel_rfl) ?_
        refine NN.then ?_
        refine J.condT (b := true) rfl (by kernel_rfl) (by kernel_rfl) ?_
        refine J.exit ?_
        refine NN.then_exit ?_
        refine NN.block_same ?_
        refine NN.then ?_
        refine J.plain ?_
        refine LL.op (.int .i64 x11l0) (by kernel_rfl) (fun w _ => by kernel_rfl) ?_
        refine LL.op (.int .i64 (IntKind.i64.wrap (x11l0 + 1))) (by kernel_rfl) (fun w _ => by kernel_rfl) ?_
        refine LL.op (.int .i64 (IntKind.i64.wrap (x11l0 + 1))) (by kernel_rfl) (fun w _ => by kernel_rfl) ?_
        refine LL.done (s' := [(0, .slice Aa0 a0.length ca0), (1, .int .i64 a1), (2, .slice (some ⟨ta2, 0, none⟩) na2 na2), (3, .slice (some ⟨ta3, 0, none⟩) na3 na3), (4, .int .i64 a4), (10, .bool false), (11, .int .i64 (IntKind.i64.wrap (x11l0 + 1)))]) [0, 1, 2, 3, 4, 10, 11] (by kernel_rfl) ?_
        exact NN.round' [0, 1, 2, 3, 4, 10, 11] (bs' := [(ta3, cl (List.map eB zta3l0) 4), (ta2, cl (List.map eI zta2l0) 3)] ++ rest) (Nat.lt_succ_self _) ((List.Sublist.refl _).append_right _) (by kernel_rfl) ⟨IntKind.i64.wrap (x11l0 + 1), zta3l0, zta2l0, H, lenzta3l0, lenzta2l0, rfl, rfl⟩
    · rw [if_neg (of_decide_eq_false c346)] at H
      refine J.condF (b := decide (x11l0 < (zta2l0.length : Int))) c346 (by kernel_rfl) (by kernel_rfl) ?_
      refine J.exit ?_
      refine NN.then_exit ?_
      refine NN.then_exit ?_
      refine NN.block_same ?_
      refine NN.then ?_
      refine J.seq ?_
      refine J.plain ?_
      refine LL.op (.bool false) (by kernel_rfl) (fun w _ => by kernel_rfl) ?_
      refine LL.done (s' := [(10, .bool false)]) [10] (by kernel_rfl) ?_
      refine NN.then ?_
      refine J.ret ?_
      simp only [Option.some.injEq, Prod.mk.injEq] at H; obtain ⟨rfl, rfl, rfl⟩ := H
      exact NN.fin1 10 (.bool false) (by kernel_rfl) (by kernel_rfl) (.inl rfl) (fun w hi => ⟨rfl, hi, lenzta3l0, lenzta2l0⟩)

end Go.Proofs.Ytbogdbbmmlaohaa
