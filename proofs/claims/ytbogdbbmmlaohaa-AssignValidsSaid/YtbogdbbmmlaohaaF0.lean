/- Walks of functions of the seat: each call does what the Lean function of the same name says. Printed by the session's own program absgen.py. -/
import Derived.Test.YtbogdbbmmlaohaaE
namespace Go.Proofs.Ytbogdbbmmlaohaa
open Go.Saw
set_option linter.unusedVariables false
set_option linter.unusedSimpArgs false

theorem follows : Try.prog.follows .mixedOrders = true := by kernel_rfl

/-! ### assign_columns: function 33 -/
def assign_columns.f (a0 : List (List E4)) : Option (Int) := if (a0.length : Int) = 0 then (some 0) else ((idx a0 0).bind fun e2 => (some (e2.length : Int)))
set_option maxRecDepth 100000 in
theorem assign_columns.calls (a0 : List (List E4))  (Aa0 : Option Addr) (ca0 : Nat)  (r1 : Int) (w : World)   (ha0 : KRow2 (Cx.start w) enc4 1 a0 Aa0) (h : assign_columns.f a0 = some r1) :
    Calls Try.prog 33 #[.slice Aa0 a0.length ca0] w (Ret w (.int .i64 r1)) := by
  have H := h
  clear h
  unfold assign_columns.f at H
  refine Go.Saw.calls (args := [.slice Aa0 a0.length ca0]) Try.func33 rfl Try.ntmps33 (by kernel_rfl) ?_
  refine J.seq ?_
  refine J.plain ?_
  refine LL.op (.int .i64 0) (by kernel_rfl) (fun w _ => by kernel_rfl) ?_
  refine LL.done (s' := [(0, .slice Aa0 a0.length ca0), (2, .int .i64 0)]) [0, 2] (by kernel_rfl) ?_
  refine NN.then ?_
  refine J.seq ?_
  refine J.seq ?_
  refine J.plain ?_
  refine LL.op (.slice Aa0 a0.length ca0) (by kernel_rfl) (fun w _ => by kernel_rfl) ?_
  refine LL.op (.int .i64 (a0.length : Int)) (by kernel_rfl) (fun w _ => by kernel_rfl) ?_
  refine LL.op (.bool ((a0.length : Int) == 0)) (by kernel_rfl) (fun w _ => by kernel_rfl) ?_
  refine LL.done (s' := [(0, .slice Aa0 a0.length ca0), (2, .int .i64 0), (5, .bool ((a0.length : Int) == 0))]) [0, 2, 5] (by kernel_rfl) ?_
  refine NN.then ?_
  rcases Bool.eq_false_or_eq_true (((a0.length : Int) == 0)) with c1 | c1
  · rw [if_pos (eq_of_beq c1)] at H
    refine J.condT (b := ((a0.length : Int) == 0)) c1 (by kernel_rfl) (by kernel_rfl) ?_
    refine J.seq ?_
    refine J.plain ?_
    refine LL.op (.int .i64 0) (by kernel_rfl) (fun w _ => by kernel_rfl) ?_
    refine LL.done (s' := [(0, .slice Aa0 a0.length ca0), (2, .int .i64 0)]) [0, 2] (by kernel_rfl) ?_
    refine NN.then ?_
    refine J.ret ?_
    refine NN.then_ret ?_
    refine NN.fin1 2 (.int .i64 0) (by kernel_rfl) (by kernel_rfl) (.inl rfl) (fun w hi => hi.ret ?_)
    first | (cases H; rfl) | (obtain rfl := Option.some.inj H; rfl) | (simp only [Option.some.injEq, Prod.mk.injEq] at H; obtain ⟨rfl⟩ := H; rfl)
  · rw [if_neg (nebf c1)] at H
    refine J.condF (b := ((a0.length : Int) == 0)) c1 (by kernel_rfl) (by kernel_rfl) ?_
    refine J.skip ?_
    refine NN.then ?_
    refine J.seq ?_
    refine J.plain ?_
    refine LL.op (.slice Aa0 a0.length ca0) (by kernel_rfl) (fun w _ => by kernel_rfl) ?_
    obtain ⟨e2, he2, H⟩ := bind_some H
    refine LL.op (.pointer (rp Aa0 ((0 : Int).toNat * 1 + 0))) (by kernel_rfl) (idx2 (cp := ca0) (ik := .i64) ha0 he2 rfl (by kernel_rfl) (by kernel_rfl) (by kernel_rfl)) ?_
    obtain ⟨A3, c4, k5, ld6⟩ := KRow2.row ha0 he2
    refine LL.op (.slice A3 e2.length c4) (by kernel_rfl) (ld6 rfl (by kernel_rfl) (by kernel_rfl)) ?_
    refine LL.op (.int .i64 (e2.length : Int)) (by kernel_rfl) (fun w _ => by kernel_rfl) ?_
    refine LL.op (.int .i64 (e2.length : Int)) (by kernel_rfl) (fun w _ => by kernel_rfl) ?_
    refine LL.done (s' := [(2, .int .i64 (e2.length : Int))]) [2] (by kernel_rfl) ?_
    refine NN.then ?_
    refine J.ret ?_
    refine NN.fin1 2 (.int .i64 (e2.length : Int)) (by kernel_rfl) (by kernel_rfl) (.inl rfl) (fun w hi => hi.ret ?_)
    first | (cases H; rfl) | (obtain rfl := Option.some.inj H; rfl) | (simp only [Option.some.injEq, Prod.mk.injEq] at H; obtain ⟨rfl⟩ := H; rfl)

/-! ### assign_wanted: function 29 -/
def assign_wanted.f (a0 : Int) : Option (Bool) := if 0 ≤ a0 then (some (decide (a0 ≤ 200))) else (some false)
set_option maxRecDepth 100000 in
theorem assign_wanted.calls (a0 : Int)    (r1 : Bool) (w : World)    (h : assign_wanted.f a0 = some r1) :
    Calls Try.prog 29 #[.int .i64 a0] w (Ret w (.bool r1)) := by
  have H := h
  clear h
  unfold assign_wanted.f at H
  refine Go.Saw.calls (args := [.int .i64 a0]) Try.func29 rfl Try.ntmps29 (by kernel_rfl) ?_
  refine J.seq ?_
  refine J.plain ?_
  refine LL.op (.bool false) (by kernel_rfl) (fun w _ => by kernel_rfl) ?_
  refine LL.done (s' := [(0, .int .i64 a0), (2, .bool false)]) [0, 2] (by kernel_rfl) ?_
  refine NN.then ?_
  refine J.seq ?_
  refine J.plain ?_
  refine LL.op (.int .i64 a0) (by kernel_rfl) (fun w _ => by kernel_rfl) ?_
  refine LL.op (.bool (decide (0 ≤ a0))) (by kernel_rfl) (fun w _ => by kernel_rfl) ?_
  refine LL.op (.bool (decide (0 ≤ a0))) (by kernel_rfl) (fun w _ => by kernel_rfl) ?_
  rcases Bool.eq_false_or_eq_true (decide (0 ≤ a0)) with c8 | c8
  · rw [if_pos (of_decide_eq_true c8)] at H
    refine LL.bool 5 (decide (0 ≤ a0)) true c8 (by kernel_rfl) ?_
    refine LL.op (.int .i64 a0) (by kernel_rfl) (fun w _ => by kernel_rfl) ?_
    refine LL.op (.bool (decide (a0 ≤ 200))) (by kernel_rfl) (fun w _ => by kernel_rfl) ?_
    refine LL.op (.bool (decide (a0 ≤ 200))) (by kernel_rfl) (fun w _ => by kernel_rfl) ?_
    refine LL.op (.bool (decide (a0 ≤ 200))) (by kernel_rfl) (fun w _ => by kernel_rfl) ?_
    refine LL.done (s' := [(2, .bool (decide (a0 ≤ 200)))]) [2] (by kernel_rfl) ?_
    refine NN.then ?_
    refine J.ret ?_
    refine NN.fin1 2 (.bool (decide (a0 ≤ 200))) (by kernel_rfl) (by kernel_rfl) (.inl rfl) (fun w hi => hi.ret ?_)
    first | (cases H; rfl) | (obtain rfl := Option.some.inj H; rfl) | (simp only [Option.some.injEq, Prod.mk.injEq] at H; obtain ⟨rfl⟩ := H; rfl)
  · rw [if_neg (of_decide_eq_false c8)] at H
    refine LL.bool 5 (decide (0 ≤ a0)) false c8 (by kernel_rfl) ?_
    refine LL.off (by kernel_rfl) (by kernel_rfl) ?_
    refine LL.off (by kernel_rfl) (by kernel_rfl) ?_
    refine LL.op (.bool false) (by kernel_rfl) (fun w _ => by kernel_rfl) ?_
    refine LL.op (.bool false) (by kernel_rfl) (fun w _ => by kernel_rfl) ?_
    refine LL.done (s' := [(2, .bool false)]) [2] (by kernel_rfl) ?_
    refine NN.then ?_
    refine J.ret ?_
    refine NN.fin1 2 (.bool false) (by kernel_rfl) (by kernel_rfl) (.inl rfl) (fun w hi => hi.ret ?_)
    first | (cases H; rfl) | (obtain rfl := Option.some.inj H; rfl) | (simp only [Option.some.injEq, Prod.mk.injEq] at H; obtain ⟨rfl⟩ := H; rfl)

/-! ### assign_shaped: function 28 -/
def assign_shaped.l1 (K : Nat) (a0 : List (List E4)) (kont_ : Int → Option (Int)) : Nat → Int → Option (Int)
  | 0, _ => none
  | k + 1, x22l1 => if x22l1 < (a0.length : Int) then ((idx a0 x22l1).bind fun e23 => ((idx a0 0).bind fun e29 => (if (e23.length : Int) = (e29.length : Int) then (assign_shaped.l1 K a0 kont_ k (IntKind.i64.wrap (x22l1 + 1))) else (some 19)))) else (kont_ x22l1)
def assign_shaped.l0 (K : Nat) (a0 : List (List E4)) : Nat → Int → Option (Int)
  | 0, _ => none
  | k + 1, x12l0 => if x12l0 < (a0.length : Int) then ((idx a0 x12l0).bind fun e13 => (if 512 < (e13.length : Int) then (some 4) else (assign_shaped.l0 K a0 k (IntKind.i64.wrap (x12l0 + 1))))) else (assign_shaped.l1 K a0 (fun (x22l1 : Int) => some 0) K 0)
def assign_shaped.f (K : Nat) (a0 : List (List E4)) : Option (Int) := if 32 < (a0.length : Int) then (some 4) else (assign_shaped.l0 K a0 K 0)
set_option maxRecDepth 100000 in
theorem assign_shaped.calls (K : Nat) (a0 : List (List E4))  (Aa0 : Option Addr) (ca0 : Nat)  (r1 : Int) (w : World)   (ha0 : KRow2 (Cx.start w) enc4 1 a0 Aa0) (h : assign_shaped.f K a0 = some r1) :
    Calls Try.prog 28 #[.slice Aa0 a0.length ca0] w (Ret w (.int .i64 r1)) := by
  have H := h
  clear h
  unfold assign_shaped.f at H
  refine Go.Saw.calls (args := [.slice Aa0 a0.length ca0]) Try.func28 rfl Try.ntmps28 (by kernel_rfl) ?_
  refine J.seq ?_
  refine J.plain ?_
  refine LL.op (.int .i64 0) (by kernel_rfl) (fun w _ => by kernel_rfl) ?_
  refine LL.done (s' := [(0, .slice Aa0 a0.length ca0), (2, .int .i64 0)]) [0, 2] (by kernel_rfl) ?_
  refine NN.then ?_
  refine J.seq ?_
  refine J.seq ?_
  refine J.plain ?_
  refine LL.op (.slice Aa0 a0.length ca0) (by kernel_rfl) (fun w _ => by kernel_rfl) ?_
  refine LL.op (.int .i64 (a0.length : Int)) (by kernel_rfl) (fun w _ => by kernel_rfl) ?_
  refine LL.op (.bool (decide (32 < (a0.length : Int)))) (by kernel_rfl) (fun w _ => by kernel_rfl) ?_
  refine LL.done (s' := [(0, .slice Aa0 a0.length ca0), (2, .int .i64 0), (9, .bool (decide (32 < (a0.length : Int))))]) [0, 2, 9] (by kernel_rfl) ?_
  refine NN.then ?_
  rcases Bool.eq_false_or_eq_true (decide (32 < (a0.length : Int))) with c9 | c9
  · rw [if_pos (of_decide_eq_true c9)] at H
    refine J.condT (b := decide (32 < (a0.length : Int))) c9 (by kernel_rfl) (by kernel_rfl) ?_
    refine J.seq ?_
    refine J.plain ?_
    refine LL.op (.int .i64 4) (by kernel_rfl) (fun w _ => by kernel_rfl) ?_
    refine LL.done (s' := [(0, .slice Aa0 a0.length ca0), (2, .int .i64 4)]) [0, 2] (by kernel_rfl) ?_
    refine NN.then ?_
    refine J.ret ?_
    refine NN.then_ret ?_
    refine NN.fin1 2 (.int .i64 4) (by kernel_rfl) (by kernel_rfl) (.inl rfl) (fun w hi => hi.ret ?_)
    first | (cases H; rfl) | (obtain rfl := Option.some.inj H; rfl) | (simp only [Option.some.injEq, Prod.mk.injEq] at H; obtain ⟨rfl⟩ := H; rfl)
  · rw [if_neg (of_decide_eq_false c9)] at H
    refine J.condF (b := decide (32 < (a0.length : Int))) c9 (by kernel_rfl) (by kernel_rfl) ?_
    refine J.skip ?_
    refine NN.then ?_
    refine J.seq ?_
    refine J.seq ?_
    refine J.plain ?_
    refine LL.op (.slice Aa0 a0.length ca0) (by kernel_rfl) (fun w _ => by kernel_rfl) ?_
    refine LL.op (.int .i64 (a0.length : Int)) (by kernel_rfl) (fun w _ => by kernel_rfl) ?_
    refine LL.op (.int .i64 0) (by kernel_rfl) (fun w _ => by kernel_rfl) ?_
    refine LL.done (s' := [(0, .slice Aa0 a0.length ca0), (2, .int .i64 0), (10, .slice Aa0 a0.length ca0), (11, .int .i64 (a0.length : Int)), (12, .int .i64 0)]) [0, 2, 10, 11, 12] (by kernel_rfl) ?_
    refine NN.then ?_
    refine J.block ?_
    refine J.to [0, 2, 10, 11, 12] (s' := [(0, .slice Aa0 a0.length ca0), (2, .int .i64 0), (10, .slice Aa0 a0.length ca0), (11, .int .i64 (a0.length : Int)), (12, .int .i64 0)]) (by kernel_rfl) ?_
    refine J.loop (fun n_ s_ bs_ => ∃ (x12l0 : Int), assign_shaped.l0 K a0 n_ x12l0 = some r1 ∧ s_ = [(0, .slice Aa0 a0.length ca0), (2, .int .i64 0), (10, .slice Aa0 a0.length ca0), (11, .int .i64 (a0.length : Int)), (12, .int .i64 x12l0)] ∧ [] = bs_) K ⟨0, H, rfl, rfl⟩ ?_
    rintro (_ | n_) s_ bs_ ⟨x12l0, H, rfl, rfl⟩
    · exact absurd H (by simp [assign_shaped.l0])
    simp only [assign_shaped.l0] at H
    refine J.seq ?_
    refine J.plain ?_
    refine LL.op (.bool (decide (x12l0 < (a0.length : Int)))) (by kernel_rfl) (fun w _ => by kernel_rfl) ?_
    refine LL.done (s' := [(0, .slice Aa0 a0.length ca0), (2, .int .i64 0), (10, .slice Aa0 a0.length ca0), (11, .int .i64 (a0.length : Int)), (12, .int .i64 x12l0), (13, .bool (decide (x12l0 < (a0.length : Int))))]) [0, 2, 10, 11, 12, 13] (by kernel_rfl) ?_
    refine NN.then ?_
    refine J.seq ?_
    rcases Bool.eq_false_or_eq_true (decide (x12l0 < (a0.length : Int))) with c12 | c12
    · rw [if_pos (of_decide_eq_true c12)] at H
      refine J.condT (b := decide (x12l0 < (a0.length : Int))) c12 (by kernel_rfl) (by kernel_rfl) ?_
      refine J.skip ?_
      refine NN.then ?_
      refine J.seq ?_
      refine J.block ?_
      refine J.seq ?_
      refine J.plain ?_
      obtain ⟨e13, he13, H⟩ := bind_some H
      refine LL.op (.pointer (rp Aa0 (x12l0.toNat * 1 + 0))) (by kernel_rfl) (idx2 (cp := ca0) (ik := .i64) ha0 he13 rfl (by kernel_rfl) (by kernel_rfl) (by kernel_rfl)) ?_
      obtain ⟨A14, c15, k16, ld17⟩ := KRow2.row ha0 he13
      refine LL.op (.slice A14 e13.length c15) (by kernel_rfl) (ld17 rfl (by kernel_rfl) (by kernel_rfl)) ?_
      refine LL.op (.slice A14 e13.length c15) (by kernel_rfl) (fun w _ => by kernel_rfl) ?_
      refine LL.done (s' := [(0, .slice Aa0 a0.length ca0), (2, .int .i64 0), (4, .slice A14 e13.length c15), (10, .slice Aa0 a0.length ca0), (11, .int .i64 (a0.length : Int)), (12, .int .i64 x12l0)]) [0, 2, 4, 10, 11, 12] (by kernel_rfl) ?_
      refine NN.then ?_
      refine J.seq ?_
      refine J.plain ?_
      refine LL.op (.slice A14 e13.length c15) (by kernel_rfl) (fun w _ => by kernel_rfl) ?_
      refine LL.op (.int .i64 (e13.length : Int)) (by kernel_rfl) (fun w _ => by kernel_rfl) ?_
      refine LL.op (.bool (decide (512 < (e13.length : Int)))) (by kernel_rfl) (fun w _ => by kernel_rfl) ?_
      refine LL.done (s' := [(0, .slice Aa0 a0.length ca0), (2, .int .i64 0), (10, .slice Aa0 a0.length ca0), (11, .int .i64 (a0.length : Int)), (12, .int .i64 x12l0), (18, .bool (decide (512 < (e13.length : Int))))]) [0, 2, 10, 11, 12, 18] (by kernel_rfl) ?_
      refine NN.then ?_
      rcases Bool.eq_false_or_eq_true (decide (512 < (e13.length : Int))) with c19 | c19
      · rw [if_pos (of_decide_eq_true c19)] at H
        refine J.condT (b := decide (512 < (e13.length : Int))) c19 (by kernel_rfl) (by kernel_rfl) ?_
        refine J.seq ?_
        refine J.plain ?_
        refine LL.op (.int .i64 4) (by kernel_rfl) (fun w _ => by kernel_rfl) ?_
        refine LL.done (s' := [(0, .slice Aa0 a0.length ca0), (2, .int .i64 4), (10, .slice Aa0 a0.length ca0), (11, .int .i64 (a0.length : Int)), (12, .int .i64 x12l0)]) [0, 2, 10, 11, 12] (by kernel_rfl) ?_
        refine NN.then ?_
        refine J.ret ?_
        refine NN.block_ret ?_
        refine NN.then_ret ?_
        refine NN.then_ret ?_
        refine NN.block_ret ?_
        refine NN.then_ret ?_
        refine NN.fin1 2 (.int .i64 4) (by kernel_rfl) (by kernel_rfl) (.inl rfl) (fun w hi => hi.ret ?_)
        first | (cases H; rfl) | (obtain rfl := Option.some.inj H; rfl) | (simp only [Option.some.injEq, Prod.mk.injEq] at H; obtain ⟨rfl⟩ := H; rfl)
      · rw [if_neg (of_decide_eq_false c19)] at H
        refine J.condF (b := decide (512 < (e13.length : Int))) c19 (by kernel_rfl) (by kernel_rfl) ?_
        refine J.skip ?_
        refine NN.block_n ?_
        refine NN.then ?_
        refine J.plain ?_
        refine LL.op (.int .i64 (IntKind.i64.wrap (x12l0 + 1))) (by kernel_rfl) (fun w _ => by kernel_rfl) ?_
        refine LL.op (.int .i64 (IntKind.i64.wrap (x12l0 + 1))) (by kernel_rfl) (fun w _ => by kernel_rfl) ?_
        refine LL.done (s' := [(0, .slice Aa0 a0.length ca0), (2, .int .i64 0), (10, .slice Aa0 a0.length ca0), (11, .int .i64 (a0.length : Int)), (12, .int .i64 (IntKind.i64.wrap (x12l0 + 1)))]) [0, 2, 10, 11, 12] (by kernel_rfl) ?_
        exact NN.round' [0, 2, 10, 11, 12] (bs' := []) (Nat.lt_succ_self _) (List.Sublist.refl _) (by kernel_rfl) ⟨IntKind.i64.wrap (x12l0 + 1), H, rfl, rfl⟩
    · rw [if_neg (of_decide_eq_false c12)] at H
      refine J.condF (b := decide (x12l0 < (a0.length : Int))) c12 (by kernel_rfl) (by kernel_rfl) ?_
      refine J.exit ?_
      refine NN.then_exit ?_
      refine NN.then_exit ?_
      refine NN.block_same ?_
      refine NN.then ?_
      refine J.seq ?_
      refine J.seq ?_
      refine J.plain ?_
      refine LL.op (.slice Aa0 a0.length ca0) (by kernel_rfl) (fun w _ => by kernel_rfl) ?_
      refine LL.op (.int .i64 (a0.length : Int)) (by kernel_rfl) (fun w _ => by kernel_rfl) ?_
      refine LL.op (.int .i64 0) (by kernel_rfl) (fun w _ => by kernel_rfl) ?_
      refine LL.done (s' := [(0, .slice Aa0 a0.length ca0), (2, .int .i64 0), (20, .slice Aa0 a0.length ca0), (21, .int .i64 (a0.length : Int)), (22, .int .i64 0)]) [0, 2, 20, 21, 22] (by kernel_rfl) ?_
      refine NN.then ?_
      refine J.block ?_
      refine J.to [0, 2, 20, 21, 22] (s' := [(0, .slice Aa0 a0.length ca0), (2, .int .i64 0), (20, .slice Aa0 a0.length ca0), (21, .int .i64 (a0.length : Int)), (22, .int .i64 0)]) (by kernel_rfl) ?_
      obtain ⟨kont20, hk20, H⟩ := kont_intro (P := fun q_ => assign_shaped.l1 K a0 q_ K 0 = some r1) H
      refine J.loop (fun n_ s_ bs_ => ∃ (x22l1 : Int), assign_shaped.l1 K a0 kont20 n_ x22l1 = some r1 ∧ s_ = [(0, .slice Aa0 a0.length ca0), (2, .int .i64 0), (20, .slice Aa0 a0.length ca0), (21, .int .i64 (a0.length : Int)), (22, .int .i64 x22l1)] ∧ [] = bs_) K ⟨0, H, rfl, rfl⟩ ?_
      rintro (_ | n_) s_ bs_ ⟨x22l1, H, rfl, rfl⟩
      · exact absurd H (by simp [assign_shaped.l1])
      simp only [assign_shaped.l1] at H
      refine J.seq ?_
      refine J.plain ?_
      refine LL.op (.bool (decide (x22l1 < (a0.length : Int)))) (by kernel_rfl) (fun w _ => by kernel_rfl) ?_
      refine LL.done (s' := [(0, .slice Aa0 a0.length ca0), (2, .int .i64 0), (20, .slice Aa0 a0.length ca0), (21, .int .i64 (a0.length : Int)), (22, .int .i64 x22l1), (23, .bool (decide (x22l1 < (a0.length : Int))))]) [0, 2, 20, 21, 22, 23] (by kernel_rfl) ?_
      refine NN.then ?_
      refine J.seq ?_
      rcases Bool.eq_false_or_eq_true (decide (x22l1 < (a0.length : Int))) with c22 | c22
      · rw [if_pos (of_decide_eq_true c22)] at H
        refine J.condT (b := decide (x22l1 < (a0.length : Int))) c22 (by kernel_rfl) (by kernel_rfl) ?_
        refine J.skip ?_
        refine NN.then ?_
        refine J.seq ?_
        refine J.block ?_
        refine J.seq ?_
        refine J.plain ?_
        obtain ⟨e23, he23, H⟩ := bind_some H
        refine LL.op (.pointer (rp Aa0 (x22l1.toNat * 1 + 0))) (by kernel_rfl) (idx2 (cp := ca0) (ik := .i64) ha0 he23 rfl (by kernel_rfl) (by kernel_rfl) (by kernel_rfl)) ?_
        obtain ⟨A24, c25, k26, ld27⟩ := KRow2.row ha0 he23
        refine LL.op (.slice A24 e23.length c25) (by kernel_rfl) (ld27 rfl (by kernel_rfl) (by kernel_rfl)) ?_
        refine LL.op (.slice A24 e23.length c25) (by kernel_rfl) (fun w _ => by kernel_rfl) ?_
        refine LL.done (s' := [(0, .slice Aa0 a0.length ca0), (2, .int .i64 0), (6, .slice A24 e23.length c25), (20, .slice Aa0 a0.length ca0), (21, .int .i64 (a0.length : Int)), (22, .int .i64 x22l1)]) [0, 2, 6, 20, 21, 22] (by kernel_rfl) ?_
        refine NN.then ?_
        refine J.seq ?_
        refine J.plain ?_
        refine LL.op (.slice A24 e23.length c25) (by kernel_rfl) (fun w _ => by kernel_rfl) ?_
        refine LL.op (.int .i64 (e23.length : Int)) (by kernel_rfl) (fun w _ => by kernel_rfl) ?_
        refine LL.op (.slice Aa0 a0.length ca0) (by kernel_rfl) (fun w _ => by kernel_rfl) ?_
        obtain ⟨e29, he29, H⟩ := bind_some H
        refine LL.op (.pointer (rp Aa0 ((0 : Int).toNat * 1 + 0))) (by kernel_rfl) (idx2 (cp := ca0) (ik := .i64) ha0 he29 rfl (by kernel_rfl) (by kernel_rfl) (by kernel_rfl)) ?_
        obtain ⟨A30, c31, k32, ld33⟩ := KRow2.row ha0 he29
        refine LL.op (.slice A30 e29.length c31) (by kernel_rfl) (ld33 rfl (by kernel_rfl) (by kernel_rfl)) ?_
        refine LL.op (.int .i64 (e29.length : Int)) (by kernel_rfl) (fun w _ => by kernel_rfl) ?_
        refine LL.op (.bool (!((e23.length : Int) == (e29.length : Int)))) (by kernel_rfl) (fun w _ => by kernel_rfl) ?_
        refine LL.done (s' := [(0, .slice Aa0 a0.length ca0), (2, .int .i64 0), (20, .slice Aa0 a0.length ca0), (21, .int .i64 (a0.length : Int)), (22, .int .i64 x22l1), (32, .bool (!((e23.length : Int) == (e29.length : Int))))]) [0, 2, 20, 21, 22, 32] (by kernel_rfl) ?_
        refine NN.then ?_
        rcases Bool.eq_false_or_eq_true (((e23.length : Int) == (e29.length : Int))) with c35 | c35
        · rw [if_pos (eq_of_beq c35)] at H
          refine J.condF (b := !((e23.length : Int) == (e29.length : Int))) (by rw [show (!((e23.length : Int) == (e29.length : Int))) = !(((e23.length : Int) == (e29.length : Int))) from rfl, c35]; rfl) (by kernel_rfl) (by kernel_rfl) ?_
          refine J.skip ?_
          refine NN.block_n ?_
          refine NN.then ?_
          refine J.plain ?_
          refine LL.op (.int .i64 (IntKind.i64.wrap (x22l1 + 1))) (by kernel_rfl) (fun w _ => by kernel_rfl) ?_
          refine LL.op (.int .i64 (IntKind.i64.wrap (x22l1 + 1))) (by kernel_rfl) (fun w _ => by kernel_rfl) ?_
          refine LL.done (s' := [(0, .slice Aa0 a0.length ca0), (2, .int .i64 0), (20, .slice Aa0 a0.length ca0), (21, .int .i64 (a0.length : Int)), (22, .int .i64 (IntKind.i64.wrap (x22l1 + 1)))]) [0, 2, 20, 21, 22] (by kernel_rfl) ?_
          exact NN.round' [0, 2, 20, 21, 22] (bs' := []) (Nat.lt_succ_self _) (List.Sublist.refl _) (by kernel_rfl) ⟨IntKind.i64.wrap (x22l1 + 1), H, rfl, rfl⟩
        · rw [if_neg (nebf c35)] at H
          refine J.condT (b := !((e23.length : Int) == (e29.length : Int))) (by rw [show (!((e23.length : Int) == (e29.length : Int))) = !(((e23.length : Int) == (e29.length : Int))) from rfl, c35]; rfl) (by kernel_rfl) (by kernel_rfl) ?_
          refine J.seq ?_
          refine J.plain ?_
          refine LL.op (.int .i64 19) (by kernel_rfl) (fun w _ => by kernel_rfl) ?_
          refine LL.done (s' := [(0, .slice Aa0 a0.length ca0), (2, .int .i64 19), (20, .slice Aa0 a0.length ca0), (21, .int .i64 (a0.length : Int)), (22, .int .i64 x22l1)]) [0, 2, 20, 21, 22] (by kernel_rfl) ?_
          refine NN.then ?_
          refine J.ret ?_
          refine NN.block_ret ?_
          refine NN.then_ret ?_
          refine NN.then_ret ?_
          refine NN.block_ret ?_
          refine NN.then_ret ?_
          refine NN.fin1 2 (.int .i64 19) (by kernel_rfl) (by kernel_rfl) (.inl rfl) (fun w hi => hi.ret ?_)
          first | (cases H; rfl) | (obtain rfl := Option.some.inj H; rfl) | (simp only [Option.some.injEq, Prod.mk.injEq] at H; obtain ⟨rfl⟩ := H; rfl)
      · rw [if_neg (of_decide_eq_false c22)] at H
        refine J.condF (b := decide (x22l1 < (a0.length : Int))) c22 (by kernel_rfl) (by kernel_rfl) ?_
        refine J.exit ?_
        refine NN.then_exit ?_
        rw [← hk20] at H
        (try dsimp only at H)
        refine NN.then_exit ?_
        refine NN.block_same ?_
        refine NN.then ?_
        refine J.seq ?_
        refine J.plain ?_
        refine LL.op (.int .i64 0) (by kernel_rfl) (fun w _ => by kernel_rfl) ?_
        refine LL.done (s' := [(2, .int .i64 0)]) [2] (by kernel_rfl) ?_
        refine NN.then ?_
        refine J.ret ?_
        refine NN.fin1 2 (.int .i64 0) (by kernel_rfl) (by kernel_rfl) (.inl rfl) (fun w hi => hi.ret ?_)
        first | (cases H; rfl) | (obtain rfl := Option.some.inj H; rfl) | (simp only [Option.some.injEq, Prod.mk.injEq] at H; obtain ⟨rfl⟩ := H; rfl)

/-! ### assign_checked: function 31 -/
def assign_checked.l0 (K : Nat) (a1 : List E3) (a2 : List E3) : Nat → Int → Option (Int)
  | 0, _ => none
  | k + 1, x29l0 => if x29l0 < (a2.length : Int) then ((idx a2 x29l0).bind fun e43 => ((assign_wanted.f e43).bind fun x44 => (if x44 = true then ((idx a1 x29l0).bind fun e46 => (if e46 < 0 then (some 9) else (if e43 < e46 then (some 9) else (assign_checked.l0 K a1 a2 k (IntKind.i64.wrap (x29l0 + 1)))))) else (some 9)))) else (some 0)
def assign_checked.f (K : Nat) (a0 : List (List E4)) (a1 : List E3) (a2 : List E3) : Option (Int) := (assign_shaped.f K a0).bind fun x36 => (if x36 = 0 then (if (a1.length : Int) = (a0.length : Int) then (if (a2.length : Int) = (a0.length : Int) then (assign_checked.l0 K a1 a2 K 0) else (some 19)) else (some 19)) else (some x36))
set_option maxRecDepth 100000 in
theorem assign_checked.calls (K : Nat) (a0 : List (List E4)) (a1 : List E3) (a2 : List E3)  (Aa0 : Option Addr) (ca0 : Nat) (Aa1 : Option Addr) (ca1 : Nat) (Aa2 : Option Addr) (ca2 : Nat)  (r1 : Int) (w : World)   (ha0 : KRow2 (Cx.start w) enc4 1 a0 Aa0) (ha1 : KRow (Cx.start w) enc3 1 a1 Aa1) (ha2 : KRow (Cx.start w) enc3 1 a2 Aa2) (h : assign_checked.f K a0 a1 a2 = some r1) :
    Calls Try.prog 31 #[.slice Aa0 a0.length ca0, .slice Aa1 a1.length ca1, .slice Aa2 a2.length ca2] w (Ret w (.int .i64 r1)) := by
  have H := h
  clear h
  unfold assign_checked.f at H
  refine Go.Saw.calls (args := [.slice Aa0 a0.length ca0, .slice Aa1 a1.length ca1, .slice Aa2 a2.length ca2]) Try.func31 rfl Try.ntmps31 (by kernel_rfl) ?_
  refine J.seq ?_
  refine J.plain ?_
  refine LL.op (.int .i64 0) (by kernel_rfl) (fun w _ => by kernel_rfl) ?_
  refine LL.done (s' := [(0, .slice Aa0 a0.length ca0), (1, .slice Aa1 a1.length ca1), (2, .slice Aa2 a2.length ca2), (6, .int .i64 0)]) [0, 1, 2, 6] (by kernel_rfl) ?_
  refine NN.then ?_
  refine J.seq ?_
  refine J.seq ?_
  refine J.plain ?_
  refine LL.op (.slice Aa0 a0.length ca0) (by kernel_rfl) (fun w _ => by kernel_rfl) ?_
  obtain ⟨x36, hx36, H⟩ := bind_some H
  refine LL.call 28 #[.slice Aa0 a0.length ca0] (.int .i64 x36) (by kernel_rfl) (fun w => by kernel_rfl) (fun w hw => assign_shaped.calls K a0  _ _ _ w  (ha0.at hw) hx36) ?_
  refine LL.op (.int .i64 x36) (by kernel_rfl) (fun w _ => by kernel_rfl) ?_
  refine LL.done (s' := [(0, .slice Aa0 a0.length ca0), (1, .slice Aa1 a1.length ca1), (2, .slice Aa2 a2.length ca2), (6, .int .i64 0), (7, .int .i64 x36)]) [0, 1, 2, 6, 7] (by kernel_rfl) ?_
  refine NN.then ?_
  refine J.seq ?_
  refine J.plain ?_
  refine LL.op (.int .i64 x36) (by kernel_rfl) (fun w _ => by kernel_rfl) ?_
  refine LL.op (.bool (!(x36 == 0))) (by kernel_rfl) (fun w _ => by kernel_rfl) ?_
  refine LL.done (s' := [(0, .slice Aa0 a0.length ca0), (1, .slice Aa1 a1.length ca1), (2, .slice Aa2 a2.length ca2), (6, .int .i64 0), (7, .int .i64 x36), (13, .bool (!(x36 == 0)))]) [0, 1, 2, 6, 7, 13] (by kernel_rfl) ?_
  refine NN.then ?_
  rcases Bool.eq_false_or_eq_true ((x36 == 0)) with c37 | c37
  · rw [if_pos (eq_of_beq c37)] at H
    refine J.condF (b := !(x36 == 0)) (by rw [show (!(x36 == 0)) = !((x36 == 0)) from rfl, c37]; rfl) (by kernel_rfl) (by kernel_rfl) ?_
    refine J.skip ?_
    refine NN.then ?_
    refine J.seq ?_
    refine J.seq ?_
    refine J.plain ?_
    refine LL.op (.slice Aa1 a1.length ca1) (by kernel_rfl) (fun w _ => by kernel_rfl) ?_
    refine LL.op (.int .i64 (a1.length : Int)) (by kernel_rfl) (fun w _ => by kernel_rfl) ?_
    refine LL.op (.slice Aa0 a0.length ca0) (by kernel_rfl) (fun w _ => by kernel_rfl) ?_
    refine LL.op (.int .i64 (a0.length : Int)) (by kernel_rfl) (fun w _ => by kernel_rfl) ?_
    refine LL.op (.bool (!((a1.length : Int) == (a0.length : Int)))) (by kernel_rfl) (fun w _ => by kernel_rfl) ?_
    refine LL.op (.bool (!((a1.length : Int) == (a0.length : Int)))) (by kernel_rfl) (fun w _ => by kernel_rfl) ?_
    rcases Bool.eq_false_or_eq_true (((a1.length : Int) == (a0.length : Int))) with c38 | c38
    · rw [if_pos (eq_of_beq c38)] at H
      refine LL.bool 20 (!((a1.length : Int) == (a0.length : Int))) false (by rw [show (!((a1.length : Int) == (a0.length : Int))) = !(((a1.length : Int) == (a0.length : Int))) from rfl, c38]; rfl) (by kernel_rfl) ?_
      refine LL.op (.slice Aa2 a2.length ca2) (by kernel_rfl) (fun w _ => by kernel_rfl) ?_
      refine LL.op (.int .i64 (a2.length : Int)) (by kernel_rfl) (fun w _ => by kernel_rfl) ?_
      refine LL.op (.slice Aa0 a0.length ca0) (by kernel_rfl) (fun w _ => by kernel_rfl) ?_
      refine LL.op (.int .i64 (a0.length : Int)) (by kernel_rfl) (fun w _ => by kernel_rfl) ?_
      refine LL.op (.bool (!((a2.length : Int) == (a0.length : Int)))) (by kernel_rfl) (fun w _ => by kernel_rfl) ?_
      refine LL.op (.bool (!((a2.length : Int) == (a0.length : Int)))) (by kernel_rfl) (fun w _ => by kernel_rfl) ?_
      refine LL.done (s' := [(1, .slice Aa1 a1.length ca1), (2, .slice Aa2 a2.length ca2), (6, .int .i64 0), (26, .bool (!((a2.length : Int) == (a0.length : Int))))]) [1, 2, 6, 26] (by kernel_rfl) ?_
      refine NN.then ?_
      rcases Bool.eq_false_or_eq_true (((a2.length : Int) == (a0.length : Int))) with c39 | c39
      · rw [if_pos (eq_of_beq c39)] at H
        refine J.condF (b := !((a2.length : Int) == (a0.length : Int))) (by rw [show (!((a2.length : Int) == (a0.length : Int))) = !(((a2.length : Int) == (a0.length : Int))) from rfl, c39]; rfl) (by kernel_rfl) (by kernel_rfl) ?_
        refine J.skip ?_
        refine NN.then ?_
        refine J.seq ?_
        refine J.seq ?_
        refine J.plain ?_
        refine LL.op (.slice Aa2 a2.length ca2) (by kernel_rfl) (fun w _ => by kernel_rfl) ?_
        refine LL.op (.int .i64 (a2.length : Int)) (by kernel_rfl) (fun w _ => by kernel_rfl) ?_
        refine LL.op (.int .i64 0) (by kernel_rfl) (fun w _ => by kernel_rfl) ?_
        refine LL.done (s' := [(1, .slice Aa1 a1.length ca1), (6, .int .i64 0), (27, .slice Aa2 a2.length ca2), (28, .int .i64 (a2.length : Int)), (29, .int .i64 0)]) [1, 6, 27, 28, 29] (by kernel_rfl) ?_
        refine NN.then ?_
        refine J.block ?_
        refine J.to [1, 6, 27, 28, 29] (s' := [(1, .slice Aa1 a1.length ca1), (6, .int .i64 0), (27, .slice Aa2 a2.length ca2), (28, .int .i64 (a2.length : Int)), (29, .int .i64 0)]) (by kernel_rfl) ?_
        refine J.loop (fun n_ s_ bs_ => ∃ (x29l0 : Int), assign_checked.l0 K a1 a2 n_ x29l0 = some r1 ∧ s_ = [(1, .slice Aa1 a1.length ca1), (6, .int .i64 0), (27, .slice Aa2 a2.length ca2), (28, .int .i64 (a2.length : Int)), (29, .int .i64 x29l0)] ∧ [] = bs_) K ⟨0, H, rfl, rfl⟩ ?_
        rintro (_ | n_) s_ bs_ ⟨x29l0, H, rfl, rfl⟩
        · exact absurd H (by simp [assign_checked.l0])
        simp only [assign_checked.l0] at H
        refine J.seq ?_
        refine J.plain ?_
        refine LL.op (.bool (decide (x29l0 < (a2.length : Int)))) (by kernel_rfl) (fun w _ => by kernel_rfl) ?_
        refine LL.done (s' := [(1, .slice Aa1 a1.length ca1), (6, .int .i64 0), (27, .slice Aa2 a2.length ca2), (28, .int .i64 (a2.length : Int)), (29, .int .i64 x29l0), (30, .bool (decide (x29l0 < (a2.length : Int))))]) [1, 6, 27, 28, 29, 30] (by kernel_rfl) ?_
        refine NN.then ?_
        refine J.seq ?_
        rcases Bool.eq_false_or_eq_true (decide (x29l0 < (a2.length : Int))) with c42 | c42
        · rw [if_pos (of_decide_eq_true c42)] at H
          refine J.condT (b := decide (x29l0 < (a2.length : Int))) c42 (by kernel_rfl) (by kernel_rfl) ?_
          refine J.skip ?_
          refine NN.then ?_
          refine J.seq ?_
          refine J.block ?_
          refine J.seq ?_
          refine J.plain ?_
          refine LL.op (.int .i64 x29l0) (by kernel_rfl) (fun w _ => by kernel_rfl) ?_
          obtain ⟨e43, he43, H⟩ := bind_some H
          refine LL.op (.pointer (rp Aa2 (x29l0.toNat * 1 + 0))) (by kernel_rfl) (idxR (cp := ca2) (ik := .i64) ha2 he43 rfl (by kernel_rfl) (by kernel_rfl) (by kernel_rfl)) ?_
          refine LL.op (.int .i64 e43) (by kernel_rfl) (ldR (off := 0) ha2 he43 rfl (by kernel_rfl) (by kernel_rfl)) ?_
          refine LL.op (.int .i64 x29l0) (by kernel_rfl) (fun w _ => by kernel_rfl) ?_
          refine LL.op (.int .i64 e43) (by kernel_rfl) (fun w _ => by kernel_rfl) ?_
          refine LL.done (s' := [(1, .slice Aa1 a1.length ca1), (6, .int .i64 0), (8, .int .i64 x29l0), (9, .int .i64 e43), (27, .slice Aa2 a2.length ca2), (28, .int .i64 (a2.length : Int)), (29, .int .i64 x29l0)]) [1, 6, 8, 9, 27, 28, 29] (by kernel_rfl) ?_
          refine NN.then ?_
          refine J.seq ?_
          refine J.plain ?_
          refine LL.op (.int .i64 e43) (by kernel_rfl) (fun w _ => by kernel_rfl) ?_
          obtain ⟨x44, hx44, H⟩ := bind_some H
          refine LL.call 29 #[.int .i64 e43] (.bool x44) (by kernel_rfl) (fun w => by kernel_rfl) (fun w hw => assign_wanted.calls e43   _ w   hx44) ?_
          refine LL.op (.bool (!x44)) (by kernel_rfl) (fun w _ => by kernel_rfl) ?_
          refine LL.op (.bool (!x44)) (by kernel_rfl) (fun w _ => by kernel_rfl) ?_
          rcases Bool.eq_false_or_eq_true (x44) with c45 | c45
          · rw [if_pos (c45)] at H
            refine LL.bool 37 (!x44) false (by rw [show (!x44) = !(x44) from rfl, c45]; rfl) (by kernel_rfl) ?_
            refine LL.op (.slice Aa1 a1.length ca1) (by kernel_rfl) (fun w _ => by kernel_rfl) ?_
            refine LL.op (.int .i64 x29l0) (by kernel_rfl) (fun w _ => by kernel_rfl) ?_
            obtain ⟨e46, he46, H⟩ := bind_some H
            refine LL.op (.pointer (rp Aa1 (x29l0.toNat * 1 + 0))) (by kernel_rfl) (idxR (cp := ca1) (ik := .i64) ha1 he46 rfl (by kernel_rfl) (by kernel_rfl) (by kernel_rfl)) ?_
            refine LL.op (.int .i64 e46) (by kernel_rfl) (ldR (off := 0) ha1 he46 rfl (by kernel_rfl) (by kernel_rfl)) ?_
            refine LL.op (.bool (decide (e46 < 0))) (by kernel_rfl) (fun w _ => by kernel_rfl) ?_
            refine LL.op (.bool (decide (e46 < 0))) (by kernel_rfl) (fun w _ => by kernel_rfl) ?_
            refine LL.op (.bool (decide (e46 < 0))) (by kernel_rfl) (fun w _ => by kernel_rfl) ?_
            rcases Bool.eq_false_or_eq_true (decide (e46 < 0)) with c47 | c47
            · rw [if_pos (of_decide_eq_true c47)] at H
              refine LL.bool 44 (decide (e46 < 0)) true c47 (by kernel_rfl) ?_
              refine LL.off (by kernel_rfl) (by kernel_rfl) ?_
              refine LL.off (by kernel_rfl) (by kernel_rfl) ?_
              refine LL.off (by kernel_rfl) (by kernel_rfl) ?_
              refine LL.off (by kernel_rfl) (by kernel_rfl) ?_
              refine LL.off (by kernel_rfl) (by kernel_rfl) ?_
              refine LL.off (by kernel_rfl) (by kernel_rfl) ?_
              refine LL.op (.bool true) (by kernel_rfl) (fun w _ => by kernel_rfl) ?_
              refine LL.done (s' := [(1, .slice Aa1 a1.length ca1), (6, .int .i64 0), (27, .slice Aa2 a2.length ca2), (28, .int .i64 (a2.length : Int)), (29, .int .i64 x29l0), (51, .bool true)]) [1, 6, 27, 28, 29, 51] (by kernel_rfl) ?_
              refine NN.then ?_
              refine J.condT (b := true) rfl (by kernel_rfl) (by kernel_rfl) ?_
              refine J.seq ?_
              refine J.plain ?_
              refine LL.op (.int .i64 9) (by kernel_rfl) (fun w _ => by kernel_rfl) ?_
              refine LL.done (s' := [(1, .slice Aa1 a1.length ca1), (6, .int .i64 9), (27, .slice Aa2 a2.length ca2), (28, .int .i64 (a2.length : Int)), (29, .int .i64 x29l0)]) [1, 6, 27, 28, 29] (by kernel_rfl) ?_
              refine NN.then ?_
              refine J.ret ?_
              refine NN.block_ret ?_
              refine NN.then_ret ?_
              refine NN.then_ret ?_
              refine NN.block_ret ?_
              refine NN.then_ret ?_
              refine NN.fin1 6 (.int .i64 9) (by kernel_rfl) (by kernel_rfl) (.inl rfl) (fun w hi => hi.ret ?_)
              first | (cases H; rfl) | (obtain rfl := Option.some.inj H; rfl) | (simp only [Option.some.injEq, Prod.mk.injEq] at H; obtain ⟨rfl⟩ := H; rfl)
            · rw [if_neg (of_decide_eq_false c47)] at H
              refine LL.bool 44 (decide (e46 < 0)) false c47 (by kernel_rfl) ?_
              refine LL.op (.slice Aa1 a1.length ca1) (by kernel_rfl) (fun w _ => by kernel_rfl) ?_
              refine LL.op (.int .i64 x29l0) (by kernel_rfl) (fun w _ => by kernel_rfl) ?_
              refine LL.op (.pointer (rp Aa1 (x29l0.toNat * 1 + 0))) (by kernel_rfl) (idxR (cp := ca1) (ik := .i64) ha1 he46 rfl (by kernel_rfl) (by kernel_rfl) (by kernel_rfl)) ?_
              refine LL.op (.int .i64 e46) (by kernel_rfl) (ldR (off := 0) ha1 he46 rfl (by kernel_rfl) (by kernel_rfl)) ?_
              refine LL.op (.int .i64 e43) (by kernel_rfl) (fun w _ => by kernel_rfl) ?_
              refine LL.op (.bool (decide (e43 < e46))) (by kernel_rfl) (fun w _ => by kernel_rfl) ?_
              refine LL.op (.bool (decide (e43 < e46))) (by kernel_rfl) (fun w _ => by kernel_rfl) ?_
              refine LL.done (s' := [(1, .slice Aa1 a1.length ca1), (6, .int .i64 0), (27, .slice Aa2 a2.length ca2), (28, .int .i64 (a2.length : Int)), (29, .int .i64 x29l0), (51, .bool (decide (e43 < e46)))]) [1, 6, 27, 28, 29, 51] (by kernel_rfl) ?_
              refine NN.then ?_
              rcases Bool.eq_false_or_eq_true (decide (e43 < e46)) with c48 | c48
              · rw [if_pos (of_decide_eq_true c48)] at H
                refine J.condT (b := decide (e43 < e46)) c48 (by kernel_rfl) (by kernel_rfl) ?_
                refine J.seq ?_
                refine J.plain ?_
                refine LL.op (.int .i64 9) (by kernel_rfl) (fun w _ => by kernel_rfl) ?_
                refine LL.done (s' := [(1, .slice Aa1 a1.length ca1), (6, .int .i64 9), (27, .slice Aa2 a2.length ca2), (28, .int .i64 (a2.length : Int)), (29, .int .i64 x29l0)]) [1, 6, 27, 28, 29] (by kernel_rfl) ?_
                refine NN.then ?_
                refine J.ret ?_
                refine NN.block_ret ?_
                refine NN.then_ret ?_
                refine NN.then_ret ?_
                refine NN.block_ret ?_
                refine NN.then_ret ?_
                refine NN.fin1 6 (.int .i64 9) (by kernel_rfl) (by kernel_rfl) (.inl rfl) (fun w hi => hi.ret ?_)
                first | (cases H; rfl) | (obtain rfl := Option.some.inj H; rfl) | (simp only [Option.some.injEq, Prod.mk.injEq] at H; obtain ⟨rfl⟩ := H; rfl)
              · rw [if_neg (of_decide_eq_false c48)] at H
                refine J.condF (b := decide (e43 < e46)) c48 (by kernel_rfl) (by kernel_rfl) ?_
                refine J.skip ?_
                refine NN.block_n ?_
                refine NN.then ?_
                refine J.plain ?_
                refine LL.op (.int .i64 (IntKind.i64.wrap (x29l0 + 1))) (by kernel_rfl) (fun w _ => by kernel_rfl) ?_
                refine LL.op (.int .i64 (IntKind.i64.wrap (x29l0 + 1))) (by kernel_rfl) (fun w _ => by kernel_rfl) ?_
                refine LL.done (s' := [(1, .slice Aa1 a1.length ca1), (6, .int .i64 0), (27, .slice Aa2 a2.length ca2), (28, .int .i64 (a2.length : Int)), (29, .int .i64 (IntKind.i64.wrap (x29l0 + 1)))]) [1, 6, 27, 28, 29] (by kernel_rfl) ?_
                exact NN.round' [1, 6, 27, 28, 29] (bs' := []) (Nat.lt_succ_self _) (List.Sublist.refl _) (by kernel_rfl) ⟨IntKind.i64.wrap (x29l0 + 1), H, rfl, rfl⟩
          · rw [if_neg (nebt c45)] at H
            refine LL.bool 37 (!x44) true (by rw [show (!x44) = !(x44) from rfl, c45]; rfl) (by kernel_rfl) ?_
            refine LL.off (by kernel_rfl) (by kernel_rfl) ?_
            refine LL.off (by kernel_rfl) (by kernel_rfl) ?_
            refine LL.off (by kernel_rfl) (by kernel_rfl) ?_
            refine LL.off (by kernel_rfl) (by kernel_rfl) ?_
            refine LL.off (by kernel_rfl) (by kernel_rfl) ?_
            refine LL.op (.bool true) (by kernel_rfl) (fun w _ => by kernel_rfl) ?_
            refine LL.op (.bool true) (by kernel_rfl) (fun w _ => by kernel_rfl) ?_
            refine LL.off (by kernel_rfl) (by kernel_rfl) ?_
            refine LL.off (by kernel_rfl) (by kernel_rfl) ?_
            refine LL.off (by kernel_rfl) (by kernel_rfl) ?_
            refine LL.off (by kernel_rfl) (by kernel_rfl) ?_
            refine LL.off (by kernel_rfl) (by kernel_rfl) ?_
            refine LL.off (by kernel_rfl) (by kernel_rfl) ?_
            refine LL.op (.bool true) (by kernel_rfl) (fun w _ => by kernel_rfl) ?_
            refine LL.done (s' := [(1, .slice Aa1 a1.length ca1), (6, .int .i64 0), (27, .slice Aa2 a2.length ca2), (28, .int .i64 (a2.length : Int)), (29, .int .i64 x29l0), (51, .bool true)]) [1, 6, 27, 28, 29, 51] (by kernel_rfl) ?_
            refine NN.then ?_
            refine J.condT (b := true) rfl (by kernel_rfl) (by kernel_rfl) ?_
            refine J.seq ?_
            refine J.plain ?_
            refine LL.op (.int .i64 9) (by kernel_rfl) (fun w _ => by kernel_rfl) ?_
            refine LL.done (s' := [(1, .slice Aa1 a1.length ca1), (6, .int .i64 9), (27, .slice Aa2 a2.length ca2), (28, .int .i64 (a2.length : Int)), (29, .int .i64 x29l0)]) [1, 6, 27, 28, 29] (by kernel_rfl) ?_
            refine NN.then ?_
            refine J.ret ?_
            refine NN.block_ret ?_
            refine NN.then_ret ?_
            refine NN.then_ret ?_
            refine NN.block_ret ?_
            refine NN.then_ret ?_
            refine NN.fin1 6 (.int .i64 9) (by kernel_rfl) (by kernel_rfl) (.inl rfl) (fun w hi => hi.ret ?_)
            first | (cases H; rfl) | (obtain rfl := Option.some.inj H; rfl) | (simp only [Option.some.injEq, Prod.mk.injEq] at H; obtain ⟨rfl⟩ := H; rfl)
        · rw [if_neg (of_decide_eq_false c42)] at H
          refine J.condF (b := decide (x29l0 < (a2.length : Int))) c42 (by kernel_rfl) (by kernel_rfl) ?_
          refine J.exit ?_
          refine NN.then_exit ?_
          refine NN.then_exit ?_
          refine NN.block_same ?_
          refine NN.then ?_
          refine J.seq ?_
          refine J.plain ?_
          refine LL.op (.int .i64 0) (by kernel_rfl) (fun w _ => by kernel_rfl) ?_
          refine LL.done (s' := [(6, .int .i64 0)]) [6] (by kernel_rfl) ?_
          refine NN.then ?_
          refine J.ret ?_
          refine NN.fin1 6 (.int .i64 0) (by kernel_rfl) (by kernel_rfl) (.inl rfl) (fun w hi => hi.ret ?_)
          first | (cases H; rfl) | (obtain rfl := Option.some.inj H; rfl) | (simp only [Option.some.injEq, Prod.mk.injEq] at H; obtain ⟨rfl⟩ := H; rfl)
      · rw [if_neg (nebf c39)] at H
        refine J.condT (b := !((a2.length : Int) == (a0.length : Int))) (by rw [show (!((a2.length : Int) == (a0.length : Int))) = !(((a2.length : Int) == (a0.length : Int))) from rfl, c39]; rfl) (by kernel_rfl) (by kernel_rfl) ?_
        refine J.seq ?_
        refine J.plain ?_
        refine LL.op (.int .i64 19) (by kernel_rfl) (fun w _ => by kernel_rfl) ?_
        refine LL.done (s' := [(1, .slice Aa1 a1.length ca1), (2, .slice Aa2 a2.length ca2), (6, .int .i64 19)]) [1, 2, 6] (by kernel_rfl) ?_
        refine NN.then ?_
        refine J.ret ?_
        refine NN.then_ret ?_
        refine NN.fin1 6 (.int .i64 19) (by kernel_rfl) (by kernel_rfl) (.inl rfl) (fun w hi => hi.ret ?_)
        first | (cases H; rfl) | (obtain rfl := Option.some.inj H; rfl) | (simp only [Option.some.injEq, Prod.mk.injEq] at H; obtain ⟨rfl⟩ := H; rfl)
    · rw [if_neg (nebf c38)] at H
      refine LL.bool 20 (!((a1.length : Int) == (a0.length : Int))) true (by rw [show (!((a1.length : Int) == (a0.length : Int))) = !(((a1.length : Int) == (a0.length : Int))) from rfl, c38]; rfl) (by kernel_rfl) ?_
      refine LL.off (by kernel_rfl) (by kernel_rfl) ?_
      refine LL.off (by kernel_rfl) (by kernel_rfl) ?_
      refine LL.off (by kernel_rfl) (by kernel_rfl) ?_
      refine LL.off (by kernel_rfl) (by kernel_rfl) ?_
      refine LL.off (by kernel_rfl) (by kernel_rfl) ?_
      refine LL.op (.bool true) (by kernel_rfl) (fun w _ => by kernel_rfl) ?_
      refine LL.done (s' := [(1, .slice Aa1 a1.length ca1), (2, .slice Aa2 a2.length ca2), (6, .int .i64 0), (26, .bool true)]) [1, 2, 6, 26] (by kernel_rfl) ?_
      refine NN.then ?_
      refine J.condT (b := true) rfl (by kernel_rfl) (by kernel_rfl) ?_
      refine J.seq ?_
      refine J.plain ?_
      refine LL.op (.int .i64 19) (by kernel_rfl) (fun w _ => by kernel_rfl) ?_
      refine LL.done (s' := [(1, .slice Aa1 a1.length ca1), (2, .slice Aa2 a2.length ca2), (6, .int .i64 19)]) [1, 2, 6] (by kernel_rfl) ?_
      refine NN.then ?_
      refine J.ret ?_
      refine NN.then_ret ?_
      refine NN.fin1 6 (.int .i64 19) (by kernel_rfl) (by kernel_rfl) (.inl rfl) (fun w hi => hi.ret ?_)
      first | (cases H; rfl) | (obtain rfl := Option.some.inj H; rfl) | (simp only [Option.some.injEq, Prod.mk.injEq] at H; obtain ⟨rfl⟩ := H; rfl)
  · rw [if_neg (nebf c37)] at H
    refine J.condT (b := !(x36 == 0)) (by rw [show (!(x36 == 0)) = !((x36 == 0)) from rfl, c37]; rfl) (by kernel_rfl) (by kernel_rfl) ?_
    refine J.seq ?_
    refine J.plain ?_
    refine LL.op (.int .i64 x36) (by kernel_rfl) (fun w _ => by kernel_rfl) ?_
    refine LL.op (.int .i64 x36) (by kernel_rfl) (fun w _ => by kernel_rfl) ?_
    refine LL.done (s' := [(0, .slice Aa0 a0.length ca0), (1, .slice Aa1 a1.length ca1), (2, .slice Aa2 a2.length ca2), (6, .int .i64 x36)]) [0, 1, 2, 6] (by kernel_rfl) ?_
    refine NN.then ?_
    refine J.ret ?_
    refine NN.then_ret ?_
    refine NN.fin1 6 (.int .i64 x36) (by kernel_rfl) (by kernel_rfl) (.inl rfl) (fun w hi => hi.ret ?_)
    first | (cases H; rfl) | (obtain rfl := Option.some.inj H; rfl) | (simp only [Option.some.injEq, Prod.mk.injEq] at H; obtain ⟨rfl⟩ := H; rfl)

/-! ### board_size: function 46 -/
def board_size.f (a0_0 : Int) (a0_1 : Int) : Option (Int) := some (IntKind.i64.wrap (a0_1 - a0_0))
set_option maxRecDepth 100000 in
theorem board_size.calls (a0_0 : Int) (a0_1 : Int)    (r1 : Int) (w : World)    (h : board_size.f a0_0 a0_1 = some r1) :
    Calls Try.prog 46 #[.agg #[.int .i64 a0_0, .int .i64 a0_1]] w (Ret w (.int .i64 r1)) := by
  have H := h
  clear h
  unfold board_size.f at H
  refine Go.Saw.calls (args := [.agg #[.int .i64 a0_0, .int .i64 a0_1]]) Try.func46 rfl Try.ntmps46 (by kernel_rfl) ?_
  refine J.seq ?_
  refine J.plain ?_
  refine LL.box 30 (.tmp 0) [.int .i64 a0_0, .int .i64 a0_1] (by kernel_rfl) rfl (by kernel_rfl) (fun g49 => ?_)
  refine LL.op (.int .i64 0) (by kernel_rfl) (fun w _ => by kernel_rfl) ?_
  refine LL.done (s' := [(1, .pointer (some ⟨g49, 0, none⟩)), (2, .int .i64 0)]) [1, 2] (by kernel_rfl) ?_
  refine NN.then ?_
  refine J.seq ?_
  refine J.plain ?_
  refine LL.op (.pointer (some ⟨g49, 1, none⟩)) (by kernel_rfl) (fun w _ => by kernel_rfl) ?_
  refine LL.op (.int .i64 a0_1) (by kernel_rfl) (ld 0 g49 1 rfl (by kernel_rfl) rfl (by kernel_rfl)) ?_
  refine LL.op (.pointer (some ⟨g49, 0, none⟩)) (by kernel_rfl) (fun w _ => by kernel_rfl) ?_
  refine LL.op (.int .i64 a0_0) (by kernel_rfl) (ld 0 g49 0 rfl (by kernel_rfl) rfl (by kernel_rfl)) ?_
  refine LL.op (.int .i64 (IntKind.i64.wrap (a0_1 - a0_0))) (by kernel_rfl) (fun w _ => by kernel_rfl) ?_
  refine LL.op (.int .i64 (IntKind.i64.wrap (a0_1 - a0_0))) (by kernel_rfl) (fun w _ => by kernel_rfl) ?_
  refine LL.done (s' := [(2, .int .i64 (IntKind.i64.wrap (a0_1 - a0_0)))]) [2] (by kernel_rfl) ?_
  refine NN.then ?_
  refine J.ret ?_
  refine NN.fin1 2 (.int .i64 (IntKind.i64.wrap (a0_1 - a0_0))) (by kernel_rfl) (by kernel_rfl) (.inl rfl) (fun w hi => hi.ret ?_)
  first | (cases H; rfl) | (obtain rfl := Option.some.inj H; rfl) | (simp only [Option.some.injEq, Prod.mk.injEq] at H; obtain ⟨rfl⟩ := H; rfl)

/-! ### board_Length: function 36 -/
def board_Length.f (a0_0 : ByteArray) (a0_1 : ByteArray) (a0_2 : ByteArray) (a0_3 : Int) (a0_4 : Int) (a0_5 : Int) (a0_6 : Int) (a0_7 : Int) (a0_8 : Int) (a0_9 : Int) (a0_10 : Int) (a0_11 : OS) (a0_12 : Int) (a0_13 : Int) (a0_14 : Int) (a0_15 : Int) (a0_16 : Bool) (a0_17 : Int) : Option (Int) := if a0_8 < 0 then (some 0) else (if a0_9 ≤ a0_8 then (some 0) else (if 20000 < a0_9 then (some 0) else ((board_size.f a0_8 a0_9).bind fun x55 => (some x55))))
set_option maxRecDepth 100000 in
theorem board_Length.calls (a0_0 : ByteArray) (a0_1 : ByteArray) (a0_2 : ByteArray) (a0_3 : Int) (a0_4 : Int) (a0_5 : Int) (a0_6 : Int) (a0_7 : Int) (a0_8 : Int) (a0_9 : Int) (a0_10 : Int) (a0_11 : OS) (a0_12 : Int) (a0_13 : Int) (a0_14 : Int) (a0_15 : Int) (a0_16 : Bool) (a0_17 : Int)    (r1 : Int) (w : World)    (h : board_Length.f a0_0 a0_1 a0_2 a0_3 a0_4 a0_5 a0_6 a0_7 a0_8 a0_9 a0_10 a0_11 a0_12 a0_13 a0_14 a0_15 a0_16 a0_17 = some r1) :
    Calls Try.prog 36 #[.agg #[.string a0_0, .string a0_1, .string a0_2, .int .i64 a0_3, .int .i64 a0_4, .int .i64 a0_5, .int .i64 a0_6, .int .i64 a0_7, .int .i64 a0_8, .int .i64 a0_9, .int .i64 a0_10, .slice a0_11.1 a0_11.2.1 a0_11.2.2, .int .i64 a0_12, .int .i64 a0_13, .int .i64 a0_14, .int .i64 a0_15, .bool a0_16, .int .i64 a0_17]] w (Ret w (.int .i64 r1)) := by
  have H := h
  clear h
  unfold board_Length.f at H
  refine Go.Saw.calls (args := [.agg #[.string a0_0, .string a0_1, .string a0_2, .int .i64 a0_3, .int .i64 a0_4, .int .i64 a0_5, .int .i64 a0_6, .int .i64 a0_7, .int .i64 a0_8, .int .i64 a0_9, .int .i64 a0_10, .slice a0_11.1 a0_11.2.1 a0_11.2.2, .int .i64 a0_12, .int .i64 a0_13, .int .i64 a0_14, .int .i64 a0_15, .bool a0_16, .int .i64 a0_17]]) Try.func36 rfl Try.ntmps36 (by kernel_rfl) ?_
  refine J.seq ?_
  refine J.plain ?_
  refine LL.box 37 (.tmp 0) [.string a0_0, .string a0_1, .string a0_2, .int .i64 a0_3, .int .i64 a0_4, .int .i64 a0_5, .int .i64 a0_6, .int .i64 a0_7, .int .i64 a0_8, .int .i64 a0_9, .int .i64 a0_10, .slice a0_11.1 a0_11.2.1 a0_11.2.2, .int .i64 a0_12, .int .i64 a0_13, .int .i64 a0_14, .int .i64 a0_15, .bool a0_16, .int .i64 a0_17] (by kernel_rfl) rfl (by kernel_rfl) (fun g50 => ?_)
  refine LL.op (.int .i64 0) (by kernel_rfl) (fun w _ => by kernel_rfl) ?_
  refine LL.done (s' := [(1, .pointer (some ⟨g50, 0, none⟩)), (2, .int .i64 0)]) [1, 2] (by kernel_rfl) ?_
  refine NN.then ?_
  refine J.seq ?_
  refine J.plain ?_
  refine LL.op (.pointer (some ⟨g50, 4, none⟩)) (by kernel_rfl) (fun w _ => by kernel_rfl) ?_
  refine LL.op (.pointer (some ⟨g50, 8, none⟩)) (by kernel_rfl) (fun w _ => by kernel_rfl) ?_
  refine LL.op (.agg #[.int .i64 a0_8, .int .i64 a0_9]) (by kernel_rfl) (ld 0 g50 8 rfl (by kernel_rfl) rfl (by kernel_rfl)) ?_
  refine LL.alloc 30 [.int .i64 0, .int .i64 0] (by kernel_rfl) rfl (by kernel_rfl) (fun g51 => ?_)
  refine LL.store 0 g51 0 30 (.tmp 3) (.tmp 6) [.int .i64 a0_8, .int .i64 a0_9] (bs' := [(g51, cl [.int .i64 a0_8, .int .i64 a0_9] 30), (g50, cl [.string a0_0, .string a0_1, .string a0_2, .int .i64 a0_3, .int .i64 a0_4, .int .i64 a0_5, .int .i64 a0_6, .int .i64 a0_7, .int .i64 a0_8, .int .i64 a0_9, .int .i64 a0_10, .slice a0_11.1 a0_11.2.1 a0_11.2.2, .int .i64 a0_12, .int .i64 a0_13, .int .i64 a0_14, .int .i64 a0_15, .bool a0_16, .int .i64 a0_17] 37)]) rfl (by kernel_rfl) rfl (by kernel_rfl) rfl (by kernel_rfl) ?_
  refine LL.done (s' := [(2, .int .i64 0), (3, .pointer (some ⟨g51, 0, none⟩))]) [2, 3] (by kernel_rfl) ?_
  refine NN.then ?_
  refine J.seq ?_
  refine J.seq ?_
  refine J.plain ?_
  refine LL.op (.pointer (some ⟨g51, 0, none⟩)) (by kernel_rfl) (fun w _ => by kernel_rfl) ?_
  refine LL.op (.int .i64 a0_8) (by kernel_rfl) (ld 0 g51 0 rfl (by kernel_rfl) rfl (by kernel_rfl)) ?_
  refine LL.op (.bool (decide (a0_8 < 0))) (by kernel_rfl) (fun w _ => by kernel_rfl) ?_
  refine LL.op (.bool (decide (a0_8 < 0))) (by kernel_rfl) (fun w _ => by kernel_rfl) ?_
  rcases Bool.eq_false_or_eq_true (decide (a0_8 < 0)) with c52 | c52
  · rw [if_pos (of_decide_eq_true c52)] at H
    refine LL.bool 10 (decide (a0_8 < 0)) true c52 (by kernel_rfl) ?_
    refine LL.off (by kernel_rfl) (by kernel_rfl) ?_
    refine LL.off (by kernel_rfl) (by kernel_rfl) ?_
    refine LL.off (by kernel_rfl) (by kernel_rfl) ?_
    refine LL.off (by kernel_rfl) (by kernel_rfl) ?_
    refine LL.off (by kernel_rfl) (by kernel_rfl) ?_
    refine LL.op (.bool true) (by kernel_rfl) (fun w _ => by kernel_rfl) ?_
    refine LL.op (.bool true) (by kernel_rfl) (fun w _ => by kernel_rfl) ?_
    refine LL.off (by kernel_rfl) (by kernel_rfl) ?_
    refine LL.off (by kernel_rfl) (by kernel_rfl) ?_
    refine LL.off (by kernel_rfl) (by kernel_rfl) ?_
    refine LL.op (.bool true) (by kernel_rfl) (fun w _ => by kernel_rfl) ?_
    refine LL.done (s' := [(2, .int .i64 0), (3, .pointer (some ⟨g51, 0, none⟩)), (21, .bool true)]) [2, 3, 21] (by kernel_rfl) ?_
    refine NN.then ?_
    refine J.condT (b := true) rfl (by kernel_rfl) (by kernel_rfl) ?_
    refine J.seq ?_
    refine J.plain ?_
    refine LL.op (.int .i64 0) (by kernel_rfl) (fun w _ => by kernel_rfl) ?_
    refine LL.done (s' := [(2, .int .i64 0), (3, .pointer (some ⟨g51, 0, none⟩))]) [2, 3] (by kernel_rfl) ?_
    refine NN.then ?_
    refine J.ret ?_
    refine NN.then_ret ?_
    refine NN.fin1 2 (.int .i64 0) (by kernel_rfl) (by kernel_rfl) (.inl rfl) (fun w hi => hi.ret ?_)
    first | (cases H; rfl) | (obtain rfl := Option.some.inj H; rfl) | (simp only [Option.some.injEq, Prod.mk.injEq] at H; obtain ⟨rfl⟩ := H; rfl)
  · rw [if_neg (of_decide_eq_false c52)] at H
    refine LL.bool 10 (decide (a0_8 < 0)) false c52 (by kernel_rfl) ?_
    refine LL.op (.pointer (some ⟨g51, 0, none⟩)) (by kernel_rfl) (fun w _ => by kernel_rfl) ?_
    refine LL.op (.int .i64 a0_8) (by kernel_rfl) (ld 0 g51 0 rfl (by kernel_rfl) rfl (by kernel_rfl)) ?_
    refine LL.op (.pointer (some ⟨g51, 1, none⟩)) (by kernel_rfl) (fun w _ => by kernel_rfl) ?_
    refine LL.op (.int .i64 a0_9) (by kernel_rfl) (ld 0 g51 1 rfl (by kernel_rfl) rfl (by kernel_rfl)) ?_
    refine LL.op (.bool (decide (a0_9 ≤ a0_8))) (by kernel_rfl) (fun w _ => by kernel_rfl) ?_
    refine LL.op (.bool (decide (a0_9 ≤ a0_8))) (by kernel_rfl) (fun w _ => by kernel_rfl) ?_
    refine LL.op (.bool (decide (a0_9 ≤ a0_8))) (by kernel_rfl) (fun w _ => by kernel_rfl) ?_
    rcases Bool.eq_false_or_eq_true (decide (a0_9 ≤ a0_8)) with c53 | c53
    · rw [if_pos (of_decide_eq_true c53)] at H
      refine LL.bool 17 (decide (a0_9 ≤ a0_8)) true c53 (by kernel_rfl) ?_
      refine LL.off (by kernel_rfl) (by kernel_rfl) ?_
      refine LL.off (by kernel_rfl) (by kernel_rfl) ?_
      refine LL.off (by kernel_rfl) (by kernel_rfl) ?_
      refine LL.op (.bool true) (by kernel_rfl) (fun w _ => by kernel_rfl) ?_
      refine LL.done (s' := [(2, .int .i64 0), (3, .pointer (some ⟨g51, 0, none⟩)), (21, .bool true)]) [2, 3, 21] (by kernel_rfl) ?_
      refine NN.then ?_
      refine J.condT (b := true) rfl (by kernel_rfl) (by kernel_rfl) ?_
      refine J.seq ?_
      refine J.plain ?_
      refine LL.op (.int .i64 0) (by kernel_rfl) (fun w _ => by kernel_rfl) ?_
      refine LL.done (s' := [(2, .int .i64 0), (3, .pointer (some ⟨g51, 0, none⟩))]) [2, 3] (by kernel_rfl) ?_
      refine NN.then ?_
      refine J.ret ?_
      refine NN.then_ret ?_
      refine NN.fin1 2 (.int .i64 0) (by kernel_rfl) (by kernel_rfl) (.inl rfl) (fun w hi => hi.ret ?_)
      first | (cases H; rfl) | (obtain rfl := Option.some.inj H; rfl) | (simp only [Option.some.injEq, Prod.mk.injEq] at H; obtain ⟨rfl⟩ := H; rfl)
    · rw [if_neg (of_decide_eq_false c53)] at H
      refine LL.bool 17 (decide (a0_9 ≤ a0_8)) false c53 (by kernel_rfl) ?_
      refine LL.op (.pointer (some ⟨g51, 1, none⟩)) (by kernel_rfl) (fun w _ => by kernel_rfl) ?_
      refine LL.op (.int .i64 a0_9) (by kernel_rfl) (ld 0 g51 1 rfl (by kernel_rfl) rfl (by kernel_rfl)) ?_
      refine LL.op (.bool (decide (20000 < a0_9))) (by kernel_rfl) (fun w _ => by kernel_rfl) ?_
      refine LL.op (.bool (decide (20000 < a0_9))) (by kernel_rfl) (fun w _ => by kernel_rfl) ?_
      refine LL.done (s' := [(2, .int .i64 0), (3, .pointer (some ⟨g51, 0, none⟩)), (21, .bool (decide (20000 < a0_9)))]) [2, 3, 21] (by kernel_rfl) ?_
      refine NN.then ?_
      rcases Bool.eq_false_or_eq_true (decide (20000 < a0_9)) with c54 | c54
      · rw [if_pos (of_decide_eq_true c54)] at H
        refine J.condT (b := decide (20000 < a0_9)) c54 (by kernel_rfl) (by kernel_rfl) ?_
        refine J.seq ?_
        refine J.plain ?_
        refine LL.op (.int .i64 0) (by kernel_rfl) (fun w _ => by kernel_rfl) ?_
        refine LL.done (s' := [(2, .int .i64 0), (3, .pointer (some ⟨g51, 0, none⟩))]) [2, 3] (by kernel_rfl) ?_
        refine NN.then ?_
        refine J.ret ?_
        refine NN.then_ret ?_
        refine NN.fin1 2 (.int .i64 0) (by kernel_rfl) (by kernel_rfl) (.inl rfl) (fun w hi => hi.ret ?_)
        first | (cases H; rfl) | (obtain rfl := Option.some.inj H; rfl) | (simp only [Option.some.injEq, Prod.mk.injEq] at H; obtain ⟨rfl⟩ := H; rfl)
      · rw [if_neg (of_decide_eq_false c54)] at H
        refine J.condF (b := decide (20000 < a0_9)) c54 (by kernel_rfl) (by kernel_rfl) ?_
        refine J.skip ?_
        refine NN.then ?_
        refine J.seq ?_
        refine J.plain ?_
        refine LL.op (.agg #[.int .i64 a0_8, .int .i64 a0_9]) (by kernel_rfl) (ld 0 g51 0 rfl (by kernel_rfl) rfl (by kernel_rfl)) ?_
        obtain ⟨x55, hx55, H⟩ := bind_some H
        refine LL.call 46 #[.agg #[.int .i64 a0_8, .int .i64 a0_9]] (.int .i64 x55) (by kernel_rfl) (fun w => by kernel_rfl) (fun w hw => board_size.calls a0_8 a0_9   _ w   hx55) ?_
        refine LL.op (.int .i64 x55) (by kernel_rfl) (fun w _ => by kernel_rfl) ?_
        refine LL.done (s' := [(2, .int .i64 x55)]) [2] (by kernel_rfl) ?_
        refine NN.then ?_
        refine J.ret ?_
        refine NN.fin1 2 (.int .i64 x55) (by kernel_rfl) (by kernel_rfl) (.inl rfl) (fun w hi => hi.ret ?_)
        first | (cases H; rfl) | (obtain rfl := Option.some.inj H; rfl) | (simp only [Option.some.injEq, Prod.mk.injEq] at H; obtain ⟨rfl⟩ := H; rfl)

/-! ### moist_Check: function 47 -/
def moist_Check.f (a0_0 : Int) (a0_1 : Int) (a0_2 : Int) : Option (Int) := if (mn a0_0 a0_1) < 0 then (some 25) else (if 20000 < (mx a0_0 a0_1) then (some 25) else (if a0_2 < 0 then (some 9) else (if 1099511627776 < a0_2 then (some 9) else (some 0))))
set_option maxRecDepth 100000 in
theorem moist_Check.calls (a0_0 : Int) (a0_1 : Int) (a0_2 : Int)    (r1 : Int) (w : World)    (h : moist_Check.f a0_0 a0_1 a0_2 = some r1) :
    Calls Try.prog 47 #[.agg #[.int .i64 a0_0, .int .i64 a0_1, .int .i64 a0_2]] w (Ret w (.int .i64 r1)) := by
  have H := h
  clear h
  unfold moist_Check.f at H
  refine Go.Saw.calls (args := [.agg #[.int .i64 a0_0, .int .i64 a0_1, .int .i64 a0_2]]) Try.func47 rfl Try.ntmps47 (by kernel_rfl) ?_
  refine J.seq ?_
  refine J.plain ?_
  refine LL.box 35 (.tmp 0) [.int .i64 a0_0, .int .i64 a0_1, .int .i64 a0_2] (by kernel_rfl) rfl (by kernel_rfl) (fun g56 => ?_)
  refine LL.op (.int .i64 0) (by kernel_rfl) (fun w _ => by kernel_rfl) ?_
  refine LL.done (s' := [(1, .pointer (some ⟨g56, 0, none⟩)), (2, .int .i64 0)]) [1, 2] (by kernel_rfl) ?_
  refine NN.then ?_
  refine J.seq ?_
  refine J.seq ?_
  refine J.plain ?_
  refine LL.op (.pointer (some ⟨g56, 0, none⟩)) (by kernel_rfl) (fun w _ => by kernel_rfl) ?_
  refine LL.op (.int .i64 a0_0) (by kernel_rfl) (ld 0 g56 0 rfl (by kernel_rfl) rfl (by kernel_rfl)) ?_
  refine LL.op (.pointer (some ⟨g56, 1, none⟩)) (by kernel_rfl) (fun w _ => by kernel_rfl) ?_
  refine LL.op (.int .i64 a0_1) (by kernel_rfl) (ld 0 g56 1 rfl (by kernel_rfl) rfl (by kernel_rfl)) ?_
  refine LL.op (.int .i64 (mn a0_0 a0_1)) (by kernel_rfl) (fun w _ => by kernel_rfl) ?_
  refine LL.op (.bool (decide ((mn a0_0 a0_1) < 0))) (by kernel_rfl) (fun w _ => by kernel_rfl) ?_
  refine LL.op (.bool (decide ((mn a0_0 a0_1) < 0))) (by kernel_rfl) (fun w _ => by kernel_rfl) ?_
  rcases Bool.eq_false_or_eq_true (decide ((mn a0_0 a0_1) < 0)) with c57 | c57
  · rw [if_pos (of_decide_eq_true c57)] at H
    refine LL.bool 9 (decide ((mn a0_0 a0_1) < 0)) true c57 (by kernel_rfl) ?_
    refine LL.off (by kernel_rfl) (by kernel_rfl) ?_
    refine LL.off (by kernel_rfl) (by kernel_rfl) ?_
    refine LL.off (by kernel_rfl) (by kernel_rfl) ?_
    refine LL.off (by kernel_rfl) (by kernel_rfl) ?_
    refine LL.off (by kernel_rfl) (by kernel_rfl) ?_
    refine LL.off (by kernel_rfl) (by kernel_rfl) ?_
    refine LL.op (.bool true) (by kernel_rfl) (fun w _ => by kernel_rfl) ?_
    refine LL.done (s' := [(1, .pointer (some ⟨g56, 0, none⟩)), (2, .int .i64 0), (16, .bool true)]) [1, 2, 16] (by kernel_rfl) ?_
    refine NN.then ?_
    refine J.condT (b := true) rfl (by kernel_rfl) (by kernel_rfl) ?_
    refine J.seq ?_
    refine J.plain ?_
    refine LL.op (.int .i64 25) (by kernel_rfl) (fun w _ => by kernel_rfl) ?_
    refine LL.done (s' := [(1, .pointer (some ⟨g56, 0, none⟩)), (2, .int .i64 25)]) [1, 2] (by kernel_rfl) ?_
    refine NN.then ?_
    refine J.ret ?_
    refine NN.then_ret ?_
    refine NN.fin1 2 (.int .i64 25) (by kernel_rfl) (by kernel_rfl) (.inl rfl) (fun w hi => hi.ret ?_)
    first | (cases H; rfl) | (obtain rfl := Option.some.inj H; rfl) | (simp only [Option.some.injEq, Prod.mk.injEq] at H; obtain ⟨rfl⟩ := H; rfl)
  · rw [if_neg (of_decide_eq_false c57)] at H
    refine LL.bool 9 (decide ((mn a0_0 a0_1) < 0)) false c57 (by kernel_rfl) ?_
    refine LL.op (.pointer (some ⟨g56, 0, none⟩)) (by kernel_rfl) (fun w _ => by kernel_rfl) ?_
    refine LL.op (.int .i64 a0_0) (by kernel_rfl) (ld 0 g56 0 rfl (by kernel_rfl) rfl (by kernel_rfl)) ?_
    refine LL.op (.pointer (some ⟨g56, 1, none⟩)) (by kernel_rfl) (fun w _ => by kernel_rfl) ?_
    refine LL.op (.int .i64 a0_1) (by kernel_rfl) (ld 0 g56 1 rfl (by kernel_rfl) rfl (by kernel_rfl)) ?_
    refine LL.op (.int .i64 (mx a0_0 a0_1)) (by kernel_rfl) (fun w _ => by kernel_rfl) ?_
    refine LL.op (.bool (decide (20000 < (mx a0_0 a0_1)))) (by kernel_rfl) (fun w _ => by kernel_rfl) ?_
    refine LL.op (.bool (decide (20000 < (mx a0_0 a0_1)))) (by kernel_rfl) (fun w _ => by kernel_rfl) ?_
    refine LL.done (s' := [(1, .pointer (some ⟨g56, 0, none⟩)), (2, .int .i64 0), (16, .bool (decide (20000 < (mx a0_0 a0_1))))]) [1, 2, 16] (by kernel_rfl) ?_
    refine NN.then ?_
    rcases Bool.eq_false_or_eq_true (decide (20000 < (mx a0_0 a0_1))) with c58 | c58
    · rw [if_pos (of_decide_eq_true c58)] at H
      refine J.condT (b := decide (20000 < (mx a0_0 a0_1))) c58 (by kernel_rfl) (by kernel_rfl) ?_
      refine J.seq ?_
      refine J.plain ?_
      refine LL.op (.int .i64 25) (by kernel_rfl) (fun w _ => by kernel_rfl) ?_
      refine LL.done (s' := [(1, .pointer (some ⟨g56, 0, none⟩)), (2, .int .i64 25)]) [1, 2] (by kernel_rfl) ?_
      refine NN.then ?_
      refine J.ret ?_
      refine NN.then_ret ?_
      refine NN.fin1 2 (.int .i64 25) (by kernel_rfl) (by kernel_rfl) (.inl rfl) (fun w hi => hi.ret ?_)
      first | (cases H; rfl) | (obtain rfl := Option.some.inj H; rfl) | (simp only [Option.some.injEq, Prod.mk.injEq] at H; obtain ⟨rfl⟩ := H; rfl)
    · rw [if_neg (of_decide_eq_false c58)] at H
      refine J.condF (b := decide (20000 < (mx a0_0 a0_1))) c58 (by kernel_rfl) (by kernel_rfl) ?_
      refine J.skip ?_
      refine NN.then ?_
      refine J.seq ?_
      refine J.seq ?_
      refine J.plain ?_
      refine LL.op (.pointer (some ⟨g56, 2, none⟩)) (by kernel_rfl) (fun w _ => by kernel_rfl) ?_
      refine LL.op (.int .i64 a0_2) (by kernel_rfl) (ld 0 g56 2 rfl (by kernel_rfl) rfl (by kernel_rfl)) ?_
      refine LL.op (.bool (decide (a0_2 < 0))) (by kernel_rfl) (fun w _ => by kernel_rfl) ?_
      refine LL.op (.bool (decide (a0_2 < 0))) (by kernel_rfl) (fun w _ => by kernel_rfl) ?_
      rcases Bool.eq_false_or_eq_true (decide (a0_2 < 0)) with c59 | c59
      · rw [if_pos (of_decide_eq_true c59)] at H
        refine LL.bool 20 (decide (a0_2 < 0)) true c59 (by kernel_rfl) ?_
        refine LL.off (by kernel_rfl) (by kernel_rfl) ?_
        refine LL.off (by kernel_rfl) (by kernel_rfl) ?_
        refine LL.off (by kernel_rfl) (by kernel_rfl) ?_
        refine LL.op (.bool true) (by kernel_rfl) (fun w _ => by kernel_rfl) ?_
        refine LL.done (s' := [(2, .int .i64 0), (24, .bool true)]) [2, 24] (by kernel_rfl) ?_
        refine NN.then ?_
        refine J.condT (b := true) rfl (by kernel_rfl) (by kernel_rfl) ?_
        refine J.seq ?_
        refine J.plain ?_
        refine LL.op (.int .i64 9) (by kernel_rfl) (fun w _ => by kernel_rfl) ?_
        refine LL.done (s' := [(2, .int .i64 9)]) [2] (by kernel_rfl) ?_
        refine NN.then ?_
        refine J.ret ?_
        refine NN.then_ret ?_
        refine NN.fin1 2 (.int .i64 9) (by kernel_rfl) (by kernel_rfl) (.inl rfl) (fun w hi => hi.ret ?_)
        first | (cases H; rfl) | (obtain rfl := Option.some.inj H; rfl) | (simp only [Option.some.injEq, Prod.mk.injEq] at H; obtain ⟨rfl⟩ := H; rfl)
      · rw [if_neg (of_decide_eq_false c59)] at H
        refine LL.bool 20 (decide (a0_2 < 0)) false c59 (by kernel_rfl) ?_
        refine LL.op (.pointer (some ⟨g56, 2, none⟩)) (by kernel_rfl) (fun w _ => by kernel_rfl) ?_
        refine LL.op (.int .i64 a0_2) (by kernel_rfl) (ld 0 g56 2 rfl (by kernel_rfl) rfl (by kernel_rfl)) ?_
        refine LL.op (.bool (decide (1099511627776 < a0_2))) (by kernel_rfl) (fun w _ => by kernel_rfl) ?_
        refine LL.op (.bool (decide (1099511627776 < a0_2))) (by kernel_rfl) (fun w _ => by kernel_rfl) ?_
        refine LL.done (s' := [(2, .int .i64 0), (24, .bool (decide (1099511627776 < a0_2)))]) [2, 24] (by kernel_rfl) ?_
        refine NN.then ?_
        rcases Bool.eq_false_or_eq_true (decide (1099511627776 < a0_2)) with c60 | c60
        · rw [if_pos (of_decide_eq_true c60)] at H
          refine J.condT (b := decide (1099511627776 < a0_2)) c60 (by kernel_rfl) (by kernel_rfl) ?_
          refine J.seq ?_
          refine J.plain ?_
          refine LL.op (.int .i64 9) (by kernel_rfl) (fun w _ => by kernel_rfl) ?_
          refine LL.done (s' := [(2, .int .i64 9)]) [2] (by kernel_rfl) ?_
          refine NN.then ?_
          refine J.ret ?_
          refine NN.then_ret ?_
          refine NN.fin1 2 (.int .i64 9) (by kernel_rfl) (by kernel_rfl) (.inl rfl) (fun w hi => hi.ret ?_)
          first | (cases H; rfl) | (obtain rfl := Option.some.inj H; rfl) | (simp only [Option.some.injEq, Prod.mk.injEq] at H; obtain ⟨rfl⟩ := H; rfl)
        · rw [if_neg (of_decide_eq_false c60)] at H
          refine J.condF (b := decide (1099511627776 < a0_2)) c60 (by kernel_rfl) (by kernel_rfl) ?_
          refine J.skip ?_
          refine NN.then ?_
          refine J.seq ?_
          refine J.plain ?_
          refine LL.op (.int .i64 0) (by kernel_rfl) (fun w _ => by kernel_rfl) ?_
          refine LL.done (s' := [(2, .int .i64 0)]) [2] (by kernel_rfl) ?_
          refine NN.then ?_
          refine J.ret ?_
          refine NN.fin1 2 (.int .i64 0) (by kernel_rfl) (by kernel_rfl) (.inl rfl) (fun w hi => hi.ret ?_)
          first | (cases H; rfl) | (obtain rfl := Option.some.inj H; rfl) | (simp only [Option.some.injEq, Prod.mk.injEq] at H; obtain ⟨rfl⟩ := H; rfl)

/-! ### moist_Mean: function 37 -/
def moist_Mean.f (a0_0 : Int) (a0_1 : Int) (a0_2 : Int) : Option (Int) := (moist_Check.f a0_0 a0_1 a0_2).bind fun x62 => (if x62 = 0 then (some (IntKind.i64.wrap (Int.tdiv (IntKind.i64.wrap (a0_0 + (IntKind.i64.wrap (2 * a0_1)))) 3))) else (some 0))
set_option maxRecDepth 100000 in
theorem moist_Mean.calls (a0_0 : Int) (a0_1 : Int) (a0_2 : Int)    (r1 : Int) (w : World)    (h : moist_Mean.f a0_0 a0_1 a0_2 = some r1) :
    Calls Try.prog 37 #[.agg #[.int .i64 a0_0, .int .i64 a0_1, .int .i64 a0_2]] w (Ret w (.int .i64 r1)) := by
  have H := h
  clear h
  unfold moist_Mean.f at H
  refine Go.Saw.calls (args := [.agg #[.int .i64 a0_0, .int .i64 a0_1, .int .i64 a0_2]]) Try.func37 rfl Try.ntmps37 (by kernel_rfl) ?_
  refine J.seq ?_
  refine J.plain ?_
  refine LL.box 35 (.tmp 0) [.int .i64 a0_0, .int .i64 a0_1, .int .i64 a0_2] (by kernel_rfl) rfl (by kernel_rfl) (fun g61 => ?_)
  refine LL.op (.int .i64 0) (by kernel_rfl) (fun w _ => by kernel_rfl) ?_
  refine LL.done (s' := [(1, .pointer (some ⟨g61, 0, none⟩)), (2, .int .i64 0)]) [1, 2] (by kernel_rfl) ?_
  refine NN.then ?_
  refine J.seq ?_
  refine J.seq ?_
  refine J.plain ?_
  refine LL.op (.agg #[.int .i64 a0_0, .int .i64 a0_1, .int .i64 a0_2]) (by kernel_rfl) (ld 0 g61 0 rfl (by kernel_rfl) rfl (by kernel_rfl)) ?_
  obtain ⟨x62, hx62, H⟩ := bind_some H
  refine LL.call 47 #[.agg #[.int .i64 a0_0, .int .i64 a0_1, .int .i64 a0_2]] (.int .i64 x62) (by kernel_rfl) (fun w => by kernel_rfl) (fun w hw => moist_Check.calls a0_0 a0_1 a0_2   _ w   hx62) ?_
  refine LL.op (.bool (!(x62 == 0))) (by kernel_rfl) (fun w _ => by kernel_rfl) ?_
  refine LL.done (s' := [(1, .pointer (some ⟨g61, 0, none⟩)), (2, .int .i64 0), (5, .bool (!(x62 == 0)))]) [1, 2, 5] (by kernel_rfl) ?_
  refine NN.then ?_
  rcases Bool.eq_false_or_eq_true ((x62 == 0)) with c63 | c63
  · rw [if_pos (eq_of_beq c63)] at H
    refine J.condF (b := !(x62 == 0)) (by rw [show (!(x62 == 0)) = !((x62 == 0)) from rfl, c63]; rfl) (by kernel_rfl) (by kernel_rfl) ?_
    refine J.skip ?_
    refine NN.then ?_
    refine J.seq ?_
    refine J.plain ?_
    refine LL.op (.pointer (some ⟨g61, 0, none⟩)) (by kernel_rfl) (fun w _ => by kernel_rfl) ?_
    refine LL.op (.int .i64 a0_0) (by kernel_rfl) (ld 0 g61 0 rfl (by kernel_rfl) rfl (by kernel_rfl)) ?_
    refine LL.op (.pointer (some ⟨g61, 1, none⟩)) (by kernel_rfl) (fun w _ => by kernel_rfl) ?_
    refine LL.op (.int .i64 a0_1) (by kernel_rfl) (ld 0 g61 1 rfl (by kernel_rfl) rfl (by kernel_rfl)) ?_
    refine LL.op (.int .i64 (IntKind.i64.wrap (2 * a0_1))) (by kernel_rfl) (fun w _ => by kernel_rfl) ?_
    refine LL.op (.int .i64 (IntKind.i64.wrap (a0_0 + (IntKind.i64.wrap (2 * a0_1))))) (by kernel_rfl) (fun w _ => by kernel_rfl) ?_
    refine LL.op (.int .i64 (IntKind.i64.wrap (Int.tdiv (IntKind.i64.wrap (a0_0 + (IntKind.i64.wrap (2 * a0_1)))) 3))) (by kernel_rfl) (fun w _ => by kernel_rfl) ?_
    refine LL.op (.int .i64 (IntKind.i64.wrap (Int.tdiv (IntKind.i64.wrap (a0_0 + (IntKind.i64.wrap (2 * a0_1)))) 3))) (by kernel_rfl) (fun w _ => by kernel_rfl) ?_
    refine LL.done (s' := [(2, .int .i64 (IntKind.i64.wrap (Int.tdiv (IntKind.i64.wrap (a0_0 + (IntKind.i64.wrap (2 * a0_1)))) 3)))]) [2] (by kernel_rfl) ?_
    refine NN.then ?_
    refine J.ret ?_
    refine NN.fin1 2 (.int .i64 (IntKind.i64.wrap (Int.tdiv (IntKind.i64.wrap (a0_0 + (IntKind.i64.wrap (2 * a0_1)))) 3))) (by kernel_rfl) (by kernel_rfl) (.inl rfl) (fun w hi => hi.ret ?_)
    first | (cases H; rfl) | (obtain rfl := Option.some.inj H; rfl) | (simp only [Option.some.injEq, Prod.mk.injEq] at H; obtain ⟨rfl⟩ := H; rfl)
  · rw [if_neg (nebf c63)] at H
    refine J.condT (b := !(x62 == 0)) (by rw [show (!(x62 == 0)) = !((x62 == 0)) from rfl, c63]; rfl) (by kernel_rfl) (by kernel_rfl) ?_
    refine J.seq ?_
    refine J.plain ?_
    refine LL.op (.int .i64 0) (by kernel_rfl) (fun w _ => by kernel_rfl) ?_
    refine LL.done (s' := [(1, .pointer (some ⟨g61, 0, none⟩)), (2, .int .i64 0)]) [1, 2] (by kernel_rfl) ?_
    refine NN.then ?_
    refine J.ret ?_
    refine NN.then_ret ?_
    refine NN.fin1 2 (.int .i64 0) (by kernel_rfl) (by kernel_rfl) (.inl rfl) (fun w hi => hi.ret ?_)
    first | (cases H; rfl) | (obtain rfl := Option.some.inj H; rfl) | (simp only [Option.some.injEq, Prod.mk.injEq] at H; obtain ⟨rfl⟩ := H; rfl)

/-! ### order_sound: function 27 -/
def order_sound.f (a0_0 : ByteArray) (a0_1 : ByteArray) (a0_2 : Int) (a0_3 : Int) (a0_4 : Int) (a0_5 : Int) (a0_6 : Int) (a0_7 : Int) (a0_8 : Int) (a0_9 : Int) (a0_10 : Int) : Option (Bool) := if a0_6 < 1 then (some false) else (if 200 < a0_6 then (some false) else (if 0 ≤ a0_7 then (if a0_7 < a0_6 then (if 0 ≤ a0_8 then (some (decide (a0_8 ≤ (IntKind.i64.wrap (200 - a0_6))))) else (some false)) else (some false)) else (some false)))
set_option maxRecDepth 100000 in
theorem order_sound.calls (a0_0 : ByteArray) (a0_1 : ByteArray) (a0_2 : Int) (a0_3 : Int) (a0_4 : Int) (a0_5 : Int) (a0_6 : Int) (a0_7 : Int) (a0_8 : Int) (a0_9 : Int) (a0_10 : Int)    (r1 : Bool) (w : World)    (h : order_sound.f a0_0 a0_1 a0_2 a0_3 a0_4 a0_5 a0_6 a0_7 a0_8 a0_9 a0_10 = some r1) :
    Calls Try.prog 27 #[.agg #[.string a0_0, .string a0_1, .int .i64 a0_2, .int .i64 a0_3, .int .i64 a0_4, .int .i64 a0_5, .int .i64 a0_6, .int .i64 a0_7, .int .i64 a0_8, .int .i64 a0_9, .int .i64 a0_10]] w (Ret w (.bool r1)) := by
  have H := h
  clear h
  unfold order_sound.f at H
  refine Go.Saw.calls (args := [.agg #[.string a0_0, .string a0_1, .int .i64 a0_2, .int .i64 a0_3, .int .i64 a0_4, .int .i64 a0_5, .int .i64 a0_6, .int .i64 a0_7, .int .i64 a0_8, .int .i64 a0_9, .int .i64 a0_10]]) Try.func27 rfl Try.ntmps27 (by kernel_rfl) ?_
  refine J.seq ?_
  refine J.plain ?_
  refine LL.box 27 (.tmp 0) [.string a0_0, .string a0_1, .int .i64 a0_2, .int .i64 a0_3, .int .i64 a0_4, .int .i64 a0_5, .int .i64 a0_6, .int .i64 a0_7, .int .i64 a0_8, .int .i64 a0_9, .int .i64 a0_10] (by kernel_rfl) rfl (by kernel_rfl) (fun g64 => ?_)
  refine LL.op (.bool false) (by kernel_rfl) (fun w _ => by kernel_rfl) ?_
  refine LL.done (s' := [(1, .pointer (some ⟨g64, 0, none⟩)), (2, .bool false)]) [1, 2] (by kernel_rfl) ?_
  refine NN.then ?_
  refine J.seq ?_
  refine J.seq ?_
  refine J.plain ?_
  refine LL.op (.pointer (some ⟨g64, 6, none⟩)) (by kernel_rfl) (fun w _ => by kernel_rfl) ?_
  refine LL.op (.int .i64 a0_6) (by kernel_rfl) (ld 0 g64 6 rfl (by kernel_rfl) rfl (by kernel_rfl)) ?_
  refine LL.op (.bool (decide (a0_6 < 1))) (by kernel_rfl) (fun w _ => by kernel_rfl) ?_
  refine LL.op (.bool (decide (a0_6 < 1))) (by kernel_rfl) (fun w _ => by kernel_rfl) ?_
  rcases Bool.eq_false_or_eq_true (decide (a0_6 < 1)) with c65 | c65
  · rw [if_pos (of_decide_eq_true c65)] at H
    refine LL.bool 6 (decide (a0_6 < 1)) true c65 (by kernel_rfl) ?_
    refine LL.off (by kernel_rfl) (by kernel_rfl) ?_
    refine LL.off (by kernel_rfl) (by kernel_rfl) ?_
    refine LL.off (by kernel_rfl) (by kernel_rfl) ?_
    refine LL.op (.bool true) (by kernel_rfl) (fun w _ => by kernel_rfl) ?_
    refine LL.done (s' := [(1, .pointer (some ⟨g64, 0, none⟩)), (2, .bool false), (10, .bool true)]) [1, 2, 10] (by kernel_rfl) ?_
    refine NN.then ?_
    refine J.condT (b := true) rfl (by kernel_rfl) (by kernel_rfl) ?_
    refine J.seq ?_
    refine J.plain ?_
    refine LL.op (.bool false) (by kernel_rfl) (fun w _ => by kernel_rfl) ?_
    refine LL.done (s' := [(1, .pointer (some ⟨g64, 0, none⟩)), (2, .bool false)]) [1, 2] (by kernel_rfl) ?_
    refine NN.then ?_
    refine J.ret ?_
    refine NN.then_ret ?_
    refine NN.fin1 2 (.bool false) (by kernel_rfl) (by kernel_rfl) (.inl rfl) (fun w hi => hi.ret ?_)
    first | (cases H; rfl) | (obtain rfl := Option.some.inj H; rfl) | (simp only [Option.some.injEq, Prod.mk.injEq] at H; obtain ⟨rfl⟩ := H; rfl)
  · rw [if_neg (of_decide_eq_false c65)] at H
    refine LL.bool 6 (decide (a0_6 < 1)) false c65 (by kernel_rfl) ?_
    refine LL.op (.pointer (some ⟨g64, 6, none⟩)) (by kernel_rfl) (fun w _ => by kernel_rfl) ?_
    refine LL.op (.int .i64 a0_6) (by kernel_rfl) (ld 0 g64 6 rfl (by kernel_rfl) rfl (by kernel_rfl)) ?_
    refine LL.op (.bool (decide (200 < a0_6))) (by kernel_rfl) (fun w _ => by kernel_rfl) ?_
    refine LL.op (.bool (decide (200 < a0_6))) (by kernel_rfl) (fun w _ => by kernel_rfl) ?_
    refine LL.done (s' := [(1, .pointer (some ⟨g64, 0, none⟩)), (2, .bool false), (10, .bool (decide (200 < a0_6)))]) [1, 2, 10] (by kernel_rfl) ?_
    refine NN.then ?_
    rcases Bool.eq_false_or_eq_true (decide (200 < a0_6)) with c66 | c66
    · rw [if_pos (of_decide_eq_true c66)] at H
      refine J.condT (b := decide (200 < a0_6)) c66 (by kernel_rfl) (by kernel_rfl) ?_
      refine J.seq ?_
      refine J.plain ?_
      refine LL.op (.bool false) (by kernel_rfl) (fun w _ => by kernel_rfl) ?_
      refine LL.done (s' := [(1, .pointer (some ⟨g64, 0, none⟩)), (2, .bool false)]) [1, 2] (by kernel_rfl) ?_
      refine NN.then ?_
      refine J.ret ?_
      refine NN.then_ret ?_
      refine NN.fin1 2 (.bool false) (by kernel_rfl) (by kernel_rfl) (.inl rfl) (fun w hi => hi.ret ?_)
      first | (cases H; rfl) | (obtain rfl := Option.some.inj H; rfl) | (simp only [Option.some.injEq, Prod.mk.injEq] at H; obtain ⟨rfl⟩ := H; rfl)
    · rw [if_neg (of_decide_eq_false c66)] at H
      refine J.condF (b := decide (200 < a0_6)) c66 (by kernel_rfl) (by kernel_rfl) ?_
      refine J.skip ?_
      refine NN.then ?_
      refine J.seq ?_
      refine J.plain ?_
      refine LL.op (.pointer (some ⟨g64, 7, none⟩)) (by kernel_rfl) (fun w _ => by kernel_rfl) ?_
      refine LL.op (.int .i64 a0_7) (by kernel_rfl) (ld 0 g64 7 rfl (by kernel_rfl) rfl (by kernel_rfl)) ?_
      refine LL.op (.bool (decide (0 ≤ a0_7))) (by kernel_rfl) (fun w _ => by kernel_rfl) ?_
      refine LL.op (.bool (decide (0 ≤ a0_7))) (by kernel_rfl) (fun w _ => by kernel_rfl) ?_
      rcases Bool.eq_false_or_eq_true (decide (0 ≤ a0_7)) with c67 | c67
      · rw [if_pos (of_decide_eq_true c67)] at H
        refine LL.bool 14 (decide (0 ≤ a0_7)) true c67 (by kernel_rfl) ?_
        refine LL.op (.pointer (some ⟨g64, 7, none⟩)) (by kernel_rfl) (fun w _ => by kernel_rfl) ?_
        refine LL.op (.int .i64 a0_7) (by kernel_rfl) (ld 0 g64 7 rfl (by kernel_rfl) rfl (by kernel_rfl)) ?_
        refine LL.op (.pointer (some ⟨g64, 6, none⟩)) (by kernel_rfl) (fun w _ => by kernel_rfl) ?_
        refine LL.op (.int .i64 a0_6) (by kernel_rfl) (ld 0 g64 6 rfl (by kernel_rfl) rfl (by kernel_rfl)) ?_
        refine LL.op (.bool (decide (a0_7 < a0_6))) (by kernel_rfl) (fun w _ => by kernel_rfl) ?_
        refine LL.op (.bool (decide (a0_7 < a0_6))) (by kernel_rfl) (fun w _ => by kernel_rfl) ?_
        refine LL.op (.bool (decide (a0_7 < a0_6))) (by kernel_rfl) (fun w _ => by kernel_rfl) ?_
        rcases Bool.eq_false_or_eq_true (decide (a0_7 < a0_6)) with c68 | c68
        · rw [if_pos (of_decide_eq_true c68)] at H
          refine LL.bool 21 (decide (a0_7 < a0_6)) true c68 (by kernel_rfl) ?_
          refine LL.op (.pointer (some ⟨g64, 8, none⟩)) (by kernel_rfl) (fun w _ => by kernel_rfl) ?_
          refine LL.op (.int .i64 a0_8) (by kernel_rfl) (ld 0 g64 8 rfl (by kernel_rfl) rfl (by kernel_rfl)) ?_
          refine LL.op (.bool (decide (0 ≤ a0_8))) (by kernel_rfl) (fun w _ => by kernel_rfl) ?_
          refine LL.op (.bool (decide (0 ≤ a0_8))) (by kernel_rfl) (fun w _ => by kernel_rfl) ?_
          refine LL.op (.bool (decide (0 ≤ a0_8))) (by kernel_rfl) (fun w _ => by kernel_rfl) ?_
          rcases Bool.eq_false_or_eq_true (decide (0 ≤ a0_8)) with c69 | c69
          · rw [if_pos (of_decide_eq_true c69)] at H
            refine LL.bool 26 (decide (0 ≤ a0_8)) true c69 (by kernel_rfl) ?_
            refine LL.op (.pointer (some ⟨g64, 8, none⟩)) (by kernel_rfl) (fun w _ => by kernel_rfl) ?_
            refine LL.op (.int .i64 a0_8) (by kernel_rfl) (ld 0 g64 8 rfl (by kernel_rfl) rfl (by kernel_rfl)) ?_
            refine LL.op (.pointer (some ⟨g64, 6, none⟩)) (by kernel_rfl) (fun w _ => by kernel_rfl) ?_
            refine LL.op (.int .i64 a0_6) (by kernel_rfl) (ld 0 g64 6 rfl (by kernel_rfl) rfl (by kernel_rfl)) ?_
            refine LL.op (.int .i64 (IntKind.i64.wrap (200 - a0_6))) (by kernel_rfl) (fun w _ => by kernel_rfl) ?_
            refine LL.op (.bool (decide (a0_8 ≤ (IntKind.i64.wrap (200 - a0_6))))) (by kernel_rfl) (fun w _ => by kernel_rfl) ?_
            refine LL.op (.bool (decide (a0_8 ≤ (IntKind.i64.wrap (200 - a0_6))))) (by kernel_rfl) (fun w _ => by kernel_rfl) ?_
            refine LL.op (.bool (decide (a0_8 ≤ (IntKind.i64.wrap (200 - a0_6))))) (by kernel_rfl) (fun w _ => by kernel_rfl) ?_
            refine LL.done (s' := [(2, .bool (decide (a0_8 ≤ (IntKind.i64.wrap (200 - a0_6)))))]) [2] (by kernel_rfl) ?_
            refine NN.then ?_
            refine J.ret ?_
            refine NN.fin1 2 (.bool (decide (a0_8 ≤ (IntKind.i64.wrap (200 - a0_6))))) (by kernel_rfl) (by kernel_rfl) (.inl rfl) (fun w hi => hi.ret ?_)
            first | (cases H; rfl) | (obtain rfl := Option.some.inj H; rfl) | (simp only [Option.some.injEq, Prod.mk.injEq] at H; obtain ⟨rfl⟩ := H; rfl)
          · rw [if_neg (of_decide_eq_false c69)] at H
            refine LL.bool 26 (decide (0 ≤ a0_8)) false c69 (by kernel_rfl) ?_
            refine LL.off (by kernel_rfl) (by kernel_rfl) ?_
            refine LL.off (by kernel_rfl) (by kernel_rfl) ?_
            refine LL.off (by kernel_rfl) (by kernel_rfl) ?_
            refine LL.off (by kernel_rfl) (by kernel_rfl) ?_
            refine LL.off (by kernel_rfl) (by kernel_rfl) ?_
            refine LL.off (by kernel_rfl) (by kernel_rfl) ?_
            refine LL.op (.bool false) (by kernel_rfl) (fun w _ => by kernel_rfl) ?_
            refine LL.op (.bool false) (by kernel_rfl) (fun w _ => by kernel_rfl) ?_
            refine LL.done (s' := [(2, .bool false)]) [2] (by kernel_rfl) ?_
            refine NN.then ?_
            refine J.ret ?_
            refine NN.fin1 2 (.bool false) (by kernel_rfl) (by kernel_rfl) (.inl rfl) (fun w hi => hi.ret ?_)
            first | (cases H; rfl) | (obtain rfl := Option.some.inj H; rfl) | (simp only [Option.some.injEq, Prod.mk.injEq] at H; obtain ⟨rfl⟩ := H; rfl)
        · rw [if_neg (of_decide_eq_false c68)] at H
          refine LL.bool 21 (decide (a0_7 < a0_6)) false c68 (by kernel_rfl) ?_
          refine LL.off (by kernel_rfl) (by kernel_rfl) ?_
          refine LL.off (by kernel_rfl) (by kernel_rfl) ?_
          refine LL.off (by kernel_rfl) (by kernel_rfl) ?_
          refine LL.op (.bool false) (by kernel_rfl) (fun w _ => by kernel_rfl) ?_
          refine LL.op (.bool false) (by kernel_rfl) (fun w _ => by kernel_rfl) ?_
          refine LL.off (by kernel_rfl) (by kernel_rfl) ?_
          refine LL.off (by kernel_rfl) (by kernel_rfl) ?_
          refine LL.off (by kernel_rfl) (by kernel_rfl) ?_
          refine LL.off (by kernel_rfl) (by kernel_rfl) ?_
          refine LL.off (by kernel_rfl) (by kernel_rfl) ?_
          refine LL.off (by kernel_rfl) (by kernel_rfl) ?_
          refine LL.op (.bool false) (by kernel_rfl) (fun w _ => by kernel_rfl) ?_
          refine LL.op (.bool false) (by kernel_rfl) (fun w _ => by kernel_rfl) ?_
          refine LL.done (s' := [(2, .bool false)]) [2] (by kernel_rfl) ?_
          refine NN.then ?_
          refine J.ret ?_
          refine NN.fin1 2 (.bool false) (by kernel_rfl) (by kernel_rfl) (.inl rfl) (fun w hi => hi.ret ?_)
          first | (cases H; rfl) | (obtain rfl := Option.some.inj H; rfl) | (simp only [Option.some.injEq, Prod.mk.injEq] at H; obtain ⟨rfl⟩ := H; rfl)
      · rw [if_neg (of_decide_eq_false c67)] at H
        refine LL.bool 14 (decide (0 ≤ a0_7)) false c67 (by kernel_rfl) ?_
        refine LL.off (by kernel_rfl) (by kernel_rfl) ?_
        refine LL.off (by kernel_rfl) (by kernel_rfl) ?_
        refine LL.off (by kernel_rfl) (by kernel_rfl) ?_
        refine LL.off (by kernel_rfl) (by kernel_rfl) ?_
        refine LL.off (by kernel_rfl) (by kernel_rfl) ?_
        refine LL.op (.bool false) (by kernel_rfl) (fun w _ => by kernel_rfl) ?_
        refine LL.op (.bool false) (by kernel_rfl) (fun w _ => by kernel_rfl) ?_
        refine LL.off (by kernel_rfl) (by kernel_rfl) ?_
        refine LL.off (by kernel_rfl) (by kernel_rfl) ?_
        refine LL.off (by kernel_rfl) (by kernel_rfl) ?_
        refine LL.op (.bool false) (by kernel_rfl) (fun w _ => by kernel_rfl) ?_
        refine LL.op (.bool false) (by kernel_rfl) (fun w _ => by kernel_rfl) ?_
        refine LL.off (by kernel_rfl) (by kernel_rfl) ?_
        refine LL.off (by kernel_rfl) (by kernel_rfl) ?_
        refine LL.off (by kernel_rfl) (by kernel_rfl) ?_
        refine LL.off (by kernel_rfl) (by kernel_rfl) ?_
        refine LL.off (by kernel_rfl) (by kernel_rfl) ?_
        refine LL.off (by kernel_rfl) (by kernel_rfl) ?_
        refine LL.op (.bool false) (by kernel_rfl) (fun w _ => by kernel_rfl) ?_
        refine LL.op (.bool false) (by kernel_rfl) (fun w _ => by kernel_rfl) ?_
        refine LL.done (s' := [(2, .bool false)]) [2] (by kernel_rfl) ?_
        refine NN.then ?_
        refine J.ret ?_
        refine NN.fin1 2 (.bool false) (by kernel_rfl) (by kernel_rfl) (.inl rfl) (fun w hi => hi.ret ?_)
        first | (cases H; rfl) | (obtain rfl := Option.some.inj H; rfl) | (simp only [Option.some.injEq, Prod.mk.injEq] at H; obtain ⟨rfl⟩ := H; rfl)

/-! ### order_Fits: function 17 -/
def order_Fits.f (a0_0 : ByteArray) (a0_1 : ByteArray) (a0_2 : Int) (a0_3 : Int) (a0_4 : Int) (a0_5 : Int) (a0_6 : Int) (a0_7 : Int) (a0_8 : Int) (a0_9 : Int) (a0_10 : Int) (a1_0 : ByteArray) (a1_1 : ByteArray) (a1_2 : ByteArray) (a1_3 : Int) (a1_4 : Int) (a1_5 : Int) (a1_6 : Int) (a1_7 : Int) (a1_8 : Int) (a1_9 : Int) (a1_10 : Int) (a1_11 : OS) (a1_12 : Int) (a1_13 : Int) (a1_14 : Int) (a1_15 : Int) (a1_16 : Bool) (a1_17 : Int) : Option (Int) := if a1_2.toList = a0_1.toList then (if a1_3 = a0_2 then ((board_Length.f a1_0 a1_1 a1_2 a1_3 a1_4 a1_5 a1_6 a1_7 a1_8 a1_9 a1_10 a1_11 a1_12 a1_13 a1_14 a1_15 a1_16 a1_17).bind fun x74 => (if x74 = a0_3 then (if a1_16 = true then ((moist_Mean.f a1_13 a1_14 a1_15).bind fun x77 => (if a0_5 < x77 then (some 25) else (if a1_17 < 1 then (some 26) else (if a0_4 < a1_17 then (some 26) else (some 0))))) else (some 14)) else (some 20))) else (some 8)) else (some 24)
set_option maxRecDepth 100000 in
theorem order_Fits.calls (a0_0 : ByteArray) (a0_1 : ByteArray) (a0_2 : Int) (a0_3 : Int) (a0_4 : Int) (a0_5 : Int) (a0_6 : Int) (a0_7 : Int) (a0_8 : Int) (a0_9 : Int) (a0_10 : Int) (a1_0 : ByteArray) (a1_1 : ByteArray) (a1_2 : ByteArray) (a1_3 : Int) (a1_4 : Int) (a1_5 : Int) (a1_6 : Int) (a1_7 : Int) (a1_8 : Int) (a1_9 : Int) (a1_10 : Int) (a1_11 : OS) (a1_12 : Int) (a1_13 : Int) (a1_14 : Int) (a1_15 : Int) (a1_16 : Bool) (a1_17 : Int)    (r1 : Int) (w : World)    (h : order_Fits.f a0_0 a0_1 a0_2 a0_3 a0_4 a0_5 a0_6 a0_7 a0_8 a0_9 a0_10 a1_0 a1_1 a1_2 a1_3 a1_4 a1_5 a1_6 a1_7 a1_8 a1_9 a1_10 a1_11 a1_12 a1_13 a1_14 a1_15 a1_16 a1_17 = some r1) :
    Calls Try.prog 17 #[.agg #[.string a0_0, .string a0_1, .int .i64 a0_2, .int .i64 a0_3, .int .i64 a0_4, .int .i64 a0_5, .int .i64 a0_6, .int .i64 a0_7, .int .i64 a0_8, .int .i64 a0_9, .int .i64 a0_10], .agg #[.string a1_0, .string a1_1, .string a1_2, .int .i64 a1_3, .int .i64 a1_4, .int .i64 a1_5, .int .i64 a1_6, .int .i64 a1_7, .int .i64 a1_8, .int .i64 a1_9, .int .i64 a1_10, .slice a1_11.1 a1_11.2.1 a1_11.2.2, .int .i64 a1_12, .int .i64 a1_13, .int .i64 a1_14, .int .i64 a1_15, .bool a1_16, .int .i64 a1_17]] w (Ret w (.int .i64 r1)) := by
  have H := h
  clear h
  unfold order_Fits.f at H
  refine Go.Saw.calls (args := [.agg #[.string a0_0, .string a0_1, .int .i64 a0_2, .int .i64 a0_3, .int .i64 a0_4, .int .i64 a0_5, .int .i64 a0_6, .int .i64 a0_7, .int .i64 a0_8, .int .i64 a0_9, .int .i64 a0_10], .agg #[.string a1_0, .string a1_1, .string a1_2, .int .i64 a1_3, .int .i64 a1_4, .int .i64 a1_5, .int .i64 a1_6, .int .i64 a1_7, .int .i64 a1_8, .int .i64 a1_9, .int .i64 a1_10, .slice a1_11.1 a1_11.2.1 a1_11.2.2, .int .i64 a1_12, .int .i64 a1_13, .int .i64 a1_14, .int .i64 a1_15, .bool a1_16, .int .i64 a1_17]]) Try.func17 rfl Try.ntmps17 (by kernel_rfl) ?_
  refine J.seq ?_
  refine J.plain ?_
  refine LL.box 27 (.tmp 0) [.string a0_0, .string a0_1, .int .i64 a0_2, .int .i64 a0_3, .int .i64 a0_4, .int .i64 a0_5, .int .i64 a0_6, .int .i64 a0_7, .int .i64 a0_8, .int .i64 a0_9, .int .i64 a0_10] (by kernel_rfl) rfl (by kernel_rfl) (fun g70 => ?_)
  refine LL.box 37 (.tmp 1) [.string a1_0, .string a1_1, .string a1_2, .int .i64 a1_3, .int .i64 a1_4, .int .i64 a1_5, .int .i64 a1_6, .int .i64 a1_7, .int .i64 a1_8, .int .i64 a1_9, .int .i64 a1_10, .slice a1_11.1 a1_11.2.1 a1_11.2.2, .int .i64 a1_12, .int .i64 a1_13, .int .i64 a1_14, .int .i64 a1_15, .bool a1_16, .int .i64 a1_17] (by kernel_rfl) rfl (by kernel_rfl) (fun g71 => ?_)
  refine LL.op (.int .i64 0) (by kernel_rfl) (fun w _ => by kernel_rfl) ?_
  refine LL.done (s' := [(2, .pointer (some ⟨g70, 0, none⟩)), (3, .pointer (some ⟨g71, 0, none⟩)), (4, .int .i64 0)]) [2, 3, 4] (by kernel_rfl) ?_
  refine NN.then ?_
  refine J.seq ?_
  refine J.block ?_
  refine J.seq ?_
  refine J.plain ?_
  refine LL.op (.pointer (some ⟨g71, 2, none⟩)) (by kernel_rfl) (fun w _ => by kernel_rfl) ?_
  refine LL.op (.string a1_2) (by kernel_rfl) (ld 0 g71 2 rfl (by kernel_rfl) rfl (by kernel_rfl)) ?_
  refine LL.op (.pointer (some ⟨g70, 1, none⟩)) (by kernel_rfl) (fun w _ => by kernel_rfl) ?_
  refine LL.op (.string a0_1) (by kernel_rfl) (ld 1 g70 1 rfl (by kernel_rfl) rfl (by kernel_rfl)) ?_
  refine LL.op (.bool (!(a1_2.toList == a0_1.toList))) (by kernel_rfl) (fun w _ => by kernel_rfl) ?_
  refine LL.op (.bool (!(a1_2.toList == a0_1.toList))) (by kernel_rfl) (fun w _ => by kernel_rfl) ?_
  refine LL.done (s' := [(2, .pointer (some ⟨g70, 0, none⟩)), (3, .pointer (some ⟨g71, 0, none⟩)), (4, .int .i64 0), (5, .bool (!(a1_2.toList == a0_1.toList)))]) [2, 3, 4, 5] (by kernel_rfl) ?_
  refine NN.then ?_
  rcases Bool.eq_false_or_eq_true ((a1_2.toList == a0_1.toList)) with c72 | c72
  · rw [if_pos (eq_of_beq c72)] at H
    refine J.condF (b := !(a1_2.toList == a0_1.toList)) (by rw [show (!(a1_2.toList == a0_1.toList)) = !((a1_2.toList == a0_1.toList)) from rfl, c72]; rfl) (by kernel_rfl) (by kernel_rfl) ?_
    refine J.seq ?_
    refine J.plain ?_
    refine LL.op (.pointer (some ⟨g71, 3, none⟩)) (by kernel_rfl) (fun w _ => by kernel_rfl) ?_
    refine LL.op (.int .i64 a1_3) (by kernel_rfl) (ld 0 g71 3 rfl (by kernel_rfl) rfl (by kernel_rfl)) ?_
    refine LL.op (.pointer (some ⟨g70, 2, none⟩)) (by kernel_rfl) (fun w _ => by kernel_rfl) ?_
    refine LL.op (.int .i64 a0_2) (by kernel_rfl) (ld 1 g70 2 rfl (by kernel_rfl) rfl (by kernel_rfl)) ?_
    refine LL.op (.bool (!(a1_3 == a0_2))) (by kernel_rfl) (fun w _ => by kernel_rfl) ?_
    refine LL.op (.bool (!(a1_3 == a0_2))) (by kernel_rfl) (fun w _ => by kernel_rfl) ?_
    refine LL.done (s' := [(2, .pointer (some ⟨g70, 0, none⟩)), (3, .pointer (some ⟨g71, 0, none⟩)), (4, .int .i64 0), (11, .bool (!(a1_3 == a0_2)))]) [2, 3, 4, 11] (by kernel_rfl) ?_
    refine NN.then ?_
    rcases Bool.eq_false_or_eq_true ((a1_3 == a0_2)) with c73 | c73
    · rw [if_pos (eq_of_beq c73)] at H
      refine J.condF (b := !(a1_3 == a0_2)) (by rw [show (!(a1_3 == a0_2)) = !((a1_3 == a0_2)) from rfl, c73]; rfl) (by kernel_rfl) (by kernel_rfl) ?_
      refine J.seq ?_
      refine J.drawn follows (by kernel_rfl) ?_
      refine QQ.op (.agg #[.string a1_0, .string a1_1, .string a1_2, .int .i64 a1_3, .int .i64 a1_4, .int .i64 a1_5, .int .i64 a1_6, .int .i64 a1_7, .int .i64 a1_8, .int .i64 a1_9, .int .i64 a1_10, .slice a1_11.1 a1_11.2.1 a1_11.2.2, .int .i64 a1_12, .int .i64 a1_13, .int .i64 a1_14, .int .i64 a1_15, .bool a1_16, .int .i64 a1_17]) (by kernel_rfl) (ld 0 g71 0 rfl (by kernel_rfl) rfl (by kernel_rfl)) ?_
      obtain ⟨x74, hx74, H⟩ := bind_some H
      refine QQ.call 36 #[.agg #[.string a1_0, .string a1_1, .string a1_2, .int .i64 a1_3, .int .i64 a1_4, .int .i64 a1_5, .int .i64 a1_6, .int .i64 a1_7, .int .i64 a1_8, .int .i64 a1_9, .int .i64 a1_10, .slice a1_11.1 a1_11.2.1 a1_11.2.2, .int .i64 a1_12, .int .i64 a1_13, .int .i64 a1_14, .int .i64 a1_15, .bool a1_16, .int .i64 a1_17]] (.int .i64 x74) (by kernel_rfl) (fun w => by kernel_rfl) (fun w hw => board_Length.calls a1_0 a1_1 a1_2 a1_3 a1_4 a1_5 a1_6 a1_7 a1_8 a1_9 a1_10 a1_11 a1_12 a1_13 a1_14 a1_15 a1_16 a1_17   _ w   hx74) ?_
      refine QQ.op (.pointer (some ⟨g70, 3, none⟩)) (by kernel_rfl) (fun w _ => by kernel_rfl) ?_
      refine QQ.op (.int .i64 a0_3) (by kernel_rfl) (ld 1 g70 3 rfl (by kernel_rfl) rfl (by kernel_rfl)) ?_
      refine QQ.op (.bool (!(x74 == a0_3))) (by kernel_rfl) (fun w _ => by kernel_rfl) ?_
      refine QQ.op (.bool (!(x74 == a0_3))) (by kernel_rfl) (fun w _ => by kernel_rfl) ?_
      refine QQ.done (s' := [(2, .pointer (some ⟨g70, 0, none⟩)), (3, .pointer (some ⟨g71, 0, none⟩)), (4, .int .i64 0), (17, .bool (!(x74 == a0_3)))]) [2, 3, 4, 17] (by kernel_rfl) ?_
      refine NN.then ?_
      rcases Bool.eq_false_or_eq_true ((x74 == a0_3)) with c75 | c75
      · rw [if_pos (eq_of_beq c75)] at H
        refine J.condF (b := !(x74 == a0_3)) (by rw [show (!(x74 == a0_3)) = !((x74 == a0_3)) from rfl, c75]; rfl) (by kernel_rfl) (by kernel_rfl) ?_
        refine J.seq ?_
        refine J.plain ?_
        refine LL.op (.pointer (some ⟨g71, 16, none⟩)) (by kernel_rfl) (fun w _ => by kernel_rfl) ?_
        refine LL.op (.bool a1_16) (by kernel_rfl) (ld 0 g71 16 rfl (by kernel_rfl) rfl (by kernel_rfl)) ?_
        refine LL.op (.bool (!a1_16)) (by kernel_rfl) (fun w _ => by kernel_rfl) ?_
        refine LL.op (.bool (!a1_16)) (by kernel_rfl) (fun w _ => by kernel_rfl) ?_
        refine LL.done (s' := [(2, .pointer (some ⟨g70, 0, none⟩)), (3, .pointer (some ⟨g71, 0, none⟩)), (4, .int .i64 0), (23, .bool (!a1_16))]) [2, 3, 4, 23] (by kernel_rfl) ?_
        refine NN.then ?_
        rcases Bool.eq_false_or_eq_true (a1_16) with c76 | c76
        · rw [if_pos (c76)] at H
          refine J.condF (b := !a1_16) (by rw [show (!a1_16) = !(a1_16) from rfl, c76]; rfl) (by kernel_rfl) (by kernel_rfl) ?_
          refine J.seq ?_
          refine J.drawn follows (by kernel_rfl) ?_
          refine QQ.op (.pointer (some ⟨g71, 13, none⟩)) (by kernel_rfl) (fun w _ => by kernel_rfl) ?_
          refine QQ.op (.agg #[.int .i64 a1_13, .int .i64 a1_14, .int .i64 a1_15]) (by kernel_rfl) (ld 0 g71 13 rfl (by kernel_rfl) rfl (by kernel_rfl)) ?_
          obtain ⟨x77, hx77, H⟩ := bind_some H
          refine QQ.call 37 #[.agg #[.int .i64 a1_13, .int .i64 a1_14, .int .i64 a1_15]] (.int .i64 x77) (by kernel_rfl) (fun w => by kernel_rfl) (fun w hw => moist_Mean.calls a1_13 a1_14 a1_15   _ w   hx77) ?_
          refine QQ.op (.pointer (some ⟨g70, 5, none⟩)) (by kernel_rfl) (fun w _ => by kernel_rfl) ?_
          refine QQ.op (.int .i64 a0_5) (by kernel_rfl) (ld 1 g70 5 rfl (by kernel_rfl) rfl (by kernel_rfl)) ?_
          refine QQ.op (.bool (decide (a0_5 < x77))) (by kernel_rfl) (fun w _ => by kernel_rfl) ?_
          refine QQ.op (.bool (decide (a0_5 < x77))) (by kernel_rfl) (fun w _ => by kernel_rfl) ?_
          refine QQ.done (s' := [(2, .pointer (some ⟨g70, 0, none⟩)), (3, .pointer (some ⟨g71, 0, none⟩)), (4, .int .i64 0), (27, .bool (decide (a0_5 < x77)))]) [2, 3, 4, 27] (by kernel_rfl) ?_
          refine NN.then ?_
          rcases Bool.eq_false_or_eq_true (decide (a0_5 < x77)) with c78 | c78
          · rw [if_pos (of_decide_eq_true c78)] at H
            refine J.condT (b := decide (a0_5 < x77)) c78 (by kernel_rfl) (by kernel_rfl) ?_
            refine J.seq ?_
            refine J.plain ?_
            refine LL.op (.int .i64 25) (by kernel_rfl) (fun w _ => by kernel_rfl) ?_
            refine LL.done (s' := [(4, .int .i64 25)]) [4] (by kernel_rfl) ?_
            refine NN.then ?_
            refine J.ret ?_
            refine NN.block_ret ?_
            refine NN.then_ret ?_
            refine NN.fin1 4 (.int .i64 25) (by kernel_rfl) (by kernel_rfl) (.inl rfl) (fun w hi => hi.ret ?_)
            first | (cases H; rfl) | (obtain rfl := Option.some.inj H; rfl) | (simp only [Option.some.injEq, Prod.mk.injEq] at H; obtain ⟨rfl⟩ := H; rfl)
          · rw [if_neg (of_decide_eq_false c78)] at H
            refine J.condF (b := decide (a0_5 < x77)) c78 (by kernel_rfl) (by kernel_rfl) ?_
            refine J.seq ?_
            refine J.plain ?_
            refine LL.op (.pointer (some ⟨g71, 17, none⟩)) (by kernel_rfl) (fun w _ => by kernel_rfl) ?_
            refine LL.op (.int .i64 a1_17) (by kernel_rfl) (ld 0 g71 17 rfl (by kernel_rfl) rfl (by kernel_rfl)) ?_
            refine LL.op (.bool (decide (a1_17 < 1))) (by kernel_rfl) (fun w _ => by kernel_rfl) ?_
            refine LL.op (.bool (decide (a1_17 < 1))) (by kernel_rfl) (fun w _ => by kernel_rfl) ?_
            rcases Bool.eq_false_or_eq_true (decide (a1_17 < 1)) with c79 | c79
            · rw [if_pos (of_decide_eq_true c79)] at H
              refine LL.bool 38 (decide (a1_17 < 1)) true c79 (by kernel_rfl) ?_
              refine LL.off (by kernel_rfl) (by kernel_rfl) ?_
              refine LL.off (by kernel_rfl) (by kernel_rfl) ?_
              refine LL.off (by kernel_rfl) (by kernel_rfl) ?_
              refine LL.off (by kernel_rfl) (by kernel_rfl) ?_
              refine LL.off (by kernel_rfl) (by kernel_rfl) ?_
              refine LL.op (.bool true) (by kernel_rfl) (fun w _ => by kernel_rfl) ?_
              refine LL.op (.bool true) (by kernel_rfl) (fun w _ => by kernel_rfl) ?_
              refine LL.done (s' := [(4, .int .i64 0), (34, .bool true)]) [4, 34] (by kernel_rfl) ?_
              refine NN.then ?_
              refine J.condT (b := true) rfl (by kernel_rfl) (by kernel_rfl) ?_
              refine J.seq ?_
              refine J.plain ?_
              refine LL.op (.int .i64 26) (by kernel_rfl) (fun w _ => by kernel_rfl) ?_
              refine LL.done (s' := [(4, .int .i64 26)]) [4] (by kernel_rfl) ?_
              refine NN.then ?_
              refine J.ret ?_
              refine NN.block_ret ?_
              refine NN.then_ret ?_
              refine NN.fin1 4 (.int .i64 26) (by kernel_rfl) (by kernel_rfl) (.inl rfl) (fun w hi => hi.ret ?_)
              first | (cases H; rfl) | (obtain rfl := Option.some.inj H; rfl) | (simp only [Option.some.injEq, Prod.mk.injEq] at H; obtain ⟨rfl⟩ := H; rfl)
            · rw [if_neg (of_decide_eq_false c79)] at H
              refine LL.bool 38 (decide (a1_17 < 1)) false c79 (by kernel_rfl) ?_
              refine LL.op (.pointer (some ⟨g71, 17, none⟩)) (by kernel_rfl) (fun w _ => by kernel_rfl) ?_
              refine LL.op (.int .i64 a1_17) (by kernel_rfl) (ld 0 g71 17 rfl (by kernel_rfl) rfl (by kernel_rfl)) ?_
              refine LL.op (.pointer (some ⟨g70, 4, none⟩)) (by kernel_rfl) (fun w _ => by kernel_rfl) ?_
              refine LL.op (.int .i64 a0_4) (by kernel_rfl) (ld 1 g70 4 rfl (by kernel_rfl) rfl (by kernel_rfl)) ?_
              refine LL.op (.bool (decide (a0_4 < a1_17))) (by kernel_rfl) (fun w _ => by kernel_rfl) ?_
              refine LL.op (.bool (decide (a0_4 < a1_17))) (by kernel_rfl) (fun w _ => by kernel_rfl) ?_
              refine LL.op (.bool (decide (a0_4 < a1_17))) (by kernel_rfl) (fun w _ => by kernel_rfl) ?_
              refine LL.done (s' := [(4, .int .i64 0), (34, .bool (decide (a0_4 < a1_17)))]) [4, 34] (by kernel_rfl) ?_
              refine NN.then ?_
              rcases Bool.eq_false_or_eq_true (decide (a0_4 < a1_17)) with c80 | c80
              · rw [if_pos (of_decide_eq_true c80)] at H
                refine J.condT (b := decide (a0_4 < a1_17)) c80 (by kernel_rfl) (by kernel_rfl) ?_
                refine J.seq ?_
                refine J.plain ?_
                refine LL.op (.int .i64 26) (by kernel_rfl) (fun w _ => by kernel_rfl) ?_
                refine LL.done (s' := [(4, .int .i64 26)]) [4] (by kernel_rfl) ?_
                refine NN.then ?_
                refine J.ret ?_
                refine NN.block_ret ?_
                refine NN.then_ret ?_
                refine NN.fin1 4 (.int .i64 26) (by kernel_rfl) (by kernel_rfl) (.inl rfl) (fun w hi => hi.ret ?_)
                first | (cases H; rfl) | (obtain rfl := Option.some.inj H; rfl) | (simp only [Option.some.injEq, Prod.mk.injEq] at H; obtain ⟨rfl⟩ := H; rfl)
              · rw [if_neg (of_decide_eq_false c80)] at H
                refine J.condF (b := decide (a0_4 < a1_17)) c80 (by kernel_rfl) (by kernel_rfl) ?_
                refine J.skip ?_
                refine NN.block_n ?_
                refine NN.then ?_
                refine J.seq ?_
                refine J.plain ?_
                refine LL.op (.int .i64 0) (by kernel_rfl) (fun w _ => by kernel_rfl) ?_
                refine LL.done (s' := [(4, .int .i64 0)]) [4] (by kernel_rfl) ?_
                refine NN.then ?_
                refine J.ret ?_
                refine NN.fin1 4 (.int .i64 0) (by kernel_rfl) (by kernel_rfl) (.inl rfl) (fun w hi => hi.ret ?_)
                first | (cases H; rfl) | (obtain rfl := Option.some.inj H; rfl) | (simp only [Option.some.injEq, Prod.mk.injEq] at H; obtain ⟨rfl⟩ := H; rfl)
        · rw [if_neg (nebt c76)] at H
          refine J.condT (b := !a1_16) (by rw [show (!a1_16) = !(a1_16) from rfl, c76]; rfl) (by kernel_rfl) (by kernel_rfl) ?_
          refine J.seq ?_
          refine J.plain ?_
          refine LL.op (.int .i64 14) (by kernel_rfl) (fun w _ => by kernel_rfl) ?_
          refine LL.done (s' := [(4, .int .i64 14)]) [4] (by kernel_rfl) ?_
          refine NN.then ?_
          refine J.ret ?_
          refine NN.block_ret ?_
          refine NN.then_ret ?_
          refine NN.fin1 4 (.int .i64 14) (by kernel_rfl) (by kernel_rfl) (.inl rfl) (fun w hi => hi.ret ?_)
          first | (cases H; rfl) | (obtain rfl := Option.some.inj H; rfl) | (simp only [Option.some.injEq, Prod.mk.injEq] at H; obtain ⟨rfl⟩ := H; rfl)
      · rw [if_neg (nebf c75)] at H
        refine J.condT (b := !(x74 == a0_3)) (by rw [show (!(x74 == a0_3)) = !((x74 == a0_3)) from rfl, c75]; rfl) (by kernel_rfl) (by kernel_rfl) ?_
        refine J.seq ?_
        refine J.plain ?_
        refine LL.op (.int .i64 20) (by kernel_rfl) (fun w _ => by kernel_rfl) ?_
        refine LL.done (s' := [(4, .int .i64 20)]) [4] (by kernel_rfl) ?_
        refine NN.then ?_
        refine J.ret ?_
        refine NN.block_ret ?_
        refine NN.then_ret ?_
        refine NN.fin1 4 (.int .i64 20) (by kernel_rfl) (by kernel_rfl) (.inl rfl) (fun w hi => hi.ret ?_)
        first | (cases H; rfl) | (obtain rfl := Option.some.inj H; rfl) | (simp only [Option.some.injEq, Prod.mk.injEq] at H; obtain ⟨rfl⟩ := H; rfl)
    · rw [if_neg (nebf c73)] at H
      refine J.condT (b := !(a1_3 == a0_2)) (by rw [show (!(a1_3 == a0_2)) = !((a1_3 == a0_2)) from rfl, c73]; rfl) (by kernel_rfl) (by kernel_rfl) ?_
      refine J.seq ?_
      refine J.plain ?_
      refine LL.op (.int .i64 8) (by kernel_rfl) (fun w _ => by kernel_rfl) ?_
      refine LL.done (s' := [(4, .int .i64 8)]) [4] (by kernel_rfl) ?_
      refine NN.then ?_
      refine J.ret ?_
      refine NN.block_ret ?_
      refine NN.then_ret ?_
      refine NN.fin1 4 (.int .i64 8) (by kernel_rfl) (by kernel_rfl) (.inl rfl) (fun w hi => hi.ret ?_)
      first | (cases H; rfl) | (obtain rfl := Option.some.inj H; rfl) | (simp only [Option.some.injEq, Prod.mk.injEq] at H; obtain ⟨rfl⟩ := H; rfl)
  · rw [if_neg (nebf c72)] at H
    refine J.condT (b := !(a1_2.toList == a0_1.toList)) (by rw [show (!(a1_2.toList == a0_1.toList)) = !((a1_2.toList == a0_1.toList)) from rfl, c72]; rfl) (by kernel_rfl) (by kernel_rfl) ?_
    refine J.seq ?_
    refine J.plain ?_
    refine LL.op (.int .i64 24) (by kernel_rfl) (fun w _ => by kernel_rfl) ?_
    refine LL.done (s' := [(4, .int .i64 24)]) [4] (by kernel_rfl) ?_
    refine NN.then ?_
    refine J.ret ?_
    refine NN.block_ret ?_
    refine NN.then_ret ?_
    refine NN.fin1 4 (.int .i64 24) (by kernel_rfl) (by kernel_rfl) (.inl rfl) (fun w hi => hi.ret ?_)
    first | (cases H; rfl) | (obtain rfl := Option.some.inj H; rfl) | (simp only [Option.some.injEq, Prod.mk.injEq] at H; obtain ⟨rfl⟩ := H; rfl)

/-! ### order_Least: function 10 -/
def order_Least.f (a0_0 : ByteArray) (a0_1 : ByteArray) (a0_2 : Int) (a0_3 : Int) (a0_4 : Int) (a0_5 : Int) (a0_6 : Int) (a0_7 : Int) (a0_8 : Int) (a0_9 : Int) (a0_10 : Int) : Option (Int) := (order_sound.f a0_0 a0_1 a0_2 a0_3 a0_4 a0_5 a0_6 a0_7 a0_8 a0_9 a0_10).bind fun x82 => (if x82 = true then (some (IntKind.i64.wrap (a0_6 - a0_7))) else (some 0))
set_option maxRecDepth 100000 in
theorem order_Least.calls (a0_0 : ByteArray) (a0_1 : ByteArray) (a0_2 : Int) (a0_3 : Int) (a0_4 : Int) (a0_5 : Int) (a0_6 : Int) (a0_7 : Int) (a0_8 : Int) (a0_9 : Int) (a0_10 : Int)    (r1 : Int) (w : World)    (h : order_Least.f a0_0 a0_1 a0_2 a0_3 a0_4 a0_5 a0_6 a0_7 a0_8 a0_9 a0_10 = some r1) :
    Calls Try.prog 10 #[.agg #[.string a0_0, .string a0_1, .int .i64 a0_2, .int .i64 a0_3, .int .i64 a0_4, .int .i64 a0_5, .int .i64 a0_6, .int .i64 a0_7, .int .i64 a0_8, .int .i64 a0_9, .int .i64 a0_10]] w (Ret w (.int .i64 r1)) := by
  have H := h
  clear h
  unfold order_Least.f at H
  refine Go.Saw.calls (args := [.agg #[.string a0_0, .string a0_1, .int .i64 a0_2, .int .i64 a0_3, .int .i64 a0_4, .int .i64 a0_5, .int .i64 a0_6, .int .i64 a0_7, .int .i64 a0_8, .int .i64 a0_9, .int .i64 a0_10]]) Try.func10 rfl Try.ntmps10 (by kernel_rfl) ?_
  refine J.seq ?_
  refine J.plain ?_
  refine LL.box 27 (.tmp 0) [.string a0_0, .string a0_1, .int .i64 a0_2, .int .i64 a0_3, .int .i64 a0_4, .int .i64 a0_5, .int .i64 a0_6, .int .i64 a0_7, .int .i64 a0_8, .int .i64 a0_9, .int .i64 a0_10] (by kernel_rfl) rfl (by kernel_rfl) (fun g81 => ?_)
  refine LL.op (.int .i64 0) (by kernel_rfl) (fun w _ => by kernel_rfl) ?_
  refine LL.done (s' := [(1, .pointer (some ⟨g81, 0, none⟩)), (2, .int .i64 0)]) [1, 2] (by kernel_rfl) ?_
  refine NN.then ?_
  refine J.seq ?_
  refine J.seq ?_
  refine J.plain ?_
  refine LL.op (.agg #[.string a0_0, .string a0_1, .int .i64 a0_2, .int .i64 a0_3, .int .i64 a0_4, .int .i64 a0_5, .int .i64 a0_6, .int .i64 a0_7, .int .i64 a0_8, .int .i64 a0_9, .int .i64 a0_10]) (by kernel_rfl) (ld 0 g81 0 rfl (by kernel_rfl) rfl (by kernel_rfl)) ?_
  obtain ⟨x82, hx82, H⟩ := bind_some H
  refine LL.call 27 #[.agg #[.string a0_0, .string a0_1, .int .i64 a0_2, .int .i64 a0_3, .int .i64 a0_4, .int .i64 a0_5, .int .i64 a0_6, .int .i64 a0_7, .int .i64 a0_8, .int .i64 a0_9, .int .i64 a0_10]] (.bool x82) (by kernel_rfl) (fun w => by kernel_rfl) (fun w hw => order_sound.calls a0_0 a0_1 a0_2 a0_3 a0_4 a0_5 a0_6 a0_7 a0_8 a0_9 a0_10   _ w   hx82) ?_
  refine LL.op (.bool (!x82)) (by kernel_rfl) (fun w _ => by kernel_rfl) ?_
  refine LL.done (s' := [(1, .pointer (some ⟨g81, 0, none⟩)), (2, .int .i64 0), (5, .bool (!x82))]) [1, 2, 5] (by kernel_rfl) ?_
  refine NN.then ?_
  rcases Bool.eq_false_or_eq_true (x82) with c83 | c83
  · rw [if_pos (c83)] at H
    refine J.condF (b := !x82) (by rw [show (!x82) = !(x82) from rfl, c83]; rfl) (by kernel_rfl) (by kernel_rfl) ?_
    refine J.skip ?_
    refine NN.then ?_
    refine J.seq ?_
    refine J.plain ?_
    refine LL.op (.pointer (some ⟨g81, 6, none⟩)) (by kernel_rfl) (fun w _ => by kernel_rfl) ?_
    refine LL.op (.int .i64 a0_6) (by kernel_rfl) (ld 0 g81 6 rfl (by kernel_rfl) rfl (by kernel_rfl)) ?_
    refine LL.op (.pointer (some ⟨g81, 7, none⟩)) (by kernel_rfl) (fun w _ => by kernel_rfl) ?_
    refine LL.op (.int .i64 a0_7) (by kernel_rfl) (ld 0 g81 7 rfl (by kernel_rfl) rfl (by kernel_rfl)) ?_
    refine LL.op (.int .i64 (IntKind.i64.wrap (a0_6 - a0_7))) (by kernel_rfl) (fun w _ => by kernel_rfl) ?_
    refine LL.op (.int .i64 (IntKind.i64.wrap (a0_6 - a0_7))) (by kernel_rfl) (fun w _ => by kernel_rfl) ?_
    refine LL.done (s' := [(2, .int .i64 (IntKind.i64.wrap (a0_6 - a0_7)))]) [2] (by kernel_rfl) ?_
    refine NN.then ?_
    refine J.ret ?_
    refine NN.fin1 2 (.int .i64 (IntKind.i64.wrap (a0_6 - a0_7))) (by kernel_rfl) (by kernel_rfl) (.inl rfl) (fun w hi => hi.ret ?_)
    first | (cases H; rfl) | (obtain rfl := Option.some.inj H; rfl) | (simp only [Option.some.injEq, Prod.mk.injEq] at H; obtain ⟨rfl⟩ := H; rfl)
  · rw [if_neg (nebt c83)] at H
    refine J.condT (b := !x82) (by rw [show (!x82) = !(x82) from rfl, c83]; rfl) (by kernel_rfl) (by kernel_rfl) ?_
    refine J.seq ?_
    refine J.plain ?_
    refine LL.op (.int .i64 0) (by kernel_rfl) (fun w _ => by kernel_rfl) ?_
    refine LL.done (s' := [(1, .pointer (some ⟨g81, 0, none⟩)), (2, .int .i64 0)]) [1, 2] (by kernel_rfl) ?_
    refine NN.then ?_
    refine J.ret ?_
    refine NN.then_ret ?_
    refine NN.fin1 2 (.int .i64 0) (by kernel_rfl) (by kernel_rfl) (.inl rfl) (fun w hi => hi.ret ?_)
    first | (cases H; rfl) | (obtain rfl := Option.some.inj H; rfl) | (simp only [Option.some.injEq, Prod.mk.injEq] at H; obtain ⟨rfl⟩ := H; rfl)

/-! ### order_Most: function 11 -/
def order_Most.f (a0_0 : ByteArray) (a0_1 : ByteArray) (a0_2 : Int) (a0_3 : Int) (a0_4 : Int) (a0_5 : Int) (a0_6 : Int) (a0_7 : Int) (a0_8 : Int) (a0_9 : Int) (a0_10 : Int) : Option (Int) := (order_sound.f a0_0 a0_1 a0_2 a0_3 a0_4 a0_5 a0_6 a0_7 a0_8 a0_9 a0_10).bind fun x85 => (if x85 = true then (some (IntKind.i64.wrap (a0_6 + a0_8))) else (some 0))
set_option maxRecDepth 100000 in
theorem order_Most.calls (a0_0 : ByteArray) (a0_1 : ByteArray) (a0_2 : Int) (a0_3 : Int) (a0_4 : Int) (a0_5 : Int) (a0_6 : Int) (a0_7 : Int) (a0_8 : Int) (a0_9 : Int) (a0_10 : Int)    (r1 : Int) (w : World)    (h : order_Most.f a0_0 a0_1 a0_2 a0_3 a0_4 a0_5 a0_6 a0_7 a0_8 a0_9 a0_10 = some r1) :
    Calls Try.prog 11 #[.agg #[.string a0_0, .string a0_1, .int .i64 a0_2, .int .i64 a0_3, .int .i64 a0_4, .int .i64 a0_5, .int .i64 a0_6, .int .i64 a0_7, .int .i64 a0_8, .int .i64 a0_9, .int .i64 a0_10]] w (Ret w (.int .i64 r1)) := by
  have H := h
  clear h
  unfold order_Most.f at H
  refine Go.Saw.calls (args := [.agg #[.string a0_0, .string a0_1, .int .i64 a0_2, .int .i64 a0_3, .int .i64 a0_4, .int .i64 a0_5, .int .i64 a0_6, .int .i64 a0_7, .int .i64 a0_8, .int .i64 a0_9, .int .i64 a0_10]]) Try.func11 rfl Try.ntmps11 (by kernel_rfl) ?_
  refine J.seq ?_
  refine J.plain ?_
  refine LL.box 27 (.tmp 0) [.string a0_0, .string a0_1, .int .i64 a0_2, .int .i64 a0_3, .int .i64 a0_4, .int .i64 a0_5, .int .i64 a0_6, .int .i64 a0_7, .int .i64 a0_8, .int .i64 a0_9, .int .i64 a0_10] (by kernel_rfl) rfl (by kernel_rfl) (fun g84 => ?_)
  refine LL.op (.int .i64 0) (by kernel_rfl) (fun w _ => by kernel_rfl) ?_
  refine LL.done (s' := [(1, .pointer (some ⟨g84, 0, none⟩)), (2, .int .i64 0)]) [1, 2] (by kernel_rfl) ?_
  refine NN.then ?_
  refine J.seq ?_
  refine J.seq ?_
  refine J.plain ?_
  refine LL.op (.agg #[.string a0_0, .string a0_1, .int .i64 a0_2, .int .i64 a0_3, .int .i64 a0_4, .int .i64 a0_5, .int .i64 a0_6, .int .i64 a0_7, .int .i64 a0_8, .int .i64 a0_9, .int .i64 a0_10]) (by kernel_rfl) (ld 0 g84 0 rfl (by kernel_rfl) rfl (by kernel_rfl)) ?_
  obtain ⟨x85, hx85, H⟩ := bind_some H
  refine LL.call 27 #[.agg #[.string a0_0, .string a0_1, .int .i64 a0_2, .int .i64 a0_3, .int .i64 a0_4, .int .i64 a0_5, .int .i64 a0_6, .int .i64 a0_7, .int .i64 a0_8, .int .i64 a0_9, .int .i64 a0_10]] (.bool x85) (by kernel_rfl) (fun w => by kernel_rfl) (fun w hw => order_sound.calls a0_0 a0_1 a0_2 a0_3 a0_4 a0_5 a0_6 a0_7 a0_8 a0_9 a0_10   _ w   hx85) ?_
  refine LL.op (.bool (!x85)) (by kernel_rfl) (fun w _ => by kernel_rfl) ?_
  refine LL.done (s' := [(1, .pointer (some ⟨g84, 0, none⟩)), (2, .int .i64 0), (5, .bool (!x85))]) [1, 2, 5] (by kernel_rfl) ?_
  refine NN.then ?_
  rcases Bool.eq_false_or_eq_true (x85) with c86 | c86
  · rw [if_pos (c86)] at H
    refine J.condF (b := !x85) (by rw [show (!x85) = !(x85) from rfl, c86]; rfl) (by kernel_rfl) (by kernel_rfl) ?_
    refine J.skip ?_
    refine NN.then ?_
    refine J.seq ?_
    refine J.plain ?_
    refine LL.op (.pointer (some ⟨g84, 6, none⟩)) (by kernel_rfl) (fun w _ => by kernel_rfl) ?_
    refine LL.op (.int .i64 a0_6) (by kernel_rfl) (ld 0 g84 6 rfl (by kernel_rfl) rfl (by kernel_rfl)) ?_
    refine LL.op (.pointer (some ⟨g84, 8, none⟩)) (by kernel_rfl) (fun w _ => by kernel_rfl) ?_
    refine LL.op (.int .i64 a0_8) (by kernel_rfl) (ld 0 g84 8 rfl (by kernel_rfl) rfl (by kernel_rfl)) ?_
    refine LL.op (.int .i64 (IntKind.i64.wrap (a0_6 + a0_8))) (by kernel_rfl) (fun w _ => by kernel_rfl) ?_
    refine LL.op (.int .i64 (IntKind.i64.wrap (a0_6 + a0_8))) (by kernel_rfl) (fun w _ => by kernel_rfl) ?_
    refine LL.done (s' := [(2, .int .i64 (IntKind.i64.wrap (a0_6 + a0_8)))]) [2] (by kernel_rfl) ?_
    refine NN.then ?_
    refine J.ret ?_
    refine NN.fin1 2 (.int .i64 (IntKind.i64.wrap (a0_6 + a0_8))) (by kernel_rfl) (by kernel_rfl) (.inl rfl) (fun w hi => hi.ret ?_)
    first | (cases H; rfl) | (obtain rfl := Option.some.inj H; rfl) | (simp only [Option.some.injEq, Prod.mk.injEq] at H; obtain ⟨rfl⟩ := H; rfl)
  · rw [if_neg (nebt c86)] at H
    refine J.condT (b := !x85) (by rw [show (!x85) = !(x85) from rfl, c86]; rfl) (by kernel_rfl) (by kernel_rfl) ?_
    refine J.seq ?_
    refine J.plain ?_
    refine LL.op (.int .i64 0) (by kernel_rfl) (fun w _ => by kernel_rfl) ?_
    refine LL.done (s' := [(1, .pointer (some ⟨g84, 0, none⟩)), (2, .int .i64 0)]) [1, 2] (by kernel_rfl) ?_
    refine NN.then ?_
    refine J.ret ?_
    refine NN.then_ret ?_
    refine NN.fin1 2 (.int .i64 0) (by kernel_rfl) (by kernel_rfl) (.inl rfl) (fun w hi => hi.ret ?_)
    first | (cases H; rfl) | (obtain rfl := Option.some.inj H; rfl) | (simp only [Option.some.injEq, Prod.mk.injEq] at H; obtain ⟨rfl⟩ := H; rfl)

/-! ### sawmilllaw48_ints: function 23 -/
def sawmilllaw48_ints.l0 (K : Nat) (a0 : List E3) (a1 : List E3) : Nat → Int → Option (Bool)
  | 0, _ => none
  | k + 1, x5l0 => if x5l0 < (a0.length : Int) then ((idx a0 x5l0).bind fun e91 => ((idx a1 x5l0).bind fun e92 => (if e91 = e92 then (sawmilllaw48_ints.l0 K a0 a1 k (IntKind.i64.wrap (x5l0 + 1))) else (some false)))) else (some true)
def sawmilllaw48_ints.f (K : Nat) (a0 : List E3) (a1 : List E3) : Option (Bool) := if (a0.length : Int) = (a1.length : Int) then (sawmilllaw48_ints.l0 K a0 a1 K 0) else (some false)
set_option maxRecDepth 100000 in
theorem sawmilllaw48_ints.calls (K : Nat) (a0 : List E3) (a1 : List E3)  (Aa0 : Option Addr) (ca0 : Nat) (Aa1 : Option Addr) (ca1 : Nat)  (r1 : Bool) (w : World)   (ha0 : KRow (Cx.start w) enc3 1 a0 Aa0) (ha1 : KRow (Cx.start w) enc3 1 a1 Aa1) (h : sawmilllaw48_ints.f K a0 a1 = some r1) :
    Calls Try.prog 23 #[.slice Aa0 a0.length ca0, .slice Aa1 a1.length ca1] w (Ret w (.bool r1)) := by
  have H := h
  clear h
  unfold sawmilllaw48_ints.f at H
  refine Go.Saw.calls (args := [.slice Aa0 a0.length ca0, .slice Aa1 a1.length ca1]) Try.func23 rfl Try.ntmps23 (by kernel_rfl) ?_
  refine J.seq ?_
  refine J.plain ?_
  refine LL.op (.bool false) (by kernel_rfl) (fun w _ => by kernel_rfl) ?_
  refine LL.done (s' := [(0, .slice Aa0 a0.length ca0), (1, .slice Aa1 a1.length ca1), (4, .bool false)]) [0, 1, 4] (by kernel_rfl) ?_
  refine NN.then ?_
  refine J.seq ?_
  refine J.seq ?_
  refine J.plain ?_
  refine LL.op (.slice Aa0 a0.length ca0) (by kernel_rfl) (fun w _ => by kernel_rfl) ?_
  refine LL.op (.int .i64 (a0.length : Int)) (by kernel_rfl) (fun w _ => by kernel_rfl) ?_
  refine LL.op (.slice Aa1 a1.length ca1) (by kernel_rfl) (fun w _ => by kernel_rfl) ?_
  refine LL.op (.int .i64 (a1.length : Int)) (by kernel_rfl) (fun w _ => by kernel_rfl) ?_
  refine LL.op (.bool (!((a0.length : Int) == (a1.length : Int)))) (by kernel_rfl) (fun w _ => by kernel_rfl) ?_
  refine LL.done (s' := [(0, .slice Aa0 a0.length ca0), (1, .slice Aa1 a1.length ca1), (4, .bool false), (10, .bool (!((a0.length : Int) == (a1.length : Int))))]) [0, 1, 4, 10] (by kernel_rfl) ?_
  refine NN.then ?_
  rcases Bool.eq_false_or_eq_true (((a0.length : Int) == (a1.length : Int))) with c87 | c87
  · rw [if_pos (eq_of_beq c87)] at H
    refine J.condF (b := !((a0.length : Int) == (a1.length : Int))) (by rw [show (!((a0.length : Int) == (a1.length : Int))) = !(((a0.length : Int) == (a1.length : Int))) from rfl, c87]; rfl) (by kernel_rfl) (by kernel_rfl) ?_
    refine J.skip ?_
    refine NN.then ?_
    refine J.seq ?_
    refine J.seq ?_
    refine J.plain ?_
    refine LL.op (.int .i64 0) (by kernel_rfl) (fun w _ => by kernel_rfl) ?_
    refine LL.done (s' := [(0, .slice Aa0 a0.length ca0), (1, .slice Aa1 a1.length ca1), (4, .bool false), (5, .int .i64 0)]) [0, 1, 4, 5] (by kernel_rfl) ?_
    refine NN.then ?_
    refine J.block ?_
    refine J.to [0, 1, 4, 5] (s' := [(0, .slice Aa0 a0.length ca0), (1, .slice Aa1 a1.length ca1), (4, .bool false), (5, .int .i64 0)]) (by kernel_rfl) ?_
    refine J.loop (fun n_ s_ bs_ => ∃ (x5l0 : Int), sawmilllaw48_ints.l0 K a0 a1 n_ x5l0 = some r1 ∧ s_ = [(0, .slice Aa0 a0.length ca0), (1, .slice Aa1 a1.length ca1), (4, .bool false), (5, .int .i64 x5l0)] ∧ [] = bs_) K ⟨0, H, rfl, rfl⟩ ?_
    rintro (_ | n_) s_ bs_ ⟨x5l0, H, rfl, rfl⟩
    · exact absurd H (by simp [sawmilllaw48_ints.l0])
    simp only [sawmilllaw48_ints.l0] at H
    refine J.seq ?_
    refine J.seq ?_
    refine J.plain ?_
    refine LL.op (.int .i64 x5l0) (by kernel_rfl) (fun w _ => by kernel_rfl) ?_
    refine LL.op (.slice Aa0 a0.length ca0) (by kernel_rfl) (fun w _ => by kernel_rfl) ?_
    refine LL.op (.int .i64 (a0.length : Int)) (by kernel_rfl) (fun w _ => by kernel_rfl) ?_
    refine LL.op (.bool (decide (x5l0 < (a0.length : Int)))) (by kernel_rfl) (fun w _ => by kernel_rfl) ?_
    refine LL.done (s' := [(0, .slice Aa0 a0.length ca0), (1, .slice Aa1 a1.length ca1), (4, .bool false), (5, .int .i64 x5l0), (14, .bool (decide (x5l0 < (a0.length : Int))))]) [0, 1, 4, 5, 14] (by kernel_rfl) ?_
    refine NN.then ?_
    rcases Bool.eq_false_or_eq_true (decide (x5l0 < (a0.length : Int))) with c90 | c90
    · rw [if_pos (of_decide_eq_true c90)] at H
      refine J.condT (b := decide (x5l0 < (a0.length : Int))) c90 (by kernel_rfl) (by kernel_rfl) ?_
      refine J.skip ?_
      refine NN.then ?_
      refine J.seq ?_
      refine J.block ?_
      refine J.seq ?_
      refine J.drawn follows (by kernel_rfl) ?_
      refine QQ.op (.slice Aa0 a0.length ca0) (by kernel_rfl) (fun w _ => by kernel_rfl) ?_
      refine QQ.op (.int .i64 x5l0) (by kernel_rfl) (fun w _ => by kernel_rfl) ?_
      obtain ⟨e91, he91, H⟩ := bind_some H
      refine QQ.op (.pointer (rp Aa0 (x5l0.toNat * 1 + 0))) (by kernel_rfl) (idxR (cp := ca0) (ik := .i64) ha0 he91 rfl (by kernel_rfl) (by kernel_rfl) (by kernel_rfl)) ?_
      refine QQ.op (.int .i64 e91) (by kernel_rfl) (ldR (off := 0) ha0 he91 rfl (by kernel_rfl) (by kernel_rfl)) ?_
      refine QQ.op (.slice Aa1 a1.length ca1) (by kernel_rfl) (fun w _ => by kernel_rfl) ?_
      refine QQ.op (.int .i64 x5l0) (by kernel_rfl) (fun w _ => by kernel_rfl) ?_
      obtain ⟨e92, he92, H⟩ := bind_some H
      refine QQ.op (.pointer (rp Aa1 (x5l0.toNat * 1 + 0))) (by kernel_rfl) (idxR (cp := ca1) (ik := .i64) ha1 he92 rfl (by kernel_rfl) (by kernel_rfl) (by kernel_rfl)) ?_
      refine QQ.op (.int .i64 e92) (by kernel_rfl) (ldR (off := 0) ha1 he92 rfl (by kernel_rfl) (by kernel_rfl)) ?_
      refine QQ.op (.bool (!(e91 == e92))) (by kernel_rfl) (fun w _ => by kernel_rfl) ?_
      refine QQ.done (s' := [(0, .slice Aa0 a0.length ca0), (1, .slice Aa1 a1.length ca1), (4, .bool false), (5, .int .i64 x5l0), (25, .bool (!(e91 == e92)))]) [0, 1, 4, 5, 25] (by kernel_rfl) ?_
      refine NN.then ?_
      rcases Bool.eq_false_or_eq_true ((e91 == e92)) with c93 | c93
      · rw [if_pos (eq_of_beq c93)] at H
        refine J.condF (b := !(e91 == e92)) (by rw [show (!(e91 == e92)) = !((e91 == e92)) from rfl, c93]; rfl) (by kernel_rfl) (by kernel_rfl) ?_
        refine J.skip ?_
        refine NN.block_n ?_
        refine NN.then ?_
        refine J.plain ?_
        refine LL.op (.int .i64 x5l0) (by kernel_rfl) (fun w _ => by kernel_rfl) ?_
        refine LL.op (.int .i64 (IntKind.i64.wrap (x5l0 + 1))) (by kernel_rfl) (fun w _ => by kernel_rfl) ?_
        refine LL.op (.int .i64 (IntKind.i64.wrap (x5l0 + 1))) (by kernel_rfl) (fun w _ => by kernel_rfl) ?_
        refine LL.done (s' := [(0, .slice Aa0 a0.length ca0), (1, .slice Aa1 a1.length ca1), (4, .bool false), (5, .int .i64 (IntKind.i64.wrap (x5l0 + 1)))]) [0, 1, 4, 5] (by kernel_rfl) ?_
        exact NN.round' [0, 1, 4, 5] (bs' := []) (Nat.lt_succ_self _) (List.Sublist.refl _) (by kernel_rfl) ⟨IntKind.i64.wrap (x5l0 + 1), H, rfl, rfl⟩
      · rw [if_neg (nebf c93)] at H
        refine J.condT (b := !(e91 == e92)) (by rw [show (!(e91 == e92)) = !((e91 == e92)) from rfl, c93]; rfl) (by kernel_rfl) (by kernel_rfl) ?_
        refine J.seq ?_
        refine J.plain ?_
        refine LL.op (.bool false) (by kernel_rfl) (fun w _ => by kernel_rfl) ?_
        refine LL.done (s' := [(0, .slice Aa0 a0.length ca0), (1, .slice Aa1 a1.length ca1), (4, .bool false), (5, .int .i64 x5l0)]) [0, 1, 4, 5] (by kernel_rfl) ?_
        refine NN.then ?_
        refine J.ret ?_
        refine NN.block_ret ?_
        refine NN.then_ret ?_
        refine NN.then_ret ?_
        refine NN.block_ret ?_
        refine NN.then_ret ?_
        refine NN.fin1 4 (.bool false) (by kernel_rfl) (by kernel_rfl) (.inl rfl) (fun w hi => hi.ret ?_)
        first | (cases H; rfl) | (obtain rfl := Option.some.inj H; rfl) | (simp only [Option.some.injEq, Prod.mk.injEq] at H; obtain ⟨rfl⟩ := H; rfl)
    · rw [if_neg (of_decide_eq_false c90)] at H
      refine J.condF (b := decide (x5l0 < (a0.length : Int))) c90 (by kernel_rfl) (by kernel_rfl) ?_
      refine J.exit ?_
      refine NN.then_exit ?_
      refine NN.then_exit ?_
      refine NN.block_same ?_
      refine NN.then ?_
      refine J.seq ?_
      refine J.plain ?_
      refine LL.op (.bool true) (by kernel_rfl) (fun w _ => by kernel_rfl) ?_
      refine LL.done (s' := [(4, .bool true)]) [4] (by kernel_rfl) ?_
      refine NN.then ?_
      refine J.ret ?_
      refine NN.fin1 4 (.bool true) (by kernel_rfl) (by kernel_rfl) (.inl rfl) (fun w hi => hi.ret ?_)
      first | (cases H; rfl) | (obtain rfl := Option.some.inj H; rfl) | (simp only [Option.some.injEq, Prod.mk.injEq] at H; obtain ⟨rfl⟩ := H; rfl)
  · rw [if_neg (nebf c87)] at H
    refine J.condT (b := !((a0.length : Int) == (a1.length : Int))) (by rw [show (!((a0.length : Int) == (a1.length : Int))) = !(((a0.length : Int) == (a1.length : Int))) from rfl, c87]; rfl) (by kernel_rfl) (by kernel_rfl) ?_
    refine J.seq ?_
    refine J.plain ?_
    refine LL.op (.bool false) (by kernel_rfl) (fun w _ => by kernel_rfl) ?_
    refine LL.done (s' := [(0, .slice Aa0 a0.length ca0), (1, .slice Aa1 a1.length ca1), (4, .bool false)]) [0, 1, 4] (by kernel_rfl) ?_
    refine NN.then ?_
    refine J.ret ?_
    refine NN.then_ret ?_
    refine NN.fin1 4 (.bool false) (by kernel_rfl) (by kernel_rfl) (.inl rfl) (fun w hi => hi.ret ?_)
    first | (cases H; rfl) | (obtain rfl := Option.some.inj H; rfl) | (simp only [Option.some.injEq, Prod.mk.injEq] at H; obtain ⟨rfl⟩ := H; rfl)

/-! ### sawmilllaw48_better: function 24 -/
def sawmilllaw48_better.l0 (K : Nat) (a0 : List E3) (a1 : List E3) : Nat → Int → Option (Bool)
  | 0, _ => none
  | k + 1, x5l0 => if x5l0 < (a0.length : Int) then (if x5l0 < (a1.length : Int) then ((idx a0 x5l0).bind fun e98 => ((idx a1 x5l0).bind fun e99 => (if e98 = e99 then (sawmilllaw48_better.l0 K a0 a1 k (IntKind.i64.wrap (x5l0 + 1))) else (some (decide (e99 < e98)))))) else (some false)) else (some false)
def sawmilllaw48_better.f (K : Nat) (a0 : List E3) (a1 : List E3) : Option (Bool) := sawmilllaw48_better.l0 K a0 a1 K 0
set_option maxRecDepth 100000 in
theorem sawmilllaw48_better.calls (K : Nat) (a0 : List E3) (a1 : List E3)  (Aa0 : Option Addr) (ca0 : Nat) (Aa1 : Option Addr) (ca1 : Nat)  (r1 : Bool) (w : World)   (ha0 : KRow (Cx.start w) enc3 1 a0 Aa0) (ha1 : KRow (Cx.start w) enc3 1 a1 Aa1) (h : sawmilllaw48_better.f K a0 a1 = some r1) :
    Calls Try.prog 24 #[.slice Aa0 a0.length ca0, .slice Aa1 a1.length ca1] w (Ret w (.bool r1)) := by
  have H := h
  clear h
  unfold sawmilllaw48_better.f at H
  refine Go.Saw.calls (args := [.slice Aa0 a0.length ca0, .slice Aa1 a1.length ca1]) Try.func24 rfl Try.ntmps24 (by kernel_rfl) ?_
  refine J.seq ?_
  refine J.plain ?_
  refine LL.op (.bool false) (by kernel_rfl) (fun w _ => by kernel_rfl) ?_
  refine LL.done (s' := [(0, .slice Aa0 a0.length ca0), (1, .slice Aa1 a1.length ca1), (4, .bool false)]) [0, 1, 4] (by kernel_rfl) ?_
  refine NN.then ?_
  refine J.seq ?_
  refine J.seq ?_
  refine J.plain ?_
  refine LL.op (.int .i64 0) (by kernel_rfl) (fun w _ => by kernel_rfl) ?_
  refine LL.done (s' := [(0, .slice Aa0 a0.length ca0), (1, .slice Aa1 a1.length ca1), (4, .bool false), (5, .int .i64 0)]) [0, 1, 4, 5] (by kernel_rfl) ?_
  refine NN.then ?_
  refine J.block ?_
  refine J.to [0, 1, 4, 5] (s' := [(0, .slice Aa0 a0.length ca0), (1, .slice Aa1 a1.length ca1), (4, .bool false), (5, .int .i64 0)]) (by kernel_rfl) ?_
  refine J.loop (fun n_ s_ bs_ => ∃ (x5l0 : Int), sawmilllaw48_better.l0 K a0 a1 n_ x5l0 = some r1 ∧ s_ = [(0, .slice Aa0 a0.length ca0), (1, .slice Aa1 a1.length ca1), (4, .bool false), (5, .int .i64 x5l0)] ∧ [] = bs_) K ⟨0, H, rfl, rfl⟩ ?_
  rintro (_ | n_) s_ bs_ ⟨x5l0, H, rfl, rfl⟩
  · exact absurd H (by simp [sawmilllaw48_better.l0])
  simp only [sawmilllaw48_better.l0] at H
  refine J.seq ?_
  refine J.seq ?_
  refine J.plain ?_
  refine LL.op (.int .i64 x5l0) (by kernel_rfl) (fun w _ => by kernel_rfl) ?_
  refine LL.op (.slice Aa0 a0.length ca0) (by kernel_rfl) (fun w _ => by kernel_rfl) ?_
  refine LL.op (.int .i64 (a0.length : Int)) (by kernel_rfl) (fun w _ => by kernel_rfl) ?_
  refine LL.op (.bool (decide (x5l0 < (a0.length : Int)))) (by kernel_rfl) (fun w _ => by kernel_rfl) ?_
  refine LL.op (.bool (decide (x5l0 < (a0.length : Int)))) (by kernel_rfl) (fun w _ => by kernel_rfl) ?_
  rcases Bool.eq_false_or_eq_true (decide (x5l0 < (a0.length : Int))) with c96 | c96
  · rw [if_pos (of_decide_eq_true c96)] at H
    refine LL.bool 10 (decide (x5l0 < (a0.length : Int))) true c96 (by kernel_rfl) ?_
    refine LL.op (.int .i64 x5l0) (by kernel_rfl) (fun w _ => by kernel_rfl) ?_
    refine LL.op (.slice Aa1 a1.length ca1) (by kernel_rfl) (fun w _ => by kernel_rfl) ?_
    refine LL.op (.int .i64 (a1.length : Int)) (by kernel_rfl) (fun w _ => by kernel_rfl) ?_
    refine LL.op (.bool (decide (x5l0 < (a1.length : Int)))) (by kernel_rfl) (fun w _ => by kernel_rfl) ?_
    refine LL.op (.bool (decide (x5l0 < (a1.length : Int)))) (by kernel_rfl) (fun w _ => by kernel_rfl) ?_
    refine LL.done (s' := [(0, .slice Aa0 a0.length ca0), (1, .slice Aa1 a1.length ca1), (4, .bool false), (5, .int .i64 x5l0), (15, .bool (decide (x5l0 < (a1.length : Int))))]) [0, 1, 4, 5, 15] (by kernel_rfl) ?_
    refine NN.then ?_
    rcases Bool.eq_false_or_eq_true (decide (x5l0 < (a1.length : Int))) with c97 | c97
    · rw [if_pos (of_decide_eq_true c97)] at H
      refine J.condT (b := decide (x5l0 < (a1.length : Int))) c97 (by kernel_rfl) (by kernel_rfl) ?_
      refine J.skip ?_
      refine NN.then ?_
      refine J.seq ?_
      refine J.block ?_
      refine J.seq ?_
      refine J.drawn follows (by kernel_rfl) ?_
      refine QQ.op (.slice Aa0 a0.length ca0) (by kernel_rfl) (fun w _ => by kernel_rfl) ?_
      refine QQ.op (.int .i64 x5l0) (by kernel_rfl) (fun w _ => by kernel_rfl) ?_
      obtain ⟨e98, he98, H⟩ := bind_some H
      refine QQ.op (.pointer (rp Aa0 (x5l0.toNat * 1 + 0))) (by kernel_rfl) (idxR (cp := ca0) (ik := .i64) ha0 he98 rfl (by kernel_rfl) (by kernel_rfl) (by kernel_rfl)) ?_
      refine QQ.op (.int .i64 e98) (by kernel_rfl) (ldR (off := 0) ha0 he98 rfl (by kernel_rfl) (by kernel_rfl)) ?_
      refine QQ.op (.slice Aa1 a1.length ca1) (by kernel_rfl) (fun w _ => by kernel_rfl) ?_
      refine QQ.op (.int .i64 x5l0) (by kernel_rfl) (fun w _ => by kernel_rfl) ?_
      obtain ⟨e99, he99, H⟩ := bind_some H
      refine QQ.op (.pointer (rp Aa1 (x5l0.toNat * 1 + 0))) (by kernel_rfl) (idxR (cp := ca1) (ik := .i64) ha1 he99 rfl (by kernel_rfl) (by kernel_rfl) (by kernel_rfl)) ?_
      refine QQ.op (.int .i64 e99) (by kernel_rfl) (ldR (off := 0) ha1 he99 rfl (by kernel_rfl) (by kernel_rfl)) ?_
      refine QQ.op (.bool (!(e98 == e99))) (by kernel_rfl) (fun w _ => by kernel_rfl) ?_
      refine QQ.done (s' := [(0, .slice Aa0 a0.length ca0), (1, .slice Aa1 a1.length ca1), (4, .bool false), (5, .int .i64 x5l0), (26, .bool (!(e98 == e99)))]) [0, 1, 4, 5, 26] (by kernel_rfl) ?_
      refine NN.then ?_
      rcases Bool.eq_false_or_eq_true ((e98 == e99)) with c100 | c100
      · rw [if_pos (eq_of_beq c100)] at H
        refine J.condF (b := !(e98 == e99)) (by rw [show (!(e98 == e99)) = !((e98 == e99)) from rfl, c100]; rfl) (by kernel_rfl) (by kernel_rfl) ?_
        refine J.skip ?_
        refine NN.block_n ?_
        refine NN.then ?_
        refine J.plain ?_
        refine LL.op (.int .i64 x5l0) (by kernel_rfl) (fun w _ => by kernel_rfl) ?_
        refine LL.op (.int .i64 (IntKind.i64.wrap (x5l0 + 1))) (by kernel_rfl) (fun w _ => by kernel_rfl) ?_
        refine LL.op (.int .i64 (IntKind.i64.wrap (x5l0 + 1))) (by kernel_rfl) (fun w _ => by kernel_rfl) ?_
        refine LL.done (s' := [(0, .slice Aa0 a0.length ca0), (1, .slice Aa1 a1.length ca1), (4, .bool false), (5, .int .i64 (IntKind.i64.wrap (x5l0 + 1)))]) [0, 1, 4, 5] (by kernel_rfl) ?_
        exact NN.round' [0, 1, 4, 5] (bs' := []) (Nat.lt_succ_self _) (List.Sublist.refl _) (by kernel_rfl) ⟨IntKind.i64.wrap (x5l0 + 1), H, rfl, rfl⟩
      · rw [if_neg (nebf c100)] at H
        refine J.condT (b := !(e98 == e99)) (by rw [show (!(e98 == e99)) = !((e98 == e99)) from rfl, c100]; rfl) (by kernel_rfl) (by kernel_rfl) ?_
        refine J.seq ?_
        refine J.drawn follows (by kernel_rfl) ?_
        refine QQ.op (.slice Aa0 a0.length ca0) (by kernel_rfl) (fun w _ => by kernel_rfl) ?_
        refine QQ.op (.int .i64 x5l0) (by kernel_rfl) (fun w _ => by kernel_rfl) ?_
        refine QQ.op (.pointer (rp Aa0 (x5l0.toNat * 1 + 0))) (by kernel_rfl) (idxR (cp := ca0) (ik := .i64) ha0 he98 rfl (by kernel_rfl) (by kernel_rfl) (by kernel_rfl)) ?_
        refine QQ.op (.int .i64 e98) (by kernel_rfl) (ldR (off := 0) ha0 he98 rfl (by kernel_rfl) (by kernel_rfl)) ?_
        refine QQ.op (.slice Aa1 a1.length ca1) (by kernel_rfl) (fun w _ => by kernel_rfl) ?_
        refine QQ.op (.int .i64 x5l0) (by kernel_rfl) (fun w _ => by kernel_rfl) ?_
        refine QQ.op (.pointer (rp Aa1 (x5l0.toNat * 1 + 0))) (by kernel_rfl) (idxR (cp := ca1) (ik := .i64) ha1 he99 rfl (by kernel_rfl) (by kernel_rfl) (by kernel_rfl)) ?_
        refine QQ.op (.int .i64 e99) (by kernel_rfl) (ldR (off := 0) ha1 he99 rfl (by kernel_rfl) (by kernel_rfl)) ?_
        refine QQ.op (.bool (decide (e99 < e98))) (by kernel_rfl) (fun w _ => by kernel_rfl) ?_
        refine QQ.op (.bool (decide (e99 < e98))) (by kernel_rfl) (fun w _ => by kernel_rfl) ?_
        refine QQ.done (s' := [(0, .slice Aa0 a0.length ca0), (1, .slice Aa1 a1.length ca1), (4, .bool (decide (e99 < e98))), (5, .int .i64 x5l0)]) [0, 1, 4, 5] (by kernel_rfl) ?_
        refine NN.then ?_
        refine J.ret ?_
        refine NN.block_ret ?_
        refine NN.then_ret ?_
        refine NN.then_ret ?_
        refine NN.block_ret ?_
        refine NN.then_ret ?_
        refine NN.fin1 4 (.bool (decide (e99 < e98))) (by kernel_rfl) (by kernel_rfl) (.inl rfl) (fun w hi => hi.ret ?_)
        first | (cases H; rfl) | (obtain rfl := Option.some.inj H; rfl) | (simp only [Option.some.injEq, Prod.mk.injEq] at H; obtain ⟨rfl⟩ := H; rfl)
    · rw [if_neg (of_decide_eq_false c97)] at H
      refine J.condF (b := decide (x5l0 < (a1.length : Int))) c97 (by kernel_rfl) (by kernel_rfl) ?_
      refine J.exit ?_
      refine NN.then_exit ?_
      refine NN.then_exit ?_
      refine NN.block_same ?_
      refine NN.then ?_
      refine J.seq ?_
      refine J.plain ?_
      refine LL.op (.bool false) (by kernel_rfl) (fun w _ => by kernel_rfl) ?_
      refine LL.done (s' := [(4, .bool false)]) [4] (by kernel_rfl) ?_
      refine NN.then ?_
      refine J.ret ?_
      refine NN.fin1 4 (.bool false) (by kernel_rfl) (by kernel_rfl) (.inl rfl) (fun w hi => hi.ret ?_)
      first | (cases H; rfl) | (obtain rfl := Option.some.inj H; rfl) | (simp only [Option.some.injEq, Prod.mk.injEq] at H; obtain ⟨rfl⟩ := H; rfl)
  · rw [if_neg (of_decide_eq_false c96)] at H
    refine LL.bool 10 (decide (x5l0 < (a0.length : Int))) false c96 (by kernel_rfl) ?_
    refine LL.off (by kernel_rfl) (by kernel_rfl) ?_
    refine LL.off (by kernel_rfl) (by kernel_rfl) ?_
    refine LL.off (by kernel_rfl) (by kernel_rfl) ?_
    refine LL.off (by kernel_rfl) (by kernel_rfl) ?_
    refine LL.op (.bool false) (by kernel_rfl) (fun w _ => by kernel_rfl) ?_
    refine LL.done (s' := [(0, .slice Aa0 a0.length ca0), (1, .slice Aa1 a1.length ca1), (4, .bool false), (5, .int .i64 x5l0), (15, .bool false)]) [0, 1, 4, 5, 15] (by kernel_rfl) ?_
    refine NN.then ?_
    refine J.condF (b := false) rfl (by kernel_rfl) (by kernel_rfl) ?_
    refine J.exit ?_
    refine NN.then_exit ?_
    refine NN.then_exit ?_
    refine NN.block_same ?_
    refine NN.then ?_
    refine J.seq ?_
    refine J.plain ?_
    refine LL.op (.bool false) (by kernel_rfl) (fun w _ => by kernel_rfl) ?_
    refine LL.done (s' := [(4, .bool false)]) [4] (by kernel_rfl) ?_
    refine NN.then ?_
    refine J.ret ?_
    refine NN.fin1 4 (.bool false) (by kernel_rfl) (by kernel_rfl) (.inl rfl) (fun w hi => hi.ret ?_)
    first | (cases H; rfl) | (obtain rfl := Option.some.inj H; rfl) | (simp only [Option.some.injEq, Prod.mk.injEq] at H; obtain ⟨rfl⟩ := H; rfl)

/-! ### sawmilllaw48_small: function 20 -/
def sawmilllaw48_small.l1 (K : Nat) (a0 : List (List E4)) (x3l0 : Bool) (kont_ : Int → Option (Bool)) : Nat → Int → Option (Bool)
  | 0, _ => none
  | k + 1, x5l1 => if x5l1 < (a0.length : Int) then ((idx a0 x5l1).bind fun e121 => (if 14 < (e121.length : Int) then (if x3l0 = true then (sawmilllaw48_small.l1 K a0 x3l0 kont_ k (IntKind.i64.wrap (x5l1 + 1))) else (some false)) else (sawmilllaw48_small.l1 K a0 x3l0 kont_ k (IntKind.i64.wrap (x5l1 + 1))))) else (kont_ x5l1)
def sawmilllaw48_small.l0 (K : Nat) (a0 : List (List E4)) : Nat → Bool → Int → Option (Bool)
  | 0, _, _ => none
  | k + 1, x3l0, x4l0 => if x4l0 < (a0.length : Int) then ((idx a0 x4l0).bind fun e105 => (if 1000 < (e105.length : Int) then (some false) else (if x3l0 = true then (sawmilllaw48_small.l0 K a0 k true (IntKind.i64.wrap (x4l0 + 1))) else (sawmilllaw48_small.l0 K a0 k (decide (512 < (e105.length : Int))) (IntKind.i64.wrap (x4l0 + 1)))))) else (sawmilllaw48_small.l1 K a0 x3l0 (fun (x5l1 : Int) => if x3l0 = true then (some true) else (some (decide ((a0.length : Int) ≤ 8)))) K 0)
def sawmilllaw48_small.f (K : Nat) (a0 : List (List E4)) : Option (Bool) := if 32 < (a0.length : Int) then (some (decide ((a0.length : Int) ≤ 40))) else (sawmilllaw48_small.l0 K a0 K false 0)
set_option maxRecDepth 100000 in
theorem sawmilllaw48_small.calls (K : Nat) (a0 : List (List E4))  (Aa0 : Option Addr) (ca0 : Nat)  (r1 : Bool) (w : World)   (ha0 : KRow2 (Cx.start w) enc4 1 a0 Aa0) (h : sawmilllaw48_small.f K a0 = some r1) :
    Calls Try.prog 20 #[.slice Aa0 a0.length ca0] w (Ret w (.bool r1)) := by
  have H := h
  clear h
  unfold sawmilllaw48_small.f at H
  refine Go.Saw.calls (args := [.slice Aa0 a0.length ca0]) Try.func20 rfl Try.ntmps20 (by kernel_rfl) ?_
  refine J.seq ?_
  refine J.plain ?_
  refine LL.op (.bool false) (by kernel_rfl) (fun w _ => by kernel_rfl) ?_
  refine LL.done (s' := [(0, .slice Aa0 a0.length ca0), (2, .bool false)]) [0, 2] (by kernel_rfl) ?_
  refine NN.then ?_
  refine J.seq ?_
  refine J.seq ?_
  refine J.plain ?_
  refine LL.op (.slice Aa0 a0.length ca0) (by kernel_rfl) (fun w _ => by kernel_rfl) ?_
  refine LL.op (.int .i64 (a0.length : Int)) (by kernel_rfl) (fun w _ => by kernel_rfl) ?_
  refine LL.op (.bool (decide (32 < (a0.length : Int)))) (by kernel_rfl) (fun w _ => by kernel_rfl) ?_
  refine LL.done (s' := [(0, .slice Aa0 a0.length ca0), (2, .bool false), (8, .bool (decide (32 < (a0.length : Int))))]) [0, 2, 8] (by kernel_rfl) ?_
  refine NN.then ?_
  rcases Bool.eq_false_or_eq_true (decide (32 < (a0.length : Int))) with c101 | c101
  · rw [if_pos (of_decide_eq_true c101)] at H
    refine J.condT (b := decide (32 < (a0.length : Int))) c101 (by kernel_rfl) (by kernel_rfl) ?_
    refine J.seq ?_
    refine J.plain ?_
    refine LL.op (.slice Aa0 a0.length ca0) (by kernel_rfl) (fun w _ => by kernel_rfl) ?_
    refine LL.op (.int .i64 (a0.length : Int)) (by kernel_rfl) (fun w _ => by kernel_rfl) ?_
    refine LL.op (.bool (decide ((a0.length : Int) ≤ 40))) (by kernel_rfl) (fun w _ => by kernel_rfl) ?_
    refine LL.op (.bool (decide ((a0.length : Int) ≤ 40))) (by kernel_rfl) (fun w _ => by kernel_rfl) ?_
    refine LL.done (s' := [(0, .slice Aa0 a0.length ca0), (2, .bool (decide ((a0.length : Int) ≤ 40)))]) [0, 2] (by kernel_rfl) ?_
    refine NN.then ?_
    refine J.ret ?_
    refine NN.then_ret ?_
    refine NN.fin1 2 (.bool (decide ((a0.length : Int) ≤ 40))) (by kernel_rfl) (by kernel_rfl) (.inl rfl) (fun w hi => hi.ret ?_)
    first | (cases H; rfl) | (obtain rfl := Option.some.inj H; rfl) | (simp only [Option.some.injEq, Prod.mk.injEq] at H; obtain ⟨rfl⟩ := H; rfl)
  · rw [if_neg (of_decide_eq_false c101)] at H
    refine J.condF (b := decide (32 < (a0.length : Int))) c101 (by kernel_rfl) (by kernel_rfl) ?_
    refine J.skip ?_
    refine NN.then ?_
    refine J.seq ?_
    refine J.plain ?_
    refine LL.op (.bool false) (by kernel_rfl) (fun w _ => by kernel_rfl) ?_
    refine LL.done (s' := [(0, .slice Aa0 a0.length ca0), (2, .bool false), (3, .bool false)]) [0, 2, 3] (by kernel_rfl) ?_
    refine NN.then ?_
    refine J.seq ?_
    refine J.seq ?_
    refine J.plain ?_
    refine LL.op (.int .i64 0) (by kernel_rfl) (fun w _ => by kernel_rfl) ?_
    refine LL.done (s' := [(0, .slice Aa0 a0.length ca0), (2, .bool false), (3, .bool false), (4, .int .i64 0)]) [0, 2, 3, 4] (by kernel_rfl) ?_
    refine NN.then ?_
    refine J.block ?_
    refine J.to [0, 2, 3, 4] (s' := [(0, .slice Aa0 a0.length ca0), (2, .bool false), (3, .bool false), (4, .int .i64 0)]) (by kernel_rfl) ?_
    refine J.loop (fun n_ s_ bs_ => ∃ (x3l0 : Bool) (x4l0 : Int), sawmilllaw48_small.l0 K a0 n_ x3l0 x4l0 = some r1 ∧ s_ = [(0, .slice Aa0 a0.length ca0), (2, .bool false), (3, .bool x3l0), (4, .int .i64 x4l0)] ∧ [] = bs_) K ⟨false, 0, H, rfl, rfl⟩ ?_
    rintro (_ | n_) s_ bs_ ⟨x3l0, x4l0, H, rfl, rfl⟩
    · exact absurd H (by simp [sawmilllaw48_small.l0])
    simp only [sawmilllaw48_small.l0] at H
    refine J.seq ?_
    refine J.seq ?_
    refine J.plain ?_
    refine LL.op (.int .i64 x4l0) (by kernel_rfl) (fun w _ => by kernel_rfl) ?_
    refine LL.op (.slice Aa0 a0.length ca0) (by kernel_rfl) (fun w _ => by kernel_rfl) ?_
    refine LL.op (.int .i64 (a0.length : Int)) (by kernel_rfl) (fun w _ => by kernel_rfl) ?_
    refine LL.op (.bool (decide (x4l0 < (a0.length : Int)))) (by kernel_rfl) (fun w _ => by kernel_rfl) ?_
    refine LL.done (s' := [(0, .slice Aa0 a0.length ca0), (2, .bool false), (3, .bool x3l0), (4, .int .i64 x4l0), (15, .bool (decide (x4l0 < (a0.length : Int))))]) [0, 2, 3, 4, 15] (by kernel_rfl) ?_
    refine NN.then ?_
    rcases Bool.eq_false_or_eq_true (decide (x4l0 < (a0.length : Int))) with c104 | c104
    · rw [if_pos (of_decide_eq_true c104)] at H
      refine J.condT (b := decide (x4l0 < (a0.length : Int))) c104 (by kernel_rfl) (by kernel_rfl) ?_
      refine J.skip ?_
      refine NN.then ?_
      refine J.seq ?_
      refine J.block ?_
      refine J.seq ?_
      refine J.seq ?_
      refine J.plain ?_
      refine LL.op (.slice Aa0 a0.length ca0) (by kernel_rfl) (fun w _ => by kernel_rfl) ?_
      refine LL.op (.int .i64 x4l0) (by kernel_rfl) (fun w _ => by kernel_rfl) ?_
      obtain ⟨e105, he105, H⟩ := bind_some H
      refine LL.op (.pointer (rp Aa0 (x4l0.toNat * 1 + 0))) (by kernel_rfl) (idx2 (cp := ca0) (ik := .i64) ha0 he105 rfl (by kernel_rfl) (by kernel_rfl) (by kernel_rfl)) ?_
      obtain ⟨A106, c107, k108, ld109⟩ := KRow2.row ha0 he105
      refine LL.op (.slice A106 e105.length c107) (by kernel_rfl) (ld109 rfl (by kernel_rfl) (by kernel_rfl)) ?_
      refine LL.op (.int .i64 (e105.length : Int)) (by kernel_rfl) (fun w _ => by kernel_rfl) ?_
      refine LL.op (.bool (decide (1000 < (e105.length : Int)))) (by kernel_rfl) (fun w _ => by kernel_rfl) ?_
      refine LL.done (s' := [(0, .slice Aa0 a0.length ca0), (2, .bool false), (3, .bool x3l0), (4, .int .i64 x4l0), (23, .bool (decide (1000 < (e105.length : Int))))]) [0, 2, 3, 4, 23] (by kernel_rfl) ?_
      refine NN.then ?_
      rcases Bool.eq_false_or_eq_true (decide (1000 < (e105.length : Int))) with c111 | c111
      · rw [if_pos (of_decide_eq_true c111)] at H
        refine J.condT (b := decide (1000 < (e105.length : Int))) c111 (by kernel_rfl) (by kernel_rfl) ?_
        refine J.seq ?_
        refine J.plain ?_
        refine LL.op (.bool false) (by kernel_rfl) (fun w _ => by kernel_rfl) ?_
        refine LL.done (s' := [(0, .slice Aa0 a0.length ca0), (2, .bool false), (3, .bool x3l0), (4, .int .i64 x4l0)]) [0, 2, 3, 4] (by kernel_rfl) ?_
        refine NN.then ?_
        refine J.ret ?_
        refine NN.then_ret ?_
        refine NN.block_ret ?_
        refine NN.then_ret ?_
        refine NN.then_ret ?_
        refine NN.block_ret ?_
        refine NN.then_ret ?_
        refine NN.fin1 2 (.bool false) (by kernel_rfl) (by kernel_rfl) (.inl rfl) (fun w hi => hi.ret ?_)
        first | (cases H; rfl) | (obtain rfl := Option.some.inj H; rfl) | (simp only [Option.some.injEq, Prod.mk.injEq] at H; obtain ⟨rfl⟩ := H; rfl)
      · rw [if_neg (of_decide_eq_false c111)] at H
        refine J.condF (b := decide (1000 < (e105.length : Int))) c111 (by kernel_rfl) (by kernel_rfl) ?_
        refine J.skip ?_
        refine NN.then ?_
        refine J.plain ?_
        refine LL.op (.bool x3l0) (by kernel_rfl) (fun w _ => by kernel_rfl) ?_
        refine LL.op (.bool x3l0) (by kernel_rfl) (fun w _ => by kernel_rfl) ?_
        rcases Bool.eq_false_or_eq_true (x3l0) with c112 | c112
        · rw [if_pos (c112)] at H
          refine LL.bool 25 (x3l0) true c112 (by kernel_rfl) ?_
          refine LL.off (by kernel_rfl) (by kernel_rfl) ?_
          refine LL.off (by kernel_rfl) (by kernel_rfl) ?_
          refine LL.off (by kernel_rfl) (by kernel_rfl) ?_
          refine LL.off (by kernel_rfl) (by kernel_rfl) ?_
          refine LL.off (by kernel_rfl) (by kernel_rfl) ?_
          refine LL.off (by kernel_rfl) (by kernel_rfl) ?_
          refine LL.op (.bool true) (by kernel_rfl) (fun w _ => by kernel_rfl) ?_
          refine LL.op (.bool true) (by kernel_rfl) (fun w _ => by kernel_rfl) ?_
          refine LL.done (s' := [(0, .slice Aa0 a0.length ca0), (2, .bool false), (3, .bool true), (4, .int .i64 x4l0)]) [0, 2, 3, 4] (by kernel_rfl) ?_
          refine NN.block_n ?_
          refine NN.then ?_
          refine J.plain ?_
          refine LL.op (.int .i64 x4l0) (by kernel_rfl) (fun w _ => by kernel_rfl) ?_
          refine LL.op (.int .i64 (IntKind.i64.wrap (x4l0 + 1))) (by kernel_rfl) (fun w _ => by kernel_rfl) ?_
          refine LL.op (.int .i64 (IntKind.i64.wrap (x4l0 + 1))) (by kernel_rfl) (fun w _ => by kernel_rfl) ?_
          refine LL.done (s' := [(0, .slice Aa0 a0.length ca0), (2, .bool false), (3, .bool true), (4, .int .i64 (IntKind.i64.wrap (x4l0 + 1)))]) [0, 2, 3, 4] (by kernel_rfl) ?_
          exact NN.round' [0, 2, 3, 4] (bs' := []) (Nat.lt_succ_self _) (List.Sublist.refl _) (by kernel_rfl) ⟨true, IntKind.i64.wrap (x4l0 + 1), H, rfl, rfl⟩
        · rw [if_neg (nebt c112)] at H
          refine LL.bool 25 (x3l0) false c112 (by kernel_rfl) ?_
          refine LL.op (.slice Aa0 a0.length ca0) (by kernel_rfl) (fun w _ => by kernel_rfl) ?_
          refine LL.op (.int .i64 x4l0) (by kernel_rfl) (fun w _ => by kernel_rfl) ?_
          refine LL.op (.pointer (rp Aa0 (x4l0.toNat * 1 + 0))) (by kernel_rfl) (idx2 (cp := ca0) (ik := .i64) ha0 he105 rfl (by kernel_rfl) (by kernel_rfl) (by kernel_rfl)) ?_
          obtain ⟨A113, c114, k115, ld116⟩ := KRow2.row ha0 he105
          refine LL.op (.slice A113 e105.length c114) (by kernel_rfl) (ld116 rfl (by kernel_rfl) (by kernel_rfl)) ?_
          refine LL.op (.int .i64 (e105.length : Int)) (by kernel_rfl) (fun w _ => by kernel_rfl) ?_
          refine LL.op (.bool (decide (512 < (e105.length : Int)))) (by kernel_rfl) (fun w _ => by kernel_rfl) ?_
          refine LL.op (.bool (decide (512 < (e105.length : Int)))) (by kernel_rfl) (fun w _ => by kernel_rfl) ?_
          refine LL.op (.bool (decide (512 < (e105.length : Int)))) (by kernel_rfl) (fun w _ => by kernel_rfl) ?_
          refine LL.done (s' := [(0, .slice Aa0 a0.length ca0), (2, .bool false), (3, .bool (decide (512 < (e105.length : Int)))), (4, .int .i64 x4l0)]) [0, 2, 3, 4] (by kernel_rfl) ?_
          refine NN.block_n ?_
          refine NN.then ?_
          refine J.plain ?_
          refine LL.op (.int .i64 x4l0) (by kernel_rfl) (fun w _ => by kernel_rfl) ?_
          refine LL.op (.int .i64 (IntKind.i64.wrap (x4l0 + 1))) (by kernel_rfl) (fun w _ => by kernel_rfl) ?_
          refine LL.op (.int .i64 (IntKind.i64.wrap (x4l0 + 1))) (by kernel_rfl) (fun w _ => by kernel_rfl) ?_
          refine LL.done (s' := [(0, .slice Aa0 a0.length ca0), (2, .bool false), (3, .bool (decide (512 < (e105.length : Int)))), (4, .int .i64 (IntKind.i64.wrap (x4l0 + 1)))]) [0, 2, 3, 4] (by kernel_rfl) ?_
          exact NN.round' [0, 2, 3, 4] (bs' := []) (Nat.lt_succ_self _) (List.Sublist.refl _) (by kernel_rfl) ⟨decide (512 < (e105.length : Int)), IntKind.i64.wrap (x4l0 + 1), H, rfl, rfl⟩
    · rw [if_neg (of_decide_eq_false c104)] at H
      refine J.condF (b := decide (x4l0 < (a0.length : Int))) c104 (by kernel_rfl) (by kernel_rfl) ?_
      refine J.exit ?_
      refine NN.then_exit ?_
      refine NN.then_exit ?_
      refine NN.block_same ?_
      refine NN.then ?_
      refine J.seq ?_
      refine J.seq ?_
      refine J.plain ?_
      refine LL.op (.int .i64 0) (by kernel_rfl) (fun w _ => by kernel_rfl) ?_
      refine LL.done (s' := [(0, .slice Aa0 a0.length ca0), (2, .bool false), (3, .bool x3l0), (5, .int .i64 0)]) [0, 2, 3, 5] (by kernel_rfl) ?_
      refine NN.then ?_
      refine J.block ?_
      refine J.to [0, 2, 3, 5] (s' := [(0, .slice Aa0 a0.length ca0), (2, .bool false), (3, .bool x3l0), (5, .int .i64 0)]) (by kernel_rfl) ?_
      obtain ⟨kont118, hk118, H⟩ := kont_intro (P := fun q_ => sawmilllaw48_small.l1 K a0 x3l0 q_ K 0 = some r1) H
      refine J.loop (fun n_ s_ bs_ => ∃ (x5l1 : Int), sawmilllaw48_small.l1 K a0 x3l0 kont118 n_ x5l1 = some r1 ∧ s_ = [(0, .slice Aa0 a0.length ca0), (2, .bool false), (3, .bool x3l0), (5, .int .i64 x5l1)] ∧ [] = bs_) K ⟨0, H, rfl, rfl⟩ ?_
      rintro (_ | n_) s_ bs_ ⟨x5l1, H, rfl, rfl⟩
      · exact absurd H (by simp [sawmilllaw48_small.l1])
      simp only [sawmilllaw48_small.l1] at H
      refine J.seq ?_
      refine J.seq ?_
      refine J.plain ?_
      refine LL.op (.int .i64 x5l1) (by kernel_rfl) (fun w _ => by kernel_rfl) ?_
      refine LL.op (.slice Aa0 a0.length ca0) (by kernel_rfl) (fun w _ => by kernel_rfl) ?_
      refine LL.op (.int .i64 (a0.length : Int)) (by kernel_rfl) (fun w _ => by kernel_rfl) ?_
      refine LL.op (.bool (decide (x5l1 < (a0.length : Int)))) (by kernel_rfl) (fun w _ => by kernel_rfl) ?_
      refine LL.done (s' := [(0, .slice Aa0 a0.length ca0), (2, .bool false), (3, .bool x3l0), (5, .int .i64 x5l1), (36, .bool (decide (x5l1 < (a0.length : Int))))]) [0, 2, 3, 5, 36] (by kernel_rfl) ?_
      refine NN.then ?_
      rcases Bool.eq_false_or_eq_true (decide (x5l1 < (a0.length : Int))) with c120 | c120
      · rw [if_pos (of_decide_eq_true c120)] at H
        refine J.condT (b := decide (x5l1 < (a0.length : Int))) c120 (by kernel_rfl) (by kernel_rfl) ?_
        refine J.skip ?_
        refine NN.then ?_
        refine J.seq ?_
        refine J.block ?_
        refine J.seq ?_
        refine J.plain ?_
        refine LL.op (.slice Aa0 a0.length ca0) (by kernel_rfl) (fun w _ => by kernel_rfl) ?_
        refine LL.op (.int .i64 x5l1) (by kernel_rfl) (fun w _ => by kernel_rfl) ?_
        obtain ⟨e121, he121, H⟩ := bind_some H
        refine LL.op (.pointer (rp Aa0 (x5l1.toNat * 1 + 0))) (by kernel_rfl) (idx2 (cp := ca0) (ik := .i64) ha0 he121 rfl (by kernel_rfl) (by kernel_rfl) (by kernel_rfl)) ?_
        obtain ⟨A122, c123, k124, ld125⟩ := KRow2.row ha0 he121
        refine LL.op (.slice A122 e121.length c123) (by kernel_rfl) (ld125 rfl (by kernel_rfl) (by kernel_rfl)) ?_
        refine LL.op (.int .i64 (e121.length : Int)) (by kernel_rfl) (fun w _ => by kernel_rfl) ?_
        refine LL.op (.bool (decide (14 < (e121.length : Int)))) (by kernel_rfl) (fun w _ => by kernel_rfl) ?_
        refine LL.op (.bool (decide (14 < (e121.length : Int)))) (by kernel_rfl) (fun w _ => by kernel_rfl) ?_
        rcases Bool.eq_false_or_eq_true (decide (14 < (e121.length : Int))) with c127 | c127
        · rw [if_pos (of_decide_eq_true c127)] at H
          refine LL.bool 45 (decide (14 < (e121.length : Int))) true c127 (by kernel_rfl) ?_
          refine LL.op (.bool x3l0) (by kernel_rfl) (fun w _ => by kernel_rfl) ?_
          refine LL.op (.bool (!x3l0)) (by kernel_rfl) (fun w _ => by kernel_rfl) ?_
          refine LL.op (.bool (!x3l0)) (by kernel_rfl) (fun w _ => by kernel_rfl) ?_
          refine LL.done (s' := [(0, .slice Aa0 a0.length ca0), (2, .bool false), (3, .bool x3l0), (5, .int .i64 x5l1), (48, .bool (!x3l0))]) [0, 2, 3, 5, 48] (by kernel_rfl) ?_
          refine NN.then ?_
          rcases Bool.eq_false_or_eq_true (x3l0) with c128 | c128
          · rw [if_pos (c128)] at H
            refine J.condF (b := !x3l0) (by rw [show (!x3l0) = !(x3l0) from rfl, c128]; rfl) (by kernel_rfl) (by kernel_rfl) ?_
            refine J.skip ?_
            refine NN.block_n ?_
            refine NN.then ?_
            refine J.plain ?_
            refine LL.op (.int .i64 x5l1) (by kernel_rfl) (fun w _ => by kernel_rfl) ?_
            refine LL.op (.int .i64 (IntKind.i64.wrap (x5l1 + 1))) (by kernel_rfl) (fun w _ => by kernel_rfl) ?_
            refine LL.op (.int .i64 (IntKind.i64.wrap (x5l1 + 1))) (by kernel_rfl) (fun w _ => by kernel_rfl) ?_
            refine LL.done (s' := [(0, .slice Aa0 a0.length ca0), (2, .bool false), (3, .bool x3l0), (5, .int .i64 (IntKind.i64.wrap (x5l1 + 1)))]) [0, 2, 3, 5] (by kernel_rfl) ?_
            exact NN.round' [0, 2, 3, 5] (bs' := []) (Nat.lt_succ_self _) (List.Sublist.refl _) (by kernel_rfl) ⟨IntKind.i64.wrap (x5l1 + 1), H, rfl, rfl⟩
          · rw [if_neg (nebt c128)] at H
            refine J.condT (b := !x3l0) (by rw [show (!x3l0) = !(x3l0) from rfl, c128]; rfl) (by kernel_rfl) (by kernel_rfl) ?_
            refine J.seq ?_
            refine J.plain ?_
            refine LL.op (.bool false) (by kernel_rfl) (fun w _ => by kernel_rfl) ?_
            refine LL.done (s' := [(0, .slice Aa0 a0.length ca0), (2, .bool false), (3, .bool x3l0), (5, .int .i64 x5l1)]) [0, 2, 3, 5] (by kernel_rfl) ?_
            refine NN.then ?_
            refine J.ret ?_
            refine NN.block_ret ?_
            refine NN.then_ret ?_
            refine NN.then_ret ?_
            refine NN.block_ret ?_
            refine NN.then_ret ?_
            refine NN.fin1 2 (.bool false) (by kernel_rfl) (by kernel_rfl) (.inl rfl) (fun w hi => hi.ret ?_)
            first | (cases H; rfl) | (obtain rfl := Option.some.inj H; rfl) | (simp only [Option.some.injEq, Prod.mk.injEq] at H; obtain ⟨rfl⟩ := H; rfl)
        · rw [if_neg (of_decide_eq_false c127)] at H
          refine LL.bool 45 (decide (14 < (e121.length : Int))) false c127 (by kernel_rfl) ?_
          refine LL.off (by kernel_rfl) (by kernel_rfl) ?_
          refine LL.off (by kernel_rfl) (by kernel_rfl) ?_
          refine LL.op (.bool false) (by kernel_rfl) (fun w _ => by kernel_rfl) ?_
          refine LL.done (s' := [(0, .slice Aa0 a0.length ca0), (2, .bool false), (3, .bool x3l0), (5, .int .i64 x5l1), (48, .bool false)]) [0, 2, 3, 5, 48] (by kernel_rfl) ?_
          refine NN.then ?_
          refine J.condF (b := false) rfl (by kernel_rfl) (by kernel_rfl) ?_
          refine J.skip ?_
          refine NN.block_n ?_
          refine NN.then ?_
          refine J.plain ?_
          refine LL.op (.int .i64 x5l1) (by kernel_rfl) (fun w _ => by kernel_rfl) ?_
          refine LL.op (.int .i64 (IntKind.i64.wrap (x5l1 + 1))) (by kernel_rfl) (fun w _ => by kernel_rfl) ?_
          refine LL.op (.int .i64 (IntKind.i64.wrap (x5l1 + 1))) (by kernel_rfl) (fun w _ => by kernel_rfl) ?_
          refine LL.done (s' := [(0, .slice Aa0 a0.length ca0), (2, .bool false), (3, .bool x3l0), (5, .int .i64 (IntKind.i64.wrap (x5l1 + 1)))]) [0, 2, 3, 5] (by kernel_rfl) ?_
          exact NN.round' [0, 2, 3, 5] (bs' := []) (Nat.lt_succ_self _) (List.Sublist.refl _) (by kernel_rfl) ⟨IntKind.i64.wrap (x5l1 + 1), H, rfl, rfl⟩
      · rw [if_neg (of_decide_eq_false c120)] at H
        refine J.condF (b := decide (x5l1 < (a0.length : Int))) c120 (by kernel_rfl) (by kernel_rfl) ?_
        refine J.exit ?_
        refine NN.then_exit ?_
        rw [← hk118] at H
        (try dsimp only at H)
        refine NN.then_exit ?_
        refine NN.block_same ?_
        refine NN.then ?_
        refine J.seq ?_
        refine J.plain ?_
        refine LL.op (.bool x3l0) (by kernel_rfl) (fun w _ => by kernel_rfl) ?_
        refine LL.op (.bool x3l0) (by kernel_rfl) (fun w _ => by kernel_rfl) ?_
        rcases Bool.eq_false_or_eq_true (x3l0) with c2129 | c2129
        · rw [if_pos (c2129)] at H
          refine LL.bool 50 (x3l0) true c2129 (by kernel_rfl) ?_
          refine LL.off (by kernel_rfl) (by kernel_rfl) ?_
          refine LL.off (by kernel_rfl) (by kernel_rfl) ?_
          refine LL.off (by kernel_rfl) (by kernel_rfl) ?_
          refine LL.op (.bool true) (by kernel_rfl) (fun w _ => by kernel_rfl) ?_
          refine LL.op (.bool true) (by kernel_rfl) (fun w _ => by kernel_rfl) ?_
          refine LL.done (s' := [(2, .bool true)]) [2] (by kernel_rfl) ?_
          refine NN.then ?_
          refine J.ret ?_
          refine NN.fin1 2 (.bool true) (by kernel_rfl) (by kernel_rfl) (.inl rfl) (fun w hi => hi.ret ?_)
          first | (cases H; rfl) | (obtain rfl := Option.some.inj H; rfl) | (simp only [Option.some.injEq, Prod.mk.injEq] at H; obtain ⟨rfl⟩ := H; rfl)
        · rw [if_neg (nebt c2129)] at H
          refine LL.bool 50 (x3l0) false c2129 (by kernel_rfl) ?_
          refine LL.op (.slice Aa0 a0.length ca0) (by kernel_rfl) (fun w _ => by kernel_rfl) ?_
          refine LL.op (.int .i64 (a0.length : Int)) (by kernel_rfl) (fun w _ => by kernel_rfl) ?_
          refine LL.op (.bool (decide ((a0.length : Int) ≤ 8))) (by kernel_rfl) (fun w _ => by kernel_rfl) ?_
          refine LL.op (.bool (decide ((a0.length : Int) ≤ 8))) (by kernel_rfl) (fun w _ => by kernel_rfl) ?_
          refine LL.op (.bool (decide ((a0.length : Int) ≤ 8))) (by kernel_rfl) (fun w _ => by kernel_rfl) ?_
          refine LL.done (s' := [(2, .bool (decide ((a0.length : Int) ≤ 8)))]) [2] (by kernel_rfl) ?_
          refine NN.then ?_
          refine J.ret ?_
          refine NN.fin1 2 (.bool (decide ((a0.length : Int) ≤ 8))) (by kernel_rfl) (by kernel_rfl) (.inl rfl) (fun w hi => hi.ret ?_)
          first | (cases H; rfl) | (obtain rfl := Option.some.inj H; rfl) | (simp only [Option.some.injEq, Prod.mk.injEq] at H; obtain ⟨rfl⟩ := H; rfl)

/-! ### sawmillref48_CountsOf: function 22 -/
def sawmillref48_CountsOf.l0 (K : Nat) (a0 : Int) (a1 : List E3) : Nat → Int → List E3 → Option ((List E3))
  | 0, _, _ => none
  | k + 1, x6l0, zg130l0 => if x6l0 < (a1.length : Int) then ((idx a1 x6l0).bind fun e135 => (if 0 ≤ e135 then (if e135 < a0 then ((idx zg130l0 e135).bind fun e138 => (sawmillref48_CountsOf.l0 K a0 a1 k (IntKind.i64.wrap (x6l0 + 1)) (zg130l0.set e135.toNat (IntKind.i64.wrap (e138 + 1))))) else (sawmillref48_CountsOf.l0 K a0 a1 k (IntKind.i64.wrap (x6l0 + 1)) zg130l0)) else (sawmillref48_CountsOf.l0 K a0 a1 k (IntKind.i64.wrap (x6l0 + 1)) zg130l0))) else (some zg130l0)
def sawmillref48_CountsOf.f (K : Nat) (a0 : Int) (a1 : List E3) : Option ((List E3)) := (mk a0 (0 : Int)).bind fun y129 => (sawmillref48_CountsOf.l0 K a0 a1 K 0 y129)
set_option maxRecDepth 100000 in
theorem sawmillref48_CountsOf.calls (K : Nat) (a0 : Int) (a1 : List E3)  (Aa1 : Option Addr) (ca1 : Nat)  (r1 : List E3) (w : World)   (ha1 : KRow (Cx.start w) enc3 1 a1 Aa1) (h : sawmillref48_CountsOf.f K a0 a1 = some r1) :
    Calls Try.prog 22 #[.int .i64 a0, .slice Aa1 a1.length ca1] w (RetR w enc3 1 r1 (fun A_ c_ => .slice A_ r1.length c_)) := by
  have H := h
  clear h
  unfold sawmillref48_CountsOf.f at H
  refine Go.Saw.calls (args := [.int .i64 a0, .slice Aa1 a1.length ca1]) Try.func22 rfl Try.ntmps22 (by kernel_rfl) ?_
  refine J.seq ?_
  refine J.plain ?_
  refine LL.op (.slice none 0 0) (by kernel_rfl) (fun w _ => by kernel_rfl) ?_
  refine LL.done (s' := [(0, .int .i64 a0), (1, .slice Aa1 a1.length ca1), (4, .slice none 0 0)]) [0, 1, 4] (by kernel_rfl) ?_
  refine NN.then ?_
  refine J.seq ?_
  refine J.plain ?_
  refine LL.op (.int .i64 a0) (by kernel_rfl) (fun w _ => by kernel_rfl) ?_
  obtain ⟨y129, hy129, H⟩ := bind_some H
  refine LL.mk (e1 := eI) mk3 hy129 (by kernel_rfl) rfl (by kernel_rfl) (by kernel_rfl) (fun g130 => ?_)
  refine LL.op (.slice (some ⟨g130, 0, none⟩) y129.length y129.length) (by kernel_rfl) (fun w _ => by kernel_rfl) ?_
  refine LL.done (s' := [(0, .int .i64 a0), (1, .slice Aa1 a1.length ca1), (4, .slice none 0 0), (5, .slice (some ⟨g130, 0, none⟩) y129.length y129.length)]) [0, 1, 4, 5] (by kernel_rfl) ?_
  refine NN.then ?_
  refine J.seq ?_
  refine J.seq ?_
  refine J.plain ?_
  refine LL.op (.int .i64 0) (by kernel_rfl) (fun w _ => by kernel_rfl) ?_
  refine LL.done (s' := [(0, .int .i64 a0), (1, .slice Aa1 a1.length ca1), (4, .slice none 0 0), (5, .slice (some ⟨g130, 0, none⟩) y129.length y129.length), (6, .int .i64 0)]) [0, 1, 4, 5, 6] (by kernel_rfl) ?_
  refine NN.then ?_
  refine J.block ?_
  refine J.to [0, 1, 4, 5, 6] (s' := [(0, .int .i64 a0), (1, .slice Aa1 a1.length ca1), (4, .slice none 0 0), (5, .slice (some ⟨g130, 0, none⟩) y129.length y129.length), (6, .int .i64 0)]) (by kernel_rfl) ?_
  refine J.loop (fun n_ s_ bs_ => ∃ (x6l0 : Int) (zg130l0 : List E3), sawmillref48_CountsOf.l0 K a0 a1 n_ x6l0 zg130l0 = some r1 ∧ zg130l0.length = y129.length ∧ s_ = [(0, .int .i64 a0), (1, .slice Aa1 a1.length ca1), (4, .slice none 0 0), (5, .slice (some ⟨g130, 0, none⟩) y129.length y129.length), (6, .int .i64 x6l0)] ∧ [(g130, cl (List.map eI zg130l0) 3)] = bs_) K ⟨0, y129, H, rfl, rfl, rfl⟩ ?_
  rintro (_ | n_) s_ bs_ ⟨x6l0, zg130l0, H, lenzg130l0, rfl, rfl⟩
  · exact absurd H (by simp [sawmillref48_CountsOf.l0])
  simp only [sawmillref48_CountsOf.l0] at H
  refine J.seq ?_
  refine J.seq ?_
  refine J.plain ?_
  refine LL.op (.int .i64 x6l0) (by kernel_rfl) (fun w _ => by kernel_rfl) ?_
  refine LL.op (.slice Aa1 a1.length ca1) (by kernel_rfl) (fun w _ => by kernel_rfl) ?_
  refine LL.op (.int .i64 (a1.length : Int)) (by kernel_rfl) (fun w _ => by kernel_rfl) ?_
  refine LL.op (.bool (decide (x6l0 < (a1.length : Int)))) (by kernel_rfl) (fun w _ => by kernel_rfl) ?_
  refine LL.done (s' := [(0, .int .i64 a0), (1, .slice Aa1 a1.length ca1), (4, .slice none 0 0), (5, .slice (some ⟨g130, 0, none⟩) y129.length y129.length), (6, .int .i64 x6l0), (12, .bool (decide (x6l0 < (a1.length : Int))))]) [0, 1, 4, 5, 6, 12] (by kernel_rfl) ?_
  refine NN.then ?_
  rcases Bool.eq_false_or_eq_true (decide (x6l0 < (a1.length : Int))) with c134 | c134
  · rw [if_pos (of_decide_eq_true c134)] at H
    refine J.condT (b := decide (x6l0 < (a1.length : Int))) c134 (by kernel_rfl) (by kernel_rfl) ?_
    refine J.skip ?_
    refine NN.then ?_
    refine J.seq ?_
    refine J.block ?_
    refine J.seq ?_
    refine J.plain ?_
    refine LL.op (.slice Aa1 a1.length ca1) (by kernel_rfl) (fun w _ => by kernel_rfl) ?_
    refine LL.op (.int .i64 x6l0) (by kernel_rfl) (fun w _ => by kernel_rfl) ?_
    obtain ⟨e135, he135, H⟩ := bind_some H
    refine LL.op (.pointer (rp Aa1 (x6l0.toNat * 1 + 0))) (by kernel_rfl) (idxR (cp := ca1) (ik := .i64) ha1 he135 rfl (by kernel_rfl) (by kernel_rfl) (by kernel_rfl)) ?_
    refine LL.op (.int .i64 e135) (by kernel_rfl) (ldR (off := 0) ha1 he135 rfl (by kernel_rfl) (by kernel_rfl)) ?_
    refine LL.op (.bool (decide (0 ≤ e135))) (by kernel_rfl) (fun w _ => by kernel_rfl) ?_
    refine LL.op (.bool (decide (0 ≤ e135))) (by kernel_rfl) (fun w _ => by kernel_rfl) ?_
    rcases Bool.eq_false_or_eq_true (decide (0 ≤ e135)) with c136 | c136
    · rw [if_pos (of_decide_eq_true c136)] at H
      refine LL.bool 20 (decide (0 ≤ e135)) true c136 (by kernel_rfl) ?_
      refine LL.op (.slice Aa1 a1.length ca1) (by kernel_rfl) (fun w _ => by kernel_rfl) ?_
      refine LL.op (.int .i64 x6l0) (by kernel_rfl) (fun w _ => by kernel_rfl) ?_
      refine LL.op (.pointer (rp Aa1 (x6l0.toNat * 1 + 0))) (by kernel_rfl) (idxR (cp := ca1) (ik := .i64) ha1 he135 rfl (by kernel_rfl) (by kernel_rfl) (by kernel_rfl)) ?_
      refine LL.op (.int .i64 e135) (by kernel_rfl) (ldR (off := 0) ha1 he135 rfl (by kernel_rfl) (by kernel_rfl)) ?_
      refine LL.op (.int .i64 a0) (by kernel_rfl) (fun w _ => by kernel_rfl) ?_
      refine LL.op (.bool (decide (e135 < a0))) (by kernel_rfl) (fun w _ => by kernel_rfl) ?_
      refine LL.op (.bool (decide (e135 < a0))) (by kernel_rfl) (fun w _ => by kernel_rfl) ?_
      refine LL.done (s' := [(0, .int .i64 a0), (1, .slice Aa1 a1.length ca1), (4, .slice none 0 0), (5, .slice (some ⟨g130, 0, none⟩) y129.length y129.length), (6, .int .i64 x6l0), (27, .bool (decide (e135 < a0)))]) [0, 1, 4, 5, 6, 27] (by kernel_rfl) ?_
      refine NN.then ?_
      rcases Bool.eq_false_or_eq_true (decide (e135 < a0)) with c137 | c137
      · rw [if_pos (of_decide_eq_true c137)] at H
        refine J.condT (b := decide (e135 < a0)) c137 (by kernel_rfl) (by kernel_rfl) ?_
        refine J.plain ?_
        refine LL.op (.slice (some ⟨g130, 0, none⟩) y129.length y129.length) (by kernel_rfl) (fun w _ => by kernel_rfl) ?_
        refine LL.op (.slice Aa1 a1.length ca1) (by kernel_rfl) (fun w _ => by kernel_rfl) ?_
        refine LL.op (.int .i64 x6l0) (by kernel_rfl) (fun w _ => by kernel_rfl) ?_
        refine LL.op (.pointer (rp Aa1 (x6l0.toNat * 1 + 0))) (by kernel_rfl) (idxR (cp := ca1) (ik := .i64) ha1 he135 rfl (by kernel_rfl) (by kernel_rfl) (by kernel_rfl)) ?_
        refine LL.op (.int .i64 e135) (by kernel_rfl) (ldR (off := 0) ha1 he135 rfl (by kernel_rfl) (by kernel_rfl)) ?_
        obtain ⟨e138, he138, H⟩ := bind_some H
        refine LL.op (.pointer (rp (some ⟨g130, 0, none⟩) (e135.toNat * 1 + 0))) (by kernel_rfl) (idxL (ik := .i64) (n := y129.length) (e1 := eI) (l := zg130l0) 0 g130 rfl he138 lenzg130l0 rfl (by kernel_rfl) (by kernel_rfl) (by kernel_rfl)) ?_
        refine LL.op (.int .i64 e138) (by kernel_rfl) (ldL (e1 := eI) (l := zg130l0) 0 g130 rfl he138 rfl (by kernel_rfl) (by kernel_rfl)) ?_
        refine LL.op (.int .i64 (IntKind.i64.wrap (e138 + 1))) (by kernel_rfl) (fun w _ => by kernel_rfl) ?_
        refine LL.op (.pointer (rp (some ⟨g130, 0, none⟩) (e135.toNat * 1 + 0))) (by kernel_rfl) (idxL (ik := .i64) (n := y129.length) (e1 := eI) (l := zg130l0) 0 g130 rfl he138 lenzg130l0 rfl (by kernel_rfl) (by kernel_rfl) (by kernel_rfl)) ?_
        refine LL.storeL (e1 := eI) (l := zg130l0) (y := IntKind.i64.wrap (e138 + 1)) (bs' := [(g130, cl (List.map eI (zg130l0.set e135.toNat (IntKind.i64.wrap (e138 + 1)))) 3)]) 0 g130 one3 rfl rfl he138 (by kernel_rfl) rfl (by kernel_rfl) (by kernel_rfl) ?_
        refine LL.done (s' := [(0, .int .i64 a0), (1, .slice Aa1 a1.length ca1), (4, .slice none 0 0), (5, .slice (some ⟨g130, 0, none⟩) y129.length y129.length), (6, .int .i64 x6l0)]) [0, 1, 4, 5, 6] (by kernel_rfl) ?_
        refine NN.block_n ?_
        refine NN.then ?_
        refine J.plain ?_
        refine LL.op (.int .i64 x6l0) (by kernel_rfl) (fun w _ => by kernel_rfl) ?_
        refine LL.op (.int .i64 (IntKind.i64.wrap (x6l0 + 1))) (by kernel_rfl) (fun w _ => by kernel_rfl) ?_
        refine LL.op (.int .i64 (IntKind.i64.wrap (x6l0 + 1))) (by kernel_rfl) (fun w _ => by kernel_rfl) ?_
        refine LL.done (s' := [(0, .int .i64 a0), (1, .slice Aa1 a1.length ca1), (4, .slice none 0 0), (5, .slice (some ⟨g130, 0, none⟩) y129.length y129.length), (6, .int .i64 (IntKind.i64.wrap (x6l0 + 1)))]) [0, 1, 4, 5, 6] (by kernel_rfl) ?_
        exact NN.round' [0, 1, 4, 5, 6] (bs' := [(g130, cl (List.map eI (zg130l0.set e135.toNat (IntKind.i64.wrap (e138 + 1)))) 3)]) (Nat.lt_succ_self _) (List.Sublist.refl _) (by kernel_rfl) ⟨IntKind.i64.wrap (x6l0 + 1), (zg130l0.set e135.toNat (IntKind.i64.wrap (e138 + 1))), H, (List.length_set.trans lenzg130l0), rfl, rfl⟩
      · rw [if_neg (of_decide_eq_false c137)] at H
        refine J.condF (b := decide (e135 < a0)) c137 (by kernel_rfl) (by kernel_rfl) ?_
        refine J.skip ?_
        refine NN.block_n ?_
        refine NN.then ?_
        refine J.plain ?_
        refine LL.op (.int .i64 x6l0) (by kernel_rfl) (fun w _ => by kernel_rfl) ?_
        refine LL.op (.int .i64 (IntKind.i64.wrap (x6l0 + 1))) (by kernel_rfl) (fun w _ => by kernel_rfl) ?_
        refine LL.op (.int .i64 (IntKind.i64.wrap (x6l0 + 1))) (by kernel_rfl) (fun w _ => by kernel_rfl) ?_
        refine LL.done (s' := [(0, .int .i64 a0), (1, .slice Aa1 a1.length ca1), (4, .slice none 0 0), (5, .slice (some ⟨g130, 0, none⟩) y129.length y129.length), (6, .int .i64 (IntKind.i64.wrap (x6l0 + 1)))]) [0, 1, 4, 5, 6] (by kernel_rfl) ?_
        exact NN.round' [0, 1, 4, 5, 6] (bs' := [(g130, cl (List.map eI zg130l0) 3)]) (Nat.lt_succ_self _) (List.Sublist.refl _) (by kernel_rfl) ⟨IntKind.i64.wrap (x6l0 + 1), zg130l0, H, lenzg130l0, rfl, rfl⟩
    · rw [if_neg (of_decide_eq_false c136)] at H
      refine LL.bool 20 (decide (0 ≤ e135)) false c136 (by kernel_rfl) ?_
      refine LL.off (by kernel_rfl) (by kernel_rfl) ?_
      refine LL.off (by kernel_rfl) (by kernel_rfl) ?_
      refine LL.off (by kernel_rfl) (by kernel_rfl) ?_
      refine LL.off (by kernel_rfl) (by kernel_rfl) ?_
      refine LL.off (by kernel_rfl) (by kernel_rfl) ?_
      refine LL.off (by kernel_rfl) (by kernel_rfl) ?_
      refine LL.op (.bool false) (by kernel_rfl) (fun w _ => by kernel_rfl) ?_
      refine LL.done (s' := [(0, .int .i64 a0), (1, .slice Aa1 a1.length ca1), (4, .slice none 0 0), (5, .slice (some ⟨g130, 0, none⟩) y129.length y129.length), (6, .int .i64 x6l0), (27, .bool false)]) [0, 1, 4, 5, 6, 27] (by kernel_rfl) ?_
      refine NN.then ?_
      refine J.condF (b := false) rfl (by kernel_rfl) (by kernel_rfl) ?_
      refine J.skip ?_
      refine NN.block_n ?_
      refine NN.then ?_
      refine J.plain ?_
      refine LL.op (.int .i64 x6l0) (by kernel_rfl) (fun w _ => by kernel_rfl) ?_
      refine LL.op (.int .i64 (IntKind.i64.wrap (x6l0 + 1))) (by kernel_rfl) (fun w _ => by kernel_rfl) ?_
      refine LL.op (.int .i64 (IntKind.i64.wrap (x6l0 + 1))) (by kernel_rfl) (fun w _ => by kernel_rfl) ?_
      refine LL.done (s' := [(0, .int .i64 a0), (1, .slice Aa1 a1.length ca1), (4, .slice none 0 0), (5, .slice (some ⟨g130, 0, none⟩) y129.length y129.length), (6, .int .i64 (IntKind.i64.wrap (x6l0 + 1)))]) [0, 1, 4, 5, 6] (by kernel_rfl) ?_
      exact NN.round' [0, 1, 4, 5, 6] (bs' := [(g130, cl (List.map eI zg130l0) 3)]) (Nat.lt_succ_self _) (List.Sublist.refl _) (by kernel_rfl) ⟨IntKind.i64.wrap (x6l0 + 1), zg130l0, H, lenzg130l0, rfl, rfl⟩
  · rw [if_neg (of_decide_eq_false c134)] at H
    refine J.condF (b := decide (x6l0 < (a1.length : Int))) c134 (by kernel_rfl) (by kernel_rfl) ?_
    refine J.exit ?_
    refine NN.then_exit ?_
    refine NN.then_exit ?_
    refine NN.block_same ?_
    refine NN.then ?_
    refine J.seq ?_
    refine J.plain ?_
    refine LL.op (.slice (some ⟨g130, 0, none⟩) y129.length y129.length) (by kernel_rfl) (fun w _ => by kernel_rfl) ?_
    refine LL.op (.slice (some ⟨g130, 0, none⟩) y129.length y129.length) (by kernel_rfl) (fun w _ => by kernel_rfl) ?_
    refine LL.done (s' := [(4, .slice (some ⟨g130, 0, none⟩) y129.length y129.length)]) [4] (by kernel_rfl) ?_
    refine NN.then ?_
    refine J.ret ?_
    first | (obtain rfl := Option.some.inj H) | (simp only [Option.some.injEq, Prod.mk.injEq] at H; obtain ⟨rfl⟩ := H)
    refine NN.fin1 4 (.slice (some ⟨g130, 0, none⟩) y129.length y129.length) (by kernel_rfl) (by kernel_rfl) (.inl rfl) (fun w hi => hi.retL (e1 := eI) (l := zg130l0) (enc := enc3) (i := 0) (g := g130) rfl rfl y129.length (by rw [show y129.length = zg130l0.length from (lenzg130l0).symm]))

/-! ### sawmilltop_counts: function 16 -/
def sawmilltop_counts.l0 (K : Nat) (a0 : Int) (a1 : List E3) : Nat → Int → List E3 → Option ((List E3))
  | 0, _, _ => none
  | k + 1, x6l0, zg140l0 => if x6l0 < (a1.length : Int) then ((idx a1 x6l0).bind fun e145 => (if 0 ≤ e145 then (if e145 < a0 then ((idx zg140l0 e145).bind fun e148 => (sawmilltop_counts.l0 K a0 a1 k (IntKind.i64.wrap (x6l0 + 1)) (zg140l0.set e145.toNat (IntKind.i64.wrap (e148 + 1))))) else (sawmilltop_counts.l0 K a0 a1 k (IntKind.i64.wrap (x6l0 + 1)) zg140l0)) else (sawmilltop_counts.l0 K a0 a1 k (IntKind.i64.wrap (x6l0 + 1)) zg140l0))) else (some zg140l0)
def sawmilltop_counts.f (K : Nat) (a0 : Int) (a1 : List E3) : Option ((List E3)) := (mk a0 (0 : Int)).bind fun y139 => (sawmilltop_counts.l0 K a0 a1 K 0 y139)
set_option maxRecDepth 100000 in
theorem sawmilltop_counts.calls (K : Nat) (a0 : Int) (a1 : List E3)  (Aa1 : Option Addr) (ca1 : Nat)  (r1 : List E3) (w : World)   (ha1 : KRow (Cx.start w) enc3 1 a1 Aa1) (h : sawmilltop_counts.f K a0 a1 = some r1) :
    Calls Try.prog 16 #[.int .i64 a0, .slice Aa1 a1.length ca1] w (RetR w enc3 1 r1 (fun A_ c_ => .slice A_ r1.length c_)) := by
  have H := h
  clear h
  unfold sawmilltop_counts.f at H
  refine Go.Saw.calls (args := [.int .i64 a0, .slice Aa1 a1.length ca1]) Try.func16 rfl Try.ntmps16 (by kernel_rfl) ?_
  refine J.seq ?_
  refine J.plain ?_
  refine LL.op (.slice none 0 0) (by kernel_rfl) (fun w _ => by kernel_rfl) ?_
  refine LL.done (s' := [(0, .int .i64 a0), (1, .slice Aa1 a1.length ca1), (4, .slice none 0 0)]) [0, 1, 4] (by kernel_rfl) ?_
  refine NN.then ?_
  refine J.seq ?_
  refine J.plain ?_
  refine LL.op (.int .i64 a0) (by kernel_rfl) (fun w _ => by kernel_rfl) ?_
  obtain ⟨y139, hy139, H⟩ := bind_some H
  refine LL.mk (e1 := eI) mk3 hy139 (by kernel_rfl) rfl (by kernel_rfl) (by kernel_rfl) (fun g140 => ?_)
  refine LL.op (.slice (some ⟨g140, 0, none⟩) y139.length y139.length) (by kernel_rfl) (fun w _ => by kernel_rfl) ?_
  refine LL.done (s' := [(0, .int .i64 a0), (1, .slice Aa1 a1.length ca1), (4, .slice none 0 0), (5, .slice (some ⟨g140, 0, none⟩) y139.length y139.length)]) [0, 1, 4, 5] (by kernel_rfl) ?_
  refine NN.then ?_
  refine J.seq ?_
  refine J.seq ?_
  refine J.plain ?_
  refine LL.op (.int .i64 0) (by kernel_rfl) (fun w _ => by kernel_rfl) ?_
  refine LL.done (s' := [(0, .int .i64 a0), (1, .slice Aa1 a1.length ca1), (4, .slice none 0 0), (5, .slice (some ⟨g140, 0, none⟩) y139.length y139.length), (6, .int .i64 0)]) [0, 1, 4, 5, 6] (by kernel_rfl) ?_
  refine NN.then ?_
  refine J.block ?_
  refine J.to [0, 1, 4, 5, 6] (s' := [(0, .int .i64 a0), (1, .slice Aa1 a1.length ca1), (4, .slice none 0 0), (5, .slice (some ⟨g140, 0, none⟩) y139.length y139.length), (6, .int .i64 0)]) (by kernel_rfl) ?_
  refine J.loop (fun n_ s_ bs_ => ∃ (x6l0 : Int) (zg140l0 : List E3), sawmilltop_counts.l0 K a0 a1 n_ x6l0 zg140l0 = some r1 ∧ zg140l0.length = y139.length ∧ s_ = [(0, .int .i64 a0), (1, .slice Aa1 a1.length ca1), (4, .slice none 0 0), (5, .slice (some ⟨g140, 0, none⟩) y139.length y139.length), (6, .int .i64 x6l0)] ∧ [(g140, cl (List.map eI zg140l0) 3)] = bs_) K ⟨0, y139, H, rfl, rfl, rfl⟩ ?_
  rintro (_ | n_) s_ bs_ ⟨x6l0, zg140l0, H, lenzg140l0, rfl, rfl⟩
  · exact absurd H (by simp [sawmilltop_counts.l0])
  simp only [sawmilltop_counts.l0] at H
  refine J.seq ?_
  refine J.seq ?_
  refine J.plain ?_
  refine LL.op (.int .i64 x6l0) (by kernel_rfl) (fun w _ => by kernel_rfl) ?_
  refine LL.op (.slice Aa1 a1.length ca1) (by kernel_rfl) (fun w _ => by kernel_rfl) ?_
  refine LL.op (.int .i64 (a1.length : Int)) (by kernel_rfl) (fun w _ => by kernel_rfl) ?_
  refine LL.op (.bool (decide (x6l0 < (a1.length : Int)))) (by kernel_rfl) (fun w _ => by kernel_rfl) ?_
  refine LL.done (s' := [(0, .int .i64 a0), (1, .slice Aa1 a1.length ca1), (4, .slice none 0 0), (5, .slice (some ⟨g140, 0, none⟩) y139.length y139.length), (6, .int .i64 x6l0), (12, .bool (decide (x6l0 < (a1.length : Int))))]) [0, 1, 4, 5, 6, 12] (by kernel_rfl) ?_
  refine NN.then ?_
  rcases Bool.eq_false_or_eq_true (decide (x6l0 < (a1.length : Int))) with c144 | c144
  · rw [if_pos (of_decide_eq_true c144)] at H
    refine J.condT (b := decide (x6l0 < (a1.length : Int))) c144 (by kernel_rfl) (by kernel_rfl) ?_
    refine J.skip ?_
    refine NN.then ?_
    refine J.seq ?_
    refine J.block ?_
    refine J.seq ?_
    refine J.plain ?_
    refine LL.op (.slice Aa1 a1.length ca1) (by kernel_rfl) (fun w _ => by kernel_rfl) ?_
    refine LL.op (.int .i64 x6l0) (by kernel_rfl) (fun w _ => by kernel_rfl) ?_
    obtain ⟨e145, he145, H⟩ := bind_some H
    refine LL.op (.pointer (rp Aa1 (x6l0.toNat * 1 + 0))) (by kernel_rfl) (idxR (cp := ca1) (ik := .i64) ha1 he145 rfl (by kernel_rfl) (by kernel_rfl) (by kernel_rfl)) ?_
    refine LL.op (.int .i64 e145) (by kernel_rfl) (ldR (off := 0) ha1 he145 rfl (by kernel_rfl) (by kernel_rfl)) ?_
    refine LL.op (.bool (decide (0 ≤ e145))) (by kernel_rfl) (fun w _ => by kernel_rfl) ?_
    refine LL.op (.bool (decide (0 ≤ e145))) (by kernel_rfl) (fun w _ => by kernel_rfl) ?_
    rcases Bool.eq_false_or_eq_true (decide (0 ≤ e145)) with c146 | c146
    · rw [if_pos (of_decide_eq_true c146)] at H
      refine LL.bool 20 (decide (0 ≤ e145)) true c146 (by kernel_rfl) ?_
      refine LL.op (.slice Aa1 a1.length ca1) (by kernel_rfl) (fun w _ => by kernel_rfl) ?_
      refine LL.op (.int .i64 x6l0) (by kernel_rfl) (fun w _ => by kernel_rfl) ?_
      refine LL.op (.pointer (rp Aa1 (x6l0.toNat * 1 + 0))) (by kernel_rfl) (idxR (cp := ca1) (ik := .i64) ha1 he145 rfl (by kernel_rfl) (by kernel_rfl) (by kernel_rfl)) ?_
      refine LL.op (.int .i64 e145) (by kernel_rfl) (ldR (off := 0) ha1 he145 rfl (by kernel_rfl) (by kernel_rfl)) ?_
      refine LL.op (.int .i64 a0) (by kernel_rfl) (fun w _ => by kernel_rfl) ?_
      refine LL.op (.bool (decide (e145 < a0))) (by kernel_rfl) (fun w _ => by kernel_rfl) ?_
      refine LL.op (.bool (decide (e145 < a0))) (by kernel_rfl) (fun w _ => by kernel_rfl) ?_
      refine LL.done (s' := [(0, .int .i64 a0), (1, .slice Aa1 a1.length ca1), (4, .slice none 0 0), (5, .slice (some ⟨g140, 0, none⟩) y139.length y139.length), (6, .int .i64 x6l0), (27, .bool (decide (e145 < a0)))]) [0, 1, 4, 5, 6, 27] (by kernel_rfl) ?_
      refine NN.then ?_
      rcases Bool.eq_false_or_eq_true (decide (e145 < a0)) with c147 | c147
      · rw [if_pos (of_decide_eq_true c147)] at H
        refine J.condT (b := decide (e145 < a0)) c147 (by kernel_rfl) (by kernel_rfl) ?_
        refine J.plain ?_
        refine LL.op (.slice (some ⟨g140, 0, none⟩) y139.length y139.length) (by kernel_rfl) (fun w _ => by kernel_rfl) ?_
        refine LL.op (.slice Aa1 a1.length ca1) (by kernel_rfl) (fun w _ => by kernel_rfl) ?_
        refine LL.op (.int .i64 x6l0) (by kernel_rfl) (fun w _ => by kernel_rfl) ?_
        refine LL.op (.pointer (rp Aa1 (x6l0.toNat * 1 + 0))) (by kernel_rfl) (idxR (cp := ca1) (ik := .i64) ha1 he145 rfl (by kernel_rfl) (by kernel_rfl) (by kernel_rfl)) ?_
        refine LL.op (.int .i64 e145) (by kernel_rfl) (ldR (off := 0) ha1 he145 rfl (by kernel_rfl) (by kernel_rfl)) ?_
        obtain ⟨e148, he148, H⟩ := bind_some H
        refine LL.op (.pointer (rp (some ⟨g140, 0, none⟩) (e145.toNat * 1 + 0))) (by kernel_rfl) (idxL (ik := .i64) (n := y139.length) (e1 := eI) (l := zg140l0) 0 g140 rfl he148 lenzg140l0 rfl (by kernel_rfl) (by kernel_rfl) (by kernel_rfl)) ?_
        refine LL.op (.int .i64 e148) (by kernel_rfl) (ldL (e1 := eI) (l := zg140l0) 0 g140 rfl he148 rfl (by kernel_rfl) (by kernel_rfl)) ?_
        refine LL.op (.int .i64 (IntKind.i64.wrap (e148 + 1))) (by kernel_rfl) (fun w _ => by kernel_rfl) ?_
        refine LL.op (.pointer (rp (some ⟨g140, 0, none⟩) (e145.toNat * 1 + 0))) (by kernel_rfl) (idxL (ik := .i64) (n := y139.length) (e1 := eI) (l := zg140l0) 0 g140 rfl he148 lenzg140l0 rfl (by kernel_rfl) (by kernel_rfl) (by kernel_rfl)) ?_
        refine LL.storeL (e1 := eI) (l := zg140l0) (y := IntKind.i64.wrap (e148 + 1)) (bs' := [(g140, cl (List.map eI (zg140l0.set e145.toNat (IntKind.i64.wrap (e148 + 1)))) 3)]) 0 g140 one3 rfl rfl he148 (by kernel_rfl) rfl (by kernel_rfl) (by kernel_rfl) ?_
        refine LL.done (s' := [(0, .int .i64 a0), (1, .slice Aa1 a1.length ca1), (4, .slice none 0 0), (5, .slice (some ⟨g140, 0, none⟩) y139.length y139.length), (6, .int .i64 x6l0)]) [0, 1, 4, 5, 6] (by kernel_rfl) ?_
        refine NN.block_n ?_
        refine NN.then ?_
        refine J.plain ?_
        refine LL.op (.int .i64 x6l0) (by kernel_rfl) (fun w _ => by kernel_rfl) ?_
        refine LL.op (.int .i64 (IntKind.i64.wrap (x6l0 + 1))) (by kernel_rfl) (fun w _ => by kernel_rfl) ?_
        refine LL.op (.int .i64 (IntKind.i64.wrap (x6l0 + 1))) (by kernel_rfl) (fun w _ => by kernel_rfl) ?_
        refine LL.done (s' := [(0, .int .i64 a0), (1, .slice Aa1 a1.length ca1), (4, .slice none 0 0), (5, .slice (some ⟨g140, 0, none⟩) y139.length y139.length), (6, .int .i64 (IntKind.i64.wrap (x6l0 + 1)))]) [0, 1, 4, 5, 6] (by kernel_rfl) ?_
        exact NN.round' [0, 1, 4, 5, 6] (bs' := [(g140, cl (List.map eI (zg140l0.set e145.toNat (IntKind.i64.wrap (e148 + 1)))) 3)]) (Nat.lt_succ_self _) (List.Sublist.refl _) (by kernel_rfl) ⟨IntKind.i64.wrap (x6l0 + 1), (zg140l0.set e145.toNat (IntKind.i64.wrap (e148 + 1))), H, (List.length_set.trans lenzg140l0), rfl, rfl⟩
      · rw [if_neg (of_decide_eq_false c147)] at H
        refine J.condF (b := decide (e145 < a0)) c147 (by kernel_rfl) (by kernel_rfl) ?_
        refine J.skip ?_
        refine NN.block_n ?_
        refine NN.then ?_
        refine J.plain ?_
        refine LL.op (.int .i64 x6l0) (by kernel_rfl) (fun w _ => by kernel_rfl) ?_
        refine LL.op (.int .i64 (IntKind.i64.wrap (x6l0 + 1))) (by kernel_rfl) (fun w _ => by kernel_rfl) ?_
        refine LL.op (.int .i64 (IntKind.i64.wrap (x6l0 + 1))) (by kernel_rfl) (fun w _ => by kernel_rfl) ?_
        refine LL.done (s' := [(0, .int .i64 a0), (1, .slice Aa1 a1.length ca1), (4, .slice none 0 0), (5, .slice (some ⟨g140, 0, none⟩) y139.length y139.length), (6, .int .i64 (IntKind.i64.wrap (x6l0 + 1)))]) [0, 1, 4, 5, 6] (by kernel_rfl) ?_
        exact NN.round' [0, 1, 4, 5, 6] (bs' := [(g140, cl (List.map eI zg140l0) 3)]) (Nat.lt_succ_self _) (List.Sublist.refl _) (by kernel_rfl) ⟨IntKind.i64.wrap (x6l0 + 1), zg140l0, H, lenzg140l0, rfl, rfl⟩
    · rw [if_neg (of_decide_eq_false c146)] at H
      refine LL.bool 20 (decide (0 ≤ e145)) false c146 (by kernel_rfl) ?_
      refine LL.off (by kernel_rfl) (by kernel_rfl) ?_
      refine LL.off (by kernel_rfl) (by kernel_rfl) ?_
      refine LL.off (by kernel_rfl) (by kernel_rfl) ?_
      refine LL.off (by kernel_rfl) (by kernel_rfl) ?_
      refine LL.off (by kernel_rfl) (by kernel_rfl) ?_
      refine LL.off (by kernel_rfl) (by kernel_rfl) ?_
      refine LL.op (.bool false) (by kernel_rfl) (fun w _ => by kernel_rfl) ?_
      refine LL.done (s' := [(0, .int .i64 a0), (1, .slice Aa1 a1.length ca1), (4, .slice none 0 0), (5, .slice (some ⟨g140, 0, none⟩) y139.length y139.length), (6, .int .i64 x6l0), (27, .bool false)]) [0, 1, 4, 5, 6, 27] (by kernel_rfl) ?_
      refine NN.then ?_
      refine J.condF (b := false) rfl (by kernel_rfl) (by kernel_rfl) ?_
      refine J.skip ?_
      refine NN.block_n ?_
      refine NN.then ?_
      refine J.plain ?_
      refine LL.op (.int .i64 x6l0) (by kernel_rfl) (fun w _ => by kernel_rfl) ?_
      refine LL.op (.int .i64 (IntKind.i64.wrap (x6l0 + 1))) (by kernel_rfl) (fun w _ => by kernel_rfl) ?_
      refine LL.op (.int .i64 (IntKind.i64.wrap (x6l0 + 1))) (by kernel_rfl) (fun w _ => by kernel_rfl) ?_
      refine LL.done (s' := [(0, .int .i64 a0), (1, .slice Aa1 a1.length ca1), (4, .slice none 0 0), (5, .slice (some ⟨g140, 0, none⟩) y139.length y139.length), (6, .int .i64 (IntKind.i64.wrap (x6l0 + 1)))]) [0, 1, 4, 5, 6] (by kernel_rfl) ?_
      exact NN.round' [0, 1, 4, 5, 6] (bs' := [(g140, cl (List.map eI zg140l0) 3)]) (Nat.lt_succ_self _) (List.Sublist.refl _) (by kernel_rfl) ⟨IntKind.i64.wrap (x6l0 + 1), zg140l0, H, lenzg140l0, rfl, rfl⟩
  · rw [if_neg (of_decide_eq_false c144)] at H
    refine J.condF (b := decide (x6l0 < (a1.length : Int))) c144 (by kernel_rfl) (by kernel_rfl) ?_
    refine J.exit ?_
    refine NN.then_exit ?_
    refine NN.then_exit ?_
    refine NN.block_same ?_
    refine NN.then ?_
    refine J.seq ?_
    refine J.plain ?_
    refine LL.op (.slice (some ⟨g140, 0, none⟩) y139.length y139.length) (by kernel_rfl) (fun w _ => by kernel_rfl) ?_
    refine LL.op (.slice (some ⟨g140, 0, none⟩) y139.length y139.length) (by kernel_rfl) (fun w _ => by kernel_rfl) ?_
    refine LL.done (s' := [(4, .slice (some ⟨g140, 0, none⟩) y139.length y139.length)]) [4] (by kernel_rfl) ?_
    refine NN.then ?_
    refine J.ret ?_
    first | (obtain rfl := Option.some.inj H) | (simp only [Option.some.injEq, Prod.mk.injEq] at H; obtain ⟨rfl⟩ := H)
    refine NN.fin1 4 (.slice (some ⟨g140, 0, none⟩) y139.length y139.length) (by kernel_rfl) (by kernel_rfl) (.inl rfl) (fun w hi => hi.retL (e1 := eI) (l := zg140l0) (enc := enc3) (i := 0) (g := g140) rfl rfl y139.length (by rw [show y139.length = zg140l0.length from (lenzg140l0).symm]))

/-! ### sawmillref48_boards: function 40 -/
def sawmillref48_boards.f (a0 : List (List E4)) : Option (Int) := if (a0.length : Int) = 0 then (some 0) else ((idx a0 0).bind fun e150 => (some (e150.length : Int)))
set_option maxRecDepth 100000 in
theorem sawmillref48_boards.calls (a0 : List (List E4))  (Aa0 : Option Addr) (ca0 : Nat)  (r1 : Int) (w : World)   (ha0 : KRow2 (Cx.start w) enc4 1 a0 Aa0) (h : sawmillref48_boards.f a0 = some r1) :
    Calls Try.prog 40 #[.slice Aa0 a0.length ca0] w (Ret w (.int .i64 r1)) := by
  have H := h
  clear h
  unfold sawmillref48_boards.f at H
  refine Go.Saw.calls (args := [.slice Aa0 a0.length ca0]) Try.func40 rfl Try.ntmps40 (by kernel_rfl) ?_
  refine J.seq ?_
  refine J.plain ?_
  refine LL.op (.int .i64 0) (by kernel_rfl) (fun w _ => by kernel_rfl) ?_
  refine LL.done (s' := [(0, .slice Aa0 a0.length ca0), (2, .int .i64 0)]) [0, 2] (by kernel_rfl) ?_
  refine NN.then ?_
  refine J.seq ?_
  refine J.seq ?_
  refine J.plain ?_
  refine LL.op (.slice Aa0 a0.length ca0) (by kernel_rfl) (fun w _ => by kernel_rfl) ?_
  refine LL.op (.int .i64 (a0.length : Int)) (by kernel_rfl) (fun w _ => by kernel_rfl) ?_
  refine LL.op (.bool ((a0.length : Int) == 0)) (by kernel_rfl) (fun w _ => by kernel_rfl) ?_
  refine LL.done (s' := [(0, .slice Aa0 a0.length ca0), (2, .int .i64 0), (5, .bool ((a0.length : Int) == 0))]) [0, 2, 5] (by kernel_rfl) ?_
  refine NN.then ?_
  rcases Bool.eq_false_or_eq_true (((a0.length : Int) == 0)) with c149 | c149
  · rw [if_pos (eq_of_beq c149)] at H
    refine J.condT (b := ((a0.length : Int) == 0)) c149 (by kernel_rfl) (by kernel_rfl) ?_
    refine J.seq ?_
    refine J.plain ?_
    refine LL.op (.int .i64 0) (by kernel_rfl) (fun w _ => by kernel_rfl) ?_
    refine LL.done (s' := [(0, .slice Aa0 a0.length ca0), (2, .int .i64 0)]) [0, 2] (by kernel_rfl) ?_
    refine NN.then ?_
    refine J.ret ?_
    refine NN.then_ret ?_
    refine NN.fin1 2 (.int .i64 0) (by kernel_rfl) (by kernel_rfl) (.inl rfl) (fun w hi => hi.ret ?_)
    first | (cases H; rfl) | (obtain rfl := Option.some.inj H; rfl) | (simp only [Option.some.injEq, Prod.mk.injEq] at H; obtain ⟨rfl⟩ := H; rfl)
  · rw [if_neg (nebf c149)] at H
    refine J.condF (b := ((a0.length : Int) == 0)) c149 (by kernel_rfl) (by kernel_rfl) ?_
    refine J.skip ?_
    refine NN.then ?_
    refine J.seq ?_
    refine J.plain ?_
    refine LL.op (.slice Aa0 a0.length ca0) (by kernel_rfl) (fun w _ => by kernel_rfl) ?_
    obtain ⟨e150, he150, H⟩ := bind_some H
    refine LL.op (.pointer (rp Aa0 ((0 : Int).toNat * 1 + 0))) (by kernel_rfl) (idx2 (cp := ca0) (ik := .i64) ha0 he150 rfl (by kernel_rfl) (by kernel_rfl) (by kernel_rfl)) ?_
    obtain ⟨A151, c152, k153, ld154⟩ := KRow2.row ha0 he150
    refine LL.op (.slice A151 e150.length c152) (by kernel_rfl) (ld154 rfl (by kernel_rfl) (by kernel_rfl)) ?_
    refine LL.op (.int .i64 (e150.length : Int)) (by kernel_rfl) (fun w _ => by kernel_rfl) ?_
    refine LL.op (.int .i64 (e150.length : Int)) (by kernel_rfl) (fun w _ => by kernel_rfl) ?_
    refine LL.done (s' := [(2, .int .i64 (e150.length : Int))]) [2] (by kernel_rfl) ?_
    refine NN.then ?_
    refine J.ret ?_
    refine NN.fin1 2 (.int .i64 (e150.length : Int)) (by kernel_rfl) (by kernel_rfl) (.inl rfl) (fun w hi => hi.ret ?_)
    first | (cases H; rfl) | (obtain rfl := Option.some.inj H; rfl) | (simp only [Option.some.injEq, Prod.mk.injEq] at H; obtain ⟨rfl⟩ := H; rfl)

/-! ### sawmillref48_rows: function 50 -/
def sawmillref48_rows.l1 (K : Nat) (a0 : List (List E4)) (kont_ : Int → Option (Int)) : Nat → Int → Option (Int)
  | 0, _ => none
  | k + 1, x4l1 => if x4l1 < (a0.length : Int) then ((idx a0 x4l1).bind fun e170 => ((idx a0 0).bind fun e176 => (if (e170.length : Int) = (e176.length : Int) then (sawmillref48_rows.l1 K a0 kont_ k (IntKind.i64.wrap (x4l1 + 1))) else (some 19)))) else (kont_ x4l1)
def sawmillref48_rows.l0 (K : Nat) (a0 : List (List E4)) : Nat → Int → Option (Int)
  | 0, _ => none
  | k + 1, x3l0 => if x3l0 < (a0.length : Int) then ((idx a0 x3l0).bind fun e160 => (if 512 < (e160.length : Int) then (some 4) else (sawmillref48_rows.l0 K a0 k (IntKind.i64.wrap (x3l0 + 1))))) else (sawmillref48_rows.l1 K a0 (fun (x4l1 : Int) => some 0) K 0)
def sawmillref48_rows.f (K : Nat) (a0 : List (List E4)) : Option (Int) := if 32 < (a0.length : Int) then (some 4) else (sawmillref48_rows.l0 K a0 K 0)
set_option maxRecDepth 100000 in
theorem sawmillref48_rows.calls (K : Nat) (a0 : List (List E4))  (Aa0 : Option Addr) (ca0 : Nat)  (r1 : Int) (w : World)   (ha0 : KRow2 (Cx.start w) enc4 1 a0 Aa0) (h : sawmillref48_rows.f K a0 = some r1) :
    Calls Try.prog 50 #[.slice Aa0 a0.length ca0] w (Ret w (.int .i64 r1)) := by
  have H := h
  clear h
  unfold sawmillref48_rows.f at H
  refine Go.Saw.calls (args := [.slice Aa0 a0.length ca0]) Try.func50 rfl Try.ntmps50 (by kernel_rfl) ?_
  refine J.seq ?_
  refine J.plain ?_
  refine LL.op (.int .i64 0) (by kernel_rfl) (fun w _ => by kernel_rfl) ?_
  refine LL.done (s' := [(0, .slice Aa0 a0.length ca0), (2, .int .i64 0)]) [0, 2] (by kernel_rfl) ?_
  refine NN.then ?_
  refine J.seq ?_
  refine J.seq ?_
  refine J.plain ?_
  refine LL.op (.slice Aa0 a0.length ca0) (by kernel_rfl) (fun w _ => by kernel_rfl) ?_
  refine LL.op (.int .i64 (a0.length : Int)) (by kernel_rfl) (fun w _ => by kernel_rfl) ?_
  refine LL.op (.bool (decide (32 < (a0.length : Int)))) (by kernel_rfl) (fun w _ => by kernel_rfl) ?_
  refine LL.done (s' := [(0, .slice Aa0 a0.length ca0), (2, .int .i64 0), (7, .bool (decide (32 < (a0.length : Int))))]) [0, 2, 7] (by kernel_rfl) ?_
  refine NN.then ?_
  rcases Bool.eq_false_or_eq_true (decide (32 < (a0.length : Int))) with c156 | c156
  · rw [if_pos (of_decide_eq_true c156)] at H
    refine J.condT (b := decide (32 < (a0.length : Int))) c156 (by kernel_rfl) (by kernel_rfl) ?_
    refine J.seq ?_
    refine J.plain ?_
    refine LL.op (.int .i64 4) (by kernel_rfl) (fun w _ => by kernel_rfl) ?_
    refine LL.done (s' := [(0, .slice Aa0 a0.length ca0), (2, .int .i64 4)]) [0, 2] (by kernel_rfl) ?_
    refine NN.then ?_
    refine J.ret ?_
    refine NN.then_ret ?_
    refine NN.fin1 2 (.int .i64 4) (by kernel_rfl) (by kernel_rfl) (.inl rfl) (fun w hi => hi.ret ?_)
    first | (cases H; rfl) | (obtain rfl := Option.some.inj H; rfl) | (simp only [Option.some.injEq, Prod.mk.injEq] at H; obtain ⟨rfl⟩ := H; rfl)
  · rw [if_neg (of_decide_eq_false c156)] at H
    refine J.condF (b := decide (32 < (a0.length : Int))) c156 (by kernel_rfl) (by kernel_rfl) ?_
    refine J.skip ?_
    refine NN.then ?_
    refine J.seq ?_
    refine J.seq ?_
    refine J.plain ?_
    refine LL.op (.int .i64 0) (by kernel_rfl) (fun w _ => by kernel_rfl) ?_
    refine LL.done (s' := [(0, .slice Aa0 a0.length ca0), (2, .int .i64 0), (3, .int .i64 0)]) [0, 2, 3] (by kernel_rfl) ?_
    refine NN.then ?_
    refine J.block ?_
    refine J.to [0, 2, 3] (s' := [(0, .slice Aa0 a0.length ca0), (2, .int .i64 0), (3, .int .i64 0)]) (by kernel_rfl) ?_
    refine J.loop (fun n_ s_ bs_ => ∃ (x3l0 : Int), sawmillref48_rows.l0 K a0 n_ x3l0 = some r1 ∧ s_ = [(0, .slice Aa0 a0.length ca0), (2, .int .i64 0), (3, .int .i64 x3l0)] ∧ [] = bs_) K ⟨0, H, rfl, rfl⟩ ?_
    rintro (_ | n_) s_ bs_ ⟨x3l0, H, rfl, rfl⟩
    · exact absurd H (by simp [sawmillref48_rows.l0])
    simp only [sawmillref48_rows.l0] at H
    refine J.seq ?_
    refine J.seq ?_
    refine J.plain ?_
    refine LL.op (.int .i64 x3l0) (by kernel_rfl) (fun w _ => by kernel_rfl) ?_
    refine LL.op (.slice Aa0 a0.length ca0) (by kernel_rfl) (fun w _ => by kernel_rfl) ?_
    refine LL.op (.int .i64 (a0.length : Int)) (by kernel_rfl) (fun w _ => by kernel_rfl) ?_
    refine LL.op (.bool (decide (x3l0 < (a0.length : Int)))) (by kernel_rfl) (fun w _ => by kernel_rfl) ?_
    refine LL.done (s' := [(0, .slice Aa0 a0.length ca0), (2, .int .i64 0), (3, .int .i64 x3l0), (11, .bool (decide (x3l0 < (a0.length : Int))))]) [0, 2, 3, 11] (by kernel_rfl) ?_
    refine NN.then ?_
    rcases Bool.eq_false_or_eq_true (decide (x3l0 < (a0.length : Int))) with c159 | c159
    · rw [if_pos (of_decide_eq_true c159)] at H
      refine J.condT (b := decide (x3l0 < (a0.length : Int))) c159 (by kernel_rfl) (by kernel_rfl) ?_
      refine J.skip ?_
      refine NN.then ?_
      refine J.seq ?_
      refine J.block ?_
      refine J.seq ?_
      refine J.plain ?_
      refine LL.op (.slice Aa0 a0.length ca0) (by kernel_rfl) (fun w _ => by kernel_rfl) ?_
      refine LL.op (.int .i64 x3l0) (by kernel_rfl) (fun w _ => by kernel_rfl) ?_
      obtain ⟨e160, he160, H⟩ := bind_some H
      refine LL.op (.pointer (rp Aa0 (x3l0.toNat * 1 + 0))) (by kernel_rfl) (idx2 (cp := ca0) (ik := .i64) ha0 he160 rfl (by kernel_rfl) (by kernel_rfl) (by kernel_rfl)) ?_
      obtain ⟨A161, c162, k163, ld164⟩ := KRow2.row ha0 he160
      refine LL.op (.slice A161 e160.length c162) (by kernel_rfl) (ld164 rfl (by kernel_rfl) (by kernel_rfl)) ?_
      refine LL.op (.int .i64 (e160.length : Int)) (by kernel_rfl) (fun w _ => by kernel_rfl) ?_
      refine LL.op (.bool (decide (512 < (e160.length : Int)))) (by kernel_rfl) (fun w _ => by kernel_rfl) ?_
      refine LL.done (s' := [(0, .slice Aa0 a0.length ca0), (2, .int .i64 0), (3, .int .i64 x3l0), (19, .bool (decide (512 < (e160.length : Int))))]) [0, 2, 3, 19] (by kernel_rfl) ?_
      refine NN.then ?_
      rcases Bool.eq_false_or_eq_true (decide (512 < (e160.length : Int))) with c166 | c166
      · rw [if_pos (of_decide_eq_true c166)] at H
        refine J.condT (b := decide (512 < (e160.length : Int))) c166 (by kernel_rfl) (by kernel_rfl) ?_
        refine J.seq ?_
        refine J.plain ?_
        refine LL.op (.int .i64 4) (by kernel_rfl) (fun w _ => by kernel_rfl) ?_
        refine LL.done (s' := [(0, .slice Aa0 a0.length ca0), (2, .int .i64 4), (3, .int .i64 x3l0)]) [0, 2, 3] (by kernel_rfl) ?_
        refine NN.then ?_
        refine J.ret ?_
        refine NN.block_ret ?_
        refine NN.then_ret ?_
        refine NN.then_ret ?_
        refine NN.block_ret ?_
        refine NN.then_ret ?_
        refine NN.fin1 2 (.int .i64 4) (by kernel_rfl) (by kernel_rfl) (.inl rfl) (fun w hi => hi.ret ?_)
        first | (cases H; rfl) | (obtain rfl := Option.some.inj H; rfl) | (simp only [Option.some.injEq, Prod.mk.injEq] at H; obtain ⟨rfl⟩ := H; rfl)
      · rw [if_neg (of_decide_eq_false c166)] at H
        refine J.condF (b := decide (512 < (e160.length : Int))) c166 (by kernel_rfl) (by kernel_rfl) ?_
        refine J.skip ?_
        refine NN.block_n ?_
        refine NN.then ?_
        refine J.plain ?_
        refine LL.op (.int .i64 x3l0) (by kernel_rfl) (fun w _ => by kernel_rfl) ?_
        refine LL.op (.int .i64 (IntKind.i64.wrap (x3l0 + 1))) (by kernel_rfl) (fun w _ => by kernel_rfl) ?_
        refine LL.op (.int .i64 (IntKind.i64.wrap (x3l0 + 1))) (by kernel_rfl) (fun w _ => by kernel_rfl) ?_
        refine LL.done (s' := [(0, .slice Aa0 a0.length ca0), (2, .int .i64 0), (3, .int .i64 (IntKind.i64.wrap (x3l0 + 1)))]) [0, 2, 3] (by kernel_rfl) ?_
        exact NN.round' [0, 2, 3] (bs' := []) (Nat.lt_succ_self _) (List.Sublist.refl _) (by kernel_rfl) ⟨IntKind.i64.wrap (x3l0 + 1), H, rfl, rfl⟩
    · rw [if_neg (of_decide_eq_false c159)] at H
      refine J.condF (b := decide (x3l0 < (a0.length : Int))) c159 (by kernel_rfl) (by kernel_rfl) ?_
      refine J.exit ?_
      refine NN.then_exit ?_
      refine NN.then_exit ?_
      refine NN.block_same ?_
      refine NN.then ?_
      refine J.seq ?_
      refine J.seq ?_
      refine J.plain ?_
      refine LL.op (.int .i64 0) (by kernel_rfl) (fun w _ => by kernel_rfl) ?_
      refine LL.done (s' := [(0, .slice Aa0 a0.length ca0), (2, .int .i64 0), (4, .int .i64 0)]) [0, 2, 4] (by kernel_rfl) ?_
      refine NN.then ?_
      refine J.block ?_
      refine J.to [0, 2, 4] (s' := [(0, .slice Aa0 a0.length ca0), (2, .int .i64 0), (4, .int .i64 0)]) (by kernel_rfl) ?_
      obtain ⟨kont167, hk167, H⟩ := kont_intro (P := fun q_ => sawmillref48_rows.l1 K a0 q_ K 0 = some r1) H
      refine J.loop (fun n_ s_ bs_ => ∃ (x4l1 : Int), sawmillref48_rows.l1 K a0 kont167 n_ x4l1 = some r1 ∧ s_ = [(0, .slice Aa0 a0.length ca0), (2, .int .i64 0), (4, .int .i64 x4l1)] ∧ [] = bs_) K ⟨0, H, rfl, rfl⟩ ?_
      rintro (_ | n_) s_ bs_ ⟨x4l1, H, rfl, rfl⟩
      · exact absurd H (by simp [sawmillref48_rows.l1])
      simp only [sawmillref48_rows.l1] at H
      refine J.seq ?_
      refine J.seq ?_
      refine J.plain ?_
      refine LL.op (.int .i64 x4l1) (by kernel_rfl) (fun w _ => by kernel_rfl) ?_
      refine LL.op (.slice Aa0 a0.length ca0) (by kernel_rfl) (fun w _ => by kernel_rfl) ?_
      refine LL.op (.int .i64 (a0.length : Int)) (by kernel_rfl) (fun w _ => by kernel_rfl) ?_
      refine LL.op (.bool (decide (x4l1 < (a0.length : Int)))) (by kernel_rfl) (fun w _ => by kernel_rfl) ?_
      refine LL.done (s' := [(0, .slice Aa0 a0.length ca0), (2, .int .i64 0), (4, .int .i64 x4l1), (23, .bool (decide (x4l1 < (a0.length : Int))))]) [0, 2, 4, 23] (by kernel_rfl) ?_
      refine NN.then ?_
      rcases Bool.eq_false_or_eq_true (decide (x4l1 < (a0.length : Int))) with c169 | c169
      · rw [if_pos (of_decide_eq_true c169)] at H
        refine J.condT (b := decide (x4l1 < (a0.length : Int))) c169 (by kernel_rfl) (by kernel_rfl) ?_
        refine J.skip ?_
        refine NN.then ?_
        refine J.seq ?_
        refine J.block ?_
        refine J.seq ?_
        refine J.drawn follows (by kernel_rfl) ?_
        refine QQ.op (.slice Aa0 a0.length ca0) (by kernel_rfl) (fun w _ => by kernel_rfl) ?_
        refine QQ.op (.int .i64 x4l1) (by kernel_rfl) (fun w _ => by kernel_rfl) ?_
        obtain ⟨e170, he170, H⟩ := bind_some H
        refine QQ.op (.pointer (rp Aa0 (x4l1.toNat * 1 + 0))) (by kernel_rfl) (idx2 (cp := ca0) (ik := .i64) ha0 he170 rfl (by kernel_rfl) (by kernel_rfl) (by kernel_rfl)) ?_
        obtain ⟨A171, c172, k173, ld174⟩ := KRow2.row ha0 he170
        refine QQ.op (.slice A171 e170.length c172) (by kernel_rfl) (ld174 rfl (by kernel_rfl) (by kernel_rfl)) ?_
        refine QQ.op (.int .i64 (e170.length : Int)) (by kernel_rfl) (fun w _ => by kernel_rfl) ?_
        refine QQ.op (.slice Aa0 a0.length ca0) (by kernel_rfl) (fun w _ => by kernel_rfl) ?_
        obtain ⟨e176, he176, H⟩ := bind_some H
        refine QQ.op (.pointer (rp Aa0 ((0 : Int).toNat * 1 + 0))) (by kernel_rfl) (idx2 (cp := ca0) (ik := .i64) ha0 he176 rfl (by kernel_rfl) (by kernel_rfl) (by kernel_rfl)) ?_
        obtain ⟨A177, c178, k179, ld180⟩ := KRow2.row ha0 he176
        refine QQ.op (.slice A177 e176.length c178) (by kernel_rfl) (ld180 rfl (by kernel_rfl) (by kernel_rfl)) ?_
        refine QQ.op (.int .i64 (e176.length : Int)) (by kernel_rfl) (fun w _ => by kernel_rfl) ?_
        refine QQ.op (.bool (!((e170.length : Int) == (e176.length : Int)))) (by kernel_rfl) (fun w _ => by kernel_rfl) ?_
        refine QQ.done (s' := [(0, .slice Aa0 a0.length ca0), (2, .int .i64 0), (4, .int .i64 x4l1), (35, .bool (!((e170.length : Int) == (e176.length : Int))))]) [0, 2, 4, 35] (by kernel_rfl) ?_
        refine NN.then ?_
        rcases Bool.eq_false_or_eq_true (((e170.length : Int) == (e176.length : Int))) with c182 | c182
        · rw [if_pos (eq_of_beq c182)] at H
          refine J.condF (b := !((e170.length : Int) == (e176.length : Int))) (by rw [show (!((e170.length : Int) == (e176.length : Int))) = !(((e170.length : Int) == (e176.length : Int))) from rfl, c182]; rfl) (by kernel_rfl) (by kernel_rfl) ?_
          refine J.skip ?_
          refine NN.block_n ?_
          refine NN.then ?_
          refine J.plain ?_
          refine LL.op (.int .i64 x4l1) (by kernel_rfl) (fun w _ => by kernel_rfl) ?_
          refine LL.op (.int .i64 (IntKind.i64.wrap (x4l1 + 1))) (by kernel_rfl) (fun w _ => by kernel_rfl) ?_
          refine LL.op (.int .i64 (IntKind.i64.wrap (x4l1 + 1))) (by kernel_rfl) (fun w _ => by kernel_rfl) ?_
          refine LL.done (s' := [(0, .slice Aa0 a0.length ca0), (2, .int .i64 0), (4, .int .i64 (IntKind.i64.wrap (x4l1 + 1)))]) [0, 2, 4] (by kernel_rfl) ?_
          exact NN.round' [0, 2, 4] (bs' := []) (Nat.lt_succ_self _) (List.Sublist.refl _) (by kernel_rfl) ⟨IntKind.i64.wrap (x4l1 + 1), H, rfl, rfl⟩
        · rw [if_neg (nebf c182)] at H
          refine J.condT (b := !((e170.length : Int) == (e176.length : Int))) (by rw [show (!((e170.length : Int) == (e176.length : Int))) = !(((e170.length : Int) == (e176.length : Int))) from rfl, c182]; rfl) (by kernel_rfl) (by kernel_rfl) ?_
          refine J.seq ?_
          refine J.plain ?_
          refine LL.op (.int .i64 19) (by kernel_rfl) (fun w _ => by kernel_rfl) ?_
          refine LL.done (s' := [(0, .slice Aa0 a0.length ca0), (2, .int .i64 19), (4, .int .i64 x4l1)]) [0, 2, 4] (by kernel_rfl) ?_
          refine NN.then ?_
          refine J.ret ?_
          refine NN.block_ret ?_
          refine NN.then_ret ?_
          refine NN.then_ret ?_
          refine NN.block_ret ?_
          refine NN.then_ret ?_
          refine NN.fin1 2 (.int .i64 19) (by kernel_rfl) (by kernel_rfl) (.inl rfl) (fun w hi => hi.ret ?_)
          first | (cases H; rfl) | (obtain rfl := Option.some.inj H; rfl) | (simp only [Option.some.injEq, Prod.mk.injEq] at H; obtain ⟨rfl⟩ := H; rfl)
      · rw [if_neg (of_decide_eq_false c169)] at H
        refine J.condF (b := decide (x4l1 < (a0.length : Int))) c169 (by kernel_rfl) (by kernel_rfl) ?_
        refine J.exit ?_
        refine NN.then_exit ?_
        rw [← hk167] at H
        (try dsimp only at H)
        refine NN.then_exit ?_
        refine NN.block_same ?_
        refine NN.then ?_
        refine J.seq ?_
        refine J.plain ?_
        refine LL.op (.int .i64 0) (by kernel_rfl) (fun w _ => by kernel_rfl) ?_
        refine LL.done (s' := [(2, .int .i64 0)]) [2] (by kernel_rfl) ?_
        refine NN.then ?_
        refine J.ret ?_
        refine NN.fin1 2 (.int .i64 0) (by kernel_rfl) (by kernel_rfl) (.inl rfl) (fun w hi => hi.ret ?_)
        first | (cases H; rfl) | (obtain rfl := Option.some.inj H; rfl) | (simp only [Option.some.injEq, Prod.mk.injEq] at H; obtain ⟨rfl⟩ := H; rfl)

/-! ### sawmillref30_within: function 52 -/
def sawmillref30_within.f (a0_0 : Int) (a0_1 : Int) (a1 : Int) (a2 : Int) : Option (Bool) := if a1 ≤ a0_0 then (if a0_0 ≤ a2 then (if a1 ≤ a0_1 then (some (decide (a0_1 ≤ a2))) else (some false)) else (some false)) else (some false)
set_option maxRecDepth 100000 in
theorem sawmillref30_within.calls (a0_0 : Int) (a0_1 : Int) (a1 : Int) (a2 : Int)    (r1 : Bool) (w : World)    (h : sawmillref30_within.f a0_0 a0_1 a1 a2 = some r1) :
    Calls Try.prog 52 #[.agg #[.int .i64 a0_0, .int .i64 a0_1], .int .i64 a1, .int .i64 a2] w (Ret w (.bool r1)) := by
  have H := h
  clear h
  unfold sawmillref30_within.f at H
  refine Go.Saw.calls (args := [.agg #[.int .i64 a0_0, .int .i64 a0_1], .int .i64 a1, .int .i64 a2]) Try.func52 rfl Try.ntmps52 (by kernel_rfl) ?_
  refine J.seq ?_
  refine J.plain ?_
  refine LL.box 30 (.tmp 0) [.int .i64 a0_0, .int .i64 a0_1] (by kernel_rfl) rfl (by kernel_rfl) (fun g183 => ?_)
  refine LL.op (.bool false) (by kernel_rfl) (fun w _ => by kernel_rfl) ?_
  refine LL.done (s' := [(1, .int .i64 a1), (2, .int .i64 a2), (3, .pointer (some ⟨g183, 0, none⟩)), (6, .bool false)]) [1, 2, 3, 6] (by kernel_rfl) ?_
  refine NN.then ?_
  refine J.seq ?_
  refine J.plain ?_
  refine LL.op (.pointer (some ⟨g183, 0, none⟩)) (by kernel_rfl) (fun w _ => by kernel_rfl) ?_
  refine LL.op (.int .i64 a0_0) (by kernel_rfl) (ld 0 g183 0 rfl (by kernel_rfl) rfl (by kernel_rfl)) ?_
  refine LL.op (.int .i64 a1) (by kernel_rfl) (fun w _ => by kernel_rfl) ?_
  refine LL.op (.bool (decide (a1 ≤ a0_0))) (by kernel_rfl) (fun w _ => by kernel_rfl) ?_
  refine LL.op (.bool (decide (a1 ≤ a0_0))) (by kernel_rfl) (fun w _ => by kernel_rfl) ?_
  rcases Bool.eq_false_or_eq_true (decide (a1 ≤ a0_0)) with c184 | c184
  · rw [if_pos (of_decide_eq_true c184)] at H
    refine LL.bool 11 (decide (a1 ≤ a0_0)) true c184 (by kernel_rfl) ?_
    refine LL.op (.pointer (some ⟨g183, 0, none⟩)) (by kernel_rfl) (fun w _ => by kernel_rfl) ?_
    refine LL.op (.int .i64 a0_0) (by kernel_rfl) (ld 0 g183 0 rfl (by kernel_rfl) rfl (by kernel_rfl)) ?_
    refine LL.op (.int .i64 a2) (by kernel_rfl) (fun w _ => by kernel_rfl) ?_
    refine LL.op (.bool (decide (a0_0 ≤ a2))) (by kernel_rfl) (fun w _ => by kernel_rfl) ?_
    refine LL.op (.bool (decide (a0_0 ≤ a2))) (by kernel_rfl) (fun w _ => by kernel_rfl) ?_
    refine LL.op (.bool (decide (a0_0 ≤ a2))) (by kernel_rfl) (fun w _ => by kernel_rfl) ?_
    rcases Bool.eq_false_or_eq_true (decide (a0_0 ≤ a2)) with c185 | c185
    · rw [if_pos (of_decide_eq_true c185)] at H
      refine LL.bool 17 (decide (a0_0 ≤ a2)) true c185 (by kernel_rfl) ?_
      refine LL.op (.pointer (some ⟨g183, 1, none⟩)) (by kernel_rfl) (fun w _ => by kernel_rfl) ?_
      refine LL.op (.int .i64 a0_1) (by kernel_rfl) (ld 0 g183 1 rfl (by kernel_rfl) rfl (by kernel_rfl)) ?_
      refine LL.op (.int .i64 a1) (by kernel_rfl) (fun w _ => by kernel_rfl) ?_
      refine LL.op (.bool (decide (a1 ≤ a0_1))) (by kernel_rfl) (fun w _ => by kernel_rfl) ?_
      refine LL.op (.bool (decide (a1 ≤ a0_1))) (by kernel_rfl) (fun w _ => by kernel_rfl) ?_
      refine LL.op (.bool (decide (a1 ≤ a0_1))) (by kernel_rfl) (fun w _ => by kernel_rfl) ?_
      rcases Bool.eq_false_or_eq_true (decide (a1 ≤ a0_1)) with c186 | c186
      · rw [if_pos (of_decide_eq_true c186)] at H
        refine LL.bool 23 (decide (a1 ≤ a0_1)) true c186 (by kernel_rfl) ?_
        refine LL.op (.pointer (some ⟨g183, 1, none⟩)) (by kernel_rfl) (fun w _ => by kernel_rfl) ?_
        refine LL.op (.int .i64 a0_1) (by kernel_rfl) (ld 0 g183 1 rfl (by kernel_rfl) rfl (by kernel_rfl)) ?_
        refine LL.op (.int .i64 a2) (by kernel_rfl) (fun w _ => by kernel_rfl) ?_
        refine LL.op (.bool (decide (a0_1 ≤ a2))) (by kernel_rfl) (fun w _ => by kernel_rfl) ?_
        refine LL.op (.bool (decide (a0_1 ≤ a2))) (by kernel_rfl) (fun w _ => by kernel_rfl) ?_
        refine LL.op (.bool (decide (a0_1 ≤ a2))) (by kernel_rfl) (fun w _ => by kernel_rfl) ?_
        refine LL.done (s' := [(6, .bool (decide (a0_1 ≤ a2)))]) [6] (by kernel_rfl) ?_
        refine NN.then ?_
        refine J.ret ?_
        refine NN.fin1 6 (.bool (decide (a0_1 ≤ a2))) (by kernel_rfl) (by kernel_rfl) (.inl rfl) (fun w hi => hi.ret ?_)
        first | (cases H; rfl) | (obtain rfl := Option.some.inj H; rfl) | (simp only [Option.some.injEq, Prod.mk.injEq] at H; obtain ⟨rfl⟩ := H; rfl)
      · rw [if_neg (of_decide_eq_false c186)] at H
        refine LL.bool 23 (decide (a1 ≤ a0_1)) false c186 (by kernel_rfl) ?_
        refine LL.off (by kernel_rfl) (by kernel_rfl) ?_
        refine LL.off (by kernel_rfl) (by kernel_rfl) ?_
        refine LL.off (by kernel_rfl) (by kernel_rfl) ?_
        refine LL.off (by kernel_rfl) (by kernel_rfl) ?_
        refine LL.op (.bool false) (by kernel_rfl) (fun w _ => by kernel_rfl) ?_
        refine LL.op (.bool false) (by kernel_rfl) (fun w _ => by kernel_rfl) ?_
        refine LL.done (s' := [(6, .bool false)]) [6] (by kernel_rfl) ?_
        refine NN.then ?_
        refine J.ret ?_
        refine NN.fin1 6 (.bool false) (by kernel_rfl) (by kernel_rfl) (.inl rfl) (fun w hi => hi.ret ?_)
        first | (cases H; rfl) | (obtain rfl := Option.some.inj H; rfl) | (simp only [Option.some.injEq, Prod.mk.injEq] at H; obtain ⟨rfl⟩ := H; rfl)
    · rw [if_neg (of_decide_eq_false c185)] at H
      refine LL.bool 17 (decide (a0_0 ≤ a2)) false c185 (by kernel_rfl) ?_
      refine LL.off (by kernel_rfl) (by kernel_rfl) ?_
      refine LL.off (by kernel_rfl) (by kernel_rfl) ?_
      refine LL.off (by kernel_rfl) (by kernel_rfl) ?_
      refine LL.off (by kernel_rfl) (by kernel_rfl) ?_
      refine LL.op (.bool false) (by kernel_rfl) (fun w _ => by kernel_rfl) ?_
      refine LL.op (.bool false) (by kernel_rfl) (fun w _ => by kernel_rfl) ?_
      refine LL.off (by kernel_rfl) (by kernel_rfl) ?_
      refine LL.off (by kernel_rfl) (by kernel_rfl) ?_
      refine LL.off (by kernel_rfl) (by kernel_rfl) ?_
      refine LL.off (by kernel_rfl) (by kernel_rfl) ?_
      refine LL.op (.bool false) (by kernel_rfl) (fun w _ => by kernel_rfl) ?_
      refine LL.op (.bool false) (by kernel_rfl) (fun w _ => by kernel_rfl) ?_
      refine LL.done (s' := [(6, .bool false)]) [6] (by kernel_rfl) ?_
      refine NN.then ?_
      refine J.ret ?_
      refine NN.fin1 6 (.bool false) (by kernel_rfl) (by kernel_rfl) (.inl rfl) (fun w hi => hi.ret ?_)
      first | (cases H; rfl) | (obtain rfl := Option.some.inj H; rfl) | (simp only [Option.some.injEq, Prod.mk.injEq] at H; obtain ⟨rfl⟩ := H; rfl)
  · rw [if_neg (of_decide_eq_false c184)] at H
    refine LL.bool 11 (decide (a1 ≤ a0_0)) false c184 (by kernel_rfl) ?_
    refine LL.off (by kernel_rfl) (by kernel_rfl) ?_
    refine LL.off (by kernel_rfl) (by kernel_rfl) ?_
    refine LL.off (by kernel_rfl) (by kernel_rfl) ?_
    refine LL.off (by kernel_rfl) (by kernel_rfl) ?_
    refine LL.op (.bool false) (by kernel_rfl) (fun w _ => by kernel_rfl) ?_
    refine LL.op (.bool false) (by kernel_rfl) (fun w _ => by kernel_rfl) ?_
    refine LL.off (by kernel_rfl) (by kernel_rfl) ?_
    refine LL.off (by kernel_rfl) (by kernel_rfl) ?_
    refine LL.off (by kernel_rfl) (by kernel_rfl) ?_
    refine LL.off (by kernel_rfl) (by kernel_rfl) ?_
    refine LL.op (.bool false) (by kernel_rfl) (fun w _ => by kernel_rfl) ?_
    refine LL.op (.bool false) (by kernel_rfl) (fun w _ => by kernel_rfl) ?_
    refine LL.off (by kernel_rfl) (by kernel_rfl) ?_
    refine LL.off (by kernel_rfl) (by kernel_rfl) ?_
    refine LL.off (by kernel_rfl) (by kernel_rfl) ?_
    refine LL.off (by kernel_rfl) (by kernel_rfl) ?_
    refine LL.op (.bool false) (by kernel_rfl) (fun w _ => by kernel_rfl) ?_
    refine LL.op (.bool false) (by kernel_rfl) (fun w _ => by kernel_rfl) ?_
    refine LL.done (s' := [(6, .bool false)]) [6] (by kernel_rfl) ?_
    refine NN.then ?_
    refine J.ret ?_
    refine NN.fin1 6 (.bool false) (by kernel_rfl) (by kernel_rfl) (.inl rfl) (fun w hi => hi.ret ?_)
    first | (cases H; rfl) | (obtain rfl := Option.some.inj H; rfl) | (simp only [Option.some.injEq, Prod.mk.injEq] at H; obtain ⟨rfl⟩ := H; rfl)

/-! ### sawmillref30_length: function 53 -/
def sawmillref30_length.f (a0_0 : Int) (a0_1 : Int) : Option (Int) := some (IntKind.i64.wrap (a0_1 - a0_0))
set_option maxRecDepth 100000 in
theorem sawmillref30_length.calls (a0_0 : Int) (a0_1 : Int)    (r1 : Int) (w : World)    (h : sawmillref30_length.f a0_0 a0_1 = some r1) :
    Calls Try.prog 53 #[.agg #[.int .i64 a0_0, .int .i64 a0_1]] w (Ret w (.int .i64 r1)) := by
  have H := h
  clear h
  unfold sawmillref30_length.f at H
  refine Go.Saw.calls (args := [.agg #[.int .i64 a0_0, .int .i64 a0_1]]) Try.func53 rfl Try.ntmps53 (by kernel_rfl) ?_
  refine J.seq ?_
  refine J.plain ?_
  refine LL.box 30 (.tmp 0) [.int .i64 a0_0, .int .i64 a0_1] (by kernel_rfl) rfl (by kernel_rfl) (fun g187 => ?_)
  refine LL.op (.int .i64 0) (by kernel_rfl) (fun w _ => by kernel_rfl) ?_
  refine LL.done (s' := [(1, .pointer (some ⟨g187, 0, none⟩)), (2, .int .i64 0)]) [1, 2] (by kernel_rfl) ?_
  refine NN.then ?_
  refine J.seq ?_
  refine J.plain ?_
  refine LL.op (.pointer (some ⟨g187, 1, none⟩)) (by kernel_rfl) (fun w _ => by kernel_rfl) ?_
  refine LL.op (.int .i64 a0_1) (by kernel_rfl) (ld 0 g187 1 rfl (by kernel_rfl) rfl (by kernel_rfl)) ?_
  refine LL.op (.pointer (some ⟨g187, 0, none⟩)) (by kernel_rfl) (fun w _ => by kernel_rfl) ?_
  refine LL.op (.int .i64 a0_0) (by kernel_rfl) (ld 0 g187 0 rfl (by kernel_rfl) rfl (by kernel_rfl)) ?_
  refine LL.op (.int .i64 (IntKind.i64.wrap (a0_1 - a0_0))) (by kernel_rfl) (fun w _ => by kernel_rfl) ?_
  refine LL.op (.int .i64 (IntKind.i64.wrap (a0_1 - a0_0))) (by kernel_rfl) (fun w _ => by kernel_rfl) ?_
  refine LL.done (s' := [(2, .int .i64 (IntKind.i64.wrap (a0_1 - a0_0)))]) [2] (by kernel_rfl) ?_
  refine NN.then ?_
  refine J.ret ?_
  refine NN.fin1 2 (.int .i64 (IntKind.i64.wrap (a0_1 - a0_0))) (by kernel_rfl) (by kernel_rfl) (.inl rfl) (fun w hi => hi.ret ?_)
  first | (cases H; rfl) | (obtain rfl := Option.some.inj H; rfl) | (simp only [Option.some.injEq, Prod.mk.injEq] at H; obtain ⟨rfl⟩ := H; rfl)

/-! ### sawmillref30_Length: function 48 -/
def sawmillref30_Length.f (a0_0 : ByteArray) (a0_1 : ByteArray) (a0_2 : ByteArray) (a0_3 : Int) (a0_4 : Int) (a0_5 : Int) (a0_6 : Int) (a0_7 : Int) (a0_8 : Int) (a0_9 : Int) (a0_10 : Int) (a0_11 : OS) (a0_12 : Int) (a0_13 : Int) (a0_14 : Int) (a0_15 : Int) (a0_16 : Bool) (a0_17 : Int) : Option (Int) := (sawmillref30_within.f a0_8 a0_9 0 20000).bind fun x189 => (if x189 = true then ((sawmillref30_length.f a0_8 a0_9).bind fun x191 => (some (mx 0 x191))) else (some 0))
set_option maxRecDepth 100000 in
theorem sawmillref30_Length.calls (a0_0 : ByteArray) (a0_1 : ByteArray) (a0_2 : ByteArray) (a0_3 : Int) (a0_4 : Int) (a0_5 : Int) (a0_6 : Int) (a0_7 : Int) (a0_8 : Int) (a0_9 : Int) (a0_10 : Int) (a0_11 : OS) (a0_12 : Int) (a0_13 : Int) (a0_14 : Int) (a0_15 : Int) (a0_16 : Bool) (a0_17 : Int)    (r1 : Int) (w : World)    (h : sawmillref30_Length.f a0_0 a0_1 a0_2 a0_3 a0_4 a0_5 a0_6 a0_7 a0_8 a0_9 a0_10 a0_11 a0_12 a0_13 a0_14 a0_15 a0_16 a0_17 = some r1) :
    Calls Try.prog 48 #[.agg #[.string a0_0, .string a0_1, .string a0_2, .int .i64 a0_3, .int .i64 a0_4, .int .i64 a0_5, .int .i64 a0_6, .int .i64 a0_7, .int .i64 a0_8, .int .i64 a0_9, .int .i64 a0_10, .slice a0_11.1 a0_11.2.1 a0_11.2.2, .int .i64 a0_12, .int .i64 a0_13, .int .i64 a0_14, .int .i64 a0_15, .bool a0_16, .int .i64 a0_17]] w (Ret w (.int .i64 r1)) := by
  have H := h
  clear h
  unfold sawmillref30_Length.f at H
  refine Go.Saw.calls (args := [.agg #[.string a0_0, .string a0_1, .string a0_2, .int .i64 a0_3, .int .i64 a0_4, .int .i64 a0_5, .int .i64 a0_6, .int .i64 a0_7, .int .i64 a0_8, .int .i64 a0_9, .int .i64 a0_10, .slice a0_11.1 a0_11.2.1 a0_11.2.2, .int .i64 a0_12, .int .i64 a0_13, .int .i64 a0_14, .int .i64 a0_15, .bool a0_16, .int .i64 a0_17]]) Try.func48 rfl Try.ntmps48 (by kernel_rfl) ?_
  refine J.seq ?_
  refine J.plain ?_
  refine LL.box 37 (.tmp 0) [.string a0_0, .string a0_1, .string a0_2, .int .i64 a0_3, .int .i64 a0_4, .int .i64 a0_5, .int .i64 a0_6, .int .i64 a0_7, .int .i64 a0_8, .int .i64 a0_9, .int .i64 a0_10, .slice a0_11.1 a0_11.2.1 a0_11.2.2, .int .i64 a0_12, .int .i64 a0_13, .int .i64 a0_14, .int .i64 a0_15, .bool a0_16, .int .i64 a0_17] (by kernel_rfl) rfl (by kernel_rfl) (fun g188 => ?_)
  refine LL.op (.int .i64 0) (by kernel_rfl) (fun w _ => by kernel_rfl) ?_
  refine LL.done (s' := [(1, .pointer (some ⟨g188, 0, none⟩)), (2, .int .i64 0)]) [1, 2] (by kernel_rfl) ?_
  refine NN.then ?_
  refine J.seq ?_
  refine J.seq ?_
  refine J.plain ?_
  refine LL.op (.pointer (some ⟨g188, 4, none⟩)) (by kernel_rfl) (fun w _ => by kernel_rfl) ?_
  refine LL.op (.pointer (some ⟨g188, 8, none⟩)) (by kernel_rfl) (fun w _ => by kernel_rfl) ?_
  refine LL.op (.agg #[.int .i64 a0_8, .int .i64 a0_9]) (by kernel_rfl) (ld 0 g188 8 rfl (by kernel_rfl) rfl (by kernel_rfl)) ?_
  obtain ⟨x189, hx189, H⟩ := bind_some H
  refine LL.call 52 #[.agg #[.int .i64 a0_8, .int .i64 a0_9], .int .i64 0, .int .i64 20000] (.bool x189) (by kernel_rfl) (fun w => by kernel_rfl) (fun w hw => sawmillref30_within.calls a0_8 a0_9 0 20000   _ w   hx189) ?_
  refine LL.op (.bool (!x189)) (by kernel_rfl) (fun w _ => by kernel_rfl) ?_
  refine LL.done (s' := [(1, .pointer (some ⟨g188, 0, none⟩)), (2, .int .i64 0), (7, .bool (!x189))]) [1, 2, 7] (by kernel_rfl) ?_
  refine NN.then ?_
  rcases Bool.eq_false_or_eq_true (x189) with c190 | c190
  · rw [if_pos (c190)] at H
    refine J.condF (b := !x189) (by rw [show (!x189) = !(x189) from rfl, c190]; rfl) (by kernel_rfl) (by kernel_rfl) ?_
    refine J.skip ?_
    refine NN.then ?_
    refine J.seq ?_
    refine J.plain ?_
    refine LL.op (.pointer (some ⟨g188, 4, none⟩)) (by kernel_rfl) (fun w _ => by kernel_rfl) ?_
    refine LL.op (.pointer (some ⟨g188, 8, none⟩)) (by kernel_rfl) (fun w _ => by kernel_rfl) ?_
    refine LL.op (.agg #[.int .i64 a0_8, .int .i64 a0_9]) (by kernel_rfl) (ld 0 g188 8 rfl (by kernel_rfl) rfl (by kernel_rfl)) ?_
    obtain ⟨x191, hx191, H⟩ := bind_some H
    refine LL.call 53 #[.agg #[.int .i64 a0_8, .int .i64 a0_9]] (.int .i64 x191) (by kernel_rfl) (fun w => by kernel_rfl) (fun w hw => sawmillref30_length.calls a0_8 a0_9   _ w   hx191) ?_
    refine LL.op (.int .i64 (mx 0 x191)) (by kernel_rfl) (fun w _ => by kernel_rfl) ?_
    refine LL.op (.int .i64 (mx 0 x191)) (by kernel_rfl) (fun w _ => by kernel_rfl) ?_
    refine LL.done (s' := [(2, .int .i64 (mx 0 x191))]) [2] (by kernel_rfl) ?_
    refine NN.then ?_
    refine J.ret ?_
    refine NN.fin1 2 (.int .i64 (mx 0 x191)) (by kernel_rfl) (by kernel_rfl) (.inl rfl) (fun w hi => hi.ret ?_)
    first | (cases H; rfl) | (obtain rfl := Option.some.inj H; rfl) | (simp only [Option.some.injEq, Prod.mk.injEq] at H; obtain ⟨rfl⟩ := H; rfl)
  · rw [if_neg (nebt c190)] at H
    refine J.condT (b := !x189) (by rw [show (!x189) = !(x189) from rfl, c190]; rfl) (by kernel_rfl) (by kernel_rfl) ?_
    refine J.seq ?_
    refine J.plain ?_
    refine LL.op (.int .i64 0) (by kernel_rfl) (fun w _ => by kernel_rfl) ?_
    refine LL.done (s' := [(1, .pointer (some ⟨g188, 0, none⟩)), (2, .int .i64 0)]) [1, 2] (by kernel_rfl) ?_
    refine NN.then ?_
    refine J.ret ?_
    refine NN.then_ret ?_
    refine NN.fin1 2 (.int .i64 0) (by kernel_rfl) (by kernel_rfl) (.inl rfl) (fun w hi => hi.ret ?_)
    first | (cases H; rfl) | (obtain rfl := Option.some.inj H; rfl) | (simp only [Option.some.injEq, Prod.mk.injEq] at H; obtain ⟨rfl⟩ := H; rfl)

/-! ### sawmillref36_Check: function 54 -/
def sawmillref36_Check.f (a0_0 : Int) (a0_1 : Int) (a0_2 : Int) : Option (Int) := if a0_0 < 0 then (some 25) else (if 20000 < a0_0 then (some 25) else (if a0_1 < 0 then (some 25) else (if 20000 < a0_1 then (some 25) else (if a0_2 < 0 then (some 9) else (if 1099511627776 < a0_2 then (some 9) else (some 0))))))
set_option maxRecDepth 100000 in
theorem sawmillref36_Check.calls (a0_0 : Int) (a0_1 : Int) (a0_2 : Int)    (r1 : Int) (w : World)    (h : sawmillref36_Check.f a0_0 a0_1 a0_2 = some r1) :
    Calls Try.prog 54 #[.agg #[.int .i64 a0_0, .int .i64 a0_1, .int .i64 a0_2]] w (Ret w (.int .i64 r1)) := by
  have H := h
  clear h
  unfold sawmillref36_Check.f at H
  refine Go.Saw.calls (args := [.agg #[.int .i64 a0_0, .int .i64 a0_1, .int .i64 a0_2]]) Try.func54 rfl Try.ntmps54 (by kernel_rfl) ?_
  refine J.seq ?_
  refine J.plain ?_
  refine LL.box 35 (.tmp 0) [.int .i64 a0_0, .int .i64 a0_1, .int .i64 a0_2] (by kernel_rfl) rfl (by kernel_rfl) (fun g192 => ?_)
  refine LL.op (.int .i64 0) (by kernel_rfl) (fun w _ => by kernel_rfl) ?_
  refine LL.done (s' := [(1, .pointer (some ⟨g192, 0, none⟩)), (2, .int .i64 0)]) [1, 2] (by kernel_rfl) ?_
  refine NN.then ?_
  refine J.seq ?_
  refine J.seq ?_
  refine J.plain ?_
  refine LL.op (.pointer (some ⟨g192, 0, none⟩)) (by kernel_rfl) (fun w _ => by kernel_rfl) ?_
  refine LL.op (.int .i64 a0_0) (by kernel_rfl) (ld 0 g192 0 rfl (by kernel_rfl) rfl (by kernel_rfl)) ?_
  refine LL.op (.bool (decide (a0_0 < 0))) (by kernel_rfl) (fun w _ => by kernel_rfl) ?_
  refine LL.op (.bool (decide (a0_0 < 0))) (by kernel_rfl) (fun w _ => by kernel_rfl) ?_
  rcases Bool.eq_false_or_eq_true (decide (a0_0 < 0)) with c193 | c193
  · rw [if_pos (of_decide_eq_true c193)] at H
    refine LL.bool 6 (decide (a0_0 < 0)) true c193 (by kernel_rfl) ?_
    refine LL.off (by kernel_rfl) (by kernel_rfl) ?_
    refine LL.off (by kernel_rfl) (by kernel_rfl) ?_
    refine LL.off (by kernel_rfl) (by kernel_rfl) ?_
    refine LL.op (.bool true) (by kernel_rfl) (fun w _ => by kernel_rfl) ?_
    refine LL.op (.bool true) (by kernel_rfl) (fun w _ => by kernel_rfl) ?_
    refine LL.off (by kernel_rfl) (by kernel_rfl) ?_
    refine LL.off (by kernel_rfl) (by kernel_rfl) ?_
    refine LL.off (by kernel_rfl) (by kernel_rfl) ?_
    refine LL.op (.bool true) (by kernel_rfl) (fun w _ => by kernel_rfl) ?_
    refine LL.op (.bool true) (by kernel_rfl) (fun w _ => by kernel_rfl) ?_
    refine LL.off (by kernel_rfl) (by kernel_rfl) ?_
    refine LL.off (by kernel_rfl) (by kernel_rfl) ?_
    refine LL.off (by kernel_rfl) (by kernel_rfl) ?_
    refine LL.op (.bool true) (by kernel_rfl) (fun w _ => by kernel_rfl) ?_
    refine LL.done (s' := [(1, .pointer (some ⟨g192, 0, none⟩)), (2, .int .i64 0), (20, .bool true)]) [1, 2, 20] (by kernel_rfl) ?_
    refine NN.then ?_
    refine J.condT (b := true) rfl (by kernel_rfl) (by kernel_rfl) ?_
    refine J.seq ?_
    refine J.plain ?_
    refine LL.op (.int .i64 25) (by kernel_rfl) (fun w _ => by kernel_rfl) ?_
    refine LL.done (s' := [(1, .pointer (some ⟨g192, 0, none⟩)), (2, .int .i64 25)]) [1, 2] (by kernel_rfl) ?_
    refine NN.then ?_
    refine J.ret ?_
    refine NN.then_ret ?_
    refine NN.fin1 2 (.int .i64 25) (by kernel_rfl) (by kernel_rfl) (.inl rfl) (fun w hi => hi.ret ?_)
    first | (cases H; rfl) | (obtain rfl := Option.some.inj H; rfl) | (simp only [Option.some.injEq, Prod.mk.injEq] at H; obtain ⟨rfl⟩ := H; rfl)
  · rw [if_neg (of_decide_eq_false c193)] at H
    refine LL.bool 6 (decide (a0_0 < 0)) false c193 (by kernel_rfl) ?_
    refine LL.op (.pointer (some ⟨g192, 0, none⟩)) (by kernel_rfl) (fun w _ => by kernel_rfl) ?_
    refine LL.op (.int .i64 a0_0) (by kernel_rfl) (ld 0 g192 0 rfl (by kernel_rfl) rfl (by kernel_rfl)) ?_
    refine LL.op (.bool (decide (20000 < a0_0))) (by kernel_rfl) (fun w _ => by kernel_rfl) ?_
    refine LL.op (.bool (decide (20000 < a0_0))) (by kernel_rfl) (fun w _ => by kernel_rfl) ?_
    refine LL.op (.bool (decide (20000 < a0_0))) (by kernel_rfl) (fun w _ => by kernel_rfl) ?_
    rcases Bool.eq_false_or_eq_true (decide (20000 < a0_0)) with c194 | c194
    · rw [if_pos (of_decide_eq_true c194)] at H
      refine LL.bool 11 (decide (20000 < a0_0)) true c194 (by kernel_rfl) ?_
      refine LL.off (by kernel_rfl) (by kernel_rfl) ?_
      refine LL.off (by kernel_rfl) (by kernel_rfl) ?_
      refine LL.off (by kernel_rfl) (by kernel_rfl) ?_
      refine LL.op (.bool true) (by kernel_rfl) (fun w _ => by kernel_rfl) ?_
      refine LL.op (.bool true) (by kernel_rfl) (fun w _ => by kernel_rfl) ?_
      refine LL.off (by kernel_rfl) (by kernel_rfl) ?_
      refine LL.off (by kernel_rfl) (by kernel_rfl) ?_
      refine LL.off (by kernel_rfl) (by kernel_rfl) ?_
      refine LL.op (.bool true) (by kernel_rfl) (fun w _ => by kernel_rfl) ?_
      refine LL.done (s' := [(1, .pointer (some ⟨g192, 0, none⟩)), (2, .int .i64 0), (20, .bool true)]) [1, 2, 20] (by kernel_rfl) ?_
      refine NN.then ?_
      refine J.condT (b := true) rfl (by kernel_rfl) (by kernel_rfl) ?_
      refine J.seq ?_
      refine J.plain ?_
      refine LL.op (.int .i64 25) (by kernel_rfl) (fun w _ => by kernel_rfl) ?_
      refine LL.done (s' := [(1, .pointer (some ⟨g192, 0, none⟩)), (2, .int .i64 25)]) [1, 2] (by kernel_rfl) ?_
      refine NN.then ?_
      refine J.ret ?_
      refine NN.then_ret ?_
      refine NN.fin1 2 (.int .i64 25) (by kernel_rfl) (by kernel_rfl) (.inl rfl) (fun w hi => hi.ret ?_)
      first | (cases H; rfl) | (obtain rfl := Option.some.inj H; rfl) | (simp only [Option.some.injEq, Prod.mk.injEq] at H; obtain ⟨rfl⟩ := H; rfl)
    · rw [if_neg (of_decide_eq_false c194)] at H
      refine LL.bool 11 (decide (20000 < a0_0)) false c194 (by kernel_rfl) ?_
      refine LL.op (.pointer (some ⟨g192, 1, none⟩)) (by kernel_rfl) (fun w _ => by kernel_rfl) ?_
      refine LL.op (.int .i64 a0_1) (by kernel_rfl) (ld 0 g192 1 rfl (by kernel_rfl) rfl (by kernel_rfl)) ?_
      refine LL.op (.bool (decide (a0_1 < 0))) (by kernel_rfl) (fun w _ => by kernel_rfl) ?_
      refine LL.op (.bool (decide (a0_1 < 0))) (by kernel_rfl) (fun w _ => by kernel_rfl) ?_
      refine LL.op (.bool (decide (a0_1 < 0))) (by kernel_rfl) (fun w _ => by kernel_rfl) ?_
      rcases Bool.eq_false_or_eq_true (decide (a0_1 < 0)) with c195 | c195
      · rw [if_pos (of_decide_eq_true c195)] at H
        refine LL.bool 16 (decide (a0_1 < 0)) true c195 (by kernel_rfl) ?_
        refine LL.off (by kernel_rfl) (by kernel_rfl) ?_
        refine LL.off (by kernel_rfl) (by kernel_rfl) ?_
        refine LL.off (by kernel_rfl) (by kernel_rfl) ?_
        refine LL.op (.bool true) (by kernel_rfl) (fun w _ => by kernel_rfl) ?_
        refine LL.done (s' := [(1, .pointer (some ⟨g192, 0, none⟩)), (2, .int .i64 0), (20, .bool true)]) [1, 2, 20] (by kernel_rfl) ?_
        refine NN.then ?_
        refine J.condT (b := true) rfl (by kernel_rfl) (by kernel_rfl) ?_
        refine J.seq ?_
        refine J.plain ?_
        refine LL.op (.int .i64 25) (by kernel_rfl) (fun w _ => by kernel_rfl) ?_
        refine LL.done (s' := [(1, .pointer (some ⟨g192, 0, none⟩)), (2, .int .i64 25)]) [1, 2] (by kernel_rfl) ?_
        refine NN.then ?_
        refine J.ret ?_
        refine NN.then_ret ?_
        refine NN.fin1 2 (.int .i64 25) (by kernel_rfl) (by kernel_rfl) (.inl rfl) (fun w hi => hi.ret ?_)
        first | (cases H; rfl) | (obtain rfl := Option.some.inj H; rfl) | (simp only [Option.some.injEq, Prod.mk.injEq] at H; obtain ⟨rfl⟩ := H; rfl)
      · rw [if_neg (of_decide_eq_false c195)] at H
        refine LL.bool 16 (decide (a0_1 < 0)) false c195 (by kernel_rfl) ?_
        refine LL.op (.pointer (some ⟨g192, 1, none⟩)) (by kernel_rfl) (fun w _ => by kernel_rfl) ?_
        refine LL.op (.int .i64 a0_1) (by kernel_rfl) (ld 0 g192 1 rfl (by kernel_rfl) rfl (by kernel_rfl)) ?_
        refine LL.op (.bool (decide (20000 < a0_1))) (by kernel_rfl) (fun w _ => by kernel_rfl) ?_
        refine LL.op (.bool (decide (20000 < a0_1))) (by kernel_rfl) (fun w _ => by kernel_rfl) ?_
        refine LL.done (s' := [(1, .pointer (some ⟨g192, 0, none⟩)), (2, .int .i64 0), (20, .bool (decide (20000 < a0_1)))]) [1, 2, 20] (by kernel_rfl) ?_
        refine NN.then ?_
        rcases Bool.eq_false_or_eq_true (decide (20000 < a0_1)) with c196 | c196
        · rw [if_pos (of_decide_eq_true c196)] at H
          refine J.condT (b := decide (20000 < a0_1)) c196 (by kernel_rfl) (by kernel_rfl) ?_
          refine J.seq ?_
          refine J.plain ?_
          refine LL.op (.int .i64 25) (by kernel_rfl) (fun w _ => by kernel_rfl) ?_
          refine LL.done (s' := [(1, .pointer (some ⟨g192, 0, none⟩)), (2, .int .i64 25)]) [1, 2] (by kernel_rfl) ?_
          refine NN.then ?_
          refine J.ret ?_
          refine NN.then_ret ?_
          refine NN.fin1 2 (.int .i64 25) (by kernel_rfl) (by kernel_rfl) (.inl rfl) (fun w hi => hi.ret ?_)
          first | (cases H; rfl) | (obtain rfl := Option.some.inj H; rfl) | (simp only [Option.some.injEq, Prod.mk.injEq] at H; obtain ⟨rfl⟩ := H; rfl)
        · rw [if_neg (of_decide_eq_false c196)] at H
          refine J.condF (b := decide (20000 < a0_1)) c196 (by kernel_rfl) (by kernel_rfl) ?_
          refine J.skip ?_
          refine NN.then ?_
          refine J.seq ?_
          refine J.seq ?_
          refine J.plain ?_
          refine LL.op (.pointer (some ⟨g192, 2, none⟩)) (by kernel_rfl) (fun w _ => by kernel_rfl) ?_
          refine LL.op (.int .i64 a0_2) (by kernel_rfl) (ld 0 g192 2 rfl (by kernel_rfl) rfl (by kernel_rfl)) ?_
          refine LL.op (.bool (decide (a0_2 < 0))) (by kernel_rfl) (fun w _ => by kernel_rfl) ?_
          refine LL.op (.bool (decide (a0_2 < 0))) (by kernel_rfl) (fun w _ => by kernel_rfl) ?_
          rcases Bool.eq_false_or_eq_true (decide (a0_2 < 0)) with c197 | c197
          · rw [if_pos (of_decide_eq_true c197)] at H
            refine LL.bool 24 (decide (a0_2 < 0)) true c197 (by kernel_rfl) ?_
            refine LL.off (by kernel_rfl) (by kernel_rfl) ?_
            refine LL.off (by kernel_rfl) (by kernel_rfl) ?_
            refine LL.off (by kernel_rfl) (by kernel_rfl) ?_
            refine LL.op (.bool true) (by kernel_rfl) (fun w _ => by kernel_rfl) ?_
            refine LL.done (s' := [(2, .int .i64 0), (28, .bool true)]) [2, 28] (by kernel_rfl) ?_
            refine NN.then ?_
            refine J.condT (b := true) rfl (by kernel_rfl) (by kernel_rfl) ?_
            refine J.seq ?_
            refine J.plain ?_
            refine LL.op (.int .i64 9) (by kernel_rfl) (fun w _ => by kernel_rfl) ?_
            refine LL.done (s' := [(2, .int .i64 9)]) [2] (by kernel_rfl) ?_
            refine NN.then ?_
            refine J.ret ?_
            refine NN.then_ret ?_
            refine NN.fin1 2 (.int .i64 9) (by kernel_rfl) (by kernel_rfl) (.inl rfl) (fun w hi => hi.ret ?_)
            first | (cases H; rfl) | (obtain rfl := Option.some.inj H; rfl) | (simp only [Option.some.injEq, Prod.mk.injEq] at H; obtain ⟨rfl⟩ := H; rfl)
          · rw [if_neg (of_decide_eq_false c197)] at H
            refine LL.bool 24 (decide (a0_2 < 0)) false c197 (by kernel_rfl) ?_
            refine LL.op (.pointer (some ⟨g192, 2, none⟩)) (by kernel_rfl) (fun w _ => by kernel_rfl) ?_
            refine LL.op (.int .i64 a0_2) (by kernel_rfl) (ld 0 g192 2 rfl (by kernel_rfl) rfl (by kernel_rfl)) ?_
            refine LL.op (.bool (decide (1099511627776 < a0_2))) (by kernel_rfl) (fun w _ => by kernel_rfl) ?_
            refine LL.op (.bool (decide (1099511627776 < a0_2))) (by kernel_rfl) (fun w _ => by kernel_rfl) ?_
            refine LL.done (s' := [(2, .int .i64 0), (28, .bool (decide (1099511627776 < a0_2)))]) [2, 28] (by kernel_rfl) ?_
            refine NN.then ?_
            rcases Bool.eq_false_or_eq_true (decide (1099511627776 < a0_2)) with c198 | c198
            · rw [if_pos (of_decide_eq_true c198)] at H
              refine J.condT (b := decide (1099511627776 < a0_2)) c198 (by kernel_rfl) (by kernel_rfl) ?_
              refine J.seq ?_
              refine J.plain ?_
              refine LL.op (.int .i64 9) (by kernel_rfl) (fun w _ => by kernel_rfl) ?_
              refine LL.done (s' := [(2, .int .i64 9)]) [2] (by kernel_rfl) ?_
              refine NN.then ?_
              refine J.ret ?_
              refine NN.then_ret ?_
              refine NN.fin1 2 (.int .i64 9) (by kernel_rfl) (by kernel_rfl) (.inl rfl) (fun w hi => hi.ret ?_)
              first | (cases H; rfl) | (obtain rfl := Option.some.inj H; rfl) | (simp only [Option.some.injEq, Prod.mk.injEq] at H; obtain ⟨rfl⟩ := H; rfl)
            · rw [if_neg (of_decide_eq_false c198)] at H
              refine J.condF (b := decide (1099511627776 < a0_2)) c198 (by kernel_rfl) (by kernel_rfl) ?_
              refine J.skip ?_
              refine NN.then ?_
              refine J.seq ?_
              refine J.plain ?_
              refine LL.op (.int .i64 0) (by kernel_rfl) (fun w _ => by kernel_rfl) ?_
              refine LL.done (s' := [(2, .int .i64 0)]) [2] (by kernel_rfl) ?_
              refine NN.then ?_
              refine J.ret ?_
              refine NN.fin1 2 (.int .i64 0) (by kernel_rfl) (by kernel_rfl) (.inl rfl) (fun w hi => hi.ret ?_)
              first | (cases H; rfl) | (obtain rfl := Option.some.inj H; rfl) | (simp only [Option.some.injEq, Prod.mk.injEq] at H; obtain ⟨rfl⟩ := H; rfl)

/-! ### sawmillref36_Mean: function 49 -/
def sawmillref36_Mean.f (a0_0 : Int) (a0_1 : Int) (a0_2 : Int) : Option (Int) := (sawmillref36_Check.f a0_0 a0_1 a0_2).bind fun x200 => (if x200 = 0 then (some (IntKind.i64.wrap (Int.tdiv (IntKind.i64.wrap (a0_0 + (IntKind.i64.wrap (2 * a0_1)))) 3))) else (some 0))
set_option maxRecDepth 100000 in
theorem sawmillref36_Mean.calls (a0_0 : Int) (a0_1 : Int) (a0_2 : Int)    (r1 : Int) (w : World)    (h : sawmillref36_Mean.f a0_0 a0_1 a0_2 = some r1) :
    Calls Try.prog 49 #[.agg #[.int .i64 a0_0, .int .i64 a0_1, .int .i64 a0_2]] w (Ret w (.int .i64 r1)) := by
  have H := h
  clear h
  unfold sawmillref36_Mean.f at H
  refine Go.Saw.calls (args := [.agg #[.int .i64 a0_0, .int .i64 a0_1, .int .i64 a0_2]]) Try.func49 rfl Try.ntmps49 (by kernel_rfl) ?_
  refine J.seq ?_
  refine J.plain ?_
  refine LL.box 35 (.tmp 0) [.int .i64 a0_0, .int .i64 a0_1, .int .i64 a0_2] (by kernel_rfl) rfl (by kernel_rfl) (fun g199 => ?_)
  refine LL.op (.int .i64 0) (by kernel_rfl) (fun w _ => by kernel_rfl) ?_
  refine LL.done (s' := [(1, .pointer (some ⟨g199, 0, none⟩)), (2, .int .i64 0)]) [1, 2] (by kernel_rfl) ?_
  refine NN.then ?_
  refine J.seq ?_
  refine J.seq ?_
  refine J.plain ?_
  refine LL.op (.agg #[.int .i64 a0_0, .int .i64 a0_1, .int .i64 a0_2]) (by kernel_rfl) (ld 0 g199 0 rfl (by kernel_rfl) rfl (by kernel_rfl)) ?_
  obtain ⟨x200, hx200, H⟩ := bind_some H
  refine LL.call 54 #[.agg #[.int .i64 a0_0, .int .i64 a0_1, .int .i64 a0_2]] (.int .i64 x200) (by kernel_rfl) (fun w => by kernel_rfl) (fun w hw => sawmillref36_Check.calls a0_0 a0_1 a0_2   _ w   hx200) ?_
  refine LL.op (.bool (!(x200 == 0))) (by kernel_rfl) (fun w _ => by kernel_rfl) ?_
  refine LL.done (s' := [(1, .pointer (some ⟨g199, 0, none⟩)), (2, .int .i64 0), (5, .bool (!(x200 == 0)))]) [1, 2, 5] (by kernel_rfl) ?_
  refine NN.then ?_
  rcases Bool.eq_false_or_eq_true ((x200 == 0)) with c201 | c201
  · rw [if_pos (eq_of_beq c201)] at H
    refine J.condF (b := !(x200 == 0)) (by rw [show (!(x200 == 0)) = !((x200 == 0)) from rfl, c201]; rfl) (by kernel_rfl) (by kernel_rfl) ?_
    refine J.skip ?_
    refine NN.then ?_
    refine J.seq ?_
    refine J.plain ?_
    refine LL.op (.pointer (some ⟨g199, 0, none⟩)) (by kernel_rfl) (fun w _ => by kernel_rfl) ?_
    refine LL.op (.int .i64 a0_0) (by kernel_rfl) (ld 0 g199 0 rfl (by kernel_rfl) rfl (by kernel_rfl)) ?_
    refine LL.op (.pointer (some ⟨g199, 1, none⟩)) (by kernel_rfl) (fun w _ => by kernel_rfl) ?_
    refine LL.op (.int .i64 a0_1) (by kernel_rfl) (ld 0 g199 1 rfl (by kernel_rfl) rfl (by kernel_rfl)) ?_
    refine LL.op (.int .i64 (IntKind.i64.wrap (2 * a0_1))) (by kernel_rfl) (fun w _ => by kernel_rfl) ?_
    refine LL.op (.int .i64 (IntKind.i64.wrap (a0_0 + (IntKind.i64.wrap (2 * a0_1))))) (by kernel_rfl) (fun w _ => by kernel_rfl) ?_
    refine LL.op (.int .i64 (IntKind.i64.wrap (Int.tdiv (IntKind.i64.wrap (a0_0 + (IntKind.i64.wrap (2 * a0_1)))) 3))) (by kernel_rfl) (fun w _ => by kernel_rfl) ?_
    refine LL.op (.int .i64 (IntKind.i64.wrap (Int.tdiv (IntKind.i64.wrap (a0_0 + (IntKind.i64.wrap (2 * a0_1)))) 3))) (by kernel_rfl) (fun w _ => by kernel_rfl) ?_
    refine LL.done (s' := [(2, .int .i64 (IntKind.i64.wrap (Int.tdiv (IntKind.i64.wrap (a0_0 + (IntKind.i64.wrap (2 * a0_1)))) 3)))]) [2] (by kernel_rfl) ?_
    refine NN.then ?_
    refine J.ret ?_
    refine NN.fin1 2 (.int .i64 (IntKind.i64.wrap (Int.tdiv (IntKind.i64.wrap (a0_0 + (IntKind.i64.wrap (2 * a0_1)))) 3))) (by kernel_rfl) (by kernel_rfl) (.inl rfl) (fun w hi => hi.ret ?_)
    first | (cases H; rfl) | (obtain rfl := Option.some.inj H; rfl) | (simp only [Option.some.injEq, Prod.mk.injEq] at H; obtain ⟨rfl⟩ := H; rfl)
  · rw [if_neg (nebf c201)] at H
    refine J.condT (b := !(x200 == 0)) (by rw [show (!(x200 == 0)) = !((x200 == 0)) from rfl, c201]; rfl) (by kernel_rfl) (by kernel_rfl) ?_
    refine J.seq ?_
    refine J.plain ?_
    refine LL.op (.int .i64 0) (by kernel_rfl) (fun w _ => by kernel_rfl) ?_
    refine LL.done (s' := [(1, .pointer (some ⟨g199, 0, none⟩)), (2, .int .i64 0)]) [1, 2] (by kernel_rfl) ?_
    refine NN.then ?_
    refine J.ret ?_
    refine NN.then_ret ?_
    refine NN.fin1 2 (.int .i64 0) (by kernel_rfl) (by kernel_rfl) (.inl rfl) (fun w hi => hi.ret ?_)
    first | (cases H; rfl) | (obtain rfl := Option.some.inj H; rfl) | (simp only [Option.some.injEq, Prod.mk.injEq] at H; obtain ⟨rfl⟩ := H; rfl)

/-! ### sawmillref46_Fits: function 38 -/
def sawmillref46_Fits.f (a0_0 : ByteArray) (a0_1 : ByteArray) (a0_2 : Int) (a0_3 : Int) (a0_4 : Int) (a0_5 : Int) (a0_6 : Int) (a0_7 : Int) (a0_8 : Int) (a0_9 : Int) (a0_10 : Int) (a1_0 : ByteArray) (a1_1 : ByteArray) (a1_2 : ByteArray) (a1_3 : Int) (a1_4 : Int) (a1_5 : Int) (a1_6 : Int) (a1_7 : Int) (a1_8 : Int) (a1_9 : Int) (a1_10 : Int) (a1_11 : OS) (a1_12 : Int) (a1_13 : Int) (a1_14 : Int) (a1_15 : Int) (a1_16 : Bool) (a1_17 : Int) : Option (Int) := if a1_2.toList = a0_1.toList then (if a1_3 = a0_2 then ((sawmillref30_Length.f a1_0 a1_1 a1_2 a1_3 a1_4 a1_5 a1_6 a1_7 a1_8 a1_9 a1_10 a1_11 a1_12 a1_13 a1_14 a1_15 a1_16 a1_17).bind fun x206 => (if x206 = a0_3 then (if a1_16 = true then ((sawmillref36_Mean.f a1_13 a1_14 a1_15).bind fun x209 => (if a0_5 < x209 then (some 25) else (if a1_17 < 1 then (some 26) else (if a0_4 < a1_17 then (some 26) else (some 0))))) else (some 14)) else (some 20))) else (some 8)) else (some 24)
set_option maxRecDepth 100000 in
theorem sawmillref46_Fits.calls (a0_0 : ByteArray) (a0_1 : ByteArray) (a0_2 : Int) (a0_3 : Int) (a0_4 : Int) (a0_5 : Int) (a0_6 : Int) (a0_7 : Int) (a0_8 : Int) (a0_9 : Int) (a0_10 : Int) (a1_0 : ByteArray) (a1_1 : ByteArray) (a1_2 : ByteArray) (a1_3 : Int) (a1_4 : Int) (a1_5 : Int) (a1_6 : Int) (a1_7 : Int) (a1_8 : Int) (a1_9 : Int) (a1_10 : Int) (a1_11 : OS) (a1_12 : Int) (a1_13 : Int) (a1_14 : Int) (a1_15 : Int) (a1_16 : Bool) (a1_17 : Int)    (r1 : Int) (w : World)    (h : sawmillref46_Fits.f a0_0 a0_1 a0_2 a0_3 a0_4 a0_5 a0_6 a0_7 a0_8 a0_9 a0_10 a1_0 a1_1 a1_2 a1_3 a1_4 a1_5 a1_6 a1_7 a1_8 a1_9 a1_10 a1_11 a1_12 a1_13 a1_14 a1_15 a1_16 a1_17 = some r1) :
    Calls Try.prog 38 #[.agg #[.string a0_0, .string a0_1, .int .i64 a0_2, .int .i64 a0_3, .int .i64 a0_4, .int .i64 a0_5, .int .i64 a0_6, .int .i64 a0_7, .int .i64 a0_8, .int .i64 a0_9, .int .i64 a0_10], .agg #[.string a1_0, .string a1_1, .string a1_2, .int .i64 a1_3, .int .i64 a1_4, .int .i64 a1_5, .int .i64 a1_6, .int .i64 a1_7, .int .i64 a1_8, .int .i64 a1_9, .int .i64 a1_10, .slice a1_11.1 a1_11.2.1 a1_11.2.2, .int .i64 a1_12, .int .i64 a1_13, .int .i64 a1_14, .int .i64 a1_15, .bool a1_16, .int .i64 a1_17]] w (Ret w (.int .i64 r1)) := by
  have H := h
  clear h
  unfold sawmillref46_Fits.f at H
  refine Go.Saw.calls (args := [.agg #[.string a0_0, .string a0_1, .int .i64 a0_2, .int .i64 a0_3, .int .i64 a0_4, .int .i64 a0_5, .int .i64 a0_6, .int .i64 a0_7, .int .i64 a0_8, .int .i64 a0_9, .int .i64 a0_10], .agg #[.string a1_0, .string a1_1, .string a1_2, .int .i64 a1_3, .int .i64 a1_4, .int .i64 a1_5, .int .i64 a1_6, .int .i64 a1_7, .int .i64 a1_8, .int .i64 a1_9, .int .i64 a1_10, .slice a1_11.1 a1_11.2.1 a1_11.2.2, .int .i64 a1_12, .int .i64 a1_13, .int .i64 a1_14, .int .i64 a1_15, .bool a1_16, .int .i64 a1_17]]) Try.func38 rfl Try.ntmps38 (by kernel_rfl) ?_
  refine J.seq ?_
  refine J.plain ?_
  refine LL.box 27 (.tmp 0) [.string a0_0, .string a0_1, .int .i64 a0_2, .int .i64 a0_3, .int .i64 a0_4, .int .i64 a0_5, .int .i64 a0_6, .int .i64 a0_7, .int .i64 a0_8, .int .i64 a0_9, .int .i64 a0_10] (by kernel_rfl) rfl (by kernel_rfl) (fun g202 => ?_)
  refine LL.box 37 (.tmp 1) [.string a1_0, .string a1_1, .string a1_2, .int .i64 a1_3, .int .i64 a1_4, .int .i64 a1_5, .int .i64 a1_6, .int .i64 a1_7, .int .i64 a1_8, .int .i64 a1_9, .int .i64 a1_10, .slice a1_11.1 a1_11.2.1 a1_11.2.2, .int .i64 a1_12, .int .i64 a1_13, .int .i64 a1_14, .int .i64 a1_15, .bool a1_16, .int .i64 a1_17] (by kernel_rfl) rfl (by kernel_rfl) (fun g203 => ?_)
  refine LL.op (.int .i64 0) (by kernel_rfl) (fun w _ => by kernel_rfl) ?_
  refine LL.done (s' := [(2, .pointer (some ⟨g202, 0, none⟩)), (3, .pointer (some ⟨g203, 0, none⟩)), (4, .int .i64 0)]) [2, 3, 4] (by kernel_rfl) ?_
  refine NN.then ?_
  refine J.seq ?_
  refine J.seq ?_
  refine J.plain ?_
  refine LL.op (.pointer (some ⟨g203, 2, none⟩)) (by kernel_rfl) (fun w _ => by kernel_rfl) ?_
  refine LL.op (.string a1_2) (by kernel_rfl) (ld 0 g203 2 rfl (by kernel_rfl) rfl (by kernel_rfl)) ?_
  refine LL.op (.pointer (some ⟨g202, 1, none⟩)) (by kernel_rfl) (fun w _ => by kernel_rfl) ?_
  refine LL.op (.string a0_1) (by kernel_rfl) (ld 1 g202 1 rfl (by kernel_rfl) rfl (by kernel_rfl)) ?_
  refine LL.op (.bool (!(a1_2.toList == a0_1.toList))) (by kernel_rfl) (fun w _ => by kernel_rfl) ?_
  refine LL.done (s' := [(2, .pointer (some ⟨g202, 0, none⟩)), (3, .pointer (some ⟨g203, 0, none⟩)), (4, .int .i64 0), (9, .bool (!(a1_2.toList == a0_1.toList)))]) [2, 3, 4, 9] (by kernel_rfl) ?_
  refine NN.then ?_
  rcases Bool.eq_false_or_eq_true ((a1_2.toList == a0_1.toList)) with c204 | c204
  · rw [if_pos (eq_of_beq c204)] at H
    refine J.condF (b := !(a1_2.toList == a0_1.toList)) (by rw [show (!(a1_2.toList == a0_1.toList)) = !((a1_2.toList == a0_1.toList)) from rfl, c204]; rfl) (by kernel_rfl) (by kernel_rfl) ?_
    refine J.skip ?_
    refine NN.then ?_
    refine J.seq ?_
    refine J.seq ?_
    refine J.plain ?_
    refine LL.op (.pointer (some ⟨g203, 3, none⟩)) (by kernel_rfl) (fun w _ => by kernel_rfl) ?_
    refine LL.op (.int .i64 a1_3) (by kernel_rfl) (ld 0 g203 3 rfl (by kernel_rfl) rfl (by kernel_rfl)) ?_
    refine LL.op (.pointer (some ⟨g202, 2, none⟩)) (by kernel_rfl) (fun w _ => by kernel_rfl) ?_
    refine LL.op (.int .i64 a0_2) (by kernel_rfl) (ld 1 g202 2 rfl (by kernel_rfl) rfl (by kernel_rfl)) ?_
    refine LL.op (.bool (!(a1_3 == a0_2))) (by kernel_rfl) (fun w _ => by kernel_rfl) ?_
    refine LL.done (s' := [(2, .pointer (some ⟨g202, 0, none⟩)), (3, .pointer (some ⟨g203, 0, none⟩)), (4, .int .i64 0), (14, .bool (!(a1_3 == a0_2)))]) [2, 3, 4, 14] (by kernel_rfl) ?_
    refine NN.then ?_
    rcases Bool.eq_false_or_eq_true ((a1_3 == a0_2)) with c205 | c205
    · rw [if_pos (eq_of_beq c205)] at H
      refine J.condF (b := !(a1_3 == a0_2)) (by rw [show (!(a1_3 == a0_2)) = !((a1_3 == a0_2)) from rfl, c205]; rfl) (by kernel_rfl) (by kernel_rfl) ?_
      refine J.skip ?_
      refine NN.then ?_
      refine J.seq ?_
      refine J.seq ?_
      refine J.drawn follows (by kernel_rfl) ?_
      refine QQ.op (.agg #[.string a1_0, .string a1_1, .string a1_2, .int .i64 a1_3, .int .i64 a1_4, .int .i64 a1_5, .int .i64 a1_6, .int .i64 a1_7, .int .i64 a1_8, .int .i64 a1_9, .int .i64 a1_10, .slice a1_11.1 a1_11.2.1 a1_11.2.2, .int .i64 a1_12, .int .i64 a1_13, .int .i64 a1_14, .int .i64 a1_15, .bool a1_16, .int .i64 a1_17]) (by kernel_rfl) (ld 0 g203 0 rfl (by kernel_rfl) rfl (by kernel_rfl)) ?_
      obtain ⟨x206, hx206, H⟩ := bind_some H
      refine QQ.call 48 #[.agg #[.string a1_0, .string a1_1, .string a1_2, .int .i64 a1_3, .int .i64 a1_4, .int .i64 a1_5, .int .i64 a1_6, .int .i64 a1_7, .int .i64 a1_8, .int .i64 a1_9, .int .i64 a1_10, .slice a1_11.1 a1_11.2.1 a1_11.2.2, .int .i64 a1_12, .int .i64 a1_13, .int .i64 a1_14, .int .i64 a1_15, .bool a1_16, .int .i64 a1_17]] (.int .i64 x206) (by kernel_rfl) (fun w => by kernel_rfl) (fun w hw => sawmillref30_Length.calls a1_0 a1_1 a1_2 a1_3 a1_4 a1_5 a1_6 a1_7 a1_8 a1_9 a1_10 a1_11 a1_12 a1_13 a1_14 a1_15 a1_16 a1_17   _ w   hx206) ?_
      refine QQ.op (.pointer (some ⟨g202, 3, none⟩)) (by kernel_rfl) (fun w _ => by kernel_rfl) ?_
      refine QQ.op (.int .i64 a0_3) (by kernel_rfl) (ld 1 g202 3 rfl (by kernel_rfl) rfl (by kernel_rfl)) ?_
      refine QQ.op (.bool (!(x206 == a0_3))) (by kernel_rfl) (fun w _ => by kernel_rfl) ?_
      refine QQ.done (s' := [(2, .pointer (some ⟨g202, 0, none⟩)), (3, .pointer (some ⟨g203, 0, none⟩)), (4, .int .i64 0), (19, .bool (!(x206 == a0_3)))]) [2, 3, 4, 19] (by kernel_rfl) ?_
      refine NN.then ?_
      rcases Bool.eq_false_or_eq_true ((x206 == a0_3)) with c207 | c207
      · rw [if_pos (eq_of_beq c207)] at H
        refine J.condF (b := !(x206 == a0_3)) (by rw [show (!(x206 == a0_3)) = !((x206 == a0_3)) from rfl, c207]; rfl) (by kernel_rfl) (by kernel_rfl) ?_
        refine J.skip ?_
        refine NN.then ?_
        refine J.seq ?_
        refine J.seq ?_
        refine J.plain ?_
        refine LL.op (.pointer (some ⟨g203, 16, none⟩)) (by kernel_rfl) (fun w _ => by kernel_rfl) ?_
        refine LL.op (.bool a1_16) (by kernel_rfl) (ld 0 g203 16 rfl (by kernel_rfl) rfl (by kernel_rfl)) ?_
        refine LL.op (.bool (!a1_16)) (by kernel_rfl) (fun w _ => by kernel_rfl) ?_
        refine LL.done (s' := [(2, .pointer (some ⟨g202, 0, none⟩)), (3, .pointer (some ⟨g203, 0, none⟩)), (4, .int .i64 0), (22, .bool (!a1_16))]) [2, 3, 4, 22] (by kernel_rfl) ?_
        refine NN.then ?_
        rcases Bool.eq_false_or_eq_true (a1_16) with c208 | c208
        · rw [if_pos (c208)] at H
          refine J.condF (b := !a1_16) (by rw [show (!a1_16) = !(a1_16) from rfl, c208]; rfl) (by kernel_rfl) (by kernel_rfl) ?_
          refine J.skip ?_
          refine NN.then ?_
          refine J.seq ?_
          refine J.seq ?_
          refine J.drawn follows (by kernel_rfl) ?_
          refine QQ.op (.pointer (some ⟨g203, 13, none⟩)) (by kernel_rfl) (fun w _ => by kernel_rfl) ?_
          refine QQ.op (.agg #[.int .i64 a1_13, .int .i64 a1_14, .int .i64 a1_15]) (by kernel_rfl) (ld 0 g203 13 rfl (by kernel_rfl) rfl (by kernel_rfl)) ?_
          obtain ⟨x209, hx209, H⟩ := bind_some H
          refine QQ.call 49 #[.agg #[.int .i64 a1_13, .int .i64 a1_14, .int .i64 a1_15]] (.int .i64 x209) (by kernel_rfl) (fun w => by kernel_rfl) (fun w hw => sawmillref36_Mean.calls a1_13 a1_14 a1_15   _ w   hx209) ?_
          refine QQ.op (.pointer (some ⟨g202, 5, none⟩)) (by kernel_rfl) (fun w _ => by kernel_rfl) ?_
          refine QQ.op (.int .i64 a0_5) (by kernel_rfl) (ld 1 g202 5 rfl (by kernel_rfl) rfl (by kernel_rfl)) ?_
          refine QQ.op (.bool (decide (a0_5 < x209))) (by kernel_rfl) (fun w _ => by kernel_rfl) ?_
          refine QQ.done (s' := [(2, .pointer (some ⟨g202, 0, none⟩)), (3, .pointer (some ⟨g203, 0, none⟩)), (4, .int .i64 0), (28, .bool (decide (a0_5 < x209)))]) [2, 3, 4, 28] (by kernel_rfl) ?_
          refine NN.then ?_
          rcases Bool.eq_false_or_eq_true (decide (a0_5 < x209)) with c210 | c210
          · rw [if_pos (of_decide_eq_true c210)] at H
            refine J.condT (b := decide (a0_5 < x209)) c210 (by kernel_rfl) (by kernel_rfl) ?_
            refine J.seq ?_
            refine J.plain ?_
            refine LL.op (.int .i64 25) (by kernel_rfl) (fun w _ => by kernel_rfl) ?_
            refine LL.done (s' := [(2, .pointer (some ⟨g202, 0, none⟩)), (3, .pointer (some ⟨g203, 0, none⟩)), (4, .int .i64 25)]) [2, 3, 4] (by kernel_rfl) ?_
            refine NN.then ?_
            refine J.ret ?_
            refine NN.then_ret ?_
            refine NN.fin1 4 (.int .i64 25) (by kernel_rfl) (by kernel_rfl) (.inl rfl) (fun w hi => hi.ret ?_)
            first | (cases H; rfl) | (obtain rfl := Option.some.inj H; rfl) | (simp only [Option.some.injEq, Prod.mk.injEq] at H; obtain ⟨rfl⟩ := H; rfl)
          · rw [if_neg (of_decide_eq_false c210)] at H
            refine J.condF (b := decide (a0_5 < x209)) c210 (by kernel_rfl) (by kernel_rfl) ?_
            refine J.skip ?_
            refine NN.then ?_
            refine J.seq ?_
            refine J.seq ?_
            refine J.plain ?_
            refine LL.op (.pointer (some ⟨g203, 17, none⟩)) (by kernel_rfl) (fun w _ => by kernel_rfl) ?_
            refine LL.op (.int .i64 a1_17) (by kernel_rfl) (ld 0 g203 17 rfl (by kernel_rfl) rfl (by kernel_rfl)) ?_
            refine LL.op (.bool (decide (a1_17 < 1))) (by kernel_rfl) (fun w _ => by kernel_rfl) ?_
            refine LL.op (.bool (decide (a1_17 < 1))) (by kernel_rfl) (fun w _ => by kernel_rfl) ?_
            rcases Bool.eq_false_or_eq_true (decide (a1_17 < 1)) with c211 | c211
            · rw [if_pos (of_decide_eq_true c211)] at H
              refine LL.bool 32 (decide (a1_17 < 1)) true c211 (by kernel_rfl) ?_
              refine LL.off (by kernel_rfl) (by kernel_rfl) ?_
              refine LL.off (by kernel_rfl) (by kernel_rfl) ?_
              refine LL.off (by kernel_rfl) (by kernel_rfl) ?_
              refine LL.off (by kernel_rfl) (by kernel_rfl) ?_
              refine LL.off (by kernel_rfl) (by kernel_rfl) ?_
              refine LL.op (.bool true) (by kernel_rfl) (fun w _ => by kernel_rfl) ?_
              refine LL.done (s' := [(4, .int .i64 0), (38, .bool true)]) [4, 38] (by kernel_rfl) ?_
              refine NN.then ?_
              refine J.condT (b := true) rfl (by kernel_rfl) (by kernel_rfl) ?_
              refine J.seq ?_
              refine J.plain ?_
              refine LL.op (.int .i64 26) (by kernel_rfl) (fun w _ => by kernel_rfl) ?_
              refine LL.done (s' := [(4, .int .i64 26)]) [4] (by kernel_rfl) ?_
              refine NN.then ?_
              refine J.ret ?_
              refine NN.then_ret ?_
              refine NN.fin1 4 (.int .i64 26) (by kernel_rfl) (by kernel_rfl) (.inl rfl) (fun w hi => hi.ret ?_)
              first | (cases H; rfl) | (obtain rfl := Option.some.inj H; rfl) | (simp only [Option.some.injEq, Prod.mk.injEq] at H; obtain ⟨rfl⟩ := H; rfl)
            · rw [if_neg (of_decide_eq_false c211)] at H
              refine LL.bool 32 (decide (a1_17 < 1)) false c211 (by kernel_rfl) ?_
              refine LL.op (.pointer (some ⟨g203, 17, none⟩)) (by kernel_rfl) (fun w _ => by kernel_rfl) ?_
              refine LL.op (.int .i64 a1_17) (by kernel_rfl) (ld 0 g203 17 rfl (by kernel_rfl) rfl (by kernel_rfl)) ?_
              refine LL.op (.pointer (some ⟨g202, 4, none⟩)) (by kernel_rfl) (fun w _ => by kernel_rfl) ?_
              refine LL.op (.int .i64 a0_4) (by kernel_rfl) (ld 1 g202 4 rfl (by kernel_rfl) rfl (by kernel_rfl)) ?_
              refine LL.op (.bool (decide (a0_4 < a1_17))) (by kernel_rfl) (fun w _ => by kernel_rfl) ?_
              refine LL.op (.bool (decide (a0_4 < a1_17))) (by kernel_rfl) (fun w _ => by kernel_rfl) ?_
              refine LL.done (s' := [(4, .int .i64 0), (38, .bool (decide (a0_4 < a1_17)))]) [4, 38] (by kernel_rfl) ?_
              refine NN.then ?_
              rcases Bool.eq_false_or_eq_true (decide (a0_4 < a1_17)) with c212 | c212
              · rw [if_pos (of_decide_eq_true c212)] at H
                refine J.condT (b := decide (a0_4 < a1_17)) c212 (by kernel_rfl) (by kernel_rfl) ?_
                refine J.seq ?_
                refine J.plain ?_
                refine LL.op (.int .i64 26) (by kernel_rfl) (fun w _ => by kernel_rfl) ?_
                refine LL.done (s' := [(4, .int .i64 26)]) [4] (by kernel_rfl) ?_
                refine NN.then ?_
                refine J.ret ?_
                refine NN.then_ret ?_
                refine NN.fin1 4 (.int .i64 26) (by kernel_rfl) (by kernel_rfl) (.inl rfl) (fun w hi => hi.ret ?_)
                first | (cases H; rfl) | (obtain rfl := Option.some.inj H; rfl) | (simp only [Option.some.injEq, Prod.mk.injEq] at H; obtain ⟨rfl⟩ := H; rfl)
              · rw [if_neg (of_decide_eq_false c212)] at H
                refine J.condF (b := decide (a0_4 < a1_17)) c212 (by kernel_rfl) (by kernel_rfl) ?_
                refine J.skip ?_
                refine NN.then ?_
                refine J.seq ?_
                refine J.plain ?_
                refine LL.op (.int .i64 0) (by kernel_rfl) (fun w _ => by kernel_rfl) ?_
                refine LL.done (s' := [(4, .int .i64 0)]) [4] (by kernel_rfl) ?_
                refine NN.then ?_
                refine J.ret ?_
                refine NN.fin1 4 (.int .i64 0) (by kernel_rfl) (by kernel_rfl) (.inl rfl) (fun w hi => hi.ret ?_)
                first | (cases H; rfl) | (obtain rfl := Option.some.inj H; rfl) | (simp only [Option.some.injEq, Prod.mk.injEq] at H; obtain ⟨rfl⟩ := H; rfl)
        · rw [if_neg (nebt c208)] at H
          refine J.condT (b := !a1_16) (by rw [show (!a1_16) = !(a1_16) from rfl, c208]; rfl) (by kernel_rfl) (by kernel_rfl) ?_
          refine J.seq ?_
          refine J.plain ?_
          refine LL.op (.int .i64 14) (by kernel_rfl) (fun w _ => by kernel_rfl) ?_
          refine LL.done (s' := [(2, .pointer (some ⟨g202, 0, none⟩)), (3, .pointer (some ⟨g203, 0, none⟩)), (4, .int .i64 14)]) [2, 3, 4] (by kernel_rfl) ?_
          refine NN.then ?_
          refine J.ret ?_
          refine NN.then_ret ?_
          refine NN.fin1 4 (.int .i64 14) (by kernel_rfl) (by kernel_rfl) (.inl rfl) (fun w hi => hi.ret ?_)
          first | (cases H; rfl) | (obtain rfl := Option.some.inj H; rfl) | (simp only [Option.some.injEq, Prod.mk.injEq] at H; obtain ⟨rfl⟩ := H; rfl)
      · rw [if_neg (nebf c207)] at H
        refine J.condT (b := !(x206 == a0_3)) (by rw [show (!(x206 == a0_3)) = !((x206 == a0_3)) from rfl, c207]; rfl) (by kernel_rfl) (by kernel_rfl) ?_
        refine J.seq ?_
        refine J.plain ?_
        refine LL.op (.int .i64 20) (by kernel_rfl) (fun w _ => by kernel_rfl) ?_
        refine LL.done (s' := [(2, .pointer (some ⟨g202, 0, none⟩)), (3, .pointer (some ⟨g203, 0, none⟩)), (4, .int .i64 20)]) [2, 3, 4] (by kernel_rfl) ?_
        refine NN.then ?_
        refine J.ret ?_
        refine NN.then_ret ?_
        refine NN.fin1 4 (.int .i64 20) (by kernel_rfl) (by kernel_rfl) (.inl rfl) (fun w hi => hi.ret ?_)
        first | (cases H; rfl) | (obtain rfl := Option.some.inj H; rfl) | (simp only [Option.some.injEq, Prod.mk.injEq] at H; obtain ⟨rfl⟩ := H; rfl)
    · rw [if_neg (nebf c205)] at H
      refine J.condT (b := !(a1_3 == a0_2)) (by rw [show (!(a1_3 == a0_2)) = !((a1_3 == a0_2)) from rfl, c205]; rfl) (by kernel_rfl) (by kernel_rfl) ?_
      refine J.seq ?_
      refine J.plain ?_
      refine LL.op (.int .i64 8) (by kernel_rfl) (fun w _ => by kernel_rfl) ?_
      refine LL.done (s' := [(2, .pointer (some ⟨g202, 0, none⟩)), (3, .pointer (some ⟨g203, 0, none⟩)), (4, .int .i64 8)]) [2, 3, 4] (by kernel_rfl) ?_
      refine NN.then ?_
      refine J.ret ?_
      refine NN.then_ret ?_
      refine NN.fin1 4 (.int .i64 8) (by kernel_rfl) (by kernel_rfl) (.inl rfl) (fun w hi => hi.ret ?_)
      first | (cases H; rfl) | (obtain rfl := Option.some.inj H; rfl) | (simp only [Option.some.injEq, Prod.mk.injEq] at H; obtain ⟨rfl⟩ := H; rfl)
  · rw [if_neg (nebf c204)] at H
    refine J.condT (b := !(a1_2.toList == a0_1.toList)) (by rw [show (!(a1_2.toList == a0_1.toList)) = !((a1_2.toList == a0_1.toList)) from rfl, c204]; rfl) (by kernel_rfl) (by kernel_rfl) ?_
    refine J.seq ?_
    refine J.plain ?_
    refine LL.op (.int .i64 24) (by kernel_rfl) (fun w _ => by kernel_rfl) ?_
    refine LL.done (s' := [(2, .pointer (some ⟨g202, 0, none⟩)), (3, .pointer (some ⟨g203, 0, none⟩)), (4, .int .i64 24)]) [2, 3, 4] (by kernel_rfl) ?_
    refine NN.then ?_
    refine J.ret ?_
    refine NN.then_ret ?_
    refine NN.fin1 4 (.int .i64 24) (by kernel_rfl) (by kernel_rfl) (.inl rfl) (fun w hi => hi.ret ?_)
    first | (cases H; rfl) | (obtain rfl := Option.some.inj H; rfl) | (simp only [Option.some.injEq, Prod.mk.injEq] at H; obtain ⟨rfl⟩ := H; rfl)

/-! ### sawmilltop_want: function 25 -/
def sawmilltop_want.f (a0 : Int) (a1 : Int) (a2 : Int) : Option (ByteArray × ByteArray × Int × Int × Int × Int × Int × Int × Int × Int × Int) := if a0 = 2 then (some ((⟨#[79, 48, 48, 48, 48, 48, 50, 74]⟩ : ByteArray), (⟨#[112, 105, 110, 101]⟩ : ByteArray), 0, 2000, a1, 2000, a2, 0, 0, 0, 100)) else (some ((⟨#[79, 48, 48, 48, 48, 48, 49, 67]⟩ : ByteArray), (⟨#[112, 105, 110, 101]⟩ : ByteArray), 0, 2000, a1, 2000, a2, 0, 0, 0, 100))
set_option maxRecDepth 100000 in
theorem sawmilltop_want.calls (a0 : Int) (a1 : Int) (a2 : Int)    (r1 : ByteArray) (r2 : ByteArray) (r3 : Int) (r4 : Int) (r5 : Int) (r6 : Int) (r7 : Int) (r8 : Int) (r9 : Int) (r10 : Int) (r11 : Int) (w : World)    (h : sawmilltop_want.f a0 a1 a2 = some (r1, r2, r3, r4, r5, r6, r7, r8, r9, r10, r11)) :
    Calls Try.prog 25 #[.int .u8 a0, .int .i64 a1, .int .i64 a2] w (Ret w (.agg #[.string r1, .string r2, .int .i64 r3, .int .i64 r4, .int .i64 r5, .int .i64 r6, .int .i64 r7, .int .i64 r8, .int .i64 r9, .int .i64 r10, .int .i64 r11])) := by
  have H := h
  clear h
  unfold sawmilltop_want.f at H
  refine Go.Saw.calls (args := [.int .u8 a0, .int .i64 a1, .int .i64 a2]) Try.func25 rfl Try.ntmps25 (by kernel_rfl) ?_
  refine J.seq ?_
  refine J.plain ?_
  refine LL.alloc 27 [.string (⟨#[]⟩ : ByteArray), .string (⟨#[]⟩ : ByteArray), .int .i64 0, .int .i64 0, .int .i64 0, .int .i64 0, .int .i64 0, .int .i64 0, .int .i64 0, .int .i64 0, .int .i64 0] (by kernel_rfl) rfl (by kernel_rfl) (fun g213 => ?_)
  refine LL.done (s' := [(0, .int .u8 a0), (1, .int .i64 a1), (2, .int .i64 a2), (6, .pointer (some ⟨g213, 0, none⟩))]) [0, 1, 2, 6] (by kernel_rfl) ?_
  refine NN.then ?_
  refine J.seq ?_
  refine J.plain ?_
  refine LL.op (.string (⟨#[79, 48, 48, 48, 48, 48, 49, 67]⟩ : ByteArray)) (by kernel_rfl) (fun w _ => by kernel_rfl) ?_
  refine LL.done (s' := [(0, .int .u8 a0), (1, .int .i64 a1), (2, .int .i64 a2), (6, .pointer (some ⟨g213, 0, none⟩)), (7, .string (⟨#[79, 48, 48, 48, 48, 48, 49, 67]⟩ : ByteArray))]) [0, 1, 2, 6, 7] (by kernel_rfl) ?_
  refine NN.then ?_
  refine J.seq ?_
  refine J.seq ?_
  refine J.plain ?_
  refine LL.op (.int .u8 a0) (by kernel_rfl) (fun w _ => by kernel_rfl) ?_
  refine LL.op (.bool (a0 == 2)) (by kernel_rfl) (fun w _ => by kernel_rfl) ?_
  refine LL.done (s' := [(1, .int .i64 a1), (2, .int .i64 a2), (6, .pointer (some ⟨g213, 0, none⟩)), (7, .string (⟨#[79, 48, 48, 48, 48, 48, 49, 67]⟩ : ByteArray)), (9, .bool (a0 == 2))]) [1, 2, 6, 7, 9] (by kernel_rfl) ?_
  refine NN.then ?_
  rcases Bool.eq_false_or_eq_true ((a0 == 2)) with c214 | c214
  · rw [if_pos (eq_of_beq c214)] at H
    refine J.condT (b := (a0 == 2)) c214 (by kernel_rfl) (by kernel_rfl) ?_
    refine J.plain ?_
    refine LL.op (.string (⟨#[79, 48, 48, 48, 48, 48, 50, 74]⟩ : ByteArray)) (by kernel_rfl) (fun w _ => by kernel_rfl) ?_
    refine LL.done (s' := [(1, .int .i64 a1), (2, .int .i64 a2), (6, .pointer (some ⟨g213, 0, none⟩)), (7, .string (⟨#[79, 48, 48, 48, 48, 48, 50, 74]⟩ : ByteArray))]) [1, 2, 6, 7] (by kernel_rfl) ?_
    refine NN.then ?_
    refine J.seq ?_
    refine J.plain ?_
    refine LL.op (.string (⟨#[79, 48, 48, 48, 48, 48, 50, 74]⟩ : ByteArray)) (by kernel_rfl) (fun w _ => by kernel_rfl) ?_
    refine LL.op (.int .i64 a1) (by kernel_rfl) (fun w _ => by kernel_rfl) ?_
    refine LL.op (.int .i64 a2) (by kernel_rfl) (fun w _ => by kernel_rfl) ?_
    refine LL.op (.agg #[.string (⟨#[79, 48, 48, 48, 48, 48, 50, 74]⟩ : ByteArray), .string (⟨#[112, 105, 110, 101]⟩ : ByteArray), .int .i64 0, .int .i64 2000, .int .i64 a1, .int .i64 2000, .int .i64 a2, .int .i64 0, .int .i64 0, .int .i64 0, .int .i64 100]) (by kernel_rfl) (fun w _ => by kernel_rfl) ?_
    refine LL.store 0 g213 0 27 (.tmp 6) (.tmp 13) [.string (⟨#[79, 48, 48, 48, 48, 48, 50, 74]⟩ : ByteArray), .string (⟨#[112, 105, 110, 101]⟩ : ByteArray), .int .i64 0, .int .i64 2000, .int .i64 a1, .int .i64 2000, .int .i64 a2, .int .i64 0, .int .i64 0, .int .i64 0, .int .i64 100] (bs' := [(g213, cl [.string (⟨#[79, 48, 48, 48, 48, 48, 50, 74]⟩ : ByteArray), .string (⟨#[112, 105, 110, 101]⟩ : ByteArray), .int .i64 0, .int .i64 2000, .int .i64 a1, .int .i64 2000, .int .i64 a2, .int .i64 0, .int .i64 0, .int .i64 0, .int .i64 100] 27)]) rfl (by kernel_rfl) rfl (by kernel_rfl) rfl (by kernel_rfl) ?_
    refine LL.done (s' := [(6, .pointer (some ⟨g213, 0, none⟩))]) [6] (by kernel_rfl) ?_
    refine NN.then ?_
    refine J.ret ?_
    refine NN.finV (.agg #[.string (⟨#[79, 48, 48, 48, 48, 48, 50, 74]⟩ : ByteArray), .string (⟨#[112, 105, 110, 101]⟩ : ByteArray), .int .i64 0, .int .i64 2000, .int .i64 a1, .int .i64 2000, .int .i64 a2, .int .i64 0, .int .i64 0, .int .i64 0, .int .i64 100]) (.inl rfl) ?_ (fun w hi => hi.ret ?_)
    · exact resOk_1 (by kernel_rfl) (.cell (d := 6) (t := 27) 0 g213 0 (by kernel_rfl) rfl (by kernel_rfl))
    first | (cases H; rfl) | (obtain rfl := Option.some.inj H; rfl) | (simp only [Option.some.injEq, Prod.mk.injEq] at H; obtain ⟨rfl, rfl, rfl, rfl, rfl, rfl, rfl, rfl, rfl, rfl, rfl⟩ := H; rfl)
  · rw [if_neg (nebf c214)] at H
    refine J.condF (b := (a0 == 2)) c214 (by kernel_rfl) (by kernel_rfl) ?_
    refine J.skip ?_
    refine NN.then ?_
    refine J.seq ?_
    refine J.plain ?_
    refine LL.op (.string (⟨#[79, 48, 48, 48, 48, 48, 49, 67]⟩ : ByteArray)) (by kernel_rfl) (fun w _ => by kernel_rfl) ?_
    refine LL.op (.int .i64 a1) (by kernel_rfl) (fun w _ => by kernel_rfl) ?_
    refine LL.op (.int .i64 a2) (by kernel_rfl) (fun w _ => by kernel_rfl) ?_
    refine LL.op (.agg #[.string (⟨#[79, 48, 48, 48, 48, 48, 49, 67]⟩ : ByteArray), .string (⟨#[112, 105, 110, 101]⟩ : ByteArray), .int .i64 0, .int .i64 2000, .int .i64 a1, .int .i64 2000, .int .i64 a2, .int .i64 0, .int .i64 0, .int .i64 0, .int .i64 100]) (by kernel_rfl) (fun w _ => by kernel_rfl) ?_
    refine LL.store 0 g213 0 27 (.tmp 6) (.tmp 13) [.string (⟨#[79, 48, 48, 48, 48, 48, 49, 67]⟩ : ByteArray), .string (⟨#[112, 105, 110, 101]⟩ : ByteArray), .int .i64 0, .int .i64 2000, .int .i64 a1, .int .i64 2000, .int .i64 a2, .int .i64 0, .int .i64 0, .int .i64 0, .int .i64 100] (bs' := [(g213, cl [.string (⟨#[79, 48, 48, 48, 48, 48, 49, 67]⟩ : ByteArray), .string (⟨#[112, 105, 110, 101]⟩ : ByteArray), .int .i64 0, .int .i64 2000, .int .i64 a1, .int .i64 2000, .int .i64 a2, .int .i64 0, .int .i64 0, .int .i64 0, .int .i64 100] 27)]) rfl (by kernel_rfl) rfl (by kernel_rfl) rfl (by kernel_rfl) ?_
    refine LL.done (s' := [(6, .pointer (some ⟨g213, 0, none⟩))]) [6] (by kernel_rfl) ?_
    refine NN.then ?_
    refine J.ret ?_
    refine NN.finV (.agg #[.string (⟨#[79, 48, 48, 48, 48, 48, 49, 67]⟩ : ByteArray), .string (⟨#[112, 105, 110, 101]⟩ : ByteArray), .int .i64 0, .int .i64 2000, .int .i64 a1, .int .i64 2000, .int .i64 a2, .int .i64 0, .int .i64 0, .int .i64 0, .int .i64 100]) (.inl rfl) ?_ (fun w hi => hi.ret ?_)
    · exact resOk_1 (by kernel_rfl) (.cell (d := 6) (t := 27) 0 g213 0 (by kernel_rfl) rfl (by kernel_rfl))
    first | (cases H; rfl) | (obtain rfl := Option.some.inj H; rfl) | (simp only [Option.some.injEq, Prod.mk.injEq] at H; obtain ⟨rfl, rfl, rfl, rfl, rfl, rfl, rfl, rfl, rfl, rfl, rfl⟩ := H; rfl)

/-! ### sawmilltop_green: function 41 -/
def sawmilltop_green.f (a0 : Int) : Option (ByteArray × ByteArray × ByteArray × Int × Int × Int × Int × Int × Int × Int × Int × OS × Int × Int × Int × Int × Bool × Int) := some ((⟨#[66, 48, 48, 48, 48, 48, 49, 77]⟩ : ByteArray), (⟨#[76, 48, 48, 48, 48, 48, 49, 87]⟩ : ByteArray), (⟨#[112, 105, 110, 101]⟩ : ByteArray), 0, 0, 105, 0, 42, 0, 2000, 8820000, ((none, 0, 0) : OS), 0, a0, a0, 0, false, 0)
set_option maxRecDepth 100000 in
theorem sawmilltop_green.calls (a0 : Int)    (r1 : ByteArray) (r2 : ByteArray) (r3 : ByteArray) (r4 : Int) (r5 : Int) (r6 : Int) (r7 : Int) (r8 : Int) (r9 : Int) (r10 : Int) (r11 : Int) (r12 : OS) (r13 : Int) (r14 : Int) (r15 : Int) (r16 : Int) (r17 : Bool) (r18 : Int) (w : World)    (h : sawmilltop_green.f a0 = some (r1, r2, r3, r4, r5, r6, r7, r8, r9, r10, r11, r12, r13, r14, r15, r16, r17, r18)) :
    Calls Try.prog 41 #[.int .i64 a0] w (Ret w (.agg #[.string r1, .string r2, .string r3, .int .i64 r4, .int .i64 r5, .int .i64 r6, .int .i64 r7, .int .i64 r8, .int .i64 r9, .int .i64 r10, .int .i64 r11, .slice r12.1 r12.2.1 r12.2.2, .int .i64 r13, .int .i64 r14, .int .i64 r15, .int .i64 r16, .bool r17, .int .i64 r18])) := by
  have H := h
  clear h
  unfold sawmilltop_green.f at H
  refine Go.Saw.calls (args := [.int .i64 a0]) Try.func41 rfl Try.ntmps41 (by kernel_rfl) ?_
  refine J.seq ?_
  refine J.plain ?_
  refine LL.alloc 37 [.string (⟨#[]⟩ : ByteArray), .string (⟨#[]⟩ : ByteArray), .string (⟨#[]⟩ : ByteArray), .int .i64 0, .int .i64 0, .int .i64 0, .int .i64 0, .int .i64 0, .int .i64 0, .int .i64 0, .int .i64 0, .slice none 0 0, .int .i64 0, .int .i64 0, .int .i64 0, .int .i64 0, .bool false, .int .i64 0] (by kernel_rfl) rfl (by kernel_rfl) (fun g215 => ?_)
  refine LL.done (s' := [(0, .int .i64 a0), (2, .pointer (some ⟨g215, 0, none⟩))]) [0, 2] (by kernel_rfl) ?_
  refine NN.then ?_
  refine J.seq ?_
  refine J.plain ?_
  refine LL.op (.agg #[.int .i64 0, .int .i64 105]) (by kernel_rfl) (fun w _ => by kernel_rfl) ?_
  refine LL.op (.agg #[.int .i64 0, .int .i64 42]) (by kernel_rfl) (fun w _ => by kernel_rfl) ?_
  refine LL.op (.agg #[.int .i64 0, .int .i64 2000]) (by kernel_rfl) (fun w _ => by kernel_rfl) ?_
  refine LL.op (.agg #[.int .i64 0, .int .i64 105, .int .i64 0, .int .i64 42, .int .i64 0, .int .i64 2000]) (by kernel_rfl) (fun w _ => by kernel_rfl) ?_
  refine LL.op (.int .i64 a0) (by kernel_rfl) (fun w _ => by kernel_rfl) ?_
  refine LL.op (.int .i64 a0) (by kernel_rfl) (fun w _ => by kernel_rfl) ?_
  refine LL.op (.agg #[.int .i64 a0, .int .i64 a0, .int .i64 0]) (by kernel_rfl) (fun w _ => by kernel_rfl) ?_
  refine LL.op (.agg #[.string (⟨#[66, 48, 48, 48, 48, 48, 49, 77]⟩ : ByteArray), .string (⟨#[76, 48, 48, 48, 48, 48, 49, 87]⟩ : ByteArray), .string (⟨#[112, 105, 110, 101]⟩ : ByteArray), .int .i64 0, .int .i64 0, .int .i64 105, .int .i64 0, .int .i64 42, .int .i64 0, .int .i64 2000, .int .i64 8820000, .slice none 0 0, .int .i64 0, .int .i64 a0, .int .i64 a0, .int .i64 0, .bool false, .int .i64 0]) (by kernel_rfl) (fun w _ => by kernel_rfl) ?_
  refine LL.store 0 g215 0 37 (.tmp 2) (.tmp 10) [.string (⟨#[66, 48, 48, 48, 48, 48, 49, 77]⟩ : ByteArray), .string (⟨#[76, 48, 48, 48, 48, 48, 49, 87]⟩ : ByteArray), .string (⟨#[112, 105, 110, 101]⟩ : ByteArray), .int .i64 0, .int .i64 0, .int .i64 105, .int .i64 0, .int .i64 42, .int .i64 0, .int .i64 2000, .int .i64 8820000, .slice none 0 0, .int .i64 0, .int .i64 a0, .int .i64 a0, .int .i64 0, .bool false, .int .i64 0] (bs' := [(g215, cl [.string (⟨#[66, 48, 48, 48, 48, 48, 49, 77]⟩ : ByteArray), .string (⟨#[76, 48, 48, 48, 48, 48, 49, 87]⟩ : ByteArray), .string (⟨#[112, 105, 110, 101]⟩ : ByteArray), .int .i64 0, .int .i64 0, .int .i64 105, .int .i64 0, .int .i64 42, .int .i64 0, .int .i64 2000, .int .i64 8820000, .slice none 0 0, .int .i64 0, .int .i64 a0, .int .i64 a0, .int .i64 0, .bool false, .int .i64 0] 37)]) rfl (by kernel_rfl) rfl (by kernel_rfl) rfl (by kernel_rfl) ?_
  refine LL.done (s' := [(2, .pointer (some ⟨g215, 0, none⟩))]) [2] (by kernel_rfl) ?_
  refine NN.then ?_
  refine J.ret ?_
  refine NN.finV (.agg #[.string (⟨#[66, 48, 48, 48, 48, 48, 49, 77]⟩ : ByteArray), .string (⟨#[76, 48, 48, 48, 48, 48, 49, 87]⟩ : ByteArray), .string (⟨#[112, 105, 110, 101]⟩ : ByteArray), .int .i64 0, .int .i64 0, .int .i64 105, .int .i64 0, .int .i64 42, .int .i64 0, .int .i64 2000, .int .i64 8820000, .slice none 0 0, .int .i64 0, .int .i64 a0, .int .i64 a0, .int .i64 0, .bool false, .int .i64 0]) (.inl rfl) ?_ (fun w hi => hi.ret ?_)
  · exact resOk_1 (by kernel_rfl) (.cell (d := 2) (t := 37) 0 g215 0 (by kernel_rfl) rfl (by kernel_rfl))
  first | (cases H; rfl) | (obtain rfl := Option.some.inj H; rfl) | (simp only [Option.some.injEq, Prod.mk.injEq] at H; obtain ⟨rfl, rfl, rfl, rfl, rfl, rfl, rfl, rfl, rfl, rfl, rfl, rfl, rfl, rfl, rfl, rfl, rfl, rfl⟩ := H; rfl)

/-! ### sawmilltop_stored: function 26 -/
def sawmilltop_stored.f (a0 : Int) : Option (ByteArray × ByteArray × ByteArray × Int × Int × Int × Int × Int × Int × Int × Int × OS × Int × Int × Int × Int × Bool × Int) := (sawmilltop_green.f 1500).bind fun bx217 => (some (bx217.1, bx217.2.1, bx217.2.2.1, bx217.2.2.2.1, bx217.2.2.2.2.1, bx217.2.2.2.2.2.1, bx217.2.2.2.2.2.2.1, bx217.2.2.2.2.2.2.2.1, bx217.2.2.2.2.2.2.2.2.1, bx217.2.2.2.2.2.2.2.2.2.1, bx217.2.2.2.2.2.2.2.2.2.2.1, bx217.2.2.2.2.2.2.2.2.2.2.2.1, bx217.2.2.2.2.2.2.2.2.2.2.2.2.1, bx217.2.2.2.2.2.2.2.2.2.2.2.2.2.1, bx217.2.2.2.2.2.2.2.2.2.2.2.2.2.2.1, bx217.2.2.2.2.2.2.2.2.2.2.2.2.2.2.2.1, true, a0))
set_option maxRecDepth 100000 in
theorem sawmilltop_stored.calls (a0 : Int)    (r1 : ByteArray) (r2 : ByteArray) (r3 : ByteArray) (r4 : Int) (r5 : Int) (r6 : Int) (r7 : Int) (r8 : Int) (r9 : Int) (r10 : Int) (r11 : Int) (r12 : OS) (r13 : Int) (r14 : Int) (r15 : Int) (r16 : Int) (r17 : Bool) (r18 : Int) (w : World)    (h : sawmilltop_stored.f a0 = some (r1, r2, r3, r4, r5, r6, r7, r8, r9, r10, r11, r12, r13, r14, r15, r16, r17, r18)) :
    Calls Try.prog 26 #[.int .i64 a0] w (Ret w (.agg #[.string r1, .string r2, .string r3, .int .i64 r4, .int .i64 r5, .int .i64 r6, .int .i64 r7, .int .i64 r8, .int .i64 r9, .int .i64 r10, .int .i64 r11, .slice r12.1 r12.2.1 r12.2.2, .int .i64 r13, .int .i64 r14, .int .i64 r15, .int .i64 r16, .bool r17, .int .i64 r18])) := by
  have H := h
  clear h
  unfold sawmilltop_stored.f at H
  refine Go.Saw.calls (args := [.int .i64 a0]) Try.func26 rfl Try.ntmps26 (by kernel_rfl) ?_
  refine J.seq ?_
  refine J.plain ?_
  refine LL.alloc 37 [.string (⟨#[]⟩ : ByteArray), .string (⟨#[]⟩ : ByteArray), .string (⟨#[]⟩ : ByteArray), .int .i64 0, .int .i64 0, .int .i64 0, .int .i64 0, .int .i64 0, .int .i64 0, .int .i64 0, .int .i64 0, .slice none 0 0, .int .i64 0, .int .i64 0, .int .i64 0, .int .i64 0, .bool false, .int .i64 0] (by kernel_rfl) rfl (by kernel_rfl) (fun g216 => ?_)
  refine LL.done (s' := [(0, .int .i64 a0), (2, .pointer (some ⟨g216, 0, none⟩))]) [0, 2] (by kernel_rfl) ?_
  refine NN.then ?_
  refine J.seq ?_
  refine J.plain ?_
  obtain ⟨⟨x217_1, x217_2, x217_3, x217_4, x217_5, x217_6, x217_7, x217_8, x217_9, x217_10, x217_11, x217_12, x217_13, x217_14, x217_15, x217_16, x217_17, x217_18⟩, hx217, H⟩ := bind_some H
  (try dsimp only at H)
  refine LL.call 41 #[.int .i64 1500] (.agg #[.string x217_1, .string x217_2, .string x217_3, .int .i64 x217_4, .int .i64 x217_5, .int .i64 x217_6, .int .i64 x217_7, .int .i64 x217_8, .int .i64 x217_9, .int .i64 x217_10, .int .i64 x217_11, .slice x217_12.1 x217_12.2.1 x217_12.2.2, .int .i64 x217_13, .int .i64 x217_14, .int .i64 x217_15, .int .i64 x217_16, .bool x217_17, .int .i64 x217_18]) (by kernel_rfl) (fun w => by kernel_rfl) (fun w hw => sawmilltop_green.calls 1500   _ _ _ _ _ _ _ _ _ _ _ _ _ _ _ _ _ _ w   hx217) ?_
  refine LL.alloc 37 [.string (⟨#[]⟩ : ByteArray), .string (⟨#[]⟩ : ByteArray), .string (⟨#[]⟩ : ByteArray), .int .i64 0, .int .i64 0, .int .i64 0, .int .i64 0, .int .i64 0, .int .i64 0, .int .i64 0, .int .i64 0, .slice none 0 0, .int .i64 0, .int .i64 0, .int .i64 0, .int .i64 0, .bool false, .int .i64 0] (by kernel_rfl) rfl (by kernel_rfl) (fun g218 => ?_)
  refine LL.store 0 g218 0 37 (.tmp 3) (.tmp 4) [.string x217_1, .string x217_2, .string x217_3, .int .i64 x217_4, .int .i64 x217_5, .int .i64 x217_6, .int .i64 x217_7, .int .i64 x217_8, .int .i64 x217_9, .int .i64 x217_10, .int .i64 x217_11, .slice x217_12.1 x217_12.2.1 x217_12.2.2, .int .i64 x217_13, .int .i64 x217_14, .int .i64 x217_15, .int .i64 x217_16, .bool x217_17, .int .i64 x217_18] (bs' := [(g218, cl [.string x217_1, .string x217_2, .string x217_3, .int .i64 x217_4, .int .i64 x217_5, .int .i64 x217_6, .int .i64 x217_7, .int .i64 x217_8, .int .i64 x217_9, .int .i64 x217_10, .int .i64 x217_11, .slice x217_12.1 x217_12.2.1 x217_12.2.2, .int .i64 x217_13, .int .i64 x217_14, .int .i64 x217_15, .int .i64 x217_16, .bool x217_17, .int .i64 x217_18] 37), (g216, cl [.string (⟨#[]⟩ : ByteArray), .string (⟨#[]⟩ : ByteArray), .string (⟨#[]⟩ : ByteArray), .int .i64 0, .int .i64 0, .int .i64 0, .int .i64 0, .int .i64 0, .int .i64 0, .int .i64 0, .int .i64 0, .slice none 0 0, .int .i64 0, .int .i64 0, .int .i64 0, .int .i64 0, .bool false, .int .i64 0] 37)]) rfl (by kernel_rfl) rfl (by kernel_rfl) rfl (by kernel_rfl) ?_
  refine LL.done (s' := [(0, .int .i64 a0), (2, .pointer (some ⟨g216, 0, none⟩)), (3, .pointer (some ⟨g218, 0, none⟩))]) [0, 2, 3] (by kernel_rfl) ?_
  refine NN.then ?_
  refine J.seq ?_
  refine J.plain ?_
  refine LL.op (.pointer (some ⟨g218, 16, none⟩)) (by kernel_rfl) (fun w _ => by kernel_rfl) ?_
  refine LL.store 0 g218 16 4 (.tmp 5) (.const (.bool true)) [.string x217_1, .string x217_2, .string x217_3, .int .i64 x217_4, .int .i64 x217_5, .int .i64 x217_6, .int .i64 x217_7, .int .i64 x217_8, .int .i64 x217_9, .int .i64 x217_10, .int .i64 x217_11, .slice x217_12.1 x217_12.2.1 x217_12.2.2, .int .i64 x217_13, .int .i64 x217_14, .int .i64 x217_15, .int .i64 x217_16, .bool true, .int .i64 x217_18] (bs' := [(g218, cl [.string x217_1, .string x217_2, .string x217_3, .int .i64 x217_4, .int .i64 x217_5, .int .i64 x217_6, .int .i64 x217_7, .int .i64 x217_8, .int .i64 x217_9, .int .i64 x217_10, .int .i64 x217_11, .slice x217_12.1 x217_12.2.1 x217_12.2.2, .int .i64 x217_13, .int .i64 x217_14, .int .i64 x217_15, .int .i64 x217_16, .bool true, .int .i64 x217_18] 37), (g216, cl [.string (⟨#[]⟩ : ByteArray), .string (⟨#[]⟩ : ByteArray), .string (⟨#[]⟩ : ByteArray), .int .i64 0, .int .i64 0, .int .i64 0, .int .i64 0, .int .i64 0, .int .i64 0, .int .i64 0, .int .i64 0, .slice none 0 0, .int .i64 0, .int .i64 0, .int .i64 0, .int .i64 0, .bool false, .int .i64 0] 37)]) rfl (by kernel_rfl) rfl (by kernel_rfl) rfl (by kernel_rfl) ?_
  refine LL.done (s' := [(0, .int .i64 a0), (2, .pointer (some ⟨g216, 0, none⟩)), (3, .pointer (some ⟨g218, 0, none⟩))]) [0, 2, 3] (by kernel_rfl) ?_
  refine NN.then ?_
  refine J.seq ?_
  refine J.plain ?_
  refine LL.op (.int .i64 a0) (by kernel_rfl) (fun w _ => by kernel_rfl) ?_
  refine LL.op (.pointer (some ⟨g218, 17, none⟩)) (by kernel_rfl) (fun w _ => by kernel_rfl) ?_
  refine LL.store 0 g218 17 3 (.tmp 7) (.tmp 6) [.string x217_1, .string x217_2, .string x217_3, .int .i64 x217_4, .int .i64 x217_5, .int .i64 x217_6, .int .i64 x217_7, .int .i64 x217_8, .int .i64 x217_9, .int .i64 x217_10, .int .i64 x217_11, .slice x217_12.1 x217_12.2.1 x217_12.2.2, .int .i64 x217_13, .int .i64 x217_14, .int .i64 x217_15, .int .i64 x217_16, .bool true, .int .i64 a0] (bs' := [(g218, cl [.string x217_1, .string x217_2, .string x217_3, .int .i64 x217_4, .int .i64 x217_5, .int .i64 x217_6, .int .i64 x217_7, .int .i64 x217_8, .int .i64 x217_9, .int .i64 x217_10, .int .i64 x217_11, .slice x217_12.1 x217_12.2.1 x217_12.2.2, .int .i64 x217_13, .int .i64 x217_14, .int .i64 x217_15, .int .i64 x217_16, .bool true, .int .i64 a0] 37), (g216, cl [.string (⟨#[]⟩ : ByteArray), .string (⟨#[]⟩ : ByteArray), .string (⟨#[]⟩ : ByteArray), .int .i64 0, .int .i64 0, .int .i64 0, .int .i64 0, .int .i64 0, .int .i64 0, .int .i64 0, .int .i64 0, .slice none 0 0, .int .i64 0, .int .i64 0, .int .i64 0, .int .i64 0, .bool false, .int .i64 0] 37)]) rfl (by kernel_rfl) rfl (by kernel_rfl) rfl (by kernel_rfl) ?_
  refine LL.done (s' := [(2, .pointer (some ⟨g216, 0, none⟩)), (3, .pointer (some ⟨g218, 0, none⟩))]) [2, 3] (by kernel_rfl) ?_
  refine NN.then ?_
  refine J.seq ?_
  refine J.plain ?_
  refine LL.op (.agg #[.string x217_1, .string x217_2, .string x217_3, .int .i64 x217_4, .int .i64 x217_5, .int .i64 x217_6, .int .i64 x217_7, .int .i64 x217_8, .int .i64 x217_9, .int .i64 x217_10, .int .i64 x217_11, .slice x217_12.1 x217_12.2.1 x217_12.2.2, .int .i64 x217_13, .int .i64 x217_14, .int .i64 x217_15, .int .i64 x217_16, .bool true, .int .i64 a0]) (by kernel_rfl) (ld 0 g218 0 rfl (by kernel_rfl) rfl (by kernel_rfl)) ?_
  refine LL.store 1 g216 0 37 (.tmp 2) (.tmp 8) [.string x217_1, .string x217_2, .string x217_3, .int .i64 x217_4, .int .i64 x217_5, .int .i64 x217_6, .int .i64 x217_7, .int .i64 x217_8, .int .i64 x217_9, .int .i64 x217_10, .int .i64 x217_11, .slice x217_12.1 x217_12.2.1 x217_12.2.2, .int .i64 x217_13, .int .i64 x217_14, .int .i64 x217_15, .int .i64 x217_16, .bool true, .int .i64 a0] (bs' := [(g218, cl [.string x217_1, .string x217_2, .string x217_3, .int .i64 x217_4, .int .i64 x217_5, .int .i64 x217_6, .int .i64 x217_7, .int .i64 x217_8, .int .i64 x217_9, .int .i64 x217_10, .int .i64 x217_11, .slice x217_12.1 x217_12.2.1 x217_12.2.2, .int .i64 x217_13, .int .i64 x217_14, .int .i64 x217_15, .int .i64 x217_16, .bool true, .int .i64 a0] 37), (g216, cl [.string x217_1, .string x217_2, .string x217_3, .int .i64 x217_4, .int .i64 x217_5, .int .i64 x217_6, .int .i64 x217_7, .int .i64 x217_8, .int .i64 x217_9, .int .i64 x217_10, .int .i64 x217_11, .slice x217_12.1 x217_12.2.1 x217_12.2.2, .int .i64 x217_13, .int .i64 x217_14, .int .i64 x217_15, .int .i64 x217_16, .bool true, .int .i64 a0] 37)]) rfl (by kernel_rfl) rfl (by kernel_rfl) rfl (by kernel_rfl) ?_
  refine LL.done (s' := [(2, .pointer (some ⟨g216, 0, none⟩))]) [2] (by kernel_rfl) ?_
  refine NN.then ?_
  refine J.ret ?_
  refine NN.finV (.agg #[.string x217_1, .string x217_2, .string x217_3, .int .i64 x217_4, .int .i64 x217_5, .int .i64 x217_6, .int .i64 x217_7, .int .i64 x217_8, .int .i64 x217_9, .int .i64 x217_10, .int .i64 x217_11, .slice x217_12.1 x217_12.2.1 x217_12.2.2, .int .i64 x217_13, .int .i64 x217_14, .int .i64 x217_15, .int .i64 x217_16, .bool true, .int .i64 a0]) (.inl rfl) ?_ (fun w hi => hi.ret ?_)
  · exact resOk_1 (by kernel_rfl) (.cell (d := 2) (t := 37) 1 g216 0 (by kernel_rfl) rfl (by kernel_rfl))
  first | (cases H; rfl) | (obtain rfl := Option.some.inj H; rfl) | (simp only [Option.some.injEq, Prod.mk.injEq] at H; obtain ⟨rfl, rfl, rfl, rfl, rfl, rfl, rfl, rfl, rfl, rfl, rfl, rfl, rfl, rfl, rfl, rfl, rfl, rfl⟩ := H; rfl)

end Go.Proofs.Ytbogdbbmmlaohaa
