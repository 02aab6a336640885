/- Walks of functions of the seat: each call does what the Lean function of the same name says. Printed by the session's own program absgen.py. -/
import Derived.Test.YtfjbhmpnmpphoaaE
namespace Go.Proofs.Ytfjbhmpnmpphoaa
open Go.Saw
set_option linter.unusedVariables false
set_option linter.unusedSimpArgs false

theorem follows : Try.prog.follows .mixedOrders = true := by kernel_rfl

/-! ### defect_Worst_1: function 71 -/
def defect_Worst_1.f (a0_0 : Int) (a0_1 : Int) (a0_2 : Int) (a0_3 : Int) (a0_4 : Int) (a0_5 : Int) (a0_6 : Int) : Option (Bool) := if a0_0 = 1 then (some true) else (some (a0_0 == 2))
set_option maxRecDepth 100000 in
theorem defect_Worst_1.calls (a0_0 : Int) (a0_1 : Int) (a0_2 : Int) (a0_3 : Int) (a0_4 : Int) (a0_5 : Int) (a0_6 : Int)    (r1 : Bool) (w : World)    (h : defect_Worst_1.f a0_0 a0_1 a0_2 a0_3 a0_4 a0_5 a0_6 = some r1) :
    Calls Try.prog 71 #[.agg #[.int .i64 a0_0, .int .i64 a0_1, .int .i64 a0_2, .int .i64 a0_3, .int .i64 a0_4, .int .i64 a0_5, .int .i64 a0_6]] w (Ret w (.bool r1)) := by
  have H := h
  clear h
  unfold defect_Worst_1.f at H
  refine Go.Saw.calls (args := [.agg #[.int .i64 a0_0, .int .i64 a0_1, .int .i64 a0_2, .int .i64 a0_3, .int .i64 a0_4, .int .i64 a0_5, .int .i64 a0_6]]) Try.func71 rfl Try.ntmps71 (by kernel_rfl) ?_
  refine J.seq ?_
  refine J.plain ?_
  refine LL.box 41 (.tmp 0) [.int .i64 a0_0, .int .i64 a0_1, .int .i64 a0_2, .int .i64 a0_3, .int .i64 a0_4, .int .i64 a0_5, .int .i64 a0_6] (by kernel_rfl) rfl (by kernel_rfl) (fun g1 => ?_)
  refine LL.op (.bool false) (by kernel_rfl) (fun w _ => by kernel_rfl) ?_
  refine LL.done (s' := [(1, .pointer (some ⟨g1, 0, none⟩)), (2, .bool false)]) [1, 2] (by kernel_rfl) ?_
  refine NN.then ?_
  refine J.seq ?_
  refine J.plain ?_
  refine LL.op (.pointer (some ⟨g1, 0, none⟩)) (by kernel_rfl) (fun w _ => by kernel_rfl) ?_
  refine LL.op (.int .i64 a0_0) (by kernel_rfl) (ld 0 g1 0 rfl (by kernel_rfl) rfl (by kernel_rfl)) ?_
  refine LL.op (.bool (a0_0 == 1)) (by kernel_rfl) (fun w _ => by kernel_rfl) ?_
  refine LL.op (.bool (a0_0 == 1)) (by kernel_rfl) (fun w _ => by kernel_rfl) ?_
  rcases Bool.eq_false_or_eq_true ((a0_0 == 1)) with c2 | c2
  · rw [if_pos (eq_of_beq c2)] at H
    refine LL.bool 6 ((a0_0 == 1)) true c2 (by kernel_rfl) ?_
    refine LL.off (by kernel_rfl) (by kernel_rfl) ?_
    refine LL.off (by kernel_rfl) (by kernel_rfl) ?_
    refine LL.off (by kernel_rfl) (by kernel_rfl) ?_
    refine LL.op (.bool true) (by kernel_rfl) (fun w _ => by kernel_rfl) ?_
    refine LL.op (.bool true) (by kernel_rfl) (fun w _ => by kernel_rfl) ?_
    refine LL.done (s' := [(2, .bool true)]) [2] (by kernel_rfl) ?_
    refine NN.then ?_
    refine J.ret ?_
    refine NN.fin1 2 (.bool true) (by kernel_rfl) (by kernel_rfl) (.inl rfl) (fun w hi => hi.ret ?_)
    first | (cases H; rfl) | (obtain rfl := Option.some.inj H; rfl) | (simp only [Option.some.injEq, Prod.mk.injEq] at H; obtain ⟨rfl⟩ := H; rfl)
  · rw [if_neg (nebf c2)] at H
    refine LL.bool 6 ((a0_0 == 1)) false c2 (by kernel_rfl) ?_
    refine LL.op (.pointer (some ⟨g1, 0, none⟩)) (by kernel_rfl) (fun w _ => by kernel_rfl) ?_
    refine LL.op (.int .i64 a0_0) (by kernel_rfl) (ld 0 g1 0 rfl (by kernel_rfl) rfl (by kernel_rfl)) ?_
    refine LL.op (.bool (a0_0 == 2)) (by kernel_rfl) (fun w _ => by kernel_rfl) ?_
    refine LL.op (.bool (a0_0 == 2)) (by kernel_rfl) (fun w _ => by kernel_rfl) ?_
    refine LL.op (.bool (a0_0 == 2)) (by kernel_rfl) (fun w _ => by kernel_rfl) ?_
    refine LL.done (s' := [(2, .bool (a0_0 == 2))]) [2] (by kernel_rfl) ?_
    refine NN.then ?_
    refine J.ret ?_
    refine NN.fin1 2 (.bool (a0_0 == 2)) (by kernel_rfl) (by kernel_rfl) (.inl rfl) (fun w hi => hi.ret ?_)
    first | (cases H; rfl) | (obtain rfl := Option.some.inj H; rfl) | (simp only [Option.some.injEq, Prod.mk.injEq] at H; obtain ⟨rfl⟩ := H; rfl)

/-! ### slices_IndexFunc: function 87 -/
def slices_IndexFunc.l0 (K : Nat) (a0 : List E41) (qa1 : E41 → Bool) : Nat → Int → Option (Int)
  | 0, _ => none
  | k + 1, x8l0 => if x8l0 < (a0.length : Int) then ((idx a0 x8l0).bind fun be5 => (if (qa1 (be5.1, be5.2.1, be5.2.2.1, be5.2.2.2.1, be5.2.2.2.2.1, be5.2.2.2.2.2.1, be5.2.2.2.2.2.2)) = true then (some x8l0) else (slices_IndexFunc.l0 K a0 qa1 k (IntKind.i64.wrap (x8l0 + 1))))) else (some (-1))
def slices_IndexFunc.f (K : Nat) (a0 : List E41) (qa1 : E41 → Bool) : Option (Int) := slices_IndexFunc.l0 K a0 qa1 K 0
set_option maxRecDepth 100000 in
theorem slices_IndexFunc.calls (K : Nat) (a0 : List E41) (qa1 : E41 → Bool)  (Aa0 : Option Addr) (ca0 : Nat) (fa1 : FuncId) (pa1 : Array Value) (r1 : Int) (w : World) (ha1 : PredAt Try.prog (Cx.start w) enc41 qa1 fa1 pa1)  (ha0 : KRow (Cx.start w) enc41 7 a0 Aa0) (h : slices_IndexFunc.f K a0 qa1 = some r1) :
    Calls Try.prog 87 #[.slice Aa0 a0.length ca0, .func (.func fa1) #[] pa1] w (Ret w (.int .i64 r1)) := by
  have H := h
  clear h
  unfold slices_IndexFunc.f at H
  refine Go.Saw.calls (args := [.slice Aa0 a0.length ca0, .func (.func fa1) #[] pa1]) Try.func87 rfl Try.ntmps87 (by kernel_rfl) ?_
  refine J.seq ?_
  refine J.plain ?_
  refine LL.op (.int .i64 0) (by kernel_rfl) (fun w _ => by kernel_rfl) ?_
  refine LL.done (s' := [(0, .slice Aa0 a0.length ca0), (1, .func (.func fa1) #[] pa1), (4, .int .i64 0)]) [0, 1, 4] (by kernel_rfl) ?_
  refine NN.then ?_
  refine J.seq ?_
  refine J.seq ?_
  refine J.plain ?_
  refine LL.op (.slice Aa0 a0.length ca0) (by kernel_rfl) (fun w _ => by kernel_rfl) ?_
  refine LL.op (.int .i64 (a0.length : Int)) (by kernel_rfl) (fun w _ => by kernel_rfl) ?_
  refine LL.op (.int .i64 0) (by kernel_rfl) (fun w _ => by kernel_rfl) ?_
  refine LL.done (s' := [(0, .slice Aa0 a0.length ca0), (1, .func (.func fa1) #[] pa1), (4, .int .i64 0), (7, .int .i64 (a0.length : Int)), (8, .int .i64 0)]) [0, 1, 4, 7, 8] (by kernel_rfl) ?_
  refine NN.then ?_
  refine J.block ?_
  refine J.to [0, 1, 4, 7, 8] (s' := [(0, .slice Aa0 a0.length ca0), (1, .func (.func fa1) #[] pa1), (4, .int .i64 0), (7, .int .i64 (a0.length : Int)), (8, .int .i64 0)]) (by kernel_rfl) ?_
  refine J.loop (fun n_ s_ bs_ => ∃ (x8l0 : Int), slices_IndexFunc.l0 K a0 qa1 n_ x8l0 = some r1 ∧ s_ = [(0, .slice Aa0 a0.length ca0), (1, .func (.func fa1) #[] pa1), (4, .int .i64 0), (7, .int .i64 (a0.length : Int)), (8, .int .i64 x8l0)] ∧ [] = bs_) K ⟨0, H, rfl, rfl⟩ ?_
  rintro (_ | n_) s_ bs_ ⟨x8l0, H, rfl, rfl⟩
  · exact absurd H (by simp [slices_IndexFunc.l0])
  simp only [slices_IndexFunc.l0] at H
  refine J.seq ?_
  refine J.plain ?_
  refine LL.op (.bool (decide (x8l0 < (a0.length : Int)))) (by kernel_rfl) (fun w _ => by kernel_rfl) ?_
  refine LL.done (s' := [(0, .slice Aa0 a0.length ca0), (1, .func (.func fa1) #[] pa1), (4, .int .i64 0), (7, .int .i64 (a0.length : Int)), (8, .int .i64 x8l0), (9, .bool (decide (x8l0 < (a0.length : Int))))]) [0, 1, 4, 7, 8, 9] (by kernel_rfl) ?_
  refine NN.then ?_
  refine J.seq ?_
  rcases Bool.eq_false_or_eq_true (decide (x8l0 < (a0.length : Int))) with c4 | c4
  · rw [if_pos (of_decide_eq_true c4)] at H
    refine J.condT (b := decide (x8l0 < (a0.length : Int))) c4 (by kernel_rfl) (by kernel_rfl) ?_
    refine J.skip ?_
    refine NN.then ?_
    refine J.seq ?_
    refine J.block ?_
    refine J.seq ?_
    refine J.plain ?_
    refine LL.op (.int .i64 x8l0) (by kernel_rfl) (fun w _ => by kernel_rfl) ?_
    refine LL.op (.int .i64 x8l0) (by kernel_rfl) (fun w _ => by kernel_rfl) ?_
    refine LL.done (s' := [(0, .slice Aa0 a0.length ca0), (1, .func (.func fa1) #[] pa1), (4, .int .i64 0), (5, .int .i64 x8l0), (7, .int .i64 (a0.length : Int)), (8, .int .i64 x8l0)]) [0, 1, 4, 5, 7, 8] (by kernel_rfl) ?_
    refine NN.then ?_
    refine J.seq ?_
    refine J.plain ?_
    refine LL.op (.func (.func fa1) #[] pa1) (by kernel_rfl) (fun w _ => by kernel_rfl) ?_
    refine LL.op (.slice Aa0 a0.length ca0) (by kernel_rfl) (fun w _ => by kernel_rfl) ?_
    refine LL.op (.int .i64 x8l0) (by kernel_rfl) (fun w _ => by kernel_rfl) ?_
    obtain ⟨⟨e5_1, e5_2, e5_3, e5_4, e5_5, e5_6, e5_7⟩, he5, H⟩ := bind_some H
    (try dsimp only at H)
    refine LL.op (.pointer (rp Aa0 (x8l0.toNat * 7 + 0))) (by kernel_rfl) (idxR (cp := ca0) (ik := .i64) ha0 he5 rfl (by kernel_rfl) (by kernel_rfl) (by kernel_rfl)) ?_
    refine LL.op (.agg #[.int .i64 e5_1, .int .i64 e5_2, .int .i64 e5_3, .int .i64 e5_4, .int .i64 e5_5, .int .i64 e5_6, .int .i64 e5_7]) (by kernel_rfl) (ldR (off := 0) ha0 he5 rfl (by kernel_rfl) (by kernel_rfl)) ?_
    refine LL.call fa1 (#[.agg (enc41 (e5_1, e5_2, e5_3, e5_4, e5_5, e5_6, e5_7)).toArray] ++ pa1) (.bool (qa1 (e5_1, e5_2, e5_3, e5_4, e5_5, e5_6, e5_7))) (by kernel_rfl) (run_pred ha1 rfl (by kernel_rfl) (by kernel_rfl)) (fun w hw => by have h_ := (ha1).run w hw.keep (e5_1, e5_2, e5_3, e5_4, e5_5, e5_6, e5_7); exact h_) ?_
    refine LL.done (s' := [(0, .slice Aa0 a0.length ca0), (1, .func (.func fa1) #[] pa1), (4, .int .i64 0), (5, .int .i64 x8l0), (7, .int .i64 (a0.length : Int)), (8, .int .i64 x8l0), (16, .bool (qa1 (e5_1, e5_2, e5_3, e5_4, e5_5, e5_6, e5_7)))]) [0, 1, 4, 5, 7, 8, 16] (by kernel_rfl) ?_
    refine NN.then ?_
    rcases Bool.eq_false_or_eq_true ((qa1 (e5_1, e5_2, e5_3, e5_4, e5_5, e5_6, e5_7))) with c6 | c6
    · rw [if_pos (c6)] at H
      refine J.condT (b := (qa1 (e5_1, e5_2, e5_3, e5_4, e5_5, e5_6, e5_7))) c6 (by kernel_rfl) (by kernel_rfl) ?_
      refine J.seq ?_
      refine J.plain ?_
      refine LL.op (.int .i64 x8l0) (by kernel_rfl) (fun w _ => by kernel_rfl) ?_
      refine LL.op (.int .i64 x8l0) (by kernel_rfl) (fun w _ => by kernel_rfl) ?_
      refine LL.done (s' := [(0, .slice Aa0 a0.length ca0), (1, .func (.func fa1) #[] pa1), (4, .int .i64 x8l0), (7, .int .i64 (a0.length : Int)), (8, .int .i64 x8l0)]) [0, 1, 4, 7, 8] (by kernel_rfl) ?_
      refine NN.then ?_
      refine J.ret ?_
      refine NN.block_ret ?_
      refine NN.then_ret ?_
      refine NN.then_ret ?_
      refine NN.block_ret ?_
      refine NN.then_ret ?_
      refine NN.fin1 4 (.int .i64 x8l0) (by kernel_rfl) (by kernel_rfl) (.inl rfl) (fun w hi => hi.ret ?_)
      first | (cases H; rfl) | (obtain rfl := Option.some.inj H; rfl) | (simp only [Option.some.injEq, Prod.mk.injEq] at H; obtain ⟨rfl⟩ := H; rfl)
    · rw [if_neg (nebt c6)] at H
      refine J.condF (b := (qa1 (e5_1, e5_2, e5_3, e5_4, e5_5, e5_6, e5_7))) c6 (by kernel_rfl) (by kernel_rfl) ?_
      refine J.skip ?_
      refine NN.block_n ?_
      refine NN.then ?_
      refine J.plain ?_
      refine LL.op (.int .i64 (IntKind.i64.wrap (x8l0 + 1))) (by kernel_rfl) (fun w _ => by kernel_rfl) ?_
      refine LL.op (.int .i64 (IntKind.i64.wrap (x8l0 + 1))) (by kernel_rfl) (fun w _ => by kernel_rfl) ?_
      refine LL.done (s' := [(0, .slice Aa0 a0.length ca0), (1, .func (.func fa1) #[] pa1), (4, .int .i64 0), (7, .int .i64 (a0.length : Int)), (8, .int .i64 (IntKind.i64.wrap (x8l0 + 1)))]) [0, 1, 4, 7, 8] (by kernel_rfl) ?_
      exact NN.round' [0, 1, 4, 7, 8] (bs' := []) (Nat.lt_succ_self _) (List.Sublist.refl _) (by kernel_rfl) ⟨IntKind.i64.wrap (x8l0 + 1), H, rfl, rfl⟩
  · rw [if_neg (of_decide_eq_false c4)] at H
    refine J.condF (b := decide (x8l0 < (a0.length : Int))) c4 (by kernel_rfl) (by kernel_rfl) ?_
    refine J.exit ?_
    refine NN.then_exit ?_
    refine NN.then_exit ?_
    refine NN.block_same ?_
    refine NN.then ?_
    refine J.seq ?_
    refine J.plain ?_
    refine LL.op (.int .i64 (-1)) (by kernel_rfl) (fun w _ => by kernel_rfl) ?_
    refine LL.done (s' := [(4, .int .i64 (-1))]) [4] (by kernel_rfl) ?_
    refine NN.then ?_
    refine J.ret ?_
    refine NN.fin1 4 (.int .i64 (-1)) (by kernel_rfl) (by kernel_rfl) (.inl rfl) (fun w hi => hi.ret ?_)
    first | (cases H; rfl) | (obtain rfl := Option.some.inj H; rfl) | (simp only [Option.some.injEq, Prod.mk.injEq] at H; obtain ⟨rfl⟩ := H; rfl)

/-! ### defect_ofKind_1: function 84 -/
def defect_ofKind_1.f (a0_0 : Int) (a0_1 : Int) (a0_2 : Int) (a0_3 : Int) (a0_4 : Int) (a0_5 : Int) (a0_6 : Int) (q0_0 : Int) : Option (Bool) := some (a0_0 == q0_0)
set_option maxRecDepth 100000 in
theorem defect_ofKind_1.calls (a0_0 : Int) (a0_1 : Int) (a0_2 : Int) (a0_3 : Int) (a0_4 : Int) (a0_5 : Int) (a0_6 : Int) (q0_0 : Int) (p0 : Nat)   (r1 : Bool) (w : World)  (hp0 : w.heap[p0]? = some (.cells [.int .i64 q0_0].toArray 3 (0, 0)))  (h : defect_ofKind_1.f a0_0 a0_1 a0_2 a0_3 a0_4 a0_5 a0_6 q0_0 = some r1) :
    Calls Try.prog 84 #[.agg #[.int .i64 a0_0, .int .i64 a0_1, .int .i64 a0_2, .int .i64 a0_3, .int .i64 a0_4, .int .i64 a0_5, .int .i64 a0_6], .pointer (some ⟨p0, 0, none⟩)] w (Ret w (.bool r1)) := by
  have H := h
  clear h
  unfold defect_ofKind_1.f at H
  refine Go.Saw.calls (args := [.agg #[.int .i64 a0_0, .int .i64 a0_1, .int .i64 a0_2, .int .i64 a0_3, .int .i64 a0_4, .int .i64 a0_5, .int .i64 a0_6], .pointer (some ⟨p0, 0, none⟩)]) Try.func84 rfl Try.ntmps84 (by kernel_rfl) ?_
  refine J.seq ?_
  refine J.plain ?_
  refine LL.box 41 (.tmp 0) [.int .i64 a0_0, .int .i64 a0_1, .int .i64 a0_2, .int .i64 a0_3, .int .i64 a0_4, .int .i64 a0_5, .int .i64 a0_6] (by kernel_rfl) rfl (by kernel_rfl) (fun g7 => ?_)
  refine LL.op (.bool false) (by kernel_rfl) (fun w _ => by kernel_rfl) ?_
  refine LL.done (s' := [(1, .pointer (some ⟨p0, 0, none⟩)), (2, .pointer (some ⟨g7, 0, none⟩)), (3, .bool false)]) [1, 2, 3] (by kernel_rfl) ?_
  refine NN.then ?_
  refine J.seq ?_
  refine J.plain ?_
  refine LL.op (.pointer (some ⟨g7, 0, none⟩)) (by kernel_rfl) (fun w _ => by kernel_rfl) ?_
  refine LL.op (.int .i64 a0_0) (by kernel_rfl) (ld 0 g7 0 rfl (by kernel_rfl) rfl (by kernel_rfl)) ?_
  refine LL.op (.int .i64 q0_0) (by kernel_rfl) (ldW (off := 0) rfl (by kernel_rfl) hp0 (lt_of_some hp0) (by kernel_rfl)) ?_
  refine LL.op (.bool (a0_0 == q0_0)) (by kernel_rfl) (fun w _ => by kernel_rfl) ?_
  refine LL.op (.bool (a0_0 == q0_0)) (by kernel_rfl) (fun w _ => by kernel_rfl) ?_
  refine LL.done (s' := [(3, .bool (a0_0 == q0_0))]) [3] (by kernel_rfl) ?_
  refine NN.then ?_
  refine J.ret ?_
  refine NN.fin1 3 (.bool (a0_0 == q0_0)) (by kernel_rfl) (by kernel_rfl) (.inl rfl) (fun w hi => hi.ret ?_)
  first | (cases H; rfl) | (obtain rfl := Option.some.inj H; rfl) | (simp only [Option.some.injEq, Prod.mk.injEq] at H; obtain ⟨rfl⟩ := H; rfl)

/-! ### defect_chosen_1: function 83 -/
def defect_chosen_1.f (a0_0 : Int) (a0_1 : Int) (a0_2 : Int) (a0_3 : Int) (a0_4 : Int) (a0_5 : Int) (a0_6 : Int) (qq0_0 : E41 → Bool) : Option (Bool) := some (!(qq0_0 (a0_0, a0_1, a0_2, a0_3, a0_4, a0_5, a0_6)))
set_option maxRecDepth 100000 in
theorem defect_chosen_1.calls (a0_0 : Int) (a0_1 : Int) (a0_2 : Int) (a0_3 : Int) (a0_4 : Int) (a0_5 : Int) (a0_6 : Int) (qq0_0 : E41 → Bool) (p0 : Nat)  (fq0_0 : FuncId) (pq0_0 : Array Value) (r1 : Bool) (w : World) (hq0_0 : PredAt Try.prog (Cx.start w) enc41 qq0_0 fq0_0 pq0_0) (hp0 : w.heap[p0]? = some (.cells [.func (.func fq0_0) #[] pq0_0].toArray 44 (0, 0)))  (h : defect_chosen_1.f a0_0 a0_1 a0_2 a0_3 a0_4 a0_5 a0_6 qq0_0 = some r1) :
    Calls Try.prog 83 #[.agg #[.int .i64 a0_0, .int .i64 a0_1, .int .i64 a0_2, .int .i64 a0_3, .int .i64 a0_4, .int .i64 a0_5, .int .i64 a0_6], .pointer (some ⟨p0, 0, none⟩)] w (Ret w (.bool r1)) := by
  have H := h
  clear h
  unfold defect_chosen_1.f at H
  refine Go.Saw.calls (args := [.agg #[.int .i64 a0_0, .int .i64 a0_1, .int .i64 a0_2, .int .i64 a0_3, .int .i64 a0_4, .int .i64 a0_5, .int .i64 a0_6], .pointer (some ⟨p0, 0, none⟩)]) Try.func83 rfl Try.ntmps83 (by kernel_rfl) ?_
  refine J.seq ?_
  refine J.plain ?_
  refine LL.box 41 (.tmp 0) [.int .i64 a0_0, .int .i64 a0_1, .int .i64 a0_2, .int .i64 a0_3, .int .i64 a0_4, .int .i64 a0_5, .int .i64 a0_6] (by kernel_rfl) rfl (by kernel_rfl) (fun g8 => ?_)
  refine LL.op (.bool false) (by kernel_rfl) (fun w _ => by kernel_rfl) ?_
  refine LL.done (s' := [(1, .pointer (some ⟨p0, 0, none⟩)), (2, .pointer (some ⟨g8, 0, none⟩)), (3, .bool false)]) [1, 2, 3] (by kernel_rfl) ?_
  refine NN.then ?_
  refine J.seq ?_
  refine J.plain ?_
  refine LL.op (.func (.func fq0_0) #[] pq0_0) (by kernel_rfl) (ldW (off := 0) rfl (by kernel_rfl) hp0 (lt_of_some hp0) (by kernel_rfl)) ?_
  refine LL.op (.agg #[.int .i64 a0_0, .int .i64 a0_1, .int .i64 a0_2, .int .i64 a0_3, .int .i64 a0_4, .int .i64 a0_5, .int .i64 a0_6]) (by kernel_rfl) (ld 0 g8 0 rfl (by kernel_rfl) rfl (by kernel_rfl)) ?_
  refine LL.call fq0_0 (#[.agg (enc41 (a0_0, a0_1, a0_2, a0_3, a0_4, a0_5, a0_6)).toArray] ++ pq0_0) (.bool (qq0_0 (a0_0, a0_1, a0_2, a0_3, a0_4, a0_5, a0_6))) (by kernel_rfl) (run_pred hq0_0 rfl (by kernel_rfl) (by kernel_rfl)) (fun w hw => by have h_ := (hq0_0).run w hw.keep (a0_0, a0_1, a0_2, a0_3, a0_4, a0_5, a0_6); exact h_) ?_
  refine LL.op (.bool (!(qq0_0 (a0_0, a0_1, a0_2, a0_3, a0_4, a0_5, a0_6)))) (by kernel_rfl) (fun w _ => by kernel_rfl) ?_
  refine LL.op (.bool (!(qq0_0 (a0_0, a0_1, a0_2, a0_3, a0_4, a0_5, a0_6)))) (by kernel_rfl) (fun w _ => by kernel_rfl) ?_
  refine LL.done (s' := [(3, .bool (!(qq0_0 (a0_0, a0_1, a0_2, a0_3, a0_4, a0_5, a0_6))))]) [3] (by kernel_rfl) ?_
  refine NN.then ?_
  refine J.ret ?_
  refine NN.fin1 3 (.bool (!(qq0_0 (a0_0, a0_1, a0_2, a0_3, a0_4, a0_5, a0_6)))) (by kernel_rfl) (by kernel_rfl) (.inl rfl) (fun w hi => hi.ret ?_)
  first | (cases H; rfl) | (obtain rfl := Option.some.inj H; rfl) | (simp only [Option.some.injEq, Prod.mk.injEq] at H; obtain ⟨rfl⟩ := H; rfl)

end Go.Proofs.Ytfjbhmpnmpphoaa
