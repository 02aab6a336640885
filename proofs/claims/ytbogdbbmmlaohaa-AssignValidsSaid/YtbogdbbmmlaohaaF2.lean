/- Walks of functions of the seat: each call does what the Lean function of the same name says. Printed by the session's own program absgen.py. -/
import Derived.Test.YtbogdbbmmlaohaaD
namespace Go.Proofs.Ytbogdbbmmlaohaa
open Go.Saw
set_option linter.unusedVariables false
set_option linter.unusedSimpArgs false

/-! ### assign_Counts: function 13 -/
def assign_Counts.l0 (K : Nat) (a0 : List (List E4)) (a1 : List E3) : Nat → Int → Option ((List E3) × Int)
  | 0, _ => none
  | k + 1, x23l0 => if x23l0 < (a1.length : Int) then ((idx a1 x23l0).bind fun e370 => ((assign_wanted.f e370).bind fun x371 => (if x371 = true then (assign_Counts.l0 K a0 a1 k (IntKind.i64.wrap (x23l0 + 1))) else (some ([], 9))))) else ((assign_fill.f K a0 a1).bind fun bx373 => (some (bx373.1, 0)))
def assign_Counts.f (K : Nat) (a0 : List (List E4)) (a1 : List E3) : Option ((List E3) × Int) := (assign_shaped.f K a0).bind fun x364 => (if x364 = 0 then (if (a1.length : Int) = (a0.length : Int) then (assign_Counts.l0 K a0 a1 K 0) else (some ([], 19))) else (some ([], x364)))
set_option maxRecDepth 100000 in
theorem assign_Counts.calls (K : Nat) (a0 : List (List E4)) (a1 : List E3)  (Aa0 : Option Addr) (ca0 : Nat) (Aa1 : Option Addr) (ca1 : Nat)  (r1 : List E3) (r2 : Int) (w : World)   (ha0 : KRow2 (Cx.start w) enc4 1 a0 Aa0) (ha1 : KRow (Cx.start w) enc3 1 a1 Aa1) (h : assign_Counts.f K a0 a1 = some (r1, r2)) :
    Calls Try.prog 13 #[.slice Aa0 a0.length ca0, .slice Aa1 a1.length ca1] w (RetR w enc3 1 r1 (fun A_ c_ => .tuple #[.slice A_ r1.length c_, .int .i64 r2])) := by
  have H := h
  clear h
  unfold assign_Counts.f at H
  refine Go.Saw.calls (args := [.slice Aa0 a0.length ca0, .slice Aa1 a1.length ca1]) Try.func13 rfl Try.ntmps13 (by kernel_rfl) ?_
  refine J.seq ?_
  refine J.plain ?_
  refine LL.op (.slice none 0 0) (by kernel_rfl) (fun w _ => by kernel_rfl) ?_
  refine LL.op (.int .i64 0) (by kernel_rfl) (fun w _ => by kernel_rfl) ?_
  refine LL.done (s' := [(0, .slice Aa0 a0.length ca0), (1, .slice Aa1 a1.length ca1), (4, .slice none 0 0), (5, .int .i64 0)]) [0, 1, 4, 5] (by kernel_rfl) ?_
  refine NN.then ?_
  refine J.seq ?_
  refine J.seq ?_
  refine J.plain ?_
  refine LL.op (.slice Aa0 a0.length ca0) (by kernel_rfl) (fun w _ => by kernel_rfl) ?_
  obtain ⟨x364, hx364, H⟩ := bind_some H
  refine LL.call 28 #[.slice Aa0 a0.length ca0] (.int .i64 x364) (by kernel_rfl) (fun w => by kernel_rfl) (fun w hw => assign_shaped.calls K a0  _ _ _ w  (ha0.at hw) hx364) ?_
  refine LL.op (.int .i64 x364) (by kernel_rfl) (fun w _ => by kernel_rfl) ?_
  refine LL.done (s' := [(0, .slice Aa0 a0.length ca0), (1, .slice Aa1 a1.length ca1), (4, .slice none 0 0), (5, .int .i64 0), (6, .int .i64 x364)]) [0, 1, 4, 5, 6] (by kernel_rfl) ?_
  refine NN.then ?_
  refine J.seq ?_
  refine J.plain ?_
  refine LL.op (.int .i64 x364) (by kernel_rfl) (fun w _ => by kernel_rfl) ?_
  refine LL.op (.bool (!(x364 == 0))) (by kernel_rfl) (fun w _ => by kernel_rfl) ?_
  refine LL.done (s' := [(0, .slice Aa0 a0.length ca0), (1, .slice Aa1 a1.length ca1), (4, .slice none 0 0), (5, .int .i64 0), (6, .int .i64 x364), (14, .bool (!(x364 == 0)))]) [0, 1, 4, 5, 6, 14] (by kernel_rfl) ?_
  refine NN.then ?_
  rcases Bool.eq_false_or_eq_true ((x364 == 0)) with c365 | c365
  · rw [if_pos (eq_of_beq c365)] at H
    refine J.condF (b := !(x364 == 0)) (by rw [show (!(x364 == 0)) = !((x364 == 0)) from rfl, c365]; rfl) (by kernel_rfl) (by kernel_rfl) ?_
    refine J.skip ?_
    refine NN.then ?_
    refine J.seq ?_
    refine J.seq ?_
    refine J.plain ?_
    refine LL.op (.slice Aa1 a1.length ca1) (by kernel_rfl) (fun w _ => by kernel_rfl) ?_
    refine LL.op (.int .i64 (a1.length : Int)) (by kernel_rfl) (fun w _ => by kernel_rfl) ?_
    refine LL.op (.slice Aa0 a0.length ca0) (by kernel_rfl) (fun w _ => by kernel_rfl) ?_
    refine LL.op (.int .i64 (a0.length : Int)) (by kernel_rfl) (fun w _ => by kernel_rfl) ?_
    refine LL.op (.bool (!((a1.length : Int) == (a0.length : Int)))) (by kernel_rfl) (fun w _ => by kernel_rfl) ?_
    refine LL.done (s' := [(0, .slice Aa0 a0.length ca0), (1, .slice Aa1 a1.length ca1), (4, .slice none 0 0), (5, .int .i64 0), (20, .bool (!((a1.length : Int) == (a0.length : Int))))]) [0, 1, 4, 5, 20] (by kernel_rfl) ?_
    refine NN.then ?_
    rcases Bool.eq_false_or_eq_true (((a1.length : Int) == (a0.length : Int))) with c366 | c366
    · rw [if_pos (eq_of_beq c366)] at H
      refine J.condF (b := !((a1.length : Int) == (a0.length : Int))) (by rw [show (!((a1.length : Int) == (a0.length : Int))) = !(((a1.length : Int) == (a0.length : Int))) from rfl, c366]; rfl) (by kernel_rfl) (by kernel_rfl) ?_
      refine J.skip ?_
      refine NN.then ?_
      refine J.seq ?_
      refine J.seq ?_
      refine J.plain ?_
      refine LL.op (.slice Aa1 a1.length ca1) (by kernel_rfl) (fun w _ => by kernel_rfl) ?_
      refine LL.op (.int .i64 (a1.length : Int)) (by kernel_rfl) (fun w _ => by kernel_rfl) ?_
      refine LL.op (.int .i64 0) (by kernel_rfl) (fun w _ => by kernel_rfl) ?_
      refine LL.done (s' := [(0, .slice Aa0 a0.length ca0), (1, .slice Aa1 a1.length ca1), (4, .slice none 0 0), (5, .int .i64 0), (21, .slice Aa1 a1.length ca1), (22, .int .i64 (a1.length : Int)), (23, .int .i64 0)]) [0, 1, 4, 5, 21, 22, 23] (by kernel_rfl) ?_
      refine NN.then ?_
      refine J.block ?_
      refine J.to [0, 1, 4, 5, 21, 22, 23] (s' := [(0, .slice Aa0 a0.length ca0), (1, .slice Aa1 a1.length ca1), (4, .slice none 0 0), (5, .int .i64 0), (21, .slice Aa1 a1.length ca1), (22, .int .i64 (a1.length : Int)), (23, .int .i64 0)]) (by kernel_rfl) ?_
      refine J.loop (fun n_ s_ bs_ => ∃ (x23l0 : Int), assign_Counts.l0 K a0 a1 n_ x23l0 = some (r1, r2) ∧ s_ = [(0, .slice Aa0 a0.length ca0), (1, .slice Aa1 a1.length ca1), (4, .slice none 0 0), (5, .int .i64 0), (21, .slice Aa1 a1.length ca1), (22, .int .i64 (a1.length : Int)), (23, .int .i64 x23l0)] ∧ [] = bs_) K ⟨0, H, rfl, rfl⟩ ?_
      rintro (_ | n_) s_ bs_ ⟨x23l0, H, rfl, rfl⟩
      · exact absurd H (by simp [assign_Counts.l0])
      simp only [assign_Counts.l0] at H
      refine J.seq ?_
      refine J.plain ?_
      refine LL.op (.bool (decide (x23l0 < (a1.length : Int)))) (by kernel_rfl) (fun w _ => by kernel_rfl) ?_
      refine LL.done (s' := [(0, .slice Aa0 a0.length ca0), (1, .slice Aa1 a1.length ca1), (4, .slice none 0 0), (5, .int .i64 0), (21, .slice Aa1 a1.length ca1), (22, .int .i64 (a1.length : Int)), (23, .int .i64 x23l0), (24, .bool (decide (x23l0 < (a1.length : Int))))]) [0, 1, 4, 5, 21, 22, 23, 24] (by kernel_rfl) ?_
      refine NN.then ?_
      refine J.seq ?_
      rcases Bool.eq_false_or_eq_true (decide (x23l0 < (a1.length : Int))) with c369 | c369
      · rw [if_pos (of_decide_eq_true c369)] at H
        refine J.condT (b := decide (x23l0 < (a1.length : Int))) c369 (by kernel_rfl) (by kernel_rfl) ?_
        refine J.skip ?_
        refine NN.then ?_
        refine J.seq ?_
        refine J.block ?_
        refine J.seq ?_
        refine J.plain ?_
        obtain ⟨e370, he370, H⟩ := bind_some H
        refine LL.op (.pointer (rp Aa1 (x23l0.toNat * 1 + 0))) (by kernel_rfl) (idxR (cp := ca1) (ik := .i64) ha1 he370 rfl (by kernel_rfl) (by kernel_rfl) (by kernel_rfl)) ?_
        refine LL.op (.int .i64 e370) (by kernel_rfl) (ldR (off := 0) ha1 he370 rfl (by kernel_rfl) (by kernel_rfl)) ?_
        refine LL.op (.int .i64 e370) (by kernel_rfl) (fun w _ => by kernel_rfl) ?_
        refine LL.done (s' := [(0, .slice Aa0 a0.length ca0), (1, .slice Aa1 a1.length ca1), (4, .slice none 0 0), (5, .int .i64 0), (8, .int .i64 e370), (21, .slice Aa1 a1.length ca1), (22, .int .i64 (a1.length : Int)), (23, .int .i64 x23l0)]) [0, 1, 4, 5, 8, 21, 22, 23] (by kernel_rfl) ?_
        refine NN.then ?_
        refine J.seq ?_
        refine J.plain ?_
        refine LL.op (.int .i64 e370) (by kernel_rfl) (fun w _ => by kernel_rfl) ?_
        obtain ⟨x371, hx371, H⟩ := bind_some H
        refine LL.call 29 #[.int .i64 e370] (.bool x371) (by kernel_rfl) (fun w => by kernel_rfl) (fun w hw => assign_wanted.calls e370   _ w   hx371) ?_
        refine LL.op (.bool (!x371)) (by kernel_rfl) (fun w _ => by kernel_rfl) ?_
        refine LL.done (s' := [(0, .slice Aa0 a0.length ca0), (1, .slice Aa1 a1.length ca1), (4, .slice none 0 0), (5, .int .i64 0), (21, .slice Aa1 a1.length ca1), (22, .int .i64 (a1.length : Int)), (23, .int .i64 x23l0), (29, .bool (!x371))]) [0, 1, 4, 5, 21, 22, 23, 29] (by kernel_rfl) ?_
        refine NN.then ?_
        rcases Bool.eq_false_or_eq_true (x371) with c372 | c372
        · rw [if_pos (c372)] at H
          refine J.condF (b := !x371) (by rw [show (!x371) = !(x371) from rfl, c372]; rfl) (by kernel_rfl) (by kernel_rfl) ?_
          refine J.skip ?_
          refine NN.block_n ?_
          refine NN.then ?_
          refine J.plain ?_
          refine LL.op (.int .i64 (IntKind.i64.wrap (x23l0 + 1))) (by kernel_rfl) (fun w _ => by kernel_rfl) ?_
          refine LL.op (.int .i64 (IntKind.i64.wrap (x23l0 + 1))) (by kernel_rfl) (fun w _ => by kernel_rfl) ?_
          refine LL.done (s' := [(0, .slice Aa0 a0.length ca0), (1, .slice Aa1 a1.length ca1), (4, .slice none 0 0), (5, .int .i64 0), (21, .slice Aa1 a1.length ca1), (22, .int .i64 (a1.length : Int)), (23, .int .i64 (IntKind.i64.wrap (x23l0 + 1)))]) [0, 1, 4, 5, 21, 22, 23] (by kernel_rfl) ?_
          exact NN.round' [0, 1, 4, 5, 21, 22, 23] (bs' := []) (Nat.lt_succ_self _) (List.Sublist.refl _) (by kernel_rfl) ⟨IntKind.i64.wrap (x23l0 + 1), H, rfl, rfl⟩
        · rw [if_neg (nebt c372)] at H
          refine J.condT (b := !x371) (by rw [show (!x371) = !(x371) from rfl, c372]; rfl) (by kernel_rfl) (by kernel_rfl) ?_
          refine J.seq ?_
          refine J.plain ?_
          refine LL.op (.slice none 0 0) (by kernel_rfl) (fun w _ => by kernel_rfl) ?_
          refine LL.op (.int .i64 9) (by kernel_rfl) (fun w _ => by kernel_rfl) ?_
          refine LL.done (s' := [(0, .slice Aa0 a0.length ca0), (1, .slice Aa1 a1.length ca1), (4, .slice none 0 0), (5, .int .i64 9), (21, .slice Aa1 a1.length ca1), (22, .int .i64 (a1.length : Int)), (23, .int .i64 x23l0)]) [0, 1, 4, 5, 21, 22, 23] (by kernel_rfl) ?_
          refine NN.then ?_
          refine J.ret ?_
          refine NN.block_ret ?_
          refine NN.then_ret ?_
          refine NN.then_ret ?_
          refine NN.block_ret ?_
          refine NN.then_ret ?_
          first | (obtain rfl := Option.some.inj H) | (simp only [Option.some.injEq, Prod.mk.injEq] at H; obtain ⟨rfl, rfl⟩ := H)
          refine NN.fin2 4 5 (.slice none 0 0) (.int .i64 9) (by kernel_rfl) (by kernel_rfl) (by kernel_rfl) (.inl rfl) (fun w hi => hi.retNil rfl)
      · rw [if_neg (of_decide_eq_false c369)] at H
        refine J.condF (b := decide (x23l0 < (a1.length : Int))) c369 (by kernel_rfl) (by kernel_rfl) ?_
        refine J.exit ?_
        refine NN.then_exit ?_
        refine NN.then_exit ?_
        refine NN.block_same ?_
        refine NN.then ?_
        refine J.seq ?_
        refine J.plain ?_
        refine LL.op (.slice Aa0 a0.length ca0) (by kernel_rfl) (fun w _ => by kernel_rfl) ?_
        refine LL.op (.slice Aa1 a1.length ca1) (by kernel_rfl) (fun w _ => by kernel_rfl) ?_
        obtain ⟨⟨x373_1, x373_2⟩, hx373, H⟩ := bind_some H
        (try dsimp only at H)
        refine LL.callFill (fits := a0) (r1 := x373_1) (rT := x373_2) 30 #[.slice Aa0 a0.length ca0, .slice Aa1 a1.length ca1] (by kernel_rfl) (fun w => by kernel_rfl) (fun w hw => assign_fill.calls K a0 a1 _ _ _ _ _ _ w (ha0.at hw) (ha1.at hw) hx373) (fun R374 F375 m376 t377 g378 n379 le380 k381 len382 => ?_)
        refine LL.op (.tuple #[.pointer (some ⟨m376, 0, none⟩), .slice (some ⟨g378, 0, none⟩) n379 n379]) (by kernel_rfl) (fun w _ => by kernel_rfl) ?_
        refine LL.op (.pointer (some ⟨m376, 0, none⟩)) (by kernel_rfl) (fun w _ => by kernel_rfl) ?_
        refine LL.op (.slice (some ⟨g378, 0, none⟩) n379 n379) (by kernel_rfl) (fun w _ => by kernel_rfl) ?_
        refine LL.op (.pointer (some ⟨m376, 0, none⟩)) (by kernel_rfl) (fun w _ => by kernel_rfl) ?_
        refine LL.op (.slice (some ⟨g378, 0, none⟩) n379 n379) (by kernel_rfl) (fun w _ => by kernel_rfl) ?_
        refine LL.done (s' := [(4, .slice none 0 0), (5, .int .i64 0), (10, .slice (some ⟨g378, 0, none⟩) n379 n379)]) [4, 5, 10] (by kernel_rfl) ?_
        refine NN.then ?_
        refine J.seq ?_
        refine J.plain ?_
        refine LL.op (.slice (some ⟨g378, 0, none⟩) n379 n379) (by kernel_rfl) (fun w _ => by kernel_rfl) ?_
        refine LL.op (.slice (some ⟨g378, 0, none⟩) n379 n379) (by kernel_rfl) (fun w _ => by kernel_rfl) ?_
        refine LL.op (.int .i64 0) (by kernel_rfl) (fun w _ => by kernel_rfl) ?_
        refine LL.done (s' := [(4, .slice (some ⟨g378, 0, none⟩) n379 n379), (5, .int .i64 0)]) [4, 5] (by kernel_rfl) ?_
        refine NN.then ?_
        refine J.ret ?_
        first | (obtain rfl := Option.some.inj H) | (simp only [Option.some.injEq, Prod.mk.injEq] at H; obtain ⟨rfl, rfl⟩ := H)
        refine NN.fin2 4 5 (.slice (some ⟨g378, 0, none⟩) n379 n379) (.int .i64 0) (by kernel_rfl) (by kernel_rfl) (by kernel_rfl) (.inl rfl) (fun w hi => hi.retL (e1 := eI) (l := x373_1) (enc := enc3) (i := 0) (g := g378) rfl rfl n379 (by rw [show n379 = x373_1.length from (len382).symm]))
    · rw [if_neg (nebf c366)] at H
      refine J.condT (b := !((a1.length : Int) == (a0.length : Int))) (by rw [show (!((a1.length : Int) == (a0.length : Int))) = !(((a1.length : Int) == (a0.length : Int))) from rfl, c366]; rfl) (by kernel_rfl) (by kernel_rfl) ?_
      refine J.seq ?_
      refine J.plain ?_
      refine LL.op (.slice none 0 0) (by kernel_rfl) (fun w _ => by kernel_rfl) ?_
      refine LL.op (.int .i64 19) (by kernel_rfl) (fun w _ => by kernel_rfl) ?_
      refine LL.done (s' := [(0, .slice Aa0 a0.length ca0), (1, .slice Aa1 a1.length ca1), (4, .slice none 0 0), (5, .int .i64 19)]) [0, 1, 4, 5] (by kernel_rfl) ?_
      refine NN.then ?_
      refine J.ret ?_
      refine NN.then_ret ?_
      first | (obtain rfl := Option.some.inj H) | (simp only [Option.some.injEq, Prod.mk.injEq] at H; obtain ⟨rfl, rfl⟩ := H)
      refine NN.fin2 4 5 (.slice none 0 0) (.int .i64 19) (by kernel_rfl) (by kernel_rfl) (by kernel_rfl) (.inl rfl) (fun w hi => hi.retNil rfl)
  · rw [if_neg (nebf c365)] at H
    refine J.condT (b := !(x364 == 0)) (by rw [show (!(x364 == 0)) = !((x364 == 0)) from rfl, c365]; rfl) (by kernel_rfl) (by kernel_rfl) ?_
    refine J.seq ?_
    refine J.plain ?_
    refine LL.op (.int .i64 x364) (by kernel_rfl) (fun w _ => by kernel_rfl) ?_
    refine LL.op (.slice none 0 0) (by kernel_rfl) (fun w _ => by kernel_rfl) ?_
    refine LL.op (.int .i64 x364) (by kernel_rfl) (fun w _ => by kernel_rfl) ?_
    refine LL.done (s' := [(0, .slice Aa0 a0.length ca0), (1, .slice Aa1 a1.length ca1), (4, .slice none 0 0), (5, .int .i64 x364)]) [0, 1, 4, 5] (by kernel_rfl) ?_
    refine NN.then ?_
    refine J.ret ?_
    refine NN.then_ret ?_
    first | (obtain rfl := Option.some.inj H) | (simp only [Option.some.injEq, Prod.mk.injEq] at H; obtain ⟨rfl, rfl⟩ := H)
    refine NN.fin2 4 5 (.slice none 0 0) (.int .i64 x364) (by kernel_rfl) (by kernel_rfl) (by kernel_rfl) (.inl rfl) (fun w hi => hi.retNil rfl)

/-! ### assign_Best: function 14 -/
def assign_Best.l2 (K : Nat) (a0 : List (List E4)) (x64l1 : Int) (kont_ : Int → (Int → Option Int) → Option ((List E3) × Int)) : Nat → Int → (Int → Option Int) → Option ((List E3) × Int)
  | 0, _, _ => none
  | k + 1, x69l2, ztx10l0l2 => if x69l2 < (a0.length : Int) then ((assign_market_holder.f a0 ztx10l0l2 x64l1).bind fun x431 => (if x69l2 = x431 then (kont_ x69l2 ztx10l0l2) else ((assign_market_prefer.f K a0 ztx10l0l2 x64l1 x69l2).bind fun bx433 => (if bx433.1 = true then (kont_ x69l2 bx433.2) else (assign_Best.l2 K a0 x64l1 kont_ k (IntKind.i64.wrap (x69l2 + 1)) bx433.2))))) else (kont_ x69l2 ztx10l0l2)
def assign_Best.l1 (K : Nat) (a0 : List (List E4)) (x424 : Int) (kont_ : (List E3) → Int → (Int → Option Int) → Option ((List E3) × Int)) : Nat → List E3 → Int → (Int → Option Int) → Option ((List E3) × Int)
  | 0, _, _, _ => none
  | k + 1, x13l1, x64l1, ztx10l0l1 => if x64l1 < x424 then (assign_Best.l2 K a0 x64l1 (fun (x69l2 : Int) (ztx10l0l2 : (Int → Option Int)) => (assign_market_holder.f a0 ztx10l0l2 x64l1).bind fun x2433 => ((app 8 x13l1 ([x2433] : List E3)).bind fun y2442 => (assign_Best.l1 K a0 x424 kont_ k y2442 (IntKind.i64.wrap (x64l1 + 1)) ztx10l0l2))) K 0 ztx10l0l1) else (kont_ x13l1 x64l1 ztx10l0l1)
def assign_Best.l0 (K : Nat) (a0 : List (List E4)) (a1 : List E3) : Nat → List E3 → (Int → Option Int) → List E3 → Int → Option ((List E3) × Int)
  | 0, _, _, _, _ => none
  | k + 1, x9l0, x10l0, x11l0, x12l0 => if x12l0 < (x11l0.length : Int) then ((idx x11l0 x12l0).bind fun e406 => (if 0 < e406 then ((idx a1 x12l0).bind fun e408 => (if e406 < e408 then ((idx x9l0 x12l0).bind fun e410 => ((assign_fill.f K a0 (x9l0.set x12l0.toNat 0)).bind fun bx413 => (assign_Best.l0 K a0 a1 k (x9l0.set x12l0.toNat 0) bx413.2 bx413.1 0))) else (assign_Best.l0 K a0 a1 k x9l0 x10l0 x11l0 (IntKind.i64.wrap (x12l0 + 1))))) else (assign_Best.l0 K a0 a1 k x9l0 x10l0 x11l0 (IntKind.i64.wrap (x12l0 + 1))))) else ((assign_columns.f a0).bind fun x424 => (assign_Best.l1 K a0 x424 (fun (x13l1 : List E3) (x64l1 : Int) (ztx10l0l1 : (Int → Option Int)) => some (x13l1, 0)) K ([] : List E3) 0 x10l0))
def assign_Best.f (K : Nat) (a0 : List (List E4)) (a1 : List E3) (a2 : List E3) : Option ((List E3) × Int) := (assign_checked.f K a0 a1 a2).bind fun x384 => (if x384 = 0 then ((app 8 ([] : List E3) a2).bind fun y386 => ((assign_fill.f K a0 y386).bind fun bx392 => (assign_Best.l0 K a0 a1 K y386 bx392.2 bx392.1 0))) else (some ([], x384)))
set_option maxRecDepth 100000 in
theorem assign_Best.calls (K : Nat) (a0 : List (List E4)) (a1 : List E3) (a2 : List E3)  (Aa0 : Option Addr) (ca0 : Nat) (Aa1 : Option Addr) (ca1 : Nat) (Aa2 : Option Addr) (ca2 : Nat)  (r1 : List E3) (r2 : Int) (w : World)   (ha0 : KRow2 (Cx.start w) enc4 1 a0 Aa0) (ha1 : KRow (Cx.start w) enc3 1 a1 Aa1) (ha2 : KRow (Cx.start w) enc3 1 a2 Aa2) (h : assign_Best.f K a0 a1 a2 = some (r1, r2)) :
    Calls Try.prog 14 #[.slice Aa0 a0.length ca0, .slice Aa1 a1.length ca1, .slice Aa2 a2.length ca2] w (RetR w enc3 1 r1 (fun A_ c_ => .tuple #[.slice A_ r1.length c_, .int .i64 r2])) := by
  have H := h
  clear h
  unfold assign_Best.f at H
  refine Go.Saw.calls (args := [.slice Aa0 a0.length ca0, .slice Aa1 a1.length ca1, .slice Aa2 a2.length ca2]) Try.func14 rfl Try.ntmps14 (by kernel_rfl) ?_
  refine J.seq ?_
  refine J.plain ?_
  refine LL.op (.slice none 0 0) (by kernel_rfl) (fun w _ => by kernel_rfl) ?_
  refine LL.op (.int .i64 0) (by kernel_rfl) (fun w _ => by kernel_rfl) ?_
  refine LL.done (s' := [(0, .slice Aa0 a0.length ca0), (1, .slice Aa1 a1.length ca1), (2, .slice Aa2 a2.length ca2), (6, .slice none 0 0), (7, .int .i64 0)]) [0, 1, 2, 6, 7] (by kernel_rfl) ?_
  refine NN.then ?_
  refine J.seq ?_
  refine J.seq ?_
  refine J.plain ?_
  refine LL.op (.slice Aa0 a0.length ca0) (by kernel_rfl) (fun w _ => by kernel_rfl) ?_
  refine LL.op (.slice Aa1 a1.length ca1) (by kernel_rfl) (fun w _ => by kernel_rfl) ?_
  refine LL.op (.slice Aa2 a2.length ca2) (by kernel_rfl) (fun w _ => by kernel_rfl) ?_
  obtain ⟨x384, hx384, H⟩ := bind_some H
  refine LL.call 31 #[.slice Aa0 a0.length ca0, .slice Aa1 a1.length ca1, .slice Aa2 a2.length ca2] (.int .i64 x384) (by kernel_rfl) (fun w => by kernel_rfl) (fun w hw => assign_checked.calls K a0 a1 a2  _ _ _ _ _ _ _ w  (ha0.at hw) (ha1.at hw) (ha2.at hw) hx384) ?_
  refine LL.op (.int .i64 x384) (by kernel_rfl) (fun w _ => by kernel_rfl) ?_
  refine LL.done (s' := [(0, .slice Aa0 a0.length ca0), (1, .slice Aa1 a1.length ca1), (2, .slice Aa2 a2.length ca2), (6, .slice none 0 0), (7, .int .i64 0), (8, .int .i64 x384)]) [0, 1, 2, 6, 7, 8] (by kernel_rfl) ?_
  refine NN.then ?_
  refine J.seq ?_
  refine J.plain ?_
  refine LL.op (.int .i64 x384) (by kernel_rfl) (fun w _ => by kernel_rfl) ?_
  refine LL.op (.bool (!(x384 == 0))) (by kernel_rfl) (fun w _ => by kernel_rfl) ?_
  refine LL.done (s' := [(0, .slice Aa0 a0.length ca0), (1, .slice Aa1 a1.length ca1), (2, .slice Aa2 a2.length ca2), (6, .slice none 0 0), (7, .int .i64 0), (8, .int .i64 x384), (21, .bool (!(x384 == 0)))]) [0, 1, 2, 6, 7, 8, 21] (by kernel_rfl) ?_
  refine NN.then ?_
  rcases Bool.eq_false_or_eq_true ((x384 == 0)) with c385 | c385
  · rw [if_pos (eq_of_beq c385)] at H
    refine J.condF (b := !(x384 == 0)) (by rw [show (!(x384 == 0)) = !((x384 == 0)) from rfl, c385]; rfl) (by kernel_rfl) (by kernel_rfl) ?_
    refine J.skip ?_
    refine NN.then ?_
    refine J.seq ?_
    refine J.plain ?_
    refine LL.op (.slice Aa2 a2.length ca2) (by kernel_rfl) (fun w _ => by kernel_rfl) ?_
    obtain ⟨y386, hy386, H⟩ := bind_some H
    refine LL.clone (cp := ca2) (by kernel_rfl) (fun w => by kernel_rfl) ha2 hy386 (fun A387 c388 ba389 o390 => ?_)
    refine LL.op (.slice A387 y386.length c388) (by kernel_rfl) (fun w _ => by kernel_rfl) ?_
    refine LL.done (s' := [(0, .slice Aa0 a0.length ca0), (1, .slice Aa1 a1.length ca1), (6, .slice none 0 0), (7, .int .i64 0), (9, .slice A387 y386.length c388)]) [0, 1, 6, 7, 9] (by kernel_rfl) ?_
    refine NN.then ?_
    refine J.seq ?_
    refine J.plain ?_
    refine LL.op (.slice Aa0 a0.length ca0) (by kernel_rfl) (fun w _ => by kernel_rfl) ?_
    refine LL.op (.slice A387 y386.length c388) (by kernel_rfl) (fun w _ => by kernel_rfl) ?_
    obtain ⟨⟨x392_1, x392_2⟩, hx392, H⟩ := bind_some H
    (try dsimp only at H)
    refine LL.callFill (fits := a0) (r1 := x392_1) (rT := x392_2) 30 #[.slice Aa0 a0.length ca0, .slice A387 y386.length c388] (by kernel_rfl) (fun w => by kernel_rfl) (fun w hw => assign_fill.calls K a0 y386 _ _ _ _ _ _ w (ha0.at hw) (Own.krow (pre := []) ok3 o390 hw) hx392) (fun R393 F394 m395 t396 g397 n398 le399 k400 len401 => ?_)
    refine LL.op (.tuple #[.pointer (some ⟨m395, 0, none⟩), .slice (some ⟨g397, 0, none⟩) n398 n398]) (by kernel_rfl) (fun w _ => by kernel_rfl) ?_
    refine LL.op (.pointer (some ⟨m395, 0, none⟩)) (by kernel_rfl) (fun w _ => by kernel_rfl) ?_
    refine LL.op (.slice (some ⟨g397, 0, none⟩) n398 n398) (by kernel_rfl) (fun w _ => by kernel_rfl) ?_
    refine LL.op (.pointer (some ⟨m395, 0, none⟩)) (by kernel_rfl) (fun w _ => by kernel_rfl) ?_
    refine LL.op (.slice (some ⟨g397, 0, none⟩) n398 n398) (by kernel_rfl) (fun w _ => by kernel_rfl) ?_
    refine LL.done (s' := [(0, .slice Aa0 a0.length ca0), (1, .slice Aa1 a1.length ca1), (6, .slice none 0 0), (7, .int .i64 0), (9, .slice A387 y386.length c388), (10, .pointer (some ⟨m395, 0, none⟩)), (11, .slice (some ⟨g397, 0, none⟩) n398 n398)]) [0, 1, 6, 7, 9, 10, 11] (by kernel_rfl) ?_
    refine NN.then ?_
    refine J.seq ?_
    refine J.seq ?_
    refine J.plain ?_
    refine LL.op (.int .i64 0) (by kernel_rfl) (fun w _ => by kernel_rfl) ?_
    refine LL.done (s' := [(0, .slice Aa0 a0.length ca0), (1, .slice Aa1 a1.length ca1), (6, .slice none 0 0), (7, .int .i64 0), (9, .slice A387 y386.length c388), (10, .pointer (some ⟨m395, 0, none⟩)), (11, .slice (some ⟨g397, 0, none⟩) n398 n398), (12, .int .i64 0)]) [0, 1, 6, 7, 9, 10, 11, 12] (by kernel_rfl) ?_
    refine NN.then ?_
    refine J.block ?_
    refine J.to [0, 1, 6, 7, 9, 10, 11, 12] (s' := [(0, .slice Aa0 a0.length ca0), (1, .slice Aa1 a1.length ca1), (6, .slice none 0 0), (7, .int .i64 0), (9, .slice A387 y386.length c388), (10, .pointer (some ⟨m395, 0, none⟩)), (11, .slice (some ⟨g397, 0, none⟩) n398 n398), (12, .int .i64 0)]) (by kernel_rfl) ?_
    refine J.loopC (fun c_ n_ s_ bs_ => ∃ (x9l0 : List E3) (x10l0 : (Int → Option Int)) (x11l0 : List E3) (x12l0 : Int) (Ax9l0 : Option Addr) (cx9l0 : Nat) (bax9l0 : Bs) (mx10l0 tx10l0 : Nat) (gx11l0 nx11l0 : Nat), assign_Best.l0 K a0 a1 n_ x9l0 x10l0 x11l0 x12l0 = some (r1, r2) ∧ Own enc3 1 3 x9l0 Ax9l0 cx9l0 bax9l0 ∧ BlkAt c_ mx10l0 (cl [.slice Aa0 a0.length ca0, .map (some tx10l0)] 73) ∧ x11l0.length = nx11l0 ∧ s_ = [(0, .slice Aa0 a0.length ca0), (1, .slice Aa1 a1.length ca1), (6, .slice none 0 0), (7, .int .i64 0), (9, .slice Ax9l0 x9l0.length cx9l0), (10, .pointer (some ⟨mx10l0, 0, none⟩)), (11, .slice (some ⟨gx11l0, 0, none⟩) nx11l0 nx11l0), (12, .int .i64 x12l0)] ∧ [(gx11l0, cl (List.map eI x11l0) 3), (tx10l0, mpO eI x10l0)] ++ bax9l0 = bs_) K ⟨y386, x392_2, x392_1, 0, A387, c388, ba389, m395, t396, g397, n398, H, o390, k400, len401, rfl, rfl⟩ ?_
    rintro R_ F_ (_ | n_) s_ bs_ le404 ⟨x9l0, x10l0, x11l0, x12l0, Ax9l0, cx9l0, bax9l0, mx10l0, tx10l0, gx11l0, nx11l0, H, ox9l0, kx10l0, lenx11l0, rfl, rfl⟩
    · exact absurd H (by simp [assign_Best.l0])
    simp only [assign_Best.l0] at H
    refine J.seq ?_
    refine J.seq ?_
    refine J.plain ?_
    refine LL.op (.int .i64 x12l0) (by kernel_rfl) (fun w _ => by kernel_rfl) ?_
    refine LL.op (.slice (some ⟨gx11l0, 0, none⟩) nx11l0 nx11l0) (by kernel_rfl) (fun w _ => by kernel_rfl) ?_
    refine LL.op (.int .i64 (nx11l0 : Int)) (by kernel_rfl) (fun w _ => by kernel_rfl) ?_
    refine LL.int 33 (nx11l0 : Int) (x11l0.length : Int) (by rw [show x11l0.length = nx11l0 from lenx11l0]) (by kernel_rfl) ?_
    refine LL.op (.bool (decide (x12l0 < (x11l0.length : Int)))) (by kernel_rfl) (fun w _ => by kernel_rfl) ?_
    refine LL.done (s' := [(0, .slice Aa0 a0.length ca0), (1, .slice Aa1 a1.length ca1), (6, .slice none 0 0), (7, .int .i64 0), (9, .slice Ax9l0 x9l0.length cx9l0), (10, .pointer (some ⟨mx10l0, 0, none⟩)), (11, .slice (some ⟨gx11l0, 0, none⟩) nx11l0 nx11l0), (12, .int .i64 x12l0), (34, .bool (decide (x12l0 < (x11l0.length : Int))))]) [0, 1, 6, 7, 9, 10, 11, 12, 34] (by kernel_rfl) ?_
    refine NN.then ?_
    rcases Bool.eq_false_or_eq_true (decide (x12l0 < (x11l0.length : Int))) with c405 | c405
    · rw [if_pos (of_decide_eq_true c405)] at H
      refine J.condT (b := decide (x12l0 < (x11l0.length : Int))) c405 (by kernel_rfl) (by kernel_rfl) ?_
      refine J.skip ?_
      refine NN.then ?_
      refine J.seq ?_
      refine J.block ?_
      refine J.seq ?_
      refine J.drawn follows (by kernel_rfl) ?_
      refine QQ.op (.slice (some ⟨gx11l0, 0, none⟩) nx11l0 nx11l0) (by kernel_rfl) (fun w _ => by kernel_rfl) ?_
      refine QQ.op (.int .i64 x12l0) (by kernel_rfl) (fun w _ => by kernel_rfl) ?_
      obtain ⟨e406, he406, H⟩ := bind_some H
      refine QQ.op (.pointer (rp (some ⟨gx11l0, 0, none⟩) (x12l0.toNat * 1 + 0))) (by kernel_rfl) (idxL (ik := .i64) (n := nx11l0) (e1 := eI) (l := x11l0) 0 gx11l0 rfl he406 lenx11l0 rfl (by kernel_rfl) (by kernel_rfl) (by kernel_rfl)) ?_
      refine QQ.op (.int .i64 e406) (by kernel_rfl) (ldL (e1 := eI) (l := x11l0) 0 gx11l0 rfl he406 rfl (by kernel_rfl) (by kernel_rfl)) ?_
      refine QQ.op (.bool (decide (0 < e406))) (by kernel_rfl) (fun w _ => by kernel_rfl) ?_
      refine QQ.op (.bool (decide (0 < e406))) (by kernel_rfl) (fun w _ => by kernel_rfl) ?_
      rcases Bool.eq_false_or_eq_true (decide (0 < e406)) with c407 | c407
      · rw [if_pos (of_decide_eq_true c407)] at H
        refine QQ.bool 42 (decide (0 < e406)) true c407 (by kernel_rfl) ?_
        refine QQ.op (.slice (some ⟨gx11l0, 0, none⟩) nx11l0 nx11l0) (by kernel_rfl) (fun w _ => by kernel_rfl) ?_
        refine QQ.op (.int .i64 x12l0) (by kernel_rfl) (fun w _ => by kernel_rfl) ?_
        refine QQ.op (.pointer (rp (some ⟨gx11l0, 0, none⟩) (x12l0.toNat * 1 + 0))) (by kernel_rfl) (idxL (ik := .i64) (n := nx11l0) (e1 := eI) (l := x11l0) 0 gx11l0 rfl he406 lenx11l0 rfl (by kernel_rfl) (by kernel_rfl) (by kernel_rfl)) ?_
        refine QQ.op (.int .i64 e406) (by kernel_rfl) (ldL (e1 := eI) (l := x11l0) 0 gx11l0 rfl he406 rfl (by kernel_rfl) (by kernel_rfl)) ?_
        refine QQ.op (.slice Aa1 a1.length ca1) (by kernel_rfl) (fun w _ => by kernel_rfl) ?_
        refine QQ.op (.int .i64 x12l0) (by kernel_rfl) (fun w _ => by kernel_rfl) ?_
        obtain ⟨e408, he408, H⟩ := bind_some H
        refine QQ.op (.pointer (rp Aa1 (x12l0.toNat * 1 + 0))) (by kernel_rfl) (idxR (cp := ca1) (ik := .i64) ((ha1.le le399).le le404) he408 rfl (by kernel_rfl) (by kernel_rfl) (by kernel_rfl)) ?_
        refine QQ.op (.int .i64 e408) (by kernel_rfl) (ldR (off := 0) ((ha1.le le399).le le404) he408 rfl (by kernel_rfl) (by kernel_rfl)) ?_
        refine QQ.op (.bool (decide (e406 < e408))) (by kernel_rfl) (fun w _ => by kernel_rfl) ?_
        refine QQ.op (.bool (decide (e406 < e408))) (by kernel_rfl) (fun w _ => by kernel_rfl) ?_
        refine QQ.done (s' := [(0, .slice Aa0 a0.length ca0), (1, .slice Aa1 a1.length ca1), (6, .slice none 0 0), (7, .int .i64 0), (9, .slice Ax9l0 x9l0.length cx9l0), (10, .pointer (some ⟨mx10l0, 0, none⟩)), (11, .slice (some ⟨gx11l0, 0, none⟩) nx11l0 nx11l0), (12, .int .i64 x12l0), (52, .bool (decide (e406 < e408)))]) [0, 1, 6, 7, 9, 10, 11, 12, 52] (by kernel_rfl) ?_
        refine NN.then ?_
        rcases Bool.eq_false_or_eq_true (decide (e406 < e408)) with c409 | c409
        · rw [if_pos (of_decide_eq_true c409)] at H
          refine J.condT (b := decide (e406 < e408)) c409 (by kernel_rfl) (by kernel_rfl) ?_
          refine J.seq ?_
          refine J.plain ?_
          refine LL.op (.slice Ax9l0 x9l0.length cx9l0) (by kernel_rfl) (fun w _ => by kernel_rfl) ?_
          refine LL.op (.int .i64 x12l0) (by kernel_rfl) (fun w _ => by kernel_rfl) ?_
          obtain ⟨e410, he410, H⟩ := bind_some H
          refine LL.op (.pointer (rp Ax9l0 (x12l0.toNat * 1 + 0))) (by kernel_rfl) (idxO (pre := [(gx11l0, cl (List.map eI x11l0) 3), (tx10l0, mpO eI x10l0)]) (cap := cx9l0) (ik := .i64) ok3 ox9l0 he410 rfl (by kernel_rfl) (by kernel_rfl) (by kernel_rfl)) ?_
          refine LL.storeOwn1 (e := 0) (pre := [(gx11l0, cl (List.map eI x11l0) 3), (tx10l0, mpO eI x10l0)]) ok3 ox9l0 he410 (by kernel_rfl) rfl (by kernel_rfl) (by kernel_rfl) (by kernel_rfl) (fun ba411 o412 => ?_)
          rw [show x9l0.length = (x9l0.set x12l0.toNat 0).length from List.length_set.symm]
          refine LL.done (s' := [(0, .slice Aa0 a0.length ca0), (1, .slice Aa1 a1.length ca1), (6, .slice none 0 0), (7, .int .i64 0), (9, .slice Ax9l0 ((x9l0.set x12l0.toNat 0).length) cx9l0), (10, .pointer (some ⟨mx10l0, 0, none⟩)), (11, .slice (some ⟨gx11l0, 0, none⟩) nx11l0 nx11l0), (12, .int .i64 x12l0)]) [0, 1, 6, 7, 9, 10, 11, 12] (by kernel_rfl) ?_
          refine NN.then ?_
          refine J.seq ?_
          refine J.plain ?_
          refine LL.op (.slice Aa0 a0.length ca0) (by kernel_rfl) (fun w _ => by kernel_rfl) ?_
          refine LL.op (.slice Ax9l0 ((x9l0.set x12l0.toNat 0).length) cx9l0) (by kernel_rfl) (fun w _ => by kernel_rfl) ?_
          obtain ⟨⟨x413_1, x413_2⟩, hx413, H⟩ := bind_some H
          (try dsimp only at H)
          refine LL.callFill (fits := a0) (r1 := x413_1) (rT := x413_2) 30 #[.slice Aa0 a0.length ca0, .slice Ax9l0 ((x9l0.set x12l0.toNat 0).length) cx9l0] (by kernel_rfl) (fun w => by kernel_rfl) (fun w hw => assign_fill.calls K a0 (x9l0.set x12l0.toNat 0) _ _ _ _ _ _ w (((ha0.le le399).le le404).at hw) (Own.krow (pre := [(gx11l0, cl (List.map eI x11l0) 3), (tx10l0, mpO eI x10l0)]) ok3 o412 hw) hx413) (fun R414 F415 m416 t417 g418 n419 le420 k421 len422 => ?_)
          refine LL.op (.tuple #[.pointer (some ⟨m416, 0, none⟩), .slice (some ⟨g418, 0, none⟩) n419 n419]) (by kernel_rfl) (fun w _ => by kernel_rfl) ?_
          refine LL.op (.pointer (some ⟨m416, 0, none⟩)) (by kernel_rfl) (fun w _ => by kernel_rfl) ?_
          refine LL.op (.slice (some ⟨g418, 0, none⟩) n419 n419) (by kernel_rfl) (fun w _ => by kernel_rfl) ?_
          refine LL.op (.pointer (some ⟨m416, 0, none⟩)) (by kernel_rfl) (fun w _ => by kernel_rfl) ?_
          refine LL.op (.slice (some ⟨g418, 0, none⟩) n419 n419) (by kernel_rfl) (fun w _ => by kernel_rfl) ?_
          refine LL.done (s' := [(0, .slice Aa0 a0.length ca0), (1, .slice Aa1 a1.length ca1), (6, .slice none 0 0), (7, .int .i64 0), (9, .slice Ax9l0 ((x9l0.set x12l0.toNat 0).length) cx9l0), (10, .pointer (some ⟨m416, 0, none⟩)), (11, .slice (some ⟨g418, 0, none⟩) n419 n419), (12, .int .i64 x12l0)]) [0, 1, 6, 7, 9, 10, 11, 12] (by kernel_rfl) ?_
          refine NN.then ?_
          refine J.plain ?_
          refine LL.op (.int .i64 (-1)) (by kernel_rfl) (fun w _ => by kernel_rfl) ?_
          refine LL.done (s' := [(0, .slice Aa0 a0.length ca0), (1, .slice Aa1 a1.length ca1), (6, .slice none 0 0), (7, .int .i64 0), (9, .slice Ax9l0 ((x9l0.set x12l0.toNat 0).length) cx9l0), (10, .pointer (some ⟨m416, 0, none⟩)), (11, .slice (some ⟨g418, 0, none⟩) n419 n419), (12, .int .i64 (-1))]) [0, 1, 6, 7, 9, 10, 11, 12] (by kernel_rfl) ?_
          refine NN.block_n ?_
          refine NN.then ?_
          refine J.plain ?_
          refine LL.op (.int .i64 (-1)) (by kernel_rfl) (fun w _ => by kernel_rfl) ?_
          refine LL.op (.int .i64 0) (by kernel_rfl) (fun w _ => by kernel_rfl) ?_
          refine LL.op (.int .i64 0) (by kernel_rfl) (fun w _ => by kernel_rfl) ?_
          refine LL.done (s' := [(0, .slice Aa0 a0.length ca0), (1, .slice Aa1 a1.length ca1), (6, .slice none 0 0), (7, .int .i64 0), (9, .slice Ax9l0 ((x9l0.set x12l0.toNat 0).length) cx9l0), (10, .pointer (some ⟨m416, 0, none⟩)), (11, .slice (some ⟨g418, 0, none⟩) n419 n419), (12, .int .i64 0)]) [0, 1, 6, 7, 9, 10, 11, 12] (by kernel_rfl) ?_
          exact NN.roundC [0, 1, 6, 7, 9, 10, 11, 12] (bs' := [(g418, cl (List.map eI x413_1) 3), (t417, mpO eI x413_2)] ++ ba411) le420 (Nat.lt_succ_self _) ((List.Sublist.cons_cons _ (List.Sublist.cons_cons _ (List.Sublist.cons _ (List.Sublist.cons _ (List.Sublist.refl _))))).append_right _) (by kernel_rfl) ⟨(x9l0.set x12l0.toNat 0), x413_2, x413_1, 0, Ax9l0, cx9l0, ba411, m416, t417, g418, n419, H, o412, k421, len422, rfl, rfl⟩
        · rw [if_neg (of_decide_eq_false c409)] at H
          refine J.condF (b := decide (e406 < e408)) c409 (by kernel_rfl) (by kernel_rfl) ?_
          refine J.skip ?_
          refine NN.block_n ?_
          refine NN.then ?_
          refine J.plain ?_
          refine LL.op (.int .i64 x12l0) (by kernel_rfl) (fun w _ => by kernel_rfl) ?_
          refine LL.op (.int .i64 (IntKind.i64.wrap (x12l0 + 1))) (by kernel_rfl) (fun w _ => by kernel_rfl) ?_
          refine LL.op (.int .i64 (IntKind.i64.wrap (x12l0 + 1))) (by kernel_rfl) (fun w _ => by kernel_rfl) ?_
          refine LL.done (s' := [(0, .slice Aa0 a0.length ca0), (1, .slice Aa1 a1.length ca1), (6, .slice none 0 0), (7, .int .i64 0), (9, .slice Ax9l0 x9l0.length cx9l0), (10, .pointer (some ⟨mx10l0, 0, none⟩)), (11, .slice (some ⟨gx11l0, 0, none⟩) nx11l0 nx11l0), (12, .int .i64 (IntKind.i64.wrap (x12l0 + 1)))]) [0, 1, 6, 7, 9, 10, 11, 12] (by kernel_rfl) ?_
          exact NN.roundC [0, 1, 6, 7, 9, 10, 11, 12] (bs' := [(gx11l0, cl (List.map eI x11l0) 3), (tx10l0, mpO eI x10l0)] ++ bax9l0) (Le.refl _) (Nat.lt_succ_self _) ((List.Sublist.refl _).append_right _) (by kernel_rfl) ⟨x9l0, x10l0, x11l0, IntKind.i64.wrap (x12l0 + 1), Ax9l0, cx9l0, bax9l0, mx10l0, tx10l0, gx11l0, nx11l0, H, ox9l0, kx10l0, lenx11l0, rfl, rfl⟩
      · rw [if_neg (of_decide_eq_false c407)] at H
        refine QQ.bool 42 (decide (0 < e406)) false c407 (by kernel_rfl) ?_
        refine QQ.off (by kernel_rfl) (by kernel_rfl) ?_
        refine QQ.off (by kernel_rfl) (by kernel_rfl) ?_
        refine QQ.off (by kernel_rfl) (by kernel_rfl) ?_
        refine QQ.off (by kernel_rfl) (by kernel_rfl) ?_
        refine QQ.off (by kernel_rfl) (by kernel_rfl) ?_
        refine QQ.off (by kernel_rfl) (by kernel_rfl) ?_
        refine QQ.off (by kernel_rfl) (by kernel_rfl) ?_
        refine QQ.off (by kernel_rfl) (by kernel_rfl) ?_
        refine QQ.off (by kernel_rfl) (by kernel_rfl) ?_
        refine QQ.op (.bool false) (by kernel_rfl) (fun w _ => by kernel_rfl) ?_
        refine QQ.done (s' := [(0, .slice Aa0 a0.length ca0), (1, .slice Aa1 a1.length ca1), (6, .slice none 0 0), (7, .int .i64 0), (9, .slice Ax9l0 x9l0.length cx9l0), (10, .pointer (some ⟨mx10l0, 0, none⟩)), (11, .slice (some ⟨gx11l0, 0, none⟩) nx11l0 nx11l0), (12, .int .i64 x12l0), (52, .bool false)]) [0, 1, 6, 7, 9, 10, 11, 12, 52] (by kernel_rfl) ?_
        refine NN.then ?_
        refine J.condF (b := false) rfl (by kernel_rfl) (by kernel_rfl) ?_
        refine J.skip ?_
        refine NN.block_n ?_
        refine NN.then ?_
        refine J.plain ?_
        refine LL.op (.int .i64 x12l0) (by kernel_rfl) (fun w _ => by kernel_rfl) ?_
        refine LL.op (.int .i64 (IntKind.i64.wrap (x12l0 + 1))) (by kernel_rfl) (fun w _ => by kernel_rfl) ?_
        refine LL.op (.int .i64 (IntKind.i64.wrap (x12l0 + 1))) (by kernel_rfl) (fun w _ => by kernel_rfl) ?_
        refine LL.done (s' := [(0, .slice Aa0 a0.length ca0), (1, .slice Aa1 a1.length ca1), (6, .slice none 0 0), (7, .int .i64 0), (9, .slice Ax9l0 x9l0.length cx9l0), (10, .pointer (some ⟨mx10l0, 0, none⟩)), (11, .slice (some ⟨gx11l0, 0, none⟩) nx11l0 nx11l0), (12, .int .i64 (IntKind.i64.wrap (x12l0 + 1)))]) [0, 1, 6, 7, 9, 10, 11, 12] (by kernel_rfl) ?_
        exact NN.roundC [0, 1, 6, 7, 9, 10, 11, 12] (bs' := [(gx11l0, cl (List.map eI x11l0) 3), (tx10l0, mpO eI x10l0)] ++ bax9l0) (Le.refl _) (Nat.lt_succ_self _) ((List.Sublist.refl _).append_right _) (by kernel_rfl) ⟨x9l0, x10l0, x11l0, IntKind.i64.wrap (x12l0 + 1), Ax9l0, cx9l0, bax9l0, mx10l0, tx10l0, gx11l0, nx11l0, H, ox9l0, kx10l0, lenx11l0, rfl, rfl⟩
    · rw [if_neg (of_decide_eq_false c405)] at H
      refine J.condF (b := decide (x12l0 < (x11l0.length : Int))) c405 (by kernel_rfl) (by kernel_rfl) ?_
      refine J.exit ?_
      refine NN.then_exit ?_
      refine NN.then_exit ?_
      refine NN.block_same ?_
      refine NN.then ?_
      refine J.seq ?_
      refine J.plain ?_
      refine LL.op (.slice none 0 0) (by kernel_rfl) (fun w _ => by kernel_rfl) ?_
      refine LL.done (s' := [(0, .slice Aa0 a0.length ca0), (6, .slice none 0 0), (7, .int .i64 0), (10, .pointer (some ⟨mx10l0, 0, none⟩)), (13, .slice none 0 0)]) [0, 6, 7, 10, 13] (by kernel_rfl) ?_
      refine NN.then ?_
      refine J.seq ?_
      refine J.seq ?_
      refine J.plain ?_
      refine LL.op (.slice Aa0 a0.length ca0) (by kernel_rfl) (fun w _ => by kernel_rfl) ?_
      obtain ⟨x424, hx424, H⟩ := bind_some H
      refine LL.call 33 #[.slice Aa0 a0.length ca0] (.int .i64 x424) (by kernel_rfl) (fun w => by kernel_rfl) (fun w hw => assign_columns.calls a0  _ _ _ w  (((ha0.le le399).le le404).at hw) hx424) ?_
      refine LL.op (.int .i64 0) (by kernel_rfl) (fun w _ => by kernel_rfl) ?_
      refine LL.done (s' := [(0, .slice Aa0 a0.length ca0), (6, .slice none 0 0), (7, .int .i64 0), (10, .pointer (some ⟨mx10l0, 0, none⟩)), (13, .slice none 0 0), (63, .int .i64 x424), (64, .int .i64 0)]) [0, 6, 7, 10, 13, 63, 64] (by kernel_rfl) ?_
      refine NN.then ?_
      refine J.block ?_
      refine J.to [0, 6, 7, 10, 13, 63, 64] (s' := [(0, .slice Aa0 a0.length ca0), (6, .slice none 0 0), (7, .int .i64 0), (10, .pointer (some ⟨mx10l0, 0, none⟩)), (13, .slice none 0 0), (63, .int .i64 x424), (64, .int .i64 0)]) (by kernel_rfl) ?_
      refine J.addnil ?_
      obtain ⟨kont425, hk425, H⟩ := kont_intro (P := fun q_ => assign_Best.l1 K a0 x424 q_ K ([] : List E3) 0 x10l0 = some (r1, r2)) H
      refine J.loop (fun n_ s_ bs_ => ∃ (x13l1 : List E3) (x64l1 : Int) (ztx10l0l1 : (Int → Option Int)) (Ax13l1 : Option Addr) (cx13l1 : Nat) (bax13l1 : Bs), assign_Best.l1 K a0 x424 kont425 n_ x13l1 x64l1 ztx10l0l1 = some (r1, r2) ∧ Own enc3 1 3 x13l1 Ax13l1 cx13l1 bax13l1 ∧ s_ = [(0, .slice Aa0 a0.length ca0), (6, .slice none 0 0), (7, .int .i64 0), (10, .pointer (some ⟨mx10l0, 0, none⟩)), (13, .slice Ax13l1 x13l1.length cx13l1), (63, .int .i64 x424), (64, .int .i64 x64l1)] ∧ [(gx11l0, cl (List.map eI x11l0) 3), (tx10l0, mpO eI ztx10l0l1)] ++ bax9l0 ++ bax13l1 = bs_) K ⟨([] : List E3), 0, x10l0, none, 0, [], H, (.nil none rfl), rfl, rfl⟩ ?_
      rintro (_ | n_) s_ bs_ ⟨x13l1, x64l1, ztx10l0l1, Ax13l1, cx13l1, bax13l1, H, ox13l1, rfl, rfl⟩
      · exact absurd H (by simp [assign_Best.l1])
      simp only [assign_Best.l1] at H
      refine J.seq ?_
      refine J.plain ?_
      refine LL.op (.bool (decide (x64l1 < x424))) (by kernel_rfl) (fun w _ => by kernel_rfl) ?_
      refine LL.done (s' := [(0, .slice Aa0 a0.length ca0), (6, .slice none 0 0), (7, .int .i64 0), (10, .pointer (some ⟨mx10l0, 0, none⟩)), (13, .slice Ax13l1 x13l1.length cx13l1), (63, .int .i64 x424), (64, .int .i64 x64l1), (65, .bool (decide (x64l1 < x424)))]) [0, 6, 7, 10, 13, 63, 64, 65] (by kernel_rfl) ?_
      refine NN.then ?_
      refine J.seq ?_
      rcases Bool.eq_false_or_eq_true (decide (x64l1 < x424)) with c427 | c427
      · rw [if_pos (of_decide_eq_true c427)] at H
        refine J.condT (b := decide (x64l1 < x424)) c427 (by kernel_rfl) (by kernel_rfl) ?_
        refine J.skip ?_
        refine NN.then ?_
        refine J.seq ?_
        refine J.block ?_
        refine J.seq ?_
        refine J.plain ?_
        refine LL.op (.int .i64 x64l1) (by kernel_rfl) (fun w _ => by kernel_rfl) ?_
        refine LL.op (.int .i64 x64l1) (by kernel_rfl) (fun w _ => by kernel_rfl) ?_
        refine LL.done (s' := [(0, .slice Aa0 a0.length ca0), (6, .slice none 0 0), (7, .int .i64 0), (10, .pointer (some ⟨mx10l0, 0, none⟩)), (13, .slice Ax13l1 x13l1.length cx13l1), (14, .int .i64 x64l1), (63, .int .i64 x424), (64, .int .i64 x64l1)]) [0, 6, 7, 10, 13, 14, 63, 64] (by kernel_rfl) ?_
        refine NN.then ?_
        refine J.seq ?_
        refine J.seq ?_
        refine J.plain ?_
        refine LL.op (.slice Aa0 a0.length ca0) (by kernel_rfl) (fun w _ => by kernel_rfl) ?_
        refine LL.op (.int .i64 (a0.length : Int)) (by kernel_rfl) (fun w _ => by kernel_rfl) ?_
        refine LL.op (.int .i64 0) (by kernel_rfl) (fun w _ => by kernel_rfl) ?_
        refine LL.done (s' := [(0, .slice Aa0 a0.length ca0), (6, .slice none 0 0), (7, .int .i64 0), (10, .pointer (some ⟨mx10l0, 0, none⟩)), (13, .slice Ax13l1 x13l1.length cx13l1), (14, .int .i64 x64l1), (63, .int .i64 x424), (64, .int .i64 x64l1), (68, .int .i64 (a0.length : Int)), (69, .int .i64 0)]) [0, 6, 7, 10, 13, 14, 63, 64, 68, 69] (by kernel_rfl) ?_
        refine NN.then ?_
        refine J.block ?_
        refine J.to [0, 6, 7, 10, 13, 14, 63, 64, 68, 69] (s' := [(0, .slice Aa0 a0.length ca0), (6, .slice none 0 0), (7, .int .i64 0), (10, .pointer (some ⟨mx10l0, 0, none⟩)), (13, .slice Ax13l1 x13l1.length cx13l1), (14, .int .i64 x64l1), (63, .int .i64 x424), (64, .int .i64 x64l1), (68, .int .i64 (a0.length : Int)), (69, .int .i64 0)]) (by kernel_rfl) ?_
        obtain ⟨kont428, hk428, H⟩ := kont_intro (P := fun q_ => assign_Best.l2 K a0 x64l1 q_ K 0 ztx10l0l1 = some (r1, r2)) H
        refine J.loop (fun n_ s_ bs_ => ∃ (x69l2 : Int) (ztx10l0l2 : (Int → Option Int)), assign_Best.l2 K a0 x64l1 kont428 n_ x69l2 ztx10l0l2 = some (r1, r2) ∧ s_ = [(0, .slice Aa0 a0.length ca0), (6, .slice none 0 0), (7, .int .i64 0), (10, .pointer (some ⟨mx10l0, 0, none⟩)), (13, .slice Ax13l1 x13l1.length cx13l1), (14, .int .i64 x64l1), (63, .int .i64 x424), (64, .int .i64 x64l1), (68, .int .i64 (a0.length : Int)), (69, .int .i64 x69l2)] ∧ [(gx11l0, cl (List.map eI x11l0) 3), (tx10l0, mpO eI ztx10l0l2)] ++ bax9l0 ++ bax13l1 = bs_) K ⟨0, ztx10l0l1, H, rfl, rfl⟩ ?_
        rintro (_ | n_) s_ bs_ ⟨x69l2, ztx10l0l2, H, rfl, rfl⟩
        · exact absurd H (by simp [assign_Best.l2])
        simp only [assign_Best.l2] at H
        refine J.seq ?_
        refine J.plain ?_
        refine LL.op (.bool (decide (x69l2 < (a0.length : Int)))) (by kernel_rfl) (fun w _ => by kernel_rfl) ?_
        refine LL.done (s' := [(0, .slice Aa0 a0.length ca0), (6, .slice none 0 0), (7, .int .i64 0), (10, .pointer (some ⟨mx10l0, 0, none⟩)), (13, .slice Ax13l1 x13l1.length cx13l1), (14, .int .i64 x64l1), (63, .int .i64 x424), (64, .int .i64 x64l1), (68, .int .i64 (a0.length : Int)), (69, .int .i64 x69l2), (70, .bool (decide (x69l2 < (a0.length : Int))))]) [0, 6, 7, 10, 13, 14, 63, 64, 68, 69, 70] (by kernel_rfl) ?_
        refine NN.then ?_
        refine J.seq ?_
        rcases Bool.eq_false_or_eq_true (decide (x69l2 < (a0.length : Int))) with c430 | c430
        · rw [if_pos (of_decide_eq_true c430)] at H
          refine J.condT (b := decide (x69l2 < (a0.length : Int))) c430 (by kernel_rfl) (by kernel_rfl) ?_
          refine J.skip ?_
          refine NN.then ?_
          refine J.seq ?_
          refine J.block ?_
          refine J.seq ?_
          refine J.plain ?_
          refine LL.op (.int .i64 x69l2) (by kernel_rfl) (fun w _ => by kernel_rfl) ?_
          refine LL.op (.int .i64 x69l2) (by kernel_rfl) (fun w _ => by kernel_rfl) ?_
          refine LL.done (s' := [(0, .slice Aa0 a0.length ca0), (6, .slice none 0 0), (7, .int .i64 0), (10, .pointer (some ⟨mx10l0, 0, none⟩)), (13, .slice Ax13l1 x13l1.length cx13l1), (14, .int .i64 x64l1), (15, .int .i64 x69l2), (63, .int .i64 x424), (64, .int .i64 x64l1), (68, .int .i64 (a0.length : Int)), (69, .int .i64 x69l2)]) [0, 6, 7, 10, 13, 14, 15, 63, 64, 68, 69] (by kernel_rfl) ?_
          refine NN.then ?_
          refine J.seq ?_
          refine J.plain ?_
          refine LL.op (.int .i64 x69l2) (by kernel_rfl) (fun w _ => by kernel_rfl) ?_
          refine LL.op (.pointer (some ⟨mx10l0, 0, none⟩)) (by kernel_rfl) (fun w _ => by kernel_rfl) ?_
          refine LL.op (.int .i64 x64l1) (by kernel_rfl) (fun w _ => by kernel_rfl) ?_
          obtain ⟨x431, hx431, H⟩ := bind_some H
          refine LL.call 34 #[.pointer (some ⟨mx10l0, 0, none⟩), .int .i64 x64l1] (.int .i64 x431) (by kernel_rfl) (fun w => by kernel_rfl) (fun w hw => assign_market_holder.calls a0 ztx10l0l2 x64l1 mx10l0 tx10l0 Aa0 ca0 _ w (((ha0.le le399).le le404).at hw) (kx10l0.at hw) (hw.blkAt (i := 1) rfl) hx431) ?_
          refine LL.op (.bool (x69l2 == x431)) (by kernel_rfl) (fun w _ => by kernel_rfl) ?_
          refine LL.op (.bool (x69l2 == x431)) (by kernel_rfl) (fun w _ => by kernel_rfl) ?_
          rcases Bool.eq_false_or_eq_true ((x69l2 == x431)) with c432 | c432
          · rw [if_pos (eq_of_beq c432)] at H
            refine LL.bool 77 ((x69l2 == x431)) true c432 (by kernel_rfl) ?_
            refine LL.off (by kernel_rfl) (by kernel_rfl) ?_
            refine LL.off (by kernel_rfl) (by kernel_rfl) ?_
            refine LL.off (by kernel_rfl) (by kernel_rfl) ?_
            refine LL.off (by kernel_rfl) (by kernel_rfl) ?_
            refine LL.op (.bool true) (by kernel_rfl) (fun w _ => by kernel_rfl) ?_
            refine LL.done (s' := [(0, .slice Aa0 a0.length ca0), (6, .slice none 0 0), (7, .int .i64 0), (10, .pointer (some ⟨mx10l0, 0, none⟩)), (13, .slice Ax13l1 x13l1.length cx13l1), (14, .int .i64 x64l1), (63, .int .i64 x424), (64, .int .i64 x64l1), (68, .int .i64 (a0.length : Int)), (69, .int .i64 x69l2), (82, .bool true)]) [0, 6, 7, 10, 13, 14, 63, 64, 68, 69, 82] (by kernel_rfl) ?_
            refine NN.then ?_
            refine J.condT (b := true) rfl (by kernel_rfl) (by kernel_rfl) ?_
            refine J.exit ?_
            refine NN.block_other (by decide) ?_
            refine NN.then_exit ?_
            rw [← hk428] at H
            (try dsimp only at H)
            refine NN.then_exit ?_
            refine NN.block_same ?_
            refine NN.then ?_
            refine J.plain ?_
            refine LL.op (.slice Ax13l1 x13l1.length cx13l1) (by kernel_rfl) (fun w _ => by kernel_rfl) ?_
            refine LL.op (.pointer (some ⟨mx10l0, 0, none⟩)) (by kernel_rfl) (fun w _ => by kernel_rfl) ?_
            refine LL.op (.int .i64 x64l1) (by kernel_rfl) (fun w _ => by kernel_rfl) ?_
            obtain ⟨x2433, hx2433, H⟩ := bind_some H
            refine LL.call 34 #[.pointer (some ⟨mx10l0, 0, none⟩), .int .i64 x64l1] (.int .i64 x2433) (by kernel_rfl) (fun w => by kernel_rfl) (fun w hw => assign_market_holder.calls a0 ztx10l0l2 x64l1 mx10l0 tx10l0 Aa0 ca0 _ w (((ha0.le le399).le le404).at hw) (kx10l0.at hw) (hw.blkAt (i := 1) rfl) hx2433) ?_
            refine LL.lit 24 1 #[(0, .tmp 87)] [.int .i64 x2433] 3 ([x2433] : List E3) (by kernel_rfl) rfl (by kernel_rfl) ok3.len rfl rfl (fun R2434 F2435 A2436 c2437 le2438 k2439 fr2440 => ?_)
            obtain ⟨y2442, hy2442, H⟩ := bind_some H
            refine LL.app (l2 := ([x2433] : List E3)) (cap := cx13l1) (c2 := c2437) ([(gx11l0, cl (List.map eI x11l0) 3), (tx10l0, mpO eI ztx10l0l2)] ++ bax9l0) (.tmp 84) (.tmp 88) el24 ok3 ox13l1 k2439 hy2442 (by kernel_rfl) rfl (by kernel_rfl) (by kernel_rfl) (fun A2443 c2444 ba2445 o2446 => ?_)
            refine LL.op (.slice A2443 y2442.length c2444) (by kernel_rfl) (fun w _ => by kernel_rfl) ?_
            refine LL.done (s' := [(0, .slice Aa0 a0.length ca0), (6, .slice none 0 0), (7, .int .i64 0), (10, .pointer (some ⟨mx10l0, 0, none⟩)), (13, .slice A2443 y2442.length c2444), (63, .int .i64 x424), (64, .int .i64 x64l1)]) [0, 6, 7, 10, 13, 63, 64] (by kernel_rfl) ?_
            refine NN.block_n ?_
            refine NN.then ?_
            refine J.plain ?_
            refine LL.op (.int .i64 (IntKind.i64.wrap (x64l1 + 1))) (by kernel_rfl) (fun w _ => by kernel_rfl) ?_
            refine LL.op (.int .i64 (IntKind.i64.wrap (x64l1 + 1))) (by kernel_rfl) (fun w _ => by kernel_rfl) ?_
            refine LL.done (s' := [(0, .slice Aa0 a0.length ca0), (6, .slice none 0 0), (7, .int .i64 0), (10, .pointer (some ⟨mx10l0, 0, none⟩)), (13, .slice A2443 y2442.length c2444), (63, .int .i64 x424), (64, .int .i64 (IntKind.i64.wrap (x64l1 + 1)))]) [0, 6, 7, 10, 13, 63, 64] (by kernel_rfl) ?_
            exact NN.roundR [0, 6, 7, 10, 13, 63, 64] (bs' := [(gx11l0, cl (List.map eI x11l0) 3), (tx10l0, mpO eI ztx10l0l2)] ++ bax9l0 ++ ba2445) (fun _ _ h => (h.back le2438)) (Nat.lt_succ_self _) (((List.Sublist.refl _).append_right _).append_right _) (by kernel_rfl) ⟨y2442, IntKind.i64.wrap (x64l1 + 1), ztx10l0l2, A2443, c2444, ba2445, H, o2446, rfl, rfl⟩
          · rw [if_neg (nebf c432)] at H
            refine LL.bool 77 ((x69l2 == x431)) false c432 (by kernel_rfl) ?_
            refine LL.op (.pointer (some ⟨mx10l0, 0, none⟩)) (by kernel_rfl) (fun w _ => by kernel_rfl) ?_
            refine LL.op (.int .i64 x64l1) (by kernel_rfl) (fun w _ => by kernel_rfl) ?_
            refine LL.op (.int .i64 x69l2) (by kernel_rfl) (fun w _ => by kernel_rfl) ?_
            obtain ⟨⟨x433_1, x433_2⟩, hx433, H⟩ := bind_some H
            (try dsimp only at H)
            refine LL.perm (bs' := [(tx10l0, mpO eI ztx10l0l2), (gx11l0, cl (List.map eI x11l0) 3)] ++ bax9l0 ++ bax13l1) (List.Perm.append_right _ (List.Perm.swap _ _ _)) ?_
            refine LL.callM 35 #[.pointer (some ⟨mx10l0, 0, none⟩), .int .i64 x64l1, .int .i64 x69l2] (.bool x433_1) ([(tx10l0, mpO eI x433_2), (gx11l0, cl (List.map eI x11l0) 3)] ++ bax9l0 ++ bax13l1) (by kernel_rfl) (fun w => by kernel_rfl) (fun w hw => assign_market_prefer.calls K a0 ztx10l0l2 x64l1 x69l2 mx10l0 tx10l0 Aa0 ca0 _ ([(gx11l0, cl (List.map eI x11l0) 3)] ++ bax9l0 ++ bax13l1) _ _ w ((ha0.le le399).le le404) kx10l0 hw hx433) ?_
            refine LL.op (.bool x433_1) (by kernel_rfl) (fun w _ => by kernel_rfl) ?_
            refine LL.done (s' := [(0, .slice Aa0 a0.length ca0), (6, .slice none 0 0), (7, .int .i64 0), (10, .pointer (some ⟨mx10l0, 0, none⟩)), (13, .slice Ax13l1 x13l1.length cx13l1), (14, .int .i64 x64l1), (63, .int .i64 x424), (64, .int .i64 x64l1), (68, .int .i64 (a0.length : Int)), (69, .int .i64 x69l2), (82, .bool x433_1)]) [0, 6, 7, 10, 13, 14, 63, 64, 68, 69, 82] (by kernel_rfl) ?_
            refine NN.then ?_
            rcases Bool.eq_false_or_eq_true (x433_1) with c434 | c434
            · rw [if_pos (c434)] at H
              refine J.condT (b := x433_1) c434 (by kernel_rfl) (by kernel_rfl) ?_
              refine J.exit ?_
              refine NN.block_other (by decide) ?_
              refine NN.then_exit ?_
              rw [← hk428] at H
              (try dsimp only at H)
              refine NN.then_exit ?_
              refine NN.block_same ?_
              refine NN.then ?_
              refine J.plain ?_
              refine LL.op (.slice Ax13l1 x13l1.length cx13l1) (by kernel_rfl) (fun w _ => by kernel_rfl) ?_
              refine LL.op (.pointer (some ⟨mx10l0, 0, none⟩)) (by kernel_rfl) (fun w _ => by kernel_rfl) ?_
              refine LL.op (.int .i64 x64l1) (by kernel_rfl) (fun w _ => by kernel_rfl) ?_
              obtain ⟨x2433, hx2433, H⟩ := bind_some H
              refine LL.call 34 #[.pointer (some ⟨mx10l0, 0, none⟩), .int .i64 x64l1] (.int .i64 x2433) (by kernel_rfl) (fun w => by kernel_rfl) (fun w hw => assign_market_holder.calls a0 x433_2 x64l1 mx10l0 tx10l0 Aa0 ca0 _ w (((ha0.le le399).le le404).at hw) (kx10l0.at hw) (hw.blkAt (i := 0) rfl) hx2433) ?_
              refine LL.lit 24 1 #[(0, .tmp 87)] [.int .i64 x2433] 3 ([x2433] : List E3) (by kernel_rfl) rfl (by kernel_rfl) ok3.len rfl rfl (fun R2434 F2435 A2436 c2437 le2438 k2439 fr2440 => ?_)
              obtain ⟨y2442, hy2442, H⟩ := bind_some H
              refine LL.app (l2 := ([x2433] : List E3)) (cap := cx13l1) (c2 := c2437) ([(tx10l0, mpO eI x433_2), (gx11l0, cl (List.map eI x11l0) 3)] ++ bax9l0) (.tmp 84) (.tmp 88) el24 ok3 ox13l1 k2439 hy2442 (by kernel_rfl) rfl (by kernel_rfl) (by kernel_rfl) (fun A2443 c2444 ba2445 o2446 => ?_)
              refine LL.op (.slice A2443 y2442.length c2444) (by kernel_rfl) (fun w _ => by kernel_rfl) ?_
              refine LL.done (s' := [(0, .slice Aa0 a0.length ca0), (6, .slice none 0 0), (7, .int .i64 0), (10, .pointer (some ⟨mx10l0, 0, none⟩)), (13, .slice A2443 y2442.length c2444), (63, .int .i64 x424), (64, .int .i64 x64l1)]) [0, 6, 7, 10, 13, 63, 64] (by kernel_rfl) ?_
              refine NN.block_n ?_
              refine NN.then ?_
              refine J.plain ?_
              refine LL.op (.int .i64 (IntKind.i64.wrap (x64l1 + 1))) (by kernel_rfl) (fun w _ => by kernel_rfl) ?_
              refine LL.op (.int .i64 (IntKind.i64.wrap (x64l1 + 1))) (by kernel_rfl) (fun w _ => by kernel_rfl) ?_
              refine LL.done (s' := [(0, .slice Aa0 a0.length ca0), (6, .slice none 0 0), (7, .int .i64 0), (10, .pointer (some ⟨mx10l0, 0, none⟩)), (13, .slice A2443 y2442.length c2444), (63, .int .i64 x424), (64, .int .i64 (IntKind.i64.wrap (x64l1 + 1)))]) [0, 6, 7, 10, 13, 63, 64] (by kernel_rfl) ?_
              refine NN.perm (bs' := [(gx11l0, cl (List.map eI x11l0) 3), (tx10l0, mpO eI x433_2)] ++ bax9l0 ++ ba2445) (List.Perm.append_right _ (List.Perm.swap _ _ _)) ?_
              exact NN.roundR [0, 6, 7, 10, 13, 63, 64] (bs' := [(gx11l0, cl (List.map eI x11l0) 3), (tx10l0, mpO eI x433_2)] ++ bax9l0 ++ ba2445) (fun _ _ h => (h.back le2438)) (Nat.lt_succ_self _) (((List.Sublist.refl _).append_right _).append_right _) (by kernel_rfl) ⟨y2442, IntKind.i64.wrap (x64l1 + 1), x433_2, A2443, c2444, ba2445, H, o2446, rfl, rfl⟩
            · rw [if_neg (nebt c434)] at H
              refine J.condF (b := x433_1) c434 (by kernel_rfl) (by kernel_rfl) ?_
              refine J.skip ?_
              refine NN.block_n ?_
              refine NN.then ?_
              refine J.plain ?_
              refine LL.op (.int .i64 (IntKind.i64.wrap (x69l2 + 1))) (by kernel_rfl) (fun w _ => by kernel_rfl) ?_
              refine LL.op (.int .i64 (IntKind.i64.wrap (x69l2 + 1))) (by kernel_rfl) (fun w _ => by kernel_rfl) ?_
              refine LL.done (s' := [(0, .slice Aa0 a0.length ca0), (6, .slice none 0 0), (7, .int .i64 0), (10, .pointer (some ⟨mx10l0, 0, none⟩)), (13, .slice Ax13l1 x13l1.length cx13l1), (14, .int .i64 x64l1), (63, .int .i64 x424), (64, .int .i64 x64l1), (68, .int .i64 (a0.length : Int)), (69, .int .i64 (IntKind.i64.wrap (x69l2 + 1)))]) [0, 6, 7, 10, 13, 14, 63, 64, 68, 69] (by kernel_rfl) ?_
              refine NN.perm (bs' := [(gx11l0, cl (List.map eI x11l0) 3), (tx10l0, mpO eI x433_2)] ++ bax9l0 ++ bax13l1) (List.Perm.append_right _ (List.Perm.swap _ _ _)) ?_
              exact NN.round' [0, 6, 7, 10, 13, 14, 63, 64, 68, 69] (bs' := [(gx11l0, cl (List.map eI x11l0) 3), (tx10l0, mpO eI x433_2)] ++ bax9l0 ++ bax13l1) (Nat.lt_succ_self _) (((List.Sublist.refl _).append_right _).append_right _) (by kernel_rfl) ⟨IntKind.i64.wrap (x69l2 + 1), x433_2, H, rfl, rfl⟩
        · rw [if_neg (of_decide_eq_false c430)] at H
          refine J.condF (b := decide (x69l2 < (a0.length : Int))) c430 (by kernel_rfl) (by kernel_rfl) ?_
          refine J.exit ?_
          refine NN.then_exit ?_
          rw [← hk428] at H
          (try dsimp only at H)
          refine NN.then_exit ?_
          refine NN.block_same ?_
          refine NN.then ?_
          refine J.plain ?_
          refine LL.op (.slice Ax13l1 x13l1.length cx13l1) (by kernel_rfl) (fun w _ => by kernel_rfl) ?_
          refine LL.op (.pointer (some ⟨mx10l0, 0, none⟩)) (by kernel_rfl) (fun w _ => by kernel_rfl) ?_
          refine LL.op (.int .i64 x64l1) (by kernel_rfl) (fun w _ => by kernel_rfl) ?_
          obtain ⟨x2433, hx2433, H⟩ := bind_some H
          refine LL.call 34 #[.pointer (some ⟨mx10l0, 0, none⟩), .int .i64 x64l1] (.int .i64 x2433) (by kernel_rfl) (fun w => by kernel_rfl) (fun w hw => assign_market_holder.calls a0 ztx10l0l2 x64l1 mx10l0 tx10l0 Aa0 ca0 _ w (((ha0.le le399).le le404).at hw) (kx10l0.at hw) (hw.blkAt (i := 1) rfl) hx2433) ?_
          refine LL.lit 24 1 #[(0, .tmp 87)] [.int .i64 x2433] 3 ([x2433] : List E3) (by kernel_rfl) rfl (by kernel_rfl) ok3.len rfl rfl (fun R2434 F2435 A2436 c2437 le2438 k2439 fr2440 => ?_)
          obtain ⟨y2442, hy2442, H⟩ := bind_some H
          refine LL.app (l2 := ([x2433] : List E3)) (cap := cx13l1) (c2 := c2437) ([(gx11l0, cl (List.map eI x11l0) 3), (tx10l0, mpO eI ztx10l0l2)] ++ bax9l0) (.tmp 84) (.tmp 88) el24 ok3 ox13l1 k2439 hy2442 (by kernel_rfl) rfl (by kernel_rfl) (by kernel_rfl) (fun A2443 c2444 ba2445 o2446 => ?_)
          refine LL.op (.slice A2443 y2442.length c2444) (by kernel_rfl) (fun w _ => by kernel_rfl) ?_
          refine LL.done (s' := [(0, .slice Aa0 a0.length ca0), (6, .slice none 0 0), (7, .int .i64 0), (10, .pointer (some ⟨mx10l0, 0, none⟩)), (13, .slice A2443 y2442.length c2444), (63, .int .i64 x424), (64, .int .i64 x64l1)]) [0, 6, 7, 10, 13, 63, 64] (by kernel_rfl) ?_
          refine NN.block_n ?_
          refine NN.then ?_
          refine J.plain ?_
          refine LL.op (.int .i64 (IntKind.i64.wrap (x64l1 + 1))) (by kernel_rfl) (fun w _ => by kernel_rfl) ?_
          refine LL.op (.int .i64 (IntKind.i64.wrap (x64l1 + 1))) (by kernel_rfl) (fun w _ => by kernel_rfl) ?_
          refine LL.done (s' := [(0, .slice Aa0 a0.length ca0), (6, .slice none 0 0), (7, .int .i64 0), (10, .pointer (some ⟨mx10l0, 0, none⟩)), (13, .slice A2443 y2442.length c2444), (63, .int .i64 x424), (64, .int .i64 (IntKind.i64.wrap (x64l1 + 1)))]) [0, 6, 7, 10, 13, 63, 64] (by kernel_rfl) ?_
          exact NN.roundR [0, 6, 7, 10, 13, 63, 64] (bs' := [(gx11l0, cl (List.map eI x11l0) 3), (tx10l0, mpO eI ztx10l0l2)] ++ bax9l0 ++ ba2445) (fun _ _ h => (h.back le2438)) (Nat.lt_succ_self _) (((List.Sublist.refl _).append_right _).append_right _) (by kernel_rfl) ⟨y2442, IntKind.i64.wrap (x64l1 + 1), ztx10l0l2, A2443, c2444, ba2445, H, o2446, rfl, rfl⟩
      · rw [if_neg (of_decide_eq_false c427)] at H
        refine J.condF (b := decide (x64l1 < x424)) c427 (by kernel_rfl) (by kernel_rfl) ?_
        refine J.exit ?_
        refine NN.then_exit ?_
        rw [← hk425] at H
        (try dsimp only at H)
        refine NN.then_exit ?_
        refine NN.block_same ?_
        refine NN.then ?_
        refine J.seq ?_
        refine J.plain ?_
        refine LL.op (.slice Ax13l1 x13l1.length cx13l1) (by kernel_rfl) (fun w _ => by kernel_rfl) ?_
        refine LL.op (.slice Ax13l1 x13l1.length cx13l1) (by kernel_rfl) (fun w _ => by kernel_rfl) ?_
        refine LL.op (.int .i64 0) (by kernel_rfl) (fun w _ => by kernel_rfl) ?_
        refine LL.done (s' := [(6, .slice Ax13l1 x13l1.length cx13l1), (7, .int .i64 0)]) [6, 7] (by kernel_rfl) ?_
        refine NN.then ?_
        refine J.ret ?_
        first | (obtain rfl := Option.some.inj H) | (simp only [Option.some.injEq, Prod.mk.injEq] at H; obtain ⟨rfl, rfl⟩ := H)
        refine NN.fin2 6 7 (.slice Ax13l1 x13l1.length cx13l1) (.int .i64 0) (by kernel_rfl) (by kernel_rfl) (by kernel_rfl) (.inl rfl) (fun w hi => hi.retOwn (pre := ([(gx11l0, cl (List.map eI x11l0) 3), (tx10l0, mpO eI ztx10l0l1)] ++ bax9l0)) ok3 ox13l1 rfl)
  · rw [if_neg (nebf c385)] at H
    refine J.condT (b := !(x384 == 0)) (by rw [show (!(x384 == 0)) = !((x384 == 0)) from rfl, c385]; rfl) (by kernel_rfl) (by kernel_rfl) ?_
    refine J.seq ?_
    refine J.plain ?_
    refine LL.op (.int .i64 x384) (by kernel_rfl) (fun w _ => by kernel_rfl) ?_
    refine LL.op (.slice none 0 0) (by kernel_rfl) (fun w _ => by kernel_rfl) ?_
    refine LL.op (.int .i64 x384) (by kernel_rfl) (fun w _ => by kernel_rfl) ?_
    refine LL.done (s' := [(0, .slice Aa0 a0.length ca0), (1, .slice Aa1 a1.length ca1), (2, .slice Aa2 a2.length ca2), (6, .slice none 0 0), (7, .int .i64 x384)]) [0, 1, 2, 6, 7] (by kernel_rfl) ?_
    refine NN.then ?_
    refine J.ret ?_
    refine NN.then_ret ?_
    first | (obtain rfl := Option.some.inj H) | (simp only [Option.some.injEq, Prod.mk.injEq] at H; obtain ⟨rfl, rfl⟩ := H)
    refine NN.fin2 6 7 (.slice none 0 0) (.int .i64 x384) (by kernel_rfl) (by kernel_rfl) (by kernel_rfl) (.inl rfl) (fun w hi => hi.retNil rfl)

/-! ### sawmillref48_counts: function 51 -/
def sawmillref48_counts.l1 (K : Nat) (a0 : List (List E4)) (a1 : List E3) (x7l0 : Int) (kont_ : (List E3) → (List E3) → Option ((List E3))) : Nat → List E3 → List E3 → Option ((List E3))
  | 0, _, _ => none
  | k + 1, zg442l1, zg437l1 => (idx zg442l1 x7l0).bind fun e449 => ((idx a1 x7l0).bind fun e450 => (if e449 < e450 then ((mk (zg437l1.length : Int) false).bind fun y452 => ((sawmillref48_augment.f K a0 x7l0 zg437l1 y452 0).bind fun bx455 => (if bx455.1 = true then (sawmillref48_counts.l1 K a0 a1 x7l0 kont_ k (zg442l1.set x7l0.toNat (IntKind.i64.wrap (e449 + 1))) bx455.2.2) else (kont_ zg442l1 bx455.2.2)))) else (kont_ zg442l1 zg437l1)))
def sawmillref48_counts.l0 (K : Nat) (a0 : List (List E4)) (a1 : List E3) : Nat → Int → List E3 → List E3 → Option ((List E3))
  | 0, _, _, _ => none
  | k + 1, x7l0, zg442l0, zg437l0 => if x7l0 < (a0.length : Int) then (sawmillref48_counts.l1 K a0 a1 x7l0 (fun (zg442l1 : List E3) (zg437l1 : List E3) => sawmillref48_counts.l0 K a0 a1 k (IntKind.i64.wrap (x7l0 + 1)) zg442l1 zg437l1) K zg442l0 zg437l0) else (some zg442l0)
def sawmillref48_counts.f (K : Nat) (a0 : List (List E4)) (a1 : List E3) : Option ((List E3)) := (sawmillref48_boards.f a0).bind fun x435 => ((sawmillref48_none.f K x435).bind fun x436 => ((mk (a0.length : Int) (0 : Int)).bind fun y441 => (sawmillref48_counts.l0 K a0 a1 K 0 y441 x436)))
set_option maxRecDepth 100000 in
theorem sawmillref48_counts.calls (K : Nat) (a0 : List (List E4)) (a1 : List E3)  (Aa0 : Option Addr) (ca0 : Nat) (Aa1 : Option Addr) (ca1 : Nat)  (r1 : List E3) (w : World)   (ha0 : KRow2 (Cx.start w) enc4 1 a0 Aa0) (ha1 : KRow (Cx.start w) enc3 1 a1 Aa1) (h : sawmillref48_counts.f K a0 a1 = some r1) :
    Calls Try.prog 51 #[.slice Aa0 a0.length ca0, .slice Aa1 a1.length ca1] w (RetR w enc3 1 r1 (fun A_ c_ => .slice A_ r1.length c_)) := by
  have H := h
  clear h
  unfold sawmillref48_counts.f at H
  refine Go.Saw.calls (args := [.slice Aa0 a0.length ca0, .slice Aa1 a1.length ca1]) Try.func51 rfl Try.ntmps51 (by kernel_rfl) ?_
  refine J.seq ?_
  refine J.plain ?_
  refine LL.op (.slice none 0 0) (by kernel_rfl) (fun w _ => by kernel_rfl) ?_
  refine LL.done (s' := [(0, .slice Aa0 a0.length ca0), (1, .slice Aa1 a1.length ca1), (4, .slice none 0 0)]) [0, 1, 4] (by kernel_rfl) ?_
  refine NN.then ?_
  refine J.seq ?_
  refine J.plain ?_
  refine LL.op (.slice Aa0 a0.length ca0) (by kernel_rfl) (fun w _ => by kernel_rfl) ?_
  obtain ⟨x435, hx435, H⟩ := bind_some H
  refine LL.call 40 #[.slice Aa0 a0.length ca0] (.int .i64 x435) (by kernel_rfl) (fun w => by kernel_rfl) (fun w hw => sawmillref48_boards.calls a0  _ _ _ w  (ha0.at hw) hx435) ?_
  obtain ⟨x436, hx436, H⟩ := bind_some H
  refine LL.callMade 55 #[.int .i64 x435] x436 (by kernel_rfl) (fun w => by kernel_rfl) (fun w hw => sawmillref48_none.calls K x435 w _ hx436) (fun g437 n438 len439 => ?_)
  refine LL.op (.slice (some ⟨g437, 0, none⟩) n438 n438) (by kernel_rfl) (fun w _ => by kernel_rfl) ?_
  refine LL.done (s' := [(0, .slice Aa0 a0.length ca0), (1, .slice Aa1 a1.length ca1), (4, .slice none 0 0), (5, .slice (some ⟨g437, 0, none⟩) n438 n438)]) [0, 1, 4, 5] (by kernel_rfl) ?_
  refine NN.then ?_
  refine J.seq ?_
  refine J.plain ?_
  refine LL.op (.slice Aa0 a0.length ca0) (by kernel_rfl) (fun w _ => by kernel_rfl) ?_
  refine LL.op (.int .i64 (a0.length : Int)) (by kernel_rfl) (fun w _ => by kernel_rfl) ?_
  obtain ⟨y441, hy441, H⟩ := bind_some H
  refine LL.mk (e1 := eI) mk3 hy441 (by kernel_rfl) rfl (by kernel_rfl) (by kernel_rfl) (fun g442 => ?_)
  refine LL.op (.slice (some ⟨g442, 0, none⟩) y441.length y441.length) (by kernel_rfl) (fun w _ => by kernel_rfl) ?_
  refine LL.done (s' := [(0, .slice Aa0 a0.length ca0), (1, .slice Aa1 a1.length ca1), (4, .slice none 0 0), (5, .slice (some ⟨g437, 0, none⟩) n438 n438), (6, .slice (some ⟨g442, 0, none⟩) y441.length y441.length)]) [0, 1, 4, 5, 6] (by kernel_rfl) ?_
  refine NN.then ?_
  refine J.seq ?_
  refine J.seq ?_
  refine J.plain ?_
  refine LL.op (.int .i64 0) (by kernel_rfl) (fun w _ => by kernel_rfl) ?_
  refine LL.done (s' := [(0, .slice Aa0 a0.length ca0), (1, .slice Aa1 a1.length ca1), (4, .slice none 0 0), (5, .slice (some ⟨g437, 0, none⟩) n438 n438), (6, .slice (some ⟨g442, 0, none⟩) y441.length y441.length), (7, .int .i64 0)]) [0, 1, 4, 5, 6, 7] (by kernel_rfl) ?_
  refine NN.then ?_
  refine J.block ?_
  refine J.to [0, 1, 4, 5, 6, 7] (s' := [(0, .slice Aa0 a0.length ca0), (1, .slice Aa1 a1.length ca1), (4, .slice none 0 0), (5, .slice (some ⟨g437, 0, none⟩) n438 n438), (6, .slice (some ⟨g442, 0, none⟩) y441.length y441.length), (7, .int .i64 0)]) (by kernel_rfl) ?_
  refine J.loop (fun n_ s_ bs_ => ∃ (x7l0 : Int) (zg442l0 : List E3) (zg437l0 : List E3), sawmillref48_counts.l0 K a0 a1 n_ x7l0 zg442l0 zg437l0 = some r1 ∧ zg442l0.length = y441.length ∧ zg437l0.length = n438 ∧ s_ = [(0, .slice Aa0 a0.length ca0), (1, .slice Aa1 a1.length ca1), (4, .slice none 0 0), (5, .slice (some ⟨g437, 0, none⟩) n438 n438), (6, .slice (some ⟨g442, 0, none⟩) y441.length y441.length), (7, .int .i64 x7l0)] ∧ [(g442, cl (List.map eI zg442l0) 3), (g437, cl (List.map eI zg437l0) 3)] = bs_) K ⟨0, y441, x436, H, rfl, len439, rfl, rfl⟩ ?_
  rintro (_ | n_) s_ bs_ ⟨x7l0, zg442l0, zg437l0, H, lenzg442l0, lenzg437l0, rfl, rfl⟩
  · exact absurd H (by simp [sawmillref48_counts.l0])
  simp only [sawmillref48_counts.l0] at H
  refine J.seq ?_
  refine J.seq ?_
  refine J.plain ?_
  refine LL.op (.int .i64 x7l0) (by kernel_rfl) (fun w _ => by kernel_rfl) ?_
  refine LL.op (.slice Aa0 a0.length ca0) (by kernel_rfl) (fun w _ => by kernel_rfl) ?_
  refine LL.op (.int .i64 (a0.length : Int)) (by kernel_rfl) (fun w _ => by kernel_rfl) ?_
  refine LL.op (.bool (decide (x7l0 < (a0.length : Int)))) (by kernel_rfl) (fun w _ => by kernel_rfl) ?_
  refine LL.done (s' := [(0, .slice Aa0 a0.length ca0), (1, .slice Aa1 a1.length ca1), (4, .slice none 0 0), (5, .slice (some ⟨g437, 0, none⟩) n438 n438), (6, .slice (some ⟨g442, 0, none⟩) y441.length y441.length), (7, .int .i64 x7l0), (17, .bool (decide (x7l0 < (a0.length : Int))))]) [0, 1, 4, 5, 6, 7, 17] (by kernel_rfl) ?_
  refine NN.then ?_
  rcases Bool.eq_false_or_eq_true (decide (x7l0 < (a0.length : Int))) with c446 | c446
  · rw [if_pos (of_decide_eq_true c446)] at H
    refine J.condT (b := decide (x7l0 < (a0.length : Int))) c446 (by kernel_rfl) (by kernel_rfl) ?_
    refine J.skip ?_
    refine NN.then ?_
    refine J.seq ?_
    refine J.block ?_
    refine J.block ?_
    refine J.to [0, 1, 4, 5, 6, 7] (s' := [(0, .slice Aa0 a0.length ca0), (1, .slice Aa1 a1.length ca1), (4, .slice none 0 0), (5, .slice (some ⟨g437, 0, none⟩) n438 n438), (6, .slice (some ⟨g442, 0, none⟩) y441.length y441.length), (7, .int .i64 x7l0)]) (by kernel_rfl) ?_
    obtain ⟨kont447, hk447, H⟩ := kont_intro (P := fun q_ => sawmillref48_counts.l1 K a0 a1 x7l0 q_ K zg442l0 zg437l0 = some r1) H
    refine J.loop (fun n_ s_ bs_ => ∃ (zg442l1 : List E3) (zg437l1 : List E3), sawmillref48_counts.l1 K a0 a1 x7l0 kont447 n_ zg442l1 zg437l1 = some r1 ∧ zg442l1.length = y441.length ∧ zg437l1.length = n438 ∧ s_ = [(0, .slice Aa0 a0.length ca0), (1, .slice Aa1 a1.length ca1), (4, .slice none 0 0), (5, .slice (some ⟨g437, 0, none⟩) n438 n438), (6, .slice (some ⟨g442, 0, none⟩) y441.length y441.length), (7, .int .i64 x7l0)] ∧ [(g442, cl (List.map eI zg442l1) 3), (g437, cl (List.map eI zg437l1) 3)] = bs_) K ⟨zg442l0, zg437l0, H, lenzg442l0, lenzg437l0, rfl, rfl⟩ ?_
    rintro (_ | n_) s_ bs_ ⟨zg442l1, zg437l1, H, lenzg442l1, lenzg437l1, rfl, rfl⟩
    · exact absurd H (by simp [sawmillref48_counts.l1])
    simp only [sawmillref48_counts.l1] at H
    refine J.seq ?_
    refine J.seq ?_
    obtain ⟨e449, he449, H⟩ := bind_some H
    obtain ⟨e450, he450, H⟩ := bind_some H
    refine J.heldBut [(g442, cl (List.map eI zg442l1) 3)] follows ?_
    refine HH.take 0 (.slice (some ⟨g442, 0, none⟩) y441.length y441.length) rfl (by kernel_rfl) (by kernel_rfl) (fun _ h => h.sub (List.Sublist.cons_cons _ (List.Sublist.cons _ (List.Sublist.refl _)))) (fun w _ => by kernel_rfl) ?_
    refine HH.take 1 (.int .i64 x7l0) rfl (by kernel_rfl) (by kernel_rfl) (fun _ h => h.sub (List.Sublist.cons_cons _ (List.Sublist.cons _ (List.Sublist.refl _)))) (fun w _ => by kernel_rfl) ?_
    refine HH.take 2 (.pointer (rp (some ⟨g442, 0, none⟩) (x7l0.toNat * 1 + 0))) rfl (by kernel_rfl) (by kernel_rfl) (fun _ h => h.sub (List.Sublist.cons_cons _ (List.Sublist.cons _ (List.Sublist.refl _)))) (idxL (ik := .i64) (n := y441.length) (e1 := eI) (l := zg442l1) 0 g442 rfl he449 lenzg442l1 rfl (by kernel_rfl) (by kernel_rfl) (by kernel_rfl)) ?_
    refine HH.take 3 (.int .i64 e449) rfl (by kernel_rfl) (by kernel_rfl) (fun _ h => h.sub (List.Sublist.cons_cons _ (List.Sublist.cons _ (List.Sublist.refl _)))) (ldL (e1 := eI) (l := zg442l1) 0 g442 rfl he449 rfl (by kernel_rfl) (by kernel_rfl)) ?_
    refine HH.take 4 (.slice Aa1 a1.length ca1) rfl (by kernel_rfl) (by kernel_rfl) (fun _ h => h.sub (List.Sublist.cons_cons _ (List.Sublist.cons _ (List.Sublist.refl _)))) (fun w _ => by kernel_rfl) ?_
    refine HH.take 5 (.int .i64 x7l0) rfl (by kernel_rfl) (by kernel_rfl) (fun _ h => h.sub (List.Sublist.cons_cons _ (List.Sublist.cons _ (List.Sublist.refl _)))) (fun w _ => by kernel_rfl) ?_
    refine HH.take 6 (.pointer (rp Aa1 (x7l0.toNat * 1 + 0))) rfl (by kernel_rfl) (by kernel_rfl) (fun _ h => h.sub (List.Sublist.cons_cons _ (List.Sublist.cons _ (List.Sublist.refl _)))) (idxR (cp := ca1) (ik := .i64) ha1 he450 rfl (by kernel_rfl) (by kernel_rfl) (by kernel_rfl)) ?_
    refine HH.take 7 (.int .i64 e450) rfl (by kernel_rfl) (by kernel_rfl) (fun _ h => h.sub (List.Sublist.cons_cons _ (List.Sublist.cons _ (List.Sublist.refl _)))) (ldR (off := 0) ha1 he450 rfl (by kernel_rfl) (by kernel_rfl)) ?_
    refine HH.take 8 (.bool (decide (e449 < e450))) rfl (by kernel_rfl) (by kernel_rfl) (fun _ h => h.sub (List.Sublist.cons_cons _ (List.Sublist.cons _ (List.Sublist.refl _)))) (fun w _ => by kernel_rfl) ?_
    refine HH.take 9 (.bool (decide (e449 < e450))) rfl (by kernel_rfl) (by kernel_rfl) (fun _ h => h.sub (List.Sublist.cons_cons _ (List.Sublist.cons _ (List.Sublist.refl _)))) (fun w _ => by kernel_rfl) ?_
    rcases Bool.eq_false_or_eq_true (decide (e449 < e450)) with c451 | c451
    · rw [if_pos (of_decide_eq_true c451)] at H
      refine HH.bool 29 (decide (e449 < e450)) true c451 (by kernel_rfl) ?_
      obtain ⟨y452, hy452, H⟩ := bind_some H
      obtain ⟨⟨x455_1, x455_2, x455_3⟩, hx455, H⟩ := bind_some H
      (try dsimp only at H)
      refine HH.take 10 (.slice Aa0 a0.length ca0) rfl (by kernel_rfl) (by kernel_rfl) (fun _ h => h.sub (List.Sublist.cons_cons _ (List.Sublist.cons _ (List.Sublist.refl _)))) (fun w _ => by kernel_rfl) ?_
      refine HH.take 11 (.int .i64 x7l0) rfl (by kernel_rfl) (by kernel_rfl) (fun _ h => h.sub (List.Sublist.cons_cons _ (List.Sublist.cons _ (List.Sublist.refl _)))) (fun w _ => by kernel_rfl) ?_
      refine HH.take 12 (.slice (some ⟨g437, 0, none⟩) n438 n438) rfl (by kernel_rfl) (by kernel_rfl) (fun _ h => h.sub (List.Sublist.cons_cons _ (List.Sublist.cons _ (List.Sublist.refl _)))) (fun w _ => by kernel_rfl) ?_
      refine HH.take 13 (.slice (some ⟨g437, 0, none⟩) n438 n438) rfl (by kernel_rfl) (by kernel_rfl) (fun _ h => h.sub (List.Sublist.cons_cons _ (List.Sublist.cons _ (List.Sublist.refl _)))) (fun w _ => by kernel_rfl) ?_
      refine HH.take 14 (.int .i64 (n438 : Int)) rfl (by kernel_rfl) (by kernel_rfl) (fun _ h => h.sub (List.Sublist.cons_cons _ (List.Sublist.cons _ (List.Sublist.refl _)))) (fun w _ => by kernel_rfl) ?_
      refine HH.int 34 (n438 : Int) (zg437l1.length : Int) (by rw [show zg437l1.length = n438 from lenzg437l1]) (by kernel_rfl) ?_
      refine HH.all1 15 (by kernel_rfl) ?_
      refine HS.mk (e1 := eB) mk4 hy452 rfl (by kernel_rfl) rfl (by kernel_rfl) (by kernel_rfl) (fun _ h => h.sub (List.Sublist.cons_cons _ (List.Sublist.cons _ (List.Sublist.refl _)))) (fun g458 => ?_)
      refine HH.all1 16 (by kernel_rfl) ?_
      refine HS.perm (bs' := [(g458, cl (List.map eB y452) 4), (g437, cl (List.map eI zg437l1) 3), (g442, cl (List.map eI zg442l1) 3)]) (List.Perm.cons _ (List.Perm.swap _ _ _)) ?_
      refine HS.callA 56 #[.slice Aa0 a0.length ca0, .int .i64 x7l0, .slice (some ⟨g437, 0, none⟩) n438 n438, .slice (some ⟨g458, 0, none⟩) y452.length y452.length, .int .i64 0] (.bool x455_1) ([(g458, cl (List.map eB x455_2) 4), (g437, cl (List.map eI x455_3) 3), (g442, cl (List.map eI zg442l1) 3)]) (x455_2.length = y452.length ∧ x455_3.length = n438) rfl (by kernel_rfl) (fun w => by kernel_rfl) (fun _ h => h.sub (List.Sublist.cons _ (List.Sublist.cons _ (List.Sublist.refl _)))) (fun w hw => sawmillref48_augment.calls K a0 x7l0 zg437l1 y452 0 Aa0 ca0 g458 y452.length g437 n438 _ [(g442, cl (List.map eI zg442l1) 3)] _ _ _ w ha0 rfl lenzg437l1 hw hx455) (fun ⟨len460, len461⟩ => ?_)
      refine HH.take 17 (.bool x455_1) rfl (by kernel_rfl) (by kernel_rfl) (fun _ h => h.sub (List.Sublist.cons _ (List.Sublist.cons _ (List.Sublist.refl _)))) (fun w _ => by kernel_rfl) ?_
      refine HH.done (s' := [(0, .slice Aa0 a0.length ca0), (1, .slice Aa1 a1.length ca1), (4, .slice none 0 0), (5, .slice (some ⟨g437, 0, none⟩) n438 n438), (6, .slice (some ⟨g442, 0, none⟩) y441.length y441.length), (7, .int .i64 x7l0), (37, .bool x455_1)]) [0, 1, 4, 5, 6, 7, 37] (by kernel_rfl) (by kernel_rfl) ?_
      refine NN.then ?_
      rcases Bool.eq_false_or_eq_true (x455_1) with c462 | c462
      · rw [if_pos (c462)] at H
        refine J.condT (b := x455_1) c462 (by kernel_rfl) (by kernel_rfl) ?_
        refine J.skip ?_
        refine NN.then ?_
        refine J.block ?_
        refine J.plain ?_
        refine LL.op (.slice (some ⟨g442, 0, none⟩) y441.length y441.length) (by kernel_rfl) (fun w _ => by kernel_rfl) ?_
        refine LL.op (.int .i64 x7l0) (by kernel_rfl) (fun w _ => by kernel_rfl) ?_
        refine LL.op (.pointer (rp (some ⟨g442, 0, none⟩) (x7l0.toNat * 1 + 0))) (by kernel_rfl) (idxL (ik := .i64) (n := y441.length) (e1 := eI) (l := zg442l1) 2 g442 rfl he449 lenzg442l1 rfl (by kernel_rfl) (by kernel_rfl) (by kernel_rfl)) ?_
        refine LL.op (.int .i64 e449) (by kernel_rfl) (ldL (e1 := eI) (l := zg442l1) 2 g442 rfl he449 rfl (by kernel_rfl) (by kernel_rfl)) ?_
        refine LL.op (.int .i64 (IntKind.i64.wrap (e449 + 1))) (by kernel_rfl) (fun w _ => by kernel_rfl) ?_
        refine LL.op (.pointer (rp (some ⟨g442, 0, none⟩) (x7l0.toNat * 1 + 0))) (by kernel_rfl) (idxL (ik := .i64) (n := y441.length) (e1 := eI) (l := zg442l1) 2 g442 rfl he449 lenzg442l1 rfl (by kernel_rfl) (by kernel_rfl) (by kernel_rfl)) ?_
        refine LL.storeL (e1 := eI) (l := zg442l1) (y := IntKind.i64.wrap (e449 + 1)) (bs' := [(g458, cl (List.map eB x455_2) 4), (g437, cl (List.map eI x455_3) 3), (g442, cl (List.map eI (zg442l1.set x7l0.toNat (IntKind.i64.wrap (e449 + 1)))) 3)]) 2 g442 one3 rfl rfl he449 (by kernel_rfl) rfl (by kernel_rfl) (by kernel_rfl) ?_
        refine LL.done (s' := [(0, .slice Aa0 a0.length ca0), (1, .slice Aa1 a1.length ca1), (4, .slice none 0 0), (5, .slice (some ⟨g437, 0, none⟩) n438 n438), (6, .slice (some ⟨g442, 0, none⟩) y441.length y441.length), (7, .int .i64 x7l0)]) [0, 1, 4, 5, 6, 7] (by kernel_rfl) ?_
        refine NN.block_n ?_
        refine NN.perm (bs' := [(g442, cl (List.map eI (zg442l1.set x7l0.toNat (IntKind.i64.wrap (e449 + 1)))) 3), (g437, cl (List.map eI x455_3) 3), (g458, cl (List.map eB x455_2) 4)]) (((List.Perm.cons _ (List.Perm.swap _ _ _)).trans (List.Perm.swap _ _ _)).trans (List.Perm.cons _ (List.Perm.swap _ _ _))) ?_
        exact NN.round' [0, 1, 4, 5, 6, 7] (bs' := [(g442, cl (List.map eI (zg442l1.set x7l0.toNat (IntKind.i64.wrap (e449 + 1)))) 3), (g437, cl (List.map eI x455_3) 3)]) (Nat.lt_succ_self _) (List.Sublist.cons_cons _ (List.Sublist.cons_cons _ (List.Sublist.cons _ (List.Sublist.refl _)))) (by kernel_rfl) ⟨(zg442l1.set x7l0.toNat (IntKind.i64.wrap (e449 + 1))), x455_3, H, (List.length_set.trans lenzg442l1), len461, rfl, rfl⟩
      · rw [if_neg (nebt c462)] at H
        refine J.condF (b := x455_1) c462 (by kernel_rfl) (by kernel_rfl) ?_
        refine J.exit ?_
        refine NN.then_exit ?_
        rw [← hk447] at H
        (try dsimp only at H)
        refine NN.then_exit ?_
        refine NN.block_same ?_
        refine NN.block_n ?_
        refine NN.then ?_
        refine J.plain ?_
        refine LL.op (.int .i64 x7l0) (by kernel_rfl) (fun w _ => by kernel_rfl) ?_
        refine LL.op (.int .i64 (IntKind.i64.wrap (x7l0 + 1))) (by kernel_rfl) (fun w _ => by kernel_rfl) ?_
        refine LL.op (.int .i64 (IntKind.i64.wrap (x7l0 + 1))) (by kernel_rfl) (fun w _ => by kernel_rfl) ?_
        refine LL.done (s' := [(0, .slice Aa0 a0.length ca0), (1, .slice Aa1 a1.length ca1), (4, .slice none 0 0), (5, .slice (some ⟨g437, 0, none⟩) n438 n438), (6, .slice (some ⟨g442, 0, none⟩) y441.length y441.length), (7, .int .i64 (IntKind.i64.wrap (x7l0 + 1)))]) [0, 1, 4, 5, 6, 7] (by kernel_rfl) ?_
        refine NN.perm (bs' := [(g442, cl (List.map eI zg442l1) 3), (g437, cl (List.map eI x455_3) 3), (g458, cl (List.map eB x455_2) 4)]) (((List.Perm.cons _ (List.Perm.swap _ _ _)).trans (List.Perm.swap _ _ _)).trans (List.Perm.cons _ (List.Perm.swap _ _ _))) ?_
        exact NN.round' [0, 1, 4, 5, 6, 7] (bs' := [(g442, cl (List.map eI zg442l1) 3), (g437, cl (List.map eI x455_3) 3)]) (Nat.lt_succ_self _) (List.Sublist.cons_cons _ (List.Sublist.cons_cons _ (List.Sublist.cons _ (List.Sublist.refl _)))) (by kernel_rfl) ⟨IntKind.i64.wrap (x7l0 + 1), zg442l1, x455_3, H, lenzg442l1, len461, rfl, rfl⟩
    · rw [if_neg (of_decide_eq_false c451)] at H
      refine HH.bool 29 (decide (e449 < e450)) false c451 (by kernel_rfl) ?_
      refine HH.off 10 rfl (by kernel_rfl) (by kernel_rfl) (by kernel_rfl) (fun _ h => h.sub (List.Sublist.cons_cons _ (List.Sublist.cons _ (List.Sublist.refl _)))) ?_
      refine HH.off 11 rfl (by kernel_rfl) (by kernel_rfl) (by kernel_rfl) (fun _ h => h.sub (List.Sublist.cons_cons _ (List.Sublist.cons _ (List.Sublist.refl _)))) ?_
      refine HH.off 12 rfl (by kernel_rfl) (by kernel_rfl) (by kernel_rfl) (fun _ h => h.sub (List.Sublist.cons_cons _ (List.Sublist.cons _ (List.Sublist.refl _)))) ?_
      refine HH.off 13 rfl (by kernel_rfl) (by kernel_rfl) (by kernel_rfl) (fun _ h => h.sub (List.Sublist.cons_cons _ (List.Sublist.cons _ (List.Sublist.refl _)))) ?_
      refine HH.off 14 rfl (by kernel_rfl) (by kernel_rfl) (by kernel_rfl) (fun _ h => h.sub (List.Sublist.cons_cons _ (List.Sublist.cons _ (List.Sublist.refl _)))) ?_
      refine HH.off 15 rfl (by kernel_rfl) (by kernel_rfl) (by kernel_rfl) (fun _ h => h.sub (List.Sublist.cons_cons _ (List.Sublist.cons _ (List.Sublist.refl _)))) ?_
      refine HH.off 16 rfl (by kernel_rfl) (by kernel_rfl) (by kernel_rfl) (fun _ h => h.sub (List.Sublist.cons_cons _ (List.Sublist.cons _ (List.Sublist.refl _)))) ?_
      refine HH.take 17 (.bool false) rfl (by kernel_rfl) (by kernel_rfl) (fun _ h => h.sub (List.Sublist.cons_cons _ (List.Sublist.cons _ (List.Sublist.refl _)))) (fun w _ => by kernel_rfl) ?_
      refine HH.done (s' := [(0, .slice Aa0 a0.length ca0), (1, .slice Aa1 a1.length ca1), (4, .slice none 0 0), (5, .slice (some ⟨g437, 0, none⟩) n438 n438), (6, .slice (some ⟨g442, 0, none⟩) y441.length y441.length), (7, .int .i64 x7l0), (37, .bool false)]) [0, 1, 4, 5, 6, 7, 37] (by kernel_rfl) (by kernel_rfl) ?_
      refine NN.then ?_
      refine J.condF (b := false) rfl (by kernel_rfl) (by kernel_rfl) ?_
      refine J.exit ?_
      refine NN.then_exit ?_
      rw [← hk447] at H
      (try dsimp only at H)
      refine NN.then_exit ?_
      refine NN.block_same ?_
      refine NN.block_n ?_
      refine NN.then ?_
      refine J.plain ?_
      refine LL.op (.int .i64 x7l0) (by kernel_rfl) (fun w _ => by kernel_rfl) ?_
      refine LL.op (.int .i64 (IntKind.i64.wrap (x7l0 + 1))) (by kernel_rfl) (fun w _ => by kernel_rfl) ?_
      refine LL.op (.int .i64 (IntKind.i64.wrap (x7l0 + 1))) (by kernel_rfl) (fun w _ => by kernel_rfl) ?_
      refine LL.done (s' := [(0, .slice Aa0 a0.length ca0), (1, .slice Aa1 a1.length ca1), (4, .slice none 0 0), (5, .slice (some ⟨g437, 0, none⟩) n438 n438), (6, .slice (some ⟨g442, 0, none⟩) y441.length y441.length), (7, .int .i64 (IntKind.i64.wrap (x7l0 + 1)))]) [0, 1, 4, 5, 6, 7] (by kernel_rfl) ?_
      exact NN.round' [0, 1, 4, 5, 6, 7] (bs' := [(g442, cl (List.map eI zg442l1) 3), (g437, cl (List.map eI zg437l1) 3)]) (Nat.lt_succ_self _) (List.Sublist.refl _) (by kernel_rfl) ⟨IntKind.i64.wrap (x7l0 + 1), zg442l1, zg437l1, H, lenzg442l1, lenzg437l1, rfl, rfl⟩
  · rw [if_neg (of_decide_eq_false c446)] at H
    refine J.condF (b := decide (x7l0 < (a0.length : Int))) c446 (by kernel_rfl) (by kernel_rfl) ?_
    refine J.exit ?_
    refine NN.then_exit ?_
    refine NN.then_exit ?_
    refine NN.block_same ?_
    refine NN.then ?_
    refine J.seq ?_
    refine J.plain ?_
    refine LL.op (.slice (some ⟨g442, 0, none⟩) y441.length y441.length) (by kernel_rfl) (fun w _ => by kernel_rfl) ?_
    refine LL.op (.slice (some ⟨g442, 0, none⟩) y441.length y441.length) (by kernel_rfl) (fun w _ => by kernel_rfl) ?_
    refine LL.done (s' := [(4, .slice (some ⟨g442, 0, none⟩) y441.length y441.length)]) [4] (by kernel_rfl) ?_
    refine NN.then ?_
    refine J.ret ?_
    first | (obtain rfl := Option.some.inj H) | (simp only [Option.some.injEq, Prod.mk.injEq] at H; obtain ⟨rfl⟩ := H)
    refine NN.fin1 4 (.slice (some ⟨g442, 0, none⟩) y441.length y441.length) (by kernel_rfl) (by kernel_rfl) (.inl rfl) (fun w hi => hi.retL (e1 := eI) (l := zg442l0) (enc := enc3) (i := 0) (g := g442) rfl rfl y441.length (by rw [show y441.length = zg442l0.length from (lenzg442l0).symm]))

/-! ### assign_Valid: function 15 -/
def assign_Valid.l0 (K : Nat) (a0 : List (List E4)) (a1 : List E3) (a2 : List E3) : Nat → Int → List E3 → Option (Bool)
  | 0, _, _ => none
  | k + 1, x32l0, zg475l0 => if x32l0 < (a2.length : Int) then ((idx a2 x32l0).bind fun e480 => (if e480 = (-1) then (assign_Valid.l0 K a0 a1 a2 k (IntKind.i64.wrap (x32l0 + 1)) zg475l0) else (if e480 < 0 then (some false) else (if (a0.length : Int) ≤ e480 then (some false) else ((idx a0 e480).bind fun e484 => ((idx e484 x32l0).bind fun e490 => (if e490 = true then ((idx zg475l0 e480).bind fun e492 => ((idx (zg475l0.set e480.toNat (IntKind.i64.wrap (e492 + 1))) e480).bind fun e493 => ((idx a1 e480).bind fun e494 => (if e494 < e493 then (some false) else (assign_Valid.l0 K a0 a1 a2 k (IntKind.i64.wrap (x32l0 + 1)) (zg475l0.set e480.toNat (IntKind.i64.wrap (e492 + 1)))))))) else (some false)))))))) else (some true)
def assign_Valid.f (K : Nat) (a0 : List (List E4)) (a1 : List E3) (a2 : List E3) : Option (Bool) := (assign_Counts.f K a0 a1).bind fun bx463 => (if bx463.2 = 0 then ((assign_columns.f a0).bind fun x472 => (if (a2.length : Int) = x472 then ((mk (a0.length : Int) (0 : Int)).bind fun y474 => (assign_Valid.l0 K a0 a1 a2 K 0 y474)) else (some false))) else (some false))
set_option maxRecDepth 100000 in
theorem assign_Valid.calls (K : Nat) (a0 : List (List E4)) (a1 : List E3) (a2 : List E3)  (Aa0 : Option Addr) (ca0 : Nat) (Aa1 : Option Addr) (ca1 : Nat) (Aa2 : Option Addr) (ca2 : Nat)  (r1 : Bool) (w : World)   (ha0 : KRow2 (Cx.start w) enc4 1 a0 Aa0) (ha1 : KRow (Cx.start w) enc3 1 a1 Aa1) (ha2 : KRow (Cx.start w) enc3 1 a2 Aa2) (h : assign_Valid.f K a0 a1 a2 = some r1) :
    Calls Try.prog 15 #[.slice Aa0 a0.length ca0, .slice Aa1 a1.length ca1, .slice Aa2 a2.length ca2] w (Ret w (.bool r1)) := by
  have H := h
  clear h
  unfold assign_Valid.f at H
  refine Go.Saw.calls (args := [.slice Aa0 a0.length ca0, .slice Aa1 a1.length ca1, .slice Aa2 a2.length ca2]) Try.func15 rfl Try.ntmps15 (by kernel_rfl) ?_
  refine J.seq ?_
  refine J.plain ?_
  refine LL.op (.bool false) (by kernel_rfl) (fun w _ => by kernel_rfl) ?_
  refine LL.done (s' := [(0, .slice Aa0 a0.length ca0), (1, .slice Aa1 a1.length ca1), (2, .slice Aa2 a2.length ca2), (6, .bool false)]) [0, 1, 2, 6] (by kernel_rfl) ?_
  refine NN.then ?_
  refine J.seq ?_
  refine J.seq ?_
  refine J.plain ?_
  refine LL.op (.slice Aa0 a0.length ca0) (by kernel_rfl) (fun w _ => by kernel_rfl) ?_
  refine LL.op (.slice Aa1 a1.length ca1) (by kernel_rfl) (fun w _ => by kernel_rfl) ?_
  obtain ⟨⟨x463_1, x463_2⟩, hx463, H⟩ := bind_some H
  (try dsimp only at H)
  refine LL.callR (enc := enc3) (m := 1) (l := x463_1) 13 #[.slice Aa0 a0.length ca0, .slice Aa1 a1.length ca1] (fun A_ c_ => .tuple #[.slice A_ x463_1.length c_, .int .i64 x463_2]) (by kernel_rfl) (fun w => by kernel_rfl) (fun w hw => assign_Counts.calls K a0 a1  _ _ _ _ _ _ w  (ha0.at hw) (ha1.at hw) hx463) (fun R464 F465 A466 c467 le468 k469 fr470 => ?_)
  refine LL.op (.tuple #[.slice A466 x463_1.length c467, .int .i64 x463_2]) (by kernel_rfl) (fun w _ => by kernel_rfl) ?_
  refine LL.op (.slice A466 x463_1.length c467) (by kernel_rfl) (fun w _ => by kernel_rfl) ?_
  refine LL.op (.int .i64 x463_2) (by kernel_rfl) (fun w _ => by kernel_rfl) ?_
  refine LL.op (.slice A466 x463_1.length c467) (by kernel_rfl) (fun w _ => by kernel_rfl) ?_
  refine LL.op (.int .i64 x463_2) (by kernel_rfl) (fun w _ => by kernel_rfl) ?_
  refine LL.done (s' := [(0, .slice Aa0 a0.length ca0), (1, .slice Aa1 a1.length ca1), (2, .slice Aa2 a2.length ca2), (6, .bool false), (8, .int .i64 x463_2)]) [0, 1, 2, 6, 8] (by kernel_rfl) ?_
  refine NN.then ?_
  refine J.seq ?_
  refine J.plain ?_
  refine LL.op (.int .i64 x463_2) (by kernel_rfl) (fun w _ => by kernel_rfl) ?_
  refine LL.op (.bool (!(x463_2 == 0))) (by kernel_rfl) (fun w _ => by kernel_rfl) ?_
  refine LL.op (.bool (!(x463_2 == 0))) (by kernel_rfl) (fun w _ => by kernel_rfl) ?_
  rcases Bool.eq_false_or_eq_true ((x463_2 == 0)) with c471 | c471
  · rw [if_pos (eq_of_beq c471)] at H
    refine LL.bool 20 (!(x463_2 == 0)) false (by rw [show (!(x463_2 == 0)) = !((x463_2 == 0)) from rfl, c471]; rfl) (by kernel_rfl) ?_
    refine LL.op (.slice Aa2 a2.length ca2) (by kernel_rfl) (fun w _ => by kernel_rfl) ?_
    refine LL.op (.int .i64 (a2.length : Int)) (by kernel_rfl) (fun w _ => by kernel_rfl) ?_
    refine LL.op (.slice Aa0 a0.length ca0) (by kernel_rfl) (fun w _ => by kernel_rfl) ?_
    obtain ⟨x472, hx472, H⟩ := bind_some H
    refine LL.call 33 #[.slice Aa0 a0.length ca0] (.int .i64 x472) (by kernel_rfl) (fun w => by kernel_rfl) (fun w hw => assign_columns.calls a0  _ _ _ w  ((ha0.le le468).at hw) hx472) ?_
    refine LL.op (.bool (!((a2.length : Int) == x472))) (by kernel_rfl) (fun w _ => by kernel_rfl) ?_
    refine LL.op (.bool (!((a2.length : Int) == x472))) (by kernel_rfl) (fun w _ => by kernel_rfl) ?_
    refine LL.done (s' := [(0, .slice Aa0 a0.length ca0), (1, .slice Aa1 a1.length ca1), (2, .slice Aa2 a2.length ca2), (6, .bool false), (26, .bool (!((a2.length : Int) == x472)))]) [0, 1, 2, 6, 26] (by kernel_rfl) ?_
    refine NN.then ?_
    rcases Bool.eq_false_or_eq_true (((a2.length : Int) == x472)) with c473 | c473
    · rw [if_pos (eq_of_beq c473)] at H
      refine J.condF (b := !((a2.length : Int) == x472)) (by rw [show (!((a2.length : Int) == x472)) = !(((a2.length : Int) == x472)) from rfl, c473]; rfl) (by kernel_rfl) (by kernel_rfl) ?_
      refine J.skip ?_
      refine NN.then ?_
      refine J.seq ?_
      refine J.plain ?_
      refine LL.op (.slice Aa0 a0.length ca0) (by kernel_rfl) (fun w _ => by kernel_rfl) ?_
      refine LL.op (.int .i64 (a0.length : Int)) (by kernel_rfl) (fun w _ => by kernel_rfl) ?_
      obtain ⟨y474, hy474, H⟩ := bind_some H
      refine LL.mk (e1 := eI) mk3 hy474 (by kernel_rfl) rfl (by kernel_rfl) (by kernel_rfl) (fun g475 => ?_)
      refine LL.op (.slice (some ⟨g475, 0, none⟩) y474.length y474.length) (by kernel_rfl) (fun w _ => by kernel_rfl) ?_
      refine LL.done (s' := [(0, .slice Aa0 a0.length ca0), (1, .slice Aa1 a1.length ca1), (2, .slice Aa2 a2.length ca2), (6, .bool false), (9, .slice (some ⟨g475, 0, none⟩) y474.length y474.length)]) [0, 1, 2, 6, 9] (by kernel_rfl) ?_
      refine NN.then ?_
      refine J.seq ?_
      refine J.seq ?_
      refine J.plain ?_
      refine LL.op (.slice Aa2 a2.length ca2) (by kernel_rfl) (fun w _ => by kernel_rfl) ?_
      refine LL.op (.int .i64 (a2.length : Int)) (by kernel_rfl) (fun w _ => by kernel_rfl) ?_
      refine LL.op (.int .i64 0) (by kernel_rfl) (fun w _ => by kernel_rfl) ?_
      refine LL.done (s' := [(0, .slice Aa0 a0.length ca0), (1, .slice Aa1 a1.length ca1), (6, .bool false), (9, .slice (some ⟨g475, 0, none⟩) y474.length y474.length), (30, .slice Aa2 a2.length ca2), (31, .int .i64 (a2.length : Int)), (32, .int .i64 0)]) [0, 1, 6, 9, 30, 31, 32] (by kernel_rfl) ?_
      refine NN.then ?_
      refine J.block ?_
      refine J.to [0, 1, 6, 9, 30, 31, 32] (s' := [(0, .slice Aa0 a0.length ca0), (1, .slice Aa1 a1.length ca1), (6, .bool false), (9, .slice (some ⟨g475, 0, none⟩) y474.length y474.length), (30, .slice Aa2 a2.length ca2), (31, .int .i64 (a2.length : Int)), (32, .int .i64 0)]) (by kernel_rfl) ?_
      refine J.loop (fun n_ s_ bs_ => ∃ (x32l0 : Int) (zg475l0 : List E3), assign_Valid.l0 K a0 a1 a2 n_ x32l0 zg475l0 = some r1 ∧ zg475l0.length = y474.length ∧ s_ = [(0, .slice Aa0 a0.length ca0), (1, .slice Aa1 a1.length ca1), (6, .bool false), (9, .slice (some ⟨g475, 0, none⟩) y474.length y474.length), (30, .slice Aa2 a2.length ca2), (31, .int .i64 (a2.length : Int)), (32, .int .i64 x32l0)] ∧ [(g475, cl (List.map eI zg475l0) 3)] = bs_) K ⟨0, y474, H, rfl, rfl, rfl⟩ ?_
      rintro (_ | n_) s_ bs_ ⟨x32l0, zg475l0, H, lenzg475l0, rfl, rfl⟩
      · exact absurd H (by simp [assign_Valid.l0])
      simp only [assign_Valid.l0] at H
      refine J.seq ?_
      refine J.plain ?_
      refine LL.op (.bool (decide (x32l0 < (a2.length : Int)))) (by kernel_rfl) (fun w _ => by kernel_rfl) ?_
      refine LL.done (s' := [(0, .slice Aa0 a0.length ca0), (1, .slice Aa1 a1.length ca1), (6, .bool false), (9, .slice (some ⟨g475, 0, none⟩) y474.length y474.length), (30, .slice Aa2 a2.length ca2), (31, .int .i64 (a2.length : Int)), (32, .int .i64 x32l0), (33, .bool (decide (x32l0 < (a2.length : Int))))]) [0, 1, 6, 9, 30, 31, 32, 33] (by kernel_rfl) ?_
      refine NN.then ?_
      refine J.seq ?_
      rcases Bool.eq_false_or_eq_true (decide (x32l0 < (a2.length : Int))) with c479 | c479
      · rw [if_pos (of_decide_eq_true c479)] at H
        refine J.condT (b := decide (x32l0 < (a2.length : Int))) c479 (by kernel_rfl) (by kernel_rfl) ?_
        refine J.skip ?_
        refine NN.then ?_
        refine J.seq ?_
        refine J.block ?_
        refine J.seq ?_
        refine J.plain ?_
        refine LL.op (.int .i64 x32l0) (by kernel_rfl) (fun w _ => by kernel_rfl) ?_
        obtain ⟨e480, he480, H⟩ := bind_some H
        refine LL.op (.pointer (rp Aa2 (x32l0.toNat * 1 + 0))) (by kernel_rfl) (idxR (cp := ca2) (ik := .i64) (ha2.le le468) he480 rfl (by kernel_rfl) (by kernel_rfl) (by kernel_rfl)) ?_
        refine LL.op (.int .i64 e480) (by kernel_rfl) (ldR (off := 0) (ha2.le le468) he480 rfl (by kernel_rfl) (by kernel_rfl)) ?_
        refine LL.op (.int .i64 x32l0) (by kernel_rfl) (fun w _ => by kernel_rfl) ?_
        refine LL.op (.int .i64 e480) (by kernel_rfl) (fun w _ => by kernel_rfl) ?_
        refine LL.done (s' := [(0, .slice Aa0 a0.length ca0), (1, .slice Aa1 a1.length ca1), (6, .bool false), (9, .slice (some ⟨g475, 0, none⟩) y474.length y474.length), (10, .int .i64 x32l0), (11, .int .i64 e480), (30, .slice Aa2 a2.length ca2), (31, .int .i64 (a2.length : Int)), (32, .int .i64 x32l0)]) [0, 1, 6, 9, 10, 11, 30, 31, 32] (by kernel_rfl) ?_
        refine NN.then ?_
        refine J.seq ?_
        refine J.seq ?_
        refine J.plain ?_
        refine LL.op (.int .i64 e480) (by kernel_rfl) (fun w _ => by kernel_rfl) ?_
        refine LL.op (.bool (e480 == (-1))) (by kernel_rfl) (fun w _ => by kernel_rfl) ?_
        refine LL.done (s' := [(0, .slice Aa0 a0.length ca0), (1, .slice Aa1 a1.length ca1), (6, .bool false), (9, .slice (some ⟨g475, 0, none⟩) y474.length y474.length), (10, .int .i64 x32l0), (11, .int .i64 e480), (30, .slice Aa2 a2.length ca2), (31, .int .i64 (a2.length : Int)), (32, .int .i64 x32l0), (38, .bool (e480 == (-1)))]) [0, 1, 6, 9, 10, 11, 30, 31, 32, 38] (by kernel_rfl) ?_
        refine NN.then ?_
        rcases Bool.eq_false_or_eq_true ((e480 == (-1))) with c481 | c481
        · rw [if_pos (eq_of_beq c481)] at H
          refine J.condT (b := (e480 == (-1))) c481 (by kernel_rfl) (by kernel_rfl) ?_
          refine J.exit ?_
          refine NN.then_exit ?_
          refine NN.block_same ?_
          refine NN.then ?_
          refine J.plain ?_
          refine LL.op (.int .i64 (IntKind.i64.wrap (x32l0 + 1))) (by kernel_rfl) (fun w _ => by kernel_rfl) ?_
          refine LL.op (.int .i64 (IntKind.i64.wrap (x32l0 + 1))) (by kernel_rfl) (fun w _ => by kernel_rfl) ?_
          refine LL.done (s' := [(0, .slice Aa0 a0.length ca0), (1, .slice Aa1 a1.length ca1), (6, .bool false), (9, .slice (some ⟨g475, 0, none⟩) y474.length y474.length), (30, .slice Aa2 a2.length ca2), (31, .int .i64 (a2.length : Int)), (32, .int .i64 (IntKind.i64.wrap (x32l0 + 1)))]) [0, 1, 6, 9, 30, 31, 32] (by kernel_rfl) ?_
          exact NN.round' [0, 1, 6, 9, 30, 31, 32] (bs' := [(g475, cl (List.map eI zg475l0) 3)]) (Nat.lt_succ_self _) (List.Sublist.refl _) (by kernel_rfl) ⟨IntKind.i64.wrap (x32l0 + 1), zg475l0, H, lenzg475l0, rfl, rfl⟩
        · rw [if_neg (nebf c481)] at H
          refine J.condF (b := (e480 == (-1))) c481 (by kernel_rfl) (by kernel_rfl) ?_
          refine J.skip ?_
          refine NN.then ?_
          refine J.seq ?_
          refine J.seq ?_
          refine J.plain ?_
          refine LL.op (.int .i64 e480) (by kernel_rfl) (fun w _ => by kernel_rfl) ?_
          refine LL.op (.bool (decide (e480 < 0))) (by kernel_rfl) (fun w _ => by kernel_rfl) ?_
          refine LL.op (.bool (decide (e480 < 0))) (by kernel_rfl) (fun w _ => by kernel_rfl) ?_
          rcases Bool.eq_false_or_eq_true (decide (e480 < 0)) with c482 | c482
          · rw [if_pos (of_decide_eq_true c482)] at H
            refine LL.bool 41 (decide (e480 < 0)) true c482 (by kernel_rfl) ?_
            refine LL.off (by kernel_rfl) (by kernel_rfl) ?_
            refine LL.off (by kernel_rfl) (by kernel_rfl) ?_
            refine LL.off (by kernel_rfl) (by kernel_rfl) ?_
            refine LL.off (by kernel_rfl) (by kernel_rfl) ?_
            refine LL.op (.bool true) (by kernel_rfl) (fun w _ => by kernel_rfl) ?_
            refine LL.op (.bool true) (by kernel_rfl) (fun w _ => by kernel_rfl) ?_
            refine LL.off (by kernel_rfl) (by kernel_rfl) ?_
            refine LL.off (by kernel_rfl) (by kernel_rfl) ?_
            refine LL.off (by kernel_rfl) (by kernel_rfl) ?_
            refine LL.off (by kernel_rfl) (by kernel_rfl) ?_
            refine LL.off (by kernel_rfl) (by kernel_rfl) ?_
            refine LL.off (by kernel_rfl) (by kernel_rfl) ?_
            refine LL.off (by kernel_rfl) (by kernel_rfl) ?_
            refine LL.off (by kernel_rfl) (by kernel_rfl) ?_
            refine LL.op (.bool true) (by kernel_rfl) (fun w _ => by kernel_rfl) ?_
            refine LL.done (s' := [(0, .slice Aa0 a0.length ca0), (1, .slice Aa1 a1.length ca1), (6, .bool false), (9, .slice (some ⟨g475, 0, none⟩) y474.length y474.length), (11, .int .i64 e480), (30, .slice Aa2 a2.length ca2), (31, .int .i64 (a2.length : Int)), (32, .int .i64 x32l0), (56, .bool true)]) [0, 1, 6, 9, 11, 30, 31, 32, 56] (by kernel_rfl) ?_
            refine NN.then ?_
            refine J.condT (b := true) rfl (by kernel_rfl) (by kernel_rfl) ?_
            refine J.seq ?_
            refine J.plain ?_
            refine LL.op (.bool false) (by kernel_rfl) (fun w _ => by kernel_rfl) ?_
            refine LL.done (s' := [(0, .slice Aa0 a0.length ca0), (1, .slice Aa1 a1.length ca1), (6, .bool false), (9, .slice (some ⟨g475, 0, none⟩) y474.length y474.length), (11, .int .i64 e480), (30, .slice Aa2 a2.length ca2), (31, .int .i64 (a2.length : Int)), (32, .int .i64 x32l0)]) [0, 1, 6, 9, 11, 30, 31, 32] (by kernel_rfl) ?_
            refine NN.then ?_
            refine J.ret ?_
            refine NN.then_ret ?_
            refine NN.block_ret ?_
            refine NN.then_ret ?_
            refine NN.then_ret ?_
            refine NN.block_ret ?_
            refine NN.then_ret ?_
            refine NN.fin1 6 (.bool false) (by kernel_rfl) (by kernel_rfl) (.inl rfl) (fun w hi => hi.ret ?_)
            first | (cases H; rfl) | (obtain rfl := Option.some.inj H; rfl) | (simp only [Option.some.injEq, Prod.mk.injEq] at H; obtain ⟨rfl⟩ := H; rfl)
          · rw [if_neg (of_decide_eq_false c482)] at H
            refine LL.bool 41 (decide (e480 < 0)) false c482 (by kernel_rfl) ?_
            refine LL.op (.int .i64 e480) (by kernel_rfl) (fun w _ => by kernel_rfl) ?_
            refine LL.op (.slice Aa0 a0.length ca0) (by kernel_rfl) (fun w _ => by kernel_rfl) ?_
            refine LL.op (.int .i64 (a0.length : Int)) (by kernel_rfl) (fun w _ => by kernel_rfl) ?_
            refine LL.op (.bool (decide ((a0.length : Int) ≤ e480))) (by kernel_rfl) (fun w _ => by kernel_rfl) ?_
            refine LL.op (.bool (decide ((a0.length : Int) ≤ e480))) (by kernel_rfl) (fun w _ => by kernel_rfl) ?_
            refine LL.op (.bool (decide ((a0.length : Int) ≤ e480))) (by kernel_rfl) (fun w _ => by kernel_rfl) ?_
            rcases Bool.eq_false_or_eq_true (decide ((a0.length : Int) ≤ e480)) with c483 | c483
            · rw [if_pos (of_decide_eq_true c483)] at H
              refine LL.bool 47 (decide ((a0.length : Int) ≤ e480)) true c483 (by kernel_rfl) ?_
              refine LL.off (by kernel_rfl) (by kernel_rfl) ?_
              refine LL.off (by kernel_rfl) (by kernel_rfl) ?_
              refine LL.off (by kernel_rfl) (by kernel_rfl) ?_
              refine LL.off (by kernel_rfl) (by kernel_rfl) ?_
              refine LL.off (by kernel_rfl) (by kernel_rfl) ?_
              refine LL.off (by kernel_rfl) (by kernel_rfl) ?_
              refine LL.off (by kernel_rfl) (by kernel_rfl) ?_
              refine LL.off (by kernel_rfl) (by kernel_rfl) ?_
              refine LL.op (.bool true) (by kernel_rfl) (fun w _ => by kernel_rfl) ?_
              refine LL.done (s' := [(0, .slice Aa0 a0.length ca0), (1, .slice Aa1 a1.length ca1), (6, .bool false), (9, .slice (some ⟨g475, 0, none⟩) y474.length y474.length), (11, .int .i64 e480), (30, .slice Aa2 a2.length ca2), (31, .int .i64 (a2.length : Int)), (32, .int .i64 x32l0), (56, .bool true)]) [0, 1, 6, 9, 11, 30, 31, 32, 56] (by kernel_rfl) ?_
              refine NN.then ?_
              refine J.condT (b := true) rfl (by kernel_rfl) (by kernel_rfl) ?_
              refine J.seq ?_
              refine J.plain ?_
              refine LL.op (.bool false) (by kernel_rfl) (fun w _ => by kernel_rfl) ?_
              refine LL.done (s' := [(0, .slice Aa0 a0.length ca0), (1, .slice Aa1 a1.length ca1), (6, .bool false), (9, .slice (some ⟨g475, 0, none⟩) y474.length y474.length), (11, .int .i64 e480), (30, .slice Aa2 a2.length ca2), (31, .int .i64 (a2.length : Int)), (32, .int .i64 x32l0)]) [0, 1, 6, 9, 11, 30, 31, 32] (by kernel_rfl) ?_
              refine NN.then ?_
              refine J.ret ?_
              refine NN.then_ret ?_
              refine NN.block_ret ?_
              refine NN.then_ret ?_
              refine NN.then_ret ?_
              refine NN.block_ret ?_
              refine NN.then_ret ?_
              refine NN.fin1 6 (.bool false) (by kernel_rfl) (by kernel_rfl) (.inl rfl) (fun w hi => hi.ret ?_)
              first | (cases H; rfl) | (obtain rfl := Option.some.inj H; rfl) | (simp only [Option.some.injEq, Prod.mk.injEq] at H; obtain ⟨rfl⟩ := H; rfl)
            · rw [if_neg (of_decide_eq_false c483)] at H
              refine LL.bool 47 (decide ((a0.length : Int) ≤ e480)) false c483 (by kernel_rfl) ?_
              refine LL.op (.slice Aa0 a0.length ca0) (by kernel_rfl) (fun w _ => by kernel_rfl) ?_
              refine LL.op (.int .i64 e480) (by kernel_rfl) (fun w _ => by kernel_rfl) ?_
              obtain ⟨e484, he484, H⟩ := bind_some H
              refine LL.op (.pointer (rp Aa0 (e480.toNat * 1 + 0))) (by kernel_rfl) (idx2 (cp := ca0) (ik := .i64) (ha0.le le468) he484 rfl (by kernel_rfl) (by kernel_rfl) (by kernel_rfl)) ?_
              obtain ⟨A485, c486, k487, ld488⟩ := KRow2.row (ha0.le le468) he484
              refine LL.op (.slice A485 e484.length c486) (by kernel_rfl) (ld488 rfl (by kernel_rfl) (by kernel_rfl)) ?_
              refine LL.op (.int .i64 x32l0) (by kernel_rfl) (fun w _ => by kernel_rfl) ?_
              obtain ⟨e490, he490, H⟩ := bind_some H
              refine LL.op (.pointer (rp A485 (x32l0.toNat * 1 + 0))) (by kernel_rfl) (idxR (cp := c486) (ik := .i64) k487 he490 rfl (by kernel_rfl) (by kernel_rfl) (by kernel_rfl)) ?_
              refine LL.op (.bool e490) (by kernel_rfl) (ldR (off := 0) k487 he490 rfl (by kernel_rfl) (by kernel_rfl)) ?_
              refine LL.op (.bool (!e490)) (by kernel_rfl) (fun w _ => by kernel_rfl) ?_
              refine LL.op (.bool (!e490)) (by kernel_rfl) (fun w _ => by kernel_rfl) ?_
              refine LL.done (s' := [(0, .slice Aa0 a0.length ca0), (1, .slice Aa1 a1.length ca1), (6, .bool false), (9, .slice (some ⟨g475, 0, none⟩) y474.length y474.length), (11, .int .i64 e480), (30, .slice Aa2 a2.length ca2), (31, .int .i64 (a2.length : Int)), (32, .int .i64 x32l0), (56, .bool (!e490))]) [0, 1, 6, 9, 11, 30, 31, 32, 56] (by kernel_rfl) ?_
              refine NN.then ?_
              rcases Bool.eq_false_or_eq_true (e490) with c491 | c491
              · rw [if_pos (c491)] at H
                refine J.condF (b := !e490) (by rw [show (!e490) = !(e490) from rfl, c491]; rfl) (by kernel_rfl) (by kernel_rfl) ?_
                refine J.skip ?_
                refine NN.then ?_
                refine J.seq ?_
                refine J.plain ?_
                refine LL.op (.slice (some ⟨g475, 0, none⟩) y474.length y474.length) (by kernel_rfl) (fun w _ => by kernel_rfl) ?_
                refine LL.op (.int .i64 e480) (by kernel_rfl) (fun w _ => by kernel_rfl) ?_
                obtain ⟨e492, he492, H⟩ := bind_some H
                refine LL.op (.pointer (rp (some ⟨g475, 0, none⟩) (e480.toNat * 1 + 0))) (by kernel_rfl) (idxL (ik := .i64) (n := y474.length) (e1 := eI) (l := zg475l0) 0 g475 rfl he492 lenzg475l0 rfl (by kernel_rfl) (by kernel_rfl) (by kernel_rfl)) ?_
                refine LL.op (.int .i64 e492) (by kernel_rfl) (ldL (e1 := eI) (l := zg475l0) 0 g475 rfl he492 rfl (by kernel_rfl) (by kernel_rfl)) ?_
                refine LL.op (.int .i64 (IntKind.i64.wrap (e492 + 1))) (by kernel_rfl) (fun w _ => by kernel_rfl) ?_
                refine LL.op (.pointer (rp (some ⟨g475, 0, none⟩) (e480.toNat * 1 + 0))) (by kernel_rfl) (idxL (ik := .i64) (n := y474.length) (e1 := eI) (l := zg475l0) 0 g475 rfl he492 lenzg475l0 rfl (by kernel_rfl) (by kernel_rfl) (by kernel_rfl)) ?_
                refine LL.storeL (e1 := eI) (l := zg475l0) (y := IntKind.i64.wrap (e492 + 1)) (bs' := [(g475, cl (List.map eI (zg475l0.set e480.toNat (IntKind.i64.wrap (e492 + 1)))) 3)]) 0 g475 one3 rfl rfl he492 (by kernel_rfl) rfl (by kernel_rfl) (by kernel_rfl) ?_
                refine LL.done (s' := [(0, .slice Aa0 a0.length ca0), (1, .slice Aa1 a1.length ca1), (6, .bool false), (9, .slice (some ⟨g475, 0, none⟩) y474.length y474.length), (11, .int .i64 e480), (30, .slice Aa2 a2.length ca2), (31, .int .i64 (a2.length : Int)), (32, .int .i64 x32l0)]) [0, 1, 6, 9, 11, 30, 31, 32] (by kernel_rfl) ?_
                refine NN.then ?_
                refine J.seq ?_
                refine J.drawn follows (by kernel_rfl) ?_
                refine QQ.op (.slice (some ⟨g475, 0, none⟩) y474.length y474.length) (by kernel_rfl) (fun w _ => by kernel_rfl) ?_
                refine QQ.op (.int .i64 e480) (by kernel_rfl) (fun w _ => by kernel_rfl) ?_
                obtain ⟨e493, he493, H⟩ := bind_some H
                refine QQ.op (.pointer (rp (some ⟨g475, 0, none⟩) (e480.toNat * 1 + 0))) (by kernel_rfl) (idxL (ik := .i64) (n := y474.length) (e1 := eI) (l := (zg475l0.set e480.toNat (IntKind.i64.wrap (e492 + 1)))) 0 g475 rfl he493 (List.length_set.trans lenzg475l0) rfl (by kernel_rfl) (by kernel_rfl) (by kernel_rfl)) ?_
                refine QQ.op (.int .i64 e493) (by kernel_rfl) (ldL (e1 := eI) (l := (zg475l0.set e480.toNat (IntKind.i64.wrap (e492 + 1)))) 0 g475 rfl he493 rfl (by kernel_rfl) (by kernel_rfl)) ?_
                refine QQ.op (.slice Aa1 a1.length ca1) (by kernel_rfl) (fun w _ => by kernel_rfl) ?_
                refine QQ.op (.int .i64 e480) (by kernel_rfl) (fun w _ => by kernel_rfl) ?_
                obtain ⟨e494, he494, H⟩ := bind_some H
                refine QQ.op (.pointer (rp Aa1 (e480.toNat * 1 + 0))) (by kernel_rfl) (idxR (cp := ca1) (ik := .i64) (ha1.le le468) he494 rfl (by kernel_rfl) (by kernel_rfl) (by kernel_rfl)) ?_
                refine QQ.op (.int .i64 e494) (by kernel_rfl) (ldR (off := 0) (ha1.le le468) he494 rfl (by kernel_rfl) (by kernel_rfl)) ?_
                refine QQ.op (.bool (decide (e494 < e493))) (by kernel_rfl) (fun w _ => by kernel_rfl) ?_
                refine QQ.done (s' := [(0, .slice Aa0 a0.length ca0), (1, .slice Aa1 a1.length ca1), (6, .bool false), (9, .slice (some ⟨g475, 0, none⟩) y474.length y474.length), (30, .slice Aa2 a2.length ca2), (31, .int .i64 (a2.length : Int)), (32, .int .i64 x32l0), (71, .bool (decide (e494 < e493)))]) [0, 1, 6, 9, 30, 31, 32, 71] (by kernel_rfl) ?_
                refine NN.then ?_
                rcases Bool.eq_false_or_eq_true (decide (e494 < e493)) with c495 | c495
                · rw [if_pos (of_decide_eq_true c495)] at H
                  refine J.condT (b := decide (e494 < e493)) c495 (by kernel_rfl) (by kernel_rfl) ?_
                  refine J.seq ?_
                  refine J.plain ?_
                  refine LL.op (.bool false) (by kernel_rfl) (fun w _ => by kernel_rfl) ?_
                  refine LL.done (s' := [(0, .slice Aa0 a0.length ca0), (1, .slice Aa1 a1.length ca1), (6, .bool false), (9, .slice (some ⟨g475, 0, none⟩) y474.length y474.length), (30, .slice Aa2 a2.length ca2), (31, .int .i64 (a2.length : Int)), (32, .int .i64 x32l0)]) [0, 1, 6, 9, 30, 31, 32] (by kernel_rfl) ?_
                  refine NN.then ?_
                  refine J.ret ?_
                  refine NN.block_ret ?_
                  refine NN.then_ret ?_
                  refine NN.then_ret ?_
                  refine NN.block_ret ?_
                  refine NN.then_ret ?_
                  refine NN.fin1 6 (.bool false) (by kernel_rfl) (by kernel_rfl) (.inl rfl) (fun w hi => hi.ret ?_)
                  first | (cases H; rfl) | (obtain rfl := Option.some.inj H; rfl) | (simp only [Option.some.injEq, Prod.mk.injEq] at H; obtain ⟨rfl⟩ := H; rfl)
                · rw [if_neg (of_decide_eq_false c495)] at H
                  refine J.condF (b := decide (e494 < e493)) c495 (by kernel_rfl) (by kernel_rfl) ?_
                  refine J.skip ?_
                  refine NN.block_n ?_
                  refine NN.then ?_
                  refine J.plain ?_
                  refine LL.op (.int .i64 (IntKind.i64.wrap (x32l0 + 1))) (by kernel_rfl) (fun w _ => by kernel_rfl) ?_
                  refine LL.op (.int .i64 (IntKind.i64.wrap (x32l0 + 1))) (by kernel_rfl) (fun w _ => by kernel_rfl) ?_
                  refine LL.done (s' := [(0, .slice Aa0 a0.length ca0), (1, .slice Aa1 a1.length ca1), (6, .bool false), (9, .slice (some ⟨g475, 0, none⟩) y474.length y474.length), (30, .slice Aa2 a2.length ca2), (31, .int .i64 (a2.length : Int)), (32, .int .i64 (IntKind.i64.wrap (x32l0 + 1)))]) [0, 1, 6, 9, 30, 31, 32] (by kernel_rfl) ?_
                  exact NN.round' [0, 1, 6, 9, 30, 31, 32] (bs' := [(g475, cl (List.map eI (zg475l0.set e480.toNat (IntKind.i64.wrap (e492 + 1)))) 3)]) (Nat.lt_succ_self _) (List.Sublist.refl _) (by kernel_rfl) ⟨IntKind.i64.wrap (x32l0 + 1), (zg475l0.set e480.toNat (IntKind.i64.wrap (e492 + 1))), H, (List.length_set.trans lenzg475l0), rfl, rfl⟩
              · rw [if_neg (nebt c491)] at H
                refine J.condT (b := !e490) (by rw [show (!e490) = !(e490) from rfl, c491]; rfl) (by kernel_rfl) (by kernel_rfl) ?_
                refine J.seq ?_
                refine J.plain ?_
                refine LL.op (.bool false) (by kernel_rfl) (fun w _ => by kernel_rfl) ?_
                refine LL.done (s' := [(0, .slice Aa0 a0.length ca0), (1, .slice Aa1 a1.length ca1), (6, .bool false), (9, .slice (some ⟨g475, 0, none⟩) y474.length y474.length), (11, .int .i64 e480), (30, .slice Aa2 a2.length ca2), (31, .int .i64 (a2.length : Int)), (32, .int .i64 x32l0)]) [0, 1, 6, 9, 11, 30, 31, 32] (by kernel_rfl) ?_
                refine NN.then ?_
                refine J.ret ?_
                refine NN.then_ret ?_
                refine NN.block_ret ?_
                refine NN.then_ret ?_
                refine NN.then_ret ?_
                refine NN.block_ret ?_
                refine NN.then_ret ?_
                refine NN.fin1 6 (.bool false) (by kernel_rfl) (by kernel_rfl) (.inl rfl) (fun w hi => hi.ret ?_)
                first | (cases H; rfl) | (obtain rfl := Option.some.inj H; rfl) | (simp only [Option.some.injEq, Prod.mk.injEq] at H; obtain ⟨rfl⟩ := H; rfl)
      · rw [if_neg (of_decide_eq_false c479)] at H
        refine J.condF (b := decide (x32l0 < (a2.length : Int))) c479 (by kernel_rfl) (by kernel_rfl) ?_
        refine J.exit ?_
        refine NN.then_exit ?_
        refine NN.then_exit ?_
        refine NN.block_same ?_
        refine NN.then ?_
        refine J.seq ?_
        refine J.plain ?_
        refine LL.op (.bool true) (by kernel_rfl) (fun w _ => by kernel_rfl) ?_
        refine LL.done (s' := [(6, .bool true)]) [6] (by kernel_rfl) ?_
        refine NN.then ?_
        refine J.ret ?_
        refine NN.fin1 6 (.bool true) (by kernel_rfl) (by kernel_rfl) (.inl rfl) (fun w hi => hi.ret ?_)
        first | (cases H; rfl) | (obtain rfl := Option.some.inj H; rfl) | (simp only [Option.some.injEq, Prod.mk.injEq] at H; obtain ⟨rfl⟩ := H; rfl)
    · rw [if_neg (nebf c473)] at H
      refine J.condT (b := !((a2.length : Int) == x472)) (by rw [show (!((a2.length : Int) == x472)) = !(((a2.length : Int) == x472)) from rfl, c473]; rfl) (by kernel_rfl) (by kernel_rfl) ?_
      refine J.seq ?_
      refine J.plain ?_
      refine LL.op (.bool false) (by kernel_rfl) (fun w _ => by kernel_rfl) ?_
      refine LL.done (s' := [(0, .slice Aa0 a0.length ca0), (1, .slice Aa1 a1.length ca1), (2, .slice Aa2 a2.length ca2), (6, .bool false)]) [0, 1, 2, 6] (by kernel_rfl) ?_
      refine NN.then ?_
      refine J.ret ?_
      refine NN.then_ret ?_
      refine NN.fin1 6 (.bool false) (by kernel_rfl) (by kernel_rfl) (.inl rfl) (fun w hi => hi.ret ?_)
      first | (cases H; rfl) | (obtain rfl := Option.some.inj H; rfl) | (simp only [Option.some.injEq, Prod.mk.injEq] at H; obtain ⟨rfl⟩ := H; rfl)
  · rw [if_neg (nebf c471)] at H
    refine LL.bool 20 (!(x463_2 == 0)) true (by rw [show (!(x463_2 == 0)) = !((x463_2 == 0)) from rfl, c471]; rfl) (by kernel_rfl) ?_
    refine LL.off (by kernel_rfl) (by kernel_rfl) ?_
    refine LL.off (by kernel_rfl) (by kernel_rfl) ?_
    refine LL.off (by kernel_rfl) (by kernel_rfl) ?_
    refine LL.off (by kernel_rfl) (by kernel_rfl) ?_
    refine LL.off (by kernel_rfl) (by kernel_rfl) ?_
    refine LL.op (.bool true) (by kernel_rfl) (fun w _ => by kernel_rfl) ?_
    refine LL.done (s' := [(0, .slice Aa0 a0.length ca0), (1, .slice Aa1 a1.length ca1), (2, .slice Aa2 a2.length ca2), (6, .bool false), (26, .bool true)]) [0, 1, 2, 6, 26] (by kernel_rfl) ?_
    refine NN.then ?_
    refine J.condT (b := true) rfl (by kernel_rfl) (by kernel_rfl) ?_
    refine J.seq ?_
    refine J.plain ?_
    refine LL.op (.bool false) (by kernel_rfl) (fun w _ => by kernel_rfl) ?_
    refine LL.done (s' := [(0, .slice Aa0 a0.length ca0), (1, .slice Aa1 a1.length ca1), (2, .slice Aa2 a2.length ca2), (6, .bool false)]) [0, 1, 2, 6] (by kernel_rfl) ?_
    refine NN.then ?_
    refine J.ret ?_
    refine NN.then_ret ?_
    refine NN.fin1 6 (.bool false) (by kernel_rfl) (by kernel_rfl) (.inl rfl) (fun w hi => hi.ret ?_)
    first | (cases H; rfl) | (obtain rfl := Option.some.inj H; rfl) | (simp only [Option.some.injEq, Prod.mk.injEq] at H; obtain ⟨rfl⟩ := H; rfl)

/-! ### sawmillref48_Counts: function 39 -/
def sawmillref48_Counts.l0 (K : Nat) (a0 : List (List E4)) (a1 : List E3) : Nat → Int → Option ((List E3) × Int)
  | 0, _ => none
  | k + 1, x7l0 => if x7l0 < (a1.length : Int) then ((idx a1 x7l0).bind fun e502 => (if e502 < 0 then (some ([], 9)) else (if 200 < e502 then (some ([], 9)) else (sawmillref48_Counts.l0 K a0 a1 k (IntKind.i64.wrap (x7l0 + 1)))))) else ((sawmillref48_counts.f K a0 a1).bind fun x505 => (some (x505, 0)))
def sawmillref48_Counts.f (K : Nat) (a0 : List (List E4)) (a1 : List E3) : Option ((List E3) × Int) := (sawmillref48_rows.f K a0).bind fun x496 => (if x496 = 0 then (if (a1.length : Int) = (a0.length : Int) then (sawmillref48_Counts.l0 K a0 a1 K 0) else (some ([], 19))) else (some ([], x496)))
set_option maxRecDepth 100000 in
theorem sawmillref48_Counts.calls (K : Nat) (a0 : List (List E4)) (a1 : List E3)  (Aa0 : Option Addr) (ca0 : Nat) (Aa1 : Option Addr) (ca1 : Nat)  (r1 : List E3) (r2 : Int) (w : World)   (ha0 : KRow2 (Cx.start w) enc4 1 a0 Aa0) (ha1 : KRow (Cx.start w) enc3 1 a1 Aa1) (h : sawmillref48_Counts.f K a0 a1 = some (r1, r2)) :
    Calls Try.prog 39 #[.slice Aa0 a0.length ca0, .slice Aa1 a1.length ca1] w (RetR w enc3 1 r1 (fun A_ c_ => .tuple #[.slice A_ r1.length c_, .int .i64 r2])) := by
  have H := h
  clear h
  unfold sawmillref48_Counts.f at H
  refine Go.Saw.calls (args := [.slice Aa0 a0.length ca0, .slice Aa1 a1.length ca1]) Try.func39 rfl Try.ntmps39 (by kernel_rfl) ?_
  refine J.seq ?_
  refine J.plain ?_
  refine LL.op (.slice none 0 0) (by kernel_rfl) (fun w _ => by kernel_rfl) ?_
  refine LL.op (.int .i64 0) (by kernel_rfl) (fun w _ => by kernel_rfl) ?_
  refine LL.done (s' := [(0, .slice Aa0 a0.length ca0), (1, .slice Aa1 a1.length ca1), (4, .slice none 0 0), (5, .int .i64 0)]) [0, 1, 4, 5] (by kernel_rfl) ?_
  refine NN.then ?_
  refine J.seq ?_
  refine J.seq ?_
  refine J.plain ?_
  refine LL.op (.slice Aa0 a0.length ca0) (by kernel_rfl) (fun w _ => by kernel_rfl) ?_
  obtain ⟨x496, hx496, H⟩ := bind_some H
  refine LL.call 50 #[.slice Aa0 a0.length ca0] (.int .i64 x496) (by kernel_rfl) (fun w => by kernel_rfl) (fun w hw => sawmillref48_rows.calls K a0  _ _ _ w  (ha0.at hw) hx496) ?_
  refine LL.op (.int .i64 x496) (by kernel_rfl) (fun w _ => by kernel_rfl) ?_
  refine LL.done (s' := [(0, .slice Aa0 a0.length ca0), (1, .slice Aa1 a1.length ca1), (4, .slice none 0 0), (5, .int .i64 0), (6, .int .i64 x496)]) [0, 1, 4, 5, 6] (by kernel_rfl) ?_
  refine NN.then ?_
  refine J.seq ?_
  refine J.plain ?_
  refine LL.op (.int .i64 x496) (by kernel_rfl) (fun w _ => by kernel_rfl) ?_
  refine LL.op (.bool (!(x496 == 0))) (by kernel_rfl) (fun w _ => by kernel_rfl) ?_
  refine LL.done (s' := [(0, .slice Aa0 a0.length ca0), (1, .slice Aa1 a1.length ca1), (4, .slice none 0 0), (5, .int .i64 0), (6, .int .i64 x496), (11, .bool (!(x496 == 0)))]) [0, 1, 4, 5, 6, 11] (by kernel_rfl) ?_
  refine NN.then ?_
  rcases Bool.eq_false_or_eq_true ((x496 == 0)) with c497 | c497
  · rw [if_pos (eq_of_beq c497)] at H
    refine J.condF (b := !(x496 == 0)) (by rw [show (!(x496 == 0)) = !((x496 == 0)) from rfl, c497]; rfl) (by kernel_rfl) (by kernel_rfl) ?_
    refine J.skip ?_
    refine NN.then ?_
    refine J.seq ?_
    refine J.seq ?_
    refine J.plain ?_
    refine LL.op (.slice Aa1 a1.length ca1) (by kernel_rfl) (fun w _ => by kernel_rfl) ?_
    refine LL.op (.int .i64 (a1.length : Int)) (by kernel_rfl) (fun w _ => by kernel_rfl) ?_
    refine LL.op (.slice Aa0 a0.length ca0) (by kernel_rfl) (fun w _ => by kernel_rfl) ?_
    refine LL.op (.int .i64 (a0.length : Int)) (by kernel_rfl) (fun w _ => by kernel_rfl) ?_
    refine LL.op (.bool (!((a1.length : Int) == (a0.length : Int)))) (by kernel_rfl) (fun w _ => by kernel_rfl) ?_
    refine LL.done (s' := [(0, .slice Aa0 a0.length ca0), (1, .slice Aa1 a1.length ca1), (4, .slice none 0 0), (5, .int .i64 0), (17, .bool (!((a1.length : Int) == (a0.length : Int))))]) [0, 1, 4, 5, 17] (by kernel_rfl) ?_
    refine NN.then ?_
    rcases Bool.eq_false_or_eq_true (((a1.length : Int) == (a0.length : Int))) with c498 | c498
    · rw [if_pos (eq_of_beq c498)] at H
      refine J.condF (b := !((a1.length : Int) == (a0.length : Int))) (by rw [show (!((a1.length : Int) == (a0.length : Int))) = !(((a1.length : Int) == (a0.length : Int))) from rfl, c498]; rfl) (by kernel_rfl) (by kernel_rfl) ?_
      refine J.skip ?_
      refine NN.then ?_
      refine J.seq ?_
      refine J.seq ?_
      refine J.plain ?_
      refine LL.op (.int .i64 0) (by kernel_rfl) (fun w _ => by kernel_rfl) ?_
      refine LL.done (s' := [(0, .slice Aa0 a0.length ca0), (1, .slice Aa1 a1.length ca1), (4, .slice none 0 0), (5, .int .i64 0), (7, .int .i64 0)]) [0, 1, 4, 5, 7] (by kernel_rfl) ?_
      refine NN.then ?_
      refine J.block ?_
      refine J.to [0, 1, 4, 5, 7] (s' := [(0, .slice Aa0 a0.length ca0), (1, .slice Aa1 a1.length ca1), (4, .slice none 0 0), (5, .int .i64 0), (7, .int .i64 0)]) (by kernel_rfl) ?_
      refine J.loop (fun n_ s_ bs_ => ∃ (x7l0 : Int), sawmillref48_Counts.l0 K a0 a1 n_ x7l0 = some (r1, r2) ∧ s_ = [(0, .slice Aa0 a0.length ca0), (1, .slice Aa1 a1.length ca1), (4, .slice none 0 0), (5, .int .i64 0), (7, .int .i64 x7l0)] ∧ [] = bs_) K ⟨0, H, rfl, rfl⟩ ?_
      rintro (_ | n_) s_ bs_ ⟨x7l0, H, rfl, rfl⟩
      · exact absurd H (by simp [sawmillref48_Counts.l0])
      simp only [sawmillref48_Counts.l0] at H
      refine J.seq ?_
      refine J.seq ?_
      refine J.plain ?_
      refine LL.op (.int .i64 x7l0) (by kernel_rfl) (fun w _ => by kernel_rfl) ?_
      refine LL.op (.slice Aa1 a1.length ca1) (by kernel_rfl) (fun w _ => by kernel_rfl) ?_
      refine LL.op (.int .i64 (a1.length : Int)) (by kernel_rfl) (fun w _ => by kernel_rfl) ?_
      refine LL.op (.bool (decide (x7l0 < (a1.length : Int)))) (by kernel_rfl) (fun w _ => by kernel_rfl) ?_
      refine LL.done (s' := [(0, .slice Aa0 a0.length ca0), (1, .slice Aa1 a1.length ca1), (4, .slice none 0 0), (5, .int .i64 0), (7, .int .i64 x7l0), (21, .bool (decide (x7l0 < (a1.length : Int))))]) [0, 1, 4, 5, 7, 21] (by kernel_rfl) ?_
      refine NN.then ?_
      rcases Bool.eq_false_or_eq_true (decide (x7l0 < (a1.length : Int))) with c501 | c501
      · rw [if_pos (of_decide_eq_true c501)] at H
        refine J.condT (b := decide (x7l0 < (a1.length : Int))) c501 (by kernel_rfl) (by kernel_rfl) ?_
        refine J.skip ?_
        refine NN.then ?_
        refine J.seq ?_
        refine J.block ?_
        refine J.seq ?_
        refine J.plain ?_
        refine LL.op (.slice Aa1 a1.length ca1) (by kernel_rfl) (fun w _ => by kernel_rfl) ?_
        refine LL.op (.int .i64 x7l0) (by kernel_rfl) (fun w _ => by kernel_rfl) ?_
        obtain ⟨e502, he502, H⟩ := bind_some H
        refine LL.op (.pointer (rp Aa1 (x7l0.toNat * 1 + 0))) (by kernel_rfl) (idxR (cp := ca1) (ik := .i64) ha1 he502 rfl (by kernel_rfl) (by kernel_rfl) (by kernel_rfl)) ?_
        refine LL.op (.int .i64 e502) (by kernel_rfl) (ldR (off := 0) ha1 he502 rfl (by kernel_rfl) (by kernel_rfl)) ?_
        refine LL.op (.bool (decide (e502 < 0))) (by kernel_rfl) (fun w _ => by kernel_rfl) ?_
        refine LL.op (.bool (decide (e502 < 0))) (by kernel_rfl) (fun w _ => by kernel_rfl) ?_
        rcases Bool.eq_false_or_eq_true (decide (e502 < 0)) with c503 | c503
        · rw [if_pos (of_decide_eq_true c503)] at H
          refine LL.bool 29 (decide (e502 < 0)) true c503 (by kernel_rfl) ?_
          refine LL.off (by kernel_rfl) (by kernel_rfl) ?_
          refine LL.off (by kernel_rfl) (by kernel_rfl) ?_
          refine LL.off (by kernel_rfl) (by kernel_rfl) ?_
          refine LL.off (by kernel_rfl) (by kernel_rfl) ?_
          refine LL.off (by kernel_rfl) (by kernel_rfl) ?_
          refine LL.op (.bool true) (by kernel_rfl) (fun w _ => by kernel_rfl) ?_
          refine LL.done (s' := [(0, .slice Aa0 a0.length ca0), (1, .slice Aa1 a1.length ca1), (4, .slice none 0 0), (5, .int .i64 0), (7, .int .i64 x7l0), (35, .bool true)]) [0, 1, 4, 5, 7, 35] (by kernel_rfl) ?_
          refine NN.then ?_
          refine J.condT (b := true) rfl (by kernel_rfl) (by kernel_rfl) ?_
          refine J.seq ?_
          refine J.plain ?_
          refine LL.op (.slice none 0 0) (by kernel_rfl) (fun w _ => by kernel_rfl) ?_
          refine LL.op (.int .i64 9) (by kernel_rfl) (fun w _ => by kernel_rfl) ?_
          refine LL.done (s' := [(0, .slice Aa0 a0.length ca0), (1, .slice Aa1 a1.length ca1), (4, .slice none 0 0), (5, .int .i64 9), (7, .int .i64 x7l0)]) [0, 1, 4, 5, 7] (by kernel_rfl) ?_
          refine NN.then ?_
          refine J.ret ?_
          refine NN.block_ret ?_
          refine NN.then_ret ?_
          refine NN.then_ret ?_
          refine NN.block_ret ?_
          refine NN.then_ret ?_
          first | (obtain rfl := Option.some.inj H) | (simp only [Option.some.injEq, Prod.mk.injEq] at H; obtain ⟨rfl, rfl⟩ := H)
          refine NN.fin2 4 5 (.slice none 0 0) (.int .i64 9) (by kernel_rfl) (by kernel_rfl) (by kernel_rfl) (.inl rfl) (fun w hi => hi.retNil rfl)
        · rw [if_neg (of_decide_eq_false c503)] at H
          refine LL.bool 29 (decide (e502 < 0)) false c503 (by kernel_rfl) ?_
          refine LL.op (.slice Aa1 a1.length ca1) (by kernel_rfl) (fun w _ => by kernel_rfl) ?_
          refine LL.op (.int .i64 x7l0) (by kernel_rfl) (fun w _ => by kernel_rfl) ?_
          refine LL.op (.pointer (rp Aa1 (x7l0.toNat * 1 + 0))) (by kernel_rfl) (idxR (cp := ca1) (ik := .i64) ha1 he502 rfl (by kernel_rfl) (by kernel_rfl) (by kernel_rfl)) ?_
          refine LL.op (.int .i64 e502) (by kernel_rfl) (ldR (off := 0) ha1 he502 rfl (by kernel_rfl) (by kernel_rfl)) ?_
          refine LL.op (.bool (decide (200 < e502))) (by kernel_rfl) (fun w _ => by kernel_rfl) ?_
          refine LL.op (.bool (decide (200 < e502))) (by kernel_rfl) (fun w _ => by kernel_rfl) ?_
          refine LL.done (s' := [(0, .slice Aa0 a0.length ca0), (1, .slice Aa1 a1.length ca1), (4, .slice none 0 0), (5, .int .i64 0), (7, .int .i64 x7l0), (35, .bool (decide (200 < e502)))]) [0, 1, 4, 5, 7, 35] (by kernel_rfl) ?_
          refine NN.then ?_
          rcases Bool.eq_false_or_eq_true (decide (200 < e502)) with c504 | c504
          · rw [if_pos (of_decide_eq_true c504)] at H
            refine J.condT (b := decide (200 < e502)) c504 (by kernel_rfl) (by kernel_rfl) ?_
            refine J.seq ?_
            refine J.plain ?_
            refine LL.op (.slice none 0 0) (by kernel_rfl) (fun w _ => by kernel_rfl) ?_
            refine LL.op (.int .i64 9) (by kernel_rfl) (fun w _ => by kernel_rfl) ?_
            refine LL.done (s' := [(0, .slice Aa0 a0.length ca0), (1, .slice Aa1 a1.length ca1), (4, .slice none 0 0), (5, .int .i64 9), (7, .int .i64 x7l0)]) [0, 1, 4, 5, 7] (by kernel_rfl) ?_
            refine NN.then ?_
            refine J.ret ?_
            refine NN.block_ret ?_
            refine NN.then_ret ?_
            refine NN.then_ret ?_
            refine NN.block_ret ?_
            refine NN.then_ret ?_
            first | (obtain rfl := Option.some.inj H) | (simp only [Option.some.injEq, Prod.mk.injEq] at H; obtain ⟨rfl, rfl⟩ := H)
            refine NN.fin2 4 5 (.slice none 0 0) (.int .i64 9) (by kernel_rfl) (by kernel_rfl) (by kernel_rfl) (.inl rfl) (fun w hi => hi.retNil rfl)
          · rw [if_neg (of_decide_eq_false c504)] at H
            refine J.condF (b := decide (200 < e502)) c504 (by kernel_rfl) (by kernel_rfl) ?_
            refine J.skip ?_
            refine NN.block_n ?_
            refine NN.then ?_
            refine J.plain ?_
            refine LL.op (.int .i64 x7l0) (by kernel_rfl) (fun w _ => by kernel_rfl) ?_
            refine LL.op (.int .i64 (IntKind.i64.wrap (x7l0 + 1))) (by kernel_rfl) (fun w _ => by kernel_rfl) ?_
            refine LL.op (.int .i64 (IntKind.i64.wrap (x7l0 + 1))) (by kernel_rfl) (fun w _ => by kernel_rfl) ?_
            refine LL.done (s' := [(0, .slice Aa0 a0.length ca0), (1, .slice Aa1 a1.length ca1), (4, .slice none 0 0), (5, .int .i64 0), (7, .int .i64 (IntKind.i64.wrap (x7l0 + 1)))]) [0, 1, 4, 5, 7] (by kernel_rfl) ?_
            exact NN.round' [0, 1, 4, 5, 7] (bs' := []) (Nat.lt_succ_self _) (List.Sublist.refl _) (by kernel_rfl) ⟨IntKind.i64.wrap (x7l0 + 1), H, rfl, rfl⟩
      · rw [if_neg (of_decide_eq_false c501)] at H
        refine J.condF (b := decide (x7l0 < (a1.length : Int))) c501 (by kernel_rfl) (by kernel_rfl) ?_
        refine J.exit ?_
        refine NN.then_exit ?_
        refine NN.then_exit ?_
        refine NN.block_same ?_
        refine NN.then ?_
        refine J.seq ?_
        refine J.plain ?_
        refine LL.op (.slice Aa0 a0.length ca0) (by kernel_rfl) (fun w _ => by kernel_rfl) ?_
        refine LL.op (.slice Aa1 a1.length ca1) (by kernel_rfl) (fun w _ => by kernel_rfl) ?_
        obtain ⟨x505, hx505, H⟩ := bind_some H
        refine LL.callR (enc := enc3) (m := 1) (l := x505) 51 #[.slice Aa0 a0.length ca0, .slice Aa1 a1.length ca1] (fun A_ c_ => .slice A_ x505.length c_) (by kernel_rfl) (fun w => by kernel_rfl) (fun w hw => sawmillref48_counts.calls K a0 a1  _ _ _ _ _ w  (ha0.at hw) (ha1.at hw) hx505) (fun R506 F507 A508 c509 le510 k511 fr512 => ?_)
        refine LL.op (.slice A508 x505.length c509) (by kernel_rfl) (fun w _ => by kernel_rfl) ?_
        refine LL.op (.int .i64 0) (by kernel_rfl) (fun w _ => by kernel_rfl) ?_
        refine LL.done (s' := [(4, .slice A508 x505.length c509), (5, .int .i64 0)]) [4, 5] (by kernel_rfl) ?_
        refine NN.then ?_
        refine J.ret ?_
        first | (obtain rfl := Option.some.inj H) | (simp only [Option.some.injEq, Prod.mk.injEq] at H; obtain ⟨rfl, rfl⟩ := H)
        refine NN.fin2 4 5 (.slice A508 x505.length c509) (.int .i64 0) (by kernel_rfl) (by kernel_rfl) (by kernel_rfl) (.inl rfl) (fun w hi => hi.retRow k511 fr512 c509 rfl)
    · rw [if_neg (nebf c498)] at H
      refine J.condT (b := !((a1.length : Int) == (a0.length : Int))) (by rw [show (!((a1.length : Int) == (a0.length : Int))) = !(((a1.length : Int) == (a0.length : Int))) from rfl, c498]; rfl) (by kernel_rfl) (by kernel_rfl) ?_
      refine J.seq ?_
      refine J.plain ?_
      refine LL.op (.slice none 0 0) (by kernel_rfl) (fun w _ => by kernel_rfl) ?_
      refine LL.op (.int .i64 19) (by kernel_rfl) (fun w _ => by kernel_rfl) ?_
      refine LL.done (s' := [(0, .slice Aa0 a0.length ca0), (1, .slice Aa1 a1.length ca1), (4, .slice none 0 0), (5, .int .i64 19)]) [0, 1, 4, 5] (by kernel_rfl) ?_
      refine NN.then ?_
      refine J.ret ?_
      refine NN.then_ret ?_
      first | (obtain rfl := Option.some.inj H) | (simp only [Option.some.injEq, Prod.mk.injEq] at H; obtain ⟨rfl, rfl⟩ := H)
      refine NN.fin2 4 5 (.slice none 0 0) (.int .i64 19) (by kernel_rfl) (by kernel_rfl) (by kernel_rfl) (.inl rfl) (fun w hi => hi.retNil rfl)
  · rw [if_neg (nebf c497)] at H
    refine J.condT (b := !(x496 == 0)) (by rw [show (!(x496 == 0)) = !((x496 == 0)) from rfl, c497]; rfl) (by kernel_rfl) (by kernel_rfl) ?_
    refine J.seq ?_
    refine J.plain ?_
    refine LL.op (.int .i64 x496) (by kernel_rfl) (fun w _ => by kernel_rfl) ?_
    refine LL.op (.slice none 0 0) (by kernel_rfl) (fun w _ => by kernel_rfl) ?_
    refine LL.op (.int .i64 x496) (by kernel_rfl) (fun w _ => by kernel_rfl) ?_
    refine LL.done (s' := [(0, .slice Aa0 a0.length ca0), (1, .slice Aa1 a1.length ca1), (4, .slice none 0 0), (5, .int .i64 x496)]) [0, 1, 4, 5] (by kernel_rfl) ?_
    refine NN.then ?_
    refine J.ret ?_
    refine NN.then_ret ?_
    first | (obtain rfl := Option.some.inj H) | (simp only [Option.some.injEq, Prod.mk.injEq] at H; obtain ⟨rfl, rfl⟩ := H)
    refine NN.fin2 4 5 (.slice none 0 0) (.int .i64 x496) (by kernel_rfl) (by kernel_rfl) (by kernel_rfl) (.inl rfl) (fun w hi => hi.retNil rfl)

/-! ### sawmillref48_Valid: function 21 -/
def sawmillref48_Valid.l1 (K : Nat) (a1 : List E3) (x539 : List E3) (kont_ : Int → Option (Bool)) : Nat → Int → Option (Bool)
  | 0, _ => none
  | k + 1, x11l1 => if x11l1 < (x539.length : Int) then ((idx x539 x11l1).bind fun e550 => ((idx a1 x11l1).bind fun e551 => (if e551 < e550 then (some false) else (sawmillref48_Valid.l1 K a1 x539 kont_ k (IntKind.i64.wrap (x11l1 + 1)))))) else (kont_ x11l1)
def sawmillref48_Valid.l0 (K : Nat) (a0 : List (List E4)) (a1 : List E3) (a2 : List E3) : Nat → Int → Option (Bool)
  | 0, _ => none
  | k + 1, x9l0 => if x9l0 < (a2.length : Int) then ((idx a2 x9l0).bind fun e527 => (if e527 < (-1) then (some false) else (if (a0.length : Int) ≤ e527 then (some false) else (if 0 ≤ e527 then ((idx a0 e527).bind fun e531 => ((idx e531 x9l0).bind fun e537 => (if e537 = true then (sawmillref48_Valid.l0 K a0 a1 a2 k (IntKind.i64.wrap (x9l0 + 1))) else (some false)))) else (sawmillref48_Valid.l0 K a0 a1 a2 k (IntKind.i64.wrap (x9l0 + 1))))))) else ((sawmillref48_CountsOf.f K (a0.length : Int) a2).bind fun x539 => (sawmillref48_Valid.l1 K a1 x539 (fun (x11l1 : Int) => some true) K 0))
def sawmillref48_Valid.f (K : Nat) (a0 : List (List E4)) (a1 : List E3) (a2 : List E3) : Option (Bool) := (sawmillref48_Counts.f K a0 a1).bind fun bx513 => (if bx513.2 = 0 then ((sawmillref48_boards.f a0).bind fun x522 => (if (a2.length : Int) = x522 then (sawmillref48_Valid.l0 K a0 a1 a2 K 0) else (some false))) else (some false))
set_option maxRecDepth 100000 in
theorem sawmillref48_Valid.calls (K : Nat) (a0 : List (List E4)) (a1 : List E3) (a2 : List E3)  (Aa0 : Option Addr) (ca0 : Nat) (Aa1 : Option Addr) (ca1 : Nat) (Aa2 : Option Addr) (ca2 : Nat)  (r1 : Bool) (w : World)   (ha0 : KRow2 (Cx.start w) enc4 1 a0 Aa0) (ha1 : KRow (Cx.start w) enc3 1 a1 Aa1) (ha2 : KRow (Cx.start w) enc3 1 a2 Aa2) (h : sawmillref48_Valid.f K a0 a1 a2 = some r1) :
    Calls Try.prog 21 #[.slice Aa0 a0.length ca0, .slice Aa1 a1.length ca1, .slice Aa2 a2.length ca2] w (Ret w (.bool r1)) := by
  have H := h
  clear h
  unfold sawmillref48_Valid.f at H
  refine Go.Saw.calls (args := [.slice Aa0 a0.length ca0, .slice Aa1 a1.length ca1, .slice Aa2 a2.length ca2]) Try.func21 rfl Try.ntmps21 (by kernel_rfl) ?_
  refine J.seq ?_
  refine J.plain ?_
  refine LL.op (.bool false) (by kernel_rfl) (fun w _ => by kernel_rfl) ?_
  refine LL.done (s' := [(0, .slice Aa0 a0.length ca0), (1, .slice Aa1 a1.length ca1), (2, .slice Aa2 a2.length ca2), (6, .bool false)]) [0, 1, 2, 6] (by kernel_rfl) ?_
  refine NN.then ?_
  refine J.seq ?_
  refine J.seq ?_
  refine J.plain ?_
  refine LL.op (.slice Aa0 a0.length ca0) (by kernel_rfl) (fun w _ => by kernel_rfl) ?_
  refine LL.op (.slice Aa1 a1.length ca1) (by kernel_rfl) (fun w _ => by kernel_rfl) ?_
  obtain ⟨⟨x513_1, x513_2⟩, hx513, H⟩ := bind_some H
  (try dsimp only at H)
  refine LL.callR (enc := enc3) (m := 1) (l := x513_1) 39 #[.slice Aa0 a0.length ca0, .slice Aa1 a1.length ca1] (fun A_ c_ => .tuple #[.slice A_ x513_1.length c_, .int .i64 x513_2]) (by kernel_rfl) (fun w => by kernel_rfl) (fun w hw => sawmillref48_Counts.calls K a0 a1  _ _ _ _ _ _ w  (ha0.at hw) (ha1.at hw) hx513) (fun R514 F515 A516 c517 le518 k519 fr520 => ?_)
  refine LL.op (.tuple #[.slice A516 x513_1.length c517, .int .i64 x513_2]) (by kernel_rfl) (fun w _ => by kernel_rfl) ?_
  refine LL.op (.slice A516 x513_1.length c517) (by kernel_rfl) (fun w _ => by kernel_rfl) ?_
  refine LL.op (.int .i64 x513_2) (by kernel_rfl) (fun w _ => by kernel_rfl) ?_
  refine LL.op (.slice A516 x513_1.length c517) (by kernel_rfl) (fun w _ => by kernel_rfl) ?_
  refine LL.op (.int .i64 x513_2) (by kernel_rfl) (fun w _ => by kernel_rfl) ?_
  refine LL.done (s' := [(0, .slice Aa0 a0.length ca0), (1, .slice Aa1 a1.length ca1), (2, .slice Aa2 a2.length ca2), (6, .bool false), (8, .int .i64 x513_2)]) [0, 1, 2, 6, 8] (by kernel_rfl) ?_
  refine NN.then ?_
  refine J.seq ?_
  refine J.plain ?_
  refine LL.op (.int .i64 x513_2) (by kernel_rfl) (fun w _ => by kernel_rfl) ?_
  refine LL.op (.bool (!(x513_2 == 0))) (by kernel_rfl) (fun w _ => by kernel_rfl) ?_
  refine LL.op (.bool (!(x513_2 == 0))) (by kernel_rfl) (fun w _ => by kernel_rfl) ?_
  rcases Bool.eq_false_or_eq_true ((x513_2 == 0)) with c521 | c521
  · rw [if_pos (eq_of_beq c521)] at H
    refine LL.bool 20 (!(x513_2 == 0)) false (by rw [show (!(x513_2 == 0)) = !((x513_2 == 0)) from rfl, c521]; rfl) (by kernel_rfl) ?_
    refine LL.op (.slice Aa2 a2.length ca2) (by kernel_rfl) (fun w _ => by kernel_rfl) ?_
    refine LL.op (.int .i64 (a2.length : Int)) (by kernel_rfl) (fun w _ => by kernel_rfl) ?_
    refine LL.op (.slice Aa0 a0.length ca0) (by kernel_rfl) (fun w _ => by kernel_rfl) ?_
    obtain ⟨x522, hx522, H⟩ := bind_some H
    refine LL.call 40 #[.slice Aa0 a0.length ca0] (.int .i64 x522) (by kernel_rfl) (fun w => by kernel_rfl) (fun w hw => sawmillref48_boards.calls a0  _ _ _ w  ((ha0.le le518).at hw) hx522) ?_
    refine LL.op (.bool (!((a2.length : Int) == x522))) (by kernel_rfl) (fun w _ => by kernel_rfl) ?_
    refine LL.op (.bool (!((a2.length : Int) == x522))) (by kernel_rfl) (fun w _ => by kernel_rfl) ?_
    refine LL.done (s' := [(0, .slice Aa0 a0.length ca0), (1, .slice Aa1 a1.length ca1), (2, .slice Aa2 a2.length ca2), (6, .bool false), (26, .bool (!((a2.length : Int) == x522)))]) [0, 1, 2, 6, 26] (by kernel_rfl) ?_
    refine NN.then ?_
    rcases Bool.eq_false_or_eq_true (((a2.length : Int) == x522)) with c523 | c523
    · rw [if_pos (eq_of_beq c523)] at H
      refine J.condF (b := !((a2.length : Int) == x522)) (by rw [show (!((a2.length : Int) == x522)) = !(((a2.length : Int) == x522)) from rfl, c523]; rfl) (by kernel_rfl) (by kernel_rfl) ?_
      refine J.skip ?_
      refine NN.then ?_
      refine J.seq ?_
      refine J.seq ?_
      refine J.plain ?_
      refine LL.op (.int .i64 0) (by kernel_rfl) (fun w _ => by kernel_rfl) ?_
      refine LL.done (s' := [(0, .slice Aa0 a0.length ca0), (1, .slice Aa1 a1.length ca1), (2, .slice Aa2 a2.length ca2), (6, .bool false), (9, .int .i64 0)]) [0, 1, 2, 6, 9] (by kernel_rfl) ?_
      refine NN.then ?_
      refine J.block ?_
      refine J.to [0, 1, 2, 6, 9] (s' := [(0, .slice Aa0 a0.length ca0), (1, .slice Aa1 a1.length ca1), (2, .slice Aa2 a2.length ca2), (6, .bool false), (9, .int .i64 0)]) (by kernel_rfl) ?_
      refine J.loop (fun n_ s_ bs_ => ∃ (x9l0 : Int), sawmillref48_Valid.l0 K a0 a1 a2 n_ x9l0 = some r1 ∧ s_ = [(0, .slice Aa0 a0.length ca0), (1, .slice Aa1 a1.length ca1), (2, .slice Aa2 a2.length ca2), (6, .bool false), (9, .int .i64 x9l0)] ∧ [] = bs_) K ⟨0, H, rfl, rfl⟩ ?_
      rintro (_ | n_) s_ bs_ ⟨x9l0, H, rfl, rfl⟩
      · exact absurd H (by simp [sawmillref48_Valid.l0])
      simp only [sawmillref48_Valid.l0] at H
      refine J.seq ?_
      refine J.seq ?_
      refine J.plain ?_
      refine LL.op (.int .i64 x9l0) (by kernel_rfl) (fun w _ => by kernel_rfl) ?_
      refine LL.op (.slice Aa2 a2.length ca2) (by kernel_rfl) (fun w _ => by kernel_rfl) ?_
      refine LL.op (.int .i64 (a2.length : Int)) (by kernel_rfl) (fun w _ => by kernel_rfl) ?_
      refine LL.op (.bool (decide (x9l0 < (a2.length : Int)))) (by kernel_rfl) (fun w _ => by kernel_rfl) ?_
      refine LL.done (s' := [(0, .slice Aa0 a0.length ca0), (1, .slice Aa1 a1.length ca1), (2, .slice Aa2 a2.length ca2), (6, .bool false), (9, .int .i64 x9l0), (30, .bool (decide (x9l0 < (a2.length : Int))))]) [0, 1, 2, 6, 9, 30] (by kernel_rfl) ?_
      refine NN.then ?_
      rcases Bool.eq_false_or_eq_true (decide (x9l0 < (a2.length : Int))) with c526 | c526
      · rw [if_pos (of_decide_eq_true c526)] at H
        refine J.condT (b := decide (x9l0 < (a2.length : Int))) c526 (by kernel_rfl) (by kernel_rfl) ?_
        refine J.skip ?_
        refine NN.then ?_
        refine J.seq ?_
        refine J.block ?_
        refine J.seq ?_
        refine J.plain ?_
        refine LL.op (.slice Aa2 a2.length ca2) (by kernel_rfl) (fun w _ => by kernel_rfl) ?_
        refine LL.op (.int .i64 x9l0) (by kernel_rfl) (fun w _ => by kernel_rfl) ?_
        obtain ⟨e527, he527, H⟩ := bind_some H
        refine LL.op (.pointer (rp Aa2 (x9l0.toNat * 1 + 0))) (by kernel_rfl) (idxR (cp := ca2) (ik := .i64) (ha2.le le518) he527 rfl (by kernel_rfl) (by kernel_rfl) (by kernel_rfl)) ?_
        refine LL.op (.int .i64 e527) (by kernel_rfl) (ldR (off := 0) (ha2.le le518) he527 rfl (by kernel_rfl) (by kernel_rfl)) ?_
        refine LL.op (.bool (decide (e527 < (-1)))) (by kernel_rfl) (fun w _ => by kernel_rfl) ?_
        refine LL.op (.bool (decide (e527 < (-1)))) (by kernel_rfl) (fun w _ => by kernel_rfl) ?_
        rcases Bool.eq_false_or_eq_true (decide (e527 < (-1))) with c528 | c528
        · rw [if_pos (of_decide_eq_true c528)] at H
          refine LL.bool 38 (decide (e527 < (-1))) true c528 (by kernel_rfl) ?_
          refine LL.off (by kernel_rfl) (by kernel_rfl) ?_
          refine LL.off (by kernel_rfl) (by kernel_rfl) ?_
          refine LL.off (by kernel_rfl) (by kernel_rfl) ?_
          refine LL.off (by kernel_rfl) (by kernel_rfl) ?_
          refine LL.off (by kernel_rfl) (by kernel_rfl) ?_
          refine LL.off (by kernel_rfl) (by kernel_rfl) ?_
          refine LL.off (by kernel_rfl) (by kernel_rfl) ?_
          refine LL.op (.bool true) (by kernel_rfl) (fun w _ => by kernel_rfl) ?_
          refine LL.op (.bool true) (by kernel_rfl) (fun w _ => by kernel_rfl) ?_
          refine LL.off (by kernel_rfl) (by kernel_rfl) ?_
          refine LL.off (by kernel_rfl) (by kernel_rfl) ?_
          refine LL.off (by kernel_rfl) (by kernel_rfl) ?_
          refine LL.off (by kernel_rfl) (by kernel_rfl) ?_
          refine LL.off (by kernel_rfl) (by kernel_rfl) ?_
          refine LL.off (by kernel_rfl) (by kernel_rfl) ?_
          refine LL.off (by kernel_rfl) (by kernel_rfl) ?_
          refine LL.off (by kernel_rfl) (by kernel_rfl) ?_
          refine LL.off (by kernel_rfl) (by kernel_rfl) ?_
          refine LL.off (by kernel_rfl) (by kernel_rfl) ?_
          refine LL.off (by kernel_rfl) (by kernel_rfl) ?_
          refine LL.off (by kernel_rfl) (by kernel_rfl) ?_
          refine LL.off (by kernel_rfl) (by kernel_rfl) ?_
          refine LL.off (by kernel_rfl) (by kernel_rfl) ?_
          refine LL.off (by kernel_rfl) (by kernel_rfl) ?_
          refine LL.off (by kernel_rfl) (by kernel_rfl) ?_
          refine LL.off (by kernel_rfl) (by kernel_rfl) ?_
          refine LL.off (by kernel_rfl) (by kernel_rfl) ?_
          refine LL.op (.bool true) (by kernel_rfl) (fun w _ => by kernel_rfl) ?_
          refine LL.done (s' := [(0, .slice Aa0 a0.length ca0), (1, .slice Aa1 a1.length ca1), (2, .slice Aa2 a2.length ca2), (6, .bool false), (9, .int .i64 x9l0), (66, .bool true)]) [0, 1, 2, 6, 9, 66] (by kernel_rfl) ?_
          refine NN.then ?_
          refine J.condT (b := true) rfl (by kernel_rfl) (by kernel_rfl) ?_
          refine J.seq ?_
          refine J.plain ?_
          refine LL.op (.bool false) (by kernel_rfl) (fun w _ => by kernel_rfl) ?_
          refine LL.done (s' := [(0, .slice Aa0 a0.length ca0), (1, .slice Aa1 a1.length ca1), (2, .slice Aa2 a2.length ca2), (6, .bool false), (9, .int .i64 x9l0)]) [0, 1, 2, 6, 9] (by kernel_rfl) ?_
          refine NN.then ?_
          refine J.ret ?_
          refine NN.block_ret ?_
          refine NN.then_ret ?_
          refine NN.then_ret ?_
          refine NN.block_ret ?_
          refine NN.then_ret ?_
          refine NN.fin1 6 (.bool false) (by kernel_rfl) (by kernel_rfl) (.inl rfl) (fun w hi => hi.ret ?_)
          first | (cases H; rfl) | (obtain rfl := Option.some.inj H; rfl) | (simp only [Option.some.injEq, Prod.mk.injEq] at H; obtain ⟨rfl⟩ := H; rfl)
        · rw [if_neg (of_decide_eq_false c528)] at H
          refine LL.bool 38 (decide (e527 < (-1))) false c528 (by kernel_rfl) ?_
          refine LL.op (.slice Aa2 a2.length ca2) (by kernel_rfl) (fun w _ => by kernel_rfl) ?_
          refine LL.op (.int .i64 x9l0) (by kernel_rfl) (fun w _ => by kernel_rfl) ?_
          refine LL.op (.pointer (rp Aa2 (x9l0.toNat * 1 + 0))) (by kernel_rfl) (idxR (cp := ca2) (ik := .i64) (ha2.le le518) he527 rfl (by kernel_rfl) (by kernel_rfl) (by kernel_rfl)) ?_
          refine LL.op (.int .i64 e527) (by kernel_rfl) (ldR (off := 0) (ha2.le le518) he527 rfl (by kernel_rfl) (by kernel_rfl)) ?_
          refine LL.op (.slice Aa0 a0.length ca0) (by kernel_rfl) (fun w _ => by kernel_rfl) ?_
          refine LL.op (.int .i64 (a0.length : Int)) (by kernel_rfl) (fun w _ => by kernel_rfl) ?_
          refine LL.op (.bool (decide ((a0.length : Int) ≤ e527))) (by kernel_rfl) (fun w _ => by kernel_rfl) ?_
          refine LL.op (.bool (decide ((a0.length : Int) ≤ e527))) (by kernel_rfl) (fun w _ => by kernel_rfl) ?_
          refine LL.op (.bool (decide ((a0.length : Int) ≤ e527))) (by kernel_rfl) (fun w _ => by kernel_rfl) ?_
          rcases Bool.eq_false_or_eq_true (decide ((a0.length : Int) ≤ e527)) with c529 | c529
          · rw [if_pos (of_decide_eq_true c529)] at H
            refine LL.bool 47 (decide ((a0.length : Int) ≤ e527)) true c529 (by kernel_rfl) ?_
            refine LL.off (by kernel_rfl) (by kernel_rfl) ?_
            refine LL.off (by kernel_rfl) (by kernel_rfl) ?_
            refine LL.off (by kernel_rfl) (by kernel_rfl) ?_
            refine LL.off (by kernel_rfl) (by kernel_rfl) ?_
            refine LL.off (by kernel_rfl) (by kernel_rfl) ?_
            refine LL.off (by kernel_rfl) (by kernel_rfl) ?_
            refine LL.off (by kernel_rfl) (by kernel_rfl) ?_
            refine LL.off (by kernel_rfl) (by kernel_rfl) ?_
            refine LL.off (by kernel_rfl) (by kernel_rfl) ?_
            refine LL.off (by kernel_rfl) (by kernel_rfl) ?_
            refine LL.off (by kernel_rfl) (by kernel_rfl) ?_
            refine LL.off (by kernel_rfl) (by kernel_rfl) ?_
            refine LL.off (by kernel_rfl) (by kernel_rfl) ?_
            refine LL.off (by kernel_rfl) (by kernel_rfl) ?_
            refine LL.off (by kernel_rfl) (by kernel_rfl) ?_
            refine LL.off (by kernel_rfl) (by kernel_rfl) ?_
            refine LL.off (by kernel_rfl) (by kernel_rfl) ?_
            refine LL.off (by kernel_rfl) (by kernel_rfl) ?_
            refine LL.op (.bool true) (by kernel_rfl) (fun w _ => by kernel_rfl) ?_
            refine LL.done (s' := [(0, .slice Aa0 a0.length ca0), (1, .slice Aa1 a1.length ca1), (2, .slice Aa2 a2.length ca2), (6, .bool false), (9, .int .i64 x9l0), (66, .bool true)]) [0, 1, 2, 6, 9, 66] (by kernel_rfl) ?_
            refine NN.then ?_
            refine J.condT (b := true) rfl (by kernel_rfl) (by kernel_rfl) ?_
            refine J.seq ?_
            refine J.plain ?_
            refine LL.op (.bool false) (by kernel_rfl) (fun w _ => by kernel_rfl) ?_
            refine LL.done (s' := [(0, .slice Aa0 a0.length ca0), (1, .slice Aa1 a1.length ca1), (2, .slice Aa2 a2.length ca2), (6, .bool false), (9, .int .i64 x9l0)]) [0, 1, 2, 6, 9] (by kernel_rfl) ?_
            refine NN.then ?_
            refine J.ret ?_
            refine NN.block_ret ?_
            refine NN.then_ret ?_
            refine NN.then_ret ?_
            refine NN.block_ret ?_
            refine NN.then_ret ?_
            refine NN.fin1 6 (.bool false) (by kernel_rfl) (by kernel_rfl) (.inl rfl) (fun w hi => hi.ret ?_)
            first | (cases H; rfl) | (obtain rfl := Option.some.inj H; rfl) | (simp only [Option.some.injEq, Prod.mk.injEq] at H; obtain ⟨rfl⟩ := H; rfl)
          · rw [if_neg (of_decide_eq_false c529)] at H
            refine LL.bool 47 (decide ((a0.length : Int) ≤ e527)) false c529 (by kernel_rfl) ?_
            refine LL.op (.slice Aa2 a2.length ca2) (by kernel_rfl) (fun w _ => by kernel_rfl) ?_
            refine LL.op (.int .i64 x9l0) (by kernel_rfl) (fun w _ => by kernel_rfl) ?_
            refine LL.op (.pointer (rp Aa2 (x9l0.toNat * 1 + 0))) (by kernel_rfl) (idxR (cp := ca2) (ik := .i64) (ha2.le le518) he527 rfl (by kernel_rfl) (by kernel_rfl) (by kernel_rfl)) ?_
            refine LL.op (.int .i64 e527) (by kernel_rfl) (ldR (off := 0) (ha2.le le518) he527 rfl (by kernel_rfl) (by kernel_rfl)) ?_
            refine LL.op (.bool (decide (0 ≤ e527))) (by kernel_rfl) (fun w _ => by kernel_rfl) ?_
            refine LL.op (.bool (decide (0 ≤ e527))) (by kernel_rfl) (fun w _ => by kernel_rfl) ?_
            rcases Bool.eq_false_or_eq_true (decide (0 ≤ e527)) with c530 | c530
            · rw [if_pos (of_decide_eq_true c530)] at H
              refine LL.bool 53 (decide (0 ≤ e527)) true c530 (by kernel_rfl) ?_
              refine LL.op (.slice Aa0 a0.length ca0) (by kernel_rfl) (fun w _ => by kernel_rfl) ?_
              refine LL.op (.slice Aa2 a2.length ca2) (by kernel_rfl) (fun w _ => by kernel_rfl) ?_
              refine LL.op (.int .i64 x9l0) (by kernel_rfl) (fun w _ => by kernel_rfl) ?_
              refine LL.op (.pointer (rp Aa2 (x9l0.toNat * 1 + 0))) (by kernel_rfl) (idxR (cp := ca2) (ik := .i64) (ha2.le le518) he527 rfl (by kernel_rfl) (by kernel_rfl) (by kernel_rfl)) ?_
              refine LL.op (.int .i64 e527) (by kernel_rfl) (ldR (off := 0) (ha2.le le518) he527 rfl (by kernel_rfl) (by kernel_rfl)) ?_
              obtain ⟨e531, he531, H⟩ := bind_some H
              refine LL.op (.pointer (rp Aa0 (e527.toNat * 1 + 0))) (by kernel_rfl) (idx2 (cp := ca0) (ik := .i64) (ha0.le le518) he531 rfl (by kernel_rfl) (by kernel_rfl) (by kernel_rfl)) ?_
              obtain ⟨A532, c533, k534, ld535⟩ := KRow2.row (ha0.le le518) he531
              refine LL.op (.slice A532 e531.length c533) (by kernel_rfl) (ld535 rfl (by kernel_rfl) (by kernel_rfl)) ?_
              refine LL.op (.int .i64 x9l0) (by kernel_rfl) (fun w _ => by kernel_rfl) ?_
              obtain ⟨e537, he537, H⟩ := bind_some H
              refine LL.op (.pointer (rp A532 (x9l0.toNat * 1 + 0))) (by kernel_rfl) (idxR (cp := c533) (ik := .i64) k534 he537 rfl (by kernel_rfl) (by kernel_rfl) (by kernel_rfl)) ?_
              refine LL.op (.bool e537) (by kernel_rfl) (ldR (off := 0) k534 he537 rfl (by kernel_rfl) (by kernel_rfl)) ?_
              refine LL.op (.bool (!e537)) (by kernel_rfl) (fun w _ => by kernel_rfl) ?_
              refine LL.op (.bool (!e537)) (by kernel_rfl) (fun w _ => by kernel_rfl) ?_
              refine LL.op (.bool (!e537)) (by kernel_rfl) (fun w _ => by kernel_rfl) ?_
              refine LL.done (s' := [(0, .slice Aa0 a0.length ca0), (1, .slice Aa1 a1.length ca1), (2, .slice Aa2 a2.length ca2), (6, .bool false), (9, .int .i64 x9l0), (66, .bool (!e537))]) [0, 1, 2, 6, 9, 66] (by kernel_rfl) ?_
              refine NN.then ?_
              rcases Bool.eq_false_or_eq_true (e537) with c538 | c538
              · rw [if_pos (c538)] at H
                refine J.condF (b := !e537) (by rw [show (!e537) = !(e537) from rfl, c538]; rfl) (by kernel_rfl) (by kernel_rfl) ?_
                refine J.skip ?_
                refine NN.block_n ?_
                refine NN.then ?_
                refine J.plain ?_
                refine LL.op (.int .i64 x9l0) (by kernel_rfl) (fun w _ => by kernel_rfl) ?_
                refine LL.op (.int .i64 (IntKind.i64.wrap (x9l0 + 1))) (by kernel_rfl) (fun w _ => by kernel_rfl) ?_
                refine LL.op (.int .i64 (IntKind.i64.wrap (x9l0 + 1))) (by kernel_rfl) (fun w _ => by kernel_rfl) ?_
                refine LL.done (s' := [(0, .slice Aa0 a0.length ca0), (1, .slice Aa1 a1.length ca1), (2, .slice Aa2 a2.length ca2), (6, .bool false), (9, .int .i64 (IntKind.i64.wrap (x9l0 + 1)))]) [0, 1, 2, 6, 9] (by kernel_rfl) ?_
                exact NN.round' [0, 1, 2, 6, 9] (bs' := []) (Nat.lt_succ_self _) (List.Sublist.refl _) (by kernel_rfl) ⟨IntKind.i64.wrap (x9l0 + 1), H, rfl, rfl⟩
              · rw [if_neg (nebt c538)] at H
                refine J.condT (b := !e537) (by rw [show (!e537) = !(e537) from rfl, c538]; rfl) (by kernel_rfl) (by kernel_rfl) ?_
                refine J.seq ?_
                refine J.plain ?_
                refine LL.op (.bool false) (by kernel_rfl) (fun w _ => by kernel_rfl) ?_
                refine LL.done (s' := [(0, .slice Aa0 a0.length ca0), (1, .slice Aa1 a1.length ca1), (2, .slice Aa2 a2.length ca2), (6, .bool false), (9, .int .i64 x9l0)]) [0, 1, 2, 6, 9] (by kernel_rfl) ?_
                refine NN.then ?_
                refine J.ret ?_
                refine NN.block_ret ?_
                refine NN.then_ret ?_
                refine NN.then_ret ?_
                refine NN.block_ret ?_
                refine NN.then_ret ?_
                refine NN.fin1 6 (.bool false) (by kernel_rfl) (by kernel_rfl) (.inl rfl) (fun w hi => hi.ret ?_)
                first | (cases H; rfl) | (obtain rfl := Option.some.inj H; rfl) | (simp only [Option.some.injEq, Prod.mk.injEq] at H; obtain ⟨rfl⟩ := H; rfl)
            · rw [if_neg (of_decide_eq_false c530)] at H
              refine LL.bool 53 (decide (0 ≤ e527)) false c530 (by kernel_rfl) ?_
              refine LL.off (by kernel_rfl) (by kernel_rfl) ?_
              refine LL.off (by kernel_rfl) (by kernel_rfl) ?_
              refine LL.off (by kernel_rfl) (by kernel_rfl) ?_
              refine LL.off (by kernel_rfl) (by kernel_rfl) ?_
              refine LL.off (by kernel_rfl) (by kernel_rfl) ?_
              refine LL.off (by kernel_rfl) (by kernel_rfl) ?_
              refine LL.off (by kernel_rfl) (by kernel_rfl) ?_
              refine LL.off (by kernel_rfl) (by kernel_rfl) ?_
              refine LL.off (by kernel_rfl) (by kernel_rfl) ?_
              refine LL.off (by kernel_rfl) (by kernel_rfl) ?_
              refine LL.off (by kernel_rfl) (by kernel_rfl) ?_
              refine LL.op (.bool false) (by kernel_rfl) (fun w _ => by kernel_rfl) ?_
              refine LL.op (.bool false) (by kernel_rfl) (fun w _ => by kernel_rfl) ?_
              refine LL.done (s' := [(0, .slice Aa0 a0.length ca0), (1, .slice Aa1 a1.length ca1), (2, .slice Aa2 a2.length ca2), (6, .bool false), (9, .int .i64 x9l0), (66, .bool false)]) [0, 1, 2, 6, 9, 66] (by kernel_rfl) ?_
              refine NN.then ?_
              refine J.condF (b := false) rfl (by kernel_rfl) (by kernel_rfl) ?_
              refine J.skip ?_
              refine NN.block_n ?_
              refine NN.then ?_
              refine J.plain ?_
              refine LL.op (.int .i64 x9l0) (by kernel_rfl) (fun w _ => by kernel_rfl) ?_
              refine LL.op (.int .i64 (IntKind.i64.wrap (x9l0 + 1))) (by kernel_rfl) (fun w _ => by kernel_rfl) ?_
              refine LL.op (.int .i64 (IntKind.i64.wrap (x9l0 + 1))) (by kernel_rfl) (fun w _ => by kernel_rfl) ?_
              refine LL.done (s' := [(0, .slice Aa0 a0.length ca0), (1, .slice Aa1 a1.length ca1), (2, .slice Aa2 a2.length ca2), (6, .bool false), (9, .int .i64 (IntKind.i64.wrap (x9l0 + 1)))]) [0, 1, 2, 6, 9] (by kernel_rfl) ?_
              exact NN.round' [0, 1, 2, 6, 9] (bs' := []) (Nat.lt_succ_self _) (List.Sublist.refl _) (by kernel_rfl) ⟨IntKind.i64.wrap (x9l0 + 1), H, rfl, rfl⟩
      · rw [if_neg (of_decide_eq_false c526)] at H
        refine J.condF (b := decide (x9l0 < (a2.length : Int))) c526 (by kernel_rfl) (by kernel_rfl) ?_
        refine J.exit ?_
        refine NN.then_exit ?_
        refine NN.then_exit ?_
        refine NN.block_same ?_
        refine NN.then ?_
        refine J.seq ?_
        refine J.plain ?_
        refine LL.op (.slice Aa0 a0.length ca0) (by kernel_rfl) (fun w _ => by kernel_rfl) ?_
        refine LL.op (.int .i64 (a0.length : Int)) (by kernel_rfl) (fun w _ => by kernel_rfl) ?_
        refine LL.op (.slice Aa2 a2.length ca2) (by kernel_rfl) (fun w _ => by kernel_rfl) ?_
        obtain ⟨x539, hx539, H⟩ := bind_some H
        refine LL.callR (enc := enc3) (m := 1) (l := x539) 22 #[.int .i64 (a0.length : Int), .slice Aa2 a2.length ca2] (fun A_ c_ => .slice A_ x539.length c_) (by kernel_rfl) (fun w => by kernel_rfl) (fun w hw => sawmillref48_CountsOf.calls K (a0.length : Int) a2  _ _ _ w  ((ha2.le le518).at hw) hx539) (fun R540 F541 A542 c543 le544 k545 fr546 => ?_)
        refine LL.op (.slice A542 x539.length c543) (by kernel_rfl) (fun w _ => by kernel_rfl) ?_
        refine LL.done (s' := [(1, .slice Aa1 a1.length ca1), (6, .bool false), (10, .slice A542 x539.length c543)]) [1, 6, 10] (by kernel_rfl) ?_
        refine NN.then ?_
        refine J.seq ?_
        refine J.seq ?_
        refine J.plain ?_
        refine LL.op (.int .i64 0) (by kernel_rfl) (fun w _ => by kernel_rfl) ?_
        refine LL.done (s' := [(1, .slice Aa1 a1.length ca1), (6, .bool false), (10, .slice A542 x539.length c543), (11, .int .i64 0)]) [1, 6, 10, 11] (by kernel_rfl) ?_
        refine NN.then ?_
        refine J.block ?_
        refine J.to [1, 6, 10, 11] (s' := [(1, .slice Aa1 a1.length ca1), (6, .bool false), (10, .slice A542 x539.length c543), (11, .int .i64 0)]) (by kernel_rfl) ?_
        obtain ⟨kont547, hk547, H⟩ := kont_intro (P := fun q_ => sawmillref48_Valid.l1 K a1 x539 q_ K 0 = some r1) H
        refine J.loop (fun n_ s_ bs_ => ∃ (x11l1 : Int), sawmillref48_Valid.l1 K a1 x539 kont547 n_ x11l1 = some r1 ∧ s_ = [(1, .slice Aa1 a1.length ca1), (6, .bool false), (10, .slice A542 x539.length c543), (11, .int .i64 x11l1)] ∧ [] = bs_) K ⟨0, H, rfl, rfl⟩ ?_
        rintro (_ | n_) s_ bs_ ⟨x11l1, H, rfl, rfl⟩
        · exact absurd H (by simp [sawmillref48_Valid.l1])
        simp only [sawmillref48_Valid.l1] at H
        refine J.seq ?_
        refine J.seq ?_
        refine J.plain ?_
        refine LL.op (.int .i64 x11l1) (by kernel_rfl) (fun w _ => by kernel_rfl) ?_
        refine LL.op (.slice A542 x539.length c543) (by kernel_rfl) (fun w _ => by kernel_rfl) ?_
        refine LL.op (.int .i64 (x539.length : Int)) (by kernel_rfl) (fun w _ => by kernel_rfl) ?_
        refine LL.op (.bool (decide (x11l1 < (x539.length : Int)))) (by kernel_rfl) (fun w _ => by kernel_rfl) ?_
        refine LL.done (s' := [(1, .slice Aa1 a1.length ca1), (6, .bool false), (10, .slice A542 x539.length c543), (11, .int .i64 x11l1), (74, .bool (decide (x11l1 < (x539.length : Int))))]) [1, 6, 10, 11, 74] (by kernel_rfl) ?_
        refine NN.then ?_
        rcases Bool.eq_false_or_eq_true (decide (x11l1 < (x539.length : Int))) with c549 | c549
        · rw [if_pos (of_decide_eq_true c549)] at H
          refine J.condT (b := decide (x11l1 < (x539.length : Int))) c549 (by kernel_rfl) (by kernel_rfl) ?_
          refine J.skip ?_
          refine NN.then ?_
          refine J.seq ?_
          refine J.block ?_
          refine J.seq ?_
          refine J.drawn follows (by kernel_rfl) ?_
          refine QQ.op (.slice A542 x539.length c543) (by kernel_rfl) (fun w _ => by kernel_rfl) ?_
          refine QQ.op (.int .i64 x11l1) (by kernel_rfl) (fun w _ => by kernel_rfl) ?_
          obtain ⟨e550, he550, H⟩ := bind_some H
          refine QQ.op (.pointer (rp A542 (x11l1.toNat * 1 + 0))) (by kernel_rfl) (idxR (cp := c543) (ik := .i64) k545 he550 rfl (by kernel_rfl) (by kernel_rfl) (by kernel_rfl)) ?_
          refine QQ.op (.int .i64 e550) (by kernel_rfl) (ldR (off := 0) k545 he550 rfl (by kernel_rfl) (by kernel_rfl)) ?_
          refine QQ.op (.slice Aa1 a1.length ca1) (by kernel_rfl) (fun w _ => by kernel_rfl) ?_
          refine QQ.op (.int .i64 x11l1) (by kernel_rfl) (fun w _ => by kernel_rfl) ?_
          obtain ⟨e551, he551, H⟩ := bind_some H
          refine QQ.op (.pointer (rp Aa1 (x11l1.toNat * 1 + 0))) (by kernel_rfl) (idxR (cp := ca1) (ik := .i64) ((ha1.le le518).le le544) he551 rfl (by kernel_rfl) (by kernel_rfl) (by kernel_rfl)) ?_
          refine QQ.op (.int .i64 e551) (by kernel_rfl) (ldR (off := 0) ((ha1.le le518).le le544) he551 rfl (by kernel_rfl) (by kernel_rfl)) ?_
          refine QQ.op (.bool (decide (e551 < e550))) (by kernel_rfl) (fun w _ => by kernel_rfl) ?_
          refine QQ.done (s' := [(1, .slice Aa1 a1.length ca1), (6, .bool false), (10, .slice A542 x539.length c543), (11, .int .i64 x11l1), (85, .bool (decide (e551 < e550)))]) [1, 6, 10, 11, 85] (by kernel_rfl) ?_
          refine NN.then ?_
          rcases Bool.eq_false_or_eq_true (decide (e551 < e550)) with c552 | c552
          · rw [if_pos (of_decide_eq_true c552)] at H
            refine J.condT (b := decide (e551 < e550)) c552 (by kernel_rfl) (by kernel_rfl) ?_
            refine J.seq ?_
            refine J.plain ?_
            refine LL.op (.bool false) (by kernel_rfl) (fun w _ => by kernel_rfl) ?_
            refine LL.done (s' := [(1, .slice Aa1 a1.length ca1), (6, .bool false), (10, .slice A542 x539.length c543), (11, .int .i64 x11l1)]) [1, 6, 10, 11] (by kernel_rfl) ?_
            refine NN.then ?_
            refine J.ret ?_
            refine NN.block_ret ?_
            refine NN.then_ret ?_
            refine NN.then_ret ?_
            refine NN.block_ret ?_
            refine NN.then_ret ?_
            refine NN.fin1 6 (.bool false) (by kernel_rfl) (by kernel_rfl) (.inl rfl) (fun w hi => hi.ret ?_)
            first | (cases H; rfl) | (obtain rfl := Option.some.inj H; rfl) | (simp only [Option.some.injEq, Prod.mk.injEq] at H; obtain ⟨rfl⟩ := H; rfl)
          · rw [if_neg (of_decide_eq_false c552)] at H
            refine J.condF (b := decide (e551 < e550)) c552 (by kernel_rfl) (by kernel_rfl) ?_
            refine J.skip ?_
            refine NN.block_n ?_
            refine NN.then ?_
            refine J.plain ?_
            refine LL.op (.int .i64 x11l1) (by kernel_rfl) (fun w _ => by kernel_rfl) ?_
            refine LL.op (.int .i64 (IntKind.i64.wrap (x11l1 + 1))) (by kernel_rfl) (fun w _ => by kernel_rfl) ?_
            refine LL.op (.int .i64 (IntKind.i64.wrap (x11l1 + 1))) (by kernel_rfl) (fun w _ => by kernel_rfl) ?_
            refine LL.done (s' := [(1, .slice Aa1 a1.length ca1), (6, .bool false), (10, .slice A542 x539.length c543), (11, .int .i64 (IntKind.i64.wrap (x11l1 + 1)))]) [1, 6, 10, 11] (by kernel_rfl) ?_
            exact NN.round' [1, 6, 10, 11] (bs' := []) (Nat.lt_succ_self _) (List.Sublist.refl _) (by kernel_rfl) ⟨IntKind.i64.wrap (x11l1 + 1), H, rfl, rfl⟩
        · rw [if_neg (of_decide_eq_false c549)] at H
          refine J.condF (b := decide (x11l1 < (x539.length : Int))) c549 (by kernel_rfl) (by kernel_rfl) ?_
          refine J.exit ?_
          refine NN.then_exit ?_
          rw [← hk547] at H
          (try dsimp only at H)
          refine NN.then_exit ?_
          refine NN.block_same ?_
          refine NN.then ?_
          refine J.seq ?_
          refine J.plain ?_
          refine LL.op (.bool true) (by kernel_rfl) (fun w _ => by kernel_rfl) ?_
          refine LL.done (s' := [(6, .bool true)]) [6] (by kernel_rfl) ?_
          refine NN.then ?_
          refine J.ret ?_
          refine NN.fin1 6 (.bool true) (by kernel_rfl) (by kernel_rfl) (.inl rfl) (fun w hi => hi.ret ?_)
          first | (cases H; rfl) | (obtain rfl := Option.some.inj H; rfl) | (simp only [Option.some.injEq, Prod.mk.injEq] at H; obtain ⟨rfl⟩ := H; rfl)
    · rw [if_neg (nebf c523)] at H
      refine J.condT (b := !((a2.length : Int) == x522)) (by rw [show (!((a2.length : Int) == x522)) = !(((a2.length : Int) == x522)) from rfl, c523]; rfl) (by kernel_rfl) (by kernel_rfl) ?_
      refine J.seq ?_
      refine J.plain ?_
      refine LL.op (.bool false) (by kernel_rfl) (fun w _ => by kernel_rfl) ?_
      refine LL.done (s' := [(0, .slice Aa0 a0.length ca0), (1, .slice Aa1 a1.length ca1), (2, .slice Aa2 a2.length ca2), (6, .bool false)]) [0, 1, 2, 6] (by kernel_rfl) ?_
      refine NN.then ?_
      refine J.ret ?_
      refine NN.then_ret ?_
      refine NN.fin1 6 (.bool false) (by kernel_rfl) (by kernel_rfl) (.inl rfl) (fun w hi => hi.ret ?_)
      first | (cases H; rfl) | (obtain rfl := Option.some.inj H; rfl) | (simp only [Option.some.injEq, Prod.mk.injEq] at H; obtain ⟨rfl⟩ := H; rfl)
  · rw [if_neg (nebf c521)] at H
    refine LL.bool 20 (!(x513_2 == 0)) true (by rw [show (!(x513_2 == 0)) = !((x513_2 == 0)) from rfl, c521]; rfl) (by kernel_rfl) ?_
    refine LL.off (by kernel_rfl) (by kernel_rfl) ?_
    refine LL.off (by kernel_rfl) (by kernel_rfl) ?_
    refine LL.off (by kernel_rfl) (by kernel_rfl) ?_
    refine LL.off (by kernel_rfl) (by kernel_rfl) ?_
    refine LL.off (by kernel_rfl) (by kernel_rfl) ?_
    refine LL.op (.bool true) (by kernel_rfl) (fun w _ => by kernel_rfl) ?_
    refine LL.done (s' := [(0, .slice Aa0 a0.length ca0), (1, .slice Aa1 a1.length ca1), (2, .slice Aa2 a2.length ca2), (6, .bool false), (26, .bool true)]) [0, 1, 2, 6, 26] (by kernel_rfl) ?_
    refine NN.then ?_
    refine J.condT (b := true) rfl (by kernel_rfl) (by kernel_rfl) ?_
    refine J.seq ?_
    refine J.plain ?_
    refine LL.op (.bool false) (by kernel_rfl) (fun w _ => by kernel_rfl) ?_
    refine LL.done (s' := [(0, .slice Aa0 a0.length ca0), (1, .slice Aa1 a1.length ca1), (2, .slice Aa2 a2.length ca2), (6, .bool false)]) [0, 1, 2, 6] (by kernel_rfl) ?_
    refine NN.then ?_
    refine J.ret ?_
    refine NN.then_ret ?_
    refine NN.fin1 6 (.bool false) (by kernel_rfl) (by kernel_rfl) (.inl rfl) (fun w hi => hi.ret ?_)
    first | (cases H; rfl) | (obtain rfl := Option.some.inj H; rfl) | (simp only [Option.some.injEq, Prod.mk.injEq] at H; obtain ⟨rfl⟩ := H; rfl)

/-! ### sawmilllaw48_awake: function 18 -/
def sawmilllaw48_awake.f (K : Nat)  : Option (Bool) := (assign_Counts.f K ([([true, true, false] : List E4), ([true, false, true] : List E4)] : List (List E4)) ([2, 2] : List E3)).bind fun bx586 => ((assign_Best.f K ([([true, true, false] : List E4), ([true, false, true] : List E4)] : List (List E4)) ([0, 0] : List E3) ([2, 2] : List E3)).bind fun bx610 => ((assign_Best.f K ([([true, true, false] : List E4), ([true, false, true] : List E4)] : List (List E4)) ([0, 2] : List E3) ([2, 2] : List E3)).bind fun bx634 => ((assign_Best.f K ([([true, true] : List E4), ([true, false] : List E4)] : List (List E4)) ([0, 0] : List E3) ([1, 1] : List E3)).bind fun bx683 => ((assign_Counts.f K ([([true, true, false] : List E4), ([true, false, true] : List E4)] : List (List E4)) ([2] : List E3)).bind fun bx699 => ((assign_Table.f K ([((⟨#[]⟩ : ByteArray), (⟨#[]⟩ : ByteArray), 0, 0, 0, 0, 0, 0, 0, 0, 0)] : List E27) []).bind fun x715 => (if bx586.2 = 0 then ((sawmilllaw48_ints.f K bx586.1 ([2, 1] : List E3)).bind fun x732 => (if x732 = true then (if bx610.2 = 0 then ((sawmilllaw48_ints.f K bx610.1 ([0, 0, 1] : List E3)).bind fun x743 => (if x743 = true then (if bx634.2 = 0 then ((sawmilllaw48_ints.f K bx634.1 ([0, 0, (-1)] : List E3)).bind fun x754 => (if x754 = true then (if bx683.2 = 0 then ((sawmilllaw48_ints.f K bx683.1 ([1, 0] : List E3)).bind fun x765 => (if x765 = true then (if bx699.2 = 19 then (if (x715.length : Int) = 1 then ((assign_Valid.f K ([([true, true, false] : List E4), ([true, false, true] : List E4)] : List (List E4)) ([2, 2] : List E3) bx610.1).bind fun x777 => (if x777 = true then ((assign_Valid.f K ([([true, true, false] : List E4), ([true, false, true] : List E4)] : List (List E4)) ([1, 2] : List E3) bx610.1).bind fun x787 => (some (!x787))) else (some false))) else (some false)) else (some false)) else (some false))) else (some false)) else (some false))) else (some false)) else (some false))) else (some false)) else (some false))) else (some false)))))))
set_option maxRecDepth 100000 in
theorem sawmilllaw48_awake.calls (K : Nat)     (r1 : Bool) (w : World)    (h : sawmilllaw48_awake.f K  = some r1) :
    Calls Try.prog 18 #[] w (Ret w (.bool r1)) := by
  have H := h
  clear h
  unfold sawmilllaw48_awake.f at H
  refine Go.Saw.calls (args := []) Try.func18 rfl Try.ntmps18 (by kernel_rfl) ?_
  refine J.seq ?_
  refine J.plain ?_
  refine LL.op (.bool false) (by kernel_rfl) (fun w _ => by kernel_rfl) ?_
  refine LL.done (s' := [(0, .bool false)]) [0] (by kernel_rfl) ?_
  refine NN.then ?_
  refine J.seq ?_
  refine J.plain ?_
  refine LL.lit 48 3 #[(0, .const (.bool true)), (1, .const (.bool true)), (2, .const (.bool false))] [.bool true, .bool true, .bool false] 4 ([true, true, false] : List E4) (by kernel_rfl) rfl (by kernel_rfl) ok4.len rfl rfl (fun R553 F554 A555 c556 le557 k558 fr559 => ?_)
  refine LL.lit 48 3 #[(0, .const (.bool true)), (1, .const (.bool false)), (2, .const (.bool true))] [.bool true, .bool false, .bool true] 4 ([true, false, true] : List E4) (by kernel_rfl) rfl (by kernel_rfl) ok4.len rfl rfl (fun R561 F562 A563 c564 le565 k566 fr567 => ?_)
  refine LL.lit (enc := encS) (m := 1) 38 2 #[(0, .tmp 13), (1, .tmp 14)] [.slice A555 3 c556, .slice A563 3 c564] 48 ([(([true, true, false] : List E4), A555, c556), (([true, false, true] : List E4), A563, c564)] : List (List E4 × Option Addr × Nat)) (by kernel_rfl) rfl (by kernel_rfl) encS_ok.len rfl rfl (fun R569 F570 A571 c572 le573 k574 fr575 => ?_)
  have k577 := lit2_row k574 (All.cons ((k558.le le565).le le573) (All.cons (k566.le le573) (fun _ h => nomatch h)))
  refine LL.op (.slice A571 2 c572) (by kernel_rfl) (fun w _ => by kernel_rfl) ?_
  refine LL.done (s' := [(0, .bool false), (1, .slice A571 2 c572)]) [0, 1] (by kernel_rfl) ?_
  refine NN.then ?_
  refine J.seq ?_
  refine J.plain ?_
  refine LL.op (.slice A571 2 c572) (by kernel_rfl) (fun w _ => by kernel_rfl) ?_
  refine LL.lit 24 2 #[(0, .const (.int .i64 2)), (1, .const (.int .i64 2))] [.int .i64 2, .int .i64 2] 3 ([2, 2] : List E3) (by kernel_rfl) rfl (by kernel_rfl) ok3.len rfl rfl (fun R578 F579 A580 c581 le582 k583 fr584 => ?_)
  obtain ⟨⟨x586_1, x586_2⟩, hx586, H⟩ := bind_some H
  (try dsimp only at H)
  refine LL.callR (enc := enc3) (m := 1) (l := x586_1) 13 #[.slice A571 2 c572, .slice A580 2 c581] (fun A_ c_ => .tuple #[.slice A_ x586_1.length c_, .int .i64 x586_2]) (by kernel_rfl) (fun w => by kernel_rfl) (fun w hw => assign_Counts.calls K ([([true, true, false] : List E4), ([true, false, true] : List E4)] : List (List E4)) ([2, 2] : List E3)  _ _ _ _ _ _ w  ((k577.le le582).at hw) (k583.at hw) hx586) (fun R587 F588 A589 c590 le591 k592 fr593 => ?_)
  refine LL.op (.tuple #[.slice A589 x586_1.length c590, .int .i64 x586_2]) (by kernel_rfl) (fun w _ => by kernel_rfl) ?_
  refine LL.op (.slice A589 x586_1.length c590) (by kernel_rfl) (fun w _ => by kernel_rfl) ?_
  refine LL.op (.int .i64 x586_2) (by kernel_rfl) (fun w _ => by kernel_rfl) ?_
  refine LL.op (.slice A589 x586_1.length c590) (by kernel_rfl) (fun w _ => by kernel_rfl) ?_
  refine LL.op (.int .i64 x586_2) (by kernel_rfl) (fun w _ => by kernel_rfl) ?_
  refine LL.done (s' := [(0, .bool false), (1, .slice A571 2 c572), (2, .slice A589 x586_1.length c590), (3, .int .i64 x586_2)]) [0, 1, 2, 3] (by kernel_rfl) ?_
  refine NN.then ?_
  refine J.seq ?_
  refine J.plain ?_
  refine LL.op (.slice A571 2 c572) (by kernel_rfl) (fun w _ => by kernel_rfl) ?_
  refine LL.lit 24 2 #[(0, .const (.int .i64 0)), (1, .const (.int .i64 0))] [.int .i64 0, .int .i64 0] 3 ([0, 0] : List E3) (by kernel_rfl) rfl (by kernel_rfl) ok3.len rfl rfl (fun R594 F595 A596 c597 le598 k599 fr600 => ?_)
  refine LL.lit 24 2 #[(0, .const (.int .i64 2)), (1, .const (.int .i64 2))] [.int .i64 2, .int .i64 2] 3 ([2, 2] : List E3) (by kernel_rfl) rfl (by kernel_rfl) ok3.len rfl rfl (fun R602 F603 A604 c605 le606 k607 fr608 => ?_)
  obtain ⟨⟨x610_1, x610_2⟩, hx610, H⟩ := bind_some H
  (try dsimp only at H)
  refine LL.callR (enc := enc3) (m := 1) (l := x610_1) 14 #[.slice A571 2 c572, .slice A596 2 c597, .slice A604 2 c605] (fun A_ c_ => .tuple #[.slice A_ x610_1.length c_, .int .i64 x610_2]) (by kernel_rfl) (fun w => by kernel_rfl) (fun w hw => assign_Best.calls K ([([true, true, false] : List E4), ([true, false, true] : List E4)] : List (List E4)) ([0, 0] : List E3) ([2, 2] : List E3)  _ _ _ _ _ _ _ _ w  (((((k577.le le582).le le591).le le598).le le606).at hw) ((k599.le le606).at hw) (k607.at hw) hx610) (fun R611 F612 A613 c614 le615 k616 fr617 => ?_)
  refine LL.op (.tuple #[.slice A613 x610_1.length c614, .int .i64 x610_2]) (by kernel_rfl) (fun w _ => by kernel_rfl) ?_
  refine LL.op (.slice A613 x610_1.length c614) (by kernel_rfl) (fun w _ => by kernel_rfl) ?_
  refine LL.op (.int .i64 x610_2) (by kernel_rfl) (fun w _ => by kernel_rfl) ?_
  refine LL.op (.slice A613 x610_1.length c614) (by kernel_rfl) (fun w _ => by kernel_rfl) ?_
  refine LL.op (.int .i64 x610_2) (by kernel_rfl) (fun w _ => by kernel_rfl) ?_
  refine LL.done (s' := [(0, .bool false), (1, .slice A571 2 c572), (2, .slice A589 x586_1.length c590), (3, .int .i64 x586_2), (4, .slice A613 x610_1.length c614), (5, .int .i64 x610_2)]) [0, 1, 2, 3, 4, 5] (by kernel_rfl) ?_
  refine NN.then ?_
  refine J.seq ?_
  refine J.plain ?_
  refine LL.op (.slice A571 2 c572) (by kernel_rfl) (fun w _ => by kernel_rfl) ?_
  refine LL.lit 24 2 #[(0, .const (.int .i64 0)), (1, .const (.int .i64 2))] [.int .i64 0, .int .i64 2] 3 ([0, 2] : List E3) (by kernel_rfl) rfl (by kernel_rfl) ok3.len rfl rfl (fun R618 F619 A620 c621 le622 k623 fr624 => ?_)
  refine LL.lit 24 2 #[(0, .const (.int .i64 2)), (1, .const (.int .i64 2))] [.int .i64 2, .int .i64 2] 3 ([2, 2] : List E3) (by kernel_rfl) rfl (by kernel_rfl) ok3.len rfl rfl (fun R626 F627 A628 c629 le630 k631 fr632 => ?_)
  obtain ⟨⟨x634_1, x634_2⟩, hx634, H⟩ := bind_some H
  (try dsimp only at H)
  refine LL.callR (enc := enc3) (m := 1) (l := x634_1) 14 #[.slice A571 2 c572, .slice A620 2 c621, .slice A628 2 c629] (fun A_ c_ => .tuple #[.slice A_ x634_1.length c_, .int .i64 x634_2]) (by kernel_rfl) (fun w => by kernel_rfl) (fun w hw => assign_Best.calls K ([([true, true, false] : List E4), ([true, false, true] : List E4)] : List (List E4)) ([0, 2] : List E3) ([2, 2] : List E3)  _ _ _ _ _ _ _ _ w  ((((((((k577.le le582).le le591).le le598).le le606).le le615).le le622).le le630).at hw) ((k623.le le630).at hw) (k631.at hw) hx634) (fun R635 F636 A637 c638 le639 k640 fr641 => ?_)
  refine LL.op (.tuple #[.slice A637 x634_1.length c638, .int .i64 x634_2]) (by kernel_rfl) (fun w _ => by kernel_rfl) ?_
  refine LL.op (.slice A637 x634_1.length c638) (by kernel_rfl) (fun w _ => by kernel_rfl) ?_
  refine LL.op (.int .i64 x634_2) (by kernel_rfl) (fun w _ => by kernel_rfl) ?_
  refine LL.op (.slice A637 x634_1.length c638) (by kernel_rfl) (fun w _ => by kernel_rfl) ?_
  refine LL.op (.int .i64 x634_2) (by kernel_rfl) (fun w _ => by kernel_rfl) ?_
  refine LL.done (s' := [(0, .bool false), (1, .slice A571 2 c572), (2, .slice A589 x586_1.length c590), (3, .int .i64 x586_2), (4, .slice A613 x610_1.length c614), (5, .int .i64 x610_2), (6, .slice A637 x634_1.length c638), (7, .int .i64 x634_2)]) [0, 1, 2, 3, 4, 5, 6, 7] (by kernel_rfl) ?_
  refine NN.then ?_
  refine J.seq ?_
  refine J.plain ?_
  refine LL.lit 48 2 #[(0, .const (.bool true)), (1, .const (.bool true))] [.bool true, .bool true] 4 ([true, true] : List E4) (by kernel_rfl) rfl (by kernel_rfl) ok4.len rfl rfl (fun R642 F643 A644 c645 le646 k647 fr648 => ?_)
  refine LL.lit 48 2 #[(0, .const (.bool true)), (1, .const (.bool false))] [.bool true, .bool false] 4 ([true, false] : List E4) (by kernel_rfl) rfl (by kernel_rfl) ok4.len rfl rfl (fun R650 F651 A652 c653 le654 k655 fr656 => ?_)
  refine LL.lit (enc := encS) (m := 1) 38 2 #[(0, .tmp 37), (1, .tmp 38)] [.slice A644 2 c645, .slice A652 2 c653] 48 ([(([true, true] : List E4), A644, c645), (([true, false] : List E4), A652, c653)] : List (List E4 × Option Addr × Nat)) (by kernel_rfl) rfl (by kernel_rfl) encS_ok.len rfl rfl (fun R658 F659 A660 c661 le662 k663 fr664 => ?_)
  have k666 := lit2_row k663 (All.cons ((k647.le le654).le le662) (All.cons (k655.le le662) (fun _ h => nomatch h)))
  refine LL.lit 24 2 #[(0, .const (.int .i64 0)), (1, .const (.int .i64 0))] [.int .i64 0, .int .i64 0] 3 ([0, 0] : List E3) (by kernel_rfl) rfl (by kernel_rfl) ok3.len rfl rfl (fun R667 F668 A669 c670 le671 k672 fr673 => ?_)
  refine LL.lit 24 2 #[(0, .const (.int .i64 1)), (1, .const (.int .i64 1))] [.int .i64 1, .int .i64 1] 3 ([1, 1] : List E3) (by kernel_rfl) rfl (by kernel_rfl) ok3.len rfl rfl (fun R675 F676 A677 c678 le679 k680 fr681 => ?_)
  obtain ⟨⟨x683_1, x683_2⟩, hx683, H⟩ := bind_some H
  (try dsimp only at H)
  refine LL.callR (enc := enc3) (m := 1) (l := x683_1) 14 #[.slice A660 2 c661, .slice A669 2 c670, .slice A677 2 c678] (fun A_ c_ => .tuple #[.slice A_ x683_1.length c_, .int .i64 x683_2]) (by kernel_rfl) (fun w => by kernel_rfl) (fun w hw => assign_Best.calls K ([([true, true] : List E4), ([true, false] : List E4)] : List (List E4)) ([0, 0] : List E3) ([1, 1] : List E3)  _ _ _ _ _ _ _ _ w  (((k666.le le671).le le679).at hw) ((k672.le le679).at hw) (k680.at hw) hx683) (fun R684 F685 A686 c687 le688 k689 fr690 => ?_)
  refine LL.op (.tuple #[.slice A686 x683_1.length c687, .int .i64 x683_2]) (by kernel_rfl) (fun w _ => by kernel_rfl) ?_
  refine LL.op (.slice A686 x683_1.length c687) (by kernel_rfl) (fun w _ => by kernel_rfl) ?_
  refine LL.op (.int .i64 x683_2) (by kernel_rfl) (fun w _ => by kernel_rfl) ?_
  refine LL.op (.slice A686 x683_1.length c687) (by kernel_rfl) (fun w _ => by kernel_rfl) ?_
  refine LL.op (.int .i64 x683_2) (by kernel_rfl) (fun w _ => by kernel_rfl) ?_
  refine LL.done (s' := [(0, .bool false), (1, .slice A571 2 c572), (2, .slice A589 x586_1.length c590), (3, .int .i64 x586_2), (4, .slice A613 x610_1.length c614), (5, .int .i64 x610_2), (6, .slice A637 x634_1.length c638), (7, .int .i64 x634_2), (8, .slice A686 x683_1.length c687), (9, .int .i64 x683_2)]) [0, 1, 2, 3, 4, 5, 6, 7, 8, 9] (by kernel_rfl) ?_
  refine NN.then ?_
  refine J.seq ?_
  refine J.plain ?_
  refine LL.op (.slice A571 2 c572) (by kernel_rfl) (fun w _ => by kernel_rfl) ?_
  refine LL.lit 24 1 #[(0, .const (.int .i64 2))] [.int .i64 2] 3 ([2] : List E3) (by kernel_rfl) rfl (by kernel_rfl) ok3.len rfl rfl (fun R691 F692 A693 c694 le695 k696 fr697 => ?_)
  obtain ⟨⟨x699_1, x699_2⟩, hx699, H⟩ := bind_some H
  (try dsimp only at H)
  refine LL.callR (enc := enc3) (m := 1) (l := x699_1) 13 #[.slice A571 2 c572, .slice A693 1 c694] (fun A_ c_ => .tuple #[.slice A_ x699_1.length c_, .int .i64 x699_2]) (by kernel_rfl) (fun w => by kernel_rfl) (fun w hw => assign_Counts.calls K ([([true, true, false] : List E4), ([true, false, true] : List E4)] : List (List E4)) ([2] : List E3)  _ _ _ _ _ _ w  ((((((((((((((((k577.le le582).le le591).le le598).le le606).le le615).le le622).le le630).le le639).le le646).le le654).le le662).le le671).le le679).le le688).le le695).at hw) (k696.at hw) hx699) (fun R700 F701 A702 c703 le704 k705 fr706 => ?_)
  refine LL.op (.tuple #[.slice A702 x699_1.length c703, .int .i64 x699_2]) (by kernel_rfl) (fun w _ => by kernel_rfl) ?_
  refine LL.op (.slice A702 x699_1.length c703) (by kernel_rfl) (fun w _ => by kernel_rfl) ?_
  refine LL.op (.int .i64 x699_2) (by kernel_rfl) (fun w _ => by kernel_rfl) ?_
  refine LL.op (.slice A702 x699_1.length c703) (by kernel_rfl) (fun w _ => by kernel_rfl) ?_
  refine LL.op (.int .i64 x699_2) (by kernel_rfl) (fun w _ => by kernel_rfl) ?_
  refine LL.done (s' := [(0, .bool false), (1, .slice A571 2 c572), (2, .slice A589 x586_1.length c590), (3, .int .i64 x586_2), (4, .slice A613 x610_1.length c614), (5, .int .i64 x610_2), (6, .slice A637 x634_1.length c638), (7, .int .i64 x634_2), (8, .slice A686 x683_1.length c687), (9, .int .i64 x683_2), (11, .int .i64 x699_2)]) [0, 1, 2, 3, 4, 5, 6, 7, 8, 9, 11] (by kernel_rfl) ?_
  refine NN.then ?_
  refine J.seq ?_
  refine J.plain ?_
  refine LL.op (.agg #[.string (⟨#[]⟩ : ByteArray), .string (⟨#[]⟩ : ByteArray), .int .i64 0, .int .i64 0, .int .i64 0, .int .i64 0, .int .i64 0, .int .i64 0, .int .i64 0, .int .i64 0, .int .i64 0]) (by kernel_rfl) (fun w _ => by kernel_rfl) ?_
  refine LL.lit 22 1 #[(0, .tmp 51)] [.string (⟨#[]⟩ : ByteArray), .string (⟨#[]⟩ : ByteArray), .int .i64 0, .int .i64 0, .int .i64 0, .int .i64 0, .int .i64 0, .int .i64 0, .int .i64 0, .int .i64 0, .int .i64 0] 27 ([((⟨#[]⟩ : ByteArray), (⟨#[]⟩ : ByteArray), 0, 0, 0, 0, 0, 0, 0, 0, 0)] : List E27) (by kernel_rfl) rfl (by kernel_rfl) ok27.len rfl rfl (fun R707 F708 A709 c710 le711 k712 fr713 => ?_)
  obtain ⟨x715, hx715, H⟩ := bind_some H
  refine LL.callR2 (enc := enc4) (m := 1) (ll := x715) 12 #[.slice A709 1 c710, .slice none 0 0] (fun A_ c_ => .slice A_ x715.length c_) (by kernel_rfl) (fun w => by kernel_rfl) (fun w hw => assign_Table.calls K ([((⟨#[]⟩ : ByteArray), (⟨#[]⟩ : ByteArray), 0, 0, 0, 0, 0, 0, 0, 0, 0)] : List E27) []  _ _ _ _ _ w  (k712.at hw) KRow.nil hx715) (fun R716 F717 A718 c719 le720 k721 => ?_)
  refine LL.op (.slice A718 x715.length c719) (by kernel_rfl) (fun w _ => by kernel_rfl) ?_
  refine LL.done (s' := [(0, .bool false), (1, .slice A571 2 c572), (2, .slice A589 x586_1.length c590), (3, .int .i64 x586_2), (4, .slice A613 x610_1.length c614), (5, .int .i64 x610_2), (6, .slice A637 x634_1.length c638), (7, .int .i64 x634_2), (8, .slice A686 x683_1.length c687), (9, .int .i64 x683_2), (11, .int .i64 x699_2), (12, .slice A718 x715.length c719)]) [0, 1, 2, 3, 4, 5, 6, 7, 8, 9, 11, 12] (by kernel_rfl) ?_
  refine NN.then ?_
  refine J.seq ?_
  refine J.plain ?_
  refine LL.op (.int .i64 x586_2) (by kernel_rfl) (fun w _ => by kernel_rfl) ?_
  refine LL.op (.bool (x586_2 == 0)) (by kernel_rfl) (fun w _ => by kernel_rfl) ?_
  refine LL.op (.bool (x586_2 == 0)) (by kernel_rfl) (fun w _ => by kernel_rfl) ?_
  rcases Bool.eq_false_or_eq_true ((x586_2 == 0)) with c723 | c723
  · rw [if_pos (eq_of_beq c723)] at H
    refine LL.bool 56 ((x586_2 == 0)) true c723 (by kernel_rfl) ?_
    refine LL.op (.slice A589 x586_1.length c590) (by kernel_rfl) (fun w _ => by kernel_rfl) ?_
    refine LL.lit 24 2 #[(0, .const (.int .i64 2)), (1, .const (.int .i64 1))] [.int .i64 2, .int .i64 1] 3 ([2, 1] : List E3) (by kernel_rfl) rfl (by kernel_rfl) ok3.len rfl rfl (fun R724 F725 A726 c727 le728 k729 fr730 => ?_)
    obtain ⟨x732, hx732, H⟩ := bind_some H
    refine LL.call 23 #[.slice A589 x586_1.length c590, .slice A726 2 c727] (.bool x732) (by kernel_rfl) (fun w => by kernel_rfl) (fun w hw => sawmilllaw48_ints.calls K x586_1 ([2, 1] : List E3)  _ _ _ _ _ w  ((((((((((((((((((k592.le le598).le le606).le le615).le le622).le le630).le le639).le le646).le le654).le le662).le le671).le le679).le le688).le le695).le le704).le le711).le le720).le le728).at hw) (k729.at hw) hx732) ?_
    refine LL.op (.bool x732) (by kernel_rfl) (fun w _ => by kernel_rfl) ?_
    refine LL.op (.bool x732) (by kernel_rfl) (fun w _ => by kernel_rfl) ?_
    rcases Bool.eq_false_or_eq_true (x732) with c733 | c733
    · rw [if_pos (c733)] at H
      refine LL.bool 61 (x732) true c733 (by kernel_rfl) ?_
      refine LL.op (.int .i64 x610_2) (by kernel_rfl) (fun w _ => by kernel_rfl) ?_
      refine LL.op (.bool (x610_2 == 0)) (by kernel_rfl) (fun w _ => by kernel_rfl) ?_
      refine LL.op (.bool (x610_2 == 0)) (by kernel_rfl) (fun w _ => by kernel_rfl) ?_
      refine LL.op (.bool (x610_2 == 0)) (by kernel_rfl) (fun w _ => by kernel_rfl) ?_
      rcases Bool.eq_false_or_eq_true ((x610_2 == 0)) with c734 | c734
      · rw [if_pos (eq_of_beq c734)] at H
        refine LL.bool 65 ((x610_2 == 0)) true c734 (by kernel_rfl) ?_
        refine LL.op (.slice A613 x610_1.length c614) (by kernel_rfl) (fun w _ => by kernel_rfl) ?_
        refine LL.lit 24 3 #[(0, .const (.int .i64 0)), (1, .const (.int .i64 0)), (2, .const (.int .i64 1))] [.int .i64 0, .int .i64 0, .int .i64 1] 3 ([0, 0, 1] : List E3) (by kernel_rfl) rfl (by kernel_rfl) ok3.len rfl rfl (fun R735 F736 A737 c738 le739 k740 fr741 => ?_)
        obtain ⟨x743, hx743, H⟩ := bind_some H
        refine LL.call 23 #[.slice A613 x610_1.length c614, .slice A737 3 c738] (.bool x743) (by kernel_rfl) (fun w => by kernel_rfl) (fun w hw => sawmilllaw48_ints.calls K x610_1 ([0, 0, 1] : List E3)  _ _ _ _ _ w  ((((((((((((((((k616.le le622).le le630).le le639).le le646).le le654).le le662).le le671).le le679).le le688).le le695).le le704).le le711).le le720).le le728).le le739).at hw) (k740.at hw) hx743) ?_
        refine LL.op (.bool x743) (by kernel_rfl) (fun w _ => by kernel_rfl) ?_
        refine LL.op (.bool x743) (by kernel_rfl) (fun w _ => by kernel_rfl) ?_
        rcases Bool.eq_false_or_eq_true (x743) with c744 | c744
        · rw [if_pos (c744)] at H
          refine LL.bool 70 (x743) true c744 (by kernel_rfl) ?_
          refine LL.op (.int .i64 x634_2) (by kernel_rfl) (fun w _ => by kernel_rfl) ?_
          refine LL.op (.bool (x634_2 == 0)) (by kernel_rfl) (fun w _ => by kernel_rfl) ?_
          refine LL.op (.bool (x634_2 == 0)) (by kernel_rfl) (fun w _ => by kernel_rfl) ?_
          refine LL.op (.bool (x634_2 == 0)) (by kernel_rfl) (fun w _ => by kernel_rfl) ?_
          rcases Bool.eq_false_or_eq_true ((x634_2 == 0)) with c745 | c745
          · rw [if_pos (eq_of_beq c745)] at H
            refine LL.bool 74 ((x634_2 == 0)) true c745 (by kernel_rfl) ?_
            refine LL.op (.slice A637 x634_1.length c638) (by kernel_rfl) (fun w _ => by kernel_rfl) ?_
            refine LL.lit 24 3 #[(0, .const (.int .i64 0)), (1, .const (.int .i64 0)), (2, .const (.int .i64 (-1)))] [.int .i64 0, .int .i64 0, .int .i64 (-1)] 3 ([0, 0, (-1)] : List E3) (by kernel_rfl) rfl (by kernel_rfl) ok3.len rfl rfl (fun R746 F747 A748 c749 le750 k751 fr752 => ?_)
            obtain ⟨x754, hx754, H⟩ := bind_some H
            refine LL.call 23 #[.slice A637 x634_1.length c638, .slice A748 3 c749] (.bool x754) (by kernel_rfl) (fun w => by kernel_rfl) (fun w hw => sawmilllaw48_ints.calls K x634_1 ([0, 0, (-1)] : List E3)  _ _ _ _ _ w  ((((((((((((((k640.le le646).le le654).le le662).le le671).le le679).le le688).le le695).le le704).le le711).le le720).le le728).le le739).le le750).at hw) (k751.at hw) hx754) ?_
            refine LL.op (.bool x754) (by kernel_rfl) (fun w _ => by kernel_rfl) ?_
            refine LL.op (.bool x754) (by kernel_rfl) (fun w _ => by kernel_rfl) ?_
            rcases Bool.eq_false_or_eq_true (x754) with c755 | c755
            · rw [if_pos (c755)] at H
              refine LL.bool 79 (x754) true c755 (by kernel_rfl) ?_
              refine LL.op (.int .i64 x683_2) (by kernel_rfl) (fun w _ => by kernel_rfl) ?_
              refine LL.op (.bool (x683_2 == 0)) (by kernel_rfl) (fun w _ => by kernel_rfl) ?_
              refine LL.op (.bool (x683_2 == 0)) (by kernel_rfl) (fun w _ => by kernel_rfl) ?_
              refine LL.op (.bool (x683_2 == 0)) (by kernel_rfl) (fun w _ => by kernel_rfl) ?_
              rcases Bool.eq_false_or_eq_true ((x683_2 == 0)) with c756 | c756
              · rw [if_pos (eq_of_beq c756)] at H
                refine LL.bool 83 ((x683_2 == 0)) true c756 (by kernel_rfl) ?_
                refine LL.op (.slice A686 x683_1.length c687) (by kernel_rfl) (fun w _ => by kernel_rfl) ?_
                refine LL.lit 24 2 #[(0, .const (.int .i64 1)), (1, .const (.int .i64 0))] [.int .i64 1, .int .i64 0] 3 ([1, 0] : List E3) (by kernel_rfl) rfl (by kernel_rfl) ok3.len rfl rfl (fun R757 F758 A759 c760 le761 k762 fr763 => ?_)
                obtain ⟨x765, hx765, H⟩ := bind_some H
                refine LL.call 23 #[.slice A686 x683_1.length c687, .slice A759 2 c760] (.bool x765) (by kernel_rfl) (fun w => by kernel_rfl) (fun w hw => sawmilllaw48_ints.calls K x683_1 ([1, 0] : List E3)  _ _ _ _ _ w  (((((((((k689.le le695).le le704).le le711).le le720).le le728).le le739).le le750).le le761).at hw) (k762.at hw) hx765) ?_
                refine LL.op (.bool x765) (by kernel_rfl) (fun w _ => by kernel_rfl) ?_
                refine LL.op (.bool x765) (by kernel_rfl) (fun w _ => by kernel_rfl) ?_
                rcases Bool.eq_false_or_eq_true (x765) with c766 | c766
                · rw [if_pos (c766)] at H
                  refine LL.bool 88 (x765) true c766 (by kernel_rfl) ?_
                  refine LL.op (.int .i64 x699_2) (by kernel_rfl) (fun w _ => by kernel_rfl) ?_
                  refine LL.op (.bool (x699_2 == 19)) (by kernel_rfl) (fun w _ => by kernel_rfl) ?_
                  refine LL.op (.bool (x699_2 == 19)) (by kernel_rfl) (fun w _ => by kernel_rfl) ?_
                  refine LL.op (.bool (x699_2 == 19)) (by kernel_rfl) (fun w _ => by kernel_rfl) ?_
                  rcases Bool.eq_false_or_eq_true ((x699_2 == 19)) with c767 | c767
                  · rw [if_pos (eq_of_beq c767)] at H
                    refine LL.bool 92 ((x699_2 == 19)) true c767 (by kernel_rfl) ?_
                    refine LL.op (.slice A718 x715.length c719) (by kernel_rfl) (fun w _ => by kernel_rfl) ?_
                    refine LL.op (.int .i64 (x715.length : Int)) (by kernel_rfl) (fun w _ => by kernel_rfl) ?_
                    refine LL.op (.bool ((x715.length : Int) == 1)) (by kernel_rfl) (fun w _ => by kernel_rfl) ?_
                    refine LL.op (.bool ((x715.length : Int) == 1)) (by kernel_rfl) (fun w _ => by kernel_rfl) ?_
                    refine LL.op (.bool ((x715.length : Int) == 1)) (by kernel_rfl) (fun w _ => by kernel_rfl) ?_
                    rcases Bool.eq_false_or_eq_true (((x715.length : Int) == 1)) with c768 | c768
                    · rw [if_pos (eq_of_beq c768)] at H
                      refine LL.bool 97 (((x715.length : Int) == 1)) true c768 (by kernel_rfl) ?_
                      refine LL.op (.slice A571 2 c572) (by kernel_rfl) (fun w _ => by kernel_rfl) ?_
                      refine LL.lit 24 2 #[(0, .const (.int .i64 2)), (1, .const (.int .i64 2))] [.int .i64 2, .int .i64 2] 3 ([2, 2] : List E3) (by kernel_rfl) rfl (by kernel_rfl) ok3.len rfl rfl (fun R769 F770 A771 c772 le773 k774 fr775 => ?_)
                      refine LL.op (.slice A613 x610_1.length c614) (by kernel_rfl) (fun w _ => by kernel_rfl) ?_
                      obtain ⟨x777, hx777, H⟩ := bind_some H
                      refine LL.call 15 #[.slice A571 2 c572, .slice A771 2 c772, .slice A613 x610_1.length c614] (.bool x777) (by kernel_rfl) (fun w => by kernel_rfl) (fun w hw => assign_Valid.calls K ([([true, true, false] : List E4), ([true, false, true] : List E4)] : List (List E4)) ([2, 2] : List E3) x610_1  _ _ _ _ _ _ _ w  ((((((((((((((((((((((((k577.le le582).le le591).le le598).le le606).le le615).le le622).le le630).le le639).le le646).le le654).le le662).le le671).le le679).le le688).le le695).le le704).le le711).le le720).le le728).le le739).le le750).le le761).le le773).at hw) (k774.at hw) (((((((((((((((((((k616.le le622).le le630).le le639).le le646).le le654).le le662).le le671).le le679).le le688).le le695).le le704).le le711).le le720).le le728).le le739).le le750).le le761).le le773).at hw) hx777) ?_
                      refine LL.op (.bool x777) (by kernel_rfl) (fun w _ => by kernel_rfl) ?_
                      refine LL.op (.bool x777) (by kernel_rfl) (fun w _ => by kernel_rfl) ?_
                      rcases Bool.eq_false_or_eq_true (x777) with c778 | c778
                      · rw [if_pos (c778)] at H
                        refine LL.bool 103 (x777) true c778 (by kernel_rfl) ?_
                        refine LL.op (.slice A571 2 c572) (by kernel_rfl) (fun w _ => by kernel_rfl) ?_
                        refine LL.lit 24 2 #[(0, .const (.int .i64 1)), (1, .const (.int .i64 2))] [.int .i64 1, .int .i64 2] 3 ([1, 2] : List E3) (by kernel_rfl) rfl (by kernel_rfl) ok3.len rfl rfl (fun R779 F780 A781 c782 le783 k784 fr785 => ?_)
                        refine LL.op (.slice A613 x610_1.length c614) (by kernel_rfl) (fun w _ => by kernel_rfl) ?_
                        obtain ⟨x787, hx787, H⟩ := bind_some H
                        refine LL.call 15 #[.slice A571 2 c572, .slice A781 2 c782, .slice A613 x610_1.length c614] (.bool x787) (by kernel_rfl) (fun w => by kernel_rfl) (fun w hw => assign_Valid.calls K ([([true, true, false] : List E4), ([true, false, true] : List E4)] : List (List E4)) ([1, 2] : List E3) x610_1  _ _ _ _ _ _ _ w  (((((((((((((((((((((((((k577.le le582).le le591).le le598).le le606).le le615).le le622).le le630).le le639).le le646).le le654).le le662).le le671).le le679).le le688).le le695).le le704).le le711).le le720).le le728).le le739).le le750).le le761).le le773).le le783).at hw) (k784.at hw) ((((((((((((((((((((k616.le le622).le le630).le le639).le le646).le le654).le le662).le le671).le le679).le le688).le le695).le le704).le le711).le le720).le le728).le le739).le le750).le le761).le le773).le le783).at hw) hx787) ?_
                        refine LL.op (.bool (!x787)) (by kernel_rfl) (fun w _ => by kernel_rfl) ?_
                        refine LL.op (.bool (!x787)) (by kernel_rfl) (fun w _ => by kernel_rfl) ?_
                        refine LL.op (.bool (!x787)) (by kernel_rfl) (fun w _ => by kernel_rfl) ?_
                        refine LL.done (s' := [(0, .bool (!x787))]) [0] (by kernel_rfl) ?_
                        refine NN.then ?_
                        refine J.ret ?_
                        refine NN.fin1 0 (.bool (!x787)) (by kernel_rfl) (by kernel_rfl) (.inl rfl) (fun w hi => hi.ret ?_)
                        first | (cases H; rfl) | (obtain rfl := Option.some.inj H; rfl) | (simp only [Option.some.injEq, Prod.mk.injEq] at H; obtain ⟨rfl⟩ := H; rfl)
                      · rw [if_neg (nebt c778)] at H
                        refine LL.bool 103 (x777) false c778 (by kernel_rfl) ?_
                        refine LL.off (by kernel_rfl) (by kernel_rfl) ?_
                        refine LL.off (by kernel_rfl) (by kernel_rfl) ?_
                        refine LL.off (by kernel_rfl) (by kernel_rfl) ?_
                        refine LL.off (by kernel_rfl) (by kernel_rfl) ?_
                        refine LL.off (by kernel_rfl) (by kernel_rfl) ?_
                        refine LL.op (.bool false) (by kernel_rfl) (fun w _ => by kernel_rfl) ?_
                        refine LL.op (.bool false) (by kernel_rfl) (fun w _ => by kernel_rfl) ?_
                        refine LL.done (s' := [(0, .bool false)]) [0] (by kernel_rfl) ?_
                        refine NN.then ?_
                        refine J.ret ?_
                        refine NN.fin1 0 (.bool false) (by kernel_rfl) (by kernel_rfl) (.inl rfl) (fun w hi => hi.ret ?_)
                        first | (cases H; rfl) | (obtain rfl := Option.some.inj H; rfl) | (simp only [Option.some.injEq, Prod.mk.injEq] at H; obtain ⟨rfl⟩ := H; rfl)
                    · rw [if_neg (nebf c768)] at H
                      refine LL.bool 97 (((x715.length : Int) == 1)) false c768 (by kernel_rfl) ?_
                      refine LL.off (by kernel_rfl) (by kernel_rfl) ?_
                      refine LL.off (by kernel_rfl) (by kernel_rfl) ?_
                      refine LL.off (by kernel_rfl) (by kernel_rfl) ?_
                      refine LL.off (by kernel_rfl) (by kernel_rfl) ?_
                      refine LL.op (.bool false) (by kernel_rfl) (fun w _ => by kernel_rfl) ?_
                      refine LL.op (.bool false) (by kernel_rfl) (fun w _ => by kernel_rfl) ?_
                      refine LL.off (by kernel_rfl) (by kernel_rfl) ?_
                      refine LL.off (by kernel_rfl) (by kernel_rfl) ?_
                      refine LL.off (by kernel_rfl) (by kernel_rfl) ?_
                      refine LL.off (by kernel_rfl) (by kernel_rfl) ?_
                      refine LL.off (by kernel_rfl) (by kernel_rfl) ?_
                      refine LL.op (.bool false) (by kernel_rfl) (fun w _ => by kernel_rfl) ?_
                      refine LL.op (.bool false) (by kernel_rfl) (fun w _ => by kernel_rfl) ?_
                      refine LL.done (s' := [(0, .bool false)]) [0] (by kernel_rfl) ?_
                      refine NN.then ?_
                      refine J.ret ?_
                      refine NN.fin1 0 (.bool false) (by kernel_rfl) (by kernel_rfl) (.inl rfl) (fun w hi => hi.ret ?_)
                      first | (cases H; rfl) | (obtain rfl := Option.some.inj H; rfl) | (simp only [Option.some.injEq, Prod.mk.injEq] at H; obtain ⟨rfl⟩ := H; rfl)
                  · rw [if_neg (nebf c767)] at H
                    refine LL.bool 92 ((x699_2 == 19)) false c767 (by kernel_rfl) ?_
                    refine LL.off (by kernel_rfl) (by kernel_rfl) ?_
                    refine LL.off (by kernel_rfl) (by kernel_rfl) ?_
                    refine LL.off (by kernel_rfl) (by kernel_rfl) ?_
                    refine LL.op (.bool false) (by kernel_rfl) (fun w _ => by kernel_rfl) ?_
                    refine LL.op (.bool false) (by kernel_rfl) (fun w _ => by kernel_rfl) ?_
                    refine LL.off (by kernel_rfl) (by kernel_rfl) ?_
                    refine LL.off (by kernel_rfl) (by kernel_rfl) ?_
                    refine LL.off (by kernel_rfl) (by kernel_rfl) ?_
                    refine LL.off (by kernel_rfl) (by kernel_rfl) ?_
                    refine LL.op (.bool false) (by kernel_rfl) (fun w _ => by kernel_rfl) ?_
                    refine LL.op (.bool false) (by kernel_rfl) (fun w _ => by kernel_rfl) ?_
                    refine LL.off (by kernel_rfl) (by kernel_rfl) ?_
                    refine LL.off (by kernel_rfl) (by kernel_rfl) ?_
                    refine LL.off (by kernel_rfl) (by kernel_rfl) ?_
                    refine LL.off (by kernel_rfl) (by kernel_rfl) ?_
                    refine LL.off (by kernel_rfl) (by kernel_rfl) ?_
                    refine LL.op (.bool false) (by kernel_rfl) (fun w _ => by kernel_rfl) ?_
                    refine LL.op (.bool false) (by kernel_rfl) (fun w _ => by kernel_rfl) ?_
                    refine LL.done (s' := [(0, .bool false)]) [0] (by kernel_rfl) ?_
                    refine NN.then ?_
                    refine J.ret ?_
                    refine NN.fin1 0 (.bool false) (by kernel_rfl) (by kernel_rfl) (.inl rfl) (fun w hi => hi.ret ?_)
                    first | (cases H; rfl) | (obtain rfl := Option.some.inj H; rfl) | (simp only [Option.some.injEq, Prod.mk.injEq] at H; obtain ⟨rfl⟩ := H; rfl)
                · rw [if_neg (nebt c766)] at H
                  refine LL.bool 88 (x765) false c766 (by kernel_rfl) ?_
                  refine LL.off (by kernel_rfl) (by kernel_rfl) ?_
                  refine LL.off (by kernel_rfl) (by kernel_rfl) ?_
                  refine LL.op (.bool false) (by kernel_rfl) (fun w _ => by kernel_rfl) ?_
                  refine LL.op (.bool false) (by kernel_rfl) (fun w _ => by kernel_rfl) ?_
                  refine LL.off (by kernel_rfl) (by kernel_rfl) ?_
                  refine LL.off (by kernel_rfl) (by kernel_rfl) ?_
                  refine LL.off (by kernel_rfl) (by kernel_rfl) ?_
                  refine LL.op (.bool false) (by kernel_rfl) (fun w _ => by kernel_rfl) ?_
                  refine LL.op (.bool false) (by kernel_rfl) (fun w _ => by kernel_rfl) ?_
                  refine LL.off (by kernel_rfl) (by kernel_rfl) ?_
                  refine LL.off (by kernel_rfl) (by kernel_rfl) ?_
                  refine LL.off (by kernel_rfl) (by kernel_rfl) ?_
                  refine LL.off (by kernel_rfl) (by kernel_rfl) ?_
                  refine LL.op (.bool false) (by kernel_rfl) (fun w _ => by kernel_rfl) ?_
                  refine LL.op (.bool false) (by kernel_rfl) (fun w _ => by kernel_rfl) ?_
                  refine LL.off (by kernel_rfl) (by kernel_rfl) ?_
                  refine LL.off (by kernel_rfl) (by kernel_rfl) ?_
                  refine LL.off (by kernel_rfl) (by kernel_rfl) ?_
                  refine LL.off (by kernel_rfl) (by kernel_rfl) ?_
                  refine LL.off (by kernel_rfl) (by kernel_rfl) ?_
                  refine LL.op (.bool false) (by kernel_rfl) (fun w _ => by kernel_rfl) ?_
                  refine LL.op (.bool false) (by kernel_rfl) (fun w _ => by kernel_rfl) ?_
                  refine LL.done (s' := [(0, .bool false)]) [0] (by kernel_rfl) ?_
                  refine NN.then ?_
                  refine J.ret ?_
                  refine NN.fin1 0 (.bool false) (by kernel_rfl) (by kernel_rfl) (.inl rfl) (fun w hi => hi.ret ?_)
                  first | (cases H; rfl) | (obtain rfl := Option.some.inj H; rfl) | (simp only [Option.some.injEq, Prod.mk.injEq] at H; obtain ⟨rfl⟩ := H; rfl)
              · rw [if_neg (nebf c756)] at H
                refine LL.bool 83 ((x683_2 == 0)) false c756 (by kernel_rfl) ?_
                refine LL.off (by kernel_rfl) (by kernel_rfl) ?_
                refine LL.off (by kernel_rfl) (by kernel_rfl) ?_
                refine LL.off (by kernel_rfl) (by kernel_rfl) ?_
                refine LL.op (.bool false) (by kernel_rfl) (fun w _ => by kernel_rfl) ?_
                refine LL.op (.bool false) (by kernel_rfl) (fun w _ => by kernel_rfl) ?_
                refine LL.off (by kernel_rfl) (by kernel_rfl) ?_
                refine LL.off (by kernel_rfl) (by kernel_rfl) ?_
                refine LL.op (.bool false) (by kernel_rfl) (fun w _ => by kernel_rfl) ?_
                refine LL.op (.bool false) (by kernel_rfl) (fun w _ => by kernel_rfl) ?_
                refine LL.off (by kernel_rfl) (by kernel_rfl) ?_
                refine LL.off (by kernel_rfl) (by kernel_rfl) ?_
                refine LL.off (by kernel_rfl) (by kernel_rfl) ?_
                refine LL.op (.bool false) (by kernel_rfl) (fun w _ => by kernel_rfl) ?_
                refine LL.op (.bool false) (by kernel_rfl) (fun w _ => by kernel_rfl) ?_
                refine LL.off (by kernel_rfl) (by kernel_rfl) ?_
                refine LL.off (by kernel_rfl) (by kernel_rfl) ?_
                refine LL.off (by kernel_rfl) (by kernel_rfl) ?_
                refine LL.off (by kernel_rfl) (by kernel_rfl) ?_
                refine LL.op (.bool false) (by kernel_rfl) (fun w _ => by kernel_rfl) ?_
                refine LL.op (.bool false) (by kernel_rfl) (fun w _ => by kernel_rfl) ?_
                refine LL.off (by kernel_rfl) (by kernel_rfl) ?_
                refine LL.off (by kernel_rfl) (by kernel_rfl) ?_
                refine LL.off (by kernel_rfl) (by kernel_rfl) ?_
                refine LL.off (by kernel_rfl) (by kernel_rfl) ?_
                refine LL.off (by kernel_rfl) (by kernel_rfl) ?_
                refine LL.op (.bool false) (by kernel_rfl) (fun w _ => by kernel_rfl) ?_
                refine LL.op (.bool false) (by kernel_rfl) (fun w _ => by kernel_rfl) ?_
                refine LL.done (s' := [(0, .bool false)]) [0] (by kernel_rfl) ?_
                refine NN.then ?_
                refine J.ret ?_
                refine NN.fin1 0 (.bool false) (by kernel_rfl) (by kernel_rfl) (.inl rfl) (fun w hi => hi.ret ?_)
                first | (cases H; rfl) | (obtain rfl := Option.some.inj H; rfl) | (simp only [Option.some.injEq, Prod.mk.injEq] at H; obtain ⟨rfl⟩ := H; rfl)
            · rw [if_neg (nebt c755)] at H
              refine LL.bool 79 (x754) false c755 (by kernel_rfl) ?_
              refine LL.off (by kernel_rfl) (by kernel_rfl) ?_
              refine LL.off (by kernel_rfl) (by kernel_rfl) ?_
              refine LL.op (.bool false) (by kernel_rfl) (fun w _ => by kernel_rfl) ?_
              refine LL.op (.bool false) (by kernel_rfl) (fun w _ => by kernel_rfl) ?_
              refine LL.off (by kernel_rfl) (by kernel_rfl) ?_
              refine LL.off (by kernel_rfl) (by kernel_rfl) ?_
              refine LL.off (by kernel_rfl) (by kernel_rfl) ?_
              refine LL.op (.bool false) (by kernel_rfl) (fun w _ => by kernel_rfl) ?_
              refine LL.op (.bool false) (by kernel_rfl) (fun w _ => by kernel_rfl) ?_
              refine LL.off (by kernel_rfl) (by kernel_rfl) ?_
              refine LL.off (by kernel_rfl) (by kernel_rfl) ?_
              refine LL.op (.bool false) (by kernel_rfl) (fun w _ => by kernel_rfl) ?_
              refine LL.op (.bool false) (by kernel_rfl) (fun w _ => by kernel_rfl) ?_
              refine LL.off (by kernel_rfl) (by kernel_rfl) ?_
              refine LL.off (by kernel_rfl) (by kernel_rfl) ?_
              refine LL.off (by kernel_rfl) (by kernel_rfl) ?_
              refine LL.op (.bool false) (by kernel_rfl) (fun w _ => by kernel_rfl) ?_
              refine LL.op (.bool false) (by kernel_rfl) (fun w _ => by kernel_rfl) ?_
              refine LL.off (by kernel_rfl) (by kernel_rfl) ?_
              refine LL.off (by kernel_rfl) (by kernel_rfl) ?_
              refine LL.off (by kernel_rfl) (by kernel_rfl) ?_
              refine LL.off (by kernel_rfl) (by kernel_rfl) ?_
              refine LL.op (.bool false) (by kernel_rfl) (fun w _ => by kernel_rfl) ?_
              refine LL.op (.bool false) (by kernel_rfl) (fun w _ => by kernel_rfl) ?_
              refine LL.off (by kernel_rfl) (by kernel_rfl) ?_
              refine LL.off (by kernel_rfl) (by kernel_rfl) ?_
              refine LL.off (by kernel_rfl) (by kernel_rfl) ?_
              refine LL.off (by kernel_rfl) (by kernel_rfl) ?_
              refine LL.off (by kernel_rfl) (by kernel_rfl) ?_
              refine LL.op (.bool false) (by kernel_rfl) (fun w _ => by kernel_rfl) ?_
              refine LL.op (.bool false) (by kernel_rfl) (fun w _ => by kernel_rfl) ?_
              refine LL.done (s' := [(0, .bool false)]) [0] (by kernel_rfl) ?_
              refine NN.then ?_
              refine J.ret ?_
              refine NN.fin1 0 (.bool false) (by kernel_rfl) (by kernel_rfl) (.inl rfl) (fun w hi => hi.ret ?_)
              first | (cases H; rfl) | (obtain rfl := Option.some.inj H; rfl) | (simp only [Option.some.injEq, Prod.mk.injEq] at H; obtain ⟨rfl⟩ := H; rfl)
          · rw [if_neg (nebf c745)] at H
            refine LL.bool 74 ((x634_2 == 0)) false c745 (by kernel_rfl) ?_
            refine LL.off (by kernel_rfl) (by kernel_rfl) ?_
            refine LL.off (by kernel_rfl) (by kernel_rfl) ?_
            refine LL.off (by kernel_rfl) (by kernel_rfl) ?_
            refine LL.op (.bool false) (by kernel_rfl) (fun w _ => by kernel_rfl) ?_
            refine LL.op (.bool false) (by kernel_rfl) (fun w _ => by kernel_rfl) ?_
            refine LL.off (by kernel_rfl) (by kernel_rfl) ?_
            refine LL.off (by kernel_rfl) (by kernel_rfl) ?_
            refine LL.op (.bool false) (by kernel_rfl) (fun w _ => by kernel_rfl) ?_
            refine LL.op (.bool false) (by kernel_rfl) (fun w _ => by kernel_rfl) ?_
            refine LL.off (by kernel_rfl) (by kernel_rfl) ?_
            refine LL.off (by kernel_rfl) (by kernel_rfl) ?_
            refine LL.off (by kernel_rfl) (by kernel_rfl) ?_
            refine LL.op (.bool false) (by kernel_rfl) (fun w _ => by kernel_rfl) ?_
            refine LL.op (.bool false) (by kernel_rfl) (fun w _ => by kernel_rfl) ?_
            refine LL.off (by kernel_rfl) (by kernel_rfl) ?_
            refine LL.off (by kernel_rfl) (by kernel_rfl) ?_
            refine LL.op (.bool false) (by kernel_rfl) (fun w _ => by kernel_rfl) ?_
            refine LL.op (.bool false) (by kernel_rfl) (fun w _ => by kernel_rfl) ?_
            refine LL.off (by kernel_rfl) (by kernel_rfl) ?_
            refine LL.off (by kernel_rfl) (by kernel_rfl) ?_
            refine LL.off (by kernel_rfl) (by kernel_rfl) ?_
            refine LL.op (.bool false) (by kernel_rfl) (fun w _ => by kernel_rfl) ?_
            refine LL.op (.bool false) (by kernel_rfl) (fun w _ => by kernel_rfl) ?_
            refine LL.off (by kernel_rfl) (by kernel_rfl) ?_
            refine LL.off (by kernel_rfl) (by kernel_rfl) ?_
            refine LL.off (by kernel_rfl) (by kernel_rfl) ?_
            refine LL.off (by kernel_rfl) (by kernel_rfl) ?_
            refine LL.op (.bool false) (by kernel_rfl) (fun w _ => by kernel_rfl) ?_
            refine LL.op (.bool false) (by kernel_rfl) (fun w _ => by kernel_rfl) ?_
            refine LL.off (by kernel_rfl) (by kernel_rfl) ?_
            refine LL.off (by kernel_rfl) (by kernel_rfl) ?_
            refine LL.off (by kernel_rfl) (by kernel_rfl) ?_
            refine LL.off (by kernel_rfl) (by kernel_rfl) ?_
            refine LL.off (by kernel_rfl) (by kernel_rfl) ?_
            refine LL.op (.bool false) (by kernel_rfl) (fun w _ => by kernel_rfl) ?_
            refine LL.op (.bool false) (by kernel_rfl) (fun w _ => by kernel_rfl) ?_
            refine LL.done (s' := [(0, .bool false)]) [0] (by kernel_rfl) ?_
            refine NN.then ?_
            refine J.ret ?_
            refine NN.fin1 0 (.bool false) (by kernel_rfl) (by kernel_rfl) (.inl rfl) (fun w hi => hi.ret ?_)
            first | (cases H; rfl) | (obtain rfl := Option.some.inj H; rfl) | (simp only [Option.some.injEq, Prod.mk.injEq] at H; obtain ⟨rfl⟩ := H; rfl)
        · rw [if_neg (nebt c744)] at H
          refine LL.bool 70 (x743) false c744 (by kernel_rfl) ?_
          refine LL.off (by kernel_rfl) (by kernel_rfl) ?_
          refine LL.off (by kernel_rfl) (by kernel_rfl) ?_
          refine LL.op (.bool false) (by kernel_rfl) (fun w _ => by kernel_rfl) ?_
          refine LL.op (.bool false) (by kernel_rfl) (fun w _ => by kernel_rfl) ?_
          refine LL.off (by kernel_rfl) (by kernel_rfl) ?_
          refine LL.off (by kernel_rfl) (by kernel_rfl) ?_
          refine LL.off (by kernel_rfl) (by kernel_rfl) ?_
          refine LL.op (.bool false) (by kernel_rfl) (fun w _ => by kernel_rfl) ?_
          refine LL.op (.bool false) (by kernel_rfl) (fun w _ => by kernel_rfl) ?_
          refine LL.off (by kernel_rfl) (by kernel_rfl) ?_
          refine LL.off (by kernel_rfl) (by kernel_rfl) ?_
          refine LL.op (.bool false) (by kernel_rfl) (fun w _ => by kernel_rfl) ?_
          refine LL.op (.bool false) (by kernel_rfl) (fun w _ => by kernel_rfl) ?_
          refine LL.off (by kernel_rfl) (by kernel_rfl) ?_
          refine LL.off (by kernel_rfl) (by kernel_rfl) ?_
          refine LL.off (by kernel_rfl) (by kernel_rfl) ?_
          refine LL.op (.bool false) (by kernel_rfl) (fun w _ => by kernel_rfl) ?_
          refine LL.op (.bool false) (by kernel_rfl) (fun w _ => by kernel_rfl) ?_
          refine LL.off (by kernel_rfl) (by kernel_rfl) ?_
          refine LL.off (by kernel_rfl) (by kernel_rfl) ?_
          refine LL.op (.bool false) (by kernel_rfl) (fun w _ => by kernel_rfl) ?_
          refine LL.op (.bool false) (by kernel_rfl) (fun w _ => by kernel_rfl) ?_
          refine LL.off (by kernel_rfl) (by kernel_rfl) ?_
          refine LL.off (by kernel_rfl) (by kernel_rfl) ?_
          refine LL.off (by kernel_rfl) (by kernel_rfl) ?_
          refine LL.op (.bool false) (by kernel_rfl) (fun w _ => by kernel_rfl) ?_
          refine LL.op (.bool false) (by kernel_rfl) (fun w _ => by kernel_rfl) ?_
          refine LL.off (by kernel_rfl) (by kernel_rfl) ?_
          refine LL.off (by kernel_rfl) (by kernel_rfl) ?_
          refine LL.off (by kernel_rfl) (by kernel_rfl) ?_
          refine LL.off (by kernel_rfl) (by kernel_rfl) ?_
          refine LL.op (.bool false) (by kernel_rfl) (fun w _ => by kernel_rfl) ?_
          refine LL.op (.bool false) (by kernel_rfl) (fun w _ => by kernel_rfl) ?_
          refine LL.off (by kernel_rfl) (by kernel_rfl) ?_
          refine LL.off (by kernel_rfl) (by kernel_rfl) ?_
          refine LL.off (by kernel_rfl) (by kernel_rfl) ?_
          refine LL.off (by kernel_rfl) (by kernel_rfl) ?_
          refine LL.off (by kernel_rfl) (by kernel_rfl) ?_
          refine LL.op (.bool false) (by kernel_rfl) (fun w _ => by kernel_rfl) ?_
          refine LL.op (.bool false) (by kernel_rfl) (fun w _ => by kernel_rfl) ?_
          refine LL.done (s' := [(0, .bool false)]) [0] (by kernel_rfl) ?_
          refine NN.then ?_
          refine J.ret ?_
          refine NN.fin1 0 (.bool false) (by kernel_rfl) (by kernel_rfl) (.inl rfl) (fun w hi => hi.ret ?_)
          first | (cases H; rfl) | (obtain rfl := Option.some.inj H; rfl) | (simp only [Option.some.injEq, Prod.mk.injEq] at H; obtain ⟨rfl⟩ := H; rfl)
      · rw [if_neg (nebf c734)] at H
        refine LL.bool 65 ((x610_2 == 0)) false c734 (by kernel_rfl) ?_
        refine LL.off (by kernel_rfl) (by kernel_rfl) ?_
        refine LL.off (by kernel_rfl) (by kernel_rfl) ?_
        refine LL.off (by kernel_rfl) (by kernel_rfl) ?_
        refine LL.op (.bool false) (by kernel_rfl) (fun w _ => by kernel_rfl) ?_
        refine LL.op (.bool false) (by kernel_rfl) (fun w _ => by kernel_rfl) ?_
        refine LL.off (by kernel_rfl) (by kernel_rfl) ?_
        refine LL.off (by kernel_rfl) (by kernel_rfl) ?_
        refine LL.op (.bool false) (by kernel_rfl) (fun w _ => by kernel_rfl) ?_
        refine LL.op (.bool false) (by kernel_rfl) (fun w _ => by kernel_rfl) ?_
        refine LL.off (by kernel_rfl) (by kernel_rfl) ?_
        refine LL.off (by kernel_rfl) (by kernel_rfl) ?_
        refine LL.off (by kernel_rfl) (by kernel_rfl) ?_
        refine LL.op (.bool false) (by kernel_rfl) (fun w _ => by kernel_rfl) ?_
        refine LL.op (.bool false) (by kernel_rfl) (fun w _ => by kernel_rfl) ?_
        refine LL.off (by kernel_rfl) (by kernel_rfl) ?_
        refine LL.off (by kernel_rfl) (by kernel_rfl) ?_
        refine LL.op (.bool false) (by kernel_rfl) (fun w _ => by kernel_rfl) ?_
        refine LL.op (.bool false) (by kernel_rfl) (fun w _ => by kernel_rfl) ?_
        refine LL.off (by kernel_rfl) (by kernel_rfl) ?_
        refine LL.off (by kernel_rfl) (by kernel_rfl) ?_
        refine LL.off (by kernel_rfl) (by kernel_rfl) ?_
        refine LL.op (.bool false) (by kernel_rfl) (fun w _ => by kernel_rfl) ?_
        refine LL.op (.bool false) (by kernel_rfl) (fun w _ => by kernel_rfl) ?_
        refine LL.off (by kernel_rfl) (by kernel_rfl) ?_
        refine LL.off (by kernel_rfl) (by kernel_rfl) ?_
        refine LL.op (.bool false) (by kernel_rfl) (fun w _ => by kernel_rfl) ?_
        refine LL.op (.bool false) (by kernel_rfl) (fun w _ => by kernel_rfl) ?_
        refine LL.off (by kernel_rfl) (by kernel_rfl) ?_
        refine LL.off (by kernel_rfl) (by kernel_rfl) ?_
        refine LL.off (by kernel_rfl) (by kernel_rfl) ?_
        refine LL.op (.bool false) (by kernel_rfl) (fun w _ => by kernel_rfl) ?_
        refine LL.op (.bool false) (by kernel_rfl) (fun w _ => by kernel_rfl) ?_
        refine LL.off (by kernel_rfl) (by kernel_rfl) ?_
        refine LL.off (by kernel_rfl) (by kernel_rfl) ?_
        refine LL.off (by kernel_rfl) (by kernel_rfl) ?_
        refine LL.off (by kernel_rfl) (by kernel_rfl) ?_
        refine LL.op (.bool false) (by kernel_rfl) (fun w _ => by kernel_rfl) ?_
        refine LL.op (.bool false) (by kernel_rfl) (fun w _ => by kernel_rfl) ?_
        refine LL.off (by kernel_rfl) (by kernel_rfl) ?_
        refine LL.off (by kernel_rfl) (by kernel_rfl) ?_
        refine LL.off (by kernel_rfl) (by kernel_rfl) ?_
        refine LL.off (by kernel_rfl) (by kernel_rfl) ?_
        refine LL.off (by kernel_rfl) (by kernel_rfl) ?_
        refine LL.op (.bool false) (by kernel_rfl) (fun w _ => by kernel_rfl) ?_
        refine LL.op (.bool false) (by kernel_rfl) (fun w _ => by kernel_rfl) ?_
        refine LL.done (s' := [(0, .bool false)]) [0] (by kernel_rfl) ?_
        refine NN.then ?_
        refine J.ret ?_
        refine NN.fin1 0 (.bool false) (by kernel_rfl) (by kernel_rfl) (.inl rfl) (fun w hi => hi.ret ?_)
        first | (cases H; rfl) | (obtain rfl := Option.some.inj H; rfl) | (simp only [Option.some.injEq, Prod.mk.injEq] at H; obtain ⟨rfl⟩ := H; rfl)
    · rw [if_neg (nebt c733)] at H
      refine LL.bool 61 (x732) false c733 (by kernel_rfl) ?_
      refine LL.off (by kernel_rfl) (by kernel_rfl) ?_
      refine LL.off (by kernel_rfl) (by kernel_rfl) ?_
      refine LL.op (.bool false) (by kernel_rfl) (fun w _ => by kernel_rfl) ?_
      refine LL.op (.bool false) (by kernel_rfl) (fun w _ => by kernel_rfl) ?_
      refine LL.off (by kernel_rfl) (by kernel_rfl) ?_
      refine LL.off (by kernel_rfl) (by kernel_rfl) ?_
      refine LL.off (by kernel_rfl) (by kernel_rfl) ?_
      refine LL.op (.bool false) (by kernel_rfl) (fun w _ => by kernel_rfl) ?_
      refine LL.op (.bool false) (by kernel_rfl) (fun w _ => by kernel_rfl) ?_
      refine LL.off (by kernel_rfl) (by kernel_rfl) ?_
      refine LL.off (by kernel_rfl) (by kernel_rfl) ?_
      refine LL.op (.bool false) (by kernel_rfl) (fun w _ => by kernel_rfl) ?_
      refine LL.op (.bool false) (by kernel_rfl) (fun w _ => by kernel_rfl) ?_
      refine LL.off (by kernel_rfl) (by kernel_rfl) ?_
      refine LL.off (by kernel_rfl) (by kernel_rfl) ?_
      refine LL.off (by kernel_rfl) (by kernel_rfl) ?_
      refine LL.op (.bool false) (by kernel_rfl) (fun w _ => by kernel_rfl) ?_
      refine LL.op (.bool false) (by kernel_rfl) (fun w _ => by kernel_rfl) ?_
      refine LL.off (by kernel_rfl) (by kernel_rfl) ?_
      refine LL.off (by kernel_rfl) (by kernel_rfl) ?_
      refine LL.op (.bool false) (by kernel_rfl) (fun w _ => by kernel_rfl) ?_
      refine LL.op (.bool false) (by kernel_rfl) (fun w _ => by kernel_rfl) ?_
      refine LL.off (by kernel_rfl) (by kernel_rfl) ?_
      refine LL.off (by kernel_rfl) (by kernel_rfl) ?_
      refine LL.off (by kernel_rfl) (by kernel_rfl) ?_
      refine LL.op (.bool false) (by kernel_rfl) (fun w _ => by kernel_rfl) ?_
      refine LL.op (.bool false) (by kernel_rfl) (fun w _ => by kernel_rfl) ?_
      refine LL.off (by kernel_rfl) (by kernel_rfl) ?_
      refine LL.off (by kernel_rfl) (by kernel_rfl) ?_
      refine LL.op (.bool false) (by kernel_rfl) (fun w _ => by kernel_rfl) ?_
      refine LL.op (.bool false) (by kernel_rfl) (fun w _ => by kernel_rfl) ?_
      refine LL.off (by kernel_rfl) (by kernel_rfl) ?_
      refine LL.off (by kernel_rfl) (by kernel_rfl) ?_
      refine LL.off (by kernel_rfl) (by kernel_rfl) ?_
      refine LL.op (.bool false) (by kernel_rfl) (fun w _ => by kernel_rfl) ?_
      refine LL.op (.bool false) (by kernel_rfl) (fun w _ => by kernel_rfl) ?_
      refine LL.off (by kernel_rfl) (by kernel_rfl) ?_
      refine LL.off (by kernel_rfl) (by kernel_rfl) ?_
      refine LL.off (by kernel_rfl) (by kernel_rfl) ?_
      refine LL.off (by kernel_rfl) (by kernel_rfl) ?_
      refine LL.op (.bool false) (by kernel_rfl) (fun w _ => by kernel_rfl) ?_
      refine LL.op (.bool false) (by kernel_rfl) (fun w _ => by kernel_rfl) ?_
      refine LL.off (by kernel_rfl) (by kernel_rfl) ?_
      refine LL.off (by kernel_rfl) (by kernel_rfl) ?_
      refine LL.off (by kernel_rfl) (by kernel_rfl) ?_
      refine LL.off (by kernel_rfl) (by kernel_rfl) ?_
      refine LL.off (by kernel_rfl) (by kernel_rfl) ?_
      refine LL.op (.bool false) (by kernel_rfl) (fun w _ => by kernel_rfl) ?_
      refine LL.op (.bool false) (by kernel_rfl) (fun w _ => by kernel_rfl) ?_
      refine LL.done (s' := [(0, .bool false)]) [0] (by kernel_rfl) ?_
      refine NN.then ?_
      refine J.ret ?_
      refine NN.fin1 0 (.bool false) (by kernel_rfl) (by kernel_rfl) (.inl rfl) (fun w hi => hi.ret ?_)
      first | (cases H; rfl) | (obtain rfl := Option.some.inj H; rfl) | (simp only [Option.some.injEq, Prod.mk.injEq] at H; obtain ⟨rfl⟩ := H; rfl)
  · rw [if_neg (nebf c723)] at H
    refine LL.bool 56 ((x586_2 == 0)) false c723 (by kernel_rfl) ?_
    refine LL.off (by kernel_rfl) (by kernel_rfl) ?_
    refine LL.off (by kernel_rfl) (by kernel_rfl) ?_
    refine LL.off (by kernel_rfl) (by kernel_rfl) ?_
    refine LL.op (.bool false) (by kernel_rfl) (fun w _ => by kernel_rfl) ?_
    refine LL.op (.bool false) (by kernel_rfl) (fun w _ => by kernel_rfl) ?_
    refine LL.off (by kernel_rfl) (by kernel_rfl) ?_
    refine LL.off (by kernel_rfl) (by kernel_rfl) ?_
    refine LL.op (.bool false) (by kernel_rfl) (fun w _ => by kernel_rfl) ?_
    refine LL.op (.bool false) (by kernel_rfl) (fun w _ => by kernel_rfl) ?_
    refine LL.off (by kernel_rfl) (by kernel_rfl) ?_
    refine LL.off (by kernel_rfl) (by kernel_rfl) ?_
    refine LL.off (by kernel_rfl) (by kernel_rfl) ?_
    refine LL.op (.bool false) (by kernel_rfl) (fun w _ => by kernel_rfl) ?_
    refine LL.op (.bool false) (by kernel_rfl) (fun w _ => by kernel_rfl) ?_
    refine LL.off (by kernel_rfl) (by kernel_rfl) ?_
    refine LL.off (by kernel_rfl) (by kernel_rfl) ?_
    refine LL.op (.bool false) (by kernel_rfl) (fun w _ => by kernel_rfl) ?_
    refine LL.op (.bool false) (by kernel_rfl) (fun w _ => by kernel_rfl) ?_
    refine LL.off (by kernel_rfl) (by kernel_rfl) ?_
    refine LL.off (by kernel_rfl) (by kernel_rfl) ?_
    refine LL.off (by kernel_rfl) (by kernel_rfl) ?_
    refine LL.op (.bool false) (by kernel_rfl) (fun w _ => by kernel_rfl) ?_
    refine LL.op (.bool false) (by kernel_rfl) (fun w _ => by kernel_rfl) ?_
    refine LL.off (by kernel_rfl) (by kernel_rfl) ?_
    refine LL.off (by kernel_rfl) (by kernel_rfl) ?_
    refine LL.op (.bool false) (by kernel_rfl) (fun w _ => by kernel_rfl) ?_
    refine LL.op (.bool false) (by kernel_rfl) (fun w _ => by kernel_rfl) ?_
    refine LL.off (by kernel_rfl) (by kernel_rfl) ?_
    refine LL.off (by kernel_rfl) (by kernel_rfl) ?_
    refine LL.off (by kernel_rfl) (by kernel_rfl) ?_
    refine LL.op (.bool false) (by kernel_rfl) (fun w _ => by kernel_rfl) ?_
    refine LL.op (.bool false) (by kernel_rfl) (fun w _ => by kernel_rfl) ?_
    refine LL.off (by kernel_rfl) (by kernel_rfl) ?_
    refine LL.off (by kernel_rfl) (by kernel_rfl) ?_
    refine LL.op (.bool false) (by kernel_rfl) (fun w _ => by kernel_rfl) ?_
    refine LL.op (.bool false) (by kernel_rfl) (fun w _ => by kernel_rfl) ?_
    refine LL.off (by kernel_rfl) (by kernel_rfl) ?_
    refine LL.off (by kernel_rfl) (by kernel_rfl) ?_
    refine LL.off (by kernel_rfl) (by kernel_rfl) ?_
    refine LL.op (.bool false) (by kernel_rfl) (fun w _ => by kernel_rfl) ?_
    refine LL.op (.bool false) (by kernel_rfl) (fun w _ => by kernel_rfl) ?_
    refine LL.off (by kernel_rfl) (by kernel_rfl) ?_
    refine LL.off (by kernel_rfl) (by kernel_rfl) ?_
    refine LL.off (by kernel_rfl) (by kernel_rfl) ?_
    refine LL.off (by kernel_rfl) (by kernel_rfl) ?_
    refine LL.op (.bool false) (by kernel_rfl) (fun w _ => by kernel_rfl) ?_
    refine LL.op (.bool false) (by kernel_rfl) (fun w _ => by kernel_rfl) ?_
    refine LL.off (by kernel_rfl) (by kernel_rfl) ?_
    refine LL.off (by kernel_rfl) (by kernel_rfl) ?_
    refine LL.off (by kernel_rfl) (by kernel_rfl) ?_
    refine LL.off (by kernel_rfl) (by kernel_rfl) ?_
    refine LL.off (by kernel_rfl) (by kernel_rfl) ?_
    refine LL.op (.bool false) (by kernel_rfl) (fun w _ => by kernel_rfl) ?_
    refine LL.op (.bool false) (by kernel_rfl) (fun w _ => by kernel_rfl) ?_
    refine LL.done (s' := [(0, .bool false)]) [0] (by kernel_rfl) ?_
    refine NN.then ?_
    refine J.ret ?_
    refine NN.fin1 0 (.bool false) (by kernel_rfl) (by kernel_rfl) (.inl rfl) (fun w hi => hi.ret ?_)
    first | (cases H; rfl) | (obtain rfl := Option.some.inj H; rfl) | (simp only [Option.some.injEq, Prod.mk.injEq] at H; obtain ⟨rfl⟩ := H; rfl)

/-! ### sawmilltop_ordersAwake: function 9 -/
def sawmilltop_ordersAwake.f (K : Nat)  : Option (Bool) := (sawmilltop_want.f 1 1 2).bind fun bx788 => ((sawmilltop_want.f 2 3 2).bind fun bx789 => ((sawmilltop_stored.f 1).bind fun bx798 => ((sawmilltop_stored.f 3).bind fun bx799 => ((assign_Table.f K ([(bx788.1, bx788.2.1, bx788.2.2.1, bx788.2.2.2.1, bx788.2.2.2.2.1, bx788.2.2.2.2.2.1, bx788.2.2.2.2.2.2.1, bx788.2.2.2.2.2.2.2.1, bx788.2.2.2.2.2.2.2.2.1, bx788.2.2.2.2.2.2.2.2.2.1, bx788.2.2.2.2.2.2.2.2.2.2), (bx789.1, bx789.2.1, bx789.2.2.1, bx789.2.2.2.1, bx789.2.2.2.2.1, bx789.2.2.2.2.2.1, bx789.2.2.2.2.2.2.1, bx789.2.2.2.2.2.2.2.1, bx789.2.2.2.2.2.2.2.2.1, bx789.2.2.2.2.2.2.2.2.2.1, bx789.2.2.2.2.2.2.2.2.2.2)] : List E27) ([(bx798.1, bx798.2.1, bx798.2.2.1, bx798.2.2.2.1, bx798.2.2.2.2.1, bx798.2.2.2.2.2.1, bx798.2.2.2.2.2.2.1, bx798.2.2.2.2.2.2.2.1, bx798.2.2.2.2.2.2.2.2.1, bx798.2.2.2.2.2.2.2.2.2.1, bx798.2.2.2.2.2.2.2.2.2.2.1, bx798.2.2.2.2.2.2.2.2.2.2.2.1, bx798.2.2.2.2.2.2.2.2.2.2.2.2.1, bx798.2.2.2.2.2.2.2.2.2.2.2.2.2.1, bx798.2.2.2.2.2.2.2.2.2.2.2.2.2.2.1, bx798.2.2.2.2.2.2.2.2.2.2.2.2.2.2.2.1, bx798.2.2.2.2.2.2.2.2.2.2.2.2.2.2.2.2.1, bx798.2.2.2.2.2.2.2.2.2.2.2.2.2.2.2.2.2), (bx799.1, bx799.2.1, bx799.2.2.1, bx799.2.2.2.1, bx799.2.2.2.2.1, bx799.2.2.2.2.2.1, bx799.2.2.2.2.2.2.1, bx799.2.2.2.2.2.2.2.1, bx799.2.2.2.2.2.2.2.2.1, bx799.2.2.2.2.2.2.2.2.2.1, bx799.2.2.2.2.2.2.2.2.2.2.1, bx799.2.2.2.2.2.2.2.2.2.2.2.1, bx799.2.2.2.2.2.2.2.2.2.2.2.2.1, bx799.2.2.2.2.2.2.2.2.2.2.2.2.2.1, bx799.2.2.2.2.2.2.2.2.2.2.2.2.2.2.1, bx799.2.2.2.2.2.2.2.2.2.2.2.2.2.2.2.1, bx799.2.2.2.2.2.2.2.2.2.2.2.2.2.2.2.2.1, bx799.2.2.2.2.2.2.2.2.2.2.2.2.2.2.2.2.2), (bx798.1, bx798.2.1, bx798.2.2.1, bx798.2.2.2.1, bx798.2.2.2.2.1, bx798.2.2.2.2.2.1, bx798.2.2.2.2.2.2.1, bx798.2.2.2.2.2.2.2.1, bx798.2.2.2.2.2.2.2.2.1, bx798.2.2.2.2.2.2.2.2.2.1, bx798.2.2.2.2.2.2.2.2.2.2.1, bx798.2.2.2.2.2.2.2.2.2.2.2.1, bx798.2.2.2.2.2.2.2.2.2.2.2.2.1, bx798.2.2.2.2.2.2.2.2.2.2.2.2.2.1, bx798.2.2.2.2.2.2.2.2.2.2.2.2.2.2.1, bx798.2.2.2.2.2.2.2.2.2.2.2.2.2.2.2.1, bx798.2.2.2.2.2.2.2.2.2.2.2.2.2.2.2.2.1, bx798.2.2.2.2.2.2.2.2.2.2.2.2.2.2.2.2.2)] : List E37)).bind fun x808 => ((assign_Counts.f K x808 ([2, 2] : List E3)).bind fun bx824 => ((assign_Best.f K x808 ([2, 1] : List E3) ([2, 2] : List E3)).bind fun bx848 => (if bx824.2 = 0 then (if bx848.2 = 0 then (if (bx824.1.length : Int) = 2 then ((idx bx824.1 0).bind fun e859 => (if e859 = 2 then ((idx bx824.1 1).bind fun e861 => (if e861 = 1 then (if (bx848.1.length : Int) = 3 then ((idx bx848.1 0).bind fun e864 => (if e864 = 0 then ((idx bx848.1 1).bind fun e866 => (if e866 = 1 then ((idx bx848.1 2).bind fun e868 => (some (e868 == 0))) else (some false))) else (some false))) else (some false)) else (some false))) else (some false))) else (some false)) else (some false)) else (some false))))))))
set_option maxRecDepth 100000 in
theorem sawmilltop_ordersAwake.calls (K : Nat)     (r1 : Bool) (w : World)    (h : sawmilltop_ordersAwake.f K  = some r1) :
    Calls Try.prog 9 #[] w (Ret w (.bool r1)) := by
  have H := h
  clear h
  unfold sawmilltop_ordersAwake.f at H
  refine Go.Saw.calls (args := []) Try.func9 rfl Try.ntmps9 (by kernel_rfl) ?_
  refine J.seq ?_
  refine J.plain ?_
  refine LL.op (.bool false) (by kernel_rfl) (fun w _ => by kernel_rfl) ?_
  refine LL.done (s' := [(0, .bool false)]) [0] (by kernel_rfl) ?_
  refine NN.then ?_
  refine J.seq ?_
  refine J.plain ?_
  obtain ⟨⟨x788_1, x788_2, x788_3, x788_4, x788_5, x788_6, x788_7, x788_8, x788_9, x788_10, x788_11⟩, hx788, H⟩ := bind_some H
  (try dsimp only at H)
  refine LL.call 25 #[.int .u8 1, .int .i64 1, .int .i64 2] (.agg #[.string x788_1, .string x788_2, .int .i64 x788_3, .int .i64 x788_4, .int .i64 x788_5, .int .i64 x788_6, .int .i64 x788_7, .int .i64 x788_8, .int .i64 x788_9, .int .i64 x788_10, .int .i64 x788_11]) (by kernel_rfl) (fun w => by kernel_rfl) (fun w hw => sawmilltop_want.calls 1 1 2   _ _ _ _ _ _ _ _ _ _ _ w   hx788) ?_
  obtain ⟨⟨x789_1, x789_2, x789_3, x789_4, x789_5, x789_6, x789_7, x789_8, x789_9, x789_10, x789_11⟩, hx789, H⟩ := bind_some H
  (try dsimp only at H)
  refine LL.call 25 #[.int .u8 2, .int .i64 3, .int .i64 2] (.agg #[.string x789_1, .string x789_2, .int .i64 x789_3, .int .i64 x789_4, .int .i64 x789_5, .int .i64 x789_6, .int .i64 x789_7, .int .i64 x789_8, .int .i64 x789_9, .int .i64 x789_10, .int .i64 x789_11]) (by kernel_rfl) (fun w => by kernel_rfl) (fun w hw => sawmilltop_want.calls 2 3 2   _ _ _ _ _ _ _ _ _ _ _ w   hx789) ?_
  refine LL.lit 22 2 #[(0, .tmp 8), (1, .tmp 9)] [.string x788_1, .string x788_2, .int .i64 x788_3, .int .i64 x788_4, .int .i64 x788_5, .int .i64 x788_6, .int .i64 x788_7, .int .i64 x788_8, .int .i64 x788_9, .int .i64 x788_10, .int .i64 x788_11, .string x789_1, .string x789_2, .int .i64 x789_3, .int .i64 x789_4, .int .i64 x789_5, .int .i64 x789_6, .int .i64 x789_7, .int .i64 x789_8, .int .i64 x789_9, .int .i64 x789_10, .int .i64 x789_11] 27 ([(x788_1, x788_2, x788_3, x788_4, x788_5, x788_6, x788_7, x788_8, x788_9, x788_10, x788_11), (x789_1, x789_2, x789_3, x789_4, x789_5, x789_6, x789_7, x789_8, x789_9, x789_10, x789_11)] : List E27) (by kernel_rfl) rfl (by kernel_rfl) ok27.len rfl rfl (fun R790 F791 A792 c793 le794 k795 fr796 => ?_)
  refine LL.op (.slice A792 2 c793) (by kernel_rfl) (fun w _ => by kernel_rfl) ?_
  refine LL.done (s' := [(0, .bool false), (1, .slice A792 2 c793)]) [0, 1] (by kernel_rfl) ?_
  refine NN.then ?_
  refine J.seq ?_
  refine J.plain ?_
  obtain ⟨⟨x798_1, x798_2, x798_3, x798_4, x798_5, x798_6, x798_7, x798_8, x798_9, x798_10, x798_11, x798_12, x798_13, x798_14, x798_15, x798_16, x798_17, x798_18⟩, hx798, H⟩ := bind_some H
  (try dsimp only at H)
  refine LL.call 26 #[.int .i64 1] (.agg #[.string x798_1, .string x798_2, .string x798_3, .int .i64 x798_4, .int .i64 x798_5, .int .i64 x798_6, .int .i64 x798_7, .int .i64 x798_8, .int .i64 x798_9, .int .i64 x798_10, .int .i64 x798_11, .slice x798_12.1 x798_12.2.1 x798_12.2.2, .int .i64 x798_13, .int .i64 x798_14, .int .i64 x798_15, .int .i64 x798_16, .bool x798_17, .int .i64 x798_18]) (by kernel_rfl) (fun w => by kernel_rfl) (fun w hw => sawmilltop_stored.calls 1   _ _ _ _ _ _ _ _ _ _ _ _ _ _ _ _ _ _ w   hx798) ?_
  obtain ⟨⟨x799_1, x799_2, x799_3, x799_4, x799_5, x799_6, x799_7, x799_8, x799_9, x799_10, x799_11, x799_12, x799_13, x799_14, x799_15, x799_16, x799_17, x799_18⟩, hx799, H⟩ := bind_some H
  (try dsimp only at H)
  refine LL.call 26 #[.int .i64 3] (.agg #[.string x799_1, .string x799_2, .string x799_3, .int .i64 x799_4, .int .i64 x799_5, .int .i64 x799_6, .int .i64 x799_7, .int .i64 x799_8, .int .i64 x799_9, .int .i64 x799_10, .int .i64 x799_11, .slice x799_12.1 x799_12.2.1 x799_12.2.2, .int .i64 x799_13, .int .i64 x799_14, .int .i64 x799_15, .int .i64 x799_16, .bool x799_17, .int .i64 x799_18]) (by kernel_rfl) (fun w => by kernel_rfl) (fun w hw => sawmilltop_stored.calls 3   _ _ _ _ _ _ _ _ _ _ _ _ _ _ _ _ _ _ w   hx799) ?_
  refine LL.call 26 #[.int .i64 1] (.agg #[.string x798_1, .string x798_2, .string x798_3, .int .i64 x798_4, .int .i64 x798_5, .int .i64 x798_6, .int .i64 x798_7, .int .i64 x798_8, .int .i64 x798_9, .int .i64 x798_10, .int .i64 x798_11, .slice x798_12.1 x798_12.2.1 x798_12.2.2, .int .i64 x798_13, .int .i64 x798_14, .int .i64 x798_15, .int .i64 x798_16, .bool x798_17, .int .i64 x798_18]) (by kernel_rfl) (fun w => by kernel_rfl) (fun w hw => sawmilltop_stored.calls 1   _ _ _ _ _ _ _ _ _ _ _ _ _ _ _ _ _ _ w   hx798) ?_
  refine LL.lit 23 3 #[(0, .tmp 11), (1, .tmp 12), (2, .tmp 13)] [.string x798_1, .string x798_2, .string x798_3, .int .i64 x798_4, .int .i64 x798_5, .int .i64 x798_6, .int .i64 x798_7, .int .i64 x798_8, .int .i64 x798_9, .int .i64 x798_10, .int .i64 x798_11, .slice x798_12.1 x798_12.2.1 x798_12.2.2, .int .i64 x798_13, .int .i64 x798_14, .int .i64 x798_15, .int .i64 x798_16, .bool x798_17, .int .i64 x798_18, .string x799_1, .string x799_2, .string x799_3, .int .i64 x799_4, .int .i64 x799_5, .int .i64 x799_6, .int .i64 x799_7, .int .i64 x799_8, .int .i64 x799_9, .int .i64 x799_10, .int .i64 x799_11, .slice x799_12.1 x799_12.2.1 x799_12.2.2, .int .i64 x799_13, .int .i64 x799_14, .int .i64 x799_15, .int .i64 x799_16, .bool x799_17, .int .i64 x799_18, .string x798_1, .string x798_2, .string x798_3, .int .i64 x798_4, .int .i64 x798_5, .int .i64 x798_6, .int .i64 x798_7, .int .i64 x798_8, .int .i64 x798_9, .int .i64 x798_10, .int .i64 x798_11, .slice x798_12.1 x798_12.2.1 x798_12.2.2, .int .i64 x798_13, .int .i64 x798_14, .int .i64 x798_15, .int .i64 x798_16, .bool x798_17, .int .i64 x798_18] 37 ([(x798_1, x798_2, x798_3, x798_4, x798_5, x798_6, x798_7, x798_8, x798_9, x798_10, x798_11, x798_12, x798_13, x798_14, x798_15, x798_16, x798_17, x798_18), (x799_1, x799_2, x799_3, x799_4, x799_5, x799_6, x799_7, x799_8, x799_9, x799_10, x799_11, x799_12, x799_13, x799_14, x799_15, x799_16, x799_17, x799_18), (x798_1, x798_2, x798_3, x798_4, x798_5, x798_6, x798_7, x798_8, x798_9, x798_10, x798_11, x798_12, x798_13, x798_14, x798_15, x798_16, x798_17, x798_18)] : List E37) (by kernel_rfl) rfl (by kernel_rfl) ok37.len rfl rfl (fun R800 F801 A802 c803 le804 k805 fr806 => ?_)
  refine LL.op (.slice A802 3 c803) (by kernel_rfl) (fun w _ => by kernel_rfl) ?_
  refine LL.done (s' := [(0, .bool false), (1, .slice A792 2 c793), (2, .slice A802 3 c803)]) [0, 1, 2] (by kernel_rfl) ?_
  refine NN.then ?_
  refine J.seq ?_
  refine J.plain ?_
  refine LL.op (.slice A792 2 c793) (by kernel_rfl) (fun w _ => by kernel_rfl) ?_
  refine LL.op (.slice A802 3 c803) (by kernel_rfl) (fun w _ => by kernel_rfl) ?_
  obtain ⟨x808, hx808, H⟩ := bind_some H
  refine LL.callR2 (enc := enc4) (m := 1) (ll := x808) 12 #[.slice A792 2 c793, .slice A802 3 c803] (fun A_ c_ => .slice A_ x808.length c_) (by kernel_rfl) (fun w => by kernel_rfl) (fun w hw => assign_Table.calls K ([(x788_1, x788_2, x788_3, x788_4, x788_5, x788_6, x788_7, x788_8, x788_9, x788_10, x788_11), (x789_1, x789_2, x789_3, x789_4, x789_5, x789_6, x789_7, x789_8, x789_9, x789_10, x789_11)] : List E27) ([(x798_1, x798_2, x798_3, x798_4, x798_5, x798_6, x798_7, x798_8, x798_9, x798_10, x798_11, x798_12, x798_13, x798_14, x798_15, x798_16, x798_17, x798_18), (x799_1, x799_2, x799_3, x799_4, x799_5, x799_6, x799_7, x799_8, x799_9, x799_10, x799_11, x799_12, x799_13, x799_14, x799_15, x799_16, x799_17, x799_18), (x798_1, x798_2, x798_3, x798_4, x798_5, x798_6, x798_7, x798_8, x798_9, x798_10, x798_11, x798_12, x798_13, x798_14, x798_15, x798_16, x798_17, x798_18)] : List E37)  _ _ _ _ _ w  ((k795.le le804).at hw) (k805.at hw) hx808) (fun R809 F810 A811 c812 le813 k814 => ?_)
  refine LL.op (.slice A811 x808.length c812) (by kernel_rfl) (fun w _ => by kernel_rfl) ?_
  refine LL.done (s' := [(0, .bool false), (3, .slice A811 x808.length c812)]) [0, 3] (by kernel_rfl) ?_
  refine NN.then ?_
  refine J.seq ?_
  refine J.plain ?_
  refine LL.op (.slice A811 x808.length c812) (by kernel_rfl) (fun w _ => by kernel_rfl) ?_
  refine LL.lit 24 2 #[(0, .const (.int .i64 2)), (1, .const (.int .i64 2))] [.int .i64 2, .int .i64 2] 3 ([2, 2] : List E3) (by kernel_rfl) rfl (by kernel_rfl) ok3.len rfl rfl (fun R816 F817 A818 c819 le820 k821 fr822 => ?_)
  obtain ⟨⟨x824_1, x824_2⟩, hx824, H⟩ := bind_some H
  (try dsimp only at H)
  refine LL.callR (enc := enc3) (m := 1) (l := x824_1) 13 #[.slice A811 x808.length c812, .slice A818 2 c819] (fun A_ c_ => .tuple #[.slice A_ x824_1.length c_, .int .i64 x824_2]) (by kernel_rfl) (fun w => by kernel_rfl) (fun w hw => assign_Counts.calls K x808 ([2, 2] : List E3)  _ _ _ _ _ _ w  ((k814.le le820).at hw) (k821.at hw) hx824) (fun R825 F826 A827 c828 le829 k830 fr831 => ?_)
  refine LL.op (.tuple #[.slice A827 x824_1.length c828, .int .i64 x824_2]) (by kernel_rfl) (fun w _ => by kernel_rfl) ?_
  refine LL.op (.slice A827 x824_1.length c828) (by kernel_rfl) (fun w _ => by kernel_rfl) ?_
  refine LL.op (.int .i64 x824_2) (by kernel_rfl) (fun w _ => by kernel_rfl) ?_
  refine LL.op (.slice A827 x824_1.length c828) (by kernel_rfl) (fun w _ => by kernel_rfl) ?_
  refine LL.op (.int .i64 x824_2) (by kernel_rfl) (fun w _ => by kernel_rfl) ?_
  refine LL.done (s' := [(0, .bool false), (3, .slice A811 x808.length c812), (4, .slice A827 x824_1.length c828), (5, .int .i64 x824_2)]) [0, 3, 4, 5] (by kernel_rfl) ?_
  refine NN.then ?_
  refine J.seq ?_
  refine J.plain ?_
  refine LL.op (.slice A811 x808.length c812) (by kernel_rfl) (fun w _ => by kernel_rfl) ?_
  refine LL.lit 24 2 #[(0, .const (.int .i64 2)), (1, .const (.int .i64 1))] [.int .i64 2, .int .i64 1] 3 ([2, 1] : List E3) (by kernel_rfl) rfl (by kernel_rfl) ok3.len rfl rfl (fun R832 F833 A834 c835 le836 k837 fr838 => ?_)
  refine LL.lit 24 2 #[(0, .const (.int .i64 2)), (1, .const (.int .i64 2))] [.int .i64 2, .int .i64 2] 3 ([2, 2] : List E3) (by kernel_rfl) rfl (by kernel_rfl) ok3.len rfl rfl (fun R840 F841 A842 c843 le844 k845 fr846 => ?_)
  obtain ⟨⟨x848_1, x848_2⟩, hx848, H⟩ := bind_some H
  (try dsimp only at H)
  refine LL.callR (enc := enc3) (m := 1) (l := x848_1) 14 #[.slice A811 x808.length c812, .slice A834 2 c835, .slice A842 2 c843] (fun A_ c_ => .tuple #[.slice A_ x848_1.length c_, .int .i64 x848_2]) (by kernel_rfl) (fun w => by kernel_rfl) (fun w hw => assign_Best.calls K x808 ([2, 1] : List E3) ([2, 2] : List E3)  _ _ _ _ _ _ _ _ w  (((((k814.le le820).le le829).le le836).le le844).at hw) ((k837.le le844).at hw) (k845.at hw) hx848) (fun R849 F850 A851 c852 le853 k854 fr855 => ?_)
  refine LL.op (.tuple #[.slice A851 x848_1.length c852, .int .i64 x848_2]) (by kernel_rfl) (fun w _ => by kernel_rfl) ?_
  refine LL.op (.slice A851 x848_1.length c852) (by kernel_rfl) (fun w _ => by kernel_rfl) ?_
  refine LL.op (.int .i64 x848_2) (by kernel_rfl) (fun w _ => by kernel_rfl) ?_
  refine LL.op (.slice A851 x848_1.length c852) (by kernel_rfl) (fun w _ => by kernel_rfl) ?_
  refine LL.op (.int .i64 x848_2) (by kernel_rfl) (fun w _ => by kernel_rfl) ?_
  refine LL.done (s' := [(0, .bool false), (4, .slice A827 x824_1.length c828), (5, .int .i64 x824_2), (6, .slice A851 x848_1.length c852), (7, .int .i64 x848_2)]) [0, 4, 5, 6, 7] (by kernel_rfl) ?_
  refine NN.then ?_
  refine J.seq ?_
  refine J.plain ?_
  refine LL.op (.int .i64 x824_2) (by kernel_rfl) (fun w _ => by kernel_rfl) ?_
  refine LL.op (.bool (x824_2 == 0)) (by kernel_rfl) (fun w _ => by kernel_rfl) ?_
  refine LL.op (.bool (x824_2 == 0)) (by kernel_rfl) (fun w _ => by kernel_rfl) ?_
  rcases Bool.eq_false_or_eq_true ((x824_2 == 0)) with c856 | c856
  · rw [if_pos (eq_of_beq c856)] at H
    refine LL.bool 33 ((x824_2 == 0)) true c856 (by kernel_rfl) ?_
    refine LL.op (.int .i64 x848_2) (by kernel_rfl) (fun w _ => by kernel_rfl) ?_
    refine LL.op (.bool (x848_2 == 0)) (by kernel_rfl) (fun w _ => by kernel_rfl) ?_
    refine LL.op (.bool (x848_2 == 0)) (by kernel_rfl) (fun w _ => by kernel_rfl) ?_
    refine LL.op (.bool (x848_2 == 0)) (by kernel_rfl) (fun w _ => by kernel_rfl) ?_
    rcases Bool.eq_false_or_eq_true ((x848_2 == 0)) with c857 | c857
    · rw [if_pos (eq_of_beq c857)] at H
      refine LL.bool 37 ((x848_2 == 0)) true c857 (by kernel_rfl) ?_
      refine LL.op (.slice A827 x824_1.length c828) (by kernel_rfl) (fun w _ => by kernel_rfl) ?_
      refine LL.op (.int .i64 (x824_1.length : Int)) (by kernel_rfl) (fun w _ => by kernel_rfl) ?_
      refine LL.op (.bool ((x824_1.length : Int) == 2)) (by kernel_rfl) (fun w _ => by kernel_rfl) ?_
      refine LL.op (.bool ((x824_1.length : Int) == 2)) (by kernel_rfl) (fun w _ => by kernel_rfl) ?_
      refine LL.op (.bool ((x824_1.length : Int) == 2)) (by kernel_rfl) (fun w _ => by kernel_rfl) ?_
      rcases Bool.eq_false_or_eq_true (((x824_1.length : Int) == 2)) with c858 | c858
      · rw [if_pos (eq_of_beq c858)] at H
        refine LL.bool 42 (((x824_1.length : Int) == 2)) true c858 (by kernel_rfl) ?_
        refine LL.op (.slice A827 x824_1.length c828) (by kernel_rfl) (fun w _ => by kernel_rfl) ?_
        obtain ⟨e859, he859, H⟩ := bind_some H
        refine LL.op (.pointer (rp A827 ((0 : Int).toNat * 1 + 0))) (by kernel_rfl) (idxR (cp := c828) (ik := .i64) (((k830.le le836).le le844).le le853) he859 rfl (by kernel_rfl) (by kernel_rfl) (by kernel_rfl)) ?_
        refine LL.op (.int .i64 e859) (by kernel_rfl) (ldR (off := 0) (((k830.le le836).le le844).le le853) he859 rfl (by kernel_rfl) (by kernel_rfl)) ?_
        refine LL.op (.bool (e859 == 2)) (by kernel_rfl) (fun w _ => by kernel_rfl) ?_
        refine LL.op (.bool (e859 == 2)) (by kernel_rfl) (fun w _ => by kernel_rfl) ?_
        refine LL.op (.bool (e859 == 2)) (by kernel_rfl) (fun w _ => by kernel_rfl) ?_
        rcases Bool.eq_false_or_eq_true ((e859 == 2)) with c860 | c860
        · rw [if_pos (eq_of_beq c860)] at H
          refine LL.bool 48 ((e859 == 2)) true c860 (by kernel_rfl) ?_
          refine LL.op (.slice A827 x824_1.length c828) (by kernel_rfl) (fun w _ => by kernel_rfl) ?_
          obtain ⟨e861, he861, H⟩ := bind_some H
          refine LL.op (.pointer (rp A827 ((1 : Int).toNat * 1 + 0))) (by kernel_rfl) (idxR (cp := c828) (ik := .i64) (((k830.le le836).le le844).le le853) he861 rfl (by kernel_rfl) (by kernel_rfl) (by kernel_rfl)) ?_
          refine LL.op (.int .i64 e861) (by kernel_rfl) (ldR (off := 0) (((k830.le le836).le le844).le le853) he861 rfl (by kernel_rfl) (by kernel_rfl)) ?_
          refine LL.op (.bool (e861 == 1)) (by kernel_rfl) (fun w _ => by kernel_rfl) ?_
          refine LL.op (.bool (e861 == 1)) (by kernel_rfl) (fun w _ => by kernel_rfl) ?_
          refine LL.op (.bool (e861 == 1)) (by kernel_rfl) (fun w _ => by kernel_rfl) ?_
          rcases Bool.eq_false_or_eq_true ((e861 == 1)) with c862 | c862
          · rw [if_pos (eq_of_beq c862)] at H
            refine LL.bool 54 ((e861 == 1)) true c862 (by kernel_rfl) ?_
            refine LL.op (.slice A851 x848_1.length c852) (by kernel_rfl) (fun w _ => by kernel_rfl) ?_
            refine LL.op (.int .i64 (x848_1.length : Int)) (by kernel_rfl) (fun w _ => by kernel_rfl) ?_
            refine LL.op (.bool ((x848_1.length : Int) == 3)) (by kernel_rfl) (fun w _ => by kernel_rfl) ?_
            refine LL.op (.bool ((x848_1.length : Int) == 3)) (by kernel_rfl) (fun w _ => by kernel_rfl) ?_
            refine LL.op (.bool ((x848_1.length : Int) == 3)) (by kernel_rfl) (fun w _ => by kernel_rfl) ?_
            rcases Bool.eq_false_or_eq_true (((x848_1.length : Int) == 3)) with c863 | c863
            · rw [if_pos (eq_of_beq c863)] at H
              refine LL.bool 59 (((x848_1.length : Int) == 3)) true c863 (by kernel_rfl) ?_
              refine LL.op (.slice A851 x848_1.length c852) (by kernel_rfl) (fun w _ => by kernel_rfl) ?_
              obtain ⟨e864, he864, H⟩ := bind_some H
              refine LL.op (.pointer (rp A851 ((0 : Int).toNat * 1 + 0))) (by kernel_rfl) (idxR (cp := c852) (ik := .i64) k854 he864 rfl (by kernel_rfl) (by kernel_rfl) (by kernel_rfl)) ?_
              refine LL.op (.int .i64 e864) (by kernel_rfl) (ldR (off := 0) k854 he864 rfl (by kernel_rfl) (by kernel_rfl)) ?_
              refine LL.op (.bool (e864 == 0)) (by kernel_rfl) (fun w _ => by kernel_rfl) ?_
              refine LL.op (.bool (e864 == 0)) (by kernel_rfl) (fun w _ => by kernel_rfl) ?_
              refine LL.op (.bool (e864 == 0)) (by kernel_rfl) (fun w _ => by kernel_rfl) ?_
              rcases Bool.eq_false_or_eq_true ((e864 == 0)) with c865 | c865
              · rw [if_pos (eq_of_beq c865)] at H
                refine LL.bool 65 ((e864 == 0)) true c865 (by kernel_rfl) ?_
                refine LL.op (.slice A851 x848_1.length c852) (by kernel_rfl) (fun w _ => by kernel_rfl) ?_
                obtain ⟨e866, he866, H⟩ := bind_some H
                refine LL.op (.pointer (rp A851 ((1 : Int).toNat * 1 + 0))) (by kernel_rfl) (idxR (cp := c852) (ik := .i64) k854 he866 rfl (by kernel_rfl) (by kernel_rfl) (by kernel_rfl)) ?_
                refine LL.op (.int .i64 e866) (by kernel_rfl) (ldR (off := 0) k854 he866 rfl (by kernel_rfl) (by kernel_rfl)) ?_
                refine LL.op (.bool (e866 == 1)) (by kernel_rfl) (fun w _ => by kernel_rfl) ?_
                refine LL.op (.bool (e866 == 1)) (by kernel_rfl) (fun w _ => by kernel_rfl) ?_
                refine LL.op (.bool (e866 == 1)) (by kernel_rfl) (fun w _ => by kernel_rfl) ?_
                rcases Bool.eq_false_or_eq_true ((e866 == 1)) with c867 | c867
                · rw [if_pos (eq_of_beq c867)] at H
                  refine LL.bool 71 ((e866 == 1)) true c867 (by kernel_rfl) ?_
                  refine LL.op (.slice A851 x848_1.length c852) (by kernel_rfl) (fun w _ => by kernel_rfl) ?_
                  obtain ⟨e868, he868, H⟩ := bind_some H
                  refine LL.op (.pointer (rp A851 ((2 : Int).toNat * 1 + 0))) (by kernel_rfl) (idxR (cp := c852) (ik := .i64) k854 he868 rfl (by kernel_rfl) (by kernel_rfl) (by kernel_rfl)) ?_
                  refine LL.op (.int .i64 e868) (by kernel_rfl) (ldR (off := 0) k854 he868 rfl (by kernel_rfl) (by kernel_rfl)) ?_
                  refine LL.op (.bool (e868 == 0)) (by kernel_rfl) (fun w _ => by kernel_rfl) ?_
                  refine LL.op (.bool (e868 == 0)) (by kernel_rfl) (fun w _ => by kernel_rfl) ?_
                  refine LL.op (.bool (e868 == 0)) (by kernel_rfl) (fun w _ => by kernel_rfl) ?_
                  refine LL.done (s' := [(0, .bool (e868 == 0))]) [0] (by kernel_rfl) ?_
                  refine NN.then ?_
                  refine J.ret ?_
                  refine NN.fin1 0 (.bool (e868 == 0)) (by kernel_rfl) (by kernel_rfl) (.inl rfl) (fun w hi => hi.ret ?_)
                  first | (cases H; rfl) | (obtain rfl := Option.some.inj H; rfl) | (simp only [Option.some.injEq, Prod.mk.injEq] at H; obtain ⟨rfl⟩ := H; rfl)
                · rw [if_neg (nebf c867)] at H
                  refine LL.bool 71 ((e866 == 1)) false c867 (by kernel_rfl) ?_
                  refine LL.off (by kernel_rfl) (by kernel_rfl) ?_
                  refine LL.off (by kernel_rfl) (by kernel_rfl) ?_
                  refine LL.off (by kernel_rfl) (by kernel_rfl) ?_
                  refine LL.off (by kernel_rfl) (by kernel_rfl) ?_
                  refine LL.op (.bool false) (by kernel_rfl) (fun w _ => by kernel_rfl) ?_
                  refine LL.op (.bool false) (by kernel_rfl) (fun w _ => by kernel_rfl) ?_
                  refine LL.done (s' := [(0, .bool false)]) [0] (by kernel_rfl) ?_
                  refine NN.then ?_
                  refine J.ret ?_
                  refine NN.fin1 0 (.bool false) (by kernel_rfl) (by kernel_rfl) (.inl rfl) (fun w hi => hi.ret ?_)
                  first | (cases H; rfl) | (obtain rfl := Option.some.inj H; rfl) | (simp only [Option.some.injEq, Prod.mk.injEq] at H; obtain ⟨rfl⟩ := H; rfl)
              · rw [if_neg (nebf c865)] at H
                refine LL.bool 65 ((e864 == 0)) false c865 (by kernel_rfl) ?_
                refine LL.off (by kernel_rfl) (by kernel_rfl) ?_
                refine LL.off (by kernel_rfl) (by kernel_rfl) ?_
                refine LL.off (by kernel_rfl) (by kernel_rfl) ?_
                refine LL.off (by kernel_rfl) (by kernel_rfl) ?_
                refine LL.op (.bool false) (by kernel_rfl) (fun w _ => by kernel_rfl) ?_
                refine LL.op (.bool false) (by kernel_rfl) (fun w _ => by kernel_rfl) ?_
                refine LL.off (by kernel_rfl) (by kernel_rfl) ?_
                refine LL.off (by kernel_rfl) (by kernel_rfl) ?_
                refine LL.off (by kernel_rfl) (by kernel_rfl) ?_
                refine LL.off (by kernel_rfl) (by kernel_rfl) ?_
                refine LL.op (.bool false) (by kernel_rfl) (fun w _ => by kernel_rfl) ?_
                refine LL.op (.bool false) (by kernel_rfl) (fun w _ => by kernel_rfl) ?_
                refine LL.done (s' := [(0, .bool false)]) [0] (by kernel_rfl) ?_
                refine NN.then ?_
                refine J.ret ?_
                refine NN.fin1 0 (.bool false) (by kernel_rfl) (by kernel_rfl) (.inl rfl) (fun w hi => hi.ret ?_)
                first | (cases H; rfl) | (obtain rfl := Option.some.inj H; rfl) | (simp only [Option.some.injEq, Prod.mk.injEq] at H; obtain ⟨rfl⟩ := H; rfl)
            · rw [if_neg (nebf c863)] at H
              refine LL.bool 59 (((x848_1.length : Int) == 3)) false c863 (by kernel_rfl) ?_
              refine LL.off (by kernel_rfl) (by kernel_rfl) ?_
              refine LL.off (by kernel_rfl) (by kernel_rfl) ?_
              refine LL.off (by kernel_rfl) (by kernel_rfl) ?_
              refine LL.off (by kernel_rfl) (by kernel_rfl) ?_
              refine LL.op (.bool false) (by kernel_rfl) (fun w _ => by kernel_rfl) ?_
              refine LL.op (.bool false) (by kernel_rfl) (fun w _ => by kernel_rfl) ?_
              refine LL.off (by kernel_rfl) (by kernel_rfl) ?_
              refine LL.off (by kernel_rfl) (by kernel_rfl) ?_
              refine LL.off (by kernel_rfl) (by kernel_rfl) ?_
              refine LL.off (by kernel_rfl) (by kernel_rfl) ?_
              refine LL.op (.bool false) (by kernel_rfl) (fun w _ => by kernel_rfl) ?_
              refine LL.op (.bool false) (by kernel_rfl) (fun w _ => by kernel_rfl) ?_
              refine LL.off (by kernel_rfl) (by kernel_rfl) ?_
              refine LL.off (by kernel_rfl) (by kernel_rfl) ?_
              refine LL.off (by kernel_rfl) (by kernel_rfl) ?_
              refine LL.off (by kernel_rfl) (by kernel_rfl) ?_
              refine LL.op (.bool false) (by kernel_rfl) (fun w _ => by kernel_rfl) ?_
              refine LL.op (.bool false) (by kernel_rfl) (fun w _ => by kernel_rfl) ?_
              refine LL.done (s' := [(0, .bool false)]) [0] (by kernel_rfl) ?_
              refine NN.then ?_
              refine J.ret ?_
              refine NN.fin1 0 (.bool false) (by kernel_rfl) (by kernel_rfl) (.inl rfl) (fun w hi => hi.ret ?_)
              first | (cases H; rfl) | (obtain rfl := Option.some.inj H; rfl) | (simp only [Option.some.injEq, Prod.mk.injEq] at H; obtain ⟨rfl⟩ := H; rfl)
          · rw [if_neg (nebf c862)] at H
            refine LL.bool 54 ((e861 == 1)) false c862 (by kernel_rfl) ?_
            refine LL.off (by kernel_rfl) (by kernel_rfl) ?_
            refine LL.off (by kernel_rfl) (by kernel_rfl) ?_
            refine LL.off (by kernel_rfl) (by kernel_rfl) ?_
            refine LL.op (.bool false) (by kernel_rfl) (fun w _ => by kernel_rfl) ?_
            refine LL.op (.bool false) (by kernel_rfl) (fun w _ => by kernel_rfl) ?_
            refine LL.off (by kernel_rfl) (by kernel_rfl) ?_
            refine LL.off (by kernel_rfl) (by kernel_rfl) ?_
            refine LL.off (by kernel_rfl) (by kernel_rfl) ?_
            refine LL.off (by kernel_rfl) (by kernel_rfl) ?_
            refine LL.op (.bool false) (by kernel_rfl) (fun w _ => by kernel_rfl) ?_
            refine LL.op (.bool false) (by kernel_rfl) (fun w _ => by kernel_rfl) ?_
            refine LL.off (by kernel_rfl) (by kernel_rfl) ?_
            refine LL.off (by kernel_rfl) (by kernel_rfl) ?_
            refine LL.off (by kernel_rfl) (by kernel_rfl) ?_
            refine LL.off (by kernel_rfl) (by kernel_rfl) ?_
            refine LL.op (.bool false) (by kernel_rfl) (fun w _ => by kernel_rfl) ?_
            refine LL.op (.bool false) (by kernel_rfl) (fun w _ => by kernel_rfl) ?_
            refine LL.off (by kernel_rfl) (by kernel_rfl) ?_
            refine LL.off (by kernel_rfl) (by kernel_rfl) ?_
            refine LL.off (by kernel_rfl) (by kernel_rfl) ?_
            refine LL.off (by kernel_rfl) (by kernel_rfl) ?_
            refine LL.op (.bool false) (by kernel_rfl) (fun w _ => by kernel_rfl) ?_
            refine LL.op (.bool false) (by kernel_rfl) (fun w _ => by kernel_rfl) ?_
            refine LL.done (s' := [(0, .bool false)]) [0] (by kernel_rfl) ?_
            refine NN.then ?_
            refine J.ret ?_
            refine NN.fin1 0 (.bool false) (by kernel_rfl) (by kernel_rfl) (.inl rfl) (fun w hi => hi.ret ?_)
            first | (cases H; rfl) | (obtain rfl := Option.some.inj H; rfl) | (simp only [Option.some.injEq, Prod.mk.injEq] at H; obtain ⟨rfl⟩ := H; rfl)
        · rw [if_neg (nebf c860)] at H
          refine LL.bool 48 ((e859 == 2)) false c860 (by kernel_rfl) ?_
          refine LL.off (by kernel_rfl) (by kernel_rfl) ?_
          refine LL.off (by kernel_rfl) (by kernel_rfl) ?_
          refine LL.off (by kernel_rfl) (by kernel_rfl) ?_
          refine LL.off (by kernel_rfl) (by kernel_rfl) ?_
          refine LL.op (.bool false) (by kernel_rfl) (fun w _ => by kernel_rfl) ?_
          refine LL.op (.bool false) (by kernel_rfl) (fun w _ => by kernel_rfl) ?_
          refine LL.off (by kernel_rfl) (by kernel_rfl) ?_
          refine LL.off (by kernel_rfl) (by kernel_rfl) ?_
          refine LL.off (by kernel_rfl) (by kernel_rfl) ?_
          refine LL.op (.bool false) (by kernel_rfl) (fun w _ => by kernel_rfl) ?_
          refine LL.op (.bool false) (by kernel_rfl) (fun w _ => by kernel_rfl) ?_
          refine LL.off (by kernel_rfl) (by kernel_rfl) ?_
          refine LL.off (by kernel_rfl) (by kernel_rfl) ?_
          refine LL.off (by kernel_rfl) (by kernel_rfl) ?_
          refine LL.off (by kernel_rfl) (by kernel_rfl) ?_
          refine LL.op (.bool false) (by kernel_rfl) (fun w _ => by kernel_rfl) ?_
          refine LL.op (.bool false) (by kernel_rfl) (fun w _ => by kernel_rfl) ?_
          refine LL.off (by kernel_rfl) (by kernel_rfl) ?_
          refine LL.off (by kernel_rfl) (by kernel_rfl) ?_
          refine LL.off (by kernel_rfl) (by kernel_rfl) ?_
          refine LL.off (by kernel_rfl) (by kernel_rfl) ?_
          refine LL.op (.bool false) (by kernel_rfl) (fun w _ => by kernel_rfl) ?_
          refine LL.op (.bool false) (by kernel_rfl) (fun w _ => by kernel_rfl) ?_
          refine LL.off (by kernel_rfl) (by kernel_rfl) ?_
          refine LL.off (by kernel_rfl) (by kernel_rfl) ?_
          refine LL.off (by kernel_rfl) (by kernel_rfl) ?_
          refine LL.off (by kernel_rfl) (by kernel_rfl) ?_
          refine LL.op (.bool false) (by kernel_rfl) (fun w _ => by kernel_rfl) ?_
          refine LL.op (.bool false) (by kernel_rfl) (fun w _ => by kernel_rfl) ?_
          refine LL.done (s' := [(0, .bool false)]) [0] (by kernel_rfl) ?_
          refine NN.then ?_
          refine J.ret ?_
          refine NN.fin1 0 (.bool false) (by kernel_rfl) (by kernel_rfl) (.inl rfl) (fun w hi => hi.ret ?_)
          first | (cases H; rfl) | (obtain rfl := Option.some.inj H; rfl) | (simp only [Option.some.injEq, Prod.mk.injEq] at H; obtain ⟨rfl⟩ := H; rfl)
      · rw [if_neg (nebf c858)] at H
        refine LL.bool 42 (((x824_1.length : Int) == 2)) false c858 (by kernel_rfl) ?_
        refine LL.off (by kernel_rfl) (by kernel_rfl) ?_
        refine LL.off (by kernel_rfl) (by kernel_rfl) ?_
        refine LL.off (by kernel_rfl) (by kernel_rfl) ?_
        refine LL.off (by kernel_rfl) (by kernel_rfl) ?_
        refine LL.op (.bool false) (by kernel_rfl) (fun w _ => by kernel_rfl) ?_
        refine LL.op (.bool false) (by kernel_rfl) (fun w _ => by kernel_rfl) ?_
        refine LL.off (by kernel_rfl) (by kernel_rfl) ?_
        refine LL.off (by kernel_rfl) (by kernel_rfl) ?_
        refine LL.off (by kernel_rfl) (by kernel_rfl) ?_
        refine LL.off (by kernel_rfl) (by kernel_rfl) ?_
        refine LL.op (.bool false) (by kernel_rfl) (fun w _ => by kernel_rfl) ?_
        refine LL.op (.bool false) (by kernel_rfl) (fun w _ => by kernel_rfl) ?_
        refine LL.off (by kernel_rfl) (by kernel_rfl) ?_
        refine LL.off (by kernel_rfl) (by kernel_rfl) ?_
        refine LL.off (by kernel_rfl) (by kernel_rfl) ?_
        refine LL.op (.bool false) (by kernel_rfl) (fun w _ => by kernel_rfl) ?_
        refine LL.op (.bool false) (by kernel_rfl) (fun w _ => by kernel_rfl) ?_
        refine LL.off (by kernel_rfl) (by kernel_rfl) ?_
        refine LL.off (by kernel_rfl) (by kernel_rfl) ?_
        refine LL.off (by kernel_rfl) (by kernel_rfl) ?_
        refine LL.off (by kernel_rfl) (by kernel_rfl) ?_
        refine LL.op (.bool false) (by kernel_rfl) (fun w _ => by kernel_rfl) ?_
        refine LL.op (.bool false) (by kernel_rfl) (fun w _ => by kernel_rfl) ?_
        refine LL.off (by kernel_rfl) (by kernel_rfl) ?_
        refine LL.off (by kernel_rfl) (by kernel_rfl) ?_
        refine LL.off (by kernel_rfl) (by kernel_rfl) ?_
        refine LL.off (by kernel_rfl) (by kernel_rfl) ?_
        refine LL.op (.bool false) (by kernel_rfl) (fun w _ => by kernel_rfl) ?_
        refine LL.op (.bool false) (by kernel_rfl) (fun w _ => by kernel_rfl) ?_
        refine LL.off (by kernel_rfl) (by kernel_rfl) ?_
        refine LL.off (by kernel_rfl) (by kernel_rfl) ?_
        refine LL.off (by kernel_rfl) (by kernel_rfl) ?_
        refine LL.off (by kernel_rfl) (by kernel_rfl) ?_
        refine LL.op (.bool false) (by kernel_rfl) (fun w _ => by kernel_rfl) ?_
        refine LL.op (.bool false) (by kernel_rfl) (fun w _ => by kernel_rfl) ?_
        refine LL.done (s' := [(0, .bool false)]) [0] (by kernel_rfl) ?_
        refine NN.then ?_
        refine J.ret ?_
        refine NN.fin1 0 (.bool false) (by kernel_rfl) (by kernel_rfl) (.inl rfl) (fun w hi => hi.ret ?_)
        first | (cases H; rfl) | (obtain rfl := Option.some.inj H; rfl) | (simp only [Option.some.injEq, Prod.mk.injEq] at H; obtain ⟨rfl⟩ := H; rfl)
    · rw [if_neg (nebf c857)] at H
      refine LL.bool 37 ((x848_2 == 0)) false c857 (by kernel_rfl) ?_
      refine LL.off (by kernel_rfl) (by kernel_rfl) ?_
      refine LL.off (by kernel_rfl) (by kernel_rfl) ?_
      refine LL.off (by kernel_rfl) (by kernel_rfl) ?_
      refine LL.op (.bool false) (by kernel_rfl) (fun w _ => by kernel_rfl) ?_
      refine LL.op (.bool false) (by kernel_rfl) (fun w _ => by kernel_rfl) ?_
      refine LL.off (by kernel_rfl) (by kernel_rfl) ?_
      refine LL.off (by kernel_rfl) (by kernel_rfl) ?_
      refine LL.off (by kernel_rfl) (by kernel_rfl) ?_
      refine LL.off (by kernel_rfl) (by kernel_rfl) ?_
      refine LL.op (.bool false) (by kernel_rfl) (fun w _ => by kernel_rfl) ?_
      refine LL.op (.bool false) (by kernel_rfl) (fun w _ => by kernel_rfl) ?_
      refine LL.off (by kernel_rfl) (by kernel_rfl) ?_
      refine LL.off (by kernel_rfl) (by kernel_rfl) ?_
      refine LL.off (by kernel_rfl) (by kernel_rfl) ?_
      refine LL.off (by kernel_rfl) (by kernel_rfl) ?_
      refine LL.op (.bool false) (by kernel_rfl) (fun w _ => by kernel_rfl) ?_
      refine LL.op (.bool false) (by kernel_rfl) (fun w _ => by kernel_rfl) ?_
      refine LL.off (by kernel_rfl) (by kernel_rfl) ?_
      refine LL.off (by kernel_rfl) (by kernel_rfl) ?_
      refine LL.off (by kernel_rfl) (by kernel_rfl) ?_
      refine LL.op (.bool false) (by kernel_rfl) (fun w _ => by kernel_rfl) ?_
      refine LL.op (.bool false) (by kernel_rfl) (fun w _ => by kernel_rfl) ?_
      refine LL.off (by kernel_rfl) (by kernel_rfl) ?_
      refine LL.off (by kernel_rfl) (by kernel_rfl) ?_
      refine LL.off (by kernel_rfl) (by kernel_rfl) ?_
      refine LL.off (by kernel_rfl) (by kernel_rfl) ?_
      refine LL.op (.bool false) (by kernel_rfl) (fun w _ => by kernel_rfl) ?_
      refine LL.op (.bool false) (by kernel_rfl) (fun w _ => by kernel_rfl) ?_
      refine LL.off (by kernel_rfl) (by kernel_rfl) ?_
      refine LL.off (by kernel_rfl) (by kernel_rfl) ?_
      refine LL.off (by kernel_rfl) (by kernel_rfl) ?_
      refine LL.off (by kernel_rfl) (by kernel_rfl) ?_
      refine LL.op (.bool false) (by kernel_rfl) (fun w _ => by kernel_rfl) ?_
      refine LL.op (.bool false) (by kernel_rfl) (fun w _ => by kernel_rfl) ?_
      refine LL.off (by kernel_rfl) (by kernel_rfl) ?_
      refine LL.off (by kernel_rfl) (by kernel_rfl) ?_
      refine LL.off (by kernel_rfl) (by kernel_rfl) ?_
      refine LL.off (by kernel_rfl) (by kernel_rfl) ?_
      refine LL.op (.bool false) (by kernel_rfl) (fun w _ => by kernel_rfl) ?_
      refine LL.op (.bool false) (by kernel_rfl) (fun w _ => by kernel_rfl) ?_
      refine LL.done (s' := [(0, .bool false)]) [0] (by kernel_rfl) ?_
      refine NN.then ?_
      refine J.ret ?_
      refine NN.fin1 0 (.bool false) (by kernel_rfl) (by kernel_rfl) (.inl rfl) (fun w hi => hi.ret ?_)
      first | (cases H; rfl) | (obtain rfl := Option.some.inj H; rfl) | (simp only [Option.some.injEq, Prod.mk.injEq] at H; obtain ⟨rfl⟩ := H; rfl)
  · rw [if_neg (nebf c856)] at H
    refine LL.bool 33 ((x824_2 == 0)) false c856 (by kernel_rfl) ?_
    refine LL.off (by kernel_rfl) (by kernel_rfl) ?_
    refine LL.off (by kernel_rfl) (by kernel_rfl) ?_
    refine LL.op (.bool false) (by kernel_rfl) (fun w _ => by kernel_rfl) ?_
    refine LL.op (.bool false) (by kernel_rfl) (fun w _ => by kernel_rfl) ?_
    refine LL.off (by kernel_rfl) (by kernel_rfl) ?_
    refine LL.off (by kernel_rfl) (by kernel_rfl) ?_
    refine LL.off (by kernel_rfl) (by kernel_rfl) ?_
    refine LL.op (.bool false) (by kernel_rfl) (fun w _ => by kernel_rfl) ?_
    refine LL.op (.bool false) (by kernel_rfl) (fun w _ => by kernel_rfl) ?_
    refine LL.off (by kernel_rfl) (by kernel_rfl) ?_
    refine LL.off (by kernel_rfl) (by kernel_rfl) ?_
    refine LL.off (by kernel_rfl) (by kernel_rfl) ?_
    refine LL.off (by kernel_rfl) (by kernel_rfl) ?_
    refine LL.op (.bool false) (by kernel_rfl) (fun w _ => by kernel_rfl) ?_
    refine LL.op (.bool false) (by kernel_rfl) (fun w _ => by kernel_rfl) ?_
    refine LL.off (by kernel_rfl) (by kernel_rfl) ?_
    refine LL.off (by kernel_rfl) (by kernel_rfl) ?_
    refine LL.off (by kernel_rfl) (by kernel_rfl) ?_
    refine LL.off (by kernel_rfl) (by kernel_rfl) ?_
    refine LL.op (.bool false) (by kernel_rfl) (fun w _ => by kernel_rfl) ?_
    refine LL.op (.bool false) (by kernel_rfl) (fun w _ => by kernel_rfl) ?_
    refine LL.off (by kernel_rfl) (by kernel_rfl) ?_
    refine LL.off (by kernel_rfl) (by kernel_rfl) ?_
    refine LL.off (by kernel_rfl) (by kernel_rfl) ?_
    refine LL.op (.bool false) (by kernel_rfl) (fun w _ => by kernel_rfl) ?_
    refine LL.op (.bool false) (by kernel_rfl) (fun w _ => by kernel_rfl) ?_
    refine LL.off (by kernel_rfl) (by kernel_rfl) ?_
    refine LL.off (by kernel_rfl) (by kernel_rfl) ?_
    refine LL.off (by kernel_rfl) (by kernel_rfl) ?_
    refine LL.off (by kernel_rfl) (by kernel_rfl) ?_
    refine LL.op (.bool false) (by kernel_rfl) (fun w _ => by kernel_rfl) ?_
    refine LL.op (.bool false) (by kernel_rfl) (fun w _ => by kernel_rfl) ?_
    refine LL.off (by kernel_rfl) (by kernel_rfl) ?_
    refine LL.off (by kernel_rfl) (by kernel_rfl) ?_
    refine LL.off (by kernel_rfl) (by kernel_rfl) ?_
    refine LL.off (by kernel_rfl) (by kernel_rfl) ?_
    refine LL.op (.bool false) (by kernel_rfl) (fun w _ => by kernel_rfl) ?_
    refine LL.op (.bool false) (by kernel_rfl) (fun w _ => by kernel_rfl) ?_
    refine LL.off (by kernel_rfl) (by kernel_rfl) ?_
    refine LL.off (by kernel_rfl) (by kernel_rfl) ?_
    refine LL.off (by kernel_rfl) (by kernel_rfl) ?_
    refine LL.off (by kernel_rfl) (by kernel_rfl) ?_
    refine LL.op (.bool false) (by kernel_rfl) (fun w _ => by kernel_rfl) ?_
    refine LL.op (.bool false) (by kernel_rfl) (fun w _ => by kernel_rfl) ?_
    refine LL.done (s' := [(0, .bool false)]) [0] (by kernel_rfl) ?_
    refine NN.then ?_
    refine J.ret ?_
    refine NN.fin1 0 (.bool false) (by kernel_rfl) (by kernel_rfl) (.inl rfl) (fun w hi => hi.ret ?_)
    first | (cases H; rfl) | (obtain rfl := Option.some.inj H; rfl) | (simp only [Option.some.injEq, Prod.mk.injEq] at H; obtain ⟨rfl⟩ := H; rfl)

end Go.Proofs.Ytbogdbbmmlaohaa
