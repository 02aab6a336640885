/- Walks of functions of the seat: each call does what the Lean function of the same name says. Printed by the session's own program absgen.py. -/
import Derived.Test.YtfjbhmpnmpphoaaF4
namespace Go.Proofs.Ytfjbhmpnmpphoaa
open Go.Saw
set_option linter.unusedVariables false
set_option linter.unusedSimpArgs false

/-! ### sawmilllaw13_DefectChecks: function 8 -/
def sawmilllaw13_DefectChecks.l0 (K : Nat) (a0 : List E41) (a1 : Int) : Nat → Int → Option (Bool)
  | 0, _ => none
  | k + 1, x5l0 => if x5l0 < (a0.length : Int) then ((idx a0 x5l0).bind fun be954 => ((defect_Size.f be954.1 be954.2.1 be954.2.2.1 be954.2.2.2.1 be954.2.2.2.2.1 be954.2.2.2.2.2.1 be954.2.2.2.2.2.2).bind fun x955 => ((sawmillref13_Size.f be954.1 be954.2.1 be954.2.2.1 be954.2.2.2.1 be954.2.2.2.2.1 be954.2.2.2.2.2.1 be954.2.2.2.2.2.2).bind fun x956 => (if x955 = x956 then (sawmilllaw13_DefectChecks.l0 K a0 a1 k (IntKind.i64.wrap (x5l0 + 1))) else (some false))))) else ((defect_Check.f K a0).bind fun x958 => ((sawmillref13_Check.f K a0).bind fun x959 => (if x958 = x959 then ((defect_Count.f a0 a1).bind fun x961 => ((sawmillref13_Count.f K a0 a1).bind fun x962 => (if x961 = x962 then ((defect_Largest.f K a0 a1).bind fun x964 => ((sawmillref13_Largest.f K a0 a1).bind fun x965 => (if x964 = x965 then ((sawmilllaw13_awake.f K ).bind fun x967 => (some x967)) else (some false)))) else (some false)))) else (some false))))
def sawmilllaw13_DefectChecks.f (K : Nat) (a0 : List E41) (a1 : Int) : Option (Bool) := (sawmilllaw13_few.f a0).bind fun x950 => (if x950 = true then (sawmilllaw13_DefectChecks.l0 K a0 a1 K 0) else ((sawmilllaw13_awake.f K ).bind fun x968 => (some x968)))
set_option maxRecDepth 100000 in
theorem sawmilllaw13_DefectChecks.calls (K : Nat) (a0 : List E41) (a1 : Int)  (Aa0 : Option Addr) (ca0 : Nat)  (r1 : Bool) (w : World)   (ha0 : KRow (Cx.start w) enc41 7 a0 Aa0) (h : sawmilllaw13_DefectChecks.f K a0 a1 = some r1) :
    Calls Try.prog 8 #[.slice Aa0 a0.length ca0, .int .i64 a1] w (Ret w (.bool r1)) := by
  have H := h
  clear h
  unfold sawmilllaw13_DefectChecks.f at H
  refine Go.Saw.calls (args := [.slice Aa0 a0.length ca0, .int .i64 a1]) Try.func8 rfl Try.ntmps8 (by kernel_rfl) ?_
  refine J.seq ?_
  refine J.plain ?_
  refine LL.op (.bool false) (by kernel_rfl) (fun w _ => by kernel_rfl) ?_
  refine LL.done (s' := [(0, .slice Aa0 a0.length ca0), (1, .int .i64 a1), (4, .bool false)]) [0, 1, 4] (by kernel_rfl) ?_
  refine NN.then ?_
  refine J.seq ?_
  refine J.seq ?_
  refine J.plain ?_
  refine LL.op (.slice Aa0 a0.length ca0) (by kernel_rfl) (fun w _ => by kernel_rfl) ?_
  obtain ⟨x950, hx950, H⟩ := bind_some H
  refine LL.call 29 #[.slice Aa0 a0.length ca0] (.bool x950) (by kernel_rfl) (fun w => by kernel_rfl) (fun w hw => sawmilllaw13_few.calls a0  _ _ _ w  (ha0.at hw) hx950) ?_
  refine LL.op (.bool (!x950)) (by kernel_rfl) (fun w _ => by kernel_rfl) ?_
  refine LL.done (s' := [(0, .slice Aa0 a0.length ca0), (1, .int .i64 a1), (4, .bool false), (8, .bool (!x950))]) [0, 1, 4, 8] (by kernel_rfl) ?_
  refine NN.then ?_
  rcases Bool.eq_false_or_eq_true (x950) with c951 | c951
  · rw [if_pos (c951)] at H
    refine J.condF (b := !x950) (by rw [show (!x950) = !(x950) from rfl, c951]; rfl) (by kernel_rfl) (by kernel_rfl) ?_
    refine J.skip ?_
    refine NN.then ?_
    refine J.seq ?_
    refine J.seq ?_
    refine J.plain ?_
    refine LL.op (.int .i64 0) (by kernel_rfl) (fun w _ => by kernel_rfl) ?_
    refine LL.done (s' := [(0, .slice Aa0 a0.length ca0), (1, .int .i64 a1), (4, .bool false), (5, .int .i64 0)]) [0, 1, 4, 5] (by kernel_rfl) ?_
    refine NN.then ?_
    refine J.block ?_
    refine J.to [0, 1, 4, 5] (s' := [(0, .slice Aa0 a0.length ca0), (1, .int .i64 a1), (4, .bool false), (5, .int .i64 0)]) (by kernel_rfl) ?_
    refine J.loop (fun n_ s_ bs_ => ∃ (x5l0 : Int), sawmilllaw13_DefectChecks.l0 K a0 a1 n_ x5l0 = some r1 ∧ s_ = [(0, .slice Aa0 a0.length ca0), (1, .int .i64 a1), (4, .bool false), (5, .int .i64 x5l0)] ∧ [] = bs_) K ⟨0, H, rfl, rfl⟩ ?_
    rintro (_ | n_) s_ bs_ ⟨x5l0, H, rfl, rfl⟩
    · exact absurd H (by simp [sawmilllaw13_DefectChecks.l0])
    simp only [sawmilllaw13_DefectChecks.l0] at H
    refine J.seq ?_
    refine J.seq ?_
    refine J.plain ?_
    refine LL.op (.int .i64 x5l0) (by kernel_rfl) (fun w _ => by kernel_rfl) ?_
    refine LL.op (.slice Aa0 a0.length ca0) (by kernel_rfl) (fun w _ => by kernel_rfl) ?_
    refine LL.op (.int .i64 (a0.length : Int)) (by kernel_rfl) (fun w _ => by kernel_rfl) ?_
    refine LL.op (.bool (decide (x5l0 < (a0.length : Int)))) (by kernel_rfl) (fun w _ => by kernel_rfl) ?_
    refine LL.done (s' := [(0, .slice Aa0 a0.length ca0), (1, .int .i64 a1), (4, .bool false), (5, .int .i64 x5l0), (13, .bool (decide (x5l0 < (a0.length : Int))))]) [0, 1, 4, 5, 13] (by kernel_rfl) ?_
    refine NN.then ?_
    rcases Bool.eq_false_or_eq_true (decide (x5l0 < (a0.length : Int))) with c953 | c953
    · rw [if_pos (of_decide_eq_true c953)] at H
      refine J.condT (b := decide (x5l0 < (a0.length : Int))) c953 (by kernel_rfl) (by kernel_rfl) ?_
      refine J.skip ?_
      refine NN.then ?_
      refine J.seq ?_
      refine J.block ?_
      refine J.seq ?_
      refine J.drawn follows (by kernel_rfl) ?_
      refine QQ.op (.slice Aa0 a0.length ca0) (by kernel_rfl) (fun w _ => by kernel_rfl) ?_
      refine QQ.op (.int .i64 x5l0) (by kernel_rfl) (fun w _ => by kernel_rfl) ?_
      obtain ⟨⟨e954_1, e954_2, e954_3, e954_4, e954_5, e954_6, e954_7⟩, he954, H⟩ := bind_some H
      (try dsimp only at H)
      refine QQ.op (.pointer (rp Aa0 (x5l0.toNat * 7 + 0))) (by kernel_rfl) (idxR (cp := ca0) (ik := .i64) ha0 he954 rfl (by kernel_rfl) (by kernel_rfl) (by kernel_rfl)) ?_
      refine QQ.op (.agg #[.int .i64 e954_1, .int .i64 e954_2, .int .i64 e954_3, .int .i64 e954_4, .int .i64 e954_5, .int .i64 e954_6, .int .i64 e954_7]) (by kernel_rfl) (ldR (off := 0) ha0 he954 rfl (by kernel_rfl) (by kernel_rfl)) ?_
      obtain ⟨x955, hx955, H⟩ := bind_some H
      refine QQ.call 31 #[.agg #[.int .i64 e954_1, .int .i64 e954_2, .int .i64 e954_3, .int .i64 e954_4, .int .i64 e954_5, .int .i64 e954_6, .int .i64 e954_7]] (.int .i64 x955) (by kernel_rfl) (fun w => by kernel_rfl) (fun w hw => defect_Size.calls e954_1 e954_2 e954_3 e954_4 e954_5 e954_6 e954_7   _ w   hx955) ?_
      refine QQ.op (.slice Aa0 a0.length ca0) (by kernel_rfl) (fun w _ => by kernel_rfl) ?_
      refine QQ.op (.int .i64 x5l0) (by kernel_rfl) (fun w _ => by kernel_rfl) ?_
      refine QQ.op (.pointer (rp Aa0 (x5l0.toNat * 7 + 0))) (by kernel_rfl) (idxR (cp := ca0) (ik := .i64) ha0 he954 rfl (by kernel_rfl) (by kernel_rfl) (by kernel_rfl)) ?_
      refine QQ.op (.agg #[.int .i64 e954_1, .int .i64 e954_2, .int .i64 e954_3, .int .i64 e954_4, .int .i64 e954_5, .int .i64 e954_6, .int .i64 e954_7]) (by kernel_rfl) (ldR (off := 0) ha0 he954 rfl (by kernel_rfl) (by kernel_rfl)) ?_
      obtain ⟨x956, hx956, H⟩ := bind_some H
      refine QQ.call 32 #[.agg #[.int .i64 e954_1, .int .i64 e954_2, .int .i64 e954_3, .int .i64 e954_4, .int .i64 e954_5, .int .i64 e954_6, .int .i64 e954_7]] (.int .i64 x956) (by kernel_rfl) (fun w => by kernel_rfl) (fun w hw => sawmillref13_Size.calls e954_1 e954_2 e954_3 e954_4 e954_5 e954_6 e954_7   _ w   hx956) ?_
      refine QQ.op (.bool (!(x955 == x956))) (by kernel_rfl) (fun w _ => by kernel_rfl) ?_
      refine QQ.done (s' := [(0, .slice Aa0 a0.length ca0), (1, .int .i64 a1), (4, .bool false), (5, .int .i64 x5l0), (26, .bool (!(x955 == x956)))]) [0, 1, 4, 5, 26] (by kernel_rfl) ?_
      refine NN.then ?_
      rcases Bool.eq_false_or_eq_true ((x955 == x956)) with c957 | c957
      · rw [if_pos (eq_of_beq c957)] at H
        refine J.condF (b := !(x955 == x956)) (by rw [show (!(x955 == x956)) = !((x955 == x956)) from rfl, c957]; rfl) (by kernel_rfl) (by kernel_rfl) ?_
        refine J.skip ?_
        refine NN.block_n ?_
        refine NN.then ?_
        refine J.plain ?_
        refine LL.op (.int .i64 x5l0) (by kernel_rfl) (fun w _ => by kernel_rfl) ?_
        refine LL.op (.int .i64 (IntKind.i64.wrap (x5l0 + 1))) (by kernel_rfl) (fun w _ => by kernel_rfl) ?_
        refine LL.op (.int .i64 (IntKind.i64.wrap (x5l0 + 1))) (by kernel_rfl) (fun w _ => by kernel_rfl) ?_
        refine LL.done (s' := [(0, .slice Aa0 a0.length ca0), (1, .int .i64 a1), (4, .bool false), (5, .int .i64 (IntKind.i64.wrap (x5l0 + 1)))]) [0, 1, 4, 5] (by kernel_rfl) ?_
        exact NN.round' [0, 1, 4, 5] (bs' := []) (Nat.lt_succ_self _) (List.Sublist.refl _) (by kernel_rfl) ⟨IntKind.i64.wrap (x5l0 + 1), H, rfl, rfl⟩
      · rw [if_neg (nebf c957)] at H
        refine J.condT (b := !(x955 == x956)) (by rw [show (!(x955 == x956)) = !((x955 == x956)) from rfl, c957]; rfl) (by kernel_rfl) (by kernel_rfl) ?_
        refine J.seq ?_
        refine J.plain ?_
        refine LL.op (.bool false) (by kernel_rfl) (fun w _ => by kernel_rfl) ?_
        refine LL.done (s' := [(0, .slice Aa0 a0.length ca0), (1, .int .i64 a1), (4, .bool false), (5, .int .i64 x5l0)]) [0, 1, 4, 5] (by kernel_rfl) ?_
        refine NN.then ?_
        refine J.ret ?_
        refine NN.block_ret ?_
        refine NN.then_ret ?_
        refine NN.then_ret ?_
        refine NN.block_ret ?_
        refine NN.then_ret ?_
        refine NN.fin1 4 (.bool false) (by kernel_rfl) (by kernel_rfl) (.inl rfl) (fun w hi => hi.ret ?_)
        first | (cases H; rfl) | (obtain rfl := Option.some.inj H; rfl) | (simp only [Option.some.injEq, Prod.mk.injEq] at H; obtain ⟨rfl⟩ := H; rfl)
    · rw [if_neg (of_decide_eq_false c953)] at H
      refine J.condF (b := decide (x5l0 < (a0.length : Int))) c953 (by kernel_rfl) (by kernel_rfl) ?_
      refine J.exit ?_
      refine NN.then_exit ?_
      refine NN.then_exit ?_
      refine NN.block_same ?_
      refine NN.then ?_
      refine J.seq ?_
      refine J.plain ?_
      refine LL.op (.slice Aa0 a0.length ca0) (by kernel_rfl) (fun w _ => by kernel_rfl) ?_
      obtain ⟨x958, hx958, H⟩ := bind_some H
      refine LL.call 33 #[.slice Aa0 a0.length ca0] (.int .i64 x958) (by kernel_rfl) (fun w => by kernel_rfl) (fun w hw => defect_Check.calls K a0  _ _ _ w  (ha0.at hw) hx958) ?_
      refine LL.op (.slice Aa0 a0.length ca0) (by kernel_rfl) (fun w _ => by kernel_rfl) ?_
      obtain ⟨x959, hx959, H⟩ := bind_some H
      refine LL.call 26 #[.slice Aa0 a0.length ca0] (.int .i64 x959) (by kernel_rfl) (fun w => by kernel_rfl) (fun w hw => sawmillref13_Check.calls K a0  _ _ _ w  (ha0.at hw) hx959) ?_
      refine LL.op (.bool (x958 == x959)) (by kernel_rfl) (fun w _ => by kernel_rfl) ?_
      refine LL.op (.bool (x958 == x959)) (by kernel_rfl) (fun w _ => by kernel_rfl) ?_
      rcases Bool.eq_false_or_eq_true ((x958 == x959)) with c960 | c960
      · rw [if_pos (eq_of_beq c960)] at H
        refine LL.bool 32 ((x958 == x959)) true c960 (by kernel_rfl) ?_
        refine LL.op (.slice Aa0 a0.length ca0) (by kernel_rfl) (fun w _ => by kernel_rfl) ?_
        refine LL.op (.int .i64 a1) (by kernel_rfl) (fun w _ => by kernel_rfl) ?_
        obtain ⟨x961, hx961, H⟩ := bind_some H
        refine LL.call 34 #[.slice Aa0 a0.length ca0, .int .i64 a1] (.int .i64 x961) (by kernel_rfl) (fun w => by kernel_rfl) (fun w hw => defect_Count.calls a0 a1  _ _ _ w  (ha0.at hw) hx961) ?_
        refine LL.op (.slice Aa0 a0.length ca0) (by kernel_rfl) (fun w _ => by kernel_rfl) ?_
        refine LL.op (.int .i64 a1) (by kernel_rfl) (fun w _ => by kernel_rfl) ?_
        obtain ⟨x962, hx962, H⟩ := bind_some H
        refine LL.call 35 #[.slice Aa0 a0.length ca0, .int .i64 a1] (.int .i64 x962) (by kernel_rfl) (fun w => by kernel_rfl) (fun w hw => sawmillref13_Count.calls K a0 a1  _ _ _ w  (ha0.at hw) hx962) ?_
        refine LL.op (.bool (x961 == x962)) (by kernel_rfl) (fun w _ => by kernel_rfl) ?_
        refine LL.op (.bool (x961 == x962)) (by kernel_rfl) (fun w _ => by kernel_rfl) ?_
        refine LL.op (.bool (x961 == x962)) (by kernel_rfl) (fun w _ => by kernel_rfl) ?_
        rcases Bool.eq_false_or_eq_true ((x961 == x962)) with c963 | c963
        · rw [if_pos (eq_of_beq c963)] at H
          refine LL.bool 41 ((x961 == x962)) true c963 (by kernel_rfl) ?_
          refine LL.op (.slice Aa0 a0.length ca0) (by kernel_rfl) (fun w _ => by kernel_rfl) ?_
          refine LL.op (.int .i64 a1) (by kernel_rfl) (fun w _ => by kernel_rfl) ?_
          obtain ⟨x964, hx964, H⟩ := bind_some H
          refine LL.call 36 #[.slice Aa0 a0.length ca0, .int .i64 a1] (.int .i64 x964) (by kernel_rfl) (fun w => by kernel_rfl) (fun w hw => defect_Largest.calls K a0 a1  _ _ _ w  (ha0.at hw) hx964) ?_
          refine LL.op (.slice Aa0 a0.length ca0) (by kernel_rfl) (fun w _ => by kernel_rfl) ?_
          refine LL.op (.int .i64 a1) (by kernel_rfl) (fun w _ => by kernel_rfl) ?_
          obtain ⟨x965, hx965, H⟩ := bind_some H
          refine LL.call 37 #[.slice Aa0 a0.length ca0, .int .i64 a1] (.int .i64 x965) (by kernel_rfl) (fun w => by kernel_rfl) (fun w hw => sawmillref13_Largest.calls K a0 a1  _ _ _ w  (ha0.at hw) hx965) ?_
          refine LL.op (.bool (x964 == x965)) (by kernel_rfl) (fun w _ => by kernel_rfl) ?_
          refine LL.op (.bool (x964 == x965)) (by kernel_rfl) (fun w _ => by kernel_rfl) ?_
          refine LL.op (.bool (x964 == x965)) (by kernel_rfl) (fun w _ => by kernel_rfl) ?_
          rcases Bool.eq_false_or_eq_true ((x964 == x965)) with c966 | c966
          · rw [if_pos (eq_of_beq c966)] at H
            refine LL.bool 50 ((x964 == x965)) true c966 (by kernel_rfl) ?_
            obtain ⟨x967, hx967, H⟩ := bind_some H
            refine LL.call 30 #[] (.bool x967) (by kernel_rfl) (fun w => by kernel_rfl) (fun w hw => sawmilllaw13_awake.calls K    _ w   hx967) ?_
            refine LL.op (.bool x967) (by kernel_rfl) (fun w _ => by kernel_rfl) ?_
            refine LL.op (.bool x967) (by kernel_rfl) (fun w _ => by kernel_rfl) ?_
            refine LL.done (s' := [(4, .bool x967)]) [4] (by kernel_rfl) ?_
            refine NN.then ?_
            refine J.ret ?_
            refine NN.fin1 4 (.bool x967) (by kernel_rfl) (by kernel_rfl) (.inl rfl) (fun w hi => hi.ret ?_)
            first | (cases H; rfl) | (obtain rfl := Option.some.inj H; rfl) | (simp only [Option.some.injEq, Prod.mk.injEq] at H; obtain ⟨rfl⟩ := H; rfl)
          · rw [if_neg (nebf c966)] at H
            refine LL.bool 50 ((x964 == x965)) false c966 (by kernel_rfl) ?_
            refine LL.off (by kernel_rfl) (by kernel_rfl) ?_
            refine LL.op (.bool false) (by kernel_rfl) (fun w _ => by kernel_rfl) ?_
            refine LL.op (.bool false) (by kernel_rfl) (fun w _ => by kernel_rfl) ?_
            refine LL.done (s' := [(4, .bool false)]) [4] (by kernel_rfl) ?_
            refine NN.then ?_
            refine J.ret ?_
            refine NN.fin1 4 (.bool false) (by kernel_rfl) (by kernel_rfl) (.inl rfl) (fun w hi => hi.ret ?_)
            first | (cases H; rfl) | (obtain rfl := Option.some.inj H; rfl) | (simp only [Option.some.injEq, Prod.mk.injEq] at H; obtain ⟨rfl⟩ := H; rfl)
        · rw [if_neg (nebf c963)] at H
          refine LL.bool 41 ((x961 == x962)) false c963 (by kernel_rfl) ?_
          refine LL.off (by kernel_rfl) (by kernel_rfl) ?_
          refine LL.off (by kernel_rfl) (by kernel_rfl) ?_
          refine LL.off (by kernel_rfl) (by kernel_rfl) ?_
          refine LL.off (by kernel_rfl) (by kernel_rfl) ?_
          refine LL.off (by kernel_rfl) (by kernel_rfl) ?_
          refine LL.off (by kernel_rfl) (by kernel_rfl) ?_
          refine LL.off (by kernel_rfl) (by kernel_rfl) ?_
          refine LL.op (.bool false) (by kernel_rfl) (fun w _ => by kernel_rfl) ?_
          refine LL.op (.bool false) (by kernel_rfl) (fun w _ => by kernel_rfl) ?_
          refine LL.off (by kernel_rfl) (by kernel_rfl) ?_
          refine LL.op (.bool false) (by kernel_rfl) (fun w _ => by kernel_rfl) ?_
          refine LL.op (.bool false) (by kernel_rfl) (fun w _ => by kernel_rfl) ?_
          refine LL.done (s' := [(4, .bool false)]) [4] (by kernel_rfl) ?_
          refine NN.then ?_
          refine J.ret ?_
          refine NN.fin1 4 (.bool false) (by kernel_rfl) (by kernel_rfl) (.inl rfl) (fun w hi => hi.ret ?_)
          first | (cases H; rfl) | (obtain rfl := Option.some.inj H; rfl) | (simp only [Option.some.injEq, Prod.mk.injEq] at H; obtain ⟨rfl⟩ := H; rfl)
      · rw [if_neg (nebf c960)] at H
        refine LL.bool 32 ((x958 == x959)) false c960 (by kernel_rfl) ?_
        refine LL.off (by kernel_rfl) (by kernel_rfl) ?_
        refine LL.off (by kernel_rfl) (by kernel_rfl) ?_
        refine LL.off (by kernel_rfl) (by kernel_rfl) ?_
        refine LL.off (by kernel_rfl) (by kernel_rfl) ?_
        refine LL.off (by kernel_rfl) (by kernel_rfl) ?_
        refine LL.off (by kernel_rfl) (by kernel_rfl) ?_
        refine LL.off (by kernel_rfl) (by kernel_rfl) ?_
        refine LL.op (.bool false) (by kernel_rfl) (fun w _ => by kernel_rfl) ?_
        refine LL.op (.bool false) (by kernel_rfl) (fun w _ => by kernel_rfl) ?_
        refine LL.off (by kernel_rfl) (by kernel_rfl) ?_
        refine LL.off (by kernel_rfl) (by kernel_rfl) ?_
        refine LL.off (by kernel_rfl) (by kernel_rfl) ?_
        refine LL.off (by kernel_rfl) (by kernel_rfl) ?_
        refine LL.off (by kernel_rfl) (by kernel_rfl) ?_
        refine LL.off (by kernel_rfl) (by kernel_rfl) ?_
        refine LL.off (by kernel_rfl) (by kernel_rfl) ?_
        refine LL.op (.bool false) (by kernel_rfl) (fun w _ => by kernel_rfl) ?_
        refine LL.op (.bool false) (by kernel_rfl) (fun w _ => by kernel_rfl) ?_
        refine LL.off (by kernel_rfl) (by kernel_rfl) ?_
        refine LL.op (.bool false) (by kernel_rfl) (fun w _ => by kernel_rfl) ?_
        refine LL.op (.bool false) (by kernel_rfl) (fun w _ => by kernel_rfl) ?_
        refine LL.done (s' := [(4, .bool false)]) [4] (by kernel_rfl) ?_
        refine NN.then ?_
        refine J.ret ?_
        refine NN.fin1 4 (.bool false) (by kernel_rfl) (by kernel_rfl) (.inl rfl) (fun w hi => hi.ret ?_)
        first | (cases H; rfl) | (obtain rfl := Option.some.inj H; rfl) | (simp only [Option.some.injEq, Prod.mk.injEq] at H; obtain ⟨rfl⟩ := H; rfl)
  · rw [if_neg (nebt c951)] at H
    refine J.condT (b := !x950) (by rw [show (!x950) = !(x950) from rfl, c951]; rfl) (by kernel_rfl) (by kernel_rfl) ?_
    refine J.seq ?_
    refine J.plain ?_
    obtain ⟨x968, hx968, H⟩ := bind_some H
    refine LL.call 30 #[] (.bool x968) (by kernel_rfl) (fun w => by kernel_rfl) (fun w hw => sawmilllaw13_awake.calls K    _ w   hx968) ?_
    refine LL.op (.bool x968) (by kernel_rfl) (fun w _ => by kernel_rfl) ?_
    refine LL.done (s' := [(0, .slice Aa0 a0.length ca0), (1, .int .i64 a1), (4, .bool x968)]) [0, 1, 4] (by kernel_rfl) ?_
    refine NN.then ?_
    refine J.ret ?_
    refine NN.then_ret ?_
    refine NN.fin1 4 (.bool x968) (by kernel_rfl) (by kernel_rfl) (.inl rfl) (fun w hi => hi.ret ?_)
    first | (cases H; rfl) | (obtain rfl := Option.some.inj H; rfl) | (simp only [Option.some.injEq, Prod.mk.injEq] at H; obtain ⟨rfl⟩ := H; rfl)

end Go.Proofs.Ytfjbhmpnmpphoaa
