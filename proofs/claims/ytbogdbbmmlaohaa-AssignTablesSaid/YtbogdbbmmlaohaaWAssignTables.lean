/- Walks of functions of the seat: each call does what the Lean function of the same name says. Printed by the session's own program absgen.py. -/
import Derived.Test.YtbogdbbmmlaohaaF2
namespace Go.Proofs.Ytbogdbbmmlaohaa
open Go.Saw
set_option linter.unusedVariables false
set_option linter.unusedSimpArgs false

/-! ### sawmilllaw48_AssignTables: function 4 -/
def sawmilllaw48_AssignTables.l1 (K : Nat) (e953 : List E4) (e959 : List E4) (kont_ : Int → Option (Bool)) : Nat → Int → Option (Bool)
  | 0, _ => none
  | k + 1, x8l1 => if x8l1 < (e953.length : Int) then ((idx e953 x8l1).bind fun e979 => ((idx e959 x8l1).bind fun e985 => (if e979 = e985 then (sawmilllaw48_AssignTables.l1 K e953 e959 kont_ k (IntKind.i64.wrap (x8l1 + 1))) else (some false)))) else (kont_ x8l1)
def sawmilllaw48_AssignTables.l0 (K : Nat) (x933 : List (List E4)) (x941 : List (List E4)) : Nat → Int → Option (Bool)
  | 0, _ => none
  | k + 1, x7l0 => if x7l0 < (x933.length : Int) then ((idx x933 x7l0).bind fun e953 => ((idx x941 x7l0).bind fun e959 => (if (e953.length : Int) = (e959.length : Int) then (sawmilllaw48_AssignTables.l1 K e953 e959 (fun (x8l1 : Int) => sawmilllaw48_AssignTables.l0 K x933 x941 k (IntKind.i64.wrap (x7l0 + 1))) K 0) else (some false)))) else ((sawmilllaw48_awake.f K ).bind fun x987 => (some x987))
def sawmilllaw48_AssignTables.f (K : Nat) (a0 : List E27) (a1 : List E37) : Option (Bool) := if 20 < (a0.length : Int) then ((sawmilllaw48_awake.f K ).bind fun x930 => (some x930)) else (if 20 < (a1.length : Int) then ((sawmilllaw48_awake.f K ).bind fun x932 => (some x932)) else ((assign_Table.f K a0 a1).bind fun x933 => ((sawmillref48_Table.f K a0 a1).bind fun x941 => (if (x933.length : Int) = (x941.length : Int) then (sawmilllaw48_AssignTables.l0 K x933 x941 K 0) else (some false)))))
set_option maxRecDepth 100000 in
theorem sawmilllaw48_AssignTables.calls (K : Nat) (a0 : List E27) (a1 : List E37)  (Aa0 : Option Addr) (ca0 : Nat) (Aa1 : Option Addr) (ca1 : Nat)  (r1 : Bool) (w : World)   (ha0 : KRow (Cx.start w) enc27 11 a0 Aa0) (ha1 : KRow (Cx.start w) enc37 18 a1 Aa1) (h : sawmilllaw48_AssignTables.f K a0 a1 = some r1) :
    Calls Try.prog 4 #[.slice Aa0 a0.length ca0, .slice Aa1 a1.length ca1] w (Ret w (.bool r1)) := by
  have H := h
  clear h
  unfold sawmilllaw48_AssignTables.f at H
  refine Go.Saw.calls (args := [.slice Aa0 a0.length ca0, .slice Aa1 a1.length ca1]) Try.func4 rfl Try.ntmps4 (by kernel_rfl) ?_
  refine J.seq ?_
  refine J.plain ?_
  refine LL.op (.bool false) (by kernel_rfl) (fun w _ => by kernel_rfl) ?_
  refine LL.done (s' := [(0, .slice Aa0 a0.length ca0), (1, .slice Aa1 a1.length ca1), (4, .bool false)]) [0, 1, 4] (by kernel_rfl) ?_
  refine NN.then ?_
  refine J.seq ?_
  refine J.seq ?_
  refine J.plain ?_
  refine LL.op (.slice Aa0 a0.length ca0) (by kernel_rfl) (fun w _ => by kernel_rfl) ?_
  refine LL.op (.int .i64 (a0.length : Int)) (by kernel_rfl) (fun w _ => by kernel_rfl) ?_
  refine LL.op (.bool (decide (20 < (a0.length : Int)))) (by kernel_rfl) (fun w _ => by kernel_rfl) ?_
  refine LL.op (.bool (decide (20 < (a0.length : Int)))) (by kernel_rfl) (fun w _ => by kernel_rfl) ?_
  rcases Bool.eq_false_or_eq_true (decide (20 < (a0.length : Int))) with c929 | c929
  · rw [if_pos (of_decide_eq_true c929)] at H
    refine LL.bool 12 (decide (20 < (a0.length : Int))) true c929 (by kernel_rfl) ?_
    refine LL.off (by kernel_rfl) (by kernel_rfl) ?_
    refine LL.off (by kernel_rfl) (by kernel_rfl) ?_
    refine LL.off (by kernel_rfl) (by kernel_rfl) ?_
    refine LL.op (.bool true) (by kernel_rfl) (fun w _ => by kernel_rfl) ?_
    refine LL.done (s' := [(0, .slice Aa0 a0.length ca0), (1, .slice Aa1 a1.length ca1), (4, .bool false), (16, .bool true)]) [0, 1, 4, 16] (by kernel_rfl) ?_
    refine NN.then ?_
    refine J.condT (b := true) rfl (by kernel_rfl) (by kernel_rfl) ?_
    refine J.seq ?_
    refine J.plain ?_
    obtain ⟨x930, hx930, H⟩ := bind_some H
    refine LL.call 18 #[] (.bool x930) (by kernel_rfl) (fun w => by kernel_rfl) (fun w hw => sawmilllaw48_awake.calls K    _ w   hx930) ?_
    refine LL.op (.bool x930) (by kernel_rfl) (fun w _ => by kernel_rfl) ?_
    refine LL.done (s' := [(0, .slice Aa0 a0.length ca0), (1, .slice Aa1 a1.length ca1), (4, .bool x930)]) [0, 1, 4] (by kernel_rfl) ?_
    refine NN.then ?_
    refine J.ret ?_
    refine NN.then_ret ?_
    refine NN.fin1 4 (.bool x930) (by kernel_rfl) (by kernel_rfl) (.inl rfl) (fun w hi => hi.ret ?_)
    first | (cases H; rfl) | (obtain rfl := Option.some.inj H; rfl) | (simp only [Option.some.injEq, Prod.mk.injEq] at H; obtain ⟨rfl⟩ := H; rfl)
  · rw [if_neg (of_decide_eq_false c929)] at H
    refine LL.bool 12 (decide (20 < (a0.length : Int))) false c929 (by kernel_rfl) ?_
    refine LL.op (.slice Aa1 a1.length ca1) (by kernel_rfl) (fun w _ => by kernel_rfl) ?_
    refine LL.op (.int .i64 (a1.length : Int)) (by kernel_rfl) (fun w _ => by kernel_rfl) ?_
    refine LL.op (.bool (decide (20 < (a1.length : Int)))) (by kernel_rfl) (fun w _ => by kernel_rfl) ?_
    refine LL.op (.bool (decide (20 < (a1.length : Int)))) (by kernel_rfl) (fun w _ => by kernel_rfl) ?_
    refine LL.done (s' := [(0, .slice Aa0 a0.length ca0), (1, .slice Aa1 a1.length ca1), (4, .bool false), (16, .bool (decide (20 < (a1.length : Int))))]) [0, 1, 4, 16] (by kernel_rfl) ?_
    refine NN.then ?_
    rcases Bool.eq_false_or_eq_true (decide (20 < (a1.length : Int))) with c931 | c931
    · rw [if_pos (of_decide_eq_true c931)] at H
      refine J.condT (b := decide (20 < (a1.length : Int))) c931 (by kernel_rfl) (by kernel_rfl) ?_
      refine J.seq ?_
      refine J.plain ?_
      obtain ⟨x932, hx932, H⟩ := bind_some H
      refine LL.call 18 #[] (.bool x932) (by kernel_rfl) (fun w => by kernel_rfl) (fun w hw => sawmilllaw48_awake.calls K    _ w   hx932) ?_
      refine LL.op (.bool x932) (by kernel_rfl) (fun w _ => by kernel_rfl) ?_
      refine LL.done (s' := [(0, .slice Aa0 a0.length ca0), (1, .slice Aa1 a1.length ca1), (4, .bool x932)]) [0, 1, 4] (by kernel_rfl) ?_
      refine NN.then ?_
      refine J.ret ?_
      refine NN.then_ret ?_
      refine NN.fin1 4 (.bool x932) (by kernel_rfl) (by kernel_rfl) (.inl rfl) (fun w hi => hi.ret ?_)
      first | (cases H; rfl) | (obtain rfl := Option.some.inj H; rfl) | (simp only [Option.some.injEq, Prod.mk.injEq] at H; obtain ⟨rfl⟩ := H; rfl)
    · rw [if_neg (of_decide_eq_false c931)] at H
      refine J.condF (b := decide (20 < (a1.length : Int))) c931 (by kernel_rfl) (by kernel_rfl) ?_
      refine J.skip ?_
      refine NN.then ?_
      refine J.seq ?_
      refine J.plain ?_
      refine LL.op (.slice Aa0 a0.length ca0) (by kernel_rfl) (fun w _ => by kernel_rfl) ?_
      refine LL.op (.slice Aa1 a1.length ca1) (by kernel_rfl) (fun w _ => by kernel_rfl) ?_
      obtain ⟨x933, hx933, H⟩ := bind_some H
      refine LL.callR2 (enc := enc4) (m := 1) (ll := x933) 12 #[.slice Aa0 a0.length ca0, .slice Aa1 a1.length ca1] (fun A_ c_ => .slice A_ x933.length c_) (by kernel_rfl) (fun w => by kernel_rfl) (fun w hw => assign_Table.calls K a0 a1  _ _ _ _ _ w  (ha0.at hw) (ha1.at hw) hx933) (fun R934 F935 A936 c937 le938 k939 => ?_)
      refine LL.op (.slice Aa0 a0.length ca0) (by kernel_rfl) (fun w _ => by kernel_rfl) ?_
      refine LL.op (.slice Aa1 a1.length ca1) (by kernel_rfl) (fun w _ => by kernel_rfl) ?_
      obtain ⟨x941, hx941, H⟩ := bind_some H
      refine LL.callR2 (enc := enc4) (m := 1) (ll := x941) 19 #[.slice Aa0 a0.length ca0, .slice Aa1 a1.length ca1] (fun A_ c_ => .slice A_ x941.length c_) (by kernel_rfl) (fun w => by kernel_rfl) (fun w hw => sawmillref48_Table.calls K a0 a1  _ _ _ _ _ w  ((ha0.le le938).at hw) ((ha1.le le938).at hw) hx941) (fun R942 F943 A944 c945 le946 k947 => ?_)
      refine LL.op (.slice A936 x933.length c937) (by kernel_rfl) (fun w _ => by kernel_rfl) ?_
      refine LL.op (.slice A944 x941.length c945) (by kernel_rfl) (fun w _ => by kernel_rfl) ?_
      refine LL.done (s' := [(4, .bool false), (5, .slice A936 x933.length c937), (6, .slice A944 x941.length c945)]) [4, 5, 6] (by kernel_rfl) ?_
      refine NN.then ?_
      refine J.seq ?_
      refine J.seq ?_
      refine J.plain ?_
      refine LL.op (.slice A936 x933.length c937) (by kernel_rfl) (fun w _ => by kernel_rfl) ?_
      refine LL.op (.int .i64 (x933.length : Int)) (by kernel_rfl) (fun w _ => by kernel_rfl) ?_
      refine LL.op (.slice A944 x941.length c945) (by kernel_rfl) (fun w _ => by kernel_rfl) ?_
      refine LL.op (.int .i64 (x941.length : Int)) (by kernel_rfl) (fun w _ => by kernel_rfl) ?_
      refine LL.op (.bool (!((x933.length : Int) == (x941.length : Int)))) (by kernel_rfl) (fun w _ => by kernel_rfl) ?_
      refine LL.done (s' := [(4, .bool false), (5, .slice A936 x933.length c937), (6, .slice A944 x941.length c945), (28, .bool (!((x933.length : Int) == (x941.length : Int))))]) [4, 5, 6, 28] (by kernel_rfl) ?_
      refine NN.then ?_
      rcases Bool.eq_false_or_eq_true (((x933.length : Int) == (x941.length : Int))) with c949 | c949
      · rw [if_pos (eq_of_beq c949)] at H
        refine J.condF (b := !((x933.length : Int) == (x941.length : Int))) (by rw [show (!((x933.length : Int) == (x941.length : Int))) = !(((x933.length : Int) == (x941.length : Int))) from rfl, c949]; rfl) (by kernel_rfl) (by kernel_rfl) ?_
        refine J.skip ?_
        refine NN.then ?_
        refine J.seq ?_
        refine J.seq ?_
        refine J.plain ?_
        refine LL.op (.int .i64 0) (by kernel_rfl) (fun w _ => by kernel_rfl) ?_
        refine LL.done (s' := [(4, .bool false), (5, .slice A936 x933.length c937), (6, .slice A944 x941.length c945), (7, .int .i64 0)]) [4, 5, 6, 7] (by kernel_rfl) ?_
        refine NN.then ?_
        refine J.block ?_
        refine J.to [4, 5, 6, 7] (s' := [(4, .bool false), (5, .slice A936 x933.length c937), (6, .slice A944 x941.length c945), (7, .int .i64 0)]) (by kernel_rfl) ?_
        refine J.loop (fun n_ s_ bs_ => ∃ (x7l0 : Int), sawmilllaw48_AssignTables.l0 K x933 x941 n_ x7l0 = some r1 ∧ s_ = [(4, .bool false), (5, .slice A936 x933.length c937), (6, .slice A944 x941.length c945), (7, .int .i64 x7l0)] ∧ [] = bs_) K ⟨0, H, rfl, rfl⟩ ?_
        rintro (_ | n_) s_ bs_ ⟨x7l0, H, rfl, rfl⟩
        · exact absurd H (by simp [sawmilllaw48_AssignTables.l0])
        simp only [sawmilllaw48_AssignTables.l0] at H
        refine J.seq ?_
        refine J.seq ?_
        refine J.plain ?_
        refine LL.op (.int .i64 x7l0) (by kernel_rfl) (fun w _ => by kernel_rfl) ?_
        refine LL.op (.slice A936 x933.length c937) (by kernel_rfl) (fun w _ => by kernel_rfl) ?_
        refine LL.op (.int .i64 (x933.length : Int)) (by kernel_rfl) (fun w _ => by kernel_rfl) ?_
        refine LL.op (.bool (decide (x7l0 < (x933.length : Int)))) (by kernel_rfl) (fun w _ => by kernel_rfl) ?_
        refine LL.done (s' := [(4, .bool false), (5, .slice A936 x933.length c937), (6, .slice A944 x941.length c945), (7, .int .i64 x7l0), (32, .bool (decide (x7l0 < (x933.length : Int))))]) [4, 5, 6, 7, 32] (by kernel_rfl) ?_
        refine NN.then ?_
        rcases Bool.eq_false_or_eq_true (decide (x7l0 < (x933.length : Int))) with c952 | c952
        · rw [if_pos (of_decide_eq_true c952)] at H
          refine J.condT (b := decide (x7l0 < (x933.length : Int))) c952 (by kernel_rfl) (by kernel_rfl) ?_
          refine J.skip ?_
          refine NN.then ?_
          refine J.seq ?_
          refine J.block ?_
          refine J.seq ?_
          refine J.seq ?_
          refine J.drawn follows (by kernel_rfl) ?_
          refine QQ.op (.slice A936 x933.length c937) (by kernel_rfl) (fun w _ => by kernel_rfl) ?_
          refine QQ.op (.int .i64 x7l0) (by kernel_rfl) (fun w _ => by kernel_rfl) ?_
          obtain ⟨e953, he953, H⟩ := bind_some H
          refine QQ.op (.pointer (rp A936 (x7l0.toNat * 1 + 0))) (by kernel_rfl) (idx2 (cp := c937) (ik := .i64) (k939.le le946) he953 rfl (by kernel_rfl) (by kernel_rfl) (by kernel_rfl)) ?_
          obtain ⟨A954, c955, k956, ld957⟩ := KRow2.row (k939.le le946) he953
          refine QQ.op (.slice A954 e953.length c955) (by kernel_rfl) (ld957 rfl (by kernel_rfl) (by kernel_rfl)) ?_
          refine QQ.op (.int .i64 (e953.length : Int)) (by kernel_rfl) (fun w _ => by kernel_rfl) ?_
          refine QQ.op (.slice A944 x941.length c945) (by kernel_rfl) (fun w _ => by kernel_rfl) ?_
          refine QQ.op (.int .i64 x7l0) (by kernel_rfl) (fun w _ => by kernel_rfl) ?_
          obtain ⟨e959, he959, H⟩ := bind_some H
          refine QQ.op (.pointer (rp A944 (x7l0.toNat * 1 + 0))) (by kernel_rfl) (idx2 (cp := c945) (ik := .i64) k947 he959 rfl (by kernel_rfl) (by kernel_rfl) (by kernel_rfl)) ?_
          obtain ⟨A960, c961, k962, ld963⟩ := KRow2.row k947 he959
          refine QQ.op (.slice A960 e959.length c961) (by kernel_rfl) (ld963 rfl (by kernel_rfl) (by kernel_rfl)) ?_
          refine QQ.op (.int .i64 (e959.length : Int)) (by kernel_rfl) (fun w _ => by kernel_rfl) ?_
          refine QQ.op (.bool (!((e953.length : Int) == (e959.length : Int)))) (by kernel_rfl) (fun w _ => by kernel_rfl) ?_
          refine QQ.done (s' := [(4, .bool false), (5, .slice A936 x933.length c937), (6, .slice A944 x941.length c945), (7, .int .i64 x7l0), (45, .bool (!((e953.length : Int) == (e959.length : Int))))]) [4, 5, 6, 7, 45] (by kernel_rfl) ?_
          refine NN.then ?_
          rcases Bool.eq_false_or_eq_true (((e953.length : Int) == (e959.length : Int))) with c965 | c965
          · rw [if_pos (eq_of_beq c965)] at H
            refine J.condF (b := !((e953.length : Int) == (e959.length : Int))) (by rw [show (!((e953.length : Int) == (e959.length : Int))) = !(((e953.length : Int) == (e959.length : Int))) from rfl, c965]; rfl) (by kernel_rfl) (by kernel_rfl) ?_
            refine J.skip ?_
            refine NN.then ?_
            refine J.seq ?_
            refine J.plain ?_
            refine LL.op (.int .i64 0) (by kernel_rfl) (fun w _ => by kernel_rfl) ?_
            refine LL.done (s' := [(4, .bool false), (5, .slice A936 x933.length c937), (6, .slice A944 x941.length c945), (7, .int .i64 x7l0), (8, .int .i64 0)]) [4, 5, 6, 7, 8] (by kernel_rfl) ?_
            refine NN.then ?_
            refine J.block ?_
            refine J.to [4, 5, 6, 7, 8] (s' := [(4, .bool false), (5, .slice A936 x933.length c937), (6, .slice A944 x941.length c945), (7, .int .i64 x7l0), (8, .int .i64 0)]) (by kernel_rfl) ?_
            obtain ⟨kont966, hk966, H⟩ := kont_intro (P := fun q_ => sawmilllaw48_AssignTables.l1 K e953 e959 q_ K 0 = some r1) H
            refine J.loop (fun n_ s_ bs_ => ∃ (x8l1 : Int), sawmilllaw48_AssignTables.l1 K e953 e959 kont966 n_ x8l1 = some r1 ∧ s_ = [(4, .bool false), (5, .slice A936 x933.length c937), (6, .slice A944 x941.length c945), (7, .int .i64 x7l0), (8, .int .i64 x8l1)] ∧ [] = bs_) K ⟨0, H, rfl, rfl⟩ ?_
            rintro (_ | n_) s_ bs_ ⟨x8l1, H, rfl, rfl⟩
            · exact absurd H (by simp [sawmilllaw48_AssignTables.l1])
            simp only [sawmilllaw48_AssignTables.l1] at H
            refine J.seq ?_
            refine J.seq ?_
            refine J.plain ?_
            refine LL.op (.int .i64 x8l1) (by kernel_rfl) (fun w _ => by kernel_rfl) ?_
            refine LL.op (.slice A936 x933.length c937) (by kernel_rfl) (fun w _ => by kernel_rfl) ?_
            refine LL.op (.int .i64 x7l0) (by kernel_rfl) (fun w _ => by kernel_rfl) ?_
            refine LL.op (.pointer (rp A936 (x7l0.toNat * 1 + 0))) (by kernel_rfl) (idx2 (cp := c937) (ik := .i64) (k939.le le946) he953 rfl (by kernel_rfl) (by kernel_rfl) (by kernel_rfl)) ?_
            obtain ⟨A968, c969, k970, ld971⟩ := KRow2.row (k939.le le946) he953
            refine LL.op (.slice A968 e953.length c969) (by kernel_rfl) (ld971 rfl (by kernel_rfl) (by kernel_rfl)) ?_
            refine LL.op (.int .i64 (e953.length : Int)) (by kernel_rfl) (fun w _ => by kernel_rfl) ?_
            refine LL.op (.bool (decide (x8l1 < (e953.length : Int)))) (by kernel_rfl) (fun w _ => by kernel_rfl) ?_
            refine LL.done (s' := [(4, .bool false), (5, .slice A936 x933.length c937), (6, .slice A944 x941.length c945), (7, .int .i64 x7l0), (8, .int .i64 x8l1), (52, .bool (decide (x8l1 < (e953.length : Int))))]) [4, 5, 6, 7, 8, 52] (by kernel_rfl) ?_
            refine NN.then ?_
            rcases Bool.eq_false_or_eq_true (decide (x8l1 < (e953.length : Int))) with c973 | c973
            · rw [if_pos (of_decide_eq_true c973)] at H
              refine J.condT (b := decide (x8l1 < (e953.length : Int))) c973 (by kernel_rfl) (by kernel_rfl) ?_
              refine J.skip ?_
              refine NN.then ?_
              refine J.seq ?_
              refine J.block ?_
              refine J.seq ?_
              refine J.drawn follows (by kernel_rfl) ?_
              refine QQ.op (.slice A936 x933.length c937) (by kernel_rfl) (fun w _ => by kernel_rfl) ?_
              refine QQ.op (.int .i64 x7l0) (by kernel_rfl) (fun w _ => by kernel_rfl) ?_
              refine QQ.op (.pointer (rp A936 (x7l0.toNat * 1 + 0))) (by kernel_rfl) (idx2 (cp := c937) (ik := .i64) (k939.le le946) he953 rfl (by kernel_rfl) (by kernel_rfl) (by kernel_rfl)) ?_
              obtain ⟨A974, c975, k976, ld977⟩ := KRow2.row (k939.le le946) he953
              refine QQ.op (.slice A974 e953.length c975) (by kernel_rfl) (ld977 rfl (by kernel_rfl) (by kernel_rfl)) ?_
              refine QQ.op (.int .i64 x8l1) (by kernel_rfl) (fun w _ => by kernel_rfl) ?_
              obtain ⟨e979, he979, H⟩ := bind_some H
              refine QQ.op (.pointer (rp A974 (x8l1.toNat * 1 + 0))) (by kernel_rfl) (idxR (cp := c975) (ik := .i64) k976 he979 rfl (by kernel_rfl) (by kernel_rfl) (by kernel_rfl)) ?_
              refine QQ.op (.bool e979) (by kernel_rfl) (ldR (off := 0) k976 he979 rfl (by kernel_rfl) (by kernel_rfl)) ?_
              refine QQ.op (.slice A944 x941.length c945) (by kernel_rfl) (fun w _ => by kernel_rfl) ?_
              refine QQ.op (.int .i64 x7l0) (by kernel_rfl) (fun w _ => by kernel_rfl) ?_
              refine QQ.op (.pointer (rp A944 (x7l0.toNat * 1 + 0))) (by kernel_rfl) (idx2 (cp := c945) (ik := .i64) k947 he959 rfl (by kernel_rfl) (by kernel_rfl) (by kernel_rfl)) ?_
              obtain ⟨A980, c981, k982, ld983⟩ := KRow2.row k947 he959
              refine QQ.op (.slice A980 e959.length c981) (by kernel_rfl) (ld983 rfl (by kernel_rfl) (by kernel_rfl)) ?_
              refine QQ.op (.int .i64 x8l1) (by kernel_rfl) (fun w _ => by kernel_rfl) ?_
              obtain ⟨e985, he985, H⟩ := bind_some H
              refine QQ.op (.pointer (rp A980 (x8l1.toNat * 1 + 0))) (by kernel_rfl) (idxR (cp := c981) (ik := .i64) k982 he985 rfl (by kernel_rfl) (by kernel_rfl) (by kernel_rfl)) ?_
              refine QQ.op (.bool e985) (by kernel_rfl) (ldR (off := 0) k982 he985 rfl (by kernel_rfl) (by kernel_rfl)) ?_
              refine QQ.op (.bool (e979 != e985)) (by kernel_rfl) (fun w _ => by kernel_rfl) ?_
              refine QQ.done (s' := [(4, .bool false), (5, .slice A936 x933.length c937), (6, .slice A944 x941.length c945), (7, .int .i64 x7l0), (8, .int .i64 x8l1), (69, .bool (e979 != e985))]) [4, 5, 6, 7, 8, 69] (by kernel_rfl) ?_
              refine NN.then ?_
              rcases Bool.eq_false_or_eq_true ((e979 == e985)) with c986 | c986
              · rw [if_pos (eq_of_beq c986)] at H
                refine J.condF (b := (e979 != e985)) (by rw [show (e979 != e985) = !((e979 == e985)) from rfl, c986]; rfl) (by kernel_rfl) (by kernel_rfl) ?_
                refine J.skip ?_
                refine NN.block_n ?_
                refine NN.then ?_
                refine J.plain ?_
                refine LL.op (.int .i64 x8l1) (by kernel_rfl) (fun w _ => by kernel_rfl) ?_
                refine LL.op (.int .i64 (IntKind.i64.wrap (x8l1 + 1))) (by kernel_rfl) (fun w _ => by kernel_rfl) ?_
                refine LL.op (.int .i64 (IntKind.i64.wrap (x8l1 + 1))) (by kernel_rfl) (fun w _ => by kernel_rfl) ?_
                refine LL.done (s' := [(4, .bool false), (5, .slice A936 x933.length c937), (6, .slice A944 x941.length c945), (7, .int .i64 x7l0), (8, .int .i64 (IntKind.i64.wrap (x8l1 + 1)))]) [4, 5, 6, 7, 8] (by kernel_rfl) ?_
                exact NN.round' [4, 5, 6, 7, 8] (bs' := []) (Nat.lt_succ_self _) (List.Sublist.refl _) (by kernel_rfl) ⟨IntKind.i64.wrap (x8l1 + 1), H, rfl, rfl⟩
              · rw [if_neg (nebf c986)] at H
                refine J.condT (b := (e979 != e985)) (by rw [show (e979 != e985) = !((e979 == e985)) from rfl, c986]; rfl) (by kernel_rfl) (by kernel_rfl) ?_
                refine J.seq ?_
                refine J.plain ?_
                refine LL.op (.bool false) (by kernel_rfl) (fun w _ => by kernel_rfl) ?_
                refine LL.done (s' := [(4, .bool false), (5, .slice A936 x933.length c937), (6, .slice A944 x941.length c945), (7, .int .i64 x7l0), (8, .int .i64 x8l1)]) [4, 5, 6, 7, 8] (by kernel_rfl) ?_
                refine NN.then ?_
                refine J.ret ?_
                refine NN.block_ret ?_
                refine NN.then_ret ?_
                refine NN.then_ret ?_
                refine NN.block_ret ?_
                refine NN.block_ret ?_
                refine NN.then_ret ?_
                refine NN.then_ret ?_
                refine NN.block_ret ?_
                refine NN.then_ret ?_
                refine NN.fin1 4 (.bool false) (by kernel_rfl) (by kernel_rfl) (.inl rfl) (fun w hi => hi.ret ?_)
                first | (cases H; rfl) | (obtain rfl := Option.some.inj H; rfl) | (simp only [Option.some.injEq, Prod.mk.injEq] at H; obtain ⟨rfl⟩ := H; rfl)
            · rw [if_neg (of_decide_eq_false c973)] at H
              refine J.condF (b := decide (x8l1 < (e953.length : Int))) c973 (by kernel_rfl) (by kernel_rfl) ?_
              refine J.exit ?_
              refine NN.then_exit ?_
              rw [← hk966] at H
              (try dsimp only at H)
              refine NN.then_exit ?_
              refine NN.block_same ?_
              refine NN.block_n ?_
              refine NN.then ?_
              refine J.plain ?_
              refine LL.op (.int .i64 x7l0) (by kernel_rfl) (fun w _ => by kernel_rfl) ?_
              refine LL.op (.int .i64 (IntKind.i64.wrap (x7l0 + 1))) (by kernel_rfl) (fun w _ => by kernel_rfl) ?_
              refine LL.op (.int .i64 (IntKind.i64.wrap (x7l0 + 1))) (by kernel_rfl) (fun w _ => by kernel_rfl) ?_
              refine LL.done (s' := [(4, .bool false), (5, .slice A936 x933.length c937), (6, .slice A944 x941.length c945), (7, .int .i64 (IntKind.i64.wrap (x7l0 + 1)))]) [4, 5, 6, 7] (by kernel_rfl) ?_
              exact NN.round' [4, 5, 6, 7] (bs' := []) (Nat.lt_succ_self _) (List.Sublist.refl _) (by kernel_rfl) ⟨IntKind.i64.wrap (x7l0 + 1), H, rfl, rfl⟩
          · rw [if_neg (nebf c965)] at H
            refine J.condT (b := !((e953.length : Int) == (e959.length : Int))) (by rw [show (!((e953.length : Int) == (e959.length : Int))) = !(((e953.length : Int) == (e959.length : Int))) from rfl, c965]; rfl) (by kernel_rfl) (by kernel_rfl) ?_
            refine J.seq ?_
            refine J.plain ?_
            refine LL.op (.bool false) (by kernel_rfl) (fun w _ => by kernel_rfl) ?_
            refine LL.done (s' := [(4, .bool false), (5, .slice A936 x933.length c937), (6, .slice A944 x941.length c945), (7, .int .i64 x7l0)]) [4, 5, 6, 7] (by kernel_rfl) ?_
            refine NN.then ?_
            refine J.ret ?_
            refine NN.then_ret ?_
            refine NN.block_ret ?_
            refine NN.then_ret ?_
            refine NN.then_ret ?_
            refine NN.block_ret ?_
            refine NN.then_ret ?_
            refine NN.fin1 4 (.bool false) (by kernel_rfl) (by kernel_rfl) (.inl rfl) (fun w hi => hi.ret ?_)
            first | (cases H; rfl) | (obtain rfl := Option.some.inj H; rfl) | (simp only [Option.some.injEq, Prod.mk.injEq] at H; obtain ⟨rfl⟩ := H; rfl)
        · rw [if_neg (of_decide_eq_false c952)] at H
          refine J.condF (b := decide (x7l0 < (x933.length : Int))) c952 (by kernel_rfl) (by kernel_rfl) ?_
          refine J.exit ?_
          refine NN.then_exit ?_
          refine NN.then_exit ?_
          refine NN.block_same ?_
          refine NN.then ?_
          refine J.seq ?_
          refine J.plain ?_
          obtain ⟨x987, hx987, H⟩ := bind_some H
          refine LL.call 18 #[] (.bool x987) (by kernel_rfl) (fun w => by kernel_rfl) (fun w hw => sawmilllaw48_awake.calls K    _ w   hx987) ?_
          refine LL.op (.bool x987) (by kernel_rfl) (fun w _ => by kernel_rfl) ?_
          refine LL.done (s' := [(4, .bool x987)]) [4] (by kernel_rfl) ?_
          refine NN.then ?_
          refine J.ret ?_
          refine NN.fin1 4 (.bool x987) (by kernel_rfl) (by kernel_rfl) (.inl rfl) (fun w hi => hi.ret ?_)
          first | (cases H; rfl) | (obtain rfl := Option.some.inj H; rfl) | (simp only [Option.some.injEq, Prod.mk.injEq] at H; obtain ⟨rfl⟩ := H; rfl)
      · rw [if_neg (nebf c949)] at H
        refine J.condT (b := !((x933.length : Int) == (x941.length : Int))) (by rw [show (!((x933.length : Int) == (x941.length : Int))) = !(((x933.length : Int) == (x941.length : Int))) from rfl, c949]; rfl) (by kernel_rfl) (by kernel_rfl) ?_
        refine J.seq ?_
        refine J.plain ?_
        refine LL.op (.bool false) (by kernel_rfl) (fun w _ => by kernel_rfl) ?_
        refine LL.done (s' := [(4, .bool false), (5, .slice A936 x933.length c937), (6, .slice A944 x941.length c945)]) [4, 5, 6] (by kernel_rfl) ?_
        refine NN.then ?_
        refine J.ret ?_
        refine NN.then_ret ?_
        refine NN.fin1 4 (.bool false) (by kernel_rfl) (by kernel_rfl) (.inl rfl) (fun w hi => hi.ret ?_)
        first | (cases H; rfl) | (obtain rfl := Option.some.inj H; rfl) | (simp only [Option.some.injEq, Prod.mk.injEq] at H; obtain ⟨rfl⟩ := H; rfl)

end Go.Proofs.Ytbogdbbmmlaohaa
