/- Walks of functions of the seat: each call does what the Lean function of the same name says. Printed by the session's own program absgen.py. -/
import Derived.Test.YtfjbhmpnmpphoaaF4
namespace Go.Proofs.Ytfjbhmpnmpphoaa
open Go.Saw
set_option linter.unusedVariables false
set_option linter.unusedSimpArgs false

/-! ### sawmilllaw13_DefectClips: function 9 -/
def sawmilllaw13_DefectClips.l0 (K : Nat) (a0 : List E41) (a1_0 : Int) (a1_1 : Int) (a1_2 : Int) (a1_3 : Int) (a1_4 : Int) (a1_5 : Int) : Nat → Int → Option (Bool)
  | 0, _ => none
  | k + 1, x5l0 => if x5l0 < (a0.length : Int) then ((idx a0 x5l0).bind fun be974 => ((defect_Touches.f be974.1 be974.2.1 be974.2.2.1 be974.2.2.2.1 be974.2.2.2.2.1 be974.2.2.2.2.2.1 be974.2.2.2.2.2.2 a1_0 a1_1 a1_2 a1_3 a1_4 a1_5).bind fun x975 => ((sawmillref13_Touches.f be974.1 be974.2.1 be974.2.2.1 be974.2.2.2.1 be974.2.2.2.2.1 be974.2.2.2.2.2.1 be974.2.2.2.2.2.2 a1_0 a1_1 a1_2 a1_3 a1_4 a1_5).bind fun x976 => (if x975 = x976 then (sawmilllaw13_DefectClips.l0 K a0 a1_0 a1_1 a1_2 a1_3 a1_4 a1_5 k (IntKind.i64.wrap (x5l0 + 1))) else (some false))))) else ((defect_Clip.f K a0 a1_0 a1_1 a1_2 a1_3 a1_4 a1_5).bind fun x978 => ((sawmillref13_Clip.f K a0 a1_0 a1_1 a1_2 a1_3 a1_4 a1_5).bind fun x986 => ((sawmillref13_Same.f K x978 x986).bind fun x994 => (if x994 = true then ((sawmilllaw13_awake.f K ).bind fun x1024 => (some x1024)) else (some false)))))
def sawmilllaw13_DefectClips.f (K : Nat) (a0 : List E41) (a1_0 : Int) (a1_1 : Int) (a1_2 : Int) (a1_3 : Int) (a1_4 : Int) (a1_5 : Int) : Option (Bool) := (sawmilllaw13_few.f a0).bind fun x970 => (if x970 = true then (sawmilllaw13_DefectClips.l0 K a0 a1_0 a1_1 a1_2 a1_3 a1_4 a1_5 K 0) else ((sawmilllaw13_awake.f K ).bind fun x1025 => (some x1025)))
set_option maxRecDepth 100000 in
theorem sawmilllaw13_DefectClips.calls (K : Nat) (a0 : List E41) (a1_0 : Int) (a1_1 : Int) (a1_2 : Int) (a1_3 : Int) (a1_4 : Int) (a1_5 : Int)  (Aa0 : Option Addr) (ca0 : Nat)  (r1 : Bool) (w : World)   (ha0 : KRow (Cx.start w) enc41 7 a0 Aa0) (h : sawmilllaw13_DefectClips.f K a0 a1_0 a1_1 a1_2 a1_3 a1_4 a1_5 = some r1) :
    Calls Try.prog 9 #[.slice Aa0 a0.length ca0, .agg #[.int .i64 a1_0, .int .i64 a1_1, .int .i64 a1_2, .int .i64 a1_3, .int .i64 a1_4, .int .i64 a1_5]] w (Ret w (.bool r1)) := by
  have H := h
  clear h
  unfold sawmilllaw13_DefectClips.f at H
  refine Go.Saw.calls (args := [.slice Aa0 a0.length ca0, .agg #[.int .i64 a1_0, .int .i64 a1_1, .int .i64 a1_2, .int .i64 a1_3, .int .i64 a1_4, .int .i64 a1_5]]) Try.func9 rfl Try.ntmps9 (by kernel_rfl) ?_
  refine J.seq ?_
  refine J.plain ?_
  refine LL.box 25 (.tmp 1) [.int .i64 a1_0, .int .i64 a1_1, .int .i64 a1_2, .int .i64 a1_3, .int .i64 a1_4, .int .i64 a1_5] (by kernel_rfl) rfl (by kernel_rfl) (fun g969 => ?_)
  refine LL.op (.bool false) (by kernel_rfl) (fun w _ => by kernel_rfl) ?_
  refine LL.done (s' := [(0, .slice Aa0 a0.length ca0), (3, .pointer (some ⟨g969, 0, none⟩)), (4, .bool false)]) [0, 3, 4] (by kernel_rfl) ?_
  refine NN.then ?_
  refine J.seq ?_
  refine J.seq ?_
  refine J.plain ?_
  refine LL.op (.slice Aa0 a0.length ca0) (by kernel_rfl) (fun w _ => by kernel_rfl) ?_
  obtain ⟨x970, hx970, H⟩ := bind_some H
  refine LL.call 29 #[.slice Aa0 a0.length ca0] (.bool x970) (by kernel_rfl) (fun w => by kernel_rfl) (fun w hw => sawmilllaw13_few.calls a0  _ _ _ w  (ha0.at hw) hx970) ?_
  refine LL.op (.bool (!x970)) (by kernel_rfl) (fun w _ => by kernel_rfl) ?_
  refine LL.done (s' := [(0, .slice Aa0 a0.length ca0), (3, .pointer (some ⟨g969, 0, none⟩)), (4, .bool false), (8, .bool (!x970))]) [0, 3, 4, 8] (by kernel_rfl) ?_
  refine NN.then ?_
  rcases Bool.eq_false_or_eq_true (x970) with c971 | c971
  · rw [if_pos (c971)] at H
    refine J.condF (b := !x970) (by rw [show (!x970) = !(x970) from rfl, c971]; rfl) (by kernel_rfl) (by kernel_rfl) ?_
    refine J.skip ?_
    refine NN.then ?_
    refine J.seq ?_
    refine J.seq ?_
    refine J.plain ?_
    refine LL.op (.int .i64 0) (by kernel_rfl) (fun w _ => by kernel_rfl) ?_
    refine LL.done (s' := [(0, .slice Aa0 a0.length ca0), (3, .pointer (some ⟨g969, 0, none⟩)), (4, .bool false), (5, .int .i64 0)]) [0, 3, 4, 5] (by kernel_rfl) ?_
    refine NN.then ?_
    refine J.block ?_
    refine J.to [0, 3, 4, 5] (s' := [(0, .slice Aa0 a0.length ca0), (3, .pointer (some ⟨g969, 0, none⟩)), (4, .bool false), (5, .int .i64 0)]) (by kernel_rfl) ?_
    refine J.loop (fun n_ s_ bs_ => ∃ (x5l0 : Int), sawmilllaw13_DefectClips.l0 K a0 a1_0 a1_1 a1_2 a1_3 a1_4 a1_5 n_ x5l0 = some r1 ∧ s_ = [(0, .slice Aa0 a0.length ca0), (3, .pointer (some ⟨g969, 0, none⟩)), (4, .bool false), (5, .int .i64 x5l0)] ∧ [(g969, cl [.int .i64 a1_0, .int .i64 a1_1, .int .i64 a1_2, .int .i64 a1_3, .int .i64 a1_4, .int .i64 a1_5] 25)] = bs_) K ⟨0, H, rfl, rfl⟩ ?_
    rintro (_ | n_) s_ bs_ ⟨x5l0, H, rfl, rfl⟩
    · exact absurd H (by simp [sawmilllaw13_DefectClips.l0])
    simp only [sawmilllaw13_DefectClips.l0] at H
    refine J.seq ?_
    refine J.seq ?_
    refine J.plain ?_
    refine LL.op (.int .i64 x5l0) (by kernel_rfl) (fun w _ => by kernel_rfl) ?_
    refine LL.op (.slice Aa0 a0.length ca0) (by kernel_rfl) (fun w _ => by kernel_rfl) ?_
    refine LL.op (.int .i64 (a0.length : Int)) (by kernel_rfl) (fun w _ => by kernel_rfl) ?_
    refine LL.op (.bool (decide (x5l0 < (a0.length : Int)))) (by kernel_rfl) (fun w _ => by kernel_rfl) ?_
    refine LL.done (s' := [(0, .slice Aa0 a0.length ca0), (3, .pointer (some ⟨g969, 0, none⟩)), (4, .bool false), (5, .int .i64 x5l0), (13, .bool (decide (x5l0 < (a0.length : Int))))]) [0, 3, 4, 5, 13] (by kernel_rfl) ?_
    refine NN.then ?_
    rcases Bool.eq_false_or_eq_true (decide (x5l0 < (a0.length : Int))) with c973 | c973
    · rw [if_pos (of_decide_eq_true c973)] at H
      refine J.condT (b := decide (x5l0 < (a0.length : Int))) c973 (by kernel_rfl) (by kernel_rfl) ?_
      refine J.skip ?_
      refine NN.then ?_
      refine J.seq ?_
      refine J.block ?_
      refine J.seq ?_
      refine J.drawn follows (by kernel_rfl) ?_
      refine QQ.op (.slice Aa0 a0.length ca0) (by kernel_rfl) (fun w _ => by kernel_rfl) ?_
      refine QQ.op (.int .i64 x5l0) (by kernel_rfl) (fun w _ => by kernel_rfl) ?_
      obtain ⟨⟨e974_1, e974_2, e974_3, e974_4, e974_5, e974_6, e974_7⟩, he974, H⟩ := bind_some H
      (try dsimp only at H)
      refine QQ.op (.pointer (rp Aa0 (x5l0.toNat * 7 + 0))) (by kernel_rfl) (idxR (cp := ca0) (ik := .i64) ha0 he974 rfl (by kernel_rfl) (by kernel_rfl) (by kernel_rfl)) ?_
      refine QQ.op (.agg #[.int .i64 e974_1, .int .i64 e974_2, .int .i64 e974_3, .int .i64 e974_4, .int .i64 e974_5, .int .i64 e974_6, .int .i64 e974_7]) (by kernel_rfl) (ldR (off := 0) ha0 he974 rfl (by kernel_rfl) (by kernel_rfl)) ?_
      refine QQ.op (.agg #[.int .i64 a1_0, .int .i64 a1_1, .int .i64 a1_2, .int .i64 a1_3, .int .i64 a1_4, .int .i64 a1_5]) (by kernel_rfl) (ld 0 g969 0 rfl (by kernel_rfl) rfl (by kernel_rfl)) ?_
      obtain ⟨x975, hx975, H⟩ := bind_some H
      refine QQ.call 38 #[.agg #[.int .i64 e974_1, .int .i64 e974_2, .int .i64 e974_3, .int .i64 e974_4, .int .i64 e974_5, .int .i64 e974_6, .int .i64 e974_7], .agg #[.int .i64 a1_0, .int .i64 a1_1, .int .i64 a1_2, .int .i64 a1_3, .int .i64 a1_4, .int .i64 a1_5]] (.bool x975) (by kernel_rfl) (fun w => by kernel_rfl) (fun w hw => defect_Touches.calls e974_1 e974_2 e974_3 e974_4 e974_5 e974_6 e974_7 a1_0 a1_1 a1_2 a1_3 a1_4 a1_5   _ w   hx975) ?_
      refine QQ.op (.slice Aa0 a0.length ca0) (by kernel_rfl) (fun w _ => by kernel_rfl) ?_
      refine QQ.op (.int .i64 x5l0) (by kernel_rfl) (fun w _ => by kernel_rfl) ?_
      refine QQ.op (.pointer (rp Aa0 (x5l0.toNat * 7 + 0))) (by kernel_rfl) (idxR (cp := ca0) (ik := .i64) ha0 he974 rfl (by kernel_rfl) (by kernel_rfl) (by kernel_rfl)) ?_
      refine QQ.op (.agg #[.int .i64 e974_1, .int .i64 e974_2, .int .i64 e974_3, .int .i64 e974_4, .int .i64 e974_5, .int .i64 e974_6, .int .i64 e974_7]) (by kernel_rfl) (ldR (off := 0) ha0 he974 rfl (by kernel_rfl) (by kernel_rfl)) ?_
      refine QQ.op (.agg #[.int .i64 a1_0, .int .i64 a1_1, .int .i64 a1_2, .int .i64 a1_3, .int .i64 a1_4, .int .i64 a1_5]) (by kernel_rfl) (ld 0 g969 0 rfl (by kernel_rfl) rfl (by kernel_rfl)) ?_
      obtain ⟨x976, hx976, H⟩ := bind_some H
      refine QQ.call 39 #[.agg #[.int .i64 e974_1, .int .i64 e974_2, .int .i64 e974_3, .int .i64 e974_4, .int .i64 e974_5, .int .i64 e974_6, .int .i64 e974_7], .agg #[.int .i64 a1_0, .int .i64 a1_1, .int .i64 a1_2, .int .i64 a1_3, .int .i64 a1_4, .int .i64 a1_5]] (.bool x976) (by kernel_rfl) (fun w => by kernel_rfl) (fun w hw => sawmillref13_Touches.calls e974_1 e974_2 e974_3 e974_4 e974_5 e974_6 e974_7 a1_0 a1_1 a1_2 a1_3 a1_4 a1_5   _ w   hx976) ?_
      refine QQ.op (.bool (x975 != x976)) (by kernel_rfl) (fun w _ => by kernel_rfl) ?_
      refine QQ.done (s' := [(0, .slice Aa0 a0.length ca0), (3, .pointer (some ⟨g969, 0, none⟩)), (4, .bool false), (5, .int .i64 x5l0), (28, .bool (x975 != x976))]) [0, 3, 4, 5, 28] (by kernel_rfl) ?_
      refine NN.then ?_
      rcases Bool.eq_false_or_eq_true ((x975 == x976)) with c977 | c977
      · rw [if_pos (eq_of_beq c977)] at H
        refine J.condF (b := (x975 != x976)) (by rw [show (x975 != x976) = !((x975 == x976)) from rfl, c977]; rfl) (by kernel_rfl) (by kernel_rfl) ?_
        refine J.skip ?_
        refine NN.block_n ?_
        refine NN.then ?_
        refine J.plain ?_
        refine LL.op (.int .i64 x5l0) (by kernel_rfl) (fun w _ => by kernel_rfl) ?_
        refine LL.op (.int .i64 (IntKind.i64.wrap (x5l0 + 1))) (by kernel_rfl) (fun w _ => by kernel_rfl) ?_
        refine LL.op (.int .i64 (IntKind.i64.wrap (x5l0 + 1))) (by kernel_rfl) (fun w _ => by kernel_rfl) ?_
        refine LL.done (s' := [(0, .slice Aa0 a0.length ca0), (3, .pointer (some ⟨g969, 0, none⟩)), (4, .bool false), (5, .int .i64 (IntKind.i64.wrap (x5l0 + 1)))]) [0, 3, 4, 5] (by kernel_rfl) ?_
        exact NN.round' [0, 3, 4, 5] (bs' := [(g969, cl [.int .i64 a1_0, .int .i64 a1_1, .int .i64 a1_2, .int .i64 a1_3, .int .i64 a1_4, .int .i64 a1_5] 25)]) (Nat.lt_succ_self _) (List.Sublist.refl _) (by kernel_rfl) ⟨IntKind.i64.wrap (x5l0 + 1), H, rfl, rfl⟩
      · rw [if_neg (nebf c977)] at H
        refine J.condT (b := (x975 != x976)) (by rw [show (x975 != x976) = !((x975 == x976)) from rfl, c977]; rfl) (by kernel_rfl) (by kernel_rfl) ?_
        refine J.seq ?_
        refine J.plain ?_
        refine LL.op (.bool false) (by kernel_rfl) (fun w _ => by kernel_rfl) ?_
        refine LL.done (s' := [(0, .slice Aa0 a0.length ca0), (3, .pointer (some ⟨g969, 0, none⟩)), (4, .bool false), (5, .int .i64 x5l0)]) [0, 3, 4, 5] (by kernel_rfl) ?_
        refine NN.then ?_
        refine J.ret ?_
        refine NN.block_ret ?_
        refine NN.then_ret ?_
        refine NN.then_ret ?_
        refine NN.block_ret ?_
        refine NN.then_ret ?_
        refine NN.fin1 4 (.bool false) (by kernel_rfl) (by kernel_rfl) (.inl rfl) (fun w hi => hi.ret ?_)
        first | (cases H; rfl) | (obtain rfl := Option.some.inj H; rfl) | (simp only [Option.some.injEq, Prod.mk.injEq] at H; obtain ⟨rfl⟩ := H; rfl)
    · rw [if_neg (of_decide_eq_false c973)] at H
      refine J.condF (b := decide (x5l0 < (a0.length : Int))) c973 (by kernel_rfl) (by kernel_rfl) ?_
      refine J.exit ?_
      refine NN.then_exit ?_
      refine NN.then_exit ?_
      refine NN.block_same ?_
      refine NN.then ?_
      refine J.seq ?_
      obtain ⟨x978, hx978, H⟩ := bind_some H
      obtain ⟨x986, hx986, H⟩ := bind_some H
      obtain ⟨x994, hx994, H⟩ := bind_some H
      refine J.held follows ?_
      refine HH.take 0 (.slice Aa0 a0.length ca0) rfl (by kernel_rfl) (by kernel_rfl) (fun _ h => h) (fun w _ => by kernel_rfl) ?_
      refine HH.take 1 (.agg #[.int .i64 a1_0, .int .i64 a1_1, .int .i64 a1_2, .int .i64 a1_3, .int .i64 a1_4, .int .i64 a1_5]) rfl (by kernel_rfl) (by kernel_rfl) (fun _ h => h) (ld 0 g969 0 rfl (by kernel_rfl) rfl (by kernel_rfl)) ?_
      refine HH.take 3 (.slice Aa0 a0.length ca0) rfl (by kernel_rfl) (by kernel_rfl) (fun _ h => h) (fun w _ => by kernel_rfl) ?_
      refine HH.take 4 (.agg #[.int .i64 a1_0, .int .i64 a1_1, .int .i64 a1_2, .int .i64 a1_3, .int .i64 a1_4, .int .i64 a1_5]) rfl (by kernel_rfl) (by kernel_rfl) (fun _ h => h) (ld 0 g969 0 rfl (by kernel_rfl) rfl (by kernel_rfl)) ?_
      refine HH.all1 2 (by kernel_rfl) ?_
      refine HS.callR (enc := enc41) (m := 7) (l := x978) 41 #[.slice Aa0 a0.length ca0, .agg #[.int .i64 a1_0, .int .i64 a1_1, .int .i64 a1_2, .int .i64 a1_3, .int .i64 a1_4, .int .i64 a1_5]] (fun A_ c_ => .slice A_ x978.length c_) rfl (by kernel_rfl) (fun w => by kernel_rfl) (fun _ h => h) (fun w hw => defect_Clip.calls K a0 a1_0 a1_1 a1_2 a1_3 a1_4 a1_5  _ _ _ w  (ha0.at hw) hx978) (fun R1009 F1010 A1011 c1012 le1013 k1014 fr1015 => ?_)
      refine HH.all1 5 (by kernel_rfl) ?_
      refine HS.callR (enc := enc41) (m := 7) (l := x986) 42 #[.slice Aa0 a0.length ca0, .agg #[.int .i64 a1_0, .int .i64 a1_1, .int .i64 a1_2, .int .i64 a1_3, .int .i64 a1_4, .int .i64 a1_5]] (fun A_ c_ => .slice A_ x986.length c_) rfl (by kernel_rfl) (fun w => by kernel_rfl) (fun _ h => (h).back le1013) (fun w hw => sawmillref13_Clip.calls K a0 a1_0 a1_1 a1_2 a1_3 a1_4 a1_5  _ _ _ w  ((ha0.le le1013).at hw) hx986) (fun R1016 F1017 A1018 c1019 le1020 k1021 fr1022 => ?_)
      refine HH.all1 6 (by kernel_rfl) ?_
      refine HS.call 40 #[.slice A1011 x978.length c1012, .slice A1018 x986.length c1019] (.bool x994) rfl (by kernel_rfl) (fun w => by kernel_rfl) (fun _ h => ((h).back le1020).back le1013) (fun w hw => sawmillref13_Same.calls K x978 x986  _ _ _ _ _ w  ((k1014.le le1020).at hw) (k1021.at hw) hx994) ?_
      refine HH.take 7 (.bool x994) rfl (by kernel_rfl) (by kernel_rfl) (fun _ h => ((h).back le1020).back le1013) (fun w _ => by kernel_rfl) ?_
      rcases Bool.eq_false_or_eq_true (x994) with c1023 | c1023
      · rw [if_pos (c1023)] at H
        refine HH.bool 36 (x994) true c1023 (by kernel_rfl) ?_
        obtain ⟨x1024, hx1024, H⟩ := bind_some H
        refine HH.all1 8 (by kernel_rfl) ?_
        refine HS.call 30 #[] (.bool x1024) rfl (by kernel_rfl) (fun w => by kernel_rfl) (fun _ h => ((h).back le1020).back le1013) (fun w hw => sawmilllaw13_awake.calls K    _ w   hx1024) ?_
        refine HH.take 9 (.bool x1024) rfl (by kernel_rfl) (by kernel_rfl) (fun _ h => ((h).back le1020).back le1013) (fun w _ => by kernel_rfl) ?_
        refine HH.take 10 (.bool x1024) rfl (by kernel_rfl) (by kernel_rfl) (fun _ h => ((h).back le1020).back le1013) (fun w _ => by kernel_rfl) ?_
        refine HH.done (s' := [(4, .bool x1024)]) [4] (by kernel_rfl) (by kernel_rfl) ?_
        refine NN.then ?_
        refine J.ret ?_
        refine NN.fin1 4 (.bool x1024) (by kernel_rfl) (by kernel_rfl) (.inl rfl) (fun w hi => hi.ret ?_)
        first | (cases H; rfl) | (obtain rfl := Option.some.inj H; rfl) | (simp only [Option.some.injEq, Prod.mk.injEq] at H; obtain ⟨rfl⟩ := H; rfl)
      · rw [if_neg (nebt c1023)] at H
        refine HH.bool 36 (x994) false c1023 (by kernel_rfl) ?_
        refine HH.off 8 rfl (by kernel_rfl) (by kernel_rfl) (by kernel_rfl) (fun _ h => ((h).back le1020).back le1013) ?_
        refine HH.take 9 (.bool false) rfl (by kernel_rfl) (by kernel_rfl) (fun _ h => ((h).back le1020).back le1013) (fun w _ => by kernel_rfl) ?_
        refine HH.take 10 (.bool false) rfl (by kernel_rfl) (by kernel_rfl) (fun _ h => ((h).back le1020).back le1013) (fun w _ => by kernel_rfl) ?_
        refine HH.done (s' := [(4, .bool false)]) [4] (by kernel_rfl) (by kernel_rfl) ?_
        refine NN.then ?_
        refine J.ret ?_
        refine NN.fin1 4 (.bool false) (by kernel_rfl) (by kernel_rfl) (.inl rfl) (fun w hi => hi.ret ?_)
        first | (cases H; rfl) | (obtain rfl := Option.some.inj H; rfl) | (simp only [Option.some.injEq, Prod.mk.injEq] at H; obtain ⟨rfl⟩ := H; rfl)
  · rw [if_neg (nebt c971)] at H
    refine J.condT (b := !x970) (by rw [show (!x970) = !(x970) from rfl, c971]; rfl) (by kernel_rfl) (by kernel_rfl) ?_
    refine J.seq ?_
    refine J.plain ?_
    obtain ⟨x1025, hx1025, H⟩ := bind_some H
    refine LL.call 30 #[] (.bool x1025) (by kernel_rfl) (fun w => by kernel_rfl) (fun w hw => sawmilllaw13_awake.calls K    _ w   hx1025) ?_
    refine LL.op (.bool x1025) (by kernel_rfl) (fun w _ => by kernel_rfl) ?_
    refine LL.done (s' := [(0, .slice Aa0 a0.length ca0), (3, .pointer (some ⟨g969, 0, none⟩)), (4, .bool x1025)]) [0, 3, 4] (by kernel_rfl) ?_
    refine NN.then ?_
    refine J.ret ?_
    refine NN.then_ret ?_
    refine NN.fin1 4 (.bool x1025) (by kernel_rfl) (by kernel_rfl) (.inl rfl) (fun w hi => hi.ret ?_)
    first | (cases H; rfl) | (obtain rfl := Option.some.inj H; rfl) | (simp only [Option.some.injEq, Prod.mk.injEq] at H; obtain ⟨rfl⟩ := H; rfl)

end Go.Proofs.Ytfjbhmpnmpphoaa
