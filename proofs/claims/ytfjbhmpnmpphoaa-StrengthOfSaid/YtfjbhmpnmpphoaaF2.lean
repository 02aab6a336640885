/- Walks of functions of the seat: each call does what the Lean function of the same name says. Printed by the session's own program absgen.py. -/
import Derived.Test.YtfjbhmpnmpphoaaF1
namespace Go.Proofs.Ytfjbhmpnmpphoaa
open Go.Saw
set_option linter.unusedVariables false
set_option linter.unusedSimpArgs false

/-! ### defect_common: function 64 -/
def defect_common.f (a0_0 : Int) (a0_1 : Int) (a0_2 : Int) (a0_3 : Int) (a0_4 : Int) (a0_5 : Int) (a1_0 : Int) (a1_1 : Int) (a1_2 : Int) (a1_3 : Int) (a1_4 : Int) (a1_5 : Int) : Option (Int × Int × Int × Int × Int × Int × Bool) := (defect_axes.f a0_0 a0_1 a0_2 a0_3 a0_4 a0_5).bind fun bx190 => ((defect_axes.f a1_0 a1_1 a1_2 a1_3 a1_4 a1_5).bind fun bx191 => ((span_Meet.f bx190.1 bx190.2.1 bx191.1 bx191.2.1).bind fun bx199 => (if bx199.2 ≤ bx199.1 then (some (0, 0, 0, 0, 0, 0, false)) else ((span_Meet.f bx190.2.2.1 bx190.2.2.2.1 bx191.2.2.1 bx191.2.2.2.1).bind fun bx201 => (if bx201.2 ≤ bx201.1 then (some (0, 0, 0, 0, 0, 0, false)) else ((span_Meet.f bx190.2.2.2.2.1 bx190.2.2.2.2.2 bx191.2.2.2.2.1 bx191.2.2.2.2.2).bind fun bx203 => (if bx203.2 ≤ bx203.1 then (some (0, 0, 0, 0, 0, 0, false)) else ((defect_boxOf.f bx199.1 bx199.2 bx201.1 bx201.2 bx203.1 bx203.2).bind fun bx205 => (some (bx205.1, bx205.2.1, bx205.2.2.1, bx205.2.2.2.1, bx205.2.2.2.2.1, bx205.2.2.2.2.2, true))))))))))
set_option maxRecDepth 100000 in
theorem defect_common.calls (a0_0 : Int) (a0_1 : Int) (a0_2 : Int) (a0_3 : Int) (a0_4 : Int) (a0_5 : Int) (a1_0 : Int) (a1_1 : Int) (a1_2 : Int) (a1_3 : Int) (a1_4 : Int) (a1_5 : Int)    (r1 : Int) (r2 : Int) (r3 : Int) (r4 : Int) (r5 : Int) (r6 : Int) (r7 : Bool) (w : World)    (h : defect_common.f a0_0 a0_1 a0_2 a0_3 a0_4 a0_5 a1_0 a1_1 a1_2 a1_3 a1_4 a1_5 = some (r1, r2, r3, r4, r5, r6, r7)) :
    Calls Try.prog 64 #[.agg #[.int .i64 a0_0, .int .i64 a0_1, .int .i64 a0_2, .int .i64 a0_3, .int .i64 a0_4, .int .i64 a0_5], .agg #[.int .i64 a1_0, .int .i64 a1_1, .int .i64 a1_2, .int .i64 a1_3, .int .i64 a1_4, .int .i64 a1_5]] w (Ret w (.tuple #[.agg #[.int .i64 r1, .int .i64 r2, .int .i64 r3, .int .i64 r4, .int .i64 r5, .int .i64 r6], .bool r7])) := by
  have H := h
  clear h
  unfold defect_common.f at H
  refine Go.Saw.calls (args := [.agg #[.int .i64 a0_0, .int .i64 a0_1, .int .i64 a0_2, .int .i64 a0_3, .int .i64 a0_4, .int .i64 a0_5], .agg #[.int .i64 a1_0, .int .i64 a1_1, .int .i64 a1_2, .int .i64 a1_3, .int .i64 a1_4, .int .i64 a1_5]]) Try.func64 rfl Try.ntmps64 (by kernel_rfl) ?_
  refine J.seq ?_
  refine J.plain ?_
  refine LL.box 25 (.tmp 0) [.int .i64 a0_0, .int .i64 a0_1, .int .i64 a0_2, .int .i64 a0_3, .int .i64 a0_4, .int .i64 a0_5] (by kernel_rfl) rfl (by kernel_rfl) (fun g187 => ?_)
  refine LL.box 25 (.tmp 1) [.int .i64 a1_0, .int .i64 a1_1, .int .i64 a1_2, .int .i64 a1_3, .int .i64 a1_4, .int .i64 a1_5] (by kernel_rfl) rfl (by kernel_rfl) (fun g188 => ?_)
  refine LL.alloc 25 [.int .i64 0, .int .i64 0, .int .i64 0, .int .i64 0, .int .i64 0, .int .i64 0] (by kernel_rfl) rfl (by kernel_rfl) (fun g189 => ?_)
  refine LL.op (.bool false) (by kernel_rfl) (fun w _ => by kernel_rfl) ?_
  refine LL.done (s' := [(2, .pointer (some ⟨g187, 0, none⟩)), (3, .pointer (some ⟨g188, 0, none⟩)), (4, .pointer (some ⟨g189, 0, none⟩)), (5, .bool false)]) [2, 3, 4, 5] (by kernel_rfl) ?_
  refine NN.then ?_
  refine J.seq ?_
  obtain ⟨⟨x190_1, x190_2, x190_3, x190_4, x190_5, x190_6⟩, hx190, H⟩ := bind_some H
  (try dsimp only at H)
  obtain ⟨⟨x191_1, x191_2, x191_3, x191_4, x191_5, x191_6⟩, hx191, H⟩ := bind_some H
  (try dsimp only at H)
  refine J.cut (α := Nat × Nat) (fun q194 => [(4, .pointer (some ⟨g189, 0, none⟩)), (5, .bool false), (6, .pointer (some ⟨q194.2, 0, none⟩)), (7, .pointer (some ⟨q194.1, 0, none⟩))]) (fun q194 => [(q194.1, cl [.int .i64 x191_1, .int .i64 x191_2, .int .i64 x191_3, .int .i64 x191_4, .int .i64 x191_5, .int .i64 x191_6] 78), (q194.2, cl [.int .i64 x190_1, .int .i64 x190_2, .int .i64 x190_3, .int .i64 x190_4, .int .i64 x190_5, .int .i64 x190_6] 78), (g189, cl [.int .i64 0, .int .i64 0, .int .i64 0, .int .i64 0, .int .i64 0, .int .i64 0] 25), (g188, cl [.int .i64 a1_0, .int .i64 a1_1, .int .i64 a1_2, .int .i64 a1_3, .int .i64 a1_4, .int .i64 a1_5] 25), (g187, cl [.int .i64 a0_0, .int .i64 a0_1, .int .i64 a0_2, .int .i64 a0_3, .int .i64 a0_4, .int .i64 a0_5] 25)]) ?_ ?_
  · skip
    refine J.held follows ?_
    refine HH.take 0 (.agg #[.int .i64 a0_0, .int .i64 a0_1, .int .i64 a0_2, .int .i64 a0_3, .int .i64 a0_4, .int .i64 a0_5]) rfl (by kernel_rfl) (by kernel_rfl) (fun _ h => h) (ld 2 g187 0 rfl (by kernel_rfl) rfl (by kernel_rfl)) ?_
    refine HH.take 2 (.agg #[.int .i64 a1_0, .int .i64 a1_1, .int .i64 a1_2, .int .i64 a1_3, .int .i64 a1_4, .int .i64 a1_5]) rfl (by kernel_rfl) (by kernel_rfl) (fun _ h => h) (ld 1 g188 0 rfl (by kernel_rfl) rfl (by kernel_rfl)) ?_
    refine HH.all3 1 4 5 (by kernel_rfl) ?_ ?_ ?_
    · skip
      refine HS.call 65 #[.agg #[.int .i64 a0_0, .int .i64 a0_1, .int .i64 a0_2, .int .i64 a0_3, .int .i64 a0_4, .int .i64 a0_5]] (.agg #[.int .i64 x190_1, .int .i64 x190_2, .int .i64 x190_3, .int .i64 x190_4, .int .i64 x190_5, .int .i64 x190_6]) rfl (by kernel_rfl) (fun w => by kernel_rfl) (fun _ h => h) (fun w hw => defect_axes.calls a0_0 a0_1 a0_2 a0_3 a0_4 a0_5   _ _ _ _ _ _ w   hx190) ?_
      refine HH.all3 3 4 5 (by kernel_rfl) ?_ ?_ ?_
      · skip
        refine HS.call 65 #[.agg #[.int .i64 a1_0, .int .i64 a1_1, .int .i64 a1_2, .int .i64 a1_3, .int .i64 a1_4, .int .i64 a1_5]] (.agg #[.int .i64 x191_1, .int .i64 x191_2, .int .i64 x191_3, .int .i64 x191_4, .int .i64 x191_5, .int .i64 x191_6]) rfl (by kernel_rfl) (fun w => by kernel_rfl) (fun _ h => h) (fun w hw => defect_axes.calls a1_0 a1_1 a1_2 a1_3 a1_4 a1_5   _ _ _ _ _ _ w   hx191) ?_
        refine HH.all2 4 5 (by kernel_rfl) ?_ ?_
        · skip
          refine HS.alloc 78 [.int .i64 0, .int .i64 0, .int .i64 0, .int .i64 0, .int .i64 0, .int .i64 0] rfl (by kernel_rfl) rfl (by kernel_rfl) (fun _ h => h) (fun g197 => ?_)
          refine HH.all1 5 (by kernel_rfl) ?_
          refine HS.alloc 78 [.int .i64 0, .int .i64 0, .int .i64 0, .int .i64 0, .int .i64 0, .int .i64 0] rfl (by kernel_rfl) rfl (by kernel_rfl) (fun _ h => h.sub (List.Sublist.cons _ (List.Sublist.refl _))) (fun g198 => ?_)
          refine HH.all1 6 (by kernel_rfl) ?_
          refine HS.store 1 g197 0 78 (.tmp 6) (.tmp 10) [.int .i64 x190_1, .int .i64 x190_2, .int .i64 x190_3, .int .i64 x190_4, .int .i64 x190_5, .int .i64 x190_6] (bs' := [(g198, cl [.int .i64 0, .int .i64 0, .int .i64 0, .int .i64 0, .int .i64 0, .int .i64 0] 78), (g197, cl [.int .i64 x190_1, .int .i64 x190_2, .int .i64 x190_3, .int .i64 x190_4, .int .i64 x190_5, .int .i64 x190_6] 78), (g189, cl [.int .i64 0, .int .i64 0, .int .i64 0, .int .i64 0, .int .i64 0, .int .i64 0] 25), (g188, cl [.int .i64 a1_0, .int .i64 a1_1, .int .i64 a1_2, .int .i64 a1_3, .int .i64 a1_4, .int .i64 a1_5] 25), (g187, cl [.int .i64 a0_0, .int .i64 a0_1, .int .i64 a0_2, .int .i64 a0_3, .int .i64 a0_4, .int .i64 a0_5] 25)]) rfl rfl (by kernel_rfl) rfl (by kernel_rfl) rfl (by kernel_rfl) (fun _ h => h.sub (List.Sublist.cons _ (List.Sublist.cons _ (List.Sublist.refl _)))) ?_
          refine HH.all1 7 (by kernel_rfl) ?_
          refine HS.store 0 g198 0 78 (.tmp 7) (.tmp 12) [.int .i64 x191_1, .int .i64 x191_2, .int .i64 x191_3, .int .i64 x191_4, .int .i64 x191_5, .int .i64 x191_6] (bs' := [(g198, cl [.int .i64 x191_1, .int .i64 x191_2, .int .i64 x191_3, .int .i64 x191_4, .int .i64 x191_5, .int .i64 x191_6] 78), (g197, cl [.int .i64 x190_1, .int .i64 x190_2, .int .i64 x190_3, .int .i64 x190_4, .int .i64 x190_5, .int .i64 x190_6] 78), (g189, cl [.int .i64 0, .int .i64 0, .int .i64 0, .int .i64 0, .int .i64 0, .int .i64 0] 25), (g188, cl [.int .i64 a1_0, .int .i64 a1_1, .int .i64 a1_2, .int .i64 a1_3, .int .i64 a1_4, .int .i64 a1_5] 25), (g187, cl [.int .i64 a0_0, .int .i64 a0_1, .int .i64 a0_2, .int .i64 a0_3, .int .i64 a0_4, .int .i64 a0_5] 25)]) rfl rfl (by kernel_rfl) rfl (by kernel_rfl) rfl (by kernel_rfl) (fun _ h => h.sub (List.Sublist.cons _ (List.Sublist.cons _ (List.Sublist.refl _)))) ?_
          refine HH.done (s' := [(4, .pointer (some ⟨g189, 0, none⟩)), (5, .bool false), (6, .pointer (some ⟨g197, 0, none⟩)), (7, .pointer (some ⟨g198, 0, none⟩))]) [4, 5, 6, 7] (by kernel_rfl) (by kernel_rfl) ?_
          exact NN.cut (g198, g197) (List.Perm.refl _) rfl
        · skip
          refine HS.alloc 78 [.int .i64 0, .int .i64 0, .int .i64 0, .int .i64 0, .int .i64 0, .int .i64 0] rfl (by kernel_rfl) rfl (by kernel_rfl) (fun _ h => h) (fun g206 => ?_)
          refine HH.all1 4 (by kernel_rfl) ?_
          refine HS.alloc 78 [.int .i64 0, .int .i64 0, .int .i64 0, .int .i64 0, .int .i64 0, .int .i64 0] rfl (by kernel_rfl) rfl (by kernel_rfl) (fun _ h => h.sub (List.Sublist.cons _ (List.Sublist.refl _))) (fun g207 => ?_)
          refine HH.all1 6 (by kernel_rfl) ?_
          refine HS.store 0 g207 0 78 (.tmp 6) (.tmp 10) [.int .i64 x190_1, .int .i64 x190_2, .int .i64 x190_3, .int .i64 x190_4, .int .i64 x190_5, .int .i64 x190_6] (bs' := [(g207, cl [.int .i64 x190_1, .int .i64 x190_2, .int .i64 x190_3, .int .i64 x190_4, .int .i64 x190_5, .int .i64 x190_6] 78), (g206, cl [.int .i64 0, .int .i64 0, .int .i64 0, .int .i64 0, .int .i64 0, .int .i64 0] 78), (g189, cl [.int .i64 0, .int .i64 0, .int .i64 0, .int .i64 0, .int .i64 0, .int .i64 0] 25), (g188, cl [.int .i64 a1_0, .int .i64 a1_1, .int .i64 a1_2, .int .i64 a1_3, .int .i64 a1_4, .int .i64 a1_5] 25), (g187, cl [.int .i64 a0_0, .int .i64 a0_1, .int .i64 a0_2, .int .i64 a0_3, .int .i64 a0_4, .int .i64 a0_5] 25)]) rfl rfl (by kernel_rfl) rfl (by kernel_rfl) rfl (by kernel_rfl) (fun _ h => h.sub (List.Sublist.cons _ (List.Sublist.cons _ (List.Sublist.refl _)))) ?_
          refine HH.all1 7 (by kernel_rfl) ?_
          refine HS.store 1 g206 0 78 (.tmp 7) (.tmp 12) [.int .i64 x191_1, .int .i64 x191_2, .int .i64 x191_3, .int .i64 x191_4, .int .i64 x191_5, .int .i64 x191_6] (bs' := [(g207, cl [.int .i64 x190_1, .int .i64 x190_2, .int .i64 x190_3, .int .i64 x190_4, .int .i64 x190_5, .int .i64 x190_6] 78), (g206, cl [.int .i64 x191_1, .int .i64 x191_2, .int .i64 x191_3, .int .i64 x191_4, .int .i64 x191_5, .int .i64 x191_6] 78), (g189, cl [.int .i64 0, .int .i64 0, .int .i64 0, .int .i64 0, .int .i64 0, .int .i64 0] 25), (g188, cl [.int .i64 a1_0, .int .i64 a1_1, .int .i64 a1_2, .int .i64 a1_3, .int .i64 a1_4, .int .i64 a1_5] 25), (g187, cl [.int .i64 a0_0, .int .i64 a0_1, .int .i64 a0_2, .int .i64 a0_3, .int .i64 a0_4, .int .i64 a0_5] 25)]) rfl rfl (by kernel_rfl) rfl (by kernel_rfl) rfl (by kernel_rfl) (fun _ h => h.sub (List.Sublist.cons _ (List.Sublist.cons _ (List.Sublist.refl _)))) ?_
          refine HH.done (s' := [(4, .pointer (some ⟨g189, 0, none⟩)), (5, .bool false), (6, .pointer (some ⟨g207, 0, none⟩)), (7, .pointer (some ⟨g206, 0, none⟩))]) [4, 5, 6, 7] (by kernel_rfl) (by kernel_rfl) ?_
          exact NN.cut (g206, g207) (List.Perm.swap _ _ _) rfl
      · skip
        refine HS.alloc 78 [.int .i64 0, .int .i64 0, .int .i64 0, .int .i64 0, .int .i64 0, .int .i64 0] rfl (by kernel_rfl) rfl (by kernel_rfl) (fun _ h => h) (fun g208 => ?_)
        refine HH.all2 3 5 (by kernel_rfl) ?_ ?_
        · skip
          refine HS.call 65 #[.agg #[.int .i64 a1_0, .int .i64 a1_1, .int .i64 a1_2, .int .i64 a1_3, .int .i64 a1_4, .int .i64 a1_5]] (.agg #[.int .i64 x191_1, .int .i64 x191_2, .int .i64 x191_3, .int .i64 x191_4, .int .i64 x191_5, .int .i64 x191_6]) rfl (by kernel_rfl) (fun w => by kernel_rfl) (fun _ h => h.sub (List.Sublist.cons _ (List.Sublist.refl _))) (fun w hw => defect_axes.calls a1_0 a1_1 a1_2 a1_3 a1_4 a1_5   _ _ _ _ _ _ w   hx191) ?_
          refine HH.all1 5 (by kernel_rfl) ?_
          refine HS.alloc 78 [.int .i64 0, .int .i64 0, .int .i64 0, .int .i64 0, .int .i64 0, .int .i64 0] rfl (by kernel_rfl) rfl (by kernel_rfl) (fun _ h => h.sub (List.Sublist.cons _ (List.Sublist.refl _))) (fun g209 => ?_)
          refine HH.all1 6 (by kernel_rfl) ?_
          refine HS.store 1 g208 0 78 (.tmp 6) (.tmp 10) [.int .i64 x190_1, .int .i64 x190_2, .int .i64 x190_3, .int .i64 x190_4, .int .i64 x190_5, .int .i64 x190_6] (bs' := [(g209, cl [.int .i64 0, .int .i64 0, .int .i64 0, .int .i64 0, .int .i64 0, .int .i64 0] 78), (g208, cl [.int .i64 x190_1, .int .i64 x190_2, .int .i64 x190_3, .int .i64 x190_4, .int .i64 x190_5, .int .i64 x190_6] 78), (g189, cl [.int .i64 0, .int .i64 0, .int .i64 0, .int .i64 0, .int .i64 0, .int .i64 0] 25), (g188, cl [.int .i64 a1_0, .int .i64 a1_1, .int .i64 a1_2, .int .i64 a1_3, .int .i64 a1_4, .int .i64 a1_5] 25), (g187, cl [.int .i64 a0_0, .int .i64 a0_1, .int .i64 a0_2, .int .i64 a0_3, .int .i64 a0_4, .int .i64 a0_5] 25)]) rfl rfl (by kernel_rfl) rfl (by kernel_rfl) rfl (by kernel_rfl) (fun _ h => h.sub (List.Sublist.cons _ (List.Sublist.cons _ (List.Sublist.refl _)))) ?_
          refine HH.all1 7 (by kernel_rfl) ?_
          refine HS.store 0 g209 0 78 (.tmp 7) (.tmp 12) [.int .i64 x191_1, .int .i64 x191_2, .int .i64 x191_3, .int .i64 x191_4, .int .i64 x191_5, .int .i64 x191_6] (bs' := [(g209, cl [.int .i64 x191_1, .int .i64 x191_2, .int .i64 x191_3, .int .i64 x191_4, .int .i64 x191_5, .int .i64 x191_6] 78), (g208, cl [.int .i64 x190_1, .int .i64 x190_2, .int .i64 x190_3, .int .i64 x190_4, .int .i64 x190_5, .int .i64 x190_6] 78), (g189, cl [.int .i64 0, .int .i64 0, .int .i64 0, .int .i64 0, .int .i64 0, .int .i64 0] 25), (g188, cl [.int .i64 a1_0, .int .i64 a1_1, .int .i64 a1_2, .int .i64 a1_3, .int .i64 a1_4, .int .i64 a1_5] 25), (g187, cl [.int .i64 a0_0, .int .i64 a0_1, .int .i64 a0_2, .int .i64 a0_3, .int .i64 a0_4, .int .i64 a0_5] 25)]) rfl rfl (by kernel_rfl) rfl (by kernel_rfl) rfl (by kernel_rfl) (fun _ h => h.sub (List.Sublist.cons _ (List.Sublist.cons _ (List.Sublist.refl _)))) ?_
          refine HH.done (s' := [(4, .pointer (some ⟨g189, 0, none⟩)), (5, .bool false), (6, .pointer (some ⟨g208, 0, none⟩)), (7, .pointer (some ⟨g209, 0, none⟩))]) [4, 5, 6, 7] (by kernel_rfl) (by kernel_rfl) ?_
          exact NN.cut (g209, g208) (List.Perm.refl _) rfl
        · skip
          refine HS.alloc 78 [.int .i64 0, .int .i64 0, .int .i64 0, .int .i64 0, .int .i64 0, .int .i64 0] rfl (by kernel_rfl) rfl (by kernel_rfl) (fun _ h => h.sub (List.Sublist.cons _ (List.Sublist.refl _))) (fun g210 => ?_)
          refine HH.all1 3 (by kernel_rfl) ?_
          refine HS.call 65 #[.agg #[.int .i64 a1_0, .int .i64 a1_1, .int .i64 a1_2, .int .i64 a1_3, .int .i64 a1_4, .int .i64 a1_5]] (.agg #[.int .i64 x191_1, .int .i64 x191_2, .int .i64 x191_3, .int .i64 x191_4, .int .i64 x191_5, .int .i64 x191_6]) rfl (by kernel_rfl) (fun w => by kernel_rfl) (fun _ h => h.sub (List.Sublist.cons _ (List.Sublist.cons _ (List.Sublist.refl _)))) (fun w hw => defect_axes.calls a1_0 a1_1 a1_2 a1_3 a1_4 a1_5   _ _ _ _ _ _ w   hx191) ?_
          refine HH.all1 6 (by kernel_rfl) ?_
          refine HS.store 1 g208 0 78 (.tmp 6) (.tmp 10) [.int .i64 x190_1, .int .i64 x190_2, .int .i64 x190_3, .int .i64 x190_4, .int .i64 x190_5, .int .i64 x190_6] (bs' := [(g210, cl [.int .i64 0, .int .i64 0, .int .i64 0, .int .i64 0, .int .i64 0, .int .i64 0] 78), (g208, cl [.int .i64 x190_1, .int .i64 x190_2, .int .i64 x190_3, .int .i64 x190_4, .int .i64 x190_5, .int .i64 x190_6] 78), (g189, cl [.int .i64 0, .int .i64 0, .int .i64 0, .int .i64 0, .int .i64 0, .int .i64 0] 25), (g188, cl [.int .i64 a1_0, .int .i64 a1_1, .int .i64 a1_2, .int .i64 a1_3, .int .i64 a1_4, .int .i64 a1_5] 25), (g187, cl [.int .i64 a0_0, .int .i64 a0_1, .int .i64 a0_2, .int .i64 a0_3, .int .i64 a0_4, .int .i64 a0_5] 25)]) rfl rfl (by kernel_rfl) rfl (by kernel_rfl) rfl (by kernel_rfl) (fun _ h => h.sub (List.Sublist.cons _ (List.Sublist.cons _ (List.Sublist.refl _)))) ?_
          refine HH.all1 7 (by kernel_rfl) ?_
          refine HS.store 0 g210 0 78 (.tmp 7) (.tmp 12) [.int .i64 x191_1, .int .i64 x191_2, .int .i64 x191_3, .int .i64 x191_4, .int .i64 x191_5, .int .i64 x191_6] (bs' := [(g210, cl [.int .i64 x191_1, .int .i64 x191_2, .int .i64 x191_3, .int .i64 x191_4, .int .i64 x191_5, .int .i64 x191_6] 78), (g208, cl [.int .i64 x190_1, .int .i64 x190_2, .int .i64 x190_3, .int .i64 x190_4, .int .i64 x190_5, .int .i64 x190_6] 78), (g189, cl [.int .i64 0, .int .i64 0, .int .i64 0, .int .i64 0, .int .i64 0, .int .i64 0] 25), (g188, cl [.int .i64 a1_0, .int .i64 a1_1, .int .i64 a1_2, .int .i64 a1_3, .int .i64 a1_4, .int .i64 a1_5] 25), (g187, cl [.int .i64 a0_0, .int .i64 a0_1, .int .i64 a0_2, .int .i64 a0_3, .int .i64 a0_4, .int .i64 a0_5] 25)]) rfl rfl (by kernel_rfl) rfl (by kernel_rfl) rfl (by kernel_rfl) (fun _ h => h.sub (List.Sublist.cons _ (List.Sublist.cons _ (List.Sublist.refl _)))) ?_
          refine HH.done (s' := [(4, .pointer (some ⟨g189, 0, none⟩)), (5, .bool false), (6, .pointer (some ⟨g208, 0, none⟩)), (7, .pointer (some ⟨g210, 0, none⟩))]) [4, 5, 6, 7] (by kernel_rfl) (by kernel_rfl) ?_
          exact NN.cut (g210, g208) (List.Perm.refl _) rfl
      · skip
        refine HS.alloc 78 [.int .i64 0, .int .i64 0, .int .i64 0, .int .i64 0, .int .i64 0, .int .i64 0] rfl (by kernel_rfl) rfl (by kernel_rfl) (fun _ h => h) (fun g211 => ?_)
        refine HH.all2 3 4 (by kernel_rfl) ?_ ?_
        · skip
          refine HS.call 65 #[.agg #[.int .i64 a1_0, .int .i64 a1_1, .int .i64 a1_2, .int .i64 a1_3, .int .i64 a1_4, .int .i64 a1_5]] (.agg #[.int .i64 x191_1, .int .i64 x191_2, .int .i64 x191_3, .int .i64 x191_4, .int .i64 x191_5, .int .i64 x191_6]) rfl (by kernel_rfl) (fun w => by kernel_rfl) (fun _ h => h.sub (List.Sublist.cons _ (List.Sublist.refl _))) (fun w hw => defect_axes.calls a1_0 a1_1 a1_2 a1_3 a1_4 a1_5   _ _ _ _ _ _ w   hx191) ?_
          refine HH.all1 4 (by kernel_rfl) ?_
          refine HS.alloc 78 [.int .i64 0, .int .i64 0, .int .i64 0, .int .i64 0, .int .i64 0, .int .i64 0] rfl (by kernel_rfl) rfl (by kernel_rfl) (fun _ h => h.sub (List.Sublist.cons _ (List.Sublist.refl _))) (fun g212 => ?_)
          refine HH.all1 6 (by kernel_rfl) ?_
          refine HS.store 0 g212 0 78 (.tmp 6) (.tmp 10) [.int .i64 x190_1, .int .i64 x190_2, .int .i64 x190_3, .int .i64 x190_4, .int .i64 x190_5, .int .i64 x190_6] (bs' := [(g212, cl [.int .i64 x190_1, .int .i64 x190_2, .int .i64 x190_3, .int .i64 x190_4, .int .i64 x190_5, .int .i64 x190_6] 78), (g211, cl [.int .i64 0, .int .i64 0, .int .i64 0, .int .i64 0, .int .i64 0, .int .i64 0] 78), (g189, cl [.int .i64 0, .int .i64 0, .int .i64 0, .int .i64 0, .int .i64 0, .int .i64 0] 25), (g188, cl [.int .i64 a1_0, .int .i64 a1_1, .int .i64 a1_2, .int .i64 a1_3, .int .i64 a1_4, .int .i64 a1_5] 25), (g187, cl [.int .i64 a0_0, .int .i64 a0_1, .int .i64 a0_2, .int .i64 a0_3, .int .i64 a0_4, .int .i64 a0_5] 25)]) rfl rfl (by kernel_rfl) rfl (by kernel_rfl) rfl (by kernel_rfl) (fun _ h => h.sub (List.Sublist.cons _ (List.Sublist.cons _ (List.Sublist.refl _)))) ?_
          refine HH.all1 7 (by kernel_rfl) ?_
          refine HS.store 1 g211 0 78 (.tmp 7) (.tmp 12) [.int .i64 x191_1, .int .i64 x191_2, .int .i64 x191_3, .int .i64 x191_4, .int .i64 x191_5, .int .i64 x191_6] (bs' := [(g212, cl [.int .i64 x190_1, .int .i64 x190_2, .int .i64 x190_3, .int .i64 x190_4, .int .i64 x190_5, .int .i64 x190_6] 78), (g211, cl [.int .i64 x191_1, .int .i64 x191_2, .int .i64 x191_3, .int .i64 x191_4, .int .i64 x191_5, .int .i64 x191_6] 78), (g189, cl [.int .i64 0, .int .i64 0, .int .i64 0, .int .i64 0, .int .i64 0, .int .i64 0] 25), (g188, cl [.int .i64 a1_0, .int .i64 a1_1, .int .i64 a1_2, .int .i64 a1_3, .int .i64 a1_4, .int .i64 a1_5] 25), (g187, cl [.int .i64 a0_0, .int .i64 a0_1, .int .i64 a0_2, .int .i64 a0_3, .int .i64 a0_4, .int .i64 a0_5] 25)]) rfl rfl (by kernel_rfl) rfl (by kernel_rfl) rfl (by kernel_rfl) (fun _ h => h.sub (List.Sublist.cons _ (List.Sublist.cons _ (List.Sublist.refl _)))) ?_
          refine HH.done (s' := [(4, .pointer (some ⟨g189, 0, none⟩)), (5, .bool false), (6, .pointer (some ⟨g212, 0, none⟩)), (7, .pointer (some ⟨g211, 0, none⟩))]) [4, 5, 6, 7] (by kernel_rfl) (by kernel_rfl) ?_
          exact NN.cut (g211, g212) (List.Perm.swap _ _ _) rfl
        · skip
          refine HS.alloc 78 [.int .i64 0, .int .i64 0, .int .i64 0, .int .i64 0, .int .i64 0, .int .i64 0] rfl (by kernel_rfl) rfl (by kernel_rfl) (fun _ h => h.sub (List.Sublist.cons _ (List.Sublist.refl _))) (fun g213 => ?_)
          refine HH.all1 3 (by kernel_rfl) ?_
          refine HS.call 65 #[.agg #[.int .i64 a1_0, .int .i64 a1_1, .int .i64 a1_2, .int .i64 a1_3, .int .i64 a1_4, .int .i64 a1_5]] (.agg #[.int .i64 x191_1, .int .i64 x191_2, .int .i64 x191_3, .int .i64 x191_4, .int .i64 x191_5, .int .i64 x191_6]) rfl (by kernel_rfl) (fun w => by kernel_rfl) (fun _ h => h.sub (List.Sublist.cons _ (List.Sublist.cons _ (List.Sublist.refl _)))) (fun w hw => defect_axes.calls a1_0 a1_1 a1_2 a1_3 a1_4 a1_5   _ _ _ _ _ _ w   hx191) ?_
          refine HH.all1 6 (by kernel_rfl) ?_
          refine HS.store 0 g213 0 78 (.tmp 6) (.tmp 10) [.int .i64 x190_1, .int .i64 x190_2, .int .i64 x190_3, .int .i64 x190_4, .int .i64 x190_5, .int .i64 x190_6] (bs' := [(g213, cl [.int .i64 x190_1, .int .i64 x190_2, .int .i64 x190_3, .int .i64 x190_4, .int .i64 x190_5, .int .i64 x190_6] 78), (g211, cl [.int .i64 0, .int .i64 0, .int .i64 0, .int .i64 0, .int .i64 0, .int .i64 0] 78), (g189, cl [.int .i64 0, .int .i64 0, .int .i64 0, .int .i64 0, .int .i64 0, .int .i64 0] 25), (g188, cl [.int .i64 a1_0, .int .i64 a1_1, .int .i64 a1_2, .int .i64 a1_3, .int .i64 a1_4, .int .i64 a1_5] 25), (g187, cl [.int .i64 a0_0, .int .i64 a0_1, .int .i64 a0_2, .int .i64 a0_3, .int .i64 a0_4, .int .i64 a0_5] 25)]) rfl rfl (by kernel_rfl) rfl (by kernel_rfl) rfl (by kernel_rfl) (fun _ h => h.sub (List.Sublist.cons _ (List.Sublist.cons _ (List.Sublist.refl _)))) ?_
          refine HH.all1 7 (by kernel_rfl) ?_
          refine HS.store 1 g211 0 78 (.tmp 7) (.tmp 12) [.int .i64 x191_1, .int .i64 x191_2, .int .i64 x191_3, .int .i64 x191_4, .int .i64 x191_5, .int .i64 x191_6] (bs' := [(g213, cl [.int .i64 x190_1, .int .i64 x190_2, .int .i64 x190_3, .int .i64 x190_4, .int .i64 x190_5, .int .i64 x190_6] 78), (g211, cl [.int .i64 x191_1, .int .i64 x191_2, .int .i64 x191_3, .int .i64 x191_4, .int .i64 x191_5, .int .i64 x191_6] 78), (g189, cl [.int .i64 0, .int .i64 0, .int .i64 0, .int .i64 0, .int .i64 0, .int .i64 0] 25), (g188, cl [.int .i64 a1_0, .int .i64 a1_1, .int .i64 a1_2, .int .i64 a1_3, .int .i64 a1_4, .int .i64 a1_5] 25), (g187, cl [.int .i64 a0_0, .int .i64 a0_1, .int .i64 a0_2, .int .i64 a0_3, .int .i64 a0_4, .int .i64 a0_5] 25)]) rfl rfl (by kernel_rfl) rfl (by kernel_rfl) rfl (by kernel_rfl) (fun _ h => h.sub (List.Sublist.cons _ (List.Sublist.cons _ (List.Sublist.refl _)))) ?_
          refine HH.done (s' := [(4, .pointer (some ⟨g189, 0, none⟩)), (5, .bool false), (6, .pointer (some ⟨g213, 0, none⟩)), (7, .pointer (some ⟨g211, 0, none⟩))]) [4, 5, 6, 7] (by kernel_rfl) (by kernel_rfl) ?_
          exact NN.cut (g211, g213) (List.Perm.swap _ _ _) rfl
    · skip
      refine HS.alloc 78 [.int .i64 0, .int .i64 0, .int .i64 0, .int .i64 0, .int .i64 0, .int .i64 0] rfl (by kernel_rfl) rfl (by kernel_rfl) (fun _ h => h) (fun g214 => ?_)
      refine HH.all2 1 5 (by kernel_rfl) ?_ ?_
      · skip
        refine HS.call 65 #[.agg #[.int .i64 a0_0, .int .i64 a0_1, .int .i64 a0_2, .int .i64 a0_3, .int .i64 a0_4, .int .i64 a0_5]] (.agg #[.int .i64 x190_1, .int .i64 x190_2, .int .i64 x190_3, .int .i64 x190_4, .int .i64 x190_5, .int .i64 x190_6]) rfl (by kernel_rfl) (fun w => by kernel_rfl) (fun _ h => h.sub (List.Sublist.cons _ (List.Sublist.refl _))) (fun w hw => defect_axes.calls a0_0 a0_1 a0_2 a0_3 a0_4 a0_5   _ _ _ _ _ _ w   hx190) ?_
        refine HH.all2 3 5 (by kernel_rfl) ?_ ?_
        · skip
          refine HS.call 65 #[.agg #[.int .i64 a1_0, .int .i64 a1_1, .int .i64 a1_2, .int .i64 a1_3, .int .i64 a1_4, .int .i64 a1_5]] (.agg #[.int .i64 x191_1, .int .i64 x191_2, .int .i64 x191_3, .int .i64 x191_4, .int .i64 x191_5, .int .i64 x191_6]) rfl (by kernel_rfl) (fun w => by kernel_rfl) (fun _ h => h.sub (List.Sublist.cons _ (List.Sublist.refl _))) (fun w hw => defect_axes.calls a1_0 a1_1 a1_2 a1_3 a1_4 a1_5   _ _ _ _ _ _ w   hx191) ?_
          refine HH.all1 5 (by kernel_rfl) ?_
          refine HS.alloc 78 [.int .i64 0, .int .i64 0, .int .i64 0, .int .i64 0, .int .i64 0, .int .i64 0] rfl (by kernel_rfl) rfl (by kernel_rfl) (fun _ h => h.sub (List.Sublist.cons _ (List.Sublist.refl _))) (fun g215 => ?_)
          refine HH.all1 6 (by kernel_rfl) ?_
          refine HS.store 1 g214 0 78 (.tmp 6) (.tmp 10) [.int .i64 x190_1, .int .i64 x190_2, .int .i64 x190_3, .int .i64 x190_4, .int .i64 x190_5, .int .i64 x190_6] (bs' := [(g215, cl [.int .i64 0, .int .i64 0, .int .i64 0, .int .i64 0, .int .i64 0, .int .i64 0] 78), (g214, cl [.int .i64 x190_1, .int .i64 x190_2, .int .i64 x190_3, .int .i64 x190_4, .int .i64 x190_5, .int .i64 x190_6] 78), (g189, cl [.int .i64 0, .int .i64 0, .int .i64 0, .int .i64 0, .int .i64 0, .int .i64 0] 25), (g188, cl [.int .i64 a1_0, .int .i64 a1_1, .int .i64 a1_2, .int .i64 a1_3, .int .i64 a1_4, .int .i64 a1_5] 25), (g187, cl [.int .i64 a0_0, .int .i64 a0_1, .int .i64 a0_2, .int .i64 a0_3, .int .i64 a0_4, .int .i64 a0_5] 25)]) rfl rfl (by kernel_rfl) rfl (by kernel_rfl) rfl (by kernel_rfl) (fun _ h => h.sub (List.Sublist.cons _ (List.Sublist.cons _ (List.Sublist.refl _)))) ?_
          refine HH.all1 7 (by kernel_rfl) ?_
          refine HS.store 0 g215 0 78 (.tmp 7) (.tmp 12) [.int .i64 x191_1, .int .i64 x191_2, .int .i64 x191_3, .int .i64 x191_4, .int .i64 x191_5, .int .i64 x191_6] (bs' := [(g215, cl [.int .i64 x191_1, .int .i64 x191_2, .int .i64 x191_3, .int .i64 x191_4, .int .i64 x191_5, .int .i64 x191_6] 78), (g214, cl [.int .i64 x190_1, .int .i64 x190_2, .int .i64 x190_3, .int .i64 x190_4, .int .i64 x190_5, .int .i64 x190_6] 78), (g189, cl [.int .i64 0, .int .i64 0, .int .i64 0, .int .i64 0, .int .i64 0, .int .i64 0] 25), (g188, cl [.int .i64 a1_0, .int .i64 a1_1, .int .i64 a1_2, .int .i64 a1_3, .int .i64 a1_4, .int .i64 a1_5] 25), (g187, cl [.int .i64 a0_0, .int .i64 a0_1, .int .i64 a0_2, .int .i64 a0_3, .int .i64 a0_4, .int .i64 a0_5] 25)]) rfl rfl (by kernel_rfl) rfl (by kernel_rfl) rfl (by kernel_rfl) (fun _ h => h.sub (List.Sublist.cons _ (List.Sublist.cons _ (List.Sublist.refl _)))) ?_
          refine HH.done (s' := [(4, .pointer (some ⟨g189, 0, none⟩)), (5, .bool false), (6, .pointer (some ⟨g214, 0, none⟩)), (7, .pointer (some ⟨g215, 0, none⟩))]) [4, 5, 6, 7] (by kernel_rfl) (by kernel_rfl) ?_
          exact NN.cut (g215, g214) (List.Perm.refl _) rfl
        · skip
          refine HS.alloc 78 [.int .i64 0, .int .i64 0, .int .i64 0, .int .i64 0, .int .i64 0, .int .i64 0] rfl (by kernel_rfl) rfl (by kernel_rfl) (fun _ h => h.sub (List.Sublist.cons _ (List.Sublist.refl _))) (fun g216 => ?_)
          refine HH.all1 3 (by kernel_rfl) ?_
          refine HS.call 65 #[.agg #[.int .i64 a1_0, .int .i64 a1_1, .int .i64 a1_2, .int .i64 a1_3, .int .i64 a1_4, .int .i64 a1_5]] (.agg #[.int .i64 x191_1, .int .i64 x191_2, .int .i64 x191_3, .int .i64 x191_4, .int .i64 x191_5, .int .i64 x191_6]) rfl (by kernel_rfl) (fun w => by kernel_rfl) (fun _ h => h.sub (List.Sublist.cons _ (List.Sublist.cons _ (List.Sublist.refl _)))) (fun w hw => defect_axes.calls a1_0 a1_1 a1_2 a1_3 a1_4 a1_5   _ _ _ _ _ _ w   hx191) ?_
          refine HH.all1 6 (by kernel_rfl) ?_
          refine HS.store 1 g214 0 78 (.tmp 6) (.tmp 10) [.int .i64 x190_1, .int .i64 x190_2, .int .i64 x190_3, .int .i64 x190_4, .int .i64 x190_5, .int .i64 x190_6] (bs' := [(g216, cl [.int .i64 0, .int .i64 0, .int .i64 0, .int .i64 0, .int .i64 0, .int .i64 0] 78), (g214, cl [.int .i64 x190_1, .int .i64 x190_2, .int .i64 x190_3, .int .i64 x190_4, .int .i64 x190_5, .int .i64 x190_6] 78), (g189, cl [.int .i64 0, .int .i64 0, .int .i64 0, .int .i64 0, .int .i64 0, .int .i64 0] 25), (g188, cl [.int .i64 a1_0, .int .i64 a1_1, .int .i64 a1_2, .int .i64 a1_3, .int .i64 a1_4, .int .i64 a1_5] 25), (g187, cl [.int .i64 a0_0, .int .i64 a0_1, .int .i64 a0_2, .int .i64 a0_3, .int .i64 a0_4, .int .i64 a0_5] 25)]) rfl rfl (by kernel_rfl) rfl (by kernel_rfl) rfl (by kernel_rfl) (fun _ h => h.sub (List.Sublist.cons _ (List.Sublist.cons _ (List.Sublist.refl _)))) ?_
          refine HH.all1 7 (by kernel_rfl) ?_
          refine HS.store 0 g216 0 78 (.tmp 7) (.tmp 12) [.int .i64 x191_1, .int .i64 x191_2, .int .i64 x191_3, .int .i64 x191_4, .int .i64 x191_5, .int .i64 x191_6] (bs' := [(g216, cl [.int .i64 x191_1, .int .i64 x191_2, .int .i64 x191_3, .int .i64 x191_4, .int .i64 x191_5, .int .i64 x191_6] 78), (g214, cl [.int .i64 x190_1, .int .i64 x190_2, .int .i64 x190_3, .int .i64 x190_4, .int .i64 x190_5, .int .i64 x190_6] 78), (g189, cl [.int .i64 0, .int .i64 0, .int .i64 0, .int .i64 0, .int .i64 0, .int .i64 0] 25), (g188, cl [.int .i64 a1_0, .int .i64 a1_1, .int .i64 a1_2, .int .i64 a1_3, .int .i64 a1_4, .int .i64 a1_5] 25), (g187, cl [.int .i64 a0_0, .int .i64 a0_1, .int .i64 a0_2, .int .i64 a0_3, .int .i64 a0_4, .int .i64 a0_5] 25)]) rfl rfl (by kernel_rfl) rfl (by kernel_rfl) rfl (by kernel_rfl) (fun _ h => h.sub (List.Sublist.cons _ (List.Sublist.cons _ (List.Sublist.refl _)))) ?_
          refine HH.done (s' := [(4, .pointer (some ⟨g189, 0, none⟩)), (5, .bool false), (6, .pointer (some ⟨g214, 0, none⟩)), (7, .pointer (some ⟨g216, 0, none⟩))]) [4, 5, 6, 7] (by kernel_rfl) (by kernel_rfl) ?_
          exact NN.cut (g216, g214) (List.Perm.refl _) rfl
      · skip
        refine HS.alloc 78 [.int .i64 0, .int .i64 0, .int .i64 0, .int .i64 0, .int .i64 0, .int .i64 0] rfl (by kernel_rfl) rfl (by kernel_rfl) (fun _ h => h.sub (List.Sublist.cons _ (List.Sublist.refl _))) (fun g217 => ?_)
        refine HH.all1 1 (by kernel_rfl) ?_
        refine HS.call 65 #[.agg #[.int .i64 a0_0, .int .i64 a0_1, .int .i64 a0_2, .int .i64 a0_3, .int .i64 a0_4, .int .i64 a0_5]] (.agg #[.int .i64 x190_1, .int .i64 x190_2, .int .i64 x190_3, .int .i64 x190_4, .int .i64 x190_5, .int .i64 x190_6]) rfl (by kernel_rfl) (fun w => by kernel_rfl) (fun _ h => h.sub (List.Sublist.cons _ (List.Sublist.cons _ (List.Sublist.refl _)))) (fun w hw => defect_axes.calls a0_0 a0_1 a0_2 a0_3 a0_4 a0_5   _ _ _ _ _ _ w   hx190) ?_
        refine HH.all1 3 (by kernel_rfl) ?_
        refine HS.call 65 #[.agg #[.int .i64 a1_0, .int .i64 a1_1, .int .i64 a1_2, .int .i64 a1_3, .int .i64 a1_4, .int .i64 a1_5]] (.agg #[.int .i64 x191_1, .int .i64 x191_2, .int .i64 x191_3, .int .i64 x191_4, .int .i64 x191_5, .int .i64 x191_6]) rfl (by kernel_rfl) (fun w => by kernel_rfl) (fun _ h => h.sub (List.Sublist.cons _ (List.Sublist.cons _ (List.Sublist.refl _)))) (fun w hw => defect_axes.calls a1_0 a1_1 a1_2 a1_3 a1_4 a1_5   _ _ _ _ _ _ w   hx191) ?_
        refine HH.all1 6 (by kernel_rfl) ?_
        refine HS.store 1 g214 0 78 (.tmp 6) (.tmp 10) [.int .i64 x190_1, .int .i64 x190_2, .int .i64 x190_3, .int .i64 x190_4, .int .i64 x190_5, .int .i64 x190_6] (bs' := [(g217, cl [.int .i64 0, .int .i64 0, .int .i64 0, .int .i64 0, .int .i64 0, .int .i64 0] 78), (g214, cl [.int .i64 x190_1, .int .i64 x190_2, .int .i64 x190_3, .int .i64 x190_4, .int .i64 x190_5, .int .i64 x190_6] 78), (g189, cl [.int .i64 0, .int .i64 0, .int .i64 0, .int .i64 0, .int .i64 0, .int .i64 0] 25), (g188, cl [.int .i64 a1_0, .int .i64 a1_1, .int .i64 a1_2, .int .i64 a1_3, .int .i64 a1_4, .int .i64 a1_5] 25), (g187, cl [.int .i64 a0_0, .int .i64 a0_1, .int .i64 a0_2, .int .i64 a0_3, .int .i64 a0_4, .int .i64 a0_5] 25)]) rfl rfl (by kernel_rfl) rfl (by kernel_rfl) rfl (by kernel_rfl) (fun _ h => h.sub (List.Sublist.cons _ (List.Sublist.cons _ (List.Sublist.refl _)))) ?_
        refine HH.all1 7 (by kernel_rfl) ?_
        refine HS.store 0 g217 0 78 (.tmp 7) (.tmp 12) [.int .i64 x191_1, .int .i64 x191_2, .int .i64 x191_3, .int .i64 x191_4, .int .i64 x191_5, .int .i64 x191_6] (bs' := [(g217, cl [.int .i64 x191_1, .int .i64 x191_2, .int .i64 x191_3, .int .i64 x191_4, .int .i64 x191_5, .int .i64 x191_6] 78), (g214, cl [.int .i64 x190_1, .int .i64 x190_2, .int .i64 x190_3, .int .i64 x190_4, .int .i64 x190_5, .int .i64 x190_6] 78), (g189, cl [.int .i64 0, .int .i64 0, .int .i64 0, .int .i64 0, .int .i64 0, .int .i64 0] 25), (g188, cl [.int .i64 a1_0, .int .i64 a1_1, .int .i64 a1_2, .int .i64 a1_3, .int .i64 a1_4, .int .i64 a1_5] 25), (g187, cl [.int .i64 a0_0, .int .i64 a0_1, .int .i64 a0_2, .int .i64 a0_3, .int .i64 a0_4, .int .i64 a0_5] 25)]) rfl rfl (by kernel_rfl) rfl (by kernel_rfl) rfl (by kernel_rfl) (fun _ h => h.sub (List.Sublist.cons _ (List.Sublist.cons _ (List.Sublist.refl _)))) ?_
        refine HH.done (s' := [(4, .pointer (some ⟨g189, 0, none⟩)), (5, .bool false), (6, .pointer (some ⟨g214, 0, none⟩)), (7, .pointer (some ⟨g217, 0, none⟩))]) [4, 5, 6, 7] (by kernel_rfl) (by kernel_rfl) ?_
        exact NN.cut (g217, g214) (List.Perm.refl _) rfl
    · skip
      refine HS.alloc 78 [.int .i64 0, .int .i64 0, .int .i64 0, .int .i64 0, .int .i64 0, .int .i64 0] rfl (by kernel_rfl) rfl (by kernel_rfl) (fun _ h => h) (fun g218 => ?_)
      refine HH.all2 1 4 (by kernel_rfl) ?_ ?_
      · skip
        refine HS.call 65 #[.agg #[.int .i64 a0_0, .int .i64 a0_1, .int .i64 a0_2, .int .i64 a0_3, .int .i64 a0_4, .int .i64 a0_5]] (.agg #[.int .i64 x190_1, .int .i64 x190_2, .int .i64 x190_3, .int .i64 x190_4, .int .i64 x190_5, .int .i64 x190_6]) rfl (by kernel_rfl) (fun w => by kernel_rfl) (fun _ h => h.sub (List.Sublist.cons _ (List.Sublist.refl _))) (fun w hw => defect_axes.calls a0_0 a0_1 a0_2 a0_3 a0_4 a0_5   _ _ _ _ _ _ w   hx190) ?_
        refine HH.all2 3 4 (by kernel_rfl) ?_ ?_
        · skip
          refine HS.call 65 #[.agg #[.int .i64 a1_0, .int .i64 a1_1, .int .i64 a1_2, .int .i64 a1_3, .int .i64 a1_4, .int .i64 a1_5]] (.agg #[.int .i64 x191_1, .int .i64 x191_2, .int .i64 x191_3, .int .i64 x191_4, .int .i64 x191_5, .int .i64 x191_6]) rfl (by kernel_rfl) (fun w => by kernel_rfl) (fun _ h => h.sub (List.Sublist.cons _ (List.Sublist.refl _))) (fun w hw => defect_axes.calls a1_0 a1_1 a1_2 a1_3 a1_4 a1_5   _ _ _ _ _ _ w   hx191) ?_
          refine HH.all1 4 (by kernel_rfl) ?_
          refine HS.alloc 78 [.int .i64 0, .int .i64 0, .int .i64 0, .int .i64 0, .int .i64 0, .int .i64 0] rfl (by kernel_rfl) rfl (by kernel_rfl) (fun _ h => h.sub (List.Sublist.cons _ (List.Sublist.refl _))) (fun g219 => ?_)
          refine HH.all1 6 (by kernel_rfl) ?_
          refine HS.store 0 g219 0 78 (.tmp 6) (.tmp 10) [.int .i64 x190_1, .int .i64 x190_2, .int .i64 x190_3, .int .i64 x190_4, .int .i64 x190_5, .int .i64 x190_6] (bs' := [(g219, cl [.int .i64 x190_1, .int .i64 x190_2, .int .i64 x190_3, .int .i64 x190_4, .int .i64 x190_5, .int .i64 x190_6] 78), (g218, cl [.int .i64 0, .int .i64 0, .int .i64 0, .int .i64 0, .int .i64 0, .int .i64 0] 78), (g189, cl [.int .i64 0, .int .i64 0, .int .i64 0, .int .i64 0, .int .i64 0, .int .i64 0] 25), (g188, cl [.int .i64 a1_0, .int .i64 a1_1, .int .i64 a1_2, .int .i64 a1_3, .int .i64 a1_4, .int .i64 a1_5] 25), (g187, cl [.int .i64 a0_0, .int .i64 a0_1, .int .i64 a0_2, .int .i64 a0_3, .int .i64 a0_4, .int .i64 a0_5] 25)]) rfl rfl (by kernel_rfl) rfl (by kernel_rfl) rfl (by kernel_rfl) (fun _ h => h.sub (List.Sublist.cons _ (List.Sublist.cons _ (List.Sublist.refl _)))) ?_
          refine HH.all1 7 (by kernel_rfl) ?_
          refine HS.store 1 g218 0 78 (.tmp 7) (.tmp 12) [.int .i64 x191_1, .int .i64 x191_2, .int .i64 x191_3, .int .i64 x191_4, .int .i64 x191_5, .int .i64 x191_6] (bs' := [(g219, cl [.int .i64 x190_1, .int .i64 x190_2, .int .i64 x190_3, .int .i64 x190_4, .int .i64 x190_5, .int .i64 x190_6] 78), (g218, cl [.int .i64 x191_1, .int .i64 x191_2, .int .i64 x191_3, .int .i64 x191_4, .int .i64 x191_5, .int .i64 x191_6] 78), (g189, cl [.int .i64 0, .int .i64 0, .int .i64 0, .int .i64 0, .int .i64 0, .int .i64 0] 25), (g188, cl [.int .i64 a1_0, .int .i64 a1_1, .int .i64 a1_2, .int .i64 a1_3, .int .i64 a1_4, .int .i64 a1_5] 25), (g187, cl [.int .i64 a0_0, .int .i64 a0_1, .int .i64 a0_2, .int .i64 a0_3, .int .i64 a0_4, .int .i64 a0_5] 25)]) rfl rfl (by kernel_rfl) rfl (by kernel_rfl) rfl (by kernel_rfl) (fun _ h => h.sub (List.Sublist.cons _ (List.Sublist.cons _ (List.Sublist.refl _)))) ?_
          refine HH.done (s' := [(4, .pointer (some ⟨g189, 0, none⟩)), (5, .bool false), (6, .pointer (some ⟨g219, 0, none⟩)), (7, .pointer (some ⟨g218, 0, none⟩))]) [4, 5, 6, 7] (by kernel_rfl) (by kernel_rfl) ?_
          exact NN.cut (g218, g219) (List.Perm.swap _ _ _) rfl
        · skip
          refine HS.alloc 78 [.int .i64 0, .int .i64 0, .int .i64 0, .int .i64 0, .int .i64 0, .int .i64 0] rfl (by kernel_rfl) rfl (by kernel_rfl) (fun _ h => h.sub (List.Sublist.cons _ (List.Sublist.refl _))) (fun g220 => ?_)
          refine HH.all1 3 (by kernel_rfl) ?_
          refine HS.call 65 #[.agg #[.int .i64 a1_0, .int .i64 a1_1, .int .i64 a1_2, .int .i64 a1_3, .int .i64 a1_4, .int .i64 a1_5]] (.agg #[.int .i64 x191_1, .int .i64 x191_2, .int .i64 x191_3, .int .i64 x191_4, .int .i64 x191_5, .int .i64 x191_6]) rfl (by kernel_rfl) (fun w => by kernel_rfl) (fun _ h => h.sub (List.Sublist.cons _ (List.Sublist.cons _ (List.Sublist.refl _)))) (fun w hw => defect_axes.calls a1_0 a1_1 a1_2 a1_3 a1_4 a1_5   _ _ _ _ _ _ w   hx191) ?_
          refine HH.all1 6 (by kernel_rfl) ?_
          refine HS.store 0 g220 0 78 (.tmp 6) (.tmp 10) [.int .i64 x190_1, .int .i64 x190_2, .int .i64 x190_3, .int .i64 x190_4, .int .i64 x190_5, .int .i64 x190_6] (bs' := [(g220, cl [.int .i64 x190_1, .int .i64 x190_2, .int .i64 x190_3, .int .i64 x190_4, .int .i64 x190_5, .int .i64 x190_6] 78), (g218, cl [.int .i64 0, .int .i64 0, .int .i64 0, .int .i64 0, .int .i64 0, .int .i64 0] 78), (g189, cl [.int .i64 0, .int .i64 0, .int .i64 0, .int .i64 0, .int .i64 0, .int .i64 0] 25), (g188, cl [.int .i64 a1_0, .int .i64 a1_1, .int .i64 a1_2, .int .i64 a1_3, .int .i64 a1_4, .int .i64 a1_5] 25), (g187, cl [.int .i64 a0_0, .int .i64 a0_1, .int .i64 a0_2, .int .i64 a0_3, .int .i64 a0_4, .int .i64 a0_5] 25)]) rfl rfl (by kernel_rfl) rfl (by kernel_rfl) rfl (by kernel_rfl) (fun _ h => h.sub (List.Sublist.cons _ (List.Sublist.cons _ (List.Sublist.refl _)))) ?_
          refine HH.all1 7 (by kernel_rfl) ?_
          refine HS.store 1 g218 0 78 (.tmp 7) (.tmp 12) [.int .i64 x191_1, .int .i64 x191_2, .int .i64 x191_3, .int .i64 x191_4, .int .i64 x191_5, .int .i64 x191_6] (bs' := [(g220, cl [.int .i64 x190_1, .int .i64 x190_2, .int .i64 x190_3, .int .i64 x190_4, .int .i64 x190_5, .int .i64 x190_6] 78), (g218, cl [.int .i64 x191_1, .int .i64 x191_2, .int .i64 x191_3, .int .i64 x191_4, .int .i64 x191_5, .int .i64 x191_6] 78), (g189, cl [.int .i64 0, .int .i64 0, .int .i64 0, .int .i64 0, .int .i64 0, .int .i64 0] 25), (g188, cl [.int .i64 a1_0, .int .i64 a1_1, .int .i64 a1_2, .int .i64 a1_3, .int .i64 a1_4, .int .i64 a1_5] 25), (g187, cl [.int .i64 a0_0, .int .i64 a0_1, .int .i64 a0_2, .int .i64 a0_3, .int .i64 a0_4, .int .i64 a0_5] 25)]) rfl rfl (by kernel_rfl) rfl (by kernel_rfl) rfl (by kernel_rfl) (fun _ h => h.sub (List.Sublist.cons _ (List.Sublist.cons _ (List.Sublist.refl _)))) ?_
          refine HH.done (s' := [(4, .pointer (some ⟨g189, 0, none⟩)), (5, .bool false), (6, .pointer (some ⟨g220, 0, none⟩)), (7, .pointer (some ⟨g218, 0, none⟩))]) [4, 5, 6, 7] (by kernel_rfl) (by kernel_rfl) ?_
          exact NN.cut (g218, g220) (List.Perm.swap _ _ _) rfl
      · skip
        refine HS.alloc 78 [.int .i64 0, .int .i64 0, .int .i64 0, .int .i64 0, .int .i64 0, .int .i64 0] rfl (by kernel_rfl) rfl (by kernel_rfl) (fun _ h => h.sub (List.Sublist.cons _ (List.Sublist.refl _))) (fun g221 => ?_)
        refine HH.all1 1 (by kernel_rfl) ?_
        refine HS.call 65 #[.agg #[.int .i64 a0_0, .int .i64 a0_1, .int .i64 a0_2, .int .i64 a0_3, .int .i64 a0_4, .int .i64 a0_5]] (.agg #[.int .i64 x190_1, .int .i64 x190_2, .int .i64 x190_3, .int .i64 x190_4, .int .i64 x190_5, .int .i64 x190_6]) rfl (by kernel_rfl) (fun w => by kernel_rfl) (fun _ h => h.sub (List.Sublist.cons _ (List.Sublist.cons _ (List.Sublist.refl _)))) (fun w hw => defect_axes.calls a0_0 a0_1 a0_2 a0_3 a0_4 a0_5   _ _ _ _ _ _ w   hx190) ?_
        refine HH.all1 3 (by kernel_rfl) ?_
        refine HS.call 65 #[.agg #[.int .i64 a1_0, .int .i64 a1_1, .int .i64 a1_2, .int .i64 a1_3, .int .i64 a1_4, .int .i64 a1_5]] (.agg #[.int .i64 x191_1, .int .i64 x191_2, .int .i64 x191_3, .int .i64 x191_4, .int .i64 x191_5, .int .i64 x191_6]) rfl (by kernel_rfl) (fun w => by kernel_rfl) (fun _ h => h.sub (List.Sublist.cons _ (List.Sublist.cons _ (List.Sublist.refl _)))) (fun w hw => defect_axes.calls a1_0 a1_1 a1_2 a1_3 a1_4 a1_5   _ _ _ _ _ _ w   hx191) ?_
        refine HH.all1 6 (by kernel_rfl) ?_
        refine HS.store 0 g221 0 78 (.tmp 6) (.tmp 10) [.int .i64 x190_1, .int .i64 x190_2, .int .i64 x190_3, .int .i64 x190_4, .int .i64 x190_5, .int .i64 x190_6] (bs' := [(g221, cl [.int .i64 x190_1, .int .i64 x190_2, .int .i64 x190_3, .int .i64 x190_4, .int .i64 x190_5, .int .i64 x190_6] 78), (g218, cl [.int .i64 0, .int .i64 0, .int .i64 0, .int .i64 0, .int .i64 0, .int .i64 0] 78), (g189, cl [.int .i64 0, .int .i64 0, .int .i64 0, .int .i64 0, .int .i64 0, .int .i64 0] 25), (g188, cl [.int .i64 a1_0, .int .i64 a1_1, .int .i64 a1_2, .int .i64 a1_3, .int .i64 a1_4, .int .i64 a1_5] 25), (g187, cl [.int .i64 a0_0, .int .i64 a0_1, .int .i64 a0_2, .int .i64 a0_3, .int .i64 a0_4, .int .i64 a0_5] 25)]) rfl rfl (by kernel_rfl) rfl (by kernel_rfl) rfl (by kernel_rfl) (fun _ h => h.sub (List.Sublist.cons _ (List.Sublist.cons _ (List.Sublist.refl _)))) ?_
        refine HH.all1 7 (by kernel_rfl) ?_
        refine HS.store 1 g218 0 78 (.tmp 7) (.tmp 12) [.int .i64 x191_1, .int .i64 x191_2, .int .i64 x191_3, .int .i64 x191_4, .int .i64 x191_5, .int .i64 x191_6] (bs' := [(g221, cl [.int .i64 x190_1, .int .i64 x190_2, .int .i64 x190_3, .int .i64 x190_4, .int .i64 x190_5, .int .i64 x190_6] 78), (g218, cl [.int .i64 x191_1, .int .i64 x191_2, .int .i64 x191_3, .int .i64 x191_4, .int .i64 x191_5, .int .i64 x191_6] 78), (g189, cl [.int .i64 0, .int .i64 0, .int .i64 0, .int .i64 0, .int .i64 0, .int .i64 0] 25), (g188, cl [.int .i64 a1_0, .int .i64 a1_1, .int .i64 a1_2, .int .i64 a1_3, .int .i64 a1_4, .int .i64 a1_5] 25), (g187, cl [.int .i64 a0_0, .int .i64 a0_1, .int .i64 a0_2, .int .i64 a0_3, .int .i64 a0_4, .int .i64 a0_5] 25)]) rfl rfl (by kernel_rfl) rfl (by kernel_rfl) rfl (by kernel_rfl) (fun _ h => h.sub (List.Sublist.cons _ (List.Sublist.cons _ (List.Sublist.refl _)))) ?_
        refine HH.done (s' := [(4, .pointer (some ⟨g189, 0, none⟩)), (5, .bool false), (6, .pointer (some ⟨g221, 0, none⟩)), (7, .pointer (some ⟨g218, 0, none⟩))]) [4, 5, 6, 7] (by kernel_rfl) (by kernel_rfl) ?_
        exact NN.cut (g218, g221) (List.Perm.swap _ _ _) rfl
  · rintro ⟨g198, g197⟩
    (try dsimp only)
    refine NN.then ?_
    refine J.seq ?_
    refine J.seq ?_
    refine J.plain ?_
    refine LL.op (.int .i64 0) (by kernel_rfl) (fun w _ => by kernel_rfl) ?_
    refine LL.done (s' := [(4, .pointer (some ⟨g189, 0, none⟩)), (5, .bool false), (6, .pointer (some ⟨g197, 0, none⟩)), (7, .pointer (some ⟨g198, 0, none⟩)), (13, .int .i64 0)]) [4, 5, 6, 7, 13] (by kernel_rfl) ?_
    refine NN.then ?_
    refine J.block ?_
    refine J.rounds 3 ?_
    refine J.seq ?_
    refine J.plain ?_
    refine LL.op (.bool true) (by kernel_rfl) (fun w _ => by kernel_rfl) ?_
    refine LL.done (s' := [(4, .pointer (some ⟨g189, 0, none⟩)), (5, .bool false), (6, .pointer (some ⟨g197, 0, none⟩)), (7, .pointer (some ⟨g198, 0, none⟩)), (13, .int .i64 0), (14, .bool true)]) [4, 5, 6, 7, 13, 14] (by kernel_rfl) ?_
    refine NN.then ?_
    refine J.seq ?_
    refine J.condT (b := true) rfl (by kernel_rfl) (by kernel_rfl) ?_
    refine J.skip ?_
    refine NN.then ?_
    refine J.seq ?_
    refine J.block ?_
    refine J.seq ?_
    refine J.plain ?_
    refine LL.op (.int .i64 0) (by kernel_rfl) (fun w _ => by kernel_rfl) ?_
    refine LL.op (.int .i64 0) (by kernel_rfl) (fun w _ => by kernel_rfl) ?_
    refine LL.done (s' := [(4, .pointer (some ⟨g189, 0, none⟩)), (5, .bool false), (6, .pointer (some ⟨g197, 0, none⟩)), (7, .pointer (some ⟨g198, 0, none⟩)), (8, .int .i64 0), (13, .int .i64 0), (14, .bool true), (15, .int .i64 0)]) [4, 5, 6, 7, 8, 13, 14, 15] (by kernel_rfl) ?_
    refine NN.then ?_
    refine J.seq ?_
    obtain ⟨⟨x199_1, x199_2⟩, hx199, H⟩ := bind_some H
    (try dsimp only at H)
    refine J.heldBut [(g198, cl [.int .i64 x191_1, .int .i64 x191_2, .int .i64 x191_3, .int .i64 x191_4, .int .i64 x191_5, .int .i64 x191_6] 78), (g189, cl [.int .i64 0, .int .i64 0, .int .i64 0, .int .i64 0, .int .i64 0, .int .i64 0] 25), (g188, cl [.int .i64 a1_0, .int .i64 a1_1, .int .i64 a1_2, .int .i64 a1_3, .int .i64 a1_4, .int .i64 a1_5] 25), (g187, cl [.int .i64 a0_0, .int .i64 a0_1, .int .i64 a0_2, .int .i64 a0_3, .int .i64 a0_4, .int .i64 a0_5] 25)] follows ?_
    refine HH.take 0 (.int .i64 0) rfl (by kernel_rfl) (by kernel_rfl) (fun _ h => h.sub (List.Sublist.cons_cons _ (List.Sublist.cons _ (List.Sublist.refl _)))) (fun w _ => by kernel_rfl) ?_
    refine HH.take 1 (.int .i64 0) rfl (by kernel_rfl) (by kernel_rfl) (fun _ h => h.sub (List.Sublist.cons_cons _ (List.Sublist.cons _ (List.Sublist.refl _)))) (fun w _ => by kernel_rfl) ?_
    refine HH.take 2 (.pointer (some ⟨g197, 0, none⟩)) rfl (by kernel_rfl) (by kernel_rfl) (fun _ h => h.sub (List.Sublist.cons_cons _ (List.Sublist.cons _ (List.Sublist.refl _)))) (fun w _ => by kernel_rfl) ?_
    refine HH.take 4 (.int .i64 0) rfl (by kernel_rfl) (by kernel_rfl) (fun _ h => h.sub (List.Sublist.cons_cons _ (List.Sublist.cons _ (List.Sublist.refl _)))) (fun w _ => by kernel_rfl) ?_
    refine HH.take 5 (.pointer (some ⟨g198, 0, none⟩)) rfl (by kernel_rfl) (by kernel_rfl) (fun _ h => h.sub (List.Sublist.cons_cons _ (List.Sublist.cons _ (List.Sublist.refl _)))) (fun w _ => by kernel_rfl) ?_
    refine HH.take 6 (.agg #[.int .i64 x191_1, .int .i64 x191_2]) rfl (by kernel_rfl) (by kernel_rfl) (fun _ h => h.sub (List.Sublist.cons_cons _ (List.Sublist.cons _ (List.Sublist.refl _)))) (ld 0 g198 0 rfl (by kernel_rfl) rfl (by kernel_rfl)) ?_
    refine HH.all1 3 (by kernel_rfl) ?_
    refine HS.op (.agg #[.int .i64 x190_1, .int .i64 x190_2]) rfl (by kernel_rfl) (fun _ h => h.sub (List.Sublist.cons_cons _ (List.Sublist.cons _ (List.Sublist.refl _)))) (ld 1 g197 0 rfl (by kernel_rfl) rfl (by kernel_rfl)) ?_
    refine HH.all1 7 (by kernel_rfl) ?_
    refine HS.call 72 #[.agg #[.int .i64 x190_1, .int .i64 x190_2], .agg #[.int .i64 x191_1, .int .i64 x191_2]] (.agg #[.int .i64 x199_1, .int .i64 x199_2]) rfl (by kernel_rfl) (fun w => by kernel_rfl) (fun _ h => h.sub (List.Sublist.cons_cons _ (List.Sublist.cons _ (List.Sublist.refl _)))) (fun w hw => span_Meet.calls x190_1 x190_2 x191_1 x191_2   _ _ w   hx199) ?_
    refine HH.take 8 (.pointer (some ⟨g197, 0, none⟩)) rfl (by kernel_rfl) (by kernel_rfl) (fun _ h => h.sub (List.Sublist.cons_cons _ (List.Sublist.cons _ (List.Sublist.refl _)))) (fun w _ => by kernel_rfl) ?_
    refine HH.all1 9 (by kernel_rfl) ?_
    refine HS.store 1 g197 0 23 (.tmp 24) (.tmp 23) [.int .i64 x199_1, .int .i64 x199_2, .int .i64 x190_3, .int .i64 x190_4, .int .i64 x190_5, .int .i64 x190_6] (bs' := [(g198, cl [.int .i64 x191_1, .int .i64 x191_2, .int .i64 x191_3, .int .i64 x191_4, .int .i64 x191_5, .int .i64 x191_6] 78), (g197, cl [.int .i64 x199_1, .int .i64 x199_2, .int .i64 x190_3, .int .i64 x190_4, .int .i64 x190_5, .int .i64 x190_6] 78), (g189, cl [.int .i64 0, .int .i64 0, .int .i64 0, .int .i64 0, .int .i64 0, .int .i64 0] 25), (g188, cl [.int .i64 a1_0, .int .i64 a1_1, .int .i64 a1_2, .int .i64 a1_3, .int .i64 a1_4, .int .i64 a1_5] 25), (g187, cl [.int .i64 a0_0, .int .i64 a0_1, .int .i64 a0_2, .int .i64 a0_3, .int .i64 a0_4, .int .i64 a0_5] 25)]) rfl rfl (by kernel_rfl) rfl (by kernel_rfl) rfl (by kernel_rfl) (fun _ h => h.sub (List.Sublist.cons_cons _ (List.Sublist.cons _ (List.Sublist.refl _)))) ?_
    refine HH.done (s' := [(4, .pointer (some ⟨g189, 0, none⟩)), (5, .bool false), (6, .pointer (some ⟨g197, 0, none⟩)), (7, .pointer (some ⟨g198, 0, none⟩)), (8, .int .i64 0), (13, .int .i64 0), (14, .bool true), (15, .int .i64 0), (16, .int .i64 0), (17, .int .i64 0), (18, .pointer (some ⟨g197, 0, none⟩)), (19, .agg #[.int .i64 x190_1, .int .i64 x190_2]), (20, .int .i64 0), (21, .pointer (some ⟨g198, 0, none⟩)), (22, .agg #[.int .i64 x191_1, .int .i64 x191_2]), (23, .agg #[.int .i64 x199_1, .int .i64 x199_2]), (24, .pointer (some ⟨g197, 0, none⟩))]) [4, 5, 6, 7, 8, 13, 14, 15, 16, 17, 18, 19, 20, 21, 22, 23, 24] (by kernel_rfl) (by kernel_rfl) ?_
    refine NN.then ?_
    refine J.seq ?_
    refine J.drawn follows (by kernel_rfl) ?_
    refine QQ.op (.int .i64 0) (by kernel_rfl) (fun w _ => by kernel_rfl) ?_
    refine QQ.op (.pointer (some ⟨g197, 0, none⟩)) (by kernel_rfl) (fun w _ => by kernel_rfl) ?_
    refine QQ.op (.pointer (some ⟨g197, 0, none⟩)) (by kernel_rfl) (fun w _ => by kernel_rfl) ?_
    refine QQ.op (.int .i64 x199_1) (by kernel_rfl) (ld 1 g197 0 rfl (by kernel_rfl) rfl (by kernel_rfl)) ?_
    refine QQ.op (.int .i64 0) (by kernel_rfl) (fun w _ => by kernel_rfl) ?_
    refine QQ.op (.pointer (some ⟨g197, 0, none⟩)) (by kernel_rfl) (fun w _ => by kernel_rfl) ?_
    refine QQ.op (.pointer (some ⟨g197, 1, none⟩)) (by kernel_rfl) (fun w _ => by kernel_rfl) ?_
    refine QQ.op (.int .i64 x199_2) (by kernel_rfl) (ld 1 g197 1 rfl (by kernel_rfl) rfl (by kernel_rfl)) ?_
    refine QQ.op (.bool (decide (x199_2 ≤ x199_1))) (by kernel_rfl) (fun w _ => by kernel_rfl) ?_
    refine QQ.done (s' := [(4, .pointer (some ⟨g189, 0, none⟩)), (5, .bool false), (6, .pointer (some ⟨g197, 0, none⟩)), (7, .pointer (some ⟨g198, 0, none⟩)), (8, .int .i64 0), (13, .int .i64 0), (14, .bool true), (15, .int .i64 0), (16, .int .i64 0), (17, .int .i64 0), (18, .pointer (some ⟨g197, 0, none⟩)), (19, .agg #[.int .i64 x190_1, .int .i64 x190_2]), (20, .int .i64 0), (21, .pointer (some ⟨g198, 0, none⟩)), (22, .agg #[.int .i64 x191_1, .int .i64 x191_2]), (23, .agg #[.int .i64 x199_1, .int .i64 x199_2]), (24, .pointer (some ⟨g197, 0, none⟩)), (25, .int .i64 0), (26, .pointer (some ⟨g197, 0, none⟩)), (27, .pointer (some ⟨g197, 0, none⟩)), (28, .int .i64 x199_1), (29, .int .i64 0), (30, .pointer (some ⟨g197, 0, none⟩)), (31, .pointer (some ⟨g197, 1, none⟩)), (32, .int .i64 x199_2), (33, .bool (decide (x199_2 ≤ x199_1)))]) [4, 5, 6, 7, 8, 13, 14, 15, 16, 17, 18, 19, 20, 21, 22, 23, 24, 25, 26, 27, 28, 29, 30, 31, 32, 33] (by kernel_rfl) ?_
    refine NN.then ?_
    rcases Bool.eq_false_or_eq_true (decide (x199_2 ≤ x199_1)) with c200 | c200
    · rw [if_pos (of_decide_eq_true c200)] at H
      refine J.condT (b := decide (x199_2 ≤ x199_1)) c200 (by kernel_rfl) (by kernel_rfl) ?_
      refine J.seq ?_
      refine J.plain ?_
      refine LL.op (.agg #[.int .i64 0, .int .i64 0, .int .i64 0, .int .i64 0, .int .i64 0, .int .i64 0]) (by kernel_rfl) (fun w _ => by kernel_rfl) ?_
      refine LL.store 2 g189 0 25 (.tmp 4) (.tmp 34) [.int .i64 0, .int .i64 0, .int .i64 0, .int .i64 0, .int .i64 0, .int .i64 0] (bs' := [(g198, cl [.int .i64 x191_1, .int .i64 x191_2, .int .i64 x191_3, .int .i64 x191_4, .int .i64 x191_5, .int .i64 x191_6] 78), (g197, cl [.int .i64 x199_1, .int .i64 x199_2, .int .i64 x190_3, .int .i64 x190_4, .int .i64 x190_5, .int .i64 x190_6] 78), (g189, cl [.int .i64 0, .int .i64 0, .int .i64 0, .int .i64 0, .int .i64 0, .int .i64 0] 25), (g188, cl [.int .i64 a1_0, .int .i64 a1_1, .int .i64 a1_2, .int .i64 a1_3, .int .i64 a1_4, .int .i64 a1_5] 25), (g187, cl [.int .i64 a0_0, .int .i64 a0_1, .int .i64 a0_2, .int .i64 a0_3, .int .i64 a0_4, .int .i64 a0_5] 25)]) rfl (by kernel_rfl) rfl (by kernel_rfl) rfl (by kernel_rfl) ?_
      refine LL.op (.bool false) (by kernel_rfl) (fun w _ => by kernel_rfl) ?_
      refine LL.done (s' := [(4, .pointer (some ⟨g189, 0, none⟩)), (5, .bool false), (6, .pointer (some ⟨g197, 0, none⟩)), (7, .pointer (some ⟨g198, 0, none⟩)), (8, .int .i64 0), (13, .int .i64 0), (14, .bool true), (15, .int .i64 0), (16, .int .i64 0), (17, .int .i64 0), (18, .pointer (some ⟨g197, 0, none⟩)), (19, .agg #[.int .i64 x190_1, .int .i64 x190_2]), (20, .int .i64 0), (21, .pointer (some ⟨g198, 0, none⟩)), (22, .agg #[.int .i64 x191_1, .int .i64 x191_2]), (23, .agg #[.int .i64 x199_1, .int .i64 x199_2]), (24, .pointer (some ⟨g197, 0, none⟩)), (25, .int .i64 0), (26, .pointer (some ⟨g197, 0, none⟩)), (27, .pointer (some ⟨g197, 0, none⟩)), (28, .int .i64 x199_1), (29, .int .i64 0), (30, .pointer (some ⟨g197, 0, none⟩)), (31, .pointer (some ⟨g197, 1, none⟩)), (32, .int .i64 x199_2), (33, .bool (decide (x199_2 ≤ x199_1))), (34, .agg #[.int .i64 0, .int .i64 0, .int .i64 0, .int .i64 0, .int .i64 0, .int .i64 0])]) [4, 5, 6, 7, 8, 13, 14, 15, 16, 17, 18, 19, 20, 21, 22, 23, 24, 25, 26, 27, 28, 29, 30, 31, 32, 33, 34] (by kernel_rfl) ?_
      refine NN.then ?_
      refine J.ret ?_
      refine NN.block_ret ?_
      refine NN.then_ret ?_
      refine NN.then_ret ?_
      refine NN.block_ret ?_
      refine NN.then_ret ?_
      refine NN.finV (.tuple #[.agg #[.int .i64 0, .int .i64 0, .int .i64 0, .int .i64 0, .int .i64 0, .int .i64 0], .bool false]) (.inl rfl) ?_ (fun w hi => hi.ret ?_)
      · exact resOk_2 (by kernel_rfl) (.cell (d := 4) (t := 25) 2 g189 0 (by kernel_rfl) rfl (by kernel_rfl)) (.tmp (t := 5) (by kernel_rfl))
      first | (cases H; rfl) | (obtain rfl := Option.some.inj H; rfl) | (simp only [Option.some.injEq, Prod.mk.injEq] at H; obtain ⟨rfl, rfl, rfl, rfl, rfl, rfl, rfl⟩ := H; rfl)
    · rw [if_neg (of_decide_eq_false c200)] at H
      refine J.condF (b := decide (x199_2 ≤ x199_1)) c200 (by kernel_rfl) (by kernel_rfl) ?_
      refine J.skip ?_
      refine NN.block_n ?_
      refine NN.then ?_
      refine J.plain ?_
      refine LL.op (.int .i64 1) (by kernel_rfl) (fun w _ => by kernel_rfl) ?_
      refine LL.op (.int .i64 1) (by kernel_rfl) (fun w _ => by kernel_rfl) ?_
      refine LL.done (s' := [(4, .pointer (some ⟨g189, 0, none⟩)), (5, .bool false), (6, .pointer (some ⟨g197, 0, none⟩)), (7, .pointer (some ⟨g198, 0, none⟩)), (8, .int .i64 0), (13, .int .i64 1), (14, .bool true), (15, .int .i64 0), (16, .int .i64 0), (17, .int .i64 0), (18, .pointer (some ⟨g197, 0, none⟩)), (19, .agg #[.int .i64 x190_1, .int .i64 x190_2]), (20, .int .i64 0), (21, .pointer (some ⟨g198, 0, none⟩)), (22, .agg #[.int .i64 x191_1, .int .i64 x191_2]), (23, .agg #[.int .i64 x199_1, .int .i64 x199_2]), (24, .pointer (some ⟨g197, 0, none⟩)), (25, .int .i64 0), (26, .pointer (some ⟨g197, 0, none⟩)), (27, .pointer (some ⟨g197, 0, none⟩)), (28, .int .i64 x199_1), (29, .int .i64 0), (30, .pointer (some ⟨g197, 0, none⟩)), (31, .pointer (some ⟨g197, 1, none⟩)), (32, .int .i64 x199_2), (33, .bool (decide (x199_2 ≤ x199_1))), (35, .int .i64 1)]) [4, 5, 6, 7, 8, 13, 14, 15, 16, 17, 18, 19, 20, 21, 22, 23, 24, 25, 26, 27, 28, 29, 30, 31, 32, 33, 35] (by kernel_rfl) ?_
      refine NN.again ?_
      refine J.seq ?_
      refine J.plain ?_
      refine LL.op (.bool true) (by kernel_rfl) (fun w _ => by kernel_rfl) ?_
      refine LL.done (s' := [(4, .pointer (some ⟨g189, 0, none⟩)), (5, .bool false), (6, .pointer (some ⟨g197, 0, none⟩)), (7, .pointer (some ⟨g198, 0, none⟩)), (8, .int .i64 0), (13, .int .i64 1), (14, .bool true), (15, .int .i64 0), (16, .int .i64 0), (17, .int .i64 0), (18, .pointer (some ⟨g197, 0, none⟩)), (19, .agg #[.int .i64 x190_1, .int .i64 x190_2]), (20, .int .i64 0), (21, .pointer (some ⟨g198, 0, none⟩)), (22, .agg #[.int .i64 x191_1, .int .i64 x191_2]), (23, .agg #[.int .i64 x199_1, .int .i64 x199_2]), (24, .pointer (some ⟨g197, 0, none⟩)), (25, .int .i64 0), (26, .pointer (some ⟨g197, 0, none⟩)), (27, .pointer (some ⟨g197, 0, none⟩)), (28, .int .i64 x199_1), (29, .int .i64 0), (30, .pointer (some ⟨g197, 0, none⟩)), (31, .pointer (some ⟨g197, 1, none⟩)), (32, .int .i64 x199_2), (33, .bool (decide (x199_2 ≤ x199_1))), (35, .int .i64 1)]) [4, 5, 6, 7, 8, 13, 14, 15, 16, 17, 18, 19, 20, 21, 22, 23, 24, 25, 26, 27, 28, 29, 30, 31, 32, 33, 35] (by kernel_rfl) ?_
      refine NN.then ?_
      refine J.seq ?_
      refine J.condT (b := true) rfl (by kernel_rfl) (by kernel_rfl) ?_
      refine J.skip ?_
      refine NN.then ?_
      refine J.seq ?_
      refine J.block ?_
      refine J.seq ?_
      refine J.plain ?_
      refine LL.op (.int .i64 1) (by kernel_rfl) (fun w _ => by kernel_rfl) ?_
      refine LL.op (.int .i64 1) (by kernel_rfl) (fun w _ => by kernel_rfl) ?_
      refine LL.done (s' := [(4, .pointer (some ⟨g189, 0, none⟩)), (5, .bool false), (6, .pointer (some ⟨g197, 0, none⟩)), (7, .pointer (some ⟨g198, 0, none⟩)), (8, .int .i64 1), (13, .int .i64 1), (14, .bool true), (15, .int .i64 1), (16, .int .i64 0), (17, .int .i64 0), (18, .pointer (some ⟨g197, 0, none⟩)), (19, .agg #[.int .i64 x190_1, .int .i64 x190_2]), (20, .int .i64 0), (21, .pointer (some ⟨g198, 0, none⟩)), (22, .agg #[.int .i64 x191_1, .int .i64 x191_2]), (23, .agg #[.int .i64 x199_1, .int .i64 x199_2]), (24, .pointer (some ⟨g197, 0, none⟩)), (25, .int .i64 0), (26, .pointer (some ⟨g197, 0, none⟩)), (27, .pointer (some ⟨g197, 0, none⟩)), (28, .int .i64 x199_1), (29, .int .i64 0), (30, .pointer (some ⟨g197, 0, none⟩)), (31, .pointer (some ⟨g197, 1, none⟩)), (32, .int .i64 x199_2), (33, .bool (decide (x199_2 ≤ x199_1))), (35, .int .i64 1)]) [4, 5, 6, 7, 8, 13, 14, 15, 16, 17, 18, 19, 20, 21, 22, 23, 24, 25, 26, 27, 28, 29, 30, 31, 32, 33, 35] (by kernel_rfl) ?_
      refine NN.then ?_
      refine J.seq ?_
      obtain ⟨⟨x201_1, x201_2⟩, hx201, H⟩ := bind_some H
      (try dsimp only at H)
      refine J.heldBut [(g198, cl [.int .i64 x191_1, .int .i64 x191_2, .int .i64 x191_3, .int .i64 x191_4, .int .i64 x191_5, .int .i64 x191_6] 78), (g189, cl [.int .i64 0, .int .i64 0, .int .i64 0, .int .i64 0, .int .i64 0, .int .i64 0] 25), (g188, cl [.int .i64 a1_0, .int .i64 a1_1, .int .i64 a1_2, .int .i64 a1_3, .int .i64 a1_4, .int .i64 a1_5] 25), (g187, cl [.int .i64 a0_0, .int .i64 a0_1, .int .i64 a0_2, .int .i64 a0_3, .int .i64 a0_4, .int .i64 a0_5] 25)] follows ?_
      refine HH.take 0 (.int .i64 1) rfl (by kernel_rfl) (by kernel_rfl) (fun _ h => h.sub (List.Sublist.cons_cons _ (List.Sublist.cons _ (List.Sublist.refl _)))) (fun w _ => by kernel_rfl) ?_
      refine HH.take 1 (.int .i64 1) rfl (by kernel_rfl) (by kernel_rfl) (fun _ h => h.sub (List.Sublist.cons_cons _ (List.Sublist.cons _ (List.Sublist.refl _)))) (fun w _ => by kernel_rfl) ?_
      refine HH.take 2 (.pointer (some ⟨g197, 2, none⟩)) rfl (by kernel_rfl) (by kernel_rfl) (fun _ h => h.sub (List.Sublist.cons_cons _ (List.Sublist.cons _ (List.Sublist.refl _)))) (fun w _ => by kernel_rfl) ?_
      refine HH.take 4 (.int .i64 1) rfl (by kernel_rfl) (by kernel_rfl) (fun _ h => h.sub (List.Sublist.cons_cons _ (List.Sublist.cons _ (List.Sublist.refl _)))) (fun w _ => by kernel_rfl) ?_
      refine HH.take 5 (.pointer (some ⟨g198, 2, none⟩)) rfl (by kernel_rfl) (by kernel_rfl) (fun _ h => h.sub (List.Sublist.cons_cons _ (List.Sublist.cons _ (List.Sublist.refl _)))) (fun w _ => by kernel_rfl) ?_
      refine HH.take 6 (.agg #[.int .i64 x191_3, .int .i64 x191_4]) rfl (by kernel_rfl) (by kernel_rfl) (fun _ h => h.sub (List.Sublist.cons_cons _ (List.Sublist.cons _ (List.Sublist.refl _)))) (ld 0 g198 2 rfl (by kernel_rfl) rfl (by kernel_rfl)) ?_
      refine HH.all1 3 (by kernel_rfl) ?_
      refine HS.op (.agg #[.int .i64 x190_3, .int .i64 x190_4]) rfl (by kernel_rfl) (fun _ h => h.sub (List.Sublist.cons_cons _ (List.Sublist.cons _ (List.Sublist.refl _)))) (ld 1 g197 2 rfl (by kernel_rfl) rfl (by kernel_rfl)) ?_
      refine HH.all1 7 (by kernel_rfl) ?_
      refine HS.call 72 #[.agg #[.int .i64 x190_3, .int .i64 x190_4], .agg #[.int .i64 x191_3, .int .i64 x191_4]] (.agg #[.int .i64 x201_1, .int .i64 x201_2]) rfl (by kernel_rfl) (fun w => by kernel_rfl) (fun _ h => h.sub (List.Sublist.cons_cons _ (List.Sublist.cons _ (List.Sublist.refl _)))) (fun w hw => span_Meet.calls x190_3 x190_4 x191_3 x191_4   _ _ w   hx201) ?_
      refine HH.take 8 (.pointer (some ⟨g197, 2, none⟩)) rfl (by kernel_rfl) (by kernel_rfl) (fun _ h => h.sub (List.Sublist.cons_cons _ (List.Sublist.cons _ (List.Sublist.refl _)))) (fun w _ => by kernel_rfl) ?_
      refine HH.all1 9 (by kernel_rfl) ?_
      refine HS.store 1 g197 2 23 (.tmp 24) (.tmp 23) [.int .i64 x199_1, .int .i64 x199_2, .int .i64 x201_1, .int .i64 x201_2, .int .i64 x190_5, .int .i64 x190_6] (bs' := [(g198, cl [.int .i64 x191_1, .int .i64 x191_2, .int .i64 x191_3, .int .i64 x191_4, .int .i64 x191_5, .int .i64 x191_6] 78), (g197, cl [.int .i64 x199_1, .int .i64 x199_2, .int .i64 x201_1, .int .i64 x201_2, .int .i64 x190_5, .int .i64 x190_6] 78), (g189, cl [.int .i64 0, .int .i64 0, .int .i64 0, .int .i64 0, .int .i64 0, .int .i64 0] 25), (g188, cl [.int .i64 a1_0, .int .i64 a1_1, .int .i64 a1_2, .int .i64 a1_3, .int .i64 a1_4, .int .i64 a1_5] 25), (g187, cl [.int .i64 a0_0, .int .i64 a0_1, .int .i64 a0_2, .int .i64 a0_3, .int .i64 a0_4, .int .i64 a0_5] 25)]) rfl rfl (by kernel_rfl) rfl (by kernel_rfl) rfl (by kernel_rfl) (fun _ h => h.sub (List.Sublist.cons_cons _ (List.Sublist.cons _ (List.Sublist.refl _)))) ?_
      refine HH.done (s' := [(4, .pointer (some ⟨g189, 0, none⟩)), (5, .bool false), (6, .pointer (some ⟨g197, 0, none⟩)), (7, .pointer (some ⟨g198, 0, none⟩)), (8, .int .i64 1), (13, .int .i64 1), (14, .bool true), (15, .int .i64 1), (16, .int .i64 1), (17, .int .i64 1), (18, .pointer (some ⟨g197, 2, none⟩)), (19, .agg #[.int .i64 x190_3, .int .i64 x190_4]), (20, .int .i64 1), (21, .pointer (some ⟨g198, 2, none⟩)), (22, .agg #[.int .i64 x191_3, .int .i64 x191_4]), (23, .agg #[.int .i64 x201_1, .int .i64 x201_2]), (24, .pointer (some ⟨g197, 2, none⟩)), (25, .int .i64 0), (26, .pointer (some ⟨g197, 0, none⟩)), (27, .pointer (some ⟨g197, 0, none⟩)), (28, .int .i64 x199_1), (29, .int .i64 0), (30, .pointer (some ⟨g197, 0, none⟩)), (31, .pointer (some ⟨g197, 1, none⟩)), (32, .int .i64 x199_2), (33, .bool (decide (x199_2 ≤ x199_1))), (35, .int .i64 1)]) [4, 5, 6, 7, 8, 13, 14, 15, 16, 17, 18, 19, 20, 21, 22, 23, 24, 25, 26, 27, 28, 29, 30, 31, 32, 33, 35] (by kernel_rfl) (by kernel_rfl) ?_
      refine NN.then ?_
      refine J.seq ?_
      refine J.drawn follows (by kernel_rfl) ?_
      refine QQ.op (.int .i64 1) (by kernel_rfl) (fun w _ => by kernel_rfl) ?_
      refine QQ.op (.pointer (some ⟨g197, 2, none⟩)) (by kernel_rfl) (fun w _ => by kernel_rfl) ?_
      refine QQ.op (.pointer (some ⟨g197, 2, none⟩)) (by kernel_rfl) (fun w _ => by kernel_rfl) ?_
      refine QQ.op (.int .i64 x201_1) (by kernel_rfl) (ld 1 g197 2 rfl (by kernel_rfl) rfl (by kernel_rfl)) ?_
      refine QQ.op (.int .i64 1) (by kernel_rfl) (fun w _ => by kernel_rfl) ?_
      refine QQ.op (.pointer (some ⟨g197, 2, none⟩)) (by kernel_rfl) (fun w _ => by kernel_rfl) ?_
      refine QQ.op (.pointer (some ⟨g197, 3, none⟩)) (by kernel_rfl) (fun w _ => by kernel_rfl) ?_
      refine QQ.op (.int .i64 x201_2) (by kernel_rfl) (ld 1 g197 3 rfl (by kernel_rfl) rfl (by kernel_rfl)) ?_
      refine QQ.op (.bool (decide (x201_2 ≤ x201_1))) (by kernel_rfl) (fun w _ => by kernel_rfl) ?_
      refine QQ.done (s' := [(4, .pointer (some ⟨g189, 0, none⟩)), (5, .bool false), (6, .pointer (some ⟨g197, 0, none⟩)), (7, .pointer (some ⟨g198, 0, none⟩)), (8, .int .i64 1), (13, .int .i64 1), (14, .bool true), (15, .int .i64 1), (16, .int .i64 1), (17, .int .i64 1), (18, .pointer (some ⟨g197, 2, none⟩)), (19, .agg #[.int .i64 x190_3, .int .i64 x190_4]), (20, .int .i64 1), (21, .pointer (some ⟨g198, 2, none⟩)), (22, .agg #[.int .i64 x191_3, .int .i64 x191_4]), (23, .agg #[.int .i64 x201_1, .int .i64 x201_2]), (24, .pointer (some ⟨g197, 2, none⟩)), (25, .int .i64 1), (26, .pointer (some ⟨g197, 2, none⟩)), (27, .pointer (some ⟨g197, 2, none⟩)), (28, .int .i64 x201_1), (29, .int .i64 1), (30, .pointer (some ⟨g197, 2, none⟩)), (31, .pointer (some ⟨g197, 3, none⟩)), (32, .int .i64 x201_2), (33, .bool (decide (x201_2 ≤ x201_1))), (35, .int .i64 1)]) [4, 5, 6, 7, 8, 13, 14, 15, 16, 17, 18, 19, 20, 21, 22, 23, 24, 25, 26, 27, 28, 29, 30, 31, 32, 33, 35] (by kernel_rfl) ?_
      refine NN.then ?_
      rcases Bool.eq_false_or_eq_true (decide (x201_2 ≤ x201_1)) with c202 | c202
      · rw [if_pos (of_decide_eq_true c202)] at H
        refine J.condT (b := decide (x201_2 ≤ x201_1)) c202 (by kernel_rfl) (by kernel_rfl) ?_
        refine J.seq ?_
        refine J.plain ?_
        refine LL.op (.agg #[.int .i64 0, .int .i64 0, .int .i64 0, .int .i64 0, .int .i64 0, .int .i64 0]) (by kernel_rfl) (fun w _ => by kernel_rfl) ?_
        refine LL.store 2 g189 0 25 (.tmp 4) (.tmp 34) [.int .i64 0, .int .i64 0, .int .i64 0, .int .i64 0, .int .i64 0, .int .i64 0] (bs' := [(g198, cl [.int .i64 x191_1, .int .i64 x191_2, .int .i64 x191_3, .int .i64 x191_4, .int .i64 x191_5, .int .i64 x191_6] 78), (g197, cl [.int .i64 x199_1, .int .i64 x199_2, .int .i64 x201_1, .int .i64 x201_2, .int .i64 x190_5, .int .i64 x190_6] 78), (g189, cl [.int .i64 0, .int .i64 0, .int .i64 0, .int .i64 0, .int .i64 0, .int .i64 0] 25), (g188, cl [.int .i64 a1_0, .int .i64 a1_1, .int .i64 a1_2, .int .i64 a1_3, .int .i64 a1_4, .int .i64 a1_5] 25), (g187, cl [.int .i64 a0_0, .int .i64 a0_1, .int .i64 a0_2, .int .i64 a0_3, .int .i64 a0_4, .int .i64 a0_5] 25)]) rfl (by kernel_rfl) rfl (by kernel_rfl) rfl (by kernel_rfl) ?_
        refine LL.op (.bool false) (by kernel_rfl) (fun w _ => by kernel_rfl) ?_
        refine LL.done (s' := [(4, .pointer (some ⟨g189, 0, none⟩)), (5, .bool false), (6, .pointer (some ⟨g197, 0, none⟩)), (7, .pointer (some ⟨g198, 0, none⟩)), (8, .int .i64 1), (13, .int .i64 1), (14, .bool true), (15, .int .i64 1), (16, .int .i64 1), (17, .int .i64 1), (18, .pointer (some ⟨g197, 2, none⟩)), (19, .agg #[.int .i64 x190_3, .int .i64 x190_4]), (20, .int .i64 1), (21, .pointer (some ⟨g198, 2, none⟩)), (22, .agg #[.int .i64 x191_3, .int .i64 x191_4]), (23, .agg #[.int .i64 x201_1, .int .i64 x201_2]), (24, .pointer (some ⟨g197, 2, none⟩)), (25, .int .i64 1), (26, .pointer (some ⟨g197, 2, none⟩)), (27, .pointer (some ⟨g197, 2, none⟩)), (28, .int .i64 x201_1), (29, .int .i64 1), (30, .pointer (some ⟨g197, 2, none⟩)), (31, .pointer (some ⟨g197, 3, none⟩)), (32, .int .i64 x201_2), (33, .bool (decide (x201_2 ≤ x201_1))), (34, .agg #[.int .i64 0, .int .i64 0, .int .i64 0, .int .i64 0, .int .i64 0, .int .i64 0]), (35, .int .i64 1)]) [4, 5, 6, 7, 8, 13, 14, 15, 16, 17, 18, 19, 20, 21, 22, 23, 24, 25, 26, 27, 28, 29, 30, 31, 32, 33, 34, 35] (by kernel_rfl) ?_
        refine NN.then ?_
        refine J.ret ?_
        refine NN.block_ret ?_
        refine NN.then_ret ?_
        refine NN.then_ret ?_
        refine NN.block_ret ?_
        refine NN.then_ret ?_
        refine NN.finV (.tuple #[.agg #[.int .i64 0, .int .i64 0, .int .i64 0, .int .i64 0, .int .i64 0, .int .i64 0], .bool false]) (.inl rfl) ?_ (fun w hi => hi.ret ?_)
        · exact resOk_2 (by kernel_rfl) (.cell (d := 4) (t := 25) 2 g189 0 (by kernel_rfl) rfl (by kernel_rfl)) (.tmp (t := 5) (by kernel_rfl))
        first | (cases H; rfl) | (obtain rfl := Option.some.inj H; rfl) | (simp only [Option.some.injEq, Prod.mk.injEq] at H; obtain ⟨rfl, rfl, rfl, rfl, rfl, rfl, rfl⟩ := H; rfl)
      · rw [if_neg (of_decide_eq_false c202)] at H
        refine J.condF (b := decide (x201_2 ≤ x201_1)) c202 (by kernel_rfl) (by kernel_rfl) ?_
        refine J.skip ?_
        refine NN.block_n ?_
        refine NN.then ?_
        refine J.plain ?_
        refine LL.op (.int .i64 2) (by kernel_rfl) (fun w _ => by kernel_rfl) ?_
        refine LL.op (.int .i64 2) (by kernel_rfl) (fun w _ => by kernel_rfl) ?_
        refine LL.done (s' := [(4, .pointer (some ⟨g189, 0, none⟩)), (5, .bool false), (6, .pointer (some ⟨g197, 0, none⟩)), (7, .pointer (some ⟨g198, 0, none⟩)), (8, .int .i64 1), (13, .int .i64 2), (14, .bool true), (15, .int .i64 1), (16, .int .i64 1), (17, .int .i64 1), (18, .pointer (some ⟨g197, 2, none⟩)), (19, .agg #[.int .i64 x190_3, .int .i64 x190_4]), (20, .int .i64 1), (21, .pointer (some ⟨g198, 2, none⟩)), (22, .agg #[.int .i64 x191_3, .int .i64 x191_4]), (23, .agg #[.int .i64 x201_1, .int .i64 x201_2]), (24, .pointer (some ⟨g197, 2, none⟩)), (25, .int .i64 1), (26, .pointer (some ⟨g197, 2, none⟩)), (27, .pointer (some ⟨g197, 2, none⟩)), (28, .int .i64 x201_1), (29, .int .i64 1), (30, .pointer (some ⟨g197, 2, none⟩)), (31, .pointer (some ⟨g197, 3, none⟩)), (32, .int .i64 x201_2), (33, .bool (decide (x201_2 ≤ x201_1))), (35, .int .i64 2)]) [4, 5, 6, 7, 8, 13, 14, 15, 16, 17, 18, 19, 20, 21, 22, 23, 24, 25, 26, 27, 28, 29, 30, 31, 32, 33, 35] (by kernel_rfl) ?_
        refine NN.again ?_
        refine J.seq ?_
        refine J.plain ?_
        refine LL.op (.bool true) (by kernel_rfl) (fun w _ => by kernel_rfl) ?_
        refine LL.done (s' := [(4, .pointer (some ⟨g189, 0, none⟩)), (5, .bool false), (6, .pointer (some ⟨g197, 0, none⟩)), (7, .pointer (some ⟨g198, 0, none⟩)), (8, .int .i64 1), (13, .int .i64 2), (14, .bool true), (15, .int .i64 1), (16, .int .i64 1), (17, .int .i64 1), (18, .pointer (some ⟨g197, 2, none⟩)), (19, .agg #[.int .i64 x190_3, .int .i64 x190_4]), (20, .int .i64 1), (21, .pointer (some ⟨g198, 2, none⟩)), (22, .agg #[.int .i64 x191_3, .int .i64 x191_4]), (23, .agg #[.int .i64 x201_1, .int .i64 x201_2]), (24, .pointer (some ⟨g197, 2, none⟩)), (25, .int .i64 1), (26, .pointer (some ⟨g197, 2, none⟩)), (27, .pointer (some ⟨g197, 2, none⟩)), (28, .int .i64 x201_1), (29, .int .i64 1), (30, .pointer (some ⟨g197, 2, none⟩)), (31, .pointer (some ⟨g197, 3, none⟩)), (32, .int .i64 x201_2), (33, .bool (decide (x201_2 ≤ x201_1))), (35, .int .i64 2)]) [4, 5, 6, 7, 8, 13, 14, 15, 16, 17, 18, 19, 20, 21, 22, 23, 24, 25, 26, 27, 28, 29, 30, 31, 32, 33, 35] (by kernel_rfl) ?_
        refine NN.then ?_
        refine J.seq ?_
        refine J.condT (b := true) rfl (by kernel_rfl) (by kernel_rfl) ?_
        refine J.skip ?_
        refine NN.then ?_
        refine J.seq ?_
        refine J.block ?_
        refine J.seq ?_
        refine J.plain ?_
        refine LL.op (.int .i64 2) (by kernel_rfl) (fun w _ => by kernel_rfl) ?_
        refine LL.op (.int .i64 2) (by kernel_rfl) (fun w _ => by kernel_rfl) ?_
        refine LL.done (s' := [(4, .pointer (some ⟨g189, 0, none⟩)), (5, .bool false), (6, .pointer (some ⟨g197, 0, none⟩)), (7, .pointer (some ⟨g198, 0, none⟩)), (8, .int .i64 2), (13, .int .i64 2), (14, .bool true), (15, .int .i64 2), (16, .int .i64 1), (17, .int .i64 1), (18, .pointer (some ⟨g197, 2, none⟩)), (19, .agg #[.int .i64 x190_3, .int .i64 x190_4]), (20, .int .i64 1), (21, .pointer (some ⟨g198, 2, none⟩)), (22, .agg #[.int .i64 x191_3, .int .i64 x191_4]), (23, .agg #[.int .i64 x201_1, .int .i64 x201_2]), (24, .pointer (some ⟨g197, 2, none⟩)), (25, .int .i64 1), (26, .pointer (some ⟨g197, 2, none⟩)), (27, .pointer (some ⟨g197, 2, none⟩)), (28, .int .i64 x201_1), (29, .int .i64 1), (30, .pointer (some ⟨g197, 2, none⟩)), (31, .pointer (some ⟨g197, 3, none⟩)), (32, .int .i64 x201_2), (33, .bool (decide (x201_2 ≤ x201_1))), (35, .int .i64 2)]) [4, 5, 6, 7, 8, 13, 14, 15, 16, 17, 18, 19, 20, 21, 22, 23, 24, 25, 26, 27, 28, 29, 30, 31, 32, 33, 35] (by kernel_rfl) ?_
        refine NN.then ?_
        refine J.seq ?_
        obtain ⟨⟨x203_1, x203_2⟩, hx203, H⟩ := bind_some H
        (try dsimp only at H)
        refine J.heldBut [(g198, cl [.int .i64 x191_1, .int .i64 x191_2, .int .i64 x191_3, .int .i64 x191_4, .int .i64 x191_5, .int .i64 x191_6] 78), (g189, cl [.int .i64 0, .int .i64 0, .int .i64 0, .int .i64 0, .int .i64 0, .int .i64 0] 25), (g188, cl [.int .i64 a1_0, .int .i64 a1_1, .int .i64 a1_2, .int .i64 a1_3, .int .i64 a1_4, .int .i64 a1_5] 25), (g187, cl [.int .i64 a0_0, .int .i64 a0_1, .int .i64 a0_2, .int .i64 a0_3, .int .i64 a0_4, .int .i64 a0_5] 25)] follows ?_
        refine HH.take 0 (.int .i64 2) rfl (by kernel_rfl) (by kernel_rfl) (fun _ h => h.sub (List.Sublist.cons_cons _ (List.Sublist.cons _ (List.Sublist.refl _)))) (fun w _ => by kernel_rfl) ?_
        refine HH.take 1 (.int .i64 2) rfl (by kernel_rfl) (by kernel_rfl) (fun _ h => h.sub (List.Sublist.cons_cons _ (List.Sublist.cons _ (List.Sublist.refl _)))) (fun w _ => by kernel_rfl) ?_
        refine HH.take 2 (.pointer (some ⟨g197, 4, none⟩)) rfl (by kernel_rfl) (by kernel_rfl) (fun _ h => h.sub (List.Sublist.cons_cons _ (List.Sublist.cons _ (List.Sublist.refl _)))) (fun w _ => by kernel_rfl) ?_
        refine HH.take 4 (.int .i64 2) rfl (by kernel_rfl) (by kernel_rfl) (fun _ h => h.sub (List.Sublist.cons_cons _ (List.Sublist.cons _ (List.Sublist.refl _)))) (fun w _ => by kernel_rfl) ?_
        refine HH.take 5 (.pointer (some ⟨g198, 4, none⟩)) rfl (by kernel_rfl) (by kernel_rfl) (fun _ h => h.sub (List.Sublist.cons_cons _ (List.Sublist.cons _ (List.Sublist.refl _)))) (fun w _ => by kernel_rfl) ?_
        refine HH.take 6 (.agg #[.int .i64 x191_5, .int .i64 x191_6]) rfl (by kernel_rfl) (by kernel_rfl) (fun _ h => h.sub (List.Sublist.cons_cons _ (List.Sublist.cons _ (List.Sublist.refl _)))) (ld 0 g198 4 rfl (by kernel_rfl) rfl (by kernel_rfl)) ?_
        refine HH.all1 3 (by kernel_rfl) ?_
        refine HS.op (.agg #[.int .i64 x190_5, .int .i64 x190_6]) rfl (by kernel_rfl) (fun _ h => h.sub (List.Sublist.cons_cons _ (List.Sublist.cons _ (List.Sublist.refl _)))) (ld 1 g197 4 rfl (by kernel_rfl) rfl (by kernel_rfl)) ?_
        refine HH.all1 7 (by kernel_rfl) ?_
        refine HS.call 72 #[.agg #[.int .i64 x190_5, .int .i64 x190_6], .agg #[.int .i64 x191_5, .int .i64 x191_6]] (.agg #[.int .i64 x203_1, .int .i64 x203_2]) rfl (by kernel_rfl) (fun w => by kernel_rfl) (fun _ h => h.sub (List.Sublist.cons_cons _ (List.Sublist.cons _ (List.Sublist.refl _)))) (fun w hw => span_Meet.calls x190_5 x190_6 x191_5 x191_6   _ _ w   hx203) ?_
        refine HH.take 8 (.pointer (some ⟨g197, 4, none⟩)) rfl (by kernel_rfl) (by kernel_rfl) (fun _ h => h.sub (List.Sublist.cons_cons _ (List.Sublist.cons _ (List.Sublist.refl _)))) (fun w _ => by kernel_rfl) ?_
        refine HH.all1 9 (by kernel_rfl) ?_
        refine HS.store 1 g197 4 23 (.tmp 24) (.tmp 23) [.int .i64 x199_1, .int .i64 x199_2, .int .i64 x201_1, .int .i64 x201_2, .int .i64 x203_1, .int .i64 x203_2] (bs' := [(g198, cl [.int .i64 x191_1, .int .i64 x191_2, .int .i64 x191_3, .int .i64 x191_4, .int .i64 x191_5, .int .i64 x191_6] 78), (g197, cl [.int .i64 x199_1, .int .i64 x199_2, .int .i64 x201_1, .int .i64 x201_2, .int .i64 x203_1, .int .i64 x203_2] 78), (g189, cl [.int .i64 0, .int .i64 0, .int .i64 0, .int .i64 0, .int .i64 0, .int .i64 0] 25), (g188, cl [.int .i64 a1_0, .int .i64 a1_1, .int .i64 a1_2, .int .i64 a1_3, .int .i64 a1_4, .int .i64 a1_5] 25), (g187, cl [.int .i64 a0_0, .int .i64 a0_1, .int .i64 a0_2, .int .i64 a0_3, .int .i64 a0_4, .int .i64 a0_5] 25)]) rfl rfl (by kernel_rfl) rfl (by kernel_rfl) rfl (by kernel_rfl) (fun _ h => h.sub (List.Sublist.cons_cons _ (List.Sublist.cons _ (List.Sublist.refl _)))) ?_
        refine HH.done (s' := [(4, .pointer (some ⟨g189, 0, none⟩)), (5, .bool false), (6, .pointer (some ⟨g197, 0, none⟩)), (7, .pointer (some ⟨g198, 0, none⟩)), (8, .int .i64 2), (13, .int .i64 2), (14, .bool true), (15, .int .i64 2), (16, .int .i64 2), (17, .int .i64 2), (18, .pointer (some ⟨g197, 4, none⟩)), (19, .agg #[.int .i64 x190_5, .int .i64 x190_6]), (20, .int .i64 2), (21, .pointer (some ⟨g198, 4, none⟩)), (22, .agg #[.int .i64 x191_5, .int .i64 x191_6]), (23, .agg #[.int .i64 x203_1, .int .i64 x203_2]), (24, .pointer (some ⟨g197, 4, none⟩)), (25, .int .i64 1), (26, .pointer (some ⟨g197, 2, none⟩)), (27, .pointer (some ⟨g197, 2, none⟩)), (28, .int .i64 x201_1), (29, .int .i64 1), (30, .pointer (some ⟨g197, 2, none⟩)), (31, .pointer (some ⟨g197, 3, none⟩)), (32, .int .i64 x201_2), (33, .bool (decide (x201_2 ≤ x201_1))), (35, .int .i64 2)]) [4, 5, 6, 7, 8, 13, 14, 15, 16, 17, 18, 19, 20, 21, 22, 23, 24, 25, 26, 27, 28, 29, 30, 31, 32, 33, 35] (by kernel_rfl) (by kernel_rfl) ?_
        refine NN.then ?_
        refine J.seq ?_
        refine J.drawn follows (by kernel_rfl) ?_
        refine QQ.op (.int .i64 2) (by kernel_rfl) (fun w _ => by kernel_rfl) ?_
        refine QQ.op (.pointer (some ⟨g197, 4, none⟩)) (by kernel_rfl) (fun w _ => by kernel_rfl) ?_
        refine QQ.op (.pointer (some ⟨g197, 4, none⟩)) (by kernel_rfl) (fun w _ => by kernel_rfl) ?_
        refine QQ.op (.int .i64 x203_1) (by kernel_rfl) (ld 1 g197 4 rfl (by kernel_rfl) rfl (by kernel_rfl)) ?_
        refine QQ.op (.int .i64 2) (by kernel_rfl) (fun w _ => by kernel_rfl) ?_
        refine QQ.op (.pointer (some ⟨g197, 4, none⟩)) (by kernel_rfl) (fun w _ => by kernel_rfl) ?_
        refine QQ.op (.pointer (some ⟨g197, 5, none⟩)) (by kernel_rfl) (fun w _ => by kernel_rfl) ?_
        refine QQ.op (.int .i64 x203_2) (by kernel_rfl) (ld 1 g197 5 rfl (by kernel_rfl) rfl (by kernel_rfl)) ?_
        refine QQ.op (.bool (decide (x203_2 ≤ x203_1))) (by kernel_rfl) (fun w _ => by kernel_rfl) ?_
        refine QQ.done (s' := [(4, .pointer (some ⟨g189, 0, none⟩)), (5, .bool false), (6, .pointer (some ⟨g197, 0, none⟩)), (7, .pointer (some ⟨g198, 0, none⟩)), (8, .int .i64 2), (13, .int .i64 2), (14, .bool true), (15, .int .i64 2), (16, .int .i64 2), (17, .int .i64 2), (18, .pointer (some ⟨g197, 4, none⟩)), (19, .agg #[.int .i64 x190_5, .int .i64 x190_6]), (20, .int .i64 2), (21, .pointer (some ⟨g198, 4, none⟩)), (22, .agg #[.int .i64 x191_5, .int .i64 x191_6]), (23, .agg #[.int .i64 x203_1, .int .i64 x203_2]), (24, .pointer (some ⟨g197, 4, none⟩)), (25, .int .i64 2), (26, .pointer (some ⟨g197, 4, none⟩)), (27, .pointer (some ⟨g197, 4, none⟩)), (28, .int .i64 x203_1), (29, .int .i64 2), (30, .pointer (some ⟨g197, 4, none⟩)), (31, .pointer (some ⟨g197, 5, none⟩)), (32, .int .i64 x203_2), (33, .bool (decide (x203_2 ≤ x203_1))), (35, .int .i64 2)]) [4, 5, 6, 7, 8, 13, 14, 15, 16, 17, 18, 19, 20, 21, 22, 23, 24, 25, 26, 27, 28, 29, 30, 31, 32, 33, 35] (by kernel_rfl) ?_
        refine NN.then ?_
        rcases Bool.eq_false_or_eq_true (decide (x203_2 ≤ x203_1)) with c204 | c204
        · rw [if_pos (of_decide_eq_true c204)] at H
          refine J.condT (b := decide (x203_2 ≤ x203_1)) c204 (by kernel_rfl) (by kernel_rfl) ?_
          refine J.seq ?_
          refine J.plain ?_
          refine LL.op (.agg #[.int .i64 0, .int .i64 0, .int .i64 0, .int .i64 0, .int .i64 0, .int .i64 0]) (by kernel_rfl) (fun w _ => by kernel_rfl) ?_
          refine LL.store 2 g189 0 25 (.tmp 4) (.tmp 34) [.int .i64 0, .int .i64 0, .int .i64 0, .int .i64 0, .int .i64 0, .int .i64 0] (bs' := [(g198, cl [.int .i64 x191_1, .int .i64 x191_2, .int .i64 x191_3, .int .i64 x191_4, .int .i64 x191_5, .int .i64 x191_6] 78), (g197, cl [.int .i64 x199_1, .int .i64 x199_2, .int .i64 x201_1, .int .i64 x201_2, .int .i64 x203_1, .int .i64 x203_2] 78), (g189, cl [.int .i64 0, .int .i64 0, .int .i64 0, .int .i64 0, .int .i64 0, .int .i64 0] 25), (g188, cl [.int .i64 a1_0, .int .i64 a1_1, .int .i64 a1_2, .int .i64 a1_3, .int .i64 a1_4, .int .i64 a1_5] 25), (g187, cl [.int .i64 a0_0, .int .i64 a0_1, .int .i64 a0_2, .int .i64 a0_3, .int .i64 a0_4, .int .i64 a0_5] 25)]) rfl (by kernel_rfl) rfl (by kernel_rfl) rfl (by kernel_rfl) ?_
          refine LL.op (.bool false) (by kernel_rfl) (fun w _ => by kernel_rfl) ?_
          refine LL.done (s' := [(4, .pointer (some ⟨g189, 0, none⟩)), (5, .bool false), (6, .pointer (some ⟨g197, 0, none⟩)), (7, .pointer (some ⟨g198, 0, none⟩)), (8, .int .i64 2), (13, .int .i64 2), (14, .bool true), (15, .int .i64 2), (16, .int .i64 2), (17, .int .i64 2), (18, .pointer (some ⟨g197, 4, none⟩)), (19, .agg #[.int .i64 x190_5, .int .i64 x190_6]), (20, .int .i64 2), (21, .pointer (some ⟨g198, 4, none⟩)), (22, .agg #[.int .i64 x191_5, .int .i64 x191_6]), (23, .agg #[.int .i64 x203_1, .int .i64 x203_2]), (24, .pointer (some ⟨g197, 4, none⟩)), (25, .int .i64 2), (26, .pointer (some ⟨g197, 4, none⟩)), (27, .pointer (some ⟨g197, 4, none⟩)), (28, .int .i64 x203_1), (29, .int .i64 2), (30, .pointer (some ⟨g197, 4, none⟩)), (31, .pointer (some ⟨g197, 5, none⟩)), (32, .int .i64 x203_2), (33, .bool (decide (x203_2 ≤ x203_1))), (34, .agg #[.int .i64 0, .int .i64 0, .int .i64 0, .int .i64 0, .int .i64 0, .int .i64 0]), (35, .int .i64 2)]) [4, 5, 6, 7, 8, 13, 14, 15, 16, 17, 18, 19, 20, 21, 22, 23, 24, 25, 26, 27, 28, 29, 30, 31, 32, 33, 34, 35] (by kernel_rfl) ?_
          refine NN.then ?_
          refine J.ret ?_
          refine NN.block_ret ?_
          refine NN.then_ret ?_
          refine NN.then_ret ?_
          refine NN.block_ret ?_
          refine NN.then_ret ?_
          refine NN.finV (.tuple #[.agg #[.int .i64 0, .int .i64 0, .int .i64 0, .int .i64 0, .int .i64 0, .int .i64 0], .bool false]) (.inl rfl) ?_ (fun w hi => hi.ret ?_)
          · exact resOk_2 (by kernel_rfl) (.cell (d := 4) (t := 25) 2 g189 0 (by kernel_rfl) rfl (by kernel_rfl)) (.tmp (t := 5) (by kernel_rfl))
          first | (cases H; rfl) | (obtain rfl := Option.some.inj H; rfl) | (simp only [Option.some.injEq, Prod.mk.injEq] at H; obtain ⟨rfl, rfl, rfl, rfl, rfl, rfl, rfl⟩ := H; rfl)
        · rw [if_neg (of_decide_eq_false c204)] at H
          refine J.condF (b := decide (x203_2 ≤ x203_1)) c204 (by kernel_rfl) (by kernel_rfl) ?_
          refine J.skip ?_
          refine NN.block_n ?_
          refine NN.then ?_
          refine J.plain ?_
          refine LL.op (.int .i64 3) (by kernel_rfl) (fun w _ => by kernel_rfl) ?_
          refine LL.op (.int .i64 3) (by kernel_rfl) (fun w _ => by kernel_rfl) ?_
          refine LL.done (s' := [(4, .pointer (some ⟨g189, 0, none⟩)), (5, .bool false), (6, .pointer (some ⟨g197, 0, none⟩)), (7, .pointer (some ⟨g198, 0, none⟩)), (8, .int .i64 2), (13, .int .i64 3), (14, .bool true), (15, .int .i64 2), (16, .int .i64 2), (17, .int .i64 2), (18, .pointer (some ⟨g197, 4, none⟩)), (19, .agg #[.int .i64 x190_5, .int .i64 x190_6]), (20, .int .i64 2), (21, .pointer (some ⟨g198, 4, none⟩)), (22, .agg #[.int .i64 x191_5, .int .i64 x191_6]), (23, .agg #[.int .i64 x203_1, .int .i64 x203_2]), (24, .pointer (some ⟨g197, 4, none⟩)), (25, .int .i64 2), (26, .pointer (some ⟨g197, 4, none⟩)), (27, .pointer (some ⟨g197, 4, none⟩)), (28, .int .i64 x203_1), (29, .int .i64 2), (30, .pointer (some ⟨g197, 4, none⟩)), (31, .pointer (some ⟨g197, 5, none⟩)), (32, .int .i64 x203_2), (33, .bool (decide (x203_2 ≤ x203_1))), (35, .int .i64 3)]) [4, 5, 6, 7, 8, 13, 14, 15, 16, 17, 18, 19, 20, 21, 22, 23, 24, 25, 26, 27, 28, 29, 30, 31, 32, 33, 35] (by kernel_rfl) ?_
          refine NN.again ?_
          refine J.seq ?_
          refine J.plain ?_
          refine LL.op (.bool false) (by kernel_rfl) (fun w _ => by kernel_rfl) ?_
          refine LL.done (s' := [(4, .pointer (some ⟨g189, 0, none⟩)), (5, .bool false), (6, .pointer (some ⟨g197, 0, none⟩)), (7, .pointer (some ⟨g198, 0, none⟩)), (8, .int .i64 2), (13, .int .i64 3), (14, .bool false), (15, .int .i64 2), (16, .int .i64 2), (17, .int .i64 2), (18, .pointer (some ⟨g197, 4, none⟩)), (19, .agg #[.int .i64 x190_5, .int .i64 x190_6]), (20, .int .i64 2), (21, .pointer (some ⟨g198, 4, none⟩)), (22, .agg #[.int .i64 x191_5, .int .i64 x191_6]), (23, .agg #[.int .i64 x203_1, .int .i64 x203_2]), (24, .pointer (some ⟨g197, 4, none⟩)), (25, .int .i64 2), (26, .pointer (some ⟨g197, 4, none⟩)), (27, .pointer (some ⟨g197, 4, none⟩)), (28, .int .i64 x203_1), (29, .int .i64 2), (30, .pointer (some ⟨g197, 4, none⟩)), (31, .pointer (some ⟨g197, 5, none⟩)), (32, .int .i64 x203_2), (33, .bool (decide (x203_2 ≤ x203_1))), (35, .int .i64 3)]) [4, 5, 6, 7, 8, 13, 14, 15, 16, 17, 18, 19, 20, 21, 22, 23, 24, 25, 26, 27, 28, 29, 30, 31, 32, 33, 35] (by kernel_rfl) ?_
          refine NN.then ?_
          refine J.seq ?_
          refine J.condF (b := false) rfl (by kernel_rfl) (by kernel_rfl) ?_
          refine J.exit ?_
          refine NN.then_exit ?_
          refine NN.then_exit ?_
          refine NN.block_same ?_
          refine NN.then ?_
          refine J.seq ?_
          refine J.plain ?_
          refine LL.op (.agg #[.int .i64 x199_1, .int .i64 x199_2, .int .i64 x201_1, .int .i64 x201_2, .int .i64 x203_1, .int .i64 x203_2]) (by kernel_rfl) (ld 1 g197 0 rfl (by kernel_rfl) rfl (by kernel_rfl)) ?_
          obtain ⟨⟨x205_1, x205_2, x205_3, x205_4, x205_5, x205_6⟩, hx205, H⟩ := bind_some H
          (try dsimp only at H)
          refine LL.call 67 #[.agg #[.int .i64 x199_1, .int .i64 x199_2, .int .i64 x201_1, .int .i64 x201_2, .int .i64 x203_1, .int .i64 x203_2]] (.agg #[.int .i64 x205_1, .int .i64 x205_2, .int .i64 x205_3, .int .i64 x205_4, .int .i64 x205_5, .int .i64 x205_6]) (by kernel_rfl) (fun w => by kernel_rfl) (fun w hw => defect_boxOf.calls x199_1 x199_2 x201_1 x201_2 x203_1 x203_2   _ _ _ _ _ _ w   hx205) ?_
          refine LL.store 2 g189 0 25 (.tmp 4) (.tmp 37) [.int .i64 x205_1, .int .i64 x205_2, .int .i64 x205_3, .int .i64 x205_4, .int .i64 x205_5, .int .i64 x205_6] (bs' := [(g198, cl [.int .i64 x191_1, .int .i64 x191_2, .int .i64 x191_3, .int .i64 x191_4, .int .i64 x191_5, .int .i64 x191_6] 78), (g197, cl [.int .i64 x199_1, .int .i64 x199_2, .int .i64 x201_1, .int .i64 x201_2, .int .i64 x203_1, .int .i64 x203_2] 78), (g189, cl [.int .i64 x205_1, .int .i64 x205_2, .int .i64 x205_3, .int .i64 x205_4, .int .i64 x205_5, .int .i64 x205_6] 25), (g188, cl [.int .i64 a1_0, .int .i64 a1_1, .int .i64 a1_2, .int .i64 a1_3, .int .i64 a1_4, .int .i64 a1_5] 25), (g187, cl [.int .i64 a0_0, .int .i64 a0_1, .int .i64 a0_2, .int .i64 a0_3, .int .i64 a0_4, .int .i64 a0_5] 25)]) rfl (by kernel_rfl) rfl (by kernel_rfl) rfl (by kernel_rfl) ?_
          refine LL.op (.bool true) (by kernel_rfl) (fun w _ => by kernel_rfl) ?_
          refine LL.done (s' := [(4, .pointer (some ⟨g189, 0, none⟩)), (5, .bool true)]) [4, 5] (by kernel_rfl) ?_
          refine NN.then ?_
          refine J.ret ?_
          refine NN.finV (.tuple #[.agg #[.int .i64 x205_1, .int .i64 x205_2, .int .i64 x205_3, .int .i64 x205_4, .int .i64 x205_5, .int .i64 x205_6], .bool true]) (.inl rfl) ?_ (fun w hi => hi.ret ?_)
          · exact resOk_2 (by kernel_rfl) (.cell (d := 4) (t := 25) 2 g189 0 (by kernel_rfl) rfl (by kernel_rfl)) (.tmp (t := 5) (by kernel_rfl))
          first | (cases H; rfl) | (obtain rfl := Option.some.inj H; rfl) | (simp only [Option.some.injEq, Prod.mk.injEq] at H; obtain ⟨rfl, rfl, rfl, rfl, rfl, rfl, rfl⟩ := H; rfl)

/-! ### defect_Touches: function 38 -/
def defect_Touches.f (a0_0 : Int) (a0_1 : Int) (a0_2 : Int) (a0_3 : Int) (a0_4 : Int) (a0_5 : Int) (a0_6 : Int) (a1_0 : Int) (a1_1 : Int) (a1_2 : Int) (a1_3 : Int) (a1_4 : Int) (a1_5 : Int) : Option (Bool) := (defect_common.f a0_1 a0_2 a0_3 a0_4 a0_5 a0_6 a1_0 a1_1 a1_2 a1_3 a1_4 a1_5).bind fun bx224 => (some bx224.2.2.2.2.2.2)
set_option maxRecDepth 100000 in
theorem defect_Touches.calls (a0_0 : Int) (a0_1 : Int) (a0_2 : Int) (a0_3 : Int) (a0_4 : Int) (a0_5 : Int) (a0_6 : Int) (a1_0 : Int) (a1_1 : Int) (a1_2 : Int) (a1_3 : Int) (a1_4 : Int) (a1_5 : Int)    (r1 : Bool) (w : World)    (h : defect_Touches.f a0_0 a0_1 a0_2 a0_3 a0_4 a0_5 a0_6 a1_0 a1_1 a1_2 a1_3 a1_4 a1_5 = some r1) :
    Calls Try.prog 38 #[.agg #[.int .i64 a0_0, .int .i64 a0_1, .int .i64 a0_2, .int .i64 a0_3, .int .i64 a0_4, .int .i64 a0_5, .int .i64 a0_6], .agg #[.int .i64 a1_0, .int .i64 a1_1, .int .i64 a1_2, .int .i64 a1_3, .int .i64 a1_4, .int .i64 a1_5]] w (Ret w (.bool r1)) := by
  have H := h
  clear h
  unfold defect_Touches.f at H
  refine Go.Saw.calls (args := [.agg #[.int .i64 a0_0, .int .i64 a0_1, .int .i64 a0_2, .int .i64 a0_3, .int .i64 a0_4, .int .i64 a0_5, .int .i64 a0_6], .agg #[.int .i64 a1_0, .int .i64 a1_1, .int .i64 a1_2, .int .i64 a1_3, .int .i64 a1_4, .int .i64 a1_5]]) Try.func38 rfl Try.ntmps38 (by kernel_rfl) ?_
  refine J.seq ?_
  refine J.plain ?_
  refine LL.box 41 (.tmp 0) [.int .i64 a0_0, .int .i64 a0_1, .int .i64 a0_2, .int .i64 a0_3, .int .i64 a0_4, .int .i64 a0_5, .int .i64 a0_6] (by kernel_rfl) rfl (by kernel_rfl) (fun g222 => ?_)
  refine LL.box 25 (.tmp 1) [.int .i64 a1_0, .int .i64 a1_1, .int .i64 a1_2, .int .i64 a1_3, .int .i64 a1_4, .int .i64 a1_5] (by kernel_rfl) rfl (by kernel_rfl) (fun g223 => ?_)
  refine LL.op (.bool false) (by kernel_rfl) (fun w _ => by kernel_rfl) ?_
  refine LL.done (s' := [(2, .pointer (some ⟨g222, 0, none⟩)), (3, .pointer (some ⟨g223, 0, none⟩)), (4, .bool false)]) [2, 3, 4] (by kernel_rfl) ?_
  refine NN.then ?_
  refine J.seq ?_
  refine J.plain ?_
  refine LL.op (.pointer (some ⟨g222, 1, none⟩)) (by kernel_rfl) (fun w _ => by kernel_rfl) ?_
  refine LL.op (.agg #[.int .i64 a0_1, .int .i64 a0_2, .int .i64 a0_3, .int .i64 a0_4, .int .i64 a0_5, .int .i64 a0_6]) (by kernel_rfl) (ld 1 g222 1 rfl (by kernel_rfl) rfl (by kernel_rfl)) ?_
  refine LL.op (.agg #[.int .i64 a1_0, .int .i64 a1_1, .int .i64 a1_2, .int .i64 a1_3, .int .i64 a1_4, .int .i64 a1_5]) (by kernel_rfl) (ld 0 g223 0 rfl (by kernel_rfl) rfl (by kernel_rfl)) ?_
  obtain ⟨⟨x224_1, x224_2, x224_3, x224_4, x224_5, x224_6, x224_7⟩, hx224, H⟩ := bind_some H
  (try dsimp only at H)
  refine LL.call 64 #[.agg #[.int .i64 a0_1, .int .i64 a0_2, .int .i64 a0_3, .int .i64 a0_4, .int .i64 a0_5, .int .i64 a0_6], .agg #[.int .i64 a1_0, .int .i64 a1_1, .int .i64 a1_2, .int .i64 a1_3, .int .i64 a1_4, .int .i64 a1_5]] (.tuple #[.agg #[.int .i64 x224_1, .int .i64 x224_2, .int .i64 x224_3, .int .i64 x224_4, .int .i64 x224_5, .int .i64 x224_6], .bool x224_7]) (by kernel_rfl) (fun w => by kernel_rfl) (fun w hw => defect_common.calls a0_1 a0_2 a0_3 a0_4 a0_5 a0_6 a1_0 a1_1 a1_2 a1_3 a1_4 a1_5   _ _ _ _ _ _ _ w   hx224) ?_
  refine LL.op (.tuple #[.agg #[.int .i64 x224_1, .int .i64 x224_2, .int .i64 x224_3, .int .i64 x224_4, .int .i64 x224_5, .int .i64 x224_6], .bool x224_7]) (by kernel_rfl) (fun w _ => by kernel_rfl) ?_
  refine LL.op (.agg #[.int .i64 x224_1, .int .i64 x224_2, .int .i64 x224_3, .int .i64 x224_4, .int .i64 x224_5, .int .i64 x224_6]) (by kernel_rfl) (fun w _ => by kernel_rfl) ?_
  refine LL.op (.bool x224_7) (by kernel_rfl) (fun w _ => by kernel_rfl) ?_
  refine LL.alloc 25 [.int .i64 0, .int .i64 0, .int .i64 0, .int .i64 0, .int .i64 0, .int .i64 0] (by kernel_rfl) rfl (by kernel_rfl) (fun g225 => ?_)
  refine LL.store 0 g225 0 25 (.tmp 5) (.tmp 12) [.int .i64 x224_1, .int .i64 x224_2, .int .i64 x224_3, .int .i64 x224_4, .int .i64 x224_5, .int .i64 x224_6] (bs' := [(g225, cl [.int .i64 x224_1, .int .i64 x224_2, .int .i64 x224_3, .int .i64 x224_4, .int .i64 x224_5, .int .i64 x224_6] 25), (g223, cl [.int .i64 a1_0, .int .i64 a1_1, .int .i64 a1_2, .int .i64 a1_3, .int .i64 a1_4, .int .i64 a1_5] 25), (g222, cl [.int .i64 a0_0, .int .i64 a0_1, .int .i64 a0_2, .int .i64 a0_3, .int .i64 a0_4, .int .i64 a0_5, .int .i64 a0_6] 41)]) rfl (by kernel_rfl) rfl (by kernel_rfl) rfl (by kernel_rfl) ?_
  refine LL.op (.bool x224_7) (by kernel_rfl) (fun w _ => by kernel_rfl) ?_
  refine LL.done (s' := [(4, .bool false), (6, .bool x224_7)]) [4, 6] (by kernel_rfl) ?_
  refine NN.then ?_
  refine J.seq ?_
  refine J.plain ?_
  refine LL.op (.bool x224_7) (by kernel_rfl) (fun w _ => by kernel_rfl) ?_
  refine LL.op (.bool x224_7) (by kernel_rfl) (fun w _ => by kernel_rfl) ?_
  refine LL.done (s' := [(4, .bool x224_7)]) [4] (by kernel_rfl) ?_
  refine NN.then ?_
  refine J.ret ?_
  refine NN.fin1 4 (.bool x224_7) (by kernel_rfl) (by kernel_rfl) (.inl rfl) (fun w hi => hi.ret ?_)
  first | (cases H; rfl) | (obtain rfl := Option.some.inj H; rfl) | (simp only [Option.some.injEq, Prod.mk.injEq] at H; obtain ⟨rfl⟩ := H; rfl)

/-! ### sawmillref13_Meet: function 49 -/
def sawmillref13_Meet.f (a0_0 : Int) (a0_1 : Int) (a0_2 : Int) (a0_3 : Int) (a0_4 : Int) (a0_5 : Int) (a1_0 : Int) (a1_1 : Int) (a1_2 : Int) (a1_3 : Int) (a1_4 : Int) (a1_5 : Int) : Option (Int × Int × Int × Int × Int × Int) := (sawmillref03_Meet.f a0_0 a0_1 a1_0 a1_1).bind fun bx229 => ((sawmillref03_Meet.f a0_2 a0_3 a1_2 a1_3).bind fun bx230 => ((sawmillref03_Meet.f a0_4 a0_5 a1_4 a1_5).bind fun bx231 => (some (bx229.1, bx229.2, bx230.1, bx230.2, bx231.1, bx231.2))))
set_option maxRecDepth 100000 in
theorem sawmillref13_Meet.calls (a0_0 : Int) (a0_1 : Int) (a0_2 : Int) (a0_3 : Int) (a0_4 : Int) (a0_5 : Int) (a1_0 : Int) (a1_1 : Int) (a1_2 : Int) (a1_3 : Int) (a1_4 : Int) (a1_5 : Int)    (r1 : Int) (r2 : Int) (r3 : Int) (r4 : Int) (r5 : Int) (r6 : Int) (w : World)    (h : sawmillref13_Meet.f a0_0 a0_1 a0_2 a0_3 a0_4 a0_5 a1_0 a1_1 a1_2 a1_3 a1_4 a1_5 = some (r1, r2, r3, r4, r5, r6)) :
    Calls Try.prog 49 #[.agg #[.int .i64 a0_0, .int .i64 a0_1, .int .i64 a0_2, .int .i64 a0_3, .int .i64 a0_4, .int .i64 a0_5], .agg #[.int .i64 a1_0, .int .i64 a1_1, .int .i64 a1_2, .int .i64 a1_3, .int .i64 a1_4, .int .i64 a1_5]] w (Ret w (.agg #[.int .i64 r1, .int .i64 r2, .int .i64 r3, .int .i64 r4, .int .i64 r5, .int .i64 r6])) := by
  have H := h
  clear h
  unfold sawmillref13_Meet.f at H
  refine Go.Saw.calls (args := [.agg #[.int .i64 a0_0, .int .i64 a0_1, .int .i64 a0_2, .int .i64 a0_3, .int .i64 a0_4, .int .i64 a0_5], .agg #[.int .i64 a1_0, .int .i64 a1_1, .int .i64 a1_2, .int .i64 a1_3, .int .i64 a1_4, .int .i64 a1_5]]) Try.func49 rfl Try.ntmps49 (by kernel_rfl) ?_
  refine J.seq ?_
  refine J.plain ?_
  refine LL.box 25 (.tmp 0) [.int .i64 a0_0, .int .i64 a0_1, .int .i64 a0_2, .int .i64 a0_3, .int .i64 a0_4, .int .i64 a0_5] (by kernel_rfl) rfl (by kernel_rfl) (fun g226 => ?_)
  refine LL.box 25 (.tmp 1) [.int .i64 a1_0, .int .i64 a1_1, .int .i64 a1_2, .int .i64 a1_3, .int .i64 a1_4, .int .i64 a1_5] (by kernel_rfl) rfl (by kernel_rfl) (fun g227 => ?_)
  refine LL.alloc 25 [.int .i64 0, .int .i64 0, .int .i64 0, .int .i64 0, .int .i64 0, .int .i64 0] (by kernel_rfl) rfl (by kernel_rfl) (fun g228 => ?_)
  refine LL.done (s' := [(2, .pointer (some ⟨g226, 0, none⟩)), (3, .pointer (some ⟨g227, 0, none⟩)), (4, .pointer (some ⟨g228, 0, none⟩))]) [2, 3, 4] (by kernel_rfl) ?_
  refine NN.then ?_
  refine J.seq ?_
  obtain ⟨⟨x229_1, x229_2⟩, hx229, H⟩ := bind_some H
  (try dsimp only at H)
  obtain ⟨⟨x230_1, x230_2⟩, hx230, H⟩ := bind_some H
  (try dsimp only at H)
  obtain ⟨⟨x231_1, x231_2⟩, hx231, H⟩ := bind_some H
  (try dsimp only at H)
  refine J.heldBut [(g227, cl [.int .i64 a1_0, .int .i64 a1_1, .int .i64 a1_2, .int .i64 a1_3, .int .i64 a1_4, .int .i64 a1_5] 25), (g226, cl [.int .i64 a0_0, .int .i64 a0_1, .int .i64 a0_2, .int .i64 a0_3, .int .i64 a0_4, .int .i64 a0_5] 25)] follows ?_
  refine HH.take 0 (.pointer (some ⟨g226, 0, none⟩)) rfl (by kernel_rfl) (by kernel_rfl) (fun _ h => h.sub (List.Sublist.cons _ (List.Sublist.refl _))) (fun w _ => by kernel_rfl) ?_
  refine HH.take 1 (.agg #[.int .i64 a0_0, .int .i64 a0_1]) rfl (by kernel_rfl) (by kernel_rfl) (fun _ h => h.sub (List.Sublist.cons _ (List.Sublist.refl _))) (ld 1 g226 0 rfl (by kernel_rfl) rfl (by kernel_rfl)) ?_
  refine HH.take 2 (.pointer (some ⟨g227, 0, none⟩)) rfl (by kernel_rfl) (by kernel_rfl) (fun _ h => h.sub (List.Sublist.cons _ (List.Sublist.refl _))) (fun w _ => by kernel_rfl) ?_
  refine HH.take 3 (.agg #[.int .i64 a1_0, .int .i64 a1_1]) rfl (by kernel_rfl) (by kernel_rfl) (fun _ h => h.sub (List.Sublist.cons _ (List.Sublist.refl _))) (ld 0 g227 0 rfl (by kernel_rfl) rfl (by kernel_rfl)) ?_
  refine HH.take 5 (.pointer (some ⟨g226, 2, none⟩)) rfl (by kernel_rfl) (by kernel_rfl) (fun _ h => h.sub (List.Sublist.cons _ (List.Sublist.refl _))) (fun w _ => by kernel_rfl) ?_
  refine HH.take 6 (.agg #[.int .i64 a0_2, .int .i64 a0_3]) rfl (by kernel_rfl) (by kernel_rfl) (fun _ h => h.sub (List.Sublist.cons _ (List.Sublist.refl _))) (ld 1 g226 2 rfl (by kernel_rfl) rfl (by kernel_rfl)) ?_
  refine HH.take 7 (.pointer (some ⟨g227, 2, none⟩)) rfl (by kernel_rfl) (by kernel_rfl) (fun _ h => h.sub (List.Sublist.cons _ (List.Sublist.refl _))) (fun w _ => by kernel_rfl) ?_
  refine HH.take 8 (.agg #[.int .i64 a1_2, .int .i64 a1_3]) rfl (by kernel_rfl) (by kernel_rfl) (fun _ h => h.sub (List.Sublist.cons _ (List.Sublist.refl _))) (ld 0 g227 2 rfl (by kernel_rfl) rfl (by kernel_rfl)) ?_
  refine HH.take 10 (.pointer (some ⟨g226, 4, none⟩)) rfl (by kernel_rfl) (by kernel_rfl) (fun _ h => h.sub (List.Sublist.cons _ (List.Sublist.refl _))) (fun w _ => by kernel_rfl) ?_
  refine HH.take 11 (.agg #[.int .i64 a0_4, .int .i64 a0_5]) rfl (by kernel_rfl) (by kernel_rfl) (fun _ h => h.sub (List.Sublist.cons _ (List.Sublist.refl _))) (ld 1 g226 4 rfl (by kernel_rfl) rfl (by kernel_rfl)) ?_
  refine HH.take 12 (.pointer (some ⟨g227, 4, none⟩)) rfl (by kernel_rfl) (by kernel_rfl) (fun _ h => h.sub (List.Sublist.cons _ (List.Sublist.refl _))) (fun w _ => by kernel_rfl) ?_
  refine HH.take 13 (.agg #[.int .i64 a1_4, .int .i64 a1_5]) rfl (by kernel_rfl) (by kernel_rfl) (fun _ h => h.sub (List.Sublist.cons _ (List.Sublist.refl _))) (ld 0 g227 4 rfl (by kernel_rfl) rfl (by kernel_rfl)) ?_
  refine HH.all1 4 (by kernel_rfl) ?_
  refine HS.call 74 #[.agg #[.int .i64 a0_0, .int .i64 a0_1], .agg #[.int .i64 a1_0, .int .i64 a1_1]] (.agg #[.int .i64 x229_1, .int .i64 x229_2]) rfl (by kernel_rfl) (fun w => by kernel_rfl) (fun _ h => h.sub (List.Sublist.cons _ (List.Sublist.refl _))) (fun w hw => sawmillref03_Meet.calls a0_0 a0_1 a1_0 a1_1   _ _ w   hx229) ?_
  refine HH.all1 9 (by kernel_rfl) ?_
  refine HS.call 74 #[.agg #[.int .i64 a0_2, .int .i64 a0_3], .agg #[.int .i64 a1_2, .int .i64 a1_3]] (.agg #[.int .i64 x230_1, .int .i64 x230_2]) rfl (by kernel_rfl) (fun w => by kernel_rfl) (fun _ h => h.sub (List.Sublist.cons _ (List.Sublist.refl _))) (fun w hw => sawmillref03_Meet.calls a0_2 a0_3 a1_2 a1_3   _ _ w   hx230) ?_
  refine HH.all1 14 (by kernel_rfl) ?_
  refine HS.call 74 #[.agg #[.int .i64 a0_4, .int .i64 a0_5], .agg #[.int .i64 a1_4, .int .i64 a1_5]] (.agg #[.int .i64 x231_1, .int .i64 x231_2]) rfl (by kernel_rfl) (fun w => by kernel_rfl) (fun _ h => h.sub (List.Sublist.cons _ (List.Sublist.refl _))) (fun w hw => sawmillref03_Meet.calls a0_4 a0_5 a1_4 a1_5   _ _ w   hx231) ?_
  refine HH.take 15 (.agg #[.int .i64 x229_1, .int .i64 x229_2, .int .i64 x230_1, .int .i64 x230_2, .int .i64 x231_1, .int .i64 x231_2]) rfl (by kernel_rfl) (by kernel_rfl) (fun _ h => h.sub (List.Sublist.cons _ (List.Sublist.refl _))) (fun w _ => by kernel_rfl) ?_
  refine HH.all1 16 (by kernel_rfl) ?_
  refine HS.store 0 g228 0 25 (.tmp 4) (.tmp 20) [.int .i64 x229_1, .int .i64 x229_2, .int .i64 x230_1, .int .i64 x230_2, .int .i64 x231_1, .int .i64 x231_2] (bs' := [(g228, cl [.int .i64 x229_1, .int .i64 x229_2, .int .i64 x230_1, .int .i64 x230_2, .int .i64 x231_1, .int .i64 x231_2] 25), (g227, cl [.int .i64 a1_0, .int .i64 a1_1, .int .i64 a1_2, .int .i64 a1_3, .int .i64 a1_4, .int .i64 a1_5] 25), (g226, cl [.int .i64 a0_0, .int .i64 a0_1, .int .i64 a0_2, .int .i64 a0_3, .int .i64 a0_4, .int .i64 a0_5] 25)]) rfl rfl (by kernel_rfl) rfl (by kernel_rfl) rfl (by kernel_rfl) (fun _ h => h.sub (List.Sublist.cons _ (List.Sublist.refl _))) ?_
  refine HH.done (s' := [(4, .pointer (some ⟨g228, 0, none⟩))]) [4] (by kernel_rfl) (by kernel_rfl) ?_
  refine NN.then ?_
  refine J.ret ?_
  refine NN.finV (.agg #[.int .i64 x229_1, .int .i64 x229_2, .int .i64 x230_1, .int .i64 x230_2, .int .i64 x231_1, .int .i64 x231_2]) (.inl rfl) ?_ (fun w hi => hi.ret ?_)
  · exact resOk_1 (by kernel_rfl) (.cell (d := 4) (t := 25) 0 g228 0 (by kernel_rfl) rfl (by kernel_rfl))
  first | (cases H; rfl) | (obtain rfl := Option.some.inj H; rfl) | (simp only [Option.some.injEq, Prod.mk.injEq] at H; obtain ⟨rfl, rfl, rfl, rfl, rfl, rfl⟩ := H; rfl)

/-! ### sawmillref13_Touches: function 39 -/
def sawmillref13_Touches.f (a0_0 : Int) (a0_1 : Int) (a0_2 : Int) (a0_3 : Int) (a0_4 : Int) (a0_5 : Int) (a0_6 : Int) (a1_0 : Int) (a1_1 : Int) (a1_2 : Int) (a1_3 : Int) (a1_4 : Int) (a1_5 : Int) : Option (Bool) := (sawmillref13_Meet.f a0_1 a0_2 a0_3 a0_4 a0_5 a0_6 a1_0 a1_1 a1_2 a1_3 a1_4 a1_5).bind fun bx234 => ((sawmillref13_Empty.f bx234.1 bx234.2.1 bx234.2.2.1 bx234.2.2.2.1 bx234.2.2.2.2.1 bx234.2.2.2.2.2).bind fun x235 => (some (!x235)))
set_option maxRecDepth 100000 in
theorem sawmillref13_Touches.calls (a0_0 : Int) (a0_1 : Int) (a0_2 : Int) (a0_3 : Int) (a0_4 : Int) (a0_5 : Int) (a0_6 : Int) (a1_0 : Int) (a1_1 : Int) (a1_2 : Int) (a1_3 : Int) (a1_4 : Int) (a1_5 : Int)    (r1 : Bool) (w : World)    (h : sawmillref13_Touches.f a0_0 a0_1 a0_2 a0_3 a0_4 a0_5 a0_6 a1_0 a1_1 a1_2 a1_3 a1_4 a1_5 = some r1) :
    Calls Try.prog 39 #[.agg #[.int .i64 a0_0, .int .i64 a0_1, .int .i64 a0_2, .int .i64 a0_3, .int .i64 a0_4, .int .i64 a0_5, .int .i64 a0_6], .agg #[.int .i64 a1_0, .int .i64 a1_1, .int .i64 a1_2, .int .i64 a1_3, .int .i64 a1_4, .int .i64 a1_5]] w (Ret w (.bool r1)) := by
  have H := h
  clear h
  unfold sawmillref13_Touches.f at H
  refine Go.Saw.calls (args := [.agg #[.int .i64 a0_0, .int .i64 a0_1, .int .i64 a0_2, .int .i64 a0_3, .int .i64 a0_4, .int .i64 a0_5, .int .i64 a0_6], .agg #[.int .i64 a1_0, .int .i64 a1_1, .int .i64 a1_2, .int .i64 a1_3, .int .i64 a1_4, .int .i64 a1_5]]) Try.func39 rfl Try.ntmps39 (by kernel_rfl) ?_
  refine J.seq ?_
  refine J.plain ?_
  refine LL.box 41 (.tmp 0) [.int .i64 a0_0, .int .i64 a0_1, .int .i64 a0_2, .int .i64 a0_3, .int .i64 a0_4, .int .i64 a0_5, .int .i64 a0_6] (by kernel_rfl) rfl (by kernel_rfl) (fun g232 => ?_)
  refine LL.box 25 (.tmp 1) [.int .i64 a1_0, .int .i64 a1_1, .int .i64 a1_2, .int .i64 a1_3, .int .i64 a1_4, .int .i64 a1_5] (by kernel_rfl) rfl (by kernel_rfl) (fun g233 => ?_)
  refine LL.op (.bool false) (by kernel_rfl) (fun w _ => by kernel_rfl) ?_
  refine LL.done (s' := [(2, .pointer (some ⟨g232, 0, none⟩)), (3, .pointer (some ⟨g233, 0, none⟩)), (4, .bool false)]) [2, 3, 4] (by kernel_rfl) ?_
  refine NN.then ?_
  refine J.seq ?_
  refine J.plain ?_
  refine LL.op (.pointer (some ⟨g232, 1, none⟩)) (by kernel_rfl) (fun w _ => by kernel_rfl) ?_
  refine LL.op (.agg #[.int .i64 a0_1, .int .i64 a0_2, .int .i64 a0_3, .int .i64 a0_4, .int .i64 a0_5, .int .i64 a0_6]) (by kernel_rfl) (ld 1 g232 1 rfl (by kernel_rfl) rfl (by kernel_rfl)) ?_
  refine LL.op (.agg #[.int .i64 a1_0, .int .i64 a1_1, .int .i64 a1_2, .int .i64 a1_3, .int .i64 a1_4, .int .i64 a1_5]) (by kernel_rfl) (ld 0 g233 0 rfl (by kernel_rfl) rfl (by kernel_rfl)) ?_
  obtain ⟨⟨x234_1, x234_2, x234_3, x234_4, x234_5, x234_6⟩, hx234, H⟩ := bind_some H
  (try dsimp only at H)
  refine LL.call 49 #[.agg #[.int .i64 a0_1, .int .i64 a0_2, .int .i64 a0_3, .int .i64 a0_4, .int .i64 a0_5, .int .i64 a0_6], .agg #[.int .i64 a1_0, .int .i64 a1_1, .int .i64 a1_2, .int .i64 a1_3, .int .i64 a1_4, .int .i64 a1_5]] (.agg #[.int .i64 x234_1, .int .i64 x234_2, .int .i64 x234_3, .int .i64 x234_4, .int .i64 x234_5, .int .i64 x234_6]) (by kernel_rfl) (fun w => by kernel_rfl) (fun w hw => sawmillref13_Meet.calls a0_1 a0_2 a0_3 a0_4 a0_5 a0_6 a1_0 a1_1 a1_2 a1_3 a1_4 a1_5   _ _ _ _ _ _ w   hx234) ?_
  obtain ⟨x235, hx235, H⟩ := bind_some H
  refine LL.call 50 #[.agg #[.int .i64 x234_1, .int .i64 x234_2, .int .i64 x234_3, .int .i64 x234_4, .int .i64 x234_5, .int .i64 x234_6]] (.bool x235) (by kernel_rfl) (fun w => by kernel_rfl) (fun w hw => sawmillref13_Empty.calls x234_1 x234_2 x234_3 x234_4 x234_5 x234_6   _ w   hx235) ?_
  refine LL.op (.bool (!x235)) (by kernel_rfl) (fun w _ => by kernel_rfl) ?_
  refine LL.op (.bool (!x235)) (by kernel_rfl) (fun w _ => by kernel_rfl) ?_
  refine LL.done (s' := [(4, .bool (!x235))]) [4] (by kernel_rfl) ?_
  refine NN.then ?_
  refine J.ret ?_
  refine NN.fin1 4 (.bool (!x235)) (by kernel_rfl) (by kernel_rfl) (.inl rfl) (fun w hi => hi.ret ?_)
  first | (cases H; rfl) | (obtain rfl := Option.some.inj H; rfl) | (simp only [Option.some.injEq, Prod.mk.injEq] at H; obtain ⟨rfl⟩ := H; rfl)

/-! ### sawmillref13_bounded: function 68 -/
def sawmillref13_bounded.f (a0_0 : Int) (a0_1 : Int) : Option (Bool) := if (-1099511627776) ≤ a0_0 then (if a0_0 ≤ 1099511627776 then (if (-1099511627776) ≤ a0_1 then (some (decide (a0_1 ≤ 1099511627776))) else (some false)) else (some false)) else (some false)
set_option maxRecDepth 100000 in
theorem sawmillref13_bounded.calls (a0_0 : Int) (a0_1 : Int)    (r1 : Bool) (w : World)    (h : sawmillref13_bounded.f a0_0 a0_1 = some r1) :
    Calls Try.prog 68 #[.agg #[.int .i64 a0_0, .int .i64 a0_1]] w (Ret w (.bool r1)) := by
  have H := h
  clear h
  unfold sawmillref13_bounded.f at H
  refine Go.Saw.calls (args := [.agg #[.int .i64 a0_0, .int .i64 a0_1]]) Try.func68 rfl Try.ntmps68 (by kernel_rfl) ?_
  refine J.seq ?_
  refine J.plain ?_
  refine LL.box 23 (.tmp 0) [.int .i64 a0_0, .int .i64 a0_1] (by kernel_rfl) rfl (by kernel_rfl) (fun g236 => ?_)
  refine LL.op (.bool false) (by kernel_rfl) (fun w _ => by kernel_rfl) ?_
  refine LL.done (s' := [(1, .pointer (some ⟨g236, 0, none⟩)), (2, .bool false)]) [1, 2] (by kernel_rfl) ?_
  refine NN.then ?_
  refine J.seq ?_
  refine J.plain ?_
  refine LL.op (.pointer (some ⟨g236, 0, none⟩)) (by kernel_rfl) (fun w _ => by kernel_rfl) ?_
  refine LL.op (.int .i64 a0_0) (by kernel_rfl) (ld 0 g236 0 rfl (by kernel_rfl) rfl (by kernel_rfl)) ?_
  refine LL.op (.bool (decide ((-1099511627776) ≤ a0_0))) (by kernel_rfl) (fun w _ => by kernel_rfl) ?_
  refine LL.op (.bool (decide ((-1099511627776) ≤ a0_0))) (by kernel_rfl) (fun w _ => by kernel_rfl) ?_
  rcases Bool.eq_false_or_eq_true (decide ((-1099511627776) ≤ a0_0)) with c237 | c237
  · rw [if_pos (of_decide_eq_true c237)] at H
    refine LL.bool 6 (decide ((-1099511627776) ≤ a0_0)) true c237 (by kernel_rfl) ?_
    refine LL.op (.pointer (some ⟨g236, 0, none⟩)) (by kernel_rfl) (fun w _ => by kernel_rfl) ?_
    refine LL.op (.int .i64 a0_0) (by kernel_rfl) (ld 0 g236 0 rfl (by kernel_rfl) rfl (by kernel_rfl)) ?_
    refine LL.op (.bool (decide (a0_0 ≤ 1099511627776))) (by kernel_rfl) (fun w _ => by kernel_rfl) ?_
    refine LL.op (.bool (decide (a0_0 ≤ 1099511627776))) (by kernel_rfl) (fun w _ => by kernel_rfl) ?_
    refine LL.op (.bool (decide (a0_0 ≤ 1099511627776))) (by kernel_rfl) (fun w _ => by kernel_rfl) ?_
    rcases Bool.eq_false_or_eq_true (decide (a0_0 ≤ 1099511627776)) with c238 | c238
    · rw [if_pos (of_decide_eq_true c238)] at H
      refine LL.bool 11 (decide (a0_0 ≤ 1099511627776)) true c238 (by kernel_rfl) ?_
      refine LL.op (.pointer (some ⟨g236, 1, none⟩)) (by kernel_rfl) (fun w _ => by kernel_rfl) ?_
      refine LL.op (.int .i64 a0_1) (by kernel_rfl) (ld 0 g236 1 rfl (by kernel_rfl) rfl (by kernel_rfl)) ?_
      refine LL.op (.bool (decide ((-1099511627776) ≤ a0_1))) (by kernel_rfl) (fun w _ => by kernel_rfl) ?_
      refine LL.op (.bool (decide ((-1099511627776) ≤ a0_1))) (by kernel_rfl) (fun w _ => by kernel_rfl) ?_
      refine LL.op (.bool (decide ((-1099511627776) ≤ a0_1))) (by kernel_rfl) (fun w _ => by kernel_rfl) ?_
      rcases Bool.eq_false_or_eq_true (decide ((-1099511627776) ≤ a0_1)) with c239 | c239
      · rw [if_pos (of_decide_eq_true c239)] at H
        refine LL.bool 16 (decide ((-1099511627776) ≤ a0_1)) true c239 (by kernel_rfl) ?_
        refine LL.op (.pointer (some ⟨g236, 1, none⟩)) (by kernel_rfl) (fun w _ => by kernel_rfl) ?_
        refine LL.op (.int .i64 a0_1) (by kernel_rfl) (ld 0 g236 1 rfl (by kernel_rfl) rfl (by kernel_rfl)) ?_
        refine LL.op (.bool (decide (a0_1 ≤ 1099511627776))) (by kernel_rfl) (fun w _ => by kernel_rfl) ?_
        refine LL.op (.bool (decide (a0_1 ≤ 1099511627776))) (by kernel_rfl) (fun w _ => by kernel_rfl) ?_
        refine LL.op (.bool (decide (a0_1 ≤ 1099511627776))) (by kernel_rfl) (fun w _ => by kernel_rfl) ?_
        refine LL.done (s' := [(2, .bool (decide (a0_1 ≤ 1099511627776)))]) [2] (by kernel_rfl) ?_
        refine NN.then ?_
        refine J.ret ?_
        refine NN.fin1 2 (.bool (decide (a0_1 ≤ 1099511627776))) (by kernel_rfl) (by kernel_rfl) (.inl rfl) (fun w hi => hi.ret ?_)
        first | (cases H; rfl) | (obtain rfl := Option.some.inj H; rfl) | (simp only [Option.some.injEq, Prod.mk.injEq] at H; obtain ⟨rfl⟩ := H; rfl)
      · rw [if_neg (of_decide_eq_false c239)] at H
        refine LL.bool 16 (decide ((-1099511627776) ≤ a0_1)) false c239 (by kernel_rfl) ?_
        refine LL.off (by kernel_rfl) (by kernel_rfl) ?_
        refine LL.off (by kernel_rfl) (by kernel_rfl) ?_
        refine LL.off (by kernel_rfl) (by kernel_rfl) ?_
        refine LL.op (.bool false) (by kernel_rfl) (fun w _ => by kernel_rfl) ?_
        refine LL.op (.bool false) (by kernel_rfl) (fun w _ => by kernel_rfl) ?_
        refine LL.done (s' := [(2, .bool false)]) [2] (by kernel_rfl) ?_
        refine NN.then ?_
        refine J.ret ?_
        refine NN.fin1 2 (.bool false) (by kernel_rfl) (by kernel_rfl) (.inl rfl) (fun w hi => hi.ret ?_)
        first | (cases H; rfl) | (obtain rfl := Option.some.inj H; rfl) | (simp only [Option.some.injEq, Prod.mk.injEq] at H; obtain ⟨rfl⟩ := H; rfl)
    · rw [if_neg (of_decide_eq_false c238)] at H
      refine LL.bool 11 (decide (a0_0 ≤ 1099511627776)) false c238 (by kernel_rfl) ?_
      refine LL.off (by kernel_rfl) (by kernel_rfl) ?_
      refine LL.off (by kernel_rfl) (by kernel_rfl) ?_
      refine LL.off (by kernel_rfl) (by kernel_rfl) ?_
      refine LL.op (.bool false) (by kernel_rfl) (fun w _ => by kernel_rfl) ?_
      refine LL.op (.bool false) (by kernel_rfl) (fun w _ => by kernel_rfl) ?_
      refine LL.off (by kernel_rfl) (by kernel_rfl) ?_
      refine LL.off (by kernel_rfl) (by kernel_rfl) ?_
      refine LL.off (by kernel_rfl) (by kernel_rfl) ?_
      refine LL.op (.bool false) (by kernel_rfl) (fun w _ => by kernel_rfl) ?_
      refine LL.op (.bool false) (by kernel_rfl) (fun w _ => by kernel_rfl) ?_
      refine LL.done (s' := [(2, .bool false)]) [2] (by kernel_rfl) ?_
      refine NN.then ?_
      refine J.ret ?_
      refine NN.fin1 2 (.bool false) (by kernel_rfl) (by kernel_rfl) (.inl rfl) (fun w hi => hi.ret ?_)
      first | (cases H; rfl) | (obtain rfl := Option.some.inj H; rfl) | (simp only [Option.some.injEq, Prod.mk.injEq] at H; obtain ⟨rfl⟩ := H; rfl)
  · rw [if_neg (of_decide_eq_false c237)] at H
    refine LL.bool 6 (decide ((-1099511627776) ≤ a0_0)) false c237 (by kernel_rfl) ?_
    refine LL.off (by kernel_rfl) (by kernel_rfl) ?_
    refine LL.off (by kernel_rfl) (by kernel_rfl) ?_
    refine LL.off (by kernel_rfl) (by kernel_rfl) ?_
    refine LL.op (.bool false) (by kernel_rfl) (fun w _ => by kernel_rfl) ?_
    refine LL.op (.bool false) (by kernel_rfl) (fun w _ => by kernel_rfl) ?_
    refine LL.off (by kernel_rfl) (by kernel_rfl) ?_
    refine LL.off (by kernel_rfl) (by kernel_rfl) ?_
    refine LL.off (by kernel_rfl) (by kernel_rfl) ?_
    refine LL.op (.bool false) (by kernel_rfl) (fun w _ => by kernel_rfl) ?_
    refine LL.op (.bool false) (by kernel_rfl) (fun w _ => by kernel_rfl) ?_
    refine LL.off (by kernel_rfl) (by kernel_rfl) ?_
    refine LL.off (by kernel_rfl) (by kernel_rfl) ?_
    refine LL.off (by kernel_rfl) (by kernel_rfl) ?_
    refine LL.op (.bool false) (by kernel_rfl) (fun w _ => by kernel_rfl) ?_
    refine LL.op (.bool false) (by kernel_rfl) (fun w _ => by kernel_rfl) ?_
    refine LL.done (s' := [(2, .bool false)]) [2] (by kernel_rfl) ?_
    refine NN.then ?_
    refine J.ret ?_
    refine NN.fin1 2 (.bool false) (by kernel_rfl) (by kernel_rfl) (.inl rfl) (fun w hi => hi.ret ?_)
    first | (cases H; rfl) | (obtain rfl := Option.some.inj H; rfl) | (simp only [Option.some.injEq, Prod.mk.injEq] at H; obtain ⟨rfl⟩ := H; rfl)

/-! ### sawmillref13_by: function 75 -/
def sawmillref13_by.f (a0_0 : Int) (a0_1 : Int) (a1 : Int) : Option (Int × Int) := some (IntKind.i64.wrap (a0_0 + a1), IntKind.i64.wrap (a0_1 + a1))
set_option maxRecDepth 100000 in
theorem sawmillref13_by.calls (a0_0 : Int) (a0_1 : Int) (a1 : Int)    (r1 : Int) (r2 : Int) (w : World)    (h : sawmillref13_by.f a0_0 a0_1 a1 = some (r1, r2)) :
    Calls Try.prog 75 #[.agg #[.int .i64 a0_0, .int .i64 a0_1], .int .i64 a1] w (Ret w (.agg #[.int .i64 r1, .int .i64 r2])) := by
  have H := h
  clear h
  unfold sawmillref13_by.f at H
  refine Go.Saw.calls (args := [.agg #[.int .i64 a0_0, .int .i64 a0_1], .int .i64 a1]) Try.func75 rfl Try.ntmps75 (by kernel_rfl) ?_
  refine J.seq ?_
  refine J.plain ?_
  refine LL.box 23 (.tmp 0) [.int .i64 a0_0, .int .i64 a0_1] (by kernel_rfl) rfl (by kernel_rfl) (fun g240 => ?_)
  refine LL.alloc 23 [.int .i64 0, .int .i64 0] (by kernel_rfl) rfl (by kernel_rfl) (fun g241 => ?_)
  refine LL.done (s' := [(1, .int .i64 a1), (2, .pointer (some ⟨g240, 0, none⟩)), (4, .pointer (some ⟨g241, 0, none⟩))]) [1, 2, 4] (by kernel_rfl) ?_
  refine NN.then ?_
  refine J.seq ?_
  refine J.plain ?_
  refine LL.op (.pointer (some ⟨g240, 0, none⟩)) (by kernel_rfl) (fun w _ => by kernel_rfl) ?_
  refine LL.op (.int .i64 a0_0) (by kernel_rfl) (ld 1 g240 0 rfl (by kernel_rfl) rfl (by kernel_rfl)) ?_
  refine LL.op (.int .i64 a1) (by kernel_rfl) (fun w _ => by kernel_rfl) ?_
  refine LL.op (.int .i64 (IntKind.i64.wrap (a0_0 + a1))) (by kernel_rfl) (fun w _ => by kernel_rfl) ?_
  refine LL.op (.pointer (some ⟨g240, 1, none⟩)) (by kernel_rfl) (fun w _ => by kernel_rfl) ?_
  refine LL.op (.int .i64 a0_1) (by kernel_rfl) (ld 1 g240 1 rfl (by kernel_rfl) rfl (by kernel_rfl)) ?_
  refine LL.op (.int .i64 a1) (by kernel_rfl) (fun w _ => by kernel_rfl) ?_
  refine LL.op (.int .i64 (IntKind.i64.wrap (a0_1 + a1))) (by kernel_rfl) (fun w _ => by kernel_rfl) ?_
  refine LL.op (.agg #[.int .i64 (IntKind.i64.wrap (a0_0 + a1)), .int .i64 (IntKind.i64.wrap (a0_1 + a1))]) (by kernel_rfl) (fun w _ => by kernel_rfl) ?_
  refine LL.store 0 g241 0 23 (.tmp 4) (.tmp 13) [.int .i64 (IntKind.i64.wrap (a0_0 + a1)), .int .i64 (IntKind.i64.wrap (a0_1 + a1))] (bs' := [(g241, cl [.int .i64 (IntKind.i64.wrap (a0_0 + a1)), .int .i64 (IntKind.i64.wrap (a0_1 + a1))] 23), (g240, cl [.int .i64 a0_0, .int .i64 a0_1] 23)]) rfl (by kernel_rfl) rfl (by kernel_rfl) rfl (by kernel_rfl) ?_
  refine LL.done (s' := [(4, .pointer (some ⟨g241, 0, none⟩))]) [4] (by kernel_rfl) ?_
  refine NN.then ?_
  refine J.ret ?_
  refine NN.finV (.agg #[.int .i64 (IntKind.i64.wrap (a0_0 + a1)), .int .i64 (IntKind.i64.wrap (a0_1 + a1))]) (.inl rfl) ?_ (fun w hi => hi.ret ?_)
  · exact resOk_1 (by kernel_rfl) (.cell (d := 4) (t := 23) 0 g241 0 (by kernel_rfl) rfl (by kernel_rfl))
  first | (cases H; rfl) | (obtain rfl := Option.some.inj H; rfl) | (simp only [Option.some.injEq, Prod.mk.injEq] at H; obtain ⟨rfl, rfl⟩ := H; rfl)

/-! ### sawmillref13_Move: function 51 -/
def sawmillref13_Move.f (a0_0 : Int) (a0_1 : Int) (a0_2 : Int) (a0_3 : Int) (a0_4 : Int) (a0_5 : Int) (a1 : Int) (a2 : Int) (a3 : Int) : Option (Int × Int × Int × Int × Int × Int) := (sawmillref13_by.f a0_0 a0_1 a1).bind fun bx244 => ((sawmillref13_by.f a0_2 a0_3 a2).bind fun bx245 => ((sawmillref13_by.f a0_4 a0_5 a3).bind fun bx246 => (some (bx244.1, bx244.2, bx245.1, bx245.2, bx246.1, bx246.2))))
set_option maxRecDepth 100000 in
theorem sawmillref13_Move.calls (a0_0 : Int) (a0_1 : Int) (a0_2 : Int) (a0_3 : Int) (a0_4 : Int) (a0_5 : Int) (a1 : Int) (a2 : Int) (a3 : Int)    (r1 : Int) (r2 : Int) (r3 : Int) (r4 : Int) (r5 : Int) (r6 : Int) (w : World)    (h : sawmillref13_Move.f a0_0 a0_1 a0_2 a0_3 a0_4 a0_5 a1 a2 a3 = some (r1, r2, r3, r4, r5, r6)) :
    Calls Try.prog 51 #[.agg #[.int .i64 a0_0, .int .i64 a0_1, .int .i64 a0_2, .int .i64 a0_3, .int .i64 a0_4, .int .i64 a0_5], .int .i64 a1, .int .i64 a2, .int .i64 a3] w (Ret w (.agg #[.int .i64 r1, .int .i64 r2, .int .i64 r3, .int .i64 r4, .int .i64 r5, .int .i64 r6])) := by
  have H := h
  clear h
  unfold sawmillref13_Move.f at H
  refine Go.Saw.calls (args := [.agg #[.int .i64 a0_0, .int .i64 a0_1, .int .i64 a0_2, .int .i64 a0_3, .int .i64 a0_4, .int .i64 a0_5], .int .i64 a1, .int .i64 a2, .int .i64 a3]) Try.func51 rfl Try.ntmps51 (by kernel_rfl) ?_
  refine J.seq ?_
  refine J.plain ?_
  refine LL.box 25 (.tmp 0) [.int .i64 a0_0, .int .i64 a0_1, .int .i64 a0_2, .int .i64 a0_3, .int .i64 a0_4, .int .i64 a0_5] (by kernel_rfl) rfl (by kernel_rfl) (fun g242 => ?_)
  refine LL.alloc 25 [.int .i64 0, .int .i64 0, .int .i64 0, .int .i64 0, .int .i64 0, .int .i64 0] (by kernel_rfl) rfl (by kernel_rfl) (fun g243 => ?_)
  refine LL.done (s' := [(1, .int .i64 a1), (2, .int .i64 a2), (3, .int .i64 a3), (4, .pointer (some ⟨g242, 0, none⟩)), (8, .pointer (some ⟨g243, 0, none⟩))]) [1, 2, 3, 4, 8] (by kernel_rfl) ?_
  refine NN.then ?_
  refine J.seq ?_
  obtain ⟨⟨x244_1, x244_2⟩, hx244, H⟩ := bind_some H
  (try dsimp only at H)
  obtain ⟨⟨x245_1, x245_2⟩, hx245, H⟩ := bind_some H
  (try dsimp only at H)
  obtain ⟨⟨x246_1, x246_2⟩, hx246, H⟩ := bind_some H
  (try dsimp only at H)
  refine J.heldBut [(g242, cl [.int .i64 a0_0, .int .i64 a0_1, .int .i64 a0_2, .int .i64 a0_3, .int .i64 a0_4, .int .i64 a0_5] 25)] follows ?_
  refine HH.take 0 (.pointer (some ⟨g242, 0, none⟩)) rfl (by kernel_rfl) (by kernel_rfl) (fun _ h => h.sub (List.Sublist.cons _ (List.Sublist.refl _))) (fun w _ => by kernel_rfl) ?_
  refine HH.take 1 (.agg #[.int .i64 a0_0, .int .i64 a0_1]) rfl (by kernel_rfl) (by kernel_rfl) (fun _ h => h.sub (List.Sublist.cons _ (List.Sublist.refl _))) (ld 0 g242 0 rfl (by kernel_rfl) rfl (by kernel_rfl)) ?_
  refine HH.take 2 (.int .i64 a1) rfl (by kernel_rfl) (by kernel_rfl) (fun _ h => h.sub (List.Sublist.cons _ (List.Sublist.refl _))) (fun w _ => by kernel_rfl) ?_
  refine HH.take 4 (.pointer (some ⟨g242, 2, none⟩)) rfl (by kernel_rfl) (by kernel_rfl) (fun _ h => h.sub (List.Sublist.cons _ (List.Sublist.refl _))) (fun w _ => by kernel_rfl) ?_
  refine HH.take 5 (.agg #[.int .i64 a0_2, .int .i64 a0_3]) rfl (by kernel_rfl) (by kernel_rfl) (fun _ h => h.sub (List.Sublist.cons _ (List.Sublist.refl _))) (ld 0 g242 2 rfl (by kernel_rfl) rfl (by kernel_rfl)) ?_
  refine HH.take 6 (.int .i64 a2) rfl (by kernel_rfl) (by kernel_rfl) (fun _ h => h.sub (List.Sublist.cons _ (List.Sublist.refl _))) (fun w _ => by kernel_rfl) ?_
  refine HH.take 8 (.pointer (some ⟨g242, 4, none⟩)) rfl (by kernel_rfl) (by kernel_rfl) (fun _ h => h.sub (List.Sublist.cons _ (List.Sublist.refl _))) (fun w _ => by kernel_rfl) ?_
  refine HH.take 9 (.agg #[.int .i64 a0_4, .int .i64 a0_5]) rfl (by kernel_rfl) (by kernel_rfl) (fun _ h => h.sub (List.Sublist.cons _ (List.Sublist.refl _))) (ld 0 g242 4 rfl (by kernel_rfl) rfl (by kernel_rfl)) ?_
  refine HH.take 10 (.int .i64 a3) rfl (by kernel_rfl) (by kernel_rfl) (fun _ h => h.sub (List.Sublist.cons _ (List.Sublist.refl _))) (fun w _ => by kernel_rfl) ?_
  refine HH.all1 3 (by kernel_rfl) ?_
  refine HS.call 75 #[.agg #[.int .i64 a0_0, .int .i64 a0_1], .int .i64 a1] (.agg #[.int .i64 x244_1, .int .i64 x244_2]) rfl (by kernel_rfl) (fun w => by kernel_rfl) (fun _ h => h.sub (List.Sublist.cons _ (List.Sublist.refl _))) (fun w hw => sawmillref13_by.calls a0_0 a0_1 a1   _ _ w   hx244) ?_
  refine HH.all1 7 (by kernel_rfl) ?_
  refine HS.call 75 #[.agg #[.int .i64 a0_2, .int .i64 a0_3], .int .i64 a2] (.agg #[.int .i64 x245_1, .int .i64 x245_2]) rfl (by kernel_rfl) (fun w => by kernel_rfl) (fun _ h => h.sub (List.Sublist.cons _ (List.Sublist.refl _))) (fun w hw => sawmillref13_by.calls a0_2 a0_3 a2   _ _ w   hx245) ?_
  refine HH.all1 11 (by kernel_rfl) ?_
  refine HS.call 75 #[.agg #[.int .i64 a0_4, .int .i64 a0_5], .int .i64 a3] (.agg #[.int .i64 x246_1, .int .i64 x246_2]) rfl (by kernel_rfl) (fun w => by kernel_rfl) (fun _ h => h.sub (List.Sublist.cons _ (List.Sublist.refl _))) (fun w hw => sawmillref13_by.calls a0_4 a0_5 a3   _ _ w   hx246) ?_
  refine HH.take 12 (.agg #[.int .i64 x244_1, .int .i64 x244_2, .int .i64 x245_1, .int .i64 x245_2, .int .i64 x246_1, .int .i64 x246_2]) rfl (by kernel_rfl) (by kernel_rfl) (fun _ h => h.sub (List.Sublist.cons _ (List.Sublist.refl _))) (fun w _ => by kernel_rfl) ?_
  refine HH.all1 13 (by kernel_rfl) ?_
  refine HS.store 0 g243 0 25 (.tmp 8) (.tmp 21) [.int .i64 x244_1, .int .i64 x244_2, .int .i64 x245_1, .int .i64 x245_2, .int .i64 x246_1, .int .i64 x246_2] (bs' := [(g243, cl [.int .i64 x244_1, .int .i64 x244_2, .int .i64 x245_1, .int .i64 x245_2, .int .i64 x246_1, .int .i64 x246_2] 25), (g242, cl [.int .i64 a0_0, .int .i64 a0_1, .int .i64 a0_2, .int .i64 a0_3, .int .i64 a0_4, .int .i64 a0_5] 25)]) rfl rfl (by kernel_rfl) rfl (by kernel_rfl) rfl (by kernel_rfl) (fun _ h => h.sub (List.Sublist.cons _ (List.Sublist.refl _))) ?_
  refine HH.done (s' := [(8, .pointer (some ⟨g243, 0, none⟩))]) [8] (by kernel_rfl) (by kernel_rfl) ?_
  refine NN.then ?_
  refine J.ret ?_
  refine NN.finV (.agg #[.int .i64 x244_1, .int .i64 x244_2, .int .i64 x245_1, .int .i64 x245_2, .int .i64 x246_1, .int .i64 x246_2]) (.inl rfl) ?_ (fun w hi => hi.ret ?_)
  · exact resOk_1 (by kernel_rfl) (.cell (d := 8) (t := 25) 0 g243 0 (by kernel_rfl) rfl (by kernel_rfl))
  first | (cases H; rfl) | (obtain rfl := Option.some.inj H; rfl) | (simp only [Option.some.injEq, Prod.mk.injEq] at H; obtain ⟨rfl, rfl, rfl, rfl, rfl, rfl⟩ := H; rfl)

/-! ### sawmillref13_Clip: function 42 -/
def sawmillref13_Clip.l0 (K : Nat) (a0 : List E41) (a1_0 : Int) (a1_1 : Int) (a1_2 : Int) (a1_3 : Int) (a1_4 : Int) (a1_5 : Int) : Nat → List E41 → Int → Option ((List E41))
  | 0, _, _ => none
  | k + 1, x5l0, x6l0 => if x6l0 < (a0.length : Int) then ((idx a0 x6l0).bind fun be258 => ((sawmillref13_Touches.f be258.1 be258.2.1 be258.2.2.1 be258.2.2.2.1 be258.2.2.2.2.1 be258.2.2.2.2.2.1 be258.2.2.2.2.2.2 a1_0 a1_1 a1_2 a1_3 a1_4 a1_5).bind fun x259 => (if x259 = true then ((sawmillref13_Meet.f be258.2.1 be258.2.2.1 be258.2.2.2.1 be258.2.2.2.2.1 be258.2.2.2.2.2.1 be258.2.2.2.2.2.2 a1_0 a1_1 a1_2 a1_3 a1_4 a1_5).bind fun bx261 => ((sawmillref13_Move.f bx261.1 bx261.2.1 bx261.2.2.1 bx261.2.2.2.1 bx261.2.2.2.2.1 bx261.2.2.2.2.2 (IntKind.i64.wrap (0 - a1_0)) (IntKind.i64.wrap (0 - a1_2)) (IntKind.i64.wrap (0 - a1_4))).bind fun bx262 => ((app 56 x5l0 ([(be258.1, bx262.1, bx262.2.1, bx262.2.2.1, bx262.2.2.2.1, bx262.2.2.2.2.1, bx262.2.2.2.2.2)] : List E41)).bind fun y271 => (sawmillref13_Clip.l0 K a0 a1_0 a1_1 a1_2 a1_3 a1_4 a1_5 k y271 (IntKind.i64.wrap (x6l0 + 1)))))) else (sawmillref13_Clip.l0 K a0 a1_0 a1_1 a1_2 a1_3 a1_4 a1_5 k x5l0 (IntKind.i64.wrap (x6l0 + 1)))))) else (some x5l0)
def sawmillref13_Clip.f (K : Nat) (a0 : List E41) (a1_0 : Int) (a1_1 : Int) (a1_2 : Int) (a1_3 : Int) (a1_4 : Int) (a1_5 : Int) : Option ((List E41)) := (sawmillref13_Check.f K a0).bind fun x248 => (if x248 = 0 then ((sawmillref13_bounded.f a1_0 a1_1).bind fun x250 => (if x250 = true then ((sawmillref13_bounded.f a1_2 a1_3).bind fun x252 => (if x252 = true then ((sawmillref13_bounded.f a1_4 a1_5).bind fun x254 => (if x254 = true then (sawmillref13_Clip.l0 K a0 a1_0 a1_1 a1_2 a1_3 a1_4 a1_5 K ([] : List E41) 0) else (some []))) else (some []))) else (some []))) else (some []))
set_option maxRecDepth 100000 in
theorem sawmillref13_Clip.calls (K : Nat) (a0 : List E41) (a1_0 : Int) (a1_1 : Int) (a1_2 : Int) (a1_3 : Int) (a1_4 : Int) (a1_5 : Int)  (Aa0 : Option Addr) (ca0 : Nat)  (r1 : List E41) (w : World)   (ha0 : KRow (Cx.start w) enc41 7 a0 Aa0) (h : sawmillref13_Clip.f K a0 a1_0 a1_1 a1_2 a1_3 a1_4 a1_5 = some r1) :
    Calls Try.prog 42 #[.slice Aa0 a0.length ca0, .agg #[.int .i64 a1_0, .int .i64 a1_1, .int .i64 a1_2, .int .i64 a1_3, .int .i64 a1_4, .int .i64 a1_5]] w (RetR w enc41 7 r1 (fun A_ c_ => .slice A_ r1.length c_)) := by
  have H := h
  clear h
  unfold sawmillref13_Clip.f at H
  refine Go.Saw.calls (args := [.slice Aa0 a0.length ca0, .agg #[.int .i64 a1_0, .int .i64 a1_1, .int .i64 a1_2, .int .i64 a1_3, .int .i64 a1_4, .int .i64 a1_5]]) Try.func42 rfl Try.ntmps42 (by kernel_rfl) ?_
  refine J.seq ?_
  refine J.plain ?_
  refine LL.box 25 (.tmp 1) [.int .i64 a1_0, .int .i64 a1_1, .int .i64 a1_2, .int .i64 a1_3, .int .i64 a1_4, .int .i64 a1_5] (by kernel_rfl) rfl (by kernel_rfl) (fun g247 => ?_)
  refine LL.op (.slice none 0 0) (by kernel_rfl) (fun w _ => by kernel_rfl) ?_
  refine LL.done (s' := [(0, .slice Aa0 a0.length ca0), (3, .pointer (some ⟨g247, 0, none⟩)), (4, .slice none 0 0)]) [0, 3, 4] (by kernel_rfl) ?_
  refine NN.then ?_
  refine J.seq ?_
  refine J.seq ?_
  refine J.plain ?_
  refine LL.op (.slice Aa0 a0.length ca0) (by kernel_rfl) (fun w _ => by kernel_rfl) ?_
  obtain ⟨x248, hx248, H⟩ := bind_some H
  refine LL.call 26 #[.slice Aa0 a0.length ca0] (.int .i64 x248) (by kernel_rfl) (fun w => by kernel_rfl) (fun w hw => sawmillref13_Check.calls K a0  _ _ _ w  (ha0.at hw) hx248) ?_
  refine LL.op (.bool (!(x248 == 0))) (by kernel_rfl) (fun w _ => by kernel_rfl) ?_
  refine LL.op (.bool (!(x248 == 0))) (by kernel_rfl) (fun w _ => by kernel_rfl) ?_
  rcases Bool.eq_false_or_eq_true ((x248 == 0)) with c249 | c249
  · rw [if_pos (eq_of_beq c249)] at H
    refine LL.bool 10 (!(x248 == 0)) false (by rw [show (!(x248 == 0)) = !((x248 == 0)) from rfl, c249]; rfl) (by kernel_rfl) ?_
    refine LL.op (.pointer (some ⟨g247, 0, none⟩)) (by kernel_rfl) (fun w _ => by kernel_rfl) ?_
    refine LL.op (.agg #[.int .i64 a1_0, .int .i64 a1_1]) (by kernel_rfl) (ld 0 g247 0 rfl (by kernel_rfl) rfl (by kernel_rfl)) ?_
    obtain ⟨x250, hx250, H⟩ := bind_some H
    refine LL.call 68 #[.agg #[.int .i64 a1_0, .int .i64 a1_1]] (.bool x250) (by kernel_rfl) (fun w => by kernel_rfl) (fun w hw => sawmillref13_bounded.calls a1_0 a1_1   _ w   hx250) ?_
    refine LL.op (.bool (!x250)) (by kernel_rfl) (fun w _ => by kernel_rfl) ?_
    refine LL.op (.bool (!x250)) (by kernel_rfl) (fun w _ => by kernel_rfl) ?_
    refine LL.op (.bool (!x250)) (by kernel_rfl) (fun w _ => by kernel_rfl) ?_
    rcases Bool.eq_false_or_eq_true (x250) with c251 | c251
    · rw [if_pos (c251)] at H
      refine LL.bool 16 (!x250) false (by rw [show (!x250) = !(x250) from rfl, c251]; rfl) (by kernel_rfl) ?_
      refine LL.op (.pointer (some ⟨g247, 2, none⟩)) (by kernel_rfl) (fun w _ => by kernel_rfl) ?_
      refine LL.op (.agg #[.int .i64 a1_2, .int .i64 a1_3]) (by kernel_rfl) (ld 0 g247 2 rfl (by kernel_rfl) rfl (by kernel_rfl)) ?_
      obtain ⟨x252, hx252, H⟩ := bind_some H
      refine LL.call 68 #[.agg #[.int .i64 a1_2, .int .i64 a1_3]] (.bool x252) (by kernel_rfl) (fun w => by kernel_rfl) (fun w hw => sawmillref13_bounded.calls a1_2 a1_3   _ w   hx252) ?_
      refine LL.op (.bool (!x252)) (by kernel_rfl) (fun w _ => by kernel_rfl) ?_
      refine LL.op (.bool (!x252)) (by kernel_rfl) (fun w _ => by kernel_rfl) ?_
      refine LL.op (.bool (!x252)) (by kernel_rfl) (fun w _ => by kernel_rfl) ?_
      rcases Bool.eq_false_or_eq_true (x252) with c253 | c253
      · rw [if_pos (c253)] at H
        refine LL.bool 22 (!x252) false (by rw [show (!x252) = !(x252) from rfl, c253]; rfl) (by kernel_rfl) ?_
        refine LL.op (.pointer (some ⟨g247, 4, none⟩)) (by kernel_rfl) (fun w _ => by kernel_rfl) ?_
        refine LL.op (.agg #[.int .i64 a1_4, .int .i64 a1_5]) (by kernel_rfl) (ld 0 g247 4 rfl (by kernel_rfl) rfl (by kernel_rfl)) ?_
        obtain ⟨x254, hx254, H⟩ := bind_some H
        refine LL.call 68 #[.agg #[.int .i64 a1_4, .int .i64 a1_5]] (.bool x254) (by kernel_rfl) (fun w => by kernel_rfl) (fun w hw => sawmillref13_bounded.calls a1_4 a1_5   _ w   hx254) ?_
        refine LL.op (.bool (!x254)) (by kernel_rfl) (fun w _ => by kernel_rfl) ?_
        refine LL.op (.bool (!x254)) (by kernel_rfl) (fun w _ => by kernel_rfl) ?_
        refine LL.done (s' := [(0, .slice Aa0 a0.length ca0), (3, .pointer (some ⟨g247, 0, none⟩)), (4, .slice none 0 0), (27, .bool (!x254))]) [0, 3, 4, 27] (by kernel_rfl) ?_
        refine NN.then ?_
        rcases Bool.eq_false_or_eq_true (x254) with c255 | c255
        · rw [if_pos (c255)] at H
          refine J.condF (b := !x254) (by rw [show (!x254) = !(x254) from rfl, c255]; rfl) (by kernel_rfl) (by kernel_rfl) ?_
          refine J.skip ?_
          refine NN.then ?_
          refine J.seq ?_
          refine J.plain ?_
          refine LL.op (.slice none 0 0) (by kernel_rfl) (fun w _ => by kernel_rfl) ?_
          refine LL.done (s' := [(0, .slice Aa0 a0.length ca0), (3, .pointer (some ⟨g247, 0, none⟩)), (4, .slice none 0 0), (5, .slice none 0 0)]) [0, 3, 4, 5] (by kernel_rfl) ?_
          refine NN.then ?_
          refine J.seq ?_
          refine J.seq ?_
          refine J.plain ?_
          refine LL.op (.int .i64 0) (by kernel_rfl) (fun w _ => by kernel_rfl) ?_
          refine LL.done (s' := [(0, .slice Aa0 a0.length ca0), (3, .pointer (some ⟨g247, 0, none⟩)), (4, .slice none 0 0), (5, .slice none 0 0), (6, .int .i64 0)]) [0, 3, 4, 5, 6] (by kernel_rfl) ?_
          refine NN.then ?_
          refine J.block ?_
          refine J.to [0, 3, 4, 5, 6] (s' := [(0, .slice Aa0 a0.length ca0), (3, .pointer (some ⟨g247, 0, none⟩)), (4, .slice none 0 0), (5, .slice none 0 0), (6, .int .i64 0)]) (by kernel_rfl) ?_
          refine J.loop (fun n_ s_ bs_ => ∃ (x5l0 : List E41) (x6l0 : Int) (Ax5l0 : Option Addr) (cx5l0 : Nat) (bax5l0 : Bs), sawmillref13_Clip.l0 K a0 a1_0 a1_1 a1_2 a1_3 a1_4 a1_5 n_ x5l0 x6l0 = some r1 ∧ Own enc41 7 41 x5l0 Ax5l0 cx5l0 bax5l0 ∧ s_ = [(0, .slice Aa0 a0.length ca0), (3, .pointer (some ⟨g247, 0, none⟩)), (4, .slice none 0 0), (5, .slice Ax5l0 x5l0.length cx5l0), (6, .int .i64 x6l0)] ∧ [(g247, cl [.int .i64 a1_0, .int .i64 a1_1, .int .i64 a1_2, .int .i64 a1_3, .int .i64 a1_4, .int .i64 a1_5] 25)] ++ bax5l0 = bs_) K ⟨([] : List E41), 0, none, 0, [], H, (.nil none rfl), rfl, rfl⟩ ?_
          rintro (_ | n_) s_ bs_ ⟨x5l0, x6l0, Ax5l0, cx5l0, bax5l0, H, ox5l0, rfl, rfl⟩
          · exact absurd H (by simp [sawmillref13_Clip.l0])
          simp only [sawmillref13_Clip.l0] at H
          refine J.seq ?_
          refine J.seq ?_
          refine J.plain ?_
          refine LL.op (.int .i64 x6l0) (by kernel_rfl) (fun w _ => by kernel_rfl) ?_
          refine LL.op (.slice Aa0 a0.length ca0) (by kernel_rfl) (fun w _ => by kernel_rfl) ?_
          refine LL.op (.int .i64 (a0.length : Int)) (by kernel_rfl) (fun w _ => by kernel_rfl) ?_
          refine LL.op (.bool (decide (x6l0 < (a0.length : Int)))) (by kernel_rfl) (fun w _ => by kernel_rfl) ?_
          refine LL.done (s' := [(0, .slice Aa0 a0.length ca0), (3, .pointer (some ⟨g247, 0, none⟩)), (4, .slice none 0 0), (5, .slice Ax5l0 x5l0.length cx5l0), (6, .int .i64 x6l0), (31, .bool (decide (x6l0 < (a0.length : Int))))]) [0, 3, 4, 5, 6, 31] (by kernel_rfl) ?_
          refine NN.then ?_
          rcases Bool.eq_false_or_eq_true (decide (x6l0 < (a0.length : Int))) with c257 | c257
          · rw [if_pos (of_decide_eq_true c257)] at H
            refine J.condT (b := decide (x6l0 < (a0.length : Int))) c257 (by kernel_rfl) (by kernel_rfl) ?_
            refine J.skip ?_
            refine NN.then ?_
            refine J.seq ?_
            refine J.block ?_
            refine J.seq ?_
            refine J.drawn follows (by kernel_rfl) ?_
            refine QQ.op (.slice Aa0 a0.length ca0) (by kernel_rfl) (fun w _ => by kernel_rfl) ?_
            refine QQ.op (.int .i64 x6l0) (by kernel_rfl) (fun w _ => by kernel_rfl) ?_
            obtain ⟨⟨e258_1, e258_2, e258_3, e258_4, e258_5, e258_6, e258_7⟩, he258, H⟩ := bind_some H
            (try dsimp only at H)
            refine QQ.op (.pointer (rp Aa0 (x6l0.toNat * 7 + 0))) (by kernel_rfl) (idxR (cp := ca0) (ik := .i64) ha0 he258 rfl (by kernel_rfl) (by kernel_rfl) (by kernel_rfl)) ?_
            refine QQ.op (.agg #[.int .i64 e258_1, .int .i64 e258_2, .int .i64 e258_3, .int .i64 e258_4, .int .i64 e258_5, .int .i64 e258_6, .int .i64 e258_7]) (by kernel_rfl) (ldR (off := 0) ha0 he258 rfl (by kernel_rfl) (by kernel_rfl)) ?_
            refine QQ.op (.agg #[.int .i64 a1_0, .int .i64 a1_1, .int .i64 a1_2, .int .i64 a1_3, .int .i64 a1_4, .int .i64 a1_5]) (by kernel_rfl) (ld 0 g247 0 rfl (by kernel_rfl) rfl (by kernel_rfl)) ?_
            obtain ⟨x259, hx259, H⟩ := bind_some H
            refine QQ.call 39 #[.agg #[.int .i64 e258_1, .int .i64 e258_2, .int .i64 e258_3, .int .i64 e258_4, .int .i64 e258_5, .int .i64 e258_6, .int .i64 e258_7], .agg #[.int .i64 a1_0, .int .i64 a1_1, .int .i64 a1_2, .int .i64 a1_3, .int .i64 a1_4, .int .i64 a1_5]] (.bool x259) (by kernel_rfl) (fun w => by kernel_rfl) (fun w hw => sawmillref13_Touches.calls e258_1 e258_2 e258_3 e258_4 e258_5 e258_6 e258_7 a1_0 a1_1 a1_2 a1_3 a1_4 a1_5   _ w   hx259) ?_
            refine QQ.done (s' := [(0, .slice Aa0 a0.length ca0), (3, .pointer (some ⟨g247, 0, none⟩)), (4, .slice none 0 0), (5, .slice Ax5l0 x5l0.length cx5l0), (6, .int .i64 x6l0), (39, .bool x259)]) [0, 3, 4, 5, 6, 39] (by kernel_rfl) ?_
            refine NN.then ?_
            rcases Bool.eq_false_or_eq_true (x259) with c260 | c260
            · rw [if_pos (c260)] at H
              refine J.condT (b := x259) c260 (by kernel_rfl) (by kernel_rfl) ?_
              obtain ⟨⟨x261_1, x261_2, x261_3, x261_4, x261_5, x261_6⟩, hx261, H⟩ := bind_some H
              (try dsimp only at H)
              obtain ⟨⟨x262_1, x262_2, x262_3, x262_4, x262_5, x262_6⟩, hx262, H⟩ := bind_some H
              (try dsimp only at H)
              obtain ⟨y271, hy271, H⟩ := bind_some H
              refine J.heldBut [(g247, cl [.int .i64 a1_0, .int .i64 a1_1, .int .i64 a1_2, .int .i64 a1_3, .int .i64 a1_4, .int .i64 a1_5] 25)] follows ?_
              refine HH.take 0 (.slice Ax5l0 x5l0.length cx5l0) rfl (by kernel_rfl) (by kernel_rfl) (fun _ h => h.sub (List.sublist_append_left _ _)) (fun w _ => by kernel_rfl) ?_
              refine HH.take 1 (.slice Aa0 a0.length ca0) rfl (by kernel_rfl) (by kernel_rfl) (fun _ h => h.sub (List.sublist_append_left _ _)) (fun w _ => by kernel_rfl) ?_
              refine HH.take 2 (.int .i64 x6l0) rfl (by kernel_rfl) (by kernel_rfl) (fun _ h => h.sub (List.sublist_append_left _ _)) (fun w _ => by kernel_rfl) ?_
              refine HH.take 3 (.pointer (rp Aa0 (x6l0.toNat * 7 + 0))) rfl (by kernel_rfl) (by kernel_rfl) (fun _ h => h.sub (List.sublist_append_left _ _)) (idxR (cp := ca0) (ik := .i64) ha0 he258 rfl (by kernel_rfl) (by kernel_rfl) (by kernel_rfl)) ?_
              refine HH.take 4 (.pointer (rp Aa0 (x6l0.toNat * 7 + 0))) rfl (by kernel_rfl) (by kernel_rfl) (fun _ h => h.sub (List.sublist_append_left _ _)) (fldR (b := x6l0.toNat * 7) (off := 0) (o1 := 0) (o2 := 0) ha0 he258 rfl (by kernel_rfl) (by kernel_rfl) rfl) ?_
              refine HH.take 5 (.int .i64 e258_1) rfl (by kernel_rfl) (by kernel_rfl) (fun _ h => h.sub (List.sublist_append_left _ _)) (ldR (off := 0) ha0 he258 rfl (by kernel_rfl) (by kernel_rfl)) ?_
              refine HH.take 6 (.slice Aa0 a0.length ca0) rfl (by kernel_rfl) (by kernel_rfl) (fun _ h => h.sub (List.sublist_append_left _ _)) (fun w _ => by kernel_rfl) ?_
              refine HH.take 7 (.int .i64 x6l0) rfl (by kernel_rfl) (by kernel_rfl) (fun _ h => h.sub (List.sublist_append_left _ _)) (fun w _ => by kernel_rfl) ?_
              refine HH.take 8 (.pointer (rp Aa0 (x6l0.toNat * 7 + 0))) rfl (by kernel_rfl) (by kernel_rfl) (fun _ h => h.sub (List.sublist_append_left _ _)) (idxR (cp := ca0) (ik := .i64) ha0 he258 rfl (by kernel_rfl) (by kernel_rfl) (by kernel_rfl)) ?_
              refine HH.take 9 (.pointer (rp Aa0 (x6l0.toNat * 7 + 1))) rfl (by kernel_rfl) (by kernel_rfl) (fun _ h => h.sub (List.sublist_append_left _ _)) (fldR (b := x6l0.toNat * 7) (off := 1) (o1 := 0) (o2 := 1) ha0 he258 rfl (by kernel_rfl) (by kernel_rfl) rfl) ?_
              refine HH.take 10 (.agg #[.int .i64 e258_2, .int .i64 e258_3, .int .i64 e258_4, .int .i64 e258_5, .int .i64 e258_6, .int .i64 e258_7]) rfl (by kernel_rfl) (by kernel_rfl) (fun _ h => h.sub (List.sublist_append_left _ _)) (ldR (off := 1) ha0 he258 rfl (by kernel_rfl) (by kernel_rfl)) ?_
              refine HH.take 11 (.agg #[.int .i64 a1_0, .int .i64 a1_1, .int .i64 a1_2, .int .i64 a1_3, .int .i64 a1_4, .int .i64 a1_5]) rfl (by kernel_rfl) (by kernel_rfl) (fun _ h => h.sub (List.sublist_append_left _ _)) (ld 0 g247 0 rfl (by kernel_rfl) rfl (by kernel_rfl)) ?_
              refine HH.take 13 (.pointer (some ⟨g247, 0, none⟩)) rfl (by kernel_rfl) (by kernel_rfl) (fun _ h => h.sub (List.sublist_append_left _ _)) (fun w _ => by kernel_rfl) ?_
              refine HH.take 14 (.pointer (some ⟨g247, 0, none⟩)) rfl (by kernel_rfl) (by kernel_rfl) (fun _ h => h.sub (List.sublist_append_left _ _)) (fun w _ => by kernel_rfl) ?_
              refine HH.take 15 (.int .i64 a1_0) rfl (by kernel_rfl) (by kernel_rfl) (fun _ h => h.sub (List.sublist_append_left _ _)) (ld 0 g247 0 rfl (by kernel_rfl) rfl (by kernel_rfl)) ?_
              refine HH.take 16 (.int .i64 (IntKind.i64.wrap (0 - a1_0))) rfl (by kernel_rfl) (by kernel_rfl) (fun _ h => h.sub (List.sublist_append_left _ _)) (fun w _ => by kernel_rfl) ?_
              refine HH.take 17 (.pointer (some ⟨g247, 2, none⟩)) rfl (by kernel_rfl) (by kernel_rfl) (fun _ h => h.sub (List.sublist_append_left _ _)) (fun w _ => by kernel_rfl) ?_
              refine HH.take 18 (.pointer (some ⟨g247, 2, none⟩)) rfl (by kernel_rfl) (by kernel_rfl) (fun _ h => h.sub (List.sublist_append_left _ _)) (fun w _ => by kernel_rfl) ?_
              refine HH.take 19 (.int .i64 a1_2) rfl (by kernel_rfl) (by kernel_rfl) (fun _ h => h.sub (List.sublist_append_left _ _)) (ld 0 g247 2 rfl (by kernel_rfl) rfl (by kernel_rfl)) ?_
              refine HH.take 20 (.int .i64 (IntKind.i64.wrap (0 - a1_2))) rfl (by kernel_rfl) (by kernel_rfl) (fun _ h => h.sub (List.sublist_append_left _ _)) (fun w _ => by kernel_rfl) ?_
              refine HH.take 21 (.pointer (some ⟨g247, 4, none⟩)) rfl (by kernel_rfl) (by kernel_rfl) (fun _ h => h.sub (List.sublist_append_left _ _)) (fun w _ => by kernel_rfl) ?_
              refine HH.take 22 (.pointer (some ⟨g247, 4, none⟩)) rfl (by kernel_rfl) (by kernel_rfl) (fun _ h => h.sub (List.sublist_append_left _ _)) (fun w _ => by kernel_rfl) ?_
              refine HH.take 23 (.int .i64 a1_4) rfl (by kernel_rfl) (by kernel_rfl) (fun _ h => h.sub (List.sublist_append_left _ _)) (ld 0 g247 4 rfl (by kernel_rfl) rfl (by kernel_rfl)) ?_
              refine HH.take 24 (.int .i64 (IntKind.i64.wrap (0 - a1_4))) rfl (by kernel_rfl) (by kernel_rfl) (fun _ h => h.sub (List.sublist_append_left _ _)) (fun w _ => by kernel_rfl) ?_
              refine HH.all1 12 (by kernel_rfl) ?_
              refine HS.call 49 #[.agg #[.int .i64 e258_2, .int .i64 e258_3, .int .i64 e258_4, .int .i64 e258_5, .int .i64 e258_6, .int .i64 e258_7], .agg #[.int .i64 a1_0, .int .i64 a1_1, .int .i64 a1_2, .int .i64 a1_3, .int .i64 a1_4, .int .i64 a1_5]] (.agg #[.int .i64 x261_1, .int .i64 x261_2, .int .i64 x261_3, .int .i64 x261_4, .int .i64 x261_5, .int .i64 x261_6]) rfl (by kernel_rfl) (fun w => by kernel_rfl) (fun _ h => h.sub (List.sublist_append_left _ _)) (fun w hw => sawmillref13_Meet.calls e258_2 e258_3 e258_4 e258_5 e258_6 e258_7 a1_0 a1_1 a1_2 a1_3 a1_4 a1_5   _ _ _ _ _ _ w   hx261) ?_
              refine HH.all1 25 (by kernel_rfl) ?_
              refine HS.call 51 #[.agg #[.int .i64 x261_1, .int .i64 x261_2, .int .i64 x261_3, .int .i64 x261_4, .int .i64 x261_5, .int .i64 x261_6], .int .i64 (IntKind.i64.wrap (0 - a1_0)), .int .i64 (IntKind.i64.wrap (0 - a1_2)), .int .i64 (IntKind.i64.wrap (0 - a1_4))] (.agg #[.int .i64 x262_1, .int .i64 x262_2, .int .i64 x262_3, .int .i64 x262_4, .int .i64 x262_5, .int .i64 x262_6]) rfl (by kernel_rfl) (fun w => by kernel_rfl) (fun _ h => h.sub (List.sublist_append_left _ _)) (fun w hw => sawmillref13_Move.calls x261_1 x261_2 x261_3 x261_4 x261_5 x261_6 (IntKind.i64.wrap (0 - a1_0)) (IntKind.i64.wrap (0 - a1_2)) (IntKind.i64.wrap (0 - a1_4))   _ _ _ _ _ _ w   hx262) ?_
              refine HH.take 26 (.agg #[.int .i64 e258_1, .int .i64 x262_1, .int .i64 x262_2, .int .i64 x262_3, .int .i64 x262_4, .int .i64 x262_5, .int .i64 x262_6]) rfl (by kernel_rfl) (by kernel_rfl) (fun _ h => h.sub (List.sublist_append_left _ _)) (fun w _ => by kernel_rfl) ?_
              refine HH.all1 27 (by kernel_rfl) ?_
              refine HS.lit 26 1 #[(0, .tmp 66)] [.int .i64 e258_1, .int .i64 x262_1, .int .i64 x262_2, .int .i64 x262_3, .int .i64 x262_4, .int .i64 x262_5, .int .i64 x262_6] 41 ([(e258_1, x262_1, x262_2, x262_3, x262_4, x262_5, x262_6)] : List E41) rfl (by kernel_rfl) rfl (by kernel_rfl) ok41.len rfl rfl (fun _ h => h.sub (List.sublist_append_left _ _)) (fun R290 F291 A292 c293 le294 k295 fr296 => ?_)
              refine HH.all1 28 (by kernel_rfl) ?_
              refine HS.app (l2 := ([(e258_1, x262_1, x262_2, x262_3, x262_4, x262_5, x262_6)] : List E41)) (cap := cx5l0) (c2 := c293) [(g247, cl [.int .i64 a1_0, .int .i64 a1_1, .int .i64 a1_2, .int .i64 a1_3, .int .i64 a1_4, .int .i64 a1_5] 25)] (.tmp 40) (.tmp 67) el26 ok41 ox5l0 k295 hy271 rfl (by kernel_rfl) rfl (by kernel_rfl) (by kernel_rfl) (fun _ h => (h).back le294) (fun A298 c299 ba300 o301 => ?_)
              refine HH.take 29 (.slice A298 y271.length c299) rfl (by kernel_rfl) (by kernel_rfl) (fun _ h => (h.sub (List.sublist_append_left _ _)).back le294) (fun w _ => by kernel_rfl) ?_
              refine HH.done (s' := [(0, .slice Aa0 a0.length ca0), (3, .pointer (some ⟨g247, 0, none⟩)), (4, .slice none 0 0), (5, .slice A298 y271.length c299), (6, .int .i64 x6l0)]) [0, 3, 4, 5, 6] (by kernel_rfl) (by kernel_rfl) ?_
              refine NN.block_n ?_
              refine NN.then ?_
              refine J.plain ?_
              refine LL.op (.int .i64 x6l0) (by kernel_rfl) (fun w _ => by kernel_rfl) ?_
              refine LL.op (.int .i64 (IntKind.i64.wrap (x6l0 + 1))) (by kernel_rfl) (fun w _ => by kernel_rfl) ?_
              refine LL.op (.int .i64 (IntKind.i64.wrap (x6l0 + 1))) (by kernel_rfl) (fun w _ => by kernel_rfl) ?_
              refine LL.done (s' := [(0, .slice Aa0 a0.length ca0), (3, .pointer (some ⟨g247, 0, none⟩)), (4, .slice none 0 0), (5, .slice A298 y271.length c299), (6, .int .i64 (IntKind.i64.wrap (x6l0 + 1)))]) [0, 3, 4, 5, 6] (by kernel_rfl) ?_
              exact NN.roundR [0, 3, 4, 5, 6] (bs' := [(g247, cl [.int .i64 a1_0, .int .i64 a1_1, .int .i64 a1_2, .int .i64 a1_3, .int .i64 a1_4, .int .i64 a1_5] 25)] ++ ba300) (fun _ _ h => (h.back le294)) (Nat.lt_succ_self _) ((List.Sublist.refl _).append_right _) (by kernel_rfl) ⟨y271, IntKind.i64.wrap (x6l0 + 1), A298, c299, ba300, H, o301, rfl, rfl⟩
            · rw [if_neg (nebt c260)] at H
              refine J.condF (b := x259) c260 (by kernel_rfl) (by kernel_rfl) ?_
              refine J.skip ?_
              refine NN.block_n ?_
              refine NN.then ?_
              refine J.plain ?_
              refine LL.op (.int .i64 x6l0) (by kernel_rfl) (fun w _ => by kernel_rfl) ?_
              refine LL.op (.int .i64 (IntKind.i64.wrap (x6l0 + 1))) (by kernel_rfl) (fun w _ => by kernel_rfl) ?_
              refine LL.op (.int .i64 (IntKind.i64.wrap (x6l0 + 1))) (by kernel_rfl) (fun w _ => by kernel_rfl) ?_
              refine LL.done (s' := [(0, .slice Aa0 a0.length ca0), (3, .pointer (some ⟨g247, 0, none⟩)), (4, .slice none 0 0), (5, .slice Ax5l0 x5l0.length cx5l0), (6, .int .i64 (IntKind.i64.wrap (x6l0 + 1)))]) [0, 3, 4, 5, 6] (by kernel_rfl) ?_
              exact NN.round' [0, 3, 4, 5, 6] (bs' := [(g247, cl [.int .i64 a1_0, .int .i64 a1_1, .int .i64 a1_2, .int .i64 a1_3, .int .i64 a1_4, .int .i64 a1_5] 25)] ++ bax5l0) (Nat.lt_succ_self _) ((List.Sublist.refl _).append_right _) (by kernel_rfl) ⟨x5l0, IntKind.i64.wrap (x6l0 + 1), Ax5l0, cx5l0, bax5l0, H, ox5l0, rfl, rfl⟩
          · rw [if_neg (of_decide_eq_false c257)] at H
            refine J.condF (b := decide (x6l0 < (a0.length : Int))) c257 (by kernel_rfl) (by kernel_rfl) ?_
            refine J.exit ?_
            refine NN.then_exit ?_
            refine NN.then_exit ?_
            refine NN.block_same ?_
            refine NN.then ?_
            refine J.seq ?_
            refine J.plain ?_
            refine LL.op (.slice Ax5l0 x5l0.length cx5l0) (by kernel_rfl) (fun w _ => by kernel_rfl) ?_
            refine LL.op (.slice Ax5l0 x5l0.length cx5l0) (by kernel_rfl) (fun w _ => by kernel_rfl) ?_
            refine LL.done (s' := [(4, .slice Ax5l0 x5l0.length cx5l0)]) [4] (by kernel_rfl) ?_
            refine NN.then ?_
            refine J.ret ?_
            first | (obtain rfl := Option.some.inj H) | (simp only [Option.some.injEq, Prod.mk.injEq] at H; obtain ⟨rfl⟩ := H)
            refine NN.fin1 4 (.slice Ax5l0 x5l0.length cx5l0) (by kernel_rfl) (by kernel_rfl) (.inl rfl) (fun w hi => hi.retOwn (pre := [(g247, cl [.int .i64 a1_0, .int .i64 a1_1, .int .i64 a1_2, .int .i64 a1_3, .int .i64 a1_4, .int .i64 a1_5] 25)]) ok41 ox5l0 rfl)
        · rw [if_neg (nebt c255)] at H
          refine J.condT (b := !x254) (by rw [show (!x254) = !(x254) from rfl, c255]; rfl) (by kernel_rfl) (by kernel_rfl) ?_
          refine J.seq ?_
          refine J.plain ?_
          refine LL.op (.slice none 0 0) (by kernel_rfl) (fun w _ => by kernel_rfl) ?_
          refine LL.done (s' := [(0, .slice Aa0 a0.length ca0), (3, .pointer (some ⟨g247, 0, none⟩)), (4, .slice none 0 0)]) [0, 3, 4] (by kernel_rfl) ?_
          refine NN.then ?_
          refine J.ret ?_
          refine NN.then_ret ?_
          first | (obtain rfl := Option.some.inj H) | (simp only [Option.some.injEq, Prod.mk.injEq] at H; obtain ⟨rfl⟩ := H)
          refine NN.fin1 4 (.slice none 0 0) (by kernel_rfl) (by kernel_rfl) (.inl rfl) (fun w hi => hi.retNil rfl)
      · rw [if_neg (nebt c253)] at H
        refine LL.bool 22 (!x252) true (by rw [show (!x252) = !(x252) from rfl, c253]; rfl) (by kernel_rfl) ?_
        refine LL.off (by kernel_rfl) (by kernel_rfl) ?_
        refine LL.off (by kernel_rfl) (by kernel_rfl) ?_
        refine LL.off (by kernel_rfl) (by kernel_rfl) ?_
        refine LL.off (by kernel_rfl) (by kernel_rfl) ?_
        refine LL.op (.bool true) (by kernel_rfl) (fun w _ => by kernel_rfl) ?_
        refine LL.done (s' := [(0, .slice Aa0 a0.length ca0), (3, .pointer (some ⟨g247, 0, none⟩)), (4, .slice none 0 0), (27, .bool true)]) [0, 3, 4, 27] (by kernel_rfl) ?_
        refine NN.then ?_
        refine J.condT (b := true) rfl (by kernel_rfl) (by kernel_rfl) ?_
        refine J.seq ?_
        refine J.plain ?_
        refine LL.op (.slice none 0 0) (by kernel_rfl) (fun w _ => by kernel_rfl) ?_
        refine LL.done (s' := [(0, .slice Aa0 a0.length ca0), (3, .pointer (some ⟨g247, 0, none⟩)), (4, .slice none 0 0)]) [0, 3, 4] (by kernel_rfl) ?_
        refine NN.then ?_
        refine J.ret ?_
        refine NN.then_ret ?_
        first | (obtain rfl := Option.some.inj H) | (simp only [Option.some.injEq, Prod.mk.injEq] at H; obtain ⟨rfl⟩ := H)
        refine NN.fin1 4 (.slice none 0 0) (by kernel_rfl) (by kernel_rfl) (.inl rfl) (fun w hi => hi.retNil rfl)
    · rw [if_neg (nebt c251)] at H
      refine LL.bool 16 (!x250) true (by rw [show (!x250) = !(x250) from rfl, c251]; rfl) (by kernel_rfl) ?_
      refine LL.off (by kernel_rfl) (by kernel_rfl) ?_
      refine LL.off (by kernel_rfl) (by kernel_rfl) ?_
      refine LL.off (by kernel_rfl) (by kernel_rfl) ?_
      refine LL.off (by kernel_rfl) (by kernel_rfl) ?_
      refine LL.op (.bool true) (by kernel_rfl) (fun w _ => by kernel_rfl) ?_
      refine LL.op (.bool true) (by kernel_rfl) (fun w _ => by kernel_rfl) ?_
      refine LL.off (by kernel_rfl) (by kernel_rfl) ?_
      refine LL.off (by kernel_rfl) (by kernel_rfl) ?_
      refine LL.off (by kernel_rfl) (by kernel_rfl) ?_
      refine LL.off (by kernel_rfl) (by kernel_rfl) ?_
      refine LL.op (.bool true) (by kernel_rfl) (fun w _ => by kernel_rfl) ?_
      refine LL.done (s' := [(0, .slice Aa0 a0.length ca0), (3, .pointer (some ⟨g247, 0, none⟩)), (4, .slice none 0 0), (27, .bool true)]) [0, 3, 4, 27] (by kernel_rfl) ?_
      refine NN.then ?_
      refine J.condT (b := true) rfl (by kernel_rfl) (by kernel_rfl) ?_
      refine J.seq ?_
      refine J.plain ?_
      refine LL.op (.slice none 0 0) (by kernel_rfl) (fun w _ => by kernel_rfl) ?_
      refine LL.done (s' := [(0, .slice Aa0 a0.length ca0), (3, .pointer (some ⟨g247, 0, none⟩)), (4, .slice none 0 0)]) [0, 3, 4] (by kernel_rfl) ?_
      refine NN.then ?_
      refine J.ret ?_
      refine NN.then_ret ?_
      first | (obtain rfl := Option.some.inj H) | (simp only [Option.some.injEq, Prod.mk.injEq] at H; obtain ⟨rfl⟩ := H)
      refine NN.fin1 4 (.slice none 0 0) (by kernel_rfl) (by kernel_rfl) (.inl rfl) (fun w hi => hi.retNil rfl)
  · rw [if_neg (nebf c249)] at H
    refine LL.bool 10 (!(x248 == 0)) true (by rw [show (!(x248 == 0)) = !((x248 == 0)) from rfl, c249]; rfl) (by kernel_rfl) ?_
    refine LL.off (by kernel_rfl) (by kernel_rfl) ?_
    refine LL.off (by kernel_rfl) (by kernel_rfl) ?_
    refine LL.off (by kernel_rfl) (by kernel_rfl) ?_
    refine LL.off (by kernel_rfl) (by kernel_rfl) ?_
    refine LL.op (.bool true) (by kernel_rfl) (fun w _ => by kernel_rfl) ?_
    refine LL.op (.bool true) (by kernel_rfl) (fun w _ => by kernel_rfl) ?_
    refine LL.off (by kernel_rfl) (by kernel_rfl) ?_
    refine LL.off (by kernel_rfl) (by kernel_rfl) ?_
    refine LL.off (by kernel_rfl) (by kernel_rfl) ?_
    refine LL.off (by kernel_rfl) (by kernel_rfl) ?_
    refine LL.op (.bool true) (by kernel_rfl) (fun w _ => by kernel_rfl) ?_
    refine LL.op (.bool true) (by kernel_rfl) (fun w _ => by kernel_rfl) ?_
    refine LL.off (by kernel_rfl) (by kernel_rfl) ?_
    refine LL.off (by kernel_rfl) (by kernel_rfl) ?_
    refine LL.off (by kernel_rfl) (by kernel_rfl) ?_
    refine LL.off (by kernel_rfl) (by kernel_rfl) ?_
    refine LL.op (.bool true) (by kernel_rfl) (fun w _ => by kernel_rfl) ?_
    refine LL.done (s' := [(0, .slice Aa0 a0.length ca0), (3, .pointer (some ⟨g247, 0, none⟩)), (4, .slice none 0 0), (27, .bool true)]) [0, 3, 4, 27] (by kernel_rfl) ?_
    refine NN.then ?_
    refine J.condT (b := true) rfl (by kernel_rfl) (by kernel_rfl) ?_
    refine J.seq ?_
    refine J.plain ?_
    refine LL.op (.slice none 0 0) (by kernel_rfl) (fun w _ => by kernel_rfl) ?_
    refine LL.done (s' := [(0, .slice Aa0 a0.length ca0), (3, .pointer (some ⟨g247, 0, none⟩)), (4, .slice none 0 0)]) [0, 3, 4] (by kernel_rfl) ?_
    refine NN.then ?_
    refine J.ret ?_
    refine NN.then_ret ?_
    first | (obtain rfl := Option.some.inj H) | (simp only [Option.some.injEq, Prod.mk.injEq] at H; obtain ⟨rfl⟩ := H)
    refine NN.fin1 4 (.slice none 0 0) (by kernel_rfl) (by kernel_rfl) (.inl rfl) (fun w hi => hi.retNil rfl)

/-! ### defect_Clip: function 41 -/
def defect_Clip.l0 (K : Nat) (a0 : List E41) (a1_0 : Int) (a1_1 : Int) (a1_2 : Int) (a1_3 : Int) (a1_4 : Int) (a1_5 : Int) (x304_1 : Int) (x304_3 : Int) (x304_5 : Int) : Nat → List E41 → Int → Option ((List E41))
  | 0, _, _ => none
  | k + 1, x8l0, x30l0 => if x30l0 < (a0.length : Int) then ((idx a0 x30l0).bind fun be319 => ((defect_common.f be319.2.1 be319.2.2.1 be319.2.2.2.1 be319.2.2.2.2.1 be319.2.2.2.2.2.1 be319.2.2.2.2.2.2 a1_0 a1_1 a1_2 a1_3 a1_4 a1_5).bind fun bx321 => (if bx321.2.2.2.2.2.2 = true then ((defect_axes.f bx321.1 bx321.2.1 bx321.2.2.1 bx321.2.2.2.1 bx321.2.2.2.2.1 bx321.2.2.2.2.2.1).bind fun bx324 => ((defect_boxOf.f (IntKind.i64.wrap (bx324.1 - x304_1)) (IntKind.i64.wrap (bx324.2.1 - x304_1)) (IntKind.i64.wrap (bx324.2.2.1 - x304_3)) (IntKind.i64.wrap (bx324.2.2.2.1 - x304_3)) (IntKind.i64.wrap (bx324.2.2.2.2.1 - x304_5)) (IntKind.i64.wrap (bx324.2.2.2.2.2 - x304_5))).bind fun bx326 => ((app 56 x8l0 ([(be319.1, bx326.1, bx326.2.1, bx326.2.2.1, bx326.2.2.2.1, bx326.2.2.2.2.1, bx326.2.2.2.2.2)] : List E41)).bind fun y335 => (defect_Clip.l0 K a0 a1_0 a1_1 a1_2 a1_3 a1_4 a1_5 x304_1 x304_3 x304_5 k y335 (IntKind.i64.wrap (x30l0 + 1)))))) else (defect_Clip.l0 K a0 a1_0 a1_1 a1_2 a1_3 a1_4 a1_5 x304_1 x304_3 x304_5 k x8l0 (IntKind.i64.wrap (x30l0 + 1)))))) else (some x8l0)
def defect_Clip.f (K : Nat) (a0 : List E41) (a1_0 : Int) (a1_1 : Int) (a1_2 : Int) (a1_3 : Int) (a1_4 : Int) (a1_5 : Int) : Option ((List E41)) := (defect_axes.f a1_0 a1_1 a1_2 a1_3 a1_4 a1_5).bind fun bx304 => ((defect_within.f bx304.1 bx304.2.1 (-1099511627776) 1099511627776).bind fun x307 => (if x307 = true then ((defect_within.f bx304.2.2.1 bx304.2.2.2.1 (-1099511627776) 1099511627776).bind fun x310 => (if x310 = true then ((defect_within.f bx304.2.2.2.2.1 bx304.2.2.2.2.2 (-1099511627776) 1099511627776).bind fun x313 => (if x313 = true then ((defect_Check.f K a0).bind fun x315 => (if x315 = 0 then (defect_Clip.l0 K a0 a1_0 a1_1 a1_2 a1_3 a1_4 a1_5 bx304.1 bx304.2.2.1 bx304.2.2.2.2.1 K ([] : List E41) 0) else (some []))) else (some []))) else (some []))) else (some [])))
set_option maxRecDepth 100000 in
theorem defect_Clip.calls (K : Nat) (a0 : List E41) (a1_0 : Int) (a1_1 : Int) (a1_2 : Int) (a1_3 : Int) (a1_4 : Int) (a1_5 : Int)  (Aa0 : Option Addr) (ca0 : Nat)  (r1 : List E41) (w : World)   (ha0 : KRow (Cx.start w) enc41 7 a0 Aa0) (h : defect_Clip.f K a0 a1_0 a1_1 a1_2 a1_3 a1_4 a1_5 = some r1) :
    Calls Try.prog 41 #[.slice Aa0 a0.length ca0, .agg #[.int .i64 a1_0, .int .i64 a1_1, .int .i64 a1_2, .int .i64 a1_3, .int .i64 a1_4, .int .i64 a1_5]] w (RetR w enc41 7 r1 (fun A_ c_ => .slice A_ r1.length c_)) := by
  have H := h
  clear h
  unfold defect_Clip.f at H
  refine Go.Saw.calls (args := [.slice Aa0 a0.length ca0, .agg #[.int .i64 a1_0, .int .i64 a1_1, .int .i64 a1_2, .int .i64 a1_3, .int .i64 a1_4, .int .i64 a1_5]]) Try.func41 rfl Try.ntmps41 (by kernel_rfl) ?_
  refine J.seq ?_
  refine J.plain ?_
  refine LL.box 25 (.tmp 1) [.int .i64 a1_0, .int .i64 a1_1, .int .i64 a1_2, .int .i64 a1_3, .int .i64 a1_4, .int .i64 a1_5] (by kernel_rfl) rfl (by kernel_rfl) (fun g303 => ?_)
  refine LL.op (.slice none 0 0) (by kernel_rfl) (fun w _ => by kernel_rfl) ?_
  refine LL.done (s' := [(0, .slice Aa0 a0.length ca0), (3, .pointer (some ⟨g303, 0, none⟩)), (4, .slice none 0 0)]) [0, 3, 4] (by kernel_rfl) ?_
  refine NN.then ?_
  refine J.seq ?_
  refine J.plain ?_
  refine LL.op (.agg #[.int .i64 a1_0, .int .i64 a1_1, .int .i64 a1_2, .int .i64 a1_3, .int .i64 a1_4, .int .i64 a1_5]) (by kernel_rfl) (ld 0 g303 0 rfl (by kernel_rfl) rfl (by kernel_rfl)) ?_
  obtain ⟨⟨x304_1, x304_2, x304_3, x304_4, x304_5, x304_6⟩, hx304, H⟩ := bind_some H
  (try dsimp only at H)
  refine LL.call 65 #[.agg #[.int .i64 a1_0, .int .i64 a1_1, .int .i64 a1_2, .int .i64 a1_3, .int .i64 a1_4, .int .i64 a1_5]] (.agg #[.int .i64 x304_1, .int .i64 x304_2, .int .i64 x304_3, .int .i64 x304_4, .int .i64 x304_5, .int .i64 x304_6]) (by kernel_rfl) (fun w => by kernel_rfl) (fun w hw => defect_axes.calls a1_0 a1_1 a1_2 a1_3 a1_4 a1_5   _ _ _ _ _ _ w   hx304) ?_
  refine LL.alloc 78 [.int .i64 0, .int .i64 0, .int .i64 0, .int .i64 0, .int .i64 0, .int .i64 0] (by kernel_rfl) rfl (by kernel_rfl) (fun g305 => ?_)
  refine LL.store 0 g305 0 78 (.tmp 5) (.tmp 16) [.int .i64 x304_1, .int .i64 x304_2, .int .i64 x304_3, .int .i64 x304_4, .int .i64 x304_5, .int .i64 x304_6] (bs' := [(g305, cl [.int .i64 x304_1, .int .i64 x304_2, .int .i64 x304_3, .int .i64 x304_4, .int .i64 x304_5, .int .i64 x304_6] 78), (g303, cl [.int .i64 a1_0, .int .i64 a1_1, .int .i64 a1_2, .int .i64 a1_3, .int .i64 a1_4, .int .i64 a1_5] 25)]) rfl (by kernel_rfl) rfl (by kernel_rfl) rfl (by kernel_rfl) ?_
  refine LL.done (s' := [(0, .slice Aa0 a0.length ca0), (3, .pointer (some ⟨g303, 0, none⟩)), (4, .slice none 0 0), (5, .pointer (some ⟨g305, 0, none⟩))]) [0, 3, 4, 5] (by kernel_rfl) ?_
  refine NN.then ?_
  refine J.seq ?_
  refine J.seq ?_
  refine J.plain ?_
  refine LL.op (.agg #[.int .i64 x304_1, .int .i64 x304_2, .int .i64 x304_3, .int .i64 x304_4, .int .i64 x304_5, .int .i64 x304_6]) (by kernel_rfl) (ld 0 g305 0 rfl (by kernel_rfl) rfl (by kernel_rfl)) ?_
  refine LL.op (.int .i64 0) (by kernel_rfl) (fun w _ => by kernel_rfl) ?_
  refine LL.done (s' := [(0, .slice Aa0 a0.length ca0), (3, .pointer (some ⟨g303, 0, none⟩)), (4, .slice none 0 0), (5, .pointer (some ⟨g305, 0, none⟩)), (17, .agg #[.int .i64 x304_1, .int .i64 x304_2, .int .i64 x304_3, .int .i64 x304_4, .int .i64 x304_5, .int .i64 x304_6]), (18, .int .i64 0)]) [0, 3, 4, 5, 17, 18] (by kernel_rfl) ?_
  refine NN.then ?_
  refine J.block ?_
  refine J.rounds 3 ?_
  refine J.seq ?_
  refine J.plain ?_
  refine LL.op (.bool true) (by kernel_rfl) (fun w _ => by kernel_rfl) ?_
  refine LL.done (s' := [(0, .slice Aa0 a0.length ca0), (3, .pointer (some ⟨g303, 0, none⟩)), (4, .slice none 0 0), (5, .pointer (some ⟨g305, 0, none⟩)), (17, .agg #[.int .i64 x304_1, .int .i64 x304_2, .int .i64 x304_3, .int .i64 x304_4, .int .i64 x304_5, .int .i64 x304_6]), (18, .int .i64 0), (19, .bool true)]) [0, 3, 4, 5, 17, 18, 19] (by kernel_rfl) ?_
  refine NN.then ?_
  refine J.seq ?_
  refine J.condT (b := true) rfl (by kernel_rfl) (by kernel_rfl) ?_
  refine J.skip ?_
  refine NN.then ?_
  refine J.seq ?_
  refine J.block ?_
  refine J.seq ?_
  refine J.plain ?_
  refine LL.op (.agg #[.int .i64 x304_1, .int .i64 x304_2]) (by kernel_rfl) (fun w _ => by kernel_rfl) ?_
  refine LL.alloc 23 [.int .i64 0, .int .i64 0] (by kernel_rfl) rfl (by kernel_rfl) (fun g306 => ?_)
  refine LL.store 0 g306 0 23 (.tmp 7) (.tmp 20) [.int .i64 x304_1, .int .i64 x304_2] (bs' := [(g306, cl [.int .i64 x304_1, .int .i64 x304_2] 23), (g305, cl [.int .i64 x304_1, .int .i64 x304_2, .int .i64 x304_3, .int .i64 x304_4, .int .i64 x304_5, .int .i64 x304_6] 78), (g303, cl [.int .i64 a1_0, .int .i64 a1_1, .int .i64 a1_2, .int .i64 a1_3, .int .i64 a1_4, .int .i64 a1_5] 25)]) rfl (by kernel_rfl) rfl (by kernel_rfl) rfl (by kernel_rfl) ?_
  refine LL.done (s' := [(0, .slice Aa0 a0.length ca0), (3, .pointer (some ⟨g303, 0, none⟩)), (4, .slice none 0 0), (5, .pointer (some ⟨g305, 0, none⟩)), (7, .pointer (some ⟨g306, 0, none⟩)), (17, .agg #[.int .i64 x304_1, .int .i64 x304_2, .int .i64 x304_3, .int .i64 x304_4, .int .i64 x304_5, .int .i64 x304_6]), (18, .int .i64 0), (19, .bool true), (20, .agg #[.int .i64 x304_1, .int .i64 x304_2])]) [0, 3, 4, 5, 7, 17, 18, 19, 20] (by kernel_rfl) ?_
  refine NN.then ?_
  refine J.seq ?_
  refine J.plain ?_
  refine LL.op (.agg #[.int .i64 x304_1, .int .i64 x304_2]) (by kernel_rfl) (ld 0 g306 0 rfl (by kernel_rfl) rfl (by kernel_rfl)) ?_
  obtain ⟨x307, hx307, H⟩ := bind_some H
  refine LL.call 66 #[.agg #[.int .i64 x304_1, .int .i64 x304_2], .int .i64 (-1099511627776), .int .i64 1099511627776] (.bool x307) (by kernel_rfl) (fun w => by kernel_rfl) (fun w hw => defect_within.calls x304_1 x304_2 (-1099511627776) 1099511627776   _ w   hx307) ?_
  refine LL.op (.bool (!x307)) (by kernel_rfl) (fun w _ => by kernel_rfl) ?_
  refine LL.done (s' := [(0, .slice Aa0 a0.length ca0), (3, .pointer (some ⟨g303, 0, none⟩)), (4, .slice none 0 0), (5, .pointer (some ⟨g305, 0, none⟩)), (7, .pointer (some ⟨g306, 0, none⟩)), (17, .agg #[.int .i64 x304_1, .int .i64 x304_2, .int .i64 x304_3, .int .i64 x304_4, .int .i64 x304_5, .int .i64 x304_6]), (18, .int .i64 0), (19, .bool true), (20, .agg #[.int .i64 x304_1, .int .i64 x304_2]), (21, .agg #[.int .i64 x304_1, .int .i64 x304_2]), (22, .bool x307), (23, .bool (!x307))]) [0, 3, 4, 5, 7, 17, 18, 19, 20, 21, 22, 23] (by kernel_rfl) ?_
  refine NN.then ?_
  rcases Bool.eq_false_or_eq_true (x307) with c308 | c308
  · rw [if_pos (c308)] at H
    refine J.condF (b := !x307) (by rw [show (!x307) = !(x307) from rfl, c308]; rfl) (by kernel_rfl) (by kernel_rfl) ?_
    refine J.skip ?_
    refine NN.block_n ?_
    refine NN.then ?_
    refine J.plain ?_
    refine LL.op (.int .i64 1) (by kernel_rfl) (fun w _ => by kernel_rfl) ?_
    refine LL.op (.int .i64 1) (by kernel_rfl) (fun w _ => by kernel_rfl) ?_
    refine LL.done (s' := [(0, .slice Aa0 a0.length ca0), (3, .pointer (some ⟨g303, 0, none⟩)), (4, .slice none 0 0), (5, .pointer (some ⟨g305, 0, none⟩)), (7, .pointer (some ⟨g306, 0, none⟩)), (17, .agg #[.int .i64 x304_1, .int .i64 x304_2, .int .i64 x304_3, .int .i64 x304_4, .int .i64 x304_5, .int .i64 x304_6]), (18, .int .i64 1), (19, .bool true), (20, .agg #[.int .i64 x304_1, .int .i64 x304_2]), (21, .agg #[.int .i64 x304_1, .int .i64 x304_2]), (22, .bool x307), (23, .bool (!x307)), (24, .int .i64 1)]) [0, 3, 4, 5, 7, 17, 18, 19, 20, 21, 22, 23, 24] (by kernel_rfl) ?_
    refine NN.again ?_
    refine J.seq ?_
    refine J.plain ?_
    refine LL.op (.bool true) (by kernel_rfl) (fun w _ => by kernel_rfl) ?_
    refine LL.done (s' := [(0, .slice Aa0 a0.length ca0), (3, .pointer (some ⟨g303, 0, none⟩)), (4, .slice none 0 0), (5, .pointer (some ⟨g305, 0, none⟩)), (7, .pointer (some ⟨g306, 0, none⟩)), (17, .agg #[.int .i64 x304_1, .int .i64 x304_2, .int .i64 x304_3, .int .i64 x304_4, .int .i64 x304_5, .int .i64 x304_6]), (18, .int .i64 1), (19, .bool true), (20, .agg #[.int .i64 x304_1, .int .i64 x304_2]), (21, .agg #[.int .i64 x304_1, .int .i64 x304_2]), (22, .bool x307), (23, .bool (!x307)), (24, .int .i64 1)]) [0, 3, 4, 5, 7, 17, 18, 19, 20, 21, 22, 23, 24] (by kernel_rfl) ?_
    refine NN.then ?_
    refine J.seq ?_
    refine J.condT (b := true) rfl (by kernel_rfl) (by kernel_rfl) ?_
    refine J.skip ?_
    refine NN.then ?_
    refine J.seq ?_
    refine J.block ?_
    refine J.seq ?_
    refine J.plain ?_
    refine LL.op (.agg #[.int .i64 x304_3, .int .i64 x304_4]) (by kernel_rfl) (fun w _ => by kernel_rfl) ?_
    refine LL.alloc 23 [.int .i64 0, .int .i64 0] (by kernel_rfl) rfl (by kernel_rfl) (fun g309 => ?_)
    refine LL.store 0 g309 0 23 (.tmp 7) (.tmp 20) [.int .i64 x304_3, .int .i64 x304_4] (bs' := [(g309, cl [.int .i64 x304_3, .int .i64 x304_4] 23), (g306, cl [.int .i64 x304_1, .int .i64 x304_2] 23), (g305, cl [.int .i64 x304_1, .int .i64 x304_2, .int .i64 x304_3, .int .i64 x304_4, .int .i64 x304_5, .int .i64 x304_6] 78), (g303, cl [.int .i64 a1_0, .int .i64 a1_1, .int .i64 a1_2, .int .i64 a1_3, .int .i64 a1_4, .int .i64 a1_5] 25)]) rfl (by kernel_rfl) rfl (by kernel_rfl) rfl (by kernel_rfl) ?_
    refine LL.done (s' := [(0, .slice Aa0 a0.length ca0), (3, .pointer (some ⟨g303, 0, none⟩)), (4, .slice none 0 0), (5, .pointer (some ⟨g305, 0, none⟩)), (7, .pointer (some ⟨g309, 0, none⟩)), (17, .agg #[.int .i64 x304_1, .int .i64 x304_2, .int .i64 x304_3, .int .i64 x304_4, .int .i64 x304_5, .int .i64 x304_6]), (18, .int .i64 1), (19, .bool true), (20, .agg #[.int .i64 x304_3, .int .i64 x304_4]), (21, .agg #[.int .i64 x304_1, .int .i64 x304_2]), (22, .bool x307), (23, .bool (!x307)), (24, .int .i64 1)]) [0, 3, 4, 5, 7, 17, 18, 19, 20, 21, 22, 23, 24] (by kernel_rfl) ?_
    refine NN.then ?_
    refine J.seq ?_
    refine J.plain ?_
    refine LL.op (.agg #[.int .i64 x304_3, .int .i64 x304_4]) (by kernel_rfl) (ld 0 g309 0 rfl (by kernel_rfl) rfl (by kernel_rfl)) ?_
    obtain ⟨x310, hx310, H⟩ := bind_some H
    refine LL.call 66 #[.agg #[.int .i64 x304_3, .int .i64 x304_4], .int .i64 (-1099511627776), .int .i64 1099511627776] (.bool x310) (by kernel_rfl) (fun w => by kernel_rfl) (fun w hw => defect_within.calls x304_3 x304_4 (-1099511627776) 1099511627776   _ w   hx310) ?_
    refine LL.op (.bool (!x310)) (by kernel_rfl) (fun w _ => by kernel_rfl) ?_
    refine LL.done (s' := [(0, .slice Aa0 a0.length ca0), (3, .pointer (some ⟨g303, 0, none⟩)), (4, .slice none 0 0), (5, .pointer (some ⟨g305, 0, none⟩)), (7, .pointer (some ⟨g309, 0, none⟩)), (17, .agg #[.int .i64 x304_1, .int .i64 x304_2, .int .i64 x304_3, .int .i64 x304_4, .int .i64 x304_5, .int .i64 x304_6]), (18, .int .i64 1), (19, .bool true), (20, .agg #[.int .i64 x304_3, .int .i64 x304_4]), (21, .agg #[.int .i64 x304_3, .int .i64 x304_4]), (22, .bool x310), (23, .bool (!x310)), (24, .int .i64 1)]) [0, 3, 4, 5, 7, 17, 18, 19, 20, 21, 22, 23, 24] (by kernel_rfl) ?_
    refine NN.then ?_
    rcases Bool.eq_false_or_eq_true (x310) with c311 | c311
    · rw [if_pos (c311)] at H
      refine J.condF (b := !x310) (by rw [show (!x310) = !(x310) from rfl, c311]; rfl) (by kernel_rfl) (by kernel_rfl) ?_
      refine J.skip ?_
      refine NN.block_n ?_
      refine NN.then ?_
      refine J.plain ?_
      refine LL.op (.int .i64 2) (by kernel_rfl) (fun w _ => by kernel_rfl) ?_
      refine LL.op (.int .i64 2) (by kernel_rfl) (fun w _ => by kernel_rfl) ?_
      refine LL.done (s' := [(0, .slice Aa0 a0.length ca0), (3, .pointer (some ⟨g303, 0, none⟩)), (4, .slice none 0 0), (5, .pointer (some ⟨g305, 0, none⟩)), (7, .pointer (some ⟨g309, 0, none⟩)), (17, .agg #[.int .i64 x304_1, .int .i64 x304_2, .int .i64 x304_3, .int .i64 x304_4, .int .i64 x304_5, .int .i64 x304_6]), (18, .int .i64 2), (19, .bool true), (20, .agg #[.int .i64 x304_3, .int .i64 x304_4]), (21, .agg #[.int .i64 x304_3, .int .i64 x304_4]), (22, .bool x310), (23, .bool (!x310)), (24, .int .i64 2)]) [0, 3, 4, 5, 7, 17, 18, 19, 20, 21, 22, 23, 24] (by kernel_rfl) ?_
      refine NN.again ?_
      refine J.seq ?_
      refine J.plain ?_
      refine LL.op (.bool true) (by kernel_rfl) (fun w _ => by kernel_rfl) ?_
      refine LL.done (s' := [(0, .slice Aa0 a0.length ca0), (3, .pointer (some ⟨g303, 0, none⟩)), (4, .slice none 0 0), (5, .pointer (some ⟨g305, 0, none⟩)), (7, .pointer (some ⟨g309, 0, none⟩)), (17, .agg #[.int .i64 x304_1, .int .i64 x304_2, .int .i64 x304_3, .int .i64 x304_4, .int .i64 x304_5, .int .i64 x304_6]), (18, .int .i64 2), (19, .bool true), (20, .agg #[.int .i64 x304_3, .int .i64 x304_4]), (21, .agg #[.int .i64 x304_3, .int .i64 x304_4]), (22, .bool x310), (23, .bool (!x310)), (24, .int .i64 2)]) [0, 3, 4, 5, 7, 17, 18, 19, 20, 21, 22, 23, 24] (by kernel_rfl) ?_
      refine NN.then ?_
      refine J.seq ?_
      refine J.condT (b := true) rfl (by kernel_rfl) (by kernel_rfl) ?_
      refine J.skip ?_
      refine NN.then ?_
      refine J.seq ?_
      refine J.block ?_
      refine J.seq ?_
      refine J.plain ?_
      refine LL.op (.agg #[.int .i64 x304_5, .int .i64 x304_6]) (by kernel_rfl) (fun w _ => by kernel_rfl) ?_
      refine LL.alloc 23 [.int .i64 0, .int .i64 0] (by kernel_rfl) rfl (by kernel_rfl) (fun g312 => ?_)
      refine LL.store 0 g312 0 23 (.tmp 7) (.tmp 20) [.int .i64 x304_5, .int .i64 x304_6] (bs' := [(g312, cl [.int .i64 x304_5, .int .i64 x304_6] 23), (g309, cl [.int .i64 x304_3, .int .i64 x304_4] 23), (g306, cl [.int .i64 x304_1, .int .i64 x304_2] 23), (g305, cl [.int .i64 x304_1, .int .i64 x304_2, .int .i64 x304_3, .int .i64 x304_4, .int .i64 x304_5, .int .i64 x304_6] 78), (g303, cl [.int .i64 a1_0, .int .i64 a1_1, .int .i64 a1_2, .int .i64 a1_3, .int .i64 a1_4, .int .i64 a1_5] 25)]) rfl (by kernel_rfl) rfl (by kernel_rfl) rfl (by kernel_rfl) ?_
      refine LL.done (s' := [(0, .slice Aa0 a0.length ca0), (3, .pointer (some ⟨g303, 0, none⟩)), (4, .slice none 0 0), (5, .pointer (some ⟨g305, 0, none⟩)), (7, .pointer (some ⟨g312, 0, none⟩)), (17, .agg #[.int .i64 x304_1, .int .i64 x304_2, .int .i64 x304_3, .int .i64 x304_4, .int .i64 x304_5, .int .i64 x304_6]), (18, .int .i64 2), (19, .bool true), (20, .agg #[.int .i64 x304_5, .int .i64 x304_6]), (21, .agg #[.int .i64 x304_3, .int .i64 x304_4]), (22, .bool x310), (23, .bool (!x310)), (24, .int .i64 2)]) [0, 3, 4, 5, 7, 17, 18, 19, 20, 21, 22, 23, 24] (by kernel_rfl) ?_
      refine NN.then ?_
      refine J.seq ?_
      refine J.plain ?_
      refine LL.op (.agg #[.int .i64 x304_5, .int .i64 x304_6]) (by kernel_rfl) (ld 0 g312 0 rfl (by kernel_rfl) rfl (by kernel_rfl)) ?_
      obtain ⟨x313, hx313, H⟩ := bind_some H
      refine LL.call 66 #[.agg #[.int .i64 x304_5, .int .i64 x304_6], .int .i64 (-1099511627776), .int .i64 1099511627776] (.bool x313) (by kernel_rfl) (fun w => by kernel_rfl) (fun w hw => defect_within.calls x304_5 x304_6 (-1099511627776) 1099511627776   _ w   hx313) ?_
      refine LL.op (.bool (!x313)) (by kernel_rfl) (fun w _ => by kernel_rfl) ?_
      refine LL.done (s' := [(0, .slice Aa0 a0.length ca0), (3, .pointer (some ⟨g303, 0, none⟩)), (4, .slice none 0 0), (5, .pointer (some ⟨g305, 0, none⟩)), (7, .pointer (some ⟨g312, 0, none⟩)), (17, .agg #[.int .i64 x304_1, .int .i64 x304_2, .int .i64 x304_3, .int .i64 x304_4, .int .i64 x304_5, .int .i64 x304_6]), (18, .int .i64 2), (19, .bool true), (20, .agg #[.int .i64 x304_5, .int .i64 x304_6]), (21, .agg #[.int .i64 x304_5, .int .i64 x304_6]), (22, .bool x313), (23, .bool (!x313)), (24, .int .i64 2)]) [0, 3, 4, 5, 7, 17, 18, 19, 20, 21, 22, 23, 24] (by kernel_rfl) ?_
      refine NN.then ?_
      rcases Bool.eq_false_or_eq_true (x313) with c314 | c314
      · rw [if_pos (c314)] at H
        refine J.condF (b := !x313) (by rw [show (!x313) = !(x313) from rfl, c314]; rfl) (by kernel_rfl) (by kernel_rfl) ?_
        refine J.skip ?_
        refine NN.block_n ?_
        refine NN.then ?_
        refine J.plain ?_
        refine LL.op (.int .i64 3) (by kernel_rfl) (fun w _ => by kernel_rfl) ?_
        refine LL.op (.int .i64 3) (by kernel_rfl) (fun w _ => by kernel_rfl) ?_
        refine LL.done (s' := [(0, .slice Aa0 a0.length ca0), (3, .pointer (some ⟨g303, 0, none⟩)), (4, .slice none 0 0), (5, .pointer (some ⟨g305, 0, none⟩)), (7, .pointer (some ⟨g312, 0, none⟩)), (17, .agg #[.int .i64 x304_1, .int .i64 x304_2, .int .i64 x304_3, .int .i64 x304_4, .int .i64 x304_5, .int .i64 x304_6]), (18, .int .i64 3), (19, .bool true), (20, .agg #[.int .i64 x304_5, .int .i64 x304_6]), (21, .agg #[.int .i64 x304_5, .int .i64 x304_6]), (22, .bool x313), (23, .bool (!x313)), (24, .int .i64 3)]) [0, 3, 4, 5, 7, 17, 18, 19, 20, 21, 22, 23, 24] (by kernel_rfl) ?_
        refine NN.again ?_
        refine J.seq ?_
        refine J.plain ?_
        refine LL.op (.bool false) (by kernel_rfl) (fun w _ => by kernel_rfl) ?_
        refine LL.done (s' := [(0, .slice Aa0 a0.length ca0), (3, .pointer (some ⟨g303, 0, none⟩)), (4, .slice none 0 0), (5, .pointer (some ⟨g305, 0, none⟩)), (7, .pointer (some ⟨g312, 0, none⟩)), (17, .agg #[.int .i64 x304_1, .int .i64 x304_2, .int .i64 x304_3, .int .i64 x304_4, .int .i64 x304_5, .int .i64 x304_6]), (18, .int .i64 3), (19, .bool false), (20, .agg #[.int .i64 x304_5, .int .i64 x304_6]), (21, .agg #[.int .i64 x304_5, .int .i64 x304_6]), (22, .bool x313), (23, .bool (!x313)), (24, .int .i64 3)]) [0, 3, 4, 5, 7, 17, 18, 19, 20, 21, 22, 23, 24] (by kernel_rfl) ?_
        refine NN.then ?_
        refine J.seq ?_
        refine J.condF (b := false) rfl (by kernel_rfl) (by kernel_rfl) ?_
        refine J.exit ?_
        refine NN.then_exit ?_
        refine NN.then_exit ?_
        refine NN.block_same ?_
        refine NN.then ?_
        refine J.seq ?_
        refine J.seq ?_
        refine J.plain ?_
        refine LL.op (.slice Aa0 a0.length ca0) (by kernel_rfl) (fun w _ => by kernel_rfl) ?_
        obtain ⟨x315, hx315, H⟩ := bind_some H
        refine LL.call 33 #[.slice Aa0 a0.length ca0] (.int .i64 x315) (by kernel_rfl) (fun w => by kernel_rfl) (fun w hw => defect_Check.calls K a0  _ _ _ w  (ha0.at hw) hx315) ?_
        refine LL.op (.bool (!(x315 == 0))) (by kernel_rfl) (fun w _ => by kernel_rfl) ?_
        refine LL.done (s' := [(0, .slice Aa0 a0.length ca0), (3, .pointer (some ⟨g303, 0, none⟩)), (4, .slice none 0 0), (5, .pointer (some ⟨g305, 0, none⟩)), (27, .bool (!(x315 == 0)))]) [0, 3, 4, 5, 27] (by kernel_rfl) ?_
        refine NN.then ?_
        rcases Bool.eq_false_or_eq_true ((x315 == 0)) with c316 | c316
        · rw [if_pos (eq_of_beq c316)] at H
          refine J.condF (b := !(x315 == 0)) (by rw [show (!(x315 == 0)) = !((x315 == 0)) from rfl, c316]; rfl) (by kernel_rfl) (by kernel_rfl) ?_
          refine J.skip ?_
          refine NN.then ?_
          refine J.seq ?_
          refine J.plain ?_
          refine LL.op (.slice none 0 0) (by kernel_rfl) (fun w _ => by kernel_rfl) ?_
          refine LL.done (s' := [(0, .slice Aa0 a0.length ca0), (3, .pointer (some ⟨g303, 0, none⟩)), (4, .slice none 0 0), (5, .pointer (some ⟨g305, 0, none⟩)), (8, .slice none 0 0)]) [0, 3, 4, 5, 8] (by kernel_rfl) ?_
          refine NN.then ?_
          refine J.seq ?_
          refine J.seq ?_
          refine J.plain ?_
          refine LL.op (.slice Aa0 a0.length ca0) (by kernel_rfl) (fun w _ => by kernel_rfl) ?_
          refine LL.op (.int .i64 (a0.length : Int)) (by kernel_rfl) (fun w _ => by kernel_rfl) ?_
          refine LL.op (.int .i64 0) (by kernel_rfl) (fun w _ => by kernel_rfl) ?_
          refine LL.done (s' := [(3, .pointer (some ⟨g303, 0, none⟩)), (4, .slice none 0 0), (5, .pointer (some ⟨g305, 0, none⟩)), (8, .slice none 0 0), (28, .slice Aa0 a0.length ca0), (29, .int .i64 (a0.length : Int)), (30, .int .i64 0)]) [3, 4, 5, 8, 28, 29, 30] (by kernel_rfl) ?_
          refine NN.then ?_
          refine J.block ?_
          refine J.to [3, 4, 5, 8, 28, 29, 30] (s' := [(3, .pointer (some ⟨g303, 0, none⟩)), (4, .slice none 0 0), (5, .pointer (some ⟨g305, 0, none⟩)), (8, .slice none 0 0), (28, .slice Aa0 a0.length ca0), (29, .int .i64 (a0.length : Int)), (30, .int .i64 0)]) (by kernel_rfl) ?_
          refine J.loop (fun n_ s_ bs_ => ∃ (x8l0 : List E41) (x30l0 : Int) (Ax8l0 : Option Addr) (cx8l0 : Nat) (bax8l0 : Bs), defect_Clip.l0 K a0 a1_0 a1_1 a1_2 a1_3 a1_4 a1_5 x304_1 x304_3 x304_5 n_ x8l0 x30l0 = some r1 ∧ Own enc41 7 41 x8l0 Ax8l0 cx8l0 bax8l0 ∧ s_ = [(3, .pointer (some ⟨g303, 0, none⟩)), (4, .slice none 0 0), (5, .pointer (some ⟨g305, 0, none⟩)), (8, .slice Ax8l0 x8l0.length cx8l0), (28, .slice Aa0 a0.length ca0), (29, .int .i64 (a0.length : Int)), (30, .int .i64 x30l0)] ∧ [(g312, cl [.int .i64 x304_5, .int .i64 x304_6] 23), (g309, cl [.int .i64 x304_3, .int .i64 x304_4] 23), (g306, cl [.int .i64 x304_1, .int .i64 x304_2] 23), (g305, cl [.int .i64 x304_1, .int .i64 x304_2, .int .i64 x304_3, .int .i64 x304_4, .int .i64 x304_5, .int .i64 x304_6] 78), (g303, cl [.int .i64 a1_0, .int .i64 a1_1, .int .i64 a1_2, .int .i64 a1_3, .int .i64 a1_4, .int .i64 a1_5] 25)] ++ bax8l0 = bs_) K ⟨([] : List E41), 0, none, 0, [], H, (.nil none rfl), rfl, rfl⟩ ?_
          rintro (_ | n_) s_ bs_ ⟨x8l0, x30l0, Ax8l0, cx8l0, bax8l0, H, ox8l0, rfl, rfl⟩
          · exact absurd H (by simp [defect_Clip.l0])
          simp only [defect_Clip.l0] at H
          refine J.seq ?_
          refine J.plain ?_
          refine LL.op (.bool (decide (x30l0 < (a0.length : Int)))) (by kernel_rfl) (fun w _ => by kernel_rfl) ?_
          refine LL.done (s' := [(3, .pointer (some ⟨g303, 0, none⟩)), (4, .slice none 0 0), (5, .pointer (some ⟨g305, 0, none⟩)), (8, .slice Ax8l0 x8l0.length cx8l0), (28, .slice Aa0 a0.length ca0), (29, .int .i64 (a0.length : Int)), (30, .int .i64 x30l0), (31, .bool (decide (x30l0 < (a0.length : Int))))]) [3, 4, 5, 8, 28, 29, 30, 31] (by kernel_rfl) ?_
          refine NN.then ?_
          refine J.seq ?_
          rcases Bool.eq_false_or_eq_true (decide (x30l0 < (a0.length : Int))) with c318 | c318
          · rw [if_pos (of_decide_eq_true c318)] at H
            refine J.condT (b := decide (x30l0 < (a0.length : Int))) c318 (by kernel_rfl) (by kernel_rfl) ?_
            refine J.skip ?_
            refine NN.then ?_
            refine J.seq ?_
            refine J.block ?_
            refine J.seq ?_
            refine J.plain ?_
            obtain ⟨⟨e319_1, e319_2, e319_3, e319_4, e319_5, e319_6, e319_7⟩, he319, H⟩ := bind_some H
            (try dsimp only at H)
            refine LL.op (.pointer (rp Aa0 (x30l0.toNat * 7 + 0))) (by kernel_rfl) (idxR (cp := ca0) (ik := .i64) ha0 he319 rfl (by kernel_rfl) (by kernel_rfl) (by kernel_rfl)) ?_
            refine LL.op (.agg #[.int .i64 e319_1, .int .i64 e319_2, .int .i64 e319_3, .int .i64 e319_4, .int .i64 e319_5, .int .i64 e319_6, .int .i64 e319_7]) (by kernel_rfl) (ldR (off := 0) ha0 he319 rfl (by kernel_rfl) (by kernel_rfl)) ?_
            refine LL.alloc 41 [.int .i64 0, .int .i64 0, .int .i64 0, .int .i64 0, .int .i64 0, .int .i64 0, .int .i64 0] (by kernel_rfl) rfl (by kernel_rfl) (fun g320 => ?_)
            refine LL.store 0 g320 0 41 (.tmp 10) (.tmp 33) [.int .i64 e319_1, .int .i64 e319_2, .int .i64 e319_3, .int .i64 e319_4, .int .i64 e319_5, .int .i64 e319_6, .int .i64 e319_7] (bs' := [(g320, cl [.int .i64 e319_1, .int .i64 e319_2, .int .i64 e319_3, .int .i64 e319_4, .int .i64 e319_5, .int .i64 e319_6, .int .i64 e319_7] 41), (g312, cl [.int .i64 x304_5, .int .i64 x304_6] 23), (g309, cl [.int .i64 x304_3, .int .i64 x304_4] 23), (g306, cl [.int .i64 x304_1, .int .i64 x304_2] 23), (g305, cl [.int .i64 x304_1, .int .i64 x304_2, .int .i64 x304_3, .int .i64 x304_4, .int .i64 x304_5, .int .i64 x304_6] 78), (g303, cl [.int .i64 a1_0, .int .i64 a1_1, .int .i64 a1_2, .int .i64 a1_3, .int .i64 a1_4, .int .i64 a1_5] 25)] ++ bax8l0) rfl (by kernel_rfl) rfl (by kernel_rfl) rfl (by kernel_rfl) ?_
            refine LL.done (s' := [(3, .pointer (some ⟨g303, 0, none⟩)), (4, .slice none 0 0), (5, .pointer (some ⟨g305, 0, none⟩)), (8, .slice Ax8l0 x8l0.length cx8l0), (10, .pointer (some ⟨g320, 0, none⟩)), (28, .slice Aa0 a0.length ca0), (29, .int .i64 (a0.length : Int)), (30, .int .i64 x30l0)]) [3, 4, 5, 8, 10, 28, 29, 30] (by kernel_rfl) ?_
            refine NN.then ?_
            refine J.seq ?_
            refine J.plain ?_
            refine LL.op (.pointer (some ⟨g320, 1, none⟩)) (by kernel_rfl) (fun w _ => by kernel_rfl) ?_
            refine LL.op (.agg #[.int .i64 e319_2, .int .i64 e319_3, .int .i64 e319_4, .int .i64 e319_5, .int .i64 e319_6, .int .i64 e319_7]) (by kernel_rfl) (ld 0 g320 1 rfl (by kernel_rfl) rfl (by kernel_rfl)) ?_
            refine LL.op (.agg #[.int .i64 a1_0, .int .i64 a1_1, .int .i64 a1_2, .int .i64 a1_3, .int .i64 a1_4, .int .i64 a1_5]) (by kernel_rfl) (ld 5 g303 0 rfl (by kernel_rfl) rfl (by kernel_rfl)) ?_
            obtain ⟨⟨x321_1, x321_2, x321_3, x321_4, x321_5, x321_6, x321_7⟩, hx321, H⟩ := bind_some H
            (try dsimp only at H)
            refine LL.call 64 #[.agg #[.int .i64 e319_2, .int .i64 e319_3, .int .i64 e319_4, .int .i64 e319_5, .int .i64 e319_6, .int .i64 e319_7], .agg #[.int .i64 a1_0, .int .i64 a1_1, .int .i64 a1_2, .int .i64 a1_3, .int .i64 a1_4, .int .i64 a1_5]] (.tuple #[.agg #[.int .i64 x321_1, .int .i64 x321_2, .int .i64 x321_3, .int .i64 x321_4, .int .i64 x321_5, .int .i64 x321_6], .bool x321_7]) (by kernel_rfl) (fun w => by kernel_rfl) (fun w hw => defect_common.calls e319_2 e319_3 e319_4 e319_5 e319_6 e319_7 a1_0 a1_1 a1_2 a1_3 a1_4 a1_5   _ _ _ _ _ _ _ w   hx321) ?_
            refine LL.op (.tuple #[.agg #[.int .i64 x321_1, .int .i64 x321_2, .int .i64 x321_3, .int .i64 x321_4, .int .i64 x321_5, .int .i64 x321_6], .bool x321_7]) (by kernel_rfl) (fun w _ => by kernel_rfl) ?_
            refine LL.op (.agg #[.int .i64 x321_1, .int .i64 x321_2, .int .i64 x321_3, .int .i64 x321_4, .int .i64 x321_5, .int .i64 x321_6]) (by kernel_rfl) (fun w _ => by kernel_rfl) ?_
            refine LL.op (.bool x321_7) (by kernel_rfl) (fun w _ => by kernel_rfl) ?_
            refine LL.alloc 25 [.int .i64 0, .int .i64 0, .int .i64 0, .int .i64 0, .int .i64 0, .int .i64 0] (by kernel_rfl) rfl (by kernel_rfl) (fun g322 => ?_)
            refine LL.store 0 g322 0 25 (.tmp 11) (.tmp 39) [.int .i64 x321_1, .int .i64 x321_2, .int .i64 x321_3, .int .i64 x321_4, .int .i64 x321_5, .int .i64 x321_6] (bs' := [(g322, cl [.int .i64 x321_1, .int .i64 x321_2, .int .i64 x321_3, .int .i64 x321_4, .int .i64 x321_5, .int .i64 x321_6] 25), (g320, cl [.int .i64 e319_1, .int .i64 e319_2, .int .i64 e319_3, .int .i64 e319_4, .int .i64 e319_5, .int .i64 e319_6, .int .i64 e319_7] 41), (g312, cl [.int .i64 x304_5, .int .i64 x304_6] 23), (g309, cl [.int .i64 x304_3, .int .i64 x304_4] 23), (g306, cl [.int .i64 x304_1, .int .i64 x304_2] 23), (g305, cl [.int .i64 x304_1, .int .i64 x304_2, .int .i64 x304_3, .int .i64 x304_4, .int .i64 x304_5, .int .i64 x304_6] 78), (g303, cl [.int .i64 a1_0, .int .i64 a1_1, .int .i64 a1_2, .int .i64 a1_3, .int .i64 a1_4, .int .i64 a1_5] 25)] ++ bax8l0) rfl (by kernel_rfl) rfl (by kernel_rfl) rfl (by kernel_rfl) ?_
            refine LL.op (.bool x321_7) (by kernel_rfl) (fun w _ => by kernel_rfl) ?_
            refine LL.done (s' := [(3, .pointer (some ⟨g303, 0, none⟩)), (4, .slice none 0 0), (5, .pointer (some ⟨g305, 0, none⟩)), (8, .slice Ax8l0 x8l0.length cx8l0), (10, .pointer (some ⟨g320, 0, none⟩)), (11, .pointer (some ⟨g322, 0, none⟩)), (12, .bool x321_7), (28, .slice Aa0 a0.length ca0), (29, .int .i64 (a0.length : Int)), (30, .int .i64 x30l0)]) [3, 4, 5, 8, 10, 11, 12, 28, 29, 30] (by kernel_rfl) ?_
            refine NN.then ?_
            refine J.seq ?_
            refine J.seq ?_
            refine J.plain ?_
            refine LL.op (.bool x321_7) (by kernel_rfl) (fun w _ => by kernel_rfl) ?_
            refine LL.op (.bool (!x321_7)) (by kernel_rfl) (fun w _ => by kernel_rfl) ?_
            refine LL.done (s' := [(3, .pointer (some ⟨g303, 0, none⟩)), (4, .slice none 0 0), (5, .pointer (some ⟨g305, 0, none⟩)), (8, .slice Ax8l0 x8l0.length cx8l0), (10, .pointer (some ⟨g320, 0, none⟩)), (11, .pointer (some ⟨g322, 0, none⟩)), (28, .slice Aa0 a0.length ca0), (29, .int .i64 (a0.length : Int)), (30, .int .i64 x30l0), (42, .bool (!x321_7))]) [3, 4, 5, 8, 10, 11, 28, 29, 30, 42] (by kernel_rfl) ?_
            refine NN.then ?_
            rcases Bool.eq_false_or_eq_true (x321_7) with c323 | c323
            · rw [if_pos (c323)] at H
              refine J.condF (b := !x321_7) (by rw [show (!x321_7) = !(x321_7) from rfl, c323]; rfl) (by kernel_rfl) (by kernel_rfl) ?_
              refine J.skip ?_
              refine NN.then ?_
              refine J.seq ?_
              refine J.plain ?_
              refine LL.op (.agg #[.int .i64 x321_1, .int .i64 x321_2, .int .i64 x321_3, .int .i64 x321_4, .int .i64 x321_5, .int .i64 x321_6]) (by kernel_rfl) (ld 0 g322 0 rfl (by kernel_rfl) rfl (by kernel_rfl)) ?_
              obtain ⟨⟨x324_1, x324_2, x324_3, x324_4, x324_5, x324_6⟩, hx324, H⟩ := bind_some H
              (try dsimp only at H)
              refine LL.call 65 #[.agg #[.int .i64 x321_1, .int .i64 x321_2, .int .i64 x321_3, .int .i64 x321_4, .int .i64 x321_5, .int .i64 x321_6]] (.agg #[.int .i64 x324_1, .int .i64 x324_2, .int .i64 x324_3, .int .i64 x324_4, .int .i64 x324_5, .int .i64 x324_6]) (by kernel_rfl) (fun w => by kernel_rfl) (fun w hw => defect_axes.calls x321_1 x321_2 x321_3 x321_4 x321_5 x321_6   _ _ _ _ _ _ w   hx324) ?_
              refine LL.alloc 78 [.int .i64 0, .int .i64 0, .int .i64 0, .int .i64 0, .int .i64 0, .int .i64 0] (by kernel_rfl) rfl (by kernel_rfl) (fun g325 => ?_)
              refine LL.store 0 g325 0 78 (.tmp 13) (.tmp 44) [.int .i64 x324_1, .int .i64 x324_2, .int .i64 x324_3, .int .i64 x324_4, .int .i64 x324_5, .int .i64 x324_6] (bs' := [(g325, cl [.int .i64 x324_1, .int .i64 x324_2, .int .i64 x324_3, .int .i64 x324_4, .int .i64 x324_5, .int .i64 x324_6] 78), (g322, cl [.int .i64 x321_1, .int .i64 x321_2, .int .i64 x321_3, .int .i64 x321_4, .int .i64 x321_5, .int .i64 x321_6] 25), (g320, cl [.int .i64 e319_1, .int .i64 e319_2, .int .i64 e319_3, .int .i64 e319_4, .int .i64 e319_5, .int .i64 e319_6, .int .i64 e319_7] 41), (g312, cl [.int .i64 x304_5, .int .i64 x304_6] 23), (g309, cl [.int .i64 x304_3, .int .i64 x304_4] 23), (g306, cl [.int .i64 x304_1, .int .i64 x304_2] 23), (g305, cl [.int .i64 x304_1, .int .i64 x304_2, .int .i64 x304_3, .int .i64 x304_4, .int .i64 x304_5, .int .i64 x304_6] 78), (g303, cl [.int .i64 a1_0, .int .i64 a1_1, .int .i64 a1_2, .int .i64 a1_3, .int .i64 a1_4, .int .i64 a1_5] 25)] ++ bax8l0) rfl (by kernel_rfl) rfl (by kernel_rfl) rfl (by kernel_rfl) ?_
              refine LL.done (s' := [(3, .pointer (some ⟨g303, 0, none⟩)), (4, .slice none 0 0), (5, .pointer (some ⟨g305, 0, none⟩)), (8, .slice Ax8l0 x8l0.length cx8l0), (10, .pointer (some ⟨g320, 0, none⟩)), (13, .pointer (some ⟨g325, 0, none⟩)), (28, .slice Aa0 a0.length ca0), (29, .int .i64 (a0.length : Int)), (30, .int .i64 x30l0)]) [3, 4, 5, 8, 10, 13, 28, 29, 30] (by kernel_rfl) ?_
              refine NN.then ?_
              refine J.seq ?_
              refine J.seq ?_
              refine J.plain ?_
              refine LL.op (.int .i64 0) (by kernel_rfl) (fun w _ => by kernel_rfl) ?_
              refine LL.done (s' := [(3, .pointer (some ⟨g303, 0, none⟩)), (4, .slice none 0 0), (5, .pointer (some ⟨g305, 0, none⟩)), (8, .slice Ax8l0 x8l0.length cx8l0), (10, .pointer (some ⟨g320, 0, none⟩)), (13, .pointer (some ⟨g325, 0, none⟩)), (28, .slice Aa0 a0.length ca0), (29, .int .i64 (a0.length : Int)), (30, .int .i64 x30l0), (45, .int .i64 0)]) [3, 4, 5, 8, 10, 13, 28, 29, 30, 45] (by kernel_rfl) ?_
              refine NN.then ?_
              refine J.block ?_
              refine J.rounds 3 ?_
              refine J.seq ?_
              refine J.plain ?_
              refine LL.op (.bool true) (by kernel_rfl) (fun w _ => by kernel_rfl) ?_
              refine LL.done (s' := [(3, .pointer (some ⟨g303, 0, none⟩)), (4, .slice none 0 0), (5, .pointer (some ⟨g305, 0, none⟩)), (8, .slice Ax8l0 x8l0.length cx8l0), (10, .pointer (some ⟨g320, 0, none⟩)), (13, .pointer (some ⟨g325, 0, none⟩)), (28, .slice Aa0 a0.length ca0), (29, .int .i64 (a0.length : Int)), (30, .int .i64 x30l0), (45, .int .i64 0), (46, .bool true)]) [3, 4, 5, 8, 10, 13, 28, 29, 30, 45, 46] (by kernel_rfl) ?_
              refine NN.then ?_
              refine J.seq ?_
              refine J.condT (b := true) rfl (by kernel_rfl) (by kernel_rfl) ?_
              refine J.skip ?_
              refine NN.then ?_
              refine J.seq ?_
              refine J.block ?_
              refine J.seq ?_
              refine J.plain ?_
              refine LL.op (.int .i64 0) (by kernel_rfl) (fun w _ => by kernel_rfl) ?_
              refine LL.op (.int .i64 0) (by kernel_rfl) (fun w _ => by kernel_rfl) ?_
              refine LL.done (s' := [(3, .pointer (some ⟨g303, 0, none⟩)), (4, .slice none 0 0), (5, .pointer (some ⟨g305, 0, none⟩)), (8, .slice Ax8l0 x8l0.length cx8l0), (10, .pointer (some ⟨g320, 0, none⟩)), (13, .pointer (some ⟨g325, 0, none⟩)), (14, .int .i64 0), (28, .slice Aa0 a0.length ca0), (29, .int .i64 (a0.length : Int)), (30, .int .i64 x30l0), (45, .int .i64 0), (46, .bool true), (47, .int .i64 0)]) [3, 4, 5, 8, 10, 13, 14, 28, 29, 30, 45, 46, 47] (by kernel_rfl) ?_
              refine NN.then ?_
              refine J.seq ?_
              refine J.heldBut [(g322, cl [.int .i64 x321_1, .int .i64 x321_2, .int .i64 x321_3, .int .i64 x321_4, .int .i64 x321_5, .int .i64 x321_6] 25), (g320, cl [.int .i64 e319_1, .int .i64 e319_2, .int .i64 e319_3, .int .i64 e319_4, .int .i64 e319_5, .int .i64 e319_6, .int .i64 e319_7] 41), (g312, cl [.int .i64 x304_5, .int .i64 x304_6] 23), (g309, cl [.int .i64 x304_3, .int .i64 x304_4] 23), (g306, cl [.int .i64 x304_1, .int .i64 x304_2] 23), (g305, cl [.int .i64 x304_1, .int .i64 x304_2, .int .i64 x304_3, .int .i64 x304_4, .int .i64 x304_5, .int .i64 x304_6] 78), (g303, cl [.int .i64 a1_0, .int .i64 a1_1, .int .i64 a1_2, .int .i64 a1_3, .int .i64 a1_4, .int .i64 a1_5] 25)] follows ?_
              refine HH.take 0 (.int .i64 0) rfl (by kernel_rfl) (by kernel_rfl) (fun _ h => h.sub ((List.Sublist.cons _ (List.Sublist.refl _)).trans (List.sublist_append_left _ _))) (fun w _ => by kernel_rfl) ?_
              refine HH.take 1 (.pointer (some ⟨g325, 0, none⟩)) rfl (by kernel_rfl) (by kernel_rfl) (fun _ h => h.sub ((List.Sublist.cons _ (List.Sublist.refl _)).trans (List.sublist_append_left _ _))) (fun w _ => by kernel_rfl) ?_
              refine HH.take 2 (.pointer (some ⟨g325, 0, none⟩)) rfl (by kernel_rfl) (by kernel_rfl) (fun _ h => h.sub ((List.Sublist.cons _ (List.Sublist.refl _)).trans (List.sublist_append_left _ _))) (fun w _ => by kernel_rfl) ?_
              refine HH.take 4 (.int .i64 0) rfl (by kernel_rfl) (by kernel_rfl) (fun _ h => h.sub ((List.Sublist.cons _ (List.Sublist.refl _)).trans (List.sublist_append_left _ _))) (fun w _ => by kernel_rfl) ?_
              refine HH.take 5 (.pointer (some ⟨g305, 0, none⟩)) rfl (by kernel_rfl) (by kernel_rfl) (fun _ h => h.sub ((List.Sublist.cons _ (List.Sublist.refl _)).trans (List.sublist_append_left _ _))) (fun w _ => by kernel_rfl) ?_
              refine HH.take 6 (.pointer (some ⟨g305, 0, none⟩)) rfl (by kernel_rfl) (by kernel_rfl) (fun _ h => h.sub ((List.Sublist.cons _ (List.Sublist.refl _)).trans (List.sublist_append_left _ _))) (fun w _ => by kernel_rfl) ?_
              refine HH.take 7 (.int .i64 x304_1) rfl (by kernel_rfl) (by kernel_rfl) (fun _ h => h.sub ((List.Sublist.cons _ (List.Sublist.refl _)).trans (List.sublist_append_left _ _))) (ld 5 g305 0 rfl (by kernel_rfl) rfl (by kernel_rfl)) ?_
              refine HH.all1 3 (by kernel_rfl) ?_
              refine HS.op (.int .i64 x324_1) rfl (by kernel_rfl) (fun _ h => h.sub ((List.Sublist.cons _ (List.Sublist.refl _)).trans (List.sublist_append_left _ _))) (ld 0 g325 0 rfl (by kernel_rfl) rfl (by kernel_rfl)) ?_
              refine HH.take 8 (.int .i64 (IntKind.i64.wrap (x324_1 - x304_1))) rfl (by kernel_rfl) (by kernel_rfl) (fun _ h => h.sub ((List.Sublist.cons _ (List.Sublist.refl _)).trans (List.sublist_append_left _ _))) (fun w _ => by kernel_rfl) ?_
              refine HH.take 9 (.pointer (some ⟨g325, 0, none⟩)) rfl (by kernel_rfl) (by kernel_rfl) (fun _ h => h.sub ((List.Sublist.cons _ (List.Sublist.refl _)).trans (List.sublist_append_left _ _))) (fun w _ => by kernel_rfl) ?_
              refine HH.take 10 (.pointer (some ⟨g325, 0, none⟩)) rfl (by kernel_rfl) (by kernel_rfl) (fun _ h => h.sub ((List.Sublist.cons _ (List.Sublist.refl _)).trans (List.sublist_append_left _ _))) (fun w _ => by kernel_rfl) ?_
              refine HH.all1 11 (by kernel_rfl) ?_
              refine HS.store 0 g325 0 3 (.tmp 58) (.tmp 56) [.int .i64 (IntKind.i64.wrap (x324_1 - x304_1)), .int .i64 x324_2, .int .i64 x324_3, .int .i64 x324_4, .int .i64 x324_5, .int .i64 x324_6] (bs' := [(g325, cl [.int .i64 (IntKind.i64.wrap (x324_1 - x304_1)), .int .i64 x324_2, .int .i64 x324_3, .int .i64 x324_4, .int .i64 x324_5, .int .i64 x324_6] 78), (g322, cl [.int .i64 x321_1, .int .i64 x321_2, .int .i64 x321_3, .int .i64 x321_4, .int .i64 x321_5, .int .i64 x321_6] 25), (g320, cl [.int .i64 e319_1, .int .i64 e319_2, .int .i64 e319_3, .int .i64 e319_4, .int .i64 e319_5, .int .i64 e319_6, .int .i64 e319_7] 41), (g312, cl [.int .i64 x304_5, .int .i64 x304_6] 23), (g309, cl [.int .i64 x304_3, .int .i64 x304_4] 23), (g306, cl [.int .i64 x304_1, .int .i64 x304_2] 23), (g305, cl [.int .i64 x304_1, .int .i64 x304_2, .int .i64 x304_3, .int .i64 x304_4, .int .i64 x304_5, .int .i64 x304_6] 78), (g303, cl [.int .i64 a1_0, .int .i64 a1_1, .int .i64 a1_2, .int .i64 a1_3, .int .i64 a1_4, .int .i64 a1_5] 25)] ++ bax8l0) rfl rfl (by kernel_rfl) rfl (by kernel_rfl) rfl (by kernel_rfl) (fun _ h => h.sub ((List.Sublist.cons _ (List.Sublist.refl _)).trans (List.sublist_append_left _ _))) ?_
              refine HH.done (s' := [(3, .pointer (some ⟨g303, 0, none⟩)), (4, .slice none 0 0), (5, .pointer (some ⟨g305, 0, none⟩)), (8, .slice Ax8l0 x8l0.length cx8l0), (10, .pointer (some ⟨g320, 0, none⟩)), (13, .pointer (some ⟨g325, 0, none⟩)), (14, .int .i64 0), (28, .slice Aa0 a0.length ca0), (29, .int .i64 (a0.length : Int)), (30, .int .i64 x30l0), (45, .int .i64 0), (46, .bool true), (47, .int .i64 0), (48, .int .i64 0), (49, .pointer (some ⟨g325, 0, none⟩)), (50, .pointer (some ⟨g325, 0, none⟩)), (51, .int .i64 x324_1), (52, .int .i64 0), (53, .pointer (some ⟨g305, 0, none⟩)), (54, .pointer (some ⟨g305, 0, none⟩)), (55, .int .i64 x304_1), (56, .int .i64 (IntKind.i64.wrap (x324_1 - x304_1))), (57, .pointer (some ⟨g325, 0, none⟩)), (58, .pointer (some ⟨g325, 0, none⟩))]) [3, 4, 5, 8, 10, 13, 14, 28, 29, 30, 45, 46, 47, 48, 49, 50, 51, 52, 53, 54, 55, 56, 57, 58] (by kernel_rfl) (by kernel_rfl) ?_
              refine NN.then ?_
              refine J.heldBut [(g322, cl [.int .i64 x321_1, .int .i64 x321_2, .int .i64 x321_3, .int .i64 x321_4, .int .i64 x321_5, .int .i64 x321_6] 25), (g320, cl [.int .i64 e319_1, .int .i64 e319_2, .int .i64 e319_3, .int .i64 e319_4, .int .i64 e319_5, .int .i64 e319_6, .int .i64 e319_7] 41), (g312, cl [.int .i64 x304_5, .int .i64 x304_6] 23), (g309, cl [.int .i64 x304_3, .int .i64 x304_4] 23), (g306, cl [.int .i64 x304_1, .int .i64 x304_2] 23), (g305, cl [.int .i64 x304_1, .int .i64 x304_2, .int .i64 x304_3, .int .i64 x304_4, .int .i64 x304_5, .int .i64 x304_6] 78), (g303, cl [.int .i64 a1_0, .int .i64 a1_1, .int .i64 a1_2, .int .i64 a1_3, .int .i64 a1_4, .int .i64 a1_5] 25)] follows ?_
              refine HH.take 0 (.int .i64 0) rfl (by kernel_rfl) (by kernel_rfl) (fun _ h => h.sub ((List.Sublist.cons _ (List.Sublist.refl _)).trans (List.sublist_append_left _ _))) (fun w _ => by kernel_rfl) ?_
              refine HH.take 1 (.pointer (some ⟨g325, 0, none⟩)) rfl (by kernel_rfl) (by kernel_rfl) (fun _ h => h.sub ((List.Sublist.cons _ (List.Sublist.refl _)).trans (List.sublist_append_left _ _))) (fun w _ => by kernel_rfl) ?_
              refine HH.take 2 (.pointer (some ⟨g325, 1, none⟩)) rfl (by kernel_rfl) (by kernel_rfl) (fun _ h => h.sub ((List.Sublist.cons _ (List.Sublist.refl _)).trans (List.sublist_append_left _ _))) (fun w _ => by kernel_rfl) ?_
              refine HH.take 4 (.int .i64 0) rfl (by kernel_rfl) (by kernel_rfl) (fun _ h => h.sub ((List.Sublist.cons _ (List.Sublist.refl _)).trans (List.sublist_append_left _ _))) (fun w _ => by kernel_rfl) ?_
              refine HH.take 5 (.pointer (some ⟨g305, 0, none⟩)) rfl (by kernel_rfl) (by kernel_rfl) (fun _ h => h.sub ((List.Sublist.cons _ (List.Sublist.refl _)).trans (List.sublist_append_left _ _))) (fun w _ => by kernel_rfl) ?_
              refine HH.take 6 (.pointer (some ⟨g305, 0, none⟩)) rfl (by kernel_rfl) (by kernel_rfl) (fun _ h => h.sub ((List.Sublist.cons _ (List.Sublist.refl _)).trans (List.sublist_append_left _ _))) (fun w _ => by kernel_rfl) ?_
              refine HH.take 7 (.int .i64 x304_1) rfl (by kernel_rfl) (by kernel_rfl) (fun _ h => h.sub ((List.Sublist.cons _ (List.Sublist.refl _)).trans (List.sublist_append_left _ _))) (ld 5 g305 0 rfl (by kernel_rfl) rfl (by kernel_rfl)) ?_
              refine HH.all1 3 (by kernel_rfl) ?_
              refine HS.op (.int .i64 x324_2) rfl (by kernel_rfl) (fun _ h => h.sub ((List.Sublist.cons _ (List.Sublist.refl _)).trans (List.sublist_append_left _ _))) (ld 0 g325 1 rfl (by kernel_rfl) rfl (by kernel_rfl)) ?_
              refine HH.take 8 (.int .i64 (IntKind.i64.wrap (x324_2 - x304_1))) rfl (by kernel_rfl) (by kernel_rfl) (fun _ h => h.sub ((List.Sublist.cons _ (List.Sublist.refl _)).trans (List.sublist_append_left _ _))) (fun w _ => by kernel_rfl) ?_
              refine HH.take 9 (.pointer (some ⟨g325, 0, none⟩)) rfl (by kernel_rfl) (by kernel_rfl) (fun _ h => h.sub ((List.Sublist.cons _ (List.Sublist.refl _)).trans (List.sublist_append_left _ _))) (fun w _ => by kernel_rfl) ?_
              refine HH.take 10 (.pointer (some ⟨g325, 1, none⟩)) rfl (by kernel_rfl) (by kernel_rfl) (fun _ h => h.sub ((List.Sublist.cons _ (List.Sublist.refl _)).trans (List.sublist_append_left _ _))) (fun w _ => by kernel_rfl) ?_
              refine HH.all1 11 (by kernel_rfl) ?_
              refine HS.store 0 g325 1 3 (.tmp 69) (.tmp 67) [.int .i64 (IntKind.i64.wrap (x324_1 - x304_1)), .int .i64 (IntKind.i64.wrap (x324_2 - x304_1)), .int .i64 x324_3, .int .i64 x324_4, .int .i64 x324_5, .int .i64 x324_6] (bs' := [(g325, cl [.int .i64 (IntKind.i64.wrap (x324_1 - x304_1)), .int .i64 (IntKind.i64.wrap (x324_2 - x304_1)), .int .i64 x324_3, .int .i64 x324_4, .int .i64 x324_5, .int .i64 x324_6] 78), (g322, cl [.int .i64 x321_1, .int .i64 x321_2, .int .i64 x321_3, .int .i64 x321_4, .int .i64 x321_5, .int .i64 x321_6] 25), (g320, cl [.int .i64 e319_1, .int .i64 e319_2, .int .i64 e319_3, .int .i64 e319_4, .int .i64 e319_5, .int .i64 e319_6, .int .i64 e319_7] 41), (g312, cl [.int .i64 x304_5, .int .i64 x304_6] 23), (g309, cl [.int .i64 x304_3, .int .i64 x304_4] 23), (g306, cl [.int .i64 x304_1, .int .i64 x304_2] 23), (g305, cl [.int .i64 x304_1, .int .i64 x304_2, .int .i64 x304_3, .int .i64 x304_4, .int .i64 x304_5, .int .i64 x304_6] 78), (g303, cl [.int .i64 a1_0, .int .i64 a1_1, .int .i64 a1_2, .int .i64 a1_3, .int .i64 a1_4, .int .i64 a1_5] 25)] ++ bax8l0) rfl rfl (by kernel_rfl) rfl (by kernel_rfl) rfl (by kernel_rfl) (fun _ h => h.sub ((List.Sublist.cons _ (List.Sublist.refl _)).trans (List.sublist_append_left _ _))) ?_
              refine HH.done (s' := [(3, .pointer (some ⟨g303, 0, none⟩)), (4, .slice none 0 0), (5, .pointer (some ⟨g305, 0, none⟩)), (8, .slice Ax8l0 x8l0.length cx8l0), (10, .pointer (some ⟨g320, 0, none⟩)), (13, .pointer (some ⟨g325, 0, none⟩)), (14, .int .i64 0), (28, .slice Aa0 a0.length ca0), (29, .int .i64 (a0.length : Int)), (30, .int .i64 x30l0), (45, .int .i64 0), (46, .bool true), (47, .int .i64 0), (48, .int .i64 0), (49, .pointer (some ⟨g325, 0, none⟩)), (50, .pointer (some ⟨g325, 0, none⟩)), (51, .int .i64 x324_1), (52, .int .i64 0), (53, .pointer (some ⟨g305, 0, none⟩)), (54, .pointer (some ⟨g305, 0, none⟩)), (55, .int .i64 x304_1), (56, .int .i64 (IntKind.i64.wrap (x324_1 - x304_1))), (57, .pointer (some ⟨g325, 0, none⟩)), (58, .pointer (some ⟨g325, 0, none⟩)), (59, .int .i64 0), (60, .pointer (some ⟨g325, 0, none⟩)), (61, .pointer (some ⟨g325, 1, none⟩)), (62, .int .i64 x324_2), (63, .int .i64 0), (64, .pointer (some ⟨g305, 0, none⟩)), (65, .pointer (some ⟨g305, 0, none⟩)), (66, .int .i64 x304_1), (67, .int .i64 (IntKind.i64.wrap (x324_2 - x304_1))), (68, .pointer (some ⟨g325, 0, none⟩)), (69, .pointer (some ⟨g325, 1, none⟩))]) [3, 4, 5, 8, 10, 13, 14, 28, 29, 30, 45, 46, 47, 48, 49, 50, 51, 52, 53, 54, 55, 56, 57, 58, 59, 60, 61, 62, 63, 64, 65, 66, 67, 68, 69] (by kernel_rfl) (by kernel_rfl) ?_
              refine NN.block_n ?_
              refine NN.then ?_
              refine J.plain ?_
              refine LL.op (.int .i64 1) (by kernel_rfl) (fun w _ => by kernel_rfl) ?_
              refine LL.op (.int .i64 1) (by kernel_rfl) (fun w _ => by kernel_rfl) ?_
              refine LL.done (s' := [(3, .pointer (some ⟨g303, 0, none⟩)), (4, .slice none 0 0), (5, .pointer (some ⟨g305, 0, none⟩)), (8, .slice Ax8l0 x8l0.length cx8l0), (10, .pointer (some ⟨g320, 0, none⟩)), (13, .pointer (some ⟨g325, 0, none⟩)), (14, .int .i64 0), (28, .slice Aa0 a0.length ca0), (29, .int .i64 (a0.length : Int)), (30, .int .i64 x30l0), (45, .int .i64 1), (46, .bool true), (47, .int .i64 0), (48, .int .i64 0), (49, .pointer (some ⟨g325, 0, none⟩)), (50, .pointer (some ⟨g325, 0, none⟩)), (51, .int .i64 x324_1), (52, .int .i64 0), (53, .pointer (some ⟨g305, 0, none⟩)), (54, .pointer (some ⟨g305, 0, none⟩)), (55, .int .i64 x304_1), (56, .int .i64 (IntKind.i64.wrap (x324_1 - x304_1))), (57, .pointer (some ⟨g325, 0, none⟩)), (58, .pointer (some ⟨g325, 0, none⟩)), (59, .int .i64 0), (60, .pointer (some ⟨g325, 0, none⟩)), (61, .pointer (some ⟨g325, 1, none⟩)), (62, .int .i64 x324_2), (63, .int .i64 0), (64, .pointer (some ⟨g305, 0, none⟩)), (65, .pointer (some ⟨g305, 0, none⟩)), (66, .int .i64 x304_1), (67, .int .i64 (IntKind.i64.wrap (x324_2 - x304_1))), (68, .pointer (some ⟨g325, 0, none⟩)), (69, .pointer (some ⟨g325, 1, none⟩)), (70, .int .i64 1)]) [3, 4, 5, 8, 10, 13, 14, 28, 29, 30, 45, 46, 47, 48, 49, 50, 51, 52, 53, 54, 55, 56, 57, 58, 59, 60, 61, 62, 63, 64, 65, 66, 67, 68, 69, 70] (by kernel_rfl) ?_
              refine NN.again ?_
              refine J.seq ?_
              refine J.plain ?_
              refine LL.op (.bool true) (by kernel_rfl) (fun w _ => by kernel_rfl) ?_
              refine LL.done (s' := [(3, .pointer (some ⟨g303, 0, none⟩)), (4, .slice none 0 0), (5, .pointer (some ⟨g305, 0, none⟩)), (8, .slice Ax8l0 x8l0.length cx8l0), (10, .pointer (some ⟨g320, 0, none⟩)), (13, .pointer (some ⟨g325, 0, none⟩)), (14, .int .i64 0), (28, .slice Aa0 a0.length ca0), (29, .int .i64 (a0.length : Int)), (30, .int .i64 x30l0), (45, .int .i64 1), (46, .bool true), (47, .int .i64 0), (48, .int .i64 0), (49, .pointer (some ⟨g325, 0, none⟩)), (50, .pointer (some ⟨g325, 0, none⟩)), (51, .int .i64 x324_1), (52, .int .i64 0), (53, .pointer (some ⟨g305, 0, none⟩)), (54, .pointer (some ⟨g305, 0, none⟩)), (55, .int .i64 x304_1), (56, .int .i64 (IntKind.i64.wrap (x324_1 - x304_1))), (57, .pointer (some ⟨g325, 0, none⟩)), (58, .pointer (some ⟨g325, 0, none⟩)), (59, .int .i64 0), (60, .pointer (some ⟨g325, 0, none⟩)), (61, .pointer (some ⟨g325, 1, none⟩)), (62, .int .i64 x324_2), (63, .int .i64 0), (64, .pointer (some ⟨g305, 0, none⟩)), (65, .pointer (some ⟨g305, 0, none⟩)), (66, .int .i64 x304_1), (67, .int .i64 (IntKind.i64.wrap (x324_2 - x304_1))), (68, .pointer (some ⟨g325, 0, none⟩)), (69, .pointer (some ⟨g325, 1, none⟩)), (70, .int .i64 1)]) [3, 4, 5, 8, 10, 13, 14, 28, 29, 30, 45, 46, 47, 48, 49, 50, 51, 52, 53, 54, 55, 56, 57, 58, 59, 60, 61, 62, 63, 64, 65, 66, 67, 68, 69, 70] (by kernel_rfl) ?_
              refine NN.then ?_
              refine J.seq ?_
              refine J.condT (b := true) rfl (by kernel_rfl) (by kernel_rfl) ?_
              refine J.skip ?_
              refine NN.then ?_
              refine J.seq ?_
              refine J.block ?_
              refine J.seq ?_
              refine J.plain ?_
              refine LL.op (.int .i64 1) (by kernel_rfl) (fun w _ => by kernel_rfl) ?_
              refine LL.op (.int .i64 1) (by kernel_rfl) (fun w _ => by kernel_rfl) ?_
              refine LL.done (s' := [(3, .pointer (some ⟨g303, 0, none⟩)), (4, .slice none 0 0), (5, .pointer (some ⟨g305, 0, none⟩)), (8, .slice Ax8l0 x8l0.length cx8l0), (10, .pointer (some ⟨g320, 0, none⟩)), (13, .pointer (some ⟨g325, 0, none⟩)), (14, .int .i64 1), (28, .slice Aa0 a0.length ca0), (29, .int .i64 (a0.length : Int)), (30, .int .i64 x30l0), (45, .int .i64 1), (46, .bool true), (47, .int .i64 1), (48, .int .i64 0), (49, .pointer (some ⟨g325, 0, none⟩)), (50, .pointer (some ⟨g325, 0, none⟩)), (51, .int .i64 x324_1), (52, .int .i64 0), (53, .pointer (some ⟨g305, 0, none⟩)), (54, .pointer (some ⟨g305, 0, none⟩)), (55, .int .i64 x304_1), (56, .int .i64 (IntKind.i64.wrap (x324_1 - x304_1))), (57, .pointer (some ⟨g325, 0, none⟩)), (58, .pointer (some ⟨g325, 0, none⟩)), (59, .int .i64 0), (60, .pointer (some ⟨g325, 0, none⟩)), (61, .pointer (some ⟨g325, 1, none⟩)), (62, .int .i64 x324_2), (63, .int .i64 0), (64, .pointer (some ⟨g305, 0, none⟩)), (65, .pointer (some ⟨g305, 0, none⟩)), (66, .int .i64 x304_1), (67, .int .i64 (IntKind.i64.wrap (x324_2 - x304_1))), (68, .pointer (some ⟨g325, 0, none⟩)), (69, .pointer (some ⟨g325, 1, none⟩)), (70, .int .i64 1)]) [3, 4, 5, 8, 10, 13, 14, 28, 29, 30, 45, 46, 47, 48, 49, 50, 51, 52, 53, 54, 55, 56, 57, 58, 59, 60, 61, 62, 63, 64, 65, 66, 67, 68, 69, 70] (by kernel_rfl) ?_
              refine NN.then ?_
              refine J.seq ?_
              refine J.heldBut [(g322, cl [.int .i64 x321_1, .int .i64 x321_2, .int .i64 x321_3, .int .i64 x321_4, .int .i64 x321_5, .int .i64 x321_6] 25), (g320, cl [.int .i64 e319_1, .int .i64 e319_2, .int .i64 e319_3, .int .i64 e319_4, .int .i64 e319_5, .int .i64 e319_6, .int .i64 e319_7] 41), (g312, cl [.int .i64 x304_5, .int .i64 x304_6] 23), (g309, cl [.int .i64 x304_3, .int .i64 x304_4] 23), (g306, cl [.int .i64 x304_1, .int .i64 x304_2] 23), (g305, cl [.int .i64 x304_1, .int .i64 x304_2, .int .i64 x304_3, .int .i64 x304_4, .int .i64 x304_5, .int .i64 x304_6] 78), (g303, cl [.int .i64 a1_0, .int .i64 a1_1, .int .i64 a1_2, .int .i64 a1_3, .int .i64 a1_4, .int .i64 a1_5] 25)] follows ?_
              refine HH.take 0 (.int .i64 1) rfl (by kernel_rfl) (by kernel_rfl) (fun _ h => h.sub ((List.Sublist.cons _ (List.Sublist.refl _)).trans (List.sublist_append_left _ _))) (fun w _ => by kernel_rfl) ?_
              refine HH.take 1 (.pointer (some ⟨g325, 2, none⟩)) rfl (by kernel_rfl) (by kernel_rfl) (fun _ h => h.sub ((List.Sublist.cons _ (List.Sublist.refl _)).trans (List.sublist_append_left _ _))) (fun w _ => by kernel_rfl) ?_
              refine HH.take 2 (.pointer (some ⟨g325, 2, none⟩)) rfl (by kernel_rfl) (by kernel_rfl) (fun _ h => h.sub ((List.Sublist.cons _ (List.Sublist.refl _)).trans (List.sublist_append_left _ _))) (fun w _ => by kernel_rfl) ?_
              refine HH.take 4 (.int .i64 1) rfl (by kernel_rfl) (by kernel_rfl) (fun _ h => h.sub ((List.Sublist.cons _ (List.Sublist.refl _)).trans (List.sublist_append_left _ _))) (fun w _ => by kernel_rfl) ?_
              refine HH.take 5 (.pointer (some ⟨g305, 2, none⟩)) rfl (by kernel_rfl) (by kernel_rfl) (fun _ h => h.sub ((List.Sublist.cons _ (List.Sublist.refl _)).trans (List.sublist_append_left _ _))) (fun w _ => by kernel_rfl) ?_
              refine HH.take 6 (.pointer (some ⟨g305, 2, none⟩)) rfl (by kernel_rfl) (by kernel_rfl) (fun _ h => h.sub ((List.Sublist.cons _ (List.Sublist.refl _)).trans (List.sublist_append_left _ _))) (fun w _ => by kernel_rfl) ?_
              refine HH.take 7 (.int .i64 x304_3) rfl (by kernel_rfl) (by kernel_rfl) (fun _ h => h.sub ((List.Sublist.cons _ (List.Sublist.refl _)).trans (List.sublist_append_left _ _))) (ld 5 g305 2 rfl (by kernel_rfl) rfl (by kernel_rfl)) ?_
              refine HH.all1 3 (by kernel_rfl) ?_
              refine HS.op (.int .i64 x324_3) rfl (by kernel_rfl) (fun _ h => h.sub ((List.Sublist.cons _ (List.Sublist.refl _)).trans (List.sublist_append_left _ _))) (ld 0 g325 2 rfl (by kernel_rfl) rfl (by kernel_rfl)) ?_
              refine HH.take 8 (.int .i64 (IntKind.i64.wrap (x324_3 - x304_3))) rfl (by kernel_rfl) (by kernel_rfl) (fun _ h => h.sub ((List.Sublist.cons _ (List.Sublist.refl _)).trans (List.sublist_append_left _ _))) (fun w _ => by kernel_rfl) ?_
              refine HH.take 9 (.pointer (some ⟨g325, 2, none⟩)) rfl (by kernel_rfl) (by kernel_rfl) (fun _ h => h.sub ((List.Sublist.cons _ (List.Sublist.refl _)).trans (List.sublist_append_left _ _))) (fun w _ => by kernel_rfl) ?_
              refine HH.take 10 (.pointer (some ⟨g325, 2, none⟩)) rfl (by kernel_rfl) (by kernel_rfl) (fun _ h => h.sub ((List.Sublist.cons _ (List.Sublist.refl _)).trans (List.sublist_append_left _ _))) (fun w _ => by kernel_rfl) ?_
              refine HH.all1 11 (by kernel_rfl) ?_
              refine HS.store 0 g325 2 3 (.tmp 58) (.tmp 56) [.int .i64 (IntKind.i64.wrap (x324_1 - x304_1)), .int .i64 (IntKind.i64.wrap (x324_2 - x304_1)), .int .i64 (IntKind.i64.wrap (x324_3 - x304_3)), .int .i64 x324_4, .int .i64 x324_5, .int .i64 x324_6] (bs' := [(g325, cl [.int .i64 (IntKind.i64.wrap (x324_1 - x304_1)), .int .i64 (IntKind.i64.wrap (x324_2 - x304_1)), .int .i64 (IntKind.i64.wrap (x324_3 - x304_3)), .int .i64 x324_4, .int .i64 x324_5, .int .i64 x324_6] 78), (g322, cl [.int .i64 x321_1, .int .i64 x321_2, .int .i64 x321_3, .int .i64 x321_4, .int .i64 x321_5, .int .i64 x321_6] 25), (g320, cl [.int .i64 e319_1, .int .i64 e319_2, .int .i64 e319_3, .int .i64 e319_4, .int .i64 e319_5, .int .i64 e319_6, .int .i64 e319_7] 41), (g312, cl [.int .i64 x304_5, .int .i64 x304_6] 23), (g309, cl [.int .i64 x304_3, .int .i64 x304_4] 23), (g306, cl [.int .i64 x304_1, .int .i64 x304_2] 23), (g305, cl [.int .i64 x304_1, .int .i64 x304_2, .int .i64 x304_3, .int .i64 x304_4, .int .i64 x304_5, .int .i64 x304_6] 78), (g303, cl [.int .i64 a1_0, .int .i64 a1_1, .int .i64 a1_2, .int .i64 a1_3, .int .i64 a1_4, .int .i64 a1_5] 25)] ++ bax8l0) rfl rfl (by kernel_rfl) rfl (by kernel_rfl) rfl (by kernel_rfl) (fun _ h => h.sub ((List.Sublist.cons _ (List.Sublist.refl _)).trans (List.sublist_append_left _ _))) ?_
              refine HH.done (s' := [(3, .pointer (some ⟨g303, 0, none⟩)), (4, .slice none 0 0), (5, .pointer (some ⟨g305, 0, none⟩)), (8, .slice Ax8l0 x8l0.length cx8l0), (10, .pointer (some ⟨g320, 0, none⟩)), (13, .pointer (some ⟨g325, 0, none⟩)), (14, .int .i64 1), (28, .slice Aa0 a0.length ca0), (29, .int .i64 (a0.length : Int)), (30, .int .i64 x30l0), (45, .int .i64 1), (46, .bool true), (47, .int .i64 1), (48, .int .i64 1), (49, .pointer (some ⟨g325, 2, none⟩)), (50, .pointer (some ⟨g325, 2, none⟩)), (51, .int .i64 x324_3), (52, .int .i64 1), (53, .pointer (some ⟨g305, 2, none⟩)), (54, .pointer (some ⟨g305, 2, none⟩)), (55, .int .i64 x304_3), (56, .int .i64 (IntKind.i64.wrap (x324_3 - x304_3))), (57, .pointer (some ⟨g325, 2, none⟩)), (58, .pointer (some ⟨g325, 2, none⟩)), (59, .int .i64 0), (60, .pointer (some ⟨g325, 0, none⟩)), (61, .pointer (some ⟨g325, 1, none⟩)), (62, .int .i64 x324_2), (63, .int .i64 0), (64, .pointer (some ⟨g305, 0, none⟩)), (65, .pointer (some ⟨g305, 0, none⟩)), (66, .int .i64 x304_1), (67, .int .i64 (IntKind.i64.wrap (x324_2 - x304_1))), (68, .pointer (some ⟨g325, 0, none⟩)), (69, .pointer (some ⟨g325, 1, none⟩)), (70, .int .i64 1)]) [3, 4, 5, 8, 10, 13, 14, 28, 29, 30, 45, 46, 47, 48, 49, 50, 51, 52, 53, 54, 55, 56, 57, 58, 59, 60, 61, 62, 63, 64, 65, 66, 67, 68, 69, 70] (by kernel_rfl) (by kernel_rfl) ?_
              refine NN.then ?_
              refine J.heldBut [(g322, cl [.int .i64 x321_1, .int .i64 x321_2, .int .i64 x321_3, .int .i64 x321_4, .int .i64 x321_5, .int .i64 x321_6] 25), (g320, cl [.int .i64 e319_1, .int .i64 e319_2, .int .i64 e319_3, .int .i64 e319_4, .int .i64 e319_5, .int .i64 e319_6, .int .i64 e319_7] 41), (g312, cl [.int .i64 x304_5, .int .i64 x304_6] 23), (g309, cl [.int .i64 x304_3, .int .i64 x304_4] 23), (g306, cl [.int .i64 x304_1, .int .i64 x304_2] 23), (g305, cl [.int .i64 x304_1, .int .i64 x304_2, .int .i64 x304_3, .int .i64 x304_4, .int .i64 x304_5, .int .i64 x304_6] 78), (g303, cl [.int .i64 a1_0, .int .i64 a1_1, .int .i64 a1_2, .int .i64 a1_3, .int .i64 a1_4, .int .i64 a1_5] 25)] follows ?_
              refine HH.take 0 (.int .i64 1) rfl (by kernel_rfl) (by kernel_rfl) (fun _ h => h.sub ((List.Sublist.cons _ (List.Sublist.refl _)).trans (List.sublist_append_left _ _))) (fun w _ => by kernel_rfl) ?_
              refine HH.take 1 (.pointer (some ⟨g325, 2, none⟩)) rfl (by kernel_rfl) (by kernel_rfl) (fun _ h => h.sub ((List.Sublist.cons _ (List.Sublist.refl _)).trans (List.sublist_append_left _ _))) (fun w _ => by kernel_rfl) ?_
              refine HH.take 2 (.pointer (some ⟨g325, 3, none⟩)) rfl (by kernel_rfl) (by kernel_rfl) (fun _ h => h.sub ((List.Sublist.cons _ (List.Sublist.refl _)).trans (List.sublist_append_left _ _))) (fun w _ => by kernel_rfl) ?_
              refine HH.take 4 (.int .i64 1) rfl (by kernel_rfl) (by kernel_rfl) (fun _ h => h.sub ((List.Sublist.cons _ (List.Sublist.refl _)).trans (List.sublist_append_left _ _))) (fun w _ => by kernel_rfl) ?_
              refine HH.take 5 (.pointer (some ⟨g305, 2, none⟩)) rfl (by kernel_rfl) (by kernel_rfl) (fun _ h => h.sub ((List.Sublist.cons _ (List.Sublist.refl _)).trans (List.sublist_append_left _ _))) (fun w _ => by kernel_rfl) ?_
              refine HH.take 6 (.pointer (some ⟨g305, 2, none⟩)) rfl (by kernel_rfl) (by kernel_rfl) (fun _ h => h.sub ((List.Sublist.cons _ (List.Sublist.refl _)).trans (List.sublist_append_left _ _))) (fun w _ => by kernel_rfl) ?_
              refine HH.take 7 (.int .i64 x304_3) rfl (by kernel_rfl) (by kernel_rfl) (fun _ h => h.sub ((List.Sublist.cons _ (List.Sublist.refl _)).trans (List.sublist_append_left _ _))) (ld 5 g305 2 rfl (by kernel_rfl) rfl (by kernel_rfl)) ?_
              refine HH.all1 3 (by kernel_rfl) ?_
              refine HS.op (.int .i64 x324_4) rfl (by kernel_rfl) (fun _ h => h.sub ((List.Sublist.cons _ (List.Sublist.refl _)).trans (List.sublist_append_left _ _))) (ld 0 g325 3 rfl (by kernel_rfl) rfl (by kernel_rfl)) ?_
              refine HH.take 8 (.int .i64 (IntKind.i64.wrap (x324_4 - x304_3))) rfl (by kernel_rfl) (by kernel_rfl) (fun _ h => h.sub ((List.Sublist.cons _ (List.Sublist.refl _)).trans (List.sublist_append_left _ _))) (fun w _ => by kernel_rfl) ?_
              refine HH.take 9 (.pointer (some ⟨g325, 2, none⟩)) rfl (by kernel_rfl) (by kernel_rfl) (fun _ h => h.sub ((List.Sublist.cons _ (List.Sublist.refl _)).trans (List.sublist_append_left _ _))) (fun w _ => by kernel_rfl) ?_
              refine HH.take 10 (.pointer (some ⟨g325, 3, none⟩)) rfl (by kernel_rfl) (by kernel_rfl) (fun _ h => h.sub ((List.Sublist.cons _ (List.Sublist.refl _)).trans (List.sublist_append_left _ _))) (fun w _ => by kernel_rfl) ?_
              refine HH.all1 11 (by kernel_rfl) ?_
              refine HS.store 0 g325 3 3 (.tmp 69) (.tmp 67) [.int .i64 (IntKind.i64.wrap (x324_1 - x304_1)), .int .i64 (IntKind.i64.wrap (x324_2 - x304_1)), .int .i64 (IntKind.i64.wrap (x324_3 - x304_3)), .int .i64 (IntKind.i64.wrap (x324_4 - x304_3)), .int .i64 x324_5, .int .i64 x324_6] (bs' := [(g325, cl [.int .i64 (IntKind.i64.wrap (x324_1 - x304_1)), .int .i64 (IntKind.i64.wrap (x324_2 - x304_1)), .int .i64 (IntKind.i64.wrap (x324_3 - x304_3)), .int .i64 (IntKind.i64.wrap (x324_4 - x304_3)), .int .i64 x324_5, .int .i64 x324_6] 78), (g322, cl [.int .i64 x321_1, .int .i64 x321_2, .int .i64 x321_3, .int .i64 x321_4, .int .i64 x321_5, .int .i64 x321_6] 25), (g320, cl [.int .i64 e319_1, .int .i64 e319_2, .int .i64 e319_3, .int .i64 e319_4, .int .i64 e319_5, .int .i64 e319_6, .int .i64 e319_7] 41), (g312, cl [.int .i64 x304_5, .int .i64 x304_6] 23), (g309, cl [.int .i64 x304_3, .int .i64 x304_4] 23), (g306, cl [.int .i64 x304_1, .int .i64 x304_2] 23), (g305, cl [.int .i64 x304_1, .int .i64 x304_2, .int .i64 x304_3, .int .i64 x304_4, .int .i64 x304_5, .int .i64 x304_6] 78), (g303, cl [.int .i64 a1_0, .int .i64 a1_1, .int .i64 a1_2, .int .i64 a1_3, .int .i64 a1_4, .int .i64 a1_5] 25)] ++ bax8l0) rfl rfl (by kernel_rfl) rfl (by kernel_rfl) rfl (by kernel_rfl) (fun _ h => h.sub ((List.Sublist.cons _ (List.Sublist.refl _)).trans (List.sublist_append_left _ _))) ?_
              refine HH.done (s' := [(3, .pointer (some ⟨g303, 0, none⟩)), (4, .slice none 0 0), (5, .pointer (some ⟨g305, 0, none⟩)), (8, .slice Ax8l0 x8l0.length cx8l0), (10, .pointer (some ⟨g320, 0, none⟩)), (13, .pointer (some ⟨g325, 0, none⟩)), (14, .int .i64 1), (28, .slice Aa0 a0.length ca0), (29, .int .i64 (a0.length : Int)), (30, .int .i64 x30l0), (45, .int .i64 1), (46, .bool true), (47, .int .i64 1), (48, .int .i64 1), (49, .pointer (some ⟨g325, 2, none⟩)), (50, .pointer (some ⟨g325, 2, none⟩)), (51, .int .i64 x324_3), (52, .int .i64 1), (53, .pointer (some ⟨g305, 2, none⟩)), (54, .pointer (some ⟨g305, 2, none⟩)), (55, .int .i64 x304_3), (56, .int .i64 (IntKind.i64.wrap (x324_3 - x304_3))), (57, .pointer (some ⟨g325, 2, none⟩)), (58, .pointer (some ⟨g325, 2, none⟩)), (59, .int .i64 1), (60, .pointer (some ⟨g325, 2, none⟩)), (61, .pointer (some ⟨g325, 3, none⟩)), (62, .int .i64 x324_4), (63, .int .i64 1), (64, .pointer (some ⟨g305, 2, none⟩)), (65, .pointer (some ⟨g305, 2, none⟩)), (66, .int .i64 x304_3), (67, .int .i64 (IntKind.i64.wrap (x324_4 - x304_3))), (68, .pointer (some ⟨g325, 2, none⟩)), (69, .pointer (some ⟨g325, 3, none⟩)), (70, .int .i64 1)]) [3, 4, 5, 8, 10, 13, 14, 28, 29, 30, 45, 46, 47, 48, 49, 50, 51, 52, 53, 54, 55, 56, 57, 58, 59, 60, 61, 62, 63, 64, 65, 66, 67, 68, 69, 70] (by kernel_rfl) (by kernel_rfl) ?_
              refine NN.block_n ?_
              refine NN.then ?_
              refine J.plain ?_
              refine LL.op (.int .i64 2) (by kernel_rfl) (fun w _ => by kernel_rfl) ?_
              refine LL.op (.int .i64 2) (by kernel_rfl) (fun w _ => by kernel_rfl) ?_
              refine LL.done (s' := [(3, .pointer (some ⟨g303, 0, none⟩)), (4, .slice none 0 0), (5, .pointer (some ⟨g305, 0, none⟩)), (8, .slice Ax8l0 x8l0.length cx8l0), (10, .pointer (some ⟨g320, 0, none⟩)), (13, .pointer (some ⟨g325, 0, none⟩)), (14, .int .i64 1), (28, .slice Aa0 a0.length ca0), (29, .int .i64 (a0.length : Int)), (30, .int .i64 x30l0), (45, .int .i64 2), (46, .bool true), (47, .int .i64 1), (48, .int .i64 1), (49, .pointer (some ⟨g325, 2, none⟩)), (50, .pointer (some ⟨g325, 2, none⟩)), (51, .int .i64 x324_3), (52, .int .i64 1), (53, .pointer (some ⟨g305, 2, none⟩)), (54, .pointer (some ⟨g305, 2, none⟩)), (55, .int .i64 x304_3), (56, .int .i64 (IntKind.i64.wrap (x324_3 - x304_3))), (57, .pointer (some ⟨g325, 2, none⟩)), (58, .pointer (some ⟨g325, 2, none⟩)), (59, .int .i64 1), (60, .pointer (some ⟨g325, 2, none⟩)), (61, .pointer (some ⟨g325, 3, none⟩)), (62, .int .i64 x324_4), (63, .int .i64 1), (64, .pointer (some ⟨g305, 2, none⟩)), (65, .pointer (some ⟨g305, 2, none⟩)), (66, .int .i64 x304_3), (67, .int .i64 (IntKind.i64.wrap (x324_4 - x304_3))), (68, .pointer (some ⟨g325, 2, none⟩)), (69, .pointer (some ⟨g325, 3, none⟩)), (70, .int .i64 2)]) [3, 4, 5, 8, 10, 13, 14, 28, 29, 30, 45, 46, 47, 48, 49, 50, 51, 52, 53, 54, 55, 56, 57, 58, 59, 60, 61, 62, 63, 64, 65, 66, 67, 68, 69, 70] (by kernel_rfl) ?_
              refine NN.again ?_
              refine J.seq ?_
              refine J.plain ?_
              refine LL.op (.bool true) (by kernel_rfl) (fun w _ => by kernel_rfl) ?_
              refine LL.done (s' := [(3, .pointer (some ⟨g303, 0, none⟩)), (4, .slice none 0 0), (5, .pointer (some ⟨g305, 0, none⟩)), (8, .slice Ax8l0 x8l0.length cx8l0), (10, .pointer (some ⟨g320, 0, none⟩)), (13, .pointer (some ⟨g325, 0, none⟩)), (14, .int .i64 1), (28, .slice Aa0 a0.length ca0), (29, .int .i64 (a0.length : Int)), (30, .int .i64 x30l0), (45, .int .i64 2), (46, .bool true), (47, .int .i64 1), (48, .int .i64 1), (49, .pointer (some ⟨g325, 2, none⟩)), (50, .pointer (some ⟨g325, 2, none⟩)), (51, .int .i64 x324_3), (52, .int .i64 1), (53, .pointer (some ⟨g305, 2, none⟩)), (54, .pointer (some ⟨g305, 2, none⟩)), (55, .int .i64 x304_3), (56, .int .i64 (IntKind.i64.wrap (x324_3 - x304_3))), (57, .pointer (some ⟨g325, 2, none⟩)), (58, .pointer (some ⟨g325, 2, none⟩)), (59, .int .i64 1), (60, .pointer (some ⟨g325, 2, none⟩)), (61, .pointer (some ⟨g325, 3, none⟩)), (62, .int .i64 x324_4), (63, .int .i64 1), (64, .pointer (some ⟨g305, 2, none⟩)), (65, .pointer (some ⟨g305, 2, none⟩)), (66, .int .i64 x304_3), (67, .int .i64 (IntKind.i64.wrap (x324_4 - x304_3))), (68, .pointer (some ⟨g325, 2, none⟩)), (69, .pointer (some ⟨g325, 3, none⟩)), (70, .int .i64 2)]) [3, 4, 5, 8, 10, 13, 14, 28, 29, 30, 45, 46, 47, 48, 49, 50, 51, 52, 53, 54, 55, 56, 57, 58, 59, 60, 61, 62, 63, 64, 65, 66, 67, 68, 69, 70] (by kernel_rfl) ?_
              refine NN.then ?_
              refine J.seq ?_
              refine J.condT (b := true) rfl (by kernel_rfl) (by kernel_rfl) ?_
              refine J.skip ?_
              refine NN.then ?_
              refine J.seq ?_
              refine J.block ?_
              refine J.seq ?_
              refine J.plain ?_
              refine LL.op (.int .i64 2) (by kernel_rfl) (fun w _ => by kernel_rfl) ?_
              refine LL.op (.int .i64 2) (by kernel_rfl) (fun w _ => by kernel_rfl) ?_
              refine LL.done (s' := [(3, .pointer (some ⟨g303, 0, none⟩)), (4, .slice none 0 0), (5, .pointer (some ⟨g305, 0, none⟩)), (8, .slice Ax8l0 x8l0.length cx8l0), (10, .pointer (some ⟨g320, 0, none⟩)), (13, .pointer (some ⟨g325, 0, none⟩)), (14, .int .i64 2), (28, .slice Aa0 a0.length ca0), (29, .int .i64 (a0.length : Int)), (30, .int .i64 x30l0), (45, .int .i64 2), (46, .bool true), (47, .int .i64 2), (48, .int .i64 1), (49, .pointer (some ⟨g325, 2, none⟩)), (50, .pointer (some ⟨g325, 2, none⟩)), (51, .int .i64 x324_3), (52, .int .i64 1), (53, .pointer (some ⟨g305, 2, none⟩)), (54, .pointer (some ⟨g305, 2, none⟩)), (55, .int .i64 x304_3), (56, .int .i64 (IntKind.i64.wrap (x324_3 - x304_3))), (57, .pointer (some ⟨g325, 2, none⟩)), (58, .pointer (some ⟨g325, 2, none⟩)), (59, .int .i64 1), (60, .pointer (some ⟨g325, 2, none⟩)), (61, .pointer (some ⟨g325, 3, none⟩)), (62, .int .i64 x324_4), (63, .int .i64 1), (64, .pointer (some ⟨g305, 2, none⟩)), (65, .pointer (some ⟨g305, 2, none⟩)), (66, .int .i64 x304_3), (67, .int .i64 (IntKind.i64.wrap (x324_4 - x304_3))), (68, .pointer (some ⟨g325, 2, none⟩)), (69, .pointer (some ⟨g325, 3, none⟩)), (70, .int .i64 2)]) [3, 4, 5, 8, 10, 13, 14, 28, 29, 30, 45, 46, 47, 48, 49, 50, 51, 52, 53, 54, 55, 56, 57, 58, 59, 60, 61, 62, 63, 64, 65, 66, 67, 68, 69, 70] (by kernel_rfl) ?_
              refine NN.then ?_
              refine J.seq ?_
              refine J.heldBut [(g322, cl [.int .i64 x321_1, .int .i64 x321_2, .int .i64 x321_3, .int .i64 x321_4, .int .i64 x321_5, .int .i64 x321_6] 25), (g320, cl [.int .i64 e319_1, .int .i64 e319_2, .int .i64 e319_3, .int .i64 e319_4, .int .i64 e319_5, .int .i64 e319_6, .int .i64 e319_7] 41), (g312, cl [.int .i64 x304_5, .int .i64 x304_6] 23), (g309, cl [.int .i64 x304_3, .int .i64 x304_4] 23), (g306, cl [.int .i64 x304_1, .int .i64 x304_2] 23), (g305, cl [.int .i64 x304_1, .int .i64 x304_2, .int .i64 x304_3, .int .i64 x304_4, .int .i64 x304_5, .int .i64 x304_6] 78), (g303, cl [.int .i64 a1_0, .int .i64 a1_1, .int .i64 a1_2, .int .i64 a1_3, .int .i64 a1_4, .int .i64 a1_5] 25)] follows ?_
              refine HH.take 0 (.int .i64 2) rfl (by kernel_rfl) (by kernel_rfl) (fun _ h => h.sub ((List.Sublist.cons _ (List.Sublist.refl _)).trans (List.sublist_append_left _ _))) (fun w _ => by kernel_rfl) ?_
              refine HH.take 1 (.pointer (some ⟨g325, 4, none⟩)) rfl (by kernel_rfl) (by kernel_rfl) (fun _ h => h.sub ((List.Sublist.cons _ (List.Sublist.refl _)).trans (List.sublist_append_left _ _))) (fun w _ => by kernel_rfl) ?_
              refine HH.take 2 (.pointer (some ⟨g325, 4, none⟩)) rfl (by kernel_rfl) (by kernel_rfl) (fun _ h => h.sub ((List.Sublist.cons _ (List.Sublist.refl _)).trans (List.sublist_append_left _ _))) (fun w _ => by kernel_rfl) ?_
              refine HH.take 4 (.int .i64 2) rfl (by kernel_rfl) (by kernel_rfl) (fun _ h => h.sub ((List.Sublist.cons _ (List.Sublist.refl _)).trans (List.sublist_append_left _ _))) (fun w _ => by kernel_rfl) ?_
              refine HH.take 5 (.pointer (some ⟨g305, 4, none⟩)) rfl (by kernel_rfl) (by kernel_rfl) (fun _ h => h.sub ((List.Sublist.cons _ (List.Sublist.refl _)).trans (List.sublist_append_left _ _))) (fun w _ => by kernel_rfl) ?_
              refine HH.take 6 (.pointer (some ⟨g305, 4, none⟩)) rfl (by kernel_rfl) (by kernel_rfl) (fun _ h => h.sub ((List.Sublist.cons _ (List.Sublist.refl _)).trans (List.sublist_append_left _ _))) (fun w _ => by kernel_rfl) ?_
              refine HH.take 7 (.int .i64 x304_5) rfl (by kernel_rfl) (by kernel_rfl) (fun _ h => h.sub ((List.Sublist.cons _ (List.Sublist.refl _)).trans (List.sublist_append_left _ _))) (ld 5 g305 4 rfl (by kernel_rfl) rfl (by kernel_rfl)) ?_
              refine HH.all1 3 (by kernel_rfl) ?_
              refine HS.op (.int .i64 x324_5) rfl (by kernel_rfl) (fun _ h => h.sub ((List.Sublist.cons _ (List.Sublist.refl _)).trans (List.sublist_append_left _ _))) (ld 0 g325 4 rfl (by kernel_rfl) rfl (by kernel_rfl)) ?_
              refine HH.take 8 (.int .i64 (IntKind.i64.wrap (x324_5 - x304_5))) rfl (by kernel_rfl) (by kernel_rfl) (fun _ h => h.sub ((List.Sublist.cons _ (List.Sublist.refl _)).trans (List.sublist_append_left _ _))) (fun w _ => by kernel_rfl) ?_
              refine HH.take 9 (.pointer (some ⟨g325, 4, none⟩)) rfl (by kernel_rfl) (by kernel_rfl) (fun _ h => h.sub ((List.Sublist.cons _ (List.Sublist.refl _)).trans (List.sublist_append_left _ _))) (fun w _ => by kernel_rfl) ?_
              refine HH.take 10 (.pointer (some ⟨g325, 4, none⟩)) rfl (by kernel_rfl) (by kernel_rfl) (fun _ h => h.sub ((List.Sublist.cons _ (List.Sublist.refl _)).trans (List.sublist_append_left _ _))) (fun w _ => by kernel_rfl) ?_
              refine HH.all1 11 (by kernel_rfl) ?_
              refine HS.store 0 g325 4 3 (.tmp 58) (.tmp 56) [.int .i64 (IntKind.i64.wrap (x324_1 - x304_1)), .int .i64 (IntKind.i64.wrap (x324_2 - x304_1)), .int .i64 (IntKind.i64.wrap (x324_3 - x304_3)), .int .i64 (IntKind.i64.wrap (x324_4 - x304_3)), .int .i64 (IntKind.i64.wrap (x324_5 - x304_5)), .int .i64 x324_6] (bs' := [(g325, cl [.int .i64 (IntKind.i64.wrap (x324_1 - x304_1)), .int .i64 (IntKind.i64.wrap (x324_2 - x304_1)), .int .i64 (IntKind.i64.wrap (x324_3 - x304_3)), .int .i64 (IntKind.i64.wrap (x324_4 - x304_3)), .int .i64 (IntKind.i64.wrap (x324_5 - x304_5)), .int .i64 x324_6] 78), (g322, cl [.int .i64 x321_1, .int .i64 x321_2, .int .i64 x321_3, .int .i64 x321_4, .int .i64 x321_5, .int .i64 x321_6] 25), (g320, cl [.int .i64 e319_1, .int .i64 e319_2, .int .i64 e319_3, .int .i64 e319_4, .int .i64 e319_5, .int .i64 e319_6, .int .i64 e319_7] 41), (g312, cl [.int .i64 x304_5, .int .i64 x304_6] 23), (g309, cl [.int .i64 x304_3, .int .i64 x304_4] 23), (g306, cl [.int .i64 x304_1, .int .i64 x304_2] 23), (g305, cl [.int .i64 x304_1, .int .i64 x304_2, .int .i64 x304_3, .int .i64 x304_4, .int .i64 x304_5, .int .i64 x304_6] 78), (g303, cl [.int .i64 a1_0, .int .i64 a1_1, .int .i64 a1_2, .int .i64 a1_3, .int .i64 a1_4, .int .i64 a1_5] 25)] ++ bax8l0) rfl rfl (by kernel_rfl) rfl (by kernel_rfl) rfl (by kernel_rfl) (fun _ h => h.sub ((List.Sublist.cons _ (List.Sublist.refl _)).trans (List.sublist_append_left _ _))) ?_
              refine HH.done (s' := [(3, .pointer (some ⟨g303, 0, none⟩)), (4, .slice none 0 0), (5, .pointer (some ⟨g305, 0, none⟩)), (8, .slice Ax8l0 x8l0.length cx8l0), (10, .pointer (some ⟨g320, 0, none⟩)), (13, .pointer (some ⟨g325, 0, none⟩)), (14, .int .i64 2), (28, .slice Aa0 a0.length ca0), (29, .int .i64 (a0.length : Int)), (30, .int .i64 x30l0), (45, .int .i64 2), (46, .bool true), (47, .int .i64 2), (48, .int .i64 2), (49, .pointer (some ⟨g325, 4, none⟩)), (50, .pointer (some ⟨g325, 4, none⟩)), (51, .int .i64 x324_5), (52, .int .i64 2), (53, .pointer (some ⟨g305, 4, none⟩)), (54, .pointer (some ⟨g305, 4, none⟩)), (55, .int .i64 x304_5), (56, .int .i64 (IntKind.i64.wrap (x324_5 - x304_5))), (57, .pointer (some ⟨g325, 4, none⟩)), (58, .pointer (some ⟨g325, 4, none⟩)), (59, .int .i64 1), (60, .pointer (some ⟨g325, 2, none⟩)), (61, .pointer (some ⟨g325, 3, none⟩)), (62, .int .i64 x324_4), (63, .int .i64 1), (64, .pointer (some ⟨g305, 2, none⟩)), (65, .pointer (some ⟨g305, 2, none⟩)), (66, .int .i64 x304_3), (67, .int .i64 (IntKind.i64.wrap (x324_4 - x304_3))), (68, .pointer (some ⟨g325, 2, none⟩)), (69, .pointer (some ⟨g325, 3, none⟩)), (70, .int .i64 2)]) [3, 4, 5, 8, 10, 13, 14, 28, 29, 30, 45, 46, 47, 48, 49, 50, 51, 52, 53, 54, 55, 56, 57, 58, 59, 60, 61, 62, 63, 64, 65, 66, 67, 68, 69, 70] (by kernel_rfl) (by kernel_rfl) ?_
              refine NN.then ?_
              refine J.heldBut [(g322, cl [.int .i64 x321_1, .int .i64 x321_2, .int .i64 x321_3, .int .i64 x321_4, .int .i64 x321_5, .int .i64 x321_6] 25), (g320, cl [.int .i64 e319_1, .int .i64 e319_2, .int .i64 e319_3, .int .i64 e319_4, .int .i64 e319_5, .int .i64 e319_6, .int .i64 e319_7] 41), (g312, cl [.int .i64 x304_5, .int .i64 x304_6] 23), (g309, cl [.int .i64 x304_3, .int .i64 x304_4] 23), (g306, cl [.int .i64 x304_1, .int .i64 x304_2] 23), (g305, cl [.int .i64 x304_1, .int .i64 x304_2, .int .i64 x304_3, .int .i64 x304_4, .int .i64 x304_5, .int .i64 x304_6] 78), (g303, cl [.int .i64 a1_0, .int .i64 a1_1, .int .i64 a1_2, .int .i64 a1_3, .int .i64 a1_4, .int .i64 a1_5] 25)] follows ?_
              refine HH.take 0 (.int .i64 2) rfl (by kernel_rfl) (by kernel_rfl) (fun _ h => h.sub ((List.Sublist.cons _ (List.Sublist.refl _)).trans (List.sublist_append_left _ _))) (fun w _ => by kernel_rfl) ?_
              refine HH.take 1 (.pointer (some ⟨g325, 4, none⟩)) rfl (by kernel_rfl) (by kernel_rfl) (fun _ h => h.sub ((List.Sublist.cons _ (List.Sublist.refl _)).trans (List.sublist_append_left _ _))) (fun w _ => by kernel_rfl) ?_
              refine HH.take 2 (.pointer (some ⟨g325, 5, none⟩)) rfl (by kernel_rfl) (by kernel_rfl) (fun _ h => h.sub ((List.Sublist.cons _ (List.Sublist.refl _)).trans (List.sublist_append_left _ _))) (fun w _ => by kernel_rfl) ?_
              refine HH.take 4 (.int .i64 2) rfl (by kernel_rfl) (by kernel_rfl) (fun _ h => h.sub ((List.Sublist.cons _ (List.Sublist.refl _)).trans (List.sublist_append_left _ _))) (fun w _ => by kernel_rfl) ?_
              refine HH.take 5 (.pointer (some ⟨g305, 4, none⟩)) rfl (by kernel_rfl) (by kernel_rfl) (fun _ h => h.sub ((List.Sublist.cons _ (List.Sublist.refl _)).trans (List.sublist_append_left _ _))) (fun w _ => by kernel_rfl) ?_
              refine HH.take 6 (.pointer (some ⟨g305, 4, none⟩)) rfl (by kernel_rfl) (by kernel_rfl) (fun _ h => h.sub ((List.Sublist.cons _ (List.Sublist.refl _)).trans (List.sublist_append_left _ _))) (fun w _ => by kernel_rfl) ?_
              refine HH.take 7 (.int .i64 x304_5) rfl (by kernel_rfl) (by kernel_rfl) (fun _ h => h.sub ((List.Sublist.cons _ (List.Sublist.refl _)).trans (List.sublist_append_left _ _))) (ld 5 g305 4 rfl (by kernel_rfl) rfl (by kernel_rfl)) ?_
              refine HH.all1 3 (by kernel_rfl) ?_
              refine HS.op (.int .i64 x324_6) rfl (by kernel_rfl) (fun _ h => h.sub ((List.Sublist.cons _ (List.Sublist.refl _)).trans (List.sublist_append_left _ _))) (ld 0 g325 5 rfl (by kernel_rfl) rfl (by kernel_rfl)) ?_
              refine HH.take 8 (.int .i64 (IntKind.i64.wrap (x324_6 - x304_5))) rfl (by kernel_rfl) (by kernel_rfl) (fun _ h => h.sub ((List.Sublist.cons _ (List.Sublist.refl _)).trans (List.sublist_append_left _ _))) (fun w _ => by kernel_rfl) ?_
              refine HH.take 9 (.pointer (some ⟨g325, 4, none⟩)) rfl (by kernel_rfl) (by kernel_rfl) (fun _ h => h.sub ((List.Sublist.cons _ (List.Sublist.refl _)).trans (List.sublist_append_left _ _))) (fun w _ => by kernel_rfl) ?_
              refine HH.take 10 (.pointer (some ⟨g325, 5, none⟩)) rfl (by kernel_rfl) (by kernel_rfl) (fun _ h => h.sub ((List.Sublist.cons _ (List.Sublist.refl _)).trans (List.sublist_append_left _ _))) (fun w _ => by kernel_rfl) ?_
              refine HH.all1 11 (by kernel_rfl) ?_
              refine HS.store 0 g325 5 3 (.tmp 69) (.tmp 67) [.int .i64 (IntKind.i64.wrap (x324_1 - x304_1)), .int .i64 (IntKind.i64.wrap (x324_2 - x304_1)), .int .i64 (IntKind.i64.wrap (x324_3 - x304_3)), .int .i64 (IntKind.i64.wrap (x324_4 - x304_3)), .int .i64 (IntKind.i64.wrap (x324_5 - x304_5)), .int .i64 (IntKind.i64.wrap (x324_6 - x304_5))] (bs' := [(g325, cl [.int .i64 (IntKind.i64.wrap (x324_1 - x304_1)), .int .i64 (IntKind.i64.wrap (x324_2 - x304_1)), .int .i64 (IntKind.i64.wrap (x324_3 - x304_3)), .int .i64 (IntKind.i64.wrap (x324_4 - x304_3)), .int .i64 (IntKind.i64.wrap (x324_5 - x304_5)), .int .i64 (IntKind.i64.wrap (x324_6 - x304_5))] 78), (g322, cl [.int .i64 x321_1, .int .i64 x321_2, .int .i64 x321_3, .int .i64 x321_4, .int .i64 x321_5, .int .i64 x321_6] 25), (g320, cl [.int .i64 e319_1, .int .i64 e319_2, .int .i64 e319_3, .int .i64 e319_4, .int .i64 e319_5, .int .i64 e319_6, .int .i64 e319_7] 41), (g312, cl [.int .i64 x304_5, .int .i64 x304_6] 23), (g309, cl [.int .i64 x304_3, .int .i64 x304_4] 23), (g306, cl [.int .i64 x304_1, .int .i64 x304_2] 23), (g305, cl [.int .i64 x304_1, .int .i64 x304_2, .int .i64 x304_3, .int .i64 x304_4, .int .i64 x304_5, .int .i64 x304_6] 78), (g303, cl [.int .i64 a1_0, .int .i64 a1_1, .int .i64 a1_2, .int .i64 a1_3, .int .i64 a1_4, .int .i64 a1_5] 25)] ++ bax8l0) rfl rfl (by kernel_rfl) rfl (by kernel_rfl) rfl (by kernel_rfl) (fun _ h => h.sub ((List.Sublist.cons _ (List.Sublist.refl _)).trans (List.sublist_append_left _ _))) ?_
              refine HH.done (s' := [(3, .pointer (some ⟨g303, 0, none⟩)), (4, .slice none 0 0), (5, .pointer (some ⟨g305, 0, none⟩)), (8, .slice Ax8l0 x8l0.length cx8l0), (10, .pointer (some ⟨g320, 0, none⟩)), (13, .pointer (some ⟨g325, 0, none⟩)), (14, .int .i64 2), (28, .slice Aa0 a0.length ca0), (29, .int .i64 (a0.length : Int)), (30, .int .i64 x30l0), (45, .int .i64 2), (46, .bool true), (47, .int .i64 2), (48, .int .i64 2), (49, .pointer (some ⟨g325, 4, none⟩)), (50, .pointer (some ⟨g325, 4, none⟩)), (51, .int .i64 x324_5), (52, .int .i64 2), (53, .pointer (some ⟨g305, 4, none⟩)), (54, .pointer (some ⟨g305, 4, none⟩)), (55, .int .i64 x304_5), (56, .int .i64 (IntKind.i64.wrap (x324_5 - x304_5))), (57, .pointer (some ⟨g325, 4, none⟩)), (58, .pointer (some ⟨g325, 4, none⟩)), (59, .int .i64 2), (60, .pointer (some ⟨g325, 4, none⟩)), (61, .pointer (some ⟨g325, 5, none⟩)), (62, .int .i64 x324_6), (63, .int .i64 2), (64, .pointer (some ⟨g305, 4, none⟩)), (65, .pointer (some ⟨g305, 4, none⟩)), (66, .int .i64 x304_5), (67, .int .i64 (IntKind.i64.wrap (x324_6 - x304_5))), (68, .pointer (some ⟨g325, 4, none⟩)), (69, .pointer (some ⟨g325, 5, none⟩)), (70, .int .i64 2)]) [3, 4, 5, 8, 10, 13, 14, 28, 29, 30, 45, 46, 47, 48, 49, 50, 51, 52, 53, 54, 55, 56, 57, 58, 59, 60, 61, 62, 63, 64, 65, 66, 67, 68, 69, 70] (by kernel_rfl) (by kernel_rfl) ?_
              refine NN.block_n ?_
              refine NN.then ?_
              refine J.plain ?_
              refine LL.op (.int .i64 3) (by kernel_rfl) (fun w _ => by kernel_rfl) ?_
              refine LL.op (.int .i64 3) (by kernel_rfl) (fun w _ => by kernel_rfl) ?_
              refine LL.done (s' := [(3, .pointer (some ⟨g303, 0, none⟩)), (4, .slice none 0 0), (5, .pointer (some ⟨g305, 0, none⟩)), (8, .slice Ax8l0 x8l0.length cx8l0), (10, .pointer (some ⟨g320, 0, none⟩)), (13, .pointer (some ⟨g325, 0, none⟩)), (14, .int .i64 2), (28, .slice Aa0 a0.length ca0), (29, .int .i64 (a0.length : Int)), (30, .int .i64 x30l0), (45, .int .i64 3), (46, .bool true), (47, .int .i64 2), (48, .int .i64 2), (49, .pointer (some ⟨g325, 4, none⟩)), (50, .pointer (some ⟨g325, 4, none⟩)), (51, .int .i64 x324_5), (52, .int .i64 2), (53, .pointer (some ⟨g305, 4, none⟩)), (54, .pointer (some ⟨g305, 4, none⟩)), (55, .int .i64 x304_5), (56, .int .i64 (IntKind.i64.wrap (x324_5 - x304_5))), (57, .pointer (some ⟨g325, 4, none⟩)), (58, .pointer (some ⟨g325, 4, none⟩)), (59, .int .i64 2), (60, .pointer (some ⟨g325, 4, none⟩)), (61, .pointer (some ⟨g325, 5, none⟩)), (62, .int .i64 x324_6), (63, .int .i64 2), (64, .pointer (some ⟨g305, 4, none⟩)), (65, .pointer (some ⟨g305, 4, none⟩)), (66, .int .i64 x304_5), (67, .int .i64 (IntKind.i64.wrap (x324_6 - x304_5))), (68, .pointer (some ⟨g325, 4, none⟩)), (69, .pointer (some ⟨g325, 5, none⟩)), (70, .int .i64 3)]) [3, 4, 5, 8, 10, 13, 14, 28, 29, 30, 45, 46, 47, 48, 49, 50, 51, 52, 53, 54, 55, 56, 57, 58, 59, 60, 61, 62, 63, 64, 65, 66, 67, 68, 69, 70] (by kernel_rfl) ?_
              refine NN.again ?_
              refine J.seq ?_
              refine J.plain ?_
              refine LL.op (.bool false) (by kernel_rfl) (fun w _ => by kernel_rfl) ?_
              refine LL.done (s' := [(3, .pointer (some ⟨g303, 0, none⟩)), (4, .slice none 0 0), (5, .pointer (some ⟨g305, 0, none⟩)), (8, .slice Ax8l0 x8l0.length cx8l0), (10, .pointer (some ⟨g320, 0, none⟩)), (13, .pointer (some ⟨g325, 0, none⟩)), (14, .int .i64 2), (28, .slice Aa0 a0.length ca0), (29, .int .i64 (a0.length : Int)), (30, .int .i64 x30l0), (45, .int .i64 3), (46, .bool false), (47, .int .i64 2), (48, .int .i64 2), (49, .pointer (some ⟨g325, 4, none⟩)), (50, .pointer (some ⟨g325, 4, none⟩)), (51, .int .i64 x324_5), (52, .int .i64 2), (53, .pointer (some ⟨g305, 4, none⟩)), (54, .pointer (some ⟨g305, 4, none⟩)), (55, .int .i64 x304_5), (56, .int .i64 (IntKind.i64.wrap (x324_5 - x304_5))), (57, .pointer (some ⟨g325, 4, none⟩)), (58, .pointer (some ⟨g325, 4, none⟩)), (59, .int .i64 2), (60, .pointer (some ⟨g325, 4, none⟩)), (61, .pointer (some ⟨g325, 5, none⟩)), (62, .int .i64 x324_6), (63, .int .i64 2), (64, .pointer (some ⟨g305, 4, none⟩)), (65, .pointer (some ⟨g305, 4, none⟩)), (66, .int .i64 x304_5), (67, .int .i64 (IntKind.i64.wrap (x324_6 - x304_5))), (68, .pointer (some ⟨g325, 4, none⟩)), (69, .pointer (some ⟨g325, 5, none⟩)), (70, .int .i64 3)]) [3, 4, 5, 8, 10, 13, 14, 28, 29, 30, 45, 46, 47, 48, 49, 50, 51, 52, 53, 54, 55, 56, 57, 58, 59, 60, 61, 62, 63, 64, 65, 66, 67, 68, 69, 70] (by kernel_rfl) ?_
              refine NN.then ?_
              refine J.seq ?_
              refine J.condF (b := false) rfl (by kernel_rfl) (by kernel_rfl) ?_
              refine J.exit ?_
              refine NN.then_exit ?_
              refine NN.then_exit ?_
              refine NN.block_same ?_
              refine NN.then ?_
              obtain ⟨⟨x326_1, x326_2, x326_3, x326_4, x326_5, x326_6⟩, hx326, H⟩ := bind_some H
              (try dsimp only at H)
              obtain ⟨y335, hy335, H⟩ := bind_some H
              refine J.heldBut [(g325, cl [.int .i64 (IntKind.i64.wrap (x324_1 - x304_1)), .int .i64 (IntKind.i64.wrap (x324_2 - x304_1)), .int .i64 (IntKind.i64.wrap (x324_3 - x304_3)), .int .i64 (IntKind.i64.wrap (x324_4 - x304_3)), .int .i64 (IntKind.i64.wrap (x324_5 - x304_5)), .int .i64 (IntKind.i64.wrap (x324_6 - x304_5))] 78), (g322, cl [.int .i64 x321_1, .int .i64 x321_2, .int .i64 x321_3, .int .i64 x321_4, .int .i64 x321_5, .int .i64 x321_6] 25), (g320, cl [.int .i64 e319_1, .int .i64 e319_2, .int .i64 e319_3, .int .i64 e319_4, .int .i64 e319_5, .int .i64 e319_6, .int .i64 e319_7] 41), (g312, cl [.int .i64 x304_5, .int .i64 x304_6] 23), (g309, cl [.int .i64 x304_3, .int .i64 x304_4] 23), (g306, cl [.int .i64 x304_1, .int .i64 x304_2] 23), (g305, cl [.int .i64 x304_1, .int .i64 x304_2, .int .i64 x304_3, .int .i64 x304_4, .int .i64 x304_5, .int .i64 x304_6] 78), (g303, cl [.int .i64 a1_0, .int .i64 a1_1, .int .i64 a1_2, .int .i64 a1_3, .int .i64 a1_4, .int .i64 a1_5] 25)] follows ?_
              refine HH.take 0 (.slice Ax8l0 x8l0.length cx8l0) rfl (by kernel_rfl) (by kernel_rfl) (fun _ h => h.sub (List.sublist_append_left _ _)) (fun w _ => by kernel_rfl) ?_
              refine HH.take 1 (.pointer (some ⟨g320, 0, none⟩)) rfl (by kernel_rfl) (by kernel_rfl) (fun _ h => h.sub (List.sublist_append_left _ _)) (fun w _ => by kernel_rfl) ?_
              refine HH.take 2 (.int .i64 e319_1) rfl (by kernel_rfl) (by kernel_rfl) (fun _ h => h.sub (List.sublist_append_left _ _)) (ld 2 g320 0 rfl (by kernel_rfl) rfl (by kernel_rfl)) ?_
              refine HH.take 3 (.agg #[.int .i64 (IntKind.i64.wrap (x324_1 - x304_1)), .int .i64 (IntKind.i64.wrap (x324_2 - x304_1)), .int .i64 (IntKind.i64.wrap (x324_3 - x304_3)), .int .i64 (IntKind.i64.wrap (x324_4 - x304_3)), .int .i64 (IntKind.i64.wrap (x324_5 - x304_5)), .int .i64 (IntKind.i64.wrap (x324_6 - x304_5))]) rfl (by kernel_rfl) (by kernel_rfl) (fun _ h => h.sub (List.sublist_append_left _ _)) (ld 0 g325 0 rfl (by kernel_rfl) rfl (by kernel_rfl)) ?_
              refine HH.all1 4 (by kernel_rfl) ?_
              refine HS.call 67 #[.agg #[.int .i64 (IntKind.i64.wrap (x324_1 - x304_1)), .int .i64 (IntKind.i64.wrap (x324_2 - x304_1)), .int .i64 (IntKind.i64.wrap (x324_3 - x304_3)), .int .i64 (IntKind.i64.wrap (x324_4 - x304_3)), .int .i64 (IntKind.i64.wrap (x324_5 - x304_5)), .int .i64 (IntKind.i64.wrap (x324_6 - x304_5))]] (.agg #[.int .i64 x326_1, .int .i64 x326_2, .int .i64 x326_3, .int .i64 x326_4, .int .i64 x326_5, .int .i64 x326_6]) rfl (by kernel_rfl) (fun w => by kernel_rfl) (fun _ h => h.sub (List.sublist_append_left _ _)) (fun w hw => defect_boxOf.calls (IntKind.i64.wrap (x324_1 - x304_1)) (IntKind.i64.wrap (x324_2 - x304_1)) (IntKind.i64.wrap (x324_3 - x304_3)) (IntKind.i64.wrap (x324_4 - x304_3)) (IntKind.i64.wrap (x324_5 - x304_5)) (IntKind.i64.wrap (x324_6 - x304_5))   _ _ _ _ _ _ w   hx326) ?_
              refine HH.take 5 (.agg #[.int .i64 e319_1, .int .i64 x326_1, .int .i64 x326_2, .int .i64 x326_3, .int .i64 x326_4, .int .i64 x326_5, .int .i64 x326_6]) rfl (by kernel_rfl) (by kernel_rfl) (fun _ h => h.sub (List.sublist_append_left _ _)) (fun w _ => by kernel_rfl) ?_
              refine HH.all1 6 (by kernel_rfl) ?_
              refine HS.lit 26 1 #[(0, .tmp 76)] [.int .i64 e319_1, .int .i64 x326_1, .int .i64 x326_2, .int .i64 x326_3, .int .i64 x326_4, .int .i64 x326_5, .int .i64 x326_6] 41 ([(e319_1, x326_1, x326_2, x326_3, x326_4, x326_5, x326_6)] : List E41) rfl (by kernel_rfl) rfl (by kernel_rfl) ok41.len rfl rfl (fun _ h => h.sub (List.sublist_append_left _ _)) (fun R354 F355 A356 c357 le358 k359 fr360 => ?_)
              refine HH.all1 7 (by kernel_rfl) ?_
              refine HS.app (l2 := ([(e319_1, x326_1, x326_2, x326_3, x326_4, x326_5, x326_6)] : List E41)) (cap := cx8l0) (c2 := c357) [(g325, cl [.int .i64 (IntKind.i64.wrap (x324_1 - x304_1)), .int .i64 (IntKind.i64.wrap (x324_2 - x304_1)), .int .i64 (IntKind.i64.wrap (x324_3 - x304_3)), .int .i64 (IntKind.i64.wrap (x324_4 - x304_3)), .int .i64 (IntKind.i64.wrap (x324_5 - x304_5)), .int .i64 (IntKind.i64.wrap (x324_6 - x304_5))] 78), (g322, cl [.int .i64 x321_1, .int .i64 x321_2, .int .i64 x321_3, .int .i64 x321_4, .int .i64 x321_5, .int .i64 x321_6] 25), (g320, cl [.int .i64 e319_1, .int .i64 e319_2, .int .i64 e319_3, .int .i64 e319_4, .int .i64 e319_5, .int .i64 e319_6, .int .i64 e319_7] 41), (g312, cl [.int .i64 x304_5, .int .i64 x304_6] 23), (g309, cl [.int .i64 x304_3, .int .i64 x304_4] 23), (g306, cl [.int .i64 x304_1, .int .i64 x304_2] 23), (g305, cl [.int .i64 x304_1, .int .i64 x304_2, .int .i64 x304_3, .int .i64 x304_4, .int .i64 x304_5, .int .i64 x304_6] 78), (g303, cl [.int .i64 a1_0, .int .i64 a1_1, .int .i64 a1_2, .int .i64 a1_3, .int .i64 a1_4, .int .i64 a1_5] 25)] (.tmp 71) (.tmp 77) el26 ok41 ox8l0 k359 hy335 rfl (by kernel_rfl) rfl (by kernel_rfl) (by kernel_rfl) (fun _ h => (h).back le358) (fun A362 c363 ba364 o365 => ?_)
              refine HH.take 8 (.slice A362 y335.length c363) rfl (by kernel_rfl) (by kernel_rfl) (fun _ h => (h.sub (List.sublist_append_left _ _)).back le358) (fun w _ => by kernel_rfl) ?_
              refine HH.done (s' := [(3, .pointer (some ⟨g303, 0, none⟩)), (4, .slice none 0 0), (5, .pointer (some ⟨g305, 0, none⟩)), (8, .slice A362 y335.length c363), (28, .slice Aa0 a0.length ca0), (29, .int .i64 (a0.length : Int)), (30, .int .i64 x30l0)]) [3, 4, 5, 8, 28, 29, 30] (by kernel_rfl) (by kernel_rfl) ?_
              refine NN.block_n ?_
              refine NN.then ?_
              refine J.plain ?_
              refine LL.op (.int .i64 (IntKind.i64.wrap (x30l0 + 1))) (by kernel_rfl) (fun w _ => by kernel_rfl) ?_
              refine LL.op (.int .i64 (IntKind.i64.wrap (x30l0 + 1))) (by kernel_rfl) (fun w _ => by kernel_rfl) ?_
              refine LL.done (s' := [(3, .pointer (some ⟨g303, 0, none⟩)), (4, .slice none 0 0), (5, .pointer (some ⟨g305, 0, none⟩)), (8, .slice A362 y335.length c363), (28, .slice Aa0 a0.length ca0), (29, .int .i64 (a0.length : Int)), (30, .int .i64 (IntKind.i64.wrap (x30l0 + 1)))]) [3, 4, 5, 8, 28, 29, 30] (by kernel_rfl) ?_
              exact NN.roundR [3, 4, 5, 8, 28, 29, 30] (bs' := [(g312, cl [.int .i64 x304_5, .int .i64 x304_6] 23), (g309, cl [.int .i64 x304_3, .int .i64 x304_4] 23), (g306, cl [.int .i64 x304_1, .int .i64 x304_2] 23), (g305, cl [.int .i64 x304_1, .int .i64 x304_2, .int .i64 x304_3, .int .i64 x304_4, .int .i64 x304_5, .int .i64 x304_6] 78), (g303, cl [.int .i64 a1_0, .int .i64 a1_1, .int .i64 a1_2, .int .i64 a1_3, .int .i64 a1_4, .int .i64 a1_5] 25)] ++ ba364) (fun _ _ h => (h.back le358)) (Nat.lt_succ_self _) ((List.Sublist.cons _ (List.Sublist.cons _ (List.Sublist.cons _ (List.Sublist.refl _)))).append_right _) (by kernel_rfl) ⟨y335, IntKind.i64.wrap (x30l0 + 1), A362, c363, ba364, H, o365, rfl, rfl⟩
            · rw [if_neg (nebt c323)] at H
              refine J.condT (b := !x321_7) (by rw [show (!x321_7) = !(x321_7) from rfl, c323]; rfl) (by kernel_rfl) (by kernel_rfl) ?_
              refine J.exit ?_
              refine NN.then_exit ?_
              refine NN.block_same ?_
              refine NN.then ?_
              refine J.plain ?_
              refine LL.op (.int .i64 (IntKind.i64.wrap (x30l0 + 1))) (by kernel_rfl) (fun w _ => by kernel_rfl) ?_
              refine LL.op (.int .i64 (IntKind.i64.wrap (x30l0 + 1))) (by kernel_rfl) (fun w _ => by kernel_rfl) ?_
              refine LL.done (s' := [(3, .pointer (some ⟨g303, 0, none⟩)), (4, .slice none 0 0), (5, .pointer (some ⟨g305, 0, none⟩)), (8, .slice Ax8l0 x8l0.length cx8l0), (28, .slice Aa0 a0.length ca0), (29, .int .i64 (a0.length : Int)), (30, .int .i64 (IntKind.i64.wrap (x30l0 + 1)))]) [3, 4, 5, 8, 28, 29, 30] (by kernel_rfl) ?_
              exact NN.round' [3, 4, 5, 8, 28, 29, 30] (bs' := [(g312, cl [.int .i64 x304_5, .int .i64 x304_6] 23), (g309, cl [.int .i64 x304_3, .int .i64 x304_4] 23), (g306, cl [.int .i64 x304_1, .int .i64 x304_2] 23), (g305, cl [.int .i64 x304_1, .int .i64 x304_2, .int .i64 x304_3, .int .i64 x304_4, .int .i64 x304_5, .int .i64 x304_6] 78), (g303, cl [.int .i64 a1_0, .int .i64 a1_1, .int .i64 a1_2, .int .i64 a1_3, .int .i64 a1_4, .int .i64 a1_5] 25)] ++ bax8l0) (Nat.lt_succ_self _) ((List.Sublist.cons _ (List.Sublist.cons _ (List.Sublist.refl _))).append_right _) (by kernel_rfl) ⟨x8l0, IntKind.i64.wrap (x30l0 + 1), Ax8l0, cx8l0, bax8l0, H, ox8l0, rfl, rfl⟩
          · rw [if_neg (of_decide_eq_false c318)] at H
            refine J.condF (b := decide (x30l0 < (a0.length : Int))) c318 (by kernel_rfl) (by kernel_rfl) ?_
            refine J.exit ?_
            refine NN.then_exit ?_
            refine NN.then_exit ?_
            refine NN.block_same ?_
            refine NN.then ?_
            refine J.seq ?_
            refine J.plain ?_
            refine LL.op (.slice Ax8l0 x8l0.length cx8l0) (by kernel_rfl) (fun w _ => by kernel_rfl) ?_
            refine LL.op (.slice Ax8l0 x8l0.length cx8l0) (by kernel_rfl) (fun w _ => by kernel_rfl) ?_
            refine LL.done (s' := [(4, .slice Ax8l0 x8l0.length cx8l0)]) [4] (by kernel_rfl) ?_
            refine NN.then ?_
            refine J.ret ?_
            first | (obtain rfl := Option.some.inj H) | (simp only [Option.some.injEq, Prod.mk.injEq] at H; obtain ⟨rfl⟩ := H)
            refine NN.fin1 4 (.slice Ax8l0 x8l0.length cx8l0) (by kernel_rfl) (by kernel_rfl) (.inl rfl) (fun w hi => hi.retOwn (pre := [(g312, cl [.int .i64 x304_5, .int .i64 x304_6] 23), (g309, cl [.int .i64 x304_3, .int .i64 x304_4] 23), (g306, cl [.int .i64 x304_1, .int .i64 x304_2] 23), (g305, cl [.int .i64 x304_1, .int .i64 x304_2, .int .i64 x304_3, .int .i64 x304_4, .int .i64 x304_5, .int .i64 x304_6] 78), (g303, cl [.int .i64 a1_0, .int .i64 a1_1, .int .i64 a1_2, .int .i64 a1_3, .int .i64 a1_4, .int .i64 a1_5] 25)]) ok41 ox8l0 rfl)
        · rw [if_neg (nebf c316)] at H
          refine J.condT (b := !(x315 == 0)) (by rw [show (!(x315 == 0)) = !((x315 == 0)) from rfl, c316]; rfl) (by kernel_rfl) (by kernel_rfl) ?_
          refine J.seq ?_
          refine J.plain ?_
          refine LL.op (.slice none 0 0) (by kernel_rfl) (fun w _ => by kernel_rfl) ?_
          refine LL.done (s' := [(0, .slice Aa0 a0.length ca0), (3, .pointer (some ⟨g303, 0, none⟩)), (4, .slice none 0 0), (5, .pointer (some ⟨g305, 0, none⟩))]) [0, 3, 4, 5] (by kernel_rfl) ?_
          refine NN.then ?_
          refine J.ret ?_
          refine NN.then_ret ?_
          first | (obtain rfl := Option.some.inj H) | (simp only [Option.some.injEq, Prod.mk.injEq] at H; obtain ⟨rfl⟩ := H)
          refine NN.fin1 4 (.slice none 0 0) (by kernel_rfl) (by kernel_rfl) (.inl rfl) (fun w hi => hi.retNil rfl)
      · rw [if_neg (nebt c314)] at H
        refine J.condT (b := !x313) (by rw [show (!x313) = !(x313) from rfl, c314]; rfl) (by kernel_rfl) (by kernel_rfl) ?_
        refine J.seq ?_
        refine J.plain ?_
        refine LL.op (.slice none 0 0) (by kernel_rfl) (fun w _ => by kernel_rfl) ?_
        refine LL.done (s' := [(0, .slice Aa0 a0.length ca0), (3, .pointer (some ⟨g303, 0, none⟩)), (4, .slice none 0 0), (5, .pointer (some ⟨g305, 0, none⟩)), (7, .pointer (some ⟨g312, 0, none⟩)), (17, .agg #[.int .i64 x304_1, .int .i64 x304_2, .int .i64 x304_3, .int .i64 x304_4, .int .i64 x304_5, .int .i64 x304_6]), (18, .int .i64 2), (19, .bool true), (20, .agg #[.int .i64 x304_5, .int .i64 x304_6]), (21, .agg #[.int .i64 x304_5, .int .i64 x304_6]), (22, .bool x313), (23, .bool (!x313)), (24, .int .i64 2)]) [0, 3, 4, 5, 7, 17, 18, 19, 20, 21, 22, 23, 24] (by kernel_rfl) ?_
        refine NN.then ?_
        refine J.ret ?_
        refine NN.block_ret ?_
        refine NN.then_ret ?_
        refine NN.then_ret ?_
        refine NN.block_ret ?_
        refine NN.then_ret ?_
        first | (obtain rfl := Option.some.inj H) | (simp only [Option.some.injEq, Prod.mk.injEq] at H; obtain ⟨rfl⟩ := H)
        refine NN.fin1 4 (.slice none 0 0) (by kernel_rfl) (by kernel_rfl) (.inl rfl) (fun w hi => hi.retNil rfl)
    · rw [if_neg (nebt c311)] at H
      refine J.condT (b := !x310) (by rw [show (!x310) = !(x310) from rfl, c311]; rfl) (by kernel_rfl) (by kernel_rfl) ?_
      refine J.seq ?_
      refine J.plain ?_
      refine LL.op (.slice none 0 0) (by kernel_rfl) (fun w _ => by kernel_rfl) ?_
      refine LL.done (s' := [(0, .slice Aa0 a0.length ca0), (3, .pointer (some ⟨g303, 0, none⟩)), (4, .slice none 0 0), (5, .pointer (some ⟨g305, 0, none⟩)), (7, .pointer (some ⟨g309, 0, none⟩)), (17, .agg #[.int .i64 x304_1, .int .i64 x304_2, .int .i64 x304_3, .int .i64 x304_4, .int .i64 x304_5, .int .i64 x304_6]), (18, .int .i64 1), (19, .bool true), (20, .agg #[.int .i64 x304_3, .int .i64 x304_4]), (21, .agg #[.int .i64 x304_3, .int .i64 x304_4]), (22, .bool x310), (23, .bool (!x310)), (24, .int .i64 1)]) [0, 3, 4, 5, 7, 17, 18, 19, 20, 21, 22, 23, 24] (by kernel_rfl) ?_
      refine NN.then ?_
      refine J.ret ?_
      refine NN.block_ret ?_
      refine NN.then_ret ?_
      refine NN.then_ret ?_
      refine NN.block_ret ?_
      refine NN.then_ret ?_
      first | (obtain rfl := Option.some.inj H) | (simp only [Option.some.injEq, Prod.mk.injEq] at H; obtain ⟨rfl⟩ := H)
      refine NN.fin1 4 (.slice none 0 0) (by kernel_rfl) (by kernel_rfl) (.inl rfl) (fun w hi => hi.retNil rfl)
  · rw [if_neg (nebt c308)] at H
    refine J.condT (b := !x307) (by rw [show (!x307) = !(x307) from rfl, c308]; rfl) (by kernel_rfl) (by kernel_rfl) ?_
    refine J.seq ?_
    refine J.plain ?_
    refine LL.op (.slice none 0 0) (by kernel_rfl) (fun w _ => by kernel_rfl) ?_
    refine LL.done (s' := [(0, .slice Aa0 a0.length ca0), (3, .pointer (some ⟨g303, 0, none⟩)), (4, .slice none 0 0), (5, .pointer (some ⟨g305, 0, none⟩)), (7, .pointer (some ⟨g306, 0, none⟩)), (17, .agg #[.int .i64 x304_1, .int .i64 x304_2, .int .i64 x304_3, .int .i64 x304_4, .int .i64 x304_5, .int .i64 x304_6]), (18, .int .i64 0), (19, .bool true), (20, .agg #[.int .i64 x304_1, .int .i64 x304_2]), (21, .agg #[.int .i64 x304_1, .int .i64 x304_2]), (22, .bool x307), (23, .bool (!x307))]) [0, 3, 4, 5, 7, 17, 18, 19, 20, 21, 22, 23] (by kernel_rfl) ?_
    refine NN.then ?_
    refine J.ret ?_
    refine NN.block_ret ?_
    refine NN.then_ret ?_
    refine NN.then_ret ?_
    refine NN.block_ret ?_
    refine NN.then_ret ?_
    first | (obtain rfl := Option.some.inj H) | (simp only [Option.some.injEq, Prod.mk.injEq] at H; obtain ⟨rfl⟩ := H)
    refine NN.fin1 4 (.slice none 0 0) (by kernel_rfl) (by kernel_rfl) (.inl rfl) (fun w hi => hi.retNil rfl)

/-! ### sawmillref09_Quarters: function 69 -/
def sawmillref09_Quarters.f (a0 : Int) : Option (Int) := some (Int.tmod (IntKind.i64.wrap ((Int.tmod a0 4) + 4)) 4)
set_option maxRecDepth 100000 in
theorem sawmillref09_Quarters.calls (a0 : Int)    (r1 : Int) (w : World)    (h : sawmillref09_Quarters.f a0 = some r1) :
    Calls Try.prog 69 #[.int .i64 a0] w (Ret w (.int .i64 r1)) := by
  have H := h
  clear h
  unfold sawmillref09_Quarters.f at H
  refine Go.Saw.calls (args := [.int .i64 a0]) Try.func69 rfl Try.ntmps69 (by kernel_rfl) ?_
  refine J.seq ?_
  refine J.plain ?_
  refine LL.op (.int .i64 0) (by kernel_rfl) (fun w _ => by kernel_rfl) ?_
  refine LL.done (s' := [(0, .int .i64 a0), (2, .int .i64 0)]) [0, 2] (by kernel_rfl) ?_
  refine NN.then ?_
  refine J.seq ?_
  refine J.plain ?_
  refine LL.op (.int .i64 a0) (by kernel_rfl) (fun w _ => by kernel_rfl) ?_
  refine LL.op (.int .i64 (Int.tmod a0 4)) (by kernel_rfl) (fun w _ => by kernel_rfl) ?_
  refine LL.op (.int .i64 (IntKind.i64.wrap ((Int.tmod a0 4) + 4))) (by kernel_rfl) (fun w _ => by kernel_rfl) ?_
  refine LL.op (.int .i64 (Int.tmod (IntKind.i64.wrap ((Int.tmod a0 4) + 4)) 4)) (by kernel_rfl) (fun w _ => by kernel_rfl) ?_
  refine LL.op (.int .i64 (Int.tmod (IntKind.i64.wrap ((Int.tmod a0 4) + 4)) 4)) (by kernel_rfl) (fun w _ => by kernel_rfl) ?_
  refine LL.done (s' := [(2, .int .i64 (Int.tmod (IntKind.i64.wrap ((Int.tmod a0 4) + 4)) 4))]) [2] (by kernel_rfl) ?_
  refine NN.then ?_
  refine J.ret ?_
  refine NN.fin1 2 (.int .i64 (Int.tmod (IntKind.i64.wrap ((Int.tmod a0 4) + 4)) 4)) (by kernel_rfl) (by kernel_rfl) (.inl rfl) (fun w hi => hi.ret ?_)
  first | (cases H; rfl) | (obtain rfl := Option.some.inj H; rfl) | (simp only [Option.some.injEq, Prod.mk.injEq] at H; obtain ⟨rfl⟩ := H; rfl)

/-! ### sawmillref13_Quarter: function 70 -/
def sawmillref13_Quarter.f (a0_0 : Int) (a0_1 : Int) (a0_2 : Int) (a0_3 : Int) (a0_4 : Int) (a0_5 : Int) : Option (Int × Int × Int × Int × Int × Int) := some (IntKind.i64.wrap (0 - a0_3), IntKind.i64.wrap (0 - a0_2), a0_0, a0_1, a0_4, a0_5)
set_option maxRecDepth 100000 in
theorem sawmillref13_Quarter.calls (a0_0 : Int) (a0_1 : Int) (a0_2 : Int) (a0_3 : Int) (a0_4 : Int) (a0_5 : Int)    (r1 : Int) (r2 : Int) (r3 : Int) (r4 : Int) (r5 : Int) (r6 : Int) (w : World)    (h : sawmillref13_Quarter.f a0_0 a0_1 a0_2 a0_3 a0_4 a0_5 = some (r1, r2, r3, r4, r5, r6)) :
    Calls Try.prog 70 #[.agg #[.int .i64 a0_0, .int .i64 a0_1, .int .i64 a0_2, .int .i64 a0_3, .int .i64 a0_4, .int .i64 a0_5]] w (Ret w (.agg #[.int .i64 r1, .int .i64 r2, .int .i64 r3, .int .i64 r4, .int .i64 r5, .int .i64 r6])) := by
  have H := h
  clear h
  unfold sawmillref13_Quarter.f at H
  refine Go.Saw.calls (args := [.agg #[.int .i64 a0_0, .int .i64 a0_1, .int .i64 a0_2, .int .i64 a0_3, .int .i64 a0_4, .int .i64 a0_5]]) Try.func70 rfl Try.ntmps70 (by kernel_rfl) ?_
  refine J.seq ?_
  refine J.plain ?_
  refine LL.box 25 (.tmp 0) [.int .i64 a0_0, .int .i64 a0_1, .int .i64 a0_2, .int .i64 a0_3, .int .i64 a0_4, .int .i64 a0_5] (by kernel_rfl) rfl (by kernel_rfl) (fun g367 => ?_)
  refine LL.alloc 25 [.int .i64 0, .int .i64 0, .int .i64 0, .int .i64 0, .int .i64 0, .int .i64 0] (by kernel_rfl) rfl (by kernel_rfl) (fun g368 => ?_)
  refine LL.done (s' := [(1, .pointer (some ⟨g367, 0, none⟩)), (2, .pointer (some ⟨g368, 0, none⟩))]) [1, 2] (by kernel_rfl) ?_
  refine NN.then ?_
  refine J.seq ?_
  refine J.plain ?_
  refine LL.op (.pointer (some ⟨g367, 2, none⟩)) (by kernel_rfl) (fun w _ => by kernel_rfl) ?_
  refine LL.op (.pointer (some ⟨g367, 3, none⟩)) (by kernel_rfl) (fun w _ => by kernel_rfl) ?_
  refine LL.op (.int .i64 a0_3) (by kernel_rfl) (ld 1 g367 3 rfl (by kernel_rfl) rfl (by kernel_rfl)) ?_
  refine LL.op (.int .i64 (IntKind.i64.wrap (0 - a0_3))) (by kernel_rfl) (fun w _ => by kernel_rfl) ?_
  refine LL.op (.pointer (some ⟨g367, 2, none⟩)) (by kernel_rfl) (fun w _ => by kernel_rfl) ?_
  refine LL.op (.pointer (some ⟨g367, 2, none⟩)) (by kernel_rfl) (fun w _ => by kernel_rfl) ?_
  refine LL.op (.int .i64 a0_2) (by kernel_rfl) (ld 1 g367 2 rfl (by kernel_rfl) rfl (by kernel_rfl)) ?_
  refine LL.op (.int .i64 (IntKind.i64.wrap (0 - a0_2))) (by kernel_rfl) (fun w _ => by kernel_rfl) ?_
  refine LL.op (.agg #[.int .i64 (IntKind.i64.wrap (0 - a0_3)), .int .i64 (IntKind.i64.wrap (0 - a0_2))]) (by kernel_rfl) (fun w _ => by kernel_rfl) ?_
  refine LL.op (.pointer (some ⟨g367, 0, none⟩)) (by kernel_rfl) (fun w _ => by kernel_rfl) ?_
  refine LL.op (.agg #[.int .i64 a0_0, .int .i64 a0_1]) (by kernel_rfl) (ld 1 g367 0 rfl (by kernel_rfl) rfl (by kernel_rfl)) ?_
  refine LL.op (.pointer (some ⟨g367, 4, none⟩)) (by kernel_rfl) (fun w _ => by kernel_rfl) ?_
  refine LL.op (.agg #[.int .i64 a0_4, .int .i64 a0_5]) (by kernel_rfl) (ld 1 g367 4 rfl (by kernel_rfl) rfl (by kernel_rfl)) ?_
  refine LL.op (.agg #[.int .i64 (IntKind.i64.wrap (0 - a0_3)), .int .i64 (IntKind.i64.wrap (0 - a0_2)), .int .i64 a0_0, .int .i64 a0_1, .int .i64 a0_4, .int .i64 a0_5]) (by kernel_rfl) (fun w _ => by kernel_rfl) ?_
  refine LL.store 0 g368 0 25 (.tmp 2) (.tmp 16) [.int .i64 (IntKind.i64.wrap (0 - a0_3)), .int .i64 (IntKind.i64.wrap (0 - a0_2)), .int .i64 a0_0, .int .i64 a0_1, .int .i64 a0_4, .int .i64 a0_5] (bs' := [(g368, cl [.int .i64 (IntKind.i64.wrap (0 - a0_3)), .int .i64 (IntKind.i64.wrap (0 - a0_2)), .int .i64 a0_0, .int .i64 a0_1, .int .i64 a0_4, .int .i64 a0_5] 25), (g367, cl [.int .i64 a0_0, .int .i64 a0_1, .int .i64 a0_2, .int .i64 a0_3, .int .i64 a0_4, .int .i64 a0_5] 25)]) rfl (by kernel_rfl) rfl (by kernel_rfl) rfl (by kernel_rfl) ?_
  refine LL.done (s' := [(2, .pointer (some ⟨g368, 0, none⟩))]) [2] (by kernel_rfl) ?_
  refine NN.then ?_
  refine J.ret ?_
  refine NN.finV (.agg #[.int .i64 (IntKind.i64.wrap (0 - a0_3)), .int .i64 (IntKind.i64.wrap (0 - a0_2)), .int .i64 a0_0, .int .i64 a0_1, .int .i64 a0_4, .int .i64 a0_5]) (.inl rfl) ?_ (fun w hi => hi.ret ?_)
  · exact resOk_1 (by kernel_rfl) (.cell (d := 2) (t := 25) 0 g368 0 (by kernel_rfl) rfl (by kernel_rfl))
  first | (cases H; rfl) | (obtain rfl := Option.some.inj H; rfl) | (simp only [Option.some.injEq, Prod.mk.injEq] at H; obtain ⟨rfl, rfl, rfl, rfl, rfl, rfl⟩ := H; rfl)

/-! ### sawmillref13_Turn: function 44 -/
def sawmillref13_Turn.l1 (K : Nat) (a1 : Int) (kont_ : Int → Int → Int → Int → Int → Int → Int → Option ((List E41))) : Nat → Int → Int → Int → Int → Int → Int → Int → Option ((List E41))
  | 0, _, _, _, _, _, _, _ => none
  | k + 1, x8l1, yg374_1l1, yg374_2l1, yg374_3l1, yg374_4l1, yg374_5l1, yg374_6l1 => (sawmillref09_Quarters.f a1).bind fun x376 => (if x8l1 < x376 then ((sawmillref13_Quarter.f yg374_1l1 yg374_2l1 yg374_3l1 yg374_4l1 yg374_5l1 yg374_6l1).bind fun bx378 => (sawmillref13_Turn.l1 K a1 kont_ k (IntKind.i64.wrap (x8l1 + 1)) bx378.1 bx378.2.1 bx378.2.2.1 bx378.2.2.2.1 bx378.2.2.2.2.1 bx378.2.2.2.2.2)) else (kont_ x8l1 yg374_1l1 yg374_2l1 yg374_3l1 yg374_4l1 yg374_5l1 yg374_6l1))
def sawmillref13_Turn.l0 (K : Nat) (a0 : List E41) (a1 : Int) : Nat → List E41 → Int → Option ((List E41))
  | 0, _, _ => none
  | k + 1, x5l0, x6l0 => if x6l0 < (a0.length : Int) then ((idx a0 x6l0).bind fun be373 => (sawmillref13_Turn.l1 K a1 (fun (x8l1 : Int) (yg374_1l1 : Int) (yg374_2l1 : Int) (yg374_3l1 : Int) (yg374_4l1 : Int) (yg374_5l1 : Int) (yg374_6l1 : Int) => (app 56 x5l0 ([(be373.1, yg374_1l1, yg374_2l1, yg374_3l1, yg374_4l1, yg374_5l1, yg374_6l1)] : List E41)).bind fun y387 => (sawmillref13_Turn.l0 K a0 a1 k y387 (IntKind.i64.wrap (x6l0 + 1)))) K 0 be373.2.1 be373.2.2.1 be373.2.2.2.1 be373.2.2.2.2.1 be373.2.2.2.2.2.1 be373.2.2.2.2.2.2)) else (some x5l0)
def sawmillref13_Turn.f (K : Nat) (a0 : List E41) (a1 : Int) : Option ((List E41)) := (sawmillref13_Check.f K a0).bind fun x369 => (if x369 = 0 then (sawmillref13_Turn.l0 K a0 a1 K ([] : List E41) 0) else (some []))
set_option maxRecDepth 100000 in
theorem sawmillref13_Turn.calls (K : Nat) (a0 : List E41) (a1 : Int)  (Aa0 : Option Addr) (ca0 : Nat)  (r1 : List E41) (w : World)   (ha0 : KRow (Cx.start w) enc41 7 a0 Aa0) (h : sawmillref13_Turn.f K a0 a1 = some r1) :
    Calls Try.prog 44 #[.slice Aa0 a0.length ca0, .int .i64 a1] w (RetR w enc41 7 r1 (fun A_ c_ => .slice A_ r1.length c_)) := by
  have H := h
  clear h
  unfold sawmillref13_Turn.f at H
  refine Go.Saw.calls (args := [.slice Aa0 a0.length ca0, .int .i64 a1]) Try.func44 rfl Try.ntmps44 (by kernel_rfl) ?_
  refine J.seq ?_
  refine J.plain ?_
  refine LL.op (.slice none 0 0) (by kernel_rfl) (fun w _ => by kernel_rfl) ?_
  refine LL.done (s' := [(0, .slice Aa0 a0.length ca0), (1, .int .i64 a1), (4, .slice none 0 0)]) [0, 1, 4] (by kernel_rfl) ?_
  refine NN.then ?_
  refine J.seq ?_
  refine J.seq ?_
  refine J.plain ?_
  refine LL.op (.slice Aa0 a0.length ca0) (by kernel_rfl) (fun w _ => by kernel_rfl) ?_
  obtain ⟨x369, hx369, H⟩ := bind_some H
  refine LL.call 26 #[.slice Aa0 a0.length ca0] (.int .i64 x369) (by kernel_rfl) (fun w => by kernel_rfl) (fun w hw => sawmillref13_Check.calls K a0  _ _ _ w  (ha0.at hw) hx369) ?_
  refine LL.op (.bool (!(x369 == 0))) (by kernel_rfl) (fun w _ => by kernel_rfl) ?_
  refine LL.done (s' := [(0, .slice Aa0 a0.length ca0), (1, .int .i64 a1), (4, .slice none 0 0), (11, .bool (!(x369 == 0)))]) [0, 1, 4, 11] (by kernel_rfl) ?_
  refine NN.then ?_
  rcases Bool.eq_false_or_eq_true ((x369 == 0)) with c370 | c370
  · rw [if_pos (eq_of_beq c370)] at H
    refine J.condF (b := !(x369 == 0)) (by rw [show (!(x369 == 0)) = !((x369 == 0)) from rfl, c370]; rfl) (by kernel_rfl) (by kernel_rfl) ?_
    refine J.skip ?_
    refine NN.then ?_
    refine J.seq ?_
    refine J.plain ?_
    refine LL.op (.slice none 0 0) (by kernel_rfl) (fun w _ => by kernel_rfl) ?_
    refine LL.done (s' := [(0, .slice Aa0 a0.length ca0), (1, .int .i64 a1), (4, .slice none 0 0), (5, .slice none 0 0)]) [0, 1, 4, 5] (by kernel_rfl) ?_
    refine NN.then ?_
    refine J.seq ?_
    refine J.seq ?_
    refine J.plain ?_
    refine LL.op (.int .i64 0) (by kernel_rfl) (fun w _ => by kernel_rfl) ?_
    refine LL.done (s' := [(0, .slice Aa0 a0.length ca0), (1, .int .i64 a1), (4, .slice none 0 0), (5, .slice none 0 0), (6, .int .i64 0)]) [0, 1, 4, 5, 6] (by kernel_rfl) ?_
    refine NN.then ?_
    refine J.block ?_
    refine J.to [0, 1, 4, 5, 6] (s' := [(0, .slice Aa0 a0.length ca0), (1, .int .i64 a1), (4, .slice none 0 0), (5, .slice none 0 0), (6, .int .i64 0)]) (by kernel_rfl) ?_
    refine J.loop (fun n_ s_ bs_ => ∃ (x5l0 : List E41) (x6l0 : Int) (Ax5l0 : Option Addr) (cx5l0 : Nat) (bax5l0 : Bs), sawmillref13_Turn.l0 K a0 a1 n_ x5l0 x6l0 = some r1 ∧ Own enc41 7 41 x5l0 Ax5l0 cx5l0 bax5l0 ∧ s_ = [(0, .slice Aa0 a0.length ca0), (1, .int .i64 a1), (4, .slice none 0 0), (5, .slice Ax5l0 x5l0.length cx5l0), (6, .int .i64 x6l0)] ∧ [] ++ bax5l0 = bs_) K ⟨([] : List E41), 0, none, 0, [], H, (.nil none rfl), rfl, rfl⟩ ?_
    rintro (_ | n_) s_ bs_ ⟨x5l0, x6l0, Ax5l0, cx5l0, bax5l0, H, ox5l0, rfl, rfl⟩
    · exact absurd H (by simp [sawmillref13_Turn.l0])
    simp only [sawmillref13_Turn.l0] at H
    refine J.seq ?_
    refine J.seq ?_
    refine J.plain ?_
    refine LL.op (.int .i64 x6l0) (by kernel_rfl) (fun w _ => by kernel_rfl) ?_
    refine LL.op (.slice Aa0 a0.length ca0) (by kernel_rfl) (fun w _ => by kernel_rfl) ?_
    refine LL.op (.int .i64 (a0.length : Int)) (by kernel_rfl) (fun w _ => by kernel_rfl) ?_
    refine LL.op (.bool (decide (x6l0 < (a0.length : Int)))) (by kernel_rfl) (fun w _ => by kernel_rfl) ?_
    refine LL.done (s' := [(0, .slice Aa0 a0.length ca0), (1, .int .i64 a1), (4, .slice none 0 0), (5, .slice Ax5l0 x5l0.length cx5l0), (6, .int .i64 x6l0), (15, .bool (decide (x6l0 < (a0.length : Int))))]) [0, 1, 4, 5, 6, 15] (by kernel_rfl) ?_
    refine NN.then ?_
    rcases Bool.eq_false_or_eq_true (decide (x6l0 < (a0.length : Int))) with c372 | c372
    · rw [if_pos (of_decide_eq_true c372)] at H
      refine J.condT (b := decide (x6l0 < (a0.length : Int))) c372 (by kernel_rfl) (by kernel_rfl) ?_
      refine J.skip ?_
      refine NN.then ?_
      refine J.seq ?_
      refine J.block ?_
      refine J.seq ?_
      refine J.plain ?_
      refine LL.op (.slice Aa0 a0.length ca0) (by kernel_rfl) (fun w _ => by kernel_rfl) ?_
      refine LL.op (.int .i64 x6l0) (by kernel_rfl) (fun w _ => by kernel_rfl) ?_
      obtain ⟨⟨e373_1, e373_2, e373_3, e373_4, e373_5, e373_6, e373_7⟩, he373, H⟩ := bind_some H
      (try dsimp only at H)
      refine LL.op (.pointer (rp Aa0 (x6l0.toNat * 7 + 0))) (by kernel_rfl) (idxR (cp := ca0) (ik := .i64) ha0 he373 rfl (by kernel_rfl) (by kernel_rfl) (by kernel_rfl)) ?_
      refine LL.op (.agg #[.int .i64 e373_1, .int .i64 e373_2, .int .i64 e373_3, .int .i64 e373_4, .int .i64 e373_5, .int .i64 e373_6, .int .i64 e373_7]) (by kernel_rfl) (ldR (off := 0) ha0 he373 rfl (by kernel_rfl) (by kernel_rfl)) ?_
      refine LL.alloc 41 [.int .i64 0, .int .i64 0, .int .i64 0, .int .i64 0, .int .i64 0, .int .i64 0, .int .i64 0] (by kernel_rfl) rfl (by kernel_rfl) (fun g374 => ?_)
      refine LL.store 0 g374 0 41 (.tmp 7) (.tmp 21) [.int .i64 e373_1, .int .i64 e373_2, .int .i64 e373_3, .int .i64 e373_4, .int .i64 e373_5, .int .i64 e373_6, .int .i64 e373_7] (bs' := [(g374, cl [.int .i64 e373_1, .int .i64 e373_2, .int .i64 e373_3, .int .i64 e373_4, .int .i64 e373_5, .int .i64 e373_6, .int .i64 e373_7] 41)] ++ bax5l0) rfl (by kernel_rfl) rfl (by kernel_rfl) rfl (by kernel_rfl) ?_
      refine LL.done (s' := [(0, .slice Aa0 a0.length ca0), (1, .int .i64 a1), (4, .slice none 0 0), (5, .slice Ax5l0 x5l0.length cx5l0), (6, .int .i64 x6l0), (7, .pointer (some ⟨g374, 0, none⟩))]) [0, 1, 4, 5, 6, 7] (by kernel_rfl) ?_
      refine NN.then ?_
      refine J.seq ?_
      refine J.seq ?_
      refine J.plain ?_
      refine LL.op (.int .i64 0) (by kernel_rfl) (fun w _ => by kernel_rfl) ?_
      refine LL.done (s' := [(0, .slice Aa0 a0.length ca0), (1, .int .i64 a1), (4, .slice none 0 0), (5, .slice Ax5l0 x5l0.length cx5l0), (6, .int .i64 x6l0), (7, .pointer (some ⟨g374, 0, none⟩)), (8, .int .i64 0)]) [0, 1, 4, 5, 6, 7, 8] (by kernel_rfl) ?_
      refine NN.then ?_
      refine J.block ?_
      refine J.to [0, 1, 4, 5, 6, 7, 8] (s' := [(0, .slice Aa0 a0.length ca0), (1, .int .i64 a1), (4, .slice none 0 0), (5, .slice Ax5l0 x5l0.length cx5l0), (6, .int .i64 x6l0), (7, .pointer (some ⟨g374, 0, none⟩)), (8, .int .i64 0)]) (by kernel_rfl) ?_
      obtain ⟨kont375, hk375, H⟩ := kont_intro (P := fun q_ => sawmillref13_Turn.l1 K a1 q_ K 0 e373_2 e373_3 e373_4 e373_5 e373_6 e373_7 = some r1) H
      refine J.loop (fun n_ s_ bs_ => ∃ (x8l1 : Int) (yg374_1l1 : Int) (yg374_2l1 : Int) (yg374_3l1 : Int) (yg374_4l1 : Int) (yg374_5l1 : Int) (yg374_6l1 : Int), sawmillref13_Turn.l1 K a1 kont375 n_ x8l1 yg374_1l1 yg374_2l1 yg374_3l1 yg374_4l1 yg374_5l1 yg374_6l1 = some r1 ∧ s_ = [(0, .slice Aa0 a0.length ca0), (1, .int .i64 a1), (4, .slice none 0 0), (5, .slice Ax5l0 x5l0.length cx5l0), (6, .int .i64 x6l0), (7, .pointer (some ⟨g374, 0, none⟩)), (8, .int .i64 x8l1)] ∧ [(g374, cl [.int .i64 e373_1, .int .i64 yg374_1l1, .int .i64 yg374_2l1, .int .i64 yg374_3l1, .int .i64 yg374_4l1, .int .i64 yg374_5l1, .int .i64 yg374_6l1] 41)] ++ bax5l0 = bs_) K ⟨0, e373_2, e373_3, e373_4, e373_5, e373_6, e373_7, H, rfl, rfl⟩ ?_
      rintro (_ | n_) s_ bs_ ⟨x8l1, yg374_1l1, yg374_2l1, yg374_3l1, yg374_4l1, yg374_5l1, yg374_6l1, H, rfl, rfl⟩
      · exact absurd H (by simp [sawmillref13_Turn.l1])
      simp only [sawmillref13_Turn.l1] at H
      refine J.seq ?_
      refine J.seq ?_
      refine J.plain ?_
      refine LL.op (.int .i64 x8l1) (by kernel_rfl) (fun w _ => by kernel_rfl) ?_
      refine LL.op (.int .i64 a1) (by kernel_rfl) (fun w _ => by kernel_rfl) ?_
      obtain ⟨x376, hx376, H⟩ := bind_some H
      refine LL.call 69 #[.int .i64 a1] (.int .i64 x376) (by kernel_rfl) (fun w => by kernel_rfl) (fun w hw => sawmillref09_Quarters.calls a1   _ w   hx376) ?_
      refine LL.op (.bool (decide (x8l1 < x376))) (by kernel_rfl) (fun w _ => by kernel_rfl) ?_
      refine LL.done (s' := [(0, .slice Aa0 a0.length ca0), (1, .int .i64 a1), (4, .slice none 0 0), (5, .slice Ax5l0 x5l0.length cx5l0), (6, .int .i64 x6l0), (7, .pointer (some ⟨g374, 0, none⟩)), (8, .int .i64 x8l1), (25, .bool (decide (x8l1 < x376)))]) [0, 1, 4, 5, 6, 7, 8, 25] (by kernel_rfl) ?_
      refine NN.then ?_
      rcases Bool.eq_false_or_eq_true (decide (x8l1 < x376)) with c377 | c377
      · rw [if_pos (of_decide_eq_true c377)] at H
        refine J.condT (b := decide (x8l1 < x376)) c377 (by kernel_rfl) (by kernel_rfl) ?_
        refine J.skip ?_
        refine NN.then ?_
        refine J.seq ?_
        refine J.block ?_
        refine J.plain ?_
        refine LL.op (.pointer (some ⟨g374, 1, none⟩)) (by kernel_rfl) (fun w _ => by kernel_rfl) ?_
        refine LL.op (.agg #[.int .i64 yg374_1l1, .int .i64 yg374_2l1, .int .i64 yg374_3l1, .int .i64 yg374_4l1, .int .i64 yg374_5l1, .int .i64 yg374_6l1]) (by kernel_rfl) (ld 0 g374 1 rfl (by kernel_rfl) rfl (by kernel_rfl)) ?_
        obtain ⟨⟨x378_1, x378_2, x378_3, x378_4, x378_5, x378_6⟩, hx378, H⟩ := bind_some H
        (try dsimp only at H)
        refine LL.call 70 #[.agg #[.int .i64 yg374_1l1, .int .i64 yg374_2l1, .int .i64 yg374_3l1, .int .i64 yg374_4l1, .int .i64 yg374_5l1, .int .i64 yg374_6l1]] (.agg #[.int .i64 x378_1, .int .i64 x378_2, .int .i64 x378_3, .int .i64 x378_4, .int .i64 x378_5, .int .i64 x378_6]) (by kernel_rfl) (fun w => by kernel_rfl) (fun w hw => sawmillref13_Quarter.calls yg374_1l1 yg374_2l1 yg374_3l1 yg374_4l1 yg374_5l1 yg374_6l1   _ _ _ _ _ _ w   hx378) ?_
        refine LL.op (.pointer (some ⟨g374, 1, none⟩)) (by kernel_rfl) (fun w _ => by kernel_rfl) ?_
        refine LL.store 0 g374 1 25 (.tmp 31) (.tmp 30) [.int .i64 e373_1, .int .i64 x378_1, .int .i64 x378_2, .int .i64 x378_3, .int .i64 x378_4, .int .i64 x378_5, .int .i64 x378_6] (bs' := [(g374, cl [.int .i64 e373_1, .int .i64 x378_1, .int .i64 x378_2, .int .i64 x378_3, .int .i64 x378_4, .int .i64 x378_5, .int .i64 x378_6] 41)] ++ bax5l0) rfl (by kernel_rfl) rfl (by kernel_rfl) rfl (by kernel_rfl) ?_
        refine LL.done (s' := [(0, .slice Aa0 a0.length ca0), (1, .int .i64 a1), (4, .slice none 0 0), (5, .slice Ax5l0 x5l0.length cx5l0), (6, .int .i64 x6l0), (7, .pointer (some ⟨g374, 0, none⟩)), (8, .int .i64 x8l1)]) [0, 1, 4, 5, 6, 7, 8] (by kernel_rfl) ?_
        refine NN.block_n ?_
        refine NN.then ?_
        refine J.plain ?_
        refine LL.op (.int .i64 x8l1) (by kernel_rfl) (fun w _ => by kernel_rfl) ?_
        refine LL.op (.int .i64 (IntKind.i64.wrap (x8l1 + 1))) (by kernel_rfl) (fun w _ => by kernel_rfl) ?_
        refine LL.op (.int .i64 (IntKind.i64.wrap (x8l1 + 1))) (by kernel_rfl) (fun w _ => by kernel_rfl) ?_
        refine LL.done (s' := [(0, .slice Aa0 a0.length ca0), (1, .int .i64 a1), (4, .slice none 0 0), (5, .slice Ax5l0 x5l0.length cx5l0), (6, .int .i64 x6l0), (7, .pointer (some ⟨g374, 0, none⟩)), (8, .int .i64 (IntKind.i64.wrap (x8l1 + 1)))]) [0, 1, 4, 5, 6, 7, 8] (by kernel_rfl) ?_
        exact NN.round' [0, 1, 4, 5, 6, 7, 8] (bs' := [(g374, cl [.int .i64 e373_1, .int .i64 x378_1, .int .i64 x378_2, .int .i64 x378_3, .int .i64 x378_4, .int .i64 x378_5, .int .i64 x378_6] 41)] ++ bax5l0) (Nat.lt_succ_self _) ((List.Sublist.refl _).append_right _) (by kernel_rfl) ⟨IntKind.i64.wrap (x8l1 + 1), x378_1, x378_2, x378_3, x378_4, x378_5, x378_6, H, rfl, rfl⟩
      · rw [if_neg (of_decide_eq_false c377)] at H
        refine J.condF (b := decide (x8l1 < x376)) c377 (by kernel_rfl) (by kernel_rfl) ?_
        refine J.exit ?_
        refine NN.then_exit ?_
        rw [← hk375] at H
        (try dsimp only at H)
        refine NN.then_exit ?_
        refine NN.block_same ?_
        refine NN.then ?_
        refine J.plain ?_
        refine LL.op (.slice Ax5l0 x5l0.length cx5l0) (by kernel_rfl) (fun w _ => by kernel_rfl) ?_
        refine LL.op (.agg #[.int .i64 e373_1, .int .i64 yg374_1l1, .int .i64 yg374_2l1, .int .i64 yg374_3l1, .int .i64 yg374_4l1, .int .i64 yg374_5l1, .int .i64 yg374_6l1]) (by kernel_rfl) (ld 0 g374 0 rfl (by kernel_rfl) rfl (by kernel_rfl)) ?_
        refine LL.lit 26 1 #[(0, .tmp 33)] [.int .i64 e373_1, .int .i64 yg374_1l1, .int .i64 yg374_2l1, .int .i64 yg374_3l1, .int .i64 yg374_4l1, .int .i64 yg374_5l1, .int .i64 yg374_6l1] 41 ([(e373_1, yg374_1l1, yg374_2l1, yg374_3l1, yg374_4l1, yg374_5l1, yg374_6l1)] : List E41) (by kernel_rfl) rfl (by kernel_rfl) ok41.len rfl rfl (fun R379 F380 A381 c382 le383 k384 fr385 => ?_)
        obtain ⟨y387, hy387, H⟩ := bind_some H
        refine LL.app (l2 := ([(e373_1, yg374_1l1, yg374_2l1, yg374_3l1, yg374_4l1, yg374_5l1, yg374_6l1)] : List E41)) (cap := cx5l0) (c2 := c382) [(g374, cl [.int .i64 e373_1, .int .i64 yg374_1l1, .int .i64 yg374_2l1, .int .i64 yg374_3l1, .int .i64 yg374_4l1, .int .i64 yg374_5l1, .int .i64 yg374_6l1] 41)] (.tmp 32) (.tmp 34) el26 ok41 ox5l0 k384 hy387 (by kernel_rfl) rfl (by kernel_rfl) (by kernel_rfl) (fun A388 c389 ba390 o391 => ?_)
        refine LL.op (.slice A388 y387.length c389) (by kernel_rfl) (fun w _ => by kernel_rfl) ?_
        refine LL.done (s' := [(0, .slice Aa0 a0.length ca0), (1, .int .i64 a1), (4, .slice none 0 0), (5, .slice A388 y387.length c389), (6, .int .i64 x6l0)]) [0, 1, 4, 5, 6] (by kernel_rfl) ?_
        refine NN.block_n ?_
        refine NN.then ?_
        refine J.plain ?_
        refine LL.op (.int .i64 x6l0) (by kernel_rfl) (fun w _ => by kernel_rfl) ?_
        refine LL.op (.int .i64 (IntKind.i64.wrap (x6l0 + 1))) (by kernel_rfl) (fun w _ => by kernel_rfl) ?_
        refine LL.op (.int .i64 (IntKind.i64.wrap (x6l0 + 1))) (by kernel_rfl) (fun w _ => by kernel_rfl) ?_
        refine LL.done (s' := [(0, .slice Aa0 a0.length ca0), (1, .int .i64 a1), (4, .slice none 0 0), (5, .slice A388 y387.length c389), (6, .int .i64 (IntKind.i64.wrap (x6l0 + 1)))]) [0, 1, 4, 5, 6] (by kernel_rfl) ?_
        exact NN.roundR [0, 1, 4, 5, 6] (bs' := [] ++ ba390) (fun _ _ h => (h.back le383)) (Nat.lt_succ_self _) ((List.Sublist.cons _ (List.Sublist.refl _)).append_right _) (by kernel_rfl) ⟨y387, IntKind.i64.wrap (x6l0 + 1), A388, c389, ba390, H, o391, rfl, rfl⟩
    · rw [if_neg (of_decide_eq_false c372)] at H
      refine J.condF (b := decide (x6l0 < (a0.length : Int))) c372 (by kernel_rfl) (by kernel_rfl) ?_
      refine J.exit ?_
      refine NN.then_exit ?_
      refine NN.then_exit ?_
      refine NN.block_same ?_
      refine NN.then ?_
      refine J.seq ?_
      refine J.plain ?_
      refine LL.op (.slice Ax5l0 x5l0.length cx5l0) (by kernel_rfl) (fun w _ => by kernel_rfl) ?_
      refine LL.op (.slice Ax5l0 x5l0.length cx5l0) (by kernel_rfl) (fun w _ => by kernel_rfl) ?_
      refine LL.done (s' := [(4, .slice Ax5l0 x5l0.length cx5l0)]) [4] (by kernel_rfl) ?_
      refine NN.then ?_
      refine J.ret ?_
      first | (obtain rfl := Option.some.inj H) | (simp only [Option.some.injEq, Prod.mk.injEq] at H; obtain ⟨rfl⟩ := H)
      refine NN.fin1 4 (.slice Ax5l0 x5l0.length cx5l0) (by kernel_rfl) (by kernel_rfl) (.inl rfl) (fun w hi => hi.retOwn (pre := []) ok41 ox5l0 rfl)
  · rw [if_neg (nebf c370)] at H
    refine J.condT (b := !(x369 == 0)) (by rw [show (!(x369 == 0)) = !((x369 == 0)) from rfl, c370]; rfl) (by kernel_rfl) (by kernel_rfl) ?_
    refine J.seq ?_
    refine J.plain ?_
    refine LL.op (.slice none 0 0) (by kernel_rfl) (fun w _ => by kernel_rfl) ?_
    refine LL.done (s' := [(0, .slice Aa0 a0.length ca0), (1, .int .i64 a1), (4, .slice none 0 0)]) [0, 1, 4] (by kernel_rfl) ?_
    refine NN.then ?_
    refine J.ret ?_
    refine NN.then_ret ?_
    first | (obtain rfl := Option.some.inj H) | (simp only [Option.some.injEq, Prod.mk.injEq] at H; obtain ⟨rfl⟩ := H)
    refine NN.fin1 4 (.slice none 0 0) (by kernel_rfl) (by kernel_rfl) (.inl rfl) (fun w hi => hi.retNil rfl)

end Go.Proofs.Ytfjbhmpnmpphoaa
